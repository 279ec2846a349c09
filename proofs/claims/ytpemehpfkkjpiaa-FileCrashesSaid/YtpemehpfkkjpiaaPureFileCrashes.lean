/-
  The pure statement of FileCrashes: acts of some kinds in turn.
-/
import Derived.Test.YtpemehpfkkjpiaaOFileCrashes
import Derived.Test.YtpemehpfkkjpiaaPureFile
namespace Go.Proofs.Ytpemehpfkkjpiaa.Pure
open Go.RowKit Go.Proofs.YtpemehpfkkjpiaaW.PrintWords Go.Proofs.Ytpemehpfkkjpiaa.OFiles
set_option linter.unusedVariables false
theorem FileCrashes (a0_0 a0_1 : ByteArray) (a0_2 a0_3 : Int) (l0_4 : List S32) (b0 : a0_0.size ≤ 140737488351232 ∧ a0_1.size ≤ 140737488351232 ∧ (Lit.int .i64 a0_2).wf = true) (b1 : (Lit.int .i64 a0_3).wf = true)
    (b2 : l0_4.length * 32 ≤ 140737488351232 ∧ ∀ x ∈ l0_4, (Lit.int .i64 x.f0).wf = true ∧ (Lit.int .i64 x.f1).wf = true ∧ x.f2.size ≤ 140737488351232) : ∃ k, amanuensislaw12_FileCrashes.f k a0_0 a0_1 a0_2 a0_3 l0_4 = some true :=
  (Ev.bind (f := fun _ t => some t) (only_true [0, 5, 1, 3, 2, 5] (by decide) a0_0 a0_1 a0_2 a0_3 l0_4 b0.1 b0.2.1 b2.1 (fun x hx => (b2.2 x hx).2.2)) (Ev.now true)).rounds
end Go.Proofs.Ytpemehpfkkjpiaa.Pure
