/- Packed by our own shrink.py: theorems that the claim does not use are left out. -/
import Derived.Test.YtgobpenmemlieaaDoorVErs
import Derived.Test.YtgobpenmemlieaaDoorVAgr
/-
  SdlErrors answers true, whatever it is given.
-/
namespace Go.Proofs.YtgobpenmemlieaaDoor.Lex
open Go.RowKit Go.Proofs.YtgobpenmemlieaaDoorW.PrintWords Go.Proofs.YtgobpenmemlieaaDoorW.PrintLast Go.Proofs.YtgobpenmemlieaaDoorW.PrintMore PSdlBack
set_option linter.unusedVariables false
theorem SdlErrors_all (A0 : Option Addr) (c0 : Nat) (l0 : List ByteArray) (A1 : Option Addr) (c1 : Nat) (l1 : List Int) (A2 : Option Addr) (c2 : Nat) (l2 : List (List S54)) (w : World)
    (hr0 : Kd.C Kd.string w A0 l0.length l0) (h0c : l0.length ≤ c0) (hr1 : Kd.C (Kd.int .i64) w A1 l1.length l1) (h1c : l1.length ≤ c1) (hr2 : Kd.C (Kd.slice 54 k54) w A2 l2.length l2) (h2c : l2.length ≤ c2) (hT : Tab w)
    (hB : ((l0.length * 16 ≤ 140737488351232 ∧ ∀ x ∈ l0, x.size ≤ 140737488351232) ∧ (l1.length * 8 ≤ 140737488351232 ∧ ∀ x ∈ l1, (Lit.int .i64 x).wf = true)) ∧ (l2.length * 24 ≤ 140737488351232 ∧ ∀ x ∈ l2, (x.length * 56 ≤ 140737488351232 ∧ ∀ z ∈ x, (z.f0.size ≤ 140737488351232 ∧ (Lit.int .i64 z.f1).wf = true ∧ z.f2.size ≤ 140737488351232 ∧ z.f3.size ≤ 140737488351232)))) :
    Calls Tryd.prog 4 #[.agg #[.slice A0 l0.length c0, .slice A1 l1.length c1, .slice A2 l2.length c2]] w fun e w' => e = .returned (.bool true) ∧ Below w.heap.size w w' := by
  obtain ⟨s0, hp, hr⟩ := wk_good
  exact SdlErrors_calls A0 c0 l0 A1 c1 l1 A2 c2 l2 w hT agree_all s0 hp hr
end Go.Proofs.YtgobpenmemlieaaDoor.Lex
