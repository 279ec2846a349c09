/- Packed by our own shrink.py: theorems that the claim does not use are left out. -/
import Derived.Test.YtgobpenmemlieaaDoorVFin
import Derived.Test.YtgobpenmemlieaaDoorVORb
/-
  The walk of amanuensisref4.Schema, over what its callees tell.
-/
namespace Go.Proofs.YtgobpenmemlieaaDoor.Lex
open Go.RowKit Go.Proofs.YtgobpenmemlieaaDoorW.PrintWords Go.Proofs.YtgobpenmemlieaaDoorW.PrintLast Go.Proofs.YtgobpenmemlieaaDoorW.PrintMore PSdlBack
set_option linter.unusedVariables false
set_option linter.unusedSimpArgs false
def FindsAs : Prop := ∀ A c (l : List S54) s w, l.length ≤ c → l.length ≤ 1000000 → Kd.C k54 w A l.length l → Calls Tryd.prog 22 #[.slice A l.length c, .string s] w fun e w' => e = .returned (.int .i64 (idx s l)) ∧ Below w.heap.size w w'
end Go.Proofs.YtgobpenmemlieaaDoor.Lex
