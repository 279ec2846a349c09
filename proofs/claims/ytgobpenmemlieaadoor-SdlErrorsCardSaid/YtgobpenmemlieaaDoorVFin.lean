/- Packed by our own shrink.py: theorems that the claim does not use are left out. -/
import Derived.Test.YtgobpenmemlieaaDoorVPri
/-
  The walk of sdl.Find.
-/
namespace Go.Proofs.YtgobpenmemlieaaDoor.Lex
open Go.RowKit Go.Proofs.YtgobpenmemlieaaDoorW.PrintWords Go.Proofs.YtgobpenmemlieaaDoorW.PrintLast Go.Proofs.YtgobpenmemlieaaDoorW.PrintMore PSdlBack
set_option linter.unusedVariables false
set_option linter.unusedSimpArgs false
def found (b : Bool) (k : Int) : Int × Int := if b = false then (0, 1) else if k < 0 then (0, 3) else (k, 0)
end Go.Proofs.YtgobpenmemlieaaDoor.Lex
