/- Packed by our own shrink.py: theorems that the claim does not use are left out. -/
import Derived.Test.YtgobpenmemlieaaDoorVRpr
import Derived.Test.YtgobpenmemlieaaDoorVPuz
/-
  Plain: what the reference's Read makes of a list of words.
-/
namespace Go.Proofs.YtgobpenmemlieaaDoor.Lex
open Go.RowKit Go.Proofs.YtgobpenmemlieaaDoorW.PrintWords Go.Proofs.YtgobpenmemlieaaDoorW.PrintLast Go.Proofs.YtgobpenmemlieaaDoorW.PrintMore PSdlBack
set_option linter.unusedVariables false
set_option linter.unusedSimpArgs false
def wat (ws : List ByteArray) (i : Nat) : ByteArray := ws.getD i ⟨#[]⟩
/-- A field's words behind its name. -/
def rinner (ws : List ByteArray) (at_ : Nat) : Nat → Nat → List ByteArray → Option (List ByteArray)
  | 0, _, f => some f
  | n + 1, j, f => if isB j && isName (wat ws (at_ + 1 + j)) then rinner ws at_ n (j + 1) (f ++ [wat ws (at_ + 1 + j)]) else if (fw j).toList == (wat ws (at_ + 1 + j)).toList then rinner ws at_ n (j + 1) f else none
def router (ws : List ByteArray) : Nat → Nat → List (List ByteArray) → Option (List (List ByteArray))
  | 0, _, l => some l
  | n + 1, at_, l => if isName (wat ws at_) then match rinner ws at_ 25 0 [wat ws at_] with
    | none => none
    | some f => router ws n (at_ + 26) (l ++ [f])
    else none
def rs (a : ByteArray) : Int := (amanuensisref4_Service.f 10 a).getD 0
def rbuild : List (List ByteArray) → List S54 → List S54 × Int
  | [], acc => (acc, 0)
  | f :: r, acc => if decide (0 ≤ idx (wat f 0) acc) || rs (wat f 1) == 0 then ([], 5) else if isServ (rs (wat f 1)) && pbX ⟨wat f 0, rs (wat f 1), wat f 2, wat f 3⟩ then rbuild r (acc ++ [⟨wat f 0, rs (wat f 1), wat f 2, wat f 3⟩]) else ([], 6)
def rfields (l : List (List ByteArray)) : List S54 × Int := if 8 < l.length then ([], 2) else rbuild l []
def rwell (ws : List ByteArray) : Bool := decide (30 ≤ ws.length) && (decide ((ws.length - 4) % 26 = 0) && ((wat ws (ws.length - 1)).toList == [125] && ((wat ws 0).toList == (wat W0 0).toList && ((wat ws 1).toList == (wat W0 1).toList && (wat ws 2).toList == (wat W0 2).toList))))
def rread (ws : List ByteArray) : List S54 × Int := if rwell ws then match router ws ((ws.length - 4) / 26) 3 [] with
  | none => ([], 4)
  | some l => rfields l
  else ([], 4)
end Go.Proofs.YtgobpenmemlieaaDoor.Lex
