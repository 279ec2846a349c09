/- Packed by our own shrink.py: theorems that the claim does not use are left out. -/
import Derived.Test.YtgobpenmemlieaaDoorVPrs
/-
  What both readers tell of a text.
-/
namespace Go.Proofs.YtgobpenmemlieaaDoor.Lex
open Go.RowKit Go.Proofs.YtgobpenmemlieaaDoorW.PrintWords Go.Proofs.YtgobpenmemlieaaDoorW.PrintLast Go.Proofs.YtgobpenmemlieaaDoorW.PrintMore PSdlBack
set_option linter.unusedVariables false
def ReadsTo (s : ByteArray) (l : List S54) (ec : Int) : Prop := ∀ w, Tab w → Calls Tryd.prog 13 #[.string s] w fun e w' => ∃ v, e = .returned (.tuple #[v, .int .i64 ec]) ∧ Kd.R k54 54 w' w.heap.size (fun _ => True) v l ∧ Below w.heap.size w w'
def RReadsTo (s : ByteArray) (l : List S54) (ec : Int) : Prop := ∀ w, Calls Tryd.prog 14 #[.string s] w fun e w' => ∃ v, e = .returned (.tuple #[v, .int .i64 ec]) ∧ Kd.R k54 54 w' w.heap.size (fun _ => True) v l ∧ Below w.heap.size w w'
/-- Both readers tell one list of fields, one error. -/
def AgreeS (s : ByteArray) : Prop := ∃ (l : List S54) (ec : Int), l.length ≤ 8 ∧ ReadsTo s l ec ∧ RReadsTo s l ec
def WordsTo (s : ByteArray) (toks : List S39) : Prop := ∃ at_ ec : Int, ∀ w, Calls Tryd.prog 11 #[.string s] w fun e w' => ∃ v, e = .returned (.tuple #[v, .int .i64 at_, .int .i64 ec]) ∧ Kd.R k39 39 w' w.heap.size (fun _ => True) v toks ∧ Below w.heap.size w w'
/-- What the reference's words of a text are: parts of it. -/
def WordsOk (s : ByteArray) : Prop := ∃ toks, WordsTo s toks ∧ toks.length ≤ 3000 ∧ (toks ≠ [] → s.size ≤ 3000) ∧ ∀ t ∈ toks, 0 ≤ t.f1 ∧ t.f1 + (t.f0.size : Int) ≤ (s.size : Int)
end Go.Proofs.YtgobpenmemlieaaDoor.Lex
