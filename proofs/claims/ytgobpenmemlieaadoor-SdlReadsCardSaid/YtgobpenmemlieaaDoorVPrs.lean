/- Packed by our own shrink.py: theorems that the claim does not use are left out. -/
import Derived.Test.YtgobpenmemlieaaDoorVRpr
import Derived.Test.YtgobpenmemlieaaDoorVBak
/-
  The walk of amanuensislaw4.SdlPrints.
-/
namespace Go.Proofs.YtgobpenmemlieaaDoor.Lex
open Go.RowKit Go.Proofs.YtgobpenmemlieaaDoorW.PrintWords Go.Proofs.YtgobpenmemlieaaDoorW.PrintLast Go.Proofs.YtgobpenmemlieaaDoorW.PrintMore PSdlBack
attribute [local go_sem] max2_int min2_int max_two min_two max_three min_three max_four min_four
set_option linter.unusedVariables false
set_option linter.unusedSimpArgs false
def SchemaAs (l : List S54) (b : Bool) : Prop := ∀ A c w, l.length ≤ c → Kd.C k54 w A l.length l → Calls Tryd.prog 9 #[.slice A l.length c] w fun e w' => e = .returned (.bool b) ∧ Below w.heap.size w w'
def RPrintAs (l : List S54) (s : ByteArray) : Prop := ∀ A c w, l.length ≤ c → Kd.C k54 w A l.length l → Calls Tryd.prog 10 #[.slice A l.length c] w fun e w' => e = .returned (.string s) ∧ Below w.heap.size w w'
def ChecksAs (l : List S54) (n : Int) : Prop := ∀ A c w, l.length ≤ c → Kd.C k54 w A l.length l → Calls Tryd.prog 19 #[.slice A l.length c] w fun e w' => e = .returned (.int .i64 n) ∧ Below w.heap.size w w'
def FindAs (l : List S54) (b : Bool) : Prop := ∀ s A c w, l.length ≤ c → Kd.C k54 w A l.length l → Calls Tryd.prog 21 #[.slice A l.length c, .string s] w fun e w' => e = .returned (.tuple #[.int .i64 (found b (idx s l)).1, .int .i64 (found b (idx s l)).2]) ∧ Below w.heap.size w w'
/-- What the callees tell of a list of fields. -/
def GoodP (l : List S54) : Prop := l.length ≤ 1000000 ∧ ((SchemaAs l false ∧ PrintsAs l ⟨#[]⟩ 1 ∧ ChecksAs l 1 ∧ FindAs l false) ∨ ∃ s, SchemaAs l true ∧ PrintsAs l s 0 ∧ RPrintAs l s ∧ ChecksAs l 0 ∧ FindAs l true)
def ServOk (nm : ByteArray) : Prop := ∃ n e : Int, (∀ w, Calls Tryd.prog 26 #[.string nm] w fun x w' => x = .returned (.tuple #[.int .i64 n, .int .i64 e]) ∧ Below w.heap.size w w') ∧ (∀ w, Calls Tryd.prog 27 #[.string nm] w fun x w' => x = .returned (.int .i64 n) ∧ Below w.heap.size w w') ∧ ((0 < n ∧ e = 0) ∨ (n = 0 ∧ e = 3))
def n6 : List ByteArray := [(⟨#[97, 99, 99, 111, 117, 110, 116]⟩ : ByteArray), (⟨#[105, 110, 118, 101, 110, 116, 111, 114, 121]⟩ : ByteArray), (⟨#[98, 111, 111, 107, 105, 110, 103]⟩ : ByteArray), (⟨#[110, 111, 116, 105, 102, 105, 101, 114]⟩ : ByteArray), (⟨#[]⟩ : ByteArray), (⟨#[65, 99, 99, 111, 117, 110, 116]⟩ : ByteArray)]
end Go.Proofs.YtgobpenmemlieaaDoor.Lex
