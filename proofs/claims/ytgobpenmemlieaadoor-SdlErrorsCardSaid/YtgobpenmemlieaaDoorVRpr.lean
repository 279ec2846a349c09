/- Packed by our own shrink.py: theorems that the claim does not use are left out. -/
import Derived.Test.YtgobpenmemlieaaDoorVSch
/-
  The walk of amanuensisref4.Print.
-/
namespace Go.Proofs.YtgobpenmemlieaaDoor.Lex
open Go.RowKit Go.Proofs.YtgobpenmemlieaaDoorW.PrintWords Go.Proofs.YtgobpenmemlieaaDoorW.PrintLast Go.Proofs.YtgobpenmemlieaaDoorW.PrintMore PSdlBack
set_option linter.unusedVariables false
set_option linter.unusedSimpArgs false
def fm : List ByteArray := [(⟨#[40]⟩ : ByteArray), (⟨#[119, 104, 111]⟩ : ByteArray), (⟨#[58]⟩ : ByteArray), (⟨#[83, 116, 114, 105, 110, 103]⟩ : ByteArray), (⟨#[33]⟩ : ByteArray), (⟨#[110]⟩ : ByteArray), (⟨#[58]⟩ : ByteArray), (⟨#[73, 110, 116]⟩ : ByteArray), (⟨#[33]⟩ : ByteArray), (⟨#[41]⟩ : ByteArray), (⟨#[58]⟩ : ByteArray), (⟨#[83, 116, 101, 112]⟩ : ByteArray), (⟨#[64]⟩ : ByteArray), (⟨#[115, 97, 103, 97]⟩ : ByteArray), (⟨#[40]⟩ : ByteArray), (⟨#[115, 101, 114, 118, 105, 99, 101]⟩ : ByteArray), (⟨#[58]⟩ : ByteArray), (⟨#[]⟩ : ByteArray), (⟨#[100, 111]⟩ : ByteArray), (⟨#[58]⟩ : ByteArray), (⟨#[]⟩ : ByteArray), (⟨#[117, 110, 100, 111]⟩ : ByteArray), (⟨#[58]⟩ : ByteArray), (⟨#[]⟩ : ByteArray), (⟨#[41]⟩ : ByteArray)]
def fw (j : Nat) : ByteArray := fm.getD j ⟨#[]⟩
def isB (j : Nat) : Bool := (fw j).data.toList.isEmpty
/-- How many of the first j are left open. -/
def kB : Nat → Nat
  | 0 => 0
  | j + 1 => if isB j then kB j + 1 else kB j
def names3 (x : S54) : List ByteArray := [(svcName x.f1), x.f2, x.f3]
def nw (x : S54) (k : Nat) : ByteArray := (names3 x).getD k ⟨#[]⟩
def fillAt (x : S54) (j : Nat) : ByteArray := if isB j then nw x (kB j) else fw j
def fillS (x : S54) : Nat → Nat → ByteArray → ByteArray
  | 0, _, s => s
  | n + 1, j, s => fillS x n (j + 1) ((s ++ (⟨#[32]⟩ : ByteArray)) ++ fillAt x j)
def rp : List S54 → ByteArray → ByteArray
  | [], s => s
  | x :: l, s => rp l (fillS x 25 0 ((s ++ (⟨#[32]⟩ : ByteArray)) ++ x.f0))
def rprint (l : List S54) : ByteArray := rp l T0 ++ (⟨#[32, 125]⟩ : ByteArray)
structure Tiny (x : S54) : Prop where
  t0 : x.f0.size ≤ 12
  t1 : (svcName x.f1).size ≤ 12
  t2 : x.f2.size ≤ 12
  t3 : x.f3.size ≤ 12
  ts : isServ x.f1 = true
theorem size_app (a b : ByteArray) : (a ++ b).size = a.size + b.size := by simp
end Go.Proofs.YtgobpenmemlieaaDoor.Lex
