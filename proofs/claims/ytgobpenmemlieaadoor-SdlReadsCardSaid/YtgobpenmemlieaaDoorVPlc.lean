/- Packed by our own shrink.py: theorems that the claim does not use are left out. -/
import Derived.Test.YtgobpenmemlieaaDoorVIdx
/-
  The walks of slices.ContainsFunc, sdl.Place and sdl.field.
-/
namespace Go.Proofs.YtgobpenmemlieaaDoor.Lex
open Go.RowKit Go.Proofs.YtgobpenmemlieaaDoorW.PrintWords Go.Proofs.YtgobpenmemlieaaDoorW.PrintLast Go.Proofs.YtgobpenmemlieaaDoorW.PrintMore PSdlBack
set_option linter.unusedVariables false
set_option linter.unusedSimpArgs false
set_option maxHeartbeats 4000000 in
set_option maxRecDepth 100000 in
theorem contains_calls (F : Nat) (nb : Nat) (s : ByteArray) (A : Option Addr) (c : Nat) (l : List S54) (w : World) (hl : l.length ≤ 1000000000) (hC : Kd.C k54 w A l.length l) (hc : w.cell? ⟨nb, 0, none⟩ = some (.string s)) (hF : F = 55 ∨ F = 62) :
    Calls Tryd.prog 54 #[.slice A l.length c, .func (.func F) #[] #[.pointer (some ⟨nb, 0, none⟩)]] w fun e w' => e = .returned (.bool (decide (0 ≤ idx s l))) ∧ Below w.heap.size w w' := by
  have HI := Aside0.mk (index_calls F nb s A c l w hl hC hc hF)
  have HB := Aside0.mk (Below.refl w.heap.size w)
  clear hC hc hF
  go_enter Tryd.func54, Tryd.ntmps54
  go_wp2_with (first | (go_at_call 61; refine HI.out.mono ?_; rintro e wq ⟨rfl, hb2⟩; have n0_ := Aside0.mk (below_step (by repeat (first | (with_reducible first | exact HB.out | apply below_alloc | apply pw_below_drewN | apply below_drew1) | exact HB.out)) hb2); clear HB; have HB := n0_; clear n0_ hb2))
  go_ret
  exact ⟨rfl, (by repeat (first | (with_reducible first | exact HB.out | apply below_alloc | apply pw_below_drewN | apply below_drew1) | exact HB.out))⟩
set_option maxHeartbeats 4000000 in
set_option maxRecDepth 100000 in
theorem Place_calls (s : ByteArray) (A : Option Addr) (c : Nat) (l : List S54) (w : World) (hl : l.length ≤ 1000000000) (hC : Kd.C k54 w A l.length l) :
    Calls Tryd.prog 39 #[.slice A l.length c, .string s] w fun e w' => e = .returned (.int .i64 (idx s l)) ∧ Below w.heap.size w w' := by
  have hb0 := below_alloc (Below.refl w.heap.size w) (.cells #[.string s] 9)
  have hcell : (w.alloc (.cells #[.string s] 9)).cell? ⟨w.heap.size, 0, none⟩ = some (.string s) := (blk_cell (heap_alloc_new w _) 0).trans rfl
  have HI := Aside0.mk (index_calls 62 w.heap.size s A c l _ hl (Kd.C_below hC hb0) hcell (.inr rfl))
  have HB := Aside0.mk hb0
  clear hC hb0 hcell
  go_enter Tryd.func39, Tryd.ntmps39
  go_wp2_with (first | (go_at_call 61; refine HI.out.mono ?_; rintro e wq ⟨rfl, hb2⟩; have n0_ := Aside0.mk (below_step (by repeat (first | (with_reducible first | exact HB.out | apply below_alloc | apply pw_below_drewN | apply below_drew1) | exact HB.out)) hb2); clear HB; have HB := n0_; clear n0_ hb2))
  go_ret
  exact ⟨rfl, (by repeat (first | (with_reducible first | exact HB.out | apply below_alloc | apply pw_below_drewN | apply below_drew1) | exact HB.out))⟩
end Go.Proofs.YtgobpenmemlieaaDoor.Lex
