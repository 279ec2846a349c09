/- Packed by our own shrink.py: theorems that the claim does not use are left out. -/
import Derived.Test.YtgobpenmemlieaaDoorVMay
/-
  The walk of sdl.Check.
-/
namespace Go.Proofs.YtgobpenmemlieaaDoor.Lex
open Go.RowKit Go.Proofs.YtgobpenmemlieaaDoorW.PrintWords Go.Proofs.YtgobpenmemlieaaDoorW.PrintLast Go.Proofs.YtgobpenmemlieaaDoorW.PrintMore PSdlBack
set_option linter.unusedVariables false
set_option linter.unusedSimpArgs false
set_option maxHeartbeats 4000000 in
set_option maxRecDepth 100000 in
theorem Check_calls (A : Option Addr) (c n : Nat) (b : Bool) (w : World) (hM : ∀ w1, Below w.heap.size w w1 → Calls Tryd.prog 36 #[.slice A n c] w1 fun e w' => e = .returned (.bool b) ∧ Below w1.heap.size w1 w') :
    Calls Tryd.prog 19 #[.slice A n c] w fun e w' => e = .returned (.int .i64 (if b then 0 else 1)) ∧ Below w.heap.size w w' := by
  have HM := Aside0.mk hM
  have HB := Aside0.mk (Below.refl w.heap.size w)
  clear hM
  cases b with
  | true =>
    go_enter Tryd.func19, Tryd.ntmps19
    go_wp2_with (first | (go_at_call 36; refine (HM.out _ (by repeat (first | (with_reducible first | exact HB.out | apply below_alloc | apply pw_below_drewN | apply below_drew1) | exact HB.out))).mono ?_; rintro e wq ⟨rfl, hb2⟩; have n0_ := Aside0.mk (below_step (by repeat (first | (with_reducible first | exact HB.out | apply below_alloc | apply pw_below_drewN | apply below_drew1) | exact HB.out)) hb2); clear HB; have HB := n0_; clear n0_ hb2))
    go_ret
    exact ⟨rfl, (by repeat (first | (with_reducible first | exact HB.out | apply below_alloc | apply pw_below_drewN | apply below_drew1) | exact HB.out))⟩
  | false =>
    go_enter Tryd.func19, Tryd.ntmps19
    go_wp2_with (first | (go_at_call 36; refine (HM.out _ (by repeat (first | (with_reducible first | exact HB.out | apply below_alloc | apply pw_below_drewN | apply below_drew1) | exact HB.out))).mono ?_; rintro e wq ⟨rfl, hb2⟩; have n0_ := Aside0.mk (below_step (by repeat (first | (with_reducible first | exact HB.out | apply below_alloc | apply pw_below_drewN | apply below_drew1) | exact HB.out)) hb2); clear HB; have HB := n0_; clear n0_ hb2))
    go_ret
    exact ⟨rfl, (by repeat (first | (with_reducible first | exact HB.out | apply below_alloc | apply pw_below_drewN | apply below_drew1) | exact HB.out))⟩
end Go.Proofs.YtgobpenmemlieaaDoor.Lex
