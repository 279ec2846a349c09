/- Packed by our own shrink.py: theorems that the claim does not use are left out. -/
import Derived.Test.YtgobpenmemlieaaDoorVPri
/-
  The walk of sdl.Find.
-/
namespace Go.Proofs.YtgobpenmemlieaaDoor.Lex
open Go.RowKit Go.Proofs.YtgobpenmemlieaaDoorW.PrintWords Go.Proofs.YtgobpenmemlieaaDoorW.PrintLast Go.Proofs.YtgobpenmemlieaaDoorW.PrintMore PSdlBack
set_option linter.unusedVariables false
set_option linter.unusedSimpArgs false
def found (b : Bool) (k : Int) : Int × Int := if b = false then (0, 1) else if k < 0 then (0, 3) else (k, 0)
set_option maxHeartbeats 8000000 in
set_option maxRecDepth 100000 in
theorem Find_calls (A : Option Addr) (c : Nat) (l : List S54) (s : ByteArray) (b : Bool) (w : World) (hl : l.length ≤ 1000000000) (hC : Kd.C k54 w A l.length l)
    (hM : ∀ w1, Below w.heap.size w w1 → Calls Tryd.prog 36 #[.slice A l.length c] w1 fun e w' => e = .returned (.bool b) ∧ Below w1.heap.size w1 w') :
    Calls Tryd.prog 21 #[.slice A l.length c, .string s] w fun e w' => e = .returned (.tuple #[.int .i64 (found b (idx s l)).1, .int .i64 (found b (idx s l)).2]) ∧ Below w.heap.size w w' := by
  have HM := Aside0.mk hM
  have HC := Aside0.mk hC
  have HB := Aside0.mk (Below.refl w.heap.size w)
  have hP : Aside0 (∀ W, Below w.heap.size w W → Calls Tryd.prog 39 #[.slice A l.length c, .string s] W fun e w' => e = .returned (.int .i64 (idx s l)) ∧ Below W.heap.size W w') := ⟨fun W hb => Place_calls s A c l W hl (Kd.C_below hC hb)⟩
  clear hM hC
  generalize idx s l = k at hP ⊢
  unfold found
  cases b with
  | false =>
    go_enter Tryd.func21, Tryd.ntmps21
    go_wp2_with (first | (go_at_call 36; refine (HM.out _ (by repeat (first | (with_reducible first | exact HB.out | apply below_alloc | apply pw_below_drewN | apply below_drew1) | exact HB.out))).mono ?_; rintro e wq ⟨rfl, hb2⟩; have n0_ := Aside0.mk (below_step (by repeat (first | (with_reducible first | exact HB.out | apply below_alloc | apply pw_below_drewN | apply below_drew1) | exact HB.out)) hb2); clear HB; have HB := n0_; clear n0_ hb2))
    go_ret2
    exact ⟨rfl, (by repeat (first | (with_reducible first | exact HB.out | apply below_alloc | apply pw_below_drewN | apply below_drew1) | exact HB.out))⟩
  | true =>
    rw [if_neg (by decide)]
    by_cases hk : k < 0
    · rw [if_pos hk]
      have t1 : decide (k < 0) = true := decide_eq_true hk
      go_enter Tryd.func21, Tryd.ntmps21
      go_wp2_with (first | (go_at_call 36; refine (HM.out _ (by repeat (first | (with_reducible first | exact HB.out | apply below_alloc | apply pw_below_drewN | apply below_drew1) | exact HB.out))).mono ?_; rintro e wq ⟨rfl, hb2⟩; have n0_ := Aside0.mk (below_step (by repeat (first | (with_reducible first | exact HB.out | apply below_alloc | apply pw_below_drewN | apply below_drew1) | exact HB.out)) hb2); clear HB; have HB := n0_; clear n0_ hb2) | (go_at_call 39; refine (hP.out _ (by repeat (first | (with_reducible first | exact HB.out | apply below_alloc | apply pw_below_drewN | apply below_drew1) | exact HB.out))).mono ?_; rintro e wq ⟨rfl, hb2⟩; have n0_ := Aside0.mk (below_step (by repeat (first | (with_reducible first | exact HB.out | apply below_alloc | apply pw_below_drewN | apply below_drew1) | exact HB.out)) hb2); clear HB; have HB := n0_; clear n0_ hb2))
      go_ret2
      exact ⟨rfl, (by repeat (first | (with_reducible first | exact HB.out | apply below_alloc | apply pw_below_drewN | apply below_drew1) | exact HB.out))⟩
    · rw [if_neg hk]
      have t1 : decide (k < 0) = false := decide_eq_false hk
      go_enter Tryd.func21, Tryd.ntmps21
      go_wp2_with (first | (go_at_call 36; refine (HM.out _ (by repeat (first | (with_reducible first | exact HB.out | apply below_alloc | apply pw_below_drewN | apply below_drew1) | exact HB.out))).mono ?_; rintro e wq ⟨rfl, hb2⟩; have n0_ := Aside0.mk (below_step (by repeat (first | (with_reducible first | exact HB.out | apply below_alloc | apply pw_below_drewN | apply below_drew1) | exact HB.out)) hb2); clear HB; have HB := n0_; clear n0_ hb2) | (go_at_call 39; refine (hP.out _ (by repeat (first | (with_reducible first | exact HB.out | apply below_alloc | apply pw_below_drewN | apply below_drew1) | exact HB.out))).mono ?_; rintro e wq ⟨rfl, hb2⟩; have n0_ := Aside0.mk (below_step (by repeat (first | (with_reducible first | exact HB.out | apply below_alloc | apply pw_below_drewN | apply below_drew1) | exact HB.out)) hb2); clear HB; have HB := n0_; clear n0_ hb2))
      go_ret2
      exact ⟨rfl, (by repeat (first | (with_reducible first | exact HB.out | apply below_alloc | apply pw_below_drewN | apply below_drew1) | exact HB.out))⟩
end Go.Proofs.YtgobpenmemlieaaDoor.Lex
