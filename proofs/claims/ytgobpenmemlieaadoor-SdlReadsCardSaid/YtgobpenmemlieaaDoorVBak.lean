/- Packed by our own shrink.py: theorems that the claim does not use are left out. -/
import Derived.Test.YtgobpenmemlieaaDoorVPri
import Derived.Test.YtgobpenmemlieaaDoorVOSdlx4
/-
  The walks of amanuensislaw4.wakes and amanuensislaw4.SdlBack, over what the callees tell of a list of fields ('Good').
-/
namespace Go.Proofs.YtgobpenmemlieaaDoor.Lex
open Go.RowKit Go.Proofs.YtgobpenmemlieaaDoorW.PrintWords Go.Proofs.YtgobpenmemlieaaDoorW.PrintLast Go.Proofs.YtgobpenmemlieaaDoorW.PrintMore PSdlBack
attribute [local go_sem] max2_int min2_int max_two min_two max_three min_three max_four min_four
set_option linter.unusedVariables false
set_option linter.unusedSimpArgs false
def wk0 : S54 := ⟨⟨#[97]⟩, 1, ⟨#[99, 114, 101, 100, 105, 116]⟩, ⟨#[100, 101, 98, 105, 116]⟩⟩
def PrintsAs (l : List S54) (s : ByteArray) (n : Int) : Prop := ∀ A c w, l.length ≤ c → Kd.C k54 w A l.length l → Calls Tryd.prog 18 #[.slice A l.length c] w fun e w' => e = .returned (.tuple #[.string s, .int .i64 n]) ∧ Below w.heap.size w w'
def ReadsAs (s : ByteArray) (l : List S54) : Prop := ∀ w, Tab w → Calls Tryd.prog 13 #[.string s] w fun e w' => ∃ v, e = .returned (.tuple #[v, .int .i64 0]) ∧ Kd.R k54 54 w' w.heap.size (fun _ => True) v l ∧ Below w.heap.size w w'
def Barred (l : List S54) : Prop := ∀ A c w, l.length ≤ c → Kd.C k54 w A l.length l → Calls Tryd.prog 19 #[.slice A l.length c] w fun e w' => e = .returned (.int .i64 1) ∧ Below w.heap.size w w'
/-- What the callees tell of a list of fields. -/
def Good (l : List S54) : Prop := PrintsAs l ⟨#[]⟩ 1 ∨ (1 ≤ l.length ∧ l.length ≤ 8 ∧ ∃ s, PrintsAs l s 0 ∧ ReadsAs s l ∧ (l.length < 8 → Barred (l ++ [rd_T54 l 0])))
theorem eq_self (l : List S54) (hl : l.length ≤ 1000000000) : ∀ (n : Nat) (i : Int), 0 ≤ i → i ≤ l.length → (l.length : Int) - i ≤ n → amanuensisref0_EqFields.l0 (n + 1) l l i = some true
  | 0, i, h0, h1, h2 => by
    unfold amanuensisref0_EqFields.l0
    rw [if_neg (by omega)]
  | n + 1, i, h0, h1, h2 => by
    unfold amanuensisref0_EqFields.l0
    by_cases h : i < l.length
    · rw [if_pos h, if_pos h0, if_pos h, if_neg (by simp), wrap64_id (by omega) (by omega)]
      exact eq_self l hl n (i + 1) (by omega) (by omega) (by omega)
    · rw [if_neg h]
theorem eq_same (l : List S54) (hl : l.length ≤ 1000000000) : ∃ k, amanuensisref0_EqFields.f k l l = some true := by
  refine ⟨l.length + 1, ?_⟩
  unfold amanuensisref0_EqFields.f
  rw [if_pos rfl]
  exact eq_self l hl l.length 0 (by omega) (by omega) (by omega)
set_option maxHeartbeats 8000000 in
set_option maxRecDepth 100000 in
theorem wakes_calls (s : ByteArray) (hp : PrintsAs [wk0] s 0) (hrd : ReadsAs s [wk0]) (w : World) (hT : Tab w) :
    Calls Tryd.prog 17 #[] w fun e w' => e = .returned (.bool true) ∧ Below w.heap.size w w' := by
  have HPR := Aside0.mk hp
  have HRD := Aside0.mk hrd
  have HT := Aside0.mk hT
  have HB := Aside0.mk (Below.refl w.heap.size w)
  obtain ⟨ke, he⟩ := eq_same [wk0] (by simp)
  have HEQ := Aside0.mk he
  clear hp hrd hT he
  go_enter Tryd.func17, Tryd.ntmps17
  go_wp2_with (first | ((with_reducible refine gate_dst (N := 7) rfl ?_); refine Kd.R_lit k54 _ 54 ?hg (N := 7) ?hd (xs := ([wk0] : List S54)) (inner := [.string ⟨#[97]⟩, .int .i64 1, .string ⟨#[99, 114, 101, 100, 105, 116]⟩, .string ⟨#[100, 101, 98, 105, 116]⟩]) (ok := fun _ => True) (okp := fun _ => False) ?hr ?hp (fun _ hk => hk.elim) trivial (Below.refl _ _) (Nat.le_refl _) (by simp) ?_; (case hd => rfl); (case hg => rfl); (case hr => first | (go_simp; done) | (go_simp; rfl)); (case hp => exact (Reps.c4 (k54_mkM _ _ _ wk0) (Reps.none _ _))); intro v5 w7 ho hb2 hg_ hnew_; obtain ⟨A7, c7, rfl, hc7, hC7⟩ := Kd.R_reads ho; have HC7 := Aside0.mk hC7; clear hg_ hnew_ ho hC7; have n0_ := Aside0.mk (below_step (by repeat (first | (with_reducible first | exact HB.out | apply below_alloc | apply pw_below_drewN | apply below_drew1) | exact HB.out)) hb2); clear HB; have HB := n0_; clear n0_ hb2) | (go_at_call 18; refine (HPR.out A7 c7 _ hc7 (Kd.C_below HC7.out (Below.refl _ _))).mono ?_; rintro e wq ⟨rfl, hb2⟩; have n1_ := Aside0.mk (Kd.C_below HC7.out hb2); clear HC7; have HC7 := n1_; clear n1_; have n0_ := Aside0.mk (below_step (by repeat (first | (with_reducible first | exact HB.out | apply below_alloc | apply pw_below_drewN | apply below_drew1) | exact HB.out)) hb2); clear HB; have HB := n0_; clear n0_ hb2) | (go_at_call 13; refine (HRD.out _ (Lib_tab HT.out (by repeat (first | (with_reducible first | exact HB.out | apply below_alloc | apply pw_below_drewN | apply below_drew1) | exact HB.out)))).mono ?_; rintro e wq2 ⟨v6, rfl, hR6, hb2⟩; obtain ⟨A6, c6, rfl, hc6, hC6⟩ := Kd.R_reads hR6; have HC6 := Aside0.mk hC6; clear hC6 hR6; have n1_ := Aside0.mk (Kd.C_below HC7.out hb2); clear HC7; have HC7 := n1_; clear n1_; have n0_ := Aside0.mk (below_step (by repeat (first | (with_reducible first | exact HB.out | apply below_alloc | apply pw_below_drewN | apply below_drew1) | exact HB.out)) hb2); clear HB; have HB := n0_; clear n0_ hb2) | (go_at_call 15; (with_reducible refine (amanuensislaw4_num.calls _ _ _ rfl).mono ?_); rintro e wq ⟨rfl, ⟨nd, rfl⟩⟩) | (go_at_call 16; refine (amanuensisref0_EqFields.calls _ _ _ [wk0] _ _ [wk0] true _ (Kd.C_below HC6.out (by repeat (first | exact Below.refl _ _ | apply below_alloc | apply pw_below_drewN))) hc6 (Kd.C_below HC7.out (by repeat (first | exact Below.refl _ _ | apply below_alloc | apply pw_below_drewN))) hc7 HEQ.out).mono ?_; rintro e wq ⟨rfl, ⟨nd, rfl⟩⟩))
  go_ret
  exact ⟨rfl, (by repeat (first | (with_reducible first | exact HB.out | apply below_alloc | apply pw_below_drewN | apply below_drew1) | exact HB.out))⟩
--MORE
end Go.Proofs.YtgobpenmemlieaaDoor.Lex
