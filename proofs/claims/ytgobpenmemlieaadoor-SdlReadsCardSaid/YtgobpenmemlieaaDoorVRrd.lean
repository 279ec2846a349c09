/- Packed by our own shrink.py: theorems that the claim does not use are left out. -/
import Derived.Test.YtgobpenmemlieaaDoorVRdf
import Derived.Test.YtgobpenmemlieaaDoorVLon
/-
 The walk of amanuensisref4.Read.
-/
namespace Go.Proofs.YtgobpenmemlieaaDoor.Lex
open Go.RowKit Go.Proofs.YtgobpenmemlieaaDoorW.PrintWords Go.Proofs.YtgobpenmemlieaaDoorW.PrintLast Go.Proofs.YtgobpenmemlieaaDoorW.PrintMore PSdlBack
set_option linter.unusedVariables false
set_option linter.unusedSimpArgs false
theorem info22 : (Tryd.prog.info? 22).map (fun i => (i.zero, i.size, i.bytes)) = some (some (.slice none 0 0), 1, 24) := by kernel_rfl
theorem R_own_lt {α : Type} {d : Kd α} {e : Nat} {w : World} {base : Nat} {ok : Nat → Prop} {v : Value} {xs : List α} (h : d.R e w base ok v xs) (k : Nat) (hk : v.ownBlock = some k) : k < w.heap.size := by
 obtain ⟨-, inner, hown, -⟩ := h
 obtain ⟨cells, hc⟩ := own_typed hown k hk
 exact blk_lt hc
theorem tok_at {w : World} {A : Option Addr} {toks : List S39} (h : Kd.C k39 w A toks.length toks) (i : Nat) (hi : i < toks.length) : ∃ ad, A = some ad ∧ w.cell? (ad.add (i * 2)) = some (.string (wat (texts toks) i)) := by
 obtain ⟨ad, e, h0, -⟩ := at_T39 h (i : Int) (by omega) (by omega)
 refine ⟨ad, e, ?_⟩
 rw [Int.toNat_natCast] at h0
 rw [h0]
 congr 2
 unfold rd_T39 wat texts
 rw [Int.toNat_natCast, List.getD_eq_getElem?_getD, List.getD_eq_getElem?_getD, List.getElem?_map, List.getElem?_eq_getElem hi]
 rfl
set_option maxHeartbeats 8000000 in
set_option maxRecDepth 100000 in
theorem RRead_bad (s : ByteArray) (toks : List S39) (at_ ec : Int) (he : ec ≠ 0) (w : World) (hW : ∀ w, Calls Tryd.prog 11 #[.string s] w fun e w' => ∃ v0_ : Value, e = .returned (.tuple #[v0_, .int .i64 at_, .int .i64 ec]) ∧ Kd.R k39 39 w' w.heap.size (fun _ => True) v0_ toks ∧ Below w.heap.size w w') :
  Calls Tryd.prog 14 #[.string s] w fun e w' => e = .returned (.tuple #[.slice none 0 0, .int .i64 ec]) ∧ Below w.heap.size w w' := by
 have HW := Aside0.mk hW
 have HB := Aside0.mk (Below.refl w.heap.size w)
 have t1 : (ec != 0) = true := bne_iff_ne.mpr he
 clear hW
 go_enter Tryd.func14, Tryd.ntmps14
 go_wp2_with (first | (go_at_call 11; refine (HW.out _).mono ?_; rintro e wq1 ⟨v0, rfl, hR, hb2⟩; obtain ⟨At, ct, rfl, hct, hCt⟩ := Kd.R_reads hR; have HCT := Aside0.mk hCt; clear hR hCt; have n0_ := Aside0.mk (below_step (by repeat (first | (with_reducible first | exact HB.out | apply below_alloc | apply pw_below_drewN | apply below_drew1) | exact HB.out)) hb2); clear HB; have HB := n0_; clear n0_ hb2))
 go_ret2
 exact ⟨rfl, (by repeat (first | (with_reducible first | exact HB.out | apply below_alloc | apply pw_below_drewN | apply below_drew1) | exact HB.out))⟩
set_option maxHeartbeats 8000000 in
set_option maxRecDepth 100000 in
theorem RRead_short (s : ByteArray) (toks : List S39) (at_ : Int) (w : World) (hl : toks.length < 30) (hW : ∀ w, Calls Tryd.prog 11 #[.string s] w fun e w' => ∃ v0_ : Value, e = .returned (.tuple #[v0_, .int .i64 at_, .int .i64 0]) ∧ Kd.R k39 39 w' w.heap.size (fun _ => True) v0_ toks ∧ Below w.heap.size w w') :
  Calls Tryd.prog 14 #[.string s] w fun e w' => e = .returned (.tuple #[.slice none 0 0, .int .i64 4]) ∧ Below w.heap.size w w' := by
 have HW := Aside0.mk hW
 have HB := Aside0.mk (Below.refl w.heap.size w)
 have t1 : decide ((toks.length : Int) < 30) = true := decide_eq_true (by omega)
 clear hW
 go_enter Tryd.func14, Tryd.ntmps14
 go_wp2_with (first | (go_at_call 11; refine (HW.out _).mono ?_; rintro e wq1 ⟨v0, rfl, hR, hb2⟩; obtain ⟨At, ct, rfl, hct, hCt⟩ := Kd.R_reads hR; have HCT := Aside0.mk hCt; clear hR hCt; have n0_ := Aside0.mk (below_step (by repeat (first | (with_reducible first | exact HB.out | apply below_alloc | apply pw_below_drewN | apply below_drew1) | exact HB.out)) hb2); clear HB; have HB := n0_; clear n0_ hb2) | ((with_reducible refine gate_dst (N := 28) rfl ?_); refine Kd.R_lit Kd.string _ 9 ?hg (N := 28) ?hd (xs := ([(⟨#[116, 121, 112, 101]⟩ : ByteArray), (⟨#[77, 117, 116, 97, 116, 105, 111, 110]⟩ : ByteArray), (⟨#[123]⟩ : ByteArray)] : List ByteArray)) (inner := [.string (⟨#[116, 121, 112, 101]⟩ : ByteArray), .string (⟨#[77, 117, 116, 97, 116, 105, 111, 110]⟩ : ByteArray), .string (⟨#[123]⟩ : ByteArray)]) (ok := fun _ => True) (okp := fun _ => False) ?hr ?hp (fun _ hk => hk.elim) trivial (Below.refl _ _) (Nat.le_refl _) (by simp) ?_; (case hd => rfl); (case hg => rfl); (case hr => first | (go_simp; done) | (go_simp; rfl)); (case hp => exact (Reps.one (show Kd.M Kd.string _ _ _ ((⟨#[116, 121, 112, 101]⟩ : ByteArray) : ByteArray) [.string ((⟨#[116, 121, 112, 101]⟩ : ByteArray))] from rfl) (Reps.one (show Kd.M Kd.string _ _ _ ((⟨#[77, 117, 116, 97, 116, 105, 111, 110]⟩ : ByteArray) : ByteArray) [.string ((⟨#[77, 117, 116, 97, 116, 105, 111, 110]⟩ : ByteArray))] from rfl) (Reps.one (show Kd.M Kd.string _ _ _ ((⟨#[123]⟩ : ByteArray) : ByteArray) [.string ((⟨#[123]⟩ : ByteArray))] from rfl) (Reps.none _ _))))); intro v28_ wq2 ho hb2 hg_ hnew_; obtain ⟨A3, c3, rfl, hc3, hC3⟩ := Kd.R_reads ho; have HC3 := Aside0.mk hC3; have n1_ := Aside0.mk (Kd.C_below HCT.out (below_step (by repeat (first | exact Below.refl _ _ | apply below_alloc | apply pw_below_drewN | apply below_drew1)) hb2)); clear HCT; have HCT := n1_; clear n1_ hg_ hnew_ ho hC3; have n0_ := Aside0.mk (below_step (by repeat (first | (with_reducible first | exact HB.out | apply below_alloc | apply pw_below_drewN | apply below_drew1) | exact HB.out)) hb2); clear HB; have HB := n0_; clear n0_ hb2) | (go_at_call 31; refine (amanuensisref4_form.calls fm _ rfl).mono ?_; rintro e wq3 ⟨v9, rfl, hR9, hb2⟩; obtain ⟨Af, cf, rfl, hcf, hCf⟩ := Kd.R_reads hR9; have n1_ := Aside0.mk (Kd.C_below HCT.out hb2); have n2_ := Aside0.mk (Kd.C_below HC3.out hb2); clear HCT HC3; have HCT := n1_; have HC3 := n2_; clear n1_ n2_ hR9 hCf; have n0_ := Aside0.mk (below_step (by repeat (first | (with_reducible first | exact HB.out | apply below_alloc | apply pw_below_drewN | apply below_drew1) | exact HB.out)) hb2); clear HB; have HB := n0_; clear n0_ hb2; rw [show fm.length = 25 from rfl]))
 go_ret2
 exact ⟨rfl, (by repeat (first | (with_reducible first | exact HB.out | apply below_alloc | apply pw_below_drewN | apply below_drew1) | exact HB.out))⟩
set_option maxHeartbeats 8000000 in
set_option maxRecDepth 100000 in
theorem RRead_rem (s : ByteArray) (toks : List S39) (at_ : Int) (w : World) (hl : 30 ≤ toks.length) (hl2 : toks.length ≤ 100000) (hr : ¬ (toks.length - 4) % 26 = 0) (hW : ∀ w, Calls Tryd.prog 11 #[.string s] w fun e w' => ∃ v0_ : Value, e = .returned (.tuple #[v0_, .int .i64 at_, .int .i64 0]) ∧ Kd.R k39 39 w' w.heap.size (fun _ => True) v0_ toks ∧ Below w.heap.size w w') :
  Calls Tryd.prog 14 #[.string s] w fun e w' => e = .returned (.tuple #[.slice none 0 0, .int .i64 4]) ∧ Below w.heap.size w w' := by
 have HW := Aside0.mk hW
 have HB := Aside0.mk (Below.refl w.heap.size w)
 have t1 : decide ((toks.length : Int) < 30) = false := decide_eq_false (by omega)
 have t2 : (((toks.length : Int) - 4).tmod 26 != 0) = true := bne_iff_ne.mpr (by rw [Int.tmod_eq_emod_of_nonneg (by omega)]; omega)
 have t3 : ¬ ((toks.length : Int) - 4).tmod 26 = 0 := by rw [Int.tmod_eq_emod_of_nonneg (by omega)]; omega
 clear hW
 go_enter Tryd.func14, Tryd.ntmps14
 go_wp2_with (first | (go_at_call 11; refine (HW.out _).mono ?_; rintro e wq1 ⟨v0, rfl, hR, hb2⟩; obtain ⟨At, ct, rfl, hct, hCt⟩ := Kd.R_reads hR; have HCT := Aside0.mk hCt; clear hR hCt; have n0_ := Aside0.mk (below_step (by repeat (first | (with_reducible first | exact HB.out | apply below_alloc | apply pw_below_drewN | apply below_drew1) | exact HB.out)) hb2); clear HB; have HB := n0_; clear n0_ hb2) | ((with_reducible refine gate_dst (N := 28) rfl ?_); refine Kd.R_lit Kd.string _ 9 ?hg (N := 28) ?hd (xs := ([(⟨#[116, 121, 112, 101]⟩ : ByteArray), (⟨#[77, 117, 116, 97, 116, 105, 111, 110]⟩ : ByteArray), (⟨#[123]⟩ : ByteArray)] : List ByteArray)) (inner := [.string (⟨#[116, 121, 112, 101]⟩ : ByteArray), .string (⟨#[77, 117, 116, 97, 116, 105, 111, 110]⟩ : ByteArray), .string (⟨#[123]⟩ : ByteArray)]) (ok := fun _ => True) (okp := fun _ => False) ?hr ?hp (fun _ hk => hk.elim) trivial (Below.refl _ _) (Nat.le_refl _) (by simp) ?_; (case hd => rfl); (case hg => rfl); (case hr => first | (go_simp; done) | (go_simp; rfl)); (case hp => exact (Reps.one (show Kd.M Kd.string _ _ _ ((⟨#[116, 121, 112, 101]⟩ : ByteArray) : ByteArray) [.string ((⟨#[116, 121, 112, 101]⟩ : ByteArray))] from rfl) (Reps.one (show Kd.M Kd.string _ _ _ ((⟨#[77, 117, 116, 97, 116, 105, 111, 110]⟩ : ByteArray) : ByteArray) [.string ((⟨#[77, 117, 116, 97, 116, 105, 111, 110]⟩ : ByteArray))] from rfl) (Reps.one (show Kd.M Kd.string _ _ _ ((⟨#[123]⟩ : ByteArray) : ByteArray) [.string ((⟨#[123]⟩ : ByteArray))] from rfl) (Reps.none _ _))))); intro v28_ wq2 ho hb2 hg_ hnew_; obtain ⟨A3, c3, rfl, hc3, hC3⟩ := Kd.R_reads ho; have HC3 := Aside0.mk hC3; have n1_ := Aside0.mk (Kd.C_below HCT.out (below_step (by repeat (first | exact Below.refl _ _ | apply below_alloc | apply pw_below_drewN | apply below_drew1)) hb2)); clear HCT; have HCT := n1_; clear n1_ hg_ hnew_ ho hC3; have n0_ := Aside0.mk (below_step (by repeat (first | (with_reducible first | exact HB.out | apply below_alloc | apply pw_below_drewN | apply below_drew1) | exact HB.out)) hb2); clear HB; have HB := n0_; clear n0_ hb2) | (go_at_call 31; refine (amanuensisref4_form.calls fm _ rfl).mono ?_; rintro e wq3 ⟨v9, rfl, hR9, hb2⟩; obtain ⟨Af, cf, rfl, hcf, hCf⟩ := Kd.R_reads hR9; have n1_ := Aside0.mk (Kd.C_below HCT.out hb2); have n2_ := Aside0.mk (Kd.C_below HC3.out hb2); clear HCT HC3; have HCT := n1_; have HC3 := n2_; clear n1_ n2_ hR9 hCf; have n0_ := Aside0.mk (below_step (by repeat (first | (with_reducible first | exact HB.out | apply below_alloc | apply pw_below_drewN | apply below_drew1) | exact HB.out)) hb2); clear HB; have HB := n0_; clear n0_ hb2; rw [show fm.length = 25 from rfl]))
 go_ret2
 exact ⟨rfl, (by repeat (first | (with_reducible first | exact HB.out | apply below_alloc | apply pw_below_drewN | apply below_drew1) | exact HB.out))⟩
set_option maxHeartbeats 8000000 in
set_option maxRecDepth 100000 in
theorem RRead_last (s : ByteArray) (toks : List S39) (at_ : Int) (w : World) (hl : 30 ≤ toks.length) (hl2 : toks.length ≤ 100000) (hr : (toks.length - 4) % 26 = 0) (nm : ByteArray) (hnm : wat (texts toks) (toks.length - 1) = nm) (hx : (nm.toList == [125]) = false) (hW : ∀ w, Calls Tryd.prog 11 #[.string s] w fun e w' => ∃ v0_ : Value, e = .returned (.tuple #[v0_, .int .i64 at_, .int .i64 0]) ∧ Kd.R k39 39 w' w.heap.size (fun _ => True) v0_ toks ∧ Below w.heap.size w w') :
  Calls Tryd.prog 14 #[.string s] w fun e w' => e = .returned (.tuple #[.slice none 0 0, .int .i64 4]) ∧ Below w.heap.size w w' := by
 have HW := Aside0.mk hW
 have HB := Aside0.mk (Below.refl w.heap.size w)
 have t1 : decide ((toks.length : Int) < 30) = false := decide_eq_false (by omega)
 have t2 : (((toks.length : Int) - 4).tmod 26 != 0) = false := bne_eq_false_iff_eq.mpr (by rw [Int.tmod_eq_emod_of_nonneg (by omega)]; omega)
 have t3 : ((toks.length : Int) - 4).tmod 26 = 0 := by rw [Int.tmod_eq_emod_of_nonneg (by omega)]; omega
 have q1 := eq_true (show (0 : Int) ≤ (toks.length : Int) - 1 by omega)
 have q2 := eq_true (show (toks.length : Int) - 1 < (toks.length : Int) by omega)
 have q3 : ((toks.length : Int) - 1).toNat = toks.length - 1 := by omega
 have q4 := eq_true (show toks.length - 1 < toks.length by omega)
 clear hW
 go_enter Tryd.func14, Tryd.ntmps14
 go_wp2_with (first | (go_at_call 11; refine (HW.out _).mono ?_; rintro e wq1 ⟨v0, rfl, hR, hb2⟩; obtain ⟨At, ct, rfl, hct, hCt⟩ := Kd.R_reads hR; have HCT := Aside0.mk hCt; clear hR hCt; have n0_ := Aside0.mk (below_step (by repeat (first | (with_reducible first | exact HB.out | apply below_alloc | apply pw_below_drewN | apply below_drew1) | exact HB.out)) hb2); clear HB; have HB := n0_; clear n0_ hb2) | ((with_reducible refine gate_dst (N := 28) rfl ?_); refine Kd.R_lit Kd.string _ 9 ?hg (N := 28) ?hd (xs := ([(⟨#[116, 121, 112, 101]⟩ : ByteArray), (⟨#[77, 117, 116, 97, 116, 105, 111, 110]⟩ : ByteArray), (⟨#[123]⟩ : ByteArray)] : List ByteArray)) (inner := [.string (⟨#[116, 121, 112, 101]⟩ : ByteArray), .string (⟨#[77, 117, 116, 97, 116, 105, 111, 110]⟩ : ByteArray), .string (⟨#[123]⟩ : ByteArray)]) (ok := fun _ => True) (okp := fun _ => False) ?hr ?hp (fun _ hk => hk.elim) trivial (Below.refl _ _) (Nat.le_refl _) (by simp) ?_; (case hd => rfl); (case hg => rfl); (case hr => first | (go_simp; done) | (go_simp; rfl)); (case hp => exact (Reps.one (show Kd.M Kd.string _ _ _ ((⟨#[116, 121, 112, 101]⟩ : ByteArray) : ByteArray) [.string ((⟨#[116, 121, 112, 101]⟩ : ByteArray))] from rfl) (Reps.one (show Kd.M Kd.string _ _ _ ((⟨#[77, 117, 116, 97, 116, 105, 111, 110]⟩ : ByteArray) : ByteArray) [.string ((⟨#[77, 117, 116, 97, 116, 105, 111, 110]⟩ : ByteArray))] from rfl) (Reps.one (show Kd.M Kd.string _ _ _ ((⟨#[123]⟩ : ByteArray) : ByteArray) [.string ((⟨#[123]⟩ : ByteArray))] from rfl) (Reps.none _ _))))); intro v28_ wq2 ho hb2 hg_ hnew_; obtain ⟨A3, c3, rfl, hc3, hC3⟩ := Kd.R_reads ho; have HC3 := Aside0.mk hC3; have n1_ := Aside0.mk (Kd.C_below HCT.out (below_step (by repeat (first | exact Below.refl _ _ | apply below_alloc | apply pw_below_drewN | apply below_drew1)) hb2)); clear HCT; have HCT := n1_; clear n1_ hg_ hnew_ ho hC3; have n0_ := Aside0.mk (below_step (by repeat (first | (with_reducible first | exact HB.out | apply below_alloc | apply pw_below_drewN | apply below_drew1) | exact HB.out)) hb2); clear HB; have HB := n0_; clear n0_ hb2) | (go_at_call 31; refine (amanuensisref4_form.calls fm _ rfl).mono ?_; rintro e wq3 ⟨v9, rfl, hR9, hb2⟩; obtain ⟨Af, cf, rfl, hcf, hCf⟩ := Kd.R_reads hR9; have n1_ := Aside0.mk (Kd.C_below HCT.out hb2); have n2_ := Aside0.mk (Kd.C_below HC3.out hb2); clear HCT HC3; have HCT := n1_; have HC3 := n2_; clear n1_ n2_ hR9 hCf; have n0_ := Aside0.mk (below_step (by repeat (first | (with_reducible first | exact HB.out | apply below_alloc | apply pw_below_drewN | apply below_drew1) | exact HB.out)) hb2); clear HB; have HB := n0_; clear n0_ hb2; obtain ⟨ad, ead, hlast⟩ := tok_at HCT.out (toks.length - 1) (by omega); cases ead; rw [hnm] at hlast; rw [show fm.length = 25 from rfl]))
 go_ret2
 exact ⟨rfl, (by repeat (first | (with_reducible first | exact HB.out | apply below_alloc | apply pw_below_drewN | apply below_drew1) | exact HB.out))⟩
set_option maxHeartbeats 8000000 in
set_option maxRecDepth 100000 in
theorem RRead_main (s : ByteArray) (toks : List S39) (at_ : Int) (w : World) (hl : 30 ≤ toks.length) (hl2 : toks.length ≤ 100000) (hr : (toks.length - 4) % 26 = 0) (hlast : ((wat (texts toks) (toks.length - 1)).toList == [125]) = true) (l : List S54) (ec : Int) (hres : rread (texts toks) = (l, ec)) (hne : ∀ i : Nat, i < toks.length → 0 < (wat (texts toks) i).size) (hna : ∀ i : Nat, i < toks.length → ∀ w, Calls Tryd.prog 29 #[.string (wat (texts toks) i)] w fun e w' => e = .returned (.bool (isName (wat (texts toks) i))) ∧ Below w.heap.size w w') (hfi : FindsAs) (hpa : ∀ (x : S54) w, Calls Tryd.prog 30 #[.int .i64 x.f1, .string x.f2, .string x.f3] w fun e w' => e = .returned (.bool (isServ x.f1 && pbX x)) ∧ Below w.heap.size w w') (hsv : ∀ (a : ByteArray) w, Calls Tryd.prog 27 #[.string a] w fun e w' => e = .returned (.int .i64 (rs a)) ∧ Below w.heap.size w w') (hW : ∀ w, Calls Tryd.prog 11 #[.string s] w fun e w' => ∃ v0_ : Value, e = .returned (.tuple #[v0_, .int .i64 at_, .int .i64 0]) ∧ Kd.R k39 39 w' w.heap.size (fun _ => True) v0_ toks ∧ Below w.heap.size w w') :
  Calls Tryd.prog 14 #[.string s] w fun e w' => ∃ v, e = .returned (.tuple #[v, .int .i64 ec]) ∧ Kd.R k54 54 w' w.heap.size (fun _ => True) v l ∧ Below w.heap.size w w' := by
 have HW := Aside0.mk hW
 have HB := Aside0.mk (Below.refl w.heap.size w)
 have HRES := Aside0.mk hres
 have HNA := Aside0.mk hna
 have HFI := Aside0.mk hfi
 have HPA0 := Aside0.mk hpa
 have HSV0 := Aside0.mk hsv
 have HNE := Aside0.mk hne
 have hlen : (texts toks).length = toks.length := by unfold texts; rw [List.length_map]
 have t1 : decide ((toks.length : Int) < 30) = false := decide_eq_false (by omega)
 have t2 : (((toks.length : Int) - 4).tmod 26 != 0) = false := bne_eq_false_iff_eq.mpr (by rw [Int.tmod_eq_emod_of_nonneg (by omega)]; omega)
 have t3 : ((toks.length : Int) - 4).tmod 26 = 0 := by rw [Int.tmod_eq_emod_of_nonneg (by omega)]; omega
 obtain ⟨nm, hnm⟩ : ∃ nm, wat (texts toks) (toks.length - 1) = nm := ⟨_, rfl⟩
 have hx : (nm.toList == [125]) = true := by rw [← hnm]; exact hlast
 have hnm0 := hlast
 have q1 := eq_true (show (0 : Int) ≤ (toks.length : Int) - 1 by omega)
 have q2 := eq_true (show (toks.length : Int) - 1 < (toks.length : Int) by omega)
 have q3 : ((toks.length : Int) - 1).toNat = toks.length - 1 := by omega
 have q4 := eq_true (show toks.length - 1 < toks.length by omega)
 clear hW hres hna hne hfi hpa hsv
 go_enter Tryd.func14, Tryd.ntmps14
 go_wp2_with (first | (go_at_call 11; refine (HW.out _).mono ?_; rintro e wq1 ⟨v0, rfl, hR, hb2⟩; obtain ⟨At, ct, rfl, hct, hCt⟩ := Kd.R_reads hR; have HCT := Aside0.mk hCt; clear hR hCt; have n0_ := Aside0.mk (below_step (by repeat (first | (with_reducible first | exact HB.out | apply below_alloc | apply pw_below_drewN | apply below_drew1) | exact HB.out)) hb2); clear HB; have HB := n0_; clear n0_ hb2) | ((with_reducible refine gate_dst (N := 28) rfl ?_); refine Kd.R_lit Kd.string _ 9 ?hg (N := 28) ?hd (xs := ([(⟨#[116, 121, 112, 101]⟩ : ByteArray), (⟨#[77, 117, 116, 97, 116, 105, 111, 110]⟩ : ByteArray), (⟨#[123]⟩ : ByteArray)] : List ByteArray)) (inner := [.string (⟨#[116, 121, 112, 101]⟩ : ByteArray), .string (⟨#[77, 117, 116, 97, 116, 105, 111, 110]⟩ : ByteArray), .string (⟨#[123]⟩ : ByteArray)]) (ok := fun _ => True) (okp := fun _ => False) ?hr ?hp (fun _ hk => hk.elim) trivial (Below.refl _ _) (Nat.le_refl _) (by simp) ?_; (case hd => rfl); (case hg => rfl); (case hr => first | (go_simp; done) | (go_simp; rfl)); (case hp => exact (Reps.one (show Kd.M Kd.string _ _ _ ((⟨#[116, 121, 112, 101]⟩ : ByteArray) : ByteArray) [.string ((⟨#[116, 121, 112, 101]⟩ : ByteArray))] from rfl) (Reps.one (show Kd.M Kd.string _ _ _ ((⟨#[77, 117, 116, 97, 116, 105, 111, 110]⟩ : ByteArray) : ByteArray) [.string ((⟨#[77, 117, 116, 97, 116, 105, 111, 110]⟩ : ByteArray))] from rfl) (Reps.one (show Kd.M Kd.string _ _ _ ((⟨#[123]⟩ : ByteArray) : ByteArray) [.string ((⟨#[123]⟩ : ByteArray))] from rfl) (Reps.none _ _))))); intro v28_ wq2 ho hb2 hg_ hnew_; obtain ⟨A3, c3, rfl, hc3, hC3⟩ := Kd.R_reads ho; have HC3 := Aside0.mk hC3; have n1_ := Aside0.mk (Kd.C_below HCT.out (below_step (by repeat (first | exact Below.refl _ _ | apply below_alloc | apply pw_below_drewN | apply below_drew1)) hb2)); clear HCT; have HCT := n1_; clear n1_ hg_ hnew_ ho hC3; have n0_ := Aside0.mk (below_step (by repeat (first | (with_reducible first | exact HB.out | apply below_alloc | apply pw_below_drewN | apply below_drew1) | exact HB.out)) hb2); clear HB; have HB := n0_; clear n0_ hb2) | (go_at_call 31; refine (amanuensisref4_form.calls fm _ rfl).mono ?_; rintro e wq3 ⟨v9, rfl, hR9, hb2⟩; obtain ⟨Af, cf, rfl, hcf, hCf⟩ := Kd.R_reads hR9; have n1_ := Aside0.mk (Kd.C_below HCT.out hb2); have n2_ := Aside0.mk (Kd.C_below HC3.out hb2); clear HCT HC3; have HCT := n1_; have HC3 := n2_; clear n1_ n2_ hR9 hCf; have n0_ := Aside0.mk (below_step (by repeat (first | (with_reducible first | exact HB.out | apply below_alloc | apply pw_below_drewN | apply below_drew1) | exact HB.out)) hb2); clear HB; have HB := n0_; clear n0_ hb2; obtain ⟨ad, ead, hlast⟩ := tok_at HCT.out (toks.length - 1) (by omega); cases ead; rw [hnm] at hlast; rw [show fm.length = 25 from rfl]))
 have HBX := HB
 clear HB
 have HB := Aside0.mk (Below.refl wq3.heap.size wq3)
 clear q1 q2 q3 q4 hx t2 t3
 have hwell : ∀ i : Nat, i < 3 → ((wat (texts toks) i).toList == (wat W0 i).toList) = false → l = [] ∧ ec = 4 := fun i hi he => by
  have h1 : rwell (texts toks) = false := by
   unfold rwell
   rcases (show i = 0 ∨ i = 1 ∨ i = 2 by omega) with rfl | rfl | rfl <;> rw [he] <;> simp
  have h2 := HRES.out
  unfold rread at h2
  rw [h1] at h2
  have h3 : (([] : List S54), (4 : Int)) = (l, ec) := h2
  injection h3 with h4 h5
  exact ⟨h4.symm, h5.symm⟩
 go_loopg [9] 3 (fun kq v9 w' => ∃ i : Nat, v9 = .int .i64 i ∧ i + kq = 3 ∧ Aside0 (∀ j : Nat, j < i → ((wat (texts toks) j).toList == (wat W0 j).toList) = true) ∧ Aside0 (Below wq3.heap.size wq3 w'))
 case atStart => exact ⟨0, rfl, by omega, ⟨fun j hj => by omega⟩, ⟨(by repeat (first | (with_reducible first | exact HB.out | apply below_alloc | apply pw_below_drewN | apply below_drew1) | exact HB.out))⟩⟩
 case round =>
  clear HB
  obtain ⟨i, rfl, hi, HE, HB⟩ := hrel
  by_cases hi3 : i < 3
  ·
   have c1 : decide ((i : Int) < 3) = true := decide_eq_true (by omega)
   obtain ⟨k1, rfl⟩ : ∃ k1, gk = k1 + 1 := ⟨gk - 1, by omega⟩
   obtain ⟨at_a, eat, hc1⟩ := tok_at HCT.out i (by omega)
   obtain ⟨a3, ea3, hc2_⟩ := str_at HC3.out (i : Int) (by omega) (by show (i : Int) < 3; omega)
   have hc2 : wq3.cell? (a3.add i) = some (.string (wat W0 i)) := by rw [Int.toNat_natCast] at hc2_; exact hc2_
   clear hc2_
   cases eat
   cases ea3
   have r1 := eq_true (show (0 : Int) ≤ (i : Int) by omega)
   have r2 := eq_true (show (i : Int) < (toks.length : Int) by omega)
   have r3 := eq_true (show i < toks.length by omega)
   have r4 := eq_true (show (i : Int) < 3 by omega)
   have r5 := eq_true hi3
   cases he : ((wat (texts toks) i).toList == (wat W0 i).toList) with
   | false =>
    have hbn : ((wat (texts toks) i).toList != (wat W0 i).toList) = true := by unfold bne; rw [he]; rfl
    obtain ⟨rfl, rfl⟩ := hwell i hi3 he
    go_wp2
    have hb5 : Below wr.heap.size wr wr.drew := below_drew1 (Below.refl _ _)
    have HBV := Aside0.mk (below_step HB.out hb5)
    have hs0 := pw_cell_below (below_step HB.out hb5) hc1
    have hs1 := pw_cell_below (below_step HB.out hb5) hc2
    clear hb5 HB
    refine start_ (n := 10) (S := fun w' => w'.cell? (ad.add (i * 2)) = some (.string (wat (texts toks) i)) ∧ w'.cell? (a3.add i) = some (.string (wat W0 i))) (ds := []) #[false, false, false, false, false, false, false, false, false, false] (by kernel_rfl) rfl rfl ⟨hs0, hs1⟩ (fun hHeld => ?_)
    generalize wr.drew = w5 at HBV hs0 hs1 hHeld ⊢
    refine pure_ (i := 0) (N := some 59) (v := ?_) (a' := ?_) #[true, false, false, false, false, false, false, false, false, false] rfl rfl (by kernel_rfl) (fun _ _ _ h => h) (Or.inl ⟨by rfl, ?_⟩) ?_ ?_
    rotate_left
    ·
     intro w'
     go_simp
     with_reducible rfl
    rotate_left
    ·
     simp only [Act.put, List.setIfInBounds_toArray, List.set_cons_zero, List.set_cons_succ, i64_w, i32_w]
     rfl
    refine pure_ (i := 1) (N := some 60) (v := ?_) (a' := ?_) #[true, true, false, false, false, false, false, false, false, false] rfl rfl (by kernel_rfl) (fun _ _ _ h => h) (Or.inl ⟨by rfl, ?_⟩) ?_ ?_
    rotate_left
    ·
     intro w'
     go_simp
     with_reducible rfl
    rotate_left
    ·
     simp only [Act.put, List.setIfInBounds_toArray, List.set_cons_zero, List.set_cons_succ, i64_w, i32_w]
     rfl
    refine pure_ (i := 2) (N := some 61) (v := ?_) (a' := ?_) #[true, true, true, false, false, false, false, false, false, false] rfl rfl (by kernel_rfl) (fun _ _ _ h => h) (Or.inl ⟨by rfl, ?_⟩) ?_ ?_
    rotate_left
    ·
     intro w'
     go_simp
     with_reducible rfl
    rotate_left
    ·
     simp only [Act.put, List.setIfInBounds_toArray, List.set_cons_zero, List.set_cons_succ, i64_w, i32_w]
     rfl
    refine pure_ (i := 3) (N := some 62) (v := ?_) (a' := ?_) #[true, true, true, true, false, false, false, false, false, false] rfl rfl (by kernel_rfl) (fun _ _ _ h => h) (Or.inl ⟨by rfl, ?_⟩) ?_ ?_
    rotate_left
    ·
     intro w'
     go_simp
     with_reducible rfl
    rotate_left
    ·
     simp only [Act.put, List.setIfInBounds_toArray, List.set_cons_zero, List.set_cons_succ, i64_w, i32_w]
     rfl
    refine take_ (i := 4) (N := some 63) (v := ?_) (a' := ?_) #[true, true, true, true, true, false, false, false, false, false] rfl rfl (by kernel_rfl) (fun _ _ _ h => h) (Or.inl ⟨by rfl, ?_⟩) hHeld ?_ ?_
    rotate_left
    ·
     rintro w' ⟨s0, s1⟩
     go_simp
     with_reducible rfl
    rotate_left
    ·
     simp only [Act.put, List.setIfInBounds_toArray, List.set_cons_zero, List.set_cons_succ, i64_w, i32_w]
     rfl
    refine pure_ (i := 5) (N := some 64) (v := ?_) (a' := ?_) #[true, true, true, true, true, true, false, false, false, false] rfl rfl (by kernel_rfl) (fun _ _ _ h => h) (Or.inl ⟨by rfl, ?_⟩) ?_ ?_
    rotate_left
    ·
     intro w'
     go_simp
     with_reducible rfl
    rotate_left
    ·
     simp only [Act.put, List.setIfInBounds_toArray, List.set_cons_zero, List.set_cons_succ, i64_w, i32_w]
     rfl
    refine pure_ (i := 6) (N := some 65) (v := ?_) (a' := ?_) #[true, true, true, true, true, true, true, false, false, false] rfl rfl (by kernel_rfl) (fun _ _ _ h => h) (Or.inl ⟨by rfl, ?_⟩) ?_ ?_
    rotate_left
    ·
     intro w'
     go_simp
     with_reducible rfl
    rotate_left
    ·
     simp only [Act.put, List.setIfInBounds_toArray, List.set_cons_zero, List.set_cons_succ, i64_w, i32_w]
     rfl
    refine pure_ (i := 7) (N := some 66) (v := ?_) (a' := ?_) #[true, true, true, true, true, true, true, true, false, false] rfl rfl (by kernel_rfl) (fun _ _ _ h => h) (Or.inl ⟨by rfl, ?_⟩) ?_ ?_
    rotate_left
    ·
     intro w'
     go_simp
     with_reducible rfl
    rotate_left
    ·
     simp only [Act.put, List.setIfInBounds_toArray, List.set_cons_zero, List.set_cons_succ, i64_w, i32_w]
     rfl
    refine take_ (i := 8) (N := some 67) (v := ?_) (a' := ?_) #[true, true, true, true, true, true, true, true, true, false] rfl rfl (by kernel_rfl) (fun _ _ _ h => h) (Or.inl ⟨by rfl, ?_⟩) hHeld ?_ ?_
    rotate_left
    ·
     rintro w' ⟨s0, s1⟩
     go_simp
     with_reducible rfl
    rotate_left
    ·
     simp only [Act.put, List.setIfInBounds_toArray, List.set_cons_zero, List.set_cons_succ, i64_w, i32_w]
     rfl
    refine pure_ (i := 9) (N := some 68) (v := ?_) (a' := ?_) #[true, true, true, true, true, true, true, true, true, true] rfl rfl (by kernel_rfl) (fun _ _ _ h => h) (Or.inl ⟨by rfl, ?_⟩) ?_ ?_
    rotate_left
    ·
     intro w'
     go_simp
     with_reducible rfl
    rotate_left
    ·
     simp only [Act.put, List.setIfInBounds_toArray, List.set_cons_zero, List.set_cons_succ, i64_w, i32_w]
     rfl
    refine done_ (by kernel_rfl) ?_
    have HB := HBV
    clear HBV hs0 hs1
    go_wp2
    go_ret2
    exact ⟨_, rfl, Kd.R_nil _ _ _ _ _, below_step HBX.out (by repeat (first | (with_reducible first | exact HB.out | apply below_alloc | apply pw_below_drewN | apply below_drew1) | exact HB.out))⟩
   | true =>
    have hbn : ((wat (texts toks) i).toList != (wat W0 i).toList) = false := by unfold bne; rw [he]; rfl
    have HE2 : Aside0 (∀ j : Nat, j < i + 1 → ((wat (texts toks) j).toList == (wat W0 j).toList) = true) := ⟨fun j hj => by
     by_cases e : j = i
     ·
      rw [e]; exact he
     ·
      exact HE.out j (by omega)⟩
    go_wp2
    have hb5 : Below wr.heap.size wr wr.drew := below_drew1 (Below.refl _ _)
    have HBV := Aside0.mk (below_step HB.out hb5)
    have hs0 := pw_cell_below (below_step HB.out hb5) hc1
    have hs1 := pw_cell_below (below_step HB.out hb5) hc2
    clear hb5 HB
    refine start_ (n := 10) (S := fun w' => w'.cell? (ad.add (i * 2)) = some (.string (wat (texts toks) i)) ∧ w'.cell? (a3.add i) = some (.string (wat W0 i))) (ds := []) #[false, false, false, false, false, false, false, false, false, false] (by kernel_rfl) rfl rfl ⟨hs0, hs1⟩ (fun hHeld => ?_)
    generalize wr.drew = w5 at HBV hs0 hs1 hHeld ⊢
    refine pure_ (i := 0) (N := some 59) (v := ?_) (a' := ?_) #[true, false, false, false, false, false, false, false, false, false] rfl rfl (by kernel_rfl) (fun _ _ _ h => h) (Or.inl ⟨by rfl, ?_⟩) ?_ ?_
    rotate_left
    ·
     intro w'
     go_simp
     with_reducible rfl
    rotate_left
    ·
     simp only [Act.put, List.setIfInBounds_toArray, List.set_cons_zero, List.set_cons_succ, i64_w, i32_w]
     rfl
    refine pure_ (i := 1) (N := some 60) (v := ?_) (a' := ?_) #[true, true, false, false, false, false, false, false, false, false] rfl rfl (by kernel_rfl) (fun _ _ _ h => h) (Or.inl ⟨by rfl, ?_⟩) ?_ ?_
    rotate_left
    ·
     intro w'
     go_simp
     with_reducible rfl
    rotate_left
    ·
     simp only [Act.put, List.setIfInBounds_toArray, List.set_cons_zero, List.set_cons_succ, i64_w, i32_w]
     rfl
    refine pure_ (i := 2) (N := some 61) (v := ?_) (a' := ?_) #[true, true, true, false, false, false, false, false, false, false] rfl rfl (by kernel_rfl) (fun _ _ _ h => h) (Or.inl ⟨by rfl, ?_⟩) ?_ ?_
    rotate_left
    ·
     intro w'
     go_simp
     with_reducible rfl
    rotate_left
    ·
     simp only [Act.put, List.setIfInBounds_toArray, List.set_cons_zero, List.set_cons_succ, i64_w, i32_w]
     rfl
    refine pure_ (i := 3) (N := some 62) (v := ?_) (a' := ?_) #[true, true, true, true, false, false, false, false, false, false] rfl rfl (by kernel_rfl) (fun _ _ _ h => h) (Or.inl ⟨by rfl, ?_⟩) ?_ ?_
    rotate_left
    ·
     intro w'
     go_simp
     with_reducible rfl
    rotate_left
    ·
     simp only [Act.put, List.setIfInBounds_toArray, List.set_cons_zero, List.set_cons_succ, i64_w, i32_w]
     rfl
    refine take_ (i := 4) (N := some 63) (v := ?_) (a' := ?_) #[true, true, true, true, true, false, false, false, false, false] rfl rfl (by kernel_rfl) (fun _ _ _ h => h) (Or.inl ⟨by rfl, ?_⟩) hHeld ?_ ?_
    rotate_left
    ·
     rintro w' ⟨s0, s1⟩
     go_simp
     with_reducible rfl
    rotate_left
    ·
     simp only [Act.put, List.setIfInBounds_toArray, List.set_cons_zero, List.set_cons_succ, i64_w, i32_w]
     rfl
    refine pure_ (i := 5) (N := some 64) (v := ?_) (a' := ?_) #[true, true, true, true, true, true, false, false, false, false] rfl rfl (by kernel_rfl) (fun _ _ _ h => h) (Or.inl ⟨by rfl, ?_⟩) ?_ ?_
    rotate_left
    ·
     intro w'
     go_simp
     with_reducible rfl
    rotate_left
    ·
     simp only [Act.put, List.setIfInBounds_toArray, List.set_cons_zero, List.set_cons_succ, i64_w, i32_w]
     rfl
    refine pure_ (i := 6) (N := some 65) (v := ?_) (a' := ?_) #[true, true, true, true, true, true, true, false, false, false] rfl rfl (by kernel_rfl) (fun _ _ _ h => h) (Or.inl ⟨by rfl, ?_⟩) ?_ ?_
    rotate_left
    ·
     intro w'
     go_simp
     with_reducible rfl
    rotate_left
    ·
     simp only [Act.put, List.setIfInBounds_toArray, List.set_cons_zero, List.set_cons_succ, i64_w, i32_w]
     rfl
    refine pure_ (i := 7) (N := some 66) (v := ?_) (a' := ?_) #[true, true, true, true, true, true, true, true, false, false] rfl rfl (by kernel_rfl) (fun _ _ _ h => h) (Or.inl ⟨by rfl, ?_⟩) ?_ ?_
    rotate_left
    ·
     intro w'
     go_simp
     with_reducible rfl
    rotate_left
    ·
     simp only [Act.put, List.setIfInBounds_toArray, List.set_cons_zero, List.set_cons_succ, i64_w, i32_w]
     rfl
    refine take_ (i := 8) (N := some 67) (v := ?_) (a' := ?_) #[true, true, true, true, true, true, true, true, true, false] rfl rfl (by kernel_rfl) (fun _ _ _ h => h) (Or.inl ⟨by rfl, ?_⟩) hHeld ?_ ?_
    rotate_left
    ·
     rintro w' ⟨s0, s1⟩
     go_simp
     with_reducible rfl
    rotate_left
    ·
     simp only [Act.put, List.setIfInBounds_toArray, List.set_cons_zero, List.set_cons_succ, i64_w, i32_w]
     rfl
    refine pure_ (i := 9) (N := some 68) (v := ?_) (a' := ?_) #[true, true, true, true, true, true, true, true, true, true] rfl rfl (by kernel_rfl) (fun _ _ _ h => h) (Or.inl ⟨by rfl, ?_⟩) ?_ ?_
    rotate_left
    ·
     intro w'
     go_simp
     with_reducible rfl
    rotate_left
    ·
     simp only [Act.put, List.setIfInBounds_toArray, List.set_cons_zero, List.set_cons_succ, i64_w, i32_w]
     rfl
    refine done_ (by kernel_rfl) ?_
    have HB := HBV
    clear HBV hs0 hs1
    go_wp2
    go_roundg k1
    case measure => omega
    case rel => exact ⟨i + 1, by first | rfl | (simp only [Int.natCast_add]; done) | (simp only [Int.natCast_add]; rfl), by omega, HE2, ⟨(by repeat (first | (with_reducible first | exact HB.out | apply below_alloc | apply pw_below_drewN | apply below_drew1) | exact HB.out))⟩⟩
  ·
   have ei : i = 3 := by omega
   subst ei
   have hw : rwell (texts toks) = true := by
    unfold rwell
    rw [hlen, hnm0, HE.out 0 (by omega), HE.out 1 (by omega), HE.out 2 (by omega), decide_eq_true hl, decide_eq_true hr]
    rfl
   have HRR : Aside0 ((match router (texts toks) ((toks.length - 4) / 26) 3 [] with
    | none => (([] : List S54), (4 : Int))
    | some l => rfields l) = (l, ec)) := ⟨by
     have h2 := HRES.out
     unfold rread at h2
     rw [hw, if_pos rfl, hlen] at h2
     exact h2⟩
   clear HRES HE hwell
   have HCTb := Aside0.mk (Kd.C_below HCT.out HB.out)
   have HBW := Aside0.mk (below_step HBX.out HB.out)
   clear HCT HC3 HB HBX hlast
   obtain ⟨M, hM⟩ : ∃ M, (toks.length - 4) / 26 = M := ⟨_, rfl⟩
   rw [hM] at HRR
   have HM2 : Aside0 (toks.length = 4 + 26 * M) := ⟨by omega⟩
   clear hM
   generalize wr = wb at HCTb HBW ⊢
   go_wp2
   go_loopg [10, 11] M (fun kq v10 v11 w' => ∃ (i a : Nat) (rows : List (List ByteArray)), v11 = .int .i64 a ∧ a = 3 + 26 * i ∧ i + kq = M ∧ rows.length ≤ i ∧ Aside0 (∀ f ∈ rows, f.length = 4) ∧ Aside0 ((match router (texts toks) (M - i) a rows with
    | none => (([] : List S54), (4 : Int))
    | some l => rfields l) = (l, ec)) ∧ Aside0 (Kd.R (Kd.slice 9 Kd.string) 22 w' wb.heap.size (fun _ => True) v10 rows) ∧ Aside0 (Below wb.heap.size wb w'))
   case atStart => exact ⟨0, 3, [], rfl, rfl, by omega, by simp, ⟨fun f hf => by simp at hf⟩, HRR, ⟨Kd.R_nil _ _ _ _ _⟩, ⟨Below.refl _ _⟩⟩
   case round =>
    clear HRR
    obtain ⟨i, a, rows, rfl, ha, hiM, hrl, HR4, HRR, HRO, HB⟩ := hrel
    have hM2 := HM2.out
    by_cases hi : i < M
    ·
     have hal : a + 26 < toks.length := by omega
     have hrb : rows.length ≤ 100000 := by omega
     have HAI := Aside0.mk ha
     clear ha hM2
     have c2 : decide ((a : Int) + 1 < (toks.length : Int)) = true := decide_eq_true (by omega)
     obtain ⟨k1, rfl⟩ : ∃ k1, gk = k1 + 1 := ⟨gk - 1, by omega⟩
     obtain ⟨ad2, ead2, hna0⟩ := tok_at HCTb.out a (by omega)
     cases ead2
     have hna := pw_cell_below HB.out hna0
     clear hna0
     have HNM := Aside0.mk (HNA.out a (by omega))
     obtain ⟨nm1, hnm1⟩ : ∃ nm1, wat (texts toks) a = nm1 := ⟨_, rfl⟩
     rw [hnm1] at hna HNM
     have r1 := eq_true (show (0 : Int) ≤ (a : Int) by omega)
     have r2 := eq_true (show (a : Int) < (toks.length : Int) by omega)
     have r3 := eq_true (show a < toks.length by omega)
     have hrs : router (texts toks) (M - i) a rows = if isName nm1 then match rinner (texts toks) a 25 0 [nm1] with
      | none => none
      | some f => router (texts toks) (M - (i + 1)) (a + 26) (rows ++ [f])
      else none := by
      rw [show M - i = (M - (i + 1)) + 1 by omega, ← hnm1]
      rfl
     replace HRR := Aside0.mk (hrs ▸ HRR.out)
     clear hrs
     generalize wr = wk at HRO HB hna ⊢
     cases hn : isName nm1 with
     | false =>
      rw [hn] at HRR HNM
      have h2 := HRR.out
      have h3 : (([] : List S54), (4 : Int)) = (l, ec) := h2
      cases h3
      clear h2 HRR
      go_wp2_with (first | ((with_reducible refine gate_dst (N := 82) rfl ?_); refine Kd.R_lit Kd.string wk.heap.size 9 ?hg (N := 82) ?hd (xs := ([nm1] : List ByteArray)) (inner := [.string nm1]) (ok := fun k => wk.heap.size ≤ k) (okp := fun _ => False) ?hr ?hp (fun _ hk => hk.elim) (Nat.le_refl _) (Below.refl _ _) (Nat.le_refl _) (by simp) ?_; (case hd => rfl); (case hg => rfl); (case hr => first | (go_simp; done) | (go_simp; rfl)); (case hp => exact (Reps.one (show Kd.M Kd.string _ _ _ (nm1 : ByteArray) [.string (nm1)] from rfl) (Reps.none _ _))); intro v82_ wf ho hb2 hg_ hnew_; have HRF := Aside0.mk ho; obtain ⟨Af, cf, rfl, hcf, hCf⟩ := Kd.R_reads ho; obtain ⟨af, eaf, hf0⟩ := str_at hCf 0 (by omega) (by show (0 : Int) < 1; decide); cases eaf; have hf0b : wf.cell? af = some (.string nm1) := (by have h9 := hf0; simp only [show ((0 : Int)).toNat = 0 from rfl, Addr.add_zero'] at h9; exact h9); have HBF := Aside0.mk hb2; clear hg_ hnew_ ho hCf hb2 hf0) | (go_at_call 29; refine (HNM.out _).mono ?_; rintro e wq5 ⟨rfl, hb2⟩; have n0_ := Aside0.mk (below_step (by repeat (first | exact HBF.out | exact Below.refl _ _ | apply below_alloc | apply pw_below_drewN | apply below_drew1)) hb2); have n1_ := Aside0.mk (Kd.R_below HRF.out hb2); clear HBF HRF; have HBF := n0_; have HRF := n1_; clear n0_ n1_ hb2))
      go_ret2
      exact ⟨_, rfl, Kd.R_nil _ _ _ _ _, below_step HBW.out (below_step HB.out HBF.out)⟩
     | true =>
      rw [hn] at HRR HNM
      obtain ⟨G, hG⟩ : ∃ G, rinner (texts toks) a 25 0 [nm1] = G := ⟨_, rfl⟩
      rw [if_pos rfl, hG] at HRR
      go_wp2_with (first | ((with_reducible refine gate_dst (N := 82) rfl ?_); refine Kd.R_lit Kd.string wk.heap.size 9 ?hg (N := 82) ?hd (xs := ([nm1] : List ByteArray)) (inner := [.string nm1]) (ok := fun k => wk.heap.size ≤ k) (okp := fun _ => False) ?hr ?hp (fun _ hk => hk.elim) (Nat.le_refl _) (Below.refl _ _) (Nat.le_refl _) (by simp) ?_; (case hd => rfl); (case hg => rfl); (case hr => first | (go_simp; done) | (go_simp; rfl)); (case hp => exact (Reps.one (show Kd.M Kd.string _ _ _ (nm1 : ByteArray) [.string (nm1)] from rfl) (Reps.none _ _))); intro v82_ wf ho hb2 hg_ hnew_; have HRF := Aside0.mk ho; obtain ⟨Af, cf, rfl, hcf, hCf⟩ := Kd.R_reads ho; obtain ⟨af, eaf, hf0⟩ := str_at hCf 0 (by omega) (by show (0 : Int) < 1; decide); cases eaf; have hf0b : wf.cell? af = some (.string nm1) := (by have h9 := hf0; simp only [show ((0 : Int)).toNat = 0 from rfl, Addr.add_zero'] at h9; exact h9); have HBF := Aside0.mk hb2; clear hg_ hnew_ ho hCf hb2 hf0) | (go_at_call 29; refine (HNM.out _).mono ?_; rintro e wq5 ⟨rfl, hb2⟩; have n0_ := Aside0.mk (below_step (by repeat (first | exact HBF.out | exact Below.refl _ _ | apply below_alloc | apply pw_below_drewN | apply below_drew1)) hb2); have n1_ := Aside0.mk (Kd.R_below HRF.out hb2); clear HBF HRF; have HBF := n0_; have HRF := n1_; clear n0_ n1_ hb2))
      have HTF := Aside0.mk (Kd.C_below HCTb.out HB.out)
      have hone : ([nm1] : List ByteArray).length = 1 + kB 0 := rfl
      have HJ : Aside0 (rinner (texts toks) a (25 - 0) 0 [nm1] = G) := ⟨hG⟩
      clear hG hna hf0b
      go_loopg [12, 13] 25 (fun kq v12 v13 w' => ∃ (j : Nat) (f : List ByteArray), v13 = .int .i64 j ∧ j + kq = 25 ∧ f.length = 1 + kB j ∧ f.length ≤ 1 + j ∧ Aside0 (rinner (texts toks) a (25 - j) j f = G) ∧ Aside0 (Kd.R Kd.string 9 w' wk.heap.size (fun k => wk.heap.size ≤ k) v12 f) ∧ Aside0 (Below wk.heap.size wk w'))
      case atStart => exact ⟨0, [nm1], rfl, by omega, hone, by simp, HJ, HRF, ⟨(by repeat (first | exact HBF.out | exact Below.refl _ _ | apply below_alloc | apply pw_below_drewN | apply below_drew1))⟩⟩
      case round =>
       clear HBF HRF HJ hone
       obtain ⟨j, f, rfl, hjq, hfl, hfl2, HJ, HRF, HBF⟩ := hrel
       by_cases hj : j < 25
       ·
        have c3_ : decide ((j : Int) < 25) = true := decide_eq_true (by omega)
        obtain ⟨k2, rfl⟩ : ∃ k2, gk = k2 + 1 := ⟨gk - 1, by omega⟩
        have hj25 : (j : Int) < (fm.length : Int) := by show (j : Int) < 25; omega
        obtain ⟨ad3, ead3, hxa0⟩ := tok_at HTF.out (a + 1 + j) (by omega)
        cases ead3
        have hxa := pw_cell_below HBF.out hxa0
        obtain ⟨x, hxx⟩ : ∃ x, wat (texts toks) (a + 1 + j) = x := ⟨_, rfl⟩
        have HNX := Aside0.mk (HNA.out (a + 1 + j) (by omega))
        have HXN := Aside0.mk (HNE.out (a + 1 + j) (by omega))
        rw [hxx] at hxa0 hxa HNX HXN
        have hst : rinner (texts toks) a (25 - j) j f = if isB j && isName x then rinner (texts toks) a (25 - (j + 1)) (j + 1) (f ++ [x]) else if (fw j).toList == x.toList then rinner (texts toks) a (25 - (j + 1)) (j + 1) f else none := by
         rw [show 25 - j = (25 - (j + 1)) + 1 by omega, ← hxx]
         rfl
        replace HJ := Aside0.mk (hst ▸ HJ.out)
        clear hst hxx
        have e1 : (a : Int) + 1 + (j : Int) = ((a + 1 + j : Nat) : Int) := by omega
        have s1 := eq_true (show (0 : Int) ≤ (a : Int) + 1 + (j : Int) by omega)
        have s2 := eq_true (show (a : Int) + 1 + (j : Int) < (toks.length : Int) by omega)
        have s3 : ((a : Int) + 1 + (j : Int)).toNat = a + 1 + j := by omega
        have s4 := eq_true (show a + 1 + j < toks.length by omega)
        have s5 := eq_true (show (0 : Int) ≤ (j : Int) by omega)
        have s6 := eq_true (show (j : Int) < 25 by omega)
        have s7 := eq_true hj
        clear e1
        cases hb : isB j with
        | true =>
         have he : (fw j).toList.isEmpty = true := by rw [toL_eq]; exact hb
         have hk1 : kB (j + 1) = kB j + 1 := by show (if isB j then kB j + 1 else kB j) = _; rw [if_pos hb]
         cases hnx : isName x with
         | true =>
          rw [hnx] at HNX
          rw [hb, hnx] at HJ
          replace HJ : Aside0 (rinner (texts toks) a (25 - (j + 1)) (j + 1) (f ++ [x]) = G) := ⟨HJ.out⟩
          go_wp2_with (first | (go_at_call 31; refine (amanuensisref4_form.calls fm _ rfl).mono ?_; rintro e wq7 ⟨v9, rfl, hR9, hb2⟩; obtain ⟨Ag, cg, rfl, hcg, hCg⟩ := Kd.R_reads hR9; obtain ⟨ag, eag, hg0⟩ := str_at hCg (j : Int) (by omega) hj25; cases eag; rw [Int.toNat_natCast] at hg0; have hg2 : wq7.cell? (ag.add j) = some (.string (fw j)) := hg0; clear hg0 hR9 hCg; have n0_ := Aside0.mk (below_step (by repeat (first | exact HBF.out | exact Below.refl _ _ | apply below_alloc | apply pw_below_drewN | apply below_drew1)) hb2); have n1_ := Aside0.mk (Kd.R_below (by (with_reducible repeat (first | apply Kd.R_alloc | apply Kd.R_drewN | apply Kd.R_drew)); exact HRF.out) hb2); clear HBF HRF; have HBF := n0_; have HRF := n1_; clear n0_ n1_ hb2; (try clear hxa); have hxa := pw_cell_below HBF.out hxa0; rw [show fm.length = 25 from rfl]) | (go_at_call 29; refine (HNX.out _).mono ?_; rintro e wq8 ⟨rfl, hb2⟩; have n0_ := Aside0.mk (below_step (by repeat (first | exact HBF.out | exact Below.refl _ _ | apply below_alloc | apply pw_below_drewN | apply below_drew1)) hb2); have n1_ := Aside0.mk (Kd.R_below (by (with_reducible repeat (first | apply Kd.R_alloc | apply Kd.R_drewN | apply Kd.R_drew)); exact HRF.out) hb2); clear HBF HRF; have HBF := n0_; have HRF := n1_; clear n0_ n1_ hb2; (try clear hxa); have hxa := pw_cell_below HBF.out hxa0) | ((with_reducible refine gate_builtin (b := .append) (xs := #[.tmp 111, .tmp 113]) rfl ?_); at_builtin; refine Kd.R_append Kd.string (w0 := wk) wk.heap.size rfl (.tmp 111) (.tmp 113) 22 9 (.string ⟨#[]⟩) 16 rfl Tryd.underlying22 info9 rfl (by decide) (by omega) u12 f x [.string x] (fun k => wk.heap.size ≤ k) (fun _ => False) rfl ?aX ?aP (fun _ hk => hk.elim) ?aF ?aO ?aB ?aS ?aL ?_; (case aX => rfl); (case aP => exact rfl); (case aB => exact HBF.out); (case aF => exact (fun k hk => Nat.le_trans (below_size HBF.out) hk)); (case aO => exact HRF.out); (case aS => exact (below_size HBF.out)); (case aL => omega); intro v34 w29 ho hb hg hat; clear HBF HRF; have HBF := Aside0.mk hb; have HRF := Aside0.mk ho; clear ho hb hg hat))
          go_roundg k2
          case measure => omega
          case rel => exact ⟨j + 1, _, by first | rfl | (simp only [Int.natCast_add]; done) | (simp only [Int.natCast_add]; rfl), by omega, by rw [List.length_append, List.length_singleton, hk1]; omega, by rw [List.length_append, List.length_singleton]; omega, HJ, HRF, HBF⟩
         | false =>
          rw [hnx] at HNX
          rw [hb, hnx] at HJ
          have hne : ((fw j).toList == x.toList) = false := by
           rw [beq_eq_false_iff_ne, toL_eq, toL_eq]
           intro h9
           have h8 := HXN.out
           rw [size_list, ← h9] at h8
           have h7 : (fw j).data.toList = [] := List.isEmpty_iff.mp hb
           rw [h7] at h8
           simp at h8
          have hbn : ((fw j).toList != x.toList) = true := by unfold bne; rw [hne]; rfl
          have hG0 : G = none := by
           have h9 := HJ.out
           rw [hne] at h9
           exact h9.symm
          subst hG0
          have h3 : (([] : List S54), (4 : Int)) = (l, ec) := HRR.out
          cases h3
          clear HRR HJ
          go_wp2_with (first | (go_at_call 31; refine (amanuensisref4_form.calls fm _ rfl).mono ?_; rintro e wq7 ⟨v9, rfl, hR9, hb2⟩; obtain ⟨Ag, cg, rfl, hcg, hCg⟩ := Kd.R_reads hR9; obtain ⟨ag, eag, hg0⟩ := str_at hCg (j : Int) (by omega) hj25; cases eag; rw [Int.toNat_natCast] at hg0; have hg2 : wq7.cell? (ag.add j) = some (.string (fw j)) := hg0; clear hg0 hR9 hCg; have n0_ := Aside0.mk (below_step (by repeat (first | exact HBF.out | exact Below.refl _ _ | apply below_alloc | apply pw_below_drewN | apply below_drew1)) hb2); have n1_ := Aside0.mk (Kd.R_below (by (with_reducible repeat (first | apply Kd.R_alloc | apply Kd.R_drewN | apply Kd.R_drew)); exact HRF.out) hb2); clear HBF HRF; have HBF := n0_; have HRF := n1_; clear n0_ n1_ hb2; (try clear hxa); have hxa := pw_cell_below HBF.out hxa0; rw [show fm.length = 25 from rfl]) | (go_at_call 29; refine (HNX.out _).mono ?_; rintro e wq8 ⟨rfl, hb2⟩; have n0_ := Aside0.mk (below_step (by repeat (first | exact HBF.out | exact Below.refl _ _ | apply below_alloc | apply pw_below_drewN | apply below_drew1)) hb2); have n1_ := Aside0.mk (Kd.R_below (by (with_reducible repeat (first | apply Kd.R_alloc | apply Kd.R_drewN | apply Kd.R_drew)); exact HRF.out) hb2); clear HBF HRF; have HBF := n0_; have HRF := n1_; clear n0_ n1_ hb2; (try clear hxa); have hxa := pw_cell_below HBF.out hxa0))
          go_ret2
          exact ⟨_, rfl, Kd.R_nil _ _ _ _ _, below_step HBW.out (below_step HB.out (by repeat (first | exact HBF.out | exact Below.refl _ _ | apply below_alloc | apply pw_below_drewN | apply below_drew1)))⟩
        | false =>
         have he : (fw j).toList.isEmpty = false := by rw [toL_eq]; exact hb
         have hk1 : kB (j + 1) = kB j := by show (if isB j then kB j + 1 else kB j) = _; rw [if_neg (by rw [hb]; decide)]
         rw [hb] at HJ
         cases hq : ((fw j).toList == x.toList) with
         | true =>
          have hbn : ((fw j).toList != x.toList) = false := by unfold bne; rw [hq]; rfl
          replace HJ : Aside0 (rinner (texts toks) a (25 - (j + 1)) (j + 1) f = G) := ⟨by have h9 := HJ.out; rw [hq] at h9; exact h9⟩
          go_wp2_with (first | (go_at_call 31; refine (amanuensisref4_form.calls fm _ rfl).mono ?_; rintro e wq7 ⟨v9, rfl, hR9, hb2⟩; obtain ⟨Ag, cg, rfl, hcg, hCg⟩ := Kd.R_reads hR9; obtain ⟨ag, eag, hg0⟩ := str_at hCg (j : Int) (by omega) hj25; cases eag; rw [Int.toNat_natCast] at hg0; have hg2 : wq7.cell? (ag.add j) = some (.string (fw j)) := hg0; clear hg0 hR9 hCg; have n0_ := Aside0.mk (below_step (by repeat (first | exact HBF.out | exact Below.refl _ _ | apply below_alloc | apply pw_below_drewN | apply below_drew1)) hb2); have n1_ := Aside0.mk (Kd.R_below (by (with_reducible repeat (first | apply Kd.R_alloc | apply Kd.R_drewN | apply Kd.R_drew)); exact HRF.out) hb2); clear HBF HRF; have HBF := n0_; have HRF := n1_; clear n0_ n1_ hb2; (try clear hxa); have hxa := pw_cell_below HBF.out hxa0; rw [show fm.length = 25 from rfl]))
          go_roundg k2
          case measure => omega
          case rel => exact ⟨j + 1, _, by first | rfl | (simp only [Int.natCast_add]; done) | (simp only [Int.natCast_add]; rfl), by omega, by rw [hk1]; exact hfl, by omega, HJ, HRF, HBF⟩
         | false =>
          have hbn : ((fw j).toList != x.toList) = true := by unfold bne; rw [hq]; rfl
          have hG0 : G = none := by
           have h9 := HJ.out
           rw [hq] at h9
           exact h9.symm
          subst hG0
          have h3 : (([] : List S54), (4 : Int)) = (l, ec) := HRR.out
          cases h3
          clear HRR HJ
          go_wp2_with (first | (go_at_call 31; refine (amanuensisref4_form.calls fm _ rfl).mono ?_; rintro e wq7 ⟨v9, rfl, hR9, hb2⟩; obtain ⟨Ag, cg, rfl, hcg, hCg⟩ := Kd.R_reads hR9; obtain ⟨ag, eag, hg0⟩ := str_at hCg (j : Int) (by omega) hj25; cases eag; rw [Int.toNat_natCast] at hg0; have hg2 : wq7.cell? (ag.add j) = some (.string (fw j)) := hg0; clear hg0 hR9 hCg; have n0_ := Aside0.mk (below_step (by repeat (first | exact HBF.out | exact Below.refl _ _ | apply below_alloc | apply pw_below_drewN | apply below_drew1)) hb2); have n1_ := Aside0.mk (Kd.R_below (by (with_reducible repeat (first | apply Kd.R_alloc | apply Kd.R_drewN | apply Kd.R_drew)); exact HRF.out) hb2); clear HBF HRF; have HBF := n0_; have HRF := n1_; clear n0_ n1_ hb2; (try clear hxa); have hxa := pw_cell_below HBF.out hxa0; rw [show fm.length = 25 from rfl]))
          go_ret2
          exact ⟨_, rfl, Kd.R_nil _ _ _ _ _, below_step HBW.out (below_step HB.out (by repeat (first | exact HBF.out | exact Below.refl _ _ | apply below_alloc | apply pw_below_drewN | apply below_drew1)))⟩
       ·
        have ej : j = 25 := by omega
        subst ej
        have hG1 : some f = G := HJ.out
        subst hG1
        have HRR2 : Aside0 ((match router (texts toks) (M - (i + 1)) (a + 26) (rows ++ [f]) with
         | none => (([] : List S54), (4 : Int))
         | some l => rfields l) = (l, ec)) := ⟨HRR.out⟩
        have hf4 : f.length = 4 := by rw [hfl]; rfl
        have HR42 : Aside0 (∀ g ∈ rows ++ [f], g.length = 4) := ⟨fun g hg => by
         rcases List.mem_append.mp hg with hg | hg
         ·
          exact HR4.out g hg
         ·
          rw [List.mem_singleton.mp hg]; exact hf4⟩
        have HOW : Aside0 (∀ k, wk.heap.size ≤ k → True ∧ some k ≠ u10.ownBlock) := ⟨fun k hk => ⟨trivial, fun h9 => by have := R_own_lt HRO.out k h9.symm; omega⟩⟩
        have HROw := Aside0.mk (Kd.R_below HRO.out HBF.out)
        obtain ⟨Aw, cw, ew⟩ := Kd.R_slice HRF.out
        subst ew
        clear HRR HJ HR4 HRO hfl hf4 hfl2
        go_wp2_with (first | (go_at_call 31; refine (amanuensisref4_form.calls fm _ rfl).mono ?_; rintro e wq7 ⟨v9, rfl, hR9, hb2⟩; obtain ⟨Ag, cg, rfl, hcg, hCg⟩ := Kd.R_reads hR9; have n0_ := Aside0.mk (below_step (by repeat (first | exact HBF.out | exact Below.refl _ _ | apply below_alloc | apply pw_below_drewN | apply below_drew1)) hb2); have n1_ := Aside0.mk (Kd.R_below HRF.out hb2); have n2_ := Aside0.mk (Kd.R_below HROw.out hb2); clear HBF HRF HROw; have HBF := n0_; have HRF := n1_; have HROw := n2_; clear n0_ n1_ n2_ hb2 hR9 hCg; rw [show fm.length = 25 from rfl]) | ((with_reducible refine gate_builtin (b := .append) (xs := #[.tmp 121, .tmp 123]) rfl ?_); at_builtin; refine Kd.R_append (Kd.slice 9 Kd.string) (w0 := wb) wb.heap.size rfl (.tmp 121) (.tmp 123) 78 22 (.slice none 0 0) 24 rfl Tryd.underlying78 info22 rfl (by decide) (by omega) u10 rows f [.slice Aw f.length cw] (fun _ => True) (fun k => wk.heap.size ≤ k) rfl ?aX ?aP HOW.out ?aF ?aO ?aB ?aS ?aL ?_; (case aX => rfl); (case aP => exact ⟨.slice Aw f.length cw, rfl, Kd.R_lower HRF.out (below_size HB.out)⟩); (case aB => exact (below_step HB.out HBF.out)); (case aF => exact (fun _ _ => trivial)); (case aO => exact HROw.out); (case aS => exact (below_size (below_step HB.out HBF.out))); (case aL => omega); intro v34 w29 ho hb hg hat; clear HBF HRF HB HROw HOW; have HB := Aside0.mk hb; have HRO := Aside0.mk ho; clear ho hb hg hat))
        go_roundg k1
        case measure => omega
        case rel => exact ⟨i + 1, a + 26, _, by first | rfl | (simp only [Int.natCast_add]; done) | (simp only [Int.natCast_add]; rfl), by have := HAI.out; omega, by omega, by rw [List.length_append, List.length_singleton]; omega, HR42, HRR2, HRO, HB⟩
    ·
     have ei : i = M := by omega
     subst ei
     have c2 : decide ((a : Int) + 1 < (toks.length : Int)) = false := decide_eq_false (by omega)
     have hrb : rows.length ≤ 100000 := by omega
     have hal : a + 1 ≤ toks.length := by omega
     have HF : Aside0 (rfields rows = (l, ec)) := ⟨by
      have h9 := HRR.out
      rw [Nat.sub_self] at h9
      exact h9⟩
     clear HRR ha hM2
     obtain ⟨Ar, cr, rfl, hcr, hCr⟩ := Kd.R_reads HRO.out
     have HCR := Aside0.mk hCr
     clear hCr
     by_cases h8 : 8 < rows.length
     ·
      have c3 : decide (8 < (rows.length : Int)) = true := decide_eq_true (by omega)
      have h9 : (([] : List S54), (2 : Int)) = (l, ec) := by
       rw [← HF.out]
       unfold rfields
       rw [if_pos h8]
      cases h9
      go_wp2
      go_ret2
      exact ⟨_, rfl, Kd.R_nil _ _ _ _ _, below_step HBW.out HB.out⟩
     ·
      have c3 : decide (8 < (rows.length : Int)) = false := decide_eq_false (by omega)
      have HG : Aside0 (rbuild rows [] = (l, ec)) := ⟨by
       rw [← HF.out]
       unfold rfields
       rw [if_neg h8]⟩
      have HBV := Aside0.mk (below_step HBW.out HB.out)
      clear HB HBW HF
      generalize wr = wv at HCR HBV ⊢
      go_wp2
      go_loopg [15, 16] rows.length (fun kq v15 v16 w' => ∃ (j : Nat) (l1 : List S54), v16 = .int .i64 j ∧ j ≤ rows.length ∧ j + kq = rows.length ∧ l1.length ≤ j ∧ Aside0 (rbuild (rows.drop j) l1 = (l, ec)) ∧ Aside0 (Kd.R k54 54 w' wv.heap.size (fun _ => True) v15 l1) ∧ Aside0 (Below wv.heap.size wv w'))
      case atStart => exact ⟨0, [], rfl, by omega, by omega, by simp, ⟨HG.out⟩, ⟨Kd.R_nil _ _ _ _ _⟩, ⟨Below.refl _ _⟩⟩
      case round =>
       clear HG
       obtain ⟨j, l1, rfl, hj, hk, hl1, HE, HO, HB⟩ := hrel
       obtain ⟨A2, c2, rfl, hc2, hC2⟩ := Kd.R_reads HO.out
       have HC2 := Aside0.mk hC2
       clear hC2
       by_cases hjl : j < rows.length
       ·
        have c1 : decide ((j : Int) < (rows.length : Int)) = true := decide_eq_true (by omega)
        obtain ⟨k1, rfl⟩ : ∃ k1, gk = k1 + 1 := ⟨gk - 1, by omega⟩
        obtain ⟨ar, Af, cf, e, hx0, hcf, hcf2⟩ := at_L9 HCR.out (j : Int) (by omega) (by omega)
        cases e
        rw [Int.toNat_natCast] at hx0
        have hmem : rd_L9 rows j ∈ rows := by
         unfold rd_L9
         rw [Int.toNat_natCast, List.getD_eq_getElem?_getD, List.getElem?_eq_getElem hjl]
         exact List.getElem_mem hjl
        have hf4 := HR4.out _ hmem
        have hd : rows.drop j = rd_L9 rows j :: rows.drop (j + 1) := by
         rw [List.drop_eq_getElem_cons hjl]
         congr 1
         unfold rd_L9
         rw [Int.toNat_natCast, List.getD_eq_getElem?_getD, List.getElem?_eq_getElem hjl]
         rfl
        have hst := HE.out
        rw [hd] at hst
        clear HE hd hmem
        generalize rd_L9 rows j = f at hx0 hcf hcf2 hf4 hst
        obtain ⟨af, eaf, hf0⟩ := str_at hcf2 0 (by omega) (by omega)
        cases eaf
        obtain ⟨af1, eaf1, hf1⟩ := str_at hcf2 1 (by omega) (by omega)
        cases eaf1
        obtain ⟨af2, eaf2, hf2⟩ := str_at hcf2 2 (by omega) (by omega)
        cases eaf2
        obtain ⟨af3, eaf3, hf3⟩ := str_at hcf2 3 (by omega) (by omega)
        cases eaf3
        rw [hf4] at hx0 hcf
        replace hf0 : wv.cell? af = some (.string (wat f 0)) := by have h9 := hf0; simp only [show ((0 : Int)).toNat = 0 from rfl, Addr.add_zero'] at h9; exact h9
        replace hf1 : wv.cell? (⟨af.block, af.off + 1, none⟩ : Addr) = some (.string (wat f 1)) := hf1
        replace hf2 : wv.cell? (⟨af.block, af.off + 2, none⟩ : Addr) = some (.string (wat f 2)) := hf2
        replace hf3 : wv.cell? (⟨af.block, af.off + 3, none⟩ : Addr) = some (.string (wat f 3)) := hf3
        have HV0 := Aside0.mk hf0
        have HV2 := Aside0.mk hf2
        have HV3 := Aside0.mk hf3
        replace hx0 := pw_cell_below HB.out hx0
        replace hf0 := pw_cell_below HB.out hf0
        replace hf1 := pw_cell_below HB.out hf1
        replace hf2 := pw_cell_below HB.out hf2
        replace hf3 := pw_cell_below HB.out hf3
        clear hcf2 hf4
        unfold rbuild at hst
        generalize wat f 0 = f0 at hf0 hst HV0
        generalize wat f 1 = f1 at hf1 hst
        generalize wat f 2 = f2 at hf2 hst HV2
        generalize wat f 3 = f3 at hf3 hst HV3
        have HSV := Aside0.mk (HSV0.out f1)
        generalize rs f1 = n at HSV hst
        have HPA := Aside0.mk (HPA0.out ⟨f0, n, f2, f3⟩)
        have p1 := eq_true (show (0 : Int) ≤ (j : Int) by omega)
        have p2 := eq_true (show (j : Int) < (rows.length : Int) by omega)
        have p3 := eq_true hjl
        generalize wr = wk at HB HO HC2 hx0 hf0 hf1 hf2 hf3 ⊢
        have HBk := Aside0.mk (Below.refl wk.heap.size wk)
        by_cases hi : 0 ≤ idx f0 l1
        ·
         have t2 : decide (0 ≤ idx f0 l1) = true := decide_eq_true hi
         rw [t2] at hst
         have h3 : (([] : List S54), (5 : Int)) = (l, ec) := hst
         cases h3
         clear hst
         go_wp2_with (first | (go_at_call 27; refine (HSV.out _).mono ?_; rintro e wq11 ⟨rfl, hb2⟩; have n0_ := Aside0.mk (below_step (by repeat (first | exact HBk.out | exact Below.refl _ _ | apply below_alloc | apply pw_below_drewN | apply below_drew1)) hb2); clear HBk hb2; have HBk := n0_; clear n0_; have g0 := pw_cell_below HBk.out hf0) | (go_at_call 22; refine (HFI.out (A2) c2 l1 f0 _ hc2 (by omega) (Kd.C_below HC2.out (by repeat (first | exact HBk.out | exact Below.refl _ _ | apply below_alloc | apply pw_below_drewN | apply below_drew1)))).mono ?_; rintro e wq12 ⟨rfl, hb2⟩; have n0_ := Aside0.mk (below_step (by repeat (first | exact HBk.out | exact Below.refl _ _ | apply below_alloc | apply pw_below_drewN | apply below_drew1)) hb2); clear HBk hb2; have HBk := n0_; clear n0_; skip))
         go_ret2
         exact ⟨_, rfl, Kd.R_nil _ _ _ _ _, below_step HBV.out (below_step HB.out (by repeat (first | exact HBk.out | exact Below.refl _ _ | apply below_alloc | apply pw_below_drewN | apply below_drew1)))⟩
        ·
         have t2 : decide (0 ≤ idx f0 l1) = false := decide_eq_false hi
         rw [t2] at hst
         cases hn0 : (n == 0) with
         | true =>
          rw [hn0] at hst
          have h3 : (([] : List S54), (5 : Int)) = (l, ec) := hst
          cases h3
          clear hst
          go_wp2_with (first | (go_at_call 27; refine (HSV.out _).mono ?_; rintro e wq11 ⟨rfl, hb2⟩; have n0_ := Aside0.mk (below_step (by repeat (first | exact HBk.out | exact Below.refl _ _ | apply below_alloc | apply pw_below_drewN | apply below_drew1)) hb2); clear HBk hb2; have HBk := n0_; clear n0_; have g0 := pw_cell_below HBk.out hf0) | (go_at_call 22; refine (HFI.out (A2) c2 l1 f0 _ hc2 (by omega) (Kd.C_below HC2.out (by repeat (first | exact HBk.out | exact Below.refl _ _ | apply below_alloc | apply pw_below_drewN | apply below_drew1)))).mono ?_; rintro e wq12 ⟨rfl, hb2⟩; have n0_ := Aside0.mk (below_step (by repeat (first | exact HBk.out | exact Below.refl _ _ | apply below_alloc | apply pw_below_drewN | apply below_drew1)) hb2); clear HBk hb2; have HBk := n0_; clear n0_; skip))
          go_ret2
          exact ⟨_, rfl, Kd.R_nil _ _ _ _ _, below_step HBV.out (below_step HB.out (by repeat (first | exact HBk.out | exact Below.refl _ _ | apply below_alloc | apply pw_below_drewN | apply below_drew1)))⟩
         | false =>
          rw [hn0] at hst
          cases hp : (isServ n && pbX ⟨f0, n, f2, f3⟩) with
          | false =>
           rw [hp] at hst
           have HPB : Aside0 (∀ w, Calls Tryd.prog 30 #[.int .i64 n, .string f2, .string f3] w fun e w' => e = .returned (.bool false) ∧ Below w.heap.size w w') := ⟨fun w => by have h9 := HPA.out w; rw [hp] at h9; exact h9⟩
           have h3 : (([] : List S54), (6 : Int)) = (l, ec) := hst
           cases h3
           clear hst
           go_wp2_with (first | (go_at_call 27; refine (HSV.out _).mono ?_; rintro e wq11 ⟨rfl, hb2⟩; have n0_ := Aside0.mk (below_step (by repeat (first | exact HBk.out | exact Below.refl _ _ | apply below_alloc | apply pw_below_drewN | apply below_drew1)) hb2); clear HBk hb2; have HBk := n0_; clear n0_; have g0 := pw_cell_below HBk.out hf0) | (go_at_call 22; refine (HFI.out (A2) c2 l1 f0 _ hc2 (by omega) (Kd.C_below HC2.out (by repeat (first | exact HBk.out | exact Below.refl _ _ | apply below_alloc | apply pw_below_drewN | apply below_drew1)))).mono ?_; rintro e wq12 ⟨rfl, hb2⟩; have n0_ := Aside0.mk (below_step (by repeat (first | exact HBk.out | exact Below.refl _ _ | apply below_alloc | apply pw_below_drewN | apply below_drew1)) hb2); clear HBk hb2; have HBk := n0_; clear n0_; skip))
           have hb5 : Below wq12.heap.size wq12 wq12.drew := below_drew1 (Below.refl _ _)
           have HBV5 := Aside0.mk (below_step HBk.out hb5)
           have HB5 := Aside0.mk (Below.refl wq12.drew.heap.size wq12.drew)
           have hs2 := pw_cell_below HBV5.out hf2
           have hs3 := pw_cell_below HBV5.out hf3
           clear hb5
           refine start_ (n := 9) (S := fun w' => w'.cell? (⟨af.block, af.off + 2, none⟩ : Addr) = some (.string f2) ∧ w'.cell? (⟨af.block, af.off + 3, none⟩ : Addr) = some (.string f3)) (ds := []) #[false, false, false, false, false, false, false, false, false] (by kernel_rfl) rfl rfl ⟨pw_cell_below HB5.out hs2, pw_cell_below HB5.out hs3⟩ (fun hHeld => ?_)
           generalize wq12.drew = w5 at HB5 HBV5 hs2 hs3 hHeld ⊢
           refine pure_ (i := 0) (N := some 152) (v := ?_) (a' := ?_) #[true, false, false, false, false, false, false, false, false] rfl rfl (by kernel_rfl) (fun _ _ _ h => h) (Or.inl ⟨by rfl, ?_⟩) ?_ ?_
           rotate_left
           ·
            intro w'
            go_simp
            with_reducible rfl
           rotate_left
           ·
            simp only [Act.put, List.setIfInBounds_toArray, List.set_cons_zero, List.set_cons_succ, i64_w, i32_w]
            rfl
           refine pure_ (i := 1) (N := some 153) (v := ?_) (a' := ?_) #[true, true, false, false, false, false, false, false, false] rfl rfl (by kernel_rfl) (fun _ _ _ h => h) (Or.inl ⟨by rfl, ?_⟩) ?_ ?_
           rotate_left
           ·
            intro w'
            go_simp
            with_reducible rfl
           rotate_left
           ·
            simp only [Act.put, List.setIfInBounds_toArray, List.set_cons_zero, List.set_cons_succ, i64_w, i32_w]
            rfl
           refine pure_ (i := 2) (N := some 154) (v := ?_) (a' := ?_) #[true, true, true, false, false, false, false, false, false] rfl rfl (by kernel_rfl) (fun _ _ _ h => h) (Or.inl ⟨by rfl, ?_⟩) ?_ ?_
           rotate_left
           ·
            intro w'
            go_simp
            with_reducible rfl
           rotate_left
           ·
            simp only [Act.put, List.setIfInBounds_toArray, List.set_cons_zero, List.set_cons_succ, i64_w, i32_w]
            rfl
           refine take_ (i := 3) (N := some 155) (v := ?_) (a' := ?_) #[true, true, true, true, false, false, false, false, false] rfl rfl (by kernel_rfl) (fun _ _ _ h => h) (Or.inl ⟨by rfl, ?_⟩) hHeld ?_ ?_
           rotate_left
           ·
            rintro w' ⟨s0, s1⟩
            go_simp
            with_reducible rfl
           rotate_left
           ·
            simp only [Act.put, List.setIfInBounds_toArray, List.set_cons_zero, List.set_cons_succ, i64_w, i32_w]
            rfl
           refine pure_ (i := 4) (N := some 156) (v := ?_) (a' := ?_) #[true, true, true, true, true, false, false, false, false] rfl rfl (by kernel_rfl) (fun _ _ _ h => h) (Or.inl ⟨by rfl, ?_⟩) ?_ ?_
           rotate_left
           ·
            intro w'
            go_simp
            with_reducible rfl
           rotate_left
           ·
            simp only [Act.put, List.setIfInBounds_toArray, List.set_cons_zero, List.set_cons_succ, i64_w, i32_w]
            rfl
           refine pure_ (i := 5) (N := some 157) (v := ?_) (a' := ?_) #[true, true, true, true, true, true, false, false, false] rfl rfl (by kernel_rfl) (fun _ _ _ h => h) (Or.inl ⟨by rfl, ?_⟩) ?_ ?_
           rotate_left
           ·
            intro w'
            go_simp
            with_reducible rfl
           rotate_left
           ·
            simp only [Act.put, List.setIfInBounds_toArray, List.set_cons_zero, List.set_cons_succ, i64_w, i32_w]
            rfl
           refine take_ (i := 6) (N := some 158) (v := ?_) (a' := ?_) #[true, true, true, true, true, true, true, false, false] rfl rfl (by kernel_rfl) (fun _ _ _ h => h) (Or.inl ⟨by rfl, ?_⟩) hHeld ?_ ?_
           rotate_left
           ·
            rintro w' ⟨s0, s1⟩
            go_simp
            with_reducible rfl
           rotate_left
           ·
            simp only [Act.put, List.setIfInBounds_toArray, List.set_cons_zero, List.set_cons_succ, i64_w, i32_w]
            rfl
           refine one_ (i := 7) (N := some 159) #[true, true, true, true, true, true, true, true, false] rfl rfl (by kernel_rfl) (by decide) (fun K hK => ?_)
           refine goes_ Tryd.func30 (by kernel_rfl) rfl #[.int .i64 n, .string f2, .string f3] (by rfl) rfl rfl (by simp only [List.map_toArray, List.map_cons, List.map_nil]; rfl) ?_
           with_reducible refine (HPB.out _).mono ?_
           rintro e wq13 ⟨rfl, hb2⟩
           refine ⟨_, rfl, ?_⟩
           have n0_ := Aside0.mk (below_step HB5.out hb2)
           clear HB5 hb2
           have HB5 := n0_
           clear n0_
           refine hK.out _ _ ⟨pw_cell_below HB5.out hs2, pw_cell_below HB5.out hs3⟩ (fun hHeld => ?_)
           clear hK K
           refine norm_ (a' := ?_) ?_ ?_
           rotate_left
           ·
            show Act.put _ (some 159) _ = _
            simp only [Act.put, List.setIfInBounds_toArray, List.set_cons_zero, List.set_cons_succ, i64_w, i32_w]
            rfl
           refine pure_ (i := 8) (N := some 160) (v := ?_) (a' := ?_) #[true, true, true, true, true, true, true, true, true] rfl rfl (by kernel_rfl) (fun _ _ _ h => h) (Or.inl ⟨by rfl, ?_⟩) ?_ ?_
           rotate_left
           ·
            intro w'
            go_simp
            with_reducible rfl
           rotate_left
           ·
            simp only [Act.put, List.setIfInBounds_toArray, List.set_cons_zero, List.set_cons_succ, i64_w, i32_w]
            rfl
           refine done_ (by kernel_rfl) ?_
           go_wp2
           go_ret2
           exact ⟨_, rfl, Kd.R_nil _ _ _ _ _, below_step HBV.out (below_step HB.out (below_step HBV5.out HB5.out))⟩
          | true =>
           rw [hp] at hst
           have HPB : Aside0 (∀ w, Calls Tryd.prog 30 #[.int .i64 n, .string f2, .string f3] w fun e w' => e = .returned (.bool true) ∧ Below w.heap.size w w') := ⟨fun w => by have h9 := HPA.out w; rw [hp] at h9; exact h9⟩
           have HN : Aside0 (rbuild (rows.drop (j + 1)) (l1 ++ [⟨f0, n, f2, f3⟩]) = (l, ec)) := ⟨hst⟩
           clear hst
           go_wp2_with (first | (go_at_call 27; refine (HSV.out _).mono ?_; rintro e wq11 ⟨rfl, hb2⟩; have n0_ := Aside0.mk (below_step (by repeat (first | exact HBk.out | exact Below.refl _ _ | apply below_alloc | apply pw_below_drewN | apply below_drew1)) hb2); clear HBk hb2; have HBk := n0_; clear n0_; have g0 := pw_cell_below HBk.out hf0) | (go_at_call 22; refine (HFI.out (A2) c2 l1 f0 _ hc2 (by omega) (Kd.C_below HC2.out (by repeat (first | exact HBk.out | exact Below.refl _ _ | apply below_alloc | apply pw_below_drewN | apply below_drew1)))).mono ?_; rintro e wq12 ⟨rfl, hb2⟩; have n0_ := Aside0.mk (below_step (by repeat (first | exact HBk.out | exact Below.refl _ _ | apply below_alloc | apply pw_below_drewN | apply below_drew1)) hb2); clear HBk hb2; have HBk := n0_; clear n0_; skip))
           have hb5 : Below wq12.heap.size wq12 wq12.drew := below_drew1 (Below.refl _ _)
           have HBV5 := Aside0.mk (below_step HBk.out hb5)
           have HB5 := Aside0.mk (Below.refl wq12.drew.heap.size wq12.drew)
           have hs2 := pw_cell_below HBV5.out hf2
           have hs3 := pw_cell_below HBV5.out hf3
           clear hb5
           refine start_ (n := 9) (S := fun w' => w'.cell? (⟨af.block, af.off + 2, none⟩ : Addr) = some (.string f2) ∧ w'.cell? (⟨af.block, af.off + 3, none⟩ : Addr) = some (.string f3)) (ds := []) #[false, false, false, false, false, false, false, false, false] (by kernel_rfl) rfl rfl ⟨pw_cell_below HB5.out hs2, pw_cell_below HB5.out hs3⟩ (fun hHeld => ?_)
           generalize wq12.drew = w5 at HB5 HBV5 hs2 hs3 hHeld ⊢
           refine pure_ (i := 0) (N := some 152) (v := ?_) (a' := ?_) #[true, false, false, false, false, false, false, false, false] rfl rfl (by kernel_rfl) (fun _ _ _ h => h) (Or.inl ⟨by rfl, ?_⟩) ?_ ?_
           rotate_left
           ·
            intro w'
            go_simp
            with_reducible rfl
           rotate_left
           ·
            simp only [Act.put, List.setIfInBounds_toArray, List.set_cons_zero, List.set_cons_succ, i64_w, i32_w]
            rfl
           refine pure_ (i := 1) (N := some 153) (v := ?_) (a' := ?_) #[true, true, false, false, false, false, false, false, false] rfl rfl (by kernel_rfl) (fun _ _ _ h => h) (Or.inl ⟨by rfl, ?_⟩) ?_ ?_
           rotate_left
           ·
            intro w'
            go_simp
            with_reducible rfl
           rotate_left
           ·
            simp only [Act.put, List.setIfInBounds_toArray, List.set_cons_zero, List.set_cons_succ, i64_w, i32_w]
            rfl
           refine pure_ (i := 2) (N := some 154) (v := ?_) (a' := ?_) #[true, true, true, false, false, false, false, false, false] rfl rfl (by kernel_rfl) (fun _ _ _ h => h) (Or.inl ⟨by rfl, ?_⟩) ?_ ?_
           rotate_left
           ·
            intro w'
            go_simp
            with_reducible rfl
           rotate_left
           ·
            simp only [Act.put, List.setIfInBounds_toArray, List.set_cons_zero, List.set_cons_succ, i64_w, i32_w]
            rfl
           refine take_ (i := 3) (N := some 155) (v := ?_) (a' := ?_) #[true, true, true, true, false, false, false, false, false] rfl rfl (by kernel_rfl) (fun _ _ _ h => h) (Or.inl ⟨by rfl, ?_⟩) hHeld ?_ ?_
           rotate_left
           ·
            rintro w' ⟨s0, s1⟩
            go_simp
            with_reducible rfl
           rotate_left
           ·
            simp only [Act.put, List.setIfInBounds_toArray, List.set_cons_zero, List.set_cons_succ, i64_w, i32_w]
            rfl
           refine pure_ (i := 4) (N := some 156) (v := ?_) (a' := ?_) #[true, true, true, true, true, false, false, false, false] rfl rfl (by kernel_rfl) (fun _ _ _ h => h) (Or.inl ⟨by rfl, ?_⟩) ?_ ?_
           rotate_left
           ·
            intro w'
            go_simp
            with_reducible rfl
           rotate_left
           ·
            simp only [Act.put, List.setIfInBounds_toArray, List.set_cons_zero, List.set_cons_succ, i64_w, i32_w]
            rfl
           refine pure_ (i := 5) (N := some 157) (v := ?_) (a' := ?_) #[true, true, true, true, true, true, false, false, false] rfl rfl (by kernel_rfl) (fun _ _ _ h => h) (Or.inl ⟨by rfl, ?_⟩) ?_ ?_
           rotate_left
           ·
            intro w'
            go_simp
            with_reducible rfl
           rotate_left
           ·
            simp only [Act.put, List.setIfInBounds_toArray, List.set_cons_zero, List.set_cons_succ, i64_w, i32_w]
            rfl
           refine take_ (i := 6) (N := some 158) (v := ?_) (a' := ?_) #[true, true, true, true, true, true, true, false, false] rfl rfl (by kernel_rfl) (fun _ _ _ h => h) (Or.inl ⟨by rfl, ?_⟩) hHeld ?_ ?_
           rotate_left
           ·
            rintro w' ⟨s0, s1⟩
            go_simp
            with_reducible rfl
           rotate_left
           ·
            simp only [Act.put, List.setIfInBounds_toArray, List.set_cons_zero, List.set_cons_succ, i64_w, i32_w]
            rfl
           refine one_ (i := 7) (N := some 159) #[true, true, true, true, true, true, true, true, false] rfl rfl (by kernel_rfl) (by decide) (fun K hK => ?_)
           refine goes_ Tryd.func30 (by kernel_rfl) rfl #[.int .i64 n, .string f2, .string f3] (by rfl) rfl rfl (by simp only [List.map_toArray, List.map_cons, List.map_nil]; rfl) ?_
           with_reducible refine (HPB.out _).mono ?_
           rintro e wq13 ⟨rfl, hb2⟩
           refine ⟨_, rfl, ?_⟩
           have n0_ := Aside0.mk (below_step HB5.out hb2)
           clear HB5 hb2
           have HB5 := n0_
           clear n0_
           refine hK.out _ _ ⟨pw_cell_below HB5.out hs2, pw_cell_below HB5.out hs3⟩ (fun hHeld => ?_)
           clear hK K
           refine norm_ (a' := ?_) ?_ ?_
           rotate_left
           ·
            show Act.put _ (some 159) _ = _
            simp only [Act.put, List.setIfInBounds_toArray, List.set_cons_zero, List.set_cons_succ, i64_w, i32_w]
            rfl
           refine pure_ (i := 8) (N := some 160) (v := ?_) (a' := ?_) #[true, true, true, true, true, true, true, true, true] rfl rfl (by kernel_rfl) (fun _ _ _ h => h) (Or.inl ⟨by rfl, ?_⟩) ?_ ?_
           rotate_left
           ·
            intro w'
            go_simp
            with_reducible rfl
           rotate_left
           ·
            simp only [Act.put, List.setIfInBounds_toArray, List.set_cons_zero, List.set_cons_succ, i64_w, i32_w]
            rfl
           refine done_ (by kernel_rfl) ?_
           go_wp2
           have hb6 : Below wq13.heap.size wq13 wq13.drew := below_drew1 (Below.refl _ _)
           have hbx := below_step (below_step HBV5.out HB5.out) hb6
           have HO6 := Aside0.mk (Kd.R_below HO.out hbx)
           have HB6 := Aside0.mk (below_step HB.out hbx)
           clear hb6 hbx HO HB HB5 HBV5 HBk hs2 hs3
           refine start_ (n := 15) (S := fun w' => w'.cell? af = some (.string f0) ∧ w'.cell? (⟨af.block, af.off + 2, none⟩ : Addr) = some (.string f2) ∧ w'.cell? (⟨af.block, af.off + 3, none⟩ : Addr) = some (.string f3)) (ds := []) #[false, false, false, false, false, false, false, false, false, false, false, false, false, false, false] (by kernel_rfl) rfl rfl ⟨pw_cell_below HB6.out HV0.out, pw_cell_below HB6.out HV2.out, pw_cell_below HB6.out HV3.out⟩ (fun hHeld => ?_)
           generalize wq13.drew = w6 at HB6 HO6 hHeld ⊢
           refine pure_ (i := 0) (N := some 161) (v := ?_) (a' := ?_) #[true, false, false, false, false, false, false, false, false, false, false, false, false, false, false] rfl rfl (by kernel_rfl) (fun _ _ _ h => h) (Or.inl ⟨by rfl, ?_⟩) ?_ ?_
           rotate_left
           ·
            intro w'
            go_simp
            with_reducible rfl
           rotate_left
           ·
            simp only [Act.put, List.setIfInBounds_toArray, List.set_cons_zero, List.set_cons_succ, i64_w, i32_w]
            rfl
           refine pure_ (i := 1) (N := some 162) (v := ?_) (a' := ?_) #[true, true, false, false, false, false, false, false, false, false, false, false, false, false, false] rfl rfl (by kernel_rfl) (fun _ _ _ h => h) (Or.inl ⟨by rfl, ?_⟩) ?_ ?_
           rotate_left
           ·
            intro w'
            go_simp
            with_reducible rfl
           rotate_left
           ·
            simp only [Act.put, List.setIfInBounds_toArray, List.set_cons_zero, List.set_cons_succ, i64_w, i32_w]
            rfl
           refine pure_ (i := 2) (N := some 163) (v := ?_) (a' := ?_) #[true, true, true, false, false, false, false, false, false, false, false, false, false, false, false] rfl rfl (by kernel_rfl) (fun _ _ _ h => h) (Or.inl ⟨by rfl, ?_⟩) ?_ ?_
           rotate_left
           ·
            intro w'
            go_simp
            with_reducible rfl
           rotate_left
           ·
            simp only [Act.put, List.setIfInBounds_toArray, List.set_cons_zero, List.set_cons_succ, i64_w, i32_w]
            rfl
           refine take_ (i := 3) (N := some 164) (v := ?_) (a' := ?_) #[true, true, true, true, false, false, false, false, false, false, false, false, false, false, false] rfl rfl (by kernel_rfl) (fun _ _ _ h => h) (Or.inl ⟨by rfl, ?_⟩) hHeld ?_ ?_
           rotate_left
           ·
            rintro w' ⟨s0, s1, s2⟩
            go_simp
            with_reducible rfl
           rotate_left
           ·
            simp only [Act.put, List.setIfInBounds_toArray, List.set_cons_zero, List.set_cons_succ, i64_w, i32_w]
            rfl
           refine pure_ (i := 4) (N := some 165) (v := ?_) (a' := ?_) #[true, true, true, true, true, false, false, false, false, false, false, false, false, false, false] rfl rfl (by kernel_rfl) (fun _ _ _ h => h) (Or.inl ⟨by rfl, ?_⟩) ?_ ?_
           rotate_left
           ·
            intro w'
            go_simp
            with_reducible rfl
           rotate_left
           ·
            simp only [Act.put, List.setIfInBounds_toArray, List.set_cons_zero, List.set_cons_succ, i64_w, i32_w]
            rfl
           refine pure_ (i := 5) (N := some 166) (v := ?_) (a' := ?_) #[true, true, true, true, true, true, false, false, false, false, false, false, false, false, false] rfl rfl (by kernel_rfl) (fun _ _ _ h => h) (Or.inl ⟨by rfl, ?_⟩) ?_ ?_
           rotate_left
           ·
            intro w'
            go_simp
            with_reducible rfl
           rotate_left
           ·
            simp only [Act.put, List.setIfInBounds_toArray, List.set_cons_zero, List.set_cons_succ, i64_w, i32_w]
            rfl
           refine pure_ (i := 6) (N := some 167) (v := ?_) (a' := ?_) #[true, true, true, true, true, true, true, false, false, false, false, false, false, false, false] rfl rfl (by kernel_rfl) (fun _ _ _ h => h) (Or.inl ⟨by rfl, ?_⟩) ?_ ?_
           rotate_left
           ·
            intro w'
            go_simp
            with_reducible rfl
           rotate_left
           ·
            simp only [Act.put, List.setIfInBounds_toArray, List.set_cons_zero, List.set_cons_succ, i64_w, i32_w]
            rfl
           refine take_ (i := 7) (N := some 168) (v := ?_) (a' := ?_) #[true, true, true, true, true, true, true, true, false, false, false, false, false, false, false] rfl rfl (by kernel_rfl) (fun _ _ _ h => h) (Or.inl ⟨by rfl, ?_⟩) hHeld ?_ ?_
           rotate_left
           ·
            rintro w' ⟨s0, s1, s2⟩
            go_simp
            with_reducible rfl
           rotate_left
           ·
            simp only [Act.put, List.setIfInBounds_toArray, List.set_cons_zero, List.set_cons_succ, i64_w, i32_w]
            rfl
           refine pure_ (i := 8) (N := some 169) (v := ?_) (a' := ?_) #[true, true, true, true, true, true, true, true, true, false, false, false, false, false, false] rfl rfl (by kernel_rfl) (fun _ _ _ h => h) (Or.inl ⟨by rfl, ?_⟩) ?_ ?_
           rotate_left
           ·
            intro w'
            go_simp
            with_reducible rfl
           rotate_left
           ·
            simp only [Act.put, List.setIfInBounds_toArray, List.set_cons_zero, List.set_cons_succ, i64_w, i32_w]
            rfl
           refine pure_ (i := 9) (N := some 170) (v := ?_) (a' := ?_) #[true, true, true, true, true, true, true, true, true, true, false, false, false, false, false] rfl rfl (by kernel_rfl) (fun _ _ _ h => h) (Or.inl ⟨by rfl, ?_⟩) ?_ ?_
           rotate_left
           ·
            intro w'
            go_simp
            with_reducible rfl
           rotate_left
           ·
            simp only [Act.put, List.setIfInBounds_toArray, List.set_cons_zero, List.set_cons_succ, i64_w, i32_w]
            rfl
           refine take_ (i := 10) (N := some 171) (v := ?_) (a' := ?_) #[true, true, true, true, true, true, true, true, true, true, true, false, false, false, false] rfl rfl (by kernel_rfl) (fun _ _ _ h => h) (Or.inl ⟨by rfl, ?_⟩) hHeld ?_ ?_
           rotate_left
           ·
            rintro w' ⟨s0, s1, s2⟩
            go_simp
            with_reducible rfl
           rotate_left
           ·
            simp only [Act.put, List.setIfInBounds_toArray, List.set_cons_zero, List.set_cons_succ, i64_w, i32_w]
            rfl
           refine pure_ (i := 11) (N := some 172) (v := ?_) (a' := ?_) #[true, true, true, true, true, true, true, true, true, true, true, true, false, false, false] rfl rfl (by kernel_rfl) (fun _ _ _ h => h) (Or.inl ⟨by rfl, ?_⟩) ?_ ?_
           rotate_left
           ·
            intro w'
            go_simp
            with_reducible rfl
           rotate_left
           ·
            simp only [Act.put, List.setIfInBounds_toArray, List.set_cons_zero, List.set_cons_succ, i64_w, i32_w]
            rfl
           refine one_ (i := 12) (N := some 173) #[true, true, true, true, true, true, true, true, true, true, true, true, true, false, false] rfl rfl (by kernel_rfl) (by decide) (fun K hK => ?_)
           refine Kd.R_lit_step k54 _ 54 ?hg (N := 173) ?hd (xs := ([(⟨f0, n, f2, f3⟩ : S54)] : List S54)) (inner := [.string f0, .int .i64 n, .string f2, .string f3]) (ok := fun _ => True) (okp := fun _ => False) ?hr ?hp (fun _ hk => hk.elim) ?hf (Below.refl _ _) (Nat.le_refl _) (by simp) ?_; (case hd => rfl); (case hg => rfl); (case hr => first | (go_simp; done) | (go_simp; rfl)); (case hp => exact (Reps.c4 (k54_mkM _ _ _ (⟨f0, n, f2, f3⟩ : S54)) (Reps.none _ _))); (case hf => trivial)
           intro v173 w8 ho1 hb2 hg_ hnew_
           obtain ⟨A65, c65, rfl, hc65, hC65⟩ := Kd.R_reads ho1
           have HC65 := Aside0.mk hC65
           have n0_ := Aside0.mk (below_step HB6.out hb2)
           have n1_ := Aside0.mk (Kd.R_below HO6.out hb2)
           clear HB6 HO6
           have HB6 := n0_
           have HO6 := n1_
           clear n0_ n1_ ho1 hC65 hb2 hg_ hnew_
           refine hK.out _ _ ⟨pw_cell_below HB6.out HV0.out, pw_cell_below HB6.out HV2.out, pw_cell_below HB6.out HV3.out⟩ (fun hHeld => ?_)
           clear hK K
           refine norm_ (a' := ?_) ?_ ?_
           rotate_left
           ·
            show Act.put _ (some 173) _ = _
            simp only [Act.put, List.setIfInBounds_toArray, List.set_cons_zero, List.set_cons_succ, i64_w, i32_w]
            rfl
           refine one_ (i := 13) (N := some 174) #[true, true, true, true, true, true, true, true, true, true, true, true, true, true, false] rfl rfl (by kernel_rfl) (by decide) (fun K hK => ?_)
           refine Kd.R_append_rows_step k54 (w0 := wv) wv.heap.size (by rfl) (.tmp 161) (.tmp 173) 32 54 (.agg #[.string ⟨#[]⟩, .int .i64 0, .string ⟨#[]⟩, .string ⟨#[]⟩]) 56 rfl Tryd.underlying32 info54 rfl (by decide) (by omega) (.slice A2 l1.length c2) l1 ([(⟨f0, n, f2, f3⟩ : S54)] : List S54) A65 1 c65 (fun _ => True) (fun _ => False) rfl rfl HO6.out HC65.out (fun y cs h_ => by rw [k54_open h_]; exact k54_mkM _ _ _ y) (fun _ hk => hk.elim) (fun _ _ => trivial) HB6.out (below_size HB6.out) (by omega) ?_
           intro v174 w9 ho2 hb3 hg2_ hat2_
           clear HB6 HO6
           have HB6 := Aside0.mk hb3
           have HO6 := Aside0.mk ho2
           clear ho2 hb3 hg2_ hat2_ HC65
           refine hK.out _ _ ⟨pw_cell_below HB6.out HV0.out, pw_cell_below HB6.out HV2.out, pw_cell_below HB6.out HV3.out⟩ (fun hHeld => ?_)
           clear hK K
           refine norm_ (a' := ?_) ?_ ?_
           rotate_left
           ·
            show Act.put _ (some 174) _ = _
            simp only [Act.put, List.setIfInBounds_toArray, List.set_cons_zero, List.set_cons_succ, i64_w, i32_w]
            rfl
           refine pure_ (i := 14) (N := some 15) (v := ?_) (a' := ?_) #[true, true, true, true, true, true, true, true, true, true, true, true, true, true, true] rfl rfl (by kernel_rfl) (fun _ _ _ h => h) (Or.inl ⟨by rfl, ?_⟩) ?_ ?_
           rotate_left
           ·
            intro w'
            go_simp
            with_reducible rfl
           rotate_left
           ·
            simp only [Act.put, List.setIfInBounds_toArray, List.set_cons_zero, List.set_cons_succ, i64_w, i32_w]
            rfl
           refine done_ (by kernel_rfl) ?_
           go_wp2
           go_roundg k1
           case measure => omega
           case rel => exact ⟨j + 1, _, by first | rfl | (simp only [Int.natCast_add]; done) | (simp only [Int.natCast_add]; rfl), by omega, by omega, by (simp only [List.length_append, List.length_singleton]; omega), HN, HO6, HB6⟩
       ·
        have c1 : decide ((j : Int) < (rows.length : Int)) = false := decide_eq_false (by omega)
        have hst := HE.out
        rw [List.drop_eq_nil_of_le (by omega)] at hst
        cases hst
        clear HE
        go_wp2
        go_ret2
        exact ⟨_, rfl, Kd.R_lower (by (with_reducible repeat (first | apply Kd.R_alloc | apply Kd.R_drewN | apply Kd.R_drew)); exact HO.out) (below_size HBV.out), below_step HBV.out HB.out⟩
end Go.Proofs.YtgobpenmemlieaaDoor.Lex
