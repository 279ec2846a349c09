/- Packed by our own shrink.py: theorems that the claim does not use are left out. -/
import Derived.Test.YtgobpenmemlieaaDoorVChk
/-
  The walk of sdl.Read.
-/
namespace Go.Proofs.YtgobpenmemlieaaDoor.Lex
open Go.RowKit Go.Proofs.YtgobpenmemlieaaDoorW.PrintWords Go.Proofs.YtgobpenmemlieaaDoorW.PrintLast Go.Proofs.YtgobpenmemlieaaDoorW.PrintMore PSdlBack
set_option linter.unusedVariables false
set_option linter.unusedSimpArgs false
def rd_T75 (xs : List S75) (i : Int) : S75 := xs.getD i.toNat z75
theorem at_T75 {w : World} {A : Option Addr} {n : Nat} {xs : List S75} (h : Kd.C k75 w A n xs) (i : Int) (h0 : 0 ≤ i) (h1 : i < n) : ∃ ad , A = some ad ∧ w.cell? (ad.add (i.toNat * 4)) = some (.string (rd_T75 xs i).f0) ∧ w.cell? ⟨(ad.add (i.toNat * 4)).block, (ad.add (i.toNat * 4)).off + 1, none⟩ = some (.string (rd_T75 xs i).f1) ∧ w.cell? ⟨(ad.add (i.toNat * 4)).block, (ad.add (i.toNat * 4)).off + 2, none⟩ = some (.string (rd_T75 xs i).f2) ∧ w.cell? ⟨(ad.add (i.toNat * 4)).block, (ad.add (i.toNat * 4)).off + 3, none⟩ = some (.string (rd_T75 xs i).f3) := by
  obtain ⟨ad, c, e, _, hK, hc0⟩ := Kd.C_get h z75 i h0 h1
  have hc : ∀ j u, c[j]? = some u → w.cell? (ad.add (i.toNat * 4 + j)) = some u := hc0
  obtain rfl := k75_open hK
  exact ⟨ad, e, hc 0 _ rfl, by rw [← add_field _ _ 1 (by omega)]; exact hc 1 _ rfl, by rw [← add_field _ _ 2 (by omega)]; exact hc 2 _ rfl, by rw [← add_field _ _ 3 (by omega)]; exact hc 3 _ rfl⟩
/-- What Read makes of the raw fields. -/
def readR (sv ev : S75 → Int) (pb : S75 → Bool) : List S75 → List S54 → (List S54 × Int)
  | [], l => (l, 0)
  | r :: rs, l => if (fieldV l r (sv r) (ev r) (pb r)).2 ≠ 0 then ([], (fieldV l r (sv r) (ev r) (pb r)).2) else readR sv ev pb rs (l ++ [(fieldV l r (sv r) (ev r) (pb r)).1])
def ends (q : List S39 × Bool) : Bool := (sg W5 q).2 || decide (0 < (sg W5 q).1.length)
/-- What Read tells behind the parser. -/
def readM (sv ev : S75 → Int) (pb : S75 → Bool) (q : List S39 × Bool) (m : List S75) : List S54 × Int := if ends q = true then ([], 4) else if 8 < m.length then ([], 2) else readR sv ev pb m []
theorem two_new (w : World) (o : Obj) : Value.slice (some ⟨w.heap.size + 1, 0, none⟩) 1 1 = Value.slice (some ⟨(w.alloc o).heap.size, 0, none⟩) 1 1 := by
  have h : (w.alloc o).heap.size = w.heap.size + 1 := by simp
  rw [h]
theorem Lib_tab {w w' : World} (h : Tab w) (hb : Below w.heap.size w w') : Tab w' := h.below hb
set_option maxHeartbeats 8000000 in
set_option maxRecDepth 100000 in
theorem Read_bad (s : ByteArray) (at_ ec : Int) (he : ec ≠ 0) (w : World) (hW : ∀ w, Calls Tryd.prog 33 #[.string s] w fun e w' => ∃ v0_ : Value, e = .returned (.tuple #[v0_, .int .i64 at_, .int .i64 ec]) ∧ Kd.R k39 39 w' w.heap.size (fun _ => True) v0_ [] ∧ Below w.heap.size w w') :
    Calls Tryd.prog 13 #[.string s] w fun e w' => e = .returned (.tuple #[.slice none 0 0, .int .i64 ec]) ∧ Below w.heap.size w w' := by
  have HW := Aside0.mk hW
  have HB := Aside0.mk (Below.refl w.heap.size w)
  have t1 : (ec != 0) = true := bne_iff_ne.mpr he
  clear hW
  go_enter Tryd.func13, Tryd.ntmps13
  go_wp2_with (first | (go_at_call 33; refine (HW.out _).mono ?_; rintro e wq ⟨v0, rfl, hR, hb2⟩; obtain ⟨At, ct, rfl, hct, hCt⟩ := Kd.R_reads hR; have n0_ := Aside0.mk (below_step (by repeat (first | (with_reducible first | exact HB.out | apply below_alloc | apply pw_below_drewN | apply below_drew1) | exact HB.out)) hb2); clear HB; have HB := n0_; clear n0_ hb2 hR))
  go_ret2
  exact ⟨rfl, (by repeat (first | (with_reducible first | exact HB.out | apply below_alloc | apply pw_below_drewN | apply below_drew1) | exact HB.out))⟩
set_option maxHeartbeats 8000000 in
set_option maxRecDepth 100000 in
theorem Read_calls (s : ByteArray) (toks : List S39) (at_ : Int) (n : Nat) (q : List S39 × Bool) (m : List S75) (w : World) (hn : n ≤ 1000000)
    (hW : ∀ w, Calls Tryd.prog 33 #[.string s] w fun e w' => ∃ v0_ : Value, e = .returned (.tuple #[v0_, .int .i64 at_, .int .i64 0]) ∧ Kd.R k39 39 w' w.heap.size (fun _ => True) v0_ toks ∧ Below w.heap.size w w')
    (hRD : Reads n (sg W0 (toks, false)) [] q m) (hSM : Small toks) (hT : Tab w)
    (sv ev : S75 → Int) (pb : S75 → Bool)
    (hsv : ∀ r w, Calls Tryd.prog 26 #[.string r.f1] w fun e w' => e = .returned (.tuple #[.int .i64 (sv r), .int .i64 (ev r)]) ∧ Below w.heap.size w w')
    (hpb : ∀ r, ev r = 0 → ∀ w, Calls Tryd.prog 56 #[.int .i64 (sv r), .string r.f2, .string r.f3] w fun e w' => e = .returned (.bool (pb r)) ∧ Below w.heap.size w w')
    (l : List S54) (ec : Int) (hr : readM sv ev pb q m = (l, ec)) :
    Calls Tryd.prog 13 #[.string s] w fun e w' => ∃ v, e = .returned (.tuple #[v, .int .i64 ec]) ∧ Kd.R k54 54 w' w.heap.size (fun _ => True) v l ∧ Below w.heap.size w w' := by
  have HW := Aside0.mk hW
  have HB := Aside0.mk (Below.refl w.heap.size w)
  have HRD := Aside0.mk hRD
  have HSM : Aside0 (Small (toks, false).1) := ⟨hSM⟩
  have HT := Aside0.mk hT
  have HSV := Aside0.mk hsv
  have HPB := Aside0.mk hpb
  clear hW hRD hSM hT hsv hpb
  go_enter Tryd.func13, Tryd.ntmps13
  go_wp2_with (first | (go_at_call 33; refine (HW.out _).mono ?_; rintro e wq ⟨v0, rfl, hR, hb2⟩; obtain ⟨At, ct, rfl, hct, hCt⟩ := Kd.R_reads hR; have n0_ := Aside0.mk (below_step (by repeat (first | (with_reducible first | exact HB.out | apply below_alloc | apply pw_below_drewN | apply below_drew1) | exact HB.out)) hb2); clear HB; have HB := n0_; clear n0_ hb2 hR))
  have HTB : Aside0 (Tab wq) := ⟨Lib_tab HT.out HB.out⟩
  have HCT := Aside0.mk hCt
  have h6 : ends q = ((sg W5 q).2 || decide (0 < (sg W5 q).1.length)) := rfl
  cases he : ends q with
  | true =>
    unfold readM at hr
    rw [if_pos he] at hr
    cases hr
    go_wp2_with (first | (go_at_call 34; refine (fields_calls wq.heap.size (toks, false) n q m HRD.out hn wq _ (PS.new wq wq At ct toks false (Below.refl _ _) HCT.out hct) (below_alloc (Below.refl _ _) _) HSM.out HTB.out).mono ?_; rintro e w5 ⟨v5, rfl, hR5, hp5, hb5, hk5⟩; obtain ⟨A7, c7, rfl, hc7, hC7⟩ := Kd.R_reads hR5; rw [← h6, he] at hp5; obtain ⟨A6, c6, HG6, -, -, -⟩ := hp5; have hcz1 := (blk_cell HG6 1).trans (Eq.refl (some _)); have n0_ := Aside0.mk (below_step HB.out hb5); clear HB; have HB := n0_; have HC7 := Aside0.mk hC7; clear n0_ HG6 hR5 hC7 hk5 hb5))
    go_ret2
    exact ⟨_, rfl, Kd.R_nil _ _ _ _ _, (by repeat (first | (with_reducible first | exact HB.out | apply below_alloc | apply pw_below_drewN | apply below_drew1) | exact HB.out))⟩
  | false =>
    unfold readM at hr
    rw [if_neg (by rw [he]; decide)] at hr
    by_cases h8 : 8 < m.length
    · rw [if_pos h8] at hr
      cases hr
      have t8 : decide (8 < (m.length : Int)) = true := decide_eq_true (by omega)
      go_wp2_with (first | (go_at_call 34; refine (fields_calls wq.heap.size (toks, false) n q m HRD.out hn wq _ (PS.new wq wq At ct toks false (Below.refl _ _) HCT.out hct) (below_alloc (Below.refl _ _) _) HSM.out HTB.out).mono ?_; rintro e w5 ⟨v5, rfl, hR5, hp5, hb5, hk5⟩; obtain ⟨A7, c7, rfl, hc7, hC7⟩ := Kd.R_reads hR5; rw [← h6, he] at hp5; obtain ⟨A6, c6, HG6, -, -, -⟩ := hp5; have hcz1 := (blk_cell HG6 1).trans (Eq.refl (some _)); have n0_ := Aside0.mk (below_step HB.out hb5); clear HB; have HB := n0_; have HC7 := Aside0.mk hC7; clear n0_ HG6 hR5 hC7 hk5 hb5))
      go_ret2
      exact ⟨_, rfl, Kd.R_nil _ _ _ _ _, (by repeat (first | (with_reducible first | exact HB.out | apply below_alloc | apply pw_below_drewN | apply below_drew1) | exact HB.out))⟩
    · rw [if_neg h8] at hr
      have t8 : decide (8 < (m.length : Int)) = false := decide_eq_false (by omega)
      have HRR := Aside0.mk hr
      clear hr
      go_wp2_with (first | (go_at_call 34; refine (fields_calls wq.heap.size (toks, false) n q m HRD.out hn wq _ (PS.new wq wq At ct toks false (Below.refl _ _) HCT.out hct) (below_alloc (Below.refl _ _) _) HSM.out HTB.out).mono ?_; rintro e w5 ⟨v5, rfl, hR5, hp5, hb5, hk5⟩; obtain ⟨A7, c7, rfl, hc7, hC7⟩ := Kd.R_reads hR5; rw [← h6, he] at hp5; obtain ⟨A6, c6, HG6, -, -, -⟩ := hp5; have hcz1 := (blk_cell HG6 1).trans (Eq.refl (some _)); have n0_ := Aside0.mk (below_step HB.out hb5); clear HB; have HB := n0_; have HC7 := Aside0.mk hC7; clear n0_ HG6 hR5 hC7 hk5 hb5))
      have HB5 := HB
      clear HB
      have HB := Aside0.mk (Below.refl w5.heap.size w5)
      go_loopg [9, 39] m.length (fun kq v9 v39 w' => ∃ (j : Nat) (l1 : List S54), v39 = .int .i64 j ∧ j ≤ m.length ∧ j + kq = m.length ∧ l1.length ≤ j ∧ Aside0 (readR sv ev pb (m.drop j) l1 = (l, ec)) ∧ Aside0 (Kd.R k54 54 w' w5.heap.size (fun _ => True) v9 l1) ∧ Aside0 (Below w5.heap.size w5 w'))
      case atStart => exact ⟨0, [], rfl, by omega, by omega, by simp, HRR, ⟨Kd.R_nil _ _ _ _ _⟩, ⟨(by repeat (first | (with_reducible first | exact HB.out | apply below_alloc | apply pw_below_drewN | apply below_drew1) | exact HB.out))⟩⟩
      case round =>
        clear HB HRR
        obtain ⟨j, l1, rfl, hj, hk, hl1, HE, HO, HB⟩ := hrel
        obtain ⟨A2, c2, rfl, hc2, hC2⟩ := Kd.R_reads HO.out
        have HC2 := Aside0.mk hC2
        clear hC2
        by_cases hjl : j < m.length
        · have c1 : decide ((j : Int) < (m.length : Int)) = true := decide_eq_true (by omega)
          obtain ⟨k1, rfl⟩ : ∃ k1, gk = k1 + 1 := ⟨gk - 1, by omega⟩
          obtain ⟨ad, e, hx0, hx1, hx2, hx3⟩ := at_T75 HC7.out (j : Int) (by omega) (by omega)
          cases e
          replace hx0 := pw_cell_below HB.out hx0
          replace hx1 := pw_cell_below HB.out hx1
          replace hx2 := pw_cell_below HB.out hx2
          replace hx3 := pw_cell_below HB.out hx3
          rw [Int.toNat_natCast] at hx0 hx1 hx2 hx3
          have hd : m.drop j = rd_T75 m j :: m.drop (j + 1) := by
            rw [List.drop_eq_getElem_cons hjl]
            congr 1
            unfold rd_T75
            rw [Int.toNat_natCast, List.getD_eq_getElem?_getD, List.getElem?_eq_getElem hjl]
            rfl
          have hst := HE.out
          rw [hd] at hst
          clear HE hd
          generalize rd_T75 m j = x at hx0 hx1 hx2 hx3 hst
          obtain ⟨y, ec1, hfv⟩ : ∃ y ec1, fieldV l1 x (sv x) (ev x) (pb x) = (y, ec1) := ⟨_, _, rfl⟩
          have HFV := Aside0.mk hfv
          unfold readR at hst
          rw [hfv] at hst
          clear hfv
          have p1 := eq_true (show (0 : Int) ≤ (j : Int) by omega)
          have p2 := eq_true (show (j : Int) < (m.length : Int) by omega)
          have p3 := eq_true hjl
          by_cases h0 : ec1 = 0
          · have t0 : (ec1 != 0) = false := bne_eq_false_iff_eq.mpr h0
            rw [if_neg (by simpa using h0)] at hst
            have HN := Aside0.mk hst
            clear hst h0
            go_wp2_with (first | (go_at_call 35; refine (sdlfield_calls A2 c2 l1 x (sv x) (ev x) (pb x) _ (by omega) (Kd.C_below HC2.out (by repeat (first | exact Below.refl _ _ | apply below_alloc | apply pw_below_drewN))) (HSV.out x) (HPB.out x) y ec1 HFV.out).mono ?_; rintro e wq2 ⟨rfl, hb2⟩; have n0_ := Aside0.mk (below_step (by repeat (first | (with_reducible first | exact HB.out | apply below_alloc | apply pw_below_drewN | apply below_drew1) | exact HB.out)) hb2); have n1_ := Aside0.mk (Kd.R_below (by (with_reducible repeat (first | apply Kd.R_alloc | apply Kd.R_drewN | apply Kd.R_drew)); exact HO.out) hb2); clear HB HO; have HB := n0_; have HO := n1_; clear n0_ n1_ hb2) | ((with_reducible refine gate_builtin (b := .append) (xs := #[.tmp 52, .tmp 54]) rfl ?_); at_builtin; refine Kd.R_append k54 (w0 := w5) w5.heap.size rfl (.tmp 52) (.tmp 54) 32 54 (.agg #[.string ⟨#[]⟩, .int .i64 0, .string ⟨#[]⟩, .string ⟨#[]⟩]) 56 rfl Tryd.underlying32 info54 rfl (by decide) (by omega) (.slice A2 l1.length c2) l1 y [.string y.f0, .int .i64 y.f1, .string y.f2, .string y.f3] (fun _ => True) (fun _ => False) rfl ?aX ?aP (fun _ hk => hk.elim) ?aF ?aO ?aB ?aS ?aL ?_; (case aX => exact two_new _ _); (case aP => exact k54_mkM _ _ _ y); (case aB => exact (by repeat (first | (with_reducible first | exact HB.out | apply below_alloc | apply pw_below_drewN | apply below_drew1) | exact HB.out))); (case aF => exact (fun _ _ => trivial)); (case aO => exact (by (with_reducible repeat (first | apply Kd.R_alloc | apply Kd.R_drewN | apply Kd.R_drew)); exact HO.out)); (case aS => exact (below_size (by repeat (first | (with_reducible first | exact HB.out | apply below_alloc | apply pw_below_drewN | apply below_drew1) | exact HB.out)))); (case aL => omega); intro v198 w29 ho hb hg hat; have n0_ := Aside0.mk (hb); have n1_ := Aside0.mk (ho); clear HB HO; have HB := n0_; have HO := n1_; clear n0_ n1_; clear ho hb hg hat))
            go_roundg k1
            case measure => omega
            case rel => exact ⟨j + 1, _, by first | rfl | (simp only [Int.natCast_add]; done) | (simp only [Int.natCast_add]; rfl), by omega, by omega, by (simp only [List.length_append, List.length_singleton]; omega), HN, ⟨(by (with_reducible repeat (first | apply Kd.R_alloc | apply Kd.R_drewN | apply Kd.R_drew)); exact HO.out)⟩, ⟨(by repeat (first | (with_reducible first | exact HB.out | apply below_alloc | apply pw_below_drewN | apply below_drew1) | exact HB.out))⟩⟩
          · have t0 : (ec1 != 0) = true := bne_iff_ne.mpr h0
            rw [if_pos h0] at hst
            cases hst
            clear h0
            go_wp2_with (first | (go_at_call 35; refine (sdlfield_calls A2 c2 l1 x (sv x) (ev x) (pb x) _ (by omega) (Kd.C_below HC2.out (by repeat (first | exact Below.refl _ _ | apply below_alloc | apply pw_below_drewN))) (HSV.out x) (HPB.out x) y ec1 HFV.out).mono ?_; rintro e wq2 ⟨rfl, hb2⟩; have n0_ := Aside0.mk (below_step (by repeat (first | (with_reducible first | exact HB.out | apply below_alloc | apply pw_below_drewN | apply below_drew1) | exact HB.out)) hb2); have n1_ := Aside0.mk (Kd.R_below (by (with_reducible repeat (first | apply Kd.R_alloc | apply Kd.R_drewN | apply Kd.R_drew)); exact HO.out) hb2); clear HB HO; have HB := n0_; have HO := n1_; clear n0_ n1_ hb2))
            go_ret2
            exact ⟨_, rfl, Kd.R_nil _ _ _ _ _, Below.trans HB5.out (below_less (by repeat (first | (with_reducible first | exact HB.out | apply below_alloc | apply pw_below_drewN | apply below_drew1) | exact HB.out)) (below_size HB5.out))⟩
        · have c1 : decide ((j : Int) < (m.length : Int)) = false := decide_eq_false (by omega)
          have hst := HE.out
          rw [List.drop_eq_nil_of_le (by omega)] at hst
          cases hst
          clear HE
          go_wp2
          go_ret2
          exact ⟨_, rfl, Kd.R_lower (by (with_reducible repeat (first | apply Kd.R_alloc | apply Kd.R_drewN | apply Kd.R_drew)); exact HO.out) (below_size HB5.out), Below.trans HB5.out (below_less (by repeat (first | (with_reducible first | exact HB.out | apply below_alloc | apply pw_below_drewN | apply below_drew1) | exact HB.out)) (below_size HB5.out))⟩
end Go.Proofs.YtgobpenmemlieaaDoor.Lex
