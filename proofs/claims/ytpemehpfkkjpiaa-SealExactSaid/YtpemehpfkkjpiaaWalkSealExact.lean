/-
  The walk of SealExact: whatever it is given it answers true; nothing that was there has changed.
-/
import Derived.Test.YtpemehpfkkjpiaaOUnframe
import Derived.Test.YtpemehpfkkjpiaaCallsSealExact
import Derived.Test.YtpemehpfkkjpiaaConv2
import Derived.Lib.Hide
namespace Go.Proofs.Ytpemehpfkkjpiaa.PSealExact
open Go.RowKit Go.Proofs.YtpemehpfkkjpiaaW.PrintWords Go.Proofs.YtpemehpfkkjpiaaW.PrintLast Go.Proofs.YtpemehpfkkjpiaaW.PrintMore Go.Proofs.Ytpemehpfkkjpiaa.SealMath Go.Proofs.Ytpemehpfkkjpiaa.Conv2
set_option linter.unusedVariables false
set_option linter.unusedSimpArgs false
theorem heavy_some (S : List ByteArray) (N : List Int) (hS : S.length * 16 ≤ 140737488351232) (hs : ∀ x ∈ S, x.size ≤ 140737488351232) : ∃ k b, amanuensislaw2_Heavy.f k S N = some b := by
  have hl : ∀ (d : Nat) (n i : Int), 0 ≤ n → n ≤ 400000000000000 → 0 ≤ i → i + d = S.length → ∃ k r, amanuensislaw0_Texts.l0 k S n i = some r := by
    intro d
    induction d with
    | zero => intro n i h0 h1 h2 h3; exact ⟨1, n, by rw [amanuensislaw0_Texts.l0, if_neg (by omega)]⟩
    | succ d ih =>
      intro n i h0 h1 h2 h3
      by_cases hn : n < 1048576
      · have hx : (rdOf ByteArray.empty S i).size ≤ 140737488351232 := by
          have hi : i.toNat < S.length := by omega
          have : rdOf ByteArray.empty S i = S[i.toNat] := by unfold rdOf; rw [List.getD_eq_getElem?_getD, List.getElem?_eq_getElem hi]; rfl
          rw [this]
          exact hs _ (List.getElem_mem hi)
        obtain ⟨k, r, hk⟩ := ih (n + ((rdOf ByteArray.empty S i).size : Int)) (i + 1) (by omega) (by omega) (by omega) (by omega)
        refine ⟨k + 1, r, ?_⟩
        rw [amanuensislaw0_Texts.l0, if_pos (by omega), if_pos hn, if_pos h2, show wrap64 (i + 1) = i + 1 by unfold wrap64; omega, show wrap64 (n + ((rdOf ByteArray.empty S i).size : Int)) = n + ((rdOf ByteArray.empty S i).size : Int) by unfold wrap64; omega]
        exact hk
      · exact ⟨1, n, by rw [amanuensislaw0_Texts.l0, if_pos (by omega), if_neg hn]⟩
  obtain ⟨k, r, hk⟩ := hl S.length S.length 0 (by omega) (by omega) (by omega) (by omega)
  refine ⟨k, decide ((wrap64 (r + (N.length : Int))) > 7000), ?_⟩
  unfold amanuensislaw2_Heavy.f amanuensislaw0_Texts.f
  rw [hk]
  rfl
theorem info9 : (Try.prog.info? 9).map (fun i => (i.zero, i.size, i.bytes)) = some (some (.string ⟨#[]⟩), 1, 16) := by kernel_rfl
theorem idx_range (x6 x3 n : Int) (h0 : 0 ≤ x6) (h1 : x6 ≤ 10) (h2 : 0 ≤ x3) (h3 : x3 ≤ 8) (h4 : 0 < n) (h5 : n ≤ 4008) :
    0 ≤ (wrap64 (wrap64 ((wrap64 (x6 * n)).tdiv 10) + x3)).tmod n ∧ (wrap64 (wrap64 ((wrap64 (x6 * n)).tdiv 10) + x3)).tmod n < n := by
  have m0 : 0 ≤ x6 * n := Int.mul_nonneg h0 (by omega)
  have m1 : x6 * n ≤ 10 * 4008 := Int.mul_le_mul h1 h5 (by omega) (by omega)
  rw [show wrap64 (x6 * n) = x6 * n by unfold wrap64; omega, Int.tdiv_eq_ediv_of_nonneg m0]
  have d0 : 0 ≤ x6 * n / 10 := Int.ediv_nonneg m0 (by omega)
  have d1 : x6 * n / 10 ≤ 4008 := by omega
  rw [show wrap64 (x6 * n / 10) = x6 * n / 10 by unfold wrap64; omega, show wrap64 (x6 * n / 10 + x3) = x6 * n / 10 + x3 by unfold wrap64; omega, Int.tmod_eq_emod_of_nonneg (by omega)]
  exact ⟨Int.emod_nonneg _ (by omega), Int.emod_lt_of_pos _ h4⟩
theorem frame_le (s : ByteArray) : (frame s).size ≤ 4008 := by
  by_cases h : s.size ≤ 4000
  · rw [frame_size s h]; omega
  · unfold frame
    rw [if_neg h]
    decide
set_option maxHeartbeats 8000000 in
set_option maxRecDepth 100000 in
theorem amanuensislaw10_SealExact.calls (S : List ByteArray) (N : List Int) (A0 A1 : Option Addr) (c0 c1 : Nat) (w : World) (hr0 : Kd.C Kd.string w A0 S.length S) (hc0 : S.length ≤ c0) (hr1 : Kd.C (Kd.int .i64) w A1 N.length N) (hc1 : N.length ≤ c1)
    (b0 : S.length * 16 ≤ 140737488351232 ∧ ∀ x ∈ S, x.size ≤ 140737488351232) :
    Calls Try.prog 4 #[.agg #[.slice A0 S.length c0, .slice A1 N.length c1]] w fun e w' => e = .returned (.bool true) ∧ Below w.heap.size w w' := by
  have hu40 := Try.underlying40
  obtain ⟨kh, bh, hH⟩ := heavy_some S N b0.1 b0.2
  obtain ⟨kw, hW⟩ := wakes_ev.rounds
  have HR0 := Aside0.mk hr0
  have HC0 := Aside0.mk hc0
  have HR1 := Aside0.mk hr1
  have HC1 := Aside0.mk hc1
  have HS := Aside0.mk b0
  have AH := Aside0.mk hH
  have AW := Aside0.mk hW
  clear hr0 hc0 hr1 hc1 hH hW b0
  have HB := Aside0.mk (Below.refl w.heap.size w)
  cases bh with
  | true =>
    go_enter Try.func4, Try.ntmps4
    go_wp2_with (first | ((with_reducible refine gate_dst (N := 1) rfl ?_); refine box_event ?hg (N := 1) ?hd (cs := #[.slice A0 S.length c0, .slice A1 N.length c1]) (t := 40) ?hr ?_; (case hd => rfl); (case hg => rfl); (case hr => first | (go_simp; done) | (go_simp; rfl)); intro gb hg w2 hbox hb; have n0_ := Aside0.mk (below_step (by (repeat (first | (with_reducible first | exact HB.out | apply below_alloc | apply pw_below_drewN | apply below_drew1) | exact HB.out))) hb); have n1_ := Aside0.mk (hbox); have n2_ := Aside0.mk ((by rw [hg]; exact (below_size (by (repeat (first | (with_reducible first | exact HB.out | apply below_alloc | apply pw_below_drewN | apply below_drew1) | exact HB.out))))) : w.heap.size ≤ gb); clear HB; have HB := n0_; have BKgb := n1_; have GEgb := n2_; clear n0_ n1_ n2_; clear hb hbox hg; have hcz_0 : w2.cell? ⟨gb, 0, none⟩ = some (.slice A0 S.length c0) := (blk_cell BKgb.out 0).trans rfl; have hfz_0 := blk_frozen BKgb.out 0; have hcz_1 : w2.cell? ⟨gb, 1, none⟩ = some (.slice A1 N.length c1) := (blk_cell BKgb.out 1).trans rfl; have hfz_1 := blk_frozen BKgb.out 1) | ((with_reducible refine gate_callee (f := 18) rfl ?_); refine goesL_ (some 16) rfl rfl Try.func18 (by kernel_rfl) rfl #[.agg #[.slice A0 S.length c0, .slice A1 N.length c1]] rfl (by (try simp only [List.map_toArray, List.map_cons, List.map_nil]); first | done | rfl | (simp only [List.length_drop, List.length_take]; rfl)) ?_; (with_reducible refine (amanuensislaw2_Heavy.calls kh A0 c0 S A1 c1 N true _ (Kd.C_below HR0.out (by (repeat (first | (with_reducible first | exact HB.out | apply below_alloc | apply pw_below_drewN | apply below_drew1) | exact HB.out)))) HC0.out (Kd.C_below HR1.out (by (repeat (first | (with_reducible first | exact HB.out | apply below_alloc | apply pw_below_drewN | apply below_drew1) | exact HB.out)))) HC1.out AH.out).mono ?_); rintro e wq ⟨rfl, hb⟩; refine ⟨_, rfl, ?_⟩; have n0_ := Aside0.mk (blk_below (g := gb) (o := .cells #[.slice A0 S.length c0, .slice A1 N.length c1] 40 (0, 0)) (by (with_reducible repeat (first | refine blk_drewN ?_ _ | refine blk_drew ?_ | refine blk_alloc ?_ _)); exact BKgb.out) hb); have nb_ := Aside0.mk (below_step (by (repeat (first | (with_reducible first | exact HB.out | apply below_alloc | apply pw_below_drewN | apply below_drew1) | exact HB.out))) hb); clear BKgb; clear HB; have BKgb := n0_; have HB := nb_; clear nb_ n0_; (try clear hb)))
    go_ret
    exact ⟨by first | rfl | (simp <;> rfl) | (simp [*] <;> rfl), by (repeat (first | (with_reducible first | exact HB.out | apply below_alloc | apply pw_below_drewN | apply below_drew1) | exact HB.out))⟩
  | false =>
    go_enter Try.func4, Try.ntmps4
    go_wp2_with (first | ((with_reducible refine gate_dst (N := 1) rfl ?_); refine box_event ?hg (N := 1) ?hd (cs := #[.slice A0 S.length c0, .slice A1 N.length c1]) (t := 40) ?hr ?_; (case hd => rfl); (case hg => rfl); (case hr => first | (go_simp; done) | (go_simp; rfl)); intro gb hg w2 hbox hb; have n0_ := Aside0.mk (below_step (by (repeat (first | (with_reducible first | exact HB.out | apply below_alloc | apply pw_below_drewN | apply below_drew1) | exact HB.out))) hb); have n1_ := Aside0.mk (hbox); have n2_ := Aside0.mk ((by rw [hg]; exact (below_size (by (repeat (first | (with_reducible first | exact HB.out | apply below_alloc | apply pw_below_drewN | apply below_drew1) | exact HB.out))))) : w.heap.size ≤ gb); clear HB; have HB := n0_; have BKgb := n1_; have GEgb := n2_; clear n0_ n1_ n2_; clear hb hbox hg; have hcz_0 : w2.cell? ⟨gb, 0, none⟩ = some (.slice A0 S.length c0) := (blk_cell BKgb.out 0).trans rfl; have hfz_0 := blk_frozen BKgb.out 0; have hcz_1 : w2.cell? ⟨gb, 1, none⟩ = some (.slice A1 N.length c1) := (blk_cell BKgb.out 1).trans rfl; have hfz_1 := blk_frozen BKgb.out 1) | ((with_reducible refine gate_callee (f := 18) rfl ?_); refine goesL_ (some 16) rfl rfl Try.func18 (by kernel_rfl) rfl #[.agg #[.slice A0 S.length c0, .slice A1 N.length c1]] rfl (by (try simp only [List.map_toArray, List.map_cons, List.map_nil]); first | done | rfl | (simp only [List.length_drop, List.length_take]; rfl)) ?_; (with_reducible refine (amanuensislaw2_Heavy.calls kh A0 c0 S A1 c1 N false _ (Kd.C_below HR0.out (by (repeat (first | (with_reducible first | exact HB.out | apply below_alloc | apply pw_below_drewN | apply below_drew1) | exact HB.out)))) HC0.out (Kd.C_below HR1.out (by (repeat (first | (with_reducible first | exact HB.out | apply below_alloc | apply pw_below_drewN | apply below_drew1) | exact HB.out)))) HC1.out AH.out).mono ?_); rintro e wq ⟨rfl, hb⟩; refine ⟨_, rfl, ?_⟩; have n0_ := Aside0.mk (blk_below (g := gb) (o := .cells #[.slice A0 S.length c0, .slice A1 N.length c1] 40 (0, 0)) (by (with_reducible repeat (first | refine blk_drewN ?_ _ | refine blk_drew ?_ | refine blk_alloc ?_ _)); exact BKgb.out) hb); have nb_ := Aside0.mk (below_step (by (repeat (first | (with_reducible first | exact HB.out | apply below_alloc | apply pw_below_drewN | apply below_drew1) | exact HB.out))) hb); clear BKgb; clear HB; have BKgb := n0_; have HB := nb_; clear nb_ n0_; (try clear hb)))
    go_loopg [3] 9 (fun kq v3 w' => ∃ x3 : Int, v3 = .int .i64 x3 ∧ 0 ≤ x3 ∧ x3 ≤ 8 ∧ x3 + kq = 9 ∧ Aside0 (w'.heap[gb]? = some (.cells #[.slice A0 S.length c0, .slice A1 N.length c1] 40 (0, 0))) ∧ Aside0 (Below w.heap.size w w'))
    case atStart => exact ⟨0, rfl, by omega, by omega, by omega, ⟨by (with_reducible repeat (first | refine blk_drewN ?_ _ | refine blk_drew ?_ | refine blk_alloc ?_ _)); exact BKgb.out⟩, ⟨by (repeat (first | (with_reducible first | exact HB.out | apply below_alloc | apply pw_below_drewN | apply below_drew1) | exact HB.out))⟩⟩
    case round =>
      obtain ⟨x3, rfl, h0, h8, h9, BKgb, HB⟩ := hrel
      obtain ⟨k1, rfl⟩ : ∃ k1, gk = k1 + 1 := ⟨gk - 1, by omega⟩
      by_cases hl : x3 < (S.length : Int)
      · have t1 : decide (x3 < (S.length : Int)) = true := decide_eq_true hl
        by_cases hm : x3 < 8
        · have t2 : decide (x3 < 8) = true := decide_eq_true hm
          have hcz_0 : wr.cell? ⟨gb, 0, none⟩ = some (.slice A0 S.length c0) := (blk_cell BKgb.out 0).trans rfl
          have hfz_0 := blk_frozen BKgb.out 0
          have hcz_1 : wr.cell? ⟨gb, 1, none⟩ = some (.slice A1 N.length c1) := (blk_cell BKgb.out 1).trans rfl
          have hfz_1 := blk_frozen BKgb.out 1
          obtain ⟨ad, e0, hx⟩ := Kd.at_string HR0.out x3 h0 hl
          cases e0
          have hsb : (rdOf ByteArray.empty S x3).size ≤ 140737488351232 := by
            have hi : x3.toNat < S.length := by omega
            have e_ : rdOf ByteArray.empty S x3 = S[x3.toNat] := by unfold rdOf; rw [List.getD_eq_getElem?_getD, List.getElem?_eq_getElem hi]; rfl
            rw [e_]
            exact HS.out.2 _ (List.getElem_mem hi)
          have HX := Aside0.mk hx
          replace hx := (HB.out.cell (World.block_lt_of_cell? w _ hx)).trans hx
          have p0 := eq_true h0
          have q0 := eq_true hl
          obtain ⟨ka, hadd⟩ := (add_ev (rdOf ByteArray.empty S x3)).rounds
          obtain ⟨kf, hfr⟩ := (frame_ev (rdOf ByteArray.empty S x3)).rounds
          obtain ⟨ko, hof⟩ := (of_ev (rdOf ByteArray.empty S x3) (by omega)).rounds
          obtain ⟨kc, hck⟩ := (check_ev (rdOf ByteArray.empty S x3) (by omega)).rounds
          have hfle := frame_le (rdOf ByteArray.empty S x3)
          have hfsz : (frame (rdOf ByteArray.empty S x3)).size ≠ 0 → (rdOf ByteArray.empty S x3).size ≤ 4000 := by
            intro hne
            by_cases h : (rdOf ByteArray.empty S x3).size ≤ 4000
            · exact h
            · exact absurd (by unfold frame; rw [if_neg h]; rfl) hne
          obtain ⟨s0, hs0⟩ : ∃ s0, rdOf ByteArray.empty S x3 = s0 := ⟨_, rfl⟩
          obtain ⟨F, hF⟩ : ∃ F, frame s0 = F := ⟨_, rfl⟩
          simp only [hs0, hF] at hadd hfr hof hck hfle hfsz hx HX hsb
          have AA := Aside0.mk hadd
          have AF := Aside0.mk hfr
          have AO := Aside0.mk hof
          have AC := Aside0.mk hck
          have HSB := Aside0.mk hsb
          have HFS := Aside0.mk hfsz
          clear hadd hfr hof hck hsb hfsz
          go_wp2_with (first | ((with_reducible refine gate_callee (f := 19) rfl ?_); refine goesL_ (some 33) rfl rfl Try.func19 (by kernel_rfl) rfl #[.string s0] rfl (by (try simp only [List.map_toArray, List.map_cons, List.map_nil]); first | done | rfl | (simp only [List.length_drop, List.length_take]; rfl)) ?_; (with_reducible refine (seal_Add.calls ka s0 F _ AA.out).mono ?_); rintro e wq ⟨rfl, hb⟩; refine ⟨_, rfl, ?_⟩; have n0_ := Aside0.mk (blk_below (g := gb) (o := .cells #[.slice (some ad) S.length c0, .slice A1 N.length c1] 40 (0, 0)) (by (with_reducible repeat (first | refine blk_drewN ?_ _ | refine blk_drew ?_ | refine blk_alloc ?_ _)); exact BKgb.out) hb); have nb_ := Aside0.mk (below_step (by (repeat (first | (with_reducible first | exact HB.out | apply below_alloc | apply pw_below_drewN | apply below_drew1) | exact HB.out))) hb); clear BKgb; clear HB; have BKgb := n0_; have HB := nb_; clear nb_ n0_; (try clear hb)))
          have m0_ := Aside0.mk (blk_drew BKgb.out)
          have m1_ := Aside0.mk (below_drew1 HB.out)
          clear BKgb HB
          have BKgb := m0_
          have HB := m1_
          clear m0_ m1_
          refine start_ (n := 23) (S := fun w' => w'.cell? ⟨gb, 0, none⟩ = some (.slice (some ad) S.length c0) ∧ w'.cell? (ad.add x3.toNat) = some (.string s0)) (ds := []) #[false, false, false, false, false, false, false, false, false, false, false, false, false, false, false, false, false, false, false, false, false, false, false] (by kernel_rfl) rfl rfl ⟨((blk_cell BKgb.out 0).trans rfl), ((HB.out.cell (World.block_lt_of_cell? w _ HX.out)).trans HX.out)⟩ (fun hHeld => ?_)
          generalize wq.drew = w5 at BKgb HB hHeld ⊢
          refine pure_ (i := 0) (N := some 34) (v := ?_) (a' := ?_) #[true, false, false, false, false, false, false, false, false, false, false, false, false, false, false, false, false, false, false, false, false, false, false] rfl rfl (by kernel_rfl) (fun _ _ _ h => h) (Or.inl ⟨by rfl, ?_⟩) ?_ ?_
          rotate_left
          · intro w'
            go_simp
            with_reducible rfl
          rotate_left
          · simp only [Act.put, List.setIfInBounds_toArray, List.set_cons_zero, List.set_cons_succ, i64_w, i32_w]
            rfl
          refine pure_ (i := 2) (N := some 36) (v := ?_) (a' := ?_) #[true, false, true, false, false, false, false, false, false, false, false, false, false, false, false, false, false, false, false, false, false, false, false] rfl rfl (by kernel_rfl) (fun _ _ _ h => h) (Or.inl ⟨by rfl, ?_⟩) ?_ ?_
          rotate_left
          · intro w'
            go_simp
            with_reducible rfl
          rotate_left
          · simp only [Act.put, List.setIfInBounds_toArray, List.set_cons_zero, List.set_cons_succ, i64_w, i32_w]
            rfl
          refine pure_ (i := 6) (N := some 40) (v := ?_) (a' := ?_) #[true, false, true, false, false, false, true, false, false, false, false, false, false, false, false, false, false, false, false, false, false, false, false] rfl rfl (by kernel_rfl) (fun _ _ _ h => h) (Or.inl ⟨by rfl, ?_⟩) ?_ ?_
          rotate_left
          · intro w'
            go_simp
            with_reducible rfl
          rotate_left
          · simp only [Act.put, List.setIfInBounds_toArray, List.set_cons_zero, List.set_cons_succ, i64_w, i32_w]
            rfl
          refine pure_ (i := 8) (N := some 42) (v := ?_) (a' := ?_) #[true, false, true, false, false, false, true, false, true, false, false, false, false, false, false, false, false, false, false, false, false, false, false] rfl rfl (by kernel_rfl) (fun _ _ _ h => h) (Or.inl ⟨by rfl, ?_⟩) ?_ ?_
          rotate_left
          · intro w'
            go_simp
            with_reducible rfl
          rotate_left
          · simp only [Act.put, List.setIfInBounds_toArray, List.set_cons_zero, List.set_cons_succ, i64_w, i32_w]
            rfl
          refine take_ (i := 1) (N := some 35) (v := ?_) (a' := ?_) #[true, true, true, false, false, false, true, false, true, false, false, false, false, false, false, false, false, false, false, false, false, false, false] rfl rfl (by kernel_rfl) (fun _ _ _ h => h) (Or.inl ⟨by rfl, ?_⟩) hHeld ?_ ?_
          rotate_left
          · rintro w' ⟨s0, s1⟩
            go_simp
            with_reducible rfl
          rotate_left
          · simp only [Act.put, List.setIfInBounds_toArray, List.set_cons_zero, List.set_cons_succ, i64_w, i32_w]
            rfl
          refine pure_ (i := 3) (N := some 37) (v := ?_) (a' := ?_) #[true, true, true, true, false, false, true, false, true, false, false, false, false, false, false, false, false, false, false, false, false, false, false] rfl rfl (by kernel_rfl) (fun _ _ _ h => h) (Or.inl ⟨by rfl, ?_⟩) ?_ ?_
          rotate_left
          · intro w'
            go_simp
            with_reducible rfl
          rotate_left
          · simp only [Act.put, List.setIfInBounds_toArray, List.set_cons_zero, List.set_cons_succ, i64_w, i32_w]
            rfl
          refine take_ (i := 4) (N := some 38) (v := ?_) (a' := ?_) #[true, true, true, true, true, false, true, false, true, false, false, false, false, false, false, false, false, false, false, false, false, false, false] rfl rfl (by kernel_rfl) (fun _ _ _ h => h) (Or.inl ⟨by rfl, ?_⟩) hHeld ?_ ?_
          rotate_left
          · rintro w' ⟨s0, s1⟩
            go_simp
            with_reducible rfl
          rotate_left
          · simp only [Act.put, List.setIfInBounds_toArray, List.set_cons_zero, List.set_cons_succ, i64_w, i32_w]
            rfl
          refine take_ (i := 7) (N := some 41) (v := ?_) (a' := ?_) #[true, true, true, true, true, false, true, true, true, false, false, false, false, false, false, false, false, false, false, false, false, false, false] rfl rfl (by kernel_rfl) (fun _ _ _ h => h) (Or.inl ⟨by rfl, ?_⟩) hHeld ?_ ?_
          rotate_left
          · rintro w' ⟨s0, s1⟩
            go_simp
            with_reducible rfl
          rotate_left
          · simp only [Act.put, List.setIfInBounds_toArray, List.set_cons_zero, List.set_cons_succ, i64_w, i32_w]
            rfl
          refine pure_ (i := 9) (N := some 43) (v := ?_) (a' := ?_) #[true, true, true, true, true, false, true, true, true, true, false, false, false, false, false, false, false, false, false, false, false, false, false] rfl rfl (by kernel_rfl) (fun _ _ _ h => h) (Or.inl ⟨by rfl, ?_⟩) ?_ ?_
          rotate_left
          · intro w'
            go_simp
            with_reducible rfl
          rotate_left
          · simp only [Act.put, List.setIfInBounds_toArray, List.set_cons_zero, List.set_cons_succ, i64_w, i32_w]
            rfl
          refine take_ (i := 10) (N := some 44) (v := ?_) (a' := ?_) #[true, true, true, true, true, false, true, true, true, true, true, false, false, false, false, false, false, false, false, false, false, false, false] rfl rfl (by kernel_rfl) (fun _ _ _ h => h) (Or.inl ⟨by rfl, ?_⟩) hHeld ?_ ?_
          rotate_left
          · rintro w' ⟨s0, s1⟩
            go_simp
            with_reducible rfl
          rotate_left
          · simp only [Act.put, List.setIfInBounds_toArray, List.set_cons_zero, List.set_cons_succ, i64_w, i32_w]
            rfl
          refine one_ (i := 5) (N := some 39) #[true, true, true, true, true, true, true, true, true, true, true, false, false, false, false, false, false, false, false, false, false, false, false] rfl rfl (by kernel_rfl) (by decide) (fun K hK => ?_)
          refine goes_ Try.func20 (by kernel_rfl) rfl #[.string s0] (by rfl) rfl rfl (by simp only [List.map_toArray, List.map_cons, List.map_nil]; rfl) ?_
          with_reducible refine (seal_Of.calls ko s0 _ _ AO.out).mono ?_
          rintro e w' ⟨rfl, ⟨nd, rfl⟩⟩
          refine ⟨_, rfl, ?_⟩
          refine hK.out _ _ ⟨hHeld.1, hHeld.2⟩ (fun hHeld => ?_)
          clear hK K
          refine norm_ (a' := ?_) ?_ ?_
          rotate_left
          · show Act.put _ (some 39) _ = _
            simp only [Act.put, List.setIfInBounds_toArray, List.set_cons_zero, List.set_cons_succ, i64_w, i32_w]
            rfl
          refine one_ (i := 11) (N := some 45) #[true, true, true, true, true, true, true, true, true, true, true, true, false, false, false, false, false, false, false, false, false, false, false] rfl rfl (by kernel_rfl) (by decide) (fun K hK => ?_)
          refine goes_ Try.func21 (by kernel_rfl) rfl #[.string s0] (by rfl) rfl rfl (by simp only [List.map_toArray, List.map_cons, List.map_nil]; rfl) ?_
          with_reducible refine (amanuensisref9_Check.calls kc s0 _ _ AC.out).mono ?_
          rintro e w' ⟨rfl, ⟨nd2, rfl⟩⟩
          refine ⟨_, rfl, ?_⟩
          refine hK.out _ _ ⟨hHeld.1, hHeld.2⟩ (fun hHeld => ?_)
          clear hK K
          refine norm_ (a' := ?_) ?_ ?_
          rotate_left
          · show Act.put _ (some 45) _ = _
            simp only [Act.put, List.setIfInBounds_toArray, List.set_cons_zero, List.set_cons_succ, i64_w, i32_w]
            rfl
          refine pure_ (i := 12) (N := some 46) (v := ?_) (a' := ?_) #[true, true, true, true, true, true, true, true, true, true, true, true, true, false, false, false, false, false, false, false, false, false, false] rfl rfl (by kernel_rfl) (fun _ _ _ h => h) (Or.inl ⟨by rfl, ?_⟩) ?_ ?_
          rotate_left
          · intro w'
            go_simp
            with_reducible rfl
          rotate_left
          · simp only [Act.put, List.setIfInBounds_toArray, List.set_cons_zero, List.set_cons_succ, i64_w, i32_w]
            rfl
          refine pure_ (i := 13) (N := some 47) (v := ?_) (a' := ?_) #[true, true, true, true, true, true, true, true, true, true, true, true, true, true, false, false, false, false, false, false, false, false, false] rfl rfl (by kernel_rfl) (fun _ _ _ h => h) (Or.inl ⟨by rfl, ?_⟩) ?_ ?_
          rotate_left
          · intro w'
            go_simp
            with_reducible rfl
          rotate_left
          · simp only [Act.put, List.setIfInBounds_toArray, List.set_cons_zero, List.set_cons_succ, i64_w, i32_w]
            rfl
          refine pure_ (i := 14) (N := some 48) (v := ?_) (a' := ?_) #[true, true, true, true, true, true, true, true, true, true, true, true, true, true, true, false, false, false, false, false, false, false, false] rfl rfl (by kernel_rfl) (fun _ _ _ h => h) (Or.inl ⟨by rfl, ?_⟩) ?_ ?_
          rotate_left
          · intro w'
            go_simp
            with_reducible rfl
          rotate_left
          · simp only [Act.put, List.setIfInBounds_toArray, List.set_cons_zero, List.set_cons_succ, i64_w, i32_w]
            rfl
          refine pure_ (i := 15) (N := some 49) (v := ?_) (a' := ?_) #[true, true, true, true, true, true, true, true, true, true, true, true, true, true, true, true, false, false, false, false, false, false, false] rfl rfl (by kernel_rfl) (fun _ _ _ h => h) (Or.inl ⟨by rfl, ?_⟩) ?_ ?_
          rotate_left
          · intro w'
            go_simp
            with_reducible rfl
          rotate_left
          · simp only [Act.put, List.setIfInBounds_toArray, List.set_cons_zero, List.set_cons_succ, i64_w, i32_w]
            rfl
          refine take_ (i := 16) (N := some 50) (v := ?_) (a' := ?_) #[true, true, true, true, true, true, true, true, true, true, true, true, true, true, true, true, true, false, false, false, false, false, false] rfl rfl (by kernel_rfl) (fun _ _ _ h => h) (Or.inl ⟨by rfl, ?_⟩) hHeld ?_ ?_
          rotate_left
          · rintro w' ⟨s0, s1⟩
            go_simp
            with_reducible rfl
          rotate_left
          · simp only [Act.put, List.setIfInBounds_toArray, List.set_cons_zero, List.set_cons_succ, i64_w, i32_w]
            rfl
          refine pure_ (i := 17) (N := some 51) (v := ?_) (a' := ?_) #[true, true, true, true, true, true, true, true, true, true, true, true, true, true, true, true, true, true, false, false, false, false, false] rfl rfl (by kernel_rfl) (fun _ _ _ h => h) (Or.inl ⟨by rfl, ?_⟩) ?_ ?_
          rotate_left
          · intro w'
            go_simp
            with_reducible rfl
          rotate_left
          · simp only [Act.put, List.setIfInBounds_toArray, List.set_cons_zero, List.set_cons_succ, i64_w, i32_w]
            rfl
          refine pure_ (i := 18) (N := some 52) (v := ?_) (a' := ?_) #[true, true, true, true, true, true, true, true, true, true, true, true, true, true, true, true, true, true, true, false, false, false, false] rfl rfl (by kernel_rfl) (fun _ _ _ h => h) (Or.inl ⟨by rfl, ?_⟩) ?_ ?_
          rotate_left
          · intro w'
            go_simp
            with_reducible rfl
          rotate_left
          · simp only [Act.put, List.setIfInBounds_toArray, List.set_cons_zero, List.set_cons_succ, i64_w, i32_w]
            rfl
          refine take_ (i := 19) (N := some 53) (v := ?_) (a' := ?_) #[true, true, true, true, true, true, true, true, true, true, true, true, true, true, true, true, true, true, true, true, false, false, false] rfl rfl (by kernel_rfl) (fun _ _ _ h => h) (Or.inl ⟨by rfl, ?_⟩) hHeld ?_ ?_
          rotate_left
          · rintro w' ⟨s0, s1⟩
            go_simp
            with_reducible rfl
          rotate_left
          · simp only [Act.put, List.setIfInBounds_toArray, List.set_cons_zero, List.set_cons_succ, i64_w, i32_w]
            rfl
          refine one_ (i := 20) (N := some 54) #[true, true, true, true, true, true, true, true, true, true, true, true, true, true, true, true, true, true, true, true, true, false, false] rfl rfl (by kernel_rfl) (by decide) (fun K hK => ?_)
          refine goes_ Try.func22 (by kernel_rfl) rfl #[.string s0] (by rfl) rfl rfl (by simp only [List.map_toArray, List.map_cons, List.map_nil]; rfl) ?_
          with_reducible refine (amanuensisref9_Frame.calls kf s0 F _ AF.out).mono ?_
          rintro e wq ⟨rfl, hb⟩
          refine ⟨_, rfl, ?_⟩
          have n0_ := Aside0.mk (blk_below (g := gb) (o := .cells #[.slice (some ad) S.length c0, .slice A1 N.length c1] 40 (0, 0)) (by (with_reducible repeat (first | refine blk_drewN ?_ _ | refine blk_drew ?_ | refine blk_alloc ?_ _)); exact BKgb.out) hb); have nb_ := Aside0.mk (below_step (by (repeat (first | (with_reducible first | exact HB.out | apply below_alloc | apply pw_below_drewN | apply below_drew1) | exact HB.out))) hb); clear BKgb; clear HB; have BKgb := n0_; have HB := nb_; clear nb_ n0_; (try clear hb)
          refine hK.out _ _ ⟨((blk_cell BKgb.out 0).trans rfl), ((HB.out.cell (World.block_lt_of_cell? w _ HX.out)).trans HX.out)⟩ (fun hHeld => ?_)
          clear hK K
          refine norm_ (a' := ?_) ?_ ?_
          rotate_left
          · show Act.put _ (some 54) _ = _
            simp only [Act.put, List.setIfInBounds_toArray, List.set_cons_zero, List.set_cons_succ, i64_w, i32_w]
            rfl
          refine pure_ (i := 21) (N := some 55) (v := ?_) (a' := ?_) #[true, true, true, true, true, true, true, true, true, true, true, true, true, true, true, true, true, true, true, true, true, true, false] rfl rfl (by kernel_rfl) (fun _ _ _ h => h) (Or.inl ⟨by rfl, ?_⟩) ?_ ?_
          rotate_left
          · intro w'
            go_simp
            with_reducible rfl
          rotate_left
          · simp only [Act.put, List.setIfInBounds_toArray, List.set_cons_zero, List.set_cons_succ, i64_w, i32_w]
            rfl
          refine pure_ (i := 22) (N := some 56) (v := ?_) (a' := ?_) #[true, true, true, true, true, true, true, true, true, true, true, true, true, true, true, true, true, true, true, true, true, true, true] rfl rfl (by kernel_rfl) (fun _ _ _ h => h) (Or.inl ⟨by rfl, ?_⟩) ?_ ?_
          rotate_left
          · intro w'
            go_simp
            with_reducible rfl
          rotate_left
          · simp only [Act.put, List.setIfInBounds_toArray, List.set_cons_zero, List.set_cons_succ, i64_w, i32_w]
            rfl
          refine done_ (by kernel_rfl) ?_
          have hcz_0 : wq.cell? ⟨gb, 0, none⟩ = some (.slice (some ad) S.length c0) := (blk_cell BKgb.out 0).trans rfl
          have hfz_0 := blk_frozen BKgb.out 0
          have hcz_1 : wq.cell? ⟨gb, 1, none⟩ = some (.slice A1 N.length c1) := (blk_cell BKgb.out 1).trans rfl
          have hfz_1 := blk_frozen BKgb.out 1
          replace hx := (HB.out.cell (World.block_lt_of_cell? w _ HX.out)).trans HX.out
          by_cases hF0 : F.size = 0
          · have f1 : ((F.size : Int) == 0) = true := by rw [beq_iff_eq]; omega
            have f2 : (F.size == 0) = true := by rw [beq_iff_eq]; exact hF0
            have f3 : decide (F.size = 0) = true := decide_eq_true hF0
            have f4 : decide ((F.size : Int) = 0) = true := decide_eq_true (by omega)
            clear hF0
            go_wp2
            go_roundg k1
            case measure => omega
            case rel => exact ⟨x3 + 1, rfl, by omega, by omega, by omega, ⟨by (with_reducible repeat (first | refine blk_drewN ?_ _ | refine blk_drew ?_ | refine blk_alloc ?_ _)); exact BKgb.out⟩, ⟨by (repeat (first | (with_reducible first | exact HB.out | apply below_alloc | apply pw_below_drewN | apply below_drew1) | exact HB.out))⟩⟩
          · have f1 : ((F.size : Int) == 0) = false := by rw [beq_eq_false_iff_ne]; omega
            have f2 : (F.size == 0) = false := by rw [beq_eq_false_iff_ne]; exact hF0
            have f3 : decide (F.size = 0) = false := decide_eq_false hF0
            have f4 : decide ((F.size : Int) = 0) = false := decide_eq_false (by omega)
            have hs4 := HFS.out hF0
            have hFp : 0 < F.size := by omega
            clear hF0
            go_wp2
            have m0_ := Aside0.mk (blk_drew BKgb.out)
            have m1_ := Aside0.mk (below_drew1 HB.out)
            clear BKgb HB
            have BKgb := m0_
            have HB := m1_
            clear m0_ m1_
            have d1 : (9223372036854775807 < F.size + s0.size) = False := eq_false (by omega)
            have d2 : (9223372036854775807 < F.size + F.size) = False := eq_false (by omega)
            refine start_ (n := 18) (S := fun w' => w'.cell? ⟨gb, 0, none⟩ = some (.slice (some ad) S.length c0) ∧ w'.cell? (ad.add x3.toNat) = some (.string s0)) (ds := []) #[false, false, false, false, false, false, false, false, false, false, false, false, false, false, false, false, false, false] (by kernel_rfl) rfl rfl ⟨((blk_cell BKgb.out 0).trans rfl), ((HB.out.cell (World.block_lt_of_cell? w _ HX.out)).trans HX.out)⟩ (fun hHeld => ?_)
            generalize wq.drew = w6 at BKgb HB hHeld ⊢
            refine pure_ (i := 0) (N := some 60) (v := ?_) (a' := ?_) #[true, false, false, false, false, false, false, false, false, false, false, false, false, false, false, false, false, false] rfl rfl (by kernel_rfl) (fun _ _ _ h => h) (Or.inl ⟨by rfl, ?_⟩) ?_ ?_
            rotate_left
            · intro w'
              go_simp
              with_reducible rfl
            rotate_left
            · simp only [Act.put, List.setIfInBounds_toArray, List.set_cons_zero, List.set_cons_succ, i64_w, i32_w]
              rfl
            refine pure_ (i := 2) (N := some 62) (v := ?_) (a' := ?_) #[true, false, true, false, false, false, false, false, false, false, false, false, false, false, false, false, false, false] rfl rfl (by kernel_rfl) (fun _ _ _ h => h) (Or.inl ⟨by rfl, ?_⟩) ?_ ?_
            rotate_left
            · intro w'
              go_simp
              with_reducible rfl
            rotate_left
            · simp only [Act.put, List.setIfInBounds_toArray, List.set_cons_zero, List.set_cons_succ, i64_w, i32_w]
              rfl
            refine pure_ (i := 5) (N := some 65) (v := ?_) (a' := ?_) #[true, false, true, false, false, true, false, false, false, false, false, false, false, false, false, false, false, false] rfl rfl (by kernel_rfl) (fun _ _ _ h => h) (Or.inl ⟨by rfl, ?_⟩) ?_ ?_
            rotate_left
            · intro w'
              go_simp
              with_reducible rfl
            rotate_left
            · simp only [Act.put, List.setIfInBounds_toArray, List.set_cons_zero, List.set_cons_succ, i64_w, i32_w]
              rfl
            refine pure_ (i := 6) (N := some 66) (v := ?_) (a' := ?_) #[true, false, true, false, false, true, true, false, false, false, false, false, false, false, false, false, false, false] rfl rfl (by kernel_rfl) (fun _ _ _ h => h) (Or.inl ⟨by rfl, ?_⟩) ?_ ?_
            rotate_left
            · intro w'
              go_simp
              with_reducible rfl
            rotate_left
            · simp only [Act.put, List.setIfInBounds_toArray, List.set_cons_zero, List.set_cons_succ, i64_w, i32_w]
              rfl
            refine pure_ (i := 7) (N := some 67) (v := ?_) (a' := ?_) #[true, false, true, false, false, true, true, true, false, false, false, false, false, false, false, false, false, false] rfl rfl (by kernel_rfl) (fun _ _ _ h => h) (Or.inl ⟨by rfl, ?_⟩) ?_ ?_
            rotate_left
            · intro w'
              go_simp
              with_reducible rfl
            rotate_left
            · simp only [Act.put, List.setIfInBounds_toArray, List.set_cons_zero, List.set_cons_succ, i64_w, i32_w]
              rfl
            refine pure_ (i := 9) (N := some 69) (v := ?_) (a' := ?_) #[true, false, true, false, false, true, true, true, false, true, false, false, false, false, false, false, false, false] rfl rfl (by kernel_rfl) (fun _ _ _ h => h) (Or.inl ⟨by rfl, ?_⟩) ?_ ?_
            rotate_left
            · intro w'
              go_simp
              with_reducible rfl
            rotate_left
            · simp only [Act.put, List.setIfInBounds_toArray, List.set_cons_zero, List.set_cons_succ, i64_w, i32_w]
              rfl
            refine pure_ (i := 13) (N := some 73) (v := ?_) (a' := ?_) #[true, false, true, false, false, true, true, true, false, true, false, false, false, true, false, false, false, false] rfl rfl (by kernel_rfl) (fun _ _ _ h => h) (Or.inl ⟨by rfl, ?_⟩) ?_ ?_
            rotate_left
            · intro w'
              go_simp
              with_reducible rfl
            rotate_left
            · simp only [Act.put, List.setIfInBounds_toArray, List.set_cons_zero, List.set_cons_succ, i64_w, i32_w]
              rfl
            refine pure_ (i := 14) (N := some 74) (v := ?_) (a' := ?_) #[true, false, true, false, false, true, true, true, false, true, false, false, false, true, true, false, false, false] rfl rfl (by kernel_rfl) (fun _ _ _ h => h) (Or.inl ⟨by rfl, ?_⟩) ?_ ?_
            rotate_left
            · intro w'
              go_simp
              with_reducible rfl
            rotate_left
            · simp only [Act.put, List.setIfInBounds_toArray, List.set_cons_zero, List.set_cons_succ, i64_w, i32_w]
              rfl
            refine pure_ (i := 15) (N := some 75) (v := ?_) (a' := ?_) #[true, false, true, false, false, true, true, true, false, true, false, false, false, true, true, true, false, false] rfl rfl (by kernel_rfl) (fun _ _ _ h => h) (Or.inl ⟨by rfl, ?_⟩) ?_ ?_
            rotate_left
            · intro w'
              go_simp
              with_reducible rfl
            rotate_left
            · simp only [Act.put, List.setIfInBounds_toArray, List.set_cons_zero, List.set_cons_succ, i64_w, i32_w]
              rfl
            refine take_ (i := 1) (N := some 61) (v := ?_) (a' := ?_) #[true, true, true, false, false, true, true, true, false, true, false, false, false, true, true, true, false, false] rfl rfl (by kernel_rfl) (fun _ _ _ h => h) (Or.inl ⟨by rfl, ?_⟩) hHeld ?_ ?_
            rotate_left
            · rintro w' ⟨s0, s1⟩
              go_simp
              with_reducible rfl
            rotate_left
            · simp only [Act.put, List.setIfInBounds_toArray, List.set_cons_zero, List.set_cons_succ, i64_w, i32_w]
              rfl
            refine pure_ (i := 3) (N := some 63) (v := ?_) (a' := ?_) #[true, true, true, true, false, true, true, true, false, true, false, false, false, true, true, true, false, false] rfl rfl (by kernel_rfl) (fun _ _ _ h => h) (Or.inl ⟨by rfl, ?_⟩) ?_ ?_
            rotate_left
            · intro w'
              go_simp
              with_reducible rfl
            rotate_left
            · simp only [Act.put, List.setIfInBounds_toArray, List.set_cons_zero, List.set_cons_succ, i64_w, i32_w]
              rfl
            refine take_ (i := 4) (N := some 64) (v := ?_) (a' := ?_) #[true, true, true, true, true, true, true, true, false, true, false, false, false, true, true, true, false, false] rfl rfl (by kernel_rfl) (fun _ _ _ h => h) (Or.inl ⟨by rfl, ?_⟩) hHeld ?_ ?_
            rotate_left
            · rintro w' ⟨s0, s1⟩
              go_simp
              with_reducible rfl
            rotate_left
            · simp only [Act.put, List.setIfInBounds_toArray, List.set_cons_zero, List.set_cons_succ, i64_w, i32_w]
              rfl
            refine take_ (i := 8) (N := some 68) (v := ?_) (a' := ?_) #[true, true, true, true, true, true, true, true, true, true, false, false, false, true, true, true, false, false] rfl rfl (by kernel_rfl) (fun _ _ _ h => h) (Or.inl ⟨by rfl, ?_⟩) hHeld ?_ ?_
            rotate_left
            · rintro w' ⟨s0, s1⟩
              go_simp
              with_reducible rfl
            rotate_left
            · simp only [Act.put, List.setIfInBounds_toArray, List.set_cons_zero, List.set_cons_succ, i64_w, i32_w]
              rfl
            refine pure_ (i := 10) (N := some 70) (v := ?_) (a' := ?_) #[true, true, true, true, true, true, true, true, true, true, true, false, false, true, true, true, false, false] rfl rfl (by kernel_rfl) (fun _ _ _ h => h) (Or.inl ⟨by rfl, ?_⟩) ?_ ?_
            rotate_left
            · intro w'
              go_simp
              with_reducible rfl
            rotate_left
            · simp only [Act.put, List.setIfInBounds_toArray, List.set_cons_zero, List.set_cons_succ, i64_w, i32_w]
              rfl
            refine take_ (i := 11) (N := some 71) (v := ?_) (a' := ?_) #[true, true, true, true, true, true, true, true, true, true, true, true, false, true, true, true, false, false] rfl rfl (by kernel_rfl) (fun _ _ _ h => h) (Or.inl ⟨by rfl, ?_⟩) hHeld ?_ ?_
            rotate_left
            · rintro w' ⟨s0, s1⟩
              go_simp
              with_reducible rfl
            rotate_left
            · simp only [Act.put, List.setIfInBounds_toArray, List.set_cons_zero, List.set_cons_succ, i64_w, i32_w]
              rfl
            refine pure_ (i := 12) (N := some 72) (v := ?_) (a' := ?_) #[true, true, true, true, true, true, true, true, true, true, true, true, true, true, true, true, false, false] rfl rfl (by kernel_rfl) (fun _ _ _ h => h) (Or.inl ⟨by rfl, ?_⟩) ?_ ?_
            rotate_left
            · intro w'
              go_simp
              with_reducible rfl
            rotate_left
            · simp only [Act.put, List.setIfInBounds_toArray, List.set_cons_zero, List.set_cons_succ, i64_w, i32_w]
              rfl
            refine one_ (i := 16) (N := some 76) #[true, true, true, true, true, true, true, true, true, true, true, true, true, true, true, true, true, false] rfl rfl (by kernel_rfl) (by decide) (fun K hK => ?_)
            refine Kd.R_lit_step Kd.string _ 9 ?hg (N := 76) ?hd (xs := ([s0, F, F ++ s0, F ++ F, (⟨#[]⟩ : ByteArray)] : List ByteArray)) (inner := [.string (s0), .string (F), .string (F ++ s0), .string (F ++ F), .string ((⟨#[]⟩ : ByteArray))]) (ok := fun k_ => k_ ≠ gb) (okp := fun _ => False) ?hr ?hp (fun _ hk => hk.elim) ?hf (Below.refl _ _) (Nat.le_refl _) (by simp) ?_; (case hd => rfl); (case hg => rfl); (case hr => first | (go_simp; done) | (go_simp; rfl)); (case hp => exact (Reps.one (show Kd.M Kd.string _ _ _ (s0 : ByteArray) [.string (s0)] from rfl) (Reps.one (show Kd.M Kd.string _ _ _ (F : ByteArray) [.string (F)] from rfl) (Reps.one (show Kd.M Kd.string _ _ _ (F ++ s0 : ByteArray) [.string (F ++ s0)] from rfl) (Reps.one (show Kd.M Kd.string _ _ _ (F ++ F : ByteArray) [.string (F ++ F)] from rfl) (Reps.one (show Kd.M Kd.string _ _ _ ((⟨#[]⟩ : ByteArray) : ByteArray) [.string ((⟨#[]⟩ : ByteArray))] from rfl) (Reps.none _ _))))))); (case hf => exact Nat.ne_of_gt (blk_lt BKgb.out))
            intro v5 w7 ho hb hg_ hnew_
            clear hg_ hnew_
            have HO := Aside0.mk (Kd.R_lower ho (below_size (by (repeat (first | (with_reducible first | exact HB.out | apply below_alloc | apply pw_below_drewN | apply below_drew1) | exact HB.out)))))
            clear ho
            have n0_ := Aside0.mk (blk_below (g := gb) (o := .cells #[.slice (some ad) S.length c0, .slice A1 N.length c1] 40 (0, 0)) (by (with_reducible repeat (first | refine blk_drewN ?_ _ | refine blk_drew ?_ | refine blk_alloc ?_ _)); exact BKgb.out) hb); have nb_ := Aside0.mk (below_step (by (repeat (first | (with_reducible first | exact HB.out | apply below_alloc | apply pw_below_drewN | apply below_drew1) | exact HB.out))) hb); clear BKgb; clear HB; have BKgb := n0_; have HB := nb_; clear nb_ n0_; (try clear hb)
            refine hK.out _ _ ⟨((blk_cell BKgb.out 0).trans rfl), ((HB.out.cell (World.block_lt_of_cell? w _ HX.out)).trans HX.out)⟩ (fun hHeld => ?_)
            clear hK K
            refine norm_ (a' := ?_) ?_ ?_
            rotate_left
            · show Act.put _ (some 76) _ = _
              simp only [Act.put, List.setIfInBounds_toArray, List.set_cons_zero, List.set_cons_succ, i64_w, i32_w]
              rfl
            refine pure_ (i := 17) (N := some 5) (v := ?_) (a' := ?_) #[true, true, true, true, true, true, true, true, true, true, true, true, true, true, true, true, true, true] rfl rfl (by kernel_rfl) (fun _ _ _ h => h) (Or.inl ⟨by rfl, ?_⟩) ?_ ?_
            rotate_left
            · intro w'
              go_simp
              with_reducible rfl
            rotate_left
            · simp only [Act.put, List.setIfInBounds_toArray, List.set_cons_zero, List.set_cons_succ, i64_w, i32_w]
              rfl
            refine done_ (by kernel_rfl) ?_
            go_wp2
            go_loopg [5, 6] 11 (fun kq v5 v6 w' => ∃ (x6 : Int) (T : List ByteArray) (vv : Value), vv = v5 ∧ v6 = .int .i64 x6 ∧ 0 ≤ x6 ∧ x6 ≤ 10 ∧ x6 + kq = 11 ∧ Aside0 (Kd.R Kd.string 9 w' w.heap.size (fun k_ => k_ ≠ gb) v5 T) ∧ Aside0 ((∀ t ∈ T, t.size ≤ 140737488351300) ∧ T.length = 5 + 2 * x6.toNat) ∧ Aside0 (w'.heap[gb]? = some (.cells #[.slice (some ad) S.length c0, .slice A1 N.length c1] 40 (0, 0))) ∧ Aside0 (Below w.heap.size w w'))
            case atStart => exact ⟨0, _, _, rfl, rfl, by omega, by omega, by omega, ⟨(by (with_reducible repeat (first | apply Kd.R_alloc | apply Kd.R_drewN | apply Kd.R_drew)); exact HO.out)⟩, ⟨by intro t ht; simp only [List.mem_cons, List.not_mem_nil, or_false] at ht; rcases ht with rfl | rfl | rfl | rfl | rfl <;> (first | ((try simp only [ByteArray.size_append]); omega) | decide), rfl⟩, ⟨by (with_reducible repeat (first | refine blk_drewN ?_ _ | refine blk_drew ?_ | refine blk_alloc ?_ _)); exact BKgb.out⟩, ⟨by (repeat (first | (with_reducible first | exact HB.out | apply below_alloc | apply pw_below_drewN | apply below_drew1) | exact HB.out))⟩⟩
            case round =>
              clear HO
              obtain ⟨x6, T, v5, rfl, rfl, g0, g8, g9, HO, HT, BKgb, HB⟩ := hrel
              obtain ⟨k2, rfl⟩ : ∃ k2, gk = k2 + 1 := ⟨gk - 1, by omega⟩
              obtain ⟨wv, rfl⟩ : ∃ wv : World, wv = wr := ⟨_, rfl⟩
              by_cases hj : x6 < 10
              · have u1 : decide (x6 < 10) = true := decide_eq_true hj
                go_wp2_with (first | ((with_reducible refine gate_dst (N := 82) rfl ?_); refine conv_event rfl (N := 82) rfl (s := F) rfl ?hx Try.underlying9 Try.underlying45 Try.underlying5 ?_; (case hx => rfl); intro g cc w4 hg hC hFz hb; have GEg := Aside0.mk ((by rw [hg]; exact (below_size (by (repeat (first | (with_reducible first | exact HB.out | apply below_alloc | apply pw_below_drewN | apply below_drew1) | exact HB.out))))) : w.heap.size ≤ g); have NEg := Aside0.mk ((by rw [hg]; exact Nat.ne_of_lt (blk_lt BKgb.out)) : gb ≠ g); have HV := Aside0.mk hb; have GV := Aside0.mk ((by rw [hg]; exact Nat.le_refl _) : wv.heap.size ≤ g); have n0_ := Aside0.mk (blk_below (g := gb) (o := .cells #[.slice (some ad) S.length c0, .slice A1 N.length c1] 40 (0, 0)) (by (with_reducible repeat (first | refine blk_drewN ?_ _ | refine blk_drew ?_ | refine blk_alloc ?_ _)); exact BKgb.out) hb); have nb_ := Aside0.mk (below_step (by (repeat (first | (with_reducible first | exact HB.out | apply below_alloc | apply pw_below_drewN | apply below_drew1) | exact HB.out))) hb); clear BKgb; clear HB; have BKgb := n0_; have HB := nb_; clear nb_ n0_; (try clear hb); have HCB := Aside0.mk hC; have HFB := Aside0.mk hFz; clear hg hC hFz))
                have fz1 : ((F.size : Int) = 0) = False := eq_false (by omega)
                have fz2 : (F.size = 0) = False := eq_false (by omega)
                have m0_ := Aside0.mk (blk_drew BKgb.out)
                have m1_ := Aside0.mk (below_drew1 HB.out)
                have m2_ : Aside0 (∀ j, j < F.size → w4.drew.cell? ⟨g, j, none⟩ = some (.int .u8 ((bytesOf F).getD j 0))) := ⟨HCB.out⟩
                have m3_ : Aside0 (∀ j, j < F.size → w4.drew.frozen? ⟨g, j, none⟩ = false) := ⟨HFB.out⟩
                have m4_ := Aside0.mk (below_drew1 HV.out)
                clear BKgb HB HCB HFB HV
                have BKgb := m0_
                have HB := m1_
                have HCB := m2_
                have HFB := m3_
                have HV := m4_
                clear m0_ m1_ m2_ m3_ m4_
                have hJr := idx_range x6 x3 (F.size : Int) g0 g8 h0 h8 (by omega) (by omega)
                obtain ⟨J, hJ⟩ : ∃ J : Int, (wrap64 (wrap64 ((wrap64 (x6 * (F.size : Int))).tdiv 10) + x3)).tmod (F.size : Int) = J := ⟨_, rfl⟩
                have HJ := Lib.hid hJ
                rw [hJ] at hJr
                clear hJ
                obtain ⟨hJ0, hJ1⟩ := hJr
                have J0 := eq_true hJ0
                have J1 := eq_true hJ1
                have hJn : J.toNat < F.size := by omega
                have s8 : 0 ≤ x6.tmod 8 := by rw [Int.tmod_eq_emod_of_nonneg g0]; omega
                have s8t := eq_true s8
                have s8f : decide (x6.tmod 8 < 0) = false := decide_eq_false (by omega)
                obtain ⟨xb, hxb⟩ : ∃ xb, (bytesOf F).getD J.toNat 0 = xb := ⟨_, rfl⟩
                have HXB := Lib.hid hxb
                clear hxb
                refine start_ (n := 30) (S := fun w' => w'.cell? ⟨g, J.toNat, none⟩ = some (.int .u8 xb)) (ds := [29]) #[false, false, false, false, false, false, false, false, false, false, false, false, false, false, false, false, false, false, false, false, false, false, false, false, false, false, false, false, false, false] (by kernel_rfl) rfl rfl ((HCB.out J.toNat hJn).trans (by rw [HXB.out])) (fun hHeld => ?_)
                generalize w4.drew = w5 at BKgb HB HCB HFB HV hHeld ⊢
                refine pure_ (i := 0) (N := some 83) (v := ?_) (a' := ?_) #[true, false, false, false, false, false, false, false, false, false, false, false, false, false, false, false, false, false, false, false, false, false, false, false, false, false, false, false, false, false] rfl rfl (by kernel_rfl) (fun _ _ _ h => h) (Or.inl ⟨by rfl, ?_⟩) ?_ ?_
                rotate_left
                · intro w'
                  go_simp
                  with_reducible rfl
                rotate_left
                · simp only [Act.put, List.setIfInBounds_toArray, List.set_cons_zero, List.set_cons_succ, i64_w, i32_w]
                  rfl
                refine pure_ (i := 1) (N := some 84) (v := ?_) (a' := ?_) #[true, true, false, false, false, false, false, false, false, false, false, false, false, false, false, false, false, false, false, false, false, false, false, false, false, false, false, false, false, false] rfl rfl (by kernel_rfl) (fun _ _ _ h => h) (Or.inl ⟨by rfl, ?_⟩) ?_ ?_
                rotate_left
                · intro w'
                  go_simp
                  with_reducible rfl
                rotate_left
                · simp only [Act.put, List.setIfInBounds_toArray, List.set_cons_zero, List.set_cons_succ, i64_w, i32_w]
                  rfl
                refine pure_ (i := 2) (N := some 85) (v := ?_) (a' := ?_) #[true, true, true, false, false, false, false, false, false, false, false, false, false, false, false, false, false, false, false, false, false, false, false, false, false, false, false, false, false, false] rfl rfl (by kernel_rfl) (fun _ _ _ h => h) (Or.inl ⟨by rfl, ?_⟩) ?_ ?_
                rotate_left
                · intro w'
                  go_simp
                  with_reducible rfl
                rotate_left
                · simp only [Act.put, List.setIfInBounds_toArray, List.set_cons_zero, List.set_cons_succ, i64_w, i32_w]
                  rfl
                refine pure_ (i := 3) (N := some 86) (v := ?_) (a' := ?_) #[true, true, true, true, false, false, false, false, false, false, false, false, false, false, false, false, false, false, false, false, false, false, false, false, false, false, false, false, false, false] rfl rfl (by kernel_rfl) (fun _ _ _ h => h) (Or.inl ⟨by rfl, ?_⟩) ?_ ?_
                rotate_left
                · intro w'
                  go_simp
                  with_reducible rfl
                rotate_left
                · simp only [Act.put, List.setIfInBounds_toArray, List.set_cons_zero, List.set_cons_succ, i64_w, i32_w]
                  rfl
                refine pure_ (i := 4) (N := some 87) (v := ?_) (a' := ?_) #[true, true, true, true, true, false, false, false, false, false, false, false, false, false, false, false, false, false, false, false, false, false, false, false, false, false, false, false, false, false] rfl rfl (by kernel_rfl) (fun _ _ _ h => h) (Or.inl ⟨by rfl, ?_⟩) ?_ ?_
                rotate_left
                · intro w'
                  go_simp
                  with_reducible rfl
                rotate_left
                · simp only [Act.put, List.setIfInBounds_toArray, List.set_cons_zero, List.set_cons_succ, i64_w, i32_w]
                  rfl
                refine pure_ (i := 5) (N := some 88) (v := ?_) (a' := ?_) #[true, true, true, true, true, true, false, false, false, false, false, false, false, false, false, false, false, false, false, false, false, false, false, false, false, false, false, false, false, false] rfl rfl (by kernel_rfl) (fun _ _ _ h => h) (Or.inl ⟨by rfl, ?_⟩) ?_ ?_
                rotate_left
                · intro w'
                  go_simp
                  with_reducible rfl
                rotate_left
                · simp only [Act.put, List.setIfInBounds_toArray, List.set_cons_zero, List.set_cons_succ, i64_w, i32_w]
                  rfl
                refine pure_ (i := 6) (N := some 89) (v := ?_) (a' := ?_) #[true, true, true, true, true, true, true, false, false, false, false, false, false, false, false, false, false, false, false, false, false, false, false, false, false, false, false, false, false, false] rfl rfl (by kernel_rfl) (fun _ _ _ h => h) (Or.inl ⟨by rfl, ?_⟩) ?_ ?_
                rotate_left
                · intro w'
                  go_simp
                  with_reducible rfl
                rotate_left
                · simp only [Act.put, List.setIfInBounds_toArray, List.set_cons_zero, List.set_cons_succ, i64_w, i32_w]
                  rfl
                refine pure_ (i := 7) (N := some 90) (v := ?_) (a' := ?_) #[true, true, true, true, true, true, true, true, false, false, false, false, false, false, false, false, false, false, false, false, false, false, false, false, false, false, false, false, false, false] rfl rfl (by kernel_rfl) (fun _ _ _ h => h) (Or.inl ⟨by rfl, ?_⟩) ?_ ?_
                rotate_left
                · intro w'
                  go_simp
                  with_reducible rfl
                rotate_left
                · simp only [Act.put, List.setIfInBounds_toArray, List.set_cons_zero, List.set_cons_succ, i64_w, i32_w]
                  rfl
                refine pure_ (i := 8) (N := some 91) (v := ?_) (a' := ?_) #[true, true, true, true, true, true, true, true, true, false, false, false, false, false, false, false, false, false, false, false, false, false, false, false, false, false, false, false, false, false] rfl rfl (by kernel_rfl) (fun _ _ _ h => h) (Or.inl ⟨by rfl, ?_⟩) ?_ ?_
                rotate_left
                · intro w'
                  go_simp
                  with_reducible rfl
                rotate_left
                · simp only [Act.put, List.setIfInBounds_toArray, List.set_cons_zero, List.set_cons_succ, i64_w, i32_w]
                  rfl
                refine pure_ (i := 9) (N := some 92) (v := ?_) (a' := ?_) #[true, true, true, true, true, true, true, true, true, true, false, false, false, false, false, false, false, false, false, false, false, false, false, false, false, false, false, false, false, false] rfl rfl (by kernel_rfl) (fun _ _ _ h => h) (Or.inl ⟨by rfl, ?_⟩) ?_ ?_
                rotate_left
                · intro w'
                  go_simp
                  with_reducible rfl
                rotate_left
                · simp only [Act.put, List.setIfInBounds_toArray, List.set_cons_zero, List.set_cons_succ, i64_w, i32_w]
                  rfl
                refine pure_ (i := 10) (N := some 93) (v := ?_) (a' := ?_) #[true, true, true, true, true, true, true, true, true, true, true, false, false, false, false, false, false, false, false, false, false, false, false, false, false, false, false, false, false, false] rfl rfl (by kernel_rfl) (fun _ _ _ h => h) (Or.inl ⟨by rfl, ?_⟩) ?_ ?_
                rotate_left
                · intro w'
                  go_simp
                  with_reducible rfl
                rotate_left
                · simp only [Act.put, List.setIfInBounds_toArray, List.set_cons_zero, List.set_cons_succ, i64_w, i32_w]
                  rfl
                rw [HJ.out]
                refine pure_ (i := 11) (N := some 94) (v := ?_) (a' := ?_) #[true, true, true, true, true, true, true, true, true, true, true, true, false, false, false, false, false, false, false, false, false, false, false, false, false, false, false, false, false, false] rfl rfl (by kernel_rfl) (fun _ _ _ h => h) (Or.inl ⟨by rfl, ?_⟩) ?_ ?_
                rotate_left
                · intro w'
                  go_simp
                  with_reducible rfl
                rotate_left
                · simp only [Act.put, List.setIfInBounds_toArray, List.set_cons_zero, List.set_cons_succ, i64_w, i32_w]
                  rfl
                refine pure_ (i := 12) (N := some 95) (v := ?_) (a' := ?_) #[true, true, true, true, true, true, true, true, true, true, true, true, true, false, false, false, false, false, false, false, false, false, false, false, false, false, false, false, false, false] rfl rfl (by kernel_rfl) (fun _ _ _ h => h) (Or.inl ⟨by rfl, ?_⟩) ?_ ?_
                rotate_left
                · intro w'
                  go_simp
                  with_reducible rfl
                rotate_left
                · simp only [Act.put, List.setIfInBounds_toArray, List.set_cons_zero, List.set_cons_succ, i64_w, i32_w]
                  rfl
                refine pure_ (i := 13) (N := some 96) (v := ?_) (a' := ?_) #[true, true, true, true, true, true, true, true, true, true, true, true, true, true, false, false, false, false, false, false, false, false, false, false, false, false, false, false, false, false] rfl rfl (by kernel_rfl) (fun _ _ _ h => h) (Or.inl ⟨by rfl, ?_⟩) ?_ ?_
                rotate_left
                · intro w'
                  go_simp
                  with_reducible rfl
                rotate_left
                · simp only [Act.put, List.setIfInBounds_toArray, List.set_cons_zero, List.set_cons_succ, i64_w, i32_w]
                  rfl
                refine pure_ (i := 14) (N := some 97) (v := ?_) (a' := ?_) #[true, true, true, true, true, true, true, true, true, true, true, true, true, true, true, false, false, false, false, false, false, false, false, false, false, false, false, false, false, false] rfl rfl (by kernel_rfl) (fun _ _ _ h => h) (Or.inl ⟨by rfl, ?_⟩) ?_ ?_
                rotate_left
                · intro w'
                  go_simp
                  with_reducible rfl
                rotate_left
                · simp only [Act.put, List.setIfInBounds_toArray, List.set_cons_zero, List.set_cons_succ, i64_w, i32_w]
                  rfl
                refine pure_ (i := 15) (N := some 98) (v := ?_) (a' := ?_) #[true, true, true, true, true, true, true, true, true, true, true, true, true, true, true, true, false, false, false, false, false, false, false, false, false, false, false, false, false, false] rfl rfl (by kernel_rfl) (fun _ _ _ h => h) (Or.inl ⟨by rfl, ?_⟩) ?_ ?_
                rotate_left
                · intro w'
                  go_simp
                  with_reducible rfl
                rotate_left
                · simp only [Act.put, List.setIfInBounds_toArray, List.set_cons_zero, List.set_cons_succ, i64_w, i32_w]
                  rfl
                refine pure_ (i := 16) (N := some 99) (v := ?_) (a' := ?_) #[true, true, true, true, true, true, true, true, true, true, true, true, true, true, true, true, true, false, false, false, false, false, false, false, false, false, false, false, false, false] rfl rfl (by kernel_rfl) (fun _ _ _ h => h) (Or.inl ⟨by rfl, ?_⟩) ?_ ?_
                rotate_left
                · intro w'
                  go_simp
                  with_reducible rfl
                rotate_left
                · simp only [Act.put, List.setIfInBounds_toArray, List.set_cons_zero, List.set_cons_succ, i64_w, i32_w]
                  rfl
                refine pure_ (i := 17) (N := some 100) (v := ?_) (a' := ?_) #[true, true, true, true, true, true, true, true, true, true, true, true, true, true, true, true, true, true, false, false, false, false, false, false, false, false, false, false, false, false] rfl rfl (by kernel_rfl) (fun _ _ _ h => h) (Or.inl ⟨by rfl, ?_⟩) ?_ ?_
                rotate_left
                · intro w'
                  go_simp
                  with_reducible rfl
                rotate_left
                · simp only [Act.put, List.setIfInBounds_toArray, List.set_cons_zero, List.set_cons_succ, i64_w, i32_w]
                  rfl
                refine pure_ (i := 18) (N := some 101) (v := ?_) (a' := ?_) #[true, true, true, true, true, true, true, true, true, true, true, true, true, true, true, true, true, true, true, false, false, false, false, false, false, false, false, false, false, false] rfl rfl (by kernel_rfl) (fun _ _ _ h => h) (Or.inl ⟨by rfl, ?_⟩) ?_ ?_
                rotate_left
                · intro w'
                  go_simp
                  with_reducible rfl
                rotate_left
                · simp only [Act.put, List.setIfInBounds_toArray, List.set_cons_zero, List.set_cons_succ, i64_w, i32_w]
                  rfl
                refine pure_ (i := 19) (N := some 102) (v := ?_) (a' := ?_) #[true, true, true, true, true, true, true, true, true, true, true, true, true, true, true, true, true, true, true, true, false, false, false, false, false, false, false, false, false, false] rfl rfl (by kernel_rfl) (fun _ _ _ h => h) (Or.inl ⟨by rfl, ?_⟩) ?_ ?_
                rotate_left
                · intro w'
                  go_simp
                  with_reducible rfl
                rotate_left
                · simp only [Act.put, List.setIfInBounds_toArray, List.set_cons_zero, List.set_cons_succ, i64_w, i32_w]
                  rfl
                refine pure_ (i := 20) (N := some 103) (v := ?_) (a' := ?_) #[true, true, true, true, true, true, true, true, true, true, true, true, true, true, true, true, true, true, true, true, true, false, false, false, false, false, false, false, false, false] rfl rfl (by kernel_rfl) (fun _ _ _ h => h) (Or.inl ⟨by rfl, ?_⟩) ?_ ?_
                rotate_left
                · intro w'
                  go_simp
                  with_reducible rfl
                rotate_left
                · simp only [Act.put, List.setIfInBounds_toArray, List.set_cons_zero, List.set_cons_succ, i64_w, i32_w]
                  rfl
                refine pure_ (i := 21) (N := some 104) (v := ?_) (a' := ?_) #[true, true, true, true, true, true, true, true, true, true, true, true, true, true, true, true, true, true, true, true, true, true, false, false, false, false, false, false, false, false] rfl rfl (by kernel_rfl) (fun _ _ _ h => h) (Or.inl ⟨by rfl, ?_⟩) ?_ ?_
                rotate_left
                · intro w'
                  go_simp
                  with_reducible rfl
                rotate_left
                · simp only [Act.put, List.setIfInBounds_toArray, List.set_cons_zero, List.set_cons_succ, i64_w, i32_w]
                  rfl
                rw [HJ.out]
                refine pure_ (i := 22) (N := some 105) (v := ?_) (a' := ?_) #[true, true, true, true, true, true, true, true, true, true, true, true, true, true, true, true, true, true, true, true, true, true, true, false, false, false, false, false, false, false] rfl rfl (by kernel_rfl) (fun _ _ _ h => h) (Or.inl ⟨by rfl, ?_⟩) ?_ ?_
                rotate_left
                · intro w'
                  go_simp
                  with_reducible rfl
                rotate_left
                · simp only [Act.put, List.setIfInBounds_toArray, List.set_cons_zero, List.set_cons_succ, i64_w, i32_w]
                  rfl
                refine take_ (i := 23) (N := some 106) (v := ?_) (a' := ?_) #[true, true, true, true, true, true, true, true, true, true, true, true, true, true, true, true, true, true, true, true, true, true, true, true, false, false, false, false, false, false] rfl rfl (by kernel_rfl) (fun _ _ _ h => h) (Or.inl ⟨by rfl, ?_⟩) hHeld ?_ ?_
                rotate_left
                · intro w' s0
                  go_simp
                  with_reducible rfl
                rotate_left
                · simp only [Act.put, List.setIfInBounds_toArray, List.set_cons_zero, List.set_cons_succ, i64_w, i32_w]
                  rfl
                refine pure_ (i := 24) (N := some 107) (v := ?_) (a' := ?_) #[true, true, true, true, true, true, true, true, true, true, true, true, true, true, true, true, true, true, true, true, true, true, true, true, true, false, false, false, false, false] rfl rfl (by kernel_rfl) (fun _ _ _ h => h) (Or.inl ⟨by rfl, ?_⟩) ?_ ?_
                rotate_left
                · intro w'
                  go_simp
                  with_reducible rfl
                rotate_left
                · simp only [Act.put, List.setIfInBounds_toArray, List.set_cons_zero, List.set_cons_succ, i64_w, i32_w]
                  rfl
                refine pure_ (i := 25) (N := some 108) (v := ?_) (a' := ?_) #[true, true, true, true, true, true, true, true, true, true, true, true, true, true, true, true, true, true, true, true, true, true, true, true, true, true, false, false, false, false] rfl rfl (by kernel_rfl) (fun _ _ _ h => h) (Or.inl ⟨by rfl, ?_⟩) ?_ ?_
                rotate_left
                · intro w'
                  go_simp
                  with_reducible rfl
                rotate_left
                · simp only [Act.put, List.setIfInBounds_toArray, List.set_cons_zero, List.set_cons_succ, i64_w, i32_w]
                  rfl
                refine pure_ (i := 26) (N := some 109) (v := ?_) (a' := ?_) #[true, true, true, true, true, true, true, true, true, true, true, true, true, true, true, true, true, true, true, true, true, true, true, true, true, true, true, false, false, false] rfl rfl (by kernel_rfl) (fun _ _ _ h => h) (Or.inl ⟨by rfl, ?_⟩) ?_ ?_
                rotate_left
                · intro w'
                  go_simp
                  with_reducible rfl
                rotate_left
                · simp only [Act.put, List.setIfInBounds_toArray, List.set_cons_zero, List.set_cons_succ, i64_w, i32_w]
                  rfl
                refine pure_ (i := 27) (N := some 110) (v := ?_) (a' := ?_) #[true, true, true, true, true, true, true, true, true, true, true, true, true, true, true, true, true, true, true, true, true, true, true, true, true, true, true, true, false, false] rfl rfl (by kernel_rfl) (fun _ _ _ h => h) (Or.inl ⟨by rfl, ?_⟩) ?_ ?_
                rotate_left
                · intro w'
                  go_simp
                  with_reducible rfl
                rotate_left
                · simp only [Act.put, List.setIfInBounds_toArray, List.set_cons_zero, List.set_cons_succ, i64_w, i32_w]
                  rfl
                refine pure_ (i := 28) (N := some 111) (v := ?_) (a' := ?_) #[true, true, true, true, true, true, true, true, true, true, true, true, true, true, true, true, true, true, true, true, true, true, true, true, true, true, true, true, true, false] rfl rfl (by kernel_rfl) (fun _ _ _ h => h) (Or.inl ⟨by rfl, ?_⟩) ?_ ?_
                rotate_left
                · intro w'
                  go_simp
                  with_reducible rfl
                rotate_left
                · simp only [Act.put, List.setIfInBounds_toArray, List.set_cons_zero, List.set_cons_succ, i64_w, i32_w]
                  rfl
                refine last_ (i := 29) (N := none) #[true, true, true, true, true, true, true, true, true, true, true, true, true, true, true, true, true, true, true, true, true, true, true, true, true, true, true, true, true, true] rfl rfl (by kernel_rfl) (by decide) (fun K hK => ?_)
                have hs5 : w5.cell? ⟨g, J.toNat, none⟩ = some (.int .u8 xb) := (HCB.out J.toNat hJn).trans (by rw [HXB.out])
                have hf5 := HFB.out J.toNat hJn
                refine skip_ (w1 := ?_) (by rfl) rfl ?_ ?_
                rotate_left
                · go_simp
                  rfl
                refine hK.out _ _ ?_
                clear hK K
                refine done_ (by kernel_rfl) ?_
                obtain ⟨V, hV⟩ : ∃ V, bits BinOp.xor IntKind.u8 xb (IntKind.u8.wrap (2 ^ min (x6.tmod 8).toNat 8)) = V := ⟨_, rfl⟩
                rw [hV]
                clear hV
                have m0_ := Aside0.mk (blk_far BKgb.out (show gb ≠ (⟨g, J.toNat, none⟩ : Addr).block from NEg.out) (.int .u8 V))
                have m1_ := Aside0.mk (below_set (j := J.toNat) (v := .int .u8 V) HB.out GEg.out)
                have m2_ : Aside0 (∀ i, i < F.size → (w5.setCell ⟨g, J.toNat, none⟩ (.int .u8 V)).cell? ⟨g, i, none⟩ = some (.int .u8 (((bytesOf F).set J.toNat V).getD i 0))) := ⟨fun i hi => by
                  by_cases hik : i = J.toNat
                  · rw [hik, World.cell?_setCell_same w5 ⟨g, J.toNat, none⟩ (.int .u8 V) (HCB.out J.toNat hJn)]
                    rw [List.getD_eq_getElem?_getD, List.getElem?_set_self (by rw [bytesOf_len]; exact hJn)]
                    rfl
                  · rw [World.cell?_setCell_other _ ⟨g, J.toNat, none⟩ ⟨g, i, none⟩ _ (by intro h_; injection h_ with _ h_ _; exact hik h_.symm)]
                    rw [List.getD_eq_getElem?_getD, List.getElem?_set_ne (fun h_ => hik h_.symm), ← List.getD_eq_getElem?_getD]
                    exact HCB.out i hi⟩
                have m3_ := Aside0.mk (HV.out.setCell (p := ⟨g, J.toNat, none⟩) GV.out (.int .u8 V))
                clear BKgb HB HCB HFB HV
                have BKgb := m0_
                have HB := m1_
                have HCB := m2_
                have HV := m3_
                clear m0_ m1_ m2_ m3_
                generalize w5.setCell ⟨g, J.toNat, none⟩ (.int .u8 V) = w6' at BKgb HB HCB HV ⊢
                have hBLl : ((bytesOf F).set J.toNat V).length = F.size := by rw [List.length_set, bytesOf_len]
                have J2 : (J ≤ (F.size : Int)) = True := eq_true (by omega)
                have J3 : decide (J ≤ (F.size : Int)) = true := decide_eq_true (by omega)
                have J4 : decide (0 ≤ J) = true := decide_eq_true hJ0
                go_wp2
                have m0_ := Aside0.mk (blk_drew BKgb.out)
                have m1_ := Aside0.mk (below_drew1 HB.out)
                have m2_ : Aside0 (∀ i, i < F.size → w6'.drew.cell? ⟨g, i, none⟩ = some (.int .u8 (((bytesOf F).set J.toNat V).getD i 0))) := ⟨HCB.out⟩
                have m3_ := Aside0.mk (below_drew1 HV.out)
                clear BKgb HB HCB HV
                have BKgb := m0_
                have HB := m1_
                have HCB := m2_
                have HV := m3_
                clear m0_ m1_ m2_ m3_
                refine start_ (n := 18) (S := fun w' => ∀ i, i < F.size → w'.cell? ⟨g, i, none⟩ = some (.int .u8 (((bytesOf F).set J.toNat V).getD i 0))) (ds := [15, 16]) #[false, false, false, false, false, false, false, false, false, false, false, false, false, false, false, false, false, false] (by kernel_rfl) rfl rfl (HCB.out) (fun hHeld => ?_)
                generalize w6'.drew = w7' at BKgb HB HCB HV hHeld ⊢
                refine pure_ (i := 0) (N := some 112) (v := ?_) (a' := ?_) #[true, false, false, false, false, false, false, false, false, false, false, false, false, false, false, false, false, false] rfl rfl (by kernel_rfl) (fun _ _ _ h => h) (Or.inl ⟨by rfl, ?_⟩) ?_ ?_
                rotate_left
                · intro w'
                  go_simp
                  with_reducible rfl
                rotate_left
                · simp only [Act.put, List.setIfInBounds_toArray, List.set_cons_zero, List.set_cons_succ, i64_w, i32_w]
                  rfl
                refine pure_ (i := 1) (N := some 113) (v := ?_) (a' := ?_) #[true, true, false, false, false, false, false, false, false, false, false, false, false, false, false, false, false, false] rfl rfl (by kernel_rfl) (fun _ _ _ h => h) (Or.inl ⟨by rfl, ?_⟩) ?_ ?_
                rotate_left
                · intro w'
                  go_simp
                  with_reducible rfl
                rotate_left
                · simp only [Act.put, List.setIfInBounds_toArray, List.set_cons_zero, List.set_cons_succ, i64_w, i32_w]
                  rfl
                refine pure_ (i := 3) (N := some 115) (v := ?_) (a' := ?_) #[true, true, false, true, false, false, false, false, false, false, false, false, false, false, false, false, false, false] rfl rfl (by kernel_rfl) (fun _ _ _ h => h) (Or.inl ⟨by rfl, ?_⟩) ?_ ?_
                rotate_left
                · intro w'
                  go_simp
                  with_reducible rfl
                rotate_left
                · simp only [Act.put, List.setIfInBounds_toArray, List.set_cons_zero, List.set_cons_succ, i64_w, i32_w]
                  rfl
                refine pure_ (i := 4) (N := some 116) (v := ?_) (a' := ?_) #[true, true, false, true, true, false, false, false, false, false, false, false, false, false, false, false, false, false] rfl rfl (by kernel_rfl) (fun _ _ _ h => h) (Or.inl ⟨by rfl, ?_⟩) ?_ ?_
                rotate_left
                · intro w'
                  go_simp
                  with_reducible rfl
                rotate_left
                · simp only [Act.put, List.setIfInBounds_toArray, List.set_cons_zero, List.set_cons_succ, i64_w, i32_w]
                  rfl
                refine pure_ (i := 5) (N := some 117) (v := ?_) (a' := ?_) #[true, true, false, true, true, true, false, false, false, false, false, false, false, false, false, false, false, false] rfl rfl (by kernel_rfl) (fun _ _ _ h => h) (Or.inl ⟨by rfl, ?_⟩) ?_ ?_
                rotate_left
                · intro w'
                  go_simp
                  with_reducible rfl
                rotate_left
                · simp only [Act.put, List.setIfInBounds_toArray, List.set_cons_zero, List.set_cons_succ, i64_w, i32_w]
                  rfl
                refine pure_ (i := 6) (N := some 118) (v := ?_) (a' := ?_) #[true, true, false, true, true, true, true, false, false, false, false, false, false, false, false, false, false, false] rfl rfl (by kernel_rfl) (fun _ _ _ h => h) (Or.inl ⟨by rfl, ?_⟩) ?_ ?_
                rotate_left
                · intro w'
                  go_simp
                  with_reducible rfl
                rotate_left
                · simp only [Act.put, List.setIfInBounds_toArray, List.set_cons_zero, List.set_cons_succ, i64_w, i32_w]
                  rfl
                refine pure_ (i := 7) (N := some 119) (v := ?_) (a' := ?_) #[true, true, false, true, true, true, true, true, false, false, false, false, false, false, false, false, false, false] rfl rfl (by kernel_rfl) (fun _ _ _ h => h) (Or.inl ⟨by rfl, ?_⟩) ?_ ?_
                rotate_left
                · intro w'
                  go_simp
                  with_reducible rfl
                rotate_left
                · simp only [Act.put, List.setIfInBounds_toArray, List.set_cons_zero, List.set_cons_succ, i64_w, i32_w]
                  rfl
                refine pure_ (i := 8) (N := some 120) (v := ?_) (a' := ?_) #[true, true, false, true, true, true, true, true, true, false, false, false, false, false, false, false, false, false] rfl rfl (by kernel_rfl) (fun _ _ _ h => h) (Or.inl ⟨by rfl, ?_⟩) ?_ ?_
                rotate_left
                · intro w'
                  go_simp
                  with_reducible rfl
                rotate_left
                · simp only [Act.put, List.setIfInBounds_toArray, List.set_cons_zero, List.set_cons_succ, i64_w, i32_w]
                  rfl
                refine pure_ (i := 9) (N := some 121) (v := ?_) (a' := ?_) #[true, true, false, true, true, true, true, true, true, true, false, false, false, false, false, false, false, false] rfl rfl (by kernel_rfl) (fun _ _ _ h => h) (Or.inl ⟨by rfl, ?_⟩) ?_ ?_
                rotate_left
                · intro w'
                  go_simp
                  with_reducible rfl
                rotate_left
                · simp only [Act.put, List.setIfInBounds_toArray, List.set_cons_zero, List.set_cons_succ, i64_w, i32_w]
                  rfl
                refine pure_ (i := 10) (N := some 122) (v := ?_) (a' := ?_) #[true, true, false, true, true, true, true, true, true, true, true, false, false, false, false, false, false, false] rfl rfl (by kernel_rfl) (fun _ _ _ h => h) (Or.inl ⟨by rfl, ?_⟩) ?_ ?_
                rotate_left
                · intro w'
                  go_simp
                  with_reducible rfl
                rotate_left
                · simp only [Act.put, List.setIfInBounds_toArray, List.set_cons_zero, List.set_cons_succ, i64_w, i32_w]
                  rfl
                refine pure_ (i := 11) (N := some 123) (v := ?_) (a' := ?_) #[true, true, false, true, true, true, true, true, true, true, true, true, false, false, false, false, false, false] rfl rfl (by kernel_rfl) (fun _ _ _ h => h) (Or.inl ⟨by rfl, ?_⟩) ?_ ?_
                rotate_left
                · intro w'
                  go_simp
                  with_reducible rfl
                rotate_left
                · simp only [Act.put, List.setIfInBounds_toArray, List.set_cons_zero, List.set_cons_succ, i64_w, i32_w]
                  rfl
                refine pure_ (i := 12) (N := some 124) (v := ?_) (a' := ?_) #[true, true, false, true, true, true, true, true, true, true, true, true, true, false, false, false, false, false] rfl rfl (by kernel_rfl) (fun _ _ _ h => h) (Or.inl ⟨by rfl, ?_⟩) ?_ ?_
                rotate_left
                · intro w'
                  go_simp
                  with_reducible rfl
                rotate_left
                · simp only [Act.put, List.setIfInBounds_toArray, List.set_cons_zero, List.set_cons_succ, i64_w, i32_w]
                  rfl
                refine pure_ (i := 13) (N := some 125) (v := ?_) (a' := ?_) #[true, true, false, true, true, true, true, true, true, true, true, true, true, true, false, false, false, false] rfl rfl (by kernel_rfl) (fun _ _ _ h => h) (Or.inl ⟨by rfl, ?_⟩) ?_ ?_
                rotate_left
                · intro w'
                  go_simp
                  with_reducible rfl
                rotate_left
                · simp only [Act.put, List.setIfInBounds_toArray, List.set_cons_zero, List.set_cons_succ, i64_w, i32_w]
                  rfl
                rw [HJ.out]
                refine pure_ (i := 14) (N := some 126) (v := ?_) (a' := ?_) #[true, true, false, true, true, true, true, true, true, true, true, true, true, true, true, false, false, false] rfl rfl (by kernel_rfl) (fun _ _ _ h => h) (Or.inl ⟨by rfl, ?_⟩) ?_ ?_
                rotate_left
                · intro w'
                  go_simp
                  with_reducible rfl
                rotate_left
                · simp only [Act.put, List.setIfInBounds_toArray, List.set_cons_zero, List.set_cons_succ, i64_w, i32_w]
                  rfl
                refine take_ (i := 2) (N := some 114) (v := .string (strOfNums ((bytesOf F).set J.toNat V))) (a' := ?aa) #[true, true, true, true, true, true, true, true, true, true, true, true, true, true, true, false, false, false] rfl rfl (by kernel_rfl) (fun _ _ _ h => h) (Or.inl ⟨by rfl, ?hr⟩) hHeld ?he ?_
                case hr => exact fun w' s0 => conv_run (b := g) (n := F.size) (c := cc) (e := 5) (src := 45) (dst := 9) (x := .tmp 113) ((bytesOf F).set J.toNat V) rfl rfl Try.underlying45 Try.underlying5 Try.underlying9 hBLl s0
                case he => simp only [Act.put, List.setIfInBounds_toArray, List.set_cons_zero, List.set_cons_succ, i64_w, i32_w]; rfl
                refine last_ (i := 15) (N := some 127) #[true, true, true, true, true, true, true, true, true, true, true, true, true, true, true, true, false, false] rfl rfl (by kernel_rfl) (by decide) (fun K hK => ?_)
                refine Kd.R_lit_step Kd.string _ 9 ?hg (N := 127) ?hd (xs := ([strOfNums ((bytesOf F).set J.toNat V), F.extract 0 J.toNat] : List ByteArray)) (inner := [.string (strOfNums ((bytesOf F).set J.toNat V)), .string (F.extract 0 J.toNat)]) (ok := fun _ => True) (okp := fun _ => False) ?hr ?hp (fun _ hk => hk.elim) trivial (Below.refl _ _) (Nat.le_refl _) (by simp) ?_; (case hd => rfl); (case hg => rfl); (case hr => first | (go_simp; done) | (go_simp; rfl)); (case hp => exact (Reps.one (show Kd.M Kd.string _ _ _ (strOfNums ((bytesOf F).set J.toNat V) : ByteArray) [.string (strOfNums ((bytesOf F).set J.toNat V))] from rfl) (Reps.one (show Kd.M Kd.string _ _ _ (F.extract 0 J.toNat : ByteArray) [.string (F.extract 0 J.toNat)] from rfl) (Reps.none _ _))))
                intro v9 w8 ho hb hg_ hnew_
                clear hg_ hnew_
                have nv_ := Aside0.mk (below_then HV.out HV.out.size hb)
                clear HV
                have HV := nv_
                clear nv_
                have n0_ := Aside0.mk (blk_below (g := gb) (o := .cells #[.slice (some ad) S.length c0, .slice A1 N.length c1] 40 (0, 0)) (by (with_reducible repeat (first | refine blk_drewN ?_ _ | refine blk_drew ?_ | refine blk_alloc ?_ _)); exact BKgb.out) hb); have nb_ := Aside0.mk (below_step (by (repeat (first | (with_reducible first | exact HB.out | apply below_alloc | apply pw_below_drewN | apply below_drew1) | exact HB.out))) hb); clear BKgb; clear HB; have BKgb := n0_; have HB := nb_; clear nb_ n0_; (try clear hb)
                obtain ⟨A9, c9, rfl, hc9, hr9⟩ := Kd.R_reads ho
                have HR9 := Aside0.mk hr9
                clear hr9 ho hc9
                refine hK.out _ _ ?_
                clear hK K
                refine norm_ (a' := ?_) ?_ ?_
                rotate_left
                · show Act.put _ (some 127) _ = _
                  simp only [Act.put, List.setIfInBounds_toArray, List.set_cons_zero, List.set_cons_succ, i64_w, i32_w]
                  rfl
                refine last_ (i := 16) (N := some 128) #[true, true, true, true, true, true, true, true, true, true, true, true, true, true, true, true, true, false] rfl rfl (by kernel_rfl) (by decide) (fun K hK => ?_)
                have hTl := HT.out.2
                refine Kd.R_append_rows_step Kd.string (Rr := fun x cs => cs = [.string x]) (w0 := w) w.heap.size ?hw (.tmp 112) (.tmp 127) 37 9 (.string ⟨#[]⟩) 16 rfl Try.underlying37 info9 rfl (by decide) (by omega) v5 T ([strOfNums ((bytesOf F).set J.toNat V), F.extract 0 J.toNat] : List ByteArray) A9 2 c9 (fun k_ => k_ ≠ gb) (fun _ => False) ?hs ?hx ?HO ?HR (fun _ _ h => h) (fun _ hk => hk.elim) ?hf ?hB ?hb ?hl ?_
                case hw => rfl
                case hs => rfl
                case hx => rfl
                case HO => exact Kd.R_below HO.out HV.out
                case HR => exact HR9.out
                case hf => exact fun k_ hk => Nat.ne_of_gt (Nat.lt_of_lt_of_le (blk_lt BKgb.out) hk)
                case hB => exact HB.out
                case hb => exact below_size HB.out
                case hl => omega
                intro v10 w9 ho1 hb1 hg1 hat1
                have m0_ := Aside0.mk (blk_grown BKgb.out hg1 (fun e_ => HO.out.1 gb e_.symm rfl))
                have m1_ := Aside0.mk hb1
                clear BKgb HB HO
                have BKgb := m0_
                have HB := m1_
                have HO := Aside0.mk ho1
                clear m0_ m1_ ho1 hb1 hg1 hat1
                refine hK.out _ _ ?_
                clear hK K
                refine norm_ (a' := ?_) ?_ ?_
                rotate_left
                · show Act.put _ (some 128) _ = _
                  simp only [Act.put, List.setIfInBounds_toArray, List.set_cons_zero, List.set_cons_succ, i64_w, i32_w]
                  rfl
                refine pure_ (i := 17) (N := some 5) (v := ?_) (a' := ?_) #[true, true, true, true, true, true, true, true, true, true, true, true, true, true, true, true, true, true] rfl rfl (by kernel_rfl) (fun _ _ _ h => h) (Or.inl ⟨by rfl, ?_⟩) ?_ ?_
                rotate_left
                · intro w'
                  go_simp
                  with_reducible rfl
                rotate_left
                · simp only [Act.put, List.setIfInBounds_toArray, List.set_cons_zero, List.set_cons_succ, i64_w, i32_w]
                  rfl
                refine done_ (by kernel_rfl) ?_
                go_wp2
                go_roundg k2
                case measure => omega
                case rel => exact ⟨x6 + 1, _, _, rfl, rfl, by omega, by omega, by omega, HO, ⟨by
                  intro t ht
                  rcases List.mem_append.1 ht with ht | ht
                  · exact HT.out.1 t ht
                  · simp only [List.mem_cons, List.not_mem_nil, or_false] at ht
                    rcases ht with rfl | rfl
                    · rw [strOfNums_size]; omega
                    · rw [ByteArray.size_extract]; omega, by rw [List.length_append, HT.out.2]; simp only [List.length_cons, List.length_nil]; omega⟩, ⟨by (with_reducible repeat (first | refine blk_drewN ?_ _ | refine blk_drew ?_ | refine blk_alloc ?_ _)); exact BKgb.out⟩, ⟨by (repeat (first | (with_reducible first | exact HB.out | apply below_alloc | apply pw_below_drewN | apply below_drew1) | exact HB.out))⟩⟩
              · have u1 : decide (x6 < 10) = false := decide_eq_false hj
                obtain ⟨A5, c5, rfl, hc5, hr5⟩ := Kd.R_reads HO.out
                clear hc5 hr5
                go_wp2
                go_loopg [8] (T.length + 1) (fun kq v8 w' => ∃ x8 : Int, v8 = .int .i64 x8 ∧ 0 ≤ x8 ∧ x8 ≤ (T.length : Int) ∧ x8 + kq = (T.length : Int) + 1 ∧ Aside0 (Kd.R Kd.string 9 w' w.heap.size (fun k_ => k_ ≠ gb) (.slice A5 T.length c5) T) ∧ Aside0 (w'.heap[gb]? = some (.cells #[.slice (some ad) S.length c0, .slice A1 N.length c1] 40 (0, 0))) ∧ Aside0 (Below w.heap.size w w'))
                case atStart => exact ⟨0, rfl, by omega, by omega, by omega, ⟨(by (with_reducible repeat (first | apply Kd.R_alloc | apply Kd.R_drewN | apply Kd.R_drew)); exact HO.out)⟩, ⟨by (with_reducible repeat (first | refine blk_drewN ?_ _ | refine blk_drew ?_ | refine blk_alloc ?_ _)); exact BKgb.out⟩, ⟨by (repeat (first | (with_reducible first | exact HB.out | apply below_alloc | apply pw_below_drewN | apply below_drew1) | exact HB.out))⟩⟩
                case round =>
                  clear HO
                  obtain ⟨x8, rfl, i0, i8, i9, HO, BKgb, HB⟩ := hrel
                  obtain ⟨k3, rfl⟩ : ∃ k3, gk = k3 + 1 := ⟨gk - 1, by omega⟩
                  obtain ⟨wu, rfl⟩ : ∃ wu : World, wu = wr := ⟨_, rfl⟩
                  by_cases hi : x8 < (T.length : Int)
                  · have y1 : decide (x8 < (T.length : Int)) = true := decide_eq_true hi
                    obtain ⟨_, _, hr5⟩ := Kd.R_reads' HO.out
                    obtain ⟨ad5, e5, hx5⟩ := Kd.at_string hr5 x8 i0 hi
                    cases e5
                    have z0 := eq_true i0
                    have z1 := eq_true hi
                    have hTb : (T.length : Int) ≤ 25 := by have := HT.out.2; omega
                    clear hr5
                    have htz : (rdOf ByteArray.empty T x8).size ≤ 140737488351300 := by
                      have hi_ : x8.toNat < T.length := by omega
                      have e_ : rdOf ByteArray.empty T x8 = T[x8.toNat] := by unfold rdOf; rw [List.getD_eq_getElem?_getD, List.getElem?_eq_getElem hi_]; rfl
                      rw [e_]
                      exact HT.out.1 _ (List.getElem_mem hi_)
                    obtain ⟨kt, ht1⟩ := (take_ev (rdOf ByteArray.empty T x8) htz).rounds
                    obtain ⟨ku, ht2⟩ := (unframe_ev (rdOf ByteArray.empty T x8) htz).rounds
                    obtain ⟨t0, ht0⟩ : ∃ t0, rdOf ByteArray.empty T x8 = t0 := ⟨_, rfl⟩
                    rw [ht0] at ht1 ht2 hx5
                    generalize unframe t0 = u at ht1 ht2
                    obtain ⟨u1, u2, u3⟩ := u
                    have AT1 := Aside0.mk ht1
                    have AT2 := Aside0.mk ht2
                    clear ht1 ht2 htz ht0
                    go_wp2_with (first | ((with_reducible refine gate_callee (f := 23) rfl ?_); refine goesL_ (some 140) rfl rfl Try.func23 (by kernel_rfl) rfl #[.string t0] rfl (by (try simp only [List.map_toArray, List.map_cons, List.map_nil]); first | done | rfl | (simp only [List.length_drop, List.length_take]; rfl)) ?_; (with_reducible refine (seal_Take.calls kt t0 u1 u2 u3 _ AT1.out).mono ?_); rintro e w' ⟨rfl, ⟨nd, rfl⟩⟩; refine ⟨_, rfl, ?_⟩) | ((with_reducible refine gate_callee (f := 24) rfl ?_); refine goesL_ (some 149) rfl rfl Try.func24 (by kernel_rfl) rfl #[.string t0] rfl (by (try simp only [List.map_toArray, List.map_cons, List.map_nil]); first | done | rfl | (simp only [List.length_drop, List.length_take]; rfl)) ?_; (with_reducible refine (amanuensisref9_Unframe.calls ku t0 u1 u2 u3 _ AT2.out).mono ?_); rintro e wq ⟨rfl, hb⟩; refine ⟨_, rfl, ?_⟩; have nh_ := Aside0.mk (Kd.R_below (by (with_reducible repeat (first | apply Kd.R_alloc | apply Kd.R_drewN | apply Kd.R_drew)); exact HO.out) hb); clear HO; have HO := nh_; clear nh_; have n0_ := Aside0.mk (blk_below (g := gb) (o := .cells #[.slice (some ad) S.length c0, .slice A1 N.length c1] 40 (0, 0)) (by (with_reducible repeat (first | refine blk_drewN ?_ _ | refine blk_drew ?_ | refine blk_alloc ?_ _)); exact BKgb.out) hb); have nb_ := Aside0.mk (below_step (by (repeat (first | (with_reducible first | exact HB.out | apply below_alloc | apply pw_below_drewN | apply below_drew1) | exact HB.out))) hb); clear BKgb; clear HB; have BKgb := n0_; have HB := nb_; clear nb_ n0_; (try clear hb)))
                    go_roundg k3
                    case measure => omega
                    case rel => exact ⟨x8 + 1, rfl, by omega, by omega, by omega, ⟨(by (with_reducible repeat (first | apply Kd.R_alloc | apply Kd.R_drewN | apply Kd.R_drew)); exact HO.out)⟩, ⟨by (with_reducible repeat (first | refine blk_drewN ?_ _ | refine blk_drew ?_ | refine blk_alloc ?_ _)); exact BKgb.out⟩, ⟨by (repeat (first | (with_reducible first | exact HB.out | apply below_alloc | apply pw_below_drewN | apply below_drew1) | exact HB.out))⟩⟩
                  · have y1 : decide (x8 < (T.length : Int)) = false := decide_eq_false hi
                    go_wp2
                    go_roundg k1
                    case measure => omega
                    case rel => exact ⟨x3 + 1, rfl, by omega, by omega, by omega, ⟨by (with_reducible repeat (first | refine blk_drewN ?_ _ | refine blk_drew ?_ | refine blk_alloc ?_ _)); exact BKgb.out⟩, ⟨by (repeat (first | (with_reducible first | exact HB.out | apply below_alloc | apply pw_below_drewN | apply below_drew1) | exact HB.out))⟩⟩
        · have t2 : decide (x3 < 8) = false := decide_eq_false hm
          have hcz_0 : wr.cell? ⟨gb, 0, none⟩ = some (.slice A0 S.length c0) := (blk_cell BKgb.out 0).trans rfl
          have hfz_0 := blk_frozen BKgb.out 0
          have hcz_1 : wr.cell? ⟨gb, 1, none⟩ = some (.slice A1 N.length c1) := (blk_cell BKgb.out 1).trans rfl
          have hfz_1 := blk_frozen BKgb.out 1
          obtain ⟨ke, hend⟩ := (add_ev (strOfNums (List.replicate (4001 : Int).toNat 0))).rounds
          have hfe : frame (strOfNums (List.replicate (4001 : Int).toNat 0)) = (⟨#[]⟩ : ByteArray) := by
            unfold frame
            rw [if_neg (by rw [strOfNums_size, List.length_replicate]; decide)]
            rfl
          rw [hfe] at hend
          have AE := Aside0.mk hend
          clear hend hfe
          obtain ⟨BG, hBG⟩ : ∃ BG, strOfNums (List.replicate (4001 : Int).toNat 0) = BG := ⟨_, rfl⟩
          have HBG := Lib.hid hBG
          have AE2 := AE.out
          rw [hBG] at AE2
          clear AE
          have AE := Aside0.mk AE2
          clear AE2 hBG
          go_wp2_with (first | ((with_reducible refine gate_dst (N := 166) rfl ?_); refine Kd.R_make (Kd.int .u8) (w0 := w) w.heap.size 5 rfl (N := 166) rfl 45 _ _ rfl 4001 ?hx ?hy Try.underlying45 (.int .u8 0) 1 info5 rfl (by decide) (by decide) 0 (ok := fun k_ => k_ ≠ gb) (okp := fun _ => False) ?hz (fun _ hk => hk.elim) ?hf (by decide) (by decide) ?hB ?hb ?_; (case hx => rfl); (case hy => rfl); (case hz => rfl); (case hf => exact Nat.ne_of_gt (blk_lt BKgb.out)); (case hB => (repeat (first | (with_reducible first | exact HB.out | apply below_alloc | apply pw_below_drewN | apply below_drew1) | exact HB.out))); (case hb => exact below_size (by (repeat (first | (with_reducible first | exact HB.out | apply below_alloc | apply pw_below_drewN | apply below_drew1) | exact HB.out)))); intro vm wm hom hbm hgm hnm; have n0_ := Aside0.mk (blk_grown BKgb.out hgm (by simp)); have n1_ := Aside0.mk hbm; clear BKgb HB; have BKgb := n0_; have HB := n1_; clear n0_ n1_; obtain ⟨Am, cm, rfl, hcm, hrm⟩ := Kd.R_reads hom; have HRM := Aside0.mk hrm; clear hom hbm hgm hnm hrm) | ((with_reducible refine gate_dst (N := 167) rfl ?_); refine Kd.event_run rfl (v := .string BG) (w1 := wm) ?hr ?_; (case hr => rw [← HBG.out]; exact conv_read rfl rfl Try.underlying45 Try.underlying5 Try.underlying9 HRM.out)) | ((with_reducible refine gate_callee (f := 19) rfl ?_); refine goesL_ (some 168) rfl rfl Try.func19 (by kernel_rfl) rfl #[.string BG] rfl (by (try simp only [List.map_toArray, List.map_cons, List.map_nil]); first | done | rfl | (simp only [List.length_drop, List.length_take]; rfl)) ?_; (with_reducible refine (seal_Add.calls ke BG (⟨#[]⟩ : ByteArray) _ AE.out).mono ?_); rintro e wq ⟨rfl, hb⟩; refine ⟨_, rfl, ?_⟩; have n0_ := Aside0.mk (blk_below (g := gb) (o := .cells #[.slice A0 S.length c0, .slice A1 N.length c1] 40 (0, 0)) (by (with_reducible repeat (first | refine blk_drewN ?_ _ | refine blk_drew ?_ | refine blk_alloc ?_ _)); exact BKgb.out) hb); have nb_ := Aside0.mk (below_step (by (repeat (first | (with_reducible first | exact HB.out | apply below_alloc | apply pw_below_drewN | apply below_drew1) | exact HB.out))) hb); clear BKgb; clear HB; have BKgb := n0_; have HB := nb_; clear nb_ n0_; (try clear hb)) | ((with_reducible refine gate_callee (f := 25) rfl ?_); (try (refine gate_guard (by rfl) ?_; dsimp only)); refine goesL_ (some 171) rfl rfl Try.func25 (by kernel_rfl) rfl #[] rfl (by (try simp only [List.map_toArray, List.map_cons, List.map_nil]); first | done | rfl | (simp only [List.length_drop, List.length_take]; rfl)) ?_; (with_reducible refine (amanuensislaw10_wakes.calls kw true _ AW.out).mono ?_); rintro e wq ⟨rfl, hb⟩; refine ⟨_, rfl, ?_⟩; have n0_ := Aside0.mk (blk_below (g := gb) (o := .cells #[.slice A0 S.length c0, .slice A1 N.length c1] 40 (0, 0)) (by (with_reducible repeat (first | refine blk_drewN ?_ _ | refine blk_drew ?_ | refine blk_alloc ?_ _)); exact BKgb.out) hb); have nb_ := Aside0.mk (below_step (by (repeat (first | (with_reducible first | exact HB.out | apply below_alloc | apply pw_below_drewN | apply below_drew1) | exact HB.out))) hb); clear BKgb; clear HB; have BKgb := n0_; have HB := nb_; clear nb_ n0_; (try clear hb)))
          go_ret
          exact ⟨by first | rfl | (simp <;> rfl) | (simp [*] <;> rfl), by (repeat (first | (with_reducible first | exact HB.out | apply below_alloc | apply pw_below_drewN | apply below_drew1) | exact HB.out))⟩
      · have t1 : decide (x3 < (S.length : Int)) = false := decide_eq_false hl
        have hcz_0 : wr.cell? ⟨gb, 0, none⟩ = some (.slice A0 S.length c0) := (blk_cell BKgb.out 0).trans rfl
        have hfz_0 := blk_frozen BKgb.out 0
        have hcz_1 : wr.cell? ⟨gb, 1, none⟩ = some (.slice A1 N.length c1) := (blk_cell BKgb.out 1).trans rfl
        have hfz_1 := blk_frozen BKgb.out 1
        obtain ⟨ke, hend⟩ := (add_ev (strOfNums (List.replicate (4001 : Int).toNat 0))).rounds
        have hfe : frame (strOfNums (List.replicate (4001 : Int).toNat 0)) = (⟨#[]⟩ : ByteArray) := by
          unfold frame
          rw [if_neg (by rw [strOfNums_size, List.length_replicate]; decide)]
          rfl
        rw [hfe] at hend
        have AE := Aside0.mk hend
        clear hend hfe
        obtain ⟨BG, hBG⟩ : ∃ BG, strOfNums (List.replicate (4001 : Int).toNat 0) = BG := ⟨_, rfl⟩
        have HBG := Lib.hid hBG
        have AE2 := AE.out
        rw [hBG] at AE2
        clear AE
        have AE := Aside0.mk AE2
        clear AE2 hBG
        go_wp2_with (first | ((with_reducible refine gate_dst (N := 166) rfl ?_); refine Kd.R_make (Kd.int .u8) (w0 := w) w.heap.size 5 rfl (N := 166) rfl 45 _ _ rfl 4001 ?hx ?hy Try.underlying45 (.int .u8 0) 1 info5 rfl (by decide) (by decide) 0 (ok := fun k_ => k_ ≠ gb) (okp := fun _ => False) ?hz (fun _ hk => hk.elim) ?hf (by decide) (by decide) ?hB ?hb ?_; (case hx => rfl); (case hy => rfl); (case hz => rfl); (case hf => exact Nat.ne_of_gt (blk_lt BKgb.out)); (case hB => (repeat (first | (with_reducible first | exact HB.out | apply below_alloc | apply pw_below_drewN | apply below_drew1) | exact HB.out))); (case hb => exact below_size (by (repeat (first | (with_reducible first | exact HB.out | apply below_alloc | apply pw_below_drewN | apply below_drew1) | exact HB.out)))); intro vm wm hom hbm hgm hnm; have n0_ := Aside0.mk (blk_grown BKgb.out hgm (by simp)); have n1_ := Aside0.mk hbm; clear BKgb HB; have BKgb := n0_; have HB := n1_; clear n0_ n1_; obtain ⟨Am, cm, rfl, hcm, hrm⟩ := Kd.R_reads hom; have HRM := Aside0.mk hrm; clear hom hbm hgm hnm hrm) | ((with_reducible refine gate_dst (N := 167) rfl ?_); refine Kd.event_run rfl (v := .string BG) (w1 := wm) ?hr ?_; (case hr => rw [← HBG.out]; exact conv_read rfl rfl Try.underlying45 Try.underlying5 Try.underlying9 HRM.out)) | ((with_reducible refine gate_callee (f := 19) rfl ?_); refine goesL_ (some 168) rfl rfl Try.func19 (by kernel_rfl) rfl #[.string BG] rfl (by (try simp only [List.map_toArray, List.map_cons, List.map_nil]); first | done | rfl | (simp only [List.length_drop, List.length_take]; rfl)) ?_; (with_reducible refine (seal_Add.calls ke BG (⟨#[]⟩ : ByteArray) _ AE.out).mono ?_); rintro e wq ⟨rfl, hb⟩; refine ⟨_, rfl, ?_⟩; have n0_ := Aside0.mk (blk_below (g := gb) (o := .cells #[.slice A0 S.length c0, .slice A1 N.length c1] 40 (0, 0)) (by (with_reducible repeat (first | refine blk_drewN ?_ _ | refine blk_drew ?_ | refine blk_alloc ?_ _)); exact BKgb.out) hb); have nb_ := Aside0.mk (below_step (by (repeat (first | (with_reducible first | exact HB.out | apply below_alloc | apply pw_below_drewN | apply below_drew1) | exact HB.out))) hb); clear BKgb; clear HB; have BKgb := n0_; have HB := nb_; clear nb_ n0_; (try clear hb)) | ((with_reducible refine gate_callee (f := 25) rfl ?_); (try (refine gate_guard (by rfl) ?_; dsimp only)); refine goesL_ (some 171) rfl rfl Try.func25 (by kernel_rfl) rfl #[] rfl (by (try simp only [List.map_toArray, List.map_cons, List.map_nil]); first | done | rfl | (simp only [List.length_drop, List.length_take]; rfl)) ?_; (with_reducible refine (amanuensislaw10_wakes.calls kw true _ AW.out).mono ?_); rintro e wq ⟨rfl, hb⟩; refine ⟨_, rfl, ?_⟩; have n0_ := Aside0.mk (blk_below (g := gb) (o := .cells #[.slice A0 S.length c0, .slice A1 N.length c1] 40 (0, 0)) (by (with_reducible repeat (first | refine blk_drewN ?_ _ | refine blk_drew ?_ | refine blk_alloc ?_ _)); exact BKgb.out) hb); have nb_ := Aside0.mk (below_step (by (repeat (first | (with_reducible first | exact HB.out | apply below_alloc | apply pw_below_drewN | apply below_drew1) | exact HB.out))) hb); clear BKgb; clear HB; have BKgb := n0_; have HB := nb_; clear nb_ n0_; (try clear hb)))
        go_ret
        exact ⟨by first | rfl | (simp <;> rfl) | (simp [*] <;> rfl), by (repeat (first | (with_reducible first | exact HB.out | apply below_alloc | apply pw_below_drewN | apply below_drew1) | exact HB.out))⟩
end Go.Proofs.Ytpemehpfkkjpiaa.PSealExact
