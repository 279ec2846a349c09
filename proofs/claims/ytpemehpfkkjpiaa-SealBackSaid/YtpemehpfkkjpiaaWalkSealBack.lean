/-
  The walk of SealBack: whatever it is given it answers true; nothing that was there has changed.
-/
import Derived.Test.YtpemehpfkkjpiaaPSealBackx1
import Derived.Test.YtpemehpfkkjpiaaCallsSealBack
import Derived.Test.YtpemehpfkkjpiaaSealBackMath
import Derived.Test.YtpemehpfkkjpiaaConv
import Derived.Lib.Hide
namespace Go.Proofs.Ytpemehpfkkjpiaa.PSealBack
open Go.RowKit Go.Proofs.YtpemehpfkkjpiaaW.PrintWords Go.Proofs.YtpemehpfkkjpiaaW.PrintLast Go.Proofs.YtpemehpfkkjpiaaW.PrintMore Go.Proofs.Ytpemehpfkkjpiaa.SealMath Go.Proofs.Ytpemehpfkkjpiaa.Conv
set_option linter.unusedVariables false
set_option linter.unusedSimpArgs false

theorem heavy_some (S : List ByteArray) (N : List Int) (hS : S.length * 16 ≤ 140737488351232) (hs : ∀ x ∈ S, x.size ≤ 140737488351232) : ∃ k b, amanuensislaw2_Heavy.f k S N = some b := by
  have hl : ∀ (d : Nat) (n i : Int), 0 ≤ n → n ≤ 400000000000000 → 0 ≤ i → i + d = S.length → ∃ k r, amanuensislaw0_Texts.l0 k S n i = some r := by
    intro d
    induction d with
    | zero => intro n i h0 h1 h2 h3; exact ⟨1, n, by rw [amanuensislaw0_Texts.l0, if_neg (by omega)]⟩
    | succ d ih =>
      intro n i h0 h1 h2 h3
      by_cases hn : n < 1048576
      · have hx : (rdOf ByteArray.empty S i).size ≤ 140737488351232 := by
          have hi : i.toNat < S.length := by omega
          have : rdOf ByteArray.empty S i = S[i.toNat] := by unfold rdOf; rw [List.getD_eq_getElem?_getD, List.getElem?_eq_getElem hi]; rfl
          rw [this]
          exact hs _ (List.getElem_mem hi)
        obtain ⟨k, r, hk⟩ := ih (n + ((rdOf ByteArray.empty S i).size : Int)) (i + 1) (by omega) (by omega) (by omega) (by omega)
        refine ⟨k + 1, r, ?_⟩
        rw [amanuensislaw0_Texts.l0, if_pos (by omega), if_pos hn, if_pos h2, show wrap64 (i + 1) = i + 1 by unfold wrap64; omega, show wrap64 (n + ((rdOf ByteArray.empty S i).size : Int)) = n + ((rdOf ByteArray.empty S i).size : Int) by unfold wrap64; omega]
        exact hk
      · exact ⟨1, n, by rw [amanuensislaw0_Texts.l0, if_pos (by omega), if_neg hn]⟩
  obtain ⟨k, r, hk⟩ := hl S.length S.length 0 (by omega) (by omega) (by omega) (by omega)
  refine ⟨k, decide ((wrap64 (r + (N.length : Int))) > 7000), ?_⟩
  unfold amanuensislaw2_Heavy.f amanuensislaw0_Texts.f
  rw [hk]
  rfl
theorem within255 (a : Int) : ∃ v, amanuensislaw0_Within.f a 255 = some v ∧ 0 ≤ v ∧ v < 255 := by
  have hk : ∀ n : Int, IntKind.u64.wrap n = n % 18446744073709551616 := fun n => by simp [IntKind.wrap, IntKind.bits, IntKind.signed]
  unfold amanuensislaw0_Within.f
  rw [hk, hk, Int.emod_eq_of_lt (a := 255) (by omega) (by omega), if_neg (by omega), Int.tmod_eq_emod_of_nonneg (by omega)]
  exact ⟨_, rfl, by unfold wrap64; omega, by unfold wrap64; omega⟩
/-- The new byte is another one. -/
theorem newbyte (x v : Int) (hx : 0 ≤ x ∧ x < 256) (hv : 0 ≤ v ∧ v < 255) : 0 ≤ IntKind.u8.wrap (x + IntKind.u8.wrap (wrap64 (1 + v))) ∧ IntKind.u8.wrap (x + IntKind.u8.wrap (wrap64 (1 + v))) < 256 ∧ IntKind.u8.wrap (x + IntKind.u8.wrap (wrap64 (1 + v))) ≠ x := by
  rw [IntKind.wrap_u8, IntKind.wrap_u8, show wrap64 (1 + v) = 1 + v by unfold wrap64; omega]
  omega
set_option maxHeartbeats 8000000 in
set_option maxRecDepth 100000 in
theorem amanuensislaw10_SealBack.calls (S : List ByteArray) (N : List Int) (A0 A1 : Option Addr) (c0 c1 : Nat) (w : World) (hr0 : Kd.C Kd.string w A0 S.length S) (hc0 : S.length ≤ c0) (hr1 : Kd.C (Kd.int .i64) w A1 N.length N) (hc1 : N.length ≤ c1)
    (b0 : S.length * 16 ≤ 140737488351232 ∧ ∀ x ∈ S, x.size ≤ 140737488351232) :
    Calls Try.prog 5 #[.agg #[.slice A0 S.length c0, .slice A1 N.length c1]] w fun e w' => e = .returned (.bool true) ∧ Below w.heap.size w w' := by
  have hu40 := Try.underlying40
  obtain ⟨kh, bh, hH⟩ := heavy_some S N b0.1 b0.2
  obtain ⟨kw, hW⟩ := wakes_ev.rounds
  have HR0 := Aside0.mk hr0
  have HC0 := Aside0.mk hc0
  have HR1 := Aside0.mk hr1
  have HC1 := Aside0.mk hc1
  have HS := Aside0.mk b0
  have AH := Aside0.mk hH
  have AW := Aside0.mk hW
  clear hr0 hc0 hr1 hc1 hH hW b0
  have HB := Aside0.mk (Below.refl w.heap.size w)
  cases bh with
  | true =>
    go_enter Try.func5, Try.ntmps5
    go_wp2_with (first | ((with_reducible refine gate_dst (N := 1) rfl ?_); refine box_event ?hg (N := 1) ?hd (cs := #[.slice A0 S.length c0, .slice A1 N.length c1]) (t := 40) ?hr ?_; (case hd => rfl); (case hg => rfl); (case hr => first | (go_simp; done) | (go_simp; rfl)); intro gb hg w2 hbox hb; have n0_ := Aside0.mk (below_step (by (repeat (first | (with_reducible first | exact HB.out | apply below_alloc | apply pw_below_drewN | apply below_drew1) | exact HB.out))) hb); have n1_ := Aside0.mk (hbox); have n2_ := Aside0.mk ((by rw [hg]; exact (below_size (by (repeat (first | (with_reducible first | exact HB.out | apply below_alloc | apply pw_below_drewN | apply below_drew1) | exact HB.out))))) : w.heap.size ≤ gb); clear HB; have HB := n0_; have BKgb := n1_; have GEgb := n2_; clear n0_ n1_ n2_; clear hb hbox hg; have hcz_0 : w2.cell? ⟨gb, 0, none⟩ = some (.slice A0 S.length c0) := (blk_cell BKgb.out 0).trans rfl; have hfz_0 := blk_frozen BKgb.out 0; have hcz_1 : w2.cell? ⟨gb, 1, none⟩ = some (.slice A1 N.length c1) := (blk_cell BKgb.out 1).trans rfl; have hfz_1 := blk_frozen BKgb.out 1) | ((with_reducible refine gate_callee (f := 18) rfl ?_); refine goesL_ (some 14) rfl rfl Try.func18 (by kernel_rfl) rfl #[.agg #[.slice A0 S.length c0, .slice A1 N.length c1]] rfl (by (try simp only [List.map_toArray, List.map_cons, List.map_nil]); first | done | rfl | (simp only [List.length_drop, List.length_take]; rfl)) ?_; (with_reducible refine (amanuensislaw2_Heavy.calls kh A0 c0 S A1 c1 N true _ (Kd.C_below HR0.out (by (repeat (first | (with_reducible first | exact HB.out | apply below_alloc | apply pw_below_drewN | apply below_drew1) | exact HB.out)))) HC0.out (Kd.C_below HR1.out (by (repeat (first | (with_reducible first | exact HB.out | apply below_alloc | apply pw_below_drewN | apply below_drew1) | exact HB.out)))) HC1.out AH.out).mono ?_); rintro e wq ⟨rfl, hb⟩; refine ⟨_, rfl, ?_⟩; have n0_ := Aside0.mk (blk_below (g := gb) (o := .cells #[.slice A0 S.length c0, .slice A1 N.length c1] 40 (0, 0)) (by (with_reducible repeat (first | refine blk_drewN ?_ _ | refine blk_drew ?_ | refine blk_alloc ?_ _)); exact BKgb.out) hb); have nb_ := Aside0.mk (below_step (by (repeat (first | (with_reducible first | exact HB.out | apply below_alloc | apply pw_below_drewN | apply below_drew1) | exact HB.out))) hb); clear BKgb; clear HB; have BKgb := n0_; have HB := nb_; clear nb_ n0_; (try clear hb)))
    go_ret
    exact ⟨by first | rfl | (simp <;> rfl) | (simp [*] <;> rfl), by (repeat (first | (with_reducible first | exact HB.out | apply below_alloc | apply pw_below_drewN | apply below_drew1) | exact HB.out))⟩
  | false =>
    go_enter Try.func5, Try.ntmps5
    go_wp2_with (first | ((with_reducible refine gate_dst (N := 1) rfl ?_); refine box_event ?hg (N := 1) ?hd (cs := #[.slice A0 S.length c0, .slice A1 N.length c1]) (t := 40) ?hr ?_; (case hd => rfl); (case hg => rfl); (case hr => first | (go_simp; done) | (go_simp; rfl)); intro gb hg w2 hbox hb; have n0_ := Aside0.mk (below_step (by (repeat (first | (with_reducible first | exact HB.out | apply below_alloc | apply pw_below_drewN | apply below_drew1) | exact HB.out))) hb); have n1_ := Aside0.mk (hbox); have n2_ := Aside0.mk ((by rw [hg]; exact (below_size (by (repeat (first | (with_reducible first | exact HB.out | apply below_alloc | apply pw_below_drewN | apply below_drew1) | exact HB.out))))) : w.heap.size ≤ gb); clear HB; have HB := n0_; have BKgb := n1_; have GEgb := n2_; clear n0_ n1_ n2_; clear hb hbox hg; have hcz_0 : w2.cell? ⟨gb, 0, none⟩ = some (.slice A0 S.length c0) := (blk_cell BKgb.out 0).trans rfl; have hfz_0 := blk_frozen BKgb.out 0; have hcz_1 : w2.cell? ⟨gb, 1, none⟩ = some (.slice A1 N.length c1) := (blk_cell BKgb.out 1).trans rfl; have hfz_1 := blk_frozen BKgb.out 1) | ((with_reducible refine gate_callee (f := 18) rfl ?_); refine goesL_ (some 14) rfl rfl Try.func18 (by kernel_rfl) rfl #[.agg #[.slice A0 S.length c0, .slice A1 N.length c1]] rfl (by (try simp only [List.map_toArray, List.map_cons, List.map_nil]); first | done | rfl | (simp only [List.length_drop, List.length_take]; rfl)) ?_; (with_reducible refine (amanuensislaw2_Heavy.calls kh A0 c0 S A1 c1 N false _ (Kd.C_below HR0.out (by (repeat (first | (with_reducible first | exact HB.out | apply below_alloc | apply pw_below_drewN | apply below_drew1) | exact HB.out)))) HC0.out (Kd.C_below HR1.out (by (repeat (first | (with_reducible first | exact HB.out | apply below_alloc | apply pw_below_drewN | apply below_drew1) | exact HB.out)))) HC1.out AH.out).mono ?_); rintro e wq ⟨rfl, hb⟩; refine ⟨_, rfl, ?_⟩; have n0_ := Aside0.mk (blk_below (g := gb) (o := .cells #[.slice A0 S.length c0, .slice A1 N.length c1] 40 (0, 0)) (by (with_reducible repeat (first | refine blk_drewN ?_ _ | refine blk_drew ?_ | refine blk_alloc ?_ _)); exact BKgb.out) hb); have nb_ := Aside0.mk (below_step (by (repeat (first | (with_reducible first | exact HB.out | apply below_alloc | apply pw_below_drewN | apply below_drew1) | exact HB.out))) hb); clear BKgb; clear HB; have BKgb := n0_; have HB := nb_; clear nb_ n0_; (try clear hb)))
    go_loopg [3] 9 (fun kq v3 w' => ∃ x3 : Int, v3 = .int .i64 x3 ∧ 0 ≤ x3 ∧ x3 ≤ 8 ∧ x3 + kq = 9 ∧ Aside0 (w'.heap[gb]? = some (.cells #[.slice A0 S.length c0, .slice A1 N.length c1] 40 (0, 0))) ∧ Aside0 (Below w.heap.size w w'))
    case atStart => exact ⟨0, rfl, by omega, by omega, by omega, ⟨by (with_reducible repeat (first | refine blk_drewN ?_ _ | refine blk_drew ?_ | refine blk_alloc ?_ _)); exact BKgb.out⟩, ⟨by (repeat (first | (with_reducible first | exact HB.out | apply below_alloc | apply pw_below_drewN | apply below_drew1) | exact HB.out))⟩⟩
    case round =>
      obtain ⟨x3, rfl, h0, h8, h9, BKgb, HB⟩ := hrel
      obtain ⟨k1, rfl⟩ : ∃ k1, gk = k1 + 1 := ⟨gk - 1, by omega⟩
      by_cases hl : x3 < (S.length : Int)
      · have t1 : decide (x3 < (S.length : Int)) = true := decide_eq_true hl
        by_cases hm : x3 < 8
        · have t2 : decide (x3 < 8) = true := decide_eq_true hm
          have hcz_0 : wr.cell? ⟨gb, 0, none⟩ = some (.slice A0 S.length c0) := (blk_cell BKgb.out 0).trans rfl
          have hfz_0 := blk_frozen BKgb.out 0
          have hcz_1 : wr.cell? ⟨gb, 1, none⟩ = some (.slice A1 N.length c1) := (blk_cell BKgb.out 1).trans rfl
          have hfz_1 := blk_frozen BKgb.out 1
          obtain ⟨ad, e0, hx⟩ := Kd.at_string HR0.out x3 h0 hl
          cases e0
          have HX := Aside0.mk hx
          replace hx := (HB.out.cell (World.block_lt_of_cell? w _ hx)).trans hx
          have p0 := eq_true h0
          have q0 := eq_true hl
          by_cases hbig : 4000 < (rdOf ByteArray.empty S x3).size
          · have c4 : decide (4000 < ((rdOf ByteArray.empty S x3).size : Int)) = true := decide_eq_true (by omega)
            have c4' : decide (4000 < (rdOf ByteArray.empty S x3).size) = true := decide_eq_true hbig
            go_wp2
            go_roundg k1
            case measure => omega
            case rel => exact ⟨x3 + 1, rfl, by omega, by omega, by omega, ⟨by (with_reducible repeat (first | refine blk_drewN ?_ _ | refine blk_drew ?_ | refine blk_alloc ?_ _)); exact BKgb.out⟩, ⟨by (repeat (first | (with_reducible first | exact HB.out | apply below_alloc | apply pw_below_drewN | apply below_drew1) | exact HB.out))⟩⟩
          · have c4 : decide (4000 < ((rdOf ByteArray.empty S x3).size : Int)) = false := decide_eq_false (by omega)
            have c4' : decide (4000 < (rdOf ByteArray.empty S x3).size) = false := decide_eq_false hbig
            have hs4 : (rdOf ByteArray.empty S x3).size ≤ 4000 := by omega
            have hfs := frame_size (rdOf ByteArray.empty S x3) hs4
            obtain ⟨ka, hadd⟩ := (add_ev (rdOf ByteArray.empty S x3)).rounds
            obtain ⟨kt, htake⟩ := (take_ev (frame (rdOf ByteArray.empty S x3) ++ (⟨#[98, 101, 104, 105, 110, 100]⟩ : ByteArray)) (by rw [ByteArray.size_append, hfs]; show _ + 6 ≤ _; omega)).rounds
            rw [unframe_frame _ _ hs4] at htake
            have HF := Lib.hid hfs
            have AA := Aside0.mk hadd
            have AT := Aside0.mk htake
            have HS4 := Aside0.mk hs4
            clear hfs hadd htake hbig hs4
            obtain ⟨s0, hs0⟩ : ∃ s0, rdOf ByteArray.empty S x3 = s0 := ⟨_, rfl⟩
            obtain ⟨F, hF⟩ : ∃ F, frame s0 = F := ⟨_, rfl⟩
            simp only [hs0, hF] at HF AA AT HS4 HX hx c4 c4'
            have hfz : F.size ≤ 4008 := by have := HF.out; have := HS4.out; omega
            have d1 : (9223372036854775807 < F.size + 6) = False := eq_false (by omega)
            have d2 : ((F.size : Int) != wrap64 ((s0.size : Int) + 8)) = false := by have h1_ := HF.out; have h2_ := HS4.out; rw [bne_eq_false_iff_eq]; unfold wrap64; omega
            go_wp2_with (first | ((with_reducible refine gate_callee (f := 19) rfl ?_); refine goesL_ (some 38) rfl rfl Try.func19 (by kernel_rfl) rfl #[.string s0] rfl (by (try simp only [List.map_toArray, List.map_cons, List.map_nil]); first | done | rfl | (simp only [List.length_drop, List.length_take]; rfl)) ?_; (with_reducible refine (seal_Add.calls ka s0 F _ AA.out).mono ?_); rintro e wq ⟨rfl, hb⟩; refine ⟨_, rfl, ?_⟩; have n0_ := Aside0.mk (blk_below (g := gb) (o := .cells #[.slice (some ad) S.length c0, .slice A1 N.length c1] 40 (0, 0)) (by (with_reducible repeat (first | refine blk_drewN ?_ _ | refine blk_drew ?_ | refine blk_alloc ?_ _)); exact BKgb.out) hb); have nb_ := Aside0.mk (below_step (by (repeat (first | (with_reducible first | exact HB.out | apply below_alloc | apply pw_below_drewN | apply below_drew1) | exact HB.out))) hb); clear BKgb; clear HB; have BKgb := n0_; have HB := nb_; clear nb_ n0_; (try clear hb); have hczq_0 : wq.cell? ⟨gb, 0, none⟩ = some (.slice (some ad) S.length c0) := (blk_cell BKgb.out 0).trans rfl; have hfzq_0 := blk_frozen BKgb.out 0; have hczq_1 : wq.cell? ⟨gb, 1, none⟩ = some (.slice A1 N.length c1) := (blk_cell BKgb.out 1).trans rfl; have hfzq_1 := blk_frozen BKgb.out 1; have hx2 := (HB.out.cell (World.block_lt_of_cell? w _ HX.out)).trans HX.out) | ((with_reducible refine gate_callee (f := 23) rfl ?_); refine goesL_ (some 42) rfl rfl Try.func23 (by kernel_rfl) rfl #[.string (F ++ (⟨#[98, 101, 104, 105, 110, 100]⟩ : ByteArray))] rfl (by (try simp only [List.map_toArray, List.map_cons, List.map_nil]); first | done | rfl | (simp only [List.length_drop, List.length_take]; rfl)) ?_; (with_reducible refine (seal_Take.calls kt (F ++ (⟨#[98, 101, 104, 105, 110, 100]⟩ : ByteArray)) s0 (⟨#[98, 101, 104, 105, 110, 100]⟩ : ByteArray) true _ AT.out).mono ?_); rintro e w' ⟨rfl, ⟨nd, rfl⟩⟩; refine ⟨_, rfl, ?_⟩))
            go_loopg [8] 201 (fun kq v8 w' => ∃ x8 : Int, v8 = .int .i64 x8 ∧ 0 ≤ x8 ∧ x8 ≤ 200 ∧ x8 + kq = 201 ∧ Aside0 (w'.heap[gb]? = some (.cells #[.slice (some ad) S.length c0, .slice A1 N.length c1] 40 (0, 0))) ∧ Aside0 (Below w.heap.size w w'))
            case atStart => exact ⟨0, rfl, by omega, by omega, by omega, ⟨by (with_reducible repeat (first | refine blk_drewN ?_ _ | refine blk_drew ?_ | refine blk_alloc ?_ _)); exact BKgb.out⟩, ⟨by (repeat (first | (with_reducible first | exact HB.out | apply below_alloc | apply pw_below_drewN | apply below_drew1) | exact HB.out))⟩⟩
            case round =>
              clear d2 c4 c4'
              obtain ⟨x8, rfl, g0, g8, g9, BKgb, HB⟩ := hrel
              obtain ⟨k2, rfl⟩ : ∃ k2, gk = k2 + 1 := ⟨gk - 1, by omega⟩
              obtain ⟨wv, rfl⟩ : ∃ wv : World, wv = wr := ⟨_, rfl⟩
              by_cases hj : x8 < (F.size : Int)
              · have u1 : decide (x8 < (F.size : Int)) = true := decide_eq_true hj
                by_cases hm2 : x8 < 200
                · have u2 : decide (x8 < 200) = true := decide_eq_true hm2
                  have p8 := eq_true g0
                  have q8 := eq_true hj
                  go_wp2_with (first | ((with_reducible refine gate_dst (N := 80) rfl ?_); refine conv_event rfl (N := 80) rfl (s := F) rfl ?hx Try.underlying9 Try.underlying45 Try.underlying5 ?_; (case hx => rfl); intro g cc w4 hg hC hFz hb; have GEg := Aside0.mk ((by rw [hg]; exact (below_size (by (repeat (first | (with_reducible first | exact HB.out | apply below_alloc | apply pw_below_drewN | apply below_drew1) | exact HB.out))))) : w.heap.size ≤ g); have NEg := Aside0.mk ((by rw [hg]; exact Nat.ne_of_lt (blk_lt BKgb.out)) : gb ≠ g); have n0_ := Aside0.mk (blk_below (g := gb) (o := .cells #[.slice (some ad) S.length c0, .slice A1 N.length c1] 40 (0, 0)) (by (with_reducible repeat (first | refine blk_drewN ?_ _ | refine blk_drew ?_ | refine blk_alloc ?_ _)); exact BKgb.out) hb); have nb_ := Aside0.mk (below_step (by (repeat (first | (with_reducible first | exact HB.out | apply below_alloc | apply pw_below_drewN | apply below_drew1) | exact HB.out))) hb); clear BKgb; clear HB; have BKgb := n0_; have HB := nb_; clear nb_ n0_; (try clear hb); have HCB := Aside0.mk hC; have HFB := Aside0.mk hFz; clear hg hC hFz))
                  have m0_ := Aside0.mk (blk_drew BKgb.out)
                  have m1_ := Aside0.mk (below_drew1 HB.out)
                  have m2_ : Aside0 (∀ j, j < F.size → w4.drew.cell? ⟨g, j, none⟩ = some (.int .u8 ((bytesOf F).getD j 0))) := ⟨HCB.out⟩
                  have m3_ : Aside0 (∀ j, j < F.size → w4.drew.frozen? ⟨g, j, none⟩ = false) := ⟨HFB.out⟩
                  clear BKgb HB HCB HFB
                  have BKgb := m0_
                  have HB := m1_
                  have HCB := m2_
                  have HFB := m3_
                  clear m0_ m1_ m2_ m3_
                  have hk8 : x8.toNat < F.size := by omega
                  obtain ⟨vW, hW, v0, v1⟩ := within255 (wrap64 (wrap64 (x8 * 31) + x3))
                  have AWi := Aside0.mk hW
                  clear hW
                  have xr := getD_range (bytesOf F) (bytesOf_range F) x8.toNat
                  obtain ⟨xb, hxb⟩ : ∃ xb, (bytesOf F).getD x8.toNat 0 = xb := ⟨_, rfl⟩
                  have HXB := Lib.hid hxb
                  rw [hxb] at xr
                  obtain ⟨xr0, xr1⟩ := xr
                  clear hxb
                  refine start_ (n := 16) (S := fun w' => w'.cell? ⟨g, x8.toNat, none⟩ = some (.int .u8 xb)) (ds := [15]) #[false, false, false, false, false, false, false, false, false, false, false, false, false, false, false, false] (by kernel_rfl) rfl rfl ((HCB.out x8.toNat hk8).trans (by rw [HXB.out])) (fun hHeld => ?_)
                  generalize w4.drew = w5 at BKgb HB HCB HFB hHeld ⊢
                  refine pure_ (i := 0) (N := some 81) (v := ?_) (a' := ?_) #[true, false, false, false, false, false, false, false, false, false, false, false, false, false, false, false] rfl rfl (by kernel_rfl) (fun _ _ _ h => h) (Or.inl ⟨by rfl, ?_⟩) ?_ ?_
                  rotate_left
                  · intro w'
                    go_simp
                    with_reducible rfl
                  rotate_left
                  · simp only [Act.put, List.setIfInBounds_toArray, List.set_cons_zero, List.set_cons_succ, i64_w, i32_w]
                    rfl
                  refine pure_ (i := 1) (N := some 82) (v := ?_) (a' := ?_) #[true, true, false, false, false, false, false, false, false, false, false, false, false, false, false, false] rfl rfl (by kernel_rfl) (fun _ _ _ h => h) (Or.inl ⟨by rfl, ?_⟩) ?_ ?_
                  rotate_left
                  · intro w'
                    go_simp
                    with_reducible rfl
                  rotate_left
                  · simp only [Act.put, List.setIfInBounds_toArray, List.set_cons_zero, List.set_cons_succ, i64_w, i32_w]
                    rfl
                  refine pure_ (i := 2) (N := some 83) (v := ?_) (a' := ?_) #[true, true, true, false, false, false, false, false, false, false, false, false, false, false, false, false] rfl rfl (by kernel_rfl) (fun _ _ _ h => h) (Or.inl ⟨by rfl, ?_⟩) ?_ ?_
                  rotate_left
                  · intro w'
                    go_simp
                    with_reducible rfl
                  rotate_left
                  · simp only [Act.put, List.setIfInBounds_toArray, List.set_cons_zero, List.set_cons_succ, i64_w, i32_w]
                    rfl
                  refine pure_ (i := 3) (N := some 84) (v := ?_) (a' := ?_) #[true, true, true, true, false, false, false, false, false, false, false, false, false, false, false, false] rfl rfl (by kernel_rfl) (fun _ _ _ h => h) (Or.inl ⟨by rfl, ?_⟩) ?_ ?_
                  rotate_left
                  · intro w'
                    go_simp
                    with_reducible rfl
                  rotate_left
                  · simp only [Act.put, List.setIfInBounds_toArray, List.set_cons_zero, List.set_cons_succ, i64_w, i32_w]
                    rfl
                  refine pure_ (i := 4) (N := some 85) (v := ?_) (a' := ?_) #[true, true, true, true, true, false, false, false, false, false, false, false, false, false, false, false] rfl rfl (by kernel_rfl) (fun _ _ _ h => h) (Or.inl ⟨by rfl, ?_⟩) ?_ ?_
                  rotate_left
                  · intro w'
                    go_simp
                    with_reducible rfl
                  rotate_left
                  · simp only [Act.put, List.setIfInBounds_toArray, List.set_cons_zero, List.set_cons_succ, i64_w, i32_w]
                    rfl
                  refine pure_ (i := 6) (N := some 87) (v := ?_) (a' := ?_) #[true, true, true, true, true, false, true, false, false, false, false, false, false, false, false, false] rfl rfl (by kernel_rfl) (fun _ _ _ h => h) (Or.inl ⟨by rfl, ?_⟩) ?_ ?_
                  rotate_left
                  · intro w'
                    go_simp
                    with_reducible rfl
                  rotate_left
                  · simp only [Act.put, List.setIfInBounds_toArray, List.set_cons_zero, List.set_cons_succ, i64_w, i32_w]
                    rfl
                  refine pure_ (i := 7) (N := some 88) (v := ?_) (a' := ?_) #[true, true, true, true, true, false, true, true, false, false, false, false, false, false, false, false] rfl rfl (by kernel_rfl) (fun _ _ _ h => h) (Or.inl ⟨by rfl, ?_⟩) ?_ ?_
                  rotate_left
                  · intro w'
                    go_simp
                    with_reducible rfl
                  rotate_left
                  · simp only [Act.put, List.setIfInBounds_toArray, List.set_cons_zero, List.set_cons_succ, i64_w, i32_w]
                    rfl
                  refine pure_ (i := 8) (N := some 89) (v := ?_) (a' := ?_) #[true, true, true, true, true, false, true, true, true, false, false, false, false, false, false, false] rfl rfl (by kernel_rfl) (fun _ _ _ h => h) (Or.inl ⟨by rfl, ?_⟩) ?_ ?_
                  rotate_left
                  · intro w'
                    go_simp
                    with_reducible rfl
                  rotate_left
                  · simp only [Act.put, List.setIfInBounds_toArray, List.set_cons_zero, List.set_cons_succ, i64_w, i32_w]
                    rfl
                  refine pure_ (i := 9) (N := some 90) (v := ?_) (a' := ?_) #[true, true, true, true, true, false, true, true, true, true, false, false, false, false, false, false] rfl rfl (by kernel_rfl) (fun _ _ _ h => h) (Or.inl ⟨by rfl, ?_⟩) ?_ ?_
                  rotate_left
                  · intro w'
                    go_simp
                    with_reducible rfl
                  rotate_left
                  · simp only [Act.put, List.setIfInBounds_toArray, List.set_cons_zero, List.set_cons_succ, i64_w, i32_w]
                    rfl
                  refine take_ (i := 5) (N := some 86) (v := ?_) (a' := ?_) #[true, true, true, true, true, true, true, true, true, true, false, false, false, false, false, false] rfl rfl (by kernel_rfl) (fun _ _ _ h => h) (Or.inl ⟨by rfl, ?_⟩) hHeld ?_ ?_
                  rotate_left
                  · intro w' s0
                    go_simp
                    with_reducible rfl
                  rotate_left
                  · simp only [Act.put, List.setIfInBounds_toArray, List.set_cons_zero, List.set_cons_succ, i64_w, i32_w]
                    rfl
                  refine one_ (i := 10) (N := some 91) #[true, true, true, true, true, true, true, true, true, true, true, false, false, false, false, false] rfl rfl (by kernel_rfl) (by decide) (fun K hK => ?_)
                  refine goes_ Try.func26 (by kernel_rfl) rfl #[.int .i64 (wrap64 (wrap64 (x8 * 31) + x3)), .int .i64 255] (by rfl) rfl rfl (by simp only [List.map_toArray, List.map_cons, List.map_nil]; rfl) ?_
                  with_reducible refine (amanuensislaw0_Within.calls (wrap64 (wrap64 (x8 * 31) + x3)) 255 vW _ AWi.out).mono ?_
                  rintro e w' ⟨rfl, ⟨nd, rfl⟩⟩
                  refine ⟨_, rfl, ?_⟩
                  refine hK.out _ _ (hHeld) (fun hHeld => ?_)
                  clear hK K
                  refine norm_ (a' := ?_) ?_ ?_
                  rotate_left
                  · show Act.put _ (some 91) _ = _
                    simp only [Act.put, List.setIfInBounds_toArray, List.set_cons_zero, List.set_cons_succ, i64_w, i32_w]
                    rfl
                  refine pure_ (i := 11) (N := some 92) (v := ?_) (a' := ?_) #[true, true, true, true, true, true, true, true, true, true, true, true, false, false, false, false] rfl rfl (by kernel_rfl) (fun _ _ _ h => h) (Or.inl ⟨by rfl, ?_⟩) ?_ ?_
                  rotate_left
                  · intro w'
                    go_simp
                    with_reducible rfl
                  rotate_left
                  · simp only [Act.put, List.setIfInBounds_toArray, List.set_cons_zero, List.set_cons_succ, i64_w, i32_w]
                    rfl
                  refine pure_ (i := 12) (N := some 93) (v := ?_) (a' := ?_) #[true, true, true, true, true, true, true, true, true, true, true, true, true, false, false, false] rfl rfl (by kernel_rfl) (fun _ _ _ h => h) (Or.inl ⟨by rfl, ?_⟩) ?_ ?_
                  rotate_left
                  · intro w'
                    go_simp
                    with_reducible rfl
                  rotate_left
                  · simp only [Act.put, List.setIfInBounds_toArray, List.set_cons_zero, List.set_cons_succ, i64_w, i32_w]
                    rfl
                  refine pure_ (i := 13) (N := some 94) (v := ?_) (a' := ?_) #[true, true, true, true, true, true, true, true, true, true, true, true, true, true, false, false] rfl rfl (by kernel_rfl) (fun _ _ _ h => h) (Or.inl ⟨by rfl, ?_⟩) ?_ ?_
                  rotate_left
                  · intro w'
                    go_simp
                    with_reducible rfl
                  rotate_left
                  · simp only [Act.put, List.setIfInBounds_toArray, List.set_cons_zero, List.set_cons_succ, i64_w, i32_w]
                    rfl
                  refine pure_ (i := 14) (N := some 95) (v := ?_) (a' := ?_) #[true, true, true, true, true, true, true, true, true, true, true, true, true, true, true, false] rfl rfl (by kernel_rfl) (fun _ _ _ h => h) (Or.inl ⟨by rfl, ?_⟩) ?_ ?_
                  rotate_left
                  · intro w'
                    go_simp
                    with_reducible rfl
                  rotate_left
                  · simp only [Act.put, List.setIfInBounds_toArray, List.set_cons_zero, List.set_cons_succ, i64_w, i32_w]
                    rfl
                  refine last_ (i := 15) (N := none) #[true, true, true, true, true, true, true, true, true, true, true, true, true, true, true, true] rfl rfl (by kernel_rfl) (by decide) (fun K hK => ?_)
                  have hs5 : w5.cell? ⟨g, x8.toNat, none⟩ = some (.int .u8 xb) := (HCB.out x8.toNat hk8).trans (by rw [HXB.out])
                  have hf5 := HFB.out x8.toNat hk8
                  refine skip_ (w1 := ?_) (by rfl) rfl ?_ ?_
                  rotate_left
                  · go_simp
                    rfl
                  refine hK.out _ _ ?_
                  clear hK K
                  refine done_ (by kernel_rfl) ?_
                  obtain ⟨V, hV⟩ : ∃ V, IntKind.u8.wrap (xb + IntKind.u8.wrap (wrap64 (1 + vW))) = V := ⟨_, rfl⟩
                  rw [hV]
                  have hnb := newbyte xb vW ⟨xr0, xr1⟩ ⟨v0, v1⟩
                  rw [hV] at hnb
                  obtain ⟨nb0, nb1, nb2⟩ := hnb
                  have m0_ := Aside0.mk (blk_far (by (with_reducible repeat (first | refine blk_drewN ?_ _ | refine blk_drew ?_ | refine blk_alloc ?_ _)); exact BKgb.out : (w5.drewN nd).heap[gb]? = _) (show gb ≠ (⟨g, x8.toNat, none⟩ : Addr).block from NEg.out) (.int .u8 V))
                  have m1_ := Aside0.mk (below_set (j := x8.toNat) (v := .int .u8 V) (pw_below_drewN HB.out nd) GEg.out)
                  have m2_ : Aside0 (∀ i, i < F.size → ((w5.drewN nd).setCell ⟨g, x8.toNat, none⟩ (.int .u8 V)).cell? ⟨g, i, none⟩ = some (.int .u8 (((bytesOf F).set x8.toNat V).getD i 0))) := ⟨fun i hi => by
                    by_cases hik : i = x8.toNat
                    · rw [hik, World.cell?_setCell_same (w5.drewN nd) ⟨g, x8.toNat, none⟩ (.int .u8 V) (HCB.out x8.toNat hk8 : (w5.drewN nd).cell? ⟨g, x8.toNat, none⟩ = _)]
                      rw [List.getD_eq_getElem?_getD, List.getElem?_set_self (by rw [bytesOf_len]; exact hk8)]
                      rfl
                    · rw [World.cell?_setCell_other _ ⟨g, x8.toNat, none⟩ ⟨g, i, none⟩ _ (by intro h_; injection h_ with _ h_ _; exact hik h_.symm)]
                      rw [List.getD_eq_getElem?_getD, List.getElem?_set_ne (fun h_ => hik h_.symm), ← List.getD_eq_getElem?_getD]
                      exact HCB.out i hi⟩
                  clear BKgb HB HCB HFB
                  have BKgb := m0_
                  have HB := m1_
                  have HCB := m2_
                  clear m0_ m1_ m2_
                  generalize (w5.drewN nd).setCell ⟨g, x8.toNat, none⟩ (.int .u8 V) = w6 at BKgb HB HCB ⊢
                  have hchg := changed s0 HS4.out x8.toNat (by rw [hF]; exact hk8) V nb0 nb1 (by rw [hF, HXB.out]; exact nb2) (⟨#[98, 101, 104, 105, 110, 100]⟩ : ByteArray)
                  rw [hF] at hchg
                  have hBsz : (strOfNums ((bytesOf F).set x8.toNat V)).size = F.size := by rw [strOfNums_size, List.length_set, bytesOf_len]
                  have e1 : (9223372036854775807 < (strOfNums ((bytesOf F).set x8.toNat V)).size + 6) = False := eq_false (by omega)
                  obtain ⟨kt2, ht2⟩ := (take_ev (strOfNums ((bytesOf F).set x8.toNat V) ++ (⟨#[98, 101, 104, 105, 110, 100]⟩ : ByteArray)) (by rw [ByteArray.size_append, hBsz]; show _ + 6 ≤ _; omega)).rounds
                  clear hV hBsz
                  generalize unframe (strOfNums ((bytesOf F).set x8.toNat V) ++ (⟨#[98, 101, 104, 105, 110, 100]⟩ : ByteArray)) = u at ht2 hchg
                  obtain ⟨u1, u2, u3⟩ := u
                  have AT2 := Aside0.mk ht2
                  clear ht2
                  cases u3 with
                  | true =>
                    have hne : u1.size ≠ s0.size := hchg rfl
                    have f1 : ((u1.size : Int) == (s0.size : Int)) = false := by rw [beq_eq_false_iff_ne]; omega
                    have f2 : (u1.size == s0.size) = false := by rw [beq_eq_false_iff_ne]; exact hne
                    have f3 : decide (u1.size = s0.size) = false := decide_eq_false hne
                    clear hchg hne
                    go_wp2_with (first | ((with_reducible refine gate_dst (N := 98) rfl ?_); refine back_event (b := g) (n := F.size) (c := cc) (e := 5) (src := 45) (dst := 9) (x := .tmp 97) rfl (N := 98) rfl ((bytesOf F).set x8.toNat V) rfl ?hx Try.underlying45 Try.underlying5 Try.underlying9 ?hl ?hc ?_; (case hx => rfl); (case hl => rw [List.length_set, bytesOf_len]); (case hc => exact HCB.out)) | ((with_reducible refine gate_callee (f := 23) rfl ?_); refine goesL_ (some 100) rfl rfl Try.func23 (by kernel_rfl) rfl #[.string (strOfNums ((bytesOf F).set x8.toNat V) ++ (⟨#[98, 101, 104, 105, 110, 100]⟩ : ByteArray))] rfl (by (try simp only [List.map_toArray, List.map_cons, List.map_nil]); first | done | rfl | (simp only [List.length_drop, List.length_take]; rfl)) ?_; (with_reducible refine (seal_Take.calls kt2 _ u1 u2 true _ AT2.out).mono ?_); rintro e w' ⟨rfl, ⟨nd, rfl⟩⟩; refine ⟨_, rfl, ?_⟩))
                    go_roundg k2
                    case measure => omega
                    case rel => exact ⟨x8 + 1, rfl, by omega, by omega, by omega, ⟨by (with_reducible repeat (first | refine blk_drewN ?_ _ | refine blk_drew ?_ | refine blk_alloc ?_ _)); exact BKgb.out⟩, ⟨by (repeat (first | (with_reducible first | exact HB.out | apply below_alloc | apply pw_below_drewN | apply below_drew1) | exact HB.out))⟩⟩
                  | false =>
                    clear hchg
                    go_wp2_with (first | ((with_reducible refine gate_dst (N := 98) rfl ?_); refine back_event (b := g) (n := F.size) (c := cc) (e := 5) (src := 45) (dst := 9) (x := .tmp 97) rfl (N := 98) rfl ((bytesOf F).set x8.toNat V) rfl ?hx Try.underlying45 Try.underlying5 Try.underlying9 ?hl ?hc ?_; (case hx => rfl); (case hl => rw [List.length_set, bytesOf_len]); (case hc => exact HCB.out)) | ((with_reducible refine gate_callee (f := 23) rfl ?_); refine goesL_ (some 100) rfl rfl Try.func23 (by kernel_rfl) rfl #[.string (strOfNums ((bytesOf F).set x8.toNat V) ++ (⟨#[98, 101, 104, 105, 110, 100]⟩ : ByteArray))] rfl (by (try simp only [List.map_toArray, List.map_cons, List.map_nil]); first | done | rfl | (simp only [List.length_drop, List.length_take]; rfl)) ?_; (with_reducible refine (seal_Take.calls kt2 _ u1 u2 false _ AT2.out).mono ?_); rintro e w' ⟨rfl, ⟨nd, rfl⟩⟩; refine ⟨_, rfl, ?_⟩))
                    go_roundg k2
                    case measure => omega
                    case rel => exact ⟨x8 + 1, rfl, by omega, by omega, by omega, ⟨by (with_reducible repeat (first | refine blk_drewN ?_ _ | refine blk_drew ?_ | refine blk_alloc ?_ _)); exact BKgb.out⟩, ⟨by (repeat (first | (with_reducible first | exact HB.out | apply below_alloc | apply pw_below_drewN | apply below_drew1) | exact HB.out))⟩⟩
                · have u2 : decide (x8 < 200) = false := decide_eq_false hm2
                  go_wp2
                  go_roundg k1
                  case measure => omega
                  case rel => exact ⟨x3 + 1, rfl, by omega, by omega, by omega, ⟨by (with_reducible repeat (first | refine blk_drewN ?_ _ | refine blk_drew ?_ | refine blk_alloc ?_ _)); exact BKgb.out⟩, ⟨by (repeat (first | (with_reducible first | exact HB.out | apply below_alloc | apply pw_below_drewN | apply below_drew1) | exact HB.out))⟩⟩
              · have u1 : decide (x8 < (F.size : Int)) = false := decide_eq_false hj
                go_wp2
                go_roundg k1
                case measure => omega
                case rel => exact ⟨x3 + 1, rfl, by omega, by omega, by omega, ⟨by (with_reducible repeat (first | refine blk_drewN ?_ _ | refine blk_drew ?_ | refine blk_alloc ?_ _)); exact BKgb.out⟩, ⟨by (repeat (first | (with_reducible first | exact HB.out | apply below_alloc | apply pw_below_drewN | apply below_drew1) | exact HB.out))⟩⟩
        · have t2 : decide (x3 < 8) = false := decide_eq_false hm
          have hcz_0 : wr.cell? ⟨gb, 0, none⟩ = some (.slice A0 S.length c0) := (blk_cell BKgb.out 0).trans rfl
          have hfz_0 := blk_frozen BKgb.out 0
          have hcz_1 : wr.cell? ⟨gb, 1, none⟩ = some (.slice A1 N.length c1) := (blk_cell BKgb.out 1).trans rfl
          have hfz_1 := blk_frozen BKgb.out 1
          go_wp2_with (first | (go_at_call 25; (with_reducible refine (amanuensislaw10_wakes.calls kw true _ AW.out).mono ?_); rintro e wq ⟨rfl, hb⟩; have n0_ := Aside0.mk (blk_below (g := gb) (o := .cells #[.slice A0 S.length c0, .slice A1 N.length c1] 40 (0, 0)) (by (with_reducible repeat (first | refine blk_drewN ?_ _ | refine blk_drew ?_ | refine blk_alloc ?_ _)); exact BKgb.out) hb); have nb_ := Aside0.mk (below_step (by (repeat (first | (with_reducible first | exact HB.out | apply below_alloc | apply pw_below_drewN | apply below_drew1) | exact HB.out))) hb); clear BKgb; clear HB; have BKgb := n0_; have HB := nb_; clear nb_ n0_; (try clear hb)))
          go_ret
          exact ⟨by first | rfl | (simp <;> rfl) | (simp [*] <;> rfl), by (repeat (first | (with_reducible first | exact HB.out | apply below_alloc | apply pw_below_drewN | apply below_drew1) | exact HB.out))⟩
      · have t1 : decide (x3 < (S.length : Int)) = false := decide_eq_false hl
        have hcz_0 : wr.cell? ⟨gb, 0, none⟩ = some (.slice A0 S.length c0) := (blk_cell BKgb.out 0).trans rfl
        have hfz_0 := blk_frozen BKgb.out 0
        have hcz_1 : wr.cell? ⟨gb, 1, none⟩ = some (.slice A1 N.length c1) := (blk_cell BKgb.out 1).trans rfl
        have hfz_1 := blk_frozen BKgb.out 1
        go_wp2_with (first | (go_at_call 25; (with_reducible refine (amanuensislaw10_wakes.calls kw true _ AW.out).mono ?_); rintro e wq ⟨rfl, hb⟩; have n0_ := Aside0.mk (blk_below (g := gb) (o := .cells #[.slice A0 S.length c0, .slice A1 N.length c1] 40 (0, 0)) (by (with_reducible repeat (first | refine blk_drewN ?_ _ | refine blk_drew ?_ | refine blk_alloc ?_ _)); exact BKgb.out) hb); have nb_ := Aside0.mk (below_step (by (repeat (first | (with_reducible first | exact HB.out | apply below_alloc | apply pw_below_drewN | apply below_drew1) | exact HB.out))) hb); clear BKgb; clear HB; have BKgb := n0_; have HB := nb_; clear nb_ n0_; (try clear hb)))
        go_ret
        exact ⟨by first | rfl | (simp <;> rfl) | (simp [*] <;> rfl), by (repeat (first | (with_reducible first | exact HB.out | apply below_alloc | apply pw_below_drewN | apply below_drew1) | exact HB.out))⟩
end Go.Proofs.Ytpemehpfkkjpiaa.PSealBack
