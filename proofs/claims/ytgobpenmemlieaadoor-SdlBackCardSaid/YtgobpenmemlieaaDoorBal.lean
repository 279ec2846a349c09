/-
  The walk of amanuensislaw4.SdlBack.
-/
import Derived.Test.YtgobpenmemlieaaDoorBak
namespace Go.Proofs.YtgobpenmemlieaaDoor.Lex
open Go.RowKit Go.Proofs.YtgobpenmemlieaaDoorW.PrintWords Go.Proofs.YtgobpenmemlieaaDoorW.PrintLast Go.Proofs.YtgobpenmemlieaaDoorW.PrintMore PSdlBack
attribute [local go_sem] max2_int min2_int max_two min_two max_three min_three max_four min_four
set_option linter.unusedVariables false
set_option linter.unusedSimpArgs false
set_option maxHeartbeats 8000000 in
set_option maxRecDepth 100000 in
theorem SdlBack_calls (A0 : Option Addr) (c0 : Nat) (l0 : List ByteArray) (A1 : Option Addr) (c1 : Nat) (l1 : List Int) (A2 : Option Addr) (c2 : Nat) (l2 : List (List S54)) (w : World)
    (hr0 : Kd.C Kd.string w A0 l0.length l0) (h0c : l0.length ≤ c0) (hr1 : Kd.C (Kd.int .i64) w A1 l1.length l1) (h1c : l1.length ≤ c1) (hr2 : Kd.C (Kd.slice 54 k54) w A2 l2.length l2) (h2c : l2.length ≤ c2)
    (kh : Nat) (hv : Bool) (hh : amanuensislaw4_Heavy.f kh l0 l1 l2 = some hv) (hT : Tab w) (hgood : hv = false → ∀ i : Nat, i < l2.length → Good (rd_L3 l2 i)) (s0 : ByteArray) (hwp : PrintsAs [wk0] s0 0) (hwr : ReadsAs s0 [wk0]) :
    Calls Tryd.prog 5 #[.agg #[.slice A0 l0.length c0, .slice A1 l1.length c1, .slice A2 l2.length c2]] w fun e w' => e = .returned (.bool true) ∧ Below w.heap.size w w' := by
  have H0 := Aside0.mk hr0
  have H1 := Aside0.mk hr1
  have H2 := Aside0.mk hr2
  have HH := Aside0.mk hh
  have HT := Aside0.mk hT
  have HG := Aside0.mk hgood
  have HWK := Aside0.mk (wakes_calls s0 hwp hwr)
  have HB := Aside0.mk (Below.refl w.heap.size w)
  clear hr0 hr1 hr2 hh hT hgood hwp hwr
  go_enter Tryd.func5, Tryd.ntmps5
  cases hv with
  | true =>
    go_wp2_with (first | ((with_reducible refine gate_dst (N := 1) rfl ?_); refine box_event ?hg (N := 1) ?hd (cs := #[.slice A0 l0.length c0, .slice A1 l1.length c1, .slice A2 l2.length c2]) (t := 28) ?hr ?_; (case hd => rfl); (case hg => rfl); (case hr => first | (go_simp; done) | (go_simp; rfl)); intro gb hg w2 hbox hb; have n0_ := Aside0.mk (below_step (by (repeat (first | (with_reducible first | exact HB.out | apply below_alloc | apply pw_below_drewN | apply below_drew1) | exact HB.out))) hb); have n1_ := Aside0.mk (hbox); have n2_ := Aside0.mk ((by rw [hg]; exact (below_size (by (repeat (first | (with_reducible first | exact HB.out | apply below_alloc | apply pw_below_drewN | apply below_drew1) | exact HB.out))))) : w.heap.size ≤ gb); clear HB; have HB := n0_; have BKgb := n1_; have GEgb := n2_; clear n0_ n1_ n2_; clear hb hbox hg; have hcz0 : w2.cell? ⟨gb, 0, none⟩ = some (.slice A0 l0.length c0) := (blk_cell BKgb.out 0).trans rfl; have hfz0 := blk_frozen BKgb.out 0; have hcz1 : w2.cell? ⟨gb, 1, none⟩ = some (.slice A1 l1.length c1) := (blk_cell BKgb.out 1).trans rfl; have hfz1 := blk_frozen BKgb.out 1; have hcz2 : w2.cell? ⟨gb, 2, none⟩ = some (.slice A2 l2.length c2) := (blk_cell BKgb.out 2).trans rfl; have hfz2 := blk_frozen BKgb.out 2) | (go_at_call 7; refine (amanuensislaw4_Heavy.calls kh A0 c0 l0 A1 c1 l1 A2 c2 l2 _ _ (Kd.C_below H0.out (by repeat (first | (with_reducible first | exact HB.out | apply below_alloc | apply pw_below_drewN | apply below_drew1) | exact HB.out))) h0c (Kd.C_below H1.out (by repeat (first | (with_reducible first | exact HB.out | apply below_alloc | apply pw_below_drewN | apply below_drew1) | exact HB.out))) h1c (Kd.C_below H2.out (by repeat (first | (with_reducible first | exact HB.out | apply below_alloc | apply pw_below_drewN | apply below_drew1) | exact HB.out))) h2c HH.out).mono ?_; rintro e wq ⟨rfl, hb2⟩; have n0_ := Aside0.mk (blk_below (g := gb) (o := .cells #[.slice A0 l0.length c0, .slice A1 l1.length c1, .slice A2 l2.length c2] 28 (0, 0)) (by (with_reducible repeat (first | refine blk_drewN ?_ _ | refine blk_drew ?_ | refine blk_alloc ?_ _)); exact BKgb.out) hb2); have n1_ := Aside0.mk (below_step (by repeat (first | (with_reducible first | exact HB.out | apply below_alloc | apply pw_below_drewN | apply below_drew1) | exact HB.out)) hb2); clear BKgb HB; have BKgb := n0_; have HB := n1_; clear n0_ n1_; (try clear hcz2 hfz2); have hcz2 : wq.cell? ⟨gb, 2, none⟩ = some (.slice A2 l2.length c2) := (blk_cell BKgb.out 2).trans rfl; have hfz2 := blk_frozen BKgb.out 2))
    go_ret
    exact ⟨rfl, (by repeat (first | (with_reducible first | exact HB.out | apply below_alloc | apply pw_below_drewN | apply below_drew1) | exact HB.out))⟩
  | false =>
    go_wp2_with (first | ((with_reducible refine gate_dst (N := 1) rfl ?_); refine box_event ?hg (N := 1) ?hd (cs := #[.slice A0 l0.length c0, .slice A1 l1.length c1, .slice A2 l2.length c2]) (t := 28) ?hr ?_; (case hd => rfl); (case hg => rfl); (case hr => first | (go_simp; done) | (go_simp; rfl)); intro gb hg w2 hbox hb; have n0_ := Aside0.mk (below_step (by (repeat (first | (with_reducible first | exact HB.out | apply below_alloc | apply pw_below_drewN | apply below_drew1) | exact HB.out))) hb); have n1_ := Aside0.mk (hbox); have n2_ := Aside0.mk ((by rw [hg]; exact (below_size (by (repeat (first | (with_reducible first | exact HB.out | apply below_alloc | apply pw_below_drewN | apply below_drew1) | exact HB.out))))) : w.heap.size ≤ gb); clear HB; have HB := n0_; have BKgb := n1_; have GEgb := n2_; clear n0_ n1_ n2_; clear hb hbox hg; have hcz0 : w2.cell? ⟨gb, 0, none⟩ = some (.slice A0 l0.length c0) := (blk_cell BKgb.out 0).trans rfl; have hfz0 := blk_frozen BKgb.out 0; have hcz1 : w2.cell? ⟨gb, 1, none⟩ = some (.slice A1 l1.length c1) := (blk_cell BKgb.out 1).trans rfl; have hfz1 := blk_frozen BKgb.out 1; have hcz2 : w2.cell? ⟨gb, 2, none⟩ = some (.slice A2 l2.length c2) := (blk_cell BKgb.out 2).trans rfl; have hfz2 := blk_frozen BKgb.out 2) | (go_at_call 7; refine (amanuensislaw4_Heavy.calls kh A0 c0 l0 A1 c1 l1 A2 c2 l2 _ _ (Kd.C_below H0.out (by repeat (first | (with_reducible first | exact HB.out | apply below_alloc | apply pw_below_drewN | apply below_drew1) | exact HB.out))) h0c (Kd.C_below H1.out (by repeat (first | (with_reducible first | exact HB.out | apply below_alloc | apply pw_below_drewN | apply below_drew1) | exact HB.out))) h1c (Kd.C_below H2.out (by repeat (first | (with_reducible first | exact HB.out | apply below_alloc | apply pw_below_drewN | apply below_drew1) | exact HB.out))) h2c HH.out).mono ?_; rintro e wq ⟨rfl, hb2⟩; have n0_ := Aside0.mk (blk_below (g := gb) (o := .cells #[.slice A0 l0.length c0, .slice A1 l1.length c1, .slice A2 l2.length c2] 28 (0, 0)) (by (with_reducible repeat (first | refine blk_drewN ?_ _ | refine blk_drew ?_ | refine blk_alloc ?_ _)); exact BKgb.out) hb2); have n1_ := Aside0.mk (below_step (by repeat (first | (with_reducible first | exact HB.out | apply below_alloc | apply pw_below_drewN | apply below_drew1) | exact HB.out)) hb2); clear BKgb HB; have BKgb := n0_; have HB := n1_; clear n0_ n1_; (try clear hcz2 hfz2); have hcz2 : wq.cell? ⟨gb, 2, none⟩ = some (.slice A2 l2.length c2) := (blk_cell BKgb.out 2).trans rfl; have hfz2 := blk_frozen BKgb.out 2))
    go_loopg [3] l2.length (fun kq v3 w' => ∃ i : Nat, v3 = .int .i64 i ∧ i ≤ l2.length ∧ i + kq = l2.length ∧ Aside0 (w'.heap[gb]? = some (.cells #[.slice A0 l0.length c0, .slice A1 l1.length c1, .slice A2 l2.length c2] 28 (0, 0))) ∧ Aside0 (Below w.heap.size w w'))
    case atStart => exact ⟨0, rfl, by omega, by omega, ⟨(by (with_reducible repeat (first | refine blk_drewN ?_ _ | refine blk_drew ?_ | refine blk_alloc ?_ _)); exact BKgb.out)⟩, ⟨(by repeat (first | (with_reducible first | exact HB.out | apply below_alloc | apply pw_below_drewN | apply below_drew1) | exact HB.out))⟩⟩
    case round =>
      clear HB BKgb
      (try clear hcz0 hcz1 hcz2 hfz0 hfz1 hfz2)
      obtain ⟨i, rfl, hi, hk, BKgb, HB⟩ := hrel
      by_cases hil : i < l2.length
      · have c1_ : decide ((i : Int) < (l2.length : Int)) = true := decide_eq_true (by omega)
        by_cases hi6 : i < 6
        · have c2_ : decide ((i : Int) < 6) = true := decide_eq_true (by omega)
          obtain ⟨k1, rfl⟩ : ∃ k1, gk = k1 + 1 := ⟨gk - 1, by omega⟩
          have HGL := Aside0.mk (HG.out trivial i hil)
          obtain ⟨ad, Ai, ci, e, hx0, hci, hci2⟩ := at_L3 H2.out (i : Int) (by omega) (by omega)
          cases e
          rw [Int.toNat_natCast] at hx0
          have HX := Aside0.mk hx0
          have HCI := Aside0.mk hci2
          clear hx0 hci2
          generalize rd_L3 l2 i = l at HGL HX HCI hci
          have p1 := eq_true (show (0 : Int) ≤ (i : Int) by omega)
          have p2 := eq_true (show (i : Int) < (l2.length : Int) by omega)
          have p3 := eq_true hil
          have hcz2 : wr.cell? ⟨gb, 2, none⟩ = some (.slice (some ad) l2.length c2) := (blk_cell BKgb.out 2).trans rfl; have hfz2 := blk_frozen BKgb.out 2
          have hx := pw_cell_below HB.out HX.out
          rcases HGL.out with hp | ⟨hl1, hl8, s, hp, hrd, hbar⟩
          · have HPR := Aside0.mk hp
            clear HGL hp
            go_wp2_with (first | (go_at_call 18; refine (HPR.out Ai ci _ hci (Kd.C_below HCI.out (by repeat (first | (with_reducible first | exact HB.out | apply below_alloc | apply pw_below_drewN | apply below_drew1) | exact HB.out)))).mono ?_; rintro e wq3 ⟨rfl, hb2⟩; have n0_ := Aside0.mk (blk_below (g := gb) (o := .cells #[.slice A0 l0.length c0, .slice A1 l1.length c1, .slice (some ad) l2.length c2] 28 (0, 0)) (by (with_reducible repeat (first | refine blk_drewN ?_ _ | refine blk_drew ?_ | refine blk_alloc ?_ _)); exact BKgb.out) hb2); have n1_ := Aside0.mk (below_step (by repeat (first | (with_reducible first | exact HB.out | apply below_alloc | apply pw_below_drewN | apply below_drew1) | exact HB.out)) hb2); clear BKgb HB; have BKgb := n0_; have HB := n1_; clear n0_ n1_; (try clear hcz2 hfz2); have hcz2 : wq3.cell? ⟨gb, 2, none⟩ = some (.slice (some ad) l2.length c2) := (blk_cell BKgb.out 2).trans rfl; have hfz2 := blk_frozen BKgb.out 2; (try clear hx); have hx := pw_cell_below HB.out HX.out) | (go_at_call 13; refine (HRD.out _ (Lib_tab HT.out (by repeat (first | (with_reducible first | exact HB.out | apply below_alloc | apply pw_below_drewN | apply below_drew1) | exact HB.out)))).mono ?_; rintro e wq4 ⟨v6, rfl, hR6, hb2⟩; obtain ⟨A6, c6, rfl, hc6, hC6⟩ := Kd.R_reads hR6; have HC6 := Aside0.mk hC6; clear hC6 hR6; have n0_ := Aside0.mk (blk_below (g := gb) (o := .cells #[.slice A0 l0.length c0, .slice A1 l1.length c1, .slice (some ad) l2.length c2] 28 (0, 0)) (by (with_reducible repeat (first | refine blk_drewN ?_ _ | refine blk_drew ?_ | refine blk_alloc ?_ _)); exact BKgb.out) hb2); have n1_ := Aside0.mk (below_step (by repeat (first | (with_reducible first | exact HB.out | apply below_alloc | apply pw_below_drewN | apply below_drew1) | exact HB.out)) hb2); clear BKgb HB; have BKgb := n0_; have HB := n1_; clear n0_ n1_; (try clear hcz2 hfz2); have hcz2 : wq4.cell? ⟨gb, 2, none⟩ = some (.slice (some ad) l2.length c2) := (blk_cell BKgb.out 2).trans rfl; have hfz2 := blk_frozen BKgb.out 2; (try clear hx); have hx := pw_cell_below HB.out HX.out) | (go_at_call 15; (with_reducible refine (amanuensislaw4_num.calls _ _ _ rfl).mono ?_); rintro e wq ⟨rfl, ⟨nd, rfl⟩⟩) | (go_at_call 16; refine (amanuensisref0_EqFields.calls _ A6 c6 l Ai ci l true _ (Kd.C_below HC6.out (by repeat (first | exact Below.refl _ _ | apply below_alloc | apply pw_below_drewN))) hc6 (Kd.C_below HCI.out (by repeat (first | (with_reducible first | exact HB.out | apply below_alloc | apply pw_below_drewN | apply below_drew1) | exact HB.out))) hci HEQ.out).mono ?_; rintro e wq9 ⟨rfl, hd9⟩; have hb2 := below_drawn hd9; have n3_ := Aside0.mk (Kd.C_below (Kd.C_below HC6.out (by repeat (first | exact Below.refl _ _ | apply below_alloc | apply pw_below_drewN))) hb2); clear HC6; have HC6 := n3_; clear n3_; have n0_ := Aside0.mk (blk_below (g := gb) (o := .cells #[.slice A0 l0.length c0, .slice A1 l1.length c1, .slice (some ad) l2.length c2] 28 (0, 0)) (by (with_reducible repeat (first | refine blk_drewN ?_ _ | refine blk_drew ?_ | refine blk_alloc ?_ _)); exact BKgb.out) hb2); have n1_ := Aside0.mk (below_step (by repeat (first | (with_reducible first | exact HB.out | apply below_alloc | apply pw_below_drewN | apply below_drew1) | exact HB.out)) hb2); clear BKgb HB; have BKgb := n0_; have HB := n1_; clear n0_ n1_; (try clear hcz2 hfz2); have hcz2 : wq9.cell? ⟨gb, 2, none⟩ = some (.slice (some ad) l2.length c2) := (blk_cell BKgb.out 2).trans rfl; have hfz2 := blk_frozen BKgb.out 2; (try clear hx); have hx := pw_cell_below HB.out HX.out; clear hd9))
            go_roundg k1
            case measure => omega
            case rel => exact ⟨i + 1, by first | rfl | (simp only [Int.natCast_add]; done) | (simp only [Int.natCast_add]; rfl), by omega, by omega, ⟨(by (with_reducible repeat (first | refine blk_drewN ?_ _ | refine blk_drew ?_ | refine blk_alloc ?_ _)); exact BKgb.out)⟩, ⟨(by repeat (first | (with_reducible first | exact HB.out | apply below_alloc | apply pw_below_drewN | apply below_drew1) | exact HB.out))⟩⟩
          · have HPR := Aside0.mk hp
            have HRD := Aside0.mk hrd
            have HBR := Aside0.mk hbar
            obtain ⟨ke, he⟩ := eq_same l (by omega)
            have HEQ := Aside0.mk he
            obtain ⟨kc, hcp⟩ := copy_all l (by omega)
            have HCP := Aside0.mk hcp
            have hz : ((l.length : Int) == 0) = false := by rw [beq_eq_false_iff_ne]; omega
            clear HGL hp hrd hbar he hcp
            by_cases hl7 : l.length < 8
            · have c3_ : decide ((l.length : Int) < 8) = true := decide_eq_true (by omega)
              have HBAR : Aside0 (∀ A c w, (l ++ [rd_T54 l 0]).length ≤ c → Kd.C k54 w A (l ++ [rd_T54 l 0]).length (l ++ [rd_T54 l 0]) → Calls Tryd.prog 19 #[.slice A (l ++ [rd_T54 l 0]).length c] w fun e w' => e = .returned (.int .i64 1) ∧ Below w.heap.size w w') := ⟨HBR.out hl7⟩
              clear HBR
              go_wp2_with (first | (go_at_call 18; refine (HPR.out Ai ci _ hci (Kd.C_below HCI.out (by repeat (first | (with_reducible first | exact HB.out | apply below_alloc | apply pw_below_drewN | apply below_drew1) | exact HB.out)))).mono ?_; rintro e wq3 ⟨rfl, hb2⟩; have n0_ := Aside0.mk (blk_below (g := gb) (o := .cells #[.slice A0 l0.length c0, .slice A1 l1.length c1, .slice (some ad) l2.length c2] 28 (0, 0)) (by (with_reducible repeat (first | refine blk_drewN ?_ _ | refine blk_drew ?_ | refine blk_alloc ?_ _)); exact BKgb.out) hb2); have n1_ := Aside0.mk (below_step (by repeat (first | (with_reducible first | exact HB.out | apply below_alloc | apply pw_below_drewN | apply below_drew1) | exact HB.out)) hb2); clear BKgb HB; have BKgb := n0_; have HB := n1_; clear n0_ n1_; (try clear hcz2 hfz2); have hcz2 : wq3.cell? ⟨gb, 2, none⟩ = some (.slice (some ad) l2.length c2) := (blk_cell BKgb.out 2).trans rfl; have hfz2 := blk_frozen BKgb.out 2; (try clear hx); have hx := pw_cell_below HB.out HX.out) | (go_at_call 13; refine (HRD.out _ (Lib_tab HT.out (by repeat (first | (with_reducible first | exact HB.out | apply below_alloc | apply pw_below_drewN | apply below_drew1) | exact HB.out)))).mono ?_; rintro e wq4 ⟨v6, rfl, hR6, hb2⟩; obtain ⟨A6, c6, rfl, hc6, hC6⟩ := Kd.R_reads hR6; have HC6 := Aside0.mk hC6; clear hC6 hR6; have n0_ := Aside0.mk (blk_below (g := gb) (o := .cells #[.slice A0 l0.length c0, .slice A1 l1.length c1, .slice (some ad) l2.length c2] 28 (0, 0)) (by (with_reducible repeat (first | refine blk_drewN ?_ _ | refine blk_drew ?_ | refine blk_alloc ?_ _)); exact BKgb.out) hb2); have n1_ := Aside0.mk (below_step (by repeat (first | (with_reducible first | exact HB.out | apply below_alloc | apply pw_below_drewN | apply below_drew1) | exact HB.out)) hb2); clear BKgb HB; have BKgb := n0_; have HB := n1_; clear n0_ n1_; (try clear hcz2 hfz2); have hcz2 : wq4.cell? ⟨gb, 2, none⟩ = some (.slice (some ad) l2.length c2) := (blk_cell BKgb.out 2).trans rfl; have hfz2 := blk_frozen BKgb.out 2; (try clear hx); have hx := pw_cell_below HB.out HX.out) | (go_at_call 15; (with_reducible refine (amanuensislaw4_num.calls _ _ _ rfl).mono ?_); rintro e wq ⟨rfl, ⟨nd, rfl⟩⟩) | (go_at_call 16; refine (amanuensisref0_EqFields.calls _ A6 c6 l Ai ci l true _ (Kd.C_below HC6.out (by repeat (first | exact Below.refl _ _ | apply below_alloc | apply pw_below_drewN))) hc6 (Kd.C_below HCI.out (by repeat (first | (with_reducible first | exact HB.out | apply below_alloc | apply pw_below_drewN | apply below_drew1) | exact HB.out))) hci HEQ.out).mono ?_; rintro e wq9 ⟨rfl, hd9⟩; have hb2 := below_drawn hd9; have n3_ := Aside0.mk (Kd.C_below (Kd.C_below HC6.out (by repeat (first | exact Below.refl _ _ | apply below_alloc | apply pw_below_drewN))) hb2); clear HC6; have HC6 := n3_; clear n3_; have n0_ := Aside0.mk (blk_below (g := gb) (o := .cells #[.slice A0 l0.length c0, .slice A1 l1.length c1, .slice (some ad) l2.length c2] 28 (0, 0)) (by (with_reducible repeat (first | refine blk_drewN ?_ _ | refine blk_drew ?_ | refine blk_alloc ?_ _)); exact BKgb.out) hb2); have n1_ := Aside0.mk (below_step (by repeat (first | (with_reducible first | exact HB.out | apply below_alloc | apply pw_below_drewN | apply below_drew1) | exact HB.out)) hb2); clear BKgb HB; have BKgb := n0_; have HB := n1_; clear n0_ n1_; (try clear hcz2 hfz2); have hcz2 : wq9.cell? ⟨gb, 2, none⟩ = some (.slice (some ad) l2.length c2) := (blk_cell BKgb.out 2).trans rfl; have hfz2 := blk_frozen BKgb.out 2; (try clear hx); have hx := pw_cell_below HB.out HX.out; clear hd9))
              obtain ⟨a6, ea6, hx0_, hx1_, hx2_, hx3_⟩ := at_T54 HC6.out 0 (by omega) (by omega)
              cases ea6
              generalize rd_T54 l 0 = x at hx0_ hx1_ hx2_ hx3_ HBAR
              simp only [show ((0 : Int)).toNat = 0 from rfl, show 0 * 4 = 0 from rfl, Addr.add_zero'] at hx0_ hx1_ hx2_ hx3_
              have hb5 : Below wq9.heap.size wq9 wq9.drew := below_drew1 (Below.refl _ _)
              have HB65 := Aside0.mk hb5
              have HB5 := Aside0.mk (Below.refl wq9.drew.heap.size wq9.drew)
              have BK5 : Aside0 (wq9.drew.heap[gb]? = some (.cells #[.slice A0 l0.length c0, .slice A1 l1.length c1, .slice (some ad) l2.length c2] 28 (0, 0))) := ⟨blk_drew BKgb.out⟩
              have HBW := Aside0.mk (below_step HB.out hb5)
              have hs0 := pw_cell_below hb5 hx0_
              have hs1 := pw_cell_below hb5 hx1_
              have hs2 := pw_cell_below hb5 hx2_
              have hs3 := pw_cell_below hb5 hx3_
              clear hb5 hx0_ hx1_ hx2_ hx3_ BKgb HB hcz2 hfz2 hx
              have q0 : ((0 : Int) < (l.length : Int)) = True := eq_true (by omega)
              have q1 : (0 < l.length) = True := eq_true (by omega)
              refine start_ (n := 15) (S := fun w' => w'.cell? a6 = some (.string x.f0) ∧ w'.cell? (⟨a6.block, a6.off + 1, none⟩ : Addr) = some (.int .i64 x.f1) ∧ w'.cell? (⟨a6.block, a6.off + 2, none⟩ : Addr) = some (.string x.f2) ∧ w'.cell? (⟨a6.block, a6.off + 3, none⟩ : Addr) = some (.string x.f3)) (ds := []) #[false, false, false, false, false, false, false, false, false, false, false, false, false, false, false] (by kernel_rfl) rfl rfl ⟨pw_cell_below HB5.out hs0, pw_cell_below HB5.out hs1, pw_cell_below HB5.out hs2, pw_cell_below HB5.out hs3⟩ (fun hHeld => ?_)
              generalize wq9.drew = w5 at HB65 HB5 BK5 HBW hs0 hs1 hs2 hs3 hHeld ⊢
              refine pure_ (i := 0) (N := some 56) (v := ?_) (a' := ?_) #[true, false, false, false, false, false, false, false, false, false, false, false, false, false, false] rfl rfl (by kernel_rfl) (fun _ _ _ h => h) (Or.inl ⟨by rfl, ?_⟩) ?_ ?_
              rotate_left
              · intro w'
                go_simp
                with_reducible rfl
              rotate_left
              · simp only [Act.put, List.setIfInBounds_toArray, List.set_cons_zero, List.set_cons_succ, i64_w, i32_w]
                rfl
              refine pure_ (i := 1) (N := some 57) (v := ?_) (a' := ?_) #[true, true, false, false, false, false, false, false, false, false, false, false, false, false, false] rfl rfl (by kernel_rfl) (fun _ _ _ h => h) (Or.inl ⟨by rfl, ?_⟩) ?_ ?_
              rotate_left
              · intro w'
                go_simp
                with_reducible rfl
              rotate_left
              · simp only [Act.put, List.setIfInBounds_toArray, List.set_cons_zero, List.set_cons_succ, i64_w, i32_w]
                rfl
              refine pure_ (i := 2) (N := some 58) (v := ?_) (a' := ?_) #[true, true, true, false, false, false, false, false, false, false, false, false, false, false, false] rfl rfl (by kernel_rfl) (fun _ _ _ h => h) (Or.inl ⟨by rfl, ?_⟩) ?_ ?_
              rotate_left
              · intro w'
                go_simp
                with_reducible rfl
              rotate_left
              · simp only [Act.put, List.setIfInBounds_toArray, List.set_cons_zero, List.set_cons_succ, i64_w, i32_w]
                rfl
              refine pure_ (i := 3) (N := some 59) (v := ?_) (a' := ?_) #[true, true, true, true, false, false, false, false, false, false, false, false, false, false, false] rfl rfl (by kernel_rfl) (fun _ _ _ h => h) (Or.inl ⟨by rfl, ?_⟩) ?_ ?_
              rotate_left
              · intro w'
                go_simp
                with_reducible rfl
              rotate_left
              · simp only [Act.put, List.setIfInBounds_toArray, List.set_cons_zero, List.set_cons_succ, i64_w, i32_w]
                rfl
              refine pure_ (i := 4) (N := some 60) (v := ?_) (a' := ?_) #[true, true, true, true, true, false, false, false, false, false, false, false, false, false, false] rfl rfl (by kernel_rfl) (fun _ _ _ h => h) (Or.inl ⟨by rfl, ?_⟩) ?_ ?_
              rotate_left
              · intro w'
                go_simp
                with_reducible rfl
              rotate_left
              · simp only [Act.put, List.setIfInBounds_toArray, List.set_cons_zero, List.set_cons_succ, i64_w, i32_w]
                rfl
              refine pure_ (i := 6) (N := some 62) (v := ?_) (a' := ?_) #[true, true, true, true, true, false, true, false, false, false, false, false, false, false, false] rfl rfl (by kernel_rfl) (fun _ _ _ h => h) (Or.inl ⟨by rfl, ?_⟩) ?_ ?_
              rotate_left
              · intro w'
                go_simp
                with_reducible rfl
              rotate_left
              · simp only [Act.put, List.setIfInBounds_toArray, List.set_cons_zero, List.set_cons_succ, i64_w, i32_w]
                rfl
              refine pure_ (i := 7) (N := some 63) (v := ?_) (a' := ?_) #[true, true, true, true, true, false, true, true, false, false, false, false, false, false, false] rfl rfl (by kernel_rfl) (fun _ _ _ h => h) (Or.inl ⟨by rfl, ?_⟩) ?_ ?_
              rotate_left
              · intro w'
                go_simp
                with_reducible rfl
              rotate_left
              · simp only [Act.put, List.setIfInBounds_toArray, List.set_cons_zero, List.set_cons_succ, i64_w, i32_w]
                rfl
              refine take_ (i := 8) (N := some 64) (v := ?_) (a' := ?_) #[true, true, true, true, true, false, true, true, true, false, false, false, false, false, false] rfl rfl (by kernel_rfl) (fun _ _ _ h => h) (Or.inl ⟨by rfl, ?_⟩) hHeld ?_ ?_
              rotate_left
              · rintro w' ⟨s0, s1, s2, s3⟩
                go_simp
                with_reducible rfl
              rotate_left
              · simp only [Act.put, List.setIfInBounds_toArray, List.set_cons_zero, List.set_cons_succ, i64_w, i32_w]
                rfl
              refine two_ (i := 5) (j := 9) (Ni := some 61) (Nj := some 65) #[true, true, true, true, true, true, true, true, true, false, false, false, false, false, false] #[true, true, true, true, true, false, true, true, true, true, false, false, false, false, false] rfl rfl rfl rfl (by kernel_rfl) (by decide) (by decide) (fun K hK => ?_) (fun K hK => ?_)
              · refine goes_ Tryd.func20 (by kernel_rfl) rfl #[.slice (some a6) l.length c6] (by rfl) rfl rfl (by simp only [List.map_toArray, List.map_cons, List.map_nil]; rfl) ?_
                with_reducible refine (amanuensisref0_CopyFields.calls kc (some a6) c6 l l _ (Kd.C_below HC6.out (below_step HB65.out HB5.out)) hc6 HCP.out).mono ?_
                rintro e wq6 ⟨v61, rfl, ho0, hb2⟩
                refine ⟨_, rfl, ?_⟩
                have HO := Aside0.mk (Kd.R_lower ho0 (below_size HB5.out))
                have n0_ := Aside0.mk (below_step HB5.out hb2)
                clear HB5
                have HB5 := n0_
                clear n0_
                clear ho0 hb2
                refine hK.out _ _ ⟨pw_cell_below HB5.out hs0, pw_cell_below HB5.out hs1, pw_cell_below HB5.out hs2, pw_cell_below HB5.out hs3⟩ (fun hHeld => ?_)
                clear hK K
                refine norm_ (a' := ?_) ?_ ?_
                rotate_left
                · show Act.put _ (some 61) _ = _
                  simp only [Act.put, List.setIfInBounds_toArray, List.set_cons_zero, List.set_cons_succ, i64_w, i32_w]
                  rfl
                refine one_ (i := 9) (N := some 65) #[true, true, true, true, true, true, true, true, true, true, false, false, false, false, false] rfl rfl (by kernel_rfl) (by decide) (fun K hK => ?_)
                refine Kd.R_lit_step k54 _ 54 ?hg (N := 65) ?hd (xs := ([x] : List S54)) (inner := [.string x.f0, .int .i64 x.f1, .string x.f2, .string x.f3]) (ok := fun _ => True) (okp := fun _ => False) ?hr ?hp (fun _ hk => hk.elim) ?hf (Below.refl _ _) (Nat.le_refl _) (by simp) ?_; (case hd => rfl); (case hg => rfl); (case hr => first | (go_simp; done) | (go_simp; rfl)); (case hp => exact (Reps.c4 (k54_mkM _ _ _ x) (Reps.none _ _))); (case hf => trivial)
                intro v65 w8 ho1 hb2 hg_ hnew_
                obtain ⟨A65, c65, rfl, hc65, hC65⟩ := Kd.R_reads ho1
                have HC65 := Aside0.mk hC65
                have n0_ := Aside0.mk (below_step HB5.out hb2)
                clear HB5
                have HB5 := n0_
                clear n0_
                have n0_ := Aside0.mk (Kd.R_below HO.out hb2)
                clear HO
                have HO := n0_
                clear n0_
                clear ho1 hC65 hb2 hg_ hnew_
                refine hK.out _ _ ⟨pw_cell_below HB5.out hs0, pw_cell_below HB5.out hs1, pw_cell_below HB5.out hs2, pw_cell_below HB5.out hs3⟩ (fun hHeld => ?_)
                clear hK K
                refine norm_ (a' := ?_) ?_ ?_
                rotate_left
                · show Act.put _ (some 65) _ = _
                  simp only [Act.put, List.setIfInBounds_toArray, List.set_cons_zero, List.set_cons_succ, i64_w, i32_w]
                  rfl
                refine one_ (i := 10) (N := some 66) #[true, true, true, true, true, true, true, true, true, true, true, false, false, false, false] rfl rfl (by kernel_rfl) (by decide) (fun K hK => ?_)
                refine Kd.R_append_rows_step k54 (w0 := w5) w5.heap.size (by rfl) (.tmp 61) (.tmp 65) 32 54 (.agg #[.string ⟨#[]⟩, .int .i64 0, .string ⟨#[]⟩, .string ⟨#[]⟩]) 56 rfl Tryd.underlying32 info54 rfl (by decide) (by omega) v61 l ([x] : List S54) A65 1 c65 (fun _ => True) (fun _ => False) rfl rfl HO.out HC65.out (fun y cs h_ => by rw [k54_open h_]; exact k54_mkM _ _ _ y) (fun _ hk => hk.elim) (fun _ _ => trivial) HB5.out (below_size HB5.out) (by omega) ?_
                intro v66 w9 ho2 hb3 hg2_ hat2_
                obtain ⟨A66, c66, rfl, hc66, hC66⟩ := Kd.R_reads ho2
                have HC66 := Aside0.mk hC66
                clear HB5
                have HB5 := Aside0.mk hb3
                clear ho2 hC66 hb3 hg2_ hat2_ HO HC65
                refine hK.out _ _ ⟨pw_cell_below HB5.out hs0, pw_cell_below HB5.out hs1, pw_cell_below HB5.out hs2, pw_cell_below HB5.out hs3⟩ (fun hHeld => ?_)
                clear hK K
                refine norm_ (a' := ?_) ?_ ?_
                rotate_left
                · show Act.put _ (some 66) _ = _
                  simp only [Act.put, List.setIfInBounds_toArray, List.set_cons_zero, List.set_cons_succ, i64_w, i32_w]
                  rfl
                refine one_ (i := 11) (N := some 67) #[true, true, true, true, true, true, true, true, true, true, true, true, false, false, false] rfl rfl (by kernel_rfl) (by decide) (fun K hK => ?_)
                refine goes_ Tryd.func19 (by kernel_rfl) rfl #[.slice A66 (l ++ [x]).length c66] (by rfl) rfl rfl (by simp only [List.map_toArray, List.map_cons, List.map_nil]; rfl) ?_
                with_reducible refine (HBAR.out A66 c66 _ hc66 HC66.out).mono ?_
                rintro e wq7 ⟨rfl, hb2⟩
                refine ⟨_, rfl, ?_⟩
                have n0_ := Aside0.mk (below_step HB5.out hb2)
                clear HB5
                have HB5 := n0_
                clear n0_
                clear hb2
                refine hK.out _ _ ⟨pw_cell_below HB5.out hs0, pw_cell_below HB5.out hs1, pw_cell_below HB5.out hs2, pw_cell_below HB5.out hs3⟩ (fun hHeld => ?_)
                clear hK K
                refine norm_ (a' := ?_) ?_ ?_
                rotate_left
                · show Act.put _ (some 67) _ = _
                  simp only [Act.put, List.setIfInBounds_toArray, List.set_cons_zero, List.set_cons_succ, i64_w, i32_w]
                  rfl
                refine one_ (i := 12) (N := some 68) #[true, true, true, true, true, true, true, true, true, true, true, true, true, false, false] rfl rfl (by kernel_rfl) (by decide) (fun K hK => ?_)
                refine goes_ Tryd.func15 (by kernel_rfl) rfl #[.int .i64 1] (by rfl) rfl rfl (by simp only [List.map_toArray, List.map_cons, List.map_nil]; rfl) ?_
                with_reducible refine (amanuensislaw4_num.calls 1 1 _ rfl).mono ?_
                rintro e wq8 ⟨rfl, hd8⟩
                refine ⟨_, rfl, ?_⟩
                have hb2 := below_drawn hd8
                have n0_ := Aside0.mk (below_step HB5.out hb2)
                clear HB5
                have HB5 := n0_
                clear n0_
                clear hb2 hd8
                refine hK.out _ _ ⟨pw_cell_below HB5.out hs0, pw_cell_below HB5.out hs1, pw_cell_below HB5.out hs2, pw_cell_below HB5.out hs3⟩ (fun hHeld => ?_)
                clear hK K
                refine norm_ (a' := ?_) ?_ ?_
                rotate_left
                · show Act.put _ (some 68) _ = _
                  simp only [Act.put, List.setIfInBounds_toArray, List.set_cons_zero, List.set_cons_succ, i64_w, i32_w]
                  rfl
                refine pure_ (i := 13) (N := some 69) (v := ?_) (a' := ?_) #[true, true, true, true, true, true, true, true, true, true, true, true, true, true, false] rfl rfl (by kernel_rfl) (fun _ _ _ h => h) (Or.inl ⟨by rfl, ?_⟩) ?_ ?_
                rotate_left
                · intro w'
                  go_simp
                  with_reducible rfl
                rotate_left
                · simp only [Act.put, List.setIfInBounds_toArray, List.set_cons_zero, List.set_cons_succ, i64_w, i32_w]
                  rfl
                refine pure_ (i := 14) (N := some 70) (v := ?_) (a' := ?_) #[true, true, true, true, true, true, true, true, true, true, true, true, true, true, true] rfl rfl (by kernel_rfl) (fun _ _ _ h => h) (Or.inl ⟨by rfl, ?_⟩) ?_ ?_
                rotate_left
                · intro w'
                  go_simp
                  with_reducible rfl
                rotate_left
                · simp only [Act.put, List.setIfInBounds_toArray, List.set_cons_zero, List.set_cons_succ, i64_w, i32_w]
                  rfl
                refine done_ (by kernel_rfl) ?_
                go_wp2
                have n0_ := Aside0.mk (blk_below (g := gb) (o := .cells #[.slice A0 l0.length c0, .slice A1 l1.length c1, .slice (some ad) l2.length c2] 28 (0, 0)) BK5.out HB5.out)
                have n1_ := Aside0.mk (below_step HBW.out HB5.out)
                clear HB5
                have BKgb := n0_
                have HB := n1_
                clear n0_ n1_
                go_roundg k1
                case measure => omega
                case rel => exact ⟨i + 1, by first | rfl | (simp only [Int.natCast_add]; done) | (simp only [Int.natCast_add]; rfl), by omega, by omega, ⟨(by (with_reducible repeat (first | refine blk_drewN ?_ _ | refine blk_drew ?_ | refine blk_alloc ?_ _)); exact BKgb.out)⟩, ⟨(by repeat (first | (with_reducible first | exact HB.out | apply below_alloc | apply pw_below_drewN | apply below_drew1) | exact HB.out))⟩⟩
              · refine Kd.R_lit_step k54 _ 54 ?hg (N := 65) ?hd (xs := ([x] : List S54)) (inner := [.string x.f0, .int .i64 x.f1, .string x.f2, .string x.f3]) (ok := fun _ => True) (okp := fun _ => False) ?hr ?hp (fun _ hk => hk.elim) ?hf (Below.refl _ _) (Nat.le_refl _) (by simp) ?_; (case hd => rfl); (case hg => rfl); (case hr => first | (go_simp; done) | (go_simp; rfl)); (case hp => exact (Reps.c4 (k54_mkM _ _ _ x) (Reps.none _ _))); (case hf => trivial)
                intro v65 w8 ho1 hb2 hg_ hnew_
                obtain ⟨A65, c65, rfl, hc65, hC65⟩ := Kd.R_reads ho1
                have HC65 := Aside0.mk hC65
                have n0_ := Aside0.mk (below_step HB5.out hb2)
                clear HB5
                have HB5 := n0_
                clear n0_
                clear ho1 hC65 hb2 hg_ hnew_
                refine hK.out _ _ ⟨pw_cell_below HB5.out hs0, pw_cell_below HB5.out hs1, pw_cell_below HB5.out hs2, pw_cell_below HB5.out hs3⟩ (fun hHeld => ?_)
                clear hK K
                refine norm_ (a' := ?_) ?_ ?_
                rotate_left
                · show Act.put _ (some 65) _ = _
                  simp only [Act.put, List.setIfInBounds_toArray, List.set_cons_zero, List.set_cons_succ, i64_w, i32_w]
                  rfl
                refine one_ (i := 5) (N := some 61) #[true, true, true, true, true, true, true, true, true, true, false, false, false, false, false] rfl rfl (by kernel_rfl) (by decide) (fun K hK => ?_)
                refine goes_ Tryd.func20 (by kernel_rfl) rfl #[.slice (some a6) l.length c6] (by rfl) rfl rfl (by simp only [List.map_toArray, List.map_cons, List.map_nil]; rfl) ?_
                with_reducible refine (amanuensisref0_CopyFields.calls kc (some a6) c6 l l _ (Kd.C_below HC6.out (below_step HB65.out HB5.out)) hc6 HCP.out).mono ?_
                rintro e wq6 ⟨v61, rfl, ho0, hb2⟩
                refine ⟨_, rfl, ?_⟩
                have HO := Aside0.mk (Kd.R_lower ho0 (below_size HB5.out))
                have n0_ := Aside0.mk (below_step HB5.out hb2)
                clear HB5
                have HB5 := n0_
                clear n0_
                have n0_ := Aside0.mk (Kd.C_below HC65.out hb2)
                clear HC65
                have HC65 := n0_
                clear n0_
                clear ho0 hb2
                refine hK.out _ _ ⟨pw_cell_below HB5.out hs0, pw_cell_below HB5.out hs1, pw_cell_below HB5.out hs2, pw_cell_below HB5.out hs3⟩ (fun hHeld => ?_)
                clear hK K
                refine norm_ (a' := ?_) ?_ ?_
                rotate_left
                · show Act.put _ (some 61) _ = _
                  simp only [Act.put, List.setIfInBounds_toArray, List.set_cons_zero, List.set_cons_succ, i64_w, i32_w]
                  rfl
                refine one_ (i := 10) (N := some 66) #[true, true, true, true, true, true, true, true, true, true, true, false, false, false, false] rfl rfl (by kernel_rfl) (by decide) (fun K hK => ?_)
                refine Kd.R_append_rows_step k54 (w0 := w5) w5.heap.size (by rfl) (.tmp 61) (.tmp 65) 32 54 (.agg #[.string ⟨#[]⟩, .int .i64 0, .string ⟨#[]⟩, .string ⟨#[]⟩]) 56 rfl Tryd.underlying32 info54 rfl (by decide) (by omega) v61 l ([x] : List S54) A65 1 c65 (fun _ => True) (fun _ => False) rfl rfl HO.out HC65.out (fun y cs h_ => by rw [k54_open h_]; exact k54_mkM _ _ _ y) (fun _ hk => hk.elim) (fun _ _ => trivial) HB5.out (below_size HB5.out) (by omega) ?_
                intro v66 w9 ho2 hb3 hg2_ hat2_
                obtain ⟨A66, c66, rfl, hc66, hC66⟩ := Kd.R_reads ho2
                have HC66 := Aside0.mk hC66
                clear HB5
                have HB5 := Aside0.mk hb3
                clear ho2 hC66 hb3 hg2_ hat2_ HO HC65
                refine hK.out _ _ ⟨pw_cell_below HB5.out hs0, pw_cell_below HB5.out hs1, pw_cell_below HB5.out hs2, pw_cell_below HB5.out hs3⟩ (fun hHeld => ?_)
                clear hK K
                refine norm_ (a' := ?_) ?_ ?_
                rotate_left
                · show Act.put _ (some 66) _ = _
                  simp only [Act.put, List.setIfInBounds_toArray, List.set_cons_zero, List.set_cons_succ, i64_w, i32_w]
                  rfl
                refine one_ (i := 11) (N := some 67) #[true, true, true, true, true, true, true, true, true, true, true, true, false, false, false] rfl rfl (by kernel_rfl) (by decide) (fun K hK => ?_)
                refine goes_ Tryd.func19 (by kernel_rfl) rfl #[.slice A66 (l ++ [x]).length c66] (by rfl) rfl rfl (by simp only [List.map_toArray, List.map_cons, List.map_nil]; rfl) ?_
                with_reducible refine (HBAR.out A66 c66 _ hc66 HC66.out).mono ?_
                rintro e wq7 ⟨rfl, hb2⟩
                refine ⟨_, rfl, ?_⟩
                have n0_ := Aside0.mk (below_step HB5.out hb2)
                clear HB5
                have HB5 := n0_
                clear n0_
                clear hb2
                refine hK.out _ _ ⟨pw_cell_below HB5.out hs0, pw_cell_below HB5.out hs1, pw_cell_below HB5.out hs2, pw_cell_below HB5.out hs3⟩ (fun hHeld => ?_)
                clear hK K
                refine norm_ (a' := ?_) ?_ ?_
                rotate_left
                · show Act.put _ (some 67) _ = _
                  simp only [Act.put, List.setIfInBounds_toArray, List.set_cons_zero, List.set_cons_succ, i64_w, i32_w]
                  rfl
                refine one_ (i := 12) (N := some 68) #[true, true, true, true, true, true, true, true, true, true, true, true, true, false, false] rfl rfl (by kernel_rfl) (by decide) (fun K hK => ?_)
                refine goes_ Tryd.func15 (by kernel_rfl) rfl #[.int .i64 1] (by rfl) rfl rfl (by simp only [List.map_toArray, List.map_cons, List.map_nil]; rfl) ?_
                with_reducible refine (amanuensislaw4_num.calls 1 1 _ rfl).mono ?_
                rintro e wq8 ⟨rfl, hd8⟩
                refine ⟨_, rfl, ?_⟩
                have hb2 := below_drawn hd8
                have n0_ := Aside0.mk (below_step HB5.out hb2)
                clear HB5
                have HB5 := n0_
                clear n0_
                clear hb2 hd8
                refine hK.out _ _ ⟨pw_cell_below HB5.out hs0, pw_cell_below HB5.out hs1, pw_cell_below HB5.out hs2, pw_cell_below HB5.out hs3⟩ (fun hHeld => ?_)
                clear hK K
                refine norm_ (a' := ?_) ?_ ?_
                rotate_left
                · show Act.put _ (some 68) _ = _
                  simp only [Act.put, List.setIfInBounds_toArray, List.set_cons_zero, List.set_cons_succ, i64_w, i32_w]
                  rfl
                refine pure_ (i := 13) (N := some 69) (v := ?_) (a' := ?_) #[true, true, true, true, true, true, true, true, true, true, true, true, true, true, false] rfl rfl (by kernel_rfl) (fun _ _ _ h => h) (Or.inl ⟨by rfl, ?_⟩) ?_ ?_
                rotate_left
                · intro w'
                  go_simp
                  with_reducible rfl
                rotate_left
                · simp only [Act.put, List.setIfInBounds_toArray, List.set_cons_zero, List.set_cons_succ, i64_w, i32_w]
                  rfl
                refine pure_ (i := 14) (N := some 70) (v := ?_) (a' := ?_) #[true, true, true, true, true, true, true, true, true, true, true, true, true, true, true] rfl rfl (by kernel_rfl) (fun _ _ _ h => h) (Or.inl ⟨by rfl, ?_⟩) ?_ ?_
                rotate_left
                · intro w'
                  go_simp
                  with_reducible rfl
                rotate_left
                · simp only [Act.put, List.setIfInBounds_toArray, List.set_cons_zero, List.set_cons_succ, i64_w, i32_w]
                  rfl
                refine done_ (by kernel_rfl) ?_
                go_wp2
                have n0_ := Aside0.mk (blk_below (g := gb) (o := .cells #[.slice A0 l0.length c0, .slice A1 l1.length c1, .slice (some ad) l2.length c2] 28 (0, 0)) BK5.out HB5.out)
                have n1_ := Aside0.mk (below_step HBW.out HB5.out)
                clear HB5
                have BKgb := n0_
                have HB := n1_
                clear n0_ n1_
                go_roundg k1
                case measure => omega
                case rel => exact ⟨i + 1, by first | rfl | (simp only [Int.natCast_add]; done) | (simp only [Int.natCast_add]; rfl), by omega, by omega, ⟨(by (with_reducible repeat (first | refine blk_drewN ?_ _ | refine blk_drew ?_ | refine blk_alloc ?_ _)); exact BKgb.out)⟩, ⟨(by repeat (first | (with_reducible first | exact HB.out | apply below_alloc | apply pw_below_drewN | apply below_drew1) | exact HB.out))⟩⟩
            · have c3_ : decide ((l.length : Int) < 8) = false := decide_eq_false (by omega)
              clear HBR
              go_wp2_with (first | (go_at_call 18; refine (HPR.out Ai ci _ hci (Kd.C_below HCI.out (by repeat (first | (with_reducible first | exact HB.out | apply below_alloc | apply pw_below_drewN | apply below_drew1) | exact HB.out)))).mono ?_; rintro e wq3 ⟨rfl, hb2⟩; have n0_ := Aside0.mk (blk_below (g := gb) (o := .cells #[.slice A0 l0.length c0, .slice A1 l1.length c1, .slice (some ad) l2.length c2] 28 (0, 0)) (by (with_reducible repeat (first | refine blk_drewN ?_ _ | refine blk_drew ?_ | refine blk_alloc ?_ _)); exact BKgb.out) hb2); have n1_ := Aside0.mk (below_step (by repeat (first | (with_reducible first | exact HB.out | apply below_alloc | apply pw_below_drewN | apply below_drew1) | exact HB.out)) hb2); clear BKgb HB; have BKgb := n0_; have HB := n1_; clear n0_ n1_; (try clear hcz2 hfz2); have hcz2 : wq3.cell? ⟨gb, 2, none⟩ = some (.slice (some ad) l2.length c2) := (blk_cell BKgb.out 2).trans rfl; have hfz2 := blk_frozen BKgb.out 2; (try clear hx); have hx := pw_cell_below HB.out HX.out) | (go_at_call 13; refine (HRD.out _ (Lib_tab HT.out (by repeat (first | (with_reducible first | exact HB.out | apply below_alloc | apply pw_below_drewN | apply below_drew1) | exact HB.out)))).mono ?_; rintro e wq4 ⟨v6, rfl, hR6, hb2⟩; obtain ⟨A6, c6, rfl, hc6, hC6⟩ := Kd.R_reads hR6; have HC6 := Aside0.mk hC6; clear hC6 hR6; have n0_ := Aside0.mk (blk_below (g := gb) (o := .cells #[.slice A0 l0.length c0, .slice A1 l1.length c1, .slice (some ad) l2.length c2] 28 (0, 0)) (by (with_reducible repeat (first | refine blk_drewN ?_ _ | refine blk_drew ?_ | refine blk_alloc ?_ _)); exact BKgb.out) hb2); have n1_ := Aside0.mk (below_step (by repeat (first | (with_reducible first | exact HB.out | apply below_alloc | apply pw_below_drewN | apply below_drew1) | exact HB.out)) hb2); clear BKgb HB; have BKgb := n0_; have HB := n1_; clear n0_ n1_; (try clear hcz2 hfz2); have hcz2 : wq4.cell? ⟨gb, 2, none⟩ = some (.slice (some ad) l2.length c2) := (blk_cell BKgb.out 2).trans rfl; have hfz2 := blk_frozen BKgb.out 2; (try clear hx); have hx := pw_cell_below HB.out HX.out) | (go_at_call 15; (with_reducible refine (amanuensislaw4_num.calls _ _ _ rfl).mono ?_); rintro e wq ⟨rfl, ⟨nd, rfl⟩⟩) | (go_at_call 16; refine (amanuensisref0_EqFields.calls _ A6 c6 l Ai ci l true _ (Kd.C_below HC6.out (by repeat (first | exact Below.refl _ _ | apply below_alloc | apply pw_below_drewN))) hc6 (Kd.C_below HCI.out (by repeat (first | (with_reducible first | exact HB.out | apply below_alloc | apply pw_below_drewN | apply below_drew1) | exact HB.out))) hci HEQ.out).mono ?_; rintro e wq9 ⟨rfl, hd9⟩; have hb2 := below_drawn hd9; have n3_ := Aside0.mk (Kd.C_below (Kd.C_below HC6.out (by repeat (first | exact Below.refl _ _ | apply below_alloc | apply pw_below_drewN))) hb2); clear HC6; have HC6 := n3_; clear n3_; have n0_ := Aside0.mk (blk_below (g := gb) (o := .cells #[.slice A0 l0.length c0, .slice A1 l1.length c1, .slice (some ad) l2.length c2] 28 (0, 0)) (by (with_reducible repeat (first | refine blk_drewN ?_ _ | refine blk_drew ?_ | refine blk_alloc ?_ _)); exact BKgb.out) hb2); have n1_ := Aside0.mk (below_step (by repeat (first | (with_reducible first | exact HB.out | apply below_alloc | apply pw_below_drewN | apply below_drew1) | exact HB.out)) hb2); clear BKgb HB; have BKgb := n0_; have HB := n1_; clear n0_ n1_; (try clear hcz2 hfz2); have hcz2 : wq9.cell? ⟨gb, 2, none⟩ = some (.slice (some ad) l2.length c2) := (blk_cell BKgb.out 2).trans rfl; have hfz2 := blk_frozen BKgb.out 2; (try clear hx); have hx := pw_cell_below HB.out HX.out; clear hd9))
              refine start_ (n := 15) (S := fun w' => True) (ds := []) #[false, false, false, false, false, false, false, false, false, false, false, false, false, false, false] (by kernel_rfl) rfl rfl trivial (fun hHeld => ?_)
              refine pure_ (i := 0) (N := some 56) (v := ?_) (a' := ?_) #[true, false, false, false, false, false, false, false, false, false, false, false, false, false, false] rfl rfl (by kernel_rfl) (fun _ _ _ h => h) (Or.inl ⟨by rfl, ?_⟩) ?_ ?_
              rotate_left
              · intro w'
                go_simp
                with_reducible rfl
              rotate_left
              · simp only [Act.put, List.setIfInBounds_toArray, List.set_cons_zero, List.set_cons_succ, i64_w, i32_w]
                rfl
              refine pure_ (i := 1) (N := some 57) (v := ?_) (a' := ?_) #[true, true, false, false, false, false, false, false, false, false, false, false, false, false, false] rfl rfl (by kernel_rfl) (fun _ _ _ h => h) (Or.inl ⟨by rfl, ?_⟩) ?_ ?_
              rotate_left
              · intro w'
                go_simp
                with_reducible rfl
              rotate_left
              · simp only [Act.put, List.setIfInBounds_toArray, List.set_cons_zero, List.set_cons_succ, i64_w, i32_w]
                rfl
              refine pure_ (i := 2) (N := some 58) (v := ?_) (a' := ?_) #[true, true, true, false, false, false, false, false, false, false, false, false, false, false, false] rfl rfl (by kernel_rfl) (fun _ _ _ h => h) (Or.inl ⟨by rfl, ?_⟩) ?_ ?_
              rotate_left
              · intro w'
                go_simp
                with_reducible rfl
              rotate_left
              · simp only [Act.put, List.setIfInBounds_toArray, List.set_cons_zero, List.set_cons_succ, i64_w, i32_w]
                rfl
              refine pure_ (i := 3) (N := some 59) (v := ?_) (a' := ?_) #[true, true, true, true, false, false, false, false, false, false, false, false, false, false, false] rfl rfl (by kernel_rfl) (fun _ _ _ h => h) (Or.inl ⟨by rfl, ?_⟩) ?_ ?_
              rotate_left
              · intro w'
                go_simp
                with_reducible rfl
              rotate_left
              · simp only [Act.put, List.setIfInBounds_toArray, List.set_cons_zero, List.set_cons_succ, i64_w, i32_w]
                rfl
              refine pure_ (i := 4) (N := some 60) (v := undef) (a' := ?_) #[true, true, true, true, true, false, false, false, false, false, false, false, false, false, false] rfl rfl (by kernel_rfl) (fun _ _ _ h => h) (Or.inr ⟨by rfl, rfl⟩) ?_ ?_
              rotate_left
              · simp only [Act.put, List.setIfInBounds_toArray, List.set_cons_zero, List.set_cons_succ, i64_w, i32_w]
                rfl
              refine pure_ (i := 5) (N := some 61) (v := undef) (a' := ?_) #[true, true, true, true, true, true, false, false, false, false, false, false, false, false, false] rfl rfl (by kernel_rfl) (fun _ _ _ h => h) (Or.inr ⟨by rfl, rfl⟩) ?_ ?_
              rotate_left
              · simp only [Act.put, List.setIfInBounds_toArray, List.set_cons_zero, List.set_cons_succ, i64_w, i32_w]
                rfl
              refine pure_ (i := 6) (N := some 62) (v := undef) (a' := ?_) #[true, true, true, true, true, true, true, false, false, false, false, false, false, false, false] rfl rfl (by kernel_rfl) (fun _ _ _ h => h) (Or.inr ⟨by rfl, rfl⟩) ?_ ?_
              rotate_left
              · simp only [Act.put, List.setIfInBounds_toArray, List.set_cons_zero, List.set_cons_succ, i64_w, i32_w]
                rfl
              refine pure_ (i := 7) (N := some 63) (v := undef) (a' := ?_) #[true, true, true, true, true, true, true, true, false, false, false, false, false, false, false] rfl rfl (by kernel_rfl) (fun _ _ _ h => h) (Or.inr ⟨by rfl, rfl⟩) ?_ ?_
              rotate_left
              · simp only [Act.put, List.setIfInBounds_toArray, List.set_cons_zero, List.set_cons_succ, i64_w, i32_w]
                rfl
              refine pure_ (i := 8) (N := some 64) (v := undef) (a' := ?_) #[true, true, true, true, true, true, true, true, true, false, false, false, false, false, false] rfl rfl (by kernel_rfl) (fun _ _ _ h => h) (Or.inr ⟨by rfl, rfl⟩) ?_ ?_
              rotate_left
              · simp only [Act.put, List.setIfInBounds_toArray, List.set_cons_zero, List.set_cons_succ, i64_w, i32_w]
                rfl
              refine pure_ (i := 9) (N := some 65) (v := undef) (a' := ?_) #[true, true, true, true, true, true, true, true, true, true, false, false, false, false, false] rfl rfl (by kernel_rfl) (fun _ _ _ h => h) (Or.inr ⟨by rfl, rfl⟩) ?_ ?_
              rotate_left
              · simp only [Act.put, List.setIfInBounds_toArray, List.set_cons_zero, List.set_cons_succ, i64_w, i32_w]
                rfl
              refine pure_ (i := 10) (N := some 66) (v := undef) (a' := ?_) #[true, true, true, true, true, true, true, true, true, true, true, false, false, false, false] rfl rfl (by kernel_rfl) (fun _ _ _ h => h) (Or.inr ⟨by rfl, rfl⟩) ?_ ?_
              rotate_left
              · simp only [Act.put, List.setIfInBounds_toArray, List.set_cons_zero, List.set_cons_succ, i64_w, i32_w]
                rfl
              refine pure_ (i := 11) (N := some 67) (v := undef) (a' := ?_) #[true, true, true, true, true, true, true, true, true, true, true, true, false, false, false] rfl rfl (by kernel_rfl) (fun _ _ _ h => h) (Or.inr ⟨by rfl, rfl⟩) ?_ ?_
              rotate_left
              · simp only [Act.put, List.setIfInBounds_toArray, List.set_cons_zero, List.set_cons_succ, i64_w, i32_w]
                rfl
              refine pure_ (i := 12) (N := some 68) (v := undef) (a' := ?_) #[true, true, true, true, true, true, true, true, true, true, true, true, true, false, false] rfl rfl (by kernel_rfl) (fun _ _ _ h => h) (Or.inr ⟨by rfl, rfl⟩) ?_ ?_
              rotate_left
              · simp only [Act.put, List.setIfInBounds_toArray, List.set_cons_zero, List.set_cons_succ, i64_w, i32_w]
                rfl
              refine pure_ (i := 13) (N := some 69) (v := undef) (a' := ?_) #[true, true, true, true, true, true, true, true, true, true, true, true, true, true, false] rfl rfl (by kernel_rfl) (fun _ _ _ h => h) (Or.inr ⟨by rfl, rfl⟩) ?_ ?_
              rotate_left
              · simp only [Act.put, List.setIfInBounds_toArray, List.set_cons_zero, List.set_cons_succ, i64_w, i32_w]
                rfl
              refine pure_ (i := 14) (N := some 70) (v := ?_) (a' := ?_) #[true, true, true, true, true, true, true, true, true, true, true, true, true, true, true] rfl rfl (by kernel_rfl) (fun _ _ _ h => h) (Or.inl ⟨by rfl, ?_⟩) ?_ ?_
              rotate_left
              · intro w'
                go_simp
                with_reducible rfl
              rotate_left
              · simp only [Act.put, List.setIfInBounds_toArray, List.set_cons_zero, List.set_cons_succ, i64_w, i32_w]
                rfl
              refine done_ (by kernel_rfl) ?_
              go_wp2
              go_roundg k1
              case measure => omega
              case rel => exact ⟨i + 1, by first | rfl | (simp only [Int.natCast_add]; done) | (simp only [Int.natCast_add]; rfl), by omega, by omega, ⟨(by (with_reducible repeat (first | refine blk_drewN ?_ _ | refine blk_drew ?_ | refine blk_alloc ?_ _)); exact BKgb.out)⟩, ⟨(by repeat (first | (with_reducible first | exact HB.out | apply below_alloc | apply pw_below_drewN | apply below_drew1) | exact HB.out))⟩⟩
        · have c2_ : decide ((i : Int) < 6) = false := decide_eq_false (by omega)
          have hcz2 : wr.cell? ⟨gb, 2, none⟩ = some (.slice A2 l2.length c2) := (blk_cell BKgb.out 2).trans rfl; have hfz2 := blk_frozen BKgb.out 2
          go_wp2_with (first | (go_at_call 17; refine (HWK.out _ (Lib_tab HT.out (by repeat (first | (with_reducible first | exact HB.out | apply below_alloc | apply pw_below_drewN | apply below_drew1) | exact HB.out)))).mono ?_; rintro e wq5 ⟨rfl, hb2⟩; have n0_ := Aside0.mk (below_step (by repeat (first | (with_reducible first | exact HB.out | apply below_alloc | apply pw_below_drewN | apply below_drew1) | exact HB.out)) hb2); clear HB; have HB := n0_; clear n0_ hb2))
          go_ret
          exact ⟨rfl, (by repeat (first | (with_reducible first | exact HB.out | apply below_alloc | apply pw_below_drewN | apply below_drew1) | exact HB.out))⟩
      · have c1_ : decide ((i : Int) < (l2.length : Int)) = false := decide_eq_false (by omega)
        have hcz2 : wr.cell? ⟨gb, 2, none⟩ = some (.slice A2 l2.length c2) := (blk_cell BKgb.out 2).trans rfl; have hfz2 := blk_frozen BKgb.out 2
        go_wp2_with (first | (go_at_call 17; refine (HWK.out _ (Lib_tab HT.out (by repeat (first | (with_reducible first | exact HB.out | apply below_alloc | apply pw_below_drewN | apply below_drew1) | exact HB.out)))).mono ?_; rintro e wq5 ⟨rfl, hb2⟩; have n0_ := Aside0.mk (below_step (by repeat (first | (with_reducible first | exact HB.out | apply below_alloc | apply pw_below_drewN | apply below_drew1) | exact HB.out)) hb2); clear HB; have HB := n0_; clear n0_ hb2))
        go_ret
        exact ⟨rfl, (by repeat (first | (with_reducible first | exact HB.out | apply below_alloc | apply pw_below_drewN | apply below_drew1) | exact HB.out))⟩
end Go.Proofs.YtgobpenmemlieaaDoor.Lex
