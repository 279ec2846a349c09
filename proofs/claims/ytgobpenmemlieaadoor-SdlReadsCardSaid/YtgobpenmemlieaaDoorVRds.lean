/- Packed by our own shrink.py: theorems that the claim does not use are left out. -/
import Derived.Test.YtgobpenmemlieaaDoorVRdc
/-
 The walk of amanuensislaw4.SdlReads, over what its callees tell.
-/
namespace Go.Proofs.YtgobpenmemlieaaDoor.Lex
open Go.RowKit Go.Proofs.YtgobpenmemlieaaDoorW.PrintWords Go.Proofs.YtgobpenmemlieaaDoorW.PrintLast Go.Proofs.YtgobpenmemlieaaDoorW.PrintMore PSdlBack
attribute [local go_sem] max2_int min2_int max_two min_two max_three min_three max_four min_four
set_option linter.unusedVariables false
set_option linter.unusedSimpArgs false
theorem blk_grown {W w1 : World} {row : Option Nat} {g t : Nat} {cells : Array Value} (hg : W.grownBy w1 row) (h : W.heap[g]? = some (.cells cells t (0, 0))) (hne : some g ≠ row) : w1.heap[g]? = some (.cells cells t (0, 0)) := (hg.block g (blk_lt h) hne).trans h
set_option maxHeartbeats 8000000 in
set_option maxRecDepth 100000 in
theorem SdlReads_calls (A0 : Option Addr) (c0 : Nat) (l0 : List ByteArray) (A1 : Option Addr) (c1 : Nat) (l1 : List Int) (A2 : Option Addr) (c2 : Nat) (l2 : List (List S54)) (w : World)
  (hr0 : Kd.C Kd.string w A0 l0.length l0) (h0c : l0.length ≤ c0) (hr1 : Kd.C (Kd.int .i64) w A1 l1.length l1) (h1c : l1.length ≤ c1) (hr2 : Kd.C (Kd.slice 54 k54) w A2 l2.length l2) (h2c : l2.length ≤ c2)
  (kh : Nat) (hv : Bool) (hh : amanuensislaw4_Heavy.f kh l0 l1 l2 = some hv) (hT : Tab w) (hgood : hv = false → ∀ i : Nat, i < l2.length → GoodP (rd_L3 l2 i)) (kc : Nat) (hcs : amanuensisref0_CopyStrings.f kc l0 = some l0) (hag : ∀ s, AgreeS s) (hwo : ∀ s, WordsOk s) (s0 : ByteArray) (hwp : PrintsAs [wk0] s0 0) (hwr : ReadsAs s0 [wk0]) :
  Calls Tryd.prog 3 #[.agg #[.slice A0 l0.length c0, .slice A1 l1.length c1, .slice A2 l2.length c2]] w fun e w' => e = .returned (.bool true) ∧ Below w.heap.size w w' := by
 have H0 := Aside0.mk hr0
 have H1 := Aside0.mk hr1
 have H2 := Aside0.mk hr2
 have HH := Aside0.mk hh
 have HT := Aside0.mk hT
 have HG := Aside0.mk hgood
 have HCS := Aside0.mk hcs
 have HAG := Aside0.mk hag
 have HWO := Aside0.mk hwo
 have HWK := Aside0.mk (wakes_calls s0 hwp hwr)
 have HB := Aside0.mk (Below.refl w.heap.size w)
 clear hr0 hr1 hr2 hh hT hgood hcs hag hwo hwp hwr
 go_enter Tryd.func3, Tryd.ntmps3
 cases hv with
 | true =>
  go_wp2_with (first | ((with_reducible refine gate_dst (N := 1) rfl ?_); refine box_event ?hg (N := 1) ?hd (cs := #[.slice A0 l0.length c0, .slice A1 l1.length c1, .slice A2 l2.length c2]) (t := 28) ?hr ?_; (case hd => rfl); (case hg => rfl); (case hr => first | (go_simp; done) | (go_simp; rfl)); intro gb hg w2 hbox hb; have n0_ := Aside0.mk (below_step (by (repeat (first | (with_reducible first | exact HB.out | apply below_alloc | apply pw_below_drewN | apply below_drew1) | exact HB.out))) hb); have n1_ := Aside0.mk (hbox); have n2_ := Aside0.mk ((by rw [hg]; exact (below_size (by (repeat (first | (with_reducible first | exact HB.out | apply below_alloc | apply pw_below_drewN | apply below_drew1) | exact HB.out))))) : w.heap.size ≤ gb); clear HB; have HB := n0_; have BKgb := n1_; have GEgb := n2_; clear n0_ n1_ n2_; clear hb hbox hg; have hcz0 : w2.cell? ⟨gb, 0, none⟩ = some (.slice A0 l0.length c0) := (blk_cell BKgb.out 0).trans rfl; have hfz0 := blk_frozen BKgb.out 0; have hcz1 : w2.cell? ⟨gb, 1, none⟩ = some (.slice A1 l1.length c1) := (blk_cell BKgb.out 1).trans rfl; have hfz1 := blk_frozen BKgb.out 1; have hcz2 : w2.cell? ⟨gb, 2, none⟩ = some (.slice A2 l2.length c2) := (blk_cell BKgb.out 2).trans rfl; have hfz2 := blk_frozen BKgb.out 2) | (go_at_call 7; refine (amanuensislaw4_Heavy.calls kh A0 c0 l0 A1 c1 l1 A2 c2 l2 _ _ (Kd.C_below H0.out (by repeat (first | (with_reducible first | exact HB.out | apply below_alloc | apply pw_below_drewN | apply below_drew1) | exact HB.out))) h0c (Kd.C_below H1.out (by repeat (first | (with_reducible first | exact HB.out | apply below_alloc | apply pw_below_drewN | apply below_drew1) | exact HB.out))) h1c (Kd.C_below H2.out (by repeat (first | (with_reducible first | exact HB.out | apply below_alloc | apply pw_below_drewN | apply below_drew1) | exact HB.out))) h2c HH.out).mono ?_; rintro e wq ⟨rfl, hb2⟩; have n0_ := Aside0.mk (blk_below (g := gb) (o := .cells #[.slice A0 l0.length c0, .slice A1 l1.length c1, .slice A2 l2.length c2] 28 (0, 0)) (by (with_reducible repeat (first | refine blk_drewN ?_ _ | refine blk_drew ?_ | refine blk_alloc ?_ _)); exact BKgb.out) hb2); have n1_ := Aside0.mk (below_step (by repeat (first | (with_reducible first | exact HB.out | apply below_alloc | apply pw_below_drewN | apply below_drew1) | exact HB.out)) hb2); clear BKgb HB; have BKgb := n0_; have HB := n1_; clear n0_ n1_; (try clear hcz2 hfz2); have hcz0 : wq.cell? ⟨gb, 0, none⟩ = some (.slice A0 l0.length c0) := (blk_cell BKgb.out 0).trans rfl; have hfz0 := blk_frozen BKgb.out 0; have hcz1 : wq.cell? ⟨gb, 1, none⟩ = some (.slice A1 l1.length c1) := (blk_cell BKgb.out 1).trans rfl; have hfz1 := blk_frozen BKgb.out 1; have hcz2 : wq.cell? ⟨gb, 2, none⟩ = some (.slice A2 l2.length c2) := (blk_cell BKgb.out 2).trans rfl; have hfz2 := blk_frozen BKgb.out 2))
  go_ret
  exact ⟨rfl, (by repeat (first | (with_reducible first | exact HB.out | apply below_alloc | apply pw_below_drewN | apply below_drew1) | exact HB.out))⟩
 | false =>
  go_upto_if 28 with (first | ((with_reducible refine gate_dst (N := 1) rfl ?_); refine box_event ?hg (N := 1) ?hd (cs := #[.slice A0 l0.length c0, .slice A1 l1.length c1, .slice A2 l2.length c2]) (t := 28) ?hr ?_; (case hd => rfl); (case hg => rfl); (case hr => first | (go_simp; done) | (go_simp; rfl)); intro gb hg w2 hbox hb; have n0_ := Aside0.mk (below_step (by (repeat (first | (with_reducible first | exact HB.out | apply below_alloc | apply pw_below_drewN | apply below_drew1) | exact HB.out))) hb); have n1_ := Aside0.mk (hbox); have n2_ := Aside0.mk ((by rw [hg]; exact (below_size (by (repeat (first | (with_reducible first | exact HB.out | apply below_alloc | apply pw_below_drewN | apply below_drew1) | exact HB.out))))) : w.heap.size ≤ gb); clear HB; have HB := n0_; have BKgb := n1_; have GEgb := n2_; clear n0_ n1_ n2_; clear hb hbox hg; have hcz0 : w2.cell? ⟨gb, 0, none⟩ = some (.slice A0 l0.length c0) := (blk_cell BKgb.out 0).trans rfl; have hfz0 := blk_frozen BKgb.out 0; have hcz1 : w2.cell? ⟨gb, 1, none⟩ = some (.slice A1 l1.length c1) := (blk_cell BKgb.out 1).trans rfl; have hfz1 := blk_frozen BKgb.out 1; have hcz2 : w2.cell? ⟨gb, 2, none⟩ = some (.slice A2 l2.length c2) := (blk_cell BKgb.out 2).trans rfl; have hfz2 := blk_frozen BKgb.out 2) | (go_at_call 7; refine (amanuensislaw4_Heavy.calls kh A0 c0 l0 A1 c1 l1 A2 c2 l2 _ _ (Kd.C_below H0.out (by repeat (first | (with_reducible first | exact HB.out | apply below_alloc | apply pw_below_drewN | apply below_drew1) | exact HB.out))) h0c (Kd.C_below H1.out (by repeat (first | (with_reducible first | exact HB.out | apply below_alloc | apply pw_below_drewN | apply below_drew1) | exact HB.out))) h1c (Kd.C_below H2.out (by repeat (first | (with_reducible first | exact HB.out | apply below_alloc | apply pw_below_drewN | apply below_drew1) | exact HB.out))) h2c HH.out).mono ?_; rintro e wq ⟨rfl, hb2⟩; have n0_ := Aside0.mk (blk_below (g := gb) (o := .cells #[.slice A0 l0.length c0, .slice A1 l1.length c1, .slice A2 l2.length c2] 28 (0, 0)) (by (with_reducible repeat (first | refine blk_drewN ?_ _ | refine blk_drew ?_ | refine blk_alloc ?_ _)); exact BKgb.out) hb2); have n1_ := Aside0.mk (below_step (by repeat (first | (with_reducible first | exact HB.out | apply below_alloc | apply pw_below_drewN | apply below_drew1) | exact HB.out)) hb2); clear BKgb HB; have BKgb := n0_; have HB := n1_; clear n0_ n1_; (try clear hcz2 hfz2); have hcz0 : wq.cell? ⟨gb, 0, none⟩ = some (.slice A0 l0.length c0) := (blk_cell BKgb.out 0).trans rfl; have hfz0 := blk_frozen BKgb.out 0; have hcz1 : wq.cell? ⟨gb, 1, none⟩ = some (.slice A1 l1.length c1) := (blk_cell BKgb.out 1).trans rfl; have hfz1 := blk_frozen BKgb.out 1; have hcz2 : wq.cell? ⟨gb, 2, none⟩ = some (.slice A2 l2.length c2) := (blk_cell BKgb.out 2).trans rfl; have hfz2 := blk_frozen BKgb.out 2) | (go_at_call 8; refine (amanuensisref0_CopyStrings.calls kc A0 c0 l0 l0 _ (Kd.C_below H0.out (by repeat (first | (with_reducible first | exact HB.out | apply below_alloc | apply pw_below_drewN | apply below_drew1) | exact HB.out))) h0c HCS.out).mono ?_; rintro e wq1 ⟨v3_, rfl, hR3, hb2⟩; have HR3 := Aside0.mk (Kd.R_lower hR3 (below_size (by repeat (first | (with_reducible first | exact HB.out | apply below_alloc | apply pw_below_drewN | apply below_drew1) | exact HB.out)))); obtain ⟨A3, c3, rfl, hc3, -⟩ := Kd.R_reads hR3; clear hR3; have n0_ := Aside0.mk (blk_below (g := gb) (o := .cells #[.slice A0 l0.length c0, .slice A1 l1.length c1, .slice A2 l2.length c2] 28 (0, 0)) (by (with_reducible repeat (first | refine blk_drewN ?_ _ | refine blk_drew ?_ | refine blk_alloc ?_ _)); exact BKgb.out) hb2); have n1_ := Aside0.mk (below_step (by repeat (first | (with_reducible first | exact HB.out | apply below_alloc | apply pw_below_drewN | apply below_drew1) | exact HB.out)) hb2); clear BKgb HB; have BKgb := n0_; have HB := n1_; clear n0_ n1_; (try clear hcz2 hfz2); have hcz2 : wq1.cell? ⟨gb, 2, none⟩ = some (.slice A2 l2.length c2) := (blk_cell BKgb.out 2).trans rfl; have hfz2 := blk_frozen BKgb.out 2))
  go_cut [3] (fun v3 wc => ∃ ts : List ByteArray, ts.length ≤ 6 ∧ Aside0 (Kd.R Kd.string 9 wc w.heap.size (fun _ => True) v3 ts) ∧ Aside0 (wc.heap[gb]? = some (.cells #[.slice A0 l0.length c0, .slice A1 l1.length c1, .slice A2 l2.length c2] 28 (0, 0))) ∧ Aside0 (Below w.heap.size w wc))
  case first =>
   by_cases h6 : 6 < l0.length
   ·
    have c1_ : decide (6 < (l0.length : Int)) = true := decide_eq_true (by omega)
    have c2_ : decide ((l0.length : Int) > 6) = true := decide_eq_true (by omega)
    have p1 := eq_true (show (6 : Int) ≤ (c3 : Int) by omega)
    have p2 := eq_true (show 6 ≤ c3 by omega)
    go_wp2
    go_meet
    case rel => exact ⟨l0.take 6, by rw [List.length_take]; omega, ⟨Kd.R_take (m := 6) HR3.out (by omega)⟩, ⟨(by (with_reducible repeat (first | refine blk_drewN ?_ _ | refine blk_drew ?_ | refine blk_alloc ?_ _)); exact BKgb.out)⟩, ⟨(by repeat (first | (with_reducible first | exact HB.out | apply below_alloc | apply pw_below_drewN | apply below_drew1) | exact HB.out))⟩⟩
   ·
    have c1_ : decide (6 < (l0.length : Int)) = false := decide_eq_false (by omega)
    have c2_ : decide ((l0.length : Int) > 6) = false := decide_eq_false (by omega)
    go_wp2
    go_meet
    case rel => exact ⟨l0, by omega, HR3, ⟨(by (with_reducible repeat (first | refine blk_drewN ?_ _ | refine blk_drew ?_ | refine blk_alloc ?_ _)); exact BKgb.out)⟩, ⟨(by repeat (first | (with_reducible first | exact HB.out | apply below_alloc | apply pw_below_drewN | apply below_drew1) | exact HB.out))⟩⟩
  case rest =>
   clear HB BKgb HR3 hc3
   (try clear hcz0 hcz1 hcz2 hfz0 hfz1 hfz2)
   obtain ⟨ts0, hts0, HR3, BKgb, HB⟩ := hcut
   go_upto_block 0 with (fail)
   go_cut [3] (fun v3 wc => ∃ ts : List ByteArray, ts.length ≤ 12 ∧ Aside0 (Kd.R Kd.string 9 wc w.heap.size (fun _ => True) v3 ts) ∧ Aside0 (wc.heap[gb]? = some (.cells #[.slice A0 l0.length c0, .slice A1 l1.length c1, .slice A2 l2.length c2] 28 (0, 0))) ∧ Aside0 (Below w.heap.size w wc))
   case first =>
    go_wp2
    go_loopg [3, 4] l2.length (fun kq v3 v4 w' => ∃ (i : Nat) (ts : List ByteArray), v4 = .int .i64 i ∧ i ≤ l2.length ∧ i ≤ 6 ∧ i + kq = l2.length ∧ ts.length ≤ 6 + i ∧ Aside0 (Kd.R Kd.string 9 w' w.heap.size (fun _ => True) v3 ts) ∧ Aside0 (w'.heap[gb]? = some (.cells #[.slice A0 l0.length c0, .slice A1 l1.length c1, .slice A2 l2.length c2] 28 (0, 0))) ∧ Aside0 (Below w.heap.size w w'))
    case atStart => exact ⟨0, ts0, rfl, by omega, by omega, by omega, by omega, HR3, BKgb, HB⟩
    case round =>
     clear HB BKgb HR3
     obtain ⟨i, ts, rfl, hi, hi6_, hk, htl, HR3, BKgb, HB⟩ := hrel
     by_cases hil : i < l2.length
     ·
      have c1_ : decide ((i : Int) < (l2.length : Int)) = true := decide_eq_true (by omega)
      by_cases hi6 : i < 6
      ·
       have c2_ : decide ((i : Int) < 6) = true := decide_eq_true (by omega)
       obtain ⟨k1, rfl⟩ : ∃ k1, gk = k1 + 1 := ⟨gk - 1, by omega⟩
       have HGL := Aside0.mk (HG.out trivial i hil)
       obtain ⟨ad, Ai, ci, e, hx0, hci, hci2⟩ := at_L3 H2.out (i : Int) (by omega) (by omega)
       cases e
       rw [Int.toNat_natCast] at hx0
       have HX := Aside0.mk hx0
       have HCI := Aside0.mk hci2
       clear hx0 hci2
       generalize rd_L3 l2 i = l at HGL HX HCI hci
       have p1 := eq_true (show (0 : Int) ≤ (i : Int) by omega)
       have p2 := eq_true (show (i : Int) < (l2.length : Int) by omega)
       have p3 := eq_true hil
       have hcz2 : wr.cell? ⟨gb, 2, none⟩ = some (.slice (some ad) l2.length c2) := (blk_cell BKgb.out 2).trans rfl; have hfz2 := blk_frozen BKgb.out 2
       have hx := pw_cell_below HB.out HX.out
       obtain ⟨hlm, hgl⟩ := HGL.out
       rcases hgl with ⟨g1, -, -, -⟩ | ⟨s, g1, -, gr, -, -⟩
       ·
        have HSC := Aside0.mk g1
        clear g1
        go_wp2_with (first | (go_at_call 9; refine (HSC.out Ai ci _ hci (Kd.C_below HCI.out (by repeat (first | (with_reducible first | exact HB.out | apply below_alloc | apply pw_below_drewN | apply below_drew1) | exact HB.out)))).mono ?_; rintro e wq2 ⟨rfl, hb2⟩; have n3_ := Aside0.mk (Kd.R_below (by (with_reducible repeat (first | apply Kd.R_alloc | apply Kd.R_drewN | apply Kd.R_drew)); exact HR3.out) hb2); clear HR3; have HR3 := n3_; clear n3_; have n0_ := Aside0.mk (blk_below (g := gb) (o := .cells #[.slice A0 l0.length c0, .slice A1 l1.length c1, .slice (some ad) l2.length c2] 28 (0, 0)) (by (with_reducible repeat (first | refine blk_drewN ?_ _ | refine blk_drew ?_ | refine blk_alloc ?_ _)); exact BKgb.out) hb2); have n1_ := Aside0.mk (below_step (by repeat (first | (with_reducible first | exact HB.out | apply below_alloc | apply pw_below_drewN | apply below_drew1) | exact HB.out)) hb2); clear BKgb HB; have BKgb := n0_; have HB := n1_; clear n0_ n1_; (try clear hcz2 hfz2); have hcz2 : wq2.cell? ⟨gb, 2, none⟩ = some (.slice (some ad) l2.length c2) := (blk_cell BKgb.out 2).trans rfl; have hfz2 := blk_frozen BKgb.out 2; (try clear hx); have hx := pw_cell_below HB.out HX.out))
        go_roundg k1
        case measure => omega
        case rel => exact ⟨i + 1, ts, by first | rfl | (simp only [Int.natCast_add]; done) | (simp only [Int.natCast_add]; rfl), by omega, by omega, by omega, by omega, HR3, BKgb, HB⟩
       ·
        have HSC := Aside0.mk g1
        have HRP := Aside0.mk gr
        clear g1 gr
        go_wp2_with (first | (go_at_call 9; refine (HSC.out Ai ci _ hci (Kd.C_below HCI.out (by repeat (first | (with_reducible first | exact HB.out | apply below_alloc | apply pw_below_drewN | apply below_drew1) | exact HB.out)))).mono ?_; rintro e wq2 ⟨rfl, hb2⟩; have n3_ := Aside0.mk (Kd.R_below (by (with_reducible repeat (first | apply Kd.R_alloc | apply Kd.R_drewN | apply Kd.R_drew)); exact HR3.out) hb2); clear HR3; have HR3 := n3_; clear n3_; have n0_ := Aside0.mk (blk_below (g := gb) (o := .cells #[.slice A0 l0.length c0, .slice A1 l1.length c1, .slice (some ad) l2.length c2] 28 (0, 0)) (by (with_reducible repeat (first | refine blk_drewN ?_ _ | refine blk_drew ?_ | refine blk_alloc ?_ _)); exact BKgb.out) hb2); have n1_ := Aside0.mk (below_step (by repeat (first | (with_reducible first | exact HB.out | apply below_alloc | apply pw_below_drewN | apply below_drew1) | exact HB.out)) hb2); clear BKgb HB; have BKgb := n0_; have HB := n1_; clear n0_ n1_; (try clear hcz2 hfz2); have hcz2 : wq2.cell? ⟨gb, 2, none⟩ = some (.slice (some ad) l2.length c2) := (blk_cell BKgb.out 2).trans rfl; have hfz2 := blk_frozen BKgb.out 2; (try clear hx); have hx := pw_cell_below HB.out HX.out) | (go_at_call 10; refine (HRP.out Ai ci _ hci (Kd.C_below HCI.out (by repeat (first | (with_reducible first | exact HB.out | apply below_alloc | apply pw_below_drewN | apply below_drew1) | exact HB.out)))).mono ?_; rintro e wq4 ⟨rfl, hb2⟩; have n3_ := Aside0.mk (Kd.R_below (by (with_reducible repeat (first | apply Kd.R_alloc | apply Kd.R_drewN | apply Kd.R_drew)); exact HR3.out) hb2); clear HR3; have HR3 := n3_; clear n3_; have n0_ := Aside0.mk (blk_below (g := gb) (o := .cells #[.slice A0 l0.length c0, .slice A1 l1.length c1, .slice (some ad) l2.length c2] 28 (0, 0)) (by (with_reducible repeat (first | refine blk_drewN ?_ _ | refine blk_drew ?_ | refine blk_alloc ?_ _)); exact BKgb.out) hb2); have n1_ := Aside0.mk (below_step (by repeat (first | (with_reducible first | exact HB.out | apply below_alloc | apply pw_below_drewN | apply below_drew1) | exact HB.out)) hb2); clear BKgb HB; have BKgb := n0_; have HB := n1_; clear n0_ n1_; (try clear hcz2 hfz2); have hcz2 : wq4.cell? ⟨gb, 2, none⟩ = some (.slice (some ad) l2.length c2) := (blk_cell BKgb.out 2).trans rfl; have hfz2 := blk_frozen BKgb.out 2; (try clear hx); have hx := pw_cell_below HB.out HX.out) | ((with_reducible refine gate_builtin (b := .append) (xs := #[.tmp 48, .tmp 55]) rfl ?_); at_builtin; refine Kd.R_append Kd.string (w0 := w) w.heap.size rfl (.tmp 48) (.tmp 55) 22 9 (.string ⟨#[]⟩) 16 rfl Tryd.underlying22 info9 rfl (by decide) (by omega) u3 ts s [.string s] (fun _ => True) (fun _ => False) rfl ?aX ?aP (fun _ hk => hk.elim) ?aF ?aO ?aB ?aS ?aL ?_; (case aX => first | rfl | exact two_new _ _); (case aP => exact rfl); (case aB => exact HB.out); (case aF => exact (fun _ _ => trivial)); (case aO => exact HR3.out); (case aS => exact (below_size HB.out)); (case aL => omega); intro v34 w29 ho hb hg hat; have n9_ := Aside0.mk (blk_grown hg (by (with_reducible repeat (first | refine blk_drewN ?_ _ | refine blk_drew ?_ | refine blk_alloc ?_ _)); exact BKgb.out) (Kd.R_ne HR3.out BKgb.out (by decide))); clear BKgb; have BKgb := n9_; clear n9_; clear HB HR3; have HB := Aside0.mk hb; have HR3 := Aside0.mk ho; clear ho hb hg hat))
        go_roundg k1
        case measure => omega
        case rel => exact ⟨i + 1, _, by first | rfl | (simp only [Int.natCast_add]; done) | (simp only [Int.natCast_add]; rfl), by omega, by omega, by omega, by rw [List.length_append, List.length_singleton]; omega, HR3, BKgb, HB⟩
      ·
       have c2_ : decide ((i : Int) < 6) = false := decide_eq_false (by omega)
       have hcz2 : wr.cell? ⟨gb, 2, none⟩ = some (.slice A2 l2.length c2) := (blk_cell BKgb.out 2).trans rfl; have hfz2 := blk_frozen BKgb.out 2
       go_wp2
       go_meet
       case rel => exact ⟨ts, by omega, HR3, BKgb, HB⟩
     ·
      have c1_ : decide ((i : Int) < (l2.length : Int)) = false := decide_eq_false (by omega)
      have hcz2 : wr.cell? ⟨gb, 2, none⟩ = some (.slice A2 l2.length c2) := (blk_cell BKgb.out 2).trans rfl; have hfz2 := blk_frozen BKgb.out 2
      go_wp2
      go_meet
      case rel => exact ⟨ts, by omega, HR3, BKgb, HB⟩
   case rest =>
    clear HB HR3 BKgb hts0
    obtain ⟨ts, htl, HR3, -, HBY⟩ := hcut
    obtain ⟨A3, c3, rfl, hc3, hC3⟩ := Kd.R_reads HR3.out
    have HC3 := Aside0.mk hC3
    clear hC3 HR3
    generalize wc = wd at HC3 HBY ⊢
    have HTD : Aside0 (Tab wd) := ⟨Lib_tab HT.out HBY.out⟩
    have HB := Aside0.mk (Below.refl wd.heap.size wd)
    go_wp2
    go_loopg [5] ts.length (fun kq v5 w' => ∃ i : Nat, v5 = .int .i64 i ∧ i ≤ ts.length ∧ i + kq = ts.length ∧ Aside0 (Below wd.heap.size wd w'))
    case atStart => exact ⟨0, rfl, by omega, by omega, HB⟩
    case round =>
     clear HB
     obtain ⟨i, rfl, hi, hk, HB⟩ := hrel
     by_cases hil : i < ts.length
     ·
      have c1_ : decide ((i : Int) < (ts.length : Int)) = true := decide_eq_true (by omega)
      obtain ⟨k1, rfl⟩ : ∃ k1, gk = k1 + 1 := ⟨gk - 1, by omega⟩
      obtain ⟨an, ean, hm0⟩ := str_at HC3.out (i : Int) (by omega) (by omega)
      cases ean
      rw [Int.toNat_natCast] at hm0
      obtain ⟨s, hs⟩ : ∃ s, ts.getD i ⟨#[]⟩ = s := ⟨_, rfl⟩
      have hmc : wd.cell? (an.add i) = some (.string s) := by rw [← hs]; exact hm0
      clear hm0 hs
      obtain ⟨toks, ⟨at_, ec0, hwt⟩, htk, hsz, hpt⟩ := HWO.out s
      have HWT := Aside0.mk hwt
      have HPT := Aside0.mk hpt
      clear hwt hpt
      have hmk := pw_cell_below HB.out hmc
      have hm := hmk
      have r1 := eq_true (show (0 : Int) ≤ (i : Int) by omega)
      have r2 := eq_true (show (i : Int) < (ts.length : Int) by omega)
      have r3 := eq_true hil
      generalize wr = wk at HB hm hmk ⊢
      have HBV := HB
      clear HB
      have HB := Aside0.mk (Below.refl wk.heap.size wk)
      go_upto_block 4 with (first | (go_at_call 11; refine (HWT.out _).mono ?_; rintro e wq1 ⟨v6_, rfl, hR6, hb2⟩; obtain ⟨At, ct, rfl, hct, hCt⟩ := Kd.R_reads hR6; have HCT := Aside0.mk hCt; clear hR6 hCt; have HBQ := Aside0.mk (below_step (by repeat (first | (with_reducible first | exact HB.out | apply below_alloc | apply pw_below_drewN | apply below_drew1) | exact HB.out)) hb2); clear HB hm hb2; have hmq := pw_cell_below HBQ.out hmk; have hm := hmq; have HB := Aside0.mk (Below.refl wq1.heap.size wq1)) | ((with_reducible refine gate_dst (N := 76) rfl ?_); refine Kd.R_lit Kd.string _ 9 ?hg (N := 76) ?hd (xs := ([s] : List ByteArray)) (inner := [.string s]) (ok := fun _ => True) (okp := fun _ => False) ?hr ?hp (fun _ hk => hk.elim) trivial (Below.refl _ _) (Nat.le_refl _) (by simp) ?_; (case hd => rfl); (case hg => rfl); (case hr => first | (go_simp; done) | (go_simp; rfl)); (case hp => exact (Reps.one (show Kd.M Kd.string _ _ _ (s : ByteArray) [.string (s)] from rfl) (Reps.none _ _))); intro v5_ w7 ho hb2 hg_ hnew_; clear hg_ hnew_; have HR9 := Aside0.mk (Kd.R_lower ho (below_size (by repeat (first | (with_reducible first | exact HB.out | apply below_alloc | apply pw_below_drewN | apply below_drew1) | exact HB.out)))); clear ho; have n0_ := Aside0.mk (below_step (by repeat (first | (with_reducible first | exact HB.out | apply below_alloc | apply pw_below_drewN | apply below_drew1) | exact HB.out)) hb2); clear HB; have HB := n0_; clear n0_ hb2; (try clear hm); have hm := pw_cell_below HB.out hmq))
      go_cut [9] (fun v9 wc => ∃ all : List ByteArray, all.length ≤ 11 ∧ Aside0 (Kd.R Kd.string 9 wc wq1.heap.size (fun _ => True) v9 all) ∧ Aside0 (Below wq1.heap.size wq1 wc))
      case first =>
       go_wp2
       go_loopg [9, 10] 10 (fun kq v9 v10 w' => ∃ (k : Nat) (all : List ByteArray), v10 = .int .i64 k ∧ k + kq = 10 ∧ all.length ≤ 1 + k ∧ Aside0 (Kd.R Kd.string 9 w' wq1.heap.size (fun _ => True) v9 all) ∧ Aside0 (Below wq1.heap.size wq1 w'))
       case atStart => exact ⟨0, [s], rfl, by omega, by simp, HR9, HB⟩
       case round =>
        clear HR9 hm HB
        obtain ⟨k, all, rfl, hkq, hal, HR9, HB⟩ := hrel
        by_cases hk10 : k < 10
        ·
         have d1 : decide ((k : Int) < 10) = true := decide_eq_true (by omega)
         by_cases ht : 0 < toks.length
         ·
          have d2 : decide (0 < (toks.length : Int)) = true := decide_eq_true (by omega)
          obtain ⟨k2, rfl⟩ : ∃ k2, gk = k2 + 1 := ⟨gk - 1, by omega⟩
          obtain ⟨j, hwi, hjl⟩ := wi_at k toks.length i hk10 htk (by omega) ht
          have HWI := Aside0.mk hwi
          clear hwi
          obtain ⟨at1, eat, hy0_, hy1_⟩ := at_T39 HCT.out (j : Int) (by omega) (by omega)
          cases eat
          rw [Int.toNat_natCast] at hy0_ hy1_
          have hxm : rd_T39 toks j ∈ toks := by
           unfold rd_T39
           rw [Int.toNat_natCast, List.getD_eq_getElem?_getD, List.getElem?_eq_getElem hjl]
           exact List.getElem_mem hjl
          obtain ⟨hp0, hp1⟩ := HPT.out _ hxm
          have hs3 := hsz (by intro e; rw [e] at ht; exact absurd ht (by decide))
          generalize rd_T39 toks j = x at hy0_ hy1_ hp0 hp1
          obtain ⟨xs, xf⟩ := x
          obtain ⟨fr, rfl⟩ := Int.eq_ofNat_of_zero_le hp0
          obtain ⟨tt, htt⟩ : ∃ tt : Nat, fr + xs.size = tt := ⟨_, rfl⟩
          have hfs : fr + xs.size ≤ s.size := by have h9 : (fr : Int) + (xs.size : Int) ≤ (s.size : Int) := hp1; omega
          have hy0 : wq1.cell? (at1.add (j * 2)) = some (.string xs) := hy0_
          have hy1 : wq1.cell? ⟨(at1.add (j * 2)).block, (at1.add (j * 2)).off + 1, none⟩ = some (.int .i64 (fr : Int)) := hy1_
          have hfr : fr ≤ s.size := by omega
          have htt2 : tt ≤ s.size := by omega
          have hxs : xs.size ≤ s.size := by omega
          have hi12 : i ≤ 1000 := by omega
          clear hy0_ hy1_ hp0 hp1 hxm
          have s1 := eq_true (show (0 : Int) ≤ (j : Int) by omega)
          have s2_ := eq_true (show (j : Int) < (toks.length : Int) by omega)
          have s3 := eq_true hjl
          go_upto_region 20 with (first | (go_at_call 12; refine (amanuensislaw0_Within.calls _ _ _ _ HWI.out).mono ?_; rintro e wq5 ⟨rfl, hd5⟩; have hb2 := below_drawn hd5; have n0_ := Aside0.mk (below_step (by repeat (first | (with_reducible first | exact HB.out | apply below_alloc | apply pw_below_drewN | apply below_drew1) | exact HB.out)) hb2); have n1_ := Aside0.mk (Kd.R_below (by (with_reducible repeat (first | apply Kd.R_alloc | apply Kd.R_drewN | apply Kd.R_drew)); exact HR9.out) hb2); clear HB HR9 hd5 hb2; have HB := n0_; have HR9 := n1_; clear n0_ n1_))
          go_cut [12, 13] (fun v12 v13 wc => v12 = .int .i64 (fr : Int) ∧ v13 = .int .i64 (tt : Int) ∧ Aside0 (Kd.R Kd.string 9 wc wq1.heap.size (fun _ => True) u9 all) ∧ Aside0 (Below wq1.heap.size wq1 wc))
          case first =>
           obtain ⟨ef, ef2, ef3⟩ := wrap_sum fr xs.size tt htt (Nat.le_trans htt2 (Nat.le_trans hs3 (by decide)))
           have hb5 : Below wq5.heap.size wq5 wq5.drew := below_drew1 (Below.refl _ _)
           have n0_ := Aside0.mk (below_step HB.out hb5)
           have n1_ := Aside0.mk (Kd.R_below HR9.out hb5)
           clear HB HR9 hb5
           have HB := n0_
           have HR9 := n1_
           clear n0_ n1_
           refine start_ (n := 19) (S := fun w' => w'.cell? (at1.add (j * 2)) = some (.string xs) ∧ w'.cell? ⟨(at1.add (j * 2)).block, (at1.add (j * 2)).off + 1, none⟩ = some (.int .i64 (fr : Int))) (ds := []) #[false, false, false, false, false, false, false, false, false, false, false, false, false, false, false, false, false, false, false] (by kernel_rfl) rfl rfl ⟨pw_cell_below HB.out hy0, pw_cell_below HB.out hy1⟩ (fun hHeld => ?_)
           generalize wq5.drew = w6 at HB HR9 hHeld ⊢
           refine pure_ (i := 0) (N := some 96) (v := ?_) (a' := ?_) #[true, false, false, false, false, false, false, false, false, false, false, false, false, false, false, false, false, false, false] rfl rfl (by kernel_rfl) (fun _ _ _ h => h) (Or.inl ⟨by rfl, ?_⟩) ?_ ?_
           rotate_left
           ·
            intro w'
            go_simp
            with_reducible rfl
           rotate_left
           ·
            simp only [Act.put, List.setIfInBounds_toArray, List.set_cons_zero, List.set_cons_succ, i64_w, i32_w]
            rfl
           refine pure_ (i := 1) (N := some 97) (v := ?_) (a' := ?_) #[true, true, false, false, false, false, false, false, false, false, false, false, false, false, false, false, false, false, false] rfl rfl (by kernel_rfl) (fun _ _ _ h => h) (Or.inl ⟨by rfl, ?_⟩) ?_ ?_
           rotate_left
           ·
            intro w'
            go_simp
            with_reducible rfl
           rotate_left
           ·
            simp only [Act.put, List.setIfInBounds_toArray, List.set_cons_zero, List.set_cons_succ, i64_w, i32_w]
            rfl
           refine pure_ (i := 2) (N := some 98) (v := ?_) (a' := ?_) #[true, true, true, false, false, false, false, false, false, false, false, false, false, false, false, false, false, false, false] rfl rfl (by kernel_rfl) (fun _ _ _ h => h) (Or.inl ⟨by rfl, ?_⟩) ?_ ?_
           rotate_left
           ·
            intro w'
            go_simp
            with_reducible rfl
           rotate_left
           ·
            simp only [Act.put, List.setIfInBounds_toArray, List.set_cons_zero, List.set_cons_succ, i64_w, i32_w]
            rfl
           refine pure_ (i := 3) (N := some 99) (v := ?_) (a' := ?_) #[true, true, true, true, false, false, false, false, false, false, false, false, false, false, false, false, false, false, false] rfl rfl (by kernel_rfl) (fun _ _ _ h => h) (Or.inl ⟨by rfl, ?_⟩) ?_ ?_
           rotate_left
           ·
            intro w'
            go_simp
            with_reducible rfl
           rotate_left
           ·
            simp only [Act.put, List.setIfInBounds_toArray, List.set_cons_zero, List.set_cons_succ, i64_w, i32_w]
            rfl
           refine take_ (i := 4) (N := some 100) (v := ?_) (a' := ?_) #[true, true, true, true, true, false, false, false, false, false, false, false, false, false, false, false, false, false, false] rfl rfl (by kernel_rfl) (fun _ _ _ h => h) (Or.inl ⟨by rfl, ?_⟩) hHeld ?_ ?_
           rotate_left
           ·
            rintro w' ⟨s0, s1⟩
            go_simp
            with_reducible rfl
           rotate_left
           ·
            simp only [Act.put, List.setIfInBounds_toArray, List.set_cons_zero, List.set_cons_succ, i64_w, i32_w]
            rfl
           refine pure_ (i := 5) (N := some 101) (v := ?_) (a' := ?_) #[true, true, true, true, true, true, false, false, false, false, false, false, false, false, false, false, false, false, false] rfl rfl (by kernel_rfl) (fun _ _ _ h => h) (Or.inl ⟨by rfl, ?_⟩) ?_ ?_
           rotate_left
           ·
            intro w'
            go_simp
            with_reducible rfl
           rotate_left
           ·
            simp only [Act.put, List.setIfInBounds_toArray, List.set_cons_zero, List.set_cons_succ, i64_w, i32_w]
            rfl
           refine pure_ (i := 6) (N := some 102) (v := ?_) (a' := ?_) #[true, true, true, true, true, true, true, false, false, false, false, false, false, false, false, false, false, false, false] rfl rfl (by kernel_rfl) (fun _ _ _ h => h) (Or.inl ⟨by rfl, ?_⟩) ?_ ?_
           rotate_left
           ·
            intro w'
            go_simp
            with_reducible rfl
           rotate_left
           ·
            simp only [Act.put, List.setIfInBounds_toArray, List.set_cons_zero, List.set_cons_succ, i64_w, i32_w]
            rfl
           refine pure_ (i := 7) (N := some 103) (v := ?_) (a' := ?_) #[true, true, true, true, true, true, true, true, false, false, false, false, false, false, false, false, false, false, false] rfl rfl (by kernel_rfl) (fun _ _ _ h => h) (Or.inl ⟨by rfl, ?_⟩) ?_ ?_
           rotate_left
           ·
            intro w'
            go_simp
            with_reducible rfl
           rotate_left
           ·
            simp only [Act.put, List.setIfInBounds_toArray, List.set_cons_zero, List.set_cons_succ, i64_w, i32_w]
            rfl
           refine pure_ (i := 8) (N := some 104) (v := ?_) (a' := ?_) #[true, true, true, true, true, true, true, true, true, false, false, false, false, false, false, false, false, false, false] rfl rfl (by kernel_rfl) (fun _ _ _ h => h) (Or.inl ⟨by rfl, ?_⟩) ?_ ?_
           rotate_left
           ·
            intro w'
            go_simp
            with_reducible rfl
           rotate_left
           ·
            simp only [Act.put, List.setIfInBounds_toArray, List.set_cons_zero, List.set_cons_succ, i64_w, i32_w]
            rfl
           refine take_ (i := 9) (N := some 105) (v := ?_) (a' := ?_) #[true, true, true, true, true, true, true, true, true, true, false, false, false, false, false, false, false, false, false] rfl rfl (by kernel_rfl) (fun _ _ _ h => h) (Or.inl ⟨by rfl, ?_⟩) hHeld ?_ ?_
           rotate_left
           ·
            rintro w' ⟨s0, s1⟩
            go_simp
            with_reducible rfl
           rotate_left
           ·
            simp only [Act.put, List.setIfInBounds_toArray, List.set_cons_zero, List.set_cons_succ, i64_w, i32_w]
            rfl
           refine pure_ (i := 10) (N := some 106) (v := ?_) (a' := ?_) #[true, true, true, true, true, true, true, true, true, true, true, false, false, false, false, false, false, false, false] rfl rfl (by kernel_rfl) (fun _ _ _ h => h) (Or.inl ⟨by rfl, ?_⟩) ?_ ?_
           rotate_left
           ·
            intro w'
            go_simp
            with_reducible rfl
           rotate_left
           ·
            simp only [Act.put, List.setIfInBounds_toArray, List.set_cons_zero, List.set_cons_succ, i64_w, i32_w]
            rfl
           refine pure_ (i := 11) (N := some 107) (v := ?_) (a' := ?_) #[true, true, true, true, true, true, true, true, true, true, true, true, false, false, false, false, false, false, false] rfl rfl (by kernel_rfl) (fun _ _ _ h => h) (Or.inl ⟨by rfl, ?_⟩) ?_ ?_
           rotate_left
           ·
            intro w'
            go_simp
            with_reducible rfl
           rotate_left
           ·
            simp only [Act.put, List.setIfInBounds_toArray, List.set_cons_zero, List.set_cons_succ, i64_w, i32_w]
            rfl
           refine pure_ (i := 12) (N := some 108) (v := ?_) (a' := ?_) #[true, true, true, true, true, true, true, true, true, true, true, true, true, false, false, false, false, false, false] rfl rfl (by kernel_rfl) (fun _ _ _ h => h) (Or.inl ⟨by rfl, ?_⟩) ?_ ?_
           rotate_left
           ·
            intro w'
            go_simp
            with_reducible rfl
           rotate_left
           ·
            simp only [Act.put, List.setIfInBounds_toArray, List.set_cons_zero, List.set_cons_succ, i64_w, i32_w]
            rfl
           refine pure_ (i := 13) (N := some 109) (v := ?_) (a' := ?_) #[true, true, true, true, true, true, true, true, true, true, true, true, true, true, false, false, false, false, false] rfl rfl (by kernel_rfl) (fun _ _ _ h => h) (Or.inl ⟨by rfl, ?_⟩) ?_ ?_
           rotate_left
           ·
            intro w'
            go_simp
            with_reducible rfl
           rotate_left
           ·
            simp only [Act.put, List.setIfInBounds_toArray, List.set_cons_zero, List.set_cons_succ, i64_w, i32_w]
            rfl
           refine take_ (i := 14) (N := some 110) (v := ?_) (a' := ?_) #[true, true, true, true, true, true, true, true, true, true, true, true, true, true, true, false, false, false, false] rfl rfl (by kernel_rfl) (fun _ _ _ h => h) (Or.inl ⟨by rfl, ?_⟩) hHeld ?_ ?_
           rotate_left
           ·
            rintro w' ⟨s0, s1⟩
            go_simp
            with_reducible rfl
           rotate_left
           ·
            simp only [Act.put, List.setIfInBounds_toArray, List.set_cons_zero, List.set_cons_succ, i64_w, i32_w]
            rfl
           refine pure_ (i := 15) (N := some 111) (v := ?_) (a' := ?_) #[true, true, true, true, true, true, true, true, true, true, true, true, true, true, true, true, false, false, false] rfl rfl (by kernel_rfl) (fun _ _ _ h => h) (Or.inl ⟨by rfl, ?_⟩) ?_ ?_
           rotate_left
           ·
            intro w'
            go_simp
            with_reducible rfl
           rotate_left
           ·
            simp only [Act.put, List.setIfInBounds_toArray, List.set_cons_zero, List.set_cons_succ, i64_w, i32_w]
            rfl
           refine pure_ (i := 16) (N := some 112) (v := ?_) (a' := ?_) #[true, true, true, true, true, true, true, true, true, true, true, true, true, true, true, true, true, false, false] rfl rfl (by kernel_rfl) (fun _ _ _ h => h) (Or.inl ⟨by rfl, ?_⟩) ?_ ?_
           rotate_left
           ·
            intro w'
            go_simp
            with_reducible rfl
           rotate_left
           ·
            simp only [Act.put, List.setIfInBounds_toArray, List.set_cons_zero, List.set_cons_succ, i64_w, i32_w]
            rfl
           refine pure_ (i := 17) (N := some 12) (v := ?_) (a' := ?_) #[true, true, true, true, true, true, true, true, true, true, true, true, true, true, true, true, true, true, false] rfl rfl (by kernel_rfl) (fun _ _ _ h => h) (Or.inl ⟨by rfl, ?_⟩) ?_ ?_
           rotate_left
           ·
            intro w'
            go_simp
            with_reducible rfl
           rotate_left
           ·
            simp only [Act.put, List.setIfInBounds_toArray, List.set_cons_zero, List.set_cons_succ, i64_w, i32_w]
            rfl
           refine pure_ (i := 18) (N := some 13) (v := ?_) (a' := ?_) #[true, true, true, true, true, true, true, true, true, true, true, true, true, true, true, true, true, true, true] rfl rfl (by kernel_rfl) (fun _ _ _ h => h) (Or.inl ⟨by rfl, ?_⟩) ?_ ?_
           rotate_left
           ·
            intro w'
            go_simp
            with_reducible rfl
           rotate_left
           ·
            simp only [Act.put, List.setIfInBounds_toArray, List.set_cons_zero, List.set_cons_succ, i64_w, i32_w]
            rfl
           refine done_ (by kernel_rfl) ?_
           go_wp2
           go_meet
           case rel => exact ⟨rfl, by first | rfl | rw [ef] | rw [ef3] | rw [ef2], HR9, HB⟩
          case rest =>
           clear HR9 HB
           obtain ⟨rfl, rfl, HR9, HB⟩ := hcut
           generalize wc = we at HR9 HB ⊢
           have hm := pw_cell_below HB.out hmq
           go_upto_block 6 with (fail)
           have hq3 := q3_at k
           generalize (k : Int) % 3 = q at hq3 ⊢
           go_cut [14] (fun v14 wc => ∃ sv : ByteArray, v14 = .string sv ∧ Aside0 (Kd.R Kd.string 9 wc wq1.heap.size (fun _ => True) u9 all) ∧ Aside0 (Below wq1.heap.size wq1 wc))
           case first =>
            obtain ⟨b1, b2, b3⟩ := le_facts fr s.size hfr
            obtain ⟨b4, b5, b6⟩ := le_facts tt s.size htt2
            obtain ⟨z1, z2a, z2b, z3, z4a, z4b, z5a, z5b, z6a, z6b⟩ := zs_one s xs fr tt hfr htt2 hxs hs3
            rcases hq3 with rfl | rfl | rfl
            ·
             go_wp2
             have hb5 : Below we.heap.size we we.drew := below_drew1 (Below.refl _ _)
             have n0_ := Aside0.mk (below_step HB.out hb5)
             have n1_ := Aside0.mk (Kd.R_below HR9.out hb5)
             clear HB HR9 hb5
             have HB := n0_
             have HR9 := n1_
             clear n0_ n1_
             refine start_ (n := 9) (S := fun w' => True) (ds := []) #[false, false, false, false, false, false, false, false, false] (by kernel_rfl) rfl rfl trivial (fun hHeld => ?_)
             generalize we.drew = w6 at HB HR9 hHeld ⊢
             refine pure_ (i := 0) (N := some 136) (v := ?_) (a' := ?_) #[true, false, false, false, false, false, false, false, false] rfl rfl (by kernel_rfl) (fun _ _ _ h => h) (Or.inl ⟨by rfl, ?_⟩) ?_ ?_
             rotate_left
             ·
              intro w'
              go_simp
              with_reducible rfl
             rotate_left
             ·
              simp only [Act.put, List.setIfInBounds_toArray, List.set_cons_zero, List.set_cons_succ, i64_w, i32_w]
              rfl
             refine pure_ (i := 1) (N := some 137) (v := ?_) (a' := ?_) #[true, true, false, false, false, false, false, false, false] rfl rfl (by kernel_rfl) (fun _ _ _ h => h) (Or.inl ⟨by rfl, ?_⟩) ?_ ?_
             rotate_left
             ·
              intro w'
              go_simp
              with_reducible rfl
             rotate_left
             ·
              simp only [Act.put, List.setIfInBounds_toArray, List.set_cons_zero, List.set_cons_succ, i64_w, i32_w]
              rfl
             refine pure_ (i := 2) (N := some 138) (v := ?_) (a' := ?_) #[true, true, true, false, false, false, false, false, false] rfl rfl (by kernel_rfl) (fun _ _ _ h => h) (Or.inl ⟨by rfl, ?_⟩) ?_ ?_
             rotate_left
             ·
              intro w'
              go_simp
              with_reducible rfl
             rotate_left
             ·
              simp only [Act.put, List.setIfInBounds_toArray, List.set_cons_zero, List.set_cons_succ, i64_w, i32_w]
              rfl
             refine pure_ (i := 3) (N := some 139) (v := ?_) (a' := ?_) #[true, true, true, true, false, false, false, false, false] rfl rfl (by kernel_rfl) (fun _ _ _ h => h) (Or.inl ⟨by rfl, ?_⟩) ?_ ?_
             rotate_left
             ·
              intro w'
              go_simp
              with_reducible rfl
             rotate_left
             ·
              simp only [Act.put, List.setIfInBounds_toArray, List.set_cons_zero, List.set_cons_succ, i64_w, i32_w]
              rfl
             refine pure_ (i := 4) (N := some 140) (v := ?_) (a' := ?_) #[true, true, true, true, true, false, false, false, false] rfl rfl (by kernel_rfl) (fun _ _ _ h => h) (Or.inl ⟨by rfl, ?_⟩) ?_ ?_
             rotate_left
             ·
              intro w'
              go_simp
              with_reducible rfl
             rotate_left
             ·
              simp only [Act.put, List.setIfInBounds_toArray, List.set_cons_zero, List.set_cons_succ, i64_w, i32_w]
              rfl
             refine pure_ (i := 5) (N := some 141) (v := ?_) (a' := ?_) #[true, true, true, true, true, true, false, false, false] rfl rfl (by kernel_rfl) (fun _ _ _ h => h) (Or.inl ⟨by rfl, ?_⟩) ?_ ?_
             rotate_left
             ·
              intro w'
              go_simp
              with_reducible rfl
             rotate_left
             ·
              simp only [Act.put, List.setIfInBounds_toArray, List.set_cons_zero, List.set_cons_succ, i64_w, i32_w]
              rfl
             refine pure_ (i := 6) (N := some 142) (v := ?_) (a' := ?_) #[true, true, true, true, true, true, true, false, false] rfl rfl (by kernel_rfl) (fun _ _ _ h => h) (Or.inl ⟨by rfl, ?_⟩) ?_ ?_
             rotate_left
             ·
              intro w'
              go_simp
              with_reducible rfl
             rotate_left
             ·
              simp only [Act.put, List.setIfInBounds_toArray, List.set_cons_zero, List.set_cons_succ, i64_w, i32_w]
              rfl
             refine pure_ (i := 7) (N := some 143) (v := ?_) (a' := ?_) #[true, true, true, true, true, true, true, true, false] rfl rfl (by kernel_rfl) (fun _ _ _ h => h) (Or.inl ⟨by rfl, ?_⟩) ?_ ?_
             rotate_left
             ·
              intro w'
              go_simp
              with_reducible rfl
             rotate_left
             ·
              simp only [Act.put, List.setIfInBounds_toArray, List.set_cons_zero, List.set_cons_succ, i64_w, i32_w]
              rfl
             refine pure_ (i := 8) (N := some 14) (v := ?_) (a' := ?_) #[true, true, true, true, true, true, true, true, true] rfl rfl (by kernel_rfl) (fun _ _ _ h => h) (Or.inl ⟨by rfl, ?_⟩) ?_ ?_
             rotate_left
             ·
              intro w'
              go_simp
              with_reducible rfl
             rotate_left
             ·
              simp only [Act.put, List.setIfInBounds_toArray, List.set_cons_zero, List.set_cons_succ, i64_w, i32_w]
              rfl
             refine done_ (by kernel_rfl) ?_
             go_wp2
             go_meet
             case rel => exact ⟨_, rfl, HR9, HB⟩
            ·
             go_wp2
             have hb5 : Below we.heap.size we we.drew := below_drew1 (Below.refl _ _)
             have n0_ := Aside0.mk (below_step HB.out hb5)
             have n1_ := Aside0.mk (Kd.R_below HR9.out hb5)
             clear HB HR9 hb5
             have HB := n0_
             have HR9 := n1_
             clear n0_ n1_
             refine start_ (n := 16) (S := fun w' => w'.cell? (at1.add (j * 2)) = some (.string xs)) (ds := []) #[false, false, false, false, false, false, false, false, false, false, false, false, false, false, false, false] (by kernel_rfl) rfl rfl (pw_cell_below HB.out hy0) (fun hHeld => ?_)
             generalize we.drew = w6 at HB HR9 hHeld ⊢
             refine pure_ (i := 0) (N := some 146) (v := ?_) (a' := ?_) #[true, false, false, false, false, false, false, false, false, false, false, false, false, false, false, false] rfl rfl (by kernel_rfl) (fun _ _ _ h => h) (Or.inl ⟨by rfl, ?_⟩) ?_ ?_
             rotate_left
             ·
              intro w'
              go_simp
              with_reducible rfl
             rotate_left
             ·
              simp only [Act.put, List.setIfInBounds_toArray, List.set_cons_zero, List.set_cons_succ, i64_w, i32_w]
              rfl
             refine pure_ (i := 1) (N := some 147) (v := ?_) (a' := ?_) #[true, true, false, false, false, false, false, false, false, false, false, false, false, false, false, false] rfl rfl (by kernel_rfl) (fun _ _ _ h => h) (Or.inl ⟨by rfl, ?_⟩) ?_ ?_
             rotate_left
             ·
              intro w'
              go_simp
              with_reducible rfl
             rotate_left
             ·
              simp only [Act.put, List.setIfInBounds_toArray, List.set_cons_zero, List.set_cons_succ, i64_w, i32_w]
              rfl
             refine pure_ (i := 2) (N := some 148) (v := ?_) (a' := ?_) #[true, true, true, false, false, false, false, false, false, false, false, false, false, false, false, false] rfl rfl (by kernel_rfl) (fun _ _ _ h => h) (Or.inl ⟨by rfl, ?_⟩) ?_ ?_
             rotate_left
             ·
              intro w'
              go_simp
              with_reducible rfl
             rotate_left
             ·
              simp only [Act.put, List.setIfInBounds_toArray, List.set_cons_zero, List.set_cons_succ, i64_w, i32_w]
              rfl
             refine pure_ (i := 3) (N := some 149) (v := ?_) (a' := ?_) #[true, true, true, true, false, false, false, false, false, false, false, false, false, false, false, false] rfl rfl (by kernel_rfl) (fun _ _ _ h => h) (Or.inl ⟨by rfl, ?_⟩) ?_ ?_
             rotate_left
             ·
              intro w'
              go_simp
              with_reducible rfl
             rotate_left
             ·
              simp only [Act.put, List.setIfInBounds_toArray, List.set_cons_zero, List.set_cons_succ, i64_w, i32_w]
              rfl
             refine pure_ (i := 4) (N := some 150) (v := ?_) (a' := ?_) #[true, true, true, true, true, false, false, false, false, false, false, false, false, false, false, false] rfl rfl (by kernel_rfl) (fun _ _ _ h => h) (Or.inl ⟨by rfl, ?_⟩) ?_ ?_
             rotate_left
             ·
              intro w'
              go_simp
              with_reducible rfl
             rotate_left
             ·
              simp only [Act.put, List.setIfInBounds_toArray, List.set_cons_zero, List.set_cons_succ, i64_w, i32_w]
              rfl
             refine pure_ (i := 5) (N := some 151) (v := ?_) (a' := ?_) #[true, true, true, true, true, true, false, false, false, false, false, false, false, false, false, false] rfl rfl (by kernel_rfl) (fun _ _ _ h => h) (Or.inl ⟨by rfl, ?_⟩) ?_ ?_
             rotate_left
             ·
              intro w'
              go_simp
              with_reducible rfl
             rotate_left
             ·
              simp only [Act.put, List.setIfInBounds_toArray, List.set_cons_zero, List.set_cons_succ, i64_w, i32_w]
              rfl
             refine pure_ (i := 6) (N := some 152) (v := ?_) (a' := ?_) #[true, true, true, true, true, true, true, false, false, false, false, false, false, false, false, false] rfl rfl (by kernel_rfl) (fun _ _ _ h => h) (Or.inl ⟨by rfl, ?_⟩) ?_ ?_
             rotate_left
             ·
              intro w'
              go_simp
              with_reducible rfl
             rotate_left
             ·
              simp only [Act.put, List.setIfInBounds_toArray, List.set_cons_zero, List.set_cons_succ, i64_w, i32_w]
              rfl
             refine pure_ (i := 7) (N := some 153) (v := ?_) (a' := ?_) #[true, true, true, true, true, true, true, true, false, false, false, false, false, false, false, false] rfl rfl (by kernel_rfl) (fun _ _ _ h => h) (Or.inl ⟨by rfl, ?_⟩) ?_ ?_
             rotate_left
             ·
              intro w'
              go_simp
              with_reducible rfl
             rotate_left
             ·
              simp only [Act.put, List.setIfInBounds_toArray, List.set_cons_zero, List.set_cons_succ, i64_w, i32_w]
              rfl
             refine take_ (i := 8) (N := some 154) (v := ?_) (a' := ?_) #[true, true, true, true, true, true, true, true, true, false, false, false, false, false, false, false] rfl rfl (by kernel_rfl) (fun _ _ _ h => h) (Or.inl ⟨by rfl, ?_⟩) hHeld ?_ ?_
             rotate_left
             ·
              intro w' s0
              go_simp
              with_reducible rfl
             rotate_left
             ·
              simp only [Act.put, List.setIfInBounds_toArray, List.set_cons_zero, List.set_cons_succ, i64_w, i32_w]
              rfl
             refine pure_ (i := 9) (N := some 155) (v := ?_) (a' := ?_) #[true, true, true, true, true, true, true, true, true, true, false, false, false, false, false, false] rfl rfl (by kernel_rfl) (fun _ _ _ h => h) (Or.inl ⟨by rfl, ?_⟩) ?_ ?_
             rotate_left
             ·
              intro w'
              go_simp
              with_reducible rfl
             rotate_left
             ·
              simp only [Act.put, List.setIfInBounds_toArray, List.set_cons_zero, List.set_cons_succ, i64_w, i32_w]
              rfl
             refine pure_ (i := 10) (N := some 156) (v := ?_) (a' := ?_) #[true, true, true, true, true, true, true, true, true, true, true, false, false, false, false, false] rfl rfl (by kernel_rfl) (fun _ _ _ h => h) (Or.inl ⟨by rfl, ?_⟩) ?_ ?_
             rotate_left
             ·
              intro w'
              go_simp
              with_reducible rfl
             rotate_left
             ·
              simp only [Act.put, List.setIfInBounds_toArray, List.set_cons_zero, List.set_cons_succ, i64_w, i32_w]
              rfl
             refine pure_ (i := 11) (N := some 157) (v := ?_) (a' := ?_) #[true, true, true, true, true, true, true, true, true, true, true, true, false, false, false, false] rfl rfl (by kernel_rfl) (fun _ _ _ h => h) (Or.inl ⟨by rfl, ?_⟩) ?_ ?_
             rotate_left
             ·
              intro w'
              go_simp
              with_reducible rfl
             rotate_left
             ·
              simp only [Act.put, List.setIfInBounds_toArray, List.set_cons_zero, List.set_cons_succ, i64_w, i32_w]
              rfl
             refine pure_ (i := 12) (N := some 158) (v := ?_) (a' := ?_) #[true, true, true, true, true, true, true, true, true, true, true, true, true, false, false, false] rfl rfl (by kernel_rfl) (fun _ _ _ h => h) (Or.inl ⟨by rfl, ?_⟩) ?_ ?_
             rotate_left
             ·
              intro w'
              go_simp
              with_reducible rfl
             rotate_left
             ·
              simp only [Act.put, List.setIfInBounds_toArray, List.set_cons_zero, List.set_cons_succ, i64_w, i32_w]
              rfl
             refine pure_ (i := 13) (N := some 159) (v := ?_) (a' := ?_) #[true, true, true, true, true, true, true, true, true, true, true, true, true, true, false, false] rfl rfl (by kernel_rfl) (fun _ _ _ h => h) (Or.inl ⟨by rfl, ?_⟩) ?_ ?_
             rotate_left
             ·
              intro w'
              go_simp
              with_reducible rfl
             rotate_left
             ·
              simp only [Act.put, List.setIfInBounds_toArray, List.set_cons_zero, List.set_cons_succ, i64_w, i32_w]
              rfl
             refine pure_ (i := 14) (N := some 160) (v := ?_) (a' := ?_) #[true, true, true, true, true, true, true, true, true, true, true, true, true, true, true, false] rfl rfl (by kernel_rfl) (fun _ _ _ h => h) (Or.inl ⟨by rfl, ?_⟩) ?_ ?_
             rotate_left
             ·
              intro w'
              go_simp
              with_reducible rfl
             rotate_left
             ·
              simp only [Act.put, List.setIfInBounds_toArray, List.set_cons_zero, List.set_cons_succ, i64_w, i32_w]
              rfl
             refine pure_ (i := 15) (N := some 14) (v := ?_) (a' := ?_) #[true, true, true, true, true, true, true, true, true, true, true, true, true, true, true, true] rfl rfl (by kernel_rfl) (fun _ _ _ h => h) (Or.inl ⟨by rfl, ?_⟩) ?_ ?_
             rotate_left
             ·
              intro w'
              go_simp
              with_reducible rfl
             rotate_left
             ·
              simp only [Act.put, List.setIfInBounds_toArray, List.set_cons_zero, List.set_cons_succ, i64_w, i32_w]
              rfl
             refine done_ (by kernel_rfl) ?_
             go_wp2
             go_meet
             case rel => exact ⟨_, rfl, HR9, HB⟩
            ·
             obtain ⟨q5, hq5, e5w, e5a, e5b, e5c⟩ := q5_at k i (Nat.le_of_lt hk10) hi12
             go_wp2
             have hb5 : Below we.heap.size we we.drew := below_drew1 (Below.refl _ _)
             have n0_ := Aside0.mk (below_step HB.out hb5)
             have n1_ := Aside0.mk (Kd.R_below HR9.out hb5)
             clear HB HR9 hb5
             have HB := n0_
             have HR9 := n1_
             clear n0_ n1_
             refine start_ (n := 16) (S := fun w' => True) (ds := []) #[false, false, false, false, false, false, false, false, false, false, false, false, false, false, false, false] (by kernel_rfl) rfl rfl trivial (fun hHeld => ?_)
             generalize we.drew = w6 at HB HR9 hHeld ⊢
             refine pure_ (i := 0) (N := some 119) (v := ?_) (a' := ?_) #[true, false, false, false, false, false, false, false, false, false, false, false, false, false, false, false] rfl rfl (by kernel_rfl) (fun _ _ _ h => h) (Or.inl ⟨by rfl, ?_⟩) ?_ ?_
             rotate_left
             ·
              intro w'
              go_simp
              with_reducible rfl
             rotate_left
             ·
              simp only [Act.put, List.setIfInBounds_toArray, List.set_cons_zero, List.set_cons_succ, i64_w, i32_w]
              rfl
             refine pure_ (i := 1) (N := some 120) (v := ?_) (a' := ?_) #[true, true, false, false, false, false, false, false, false, false, false, false, false, false, false, false] rfl rfl (by kernel_rfl) (fun _ _ _ h => h) (Or.inl ⟨by rfl, ?_⟩) ?_ ?_
             rotate_left
             ·
              intro w'
              go_simp
              with_reducible rfl
             rotate_left
             ·
              simp only [Act.put, List.setIfInBounds_toArray, List.set_cons_zero, List.set_cons_succ, i64_w, i32_w]
              rfl
             refine pure_ (i := 2) (N := some 121) (v := ?_) (a' := ?_) #[true, true, true, false, false, false, false, false, false, false, false, false, false, false, false, false] rfl rfl (by kernel_rfl) (fun _ _ _ h => h) (Or.inl ⟨by rfl, ?_⟩) ?_ ?_
             rotate_left
             ·
              intro w'
              go_simp
              with_reducible rfl
             rotate_left
             ·
              simp only [Act.put, List.setIfInBounds_toArray, List.set_cons_zero, List.set_cons_succ, i64_w, i32_w]
              rfl
             refine pure_ (i := 4) (N := some 123) (v := ?_) (a' := ?_) #[true, true, true, false, true, false, false, false, false, false, false, false, false, false, false, false] rfl rfl (by kernel_rfl) (fun _ _ _ h => h) (Or.inl ⟨by rfl, ?_⟩) ?_ ?_
             rotate_left
             ·
              intro w'
              go_simp
              with_reducible rfl
             rotate_left
             ·
              simp only [Act.put, List.setIfInBounds_toArray, List.set_cons_zero, List.set_cons_succ, i64_w, i32_w]
              rfl
             refine pure_ (i := 5) (N := some 124) (v := ?_) (a' := ?_) #[true, true, true, false, true, true, false, false, false, false, false, false, false, false, false, false] rfl rfl (by kernel_rfl) (fun _ _ _ h => h) (Or.inl ⟨by rfl, ?_⟩) ?_ ?_
             rotate_left
             ·
              intro w'
              go_simp
              with_reducible rfl
             rotate_left
             ·
              simp only [Act.put, List.setIfInBounds_toArray, List.set_cons_zero, List.set_cons_succ, i64_w, i32_w]
              rfl
             refine pure_ (i := 6) (N := some 125) (v := ?_) (a' := ?_) #[true, true, true, false, true, true, true, false, false, false, false, false, false, false, false, false] rfl rfl (by kernel_rfl) (fun _ _ _ h => h) (Or.inl ⟨by rfl, ?_⟩) ?_ ?_
             rotate_left
             ·
              intro w'
              go_simp
              with_reducible rfl
             rotate_left
             ·
              simp only [Act.put, List.setIfInBounds_toArray, List.set_cons_zero, List.set_cons_succ, i64_w, i32_w]
              rfl
             refine pure_ (i := 7) (N := some 126) (v := ?_) (a' := ?_) #[true, true, true, false, true, true, true, true, false, false, false, false, false, false, false, false] rfl rfl (by kernel_rfl) (fun _ _ _ h => h) (Or.inl ⟨by rfl, ?_⟩) ?_ ?_
             rotate_left
             ·
              intro w'
              go_simp
              with_reducible rfl
             rotate_left
             ·
              simp only [Act.put, List.setIfInBounds_toArray, List.set_cons_zero, List.set_cons_succ, i64_w, i32_w]
              rfl
             refine pure_ (i := 11) (N := some 130) (v := ?_) (a' := ?_) #[true, true, true, false, true, true, true, true, false, false, false, true, false, false, false, false] rfl rfl (by kernel_rfl) (fun _ _ _ h => h) (Or.inl ⟨by rfl, ?_⟩) ?_ ?_
             rotate_left
             ·
              intro w'
              go_simp
              with_reducible rfl
             rotate_left
             ·
              simp only [Act.put, List.setIfInBounds_toArray, List.set_cons_zero, List.set_cons_succ, i64_w, i32_w]
              rfl
             refine pure_ (i := 12) (N := some 131) (v := ?_) (a' := ?_) #[true, true, true, false, true, true, true, true, false, false, false, true, true, false, false, false] rfl rfl (by kernel_rfl) (fun _ _ _ h => h) (Or.inl ⟨by rfl, ?_⟩) ?_ ?_
             rotate_left
             ·
              intro w'
              go_simp
              with_reducible rfl
             rotate_left
             ·
              simp only [Act.put, List.setIfInBounds_toArray, List.set_cons_zero, List.set_cons_succ, i64_w, i32_w]
              rfl
             refine pure_ (i := 13) (N := some 132) (v := ?_) (a' := ?_) #[true, true, true, false, true, true, true, true, false, false, false, true, true, true, false, false] rfl rfl (by kernel_rfl) (fun _ _ _ h => h) (Or.inl ⟨by rfl, ?_⟩) ?_ ?_
             rotate_left
             ·
              intro w'
              go_simp
              with_reducible rfl
             rotate_left
             ·
              simp only [Act.put, List.setIfInBounds_toArray, List.set_cons_zero, List.set_cons_succ, i64_w, i32_w]
              rfl
             refine one_ (i := 3) (N := some 122) #[true, true, true, true, true, true, true, true, false, false, false, true, true, true, false, false] rfl rfl (by kernel_rfl) (by decide) (fun K hK => ?_)
             refine Kd.R_lit_step Kd.string _ 9 ?hg (N := 122) ?hd (xs := ([(⟨#[100, 101, 98, 105, 116]⟩ : ByteArray), (⟨#[97, 99, 99, 111, 117, 110, 116]⟩ : ByteArray), (⟨#[125]⟩ : ByteArray), (⟨#[120]⟩ : ByteArray), (⟨#[73, 110, 116]⟩ : ByteArray)] : List ByteArray)) (inner := [.string (⟨#[100, 101, 98, 105, 116]⟩ : ByteArray), .string (⟨#[97, 99, 99, 111, 117, 110, 116]⟩ : ByteArray), .string (⟨#[125]⟩ : ByteArray), .string (⟨#[120]⟩ : ByteArray), .string (⟨#[73, 110, 116]⟩ : ByteArray)]) (ok := fun _ => True) (okp := fun _ => False) ?hr ?hp (fun _ hk => hk.elim) ?hf (Below.refl _ _) (Nat.le_refl _) (by simp) ?_; (case hd => rfl); (case hg => rfl); (case hr => first | (go_simp; done) | (go_simp; rfl)); (case hp => exact (Reps.one (show Kd.M Kd.string _ _ _ ((⟨#[100, 101, 98, 105, 116]⟩ : ByteArray) : ByteArray) [.string ((⟨#[100, 101, 98, 105, 116]⟩ : ByteArray))] from rfl) (Reps.one (show Kd.M Kd.string _ _ _ ((⟨#[97, 99, 99, 111, 117, 110, 116]⟩ : ByteArray) : ByteArray) [.string ((⟨#[97, 99, 99, 111, 117, 110, 116]⟩ : ByteArray))] from rfl) (Reps.one (show Kd.M Kd.string _ _ _ ((⟨#[125]⟩ : ByteArray) : ByteArray) [.string ((⟨#[125]⟩ : ByteArray))] from rfl) (Reps.one (show Kd.M Kd.string _ _ _ ((⟨#[120]⟩ : ByteArray) : ByteArray) [.string ((⟨#[120]⟩ : ByteArray))] from rfl) (Reps.one (show Kd.M Kd.string _ _ _ ((⟨#[73, 110, 116]⟩ : ByteArray) : ByteArray) [.string ((⟨#[73, 110, 116]⟩ : ByteArray))] from rfl) (Reps.none _ _))))))); (case hf => trivial)
             intro v122 w8 ho0 hb2 hg_ hnew_
             clear hg_ hnew_
             have n0_ := Aside0.mk (below_step HB.out hb2)
             have n1_ := Aside0.mk (Kd.R_below HR9.out hb2)
             clear HB HR9 hb2
             have HB := n0_
             have HR9 := n1_
             clear n0_ n1_
             obtain ⟨A5, c5, rfl, hc5, hC5⟩ := Kd.R_reads ho0
             obtain ⟨ad5, ead5, hm5_⟩ := str_at hC5 (q5 : Int) (of_eq_true e5a) (of_eq_true e5b)
             cases ead5
             rw [Int.toNat_natCast] at hm5_
             obtain ⟨d5, hd5⟩ : ∃ d5, ([(⟨#[100, 101, 98, 105, 116]⟩ : ByteArray), (⟨#[97, 99, 99, 111, 117, 110, 116]⟩ : ByteArray), (⟨#[125]⟩ : ByteArray), (⟨#[120]⟩ : ByteArray), (⟨#[73, 110, 116]⟩ : ByteArray)] : List ByteArray).getD q5 ⟨#[]⟩ = d5 := ⟨_, rfl⟩
             have hm5 : w8.cell? (ad5.add q5) = some (.string d5) := by rw [← hd5]; exact hm5_
             have hd5s : d5.size ≤ 7 := by rw [← hd5]; exact d5_size q5 hq5
             obtain ⟨z7, z8a, z8b⟩ := zs_two s d5 fr tt hfr htt2 hd5s hs3
             clear ho0 hC5 hm5_ hd5
             refine hK.out _ _ trivial (fun hHeld => ?_)
             clear hK K
             refine norm_ (a' := ?_) ?_ ?_
             rotate_left
             ·
              show Act.put _ (some 122) _ = _
              simp only [Act.put, List.setIfInBounds_toArray, List.set_cons_zero, List.set_cons_succ, i64_w, i32_w]
              rfl
             refine pure_ (i := 8) (N := some 127) (v := ?_) (a' := ?_) #[true, true, true, true, true, true, true, true, true, false, false, true, true, true, false, false] rfl rfl (by kernel_rfl) (fun _ _ _ h => h) (Or.inl ⟨by rfl, ?_⟩) ?_ ?_
             rotate_left
             ·
              intro w'
              go_simp
              with_reducible rfl
             rotate_left
             ·
              simp only [Act.put, List.setIfInBounds_toArray, List.set_cons_zero, List.set_cons_succ, i64_w, i32_w]
              rfl
             refine one_ (i := 9) (N := some 128) #[true, true, true, true, true, true, true, true, true, true, false, true, true, true, false, false] rfl rfl (by kernel_rfl) (by decide) (fun K hK => ?_)
             refine value_ (w1 := ?_) (v := ?_) (by rfl) rfl ?_ ?_
             rotate_left 2
             ·
              go_simp
              constructor
              ·
               rfl
              ·
               rfl
             refine hK.out _ _ trivial (fun hHeld => ?_)
             clear hK K
             refine norm_ (a' := ?_) ?_ ?_
             rotate_left
             ·
              show Act.put _ (some 128) _ = _
              simp only [Act.put, List.setIfInBounds_toArray, List.set_cons_zero, List.set_cons_succ, i64_w, i32_w]
              rfl
             refine pure_ (i := 10) (N := some 129) (v := ?_) (a' := ?_) #[true, true, true, true, true, true, true, true, true, true, true, true, true, true, false, false] rfl rfl (by kernel_rfl) (fun _ _ _ h => h) (Or.inl ⟨by rfl, ?_⟩) ?_ ?_
             rotate_left
             ·
              intro w'
              go_simp
              with_reducible rfl
             rotate_left
             ·
              simp only [Act.put, List.setIfInBounds_toArray, List.set_cons_zero, List.set_cons_succ, i64_w, i32_w]
              rfl
             refine pure_ (i := 14) (N := some 133) (v := ?_) (a' := ?_) #[true, true, true, true, true, true, true, true, true, true, true, true, true, true, true, false] rfl rfl (by kernel_rfl) (fun _ _ _ h => h) (Or.inl ⟨by rfl, ?_⟩) ?_ ?_
             rotate_left
             ·
              intro w'
              go_simp
              with_reducible rfl
             rotate_left
             ·
              simp only [Act.put, List.setIfInBounds_toArray, List.set_cons_zero, List.set_cons_succ, i64_w, i32_w]
              rfl
             refine pure_ (i := 15) (N := some 14) (v := ?_) (a' := ?_) #[true, true, true, true, true, true, true, true, true, true, true, true, true, true, true, true] rfl rfl (by kernel_rfl) (fun _ _ _ h => h) (Or.inl ⟨by rfl, ?_⟩) ?_ ?_
             rotate_left
             ·
              intro w'
              go_simp
              with_reducible rfl
             rotate_left
             ·
              simp only [Act.put, List.setIfInBounds_toArray, List.set_cons_zero, List.set_cons_succ, i64_w, i32_w]
              rfl
             refine done_ (by kernel_rfl) ?_
             go_wp2
             go_meet
             case rel => exact ⟨_, rfl, HR9, HB⟩
           case rest =>
            clear HR9 HB hm
            obtain ⟨sv, rfl, HR9, HB⟩ := hcut
            go_wp2_with (first | ((with_reducible refine gate_builtin (b := .append) (xs := #[.tmp 161, .tmp 163]) rfl ?_); at_builtin; refine Kd.R_append Kd.string (w0 := wq1) wq1.heap.size rfl (.tmp 161) (.tmp 163) 22 9 (.string ⟨#[]⟩) 16 rfl Tryd.underlying22 info9 rfl (by decide) (by omega) u9 all sv [.string sv] (fun _ => True) (fun _ => False) rfl ?aX ?aP (fun _ hk => hk.elim) ?aF ?aO ?aB ?aS ?aL ?_; (case aX => first | rfl | exact two_new _ _); (case aP => exact rfl); (case aB => exact HB.out); (case aF => exact (fun _ _ => trivial)); (case aO => exact HR9.out); (case aS => exact (below_size HB.out)); (case aL => omega); intro v34 w29 ho hb hg hat; clear HB HR9; have HB := Aside0.mk hb; have HR9 := Aside0.mk ho; clear ho hb hg hat))
            go_roundg k2
            case measure => omega
            case rel => exact ⟨k + 1, _, by first | rfl | (simp only [Int.natCast_add]; done) | (simp only [Int.natCast_add]; rfl), by omega, by rw [List.length_append, List.length_singleton]; omega, HR9, HB⟩
         ·
          have d2 : decide (0 < (toks.length : Int)) = false := decide_eq_false (by omega)
          go_wp2
          go_meet
          case rel => exact ⟨all, by omega, HR9, HB⟩
        ·
         have d1 : decide ((k : Int) < 10) = false := decide_eq_false (by omega)
         go_wp2
         go_meet
         case rel => exact ⟨all, by omega, HR9, HB⟩
      case rest =>
       clear HR9 HB hm
       obtain ⟨all, hal, HR9, HBX⟩ := hcut
       have HBZ := Aside0.mk (below_step HBV.out (below_step HBQ.out HBX.out))
       have HTC : Aside0 (Tab wc) := ⟨Lib_tab HTD.out HBZ.out⟩
       obtain ⟨An, cn, rfl, hcn, hCn⟩ := Kd.R_reads HR9.out
       have HCN := Aside0.mk hCn
       clear hCn HR9 HBX HBQ HBV HCT hmq hmk hct HWT HPT
       have HB := Aside0.mk (Below.refl wc.heap.size wc)
       go_wp2
       go_loopg [15] all.length (fun kq v15 w' => ∃ k : Nat, v15 = .int .i64 k ∧ k ≤ all.length ∧ k + kq = all.length ∧ Aside0 (Below wc.heap.size wc w'))
       case atStart => exact ⟨0, rfl, by omega, by omega, ⟨(by repeat (first | (with_reducible first | exact HB.out | apply below_alloc | apply pw_below_drewN | apply below_drew1) | exact HB.out))⟩⟩
       case round =>
        clear HB
        obtain ⟨k, rfl, hkn_, hkq, HB⟩ := hrel
        by_cases hkn : k < all.length
        ·
         have d1 : decide ((k : Int) < (all.length : Int)) = true := decide_eq_true (by omega)
         obtain ⟨k2, rfl⟩ : ∃ k2, gk = k2 + 1 := ⟨gk - 1, by omega⟩
         obtain ⟨an, ean, hm0⟩ := str_at HCN.out (k : Int) (by omega) (by omega)
         cases ean
         rw [Int.toNat_natCast] at hm0
         obtain ⟨nm, hnm⟩ : ∃ nm, all.getD k ⟨#[]⟩ = nm := ⟨_, rfl⟩
         have hmc : wc.cell? (an.add k) = some (.string nm) := by rw [← hnm]; exact hm0
         clear hm0 hnm
         obtain ⟨l, ec, hl8, hrd, hrr⟩ := HAG.out nm
         obtain ⟨ke, he⟩ := eq_same l (by omega)
         have HRD := Aside0.mk hrd
         have HRR := Aside0.mk hrr
         have HEQ := Aside0.mk he
         clear hrd hrr he
         have hm := pw_cell_below HB.out hmc
         have r1 := eq_true (show (0 : Int) ≤ (k : Int) by omega)
         have r2 := eq_true (show (k : Int) < (all.length : Int) by omega)
         have r3 := eq_true hkn
         have r4 : (ec != ec) = false := bne_eq_false_iff_eq.mpr rfl
         go_wp2_with (first | (go_at_call 13; refine (HRD.out _ (Lib_tab HTC.out (by repeat (first | (with_reducible first | exact HB.out | apply below_alloc | apply pw_below_drewN | apply below_drew1) | exact HB.out)))).mono ?_; rintro e wq2 ⟨v6_, rfl, hR6, hb2⟩; obtain ⟨A6, c6, rfl, hc6, hC6⟩ := Kd.R_reads hR6; have HC6 := Aside0.mk hC6; clear hC6 hR6; have n0_ := Aside0.mk (below_step (by repeat (first | (with_reducible first | exact HB.out | apply below_alloc | apply pw_below_drewN | apply below_drew1) | exact HB.out)) hb2); clear HB; have HB := n0_; clear n0_ hb2; (try clear hm); have hm := pw_cell_below HB.out hmc) | (go_at_call 14; refine (HRR.out _).mono ?_; rintro e wq3 ⟨v7_, rfl, hR7, hb2⟩; obtain ⟨A7, c7, rfl, hc7, hC7⟩ := Kd.R_reads hR7; have HC7 := Aside0.mk hC7; clear hC7 hR7; have n3_ := Aside0.mk (Kd.C_below (Kd.C_below HC6.out (by repeat (first | exact Below.refl _ _ | apply below_alloc | apply pw_below_drewN | apply below_drew1))) hb2); clear HC6; have HC6 := n3_; clear n3_; have n0_ := Aside0.mk (below_step (by repeat (first | (with_reducible first | exact HB.out | apply below_alloc | apply pw_below_drewN | apply below_drew1) | exact HB.out)) hb2); clear HB; have HB := n0_; clear n0_ hb2) | (go_at_call 15; (with_reducible refine (amanuensislaw4_num.calls _ _ _ rfl).mono ?_); rintro e wq ⟨rfl, ⟨nd, rfl⟩⟩) | (go_at_call 16; refine (amanuensisref0_EqFields.calls ke A6 c6 l A7 c7 l true _ (Kd.C_below HC6.out (by repeat (first | exact Below.refl _ _ | apply below_alloc | apply pw_below_drewN | apply below_drew1))) hc6 (Kd.C_below HC7.out (by repeat (first | exact Below.refl _ _ | apply below_alloc | apply pw_below_drewN | apply below_drew1))) hc7 HEQ.out).mono ?_; rintro e wq9 ⟨rfl, ⟨nd9, rfl⟩⟩))
         go_roundg k2
         case measure => omega
         case rel => exact ⟨k + 1, by first | rfl | (simp only [Int.natCast_add]; done) | (simp only [Int.natCast_add]; rfl), by omega, by omega, ⟨(by repeat (first | (with_reducible first | exact HB.out | apply below_alloc | apply pw_below_drewN | apply below_drew1) | exact HB.out))⟩⟩
        ·
         have d1 : decide ((k : Int) < (all.length : Int)) = false := decide_eq_false (by omega)
         have n0_ := Aside0.mk (below_step HBZ.out HB.out)
         clear HB
         have HB := n0_
         clear n0_
         go_wp2
         go_roundg k1
         case measure => omega
         case rel => exact ⟨i + 1, by first | rfl | (simp only [Int.natCast_add]; done) | (simp only [Int.natCast_add]; rfl), by omega, by omega, HB⟩
     ·
      have c1_ : decide ((i : Int) < (ts.length : Int)) = false := decide_eq_false (by omega)
      have n0_ := Aside0.mk (below_step HBY.out HB.out)
      clear HB
      have HB := n0_
      clear n0_
      go_wp2_with (first | (go_at_call 17; refine (HWK.out _ (Lib_tab HT.out (by repeat (first | (with_reducible first | exact HB.out | apply below_alloc | apply pw_below_drewN | apply below_drew1) | exact HB.out)))).mono ?_; rintro e wq5 ⟨rfl, hb2⟩; have n0_ := Aside0.mk (below_step (by repeat (first | (with_reducible first | exact HB.out | apply below_alloc | apply pw_below_drewN | apply below_drew1) | exact HB.out)) hb2); clear HB; have HB := n0_; clear n0_ hb2))
      go_ret
      exact ⟨rfl, (by repeat (first | (with_reducible first | exact HB.out | apply below_alloc | apply pw_below_drewN | apply below_drew1) | exact HB.out))⟩
end Go.Proofs.YtgobpenmemlieaaDoor.Lex
