/- Packed by our own shrink.py: theorems that the claim does not use are left out. -/
import Derived.Test.YtgobpenmemlieaaDoorVRpr
import Derived.Test.YtgobpenmemlieaaDoorVBak
/-
  The walk of amanuensislaw4.SdlPrints.
-/
namespace Go.Proofs.YtgobpenmemlieaaDoor.Lex
open Go.RowKit Go.Proofs.YtgobpenmemlieaaDoorW.PrintWords Go.Proofs.YtgobpenmemlieaaDoorW.PrintLast Go.Proofs.YtgobpenmemlieaaDoorW.PrintMore PSdlBack
attribute [local go_sem] max2_int min2_int max_two min_two max_three min_three max_four min_four
set_option linter.unusedVariables false
set_option linter.unusedSimpArgs false
def SchemaAs (l : List S54) (b : Bool) : Prop := ∀ A c w, l.length ≤ c → Kd.C k54 w A l.length l → Calls Tryd.prog 9 #[.slice A l.length c] w fun e w' => e = .returned (.bool b) ∧ Below w.heap.size w w'
def RPrintAs (l : List S54) (s : ByteArray) : Prop := ∀ A c w, l.length ≤ c → Kd.C k54 w A l.length l → Calls Tryd.prog 10 #[.slice A l.length c] w fun e w' => e = .returned (.string s) ∧ Below w.heap.size w w'
def ChecksAs (l : List S54) (n : Int) : Prop := ∀ A c w, l.length ≤ c → Kd.C k54 w A l.length l → Calls Tryd.prog 19 #[.slice A l.length c] w fun e w' => e = .returned (.int .i64 n) ∧ Below w.heap.size w w'
def FindAs (l : List S54) (b : Bool) : Prop := ∀ s A c w, l.length ≤ c → Kd.C k54 w A l.length l → Calls Tryd.prog 21 #[.slice A l.length c, .string s] w fun e w' => e = .returned (.tuple #[.int .i64 (found b (idx s l)).1, .int .i64 (found b (idx s l)).2]) ∧ Below w.heap.size w w'
/-- What the callees tell of a list of fields. -/
def GoodP (l : List S54) : Prop := l.length ≤ 1000000 ∧ ((SchemaAs l false ∧ PrintsAs l ⟨#[]⟩ 1 ∧ ChecksAs l 1 ∧ FindAs l false) ∨ ∃ s, SchemaAs l true ∧ PrintsAs l s 0 ∧ RPrintAs l s ∧ ChecksAs l 0 ∧ FindAs l true)
def ServOk (nm : ByteArray) : Prop := ∃ n e : Int, (∀ w, Calls Tryd.prog 26 #[.string nm] w fun x w' => x = .returned (.tuple #[.int .i64 n, .int .i64 e]) ∧ Below w.heap.size w w') ∧ (∀ w, Calls Tryd.prog 27 #[.string nm] w fun x w' => x = .returned (.int .i64 n) ∧ Below w.heap.size w w') ∧ ((0 < n ∧ e = 0) ∨ (n = 0 ∧ e = 3))
def n6 : List ByteArray := [(⟨#[97, 99, 99, 111, 117, 110, 116]⟩ : ByteArray), (⟨#[105, 110, 118, 101, 110, 116, 111, 114, 121]⟩ : ByteArray), (⟨#[98, 111, 111, 107, 105, 110, 103]⟩ : ByteArray), (⟨#[110, 111, 116, 105, 102, 105, 101, 114]⟩ : ByteArray), (⟨#[]⟩ : ByteArray), (⟨#[65, 99, 99, 111, 117, 110, 116]⟩ : ByteArray)]
theorem name_yes (k : Int) (h : isServ k = true) (w : World) : Calls Tryd.prog 23 #[.int .i64 k] w fun e w' => e = .returned (.tuple #[.string (svcName k), .int .i64 0]) ∧ Below w.heap.size w w' := by
  have h2 := h
  unfold isServ at h2
  simp only [Bool.and_eq_true, decide_eq_true_eq] at h2
  refine sdl_Name.calls k (svcName k) 0 w ?_
  unfold sdl_Name.f sdl_IsService.f
  rw [if_pos (by omega), decide_eq_true h2.2]
  show (if (0 : Int) ≤ k then if k < (svcs.length : Int) then some (rdOf ByteArray.empty svcs k, 0) else none else none) = _
  rw [if_pos (by omega), if_pos (by show k < 5; omega)]
  rfl
theorem name_no (k : Int) (h : isServ k = false) (w : World) : Calls Tryd.prog 23 #[.int .i64 k] w fun e w' => e = .returned (.tuple #[.string ⟨#[]⟩, .int .i64 3]) ∧ Below w.heap.size w w' := by
  refine sdl_Name.calls k ⟨#[]⟩ 3 w ?_
  unfold isServ at h
  unfold sdl_Name.f sdl_IsService.f
  by_cases h1 : k ≥ 1
  · rw [decide_eq_true h1, Bool.true_and] at h
    rw [if_pos h1, h]
    rfl
  · rw [if_neg h1]
    rfl
theorem between_serv (k : Int) : amanuensisref0_Between.f k 1 4 = some (isServ k) := by
  unfold amanuensisref0_Between.f isServ
  by_cases h1 : 1 ≤ k
  · rw [if_pos h1, decide_eq_true h1]
    rfl
  · rw [if_neg h1, decide_eq_false h1]
    rfl
set_option maxHeartbeats 8000000 in
set_option maxRecDepth 100000 in
theorem SdlPrints_calls (A0 : Option Addr) (c0 : Nat) (l0 : List ByteArray) (A1 : Option Addr) (c1 : Nat) (l1 : List Int) (A2 : Option Addr) (c2 : Nat) (l2 : List (List S54)) (w : World)
    (hr0 : Kd.C Kd.string w A0 l0.length l0) (h0c : l0.length ≤ c0) (hr1 : Kd.C (Kd.int .i64) w A1 l1.length l1) (h1c : l1.length ≤ c1) (hr2 : Kd.C (Kd.slice 54 k54) w A2 l2.length l2) (h2c : l2.length ≤ c2)
    (kh : Nat) (hv : Bool) (hh : amanuensislaw4_Heavy.f kh l0 l1 l2 = some hv) (hT : Tab w) (hgood : hv = false → ∀ i : Nat, i < l2.length → GoodP (rd_L3 l2 i)) (hfinds : FindsAs) (hserv : ∀ nm, ServOk nm) (s0 : ByteArray) (hwp : PrintsAs [wk0] s0 0) (hwr : ReadsAs s0 [wk0]) :
    Calls Tryd.prog 6 #[.agg #[.slice A0 l0.length c0, .slice A1 l1.length c1, .slice A2 l2.length c2]] w fun e w' => e = .returned (.bool true) ∧ Below w.heap.size w w' := by
  have H0 := Aside0.mk hr0
  have H1 := Aside0.mk hr1
  have H2 := Aside0.mk hr2
  have HH := Aside0.mk hh
  have HT := Aside0.mk hT
  have HG := Aside0.mk hgood
  have HFS := Aside0.mk hfinds
  have HSV := Aside0.mk hserv
  have HWK := Aside0.mk (wakes_calls s0 hwp hwr)
  have HB := Aside0.mk (Below.refl w.heap.size w)
  clear hr0 hr1 hr2 hh hT hgood hwp hwr hfinds hserv
  go_enter Tryd.func6, Tryd.ntmps6
  cases hv with
  | true =>
    go_wp2_with (first | ((with_reducible refine gate_dst (N := 1) rfl ?_); refine box_event ?hg (N := 1) ?hd (cs := #[.slice A0 l0.length c0, .slice A1 l1.length c1, .slice A2 l2.length c2]) (t := 28) ?hr ?_; (case hd => rfl); (case hg => rfl); (case hr => first | (go_simp; done) | (go_simp; rfl)); intro gb hg w2 hbox hb; have n0_ := Aside0.mk (below_step (by (repeat (first | (with_reducible first | exact HB.out | apply below_alloc | apply pw_below_drewN | apply below_drew1) | exact HB.out))) hb); have n1_ := Aside0.mk (hbox); have n2_ := Aside0.mk ((by rw [hg]; exact (below_size (by (repeat (first | (with_reducible first | exact HB.out | apply below_alloc | apply pw_below_drewN | apply below_drew1) | exact HB.out))))) : w.heap.size ≤ gb); clear HB; have HB := n0_; have BKgb := n1_; have GEgb := n2_; clear n0_ n1_ n2_; clear hb hbox hg; have hcz0 : w2.cell? ⟨gb, 0, none⟩ = some (.slice A0 l0.length c0) := (blk_cell BKgb.out 0).trans rfl; have hfz0 := blk_frozen BKgb.out 0; have hcz1 : w2.cell? ⟨gb, 1, none⟩ = some (.slice A1 l1.length c1) := (blk_cell BKgb.out 1).trans rfl; have hfz1 := blk_frozen BKgb.out 1; have hcz2 : w2.cell? ⟨gb, 2, none⟩ = some (.slice A2 l2.length c2) := (blk_cell BKgb.out 2).trans rfl; have hfz2 := blk_frozen BKgb.out 2) | (go_at_call 7; refine (amanuensislaw4_Heavy.calls kh A0 c0 l0 A1 c1 l1 A2 c2 l2 _ _ (Kd.C_below H0.out (by repeat (first | (with_reducible first | exact HB.out | apply below_alloc | apply pw_below_drewN | apply below_drew1) | exact HB.out))) h0c (Kd.C_below H1.out (by repeat (first | (with_reducible first | exact HB.out | apply below_alloc | apply pw_below_drewN | apply below_drew1) | exact HB.out))) h1c (Kd.C_below H2.out (by repeat (first | (with_reducible first | exact HB.out | apply below_alloc | apply pw_below_drewN | apply below_drew1) | exact HB.out))) h2c HH.out).mono ?_; rintro e wq ⟨rfl, hb2⟩; have n0_ := Aside0.mk (blk_below (g := gb) (o := .cells #[.slice A0 l0.length c0, .slice A1 l1.length c1, .slice A2 l2.length c2] 28 (0, 0)) (by (with_reducible repeat (first | refine blk_drewN ?_ _ | refine blk_drew ?_ | refine blk_alloc ?_ _)); exact BKgb.out) hb2); have n1_ := Aside0.mk (below_step (by repeat (first | (with_reducible first | exact HB.out | apply below_alloc | apply pw_below_drewN | apply below_drew1) | exact HB.out)) hb2); clear BKgb HB; have BKgb := n0_; have HB := n1_; clear n0_ n1_; (try clear hcz2 hfz2); have hcz2 : wq.cell? ⟨gb, 2, none⟩ = some (.slice A2 l2.length c2) := (blk_cell BKgb.out 2).trans rfl; have hfz2 := blk_frozen BKgb.out 2))
    go_ret
    exact ⟨rfl, (by repeat (first | (with_reducible first | exact HB.out | apply below_alloc | apply pw_below_drewN | apply below_drew1) | exact HB.out))⟩
  | false =>
    go_upto_block 0 with (first | ((with_reducible refine gate_dst (N := 1) rfl ?_); refine box_event ?hg (N := 1) ?hd (cs := #[.slice A0 l0.length c0, .slice A1 l1.length c1, .slice A2 l2.length c2]) (t := 28) ?hr ?_; (case hd => rfl); (case hg => rfl); (case hr => first | (go_simp; done) | (go_simp; rfl)); intro gb hg w2 hbox hb; have n0_ := Aside0.mk (below_step (by (repeat (first | (with_reducible first | exact HB.out | apply below_alloc | apply pw_below_drewN | apply below_drew1) | exact HB.out))) hb); have n1_ := Aside0.mk (hbox); have n2_ := Aside0.mk ((by rw [hg]; exact (below_size (by (repeat (first | (with_reducible first | exact HB.out | apply below_alloc | apply pw_below_drewN | apply below_drew1) | exact HB.out))))) : w.heap.size ≤ gb); clear HB; have HB := n0_; have BKgb := n1_; have GEgb := n2_; clear n0_ n1_ n2_; clear hb hbox hg; have hcz0 : w2.cell? ⟨gb, 0, none⟩ = some (.slice A0 l0.length c0) := (blk_cell BKgb.out 0).trans rfl; have hfz0 := blk_frozen BKgb.out 0; have hcz1 : w2.cell? ⟨gb, 1, none⟩ = some (.slice A1 l1.length c1) := (blk_cell BKgb.out 1).trans rfl; have hfz1 := blk_frozen BKgb.out 1; have hcz2 : w2.cell? ⟨gb, 2, none⟩ = some (.slice A2 l2.length c2) := (blk_cell BKgb.out 2).trans rfl; have hfz2 := blk_frozen BKgb.out 2) | (go_at_call 7; refine (amanuensislaw4_Heavy.calls kh A0 c0 l0 A1 c1 l1 A2 c2 l2 _ _ (Kd.C_below H0.out (by repeat (first | (with_reducible first | exact HB.out | apply below_alloc | apply pw_below_drewN | apply below_drew1) | exact HB.out))) h0c (Kd.C_below H1.out (by repeat (first | (with_reducible first | exact HB.out | apply below_alloc | apply pw_below_drewN | apply below_drew1) | exact HB.out))) h1c (Kd.C_below H2.out (by repeat (first | (with_reducible first | exact HB.out | apply below_alloc | apply pw_below_drewN | apply below_drew1) | exact HB.out))) h2c HH.out).mono ?_; rintro e wq ⟨rfl, hb2⟩; have n0_ := Aside0.mk (blk_below (g := gb) (o := .cells #[.slice A0 l0.length c0, .slice A1 l1.length c1, .slice A2 l2.length c2] 28 (0, 0)) (by (with_reducible repeat (first | refine blk_drewN ?_ _ | refine blk_drew ?_ | refine blk_alloc ?_ _)); exact BKgb.out) hb2); have n1_ := Aside0.mk (below_step (by repeat (first | (with_reducible first | exact HB.out | apply below_alloc | apply pw_below_drewN | apply below_drew1) | exact HB.out)) hb2); clear BKgb HB; have BKgb := n0_; have HB := n1_; clear n0_ n1_; (try clear hcz2 hfz2); have hcz2 : wq.cell? ⟨gb, 2, none⟩ = some (.slice A2 l2.length c2) := (blk_cell BKgb.out 2).trans rfl; have hfz2 := blk_frozen BKgb.out 2))
    go_cut [] (fun wc => Aside0 (Below w.heap.size w wc))
    case first =>
      go_wp2
      go_loopg [3] l2.length (fun kq v3 w' => ∃ i : Nat, v3 = .int .i64 i ∧ i ≤ l2.length ∧ i + kq = l2.length ∧ Aside0 (w'.heap[gb]? = some (.cells #[.slice A0 l0.length c0, .slice A1 l1.length c1, .slice A2 l2.length c2] 28 (0, 0))) ∧ Aside0 (Below w.heap.size w w'))
      case atStart => exact ⟨0, rfl, by omega, by omega, ⟨(by (with_reducible repeat (first | refine blk_drewN ?_ _ | refine blk_drew ?_ | refine blk_alloc ?_ _)); exact BKgb.out)⟩, ⟨(by repeat (first | (with_reducible first | exact HB.out | apply below_alloc | apply pw_below_drewN | apply below_drew1) | exact HB.out))⟩⟩
      case round =>
        clear HB BKgb
        (try clear hcz0 hcz1 hcz2 hfz0 hfz1 hfz2)
        obtain ⟨i, rfl, hi, hk, BKgb, HB⟩ := hrel
        by_cases hil : i < l2.length
        · have c1_ : decide ((i : Int) < (l2.length : Int)) = true := decide_eq_true (by omega)
          by_cases hi6 : i < 6
          · have c2_ : decide ((i : Int) < 6) = true := decide_eq_true (by omega)
            obtain ⟨k1, rfl⟩ : ∃ k1, gk = k1 + 1 := ⟨gk - 1, by omega⟩
            have HGL := Aside0.mk (HG.out trivial i hil)
            obtain ⟨ad, Ai, ci, e, hx0, hci, hci2⟩ := at_L3 H2.out (i : Int) (by omega) (by omega)
            cases e
            rw [Int.toNat_natCast] at hx0
            have HX := Aside0.mk hx0
            have HCI := Aside0.mk hci2
            clear hx0 hci2
            generalize rd_L3 l2 i = l at HGL HX HCI hci
            have p1 := eq_true (show (0 : Int) ≤ (i : Int) by omega)
            have p2 := eq_true (show (i : Int) < (l2.length : Int) by omega)
            have p3 := eq_true hil
            have hcz2 : wr.cell? ⟨gb, 2, none⟩ = some (.slice (some ad) l2.length c2) := (blk_cell BKgb.out 2).trans rfl; have hfz2 := blk_frozen BKgb.out 2
            have hx := pw_cell_below HB.out HX.out
            obtain ⟨hlm, hgl⟩ := HGL.out
            obtain ⟨ke, he⟩ := eq_same l (by omega)
            have HEQ := Aside0.mk he
            obtain ⟨kc, hcp⟩ := copy_all l (by omega)
            have HCP := Aside0.mk hcp
            clear HGL he hcp
            rcases hgl with ⟨g1, g2, g3, g4⟩ | ⟨s, g1, g2, gr, g3, g4⟩
            · have HSC := Aside0.mk g1
              have HPR := Aside0.mk g2
              have HCK := Aside0.mk g3
              have HFN := Aside0.mk g4
              clear g1 g2 g3 g4
              go_upto_block 2 with (first | (go_at_call 20; refine (amanuensisref0_CopyFields.calls kc Ai ci l l _ (Kd.C_below HCI.out (by repeat (first | (with_reducible first | exact HB.out | apply below_alloc | apply pw_below_drewN | apply below_drew1) | exact HB.out))) hci HCP.out).mono ?_; rintro e wq1 ⟨v4_, rfl, hR4, hb2⟩; obtain ⟨A4, c4, rfl, hc4, hC4⟩ := Kd.R_reads hR4; have HC4 := Aside0.mk hC4; clear hC4 hR4; have n0_ := Aside0.mk (blk_below (g := gb) (o := .cells #[.slice A0 l0.length c0, .slice A1 l1.length c1, .slice (some ad) l2.length c2] 28 (0, 0)) (by (with_reducible repeat (first | refine blk_drewN ?_ _ | refine blk_drew ?_ | refine blk_alloc ?_ _)); exact BKgb.out) hb2); have n1_ := Aside0.mk (below_step (by repeat (first | (with_reducible first | exact HB.out | apply below_alloc | apply pw_below_drewN | apply below_drew1) | exact HB.out)) hb2); clear BKgb HB; have BKgb := n0_; have HB := n1_; clear n0_ n1_; (try clear hcz2 hfz2); have hcz2 : wq1.cell? ⟨gb, 2, none⟩ = some (.slice (some ad) l2.length c2) := (blk_cell BKgb.out 2).trans rfl; have hfz2 := blk_frozen BKgb.out 2; (try clear hx); have hx := pw_cell_below HB.out HX.out) | (go_at_call 9; refine (HSC.out Ai ci _ hci (Kd.C_below HCI.out (by repeat (first | (with_reducible first | exact HB.out | apply below_alloc | apply pw_below_drewN | apply below_drew1) | exact HB.out)))).mono ?_; rintro e wq2 ⟨rfl, hb2⟩; have n3_ := Aside0.mk (Kd.C_below (Kd.C_below HC4.out (by repeat (first | exact Below.refl _ _ | apply below_alloc | apply pw_below_drewN | apply below_drew1))) hb2); clear HC4; have HC4 := n3_; clear n3_; have n0_ := Aside0.mk (blk_below (g := gb) (o := .cells #[.slice A0 l0.length c0, .slice A1 l1.length c1, .slice (some ad) l2.length c2] 28 (0, 0)) (by (with_reducible repeat (first | refine blk_drewN ?_ _ | refine blk_drew ?_ | refine blk_alloc ?_ _)); exact BKgb.out) hb2); have n1_ := Aside0.mk (below_step (by repeat (first | (with_reducible first | exact HB.out | apply below_alloc | apply pw_below_drewN | apply below_drew1) | exact HB.out)) hb2); clear BKgb HB; have BKgb := n0_; have HB := n1_; clear n0_ n1_; (try clear hcz2 hfz2); have hcz2 : wq2.cell? ⟨gb, 2, none⟩ = some (.slice (some ad) l2.length c2) := (blk_cell BKgb.out 2).trans rfl; have hfz2 := blk_frozen BKgb.out 2; (try clear hx); have hx := pw_cell_below HB.out HX.out) | (go_at_call 18; refine (HPR.out A4 c4 _ hc4 (Kd.C_below HC4.out (by repeat (first | exact Below.refl _ _ | apply below_alloc | apply pw_below_drewN | apply below_drew1)))).mono ?_; rintro e wq3 ⟨rfl, hb2⟩; have n3_ := Aside0.mk (Kd.C_below (Kd.C_below HC4.out (by repeat (first | exact Below.refl _ _ | apply below_alloc | apply pw_below_drewN | apply below_drew1))) hb2); clear HC4; have HC4 := n3_; clear n3_; have n0_ := Aside0.mk (blk_below (g := gb) (o := .cells #[.slice A0 l0.length c0, .slice A1 l1.length c1, .slice (some ad) l2.length c2] 28 (0, 0)) (by (with_reducible repeat (first | refine blk_drewN ?_ _ | refine blk_drew ?_ | refine blk_alloc ?_ _)); exact BKgb.out) hb2); have n1_ := Aside0.mk (below_step (by repeat (first | (with_reducible first | exact HB.out | apply below_alloc | apply pw_below_drewN | apply below_drew1) | exact HB.out)) hb2); clear BKgb HB; have BKgb := n0_; have HB := n1_; clear n0_ n1_; (try clear hcz2 hfz2); have hcz2 : wq3.cell? ⟨gb, 2, none⟩ = some (.slice (some ad) l2.length c2) := (blk_cell BKgb.out 2).trans rfl; have hfz2 := blk_frozen BKgb.out 2; (try clear hx); have hx := pw_cell_below HB.out HX.out) | (go_at_call 19; refine (HCK.out A4 c4 _ hc4 (Kd.C_below HC4.out (by repeat (first | exact Below.refl _ _ | apply below_alloc | apply pw_below_drewN | apply below_drew1)))).mono ?_; rintro e ws ⟨rfl, hb2⟩; have n3_ := Aside0.mk (Kd.C_below (Kd.C_below HC4.out (by repeat (first | exact Below.refl _ _ | apply below_alloc | apply pw_below_drewN | apply below_drew1))) hb2); clear HC4; have HC4 := n3_; clear n3_; have n0_ := Aside0.mk (blk_below (g := gb) (o := .cells #[.slice A0 l0.length c0, .slice A1 l1.length c1, .slice (some ad) l2.length c2] 28 (0, 0)) (by (with_reducible repeat (first | refine blk_drewN ?_ _ | refine blk_drew ?_ | refine blk_alloc ?_ _)); exact BKgb.out) hb2); have n1_ := Aside0.mk (below_step (by repeat (first | (with_reducible first | exact HB.out | apply below_alloc | apply pw_below_drewN | apply below_drew1) | exact HB.out)) hb2); clear BKgb HB; have BKgb := n0_; have HB := n1_; clear n0_ n1_; (try clear hcz2 hfz2); have hcz2 : ws.cell? ⟨gb, 2, none⟩ = some (.slice (some ad) l2.length c2) := (blk_cell BKgb.out 2).trans rfl; have hfz2 := blk_frozen BKgb.out 2; (try clear hx); have hx := pw_cell_below HB.out HX.out) | (go_at_call 15; (with_reducible refine (amanuensislaw4_num.calls _ _ _ rfl).mono ?_); rintro e wq ⟨rfl, ⟨nd, rfl⟩⟩) | ((with_reducible refine gate_dst (N := 78) rfl ?_); refine Kd.R_lit Kd.string _ 9 ?hg (N := 78) ?hd (xs := ([(⟨#[97]⟩ : ByteArray), (⟨#[98]⟩ : ByteArray), (⟨#[109, 111, 118, 101]⟩ : ByteArray), (⟨#[]⟩ : ByteArray)] : List ByteArray)) (inner := [.string (⟨#[97]⟩ : ByteArray), .string (⟨#[98]⟩ : ByteArray), .string (⟨#[109, 111, 118, 101]⟩ : ByteArray), .string (⟨#[]⟩ : ByteArray)]) (ok := fun _ => True) (okp := fun _ => False) ?hr ?hp (fun _ hk => hk.elim) trivial (Below.refl _ _) (Nat.le_refl _) (by simp) ?_; (case hd => rfl); (case hg => rfl); (case hr => first | (go_simp; done) | (go_simp; rfl)); (case hp => exact (Reps.one (show Kd.M Kd.string _ _ _ ((⟨#[97]⟩ : ByteArray) : ByteArray) [.string ((⟨#[97]⟩ : ByteArray))] from rfl) (Reps.one (show Kd.M Kd.string _ _ _ ((⟨#[98]⟩ : ByteArray) : ByteArray) [.string ((⟨#[98]⟩ : ByteArray))] from rfl) (Reps.one (show Kd.M Kd.string _ _ _ ((⟨#[109, 111, 118, 101]⟩ : ByteArray) : ByteArray) [.string ((⟨#[109, 111, 118, 101]⟩ : ByteArray))] from rfl) (Reps.one (show Kd.M Kd.string _ _ _ ((⟨#[]⟩ : ByteArray) : ByteArray) [.string ((⟨#[]⟩ : ByteArray))] from rfl) (Reps.none _ _)))))); intro v5_ w7 ho hb2 hg_ hnew_; clear hg_ hnew_; have HR10 := Aside0.mk (Kd.R_lower ho (below_size (show Below ws.heap.size ws _ from (by repeat (first | exact Below.refl _ _ | apply below_alloc | apply pw_below_drewN | apply below_drew1))))); have HBS := Aside0.mk (below_step (show Below ws.heap.size ws _ from (by repeat (first | exact Below.refl _ _ | apply below_alloc | apply pw_below_drewN | apply below_drew1))) hb2); clear ho hb2))
              have HBW := HB
              clear HB
              go_cut [10] (fun v10 wc => ∃ ns : List ByteArray, ns.length ≤ 8 ∧ Aside0 (Kd.R Kd.string 9 wc ws.heap.size (fun _ => True) v10 ns) ∧ Aside0 (Below ws.heap.size ws wc))
              case first =>
                go_wp2
                go_loopg [10, 11] 4 (fun kq v10 v11 w' => ∃ (k : Nat) (ns : List ByteArray), v11 = .int .i64 k ∧ k ≤ l.length ∧ k + kq = 4 ∧ ns.length ≤ 4 + k ∧ Aside0 (Kd.R Kd.string 9 w' ws.heap.size (fun _ => True) v10 ns) ∧ Aside0 (Below ws.heap.size ws w'))
                case atStart => exact ⟨0, _, rfl, by omega, by omega, (by first | exact Nat.le_refl _ | simp), HR10, HBS⟩
                case round =>
                  clear HR10 HBS
                  obtain ⟨k, ns, rfl, hkl_, hkq, hns, HR10, HBS⟩ := hrel
                  have hcz2b := pw_cell_below HBS.out hcz2
                  have hxb := pw_cell_below HBS.out hx
                  clear hcz2 hx
                  by_cases hkl : k < l.length
                  · have d1 : decide ((k : Int) < (l.length : Int)) = true := decide_eq_true (by omega)
                    by_cases hk4 : k < 4
                    · have d2 : decide ((k : Int) < 4) = true := decide_eq_true (by omega)
                      obtain ⟨k2, rfl⟩ : ∃ k2, gk = k2 + 1 := ⟨gk - 1, by omega⟩
                      obtain ⟨al, e, hy0, -, -, -⟩ := at_T54 HCI.out (k : Int) (by omega) (by omega)
                      cases e
                      rw [Int.toNat_natCast] at hy0
                      have hy := pw_cell_below (below_step HBW.out HBS.out) hy0
                      clear hy0
                      generalize (rd_T54 l k).f0 = nm at hy
                      have r1 := eq_true (show (0 : Int) ≤ (k : Int) by omega)
                      have r2 := eq_true (show (k : Int) < (l.length : Int) by omega)
                      have r3 := eq_true hkl
                      go_wp2_with (first | ((with_reducible refine gate_builtin (b := .append) (xs := #[.tmp 93, .tmp 103]) rfl ?_); at_builtin; refine Kd.R_append Kd.string (w0 := ws) ws.heap.size rfl (.tmp 93) (.tmp 103) 22 9 (.string ⟨#[]⟩) 16 rfl Tryd.underlying22 info9 rfl (by decide) (by omega) u10 ns nm [.string nm] (fun _ => True) (fun _ => False) rfl ?aX ?aP (fun _ hk => hk.elim) ?aF ?aO ?aB ?aS ?aL ?_; (case aX => rfl); (case aP => exact rfl); (case aB => exact HBS.out); (case aF => exact (fun _ _ => trivial)); (case aO => exact HR10.out); (case aS => exact (below_size HBS.out)); (case aL => omega); intro v34 w29 ho hb hg hat; clear HBS HR10; have HBS := Aside0.mk hb; have HR10 := Aside0.mk ho; clear ho hb hg hat))
                      go_roundg k2
                      case measure => omega
                      case rel => exact ⟨k + 1, _, by first | rfl | (simp only [Int.natCast_add]; done) | (simp only [Int.natCast_add]; rfl), by omega, by omega, by (simp only [List.length_append, List.length_singleton]; omega), HR10, HBS⟩
                    · have d2 : decide ((k : Int) < 4) = false := decide_eq_false (by omega)
                      go_wp2
                      go_meet
                      case rel => exact ⟨ns, by omega, HR10, HBS⟩
                  · have d1 : decide ((k : Int) < (l.length : Int)) = false := decide_eq_false (by omega)
                    go_wp2
                    go_meet
                    case rel => exact ⟨ns, by omega, HR10, HBS⟩
              case rest =>
                clear HR10 HBS
                obtain ⟨ns, hns, HR10, HBS⟩ := hcut
                obtain ⟨An, cn, rfl, hcn, hCn⟩ := Kd.R_reads HR10.out
                have HCN := Aside0.mk hCn
                have hczc := pw_cell_below HBS.out hcz2
                have hxc := pw_cell_below HBS.out hx
                have n3_ := Aside0.mk (Kd.C_below HC4.out HBS.out)
                have n4_ := Aside0.mk (Kd.C_below HCI.out (below_step HBW.out HBS.out))
                have n5_ := Aside0.mk (blk_below (g := gb) (o := .cells #[.slice A0 l0.length c0, .slice A1 l1.length c1, .slice (some ad) l2.length c2] 28 (0, 0)) BKgb.out HBS.out)
                have HBX := Aside0.mk (below_step HBW.out HBS.out)
                clear hCn HR10 hcz2 hx HC4 HCI BKgb HBW HBS (hfz2)
                have HC4 := n3_
                have HCI := n4_
                have BKgb := n5_
                clear n3_ n4_ n5_
                have HB := Aside0.mk (Below.refl wc.heap.size wc)
                go_wp2
                go_loopg [12] ns.length (fun kq v12 w' => ∃ k : Nat, v12 = .int .i64 k ∧ k ≤ ns.length ∧ k + kq = ns.length ∧ Aside0 (Below wc.heap.size wc w'))
                case atStart => exact ⟨0, rfl, by omega, by omega, ⟨(by repeat (first | (with_reducible first | exact HB.out | apply below_alloc | apply pw_below_drewN | apply below_drew1) | exact HB.out))⟩⟩
                case round =>
                  clear HB
                  obtain ⟨k, rfl, hkn_, hkq, HB⟩ := hrel
                  by_cases hkn : k < ns.length
                  · have d1 : decide ((k : Int) < (ns.length : Int)) = true := decide_eq_true (by omega)
                    obtain ⟨k2, rfl⟩ : ∃ k2, gk = k2 + 1 := ⟨gk - 1, by omega⟩
                    obtain ⟨an, ean, hm0⟩ := str_at HCN.out (k : Int) (by omega) (by omega)
                    cases ean
                    rw [Int.toNat_natCast] at hm0
                    obtain ⟨nm, hnm⟩ : ∃ nm, ns.getD k ⟨#[]⟩ = nm := ⟨_, rfl⟩
                    have hmc : wc.cell? (an.add k) = some (.string nm) := by rw [← hnm]; exact hm0
                    clear hm0 hnm
                    have hcz2 := pw_cell_below HB.out hczc
                    have hx := pw_cell_below HB.out hxc
                    have hm := pw_cell_below HB.out hmc
                    have r1 := eq_true (show (0 : Int) ≤ (k : Int) by omega)
                    have r2 := eq_true (show (k : Int) < (ns.length : Int) by omega)
                    have r3 := eq_true hkn
                    have HFN0 : Aside0 (∀ W, Below wc.heap.size wc W → Calls Tryd.prog 21 #[.slice A4 l.length c4, .string nm] W fun e w' => e = .returned (.tuple #[.int .i64 0, .int .i64 1]) ∧ Below W.heap.size W w') := ⟨fun W hb => by
                      have h1 := HFN.out nm A4 c4 W hc4 (Kd.C_below HC4.out hb)
                      unfold found at h1
                      rw [if_pos rfl] at h1
                      exact h1⟩
                    go_wp2_with (first | (go_at_call 21; refine (HFN0.out _ (by repeat (first | (with_reducible first | exact HB.out | apply below_alloc | apply pw_below_drewN | apply below_drew1) | exact HB.out))).mono ?_; rintro e wf ⟨rfl, hb2⟩; have n0_ := Aside0.mk (below_step (by repeat (first | (with_reducible first | exact HB.out | apply below_alloc | apply pw_below_drewN | apply below_drew1) | exact HB.out)) hb2); clear HB; have HB := n0_; clear n0_ hb2; (try clear hcz2); (try clear hx); (try clear hm); have hcz2 := pw_cell_below HB.out hczc; have hx := pw_cell_below HB.out hxc; have hm := pw_cell_below HB.out hmc) | (go_at_call 15; (with_reducible refine (amanuensislaw4_num.calls _ _ _ rfl).mono ?_); rintro e wq ⟨rfl, ⟨nd, rfl⟩⟩) | (go_at_call 16; refine (amanuensisref0_EqFields.calls _ A4 c4 l Ai ci l true _ (Kd.C_below HC4.out (by repeat (first | (with_reducible first | exact HB.out | apply below_alloc | apply pw_below_drewN | apply below_drew1) | exact HB.out))) hc4 (Kd.C_below HCI.out (by repeat (first | (with_reducible first | exact HB.out | apply below_alloc | apply pw_below_drewN | apply below_drew1) | exact HB.out))) hci HEQ.out).mono ?_; rintro e wq9 ⟨rfl, ⟨nd9, rfl⟩⟩))
                    go_roundg k2
                    case measure => omega
                    case rel => exact ⟨k + 1, by first | rfl | (simp only [Int.natCast_add]; done) | (simp only [Int.natCast_add]; rfl), by omega, by omega, ⟨(by repeat (first | (with_reducible first | exact HB.out | apply below_alloc | apply pw_below_drewN | apply below_drew1) | exact HB.out))⟩⟩
                  · have d1 : decide ((k : Int) < (ns.length : Int)) = false := decide_eq_false (by omega)
                    go_wp2
                    go_roundg k1
                    case measure => omega
                    case rel => exact ⟨i + 1, by first | rfl | (simp only [Int.natCast_add]; done) | (simp only [Int.natCast_add]; rfl), by omega, by omega, ⟨blk_below (g := gb) (o := .cells #[.slice A0 l0.length c0, .slice A1 l1.length c1, .slice (some ad) l2.length c2] 28 (0, 0)) BKgb.out HB.out⟩, ⟨below_step HBX.out HB.out⟩⟩
            · have HSC := Aside0.mk g1
              have HPR := Aside0.mk g2
              have HCK := Aside0.mk g3
              have HFN := Aside0.mk g4
              have HRP := Aside0.mk gr
              clear gr
              clear g1 g2 g3 g4
              go_upto_block 2 with (first | (go_at_call 20; refine (amanuensisref0_CopyFields.calls kc Ai ci l l _ (Kd.C_below HCI.out (by repeat (first | (with_reducible first | exact HB.out | apply below_alloc | apply pw_below_drewN | apply below_drew1) | exact HB.out))) hci HCP.out).mono ?_; rintro e wq1 ⟨v4_, rfl, hR4, hb2⟩; obtain ⟨A4, c4, rfl, hc4, hC4⟩ := Kd.R_reads hR4; have HC4 := Aside0.mk hC4; clear hC4 hR4; have n0_ := Aside0.mk (blk_below (g := gb) (o := .cells #[.slice A0 l0.length c0, .slice A1 l1.length c1, .slice (some ad) l2.length c2] 28 (0, 0)) (by (with_reducible repeat (first | refine blk_drewN ?_ _ | refine blk_drew ?_ | refine blk_alloc ?_ _)); exact BKgb.out) hb2); have n1_ := Aside0.mk (below_step (by repeat (first | (with_reducible first | exact HB.out | apply below_alloc | apply pw_below_drewN | apply below_drew1) | exact HB.out)) hb2); clear BKgb HB; have BKgb := n0_; have HB := n1_; clear n0_ n1_; (try clear hcz2 hfz2); have hcz2 : wq1.cell? ⟨gb, 2, none⟩ = some (.slice (some ad) l2.length c2) := (blk_cell BKgb.out 2).trans rfl; have hfz2 := blk_frozen BKgb.out 2; (try clear hx); have hx := pw_cell_below HB.out HX.out) | (go_at_call 9; refine (HSC.out Ai ci _ hci (Kd.C_below HCI.out (by repeat (first | (with_reducible first | exact HB.out | apply below_alloc | apply pw_below_drewN | apply below_drew1) | exact HB.out)))).mono ?_; rintro e wq2 ⟨rfl, hb2⟩; have n3_ := Aside0.mk (Kd.C_below (Kd.C_below HC4.out (by repeat (first | exact Below.refl _ _ | apply below_alloc | apply pw_below_drewN | apply below_drew1))) hb2); clear HC4; have HC4 := n3_; clear n3_; have n0_ := Aside0.mk (blk_below (g := gb) (o := .cells #[.slice A0 l0.length c0, .slice A1 l1.length c1, .slice (some ad) l2.length c2] 28 (0, 0)) (by (with_reducible repeat (first | refine blk_drewN ?_ _ | refine blk_drew ?_ | refine blk_alloc ?_ _)); exact BKgb.out) hb2); have n1_ := Aside0.mk (below_step (by repeat (first | (with_reducible first | exact HB.out | apply below_alloc | apply pw_below_drewN | apply below_drew1) | exact HB.out)) hb2); clear BKgb HB; have BKgb := n0_; have HB := n1_; clear n0_ n1_; (try clear hcz2 hfz2); have hcz2 : wq2.cell? ⟨gb, 2, none⟩ = some (.slice (some ad) l2.length c2) := (blk_cell BKgb.out 2).trans rfl; have hfz2 := blk_frozen BKgb.out 2; (try clear hx); have hx := pw_cell_below HB.out HX.out) | (go_at_call 18; refine (HPR.out A4 c4 _ hc4 (Kd.C_below HC4.out (by repeat (first | exact Below.refl _ _ | apply below_alloc | apply pw_below_drewN | apply below_drew1)))).mono ?_; rintro e wq3 ⟨rfl, hb2⟩; have n3_ := Aside0.mk (Kd.C_below (Kd.C_below HC4.out (by repeat (first | exact Below.refl _ _ | apply below_alloc | apply pw_below_drewN | apply below_drew1))) hb2); clear HC4; have HC4 := n3_; clear n3_; have n0_ := Aside0.mk (blk_below (g := gb) (o := .cells #[.slice A0 l0.length c0, .slice A1 l1.length c1, .slice (some ad) l2.length c2] 28 (0, 0)) (by (with_reducible repeat (first | refine blk_drewN ?_ _ | refine blk_drew ?_ | refine blk_alloc ?_ _)); exact BKgb.out) hb2); have n1_ := Aside0.mk (below_step (by repeat (first | (with_reducible first | exact HB.out | apply below_alloc | apply pw_below_drewN | apply below_drew1) | exact HB.out)) hb2); clear BKgb HB; have BKgb := n0_; have HB := n1_; clear n0_ n1_; (try clear hcz2 hfz2); have hcz2 : wq3.cell? ⟨gb, 2, none⟩ = some (.slice (some ad) l2.length c2) := (blk_cell BKgb.out 2).trans rfl; have hfz2 := blk_frozen BKgb.out 2; (try clear hx); have hx := pw_cell_below HB.out HX.out) | (go_at_call 10; refine (HRP.out Ai ci _ hci (Kd.C_below HCI.out (by repeat (first | (with_reducible first | exact HB.out | apply below_alloc | apply pw_below_drewN | apply below_drew1) | exact HB.out)))).mono ?_; rintro e wq4 ⟨rfl, hb2⟩; have n3_ := Aside0.mk (Kd.C_below (Kd.C_below HC4.out (by repeat (first | exact Below.refl _ _ | apply below_alloc | apply pw_below_drewN | apply below_drew1))) hb2); clear HC4; have HC4 := n3_; clear n3_; have n0_ := Aside0.mk (blk_below (g := gb) (o := .cells #[.slice A0 l0.length c0, .slice A1 l1.length c1, .slice (some ad) l2.length c2] 28 (0, 0)) (by (with_reducible repeat (first | refine blk_drewN ?_ _ | refine blk_drew ?_ | refine blk_alloc ?_ _)); exact BKgb.out) hb2); have n1_ := Aside0.mk (below_step (by repeat (first | (with_reducible first | exact HB.out | apply below_alloc | apply pw_below_drewN | apply below_drew1) | exact HB.out)) hb2); clear BKgb HB; have BKgb := n0_; have HB := n1_; clear n0_ n1_; (try clear hcz2 hfz2); have hcz2 : wq4.cell? ⟨gb, 2, none⟩ = some (.slice (some ad) l2.length c2) := (blk_cell BKgb.out 2).trans rfl; have hfz2 := blk_frozen BKgb.out 2; (try clear hx); have hx := pw_cell_below HB.out HX.out) | (go_at_call 19; refine (HCK.out A4 c4 _ hc4 (Kd.C_below HC4.out (by repeat (first | exact Below.refl _ _ | apply below_alloc | apply pw_below_drewN | apply below_drew1)))).mono ?_; rintro e ws ⟨rfl, hb2⟩; have n3_ := Aside0.mk (Kd.C_below (Kd.C_below HC4.out (by repeat (first | exact Below.refl _ _ | apply below_alloc | apply pw_below_drewN | apply below_drew1))) hb2); clear HC4; have HC4 := n3_; clear n3_; have n0_ := Aside0.mk (blk_below (g := gb) (o := .cells #[.slice A0 l0.length c0, .slice A1 l1.length c1, .slice (some ad) l2.length c2] 28 (0, 0)) (by (with_reducible repeat (first | refine blk_drewN ?_ _ | refine blk_drew ?_ | refine blk_alloc ?_ _)); exact BKgb.out) hb2); have n1_ := Aside0.mk (below_step (by repeat (first | (with_reducible first | exact HB.out | apply below_alloc | apply pw_below_drewN | apply below_drew1) | exact HB.out)) hb2); clear BKgb HB; have BKgb := n0_; have HB := n1_; clear n0_ n1_; (try clear hcz2 hfz2); have hcz2 : ws.cell? ⟨gb, 2, none⟩ = some (.slice (some ad) l2.length c2) := (blk_cell BKgb.out 2).trans rfl; have hfz2 := blk_frozen BKgb.out 2; (try clear hx); have hx := pw_cell_below HB.out HX.out) | (go_at_call 15; (with_reducible refine (amanuensislaw4_num.calls _ _ _ rfl).mono ?_); rintro e wq ⟨rfl, ⟨nd, rfl⟩⟩) | ((with_reducible refine gate_dst (N := 78) rfl ?_); refine Kd.R_lit Kd.string _ 9 ?hg (N := 78) ?hd (xs := ([(⟨#[97]⟩ : ByteArray), (⟨#[98]⟩ : ByteArray), (⟨#[109, 111, 118, 101]⟩ : ByteArray), (⟨#[]⟩ : ByteArray)] : List ByteArray)) (inner := [.string (⟨#[97]⟩ : ByteArray), .string (⟨#[98]⟩ : ByteArray), .string (⟨#[109, 111, 118, 101]⟩ : ByteArray), .string (⟨#[]⟩ : ByteArray)]) (ok := fun _ => True) (okp := fun _ => False) ?hr ?hp (fun _ hk => hk.elim) trivial (Below.refl _ _) (Nat.le_refl _) (by simp) ?_; (case hd => rfl); (case hg => rfl); (case hr => first | (go_simp; done) | (go_simp; rfl)); (case hp => exact (Reps.one (show Kd.M Kd.string _ _ _ ((⟨#[97]⟩ : ByteArray) : ByteArray) [.string ((⟨#[97]⟩ : ByteArray))] from rfl) (Reps.one (show Kd.M Kd.string _ _ _ ((⟨#[98]⟩ : ByteArray) : ByteArray) [.string ((⟨#[98]⟩ : ByteArray))] from rfl) (Reps.one (show Kd.M Kd.string _ _ _ ((⟨#[109, 111, 118, 101]⟩ : ByteArray) : ByteArray) [.string ((⟨#[109, 111, 118, 101]⟩ : ByteArray))] from rfl) (Reps.one (show Kd.M Kd.string _ _ _ ((⟨#[]⟩ : ByteArray) : ByteArray) [.string ((⟨#[]⟩ : ByteArray))] from rfl) (Reps.none _ _)))))); intro v5_ w7 ho hb2 hg_ hnew_; clear hg_ hnew_; have HR10 := Aside0.mk (Kd.R_lower ho (below_size (show Below ws.heap.size ws _ from (by repeat (first | exact Below.refl _ _ | apply below_alloc | apply pw_below_drewN | apply below_drew1))))); have HBS := Aside0.mk (below_step (show Below ws.heap.size ws _ from (by repeat (first | exact Below.refl _ _ | apply below_alloc | apply pw_below_drewN | apply below_drew1))) hb2); clear ho hb2))
              have HBW := HB
              clear HB
              go_cut [10] (fun v10 wc => ∃ ns : List ByteArray, ns.length ≤ 8 ∧ Aside0 (Kd.R Kd.string 9 wc ws.heap.size (fun _ => True) v10 ns) ∧ Aside0 (Below ws.heap.size ws wc))
              case first =>
                go_wp2
                go_loopg [10, 11] 4 (fun kq v10 v11 w' => ∃ (k : Nat) (ns : List ByteArray), v11 = .int .i64 k ∧ k ≤ l.length ∧ k + kq = 4 ∧ ns.length ≤ 4 + k ∧ Aside0 (Kd.R Kd.string 9 w' ws.heap.size (fun _ => True) v10 ns) ∧ Aside0 (Below ws.heap.size ws w'))
                case atStart => exact ⟨0, _, rfl, by omega, by omega, (by first | exact Nat.le_refl _ | simp), HR10, HBS⟩
                case round =>
                  clear HR10 HBS
                  obtain ⟨k, ns, rfl, hkl_, hkq, hns, HR10, HBS⟩ := hrel
                  have hcz2b := pw_cell_below HBS.out hcz2
                  have hxb := pw_cell_below HBS.out hx
                  clear hcz2 hx
                  by_cases hkl : k < l.length
                  · have d1 : decide ((k : Int) < (l.length : Int)) = true := decide_eq_true (by omega)
                    by_cases hk4 : k < 4
                    · have d2 : decide ((k : Int) < 4) = true := decide_eq_true (by omega)
                      obtain ⟨k2, rfl⟩ : ∃ k2, gk = k2 + 1 := ⟨gk - 1, by omega⟩
                      obtain ⟨al, e, hy0, -, -, -⟩ := at_T54 HCI.out (k : Int) (by omega) (by omega)
                      cases e
                      rw [Int.toNat_natCast] at hy0
                      have hy := pw_cell_below (below_step HBW.out HBS.out) hy0
                      clear hy0
                      generalize (rd_T54 l k).f0 = nm at hy
                      have r1 := eq_true (show (0 : Int) ≤ (k : Int) by omega)
                      have r2 := eq_true (show (k : Int) < (l.length : Int) by omega)
                      have r3 := eq_true hkl
                      go_wp2_with (first | ((with_reducible refine gate_builtin (b := .append) (xs := #[.tmp 93, .tmp 103]) rfl ?_); at_builtin; refine Kd.R_append Kd.string (w0 := ws) ws.heap.size rfl (.tmp 93) (.tmp 103) 22 9 (.string ⟨#[]⟩) 16 rfl Tryd.underlying22 info9 rfl (by decide) (by omega) u10 ns nm [.string nm] (fun _ => True) (fun _ => False) rfl ?aX ?aP (fun _ hk => hk.elim) ?aF ?aO ?aB ?aS ?aL ?_; (case aX => rfl); (case aP => exact rfl); (case aB => exact HBS.out); (case aF => exact (fun _ _ => trivial)); (case aO => exact HR10.out); (case aS => exact (below_size HBS.out)); (case aL => omega); intro v34 w29 ho hb hg hat; clear HBS HR10; have HBS := Aside0.mk hb; have HR10 := Aside0.mk ho; clear ho hb hg hat))
                      go_roundg k2
                      case measure => omega
                      case rel => exact ⟨k + 1, _, by first | rfl | (simp only [Int.natCast_add]; done) | (simp only [Int.natCast_add]; rfl), by omega, by omega, by (simp only [List.length_append, List.length_singleton]; omega), HR10, HBS⟩
                    · have d2 : decide ((k : Int) < 4) = false := decide_eq_false (by omega)
                      go_wp2
                      go_meet
                      case rel => exact ⟨ns, by omega, HR10, HBS⟩
                  · have d1 : decide ((k : Int) < (l.length : Int)) = false := decide_eq_false (by omega)
                    go_wp2
                    go_meet
                    case rel => exact ⟨ns, by omega, HR10, HBS⟩
              case rest =>
                clear HR10 HBS
                obtain ⟨ns, hns, HR10, HBS⟩ := hcut
                obtain ⟨An, cn, rfl, hcn, hCn⟩ := Kd.R_reads HR10.out
                have HCN := Aside0.mk hCn
                have hczc := pw_cell_below HBS.out hcz2
                have hxc := pw_cell_below HBS.out hx
                have n3_ := Aside0.mk (Kd.C_below HC4.out HBS.out)
                have n4_ := Aside0.mk (Kd.C_below HCI.out (below_step HBW.out HBS.out))
                have n5_ := Aside0.mk (blk_below (g := gb) (o := .cells #[.slice A0 l0.length c0, .slice A1 l1.length c1, .slice (some ad) l2.length c2] 28 (0, 0)) BKgb.out HBS.out)
                have HBX := Aside0.mk (below_step HBW.out HBS.out)
                clear hCn HR10 hcz2 hx HC4 HCI BKgb HBW HBS (hfz2)
                have HC4 := n3_
                have HCI := n4_
                have BKgb := n5_
                clear n3_ n4_ n5_
                have HB := Aside0.mk (Below.refl wc.heap.size wc)
                go_wp2
                go_loopg [12] ns.length (fun kq v12 w' => ∃ k : Nat, v12 = .int .i64 k ∧ k ≤ ns.length ∧ k + kq = ns.length ∧ Aside0 (Below wc.heap.size wc w'))
                case atStart => exact ⟨0, rfl, by omega, by omega, ⟨(by repeat (first | (with_reducible first | exact HB.out | apply below_alloc | apply pw_below_drewN | apply below_drew1) | exact HB.out))⟩⟩
                case round =>
                  clear HB
                  obtain ⟨k, rfl, hkn_, hkq, HB⟩ := hrel
                  by_cases hkn : k < ns.length
                  · have d1 : decide ((k : Int) < (ns.length : Int)) = true := decide_eq_true (by omega)
                    obtain ⟨k2, rfl⟩ : ∃ k2, gk = k2 + 1 := ⟨gk - 1, by omega⟩
                    obtain ⟨an, ean, hm0⟩ := str_at HCN.out (k : Int) (by omega) (by omega)
                    cases ean
                    rw [Int.toNat_natCast] at hm0
                    obtain ⟨nm, hnm⟩ : ∃ nm, ns.getD k ⟨#[]⟩ = nm := ⟨_, rfl⟩
                    have hmc : wc.cell? (an.add k) = some (.string nm) := by rw [← hnm]; exact hm0
                    clear hm0 hnm
                    have hcz2 := pw_cell_below HB.out hczc
                    have hx := pw_cell_below HB.out hxc
                    have hm := pw_cell_below HB.out hmc
                    have r1 := eq_true (show (0 : Int) ≤ (k : Int) by omega)
                    have r2 := eq_true (show (k : Int) < (ns.length : Int) by omega)
                    have r3 := eq_true hkn
                    have HRF : Aside0 (∀ W, Below wc.heap.size wc W → Calls Tryd.prog 22 #[.slice Ai l.length ci, .string nm] W fun e w' => e = .returned (.int .i64 (idx nm l)) ∧ Below W.heap.size W w') := ⟨fun W hb => HFS.out Ai ci l nm W hci hlm (Kd.C_below HCI.out hb)⟩
                    by_cases hq : idx nm l < 0
                    · have HFN0 : Aside0 (∀ W, Below wc.heap.size wc W → Calls Tryd.prog 21 #[.slice A4 l.length c4, .string nm] W fun e w' => e = .returned (.tuple #[.int .i64 0, .int .i64 3]) ∧ Below W.heap.size W w') := ⟨fun W hb => by
                        have h1 := HFN.out nm A4 c4 W hc4 (Kd.C_below HC4.out hb)
                        unfold found at h1
                        rw [if_neg (by decide), if_pos hq] at h1
                        exact h1⟩
                      have t1 : decide (0 ≤ idx nm l) = false := decide_eq_false (by omega)
                      clear hq
                      generalize idx nm l = q at HFN0 HRF t1
                      go_wp2_with (first | (go_at_call 21; refine (HFN0.out _ (by repeat (first | (with_reducible first | exact HB.out | apply below_alloc | apply pw_below_drewN | apply below_drew1) | exact HB.out))).mono ?_; rintro e wf ⟨rfl, hb2⟩; have n0_ := Aside0.mk (below_step (by repeat (first | (with_reducible first | exact HB.out | apply below_alloc | apply pw_below_drewN | apply below_drew1) | exact HB.out)) hb2); clear HB; have HB := n0_; clear n0_ hb2; (try clear hcz2); (try clear hx); (try clear hm); have hcz2 := pw_cell_below HB.out hczc; have hx := pw_cell_below HB.out hxc; have hm := pw_cell_below HB.out hmc) | (go_at_call 15; (with_reducible refine (amanuensislaw4_num.calls _ _ _ rfl).mono ?_); rintro e wq ⟨rfl, ⟨nd, rfl⟩⟩) | (go_at_call 16; refine (amanuensisref0_EqFields.calls _ A4 c4 l Ai ci l true _ (Kd.C_below HC4.out (by repeat (first | (with_reducible first | exact HB.out | apply below_alloc | apply pw_below_drewN | apply below_drew1) | exact HB.out))) hc4 (Kd.C_below HCI.out (by repeat (first | (with_reducible first | exact HB.out | apply below_alloc | apply pw_below_drewN | apply below_drew1) | exact HB.out))) hci HEQ.out).mono ?_; rintro e wq9 ⟨rfl, ⟨nd9, rfl⟩⟩))
                      have hb5 : Below wf.heap.size wf wf.drew := below_drew1 (Below.refl _ _)
                      have HB5 := Aside0.mk (Below.refl wf.drew.heap.size wf.drew)
                      have HBV := Aside0.mk (below_step HB.out hb5)
                      have hs0 := pw_cell_below hb5 hcz2
                      have hs1 := pw_cell_below hb5 hx
                      have hs2 := pw_cell_below hb5 hm
                      clear hb5 HB hcz2 hx hm
                      refine start_ (n := 11) (S := fun w' => w'.cell? ⟨gb, 2, none⟩ = some (.slice (some ad) l2.length c2) ∧ w'.cell? (ad.add i) = some (.slice Ai l.length ci) ∧ w'.cell? (an.add k) = some (.string nm)) (ds := []) #[false, false, false, false, false, false, false, false, false, false, false] (by kernel_rfl) rfl rfl ⟨pw_cell_below HB5.out hs0, pw_cell_below HB5.out hs1, pw_cell_below HB5.out hs2⟩ (fun hHeld => ?_)
                      generalize wf.drew = w5 at HB5 HBV hs0 hs1 hs2 hHeld ⊢
                      refine pure_ (i := 0) (N := some 122) (v := ?_) (a' := ?_) #[true, false, false, false, false, false, false, false, false, false, false] rfl rfl (by kernel_rfl) (fun _ _ _ h => h) (Or.inl ⟨by rfl, ?_⟩) ?_ ?_
                      rotate_left
                      · intro w'
                        go_simp
                        with_reducible rfl
                      rotate_left
                      · simp only [Act.put, List.setIfInBounds_toArray, List.set_cons_zero, List.set_cons_succ, i64_w, i32_w]
                        rfl
                      refine take_ (i := 1) (N := some 123) (v := ?_) (a' := ?_) #[true, true, false, false, false, false, false, false, false, false, false] rfl rfl (by kernel_rfl) (fun _ _ _ h => h) (Or.inl ⟨by rfl, ?_⟩) hHeld ?_ ?_
                      rotate_left
                      · rintro w' ⟨s0, s1, s2⟩
                        go_simp
                        with_reducible rfl
                      rotate_left
                      · simp only [Act.put, List.setIfInBounds_toArray, List.set_cons_zero, List.set_cons_succ, i64_w, i32_w]
                        rfl
                      refine pure_ (i := 2) (N := some 124) (v := ?_) (a' := ?_) #[true, true, true, false, false, false, false, false, false, false, false] rfl rfl (by kernel_rfl) (fun _ _ _ h => h) (Or.inl ⟨by rfl, ?_⟩) ?_ ?_
                      rotate_left
                      · intro w'
                        go_simp
                        with_reducible rfl
                      rotate_left
                      · simp only [Act.put, List.setIfInBounds_toArray, List.set_cons_zero, List.set_cons_succ, i64_w, i32_w]
                        rfl
                      refine pure_ (i := 3) (N := some 125) (v := ?_) (a' := ?_) #[true, true, true, true, false, false, false, false, false, false, false] rfl rfl (by kernel_rfl) (fun _ _ _ h => h) (Or.inl ⟨by rfl, ?_⟩) ?_ ?_
                      rotate_left
                      · intro w'
                        go_simp
                        with_reducible rfl
                      rotate_left
                      · simp only [Act.put, List.setIfInBounds_toArray, List.set_cons_zero, List.set_cons_succ, i64_w, i32_w]
                        rfl
                      refine take_ (i := 4) (N := some 126) (v := ?_) (a' := ?_) #[true, true, true, true, true, false, false, false, false, false, false] rfl rfl (by kernel_rfl) (fun _ _ _ h => h) (Or.inl ⟨by rfl, ?_⟩) hHeld ?_ ?_
                      rotate_left
                      · rintro w' ⟨s0, s1, s2⟩
                        go_simp
                        with_reducible rfl
                      rotate_left
                      · simp only [Act.put, List.setIfInBounds_toArray, List.set_cons_zero, List.set_cons_succ, i64_w, i32_w]
                        rfl
                      refine pure_ (i := 5) (N := some 127) (v := ?_) (a' := ?_) #[true, true, true, true, true, true, false, false, false, false, false] rfl rfl (by kernel_rfl) (fun _ _ _ h => h) (Or.inl ⟨by rfl, ?_⟩) ?_ ?_
                      rotate_left
                      · intro w'
                        go_simp
                        with_reducible rfl
                      rotate_left
                      · simp only [Act.put, List.setIfInBounds_toArray, List.set_cons_zero, List.set_cons_succ, i64_w, i32_w]
                        rfl
                      refine pure_ (i := 6) (N := some 128) (v := ?_) (a' := ?_) #[true, true, true, true, true, true, true, false, false, false, false] rfl rfl (by kernel_rfl) (fun _ _ _ h => h) (Or.inl ⟨by rfl, ?_⟩) ?_ ?_
                      rotate_left
                      · intro w'
                        go_simp
                        with_reducible rfl
                      rotate_left
                      · simp only [Act.put, List.setIfInBounds_toArray, List.set_cons_zero, List.set_cons_succ, i64_w, i32_w]
                        rfl
                      refine pure_ (i := 7) (N := some 129) (v := ?_) (a' := ?_) #[true, true, true, true, true, true, true, true, false, false, false] rfl rfl (by kernel_rfl) (fun _ _ _ h => h) (Or.inl ⟨by rfl, ?_⟩) ?_ ?_
                      rotate_left
                      · intro w'
                        go_simp
                        with_reducible rfl
                      rotate_left
                      · simp only [Act.put, List.setIfInBounds_toArray, List.set_cons_zero, List.set_cons_succ, i64_w, i32_w]
                        rfl
                      refine take_ (i := 8) (N := some 130) (v := ?_) (a' := ?_) #[true, true, true, true, true, true, true, true, true, false, false] rfl rfl (by kernel_rfl) (fun _ _ _ h => h) (Or.inl ⟨by rfl, ?_⟩) hHeld ?_ ?_
                      rotate_left
                      · rintro w' ⟨s0, s1, s2⟩
                        go_simp
                        with_reducible rfl
                      rotate_left
                      · simp only [Act.put, List.setIfInBounds_toArray, List.set_cons_zero, List.set_cons_succ, i64_w, i32_w]
                        rfl
                      refine one_ (i := 9) (N := some 131) #[true, true, true, true, true, true, true, true, true, true, false] rfl rfl (by kernel_rfl) (by decide) (fun K hK => ?_)
                      refine goes_ Tryd.func22 (by kernel_rfl) rfl #[.slice Ai l.length ci, .string nm] (by rfl) rfl rfl (by simp only [List.map_toArray, List.map_cons, List.map_nil]; rfl) ?_
                      with_reducible refine (HRF.out _ (below_step HBV.out HB5.out)).mono ?_
                      rintro e wq ⟨rfl, hb2⟩
                      refine ⟨_, rfl, ?_⟩
                      have n0_ := Aside0.mk (below_step HB5.out hb2)
                      clear HB5 hb2
                      have HB5 := n0_
                      clear n0_
                      refine hK.out _ _ ⟨pw_cell_below HB5.out hs0, pw_cell_below HB5.out hs1, pw_cell_below HB5.out hs2⟩ (fun hHeld => ?_)
                      clear hK K
                      refine norm_ (a' := ?_) ?_ ?_
                      rotate_left
                      · show Act.put _ (some 131) _ = _
                        simp only [Act.put, List.setIfInBounds_toArray, List.set_cons_zero, List.set_cons_succ, i64_w, i32_w]
                        rfl
                      refine pure_ (i := 10) (N := some 17) (v := ?_) (a' := ?_) #[true, true, true, true, true, true, true, true, true, true, true] rfl rfl (by kernel_rfl) (fun _ _ _ h => h) (Or.inl ⟨by rfl, ?_⟩) ?_ ?_
                      rotate_left
                      · intro w'
                        go_simp
                        with_reducible rfl
                      rotate_left
                      · simp only [Act.put, List.setIfInBounds_toArray, List.set_cons_zero, List.set_cons_succ, i64_w, i32_w]
                        rfl
                      refine done_ (by kernel_rfl) ?_
                      have HB := Aside0.mk (below_step HBV.out HB5.out)
                      clear HBV hs0 hs1 hs2
                      have hcz2 := pw_cell_below HB.out hczc
                      have hx := pw_cell_below HB.out hxc
                      clear HB5
                      go_wp2_with (first | (go_at_call 21; refine (HFN0.out _ (by repeat (first | (with_reducible first | exact HB.out | apply below_alloc | apply pw_below_drewN | apply below_drew1) | exact HB.out))).mono ?_; rintro e wf ⟨rfl, hb2⟩; have n0_ := Aside0.mk (below_step (by repeat (first | (with_reducible first | exact HB.out | apply below_alloc | apply pw_below_drewN | apply below_drew1) | exact HB.out)) hb2); clear HB; have HB := n0_; clear n0_ hb2; (try clear hcz2); (try clear hx); (try clear hm); have hcz2 := pw_cell_below HB.out hczc; have hx := pw_cell_below HB.out hxc; have hm := pw_cell_below HB.out hmc) | (go_at_call 15; (with_reducible refine (amanuensislaw4_num.calls _ _ _ rfl).mono ?_); rintro e wq ⟨rfl, ⟨nd, rfl⟩⟩) | (go_at_call 16; refine (amanuensisref0_EqFields.calls _ A4 c4 l Ai ci l true _ (Kd.C_below HC4.out (by repeat (first | (with_reducible first | exact HB.out | apply below_alloc | apply pw_below_drewN | apply below_drew1) | exact HB.out))) hc4 (Kd.C_below HCI.out (by repeat (first | (with_reducible first | exact HB.out | apply below_alloc | apply pw_below_drewN | apply below_drew1) | exact HB.out))) hci HEQ.out).mono ?_; rintro e wq9 ⟨rfl, ⟨nd9, rfl⟩⟩))
                      go_roundg k2
                      case measure => omega
                      case rel => exact ⟨k + 1, by first | rfl | (simp only [Int.natCast_add]; done) | (simp only [Int.natCast_add]; rfl), by omega, by omega, ⟨(by repeat (first | (with_reducible first | exact HB.out | apply below_alloc | apply pw_below_drewN | apply below_drew1) | exact HB.out))⟩⟩
                    · have HFN0 : Aside0 (∀ W, Below wc.heap.size wc W → Calls Tryd.prog 21 #[.slice A4 l.length c4, .string nm] W fun e w' => e = .returned (.tuple #[.int .i64 (idx nm l), .int .i64 0]) ∧ Below W.heap.size W w') := ⟨fun W hb => by
                        have h1 := HFN.out nm A4 c4 W hc4 (Kd.C_below HC4.out hb)
                        unfold found at h1
                        rw [if_neg (by decide), if_neg hq] at h1
                        exact h1⟩
                      have t1 : decide (0 ≤ idx nm l) = true := decide_eq_true (by omega)
                      clear hq
                      generalize idx nm l = q at HFN0 HRF t1
                      go_wp2_with (first | (go_at_call 21; refine (HFN0.out _ (by repeat (first | (with_reducible first | exact HB.out | apply below_alloc | apply pw_below_drewN | apply below_drew1) | exact HB.out))).mono ?_; rintro e wf ⟨rfl, hb2⟩; have n0_ := Aside0.mk (below_step (by repeat (first | (with_reducible first | exact HB.out | apply below_alloc | apply pw_below_drewN | apply below_drew1) | exact HB.out)) hb2); clear HB; have HB := n0_; clear n0_ hb2; (try clear hcz2); (try clear hx); (try clear hm); have hcz2 := pw_cell_below HB.out hczc; have hx := pw_cell_below HB.out hxc; have hm := pw_cell_below HB.out hmc) | (go_at_call 15; (with_reducible refine (amanuensislaw4_num.calls _ _ _ rfl).mono ?_); rintro e wq ⟨rfl, ⟨nd, rfl⟩⟩) | (go_at_call 16; refine (amanuensisref0_EqFields.calls _ A4 c4 l Ai ci l true _ (Kd.C_below HC4.out (by repeat (first | (with_reducible first | exact HB.out | apply below_alloc | apply pw_below_drewN | apply below_drew1) | exact HB.out))) hc4 (Kd.C_below HCI.out (by repeat (first | (with_reducible first | exact HB.out | apply below_alloc | apply pw_below_drewN | apply below_drew1) | exact HB.out))) hci HEQ.out).mono ?_; rintro e wq9 ⟨rfl, ⟨nd9, rfl⟩⟩))
                      have hb5 : Below wf.heap.size wf wf.drew := below_drew1 (Below.refl _ _)
                      have HB5 := Aside0.mk (Below.refl wf.drew.heap.size wf.drew)
                      have HBV := Aside0.mk (below_step HB.out hb5)
                      have hs0 := pw_cell_below hb5 hcz2
                      have hs1 := pw_cell_below hb5 hx
                      have hs2 := pw_cell_below hb5 hm
                      clear hb5 HB hcz2 hx hm
                      refine start_ (n := 11) (S := fun w' => w'.cell? ⟨gb, 2, none⟩ = some (.slice (some ad) l2.length c2) ∧ w'.cell? (ad.add i) = some (.slice Ai l.length ci) ∧ w'.cell? (an.add k) = some (.string nm)) (ds := []) #[false, false, false, false, false, false, false, false, false, false, false] (by kernel_rfl) rfl rfl ⟨pw_cell_below HB5.out hs0, pw_cell_below HB5.out hs1, pw_cell_below HB5.out hs2⟩ (fun hHeld => ?_)
                      generalize wf.drew = w5 at HB5 HBV hs0 hs1 hs2 hHeld ⊢
                      refine pure_ (i := 0) (N := some 122) (v := ?_) (a' := ?_) #[true, false, false, false, false, false, false, false, false, false, false] rfl rfl (by kernel_rfl) (fun _ _ _ h => h) (Or.inl ⟨by rfl, ?_⟩) ?_ ?_
                      rotate_left
                      · intro w'
                        go_simp
                        with_reducible rfl
                      rotate_left
                      · simp only [Act.put, List.setIfInBounds_toArray, List.set_cons_zero, List.set_cons_succ, i64_w, i32_w]
                        rfl
                      refine take_ (i := 1) (N := some 123) (v := ?_) (a' := ?_) #[true, true, false, false, false, false, false, false, false, false, false] rfl rfl (by kernel_rfl) (fun _ _ _ h => h) (Or.inl ⟨by rfl, ?_⟩) hHeld ?_ ?_
                      rotate_left
                      · rintro w' ⟨s0, s1, s2⟩
                        go_simp
                        with_reducible rfl
                      rotate_left
                      · simp only [Act.put, List.setIfInBounds_toArray, List.set_cons_zero, List.set_cons_succ, i64_w, i32_w]
                        rfl
                      refine pure_ (i := 2) (N := some 124) (v := ?_) (a' := ?_) #[true, true, true, false, false, false, false, false, false, false, false] rfl rfl (by kernel_rfl) (fun _ _ _ h => h) (Or.inl ⟨by rfl, ?_⟩) ?_ ?_
                      rotate_left
                      · intro w'
                        go_simp
                        with_reducible rfl
                      rotate_left
                      · simp only [Act.put, List.setIfInBounds_toArray, List.set_cons_zero, List.set_cons_succ, i64_w, i32_w]
                        rfl
                      refine pure_ (i := 3) (N := some 125) (v := ?_) (a' := ?_) #[true, true, true, true, false, false, false, false, false, false, false] rfl rfl (by kernel_rfl) (fun _ _ _ h => h) (Or.inl ⟨by rfl, ?_⟩) ?_ ?_
                      rotate_left
                      · intro w'
                        go_simp
                        with_reducible rfl
                      rotate_left
                      · simp only [Act.put, List.setIfInBounds_toArray, List.set_cons_zero, List.set_cons_succ, i64_w, i32_w]
                        rfl
                      refine take_ (i := 4) (N := some 126) (v := ?_) (a' := ?_) #[true, true, true, true, true, false, false, false, false, false, false] rfl rfl (by kernel_rfl) (fun _ _ _ h => h) (Or.inl ⟨by rfl, ?_⟩) hHeld ?_ ?_
                      rotate_left
                      · rintro w' ⟨s0, s1, s2⟩
                        go_simp
                        with_reducible rfl
                      rotate_left
                      · simp only [Act.put, List.setIfInBounds_toArray, List.set_cons_zero, List.set_cons_succ, i64_w, i32_w]
                        rfl
                      refine pure_ (i := 5) (N := some 127) (v := ?_) (a' := ?_) #[true, true, true, true, true, true, false, false, false, false, false] rfl rfl (by kernel_rfl) (fun _ _ _ h => h) (Or.inl ⟨by rfl, ?_⟩) ?_ ?_
                      rotate_left
                      · intro w'
                        go_simp
                        with_reducible rfl
                      rotate_left
                      · simp only [Act.put, List.setIfInBounds_toArray, List.set_cons_zero, List.set_cons_succ, i64_w, i32_w]
                        rfl
                      refine pure_ (i := 6) (N := some 128) (v := ?_) (a' := ?_) #[true, true, true, true, true, true, true, false, false, false, false] rfl rfl (by kernel_rfl) (fun _ _ _ h => h) (Or.inl ⟨by rfl, ?_⟩) ?_ ?_
                      rotate_left
                      · intro w'
                        go_simp
                        with_reducible rfl
                      rotate_left
                      · simp only [Act.put, List.setIfInBounds_toArray, List.set_cons_zero, List.set_cons_succ, i64_w, i32_w]
                        rfl
                      refine pure_ (i := 7) (N := some 129) (v := ?_) (a' := ?_) #[true, true, true, true, true, true, true, true, false, false, false] rfl rfl (by kernel_rfl) (fun _ _ _ h => h) (Or.inl ⟨by rfl, ?_⟩) ?_ ?_
                      rotate_left
                      · intro w'
                        go_simp
                        with_reducible rfl
                      rotate_left
                      · simp only [Act.put, List.setIfInBounds_toArray, List.set_cons_zero, List.set_cons_succ, i64_w, i32_w]
                        rfl
                      refine take_ (i := 8) (N := some 130) (v := ?_) (a' := ?_) #[true, true, true, true, true, true, true, true, true, false, false] rfl rfl (by kernel_rfl) (fun _ _ _ h => h) (Or.inl ⟨by rfl, ?_⟩) hHeld ?_ ?_
                      rotate_left
                      · rintro w' ⟨s0, s1, s2⟩
                        go_simp
                        with_reducible rfl
                      rotate_left
                      · simp only [Act.put, List.setIfInBounds_toArray, List.set_cons_zero, List.set_cons_succ, i64_w, i32_w]
                        rfl
                      refine one_ (i := 9) (N := some 131) #[true, true, true, true, true, true, true, true, true, true, false] rfl rfl (by kernel_rfl) (by decide) (fun K hK => ?_)
                      refine goes_ Tryd.func22 (by kernel_rfl) rfl #[.slice Ai l.length ci, .string nm] (by rfl) rfl rfl (by simp only [List.map_toArray, List.map_cons, List.map_nil]; rfl) ?_
                      with_reducible refine (HRF.out _ (below_step HBV.out HB5.out)).mono ?_
                      rintro e wq ⟨rfl, hb2⟩
                      refine ⟨_, rfl, ?_⟩
                      have n0_ := Aside0.mk (below_step HB5.out hb2)
                      clear HB5 hb2
                      have HB5 := n0_
                      clear n0_
                      refine hK.out _ _ ⟨pw_cell_below HB5.out hs0, pw_cell_below HB5.out hs1, pw_cell_below HB5.out hs2⟩ (fun hHeld => ?_)
                      clear hK K
                      refine norm_ (a' := ?_) ?_ ?_
                      rotate_left
                      · show Act.put _ (some 131) _ = _
                        simp only [Act.put, List.setIfInBounds_toArray, List.set_cons_zero, List.set_cons_succ, i64_w, i32_w]
                        rfl
                      refine pure_ (i := 10) (N := some 17) (v := ?_) (a' := ?_) #[true, true, true, true, true, true, true, true, true, true, true] rfl rfl (by kernel_rfl) (fun _ _ _ h => h) (Or.inl ⟨by rfl, ?_⟩) ?_ ?_
                      rotate_left
                      · intro w'
                        go_simp
                        with_reducible rfl
                      rotate_left
                      · simp only [Act.put, List.setIfInBounds_toArray, List.set_cons_zero, List.set_cons_succ, i64_w, i32_w]
                        rfl
                      refine done_ (by kernel_rfl) ?_
                      have HB := Aside0.mk (below_step HBV.out HB5.out)
                      clear HBV hs0 hs1 hs2
                      have hcz2 := pw_cell_below HB.out hczc
                      have hx := pw_cell_below HB.out hxc
                      clear HB5
                      go_wp2_with (first | (go_at_call 21; refine (HFN0.out _ (by repeat (first | (with_reducible first | exact HB.out | apply below_alloc | apply pw_below_drewN | apply below_drew1) | exact HB.out))).mono ?_; rintro e wf ⟨rfl, hb2⟩; have n0_ := Aside0.mk (below_step (by repeat (first | (with_reducible first | exact HB.out | apply below_alloc | apply pw_below_drewN | apply below_drew1) | exact HB.out)) hb2); clear HB; have HB := n0_; clear n0_ hb2; (try clear hcz2); (try clear hx); (try clear hm); have hcz2 := pw_cell_below HB.out hczc; have hx := pw_cell_below HB.out hxc; have hm := pw_cell_below HB.out hmc) | (go_at_call 15; (with_reducible refine (amanuensislaw4_num.calls _ _ _ rfl).mono ?_); rintro e wq ⟨rfl, ⟨nd, rfl⟩⟩) | (go_at_call 16; refine (amanuensisref0_EqFields.calls _ A4 c4 l Ai ci l true _ (Kd.C_below HC4.out (by repeat (first | (with_reducible first | exact HB.out | apply below_alloc | apply pw_below_drewN | apply below_drew1) | exact HB.out))) hc4 (Kd.C_below HCI.out (by repeat (first | (with_reducible first | exact HB.out | apply below_alloc | apply pw_below_drewN | apply below_drew1) | exact HB.out))) hci HEQ.out).mono ?_; rintro e wq9 ⟨rfl, ⟨nd9, rfl⟩⟩))
                      go_roundg k2
                      case measure => omega
                      case rel => exact ⟨k + 1, by first | rfl | (simp only [Int.natCast_add]; done) | (simp only [Int.natCast_add]; rfl), by omega, by omega, ⟨(by repeat (first | (with_reducible first | exact HB.out | apply below_alloc | apply pw_below_drewN | apply below_drew1) | exact HB.out))⟩⟩
                  · have d1 : decide ((k : Int) < (ns.length : Int)) = false := decide_eq_false (by omega)
                    go_wp2
                    go_roundg k1
                    case measure => omega
                    case rel => exact ⟨i + 1, by first | rfl | (simp only [Int.natCast_add]; done) | (simp only [Int.natCast_add]; rfl), by omega, by omega, ⟨blk_below (g := gb) (o := .cells #[.slice A0 l0.length c0, .slice A1 l1.length c1, .slice (some ad) l2.length c2] 28 (0, 0)) BKgb.out HB.out⟩, ⟨below_step HBX.out HB.out⟩⟩
          · have c2_ : decide ((i : Int) < 6) = false := decide_eq_false (by omega)
            have hcz2 : wr.cell? ⟨gb, 2, none⟩ = some (.slice A2 l2.length c2) := (blk_cell BKgb.out 2).trans rfl; have hfz2 := blk_frozen BKgb.out 2
            go_wp2
            go_meet
            case rel => exact ⟨(by repeat (first | (with_reducible first | exact HB.out | apply below_alloc | apply pw_below_drewN | apply below_drew1) | exact HB.out))⟩
        · have c1_ : decide ((i : Int) < (l2.length : Int)) = false := decide_eq_false (by omega)
          have hcz2 : wr.cell? ⟨gb, 2, none⟩ = some (.slice A2 l2.length c2) := (blk_cell BKgb.out 2).trans rfl; have hfz2 := blk_frozen BKgb.out 2
          go_wp2
          go_meet
          case rel => exact ⟨(by repeat (first | (with_reducible first | exact HB.out | apply below_alloc | apply pw_below_drewN | apply below_drew1) | exact HB.out))⟩
    case rest =>
      clear HB
      (try clear BKgb hcz0 hcz1 hcz2 hfz0 hfz1 hfz2)
      have HB := hcut
      clear hcut
      go_wp2
      go_loopg [18] 8 (fun kq v18 w' => ∃ k : Int, v18 = .int .i64 k ∧ -1 ≤ k ∧ k + kq = 7 ∧ Aside0 (Below w.heap.size w w'))
      case atStart => exact ⟨-1, rfl, by omega, by omega, ⟨(by repeat (first | (with_reducible first | exact HB.out | apply below_alloc | apply pw_below_drewN | apply below_drew1) | exact HB.out))⟩⟩
      case round =>
        clear HB
        obtain ⟨k, rfl, hk1, hkq, HB⟩ := hrel
        have HBT := Aside0.mk (between_serv k)
        by_cases hk7 : k < 7
        · have c1_ : decide (k < 7) = true := decide_eq_true hk7
          obtain ⟨k1, rfl⟩ : ∃ k1, gk = k1 + 1 := ⟨gk - 1, by omega⟩
          cases hs : isServ k with
          | true =>
            rw [hs] at HBT
            have HNM := Aside0.mk (name_yes k hs)
            have hk0 : 0 ≤ k := by unfold isServ at hs; simp at hs; omega
            have hk5 : k < svcs.length := by show k < 5; unfold isServ at hs; simp at hs; omega
            have q1 := eq_true hk0
            have q2 := eq_true hk5
            have q3 : (k < 5) = True := eq_true (by have : k < 5 := hk5; exact this)
            have q4 : (k.toNat < 5) = True := eq_true (by have : k < 5 := hk5; omega)
            have q5 : (k.toNat < svcs.length) = True := eq_true (by have : k < 5 := hk5; show k.toNat < 5; omega)
            go_wp2_with (first | (go_at_call 23; refine (HNM.out _).mono ?_; rintro e wq3 ⟨rfl, hb2⟩; have n0_ := Aside0.mk (below_step (by repeat (first | (with_reducible first | exact HB.out | apply below_alloc | apply pw_below_drewN | apply below_drew1) | exact HB.out)) hb2); clear HB; have HB := n0_; clear n0_ hb2) | (go_at_call 24; (with_reducible refine (amanuensisref0_Between.calls _ _ _ _ _ HBT.out).mono ?_); rintro e wq4 ⟨rfl, ⟨nd, rfl⟩⟩) | (go_at_call 25; refine (amanuensisref4_Services.calls svcs _ rfl).mono ?_; rintro e wq5 ⟨v9, rfl, hR9, hb2⟩; obtain ⟨Af, cf, rfl, hcf, hCf⟩ := Kd.R_reads hR9; obtain ⟨af, eaf, hf⟩ := str_at hCf k hk0 hk5; cases eaf; have hf2 : wq5.cell? (af.add k.toNat) = some (.string (svcName k)) := hf; clear hf hR9 hCf; have n0_ := Aside0.mk (below_step (by repeat (first | (with_reducible first | exact HB.out | apply below_alloc | apply pw_below_drewN | apply below_drew1) | exact HB.out)) hb2); clear HB; have HB := n0_; clear n0_ hb2) | (go_at_call 15; (with_reducible refine (amanuensislaw4_num.calls _ _ _ rfl).mono ?_); rintro e wq ⟨rfl, ⟨nd, rfl⟩⟩))
            go_roundg k1
            case measure => omega
            case rel => exact ⟨k + 1, rfl, by omega, by omega, ⟨(by repeat (first | (with_reducible first | exact HB.out | apply below_alloc | apply pw_below_drewN | apply below_drew1) | exact HB.out))⟩⟩
          | false =>
            rw [hs] at HBT
            have HNM := Aside0.mk (name_no k hs)
            go_wp2_with (first | (go_at_call 23; refine (HNM.out _).mono ?_; rintro e wq3 ⟨rfl, hb2⟩; have n0_ := Aside0.mk (below_step (by repeat (first | (with_reducible first | exact HB.out | apply below_alloc | apply pw_below_drewN | apply below_drew1) | exact HB.out)) hb2); clear HB; have HB := n0_; clear n0_ hb2) | (go_at_call 24; (with_reducible refine (amanuensisref0_Between.calls _ _ _ _ _ HBT.out).mono ?_); rintro e wq4 ⟨rfl, ⟨nd, rfl⟩⟩) | (go_at_call 15; (with_reducible refine (amanuensislaw4_num.calls _ _ _ rfl).mono ?_); rintro e wq ⟨rfl, ⟨nd, rfl⟩⟩))
            go_roundg k1
            case measure => omega
            case rel => exact ⟨k + 1, rfl, by omega, by omega, ⟨(by repeat (first | (with_reducible first | exact HB.out | apply below_alloc | apply pw_below_drewN | apply below_drew1) | exact HB.out))⟩⟩
        · have c1_ : decide (k < 7) = false := decide_eq_false hk7
          clear HBT
          go_wp2_with (first | ((with_reducible refine gate_dst (N := 192) rfl ?_); refine Kd.R_lit Kd.string _ 9 ?hg (N := 192) ?hd (xs := ([(⟨#[97, 99, 99, 111, 117, 110, 116]⟩ : ByteArray), (⟨#[105, 110, 118, 101, 110, 116, 111, 114, 121]⟩ : ByteArray), (⟨#[98, 111, 111, 107, 105, 110, 103]⟩ : ByteArray), (⟨#[110, 111, 116, 105, 102, 105, 101, 114]⟩ : ByteArray), (⟨#[]⟩ : ByteArray), (⟨#[65, 99, 99, 111, 117, 110, 116]⟩ : ByteArray)] : List ByteArray)) (inner := [.string (⟨#[97, 99, 99, 111, 117, 110, 116]⟩ : ByteArray), .string (⟨#[105, 110, 118, 101, 110, 116, 111, 114, 121]⟩ : ByteArray), .string (⟨#[98, 111, 111, 107, 105, 110, 103]⟩ : ByteArray), .string (⟨#[110, 111, 116, 105, 102, 105, 101, 114]⟩ : ByteArray), .string (⟨#[]⟩ : ByteArray), .string (⟨#[65, 99, 99, 111, 117, 110, 116]⟩ : ByteArray)]) (ok := fun _ => True) (okp := fun _ => False) ?hr ?hp (fun _ hk => hk.elim) trivial (Below.refl _ _) (Nat.le_refl _) (by simp) ?_; (case hd => rfl); (case hg => rfl); (case hr => first | (go_simp; done) | (go_simp; rfl)); (case hp => exact (Reps.one (show Kd.M Kd.string _ _ _ ((⟨#[97, 99, 99, 111, 117, 110, 116]⟩ : ByteArray) : ByteArray) [.string ((⟨#[97, 99, 99, 111, 117, 110, 116]⟩ : ByteArray))] from rfl) (Reps.one (show Kd.M Kd.string _ _ _ ((⟨#[105, 110, 118, 101, 110, 116, 111, 114, 121]⟩ : ByteArray) : ByteArray) [.string ((⟨#[105, 110, 118, 101, 110, 116, 111, 114, 121]⟩ : ByteArray))] from rfl) (Reps.one (show Kd.M Kd.string _ _ _ ((⟨#[98, 111, 111, 107, 105, 110, 103]⟩ : ByteArray) : ByteArray) [.string ((⟨#[98, 111, 111, 107, 105, 110, 103]⟩ : ByteArray))] from rfl) (Reps.one (show Kd.M Kd.string _ _ _ ((⟨#[110, 111, 116, 105, 102, 105, 101, 114]⟩ : ByteArray) : ByteArray) [.string ((⟨#[110, 111, 116, 105, 102, 105, 101, 114]⟩ : ByteArray))] from rfl) (Reps.one (show Kd.M Kd.string _ _ _ ((⟨#[]⟩ : ByteArray) : ByteArray) [.string ((⟨#[]⟩ : ByteArray))] from rfl) (Reps.one (show Kd.M Kd.string _ _ _ ((⟨#[65, 99, 99, 111, 117, 110, 116]⟩ : ByteArray) : ByteArray) [.string ((⟨#[65, 99, 99, 111, 117, 110, 116]⟩ : ByteArray))] from rfl) (Reps.none _ _)))))))); intro v5_ w7 ho hb2 hg_ hnew_; clear hg_ hnew_; obtain ⟨A9, c9, rfl, hc9, hC9⟩ := Kd.R_reads ho; have HC9 := Aside0.mk hC9; clear ho hC9; have n0_ := Aside0.mk (below_step (by repeat (first | (with_reducible first | exact HB.out | apply below_alloc | apply pw_below_drewN | apply below_drew1) | exact HB.out)) hb2); clear HB; have HB := n0_; clear n0_ hb2))
          have HBW := HB
          clear HB
          have HB := Aside0.mk (Below.refl w7.heap.size w7)
          go_loopg [22] 6 (fun kq v22 w' => ∃ j : Nat, v22 = .int .i64 j ∧ j + kq = 6 ∧ Aside0 (Below w7.heap.size w7 w'))
          case atStart => exact ⟨0, rfl, by omega, ⟨(by repeat (first | (with_reducible first | exact HB.out | apply below_alloc | apply pw_below_drewN | apply below_drew1) | exact HB.out))⟩⟩
          case round =>
            clear HB
            obtain ⟨j, rfl, hj, HB⟩ := hrel
            by_cases hj6 : j < 6
            · have c2_ : decide ((j : Int) < 6) = true := decide_eq_true (by omega)
              obtain ⟨k1, rfl⟩ : ∃ k1, gk = k1 + 1 := ⟨gk - 1, by omega⟩
              obtain ⟨a9, e9, hm0⟩ := str_at HC9.out (j : Int) (by omega) (by show (j : Int) < 6; omega)
              cases e9
              rw [Int.toNat_natCast] at hm0
              obtain ⟨nm, hnm⟩ : ∃ nm, n6.getD j ⟨#[]⟩ = nm := ⟨_, rfl⟩
              have hm1 : w7.cell? (a9.add j) = some (.string nm) := by rw [← hnm]; exact hm0
              have hm := pw_cell_below HB.out hm1
              clear hm0 hm1 hnm
              obtain ⟨n, e, hsa, hsb, hne⟩ := HSV.out nm
              have HSA := Aside0.mk hsa
              have HSB := Aside0.mk hsb
              clear hsa hsb
              have q1 := eq_true (show (0 : Int) ≤ (j : Int) by omega)
              have q2 := eq_true (show (j : Int) < 6 by omega)
              have q3 := eq_true hj6
              rcases hne with ⟨hn0, rfl⟩ | ⟨rfl, rfl⟩
              · have t1 : decide (0 < n) = true := decide_eq_true hn0
                have t2 : (n == 0) = false := by rw [beq_eq_false_iff_ne]; omega
                go_wp2_with (first | (go_at_call 26; refine (HSA.out _).mono ?_; rintro e wq3 ⟨rfl, hb2⟩; have hm2 := pw_cell_below hb2 (by simpa using hm); clear hm; have hm := hm2; clear hm2; have n0_ := Aside0.mk (below_step (by repeat (first | (with_reducible first | exact HB.out | apply below_alloc | apply pw_below_drewN | apply below_drew1) | exact HB.out)) hb2); clear HB; have HB := n0_; clear n0_ hb2) | (go_at_call 27; refine (HSB.out _).mono ?_; rintro e wq4 ⟨rfl, hb2⟩; have n0_ := Aside0.mk (below_step (by repeat (first | (with_reducible first | exact HB.out | apply below_alloc | apply pw_below_drewN | apply below_drew1) | exact HB.out)) hb2); clear HB; have HB := n0_; clear n0_ hb2) | (go_at_call 15; (with_reducible refine (amanuensislaw4_num.calls _ _ _ rfl).mono ?_); rintro e wq ⟨rfl, ⟨nd, rfl⟩⟩))
                go_roundg k1
                case measure => omega
                case rel => exact ⟨j + 1, by first | rfl | (simp only [Int.natCast_add]; done) | (simp only [Int.natCast_add]; rfl), by omega, ⟨(by repeat (first | (with_reducible first | exact HB.out | apply below_alloc | apply pw_below_drewN | apply below_drew1) | exact HB.out))⟩⟩
              · go_wp2_with (first | (go_at_call 26; refine (HSA.out _).mono ?_; rintro e wq3 ⟨rfl, hb2⟩; have hm2 := pw_cell_below hb2 (by simpa using hm); clear hm; have hm := hm2; clear hm2; have n0_ := Aside0.mk (below_step (by repeat (first | (with_reducible first | exact HB.out | apply below_alloc | apply pw_below_drewN | apply below_drew1) | exact HB.out)) hb2); clear HB; have HB := n0_; clear n0_ hb2) | (go_at_call 27; refine (HSB.out _).mono ?_; rintro e wq4 ⟨rfl, hb2⟩; have n0_ := Aside0.mk (below_step (by repeat (first | (with_reducible first | exact HB.out | apply below_alloc | apply pw_below_drewN | apply below_drew1) | exact HB.out)) hb2); clear HB; have HB := n0_; clear n0_ hb2) | (go_at_call 15; (with_reducible refine (amanuensislaw4_num.calls _ _ _ rfl).mono ?_); rintro e wq ⟨rfl, ⟨nd, rfl⟩⟩))
                go_roundg k1
                case measure => omega
                case rel => exact ⟨j + 1, by first | rfl | (simp only [Int.natCast_add]; done) | (simp only [Int.natCast_add]; rfl), by omega, ⟨(by repeat (first | (with_reducible first | exact HB.out | apply below_alloc | apply pw_below_drewN | apply below_drew1) | exact HB.out))⟩⟩
            · have ej : j = 6 := by omega
              subst ej
              have n0_ := Aside0.mk (below_step HBW.out HB.out)
              clear HB
              have HB := n0_
              clear n0_
              go_wp2_with (first | (go_at_call 17; refine (HWK.out _ (Lib_tab HT.out (by repeat (first | (with_reducible first | exact HB.out | apply below_alloc | apply pw_below_drewN | apply below_drew1) | exact HB.out)))).mono ?_; rintro e wq5 ⟨rfl, hb2⟩; have n0_ := Aside0.mk (below_step (by repeat (first | (with_reducible first | exact HB.out | apply below_alloc | apply pw_below_drewN | apply below_drew1) | exact HB.out)) hb2); clear HB; have HB := n0_; clear n0_ hb2))
              go_ret
              exact ⟨rfl, (by repeat (first | (with_reducible first | exact HB.out | apply below_alloc | apply pw_below_drewN | apply below_drew1) | exact HB.out))⟩
end Go.Proofs.YtgobpenmemlieaaDoor.Lex
