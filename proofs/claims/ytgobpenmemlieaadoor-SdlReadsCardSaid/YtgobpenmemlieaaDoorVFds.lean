/- Packed by our own shrink.py: theorems that the claim does not use are left out. -/
import Derived.Test.YtgobpenmemlieaaDoorVFld
/-
  The walk of (*parser).fields.
-/
namespace Go.Proofs.YtgobpenmemlieaaDoor.Lex
open Go.RowKit Go.Proofs.YtgobpenmemlieaaDoorW.PrintWords Go.Proofs.YtgobpenmemlieaaDoorW.PrintLast Go.Proofs.YtgobpenmemlieaaDoorW.PrintMore PSdlBack
set_option linter.unusedVariables false
set_option linter.unusedSimpArgs false
/-- A field as a text has it. -/
structure S75 where
  f0 : ByteArray
  f1 : ByteArray
  f2 : ByteArray
  f3 : ByteArray
def z75 : S75 := ⟨⟨#[]⟩, ⟨#[]⟩, ⟨#[]⟩, ⟨#[]⟩⟩
def k75 : Kd S75 := Kd.iso (Kd.pair Kd.string (Kd.pair Kd.string (Kd.pair Kd.string Kd.string))) (fun x : S75 => (x.f0, x.f1, x.f2, x.f3))
theorem k75_open {w : World} {x : S75} {cs : List Value} (h : k75.K w x cs) : cs = [.string x.f0, .string x.f1, .string x.f2, .string x.f3] := by
  obtain ⟨_, _, rfl, rfl, ⟨_, _, rfl, rfl, ⟨_, _, rfl, rfl, rfl⟩⟩⟩ := h
  exact rfl
theorem k75_mkM (w : World) (base : Nat) (ok : Nat → Prop) (x : S75) : k75.M w base ok x [.string x.f0, .string x.f1, .string x.f2, .string x.f3] := ⟨[.string x.f0], [.string x.f1, .string x.f2, .string x.f3], rfl, rfl, ⟨[.string x.f1], [.string x.f2, .string x.f3], rfl, rfl, ⟨[.string x.f2], [.string x.f3], rfl, rfl, rfl⟩⟩⟩
theorem info75 : (Tryd.prog.info? 75).map (fun i => (i.zero, i.size, i.bytes)) = some (some (.agg #[.string ⟨#[]⟩, .string ⟨#[]⟩, .string ⟨#[]⟩, .string ⟨#[]⟩]), 4, 64) := by kernel_rfl
def raw (p : List S39 × Bool) : S75 := ⟨nm p, nm (p1 p), nm (p2 p), nm (p3 p)⟩
/-- Whether there is one more field. -/
def closes (l : List S39) : Bool := (seen l).toList == [125]
def more (p : List S39 × Bool) (l : List S75) : Bool := !p.2 && (l.length == 0 || !closes p.1)
inductive Reads : Nat → (List S39 × Bool) → List S75 → (List S39 × Bool) → List S75 → Prop
  | stop {n : Nat} {p : List S39 × Bool} {l : List S75} : more p l = false → Reads n p l p l
  | step {n : Nat} {p q : List S39 × Bool} {l m : List S75} : more p l = true → Reads n (p4 p) (l ++ [raw p]) q m → Reads (n + 1) p l q m
theorem below_less {B C : Nat} {a b : World} (h : Below B a b) (hc : C ≤ B) : Below C a b := ⟨h.os, h.tape, h.output, h.size, fun i hi => h.block i (by omega)⟩
set_option maxHeartbeats 8000000 in
set_option maxRecDepth 100000 in
theorem fields_calls (g : Nat) (p : List S39 × Bool) (n : Nat) (q : List S39 × Bool) (m : List S75) (H : Reads n (sg W0 p) [] q m) (hn : n ≤ 1000000) (w0 w : World) (hI : PS w0 w g p.1 p.2) (hB : Below w0.heap.size w0 w) (hS : Small p.1) (hT : Tab w0) :
    Calls Tryd.prog 34 #[.pointer (some ⟨g, 0, none⟩)] w fun e w' => ∃ v, e = .returned v ∧ Kd.R k75 75 w' w.heap.size (fun k => k ≠ g) v m ∧ PS w0 w' g (sg W5 q).1 ((sg W5 q).2 || decide (0 < (sg W5 q).1.length)) ∧ Below w0.heap.size w0 w' ∧ KeepBut w w' g none := by
  have HI := Aside0.mk hI
  have HB := Aside0.mk hB
  have HK := Aside0.mk (KeepBut.refl w g none)
  have HS := Aside0.mk hS
  have HT := Aside0.mk hT
  have HR := Aside0.mk H
  clear hI hS hT H
  obtain ⟨l5, b5, h5⟩ : ∃ l5 b5, sg W5 q = (l5, b5) := ⟨_, _, rfl⟩
  rw [h5]
  obtain ⟨b6, h6⟩ : ∃ b6, (b5 || decide (0 < l5.length)) = b6 := ⟨_, rfl⟩
  show Calls Tryd.prog 34 #[.pointer (some ⟨g, 0, none⟩)] w fun e w' => ∃ v, e = .returned v ∧ Kd.R k75 75 w' w.heap.size (fun k => k ≠ g) v m ∧ PS w0 w' g l5 (b5 || decide (0 < l5.length)) ∧ Below w0.heap.size w0 w' ∧ KeepBut w w' g none
  rw [h6]
  go_enter Tryd.func34, Tryd.ntmps34
  go_wp2_with (first | (go_at_call 51; refine (signs0 g p w0 _ (by (with_reducible repeat (first | exact HI.out | apply PS.alloc | apply PS.drewN)); done) (by repeat (first | (with_reducible first | exact HB.out | apply below_alloc | apply pw_below_drewN | apply below_drew1) | exact HB.out)) HT.out).mono ?_; rintro e wq ⟨rfl, hi2, hb2, hk2⟩; have n0_ := Aside0.mk hi2; have n1_ := Aside0.mk hb2; have n2_ := Aside0.mk (KeepBut.trans (by repeat (first | (with_reducible first | exact HK.out | apply keep_drewN | apply keep_drew | apply keep_alloc) | exact HK.out)) hk2 (.inl rfl)); clear HI HB HK; have HI := n0_; have HB := n1_; have HK := n2_; clear n0_ n1_ n2_ hi2 hb2 hk2))
  have HSw := Aside0.mk hB.size
  go_loopg [2] n (fun kq v2 w' => ∃ (c : List S39 × Bool) (l : List S75), Aside0 (Reads kq c l q m) ∧ Aside0 (l.length + kq ≤ 1000000) ∧ Aside0 (Small c.1) ∧ Aside0 (Kd.R k75 75 w' w.heap.size (fun k => k ≠ g) v2 l) ∧ Aside0 (PS w0 w' g c.1 c.2) ∧ Aside0 (Below w0.heap.size w0 w') ∧ Aside0 (KeepBut w w' g none))
  case atStart => exact ⟨sg W0 p, [], HR, ⟨by simpa using hn⟩, ⟨Small.sg HS.out _⟩, ⟨Kd.R_nil _ _ _ _ _⟩, ⟨(by (with_reducible repeat (first | exact HI.out | apply PS.alloc | apply PS.drewN)); done)⟩, ⟨(by repeat (first | (with_reducible first | exact HB.out | apply below_alloc | apply pw_below_drewN | apply below_drew1) | exact HB.out))⟩, ⟨(by repeat (first | (with_reducible first | exact HK.out | apply keep_drewN | apply keep_drew | apply keep_alloc) | exact HK.out))⟩⟩
  case round =>
    clear HI HB HK HR
    obtain ⟨⟨c, b⟩, l, HR, HL, HSm, HO, HI, HB, HK⟩ := hrel
    have hu75 := Tryd.underlying75
    cases HR.out with
    | stop h =>
      clear HR
      unfold more at h
      cases b with
      | true =>
        obtain ⟨A2, c2, rfl, hc2, hC2⟩ := Kd.R_reads HO.out
        obtain ⟨A1, c1, HG, hg, HC, hc⟩ := HI.out
        have hcz0 : wr.cell? ⟨g, 0, none⟩ = some (.slice A1 c.length c1) := (blk_cell HG 0).trans rfl
        have hcz1 : wr.cell? ⟨g, 1, none⟩ = some (.bool true) := (blk_cell HG 1).trans rfl
        have hfz1 := blk_frozen HG 1
        clear HG hC2 HC hg hc hc2
        cases b5 with
        | true =>
          rw [Bool.true_or] at h6
          subst h6
          go_wp2_with (first | (go_at_call 51; refine (signs5 g (c, true) w0 _ (by (with_reducible repeat (first | exact HI.out | apply PS.alloc | apply PS.drewN)); done) (by repeat (first | (with_reducible first | exact HB.out | apply below_alloc | apply pw_below_drewN | apply below_drew1) | exact HB.out)) HT.out).mono ?_; rintro e wq ⟨rfl, hi2, hb2, hk2⟩; have n0_ := Aside0.mk hi2; have n1_ := Aside0.mk hb2; have n2_ := Aside0.mk (KeepBut.trans (by repeat (first | (with_reducible first | exact HK.out | apply keep_drewN | apply keep_drew | apply keep_alloc) | exact HK.out)) hk2 (.inl rfl)); have n3_ := Aside0.mk (Kd.R_keep (by (with_reducible repeat (first | apply Kd.R_alloc | apply Kd.R_drewN | apply Kd.R_drew)); exact HO.out) hk2 (fun _ h_ => h_)); clear HI HB HK HO hcz0 hcz1 hfz1; obtain ⟨A5, c5, HG5, hg5, HC5, hc5⟩ := n0_.out; have hcz0 : wq.cell? ⟨g, 0, none⟩ = some (.slice A5 (sg W5 (c, true)).1.length c5) := (blk_cell HG5 0).trans rfl; have hcz1 : wq.cell? ⟨g, 1, none⟩ = some (.bool (sg W5 (c, true)).2) := (blk_cell HG5 1).trans rfl; have hfz1 := blk_frozen HG5 1; (try rw [h5] at hcz0); (try rw [h5] at hcz1); clear HG5 hg5 HC5 hc5; have HI := n0_; have HB := n1_; have HK := n2_; have HO := n3_; clear n0_ n1_ n2_ n3_ hb2 hk2 hi2))
          go_ret
          exact ⟨_, rfl, Kd.R_far (by (with_reducible repeat (first | apply Kd.R_alloc | apply Kd.R_drewN | apply Kd.R_drew)); exact HO.out) (fun k h_ => h_) _, by have h_ := PS.set_1 (by (with_reducible repeat (first | exact HI.out | apply PS.alloc | apply PS.drewN)); done) true; rw [h5] at h_; exact h_, below_set (by repeat (first | (with_reducible first | exact HB.out | apply below_alloc | apply pw_below_drewN | apply below_drew1) | exact HB.out)) (PS.ge HI.out), KeepBut.set_ (by repeat (first | (with_reducible first | exact HK.out | apply keep_drewN | apply keep_drew | apply keep_alloc) | exact HK.out)) 1 _⟩
        | false =>
          rw [Bool.false_or] at h6
          by_cases h7 : 0 < l5.length
          · have t6 : decide (0 < (l5.length : Int)) = true := decide_eq_true (by omega)
            rw [show decide (0 < l5.length) = true from decide_eq_true h7] at h6
            subst h6
            go_wp2_with (first | (go_at_call 51; refine (signs5 g (c, true) w0 _ (by (with_reducible repeat (first | exact HI.out | apply PS.alloc | apply PS.drewN)); done) (by repeat (first | (with_reducible first | exact HB.out | apply below_alloc | apply pw_below_drewN | apply below_drew1) | exact HB.out)) HT.out).mono ?_; rintro e wq ⟨rfl, hi2, hb2, hk2⟩; have n0_ := Aside0.mk hi2; have n1_ := Aside0.mk hb2; have n2_ := Aside0.mk (KeepBut.trans (by repeat (first | (with_reducible first | exact HK.out | apply keep_drewN | apply keep_drew | apply keep_alloc) | exact HK.out)) hk2 (.inl rfl)); have n3_ := Aside0.mk (Kd.R_keep (by (with_reducible repeat (first | apply Kd.R_alloc | apply Kd.R_drewN | apply Kd.R_drew)); exact HO.out) hk2 (fun _ h_ => h_)); clear HI HB HK HO hcz0 hcz1 hfz1; obtain ⟨A5, c5, HG5, hg5, HC5, hc5⟩ := n0_.out; have hcz0 : wq.cell? ⟨g, 0, none⟩ = some (.slice A5 (sg W5 (c, true)).1.length c5) := (blk_cell HG5 0).trans rfl; have hcz1 : wq.cell? ⟨g, 1, none⟩ = some (.bool (sg W5 (c, true)).2) := (blk_cell HG5 1).trans rfl; have hfz1 := blk_frozen HG5 1; (try rw [h5] at hcz0); (try rw [h5] at hcz1); clear HG5 hg5 HC5 hc5; have HI := n0_; have HB := n1_; have HK := n2_; have HO := n3_; clear n0_ n1_ n2_ n3_ hb2 hk2 hi2))
            go_ret
            exact ⟨_, rfl, Kd.R_far (by (with_reducible repeat (first | apply Kd.R_alloc | apply Kd.R_drewN | apply Kd.R_drew)); exact HO.out) (fun k h_ => h_) _, by have h_ := PS.set_1 (by (with_reducible repeat (first | exact HI.out | apply PS.alloc | apply PS.drewN)); done) true; rw [h5] at h_; exact h_, below_set (by repeat (first | (with_reducible first | exact HB.out | apply below_alloc | apply pw_below_drewN | apply below_drew1) | exact HB.out)) (PS.ge HI.out), KeepBut.set_ (by repeat (first | (with_reducible first | exact HK.out | apply keep_drewN | apply keep_drew | apply keep_alloc) | exact HK.out)) 1 _⟩
          · have t6 : decide (0 < (l5.length : Int)) = false := decide_eq_false (by omega)
            rw [show decide (0 < l5.length) = false from decide_eq_false h7] at h6
            subst h6
            go_wp2_with (first | (go_at_call 51; refine (signs5 g (c, true) w0 _ (by (with_reducible repeat (first | exact HI.out | apply PS.alloc | apply PS.drewN)); done) (by repeat (first | (with_reducible first | exact HB.out | apply below_alloc | apply pw_below_drewN | apply below_drew1) | exact HB.out)) HT.out).mono ?_; rintro e wq ⟨rfl, hi2, hb2, hk2⟩; have n0_ := Aside0.mk hi2; have n1_ := Aside0.mk hb2; have n2_ := Aside0.mk (KeepBut.trans (by repeat (first | (with_reducible first | exact HK.out | apply keep_drewN | apply keep_drew | apply keep_alloc) | exact HK.out)) hk2 (.inl rfl)); have n3_ := Aside0.mk (Kd.R_keep (by (with_reducible repeat (first | apply Kd.R_alloc | apply Kd.R_drewN | apply Kd.R_drew)); exact HO.out) hk2 (fun _ h_ => h_)); clear HI HB HK HO hcz0 hcz1 hfz1; obtain ⟨A5, c5, HG5, hg5, HC5, hc5⟩ := n0_.out; have hcz0 : wq.cell? ⟨g, 0, none⟩ = some (.slice A5 (sg W5 (c, true)).1.length c5) := (blk_cell HG5 0).trans rfl; have hcz1 : wq.cell? ⟨g, 1, none⟩ = some (.bool (sg W5 (c, true)).2) := (blk_cell HG5 1).trans rfl; have hfz1 := blk_frozen HG5 1; (try rw [h5] at hcz0); (try rw [h5] at hcz1); clear HG5 hg5 HC5 hc5; have HI := n0_; have HB := n1_; have HK := n2_; have HO := n3_; clear n0_ n1_ n2_ n3_ hb2 hk2 hi2))
            go_ret
            exact ⟨_, rfl, Kd.R_far (by (with_reducible repeat (first | apply Kd.R_alloc | apply Kd.R_drewN | apply Kd.R_drew)); exact HO.out) (fun k h_ => h_) _, by have h_ := PS.set_1 (by (with_reducible repeat (first | exact HI.out | apply PS.alloc | apply PS.drewN)); done) false; rw [h5] at h_; exact h_, below_set (by repeat (first | (with_reducible first | exact HB.out | apply below_alloc | apply pw_below_drewN | apply below_drew1) | exact HB.out)) (PS.ge HI.out), KeepBut.set_ (by repeat (first | (with_reducible first | exact HK.out | apply keep_drewN | apply keep_drew | apply keep_alloc) | exact HK.out)) 1 _⟩
      | false =>
        have h2 : (m.length == 0) = false ∧ closes c = true := by
          revert h
          cases (m.length == 0) <;> cases closes c <;> simp
        obtain ⟨h3, h4⟩ := h2
        have t3 : ((m.length : Int) == 0) = false := beq_eq_false_iff_ne.mpr (by have := beq_eq_false_iff_ne.mp h3; omega)
        unfold closes at h4
        have t4 : ((seen c).toList != [125]) = false := by unfold bne; rw [h4]; rfl
        clear h h3
        obtain ⟨A2, c2, rfl, hc2, hC2⟩ := Kd.R_reads HO.out
        obtain ⟨A1, c1, HG, hg, HC, hc⟩ := HI.out
        have hcz0 : wr.cell? ⟨g, 0, none⟩ = some (.slice A1 c.length c1) := (blk_cell HG 0).trans rfl
        have hcz1 : wr.cell? ⟨g, 1, none⟩ = some (.bool false) := (blk_cell HG 1).trans rfl
        have hfz1 := blk_frozen HG 1
        clear HG hC2 HC hg hc hc2
        cases b5 with
        | true =>
          rw [Bool.true_or] at h6
          subst h6
          go_wp2_with (first | (go_at_call 52; (with_reducible refine (see_calls g c false w0 _ (by (with_reducible repeat (first | exact HI.out | apply PS.alloc | apply PS.drewN)); done) (by repeat (first | (with_reducible first | exact HB.out | apply below_alloc | apply pw_below_drewN | apply below_drew1) | exact HB.out))).mono ?_); rintro e wq ⟨rfl, ⟨nd, rfl⟩⟩) | (go_at_call 51; refine (signs5 g (c, false) w0 _ (by (with_reducible repeat (first | exact HI.out | apply PS.alloc | apply PS.drewN)); done) (by repeat (first | (with_reducible first | exact HB.out | apply below_alloc | apply pw_below_drewN | apply below_drew1) | exact HB.out)) HT.out).mono ?_; rintro e wq ⟨rfl, hi2, hb2, hk2⟩; have n0_ := Aside0.mk hi2; have n1_ := Aside0.mk hb2; have n2_ := Aside0.mk (KeepBut.trans (by repeat (first | (with_reducible first | exact HK.out | apply keep_drewN | apply keep_drew | apply keep_alloc) | exact HK.out)) hk2 (.inl rfl)); have n3_ := Aside0.mk (Kd.R_keep (by (with_reducible repeat (first | apply Kd.R_alloc | apply Kd.R_drewN | apply Kd.R_drew)); exact HO.out) hk2 (fun _ h_ => h_)); clear HI HB HK HO hcz0 hcz1 hfz1; obtain ⟨A5, c5, HG5, hg5, HC5, hc5⟩ := n0_.out; have hcz0 : wq.cell? ⟨g, 0, none⟩ = some (.slice A5 (sg W5 (c, false)).1.length c5) := (blk_cell HG5 0).trans rfl; have hcz1 : wq.cell? ⟨g, 1, none⟩ = some (.bool (sg W5 (c, false)).2) := (blk_cell HG5 1).trans rfl; have hfz1 := blk_frozen HG5 1; (try rw [h5] at hcz0); (try rw [h5] at hcz1); clear HG5 hg5 HC5 hc5; have HI := n0_; have HB := n1_; have HK := n2_; have HO := n3_; clear n0_ n1_ n2_ n3_ hb2 hk2 hi2))
          go_ret
          exact ⟨_, rfl, Kd.R_far (by (with_reducible repeat (first | apply Kd.R_alloc | apply Kd.R_drewN | apply Kd.R_drew)); exact HO.out) (fun k h_ => h_) _, by have h_ := PS.set_1 (by (with_reducible repeat (first | exact HI.out | apply PS.alloc | apply PS.drewN)); done) true; rw [h5] at h_; exact h_, below_set (by repeat (first | (with_reducible first | exact HB.out | apply below_alloc | apply pw_below_drewN | apply below_drew1) | exact HB.out)) (PS.ge HI.out), KeepBut.set_ (by repeat (first | (with_reducible first | exact HK.out | apply keep_drewN | apply keep_drew | apply keep_alloc) | exact HK.out)) 1 _⟩
        | false =>
          rw [Bool.false_or] at h6
          by_cases h7 : 0 < l5.length
          · have t6 : decide (0 < (l5.length : Int)) = true := decide_eq_true (by omega)
            rw [show decide (0 < l5.length) = true from decide_eq_true h7] at h6
            subst h6
            go_wp2_with (first | (go_at_call 52; (with_reducible refine (see_calls g c false w0 _ (by (with_reducible repeat (first | exact HI.out | apply PS.alloc | apply PS.drewN)); done) (by repeat (first | (with_reducible first | exact HB.out | apply below_alloc | apply pw_below_drewN | apply below_drew1) | exact HB.out))).mono ?_); rintro e wq ⟨rfl, ⟨nd, rfl⟩⟩) | (go_at_call 51; refine (signs5 g (c, false) w0 _ (by (with_reducible repeat (first | exact HI.out | apply PS.alloc | apply PS.drewN)); done) (by repeat (first | (with_reducible first | exact HB.out | apply below_alloc | apply pw_below_drewN | apply below_drew1) | exact HB.out)) HT.out).mono ?_; rintro e wq ⟨rfl, hi2, hb2, hk2⟩; have n0_ := Aside0.mk hi2; have n1_ := Aside0.mk hb2; have n2_ := Aside0.mk (KeepBut.trans (by repeat (first | (with_reducible first | exact HK.out | apply keep_drewN | apply keep_drew | apply keep_alloc) | exact HK.out)) hk2 (.inl rfl)); have n3_ := Aside0.mk (Kd.R_keep (by (with_reducible repeat (first | apply Kd.R_alloc | apply Kd.R_drewN | apply Kd.R_drew)); exact HO.out) hk2 (fun _ h_ => h_)); clear HI HB HK HO hcz0 hcz1 hfz1; obtain ⟨A5, c5, HG5, hg5, HC5, hc5⟩ := n0_.out; have hcz0 : wq.cell? ⟨g, 0, none⟩ = some (.slice A5 (sg W5 (c, false)).1.length c5) := (blk_cell HG5 0).trans rfl; have hcz1 : wq.cell? ⟨g, 1, none⟩ = some (.bool (sg W5 (c, false)).2) := (blk_cell HG5 1).trans rfl; have hfz1 := blk_frozen HG5 1; (try rw [h5] at hcz0); (try rw [h5] at hcz1); clear HG5 hg5 HC5 hc5; have HI := n0_; have HB := n1_; have HK := n2_; have HO := n3_; clear n0_ n1_ n2_ n3_ hb2 hk2 hi2))
            go_ret
            exact ⟨_, rfl, Kd.R_far (by (with_reducible repeat (first | apply Kd.R_alloc | apply Kd.R_drewN | apply Kd.R_drew)); exact HO.out) (fun k h_ => h_) _, by have h_ := PS.set_1 (by (with_reducible repeat (first | exact HI.out | apply PS.alloc | apply PS.drewN)); done) true; rw [h5] at h_; exact h_, below_set (by repeat (first | (with_reducible first | exact HB.out | apply below_alloc | apply pw_below_drewN | apply below_drew1) | exact HB.out)) (PS.ge HI.out), KeepBut.set_ (by repeat (first | (with_reducible first | exact HK.out | apply keep_drewN | apply keep_drew | apply keep_alloc) | exact HK.out)) 1 _⟩
          · have t6 : decide (0 < (l5.length : Int)) = false := decide_eq_false (by omega)
            rw [show decide (0 < l5.length) = false from decide_eq_false h7] at h6
            subst h6
            go_wp2_with (first | (go_at_call 52; (with_reducible refine (see_calls g c false w0 _ (by (with_reducible repeat (first | exact HI.out | apply PS.alloc | apply PS.drewN)); done) (by repeat (first | (with_reducible first | exact HB.out | apply below_alloc | apply pw_below_drewN | apply below_drew1) | exact HB.out))).mono ?_); rintro e wq ⟨rfl, ⟨nd, rfl⟩⟩) | (go_at_call 51; refine (signs5 g (c, false) w0 _ (by (with_reducible repeat (first | exact HI.out | apply PS.alloc | apply PS.drewN)); done) (by repeat (first | (with_reducible first | exact HB.out | apply below_alloc | apply pw_below_drewN | apply below_drew1) | exact HB.out)) HT.out).mono ?_; rintro e wq ⟨rfl, hi2, hb2, hk2⟩; have n0_ := Aside0.mk hi2; have n1_ := Aside0.mk hb2; have n2_ := Aside0.mk (KeepBut.trans (by repeat (first | (with_reducible first | exact HK.out | apply keep_drewN | apply keep_drew | apply keep_alloc) | exact HK.out)) hk2 (.inl rfl)); have n3_ := Aside0.mk (Kd.R_keep (by (with_reducible repeat (first | apply Kd.R_alloc | apply Kd.R_drewN | apply Kd.R_drew)); exact HO.out) hk2 (fun _ h_ => h_)); clear HI HB HK HO hcz0 hcz1 hfz1; obtain ⟨A5, c5, HG5, hg5, HC5, hc5⟩ := n0_.out; have hcz0 : wq.cell? ⟨g, 0, none⟩ = some (.slice A5 (sg W5 (c, false)).1.length c5) := (blk_cell HG5 0).trans rfl; have hcz1 : wq.cell? ⟨g, 1, none⟩ = some (.bool (sg W5 (c, false)).2) := (blk_cell HG5 1).trans rfl; have hfz1 := blk_frozen HG5 1; (try rw [h5] at hcz0); (try rw [h5] at hcz1); clear HG5 hg5 HC5 hc5; have HI := n0_; have HB := n1_; have HK := n2_; have HO := n3_; clear n0_ n1_ n2_ n3_ hb2 hk2 hi2))
            go_ret
            exact ⟨_, rfl, Kd.R_far (by (with_reducible repeat (first | apply Kd.R_alloc | apply Kd.R_drewN | apply Kd.R_drew)); exact HO.out) (fun k h_ => h_) _, by have h_ := PS.set_1 (by (with_reducible repeat (first | exact HI.out | apply PS.alloc | apply PS.drewN)); done) false; rw [h5] at h_; exact h_, below_set (by repeat (first | (with_reducible first | exact HB.out | apply below_alloc | apply pw_below_drewN | apply below_drew1) | exact HB.out)) (PS.ge HI.out), KeepBut.set_ (by repeat (first | (with_reducible first | exact HK.out | apply keep_drewN | apply keep_drew | apply keep_alloc) | exact HK.out)) 1 _⟩
    | @step k1 _ _ _ _ h h' =>
      unfold more at h
      have h2 : b = false ∧ ((l.length == 0) = true ∨ ((l.length == 0) = false ∧ closes c = false)) := by
        revert h
        cases b <;> cases (l.length == 0) <;> cases closes c <;> simp
      obtain ⟨rfl, h3⟩ := h2
      have HN := Aside0.mk h'
      have HL2 : Aside0 ((l ++ [raw (c, false)]).length + k1 ≤ 1000000) := ⟨by have := HL.out; simp only [List.length_append, List.length_singleton]; omega⟩
      have HSm2 : Aside0 (Small (p4 (c, false)).1) := ⟨Small.sg (Small.nx (Small.sg (Small.nx (Small.sg (Small.nx (Small.sg (Small.nx HSm.out) _)) _)) _)) _⟩
      clear h h' HR h6 h5
      obtain ⟨A2, c2, rfl, hc2, hC2⟩ := Kd.R_reads HO.out
      obtain ⟨A1, c1, HG, hg, HC, hc⟩ := HI.out
      have hcz0 : wr.cell? ⟨g, 0, none⟩ = some (.slice A1 c.length c1) := (blk_cell HG 0).trans rfl
      have hcz1 : wr.cell? ⟨g, 1, none⟩ = some (.bool false) := (blk_cell HG 1).trans rfl
      have hfz1 := blk_frozen HG 1
      clear HG hC2 HC hg hc hc2
      rcases h3 with h3 | ⟨h3, h4⟩
      · have t3 : ((l.length : Int) == 0) = true := beq_iff_eq.mpr (by have := beq_iff_eq.mp h3; omega)
        clear h3
        go_wp2_with (first | (go_at_call 53; refine (field_calls g (c, false) w0 _ (by (with_reducible repeat (first | exact HI.out | apply PS.alloc | apply PS.drewN)); done) (by repeat (first | (with_reducible first | exact HB.out | apply below_alloc | apply pw_below_drewN | apply below_drew1) | exact HB.out)) HSm.out HT.out).mono ?_; rintro e wq ⟨rfl, hi2, hb2, hk2⟩; have n0_ := Aside0.mk hi2; have n1_ := Aside0.mk hb2; have n2_ := Aside0.mk (KeepBut.trans (by repeat (first | (with_reducible first | exact HK.out | apply keep_drewN | apply keep_drew | apply keep_alloc) | exact HK.out)) hk2 (.inl rfl)); have n3_ := Aside0.mk (Kd.R_keep (by (with_reducible repeat (first | apply Kd.R_alloc | apply Kd.R_drewN | apply Kd.R_drew)); exact HO.out) hk2 (fun _ h_ => h_)); clear HI HB HK HO hcz0 hcz1 hfz1; have HI := n0_; have HB := n1_; have HK := n2_; have HO := n3_; clear n0_ n1_ n2_ n3_ hb2 hk2 hi2) | ((with_reducible refine gate_builtin (b := .append) (xs := #[.tmp 20, .tmp 23]) rfl ?_); at_builtin; refine Kd.R_append k75 (w0 := wq) w.heap.size rfl (.tmp 20) (.tmp 23) 72 75 (.agg #[.string ⟨#[]⟩, .string ⟨#[]⟩, .string ⟨#[]⟩, .string ⟨#[]⟩]) 64 rfl Tryd.underlying72 info75 rfl (by decide) (by omega) (.slice A2 l.length c2) l (raw (c, false)) [.string (nm (c, false)), .string (nm (p1 (c, false))), .string (nm (p2 (c, false))), .string (nm (p3 (c, false)))] (fun k => k ≠ g) (fun _ => False) rfl rfl ?aP (fun _ hk => hk.elim) ?aF ?aO ?aB ?aS ?aL ?_; (case aP => exact k75_mkM _ _ _ (raw (c, false))); (case aB => exact Below.refl _ _); (case aF => exact (fun k hk => by have := HI.out.lt; intro e_; subst e_; exact absurd hk (by simpa using this))); (case aO => exact (by (with_reducible repeat (first | apply Kd.R_alloc | apply Kd.R_drewN | apply Kd.R_drew)); exact HO.out)); (case aS => exact HK.out.1); (case aL => have := HL.out; omega); intro v198 w29 ho hb hg2 hat; have n0_ := Aside0.mk (PS.grown (by (with_reducible repeat (first | exact HI.out | apply PS.alloc | apply PS.drewN)); done) hg2 (fun e_ => HO.out.1 g e_.symm rfl)); have n1_ := Aside0.mk (Below.trans (by repeat (first | (with_reducible first | exact HB.out | apply below_alloc | apply pw_below_drewN | apply below_drew1) | exact HB.out)) (below_less hb HSw.out)); have n2_ := Aside0.mk (KeepBut.trans (by repeat (first | (with_reducible first | exact HK.out | apply keep_drewN | apply keep_drew | apply keep_alloc) | exact HK.out)) (KeepBut.of_grown hg2 g) (by cases hq_ : (Value.slice A2 l.length c2).ownBlock with | none => exact .inl rfl | some b_ => exact .inr ⟨b_, rfl, ((Kd.R_bound HO.out).1 b_ hq_).2.1⟩)); have n3_ := Aside0.mk ho; clear HI HB HK HO; have HI := n0_; have HB := n1_; have HK := n2_; have HO := n3_; clear n0_ n1_ n2_ n3_ ho hb hg2 hat))
        go_roundg k1
        case measure => omega
        case rel => exact ⟨p4 (c, false), _, HN, HL2, HSm2, ⟨(by (with_reducible repeat (first | apply Kd.R_alloc | apply Kd.R_drewN | apply Kd.R_drew)); exact HO.out)⟩, ⟨(by (with_reducible repeat (first | exact HI.out | apply PS.alloc | apply PS.drewN)); done)⟩, ⟨(by repeat (first | (with_reducible first | exact HB.out | apply below_alloc | apply pw_below_drewN | apply below_drew1) | exact HB.out))⟩, ⟨(by repeat (first | (with_reducible first | exact HK.out | apply keep_drewN | apply keep_drew | apply keep_alloc) | exact HK.out))⟩⟩
      · have t3 : ((l.length : Int) == 0) = false := beq_eq_false_iff_ne.mpr (by have := beq_eq_false_iff_ne.mp h3; omega)
        unfold closes at h4
        have t4 : ((seen c).toList != [125]) = true := by unfold bne; rw [h4]; rfl
        clear h3
        go_wp2_with (first | (go_at_call 52; (with_reducible refine (see_calls g c false w0 _ (by (with_reducible repeat (first | exact HI.out | apply PS.alloc | apply PS.drewN)); done) (by repeat (first | (with_reducible first | exact HB.out | apply below_alloc | apply pw_below_drewN | apply below_drew1) | exact HB.out))).mono ?_); rintro e wq ⟨rfl, ⟨nd, rfl⟩⟩) | (go_at_call 53; refine (field_calls g (c, false) w0 _ (by (with_reducible repeat (first | exact HI.out | apply PS.alloc | apply PS.drewN)); done) (by repeat (first | (with_reducible first | exact HB.out | apply below_alloc | apply pw_below_drewN | apply below_drew1) | exact HB.out)) HSm.out HT.out).mono ?_; rintro e wq ⟨rfl, hi2, hb2, hk2⟩; have n0_ := Aside0.mk hi2; have n1_ := Aside0.mk hb2; have n2_ := Aside0.mk (KeepBut.trans (by repeat (first | (with_reducible first | exact HK.out | apply keep_drewN | apply keep_drew | apply keep_alloc) | exact HK.out)) hk2 (.inl rfl)); have n3_ := Aside0.mk (Kd.R_keep (by (with_reducible repeat (first | apply Kd.R_alloc | apply Kd.R_drewN | apply Kd.R_drew)); exact HO.out) hk2 (fun _ h_ => h_)); clear HI HB HK HO hcz0 hcz1 hfz1; have HI := n0_; have HB := n1_; have HK := n2_; have HO := n3_; clear n0_ n1_ n2_ n3_ hb2 hk2 hi2) | ((with_reducible refine gate_builtin (b := .append) (xs := #[.tmp 20, .tmp 23]) rfl ?_); at_builtin; refine Kd.R_append k75 (w0 := wq) w.heap.size rfl (.tmp 20) (.tmp 23) 72 75 (.agg #[.string ⟨#[]⟩, .string ⟨#[]⟩, .string ⟨#[]⟩, .string ⟨#[]⟩]) 64 rfl Tryd.underlying72 info75 rfl (by decide) (by omega) (.slice A2 l.length c2) l (raw (c, false)) [.string (nm (c, false)), .string (nm (p1 (c, false))), .string (nm (p2 (c, false))), .string (nm (p3 (c, false)))] (fun k => k ≠ g) (fun _ => False) rfl rfl ?aP (fun _ hk => hk.elim) ?aF ?aO ?aB ?aS ?aL ?_; (case aP => exact k75_mkM _ _ _ (raw (c, false))); (case aB => exact Below.refl _ _); (case aF => exact (fun k hk => by have := HI.out.lt; intro e_; subst e_; exact absurd hk (by simpa using this))); (case aO => exact (by (with_reducible repeat (first | apply Kd.R_alloc | apply Kd.R_drewN | apply Kd.R_drew)); exact HO.out)); (case aS => exact HK.out.1); (case aL => have := HL.out; omega); intro v198 w29 ho hb hg2 hat; have n0_ := Aside0.mk (PS.grown (by (with_reducible repeat (first | exact HI.out | apply PS.alloc | apply PS.drewN)); done) hg2 (fun e_ => HO.out.1 g e_.symm rfl)); have n1_ := Aside0.mk (Below.trans (by repeat (first | (with_reducible first | exact HB.out | apply below_alloc | apply pw_below_drewN | apply below_drew1) | exact HB.out)) (below_less hb HSw.out)); have n2_ := Aside0.mk (KeepBut.trans (by repeat (first | (with_reducible first | exact HK.out | apply keep_drewN | apply keep_drew | apply keep_alloc) | exact HK.out)) (KeepBut.of_grown hg2 g) (by cases hq_ : (Value.slice A2 l.length c2).ownBlock with | none => exact .inl rfl | some b_ => exact .inr ⟨b_, rfl, ((Kd.R_bound HO.out).1 b_ hq_).2.1⟩)); have n3_ := Aside0.mk ho; clear HI HB HK HO; have HI := n0_; have HB := n1_; have HK := n2_; have HO := n3_; clear n0_ n1_ n2_ n3_ ho hb hg2 hat))
        go_roundg k1
        case measure => omega
        case rel => exact ⟨p4 (c, false), _, HN, HL2, HSm2, ⟨(by (with_reducible repeat (first | apply Kd.R_alloc | apply Kd.R_drewN | apply Kd.R_drew)); exact HO.out)⟩, ⟨(by (with_reducible repeat (first | exact HI.out | apply PS.alloc | apply PS.drewN)); done)⟩, ⟨(by repeat (first | (with_reducible first | exact HB.out | apply below_alloc | apply pw_below_drewN | apply below_drew1) | exact HB.out))⟩, ⟨(by repeat (first | (with_reducible first | exact HK.out | apply keep_drewN | apply keep_drew | apply keep_alloc) | exact HK.out))⟩⟩
end Go.Proofs.YtgobpenmemlieaaDoor.Lex
