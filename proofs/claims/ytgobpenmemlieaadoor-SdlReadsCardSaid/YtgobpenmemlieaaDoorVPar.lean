/- Packed by our own shrink.py: theorems that the claim does not use are left out. -/
import Derived.Test.YtgobpenmemlieaaDoorVName
import Derived.Test.YtgobpenmemlieaaDoorVOSdlx4
/-
  The parser's state, and the walks of (*parser).see and (*parser).take.
-/
namespace Go.Proofs.YtgobpenmemlieaaDoor.Lex
open Go.RowKit Go.Proofs.YtgobpenmemlieaaDoorW.PrintWords Go.Proofs.YtgobpenmemlieaaDoorW.PrintLast Go.Proofs.YtgobpenmemlieaaDoorW.PrintMore PSdlBack
set_option linter.unusedVariables false
set_option linter.unusedSimpArgs false
/-- A parser at block g: the words that are left (they came in by w0), and whether it is bad. -/
def PS (w0 W : World) (g : Nat) (l : List S39) (b : Bool) : Prop := ∃ A c, W.heap[g]? = some (.cells #[.slice A l.length c, .bool b] 71 (0, 0)) ∧ w0.heap.size ≤ g ∧ Kd.C k39 w0 A l.length l ∧ l.length ≤ c
section
variable {w0 W W1 : World} {g : Nat} {l : List S39} {b : Bool}
theorem PS.grown {row : Option Nat} (h : PS w0 W g l b) (hw : W.grownBy W1 row) (hne : some g ≠ row) : PS w0 W1 g l b := by
  obtain ⟨A, c, hb, hg, hr, hc⟩ := h
  exact ⟨A, c, blk_grown hb hw hne, hg, hr, hc⟩
theorem PS.below (h : PS w0 W g l b) (hw : Below W.heap.size W W1) : PS w0 W1 g l b := h.grown (grown_of_below hw none) (by simp)
theorem PS.alloc (h : PS w0 W g l b) (o : Obj) : PS w0 (W.alloc o) g l b := h.below (below_alloc (Below.refl _ _) o)
theorem PS.drewN (h : PS w0 W g l b) (m : Nat) : PS w0 (W.drewN m) g l b := h
theorem PS.ge (h : PS w0 W g l b) : w0.heap.size ≤ g := by
  obtain ⟨A, c, hb, hg, hr, hc⟩ := h
  exact hg
theorem PS.lt (h : PS w0 W g l b) : g < W.heap.size := by
  obtain ⟨A, c, hb, hg, hr, hc⟩ := h
  exact blk_lt hb
theorem PS.set_1 (h : PS w0 W g l b) (x : Bool) : PS w0 (W.setCell ⟨g, 1, none⟩ (.bool x)) g l x := by
  obtain ⟨A, c, hb, hg, hr, hc⟩ := h
  exact ⟨A, c, by simpa using blk_set hb 1 (.bool x), hg, hr, hc⟩
theorem PS.set_0 {l2 : List S39} {A2 : Option Addr} {c2 : Nat} (h : PS w0 W g l b) (hr2 : Kd.C k39 w0 A2 l2.length l2) (hc2 : l2.length ≤ c2) : PS w0 (W.setCell ⟨g, 0, none⟩ (.slice A2 l2.length c2)) g l2 b := by
  obtain ⟨A, c, hb, hg, hr, hc⟩ := h
  exact ⟨A2, c2, by simpa using blk_set hb 0 (.slice A2 l2.length c2), hg, hr2, hc2⟩
theorem PS.tail {A2 : Option Addr} {c2 : Nat} (h : PS w0 W g l b) (hr2 : Kd.C k39 w0 A2 (l.drop 1).length (l.drop 1)) (hc2 : l.length - 1 ≤ c2) : PS w0 (W.setCell ⟨g, 0, none⟩ (.slice A2 (l.length - 1) c2)) g l.tail b := by
  have e1 : (l.drop 1).length = l.length - 1 := List.length_drop
  have h2 := h.set_0 hr2 (c2 := c2) (by omega)
  rw [e1, List.drop_one] at h2
  exact h2
theorem PS.new (w0 W : World) (A : Option Addr) (c : Nat) (l : List S39) (b : Bool) (hB : Below w0.heap.size w0 W) (hr : Kd.C k39 w0 A l.length l) (hc : l.length ≤ c) : PS w0 (W.alloc (.cells #[.slice A l.length c, .bool b] 71)) W.heap.size l b := ⟨A, c, by simpa using heap_alloc_new W _, hB.size, hr, hc⟩
end
/-- The next word. -/
def seen (l : List S39) : ByteArray := if l.length = 0 then ⟨#[]⟩ else (rd_T39 l 0).f0
set_option maxHeartbeats 8000000 in
set_option maxRecDepth 100000 in
theorem see_calls (g : Nat) (l : List S39) (b : Bool) (w0 w : World) (hI : PS w0 w g l b) (hB : Below w0.heap.size w0 w) :
    Calls Tryd.prog 52 #[.pointer (some ⟨g, 0, none⟩)] w fun e w' => e = .returned (.string (seen l)) ∧ Drawn0 w w' := by
  obtain ⟨A, c, HG, hg, HC, hc⟩ := hI
  have hcz0 : w.cell? ⟨g, 0, none⟩ = some (.slice A l.length c) := (blk_cell HG 0).trans rfl
  by_cases c2 : (l.length : Int) = 0
  · have c2b0 : ((l.length : Int) == 0) = true := beq_iff_eq.mpr c2
    have HS : Aside0 (seen l = ⟨#[]⟩) := ⟨if_pos (by omega)⟩
    clear c2 HG HC
    go_enter Tryd.func52, Tryd.ntmps52
    go_wp2
    go_ret
    exact ⟨by rw [HS.out]; rfl, by repeat (first | exact Drawn0.refl _ | apply Drawn0.step)⟩
  · have c2b0 : ((l.length : Int) == 0) = false := beq_eq_false_iff_ne.mpr c2
    have HS : Aside0 (seen l = (rd_T39 l 0).f0) := ⟨if_neg (by omega)⟩
    have p114 : 0 ≤ (0 : Int) := (by omega)
    have q114 : 0 < (l.length : Int) := by omega
    obtain ⟨ad114, e114, hx0, hx1⟩ := at_T39 HC 0 p114 q114
    cases e114
    have qi114 : (0 < l.length) = True := eq_true (by omega)
    (try rw [show ((0 : Int)).toNat = 0 from rfl] at hx0)
    (try rw [show 0 * 2 = 0 from rfl] at hx0)
    (try rw [Addr.add_zero'] at hx0)
    replace hx0 := pw_cell_below hB hx0
    replace p114 := eq_true p114
    replace q114 := eq_true q114
    clear c2 HG HC hx1
    go_enter Tryd.func52, Tryd.ntmps52
    go_wp2
    go_ret
    exact ⟨by rw [HS.out]; rfl, by repeat (first | exact Drawn0.refl _ | apply Drawn0.step)⟩
/-- What take tells and leaves. -/
def fits (l : List S39) (b is : Bool) : Bool := !(seen l).toList.isEmpty && (is && !b)
def takeR (l : List S39) (b is : Bool) : ByteArray := if fits l b is then seen l else ⟨#[]⟩
def takeL (l : List S39) (b is : Bool) : List S39 := if fits l b is then l.drop 1 else l
def takeB (l : List S39) (b is : Bool) : Bool := !fits l b is
set_option maxHeartbeats 8000000 in
set_option maxRecDepth 100000 in
theorem take_calls (g : Nat) (l : List S39) (b is : Bool) (w0 w : World) (hI : PS w0 w g l b) (hB : Below w0.heap.size w0 w) :
    Calls Tryd.prog 74 #[.pointer (some ⟨g, 0, none⟩), .bool is] w fun e w' => e = .returned (.string (takeR l b is)) ∧ PS w0 w' g (takeL l b is) (takeB l b is) ∧ Below w0.heap.size w0 w' ∧ KeepBut w w' g none := by
  have HS := Aside0.mk (see_calls g l b w0 w hI hB)
  have HI := Aside0.mk hI
  have HB := Aside0.mk hB
  have HK := Aside0.mk (KeepBut.refl w g none)
  obtain ⟨A, c, HG, hg, HC, hc⟩ := hI
  have hcz0 : w.cell? ⟨g, 0, none⟩ = some (.slice A l.length c) := (blk_cell HG 0).trans rfl
  have hcz1 : w.cell? ⟨g, 1, none⟩ = some (.bool b) := (blk_cell HG 1).trans rfl
  have hfz0 := blk_frozen HG 0
  have hfz1 := blk_frozen HG 1
  clear HG
  cases hf : fits l b is with
  | true =>
    have e1 : takeR l b is = seen l := if_pos hf
    have e2 : takeL l b is = l.drop 1 := if_pos hf
    have e3 : takeB l b is = false := by unfold takeB; rw [hf]; rfl
    rw [e1, e2, e3]
    unfold fits at hf
    simp only [Bool.and_eq_true, Bool.not_eq_true', ] at hf
    obtain ⟨f1, rfl, rfl⟩ := hf
    have hn : 0 < l.length := by
      rcases Nat.eq_zero_or_pos l.length with h | h
      · exfalso
        unfold seen at f1
        rw [if_pos h, toL_eq] at f1
        cases f1
      · exact h
    have hb1 : (1 ≤ l.length) = True := eq_true hn
    have hb2 : ((1 : Int) ≤ (l.length : Int)) = True := eq_true (by omega)
    have hb3 : decide ((1 : Int) ≤ (l.length : Int)) = true := decide_eq_true (by omega)
    go_enter Tryd.func74, Tryd.ntmps74
    go_wp2_with (first | (go_at_call 52; (with_reducible refine HS.out.mono ?_); rintro e wq ⟨rfl, ⟨nd, rfl⟩⟩))
    · go_ret
      have hd := Kd.C_drop (k := k39) (m := 1) (c := c) HC hn hc
      rw [if_pos h] at hd
      exact ⟨rfl, PS.tail (HI.out.drewN nd) hd (by omega), below_set (pw_below_drewN HB.out nd) hg, (keep_drewN HK.out nd).set_ 0 _⟩
    · go_ret
      have hd := Kd.C_drop (k := k39) (m := 1) (c := c) HC hn hc
      rw [if_neg h] at hd
      exact ⟨rfl, PS.tail (HI.out.drewN nd) hd (by omega), below_set (pw_below_drewN HB.out nd) hg, (keep_drewN HK.out nd).set_ 0 _⟩
  | false =>
    have e1 : takeR l b is = ⟨#[]⟩ := if_neg (by rw [hf]; decide)
    have e2 : takeL l b is = l := if_neg (by rw [hf]; decide)
    have e3 : takeB l b is = true := by unfold takeB; rw [hf]; rfl
    rw [e1, e2, e3]
    have f1 : ((seen l).toList.isEmpty = true) ∨ ((seen l).toList.isEmpty = false ∧ is = false) ∨ ((seen l).toList.isEmpty = false ∧ is = true ∧ b = true) := by
      unfold fits at hf
      revert hf
      cases (seen l).toList.isEmpty <;> cases is <;> cases b <;> simp
    clear hf e1 e2 e3
    have fin : ∀ nd, PS w0 ((w.drewN nd).setCell ⟨g, 1, none⟩ (.bool true)) g l true ∧ Below w0.heap.size w0 ((w.drewN nd).setCell ⟨g, 1, none⟩ (.bool true)) ∧ KeepBut w ((w.drewN nd).setCell ⟨g, 1, none⟩ (.bool true)) g none := fun nd => ⟨(HI.out.drewN nd).set_1 true, below_set (pw_below_drewN HB.out nd) hg, (keep_drewN HK.out nd).set_ 1 _⟩
    have FIN := Aside0.mk fin
    clear fin
    rcases f1 with f1 | ⟨f1, rfl⟩ | ⟨f1, rfl, rfl⟩
    · go_enter Tryd.func74, Tryd.ntmps74
      go_wp2_with (first | (go_at_call 52; (with_reducible refine HS.out.mono ?_); rintro e wq ⟨rfl, ⟨nd, rfl⟩⟩))
      go_ret
      exact ⟨rfl, FIN.out _⟩
    · go_enter Tryd.func74, Tryd.ntmps74
      go_wp2_with (first | (go_at_call 52; (with_reducible refine HS.out.mono ?_); rintro e wq ⟨rfl, ⟨nd, rfl⟩⟩))
      go_ret
      exact ⟨rfl, FIN.out _⟩
    · go_enter Tryd.func74, Tryd.ntmps74
      go_wp2_with (first | (go_at_call 52; (with_reducible refine HS.out.mono ?_); rintro e wq ⟨rfl, ⟨nd, rfl⟩⟩))
      go_ret
      exact ⟨rfl, FIN.out _⟩
end Go.Proofs.YtgobpenmemlieaaDoor.Lex
