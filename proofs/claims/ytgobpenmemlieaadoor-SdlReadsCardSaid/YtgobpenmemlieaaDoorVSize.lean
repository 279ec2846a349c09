/- Packed by our own shrink.py: theorems that the claim does not use are left out. -/
import Derived.Test.YtgobpenmemlieaaDoorVStr
import Derived.Test.YtgobpenmemlieaaDoorVOSdlNum
/-
  The walks of lex.size at the other beginnings, lex.one and lex.Name: what lex.Name tells of any text.
-/
namespace Go.Proofs.YtgobpenmemlieaaDoor.Lex
open Go.RowKit Go.Proofs.YtgobpenmemlieaaDoorW.PrintWords Go.Proofs.YtgobpenmemlieaaDoorW.PrintLast Go.Proofs.YtgobpenmemlieaaDoorW.PrintMore PSdlBack
set_option linter.unusedVariables false
set_option linter.unusedSimpArgs false
def SizeI (s : ByteArray) (n : Int) : Prop := ∀ w, Calls Tryd.prog 50 #[.string s] w fun e w' => e = .returned (.int .i64 n) ∧ Below w.heap.size w w'
theorem below_drawn {w w' : World} (h : Drawn0 w w') : Below w.heap.size w w' := by
  obtain ⟨nd, rfl⟩ := h
  repeat (first | exact Below.refl _ _ | apply pw_below_drewN)
theorem letter_digit (c : Int) (h : isDigit c = true) : isLetter c = false := by
  unfold isDigit at h
  unfold isLetter
  simp at h ⊢
  omega
set_option maxHeartbeats 4000000 in
set_option maxRecDepth 100000 in
theorem size_digit (s : ByteArray) (h1 : 0 < s.size) (hd : isDigit (bt s 0) = true) (r1 r2 : Int) (r3 : Bool) (hn : ∀ w, Calls Tryd.prog 69 #[.string s] w fun e w' => e = .returned (.tuple #[.int .i64 r1, .int .i64 r2, .bool r3]) ∧ Drawn0 w w') : SizeI s (if r3 then r2 else 0) := by
  have hl := letter_digit _ hd
  have t1 : (bt s 0 == 45) = false := beq_eq_false_iff_ne.mpr (by intro h; rw [h] at hd; exact absurd hd (by decide))
  have HD := Aside0.mk (digit_at (bt s 0) true hd)
  clear hd
  intro w
  have hx : ∀ (h : 0 < s.size), (((s[0]'h).toNat : Nat) : Int) = bt s 0 := bt_at s 0
  have p0 : (0 < s.size) = True := eq_true h1
  have HB := Aside0.mk (Below.refl w.heap.size w)
  have HL := Aside0.mk (letter_at (bt s 0) false hl)
  have HN := Aside0.mk hn
  clear hn hl
  cases r3 with
  | true =>
    go_enter Tryd.func50, Tryd.ntmps50
    go_wp2_with (first | (go_at_call 66; (with_reducible refine (HL.out _).mono ?_); rintro e wq hdr; obtain ⟨rfl, hdr2⟩ := hdr; have n0_ := Aside0.mk (below_step (by repeat (first | (with_reducible first | exact HB.out | apply below_alloc | apply pw_below_drewN | apply below_drew1) | exact HB.out)) (below_drawn hdr2)); clear HB; have HB := n0_; clear n0_ hdr2) | (go_at_call 68; (with_reducible refine (HD.out _).mono ?_); rintro e wq hdr; obtain ⟨rfl, hdr2⟩ := hdr; have n0_ := Aside0.mk (below_step (by repeat (first | (with_reducible first | exact HB.out | apply below_alloc | apply pw_below_drewN | apply below_drew1) | exact HB.out)) (below_drawn hdr2)); clear HB; have HB := n0_; clear n0_ hdr2) | (go_at_call 69; refine (HN.out _).mono ?_; rintro e wq hdr; obtain ⟨rfl, hdr2⟩ := hdr; have n0_ := Aside0.mk (below_step (by repeat (first | (with_reducible first | exact HB.out | apply below_alloc | apply pw_below_drewN | apply below_drew1) | exact HB.out)) (below_drawn hdr2)); clear HB; have HB := n0_; clear n0_ hdr2))
    go_ret
    exact ⟨rfl, (by repeat (first | (with_reducible first | exact HB.out | apply below_alloc | apply pw_below_drewN | apply below_drew1) | exact HB.out))⟩
  | false =>
    go_enter Tryd.func50, Tryd.ntmps50
    go_wp2_with (first | (go_at_call 66; (with_reducible refine (HL.out _).mono ?_); rintro e wq hdr; obtain ⟨rfl, hdr2⟩ := hdr; have n0_ := Aside0.mk (below_step (by repeat (first | (with_reducible first | exact HB.out | apply below_alloc | apply pw_below_drewN | apply below_drew1) | exact HB.out)) (below_drawn hdr2)); clear HB; have HB := n0_; clear n0_ hdr2) | (go_at_call 68; (with_reducible refine (HD.out _).mono ?_); rintro e wq hdr; obtain ⟨rfl, hdr2⟩ := hdr; have n0_ := Aside0.mk (below_step (by repeat (first | (with_reducible first | exact HB.out | apply below_alloc | apply pw_below_drewN | apply below_drew1) | exact HB.out)) (below_drawn hdr2)); clear HB; have HB := n0_; clear n0_ hdr2) | (go_at_call 69; refine (HN.out _).mono ?_; rintro e wq hdr; obtain ⟨rfl, hdr2⟩ := hdr; have n0_ := Aside0.mk (below_step (by repeat (first | (with_reducible first | exact HB.out | apply below_alloc | apply pw_below_drewN | apply below_drew1) | exact HB.out)) (below_drawn hdr2)); clear HB; have HB := n0_; clear n0_ hdr2))
    go_ret
    exact ⟨rfl, (by repeat (first | (with_reducible first | exact HB.out | apply below_alloc | apply pw_below_drewN | apply below_drew1) | exact HB.out))⟩
set_option maxHeartbeats 4000000 in
set_option maxRecDepth 100000 in
theorem size_minus (s : ByteArray) (h1 : 0 < s.size) (hd : bt s 0 = 45) (r1 r2 : Int) (r3 : Bool) (hn : ∀ w, Calls Tryd.prog 69 #[.string s] w fun e w' => e = .returned (.tuple #[.int .i64 r1, .int .i64 r2, .bool r3]) ∧ Drawn0 w w') : SizeI s (if r3 then r2 else 0) := by
  have hl : isLetter (bt s 0) = false := by rw [hd]; decide
  have t1 : (bt s 0 == 45) = true := beq_iff_eq.mpr hd
  clear hd
  intro w
  have hx : ∀ (h : 0 < s.size), (((s[0]'h).toNat : Nat) : Int) = bt s 0 := bt_at s 0
  have p0 : (0 < s.size) = True := eq_true h1
  have HB := Aside0.mk (Below.refl w.heap.size w)
  have HL := Aside0.mk (letter_at (bt s 0) false hl)
  have HN := Aside0.mk hn
  clear hn hl
  cases r3 with
  | true =>
    go_enter Tryd.func50, Tryd.ntmps50
    go_wp2_with (first | (go_at_call 66; (with_reducible refine (HL.out _).mono ?_); rintro e wq hdr; obtain ⟨rfl, hdr2⟩ := hdr; have n0_ := Aside0.mk (below_step (by repeat (first | (with_reducible first | exact HB.out | apply below_alloc | apply pw_below_drewN | apply below_drew1) | exact HB.out)) (below_drawn hdr2)); clear HB; have HB := n0_; clear n0_ hdr2) | (go_at_call 69; refine (HN.out _).mono ?_; rintro e wq hdr; obtain ⟨rfl, hdr2⟩ := hdr; have n0_ := Aside0.mk (below_step (by repeat (first | (with_reducible first | exact HB.out | apply below_alloc | apply pw_below_drewN | apply below_drew1) | exact HB.out)) (below_drawn hdr2)); clear HB; have HB := n0_; clear n0_ hdr2))
    go_ret
    exact ⟨rfl, (by repeat (first | (with_reducible first | exact HB.out | apply below_alloc | apply pw_below_drewN | apply below_drew1) | exact HB.out))⟩
  | false =>
    go_enter Tryd.func50, Tryd.ntmps50
    go_wp2_with (first | (go_at_call 66; (with_reducible refine (HL.out _).mono ?_); rintro e wq hdr; obtain ⟨rfl, hdr2⟩ := hdr; have n0_ := Aside0.mk (below_step (by repeat (first | (with_reducible first | exact HB.out | apply below_alloc | apply pw_below_drewN | apply below_drew1) | exact HB.out)) (below_drawn hdr2)); clear HB; have HB := n0_; clear n0_ hdr2) | (go_at_call 69; refine (HN.out _).mono ?_; rintro e wq hdr; obtain ⟨rfl, hdr2⟩ := hdr; have n0_ := Aside0.mk (below_step (by repeat (first | (with_reducible first | exact HB.out | apply below_alloc | apply pw_below_drewN | apply below_drew1) | exact HB.out)) (below_drawn hdr2)); clear HB; have HB := n0_; clear n0_ hdr2))
    go_ret
    exact ⟨rfl, (by repeat (first | (with_reducible first | exact HB.out | apply below_alloc | apply pw_below_drewN | apply below_drew1) | exact HB.out))⟩
set_option maxHeartbeats 4000000 in
set_option maxRecDepth 100000 in
theorem size_text (s : ByteArray) (h1 : 0 < s.size) (hd : bt s 0 = 34) (r1 : ByteArray) (r2 : Int) (r3 : Bool) (hn : ∀ w, Calls Tryd.prog 70 #[.string s] w fun e w' => e = .returned (.tuple #[.string r1, .int .i64 r2, .bool r3]) ∧ Below w.heap.size w w') : SizeI s (if r3 && decide ((r1.size : Int) ≤ 40) then r2 else 0) := by
  have hl : isLetter (bt s 0) = false := by rw [hd]; decide
  have hg : isDigit (bt s 0) = false := by rw [hd]; decide
  have t1 : (bt s 0 == 45) = false := beq_eq_false_iff_ne.mpr (by omega)
  have t2 : (bt s 0 == 34) = true := beq_iff_eq.mpr hd
  have HD := Aside0.mk (digit_at (bt s 0) false hg)
  clear hd hg
  intro w
  have hx : ∀ (h : 0 < s.size), (((s[0]'h).toNat : Nat) : Int) = bt s 0 := bt_at s 0
  have p0 : (0 < s.size) = True := eq_true h1
  have HB := Aside0.mk (Below.refl w.heap.size w)
  have HL := Aside0.mk (letter_at (bt s 0) false hl)
  have HS := Aside0.mk hn
  clear hn hl
  cases r3 with
  | false =>
    go_enter Tryd.func50, Tryd.ntmps50
    go_wp2_with (first | (go_at_call 66; (with_reducible refine (HL.out _).mono ?_); rintro e wq hdr; obtain ⟨rfl, hdr2⟩ := hdr; have n0_ := Aside0.mk (below_step (by repeat (first | (with_reducible first | exact HB.out | apply below_alloc | apply pw_below_drewN | apply below_drew1) | exact HB.out)) (below_drawn hdr2)); clear HB; have HB := n0_; clear n0_ hdr2) | (go_at_call 68; (with_reducible refine (HD.out _).mono ?_); rintro e wq hdr; obtain ⟨rfl, hdr2⟩ := hdr; have n0_ := Aside0.mk (below_step (by repeat (first | (with_reducible first | exact HB.out | apply below_alloc | apply pw_below_drewN | apply below_drew1) | exact HB.out)) (below_drawn hdr2)); clear HB; have HB := n0_; clear n0_ hdr2) | (go_at_call 70; refine (HS.out _).mono ?_; rintro e wq ⟨rfl, hb2⟩; have n0_ := Aside0.mk (below_step (by repeat (first | (with_reducible first | exact HB.out | apply below_alloc | apply pw_below_drewN | apply below_drew1) | exact HB.out)) hb2); clear HB; have HB := n0_; clear n0_ hb2))
    go_ret
    exact ⟨rfl, (by repeat (first | (with_reducible first | exact HB.out | apply below_alloc | apply pw_below_drewN | apply below_drew1) | exact HB.out))⟩
  | true =>
    by_cases h40 : (r1.size : Int) ≤ 40
    · have t3 : decide ((r1.size : Int) ≤ 40) = true := decide_eq_true h40
      rw [t3]
      clear h40
      go_enter Tryd.func50, Tryd.ntmps50
      go_wp2_with (first | (go_at_call 66; (with_reducible refine (HL.out _).mono ?_); rintro e wq hdr; obtain ⟨rfl, hdr2⟩ := hdr; have n0_ := Aside0.mk (below_step (by repeat (first | (with_reducible first | exact HB.out | apply below_alloc | apply pw_below_drewN | apply below_drew1) | exact HB.out)) (below_drawn hdr2)); clear HB; have HB := n0_; clear n0_ hdr2) | (go_at_call 68; (with_reducible refine (HD.out _).mono ?_); rintro e wq hdr; obtain ⟨rfl, hdr2⟩ := hdr; have n0_ := Aside0.mk (below_step (by repeat (first | (with_reducible first | exact HB.out | apply below_alloc | apply pw_below_drewN | apply below_drew1) | exact HB.out)) (below_drawn hdr2)); clear HB; have HB := n0_; clear n0_ hdr2) | (go_at_call 70; refine (HS.out _).mono ?_; rintro e wq ⟨rfl, hb2⟩; have n0_ := Aside0.mk (below_step (by repeat (first | (with_reducible first | exact HB.out | apply below_alloc | apply pw_below_drewN | apply below_drew1) | exact HB.out)) hb2); clear HB; have HB := n0_; clear n0_ hb2))
      go_ret
      exact ⟨rfl, (by repeat (first | (with_reducible first | exact HB.out | apply below_alloc | apply pw_below_drewN | apply below_drew1) | exact HB.out))⟩
    · have t3 : decide ((r1.size : Int) ≤ 40) = false := decide_eq_false h40
      rw [t3]
      clear h40
      go_enter Tryd.func50, Tryd.ntmps50
      go_wp2_with (first | (go_at_call 66; (with_reducible refine (HL.out _).mono ?_); rintro e wq hdr; obtain ⟨rfl, hdr2⟩ := hdr; have n0_ := Aside0.mk (below_step (by repeat (first | (with_reducible first | exact HB.out | apply below_alloc | apply pw_below_drewN | apply below_drew1) | exact HB.out)) (below_drawn hdr2)); clear HB; have HB := n0_; clear n0_ hdr2) | (go_at_call 68; (with_reducible refine (HD.out _).mono ?_); rintro e wq hdr; obtain ⟨rfl, hdr2⟩ := hdr; have n0_ := Aside0.mk (below_step (by repeat (first | (with_reducible first | exact HB.out | apply below_alloc | apply pw_below_drewN | apply below_drew1) | exact HB.out)) (below_drawn hdr2)); clear HB; have HB := n0_; clear n0_ hdr2) | (go_at_call 70; refine (HS.out _).mono ?_; rintro e wq ⟨rfl, hb2⟩; have n0_ := Aside0.mk (below_step (by repeat (first | (with_reducible first | exact HB.out | apply below_alloc | apply pw_below_drewN | apply below_drew1) | exact HB.out)) hb2); clear HB; have HB := n0_; clear n0_ hb2))
      go_ret
      exact ⟨rfl, (by repeat (first | (with_reducible first | exact HB.out | apply below_alloc | apply pw_below_drewN | apply below_drew1) | exact HB.out))⟩
theorem sign_not (c : Int) (hb : isSign c = false) (h0 : 0 ≤ c) (h1 : c < 256) (w : World) : Calls Tryd.prog 72 #[.string ⟨#[33, 36, 40, 41, 58, 61, 64, 91, 93, 123, 125]⟩, .int .u8 c] w fun e w' => ∃ k : Int, e = .returned (.int .i64 k) ∧ decide (0 ≤ k) = false ∧ Drawn0 w w' := by
  refine (Tryd.strings_IndexByte _ _ _).mono ?_
  rintro e w' ⟨rfl, rfl⟩
  exact ⟨_, rfl, (indexByte_sign c h0 h1).trans hb, Drawn0.refl _⟩
set_option maxHeartbeats 4000000 in
set_option maxRecDepth 100000 in
theorem size_none (s : ByteArray) (h1 : 0 < s.size) (hl : isLetter (bt s 0) = false) (hg : isDigit (bt s 0) = false) (hm : bt s 0 ≠ 45) (hq : bt s 0 ≠ 34) (hi : isSign (bt s 0) = false) : SizeI s (if Lib.hasPrefix s.data.toList [46, 46, 46] then 3 else 0) := by
  have t1 : (bt s 0 == 45) = false := beq_eq_false_iff_ne.mpr hm
  have t2 : (bt s 0 == 34) = false := beq_eq_false_iff_ne.mpr hq
  have hr := bt_range s 0
  have HD := Aside0.mk (digit_at (bt s 0) false hg)
  have HI := Aside0.mk (sign_not (bt s 0) hi (by omega) (by omega))
  clear hg hm hq hi hr
  intro w
  have hx : ∀ (h : 0 < s.size), (((s[0]'h).toNat : Nat) : Int) = bt s 0 := bt_at s 0
  have p0 : (0 < s.size) = True := eq_true h1
  have HB := Aside0.mk (Below.refl w.heap.size w)
  have HL := Aside0.mk (letter_at (bt s 0) false hl)
  clear hl
  cases hp : Lib.hasPrefix s.data.toList [46, 46, 46] with
  | true =>
    have HP : Aside0 (Lib.hasPrefix s.data.toList (⟨#[46, 46, 46]⟩ : ByteArray).data.toList = true) := ⟨hp⟩
    clear hp
    go_enter Tryd.func50, Tryd.ntmps50
    go_wp2_with (first | (go_at_call 66; (with_reducible refine (HL.out _).mono ?_); rintro e wq hdr; obtain ⟨rfl, hdr2⟩ := hdr; have n0_ := Aside0.mk (below_step (by repeat (first | (with_reducible first | exact HB.out | apply below_alloc | apply pw_below_drewN | apply below_drew1) | exact HB.out)) (below_drawn hdr2)); clear HB; have HB := n0_; clear n0_ hdr2) | (go_at_call 68; (with_reducible refine (HD.out _).mono ?_); rintro e wq hdr; obtain ⟨rfl, hdr2⟩ := hdr; have n0_ := Aside0.mk (below_step (by repeat (first | (with_reducible first | exact HB.out | apply below_alloc | apply pw_below_drewN | apply below_drew1) | exact HB.out)) (below_drawn hdr2)); clear HB; have HB := n0_; clear n0_ hdr2) | (go_at_call 71; refine (Tryd.strings_HasPrefix _ _ _).mono ?_; rintro e wq ⟨rfl, rfl⟩; rw [HP.out]))
    go_ret
    exact ⟨rfl, (by repeat (first | (with_reducible first | exact HB.out | apply below_alloc | apply pw_below_drewN | apply below_drew1) | exact HB.out))⟩
  | false =>
    have HP : Aside0 (Lib.hasPrefix s.data.toList (⟨#[46, 46, 46]⟩ : ByteArray).data.toList = false) := ⟨hp⟩
    clear hp
    go_enter Tryd.func50, Tryd.ntmps50
    go_wp2_with (first | (go_at_call 66; (with_reducible refine (HL.out _).mono ?_); rintro e wq hdr; obtain ⟨rfl, hdr2⟩ := hdr; have n0_ := Aside0.mk (below_step (by repeat (first | (with_reducible first | exact HB.out | apply below_alloc | apply pw_below_drewN | apply below_drew1) | exact HB.out)) (below_drawn hdr2)); clear HB; have HB := n0_; clear n0_ hdr2) | (go_at_call 68; (with_reducible refine (HD.out _).mono ?_); rintro e wq hdr; obtain ⟨rfl, hdr2⟩ := hdr; have n0_ := Aside0.mk (below_step (by repeat (first | (with_reducible first | exact HB.out | apply below_alloc | apply pw_below_drewN | apply below_drew1) | exact HB.out)) (below_drawn hdr2)); clear HB; have HB := n0_; clear n0_ hdr2) | (go_at_call 71; refine (Tryd.strings_HasPrefix _ _ _).mono ?_; rintro e wq ⟨rfl, rfl⟩; rw [HP.out]) | (go_at_call 72; (with_reducible refine (HI.out _).mono ?_); rintro e wq ⟨kk, rfl, hkk, hdr2⟩; have n0_ := Aside0.mk (below_step (by repeat (first | (with_reducible first | exact HB.out | apply below_alloc | apply pw_below_drewN | apply below_drew1) | exact HB.out)) (below_drawn hdr2)); clear HB; have HB := n0_; clear n0_ hdr2))
    go_ret
    exact ⟨rfl, (by repeat (first | (with_reducible first | exact HB.out | apply below_alloc | apply pw_below_drewN | apply below_drew1) | exact HB.out))⟩

end Go.Proofs.YtgobpenmemlieaaDoor.Lex
