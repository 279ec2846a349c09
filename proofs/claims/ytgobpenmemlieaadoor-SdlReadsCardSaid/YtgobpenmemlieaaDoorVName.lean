/- Packed by our own shrink.py: theorems that the claim does not use are left out. -/
import Derived.Test.YtgobpenmemlieaaDoorVSize
/-
  lex.one and lex.Name: what they tell of any text.
-/
namespace Go.Proofs.YtgobpenmemlieaaDoor.Lex
open Go.RowKit Go.Proofs.YtgobpenmemlieaaDoorW.PrintWords Go.Proofs.YtgobpenmemlieaaDoorW.PrintLast Go.Proofs.YtgobpenmemlieaaDoorW.PrintMore PSdlBack
set_option linter.unusedVariables false
set_option linter.unusedSimpArgs false
theorem wrap64_id {n : Int} (h0 : -9223372036854775808 ≤ n) (h1 : n < 9223372036854775808) : wrap64 n = n := by unfold wrap64; omega
theorem digit_some (c : Int) : ∃ b, json_digit.f c = some b := by
  unfold json_digit.f
  repeat (first | exact ⟨_, rfl⟩ | split)
theorem num_end (s : ByteArray) (x2 x3 x5 : Int) (h0 : 0 ≤ x3) (h1 : x3 ≤ s.size) (hs : (s.size : Int) ≤ 1000000000000) (h5 : x5 < 0 → 1 ≤ x3) : ∃ r, json_Number.j2 1 s x2 x3 x5 false = some r := by
  unfold json_Number.j2
  rw [if_neg (by decide), wrap64_id (n := x3 - 1) (by omega) (by omega)]
  by_cases c : x5 < 0
  · have h5' := h5 c
    rw [if_pos c, wrap64_id (n := x3 - (x3 - 1)) (by omega) (by omega)]
    by_cases c1 : x3 - 1 = 0
    · exact ⟨_, if_pos c1⟩
    rw [if_neg c1]
    by_cases c2 : x2 > 1073741824
    · exact ⟨_, if_pos c2⟩
    rw [if_neg c2, if_pos (by omega), if_pos (by omega)]
    repeat (first | exact ⟨_, rfl⟩ | split)
  · rw [if_neg c]
    by_cases c1 : x3 = 0
    · exact ⟨_, if_pos c1⟩
    rw [if_neg c1, wrap64_id (n := x3 - x3) (by omega) (by omega)]
    by_cases c2 : x2 > 1073741824
    · exact ⟨_, if_pos c2⟩
    rw [if_neg c2, if_pos (by omega), if_pos (by omega)]
    repeat (first | exact ⟨_, rfl⟩ | split)
theorem num_loop (s : ByteArray) (hs : (s.size : Int) ≤ 1000000000000) : ∀ (n : Nat) (x2 x3 x5 : Int), 0 ≤ x3 → x3 ≤ s.size → (s.size : Int) - x3 ≤ n → (x5 < 0 → 1 ≤ x3) → ∃ k r, json_Number.l0 k s x2 x3 x5 = some r := by
  intro n
  induction n with
  | zero =>
    intro x2 x3 x5 h0 h1 h2 h5
    obtain ⟨r, hr⟩ := num_end s x2 x3 x5 h0 h1 hs h5
    refine ⟨2, r, ?_⟩
    unfold json_Number.l0
    rw [if_neg (by omega)]
    exact hr
  | succ n ih =>
    intro x2 x3 x5 h0 h1 h2 h5
    by_cases c : x3 < s.size
    · obtain ⟨b, hb⟩ := digit_some (bt s x3)
      cases b with
      | false =>
        obtain ⟨r, hr⟩ := num_end s x2 x3 x5 h0 h1 hs h5
        refine ⟨2, r, ?_⟩
        unfold json_Number.l0
        rw [if_pos c, if_pos h0, hb]
        exact hr
      | true =>
        have hw : wrap64 (x3 + 1) = x3 + 1 := wrap64_id (by omega) (by omega)
        by_cases c2 : x2 ≤ 1073741824
        · obtain ⟨k, r, hr⟩ := ih (wrap64 ((wrap64 (x2 * 10)) + (((bt s x3) - 48) % 256))) (x3 + 1) x5 (by omega) (by omega) (by omega) (by omega)
          refine ⟨k + 2, r, ?_⟩
          unfold json_Number.l0
          rw [if_pos c, if_pos h0, hb]
          show json_Number.j2 (k + 1) s x2 x3 x5 true = some r
          unfold json_Number.j2
          rw [if_pos rfl, if_pos c2, if_pos h0, if_pos c, hw]
          exact hr
        · obtain ⟨k, r, hr⟩ := ih x2 (x3 + 1) x5 (by omega) (by omega) (by omega) (by omega)
          refine ⟨k + 2, r, ?_⟩
          unfold json_Number.l0
          rw [if_pos c, if_pos h0, hb]
          show json_Number.j2 (k + 1) s x2 x3 x5 true = some r
          unfold json_Number.j2
          rw [if_pos rfl, if_neg c2, hw]
          exact hr
    · obtain ⟨r, hr⟩ := num_end s x2 x3 x5 h0 h1 hs h5
      refine ⟨2, r, ?_⟩
      unfold json_Number.l0
      rw [if_neg c]
      exact hr
theorem num_some (s : ByteArray) (h1 : 0 < s.size) (hs : (s.size : Int) ≤ 1000000000000) : ∃ k r, json_Number.f k s = some r := by
  have hp : ∃ b, strings_HasPrefix.f s (⟨#[45]⟩ : ByteArray) = some b := by
    unfold strings_HasPrefix.f stringslite_HasPrefix.f
    repeat (first | exact ⟨_, rfl⟩ | split)
  obtain ⟨b, hb⟩ := hp
  cases b with
  | true =>
    obtain ⟨k, r, hr⟩ := num_loop s hs s.size 0 1 (-1) (by omega) (by omega) (by omega) (by omega)
    refine ⟨k + 1, r, ?_⟩
    unfold json_Number.f
    rw [hb]
    show json_Number.j0 (k + 1) s 0 1 (-1) = some r
    unfold json_Number.j0
    exact hr
  | false =>
    obtain ⟨k, r, hr⟩ := num_loop s hs s.size 0 0 1 (by omega) (by omega) (by omega) (by omega)
    refine ⟨k + 1, r, ?_⟩
    unfold json_Number.f
    rw [hb]
    show json_Number.j0 (k + 1) s 0 0 1 = some r
    unfold json_Number.j0
    exact hr
/-- size tells something of any text that is not empty; of one that begins with a letter, the name's length. -/
theorem size_any (s : ByteArray) (h1 : 0 < s.size) (hs : s.size ≤ 1000000000000) : ∃ n, SizeI s n ∧ (isLetter (bt s 0) = true → n = named (bytesOf s)) := by
  cases hl : isLetter (bt s 0) with
  | true => exact ⟨_, fun w => (size_letter s w (by omega) h1 hl).mono (by rintro e w' ⟨rfl, hd⟩; exact ⟨rfl, below_drawn hd⟩), fun _ => rfl⟩
  | false =>
    suffices h : ∃ n, SizeI s n from h.elim fun n hn => ⟨n, hn, fun h => by cases h⟩
    obtain ⟨k, ⟨r1, r2, r3⟩, hn⟩ := num_some s h1 (by omega)
    have hn' := fun w => json_Number.calls k s r1 r2 r3 w hn
    cases hg : isDigit (bt s 0) with
    | true => exact ⟨_, size_digit s h1 hg r1 r2 r3 hn'⟩
    | false =>
      by_cases hm : bt s 0 = 45
      · exact ⟨_, size_minus s h1 hm r1 r2 r3 hn'⟩
      by_cases hq : bt s 0 = 34
      · obtain ⟨⟨t1, t2, t3⟩, ht⟩ := Strs.all s s.size 1 [] (by omega)
        exact ⟨_, size_text s h1 hq t1 t2 t3 (fun w => String_calls s t1 t2 t3 w (by omega) ht)⟩
      cases hi : isSign (bt s 0) with
      | true => exact ⟨_, fun w => (size_sign s w (by omega) h1 hi).mono (by rintro e w' ⟨rfl, hd⟩; exact ⟨rfl, below_drawn hd⟩)⟩
      | false => exact ⟨_, size_none s h1 hl hg hm hq hi⟩
theorem toL_eq (a : ByteArray) : a.toList = a.data.toList := ByteArray.toList_eq a
theorem some_empty (s : ByteArray) (h1 : 0 < s.size) : s.toList.isEmpty = false := by
  rw [toL_eq]
  have h3 : s.data.toList.length = s.size := rfl
  cases h : s.data.toList with
  | nil => rw [h] at h3; simp at h3; omega
  | cons a l => rfl
theorem none_empty (s : ByteArray) (h1 : s.size = 0) : s = ⟨#[]⟩ := by
  have h3 : s.data.toList.length = s.size := rfl
  obtain ⟨⟨l⟩⟩ := s
  have h4 : l.length = 0 := by rw [← h1]; exact h3
  cases l with
  | nil => rfl
  | cons a l => simp at h4
set_option maxHeartbeats 4000000 in
set_option maxRecDepth 100000 in
theorem one_calls (s : ByteArray) (h1 : 0 < s.size) (n : Int) (hn : SizeI s n) (w : World) : Calls Tryd.prog 78 #[.string s] w fun e w' => e = .returned (.bool (n == (s.size : Int))) ∧ Below w.heap.size w w' := by
  have HB := Aside0.mk (Below.refl w.heap.size w)
  have HS : Aside0 (∀ w, Calls Tryd.prog 50 #[.string s] w fun e w' => e = .returned (.int .i64 n) ∧ Below w.heap.size w w') := ⟨hn⟩
  clear hn
  have ne := some_empty s h1
  go_enter Tryd.func78, Tryd.ntmps78
  go_wp2_with (first | (go_at_call 50; (with_reducible refine (HS.out _).mono ?_); rintro e wq ⟨rfl, hb2⟩; have n0_ := Aside0.mk (below_step (by repeat (first | (with_reducible first | exact HB.out | apply below_alloc | apply pw_below_drewN | apply below_drew1) | exact HB.out)) hb2); clear HB; have HB := n0_; clear n0_ hb2))
  go_ret
  exact ⟨rfl, (by repeat (first | (with_reducible first | exact HB.out | apply below_alloc | apply pw_below_drewN | apply below_drew1) | exact HB.out))⟩
set_option maxHeartbeats 4000000 in
set_option maxRecDepth 100000 in
theorem one_empty (w : World) : Calls Tryd.prog 78 #[.string ⟨#[]⟩] w fun e w' => e = .returned (.bool false) ∧ Below w.heap.size w w' := by
  have HB := Aside0.mk (Below.refl w.heap.size w)
  have ne : (ByteArray.toList ⟨#[]⟩).isEmpty = true := by rw [toL_eq]; rfl
  go_enter Tryd.func78, Tryd.ntmps78
  go_wp2
  go_ret
  exact ⟨rfl, (by repeat (first | (with_reducible first | exact HB.out | apply below_alloc | apply pw_below_drewN | apply below_drew1) | exact HB.out))⟩
set_option maxHeartbeats 4000000 in
set_option maxRecDepth 100000 in
/-- lex.Name. -/
def isName (s : ByteArray) : Bool := decide (0 < s.size) && (isLetter (bt s 0) && (named (bytesOf s) == s.size))
theorem Name_empty (w : World) : Calls Tryd.prog 57 #[.string ⟨#[]⟩] w fun e w' => e = .returned (.bool false) ∧ Below w.heap.size w w' := by
  have HB := Aside0.mk (Below.refl w.heap.size w)
  have H1 := Aside0.mk one_empty
  go_enter Tryd.func57, Tryd.ntmps57
  go_wp2_with (first | (go_at_call 78; (with_reducible refine (H1.out _).mono ?_); rintro e wq ⟨rfl, hb2⟩; have n0_ := Aside0.mk (below_step (by repeat (first | (with_reducible first | exact HB.out | apply below_alloc | apply pw_below_drewN | apply below_drew1) | exact HB.out)) hb2); clear HB; have HB := n0_; clear n0_ hb2))
  go_ret
  exact ⟨rfl, (by repeat (first | (with_reducible first | exact HB.out | apply below_alloc | apply pw_below_drewN | apply below_drew1) | exact HB.out))⟩
set_option maxHeartbeats 4000000 in
set_option maxRecDepth 100000 in
theorem Name_some (s : ByteArray) (h1 : 0 < s.size) (n : Int) (hn : SizeI s n) (w : World) : Calls Tryd.prog 57 #[.string s] w fun e w' => e = .returned (.bool ((n == (s.size : Int)) && isLetter (bt s 0))) ∧ Below w.heap.size w w' := by
  have HB := Aside0.mk (Below.refl w.heap.size w)
  have H1 := Aside0.mk (one_calls s h1 n hn)
  have hx : ∀ (h : 0 < s.size), (((s[0]'h).toNat : Nat) : Int) = bt s 0 := bt_at s 0
  have p0 : (0 < s.size) = True := eq_true h1
  have HL := Aside0.mk (letter_at (bt s 0) _ rfl)
  clear hn
  cases hc : (n == (s.size : Int)) with
  | false =>
    rw [hc] at H1
    go_enter Tryd.func57, Tryd.ntmps57
    go_wp2_with (first | (go_at_call 78; (with_reducible refine (H1.out _).mono ?_); rintro e wq ⟨rfl, hb2⟩; have n0_ := Aside0.mk (below_step (by repeat (first | (with_reducible first | exact HB.out | apply below_alloc | apply pw_below_drewN | apply below_drew1) | exact HB.out)) hb2); clear HB; have HB := n0_; clear n0_ hb2))
    go_ret
    exact ⟨rfl, (by repeat (first | (with_reducible first | exact HB.out | apply below_alloc | apply pw_below_drewN | apply below_drew1) | exact HB.out))⟩
  | true =>
    rw [hc] at H1
    go_enter Tryd.func57, Tryd.ntmps57
    go_wp2_with (first | (go_at_call 78; (with_reducible refine (H1.out _).mono ?_); rintro e wq ⟨rfl, hb2⟩; have n0_ := Aside0.mk (below_step (by repeat (first | (with_reducible first | exact HB.out | apply below_alloc | apply pw_below_drewN | apply below_drew1) | exact HB.out)) hb2); clear HB; have HB := n0_; clear n0_ hb2) | (go_at_call 66; (with_reducible refine (HL.out _).mono ?_); rintro e wq hdr; obtain ⟨rfl, hdr2⟩ := hdr; have n0_ := Aside0.mk (below_step (by repeat (first | (with_reducible first | exact HB.out | apply below_alloc | apply pw_below_drewN | apply below_drew1) | exact HB.out)) (below_drawn hdr2)); clear HB; have HB := n0_; clear n0_ hdr2))
    go_ret
    exact ⟨rfl, (by repeat (first | (with_reducible first | exact HB.out | apply below_alloc | apply pw_below_drewN | apply below_drew1) | exact HB.out))⟩
theorem Name_calls (s : ByteArray) (hs : s.size ≤ 1000000000000) (w : World) : Calls Tryd.prog 57 #[.string s] w fun e w' => e = .returned (.bool (isName s)) ∧ Below w.heap.size w w' := by
  by_cases h : s.size = 0
  · have hn : isName s = false := by unfold isName; rw [h]; rfl
    rw [hn, none_empty s h]
    exact Name_empty w
  · obtain ⟨n, hn, hl⟩ := size_any s (by omega) hs
    refine (Name_some s (by omega) n hn w).mono ?_
    rintro e w' ⟨rfl, hb⟩
    refine ⟨?_, hb⟩
    congr 2
    unfold isName
    rw [decide_eq_true (show 0 < s.size by omega), Bool.true_and]
    cases hc : isLetter (bt s 0) with
    | false => rw [Bool.and_false, Bool.false_and]
    | true =>
      rw [hl hc, Bool.and_true, Bool.true_and, Bool.eq_iff_iff, beq_iff_eq, beq_iff_eq]
      omega
end Go.Proofs.YtgobpenmemlieaaDoor.Lex
