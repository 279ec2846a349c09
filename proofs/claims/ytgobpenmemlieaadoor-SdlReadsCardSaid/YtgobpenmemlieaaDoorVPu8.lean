/- Packed by our own shrink.py: theorems that the claim does not use are left out. -/
import Derived.Test.YtgobpenmemlieaaDoorVPu7
/-
  Plain: the reference's words are ours.
-/
namespace Go.Proofs.YtgobpenmemlieaaDoor.Lex
open Go.RowKit Go.Proofs.YtgobpenmemlieaaDoorW.PrintWords Go.Proofs.YtgobpenmemlieaaDoorW.PrintLast Go.Proofs.YtgobpenmemlieaaDoorW.PrintMore PSdlBack
set_option linter.unusedVariables false
set_option linter.unusedSimpArgs false
theorem strs_range (s : ByteArray) {i : Int} {d : List UInt8} {r : ByteArray × Int × Bool} (h : Strs s i d r) : 0 ≤ i → 0 ≤ r.2.1 ∧ r.2.1 ≤ s.size := by
  induction h with
  | fin h => intro h0; exact ⟨by show (0 : Int) ≤ 0; omega, by show (0 : Int) ≤ _; omega⟩
  | @quote i d h1 h2 => intro h0; exact ⟨by show (0 : Int) ≤ i + 1; omega, by show i + 1 ≤ _; omega⟩
  | low h1 h2 h3 => intro h0; exact ⟨by show (0 : Int) ≤ 0; omega, by show (0 : Int) ≤ _; omega⟩
  | high h1 h2 h3 => intro h0; exact ⟨by show (0 : Int) ≤ 0; omega, by show (0 : Int) ≤ _; omega⟩
  | plain h1 h2 h3 h4 h5 h6 ih => intro h0; exact ih (by omega)
  | last h1 h2 h3 => intro h0; exact ⟨by show (0 : Int) ≤ 0; omega, by show (0 : Int) ≤ _; omega⟩
  | other h1 h2 h3 h4 => intro h0; exact ⟨by show (0 : Int) ≤ 0; omega, by show (0 : Int) ≤ _; omega⟩
  | esc h1 h2 h3 h4 ih => intro h0; exact ih (by omega)
  | esc2 h1 h2 h3 h4 ih => intro h0; exact ih (by omega)
theorem signs_ends (c : Int) (ys : List Int) (hl : ys.length ≤ 1000) : ∀ (n i : Nat), i ≤ ys.length → ys.length - i ≤ n → Ends (fun k => amanuensisref2_one.l2 k c ys (ys.length : Int) i) (if (ys.drop i).contains c then 1 else 0)
  | n, i, h0, h1 => by
    by_cases h : i < ys.length
    · obtain ⟨n, rfl⟩ : ∃ m, n = m + 1 := ⟨n - 1, by omega⟩
      have hr : rd ys i = ys[i] := by unfold rd; rw [Int.toNat_natCast, List.getD_eq_getElem?_getD, List.getElem?_eq_getElem h]; rfl
      rw [List.drop_eq_getElem_cons h, List.contains_cons]
      by_cases he : ys[i] = c
      · rw [show (c == ys[i]) = true by rw [he]; simp, Bool.true_or, if_pos rfl]
        exact Ends.step (Ends.const _) (fun k => by rw [amanuensisref2_one.l2, if_pos (by omega), if_pos (by omega), if_pos (by omega), hr, if_pos he])
      · rw [show (c == ys[i]) = false from beq_eq_false_iff_ne.mpr (fun e => he e.symm), Bool.false_or]
        refine Ends.step (signs_ends c ys hl n (i + 1) (by omega) (by omega)) (fun k => ?_)
        rw [amanuensisref2_one.l2, if_pos (by omega), if_pos (by omega), if_pos (by omega), hr, if_neg he, wrap64_id (n := (i : Int) + 1) (by omega) (by omega)]
        rfl
    · rw [List.drop_eq_nil_of_le (by omega)]
      exact Ends.step (Ends.const _) (fun k => by rw [amanuensisref2_one.l2, if_neg (by omega)]; rfl)
theorem j3_ends (c : Int) : Ends (fun k => amanuensisref2_one.j3 k c) (if isSign c then 1 else 0) :=
  Ends.step (signs_ends c signs (by decide) 11 0 (by omega) (by decide)) (fun k => by rw [amanuensisref2_one.j3]; rfl)
theorem dots (s : ByteArray) : (s.size > 2 ∧ (s.extract 0 3).toList = [46, 46, 46]) ↔ Lib.hasPrefix s.data.toList [46, 46, 46] = true := by
  rw [toL_eq, ext_list, List.drop_zero, size_list]
  generalize s.data.toList = l
  constructor
  · rintro ⟨h1, h2⟩
    match l, h1 with
    | a :: b :: c :: r, _ =>
      simp at h2
      obtain ⟨rfl, rfl, rfl⟩ := h2
      simp [Lib.hasPrefix]
  · intro h
    match l with
    | [] => simp [Lib.hasPrefix] at h
    | [a] => simp [Lib.hasPrefix] at h
    | [a, b] => simp [Lib.hasPrefix] at h
    | a :: b :: c :: r =>
      simp [Lib.hasPrefix] at h
      obtain ⟨rfl, rfl, rfl⟩ := h
      simp
theorem one_agree (s : ByteArray) (h1 : 0 < s.size) (hs : s.size ≤ 1000000000000) : ∃ n : Int, SizeI s n ∧ Ends (fun k => amanuensisref2_one.f k s) n ∧ 0 ≤ n ∧ n ≤ s.size := by
  cases hl : isLetter (bt s 0) with
  | true =>
    refine ⟨((named (bytesOf s) : Nat) : Int), fun w => (size_letter s w (by omega) h1 hl).mono (by rintro e w' ⟨rfl, hd⟩; exact ⟨rfl, below_drawn hd⟩), ⟨s.size + 1, fun k hk => ?_⟩, by omega, ?_⟩
    · have hw := wordy_loop s (by omega) s.size 0 (by omega) (by omega) (fun j hj => by omega) k hk
      show amanuensisref2_one.f k s = _
      rw [amanuensisref2_one.f, if_pos (by omega), letter_ref, hl]
      exact hw
    · have h3 : named (bytesOf s) ≤ cnt isWordy (bytesOf s) := by unfold named; split <;> omega
      have h4 := cnt_le isWordy (bytesOf s)
      rw [len_bytes] at h4
      omega
  | false =>
    have hone : ∀ (b : Bool) (n : Int), (bt s 0 = 45 → b = true) → (bt s 0 ≠ 45 → b = isDigit (bt s 0)) → Ends (fun k => amanuensisref2_one.j1 k s (bt s 0) b) n → Ends (fun k => amanuensisref2_one.f k s) n := fun b n hb1 hb2 h => by
      refine Ends.of h (fun k => ?_)
      rw [amanuensisref2_one.f, if_pos (by omega), letter_ref, hl, Option.bind_some, if_neg (by decide)]
      by_cases h45 : bt s 0 = 45
      · rw [if_pos h45, hb1 h45]
      · rw [if_neg h45, digit_ref, Option.bind_some, hb2 h45]
    by_cases hc : bt s 0 = 45 ∨ isDigit (bt s 0) = true
    · obtain ⟨n, g1, g2, g3, g4⟩ := num_agree s h1 (by omega) hc
      refine ⟨n, g1, hone true n (fun _ => rfl) (fun h => (hc.resolve_left h).symm) (Ends.step g2 (fun k => by rw [amanuensisref2_one.j1, if_pos rfl])), g3, g4⟩
    · have h45 : bt s 0 ≠ 45 := fun h => hc (.inl h)
      have hd : isDigit (bt s 0) = false := by
        cases hd : isDigit (bt s 0) with
        | true => exact absurd (.inr hd) hc
        | false => rfl
      by_cases hq : bt s 0 = 34
      · obtain ⟨r, hr⟩ := Strs.all s s.size 1 [] (by omega)
        obtain ⟨r1, r2, r3⟩ := r
        have ht := text_agree s (by omega) hr [] rfl (by omega) (by simp)
        have hrg := strs_range s hr (by omega)
        refine ⟨strN (r1, r2, r3), size_text s h1 hq r1 r2 r3 (fun w => String_calls s r1 r2 r3 w (by omega) hr), hone false _ (fun h => absurd h h45) (fun _ => hd.symm) ?_, ?_, ?_⟩
        · refine Ends.step ht (fun k => ?_)
          rw [amanuensisref2_one.j1, if_neg (by decide), if_pos hq]
          show (amanuensisref2_text.l0 k s [] 1).bind _ = _
          cases amanuensisref2_text.l0 k s [] 1 <;> rfl
        · unfold strN; split
          · exact hrg.1
          · omega
        · unfold strN; split
          · exact hrg.2
          · omega
      · have hj : ∀ n : Int, Ends (fun k => amanuensisref2_one.j1 k s (bt s 0) false) n → Ends (fun k => amanuensisref2_one.f k s) n := fun n h => hone false n (fun h2 => absurd h2 h45) (fun _ => hd.symm) h
        cases hi : isSign (bt s 0) with
        | true =>
          have h3 := j3_ends (bt s 0)
          rw [hi] at h3
          have hnd : ¬ (s.size > 2 ∧ (s.extract 0 3).toList = [46, 46, 46]) := fun hh => by
            have := (dots s).mp hh
            obtain ⟨-, hh2⟩ := hh
            rw [toL_eq, ext_list, List.drop_zero] at hh2
            cases hcs : s.data.toList with
            | nil => rw [hcs] at hh2; simp at hh2
            | cons c r =>
              rw [hcs] at hh2
              have hc46 : c = 46 := by simpa using (List.cons.inj (show c :: (r.take 2) = [46, 46, 46] from hh2)).1
              rw [bt_zero s c r hcs, hc46] at hi
              exact absurd hi (by decide)
          refine ⟨1, fun w => (size_sign s w (by omega) h1 hi).mono (by rintro e w' ⟨rfl, hd⟩; exact ⟨rfl, below_drawn hd⟩), hj 1 (Ends.step h3 (fun k => ?_)), by omega, by omega⟩
          rw [amanuensisref2_one.j1, if_neg (by decide), if_neg hq]
          by_cases h2 : (s.size : Int) > 2
          · rw [if_pos h2, if_pos (by decide), if_pos (by omega), if_neg (fun hh => hnd ⟨by omega, hh⟩)]
          · rw [if_neg h2]
        | false =>
          have h3 := j3_ends (bt s 0)
          rw [hi] at h3
          refine ⟨_, size_none s h1 hl hd h45 hq hi, hj _ ?_, by split <;> omega, ?_⟩
          · by_cases hp : Lib.hasPrefix s.data.toList [46, 46, 46] = true
            · obtain ⟨g1, g2⟩ := (dots s).mpr hp
              rw [if_pos hp]
              exact Ends.step (Ends.const _) (fun k => by rw [amanuensisref2_one.j1, if_neg (by decide), if_neg hq, if_pos (by omega), if_pos (by decide), if_pos (by omega), if_pos g2])
            · rw [if_neg hp]
              refine Ends.step h3 (fun k => ?_)
              rw [amanuensisref2_one.j1, if_neg (by decide), if_neg hq]
              by_cases h2 : (s.size : Int) > 2
              · rw [if_pos h2, if_pos (by decide), if_pos (by omega), if_neg (fun hh => hp ((dots s).mp ⟨by omega, hh⟩))]
              · rw [if_neg h2]
          · by_cases hp : Lib.hasPrefix s.data.toList [46, 46, 46] = true
            · obtain ⟨g1, g2⟩ := (dots s).mpr hp
              rw [if_pos hp]; omega
            · rw [if_neg hp]; omega
theorem bt_ext (s : ByteArray) (i : Nat) (h : i < s.size) : bt (s.extract i s.size) 0 = bt s i ∧ bytesOf (s.extract i s.size) = (bytesOf s).drop i := by
  have h2 : bytesOf (s.extract i s.size) = (bytesOf s).drop i := by
    unfold bytesOf
    rw [ext_list, List.map_take, List.map_drop, List.take_of_length_le]
    rw [List.length_drop, List.length_map]
    exact Nat.le_refl _
  refine ⟨?_, h2⟩
  rw [bt_bytes, bt_bytes, h2, Int.toNat_natCast]
  show ((bytesOf s).drop i).getD 0 0 = _
  rw [List.getD_eq_getElem?_getD, List.getD_eq_getElem?_getD, List.getElem?_drop, Nat.add_zero]
theorem cnt_at (f : Int → Bool) (l : List Int) (j : Nat) (h : j < cnt f l) : f (l.getD j 0) = true := by
  unfold cnt at h
  have hm : (l.takeWhile f)[j] ∈ l.takeWhile f := List.getElem_mem h
  have h1 := List.all_eq_true.mp (List.all_takeWhile (p := f) (l := l)) _ hm
  obtain ⟨t, ht⟩ := List.takeWhile_prefix (l := l) f
  have h2 : l.getD j 0 = (l.takeWhile f)[j] := by
    rw [List.getD_eq_getElem?_getD]
    conv => lhs; rw [← ht]
    rw [List.getElem?_append_left h, List.getElem?_eq_getElem h]
    rfl
  rw [h2]
  exact h1
theorem cnt_more (f : Int → Bool) (l : List Int) (h : cnt f l < l.length) (hq : f (l.getD (cnt f l) 0) = true) : cnt f l < cnt f l := by
  exfalso
  induction l with
  | nil => simp at h
  | cons a l ih =>
    cases ha : f a with
    | false =>
      have h0 : cnt f (a :: l) = 0 := by unfold cnt; rw [List.takeWhile_cons_of_neg (by rw [ha]; decide)]; rfl
      rw [h0] at hq
      rw [show (a :: l).getD 0 0 = a from rfl, ha] at hq
      exact absurd hq (by decide)
    | true =>
      have h0 : cnt f (a :: l) = cnt f l + 1 := by unfold cnt; rw [List.takeWhile_cons_of_pos ha, List.length_cons]
      rw [h0] at h hq
      exact ih (by simpa using h) (by simpa using hq)
theorem bt_drop (s : ByteArray) (i j : Nat) : ((bytesOf s).drop i).getD j 0 = bt s ((i + j : Nat) : Int) := by
  rw [bt_bytes, Int.toNat_natCast, List.getD_eq_getElem?_getD, List.getD_eq_getElem?_getD, List.getElem?_drop]
/-- The reference passes blanks one by one. -/
theorem skip_blanks (s : ByteArray) (hs : s.size ≤ 3000) (d : List S39) (r : List S39 × Int × Int) : ∀ (m i : Nat), i + m ≤ s.size → (∀ j, j < m → isBlank (bt s ((i + j : Nat) : Int)) = true) →
    Ends (fun k => amanuensisref2_Words.l0 k s d ((i + m : Nat) : Int)) r → Ends (fun k => amanuensisref2_Words.l0 k s d i) r
  | 0, i, h0, hb, h => h
  | m + 1, i, h0, hb, h => by
    have h1 := hb 0 (by omega)
    rw [Nat.add_zero] at h1
    have ih := skip_blanks s hs d r m (i + 1) (by omega) (fun j hj => by
      have := hb (j + 1) (by omega)
      rw [show i + 1 + j = i + (j + 1) by omega]
      exact this) (by rw [show i + 1 + m = i + (m + 1) by omega]; exact h)
    have hj : ∀ c : Int, Ends (fun k => amanuensisref2_Words.j1 k s d i c true) r := fun c => Ends.step ih (fun k => by rw [amanuensisref2_Words.j1, if_pos rfl, wrap64_id (n := (i : Int) + 1) (by omega) (by omega)]; rfl)
    refine Ends.step (hj (bt s i)) (fun k => ?_)
    rw [amanuensisref2_Words.l0, if_pos (by omega), if_pos (by omega)]
    unfold isBlank at h1
    by_cases c1 : bt s i = 32
    · rw [if_pos c1]
    · by_cases c2 : bt s i = 44
      · rw [if_neg c1, if_pos c2]
      · by_cases c3 : bt s i = 9
        · rw [if_neg c1, if_neg c2, if_pos c3]
        · by_cases c4 : bt s i = 10
          · rw [if_neg c1, if_neg c2, if_neg c3, if_pos c4]
          · have c5 : bt s i = 13 := by simpa [c1, c2, c3, c4] using h1
            rw [if_neg c1, if_neg c2, if_neg c3, if_neg c4, show (bt s i == 13) = true by rw [c5]; rfl]
theorem skip_remark (s : ByteArray) (hs : s.size ≤ 3000) (d : List S39) (r : List S39 × Int × Int) : ∀ (m i : Nat), i + m ≤ s.size → (∀ j, j < m → isRemark (bt s ((i + j : Nat) : Int)) = true) → (i + m = s.size ∨ isRemark (bt s ((i + m : Nat) : Int)) = false) →
    Ends (fun k => amanuensisref2_Words.l0 k s d ((i + m : Nat) : Int)) r → Ends (fun k => amanuensisref2_Words.l1 k s d i) r
  | 0, i, h0, hb, he, h => by
    refine Ends.step h (fun k => ?_)
    rw [amanuensisref2_Words.l1]
    by_cases hi : i < s.size
    · have h2 : isRemark (bt s i) = false := by
        rcases he with he | he
        · omega
        · exact he
      unfold isRemark at h2
      rw [if_pos (by omega), if_pos (by omega)]
      by_cases c1 : bt s i = 10
      · rw [if_pos c1]; rfl
      · have c2 : bt s i = 13 := by simpa [c1] using h2
        rw [if_neg c1, if_pos c2]; rfl
    · rw [if_neg (by omega)]; rfl
  | m + 1, i, h0, hb, he, h => by
    have h1 := hb 0 (by omega)
    rw [Nat.add_zero] at h1
    have ih := skip_remark s hs d r m (i + 1) (by omega) (fun j hj => by
      have := hb (j + 1) (by omega)
      rw [show i + 1 + j = i + (j + 1) by omega]
      exact this) (by rw [show i + 1 + m = i + (m + 1) by omega]; exact he) (by rw [show i + 1 + m = i + (m + 1) by omega]; exact h)
    unfold isRemark at h1
    simp at h1
    refine Ends.step ih (fun k => ?_)
    rw [amanuensisref2_Words.l1, if_pos (by omega), if_pos (by omega), if_neg h1.1, if_neg h1.2, wrap64_id (n := (i : Int) + 1) (by omega) (by omega)]
    rfl
theorem wrap_nat (i m : Nat) (h : i + m ≤ 1000000) : wrap64 ((i : Int) + (m : Int)) = ((i + m : Nat) : Int) := by
  rw [wrap64_id (by omega) (by omega)]
  omega
set_option maxHeartbeats 1000000 in
theorem words_from (s : ByteArray) (hs : s.size ≤ 3000) : ∀ (n i : Nat) (d : List S39), i ≤ s.size → s.size - i ≤ n → d.length ≤ i → ∃ r, Lexes s i d r ∧ Ends (fun k => amanuensisref2_Words.l0 k s d i) r
  | n, i, d, h0, h1, hd => by
    by_cases hi : i < s.size
    · obtain ⟨n, rfl⟩ : ∃ m, n = m + 1 := ⟨n - 1, by omega⟩
      obtain ⟨e1, e2⟩ := bt_ext s i hi
      have hez := extract_size s i
      have hg : ((bytesOf s).drop i).getD 0 0 = bt s i := by rw [bt_drop, Nat.add_zero]
      have hcl : ∀ f, cnt f ((bytesOf s).drop i) ≤ s.size - i := fun f => by
        have := cnt_le f ((bytesOf s).drop i)
        rw [List.length_drop, len_bytes] at this
        exact this
      by_cases h35 : bt s i = 35
      · have hp : passed (bytesOf (s.extract i s.size)) = cnt isRemark ((bytesOf s).drop i) := by rw [e2]; unfold passed; rw [hg, if_pos h35]
        have hpos : 0 < cnt isRemark ((bytesOf s).drop i) := by
          cases hm : cnt isRemark ((bytesOf s).drop i) with
          | succ m => omega
          | zero =>
            exfalso
            have hl : i < (bytesOf s).length := by rw [len_bytes]; exact hi
            have hb : (bytesOf s)[i] = 35 := by rw [← h35, ← hg, List.drop_eq_getElem_cons hl]; rfl
            unfold cnt at hm
            rw [List.drop_eq_getElem_cons hl, List.takeWhile_cons_of_pos (by rw [hb]; decide)] at hm
            simp at hm
        obtain ⟨r, g1, g2⟩ := words_from s hs n (i + cnt isRemark ((bytesOf s).drop i)) d (by have := hcl isRemark; omega) (by omega) (by omega)
        refine ⟨r, .skip _ hi hp hpos (by have := hcl isRemark; omega) g1, ?_⟩
        have hstop : i + cnt isRemark ((bytesOf s).drop i) = s.size ∨ isRemark (bt s ((i + cnt isRemark ((bytesOf s).drop i) : Nat) : Int)) = false := by
          by_cases hend : i + cnt isRemark ((bytesOf s).drop i) = s.size
          · exact .inl hend
          · right
            rw [← bt_drop]
            have hlt : cnt isRemark ((bytesOf s).drop i) < ((bytesOf s).drop i).length := by rw [List.length_drop, len_bytes]; have := hcl isRemark; omega
            cases hq : isRemark (((bytesOf s).drop i).getD (cnt isRemark ((bytesOf s).drop i)) 0) with
            | false => rfl
            | true =>
              exfalso
              have : cnt isRemark ((bytesOf s).drop i) < cnt isRemark ((bytesOf s).drop i) := cnt_more isRemark _ hlt hq
              omega
        have h2 := skip_remark s hs d r _ i (by have := hcl isRemark; omega) (fun j hj => by rw [← bt_drop]; exact cnt_at isRemark _ j hj) hstop g2
        have hj : Ends (fun k => amanuensisref2_Words.j1 k s d i (bt s i) false) r := Ends.step h2 (fun k => by rw [amanuensisref2_Words.j1, if_neg (by decide), if_pos h35])
        refine Ends.step hj (fun k => ?_)
        rw [amanuensisref2_Words.l0, if_pos (by omega), if_pos (by omega), h35]
        rfl
      · have hp : passed (bytesOf (s.extract i s.size)) = cnt isBlank ((bytesOf s).drop i) := by rw [e2]; unfold passed; rw [hg, if_neg h35]
        by_cases hz : 0 < cnt isBlank ((bytesOf s).drop i)
        · obtain ⟨r, g1, g2⟩ := words_from s hs n (i + cnt isBlank ((bytesOf s).drop i)) d (by have := hcl isBlank; omega) (by omega) (by omega)
          exact ⟨r, .skip _ hi hp hz (by have := hcl isBlank; omega) g1, skip_blanks s hs d r _ i (by have := hcl isBlank; omega) (fun j hj => by rw [← bt_drop]; exact cnt_at isBlank _ j hj) g2⟩
        · have hp0 : passed (bytesOf (s.extract i s.size)) = 0 := by rw [hp]; omega
          have hnb : isBlank (bt s i) = false := by
            cases hq : isBlank (bt s i) with
            | false => rfl
            | true =>
              exfalso
              have hlt : 0 < ((bytesOf s).drop i).length := by rw [List.length_drop, len_bytes]; omega
              have h0c : cnt isBlank ((bytesOf s).drop i) = 0 := by omega
              have := cnt_more isBlank ((bytesOf s).drop i) (by rw [h0c]; exact hlt) (by rw [h0c, hg]; exact hq)
              omega
          obtain ⟨m, o1, o2, o3, o4⟩ := one_agree (s.extract i s.size) (by omega) (by omega)
          rw [hez] at o4
          obtain ⟨m, rfl⟩ := Int.eq_ofNat_of_zero_le o3
          have hl0 : ∀ r, Ends (fun k => amanuensisref2_Words.j1 k s d i (bt s i) false) r → Ends (fun k => amanuensisref2_Words.l0 k s d i) r := fun r h => by
            refine Ends.step h (fun k => ?_)
            unfold isBlank at hnb
            simp at hnb
            obtain ⟨⟨⟨⟨b1, b2⟩, b3⟩, b4⟩, b5⟩ := hnb
            rw [amanuensisref2_Words.l0, if_pos (by omega), if_pos (by omega), if_neg b1, if_neg b3, if_neg b2, if_neg b4, show (bt s i == 13) = false from beq_eq_false_iff_ne.mpr b5]
          have hj1 : ∀ r, Ends (fun k => (amanuensisref2_one.f k (s.extract i s.size)).bind fun t169 => (if t169 = 0 then (some (([] : List S39), (i : Int), (4 : Int))) else (if (i : Int) ≤ (wrap64 (i + t169)) then (if (wrap64 (i + t169)) ≤ (s.size : Int) then (if d.length < 5864062014805 then (amanuensisref2_Words.l0 k s (d ++ [(⟨s.extract i ((wrap64 (i + t169)) : Int).toNat, i⟩ : S39)]) (wrap64 (i + t169))) else (none)) else (none)) else (none)))) r → Ends (fun k => amanuensisref2_Words.l0 k s d i) r := fun r h => hl0 r (Ends.step h (fun k => by rw [amanuensisref2_Words.j1, if_neg (by decide), if_neg h35, if_pos (by omega), if_pos (by omega), Int.toNat_natCast]))
          by_cases hm : m = 0
          · subst hm
            refine ⟨_, .bad hi hp0 (fun w => o1 w), hj1 _ (Ends.bind o2 ?_)⟩
            exact Ends.of (Ends.const _) (fun k => if_pos rfl)
          · have hone : (d ++ [(⟨s.extract i (i + m), i⟩ : S39)]).length = d.length + 1 := by simp
            obtain ⟨r, g1, g2⟩ := words_from s hs n (i + m) (d ++ [⟨s.extract i (i + m), i⟩]) (by omega) (by omega) (by rw [hone]; omega)
            refine ⟨r, .word m hi hp0 (fun w => o1 w) (by omega) (by omega) g1, hj1 _ (Ends.bind o2 ?_)⟩
            have hm1 : ¬ ((m : Nat) : Int) = 0 := by omega
            have hi1 : (i : Int) ≤ ((i + m : Nat) : Int) := by omega
            have hi2 : ((i + m : Nat) : Int) ≤ (s.size : Int) := by omega
            have hd1 : d.length < 5864062014805 := by omega
            have hw : wrap64 ((i : Int) + (m : Int)) = ((i + m : Nat) : Int) := wrap_nat i m (by omega)
            clear h1 hcl hg e1 e2 hez hp hz hp0 hnb o1 o2 hl0 hj1 hone g1 h35
            refine Ends.of g2 (fun k => ?_)
            rw [if_neg hm1, hw, if_pos hi1, if_pos hi2, if_pos hd1, Int.toNat_natCast]
    · refine ⟨(d, 0, 0), .fin (by omega), Ends.step (Ends.const _) (fun k => ?_)⟩
      rw [amanuensisref2_Words.l0, if_neg (by omega)]
end Go.Proofs.YtgobpenmemlieaaDoor.Lex
