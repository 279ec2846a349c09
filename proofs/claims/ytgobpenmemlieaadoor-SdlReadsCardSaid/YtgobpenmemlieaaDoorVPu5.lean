/- Packed by our own shrink.py: theorems that the claim does not use are left out. -/
import Derived.Test.YtgobpenmemlieaaDoorVPuz
import Derived.Test.YtgobpenmemlieaaDoorVPrs
/-
  Plain: the reference's name is the same name; its find the same place; its pairs, services and text the same.
-/
namespace Go.Proofs.YtgobpenmemlieaaDoor.Lex
open Go.RowKit Go.Proofs.YtgobpenmemlieaaDoorW.PrintWords Go.Proofs.YtgobpenmemlieaaDoorW.PrintLast Go.Proofs.YtgobpenmemlieaaDoorW.PrintMore PSdlBack
set_option linter.unusedVariables false
set_option linter.unusedSimpArgs false
def Tots {α : Type} (g : Nat → Option α) : Prop := ∃ r K, ∀ k, K ≤ k → g k = some r
theorem Tots.step {α : Type} {g h : Nat → Option α} (hg : Tots g) (e : ∀ k, h (k + 1) = g k) : Tots h := by
  obtain ⟨r, K, hK⟩ := hg
  refine ⟨r, K + 1, fun k hk => ?_⟩
  obtain ⟨k, rfl⟩ : ∃ m, k = m + 1 := ⟨k - 1, by omega⟩
  rw [e]
  exact hK k (by omega)
theorem Tots.const {α : Type} (x : α) : Tots (fun _ => some x) := ⟨x, 0, fun _ _ => rfl⟩
theorem Tots.bind {α β : Type} {g : Nat → Option α} {h : Nat → α → Option β} (hg : Tots g) (hh : ∀ r, Tots (fun k => h k r)) : Tots (fun k => (g k).bind fun r => h k r) := by
  obtain ⟨r, K, hK⟩ := hg
  obtain ⟨r2, K2, hK2⟩ := hh r
  refine ⟨r2, K + K2, fun k hk => ?_⟩
  show (g k).bind _ = _
  rw [hK k (by omega)]
  exact hK2 k (by omega)
theorem Tots.ite {α : Type} {c : Prop} [Decidable c] {g h : Nat → Option α} (h1 : c → Tots g) (h2 : ¬ c → Tots h) : Tots (fun k => if c then g k else h k) := by
  by_cases hc : c
  · simpa only [if_pos hc] using h1 hc
  · simpa only [if_neg hc] using h2 hc
theorem int_loop (a x : ByteArray) (hs : (x.size : Int) ≤ 1000000000000) : ∀ (n : Nat) (y i : Int), 0 ≤ i → i ≤ x.size → (x.size : Int) - i ≤ n → Tots (fun k => amanuensisref1_Int.l0 k a x y i)
  | 0, y, i, h0, h1, h2 => by
    refine Tots.step (g := fun _ => if y > 1073741824 then (some (0, false)) else (if (x.size : Int) < (a.size : Int) then (some (wrap64 (-y), true)) else (some (y, true)))) ?_ (fun k => by show amanuensisref1_Int.l0 (k + 1) a x y i = _; rw [amanuensisref1_Int.l0, if_neg (by omega)])
    exact Tots.ite (fun _ => Tots.const _) (fun _ => Tots.ite (fun _ => Tots.const _) (fun _ => Tots.const _))
  | n + 1, y, i, h0, h1, h2 => by
    by_cases h : i < x.size
    · refine Tots.step (g := fun k => if bt x i < 48 then (some (0, false)) else (if bt x i > 57 then (some (0, false)) else (amanuensisref1_Int.l0 k a x (wrap64 ((wrap64 (10 * y)) + (((bt x i) - 48) % 256))) (i + 1)))) ?_ (fun k => by show amanuensisref1_Int.l0 (k + 1) a x y i = _; rw [amanuensisref1_Int.l0, if_pos h, if_pos h0, wrap64_id (n := i + 1) (by omega) (by omega)])
      exact Tots.ite (fun _ => Tots.const _) (fun _ => Tots.ite (fun _ => Tots.const _) (fun _ => int_loop a x hs n _ (i + 1) (by omega) (by omega) (by omega)))
    · refine Tots.step (g := fun _ => if y > 1073741824 then (some (0, false)) else (if (x.size : Int) < (a.size : Int) then (some (wrap64 (-y), true)) else (some (y, true)))) ?_ (fun k => by show amanuensisref1_Int.l0 (k + 1) a x y i = _; rw [amanuensisref1_Int.l0, if_neg h])
      exact Tots.ite (fun _ => Tots.const _) (fun _ => Tots.ite (fun _ => Tots.const _) (fun _ => Tots.const _))
theorem int_j2 (a x : ByteArray) (hs : (x.size : Int) ≤ 1000000000000) (b : Bool) : Tots (fun k => amanuensisref1_Int.j2 k a x b) := by
  refine Tots.step (g := fun k => if b = true then (some (0, false)) else amanuensisref1_Int.l0 k a x 0 0) ?_ (fun k => by show amanuensisref1_Int.j2 (k + 1) a x b = _; rw [amanuensisref1_Int.j2])
  exact Tots.ite (fun _ => Tots.const _) (fun _ => int_loop a x hs x.size 0 0 (by omega) (by omega) (by omega))
theorem int_j1 (a x : ByteArray) (hs : (x.size : Int) ≤ 1000000000000) : Tots (fun k => amanuensisref1_Int.j1 k a x) := by
  by_cases h0 : (x.size : Int) = 0
  · exact Tots.step (int_j2 a x hs true) (fun k => by show amanuensisref1_Int.j1 (k + 1) a x = _; rw [amanuensisref1_Int.j1, if_pos h0])
  · by_cases h1 : (x.size : Int) > 10
    · exact Tots.step (int_j2 a x hs true) (fun k => by show amanuensisref1_Int.j1 (k + 1) a x = _; rw [amanuensisref1_Int.j1, if_neg h0, if_pos h1])
    · by_cases h2 : bt x 0 = 48
      · exact Tots.step (int_j2 a x hs _) (fun k => by show amanuensisref1_Int.j1 (k + 1) a x = _; rw [amanuensisref1_Int.j1, if_neg h0, if_neg h1, if_pos (by omega), if_pos h2])
      · exact Tots.step (int_j2 a x hs false) (fun k => by show amanuensisref1_Int.j1 (k + 1) a x = _; rw [amanuensisref1_Int.j1, if_neg h0, if_neg h1, if_pos (by omega), if_neg h2])
theorem int_tot (a : ByteArray) (hs : (a.size : Int) ≤ 1000000000000) : Tots (fun k => amanuensisref1_Int.f k a) := by
  by_cases h0 : (a.size : Int) > 0
  · cases hb : (bt a 0 == 45) with
    | true =>
      have h1 : Tots (fun k => amanuensisref1_Int.j0 k a a true) := Tots.step (int_j1 a (a.extract 1 a.size) (by rw [extract_size]; omega)) (fun k => by show amanuensisref1_Int.j0 (k + 1) a a true = _; rw [amanuensisref1_Int.j0, if_pos rfl, if_pos (by omega)])
      obtain ⟨r, K, hK⟩ := h1
      exact ⟨r, K, fun k hk => by show amanuensisref1_Int.f k a = _; rw [amanuensisref1_Int.f, if_pos h0, if_pos h0, hb]; exact hK k hk⟩
    | false =>
      have h1 : Tots (fun k => amanuensisref1_Int.j0 k a a false) := Tots.step (int_j1 a a hs) (fun k => by show amanuensisref1_Int.j0 (k + 1) a a false = _; rw [amanuensisref1_Int.j0, if_neg (by decide)])
      obtain ⟨r, K, hK⟩ := h1
      exact ⟨r, K, fun k hk => by show amanuensisref1_Int.f k a = _; rw [amanuensisref1_Int.f, if_pos h0, if_pos h0, hb]; exact hK k hk⟩
  · have h1 : Tots (fun k => amanuensisref1_Int.j0 k a a false) := Tots.step (int_j1 a a hs) (fun k => by show amanuensisref1_Int.j0 (k + 1) a a false = _; rw [amanuensisref1_Int.j0, if_neg (by decide)])
    obtain ⟨r, K, hK⟩ := h1
    exact ⟨r, K, fun k hk => by show amanuensisref1_Int.f k a = _; rw [amanuensisref1_Int.f, if_neg h0]; exact hK k hk⟩
theorem text_loop (x : ByteArray) (hs : (x.size : Int) ≤ 1000000000000) : ∀ (n : Nat) (d : List Int) (i : Int), 0 ≤ i → (d.length : Int) ≤ i → i ≤ x.size + 1 → (x.size : Int) + 1 - i ≤ n → Tots (fun k => amanuensisref2_text.l0 k x d i)
  | 0, d, i, h0, hd, h1, h2 => Tots.step (Tots.const (0, (⟨#[]⟩ : ByteArray))) (fun k => by show amanuensisref2_text.l0 (k + 1) x d i = _; rw [amanuensisref2_text.l0, if_neg (by omega)])
  | n + 1, d, i, h0, hd, h1, h2 => by
    have hone : ∀ (c : Int), (d ++ [c]).length = d.length + 1 := fun c => by simp
    by_cases h : i < x.size
    · have hj : ∀ b : Bool, (b = false → i + 1 < x.size) → Tots (fun k => amanuensisref2_text.j1 k x d (i + 1) b) := fun b hb => by
        cases b with
        | true => exact Tots.step (Tots.const (0, (⟨#[]⟩ : ByteArray))) (fun k => by show amanuensisref2_text.j1 (k + 1) x d (i + 1) true = _; rw [amanuensisref2_text.j1, if_pos rfl])
        | false =>
          have hb' := hb rfl
          refine Tots.step (g := fun k => if (bt x (i + 1)) < 32 then (some (0, (⟨#[]⟩ : ByteArray))) else (if (bt x (i + 1)) > 126 then (some (0, (⟨#[]⟩ : ByteArray))) else amanuensisref2_text.l0 k x (d ++ [bt x (i + 1)]) (i + 1 + 1))) ?_ (fun k => by show amanuensisref2_text.j1 (k + 1) x d (i + 1) false = _; rw [amanuensisref2_text.j1, if_neg (by decide), if_pos (by omega), if_pos hb', if_pos (show d.length < 140737488355328 by omega), wrap64_id (n := i + 1 + 1) (by omega) (by omega)])
          exact Tots.ite (fun _ => Tots.const _) (fun _ => Tots.ite (fun _ => Tots.const _) (fun _ => text_loop x hs n _ _ (by omega) (by rw [hone]; omega) (by omega) (by omega)))
      refine Tots.step (g := fun k => if (bt x i) = 34 then (if (d.length : Int) > 40 then (some (0, (⟨#[]⟩ : ByteArray))) else (some (i + 1, strOfNums d))) else (if (bt x i) = 92 then (if i + 1 ≥ (x.size : Int) then (amanuensisref2_text.j1 k x d (i + 1) true) else (if 0 ≤ i + 1 then (if i + 1 < (x.size : Int) then (if (bt x (i + 1)) = 34 then (amanuensisref2_text.j1 k x d (i + 1) false) else (amanuensisref2_text.j1 k x d (i + 1) ((bt x (i + 1)) != 92))) else (none)) else (none))) else (if (bt x i) < 32 then (some (0, (⟨#[]⟩ : ByteArray))) else (if (bt x i) > 126 then (some (0, (⟨#[]⟩ : ByteArray))) else amanuensisref2_text.l0 k x (d ++ [bt x i]) (i + 1))))) ?_ (fun k => by show amanuensisref2_text.l0 (k + 1) x d i = _; rw [amanuensisref2_text.l0, if_pos h, if_pos h0, wrap64_id (n := i + 1) (by omega) (by omega), if_pos (show d.length < 140737488355328 by omega)])
      refine Tots.ite (fun _ => Tots.ite (fun _ => Tots.const _) (fun _ => Tots.const _)) (fun _ => Tots.ite (fun _ => Tots.ite (fun _ => hj true (by simp)) (fun h9 => ?_)) (fun _ => Tots.ite (fun _ => Tots.const _) (fun _ => Tots.ite (fun _ => Tots.const _) (fun _ => text_loop x hs n _ _ (by omega) (by rw [hone]; omega) (by omega) (by omega)))))
      exact Tots.ite (fun _ => Tots.ite (fun h8 => Tots.ite (fun _ => hj false (fun _ => h8)) (fun _ => hj _ (fun _ => h8))) (fun h8 => absurd (by omega) h8)) (fun h8 => absurd (by omega) h8)
    · exact Tots.step (Tots.const (0, (⟨#[]⟩ : ByteArray))) (fun k => by show amanuensisref2_text.l0 (k + 1) x d i = _; rw [amanuensisref2_text.l0, if_neg h])
theorem text_tot (x : ByteArray) (hs : (x.size : Int) ≤ 1000000000000) (h1 : 0 < x.size) : Tots (fun k => amanuensisref2_text.f k x) := text_loop x hs (x.size + 1) [] 1 (by omega) (by simp) (by omega) (by omega)
theorem letter_ref (c : Int) : amanuensisref2_letter.f c = some (isLetter c) := by
  unfold amanuensisref2_letter.f isLetter
  by_cases h1 : 97 ≤ c <;> by_cases h2 : c ≤ 122 <;> by_cases h3 : 65 ≤ c <;> by_cases h4 : c ≤ 90 <;> simp [h1, h2, h3, h4] <;> omega
theorem digit_ref (c : Int) : amanuensisref2_digit.f c = some (isDigit c) := by
  unfold amanuensisref2_digit.f isDigit
  by_cases h1 : 48 ≤ c <;> simp [h1]
theorem signs_loop (c : Int) (ys : List Int) (hl : ys.length ≤ 1000) : ∀ (n : Nat) (i : Int), 0 ≤ i → i ≤ ys.length → (ys.length : Int) - i ≤ n → Tots (fun k => amanuensisref2_one.l2 k c ys (ys.length : Int) i)
  | 0, i, h0, h1, h2 => Tots.step (Tots.const 0) (fun k => by show amanuensisref2_one.l2 (k + 1) c ys _ i = _; rw [amanuensisref2_one.l2, if_neg (by omega)])
  | n + 1, i, h0, h1, h2 => by
    by_cases h : i < ys.length
    · refine Tots.step (g := fun k => if (rd ys i) = c then (some 1) else amanuensisref2_one.l2 k c ys (ys.length : Int) (i + 1)) (Tots.ite (fun _ => Tots.const _) (fun _ => signs_loop c ys hl n (i + 1) (by omega) (by omega) (by omega))) (fun k => by show amanuensisref2_one.l2 (k + 1) c ys _ i = _; rw [amanuensisref2_one.l2, if_pos h, if_pos h0, if_pos h, wrap64_id (n := i + 1) (by omega) (by omega)])
    · exact Tots.step (Tots.const 0) (fun k => by show amanuensisref2_one.l2 (k + 1) c ys _ i = _; rw [amanuensisref2_one.l2, if_neg h])
theorem j3_tot (c : Int) : Tots (fun k => amanuensisref2_one.j3 k c) :=
  Tots.step (signs_loop c [33, 36, 40, 41, 58, 61, 64, 91, 93, 123, 125] (by decide) 11 0 (by omega) (by decide) (by decide)) (fun k => by show amanuensisref2_one.j3 (k + 1) c = _; rw [amanuensisref2_one.j3]; rfl)
theorem digits_loop (x : ByteArray) (hs : (x.size : Int) ≤ 1000000000000) : ∀ (n : Nat) (i : Int), 0 ≤ i → i ≤ x.size → (x.size : Int) - i ≤ n → Tots (fun k => amanuensisref2_one.l1 k x i)
  | 0, i, h0, h1, h2 => by
    refine Tots.step (g := fun k => (amanuensisref1_Int.f k (x.extract 0 (i : Int).toNat)).bind fun bt124 => (if bt124.2 = true then (some i) else (some 0))) (Tots.bind (int_tot _ (by rw [ByteArray.size_extract]; omega)) (fun _ => Tots.ite (fun _ => Tots.const _) (fun _ => Tots.const _))) (fun k => by show amanuensisref2_one.l1 (k + 1) x i = _; rw [amanuensisref2_one.l1, if_neg (show ¬ i < (x.size : Int) by omega), if_pos h0, if_pos h1])
  | n + 1, i, h0, h1, h2 => by
    by_cases h : i < x.size
    · refine Tots.step (g := fun k => if isDigit (bt x i) = true then amanuensisref2_one.l1 k x (i + 1) else ((amanuensisref1_Int.f k (x.extract 0 (i : Int).toNat)).bind fun bt122 => (if bt122.2 = true then (some i) else (some 0)))) ?_ (fun k => by show amanuensisref2_one.l1 (k + 1) x i = _; rw [amanuensisref2_one.l1, if_pos h, if_pos h0, digit_ref, wrap64_id (n := i + 1) (by omega) (by omega), if_pos h1]; rfl)
      exact Tots.ite (fun _ => digits_loop x hs n (i + 1) (by omega) (by omega) (by omega)) (fun _ => Tots.bind (int_tot _ (by rw [ByteArray.size_extract]; omega)) (fun _ => Tots.ite (fun _ => Tots.const _) (fun _ => Tots.const _)))
    · refine Tots.step (g := fun k => (amanuensisref1_Int.f k (x.extract 0 (i : Int).toNat)).bind fun bt124 => (if bt124.2 = true then (some i) else (some 0))) (Tots.bind (int_tot _ (by rw [ByteArray.size_extract]; omega)) (fun _ => Tots.ite (fun _ => Tots.const _) (fun _ => Tots.const _))) (fun k => by show amanuensisref2_one.l1 (k + 1) x i = _; rw [amanuensisref2_one.l1, if_neg h, if_pos h0, if_pos h1])
theorem j1_tot (x : ByteArray) (hs : (x.size : Int) ≤ 1000000000000) (h1 : 0 < x.size) (c : Int) (b : Bool) : Tots (fun k => amanuensisref2_one.j1 k x c b) := by
  refine Tots.step (g := fun k => if b = true then (amanuensisref2_one.l1 k x 1) else (if c = 34 then ((amanuensisref2_text.f k x).bind fun bt126 => (some bt126.1)) else (if (x.size : Int) > 2 then (if 0 ≤ 3 then (if 3 ≤ (x.size : Int) then (if (x.extract 0 3).toList = ([46, 46, 46] : List UInt8) then (some 3) else (amanuensisref2_one.j3 k c)) else (none)) else (none)) else (amanuensisref2_one.j3 k c)))) ?_ (fun k => by show amanuensisref2_one.j1 (k + 1) x c b = _; rw [amanuensisref2_one.j1])
  refine Tots.ite (fun _ => digits_loop x hs x.size 1 (by omega) (by omega) (by omega)) (fun _ => Tots.ite (fun _ => Tots.bind (text_tot x hs h1) (fun _ => Tots.const _)) (fun _ => Tots.ite (fun h3 => Tots.ite (fun _ => Tots.ite (fun _ => Tots.ite (fun _ => Tots.const _) (fun _ => j3_tot c)) (fun h4 => absurd (by omega) h4)) (fun h4 => absurd (by decide) h4)) (fun _ => j3_tot c)))
theorem wordy_loop (x : ByteArray) (hs : (x.size : Int) ≤ 1000000000000) : ∀ (n i : Nat), i ≤ x.size → x.size - i ≤ n → (∀ j, j < i → isWordy ((bytesOf x).getD j 0) = true) → ∀ k, n + 1 ≤ k → amanuensisref2_one.l0 k x i = some ((named (bytesOf x) : Nat) : Int)
  | n, i, h0, h1, hp, k, hk => by
    have hlen : (bytesOf x).length = x.size := by unfold bytesOf; rw [List.length_map]; rfl
    obtain ⟨k, rfl⟩ : ∃ m, k = m + 1 := ⟨k - 1, by omega⟩
    have hstop : (i = x.size ∨ isWordy ((bytesOf x).getD i 0) = false) → (if (i : Int) > 12 then (some (0 : Int)) else (some (i : Int))) = some ((named (bytesOf x) : Nat) : Int) := fun hst => by
      have hc := cnt_end isWordy (bytesOf x) i (by omega) hp (by rw [hlen]; exact hst)
      unfold named
      rw [hc]
      by_cases h12 : 12 < i
      · rw [if_pos (by omega), if_pos h12]; rfl
      · rw [if_neg (by omega), if_neg h12]
    by_cases h : i < x.size
    · have hb : bt x i = (bytesOf x).getD i 0 := by rw [bt_bytes, Int.toNat_natCast]
      obtain ⟨n, rfl⟩ : ∃ m, n = m + 1 := ⟨n - 1, by omega⟩
      have hgo : isWordy ((bytesOf x).getD i 0) = true → amanuensisref2_one.l0 k x ((i : Int) + 1) = some ((named (bytesOf x) : Nat) : Int) := fun hw => by
        have := wordy_loop x hs n (i + 1) (by omega) (by omega) (fun j hj => by
          by_cases e : j = i
          · rw [e]; exact hw
          · exact hp j (by omega)) k (by omega)
        simpa using this
      rw [amanuensisref2_one.l0, if_pos (by omega), if_pos (by omega), letter_ref, digit_ref, wrap64_id (n := (i : Int) + 1) (by omega) (by omega), hb]
      simp only [Option.bind_some]
      cases hl : isLetter ((bytesOf x).getD i 0) with
      | true => rw [if_pos rfl]; exact hgo (by unfold isWordy; rw [hl]; rfl)
      | false =>
        rw [if_neg (by decide)]
        cases hd : isDigit ((bytesOf x).getD i 0) with
        | true => rw [if_pos rfl]; exact hgo (by unfold isWordy; rw [hl, hd]; rfl)
        | false => rw [if_neg (by decide)]; exact hstop (.inr (by unfold isWordy; rw [hl, hd]; rfl))
    · rw [amanuensisref2_one.l0, if_neg (by omega)]
      exact hstop (.inl (by omega))
theorem name_ref (s : ByteArray) (hs : s.size ≤ 1000000000000) : ∃ k, amanuensisref2_Name.f k s = some (isName s) := by
  by_cases h1 : 0 < s.size
  · cases hl : isLetter (bt s 0) with
    | true =>
      refine ⟨s.size + 1, ?_⟩
      have hw := wordy_loop s (by omega) s.size 0 (by omega) (by omega) (fun j hj => by omega) (s.size + 1) (Nat.le_refl _)
      have ho : amanuensisref2_one.f (s.size + 1) s = some ((named (bytesOf s) : Nat) : Int) := by
        rw [amanuensisref2_one.f, if_pos (by omega), letter_ref, hl]
        exact hw
      unfold amanuensisref2_Name.f amanuensisref2_Word.f isName
      rw [if_pos (show (s.size : Int) > 0 by omega), ho, letter_ref, hl, decide_eq_true h1]
      simp only [Option.bind_some]
      by_cases hn : named (bytesOf s) = s.size
      · have e1 : ((s.size : Int) == (s.size : Int)) = true := by simp
        rw [hn, e1, if_pos rfl, if_pos (by omega)]
        simp
      · have e1 : (((named (bytesOf s) : Nat) : Int) == (s.size : Int)) = false := by rw [beq_eq_false_iff_ne]; omega
        have e2 : (named (bytesOf s) == s.size) = false := by rw [beq_eq_false_iff_ne]; exact hn
        rw [e1, e2, if_neg (by decide)]
        rfl
    | false =>
      have ho : Tots (fun k => amanuensisref2_one.f k s) := by
        cases hm : (bt s 0 == 45) with
        | true =>
          have hm' : bt s 0 = 45 := by simpa using hm
          obtain ⟨r, K, hK⟩ := j1_tot s (by omega) h1 (bt s 0) true
          exact ⟨r, K, fun k hk => by show amanuensisref2_one.f k s = _; rw [amanuensisref2_one.f, if_pos (by omega), letter_ref, hl]; show (if bt s 0 = 45 then _ else _) = _; rw [if_pos hm']; exact hK k hk⟩
        | false =>
          have hm' : ¬ bt s 0 = 45 := by simpa using hm
          obtain ⟨r, K, hK⟩ := j1_tot s (by omega) h1 (bt s 0) (isDigit (bt s 0))
          exact ⟨r, K, fun k hk => by show amanuensisref2_one.f k s = _; rw [amanuensisref2_one.f, if_pos (by omega), letter_ref, hl]; show (if bt s 0 = 45 then _ else _) = _; rw [if_neg hm', digit_ref]; exact hK k hk⟩
      obtain ⟨n, K, hK⟩ := ho
      have hK' : amanuensisref2_one.f K s = some n := hK K (Nat.le_refl _)
      refine ⟨K, ?_⟩
      unfold amanuensisref2_Name.f amanuensisref2_Word.f isName
      rw [if_pos (show (s.size : Int) > 0 by omega), hK', letter_ref, hl, decide_eq_true h1]
      simp only [Option.bind_some]
      by_cases hn : (n == (s.size : Int)) = true
      · rw [if_pos hn, if_pos (by omega)]; rfl
      · rw [if_neg hn]; rfl
  · refine ⟨0, ?_⟩
    unfold amanuensisref2_Name.f amanuensisref2_Word.f isName
    rw [if_neg (show ¬ (s.size : Int) > 0 by omega), decide_eq_false h1]
    rfl
theorem find_loop (l : List S54) (s : ByteArray) (hl : l.length ≤ 1000000000) : ∀ (n j : Nat), j ≤ l.length → l.length - j ≤ n → amanuensisref4_Find.l0 (n + 1) l s (j : Int) = some (first s (l.drop j) j)
  | 0, j, h0, h1 => by
    rw [amanuensisref4_Find.l0, if_neg (by omega), List.drop_eq_nil_of_le (by omega)]
    rfl
  | n + 1, j, h0, h1 => by
    rw [amanuensisref4_Find.l0]
    by_cases h : j < l.length
    · rw [if_pos (by omega), if_pos (by omega), first_at s l j h, wrap64_id (n := (j : Int) + 1) (by omega) (by omega)]
      by_cases hn : (rd_T54 l j).f0.toList = s.toList
      · rw [if_pos hn, if_pos (by unfold named54; rw [hn]; simp)]
      · rw [if_neg hn, if_neg (by unfold named54; simpa using hn)]
        have := find_loop l s hl n (j + 1) (by omega) (by omega)
        simpa using this
    · rw [if_neg (by omega), List.drop_eq_nil_of_le (by omega)]
      rfl
theorem finds_as : FindsAs := fun A c l s w hc hl hC => by
  have h := find_loop l s (by omega) l.length 0 (by omega) (by omega)
  refine (amanuensisref4_Find.calls (l.length + 1) A c l s (idx s l) w hC hc h).mono ?_
  rintro e w' ⟨rfl, hd⟩
  exact ⟨rfl, below_drawn hd⟩
theorem ba_iff (a b : ByteArray) : a.toList = b.toList ↔ a = b := ⟨fun h => ba_ext (by rw [← toL_eq, ← toL_eq]; exact h), fun h => by rw [h]⟩
def memDec (a : ByteArray) : (l : List ByteArray) → Decidable (a ∈ l)
  | [] => .isFalse (by simp)
  | x :: l => if h : a = x then .isTrue (by simp [h]) else match memDec a l with
    | .isTrue h2 => .isTrue (by simp [h2])
    | .isFalse h2 => .isFalse (by simp [h, h2])
instance (a : ByteArray) (l : List ByteArray) : Decidable (a ∈ l) := memDec a l
theorem pair_exact (n : Int) (a b : ByteArray) (h : isServ n = true) : sdl_Pair.f 10 n a b = some (decide (a ∈ opsOf n) && (decide (b ∈ opsOf n) && !decide (a = b))) := by
  have hl := ops_len n
  obtain ⟨r1, h1, -, h2, h3⟩ := index_more 10 (opsOf n) a (by omega) (by omega)
  obtain ⟨r2, h4, -, h5, h6⟩ := index_more 10 (opsOf n) b (by omega) (by omega)
  have hne : (a.toList != b.toList) = !decide (a = b) := by
    by_cases e : a = b
    · rw [e]; simp
    · rw [decide_eq_false e]
      have : a.toList ≠ b.toList := fun h_ => e ((ba_iff a b).mp h_)
      simpa using this
  unfold sdl_Pair.f slices_Contains_string_string.f
  rw [ops_some n h, hne]
  simp only [Option.bind_some, h1, h4]
  by_cases c1 : r1 ≥ 0
  · rw [if_pos (decide_eq_true c1), decide_eq_true (h2 c1)]
    by_cases c2 : r2 ≥ 0
    · rw [if_pos (decide_eq_true c2), decide_eq_true (h5 c2)]; rfl
    · rw [if_neg (by rw [decide_eq_false c2]; decide), decide_eq_false (h6 (by omega))]; rfl
  · rw [if_neg (by rw [decide_eq_false c1]; decide), decide_eq_false (h3 (by omega))]; rfl
theorem two_ops (x y a b : ByteArray) (hxy : x ≠ y) : (if a = x then (if b = y then (some true) else (if a = y then (some (decide (b = x))) else (some false))) else (if a = y then (some (decide (b = x))) else (some false))) = some (decide (a ∈ [x, y]) && (decide (b ∈ [x, y]) && !decide (a = b))) := by
  by_cases h1 : a = x
  · subst h1
    by_cases h2 : b = y
    · subst h2; simp [hxy]
    · rw [if_pos rfl, if_neg h2, if_neg hxy]
      by_cases h3 : a = b
      · simp [h3]
      · have h4 : ¬ b = a := fun e => h3 e.symm
        simp [h2, h4]
  · rw [if_neg h1]
    by_cases h2 : a = y
    · subst h2
      rw [if_pos rfl]
      by_cases h3 : b = x
      · have h4 : ¬ a = b := fun e => h1 (e.trans h3)
        simp [h3, h1]
      · by_cases h4 : b = a
        · simp [h3, h4]; exact fun e => h3 (h4.trans e)
        · simp [h3, h4]
    · rw [if_neg h2]; simp [h1, h2]
theorem pair_ref (n : Int) (a b : ByteArray) : amanuensisref4_Pair.f n a b = some (isServ n && (sdl_Pair.f 10 n a b).getD false) := by
  cases hs : isServ n with
  | true =>
    rw [pair_exact n a b hs, Bool.true_and, Option.getD_some]
    have ho : ∃ x y, amanuensisref4_Ops.f n = some [x, y] ∧ opsOf n = [x, y] ∧ x ≠ y := by
      unfold isServ at hs
      simp only [Bool.and_eq_true, decide_eq_true_eq] at hs
      have h1 : n = 1 ∨ n = 2 ∨ n = 3 ∨ n = 4 := by omega
      rcases h1 with rfl | rfl | rfl | rfl
      all_goals exact ⟨_, _, rfl, rfl, by decide⟩
    obtain ⟨x, y, h1, h2, h3⟩ := ho
    rw [h2, ← two_ops x y a b h3]
    unfold amanuensisref4_Pair.f
    rw [h1]
    simp only [Option.bind_some, ba_iff]
    have e0 : rdOf ByteArray.empty [x, y] 0 = x := rfl
    have e1 : rdOf ByteArray.empty [x, y] 1 = y := rfl
    have e2 : ∀ u v : ByteArray, (u.toList == v.toList) = decide (u = v) := fun u v => by
      by_cases e : u = v
      · rw [e]; simp
      · rw [decide_eq_false e, beq_eq_false_iff_ne]
        exact fun h_ => e ((ba_iff u v).mp h_)
    have l2 : (([x, y] : List ByteArray).length : Int) = 2 := rfl
    have p0 : ((0 : Int) < 2) = True := eq_true (by decide)
    have p1 : ((1 : Int) < 2) = True := eq_true (by decide)
    rw [e0, e1, e2]
    simp only [l2, p0, p1, if_true]
  | false =>
    unfold isServ at hs
    have h1 : ¬ n = 1 := fun e => by rw [e] at hs; exact absurd hs (by decide)
    have h2 : ¬ n = 2 := fun e => by rw [e] at hs; exact absurd hs (by decide)
    have h3 : ¬ n = 3 := fun e => by rw [e] at hs; exact absurd hs (by decide)
    have h4 : ¬ n = 4 := fun e => by rw [e] at hs; exact absurd hs (by decide)
    unfold amanuensisref4_Pair.f amanuensisref4_Ops.f
    rw [if_neg h1, if_neg h2, if_neg h3, if_neg h4]
    rfl
theorem fill_list (x : S54) : ∀ (n j : Nat) (s : ByteArray), (fillS x n j s).data.toList = s.data.toList ++ tl ((List.range' j n).map (fillAt x))
  | 0, j, s => by simp [fillS, tl]
  | n + 1, j, s => by
    unfold fillS
    rw [fill_list x n (j + 1), List.range'_succ, List.map_cons, tl_cons]
    simp
theorem fill_words (x : S54) : (List.range' 0 25).map (fillAt x) = W1 ++ (svcName x.f1 :: (W2 ++ (x.f2 :: (W3 ++ (x.f3 :: W4))))) := by rfl
theorem rp_list : ∀ (l : List S54) (s : ByteArray), (rp l s).data.toList = s.data.toList ++ tl (wordsL l [])
  | [], s => by simp [rp, wordsL, tl]
  | x :: l, s => by
    unfold rp wordsL wF
    rw [rp_list l, fill_list, fill_words, tl_cons, tl_append W1, tl_cons (svcName x.f1), tl_append W2, tl_cons x.f2, tl_append W3, tl_cons x.f3]
    rw [tl_append W1, tl_cons (svcName x.f1), tl_append W2, tl_cons x.f2, tl_append W3, tl_cons x.f3, tl_append W4]
    simp
theorem rprint_same (l : List S54) : rprint l = printed l := by
  refine ba_ext ?_
  rw [printed_list, tl_append, ← all_words l W5]
  have h0 := all_words l []
  have e0 : T0.data.toList = w00.data.toList ++ tl w01 := by decide +kernel
  have e5 : (⟨#[32, 125]⟩ : ByteArray).data.toList = tl W5 := by decide +kernel
  have e6 : (rprint l).data.toList = (rp l T0).data.toList ++ (⟨#[32, 125]⟩ : ByteArray).data.toList := by unfold rprint; simp
  rw [e6, rp_list, ← h0, e0, e5]
  simp [tl]
theorem serv_yes (n : Int) (h : isServ n = true) : amanuensisref4_Service.f 10 (svcName n) = some n := by
  unfold isServ at h
  simp only [Bool.and_eq_true, decide_eq_true_eq] at h
  have h1 : n = 1 ∨ n = 2 ∨ n = 3 ∨ n = 4 := by omega
  rcases h1 with rfl | rfl | rfl | rfl
  all_goals
    simp only [amanuensisref4_Service.f, amanuensisref4_Services.f, Option.bind_some, amanuensisref4_Service.l0, toL_eq]
    decide +kernel
theorem serv_no (a : ByteArray) (h : ∀ j : Nat, 1 ≤ j → j < 5 → svcs.getD j ⟨#[]⟩ ≠ a) : amanuensisref4_Service.f 10 a = some 0 := by
  have hstep : ∀ (k j : Nat), 1 ≤ j → j < 5 → amanuensisref4_Service.l0 (k + 1) a svcs j = amanuensisref4_Service.l0 k a svcs ((j + 1 : Nat) : Int) := fun k j h1 h5 => by
    rw [amanuensisref4_Service.l0, if_pos (by show (j : Int) < 5; omega), if_pos (by omega), if_neg, wrap64_id (n := (j : Int) + 1) (by omega) (by omega)]
    · rfl
    · intro e
      apply h j h1 h5
      have e2 := (ba_iff _ _).mp e
      unfold rdOf at e2
      rw [Int.toNat_natCast] at e2
      exact e2
  show (some svcs).bind (fun t256 => amanuensisref4_Service.l0 10 a t256 1) = _
  rw [Option.bind_some]
  have s1 := hstep 9 1 (by omega) (by omega)
  have s2 := hstep 8 2 (by omega) (by omega)
  have s3 := hstep 7 3 (by omega) (by omega)
  have s4 := hstep 6 4 (by omega) (by omega)
  have s5 : amanuensisref4_Service.l0 6 a svcs ((4 + 1 : Nat) : Int) = some 0 := by rw [amanuensisref4_Service.l0, if_neg (by show ¬ (5 : Int) < 5; decide)]
  exact (s1.trans s2).trans ((s3.trans s4).trans s5)
theorem serv_low (a : ByteArray) (h : ∀ j : Nat, 1 ≤ j → j < 5 → svcs.getD j ⟨#[]⟩ ≠ a) : sdl_Service.f 10 a = some (0, 3) := by
  have hstep : ∀ (k j : Nat), 1 ≤ j → j < 5 → slices_Index_string_string.l0 (k + 1) svcs a 5 j = slices_Index_string_string.l0 k svcs a 5 ((j + 1 : Nat) : Int) := fun k j h1 h5 => by
    rw [slices_Index_string_string.l0, if_pos (by omega), if_pos (by omega), if_pos (by show (j : Int) < 5; omega), if_neg, wrap64_id (n := (j : Int) + 1) (by omega) (by omega)]
    · rfl
    · intro e
      apply h j h1 h5
      have e2 := (ba_iff _ _).mp e
      unfold rdOf at e2
      rw [Int.toNat_natCast] at e2
      exact e2.symm
  have hrest : slices_Index_string_string.l0 9 svcs a 5 1 = some (-1) := by
    have s1 := hstep 8 1 (by omega) (by omega)
    have s2 := hstep 7 2 (by omega) (by omega)
    have s3 := hstep 6 3 (by omega) (by omega)
    have s4 := hstep 5 4 (by omega) (by omega)
    have s5 : slices_Index_string_string.l0 5 svcs a 5 ((4 + 1 : Nat) : Int) = some (-1) := by rw [slices_Index_string_string.l0, if_neg (by decide)]
    exact (s1.trans s2).trans ((s3.trans s4).trans s5)
  have hf : ∃ r : Int, slices_Index_string_string.f 10 svcs a = some r ∧ ¬ r > 0 := by
    show ∃ r : Int, slices_Index_string_string.l0 10 svcs a 5 0 = some r ∧ ¬ r > 0
    rw [slices_Index_string_string.l0, if_pos (by decide), if_pos (by decide), if_pos (by decide)]
    by_cases e : a.toList = (rdOf ByteArray.empty svcs 0).toList
    · rw [if_pos e]; exact ⟨0, rfl, by decide⟩
    · rw [if_neg e, wrap64_id (n := (0 : Int) + 1) (by decide) (by decide)]
      exact ⟨-1, hrest, by decide⟩
  obtain ⟨r, h1, h2⟩ := hf
  unfold sdl_Service.f
  rw [services]
  simp only [Option.bind_some, h1]
  rw [if_neg h2]
/-- Whatever the fields: what the callees tell of them. -/
theorem goodP (l : List S54) (hl : l.length ≤ 1000000) (hsm : ∀ j, (rd_T54 l j).f0.size ≤ 1000000000000) : GoodP l := by
  have hschema : SchemaAs l (may pbX l) := fun A c w hc hC => by
    refine Schema_calls pbX A c l w hl hc hC (fun j hj w2 => ?_) finds_as (fun x w2 => ?_)
    · obtain ⟨k, hk⟩ := name_ref (rd_T54 l j).f0 (hsm j)
      exact amanuensisref2_Name.calls k _ _ w2 hk
    · exact amanuensisref4_Pair.calls x.f1 x.f2 x.f3 _ w2 (pair_ref x.f1 x.f2 x.f3)
  have hcheck : ChecksAs l (if may pbX l then 0 else 1) := fun A c w hc hC => Check_calls A c l.length (may pbX l) w (fun w1 hb => may_at l (by omega) hsm A c w hc hC w1 hb)
  have hfind : FindAs l (may pbX l) := fun s A c w hc hC => Find_calls A c l s (may pbX l) w (by omega) hC (fun w1 hb => may_at l (by omega) hsm A c w hc hC w1 hb)
  refine ⟨hl, ?_⟩
  cases hm : may pbX l with
  | false =>
    rw [hm] at hschema hcheck hfind
    refine .inl ⟨hschema, fun A c w hc hC => ?_, hcheck, hfind⟩
    refine Print_bad A c l.length w (fun w1 hb => ?_)
    have h1 := may_at l (by omega) hsm A c w hc hC w1 hb
    rw [hm] at h1
    exact h1
  | true =>
    have hok := may_okay l hm
    rw [hm] at hschema hcheck hfind
    refine .inr ⟨printed l, hschema, fun A c w hc hC => ?_, fun A c w hc hC => ?_, hcheck, hfind⟩
    · refine Print_calls A c l w hok.n8 hC (fun j hj => ?_) (fun w1 hb => ?_) (by have := printed_size hok; omega)
      · rw [rd_at l j hj]
        exact (hok.at_ j hj).2.2.1
      · have h1 := may_at l (by omega) hsm A c w hc hC w1 hb
        rw [hm] at h1
        exact h1
    · rw [← rprint_same l]
      refine RPrint_calls A c l w hok.n8 hC (fun j hj => ?_)
      rw [rd_at l j hj]
      have hf := okay_fine hok l[j] (List.getElem_mem hj)
      exact ⟨name12 hf.h0, name12 hf.h1, name12 hf.h2, name12 hf.h3, (hok.at_ j hj).2.2.1⟩
theorem heavy_allP (a : List ByteArray) (b : List Int) (L : List (List S54)) (ha : a.length ≤ 1000000000000000) (hL : L.length ≤ 1000000000000000) (hl : ∀ i : Int, (rd_L3 L i).length ≤ 1000000000000000) (hs : ∀ i j : Int, (rd_T54 (rd_L3 L i) j).f0.size ≤ 1000000000000000) :
    ∃ k r, amanuensislaw4_Heavy.f k a b L = some r ∧ (r = false → ∀ i : Nat, i < L.length → GoodP (rd_L3 L i)) := by
  obtain ⟨r, K, hK⟩ := outer_tot a b L ha hL hl L.length (L.length : Int) 0 (by omega) (by omega) (by omega)
  refine ⟨K, r, hK K (Nat.le_refl _), fun e i hi => ?_⟩
  have h0 := hK K (Nat.le_refl _)
  rw [e] at h0
  obtain ⟨-, h1⟩ := (heavy_sound a b L hL hl hs K).1 (L.length : Int) 0 (by omega) (by omega) (by omega) (by omega) h0
  obtain ⟨h2, h3⟩ := h1 i (by omega) hi
  refine goodP _ (by omega) (fun j => ?_)
  by_cases hj : j.toNat < (rd_L3 L i).length
  · have h4 := h3 j.toNat hj
    have e2 : rd_T54 (rd_L3 L i) j = rd_T54 (rd_L3 L i) (j.toNat : Int) := by unfold rd_T54; rw [Int.toNat_natCast]
    rw [e2]
    omega
  · unfold rd_T54
    rw [List.getD_eq_getElem?_getD, List.getElem?_eq_none (by omega)]
    exact (by decide : z54.f0.size ≤ 1000000000000)
end Go.Proofs.YtgobpenmemlieaaDoor.Lex
