/- Packed by our own shrink.py: theorems that the claim does not use are left out. -/
import Derived.Test.YtgobpenmemlieaaDoorVW
import Derived.Test.YtgobpenmemlieaaDoorVPSdlBackx2
import Derived.Test.YtgobpenmemlieaaDoorVShelf
import Derived.Lib.Hide
/-
  Walks of lex.blank, lex.run (at the function values that the program hands it) and lex.pass.
-/
namespace Go.Proofs.YtgobpenmemlieaaDoor.Lex
open Go.RowKit Go.Proofs.YtgobpenmemlieaaDoorW.PrintWords Go.Proofs.YtgobpenmemlieaaDoorW.PrintLast Go.Proofs.YtgobpenmemlieaaDoorW.PrintMore
set_option linter.unusedVariables false
set_option linter.unusedSimpArgs false
/-- How many at the begin are so. -/
def cnt (f : Int → Bool) (l : List Int) : Nat := (l.takeWhile f).length
theorem cnt_le (f : Int → Bool) (l : List Int) : cnt f l ≤ l.length := by
  unfold cnt
  exact (List.takeWhile_sublist f).length_le
theorem cnt_end (f : Int → Bool) : ∀ (l : List Int) (i : Nat), i ≤ l.length → (∀ j, j < i → f (l.getD j 0) = true) → (i = l.length ∨ f (l.getD i 0) = false) → cnt f l = i
  | [], i, h, _, _ => by simp at h; subst h; rfl
  | a :: l, 0, _, _, h => by
    rcases h with h | h
    · simp at h
    · have h' : f a = false := by simpa using h
      unfold cnt
      rw [List.takeWhile_cons_of_neg (by rw [h']; decide)]
      rfl
  | a :: l, i + 1, h, hp, he => by
    have ha : f a = true := by simpa using hp 0 (by omega)
    have := cnt_end f l i (by simpa using h) (fun j hj => by simpa using hp (j + 1) (by omega)) (by simpa using he)
    unfold cnt at this ⊢
    rw [List.takeWhile_cons_of_pos ha, List.length_cons, this]
def isBlank (c : Int) : Bool := c == 32 || c == 9 || c == 44 || c == 10 || c == 13
def isLetter (c : Int) : Bool := (decide (97 ≤ c) && decide (c ≤ 122)) || (decide (65 ≤ c) && decide (c ≤ 90)) || c == 95
def isDigit (c : Int) : Bool := decide (48 ≤ c) && decide (c ≤ 57)
def isWordy (c : Int) : Bool := isLetter c || isDigit c
def isRemark (c : Int) : Bool := c != 10 && c != 13
theorem letter_eq (c : Int) : PSdlBack.lex_letter.f c = some (isLetter c) := by
  unfold PSdlBack.lex_letter.f isLetter
  by_cases h1 : 97 ≤ c <;> by_cases h2 : c ≤ 122 <;> by_cases h3 : 65 ≤ c <;> by_cases h4 : c ≤ 90 <;> simp [h1, h2, h3, h4] <;> omega
theorem digit_eq (c : Int) : PSdlBack.lex_digit.f c = some (isDigit c) := by
  unfold PSdlBack.lex_digit.f isDigit
  by_cases h1 : 48 ≤ c <;> simp [h1]
theorem indexByte_blank (c : Int) (h0 : 0 ≤ c) (h1 : c < 256) : decide (Lib.indexByte [32, 9, 44, 10, 13] c.toNat.toUInt8 ≥ 0) = isBlank c := by
  obtain ⟨n, rfl⟩ := Int.eq_ofNat_of_zero_le h0
  have h : ∀ m : Fin 256, decide (Lib.indexByte [32, 9, 44, 10, 13] (m.val : Int).toNat.toUInt8 ≥ 0) = isBlank (m.val : Int) := by decide +kernel
  exact h ⟨n, by omega⟩
set_option maxHeartbeats 4000000 in
set_option maxRecDepth 100000 in
theorem blank_calls (c : Int) (w : World) (h0 : 0 ≤ c) (h1 : c < 256) : Calls Tryd.prog 65 #[.int .u8 c] w fun e w' => e = .returned (.bool (isBlank c)) ∧ Drawn0 w w' := by
  have hb := indexByte_blank c h0 h1
  go_enter Tryd.func65, Tryd.ntmps65
  go_wp2_with (go_at_call 72; refine (Tryd.strings_IndexByte _ _ _).mono ?_; rintro e w' ⟨rfl, rfl⟩)
  go_ret
  exact ⟨by rw [← hb]; rfl, Drawn0.refl _⟩
theorem remark_calls (c : Int) (w : World) : Calls Tryd.prog 64 #[.int .u8 c] w fun e w' => e = .returned (.bool (isRemark c)) ∧ Drawn0 w w' := by
  unfold isRemark
  cases h1 : (c != 10) with
  | true =>
    go_enter Tryd.func64, Tryd.ntmps64
    go_wp2
    go_ret
    exact ⟨by simp, Drawn0.refl _⟩
  | false =>
    go_enter Tryd.func64, Tryd.ntmps64
    go_wp2
    go_ret
    exact ⟨by simp, Drawn0.refl _⟩
theorem wordy_calls (c : Int) (w : World) : Calls Tryd.prog 67 #[.int .u8 c] w fun e w' => e = .returned (.bool (isWordy c)) ∧ Drawn0 w w' := by
  unfold isWordy
  have HL := Aside0.mk (letter_eq c)
  have HD := Aside0.mk (digit_eq c)
  generalize isDigit c = bd at HD ⊢
  generalize isLetter c = bl at HL ⊢
  cases bl with
  | true =>
    go_enter Tryd.func67, Tryd.ntmps67
    go_wp2_with (go_at_call 66; (with_reducible refine (PSdlBack.lex_letter.calls c true _ HL.out).mono ?_); rintro e w' ⟨rfl, ⟨nd, rfl⟩⟩)
    go_ret
    exact ⟨by simp, by repeat (first | exact Drawn0.refl _ | apply Drawn0.step)⟩
  | false =>
    go_enter Tryd.func67, Tryd.ntmps67
    go_wp2_with (first | (go_at_call 66; (with_reducible refine (PSdlBack.lex_letter.calls c false _ HL.out).mono ?_); rintro e w' ⟨rfl, ⟨nd, rfl⟩⟩) | (go_at_call 68; (with_reducible refine (PSdlBack.lex_digit.calls c bd _ HD.out).mono ?_); rintro e w' ⟨rfl, ⟨nd2, rfl⟩⟩))
    go_ret
    exact ⟨by simp, by repeat (first | exact Drawn0.refl _ | apply Drawn0.step)⟩
theorem bt_bytes (s : ByteArray) (i : Int) : bt s i = (bytesOf s).getD i.toNat 0 := by
  unfold bt bytesOf
  split
  · rename_i h
    have h' : i.toNat < s.data.toList.length := h
    rw [List.getD_eq_getElem?_getD, List.getElem?_map, List.getElem?_eq_getElem h']
    rfl
  · rename_i h
    have h' : s.data.toList.length ≤ i.toNat := Nat.le_of_not_lt h
    rw [List.getD_eq_getElem?_getD, List.getElem?_map, List.getElem?_eq_none h']
    rfl
/-- isWordy, kept whole in a walk. -/
theorem wordy_at (c : Int) (b : Bool) (hb : isWordy c = b) (h0 : 0 ≤ c) (h1 : c < 256) (w : World) : Calls Tryd.prog 67 #[.int .u8 c] w fun e w' => e = .returned (.bool b) ∧ Drawn0 w w' := by
  subst hb
  exact wordy_calls c w
set_option maxHeartbeats 8000000 in
set_option maxRecDepth 100000 in
theorem run_wordy (s : ByteArray) (w : World) (hs : s.size ≤ 9223372036854775806) : Calls Tryd.prog 63 #[.string s, .func (.func 67) #[] #[]] w fun e w' => e = .returned (.int .i64 (cnt isWordy (bytesOf s))) ∧ Drawn0 w w' := by
  have hlen := Aside0.mk (bytesOf_length s)
  go_enter Tryd.func63, Tryd.ntmps63
  go_wp2
  go_loopg [5] (s.size + 1) (fun kq v5 w' => ∃ x5 : Int, v5 = .int .i64 x5 ∧ 0 ≤ x5 ∧ x5 ≤ s.size ∧ x5 + kq = s.size + 1 ∧ Aside0 (∀ j, j < x5.toNat → isWordy ((bytesOf s).getD j 0) = true) ∧ Drawn0 w w')
  case atStart => exact ⟨0, rfl, by omega, by omega, by omega, ⟨fun j hj => absurd hj (by simp)⟩, by repeat (first | exact Drawn0.refl _ | apply Drawn0.step)⟩
  case round =>
    obtain ⟨x5, rfl, h0, h2, h1, HP, ⟨m, rfl⟩⟩ := hrel
    obtain ⟨k1, rfl⟩ : ∃ k1, gk = k1 + 1 := ⟨gk - 1, by omega⟩
    by_cases hl : x5 < (s.size : Int)
    · have c1 : decide (x5 < (s.size : Int)) = true := decide_eq_true hl
      have hbt := bt_range s x5
      have hg : (bytesOf s).getD x5.toNat 0 = bt s x5 := (bt_bytes s x5).symm
      obtain ⟨b, hb⟩ : ∃ b, isWordy (bt s x5) = b := ⟨_, rfl⟩
      have HBC := Aside0.mk (wordy_at (bt s x5) b hb (by omega) (by omega))
      have HG := Aside0.mk hg
      have HBB := Aside0.mk hb
      clear hbt hg hb
      have hx5 := bt_at s x5
      have p5 := eq_true h0
      have q5 := eq_true hl
      cases b with
      | true =>
        go_wp2_with (go_at_call 67; (with_reducible refine (HBC.out _).mono ?_); rintro e w' ⟨rfl, ⟨nd, rfl⟩⟩)
        go_roundg k1
        case measure => omega
        case rel => exact ⟨x5 + 1, rfl, by omega, by omega, by omega, ⟨fun j hj => by
          by_cases hj5 : j = x5.toNat
          · rw [hj5, HG.out]; exact HBB.out
          · exact HP.out j (by omega)⟩, by repeat (first | exact Drawn0.refl _ | apply Drawn0.step)⟩
      | false =>
        go_wp2_with (go_at_call 67; (with_reducible refine (HBC.out _).mono ?_); rintro e w' ⟨rfl, ⟨nd, rfl⟩⟩)
        go_ret
        have hc := cnt_end isWordy (bytesOf s) x5.toNat (by rw [hlen.out]; omega) HP.out (.inr (by rw [HG.out]; exact HBB.out))
        exact ⟨by rw [hc, Int.toNat_of_nonneg h0]; rfl, by repeat (first | exact Drawn0.refl _ | apply Drawn0.step)⟩
    · have c1 : decide (x5 < (s.size : Int)) = false := decide_eq_false hl
      go_wp2
      go_ret
      have hc := cnt_end isWordy (bytesOf s) x5.toNat (by rw [hlen.out]; omega) HP.out (.inl (by rw [hlen.out]; omega))
      exact ⟨by rw [hc, Int.toNat_of_nonneg h0]; rfl, by repeat (first | exact Drawn0.refl _ | apply Drawn0.step)⟩
/-- isBlank, kept whole in a walk. -/
theorem blank_at (c : Int) (b : Bool) (hb : isBlank c = b) (h0 : 0 ≤ c) (h1 : c < 256) (w : World) : Calls Tryd.prog 65 #[.int .u8 c] w fun e w' => e = .returned (.bool b) ∧ Drawn0 w w' := by
  subst hb
  exact blank_calls c w h0 h1
set_option maxHeartbeats 8000000 in
set_option maxRecDepth 100000 in
theorem run_blank (s : ByteArray) (w : World) (hs : s.size ≤ 9223372036854775806) : Calls Tryd.prog 63 #[.string s, .func (.func 65) #[] #[]] w fun e w' => e = .returned (.int .i64 (cnt isBlank (bytesOf s))) ∧ Drawn0 w w' := by
  have hlen := Aside0.mk (bytesOf_length s)
  go_enter Tryd.func63, Tryd.ntmps63
  go_wp2
  go_loopg [5] (s.size + 1) (fun kq v5 w' => ∃ x5 : Int, v5 = .int .i64 x5 ∧ 0 ≤ x5 ∧ x5 ≤ s.size ∧ x5 + kq = s.size + 1 ∧ Aside0 (∀ j, j < x5.toNat → isBlank ((bytesOf s).getD j 0) = true) ∧ Drawn0 w w')
  case atStart => exact ⟨0, rfl, by omega, by omega, by omega, ⟨fun j hj => absurd hj (by simp)⟩, by repeat (first | exact Drawn0.refl _ | apply Drawn0.step)⟩
  case round =>
    obtain ⟨x5, rfl, h0, h2, h1, HP, ⟨m, rfl⟩⟩ := hrel
    obtain ⟨k1, rfl⟩ : ∃ k1, gk = k1 + 1 := ⟨gk - 1, by omega⟩
    by_cases hl : x5 < (s.size : Int)
    · have c1 : decide (x5 < (s.size : Int)) = true := decide_eq_true hl
      have hbt := bt_range s x5
      have hg : (bytesOf s).getD x5.toNat 0 = bt s x5 := (bt_bytes s x5).symm
      obtain ⟨b, hb⟩ : ∃ b, isBlank (bt s x5) = b := ⟨_, rfl⟩
      have HBC := Aside0.mk (blank_at (bt s x5) b hb (by omega) (by omega))
      have HG := Aside0.mk hg
      have HBB := Aside0.mk hb
      clear hbt hg hb
      have hx5 := bt_at s x5
      have p5 := eq_true h0
      have q5 := eq_true hl
      cases b with
      | true =>
        go_wp2_with (go_at_call 65; (with_reducible refine (HBC.out _).mono ?_); rintro e w' ⟨rfl, ⟨nd, rfl⟩⟩)
        go_roundg k1
        case measure => omega
        case rel => exact ⟨x5 + 1, rfl, by omega, by omega, by omega, ⟨fun j hj => by
          by_cases hj5 : j = x5.toNat
          · rw [hj5, HG.out]; exact HBB.out
          · exact HP.out j (by omega)⟩, by repeat (first | exact Drawn0.refl _ | apply Drawn0.step)⟩
      | false =>
        go_wp2_with (go_at_call 65; (with_reducible refine (HBC.out _).mono ?_); rintro e w' ⟨rfl, ⟨nd, rfl⟩⟩)
        go_ret
        have hc := cnt_end isBlank (bytesOf s) x5.toNat (by rw [hlen.out]; omega) HP.out (.inr (by rw [HG.out]; exact HBB.out))
        exact ⟨by rw [hc, Int.toNat_of_nonneg h0]; rfl, by repeat (first | exact Drawn0.refl _ | apply Drawn0.step)⟩
    · have c1 : decide (x5 < (s.size : Int)) = false := decide_eq_false hl
      go_wp2
      go_ret
      have hc := cnt_end isBlank (bytesOf s) x5.toNat (by rw [hlen.out]; omega) HP.out (.inl (by rw [hlen.out]; omega))
      exact ⟨by rw [hc, Int.toNat_of_nonneg h0]; rfl, by repeat (first | exact Drawn0.refl _ | apply Drawn0.step)⟩
/-- isRemark, kept whole in a walk. -/
theorem remark_at (c : Int) (b : Bool) (hb : isRemark c = b) (h0 : 0 ≤ c) (h1 : c < 256) (w : World) : Calls Tryd.prog 64 #[.int .u8 c] w fun e w' => e = .returned (.bool b) ∧ Drawn0 w w' := by
  subst hb
  exact remark_calls c w
set_option maxHeartbeats 8000000 in
set_option maxRecDepth 100000 in
theorem run_remark (s : ByteArray) (w : World) (hs : s.size ≤ 9223372036854775806) : Calls Tryd.prog 63 #[.string s, .func (.func 64) #[] #[]] w fun e w' => e = .returned (.int .i64 (cnt isRemark (bytesOf s))) ∧ Drawn0 w w' := by
  have hlen := Aside0.mk (bytesOf_length s)
  go_enter Tryd.func63, Tryd.ntmps63
  go_wp2
  go_loopg [5] (s.size + 1) (fun kq v5 w' => ∃ x5 : Int, v5 = .int .i64 x5 ∧ 0 ≤ x5 ∧ x5 ≤ s.size ∧ x5 + kq = s.size + 1 ∧ Aside0 (∀ j, j < x5.toNat → isRemark ((bytesOf s).getD j 0) = true) ∧ Drawn0 w w')
  case atStart => exact ⟨0, rfl, by omega, by omega, by omega, ⟨fun j hj => absurd hj (by simp)⟩, by repeat (first | exact Drawn0.refl _ | apply Drawn0.step)⟩
  case round =>
    obtain ⟨x5, rfl, h0, h2, h1, HP, ⟨m, rfl⟩⟩ := hrel
    obtain ⟨k1, rfl⟩ : ∃ k1, gk = k1 + 1 := ⟨gk - 1, by omega⟩
    by_cases hl : x5 < (s.size : Int)
    · have c1 : decide (x5 < (s.size : Int)) = true := decide_eq_true hl
      have hbt := bt_range s x5
      have hg : (bytesOf s).getD x5.toNat 0 = bt s x5 := (bt_bytes s x5).symm
      obtain ⟨b, hb⟩ : ∃ b, isRemark (bt s x5) = b := ⟨_, rfl⟩
      have HBC := Aside0.mk (remark_at (bt s x5) b hb (by omega) (by omega))
      have HG := Aside0.mk hg
      have HBB := Aside0.mk hb
      clear hbt hg hb
      have hx5 := bt_at s x5
      have p5 := eq_true h0
      have q5 := eq_true hl
      cases b with
      | true =>
        go_wp2_with (go_at_call 64; (with_reducible refine (HBC.out _).mono ?_); rintro e w' ⟨rfl, ⟨nd, rfl⟩⟩)
        go_roundg k1
        case measure => omega
        case rel => exact ⟨x5 + 1, rfl, by omega, by omega, by omega, ⟨fun j hj => by
          by_cases hj5 : j = x5.toNat
          · rw [hj5, HG.out]; exact HBB.out
          · exact HP.out j (by omega)⟩, by repeat (first | exact Drawn0.refl _ | apply Drawn0.step)⟩
      | false =>
        go_wp2_with (go_at_call 64; (with_reducible refine (HBC.out _).mono ?_); rintro e w' ⟨rfl, ⟨nd, rfl⟩⟩)
        go_ret
        have hc := cnt_end isRemark (bytesOf s) x5.toNat (by rw [hlen.out]; omega) HP.out (.inr (by rw [HG.out]; exact HBB.out))
        exact ⟨by rw [hc, Int.toNat_of_nonneg h0]; rfl, by repeat (first | exact Drawn0.refl _ | apply Drawn0.step)⟩
    · have c1 : decide (x5 < (s.size : Int)) = false := decide_eq_false hl
      go_wp2
      go_ret
      have hc := cnt_end isRemark (bytesOf s) x5.toNat (by rw [hlen.out]; omega) HP.out (.inl (by rw [hlen.out]; omega))
      exact ⟨by rw [hc, Int.toNat_of_nonneg h0]; rfl, by repeat (first | exact Drawn0.refl _ | apply Drawn0.step)⟩

/-- What pass tells: how many bytes at the begin stand between words. -/
def passed (l : List Int) : Nat := if l.getD 0 0 = 35 then cnt isRemark l else cnt isBlank l
set_option maxHeartbeats 4000000 in
set_option maxRecDepth 100000 in
theorem pass_calls (s : ByteArray) (w : World) (hs : s.size ≤ 9223372036854775806) (h1 : 0 < s.size) : Calls Tryd.prog 49 #[.string s] w fun e w' => e = .returned (.int .i64 (passed (bytesOf s))) ∧ Drawn0 w w' := by
  have hx : ∀ (h : 0 < s.size), (((s[0]'h).toNat : Nat) : Int) = bt s 0 := bt_at s 0
  have hg : (bytesOf s).getD 0 0 = bt s 0 := (bt_bytes s 0).symm
  have HP : Aside0 (passed (bytesOf s) = if bt s 0 = 35 then cnt isRemark (bytesOf s) else cnt isBlank (bytesOf s)) := ⟨by unfold passed; rw [hg]⟩
  clear hg
  have p0 : (0 < s.size) = True := eq_true h1
  by_cases h : bt s 0 = 35
  · have t1 : (bt s 0 == 35) = true := by rw [beq_iff_eq]; exact h
    have HP2 := Aside0.mk (HP.out.trans (if_pos h))
    clear h HP
    go_enter Tryd.func49, Tryd.ntmps49
    go_wp2_with (go_at_call 63; (with_reducible refine (run_remark s _ hs).mono ?_); rintro e w' ⟨rfl, ⟨nd, rfl⟩⟩)
    go_ret
    exact ⟨by rw [HP2.out]; rfl, by repeat (first | exact Drawn0.refl _ | apply Drawn0.step)⟩
  · have t1 : (bt s 0 == 35) = false := by rw [beq_eq_false_iff_ne]; exact h
    have HP2 := Aside0.mk (HP.out.trans (if_neg h))
    clear h HP
    go_enter Tryd.func49, Tryd.ntmps49
    go_wp2_with (go_at_call 63; (with_reducible refine (run_blank s _ hs).mono ?_); rintro e w' ⟨rfl, ⟨nd, rfl⟩⟩)
    go_ret
    exact ⟨by rw [HP2.out]; rfl, by repeat (first | exact Drawn0.refl _ | apply Drawn0.step)⟩
end Go.Proofs.YtgobpenmemlieaaDoor.Lex
