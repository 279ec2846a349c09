/- Packed by our own shrink.py: theorems that the claim does not use are left out. -/
import Derived.Test.YtgobpenmemlieaaDoorVLex2
/-
  Walks of lex.size (of a word that begins with a letter, or is a sign), lex.one and lex.Name.
-/
namespace Go.Proofs.YtgobpenmemlieaaDoor.Lex
open Go.RowKit Go.Proofs.YtgobpenmemlieaaDoorW.PrintWords Go.Proofs.YtgobpenmemlieaaDoorW.PrintLast Go.Proofs.YtgobpenmemlieaaDoorW.PrintMore
set_option linter.unusedVariables false
set_option linter.unusedSimpArgs false
def signs : List Int := [33, 36, 40, 41, 58, 61, 64, 91, 93, 123, 125]
def isSign (c : Int) : Bool := signs.contains c
theorem indexByte_sign (c : Int) (h0 : 0 ≤ c) (h1 : c < 256) : decide (Lib.indexByte [33, 36, 40, 41, 58, 61, 64, 91, 93, 123, 125] c.toNat.toUInt8 ≥ 0) = isSign c := by
  obtain ⟨n, rfl⟩ := Int.eq_ofNat_of_zero_le h0
  have h : ∀ m : Fin 256, decide (Lib.indexByte [33, 36, 40, 41, 58, 61, 64, 91, 93, 123, 125] (m.val : Int).toNat.toUInt8 ≥ 0) = isSign (m.val : Int) := by decide +kernel
  exact h ⟨n, by omega⟩
theorem letter_at (c : Int) (b : Bool) (hb : isLetter c = b) (w : World) : Calls Tryd.prog 66 #[.int .u8 c] w fun e w' => e = .returned (.bool b) ∧ Drawn0 w w' := by
  subst hb
  exact PSdlBack.lex_letter.calls c _ w (letter_eq c)
theorem digit_at (c : Int) (b : Bool) (hb : isDigit c = b) (w : World) : Calls Tryd.prog 68 #[.int .u8 c] w fun e w' => e = .returned (.bool b) ∧ Drawn0 w w' := by
  subst hb
  exact PSdlBack.lex_digit.calls c _ w (digit_eq c)
theorem sign_at (c : Int) (hb : isSign c = true) (h0 : 0 ≤ c) (h1 : c < 256) (w : World) : Calls Tryd.prog 72 #[.string ⟨#[33, 36, 40, 41, 58, 61, 64, 91, 93, 123, 125]⟩, .int .u8 c] w fun e w' => ∃ k : Int, e = .returned (.int .i64 k) ∧ decide (0 ≤ k) = true ∧ Drawn0 w w' := by
  refine (Tryd.strings_IndexByte _ _ _).mono ?_
  rintro e w' ⟨rfl, rfl⟩
  exact ⟨_, rfl, (indexByte_sign c h0 h1).trans hb, Drawn0.refl _⟩
/-- What size tells, of a word that begins with a letter. -/
def named (l : List Int) : Nat := if 12 < cnt isWordy l then 0 else cnt isWordy l
set_option maxHeartbeats 4000000 in
set_option maxRecDepth 100000 in
theorem size_letter (s : ByteArray) (w : World) (hs : s.size ≤ 9223372036854775806) (h1 : 0 < s.size) (hl : isLetter (bt s 0) = true) : Calls Tryd.prog 50 #[.string s] w fun e w' => e = .returned (.int .i64 (named (bytesOf s))) ∧ Drawn0 w w' := by
  have hx : ∀ (h : 0 < s.size), (((s[0]'h).toNat : Nat) : Int) = bt s 0 := bt_at s 0
  have p0 : (0 < s.size) = True := eq_true h1
  have HL := Aside0.mk (letter_at (bt s 0) true hl)
  have HR := Aside0.mk (fun w => run_wordy s w hs)
  have HN : Aside0 (named (bytesOf s) = if 12 < cnt isWordy (bytesOf s) then 0 else cnt isWordy (bytesOf s)) := ⟨rfl⟩
  clear hl
  generalize cnt isWordy (bytesOf s) = k at HR HN
  by_cases h : 12 < k
  · have t1 : decide (12 < (k : Int)) = true := decide_eq_true (by omega)
    have HN2 := Aside0.mk (HN.out.trans (if_pos h))
    clear h HN
    go_enter Tryd.func50, Tryd.ntmps50
    go_wp2_with (first | (go_at_call 66; (with_reducible refine (HL.out _).mono ?_); rintro e w' ⟨rfl, ⟨nd, rfl⟩⟩) | (go_at_call 63; (with_reducible refine (HR.out _).mono ?_); rintro e w' ⟨rfl, ⟨nd, rfl⟩⟩))
    go_ret
    exact ⟨by rw [HN2.out]; rfl, by repeat (first | exact Drawn0.refl _ | apply Drawn0.step)⟩
  · have t1 : decide (12 < (k : Int)) = false := decide_eq_false (by omega)
    have HN2 := Aside0.mk (HN.out.trans (if_neg h))
    clear h HN
    go_enter Tryd.func50, Tryd.ntmps50
    go_wp2_with (first | (go_at_call 66; (with_reducible refine (HL.out _).mono ?_); rintro e w' ⟨rfl, ⟨nd, rfl⟩⟩) | (go_at_call 63; (with_reducible refine (HR.out _).mono ?_); rintro e w' ⟨rfl, ⟨nd, rfl⟩⟩))
    go_ret
    exact ⟨by rw [HN2.out]; rfl, by repeat (first | exact Drawn0.refl _ | apply Drawn0.step)⟩
theorem sign_plain (c : Int) (h : isSign c = true) : isLetter c = false ∧ isDigit c = false ∧ (c == 45) = false ∧ (c == 34) = false ∧ (c == 46) = false ∧ 0 ≤ c ∧ c < 256 := by
  unfold isSign signs at h
  simp only [List.contains_eq_mem, List.mem_cons, List.not_mem_nil, or_false, decide_eq_true_eq] at h
  rcases h with rfl | rfl | rfl | rfl | rfl | rfl | rfl | rfl | rfl | rfl | rfl <;> decide
theorem noDots (s : ByteArray) (h1 : 0 < s.size) (h : (bt s 0 == 46) = false) : Lib.hasPrefix s.data.toList (⟨#[46, 46, 46]⟩ : ByteArray).data.toList = false := by
  have hb : bt s 0 = ((s.data.toList[0]'h1).toNat : Int) := (bt_at s 0 h1).symm
  rw [hb] at h
  cases hl : s.data.toList with
  | nil =>
    have h2 : s.data.toList.length = s.size := rfl
    rw [hl] at h2
    simp at h2
    omega
  | cons a t =>
    have ha : ((a.toNat : Int) == 46) = false := by simpa [hl] using h
    cases hp : Lib.hasPrefix (a :: t) (⟨#[46, 46, 46]⟩ : ByteArray).data.toList with
    | false => rfl
    | true =>
      exfalso
      have : a = 46 := by
        unfold Lib.hasPrefix at hp
        simp at hp
        first | exact hp.1 | exact hp.1.symm | exact (hp.1 : _).symm
      subst this
      exact absurd ha (by decide)
set_option maxHeartbeats 4000000 in
set_option maxRecDepth 100000 in
theorem size_sign (s : ByteArray) (w : World) (hs : s.size ≤ 9223372036854775806) (h1 : 0 < s.size) (hl : isSign (bt s 0) = true) : Calls Tryd.prog 50 #[.string s] w fun e w' => e = .returned (.int .i64 1) ∧ Drawn0 w w' := by
  have hx : ∀ (h : 0 < s.size), (((s[0]'h).toNat : Nat) : Int) = bt s 0 := bt_at s 0
  have p0 : (0 < s.size) = True := eq_true h1
  obtain ⟨l1, l2, l3, l4, l5, l6, l7⟩ := sign_plain _ hl
  have HL := Aside0.mk (letter_at (bt s 0) false l1)
  have HD := Aside0.mk (digit_at (bt s 0) false l2)
  have HI := Aside0.mk (sign_at (bt s 0) hl l6 l7)
  have HP := Aside0.mk (noDots s h1 l5)
  clear hl l1 l2 l5 l6 l7
  go_enter Tryd.func50, Tryd.ntmps50
  go_wp2_with (first | (go_at_call 66; (with_reducible refine (HL.out _).mono ?_); rintro e w' ⟨rfl, ⟨nd, rfl⟩⟩) | (go_at_call 68; (with_reducible refine (HD.out _).mono ?_); rintro e w' ⟨rfl, ⟨nd, rfl⟩⟩) | (go_at_call 71; refine (Tryd.strings_HasPrefix _ _ _).mono ?_; rintro e w' ⟨rfl, rfl⟩; rw [HP.out]) | (go_at_call 72; (with_reducible refine (HI.out _).mono ?_); rintro e w' ⟨kk, rfl, hkk, ⟨nd, rfl⟩⟩))
  go_ret
  exact ⟨rfl, by repeat (first | exact Drawn0.refl _ | apply Drawn0.step)⟩
end Go.Proofs.YtgobpenmemlieaaDoor.Lex
