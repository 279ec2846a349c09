/- Packed by our own shrink.py: theorems that the claim does not use are left out. -/
import Derived.Test.YtgobpenmemlieaaDoorVAgs
import Derived.Test.YtgobpenmemlieaaDoorVORc
/-
  Plain: a list of strings is copied as it is; a place within a list.
-/
namespace Go.Proofs.YtgobpenmemlieaaDoor.Lex
open Go.RowKit Go.Proofs.YtgobpenmemlieaaDoorW.PrintWords Go.Proofs.YtgobpenmemlieaaDoorW.PrintLast Go.Proofs.YtgobpenmemlieaaDoorW.PrintMore PSdlBack
set_option linter.unusedVariables false
theorem copyS_from (l : List ByteArray) (hl : l.length ≤ 8796093022208) : ∀ (n j : Nat), j ≤ l.length → l.length - j ≤ n → amanuensisref0_CopyStrings.l0 (n + 1) l (l.take j) (j : Int) = some l
  | 0, j, h0, h1 => by
    unfold amanuensisref0_CopyStrings.l0
    rw [if_neg (by omega), List.take_of_length_le (by omega)]
  | n + 1, j, h0, h1 => by
    unfold amanuensisref0_CopyStrings.l0
    by_cases h : j < l.length
    · have e1 : l.take j ++ [rdOf ByteArray.empty l (j : Int)] = l.take (j + 1) := by
        have h2 : rdOf ByteArray.empty l (j : Int) = l[j] := by unfold rdOf; rw [Int.toNat_natCast, List.getD_eq_getElem?_getD, List.getElem?_eq_getElem h]; rfl
        rw [h2]
        exact (List.take_succ_eq_append_getElem h).symm
      rw [if_pos (by omega), if_pos (by omega), if_pos (by rw [List.length_take]; omega), e1, wrap64_id (by omega) (by omega)]
      exact copyS_from l hl n (j + 1) (by omega) (by omega)
    · rw [if_neg (by omega), List.take_of_length_le (by omega)]
theorem copyS_all (l : List ByteArray) (hl : l.length ≤ 8796093022208) : ∃ k, amanuensisref0_CopyStrings.f k l = some l := ⟨_, copyS_from l hl l.length 0 (by omega) (by omega)⟩
theorem u64_id {n : Int} (h0 : 0 ≤ n) (h1 : n ≤ 1000000000) : IntKind.u64.wrap n = n := by
  have e : IntKind.u64.wrap n = n % 18446744073709551616 := by
    simp [IntKind.wrap, IntKind.signed, IntKind.bits]
  rw [e]
  omega
theorem within_at (a n : Int) (h0 : 0 ≤ a) (h1 : a ≤ 1000000000) (h2 : 0 < n) (h3 : n ≤ 1000000000) : ∃ j : Nat, amanuensislaw0_Within.f a n = some (j : Int) ∧ (j : Int) < n := by
  unfold amanuensislaw0_Within.f
  rw [u64_id h0 h1, u64_id (by omega) h3, if_neg (by omega), Int.tmod_eq_emod_of_nonneg h0]
  have h4 := Int.emod_nonneg a (show n ≠ 0 by omega)
  have h5 := Int.emod_lt_of_pos a h2
  refine ⟨(a % n).toNat, ?_, by omega⟩
  rw [wrap64_id (by omega) (by omega), Int.toNat_of_nonneg h4]
theorem wi_at (k len i : Nat) (hk : k < 10) (hl : len ≤ 3000) (hi : i ≤ 1000) (h0 : 0 < len) : ∃ j : Nat, amanuensislaw0_Within.f (wrap64 (wrap64 ((wrap64 ((k : Int) * (len : Int))).tdiv 10) + (i : Int))) (len : Int) = some (j : Int) ∧ j < len := by
  have hx0 : 0 ≤ (k : Int) * (len : Int) := Int.mul_nonneg (by omega) (by omega)
  have hx1 : (k : Int) * (len : Int) ≤ 10 * 3000 := Int.mul_le_mul (by omega) (by omega) (by omega) (by omega)
  generalize (k : Int) * (len : Int) = x at hx0 hx1
  have e1 : wrap64 x = x := wrap64_id (by omega) (by omega)
  have e2 : x.tdiv 10 = x / 10 := Int.tdiv_eq_ediv_of_nonneg hx0
  have e3 : wrap64 (x / 10) = x / 10 := wrap64_id (by omega) (by omega)
  have e4 : wrap64 (x / 10 + (i : Int)) = x / 10 + (i : Int) := wrap64_id (by omega) (by omega)
  rw [e1, e2, e3, e4]
  obtain ⟨j, h1, h2⟩ := within_at (x / 10 + (i : Int)) (len : Int) (by omega) (by omega) (by omega) (by omega)
  exact ⟨j, h1, by omega⟩
theorem d5_size : ∀ q : Nat, q < 5 → (([(⟨#[100, 101, 98, 105, 116]⟩ : ByteArray), (⟨#[97, 99, 99, 111, 117, 110, 116]⟩ : ByteArray), (⟨#[125]⟩ : ByteArray), (⟨#[120]⟩ : ByteArray), (⟨#[73, 110, 116]⟩ : ByteArray)] : List ByteArray).getD q ⟨#[]⟩).size ≤ 7 := by decide +kernel
theorem wrap_sum (a b c : Nat) (h : a + b = c) (hc : c ≤ 1000000) : wrap64 ((a : Int) + (b : Int)) = (c : Int) ∧ (a : Int) + (b : Int) = (c : Int) ∧ wrap64 (c : Int) = (c : Int) := by
  refine ⟨?_, by omega, wrap64_id (by omega) (by omega)⟩
  rw [wrap64_id (by omega) (by omega)]
  omega
theorem zs_one (s xs : ByteArray) (fr tt : Nat) (h1 : fr ≤ s.size) (h2 : tt ≤ s.size) (h3 : xs.size ≤ s.size) (hs : s.size ≤ 3000) : ((9223372036854775807 < fr + 1) = False) ∧ ((9223372036854775807 < (s.extract 0 fr ++ (⟨#[32]⟩ : ByteArray)).size + (s.size - tt)) = False) ∧ ((9223372036854775807 < fr + 1 + (s.size - tt)) = False) ∧ ((9223372036854775807 < tt + 1) = False) ∧ ((9223372036854775807 < (s.extract 0 tt ++ (⟨#[32]⟩ : ByteArray)).size + xs.size) = False) ∧ ((9223372036854775807 < tt + 1 + xs.size) = False) ∧ ((9223372036854775807 < ((s.extract 0 tt ++ (⟨#[32]⟩ : ByteArray)) ++ xs).size + 1) = False) ∧ ((9223372036854775807 < tt + 1 + xs.size + 1) = False) ∧ ((9223372036854775807 < (((s.extract 0 tt ++ (⟨#[32]⟩ : ByteArray)) ++ xs) ++ (⟨#[32]⟩ : ByteArray)).size + (s.size - tt)) = False) ∧ ((9223372036854775807 < tt + 1 + xs.size + 1 + (s.size - tt)) = False) := by
  have hE0 : (s.extract 0 fr).size = fr := by rw [ByteArray.size_extract]; omega
  have hET : (s.extract 0 tt).size = tt := by rw [ByteArray.size_extract]; omega
  have hsp : (⟨#[32]⟩ : ByteArray).size = 1 := rfl
  exact ⟨eq_false (by first | omega | (simp only [size_app]; omega)), eq_false (by first | omega | (simp only [size_app]; omega)), eq_false (by first | omega | (simp only [size_app]; omega)), eq_false (by first | omega | (simp only [size_app]; omega)), eq_false (by first | omega | (simp only [size_app]; omega)), eq_false (by first | omega | (simp only [size_app]; omega)), eq_false (by first | omega | (simp only [size_app]; omega)), eq_false (by first | omega | (simp only [size_app]; omega)), eq_false (by first | omega | (simp only [size_app]; omega)), eq_false (by first | omega | (simp only [size_app]; omega))⟩
theorem zs_two (s d5 : ByteArray) (fr tt : Nat) (h1 : fr ≤ s.size) (h2 : tt ≤ s.size) (h3 : d5.size ≤ 7) (hs : s.size ≤ 3000) : ((9223372036854775807 < fr + d5.size) = False) ∧ ((9223372036854775807 < (s.extract 0 fr ++ d5).size + (s.size - tt)) = False) ∧ ((9223372036854775807 < fr + d5.size + (s.size - tt)) = False) := by
  have hE0 : (s.extract 0 fr).size = fr := by rw [ByteArray.size_extract]; omega
  exact ⟨eq_false (by first | omega | (simp only [size_app]; omega)), eq_false (by first | omega | (simp only [size_app]; omega)), eq_false (by first | omega | (simp only [size_app]; omega))⟩
theorem q5_at (k i : Nat) (hk : k ≤ 10) (hi : i ≤ 1000) : ∃ q5 : Nat, q5 < 5 ∧ (wrap64 ((k : Int) + (i : Int))).tmod 5 = (q5 : Int) ∧ ((0 : Int) ≤ (q5 : Int)) = True ∧ ((q5 : Int) < 5) = True ∧ (q5 < 5) = True := by
  have h : (wrap64 ((k : Int) + (i : Int))).tmod 5 = (((k + i) % 5 : Nat) : Int) := by
    rw [wrap64_id (by omega) (by omega), Int.tmod_eq_emod_of_nonneg (by omega)]
    omega
  have h5 : (k + i) % 5 < 5 := Nat.mod_lt _ (by decide)
  exact ⟨(k + i) % 5, h5, h, eq_true (by omega), eq_true (by omega), eq_true h5⟩
theorem q3_at (k : Nat) : (k : Int) % 3 = 0 ∨ (k : Int) % 3 = 1 ∨ (k : Int) % 3 = 2 := by omega
theorem le_facts (n m : Nat) (h : n ≤ m) : ((0 : Int) ≤ (n : Int)) = True ∧ ((n : Int) ≤ (m : Int)) = True ∧ (n ≤ m) = True := ⟨eq_true (by omega), eq_true (by omega), eq_true h⟩
end Go.Proofs.YtgobpenmemlieaaDoor.Lex
