/-
  Plain mathematics: a frame with one byte another one is not taken as it was.
-/
import Derived.Test.YtpemehpfkkjpiaaSealMath
namespace Go.Proofs.Ytpemehpfkkjpiaa.SealMath
open Go.Proofs.YtpemehpfkkjpiaaW.PrintWords
set_option linter.unusedVariables false

theorem rd4_set (l : List Int) (hl : ∀ c ∈ l, 0 ≤ c ∧ c < 256) (h4 : 4 ≤ l.length) (i : Nat) (hi : i < 4) (v : Int) (h0 : 0 ≤ v) (h1 : v < 256) (hne : v ≠ l.getD i 0) : rd4 (l.set i v) ≠ rd4 l := by
  match l, h4 with
  | a :: b :: c :: d :: t, _ =>
    have ha := hl a (by simp)
    have hb := hl b (by simp)
    have hc := hl c (by simp)
    have hd := hl d (by simp)
    match i, hi with
    | 0, _ => simp [rd4] at hne ⊢; omega
    | 1, _ => simp [rd4] at hne ⊢; omega
    | 2, _ => simp [rd4] at hne ⊢; omega
    | 3, _ => simp [rd4] at hne ⊢; omega
theorem rd4_app (l r : List Int) (h : 4 ≤ l.length) : rd4 (l ++ r) = rd4 l := by
  match l, h with
  | a :: b :: c :: d :: t, _ => simp [rd4]
/-- The frame's bytes: four, four, the text's. -/
theorem frame_bytes (s : ByteArray) (h : s.size ≤ 4000) : bytesOf (frame s) = bytesOf (num4 s.size) ++ (bytesOf (num4 (chk (bytesOf (num4 s.size) ++ bytesOf s))) ++ bytesOf s) := by
  unfold frame
  rw [if_pos h, bytesOf_append, bytesOf_append, bytesOf_append, List.append_assoc]
theorem num4_len (n : Int) : (bytesOf (num4 n)).length = 4 := by rw [bytesOf_len, num4_size]
theorem rd4_num (n : Int) (h0 : 0 ≤ n) (h1 : n < 4294967296) : rd4 (bytesOf (num4 n)) = n := by
  have := rd4_num4 n h0 h1 []
  rwa [List.append_nil] at this

/-- The conditions of 'unframe', over the bytes. -/
theorem unframe_yes (x : ByteArray) (n : Nat) (hy : (unframe x).2.2 = true) (hn : (unframe x).1.size = n) :
    rd4 (bytesOf x) = n ∧ rd4 ((bytesOf x).drop 4) = chk ((bytesOf x).take 4 ++ ((bytesOf x).take (8 + n)).drop 8) := by
  have hr := rd4_range x
  unfold unframe at hy hn
  by_cases hc : 8 ≤ x.size ∧ rd4 (bytesOf x) ≤ 4000 ∧ rd4 (bytesOf x) ≤ x.size - 8 ∧ rd4 ((bytesOf x).drop 4) = chk (bytesOf (x.extract 0 4 ++ x.extract 8 (8 + (rd4 (bytesOf x)).toNat)))
  · rw [if_pos hc] at hn
    have hsz : (x.extract 8 (8 + (rd4 (bytesOf x)).toNat)).size = (rd4 (bytesOf x)).toNat := by rw [ByteArray.size_extract]; omega
    have hn' : (rd4 (bytesOf x)).toNat = n := by rw [← hn]; exact hsz.symm
    refine ⟨by omega, ?_⟩
    rw [hc.2.2.2, bytesOf_append, bytesOf_extract, bytesOf_extract, hn', List.drop_zero]
  · rw [if_neg hc] at hy
    exact absurd hy (by decide)
theorem changed (s : ByteArray) (h : s.size ≤ 4000) (k : Nat) (hk : k < (frame s).size) (v : Int) (h0 : 0 ≤ v) (h1 : v < 256) (hne : v ≠ (bytesOf (frame s)).getD k 0) (r : ByteArray) :
    (unframe (strOfNums ((bytesOf (frame s)).set k v) ++ r)).2.2 = true → (unframe (strOfNums ((bytesOf (frame s)).set k v) ++ r)).1.size ≠ s.size := by
  intro hy hn
  obtain ⟨e1, e2⟩ := unframe_yes _ _ hy hn
  have hs := frame_size s h
  have hrg := bytesOf_range (frame s)
  have hset : ∀ c ∈ (bytesOf (frame s)).set k v, 0 ≤ c ∧ c < 256 := by
    intro c hc
    rcases List.mem_or_eq_of_mem_set hc with hc | rfl
    · exact hrg c hc
    · exact ⟨h0, h1⟩
  rw [bytesOf_append, bytesOf_strOfNums _ hset] at e1 e2
  have hN : ∀ c ∈ bytesOf (num4 s.size), 0 ≤ c ∧ c < 256 := bytesOf_range _
  have hT : ∀ c ∈ bytesOf s, 0 ≤ c ∧ c < 256 := bytesOf_range _
  have hcr := chk_range (bytesOf (num4 s.size) ++ bytesOf s)
  have lN := num4_len s.size
  have lC := num4_len (chk (bytesOf (num4 s.size) ++ bytesOf s))
  have lT := bytesOf_len s
  rw [frame_bytes s h] at e1 e2 hne
  rw [hs] at hk
  have rN := rd4_num (s.size : Int) (by omega) (by omega)
  have rC := rd4_num (chk (bytesOf (num4 s.size) ++ bytesOf s)) hcr.1 (by omega)
  generalize hNd : bytesOf (num4 s.size) = Nn at *
  generalize hTd : bytesOf s = T at *
  generalize hcd : chk (Nn ++ T) = c at *
  generalize hCd : bytesOf (num4 c) = C at *
  have hC : ∀ c ∈ C, 0 ≤ c ∧ c < 256 := by rw [← hCd]; exact bytesOf_range _
  by_cases k4 : k < 4
  · rw [List.set_append_left _ _ (by omega), List.append_assoc, rd4_app _ _ (by rw [List.length_set]; omega)] at e1
    rw [List.getD_eq_getElem?_getD, List.getElem?_append_left (by omega), ← List.getD_eq_getElem?_getD] at hne
    exact rd4_set Nn hN (by omega) k k4 v h0 h1 hne (by rw [e1, rN])
  · rw [List.set_append_right _ _ (by omega)] at e1 e2
    rw [List.getD_eq_getElem?_getD, List.getElem?_append_right (by omega)] at hne
    by_cases k8 : k < 8
    · rw [List.set_append_left _ _ (by omega)] at e2
      rw [List.getElem?_append_left (by omega), ← List.getD_eq_getElem?_getD] at hne
      have d4 : ((Nn ++ (C.set (k - Nn.length) v ++ T)) ++ bytesOf r).drop 4 = C.set (k - Nn.length) v ++ (T ++ bytesOf r) := by
        rw [List.append_assoc, List.append_assoc, List.drop_append_of_le_length (by omega), List.drop_of_length_le (by omega), List.nil_append]
      have t4 : ((Nn ++ (C.set (k - Nn.length) v ++ T)) ++ bytesOf r).take 4 = Nn := by
        rw [List.append_assoc, List.take_append_of_le_length (by omega), List.take_of_length_le (by omega)]
      have t8 : (((Nn ++ (C.set (k - Nn.length) v ++ T)) ++ bytesOf r).take (8 + s.size)).drop 8 = T := by
        rw [List.take_append_of_le_length (by simp; omega), List.take_of_length_le (by simp; omega), ← List.append_assoc, List.drop_append_of_le_length (by simp; omega), List.drop_of_length_le (by simp; omega), List.nil_append]
      rw [d4, t4, t8, rd4_app _ _ (by rw [List.length_set]; omega), hcd] at e2
      exact rd4_set C hC (by omega) (k - Nn.length) (by omega) v h0 h1 hne (by rw [e2, rC])
    · rw [List.set_append_right _ _ (by omega)] at e2
      rw [List.getElem?_append_right (by omega), ← List.getD_eq_getElem?_getD] at hne
      have d4 : ((Nn ++ (C ++ T.set (k - Nn.length - C.length) v)) ++ bytesOf r).drop 4 = C ++ (T.set (k - Nn.length - C.length) v ++ bytesOf r) := by
        rw [List.append_assoc, List.append_assoc, List.drop_append_of_le_length (by omega), List.drop_of_length_le (by omega), List.nil_append]
      have t4 : ((Nn ++ (C ++ T.set (k - Nn.length - C.length) v)) ++ bytesOf r).take 4 = Nn := by
        rw [List.append_assoc, List.take_append_of_le_length (by omega), List.take_of_length_le (by omega)]
      have t8 : (((Nn ++ (C ++ T.set (k - Nn.length - C.length) v)) ++ bytesOf r).take (8 + s.size)).drop 8 = T.set (k - Nn.length - C.length) v := by
        rw [List.take_append_of_le_length (by simp; omega), List.take_of_length_le (by simp; omega), ← List.append_assoc, List.drop_append_of_le_length (by simp; omega), List.drop_of_length_le (by simp; omega), List.nil_append]
      rw [d4, t4, t8, rd4_app _ _ (by omega), rC] at e2
      have hNT : ∀ c ∈ Nn ++ T, 0 ≤ c ∧ c < 256 := by
        intro c hc
        rcases List.mem_append.1 hc with hc | hc
        · exact hN c hc
        · exact hT c hc
      have hset2 : (Nn ++ T).set (k - C.length) v = Nn ++ T.set (k - Nn.length - C.length) v := by
        rw [List.set_append_right _ _ (by omega)]
        congr 2
        omega
      refine chk_set (Nn ++ T) hNT (k - C.length) (by simp; omega) v h0 h1 ?_ (by rw [hset2, ← e2, hcd])
      rw [List.getD_eq_getElem?_getD, List.getElem?_append_right (by omega), ← List.getD_eq_getElem?_getD, show k - C.length - Nn.length = k - Nn.length - C.length by omega]
      exact hne
end Go.Proofs.Ytpemehpfkkjpiaa.SealMath
