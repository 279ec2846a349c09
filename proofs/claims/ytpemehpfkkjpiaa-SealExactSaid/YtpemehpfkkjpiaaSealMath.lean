/-
  Plain mathematics of the check and the frames of layer 10: numbers and bytes alone, no program.
-/
import Derived.Test.YtpemehpfkkjpiaaWWords
import Derived.Laws.BitsLemmas
namespace Go.Proofs.Ytpemehpfkkjpiaa.SealMath
open Go.Proofs.YtpemehpfkkjpiaaW.PrintWords
set_option linter.unusedVariables false

/-! ### bytes -/
theorem bytesOf_append (a b : ByteArray) : bytesOf (a ++ b) = bytesOf a ++ bytesOf b := by
  simp only [bytesOf, ByteArray.data_append, Array.toList_append, List.map_append]
theorem data_len (a : ByteArray) : a.data.toList.length = a.size := rfl
theorem bytesOf_len (a : ByteArray) : (bytesOf a).length = a.size := by
  unfold bytesOf
  rw [List.length_map, data_len]
theorem bytesOf_extract (a : ByteArray) (i j : Nat) : bytesOf (a.extract i j) = ((bytesOf a).take j).drop i := by
  simp [bytesOf, ByteArray.data_extract, List.extract_eq_take_drop, List.drop_take, List.map_drop, List.map_take]
theorem bytesOf_inj {a b : ByteArray} (h : bytesOf a = bytesOf b) : a = b := by
  apply ByteArray.ext
  apply Array.ext'
  have : ∀ (l m : List UInt8), l.map (fun b => (b.toNat : Int)) = m.map (fun b => (b.toNat : Int)) → l = m := by
    intro l
    induction l with
    | nil => intro m h; cases m with
      | nil => rfl
      | cons y m => simp at h
    | cons x l ih => intro m h; cases m with
      | nil => simp at h
      | cons y m =>
        simp only [List.map_cons, List.cons.injEq] at h
        rw [ih m h.2]
        congr 1
        apply UInt8.toNat_inj.1
        omega
  exact this _ _ h
theorem bt_bytes (s : ByteArray) (i : Int) : bt s i = (bytesOf s).getD i.toNat 0 := by
  unfold bt bytesOf
  split
  · rename_i h
    have h' : i.toNat < s.data.toList.length := by rw [data_len]; exact h
    rw [List.getD_eq_getElem?_getD, List.getElem?_map, List.getElem?_eq_getElem h']
    rfl
  · rename_i h
    have h' : s.data.toList.length ≤ i.toNat := by rw [data_len]; omega
    rw [List.getD_eq_getElem?_getD, List.getElem?_map, List.getElem?_eq_none h']
    rfl
theorem bytesOf_range (s : ByteArray) : ∀ c ∈ bytesOf s, 0 ≤ c ∧ c < 256 := by
  intro c hc
  simp only [bytesOf, List.mem_map] at hc
  obtain ⟨b, _, rfl⟩ := hc
  have := b.toNat_lt
  omega
theorem bytesOf_strOfNums (xs : List Int) (h : ∀ c ∈ xs, 0 ≤ c ∧ c < 256) : bytesOf (strOfNums xs) = xs := by
  unfold bytesOf strOfNums
  simp only [List.map_map]
  conv => rhs; rw [← List.map_id xs]
  apply List.map_congr_left
  intro c hc
  have := h c hc
  simp only [Function.comp, id, UInt8.toNat_ofNat']
  omega

theorem toL_inj {a b : ByteArray} (h : a.toList = b.toList) : a = b := by
  rw [ByteArray.toList_eq, ByteArray.toList_eq] at h
  exact ByteArray.ext (Array.ext' h)
theorem toL_eq (a : ByteArray) : a.toList = a.data.toList := ByteArray.toList_eq a

/-! ### the check -/
def stp (h c : Int) : Int := (h * 257 + c + 1) % 4294967291
def chk (l : List Int) : Int := l.foldl stp 7
theorem stp_range (h c : Int) : 0 ≤ stp h c ∧ stp h c < 4294967291 := by unfold stp; omega
theorem fold_range (l : List Int) : ∀ h : Int, 0 ≤ h → h < 4294967291 → 0 ≤ l.foldl stp h ∧ l.foldl stp h < 4294967291 := by
  induction l with
  | nil => intro h h0 h1; exact ⟨h0, h1⟩
  | cons c l ih => intro h _ _; exact ih _ (stp_range h c).1 (stp_range h c).2
theorem chk_range (l : List Int) : 0 ≤ chk l ∧ chk l < 4294967291 := fold_range l 7 (by decide) (by decide)
/-- A step loses nothing: 257 has an inverse. -/
theorem stp_inj {h h' c : Int} (h0 : 0 ≤ h) (h1 : h < 4294967291) (h0' : 0 ≤ h') (h1' : h' < 4294967291) (e : stp h c = stp h' c) : h = h' := by
  unfold stp at e
  have e1 : ((h - h') * 257) % 4294967291 = 0 := by omega
  have e2 : ((h - h') * 257 * 3225403452) % 4294967291 = 0 := by
    rw [Int.mul_emod, e1]; rfl
  omega
theorem stp_byte {h c c' : Int} (h0 : 0 ≤ c) (h1 : c < 256) (h0' : 0 ≤ c') (h1' : c' < 256) (e : stp h c = stp h c') : c = c' := by
  unfold stp at e
  omega
theorem fold_inj (l : List Int) : ∀ h h' : Int, 0 ≤ h → h < 4294967291 → 0 ≤ h' → h' < 4294967291 → l.foldl stp h = l.foldl stp h' → h = h' := by
  induction l with
  | nil => intro h h' _ _ _ _ e; exact e
  | cons c l ih =>
    intro h h' h0 h1 h0' h1' e
    exact stp_inj h0 h1 h0' h1' (ih _ _ (stp_range h c).1 (stp_range h c).2 (stp_range h' c).1 (stp_range h' c).2 e)
/-- One byte another one: another check. -/
theorem chk_set (l : List Int) (hl : ∀ c ∈ l, 0 ≤ c ∧ c < 256) (i : Nat) (hi : i < l.length) (c : Int) (h0 : 0 ≤ c) (h1 : c < 256) (hne : c ≠ l.getD i 0) : chk (l.set i c) ≠ chk l := by
  intro e
  unfold chk at e
  rw [List.set_eq_take_append_cons_drop, if_pos hi] at e
  conv at e => rhs; rw [← List.take_append_drop i l, List.drop_eq_getElem_cons hi]
  simp only [List.foldl_append, List.foldl_cons] at e
  have r := fold_range (l.take i) 7 (by decide) (by decide)
  have e1 := fold_inj _ _ _ (stp_range _ _).1 (stp_range _ _).2 (stp_range _ _).1 (stp_range _ _).2 e
  have r2 := hl l[i] (List.getElem_mem hi)
  have e2 := stp_byte h0 h1 r2.1 r2.2 e1
  apply hne
  rw [e2, List.getD_eq_getElem?_getD, List.getElem?_eq_getElem hi]
  rfl

theorem stp_wrap (h c : Int) (h0 : 0 ≤ h) (h1 : h < 4294967291) (c0 : 0 ≤ c) (c1 : c ≤ 255) :
    Int.tmod (IntKind.u64.wrap ((IntKind.u64.wrap ((IntKind.u64.wrap (h * 257)) + (IntKind.u64.wrap c))) + 1)) 4294967291 = stp h c := by
  have hk : ∀ n : Int, IntKind.u64.wrap n = n % 18446744073709551616 := fun n => by simp [IntKind.wrap, IntKind.bits, IntKind.signed]
  simp only [hk]
  rw [Int.emod_eq_of_lt (a := h * 257) (by omega) (by omega), Int.emod_eq_of_lt (a := c) (by omega) (by omega), Int.emod_eq_of_lt (a := h * 257 + c) (by omega) (by omega), Int.emod_eq_of_lt (a := h * 257 + c + 1) (by omega) (by omega), Int.tmod_eq_emod_of_nonneg (by omega)]
  rfl
theorem drop_cons (s : ByteArray) (i : Int) (h0 : 0 ≤ i) (h1 : i < s.size) : (bytesOf s).drop i.toNat = bt s i :: (bytesOf s).drop (i + 1).toNat := by
  have hl : i.toNat < (bytesOf s).length := by rw [bytesOf_len]; omega
  rw [List.drop_eq_getElem_cons hl, bt_bytes, List.getD_eq_getElem?_getD, List.getElem?_eq_getElem hl]
  rw [show (i + 1).toNat = i.toNat + 1 by omega]
  rfl

/-! ### four bytes -/
def num4 (n : Int) : ByteArray := strOfNums [(n / 16777216) % 256, (n / 65536) % 256, (n / 256) % 256, n % 256]
theorem num4_bytes (n : Int) : bytesOf (num4 n) = [(n / 16777216) % 256, (n / 65536) % 256, (n / 256) % 256, n % 256] := by
  apply bytesOf_strOfNums
  intro c hc
  simp at hc
  omega
theorem num4_size (n : Int) : (num4 n).size = 4 := by rw [← bytesOf_len, num4_bytes]; rfl
/-- The number that a text begins with. -/
def rd4 (l : List Int) : Int := l.getD 0 0 * 16777216 + l.getD 1 0 * 65536 + l.getD 2 0 * 256 + l.getD 3 0
theorem rd4_num4 (n : Int) (h0 : 0 ≤ n) (h1 : n < 4294967296) (r : List Int) : rd4 (bytesOf (num4 n) ++ r) = n := by
  rw [num4_bytes]
  simp [rd4]
  omega
theorem or4 (a b c d : Int) (ha : 0 ≤ a ∧ a < 256) (hb : 0 ≤ b ∧ b < 256) (hc : 0 ≤ c ∧ c < 256) (hd : 0 ≤ d ∧ d < 256) :
    Go.bits .or .u32 (Go.bits .or .u32 (Go.bits .or .u32 (((a % 4294967296) * 16777216) % 4294967296) (((b % 4294967296) * 65536) % 4294967296)) (((c % 4294967296) * 256) % 4294967296)) (d % 4294967296) = a * 16777216 + b * 65536 + c * 256 + d := by
  have hk : ∀ n : Int, 0 ≤ n → n < 2 ^ 32 → IntKind.u32.wrap n = n := by
    intro n h0 h1
    rw [IntKind.wrap_u32]
    omega
  rw [bits_join .u32 32 (by decide) hk 24 ((a % 4294967296) * 16777216 % 4294967296) _ (by omega) (by omega) (by omega) (by omega) (by omega) (by omega)]
  rw [bits_join .u32 32 (by decide) hk 16 ((a % 4294967296) * 16777216 % 4294967296 + (b % 4294967296) * 65536 % 4294967296) _ (by omega) (by omega) (by omega) (by omega) (by omega) (by omega)]
  rw [bits_join .u32 32 (by decide) hk 8 ((a % 4294967296) * 16777216 % 4294967296 + (b % 4294967296) * 65536 % 4294967296 + (c % 4294967296) * 256 % 4294967296) _ (by omega) (by omega) (by omega) (by omega) (by omega) (by omega)]
  omega
theorem getD_range (l : List Int) (hl : ∀ c ∈ l, 0 ≤ c ∧ c < 256) (i : Nat) : 0 ≤ l.getD i 0 ∧ l.getD i 0 < 256 := by
  by_cases h : i < l.length
  · rw [List.getD_eq_getElem?_getD, List.getElem?_eq_getElem h]
    exact hl _ (List.getElem_mem h)
  · rw [List.getD_eq_getElem?_getD, List.getElem?_eq_none (by omega)]
    simp
theorem rd4_range (s : ByteArray) : 0 ≤ rd4 (bytesOf s) ∧ rd4 (bytesOf s) < 4294967296 := by
  have h := getD_range _ (bytesOf_range s)
  unfold rd4
  have := h 0; have := h 1; have := h 2; have := h 3
  omega

/-! ### frames -/
def frame (s : ByteArray) : ByteArray := if s.size ≤ 4000 then num4 s.size ++ num4 (chk (bytesOf (num4 s.size ++ s))) ++ s else ByteArray.empty
theorem frame_size (s : ByteArray) (h : s.size ≤ 4000) : (frame s).size = s.size + 8 := by
  unfold frame
  rw [if_pos h]
  simp only [ByteArray.size_append, num4_size]
  omega
/-- What a text begins with: the text of a frame, what is behind, whether there is one. -/
def unframe (s : ByteArray) : ByteArray × ByteArray × Bool :=
  if 8 ≤ s.size ∧ rd4 (bytesOf s) ≤ 4000 ∧ rd4 (bytesOf s) ≤ s.size - 8 ∧ rd4 ((bytesOf s).drop 4) = chk (bytesOf (s.extract 0 4 ++ s.extract 8 (8 + (rd4 (bytesOf s)).toNat)))
  then (s.extract 8 (8 + (rd4 (bytesOf s)).toNat), s.extract (8 + (rd4 (bytesOf s)).toNat) s.size, true) else (ByteArray.empty, ByteArray.empty, false)

theorem unframe_frame (s r : ByteArray) (h : s.size ≤ 4000) : unframe (frame s ++ r) = (s, r, true) := by
  have hs := frame_size s h
  have e0 : rd4 (bytesOf (frame s ++ r)) = s.size := by
    unfold frame
    rw [if_pos h]
    simp only [ByteArray.append_assoc]
    rw [bytesOf_append]
    exact rd4_num4 _ (by omega) (by omega) _
  have hx : frame s ++ r = num4 s.size ++ (num4 (chk (bytesOf (num4 s.size ++ s))) ++ (s ++ r)) := by
    unfold frame
    rw [if_pos h]
    simp only [ByteArray.append_assoc]
  have hy : frame s ++ r = (num4 s.size ++ num4 (chk (bytesOf (num4 s.size ++ s)))) ++ (s ++ r) := by
    rw [hx]
    simp only [ByteArray.append_assoc]
  have e1 : (frame s ++ r).extract 0 4 = num4 s.size := by
    rw [hx]
    exact ByteArray.extract_append_eq_left (by rw [num4_size])
  have e2 : (frame s ++ r).extract 8 (8 + s.size) = s := by
    rw [hy, ByteArray.extract_append]
    simp only [ByteArray.size_append, num4_size]
    rw [show (4 + 4 : Nat) = 8 by rfl, Nat.sub_self, Nat.add_sub_cancel_left, ByteArray.extract_append_eq_left rfl]
    have : (num4 ↑s.size ++ num4 (chk (bytesOf (num4 ↑s.size ++ s)))).extract 8 (8 + s.size) = ByteArray.empty := by
      rw [ByteArray.extract_eq_empty_iff]
      simp only [ByteArray.size_append, num4_size]
      omega
    rw [this, ByteArray.empty_append]
  have e3 : (frame s ++ r).extract (8 + s.size) (frame s ++ r).size = r := by
    exact ByteArray.extract_append_eq_right (by omega) (by rw [ByteArray.size_append])
  have e4 : rd4 ((bytesOf (frame s ++ r)).drop 4) = chk (bytesOf (num4 s.size ++ s)) := by
    rw [hx, bytesOf_append, List.drop_append_of_le_length (by rw [bytesOf_len, num4_size]; omega), List.drop_of_length_le (by rw [bytesOf_len, num4_size]; omega), List.nil_append, bytesOf_append]
    have := chk_range (bytesOf (num4 s.size ++ s))
    exact rd4_num4 _ this.1 (by omega) _
  unfold unframe
  rw [e0, Int.toNat_natCast, e1, e2, e3, e4, if_pos ⟨by rw [ByteArray.size_append]; omega, by omega, by rw [ByteArray.size_append]; omega, rfl⟩]

theorem unframe_short (s : ByteArray) (h : s.size < 8 + rd4 (bytesOf s)) : (unframe s).2.2 = false := by
  unfold unframe
  rw [if_neg (by omega)]

theorem unframe_torn (s : ByteArray) (h : s.size ≤ 4000) (k : Nat) (hk : k < (frame s).size) : (unframe ((frame s).extract 0 k)).2.2 = false := by
  have hs := frame_size s h
  by_cases h8 : k < 8
  · unfold unframe
    rw [if_neg (by rw [ByteArray.size_extract]; omega)]
  · apply unframe_short
    rw [bytesOf_extract, List.drop_zero]
    have hx : frame s = num4 s.size ++ (num4 (chk (bytesOf (num4 s.size ++ s))) ++ s) := by
      unfold frame
      rw [if_pos h, ByteArray.append_assoc]
    have : rd4 ((bytesOf (frame s)).take k) = s.size := by
      rw [hx, bytesOf_append, List.take_append, List.take_of_length_le (by rw [bytesOf_len, num4_size]; omega)]
      exact rd4_num4 _ (by omega) (by omega) _
    rw [this, ByteArray.size_extract]
    omega

end Go.Proofs.Ytpemehpfkkjpiaa.SealMath
