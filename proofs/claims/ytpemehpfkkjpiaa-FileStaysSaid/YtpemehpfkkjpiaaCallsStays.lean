/-
  What the printed functions of layer 12 come to: the file behind each act is the page's; for FileStays.
-/
import Derived.Test.YtpemehpfkkjpiaaOFilesx2
namespace Go.Proofs.Ytpemehpfkkjpiaa.OFiles
open Go.RowKit Go.Proofs.YtpemehpfkkjpiaaW.PrintWords Go.Proofs.YtpemehpfkkjpiaaW.PrintLast Go.Proofs.YtpemehpfkkjpiaaW.PrintMore
set_option linter.unusedVariables false

def E : ByteArray := ⟨#[]⟩
theorem E_size : E.size = 0 := rfl
theorem toL_eq (a : ByteArray) : a.toList = a.data.toList := ByteArray.toList_eq a
/-- Whether a file may be. -/
def may (s t : ByteArray) (c : Int) : Bool := decide (1 ≤ c ∧ c ≤ 60000 ∧ (s.size : Int) + t.size ≤ c)
theorem may_iff {s t : ByteArray} {c : Int} : may s t c = true ↔ (1 ≤ c ∧ c ≤ 60000 ∧ (s.size : Int) + t.size ≤ c) := by unfold may; simp
theorem May_eq (s t : ByteArray) (c : Int) (h : s.size + t.size ≤ 1000000000) : file_May.f s t c = some (may s t c) := by
  unfold file_May.f may
  rw [show wrap64 ((s.size : Int) + (t.size : Int)) = (s.size : Int) + t.size by unfold wrap64; omega]
  by_cases h1 : c ≥ 1
  · rw [if_pos h1]
    by_cases h2 : c ≤ 60000
    · rw [if_pos h2]
      congr 1
      apply decide_eq_decide.2
      omega
    · rw [if_neg h2, decide_eq_false (by omega)]
  · rw [if_neg h1, decide_eq_false (by omega)]
theorem RefFile_eq (s t : ByteArray) (c : Int) (h : s.size + t.size ≤ 1000000000) : amanuensisref9_File.f s t c = some (may s t c) := by
  unfold amanuensisref9_File.f amanuensisref0_Between.f may
  by_cases h1 : c ≥ 1
  · rw [if_pos h1]
    by_cases h2 : c ≤ 60000
    · rw [decide_eq_true h2]
      simp only [Option.bind_some, if_true]
      by_cases h3 : (s.size : Int) ≤ c
      · rw [if_pos h3, show wrap64 (c - (s.size : Int)) = c - s.size by unfold wrap64; omega]
        congr 1
        apply decide_eq_decide.2
        omega
      · rw [if_neg h3, decide_eq_false (by omega)]
    · rw [decide_eq_false h2]
      simp only [Option.bind_some]
      rw [if_neg (by decide), decide_eq_false (by omega)]
  · rw [if_neg h1]
    simp only [Option.bind_some]
    rw [if_neg (by decide), decide_eq_false (by omega)]
theorem Room_eq (s t : ByteArray) (c : Int) (h : may s t c = true) : file_Room.f s t c = some (c - s.size - t.size) := by
  have h := may_iff.1 h
  unfold file_Room.f
  congr 1
  rw [show wrap64 (c - (s.size : Int)) = c - s.size by unfold wrap64; omega]
  unfold wrap64; omega
/-- How much stays in a crash. -/
def kept (t : ByteArray) (n : Int) : Nat := (mn (mx n 0) (t.size : Int)).toNat
theorem kept_le (t : ByteArray) (n : Int) : 0 ≤ mn (mx n 0) (t.size : Int) ∧ mn (mx n 0) (t.size : Int) ≤ (t.size : Int) := by
  unfold mn mx
  repeat' split
  all_goals omega
theorem kept_all (t : ByteArray) : t.extract 0 (kept t (t.size : Int)) = t := by
  have : kept t (t.size : Int) = t.size := by
    unfold kept mn mx
    repeat' split
    all_goals omega
  rw [this, ByteArray.extract_zero_size]
theorem Crash_yes (s t : ByteArray) (c n : Int) (hs : s.size + t.size ≤ 1000000000) (h : may s t c = true) : file_Crash.f s t c n = some (s ++ t.extract 0 (kept t n), E, c, 0) := by
  have hk := kept_le t n
  unfold file_Crash.f
  rw [May_eq s t c hs, h]
  simp only [Option.bind_some, if_true]
  rw [if_pos hk.1, if_pos hk.2, if_pos (by rw [ByteArray.size_extract]; omega)]
  rfl
theorem Crash_no (s t : ByteArray) (c n : Int) (hs : s.size + t.size ≤ 1000000000) (h : may s t c = false) : file_Crash.f s t c n = some (E, E, 0, 1) := by
  unfold file_Crash.f
  rw [May_eq s t c hs, h]
  rfl
theorem Sync_yes (s t : ByteArray) (c : Int) (hs : s.size + t.size ≤ 1000000000) (h : may s t c = true) : file_Sync.f s t c = some (s ++ t, E, c, 0) := by
  unfold file_Sync.f
  rw [Crash_yes s t c _ hs h, kept_all]
  rfl
theorem Sync_no (s t : ByteArray) (c : Int) (hs : s.size + t.size ≤ 1000000000) (h : may s t c = false) : file_Sync.f s t c = some (E, E, 0, 1) := by
  unfold file_Sync.f
  rw [Crash_no s t c _ hs h]
  rfl
theorem RefSync_eq (s t : ByteArray) (c : Int) (hs : s.size + t.size ≤ 1000000000) : amanuensisref9_Sync.f s t c = some (s ++ t, E, c) := by
  unfold amanuensisref9_Sync.f
  rw [if_pos (by omega)]
  rfl
theorem Append_no (s t : ByteArray) (c : Int) (x : ByteArray) (hs : s.size + t.size ≤ 1000000000) (h : may s t c = false) : file_Append.f s t c x = some (E, E, 0, 1) := by
  unfold file_Append.f
  rw [May_eq s t c hs, h]
  rfl
theorem Append_full (s t : ByteArray) (c : Int) (x : ByteArray) (hs : s.size + t.size ≤ 1000000000) (h : may s t c = true) (hx : ¬ (x.size : Int) ≤ c - s.size - t.size) : file_Append.f s t c x = some (E, E, 0, 7) := by
  unfold file_Append.f
  rw [May_eq s t c hs, h]
  simp only [Option.bind_some, if_true]
  rw [Room_eq s t c h]
  simp only [Option.bind_some]
  rw [if_pos (by omega)]
  rfl
theorem Append_yes (s t : ByteArray) (c : Int) (x : ByteArray) (hs : s.size + t.size ≤ 1000000000) (h : may s t c = true) (hx : (x.size : Int) ≤ c - s.size - t.size) : file_Append.f s t c x = some (s, t ++ x, c, 0) := by
  have hm := may_iff.1 h
  unfold file_Append.f
  rw [May_eq s t c hs, h]
  simp only [Option.bind_some, if_true]
  rw [Room_eq s t c h]
  simp only [Option.bind_some]
  rw [if_neg (by omega), if_pos (by omega)]

theorem New_yes (c : Int) (h : 1 ≤ c ∧ c ≤ 60000) : file_New.f c = some (E, E, c, 0) := by
  have hm : may (⟨#[]⟩ : ByteArray) (⟨#[]⟩ : ByteArray) c = true := may_iff.2 ⟨h.1, h.2, by show (0 : Int) + 0 ≤ c; omega⟩
  unfold file_New.f
  rw [May_eq _ _ c (by decide), hm]
  rfl
theorem New_no (c : Int) (h : ¬ (1 ≤ c ∧ c ≤ 60000)) : file_New.f c = some (E, E, 0, 1) := by
  have hm : may (⟨#[]⟩ : ByteArray) (⟨#[]⟩ : ByteArray) c = false := by
    cases hb : may (⟨#[]⟩ : ByteArray) (⟨#[]⟩ : ByteArray) c with
    | false => rfl
    | true => exact absurd ⟨(may_iff.1 hb).1, (may_iff.1 hb).2.1⟩ h
  unfold file_New.f
  rw [May_eq _ _ c (by decide), hm]
  rfl
theorem wakes_eq : amanuensislaw12_wakes.f = some true := by
  have h0 : E.size = 0 := rfl
  have h3 : (⟨#[97, 98, 99]⟩ : ByteArray).size = 3 := rfl
  have ha : (E ++ ⟨#[97, 98, 99]⟩ : ByteArray) = ⟨#[97, 98, 99]⟩ := ByteArray.empty_append
  unfold amanuensislaw12_wakes.f
  rw [New_yes 9 (by omega)]
  simp only [Option.bind_some]
  rw [Append_yes E E 9 _ (by decide) (by decide) (by decide), ha]
  simp only [Option.bind_some]
  rw [Crash_yes E _ 9 0 (by decide) (by decide)]
  simp only [Option.bind_some]
  rw [Crash_yes E _ 9 2 (by decide) (by decide)]
  simp only [Option.bind_some, amanuensislaw12_num.f, if_true]
  have k0 : kept ⟨#[97, 98, 99]⟩ 0 = 0 := by decide
  have k2 : kept ⟨#[97, 98, 99]⟩ 2 = 2 := by decide
  have e0 : (E ++ (⟨#[97, 98, 99]⟩ : ByteArray).extract 0 0).toList = [] := by
    rw [ByteArray.extract_same, ByteArray.append_empty, toL_eq]
    rfl
  have e2 : (E ++ (⟨#[97, 98, 99]⟩ : ByteArray).extract 0 2).toList = [97, 98] := by
    rw [toL_eq, ByteArray.data_append, Array.toList_append, ByteArray.data_extract]
    rfl
  rw [k0, k2, e0, e2]
  simp only [if_true, toL_eq]
  rfl

theorem heavy_loop (p0 p1 : ByteArray) (p2 p3 : Int) (L : List S32) (hL : L.length ≤ 4398046511104) (hS : ∀ x ∈ L, x.f2.size ≤ 140737488351232) : ∀ (d : Nat) (n i : Int), 0 ≤ n → n ≤ 400000000000000 → 0 ≤ i → i + d = L.length →
    ∃ b, Ev (fun k => amanuensislaw12_Heavy.l0 k n i p0 p1 p2 p3 L) b ∧ (b = false → n ≤ 6000) := by
  intro d
  induction d with
  | zero =>
    intro n i h0 h1 h2 h3
    refine ⟨decide (n > 6000), Ev.step (f := fun _ => some _) (fun k => by rw [amanuensislaw12_Heavy.l0, if_neg (by omega)]) (Ev.now _), fun h => ?_⟩
    have := of_decide_eq_false h
    omega
  | succ d ih =>
    intro n i h0 h1 h2 h3
    by_cases hn : n < 1048576
    · have hx : (rd_T32 L i).f2.size ≤ 140737488351232 := by
        have hi : i.toNat < L.length := by omega
        have : rd_T32 L i = L[i.toNat] := by unfold rd_T32; rw [List.getD_eq_getElem?_getD, List.getElem?_eq_getElem hi]; rfl
        rw [this]
        exact hS _ (List.getElem_mem hi)
      obtain ⟨b, hb, hlt⟩ := ih (n + ((rd_T32 L i).f2.size : Int)) (i + 1) (by omega) (by omega) (by omega) (by omega)
      refine ⟨b, Ev.step (fun k => ?_) hb, fun h => by have := hlt h; omega⟩
      rw [amanuensislaw12_Heavy.l0, if_pos (by omega), if_pos hn, if_pos h2, show wrap64 (i + 1) = i + 1 by unfold wrap64; omega, show wrap64 (n + ((rd_T32 L i).f2.size : Int)) = n + ((rd_T32 L i).f2.size : Int) by unfold wrap64; omega]
    · refine ⟨decide (n > 6000), Ev.step (f := fun _ => some _) (fun k => by rw [amanuensislaw12_Heavy.l0, if_pos (by omega), if_neg hn]) (Ev.now _), fun h => ?_⟩
      have := of_decide_eq_false h
      omega

/-- The rest of layer 12's words: what was synced stays. -/
theorem ext_whole (s u : ByteArray) : (s ++ u).extract 0 s.size = s := ByteArray.extract_append_eq_left rfl
theorem ext_pre (s t : ByteArray) (k : Nat) (hk : k ≤ t.size) : (s ++ t).extract 0 (s ++ t.extract 0 k).size = s ++ t.extract 0 k := by
  have h : s ++ t = (s ++ t.extract 0 k) ++ t.extract k t.size := by
    rw [ByteArray.append_assoc, ByteArray.extract_append_extract]
    rw [show min 0 k = 0 by omega, show max k t.size = t.size by omega, ByteArray.extract_zero_size]
  rw [h]
  exact ByteArray.extract_append_eq_left rfl
end Go.Proofs.Ytpemehpfkkjpiaa.OFiles
