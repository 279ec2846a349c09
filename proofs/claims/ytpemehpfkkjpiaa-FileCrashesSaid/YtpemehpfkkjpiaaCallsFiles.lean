/-
  What the printed functions of layer 12 come to: the file behind each act is the page's; a whole script answers true.
-/
import Derived.Test.YtpemehpfkkjpiaaOFilesx5
namespace Go.Proofs.Ytpemehpfkkjpiaa.OFiles
open Go.RowKit Go.Proofs.YtpemehpfkkjpiaaW.PrintWords Go.Proofs.YtpemehpfkkjpiaaW.PrintLast Go.Proofs.YtpemehpfkkjpiaaW.PrintMore
set_option linter.unusedVariables false

def E : ByteArray := ⟨#[]⟩
theorem E_size : E.size = 0 := rfl
theorem toL_eq (a : ByteArray) : a.toList = a.data.toList := ByteArray.toList_eq a
/-- Whether a file may be. -/
def may (s t : ByteArray) (c : Int) : Bool := decide (1 ≤ c ∧ c ≤ 60000 ∧ (s.size : Int) + t.size ≤ c)
theorem may_iff {s t : ByteArray} {c : Int} : may s t c = true ↔ (1 ≤ c ∧ c ≤ 60000 ∧ (s.size : Int) + t.size ≤ c) := by unfold may; simp
theorem May_eq (s t : ByteArray) (c : Int) (h : s.size + t.size ≤ 1000000000) : file_May.f s t c = some (may s t c) := by
  unfold file_May.f may
  rw [show wrap64 ((s.size : Int) + (t.size : Int)) = (s.size : Int) + t.size by unfold wrap64; omega]
  by_cases h1 : c ≥ 1
  · rw [if_pos h1]
    by_cases h2 : c ≤ 60000
    · rw [if_pos h2]
      congr 1
      apply decide_eq_decide.2
      omega
    · rw [if_neg h2, decide_eq_false (by omega)]
  · rw [if_neg h1, decide_eq_false (by omega)]
theorem RefFile_eq (s t : ByteArray) (c : Int) (h : s.size + t.size ≤ 1000000000) : amanuensisref9_File.f s t c = some (may s t c) := by
  unfold amanuensisref9_File.f amanuensisref0_Between.f may
  by_cases h1 : c ≥ 1
  · rw [if_pos h1]
    by_cases h2 : c ≤ 60000
    · rw [decide_eq_true h2]
      simp only [Option.bind_some, if_true]
      by_cases h3 : (s.size : Int) ≤ c
      · rw [if_pos h3, show wrap64 (c - (s.size : Int)) = c - s.size by unfold wrap64; omega]
        congr 1
        apply decide_eq_decide.2
        omega
      · rw [if_neg h3, decide_eq_false (by omega)]
    · rw [decide_eq_false h2]
      simp only [Option.bind_some]
      rw [if_neg (by decide), decide_eq_false (by omega)]
  · rw [if_neg h1]
    simp only [Option.bind_some]
    rw [if_neg (by decide), decide_eq_false (by omega)]
theorem Room_eq (s t : ByteArray) (c : Int) (h : may s t c = true) : file_Room.f s t c = some (c - s.size - t.size) := by
  have h := may_iff.1 h
  unfold file_Room.f
  congr 1
  rw [show wrap64 (c - (s.size : Int)) = c - s.size by unfold wrap64; omega]
  unfold wrap64; omega
theorem RefFree_eq (s t : ByteArray) (c : Int) (h : may s t c = true) : amanuensisref9_Free.f s t c = some (c - s.size - t.size) := by
  have h := may_iff.1 h
  unfold amanuensisref9_Free.f
  congr 1
  rw [show wrap64 (c - (s.size : Int)) = c - s.size by unfold wrap64; omega]
  unfold wrap64; omega
theorem Free_yes (s t : ByteArray) (c : Int) (hs : s.size + t.size ≤ 1000000000) (h : may s t c = true) : file_Free.f s t c = some (c - s.size - t.size, 0) := by
  unfold file_Free.f
  rw [May_eq s t c hs, h]
  simp only [Option.bind_some, if_true, Room_eq s t c h]
theorem Free_no (s t : ByteArray) (c : Int) (hs : s.size + t.size ≤ 1000000000) (h : may s t c = false) : file_Free.f s t c = some (0, 1) := by
  unfold file_Free.f
  rw [May_eq s t c hs, h]
  rfl
theorem Check_yes (s t : ByteArray) (c : Int) (hs : s.size + t.size ≤ 1000000000) (h : may s t c = true) : file_Check.f s t c = some 0 := by
  unfold file_Check.f
  rw [May_eq s t c hs, h]
  rfl
theorem Check_no (s t : ByteArray) (c : Int) (hs : s.size + t.size ≤ 1000000000) (h : may s t c = false) : file_Check.f s t c = some 1 := by
  unfold file_Check.f
  rw [May_eq s t c hs, h]
  rfl
/-- How much stays in a crash. -/
def kept (t : ByteArray) (n : Int) : Nat := (mn (mx n 0) (t.size : Int)).toNat
theorem kept_le (t : ByteArray) (n : Int) : 0 ≤ mn (mx n 0) (t.size : Int) ∧ mn (mx n 0) (t.size : Int) ≤ (t.size : Int) := by
  unfold mn mx
  repeat' split
  all_goals omega
theorem kept_all (t : ByteArray) : t.extract 0 (kept t (t.size : Int)) = t := by
  have : kept t (t.size : Int) = t.size := by
    unfold kept mn mx
    repeat' split
    all_goals omega
  rw [this, ByteArray.extract_zero_size]
theorem Crash_yes (s t : ByteArray) (c n : Int) (hs : s.size + t.size ≤ 1000000000) (h : may s t c = true) : file_Crash.f s t c n = some (s ++ t.extract 0 (kept t n), E, c, 0) := by
  have hk := kept_le t n
  unfold file_Crash.f
  rw [May_eq s t c hs, h]
  simp only [Option.bind_some, if_true]
  rw [if_pos hk.1, if_pos hk.2, if_pos (by rw [ByteArray.size_extract]; omega)]
  rfl
theorem Crash_no (s t : ByteArray) (c n : Int) (hs : s.size + t.size ≤ 1000000000) (h : may s t c = false) : file_Crash.f s t c n = some (E, E, 0, 1) := by
  unfold file_Crash.f
  rw [May_eq s t c hs, h]
  rfl
theorem RefCrash_eq (s t : ByteArray) (c n : Int) (hs : s.size + t.size ≤ 1000000000) : amanuensisref9_Crash.f s t c n = some (s ++ t.extract 0 (kept t n), E, c) := by
  have hk := kept_le t n
  unfold amanuensisref9_Crash.f
  rw [if_pos hk.1, if_pos hk.2, if_pos (by rw [ByteArray.size_extract]; omega)]
  rfl
theorem Sync_yes (s t : ByteArray) (c : Int) (hs : s.size + t.size ≤ 1000000000) (h : may s t c = true) : file_Sync.f s t c = some (s ++ t, E, c, 0) := by
  unfold file_Sync.f
  rw [Crash_yes s t c _ hs h, kept_all]
  rfl
theorem Sync_no (s t : ByteArray) (c : Int) (hs : s.size + t.size ≤ 1000000000) (h : may s t c = false) : file_Sync.f s t c = some (E, E, 0, 1) := by
  unfold file_Sync.f
  rw [Crash_no s t c _ hs h]
  rfl
theorem RefSync_eq (s t : ByteArray) (c : Int) (hs : s.size + t.size ≤ 1000000000) : amanuensisref9_Sync.f s t c = some (s ++ t, E, c) := by
  unfold amanuensisref9_Sync.f
  rw [if_pos (by omega)]
  rfl
theorem Append_no (s t : ByteArray) (c : Int) (x : ByteArray) (hs : s.size + t.size ≤ 1000000000) (h : may s t c = false) : file_Append.f s t c x = some (E, E, 0, 1) := by
  unfold file_Append.f
  rw [May_eq s t c hs, h]
  rfl
theorem Append_full (s t : ByteArray) (c : Int) (x : ByteArray) (hs : s.size + t.size ≤ 1000000000) (h : may s t c = true) (hx : ¬ (x.size : Int) ≤ c - s.size - t.size) : file_Append.f s t c x = some (E, E, 0, 7) := by
  unfold file_Append.f
  rw [May_eq s t c hs, h]
  simp only [Option.bind_some, if_true]
  rw [Room_eq s t c h]
  simp only [Option.bind_some]
  rw [if_pos (by omega)]
  rfl
theorem Append_yes (s t : ByteArray) (c : Int) (x : ByteArray) (hs : s.size + t.size ≤ 1000000000) (h : may s t c = true) (hx : (x.size : Int) ≤ c - s.size - t.size) : file_Append.f s t c x = some (s, t ++ x, c, 0) := by
  have hm := may_iff.1 h
  unfold file_Append.f
  rw [May_eq s t c hs, h]
  simp only [Option.bind_some, if_true]
  rw [Room_eq s t c h]
  simp only [Option.bind_some]
  rw [if_neg (by omega), if_pos (by omega)]

theorem New_yes (c : Int) (h : 1 ≤ c ∧ c ≤ 60000) : file_New.f c = some (E, E, c, 0) := by
  have hm : may (⟨#[]⟩ : ByteArray) (⟨#[]⟩ : ByteArray) c = true := may_iff.2 ⟨h.1, h.2, by show (0 : Int) + 0 ≤ c; omega⟩
  unfold file_New.f
  rw [May_eq _ _ c (by decide), hm]
  rfl
theorem New_no (c : Int) (h : ¬ (1 ≤ c ∧ c ≤ 60000)) : file_New.f c = some (E, E, 0, 1) := by
  have hm : may (⟨#[]⟩ : ByteArray) (⟨#[]⟩ : ByteArray) c = false := by
    cases hb : may (⟨#[]⟩ : ByteArray) (⟨#[]⟩ : ByteArray) c with
    | false => rfl
    | true => exact absurd ⟨(may_iff.1 hb).1, (may_iff.1 hb).2.1⟩ h
  unfold file_New.f
  rw [May_eq _ _ c (by decide), hm]
  rfl
theorem wakes_eq : amanuensislaw12_wakes.f = some true := by
  have h0 : E.size = 0 := rfl
  have h3 : (⟨#[97, 98, 99]⟩ : ByteArray).size = 3 := rfl
  have ha : (E ++ ⟨#[97, 98, 99]⟩ : ByteArray) = ⟨#[97, 98, 99]⟩ := ByteArray.empty_append
  unfold amanuensislaw12_wakes.f
  rw [New_yes 9 (by omega)]
  simp only [Option.bind_some]
  rw [Append_yes E E 9 _ (by decide) (by decide) (by decide), ha]
  simp only [Option.bind_some]
  rw [Crash_yes E _ 9 0 (by decide) (by decide)]
  simp only [Option.bind_some]
  rw [Crash_yes E _ 9 2 (by decide) (by decide)]
  simp only [Option.bind_some, amanuensislaw12_num.f, if_true]
  have k0 : kept ⟨#[97, 98, 99]⟩ 0 = 0 := by decide
  have k2 : kept ⟨#[97, 98, 99]⟩ 2 = 2 := by decide
  have e0 : (E ++ (⟨#[97, 98, 99]⟩ : ByteArray).extract 0 0).toList = [] := by
    rw [ByteArray.extract_same, ByteArray.append_empty, toL_eq]
    rfl
  have e2 : (E ++ (⟨#[97, 98, 99]⟩ : ByteArray).extract 0 2).toList = [97, 98] := by
    rw [toL_eq, ByteArray.data_append, Array.toList_append, ByteArray.data_extract]
    rfl
  rw [k0, k2, e0, e2]
  simp only [if_true, toL_eq]
  rfl

theorem eqB (a : ByteArray) : (a.toList == a.toList) = true := by simp
/-- Where program and page tell the same of an act, the rest of the step agrees. -/
theorem step_j4 (bad : Int) (s t : ByteArray) (c : Int) (x0 x1 : ByteArray) (x2 : Int) :
    Ev (fun k => amanuensislaw12_step.j4 k bad false s t c x0 x1 x2) (if bad = 0 then (x0, x1, x2, true) else (s, t, c, true)) := by
  refine Ev.step (f := fun _ => some (if bad = 0 then (x0, x1, x2, true) else (s, t, c, true))) (fun k => ?_) (Ev.now _)
  rw [amanuensislaw12_step.j4, if_neg (by decide)]
  split <;> rfl
theorem step_j2 (bad : Int) (s t : ByteArray) (c : Int) (x0 x1 : ByteArray) (x2 : Int) (hs : s.size + t.size ≤ 1000000000) :
    Ev (fun k => amanuensislaw12_step.j2 k (may s t c) bad bad s t c x0 x1 x2 x0 x1 x2) (if bad = 0 then (x0, x1, x2, true) else (s, t, c, true)) := by
  have hx : (!(x0.toList == x0.toList) || (!(x1.toList == x1.toList) || (!(x2 == x2)))) = false := by simp
  cases hm : may s t c with
  | true =>
    refine Ev.step (f := fun k => amanuensislaw12_step.j3 k true bad bad (c - s.size - t.size) 0 0 (c - s.size - t.size) s t c x0 x1 x2 x0 x1 x2) (fun k => ?_) (Ev.step (fun k => ?_) (step_j4 bad s t c x0 x1 x2))
    · rw [amanuensislaw12_step.j2, Free_yes s t c hs hm]
      simp only [Option.bind_some, if_true]
      rw [RefFree_eq s t c hm]
      rfl
    · rw [amanuensislaw12_step.j3, Check_yes s t c hs hm, hx]
      simp [amanuensislaw12_num.f]
  | false =>
    refine Ev.step (f := fun k => amanuensislaw12_step.j3 k false bad bad 0 1 1 0 s t c x0 x1 x2 x0 x1 x2) (fun k => ?_) (Ev.step (fun k => ?_) (step_j4 bad s t c x0 x1 x2))
    · rw [amanuensislaw12_step.j2, Free_no s t c hs hm]
      simp
    · rw [amanuensislaw12_step.j3, Check_no s t c hs hm, hx]
      simp [amanuensislaw12_num.f]

/-- A step's answer: a file again, of no more bytes. -/
def Good (g : Nat → Option (ByteArray × ByteArray × Int × Bool)) : Prop := ∃ s t c, Ev g (s, t, c, true) ∧ s.size + t.size ≤ 60000
theorem good_j2 (bad : Int) (s t : ByteArray) (c : Int) (x0 x1 : ByteArray) (x2 : Int) (hs : s.size + t.size ≤ 60000) (hx : bad = 0 → x0.size + x1.size ≤ 60000) :
    Good (fun k => amanuensislaw12_step.j2 k (may s t c) bad bad s t c x0 x1 x2 x0 x1 x2) := by
  have h := step_j2 bad s t c x0 x1 x2 (by omega)
  by_cases hb : bad = 0
  · rw [if_pos hb] at h
    exact ⟨_, _, _, h, hx hb⟩
  · rw [if_neg hb] at h
    exact ⟨_, _, _, h, hs⟩
theorem Good.step {g f : Nat → Option (ByteArray × ByteArray × Int × Bool)} (h : ∀ k, g (k + 1) = f k) (k : Good f) : Good g := by
  obtain ⟨s, t, c, e, hs⟩ := k
  exact ⟨s, t, c, Ev.step h e, hs⟩
theorem Good.congr {g f : Nat → Option (ByteArray × ByteArray × Int × Bool)} (h : ∀ k, g k = f k) (k : Good f) : Good g := by
  obtain ⟨s, t, c, e, hs⟩ := k
  exact ⟨s, t, c, Ev.congr h e, hs⟩
theorem ext_le (t : ByteArray) (n : Int) : (t.extract 0 (kept t n)).size ≤ t.size := by rw [ByteArray.size_extract]; omega

/-! ### an act -/
theorem good_sync (s t : ByteArray) (c : Int) (v a n : Int) (x : ByteArray) (hs : s.size + t.size ≤ 60000) : Good (fun k => amanuensislaw12_step.j0 k (may s t c) 1 v true s t c a n x E E 0) := by
  cases hm : may s t c with
  | true =>
    have hh := may_iff.1 hm
    refine Good.step (fun k => ?_) (hm ▸ good_j2 0 s t c (s ++ t) E c hs (fun _ => by rw [ByteArray.size_append, E_size]; omega))
    rw [amanuensislaw12_step.j0, if_pos rfl, Sync_yes s t c (by omega) hm]
    simp only [Option.bind_some, if_true]
    rw [RefSync_eq s t c (by omega)]
    rfl
  | false =>
    refine Good.step (fun k => ?_) (hm ▸ good_j2 1 s t c E E 0 hs (fun h => absurd h (by decide)))
    rw [amanuensislaw12_step.j0, if_pos rfl, Sync_no s t c (by omega) hm]
    simp
theorem good_crash (s t : ByteArray) (c : Int) (a n : Int) (x : ByteArray) (hs : s.size + t.size ≤ 60000) : Good (fun k => amanuensislaw12_step.j0 k (may s t c) 1 5 false s t c a n x E E 0) := by
  cases hm : may s t c with
  | true =>
    have hh := may_iff.1 hm
    refine Good.step (fun k => ?_) (hm ▸ good_j2 0 s t c (s ++ t.extract 0 (kept t n)) E c hs (fun _ => by have := ext_le t n; rw [ByteArray.size_append, E_size]; omega))
    rw [amanuensislaw12_step.j0, if_neg (by decide), if_pos rfl, Crash_yes s t c n (by omega) hm]
    simp only [Option.bind_some, if_true]
    rw [RefCrash_eq s t c n (by omega)]
    rfl
  | false =>
    refine Good.step (fun k => ?_) (hm ▸ good_j2 1 s t c E E 0 hs (fun h => absurd h (by decide)))
    rw [amanuensislaw12_step.j0, if_neg (by decide), if_pos rfl, Crash_no s t c n (by omega) hm]
    simp
theorem good_append (s t : ByteArray) (c : Int) (v a n : Int) (x : ByteArray) (hs : s.size + t.size ≤ 60000) (h5 : v ≠ 5) (h6 : v ≠ 6) : Good (fun k => amanuensislaw12_step.j0 k (may s t c) 1 v false s t c a n x E E 0) := by
  cases hm : may s t c with
  | true =>
    have hh := may_iff.1 hm
    by_cases hx : (x.size : Int) ≤ c - s.size - t.size
    · refine Good.step (fun k => ?_) (hm ▸ good_j2 0 s t c s (t ++ x) c hs (fun _ => by rw [ByteArray.size_append]; omega))
      rw [amanuensislaw12_step.j0, if_neg (by decide), if_neg h5, if_neg h6, Append_yes s t c x (by omega) hm hx]
      simp only [Option.bind_some, if_true]
      rw [RefFree_eq s t c hm]
      simp only [Option.bind_some]
      rw [if_pos hx, if_pos (by omega)]
    · refine Good.step (fun k => ?_) (hm ▸ good_j2 7 s t c E E 0 hs (fun h => absurd h (by decide)))
      rw [amanuensislaw12_step.j0, if_neg (by decide), if_neg h5, if_neg h6, Append_full s t c x (by omega) hm hx]
      simp only [Option.bind_some, if_true]
      rw [RefFree_eq s t c hm]
      simp only [Option.bind_some]
      rw [if_neg hx]
  | false =>
    refine Good.step (fun k => ?_) (hm ▸ good_j2 1 s t c E E 0 hs (fun h => absurd h (by decide)))
    rw [amanuensislaw12_step.j0, if_neg (by decide), if_neg h5, if_neg h6, Append_no s t c x (by omega) hm]
    simp

/-! ### a cut -/
def bad (s t : ByteArray) (c n : Int) : Int := if may s t c = true ∧ 0 ≤ n ∧ n ≤ s.size then (if t.toList = [] then 0 else 9) else 1
def cutS (s t : ByteArray) (c n : Int) : ByteArray := if bad s t c n = 0 then s.extract 0 n.toNat else E
def cutC (s t : ByteArray) (c n : Int) : Int := if bad s t c n = 0 then c else 0
theorem Cut_ev (s t : ByteArray) (c n : Int) (hs : s.size + t.size ≤ 1000000000) : Ev (fun k => file_Cut.f k s t c n) (cutS s t c n, E, cutC s t c n, bad s t c n) := by
  have hj1 : bad s t c n = 1 → Ev (fun k => file_Cut.j0 k n true s t c) (cutS s t c n, E, cutC s t c n, bad s t c n) := fun hb => by
    refine Ev.step (f := fun _ => some _) (fun k => ?_) (Ev.now _)
    unfold cutS cutC
    rw [file_Cut.j0, if_pos rfl, hb, if_neg (by decide), if_neg (by decide)]
    rfl
  have hj2 : may s t c = true → 0 ≤ n → n ≤ s.size → Ev (fun k => file_Cut.j0 k n false s t c) (cutS s t c n, E, cutC s t c n, bad s t c n) := fun h1 h2 h3 => by
    refine Ev.step (f := fun _ => some _) (fun k => ?_) (Ev.now _)
    have hb : bad s t c n = if t.toList = [] then 0 else 9 := by unfold bad; rw [if_pos ⟨h1, h2, h3⟩]
    unfold cutS cutC
    rw [file_Cut.j0, if_neg (by decide), hb]
    by_cases ht : t.toList = []
    · have hE : t = E := by
        rw [toL_eq] at ht
        exact ByteArray.ext (Array.ext' ht)
      simp only [if_pos ht]
      rw [if_pos h2, if_pos h3, hE]
      simp only [if_true]
    · simp only [if_neg ht]
      rw [if_neg (by decide), if_neg (by decide)]
      rfl
  cases hm : may s t c with
  | true =>
    by_cases h0 : n < 0
    · refine Ev.congr (fun k => ?_) (hj1 (by unfold bad; rw [if_neg (by omega)]))
      unfold file_Cut.f
      rw [May_eq s t c hs, hm]
      simp only [Option.bind_some, if_true, if_pos h0]
    · by_cases h1 : n > (s.size : Int)
      · refine Ev.congr (fun k => ?_) (hj1 (by unfold bad; rw [if_neg (by omega)]))
        unfold file_Cut.f
        rw [May_eq s t c hs, hm]
        simp only [Option.bind_some, if_true, if_neg h0, decide_eq_true h1]
      · refine Ev.congr (fun k => ?_) (hj2 hm (by omega) (by omega))
        unfold file_Cut.f
        rw [May_eq s t c hs, hm]
        simp only [Option.bind_some, if_true, if_neg h0, decide_eq_false h1]
  | false =>
    refine Ev.congr (fun k => ?_) (hj1 (by unfold bad; rw [hm, if_neg (by simp)]))
    unfold file_Cut.f
    rw [May_eq s t c hs, hm]
    simp
theorem Good.bind {α : Type} {g : Nat → Option α} {f : Nat → α → Option (ByteArray × ByteArray × Int × Bool)} {a : α} (h : Ev g a) (k : Good (fun n => f n a)) : Good (fun n => (g n).bind (f n)) := by
  obtain ⟨s, t, c, e, hs⟩ := k
  exact ⟨s, t, c, Ev.bind h e, hs⟩
theorem good_cut (s t : ByteArray) (c : Int) (a n : Int) (x : ByteArray) (hs : s.size + t.size ≤ 60000) : Good (fun k => amanuensislaw12_step.j0 k (may s t c) 1 6 false s t c a n x E E 0) := by
  have hj := good_j2 (bad s t c n) s t c (cutS s t c n) E (cutC s t c n) hs (fun hb => by unfold cutS; rw [if_pos hb, ByteArray.size_extract, E_size]; omega)
  refine Good.step (f := fun k => (file_Cut.f k s t c n).bind fun bt180 => if may s t c = true then (amanuensisref0_Num.f n (s.size : Int)).bind fun t184 => amanuensislaw12_step.j1 k (may s t c) 1 bt180.2.2.2 t184 s t c a n x bt180.1 bt180.2.1 bt180.2.2.1 E E 0 else amanuensislaw12_step.j1 k (may s t c) 1 bt180.2.2.2 false s t c a n x bt180.1 bt180.2.1 bt180.2.2.1 E E 0) (fun k => ?_) ?_
  · rw [amanuensislaw12_step.j0, if_neg (by decide), if_neg (by decide), if_pos rfl]
  · refine Good.bind (f := fun k (bt180 : ByteArray × ByteArray × Int × Int) => if may s t c = true then (amanuensisref0_Num.f n (s.size : Int)).bind fun t184 => amanuensislaw12_step.j1 k (may s t c) 1 bt180.2.2.2 t184 s t c a n x bt180.1 bt180.2.1 bt180.2.2.1 E E 0 else amanuensislaw12_step.j1 k (may s t c) 1 bt180.2.2.2 false s t c a n x bt180.1 bt180.2.1 bt180.2.2.1 E E 0) (Cut_ev s t c n (by omega)) ?_
    have hnum : amanuensisref0_Num.f n (s.size : Int) = some (decide (0 ≤ n ∧ n ≤ s.size)) := by
      unfold amanuensisref0_Num.f
      by_cases h0 : n ≥ 0
      · rw [if_pos h0]
        congr 1
        apply decide_eq_decide.2
        omega
      · rw [if_neg h0, decide_eq_false (by omega)]
    by_cases hb : may s t c = true ∧ 0 ≤ n ∧ n ≤ s.size
    · refine Good.congr (f := fun k => amanuensislaw12_step.j1 k (may s t c) 1 (bad s t c n) true s t c a n x (cutS s t c n) E (cutC s t c n) E E 0) (fun k => ?_) ?_
      · simp only [hb.1, if_true, hnum, Option.bind_some, decide_eq_true hb.2]
      · refine Good.step (fun k => ?_) hj
        rw [amanuensislaw12_step.j1, if_pos rfl]
        by_cases ht : t.toList = []
        · have h0 : bad s t c n = 0 := by unfold bad; rw [if_pos hb, if_pos ht]
          rw [if_pos ht, if_pos hb.2.1, if_pos hb.2.2]
          simp only [h0, cutS, cutC, if_true]
          rfl
        · have h0 : bad s t c n = 9 := by unfold bad; rw [if_pos hb, if_neg ht]
          rw [if_neg ht]
          have h1 : cutS s t c n = E := by unfold cutS; rw [h0, if_neg (by decide)]
          have h2 : cutC s t c n = 0 := by unfold cutC; rw [h0, if_neg (by decide)]
          rw [h0, h1, h2]
    · have h0 : bad s t c n = 1 := by unfold bad; rw [if_neg hb]
      have h1 : cutS s t c n = E := by unfold cutS; rw [h0, if_neg (by decide)]
      have h2 : cutC s t c n = 0 := by unfold cutC; rw [h0, if_neg (by decide)]
      refine Good.congr (f := fun k => amanuensislaw12_step.j1 k (may s t c) 1 (bad s t c n) false s t c a n x (cutS s t c n) E (cutC s t c n) E E 0) (fun k => ?_) ?_
      · by_cases hm : may s t c = true
        · have : ¬ (0 ≤ n ∧ n ≤ s.size) := fun h => hb ⟨hm, h⟩
          simp only [hm, if_true, hnum, Option.bind_some, decide_eq_false this]
        · simp only [if_neg hm]
      · refine Good.step (fun k => ?_) hj
        rw [amanuensislaw12_step.j1, if_neg (by decide), h0, h1, h2]

theorem within_eq (a m : Int) (hm : 0 < m) (hm' : m < 1000000) : ∃ v, amanuensislaw0_Within.f a m = some v ∧ 0 ≤ v ∧ v < m := by
  have hk : ∀ n : Int, IntKind.u64.wrap n = n % 18446744073709551616 := fun n => by simp [IntKind.wrap, IntKind.bits, IntKind.signed]
  unfold amanuensislaw0_Within.f
  rw [hk, hk, Int.emod_eq_of_lt (a := m) (by omega) (by omega), if_neg (by omega), Int.tmod_eq_emod_of_nonneg (by omega)]
  have h0 := Int.emod_nonneg (a % 18446744073709551616) (b := m) (by omega)
  have h1 := Int.emod_lt_of_pos (a % 18446744073709551616) hm
  exact ⟨_, rfl, by unfold wrap64; omega, by unfold wrap64; omega⟩
theorem step_good (s t : ByteArray) (c : Int) (a n : Int) (x : ByteArray) (hs : s.size + t.size ≤ 60000) : Good (fun k => amanuensislaw12_step.f k s t c a n x) := by
  obtain ⟨v, hv, v0, v1⟩ := within_eq a 7 (by omega) (by omega)
  have hf : ∀ k, amanuensislaw12_step.f k s t c a n x = if v = 3 then amanuensislaw12_step.j0 k (may s t c) 1 v (v == 3) s t c a n x E E 0 else amanuensislaw12_step.j0 k (may s t c) 1 v (v == 4) s t c a n x E E 0 := fun k => by
    unfold amanuensislaw12_step.f
    rw [RefFile_eq s t c (by omega), hv]
    rfl
  refine Good.congr hf ?_
  by_cases h3 : v = 3
  · subst h3
    exact good_sync s t c 3 a n x hs
  · simp only [if_neg h3]
    by_cases h4 : v = 4
    · subst h4
      exact good_sync s t c 4 a n x hs
    · have : (v == 4) = false := by simpa using h4
      rw [this]
      by_cases h5 : v = 5
      · subst h5
        exact good_crash s t c a n x hs
      · by_cases h6 : v = 6
        · subst h6
          exact good_cut s t c a n x hs
        · exact good_append s t c v a n x hs h5 h6

/-! ### the whole script -/
theorem acts_true (B : List S23) (y : Int) (p0 p1 : ByteArray) (p2 p3 : Int) (L : List S32) (hy0 : 0 ≤ y) (hy1 : y < 100) (hn : Ev (fun k => amanuensislaw12_FileExact.l0 k B (y + 1) p0 p1 p2 p3 L) true) :
    ∀ (d : Nat) (i : Int) (s t : ByteArray) (c : Int), 0 ≤ i → i + d = 20 → s.size + t.size ≤ 60000 → Ev (fun k => amanuensislaw12_FileExact.l1 k B y i p0 p1 p2 p3 L s t c) true := by
  have hend : ∀ (i : Int) (s t : ByteArray) (c : Int), Ev (fun k => amanuensislaw12_FileExact.j3 k B y i false p0 p1 p2 p3 L s t c) true := fun i s t c =>
    Ev.step (fun k => by rw [amanuensislaw12_FileExact.j3, if_neg (by decide), show wrap64 (y + 1) = y + 1 by unfold wrap64; omega]) hn
  intro d
  induction d with
  | zero =>
    intro i s t c h0 hi hs
    refine Ev.step (fun k => ?_) (hend i s t c)
    rw [amanuensislaw12_FileExact.l1, decide_eq_false (by omega), ite_self]
  | succ d ih =>
    intro i s t c h0 hi hs
    by_cases hl : i < (L.length : Int)
    · refine Ev.step (f := fun k => amanuensislaw12_FileExact.j3 k B y i true p0 p1 p2 p3 L s t c) (fun k => by rw [amanuensislaw12_FileExact.l1, if_pos hl, decide_eq_true (by omega)]) ?_
      obtain ⟨s', t', c', he, hs'⟩ := step_good s t c ((rd_T32 L i).f0) ((rd_T32 L i).f1) ((rd_T32 L i).f2) hs
      refine Ev.step (f := fun k => (amanuensislaw12_step.f k s t c ((rd_T32 L i).f0) ((rd_T32 L i).f1) ((rd_T32 L i).f2)).bind fun b => if b.2.2.2 = true then amanuensislaw12_FileExact.l1 k B y (i + 1) p0 p1 p2 p3 L b.1 b.2.1 b.2.2.1 else some false) (fun k => ?_) ?_
      · rw [amanuensislaw12_FileExact.j3, if_pos rfl, if_pos h0, if_pos hl, show wrap64 (i + 1) = i + 1 by unfold wrap64; omega]
      · refine Ev.bind (f := fun k (b : ByteArray × ByteArray × Int × Bool) => if b.2.2.2 = true then amanuensislaw12_FileExact.l1 k B y (i + 1) p0 p1 p2 p3 L b.1 b.2.1 b.2.2.1 else some false) he ?_
        exact Ev.congr (fun k => by rw [if_pos rfl]) (ih (i + 1) s' t' c' (by omega) (by omega) hs')
    · exact Ev.step (fun k => by rw [amanuensislaw12_FileExact.l1, if_neg hl]) (hend i s t c)

theorem heavy_loop (p0 p1 : ByteArray) (p2 p3 : Int) (L : List S32) (hL : L.length ≤ 4398046511104) (hS : ∀ x ∈ L, x.f2.size ≤ 140737488351232) : ∀ (d : Nat) (n i : Int), 0 ≤ n → n ≤ 400000000000000 → 0 ≤ i → i + d = L.length →
    ∃ b, Ev (fun k => amanuensislaw12_Heavy.l0 k n i p0 p1 p2 p3 L) b ∧ (b = false → n ≤ 6000) := by
  intro d
  induction d with
  | zero =>
    intro n i h0 h1 h2 h3
    refine ⟨decide (n > 6000), Ev.step (f := fun _ => some _) (fun k => by rw [amanuensislaw12_Heavy.l0, if_neg (by omega)]) (Ev.now _), fun h => ?_⟩
    have := of_decide_eq_false h
    omega
  | succ d ih =>
    intro n i h0 h1 h2 h3
    by_cases hn : n < 1048576
    · have hx : (rd_T32 L i).f2.size ≤ 140737488351232 := by
        have hi : i.toNat < L.length := by omega
        have : rd_T32 L i = L[i.toNat] := by unfold rd_T32; rw [List.getD_eq_getElem?_getD, List.getElem?_eq_getElem hi]; rfl
        rw [this]
        exact hS _ (List.getElem_mem hi)
      obtain ⟨b, hb, hlt⟩ := ih (n + ((rd_T32 L i).f2.size : Int)) (i + 1) (by omega) (by omega) (by omega) (by omega)
      refine ⟨b, Ev.step (fun k => ?_) hb, fun h => by have := hlt h; omega⟩
      rw [amanuensislaw12_Heavy.l0, if_pos (by omega), if_pos hn, if_pos h2, show wrap64 (i + 1) = i + 1 by unfold wrap64; omega, show wrap64 (n + ((rd_T32 L i).f2.size : Int)) = n + ((rd_T32 L i).f2.size : Int) by unfold wrap64; omega]
    · refine ⟨decide (n > 6000), Ev.step (f := fun _ => some _) (fun k => by rw [amanuensislaw12_Heavy.l0, if_pos (by omega), if_neg hn]) (Ev.now _), fun h => ?_⟩
      have := of_decide_eq_false h
      omega
theorem begin_true (p0 p1 : ByteArray) (p2 p3 : Int) (L : List S32) (hp : p0.size + p1.size ≤ 60000) : Ev (fun k => amanuensislaw12_FileExact.j0 k false p0 p1 p2 p3 L) true := by
  obtain ⟨v, hv, v0, v1⟩ := within_eq p3 60 (by omega) (by omega)
  refine Ev.step (f := fun k => amanuensislaw12_FileExact.l0 k [⟨p0, p1, p2⟩, ⟨E, E, wrap64 (1 + v)⟩] 0 p0 p1 p2 p3 L) (fun k => by rw [amanuensislaw12_FileExact.j0, if_neg (by decide), hv]; rfl) ?_
  have h2 : Ev (fun k => amanuensislaw12_FileExact.l0 k [⟨p0, p1, p2⟩, ⟨E, E, wrap64 (1 + v)⟩] (1 + 1) p0 p1 p2 p3 L) true := by
    refine Ev.step (f := fun _ => some true) (fun k => ?_) (Ev.now _)
    rw [amanuensislaw12_FileExact.l0, if_neg (by decide), wakes_eq]
    rfl
  have h1 : Ev (fun k => amanuensislaw12_FileExact.l0 k [⟨p0, p1, p2⟩, ⟨E, E, wrap64 (1 + v)⟩] (0 + 1) p0 p1 p2 p3 L) true := by
    refine Ev.step (fun k => ?_) (acts_true [⟨p0, p1, p2⟩, ⟨E, E, wrap64 (1 + v)⟩] 1 p0 p1 p2 p3 L (by omega) (by omega) h2 20 0 E E (wrap64 (1 + v)) (by omega) (by omega) (by decide))
    rw [amanuensislaw12_FileExact.l0, if_pos (by decide), if_pos (by decide), if_pos (by show (0 + 1 : Int) < 2; omega)]
    rfl
  refine Ev.step (fun k => ?_) (acts_true [⟨p0, p1, p2⟩, ⟨E, E, wrap64 (1 + v)⟩] 0 p0 p1 p2 p3 L (by omega) (by omega) h1 20 0 p0 p1 p2 (by omega) (by omega) hp)
  rw [amanuensislaw12_FileExact.l0, if_pos (by decide), if_pos (by decide), if_pos (by show (0 : Int) < 2; omega)]
  rfl
theorem exact_true (p0 p1 : ByteArray) (p2 p3 : Int) (L : List S32) (h0 : p0.size ≤ 140737488351232) (h1 : p1.size ≤ 140737488351232) (hL : L.length ≤ 4398046511104) (hS : ∀ x ∈ L, x.f2.size ≤ 140737488351232) :
    Ev (fun k => amanuensislaw12_FileExact.f k p0 p1 p2 p3 L) true := by
  obtain ⟨b, hb, hlt⟩ := heavy_loop p0 p1 p2 p3 L hL hS L.length ((p0.size : Int) + p1.size + L.length) 0 (by omega) (by omega) (by omega) (by omega)
  have hb' : Ev (fun k => amanuensislaw12_Heavy.f k p0 p1 p2 p3 L) b := by
    refine Ev.congr (fun k => ?_) hb
    unfold amanuensislaw12_Heavy.f
    rw [show wrap64 ((p0.size : Int) + (p1.size : Int)) = (p0.size : Int) + p1.size by unfold wrap64; omega, show wrap64 ((p0.size : Int) + p1.size + (L.length : Int)) = (p0.size : Int) + p1.size + L.length by unfold wrap64; omega]
  unfold amanuensislaw12_FileExact.f
  refine Ev.bind (f := fun k t198 => _) hb' ?_
  cases b with
  | true => exact Ev.congr (f := fun _ => some true) (fun k => if_pos rfl) (Ev.now _)
  | false =>
    have hp := hlt rfl
    refine Ev.congr (fun k => ?_) (begin_true p0 p1 p2 p3 L (by omega))
    have ht : (E.toList == ([] : List UInt8)) = true := by rw [toL_eq]; rfl
    rw [if_neg (by decide)]
    by_cases hc : 1 ≤ p3 ∧ p3 ≤ 60000
    · have hbt : amanuensisref0_Between.f p3 1 60000 = some true := by unfold amanuensisref0_Between.f; rw [if_pos (by omega), decide_eq_true (by omega)]
      rw [New_yes p3 hc, hbt]
      simp only [Option.bind_some, amanuensislaw12_num.f, ht]
      simp
    · have hbt : amanuensisref0_Between.f p3 1 60000 = some false := by
        unfold amanuensisref0_Between.f
        split
        · rw [decide_eq_false (by omega)]
        · rfl
      rw [New_no p3 hc, hbt]
      simp only [Option.bind_some, amanuensislaw12_num.f, ht]
      simp
end Go.Proofs.Ytpemehpfkkjpiaa.OFiles
