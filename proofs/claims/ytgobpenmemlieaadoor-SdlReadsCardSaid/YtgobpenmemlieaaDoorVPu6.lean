/- Packed by our own shrink.py: theorems that the claim does not use are left out. -/
import Derived.Test.YtgobpenmemlieaaDoorVPu5
import Derived.Test.YtgobpenmemlieaaDoorVORw
/-
  Plain: the reference's word at the begin of a text has the same size as ours.
-/
namespace Go.Proofs.YtgobpenmemlieaaDoor.Lex
open Go.RowKit Go.Proofs.YtgobpenmemlieaaDoorW.PrintWords Go.Proofs.YtgobpenmemlieaaDoorW.PrintLast Go.Proofs.YtgobpenmemlieaaDoorW.PrintMore PSdlBack
set_option linter.unusedVariables false
set_option linter.unusedSimpArgs false
/-- From some number of rounds on g tells x. -/
def Ends {α : Type} (g : Nat → Option α) (x : α) : Prop := ∃ K, ∀ k, K ≤ k → g k = some x
theorem Ends.step {α : Type} {g h : Nat → Option α} {x : α} (hg : Ends g x) (e : ∀ k, h (k + 1) = g k) : Ends h x := by
  obtain ⟨K, hK⟩ := hg
  refine ⟨K + 1, fun k hk => ?_⟩
  obtain ⟨k, rfl⟩ : ∃ m, k = m + 1 := ⟨k - 1, by omega⟩
  rw [e]
  exact hK k (by omega)
theorem Ends.const {α : Type} (x : α) : Ends (fun _ => some x) x := ⟨0, fun _ _ => rfl⟩
theorem Ends.bind {α β : Type} {g : Nat → Option α} {h : Nat → α → Option β} {x : α} {y : β} (hg : Ends g x) (hh : Ends (fun k => h k x) y) : Ends (fun k => (g k).bind fun r => h k r) y := by
  obtain ⟨K, hK⟩ := hg
  obtain ⟨K2, hK2⟩ := hh
  refine ⟨K + K2, fun k hk => ?_⟩
  show (g k).bind _ = _
  rw [hK k (by omega)]
  exact hK2 k (by omega)
theorem Ends.of {α : Type} {g h : Nat → Option α} {x : α} (hg : Ends g x) (e : ∀ k, h k = g k) : Ends h x := by
  obtain ⟨K, hK⟩ := hg
  exact ⟨K, fun k hk => by rw [e]; exact hK k hk⟩
def strN (r : ByteArray × Int × Bool) : Int := if r.2.2 && decide ((r.1.size : Int) ≤ 40) then r.2.1 else 0
theorem text_agree (s : ByteArray) (hs : (s.size : Int) ≤ 1000000000000) {i : Int} {d : List UInt8} {r : ByteArray × Int × Bool} (h : Strs s i d r) : ∀ nums : List Int, nums.length = d.length → 0 ≤ i → (nums.length : Int) ≤ i → Ends (fun k => (amanuensisref2_text.l0 k s nums i).map (fun x => x.1)) (strN r) := by
  have hone : ∀ (l : List Int) (c : Int), (l ++ [c]).length = l.length + 1 := fun l c => by simp
  have hone2 : ∀ (l : List UInt8) (c : UInt8), (l ++ [c]).length = l.length + 1 := fun l c => by simp
  induction h with
  | @fin i d h => intro nums hn h0 hl; exact Ends.step (Ends.const _) (fun k => by rw [amanuensisref2_text.l0, if_neg (by omega)]; rfl)
  | @quote i d h1 h2 =>
    intro nums hn h0 hl
    refine Ends.step (Ends.const _) (fun k => ?_)
    rw [amanuensisref2_text.l0, if_pos h1, if_pos h0, if_pos h2, wrap64_id (n := i + 1) (by omega) (by omega)]
    have hz : ((⟨d.toArray⟩ : ByteArray).size : Int) = nums.length := by rw [hn]; rfl
    unfold strN
    show _ = some (if true && decide (((⟨d.toArray⟩ : ByteArray).size : Int) ≤ 40) then i + 1 else 0)
    rw [hz]
    by_cases h4 : (nums.length : Int) > 40
    · rw [if_pos h4, decide_eq_false (by omega)]; rfl
    · rw [if_neg h4, decide_eq_true (by omega)]; rfl
  | @low i d h1 h2 h3 =>
    intro nums hn h0 hl
    exact Ends.step (Ends.const _) (fun k => by rw [amanuensisref2_text.l0, if_pos h1, if_pos h0, if_neg h2, if_neg (by omega), if_pos h3]; rfl)
  | @high i d h1 h2 h3 =>
    intro nums hn h0 hl
    exact Ends.step (Ends.const _) (fun k => by rw [amanuensisref2_text.l0, if_pos h1, if_pos h0, if_neg h2, if_neg (by omega), if_neg (by omega), if_pos h3]; rfl)
  | @plain i d r h1 h2 h3 h4 h5 h6 ih =>
    intro nums hn h0 hl
    refine Ends.step (ih (nums ++ [bt s i]) (by rw [hone, hone2, hn]) (by omega) (by rw [hone]; omega)) (fun k => ?_)
    rw [amanuensisref2_text.l0, if_pos h1, if_pos h0, if_neg h2, if_neg h5, if_neg (by omega), if_neg (by omega), if_pos (show nums.length < 140737488355328 by omega), wrap64_id (n := i + 1) (by omega) (by omega)]
  | @last i d h1 h2 h3 =>
    intro nums hn h0 hl
    refine Ends.step (g := fun k => (amanuensisref2_text.j1 k s nums (i + 1) true).map (fun x => x.1)) (Ends.step (Ends.const _) (fun k => by rw [amanuensisref2_text.j1, if_pos rfl]; rfl)) (fun k => ?_)
    rw [amanuensisref2_text.l0, if_pos h1, if_pos h0, if_neg (by omega), if_pos h2, wrap64_id (n := i + 1) (by omega) (by omega), if_pos (by omega)]
  | @other i d h1 h2 h3 h4 =>
    intro nums hn h0 hl
    refine Ends.step (g := fun k => (amanuensisref2_text.j1 k s nums (i + 1) true).map (fun x => x.1)) (Ends.step (Ends.const _) (fun k => by rw [amanuensisref2_text.j1, if_pos rfl]; rfl)) (fun k => ?_)
    rw [amanuensisref2_text.l0, if_pos (by omega), if_pos h0, if_neg (by omega), if_pos h1, wrap64_id (n := i + 1) (by omega) (by omega), if_neg (by omega), if_pos (by omega), if_pos h2, if_neg h3, show (bt s (i + 1) != 92) = true from bne_iff_ne.mpr h4]
  | @esc i d r h1 h2 h3 h4 ih =>
    intro nums hn h0 hl
    refine Ends.step (g := fun k => (amanuensisref2_text.j1 k s nums (i + 1) false).map (fun x => x.1)) (Ends.step (ih (nums ++ [bt s (i + 1)]) (by rw [hone, hone2, hn]) (by omega) (by rw [hone]; omega)) (fun k => ?_)) (fun k => ?_)
    · rw [amanuensisref2_text.j1, if_neg (by decide), if_pos (by omega), if_pos h2, if_neg (by omega), if_neg (by omega), if_pos (show nums.length < 140737488355328 by omega), wrap64_id (n := i + 1 + 1) (by omega) (by omega), show i + 1 + 1 = i + 2 by omega]
    · rw [amanuensisref2_text.l0, if_pos (by omega), if_pos h0, if_neg (by omega), if_pos h1, wrap64_id (n := i + 1) (by omega) (by omega), if_neg (by omega), if_pos (by omega), if_pos h2, if_pos h3]
  | @esc2 i d r h1 h2 h3 h4 ih =>
    intro nums hn h0 hl
    refine Ends.step (g := fun k => (amanuensisref2_text.j1 k s nums (i + 1) false).map (fun x => x.1)) (Ends.step (ih (nums ++ [bt s (i + 1)]) (by rw [hone, hone2, hn]) (by omega) (by rw [hone]; omega)) (fun k => ?_)) (fun k => ?_)
    · rw [amanuensisref2_text.j1, if_neg (by decide), if_pos (by omega), if_pos h2, if_neg (by omega), if_neg (by omega), if_pos (show nums.length < 140737488355328 by omega), wrap64_id (n := i + 1 + 1) (by omega) (by omega), show i + 1 + 1 = i + 2 by omega]
    · rw [amanuensisref2_text.l0, if_pos (by omega), if_pos h0, if_neg (by omega), if_pos h1, wrap64_id (n := i + 1) (by omega) (by omega), if_neg (by omega), if_pos (by omega), if_pos h2, if_neg (by omega), show (bt s (i + 1) != 92) = false from bne_eq_false_iff_eq.mpr h3]
/-! ### numbers -/
def satv : List Int → Int → Int
  | [], v => v
  | c :: r, v => satv r (if v ≤ 1073741824 then v * 10 + (c - 48) else v)
def exv : List Int → Int → Int
  | [], v => v
  | c :: r, v => exv r (10 * v + (c - 48))
theorem exv_ge : ∀ (l : List Int) (v : Int), (∀ c ∈ l, isDigit c = true) → 0 ≤ v → v ≤ exv l v
  | [], v, _, _ => Int.le_refl _
  | c :: r, v, h, h0 => by
    have hc := h c (by simp)
    unfold isDigit at hc
    simp at hc
    have := exv_ge r (10 * v + (c - 48)) (fun x hx => h x (by simp [hx])) (by omega)
    unfold exv
    omega
theorem sat_big : ∀ (l : List Int) (v : Int), 1073741824 < v → satv l v = v
  | [], v, _ => rfl
  | c :: r, v, h => by unfold satv; rw [if_neg (by omega)]; exact sat_big r v h
theorem sat_ex : ∀ (l : List Int) (v : Int), (∀ c ∈ l, isDigit c = true) → 0 ≤ v → (satv l v ≤ 1073741824 ↔ exv l v ≤ 1073741824)
  | [], v, _, _ => Iff.rfl
  | c :: r, v, h, h0 => by
    have hc := h c (by simp)
    unfold isDigit at hc
    simp at hc
    have hr := fun x hx => h x (List.mem_cons_of_mem c hx)
    by_cases hv : v ≤ 1073741824
    · unfold satv exv
      rw [if_pos hv, show v * 10 = 10 * v by omega]
      exact sat_ex r _ hr (by omega)
    · rw [sat_big _ _ (by omega)]
      have h2 := exv_ge (c :: r) v h h0
      constructor <;> intro h3 <;> omega
theorem sat_range : ∀ (l : List Int) (v : Int), (∀ c ∈ l, isDigit c = true) → 0 ≤ v → v ≤ 20000000000 → 0 ≤ satv l v ∧ satv l v ≤ 20000000000
  | [], v, _, h0, h1 => ⟨h0, h1⟩
  | c :: r, v, h, h0, h1 => by
    have hc := h c (by simp)
    unfold isDigit at hc
    simp at hc
    unfold satv
    refine sat_range r _ (fun x hx => h x (List.mem_cons_of_mem c hx)) ?_ ?_
    · split <;> omega
    · split <;> omega
theorem exv_long : ∀ (l : List Int) (v : Int), (∀ c ∈ l, isDigit c = true) → 1 ≤ v → (10 : Int) ^ l.length ≤ exv l v
  | [], v, _, h0 => h0
  | c :: r, v, h, h0 => by
    have hc := h c (by simp)
    unfold isDigit at hc
    simp at hc
    have hstep : ∀ (l : List Int) (a b : Int), a ≤ b → exv l a ≤ exv l b := by
      intro l
      induction l with
      | nil => intro a b hab; exact hab
      | cons x l ih => intro a b hab; unfold exv; exact ih _ _ (by omega)
    have h10 : ∀ (l : List Int) (a : Int), (∀ c ∈ l, isDigit c = true) → 1 ≤ a → (10 : Int) ^ l.length * a ≤ exv l a := by
      intro l
      induction l with
      | nil => intro a _ _; simp [exv]
      | cons x l ih =>
        intro a hl ha
        have hx := hl x (by simp)
        unfold isDigit at hx
        simp at hx
        have h1 := ih (10 * a + (x - 48)) (fun y hy => hl y (by simp [hy])) (by omega)
        have h2 : (10 : Int) ^ l.length * (10 * a) ≤ (10 : Int) ^ l.length * (10 * a + (x - 48)) := Int.mul_le_mul_of_nonneg_left (by omega) (Int.pow_nonneg (by decide))
        unfold exv
        rw [List.length_cons, Int.pow_succ, Int.mul_assoc]
        exact Int.le_trans h2 h1
    have h1 := h10 (c :: r) v h h0
    have h2 : (10 : Int) ^ (c :: r).length * 1 ≤ (10 : Int) ^ (c :: r).length * v := Int.mul_le_mul_of_nonneg_left h0 (Int.pow_nonneg (by decide))
    rw [Int.mul_one] at h2
    exact Int.le_trans h2 h1
end Go.Proofs.YtgobpenmemlieaaDoor.Lex
