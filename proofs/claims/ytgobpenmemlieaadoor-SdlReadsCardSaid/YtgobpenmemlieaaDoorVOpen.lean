/- Packed by our own shrink.py: theorems that the claim does not use are left out. -/
import Derived.Test.YtgobpenmemlieaaDoorVW
import Derived.SizedLaws
import Derived.Deep.Slices
import Derived.ChangeArms
import Derived.WalkKit
import Derived.ProofKit
import Derived.OpenShut
import Derived.ShutString
import Derived.ChangeOld
import Derived.Below
/-
  Words for opening an argument: what a law's argument reads as, kind by kind (the print's kinds), with the bounds that come out of its reading. No program in sight but P.
-/
namespace Go.Proofs.YtgobpenmemlieaaDoor.Opening
open Go.ChangeShapes Go.WideShapes Go.ChangeAt Go.RowKit Go.Deep
open Go.Proofs.YtgobpenmemlieaaDoorW.PrintWords
set_option linter.unusedVariables false

/-- Whatever a value of type t is read as, its cells are of kind d, of something with B. -/
def Opens {α : Type} (P : Program) (t : TypeId) (d : Kd α) (B : α → Prop) : Prop :=
  P.cellsOf t = d.sz ∧ ∀ (H : Type) (enc : TypeId × Value → H) (w : World) (base : Nat) (spare : Nat → Bool) (held : Bool) (fuel : Nat) (cs : List Value) (x : DataW H × List MemPlace),
    DataW.trod enc P w base spare held fuel t cs = some x → (∀ n ∈ x.1.weights P t, n ≤ reachBytes) → ∃ y, d.K w y cs ∧ B y

theorem opens_int {P : Program} {t : TypeId} {k : IntKind} (hu : P.underlying t = some (.int k)) (hc : P.cellsOf t = 1) : Opens P t (Kd.int k) (fun n => (Lit.int k n).wf = true) := by
  refine ⟨hc, fun H enc w base spare held fuel cs x h _ => ?_⟩
  obtain ⟨n, rfl, _, hw⟩ := DataW.trod_int hu h
  exact ⟨n, rfl, hw⟩

theorem opens_string {P : Program} {t : TypeId} (hu : P.underlying t = some .string) (hc : P.cellsOf t = 1) : Opens P t Kd.string (fun s => s.size ≤ 140737488351232) := by
  refine ⟨hc, fun H enc w base spare held fuel cs x h hw => ?_⟩
  obtain ⟨s, rfl, rfl, _⟩ := DataW.trod_string hu h
  refine ⟨s, rfl, ?_⟩
  have := hw s.data.toList.length (by simp [DataW.weights])
  simpa [reachBytes] using this

theorem list_of {β : Type} (Q : Nat → β → Prop) : ∀ n : Nat, (∀ i, i < n → ∃ y, Q i y) → ∃ xs : List β, xs.length = n ∧ ∀ j p, xs[j]? = some p → Q j p
  | 0, _ => ⟨[], rfl, fun j p h => by simp at h⟩
  | n + 1, h => by
    obtain ⟨xs, hl, hx⟩ := list_of Q n (fun i hi => h i (by omega))
    obtain ⟨y, hy⟩ := h n (by omega)
    refine ⟨xs ++ [y], by simp [hl], fun j p hj => ?_⟩
    by_cases hlt : j < xs.length
    · rw [List.getElem?_append_left hlt] at hj
      exact hx j p hj
    · rw [List.getElem?_append_right (by omega)] at hj
      by_cases he : j = n
      · subst he
        simp [hl] at hj
        subst hj
        exact hy
      · rw [List.getElem?_eq_none (by simp; omega)] at hj
        simp at hj

theorem weightsAll_mem {H : Type} {P : Program} {e : TypeId} : ∀ {l : List (DataW H)} {d : DataW H}, d ∈ l → ∀ n ∈ d.weights P e, n ∈ DataW.weightsAll P e l
  | [], _, h, _, _ => by simp at h
  | a :: l, d, h, n, hn => by
    simp only [DataW.weightsAll, List.mem_append]
    rcases List.mem_cons.1 h with rfl | h
    · exact .inl hn
    · exact .inr (weightsAll_mem h n hn)

theorem opens_slice {α : Type} {P : Program} {t e : TypeId} {d : Kd α} {B : α → Prop} {n : Nat} (hu : P.underlying t = some (.slice e)) (hc : P.cellsOf t = 1) (hn : P.bytesOf e = n) (ho : Opens P e d B) :
    Opens P t (Kd.slice e d) (fun l => l.length * n ≤ 140737488351232 ∧ ∀ x ∈ l, B x) := by
  refine ⟨hc, fun H enc w base spare held fuel cs x h hw => ?_⟩
  rcases open_slice hu h with ⟨rfl, rfl⟩ | ⟨a, len, cap, m, n', D, Pl, rfl, hb, hl, hm, hmm, rfl, hi⟩
  · refine ⟨[], ⟨none, 0, rfl, Nat.le_refl _, rfl, Nat.zero_le _, fun h => absurd h (by simp)⟩, by simp, by simp⟩
  · have hlm : len ≤ m := by rw [hmm]; split <;> omega
    have hwe : ∀ i, i < len → ∀ q ∈ (D i).weights P e, q ≤ reachBytes := by
      intro i hil q hq
      refine hw q ?_
      simp only [DataW.weights, hu, List.mem_cons, List.mem_append]
      refine .inr (.inl (weightsAll_mem (List.mem_map.2 ⟨i, List.mem_range.2 hil, rfl⟩) q hq))
    obtain ⟨xs, hxl, hx⟩ := list_of (fun i y => B y ∧ ∃ cs', w.cells? base (a.add (i * P.cellsOf e)) (P.cellsOf e) = some cs' ∧ d.K w y cs') len (fun i hil => by
      obtain ⟨cs', h1, h2⟩ := hi i (by omega)
      obtain ⟨y, hy, hB⟩ := ho.2 H enc w base spare held n' cs' _ h2 (hwe i hil)
      exact ⟨y, hB, cs', h1, hy⟩)
    refine ⟨xs, ⟨some a, cap, by rw [hxl], by omega, rfl, by unfold maxLen at hm; omega, fun _ => ⟨a, rfl, fun j p hj => ?_⟩⟩, ?_, ?_⟩
    · obtain ⟨_, cs', h1, h2⟩ := hx j p hj
      rw [ho.1] at h1
      obtain ⟨_, hcl, hat⟩ := World.cells?_some h1
      refine ⟨cs', d.K_len h2, h2, fun i u hu' => ?_⟩
      have hlt : i < d.sz := by
        have := (List.getElem?_eq_some_iff.1 hu').1
        rw [d.K_len h2] at this
        exact this
      rw [← Go.Deep.add_add, hat i hlt, hu']
    · have := hw ((((List.range len).map D).length + ((List.range (m - len)).map fun j => D (len + j)).length) * P.bytesOf e) (by simp [DataW.weights, hu])
      rw [hn] at this
      simp only [List.length_map, List.length_range] at this
      rw [hxl]
      exact Nat.le_trans (Nat.mul_le_mul_right _ (Nat.le_add_right _ _)) this
    · intro y hy
      obtain ⟨j, hj⟩ := List.mem_iff_getElem?.1 hy
      exact (hx j y hj).1

/-- Fields in line from place o on. -/
def OpensFs {α : Type} (P : Program) (fs : List Field) (o : Nat) (d : Kd α) (B : α → Prop) : Prop :=
  ∀ (H : Type) (enc : TypeId × Value → H) (w : World) (base : Nat) (spare : Nat → Bool) (held : Bool) (fuel : Nat) (cs : List Value) (xs : List (DataW H × List MemPlace)),
    cs.length = o + d.sz → xs.length = fs.length → (∀ (i : Nat) (f : Field), fs[i]? = some f → DataW.trod enc P w base spare held fuel f.type ((cs.drop f.offset).take (P.cellsOf f.type)) = xs[i]?) →
    (∀ n ∈ DataW.weightsEach P (fs.map (·.type)) (xs.map (·.1)), n ≤ reachBytes) → ∃ y, d.K w y (cs.drop o) ∧ B y

theorem opensFs_one {α : Type} {P : Program} {f : Field} {o : Nat} {d : Kd α} {B : α → Prop} (hf : f.offset = o) (h : Opens P f.type d B) : OpensFs P [f] o d B := by
  intro H enc w base spare held fuel cs xs hl hx hall hw
  match xs, hx with
  | [x], _ =>
    have h0 := hall 0 f rfl
    simp only [List.getElem?_cons_zero] at h0
    obtain ⟨y, hy, hB⟩ := h.2 H enc w base spare held fuel _ _ h0 (fun n hn => hw n (by simp [DataW.weightsEach, hn]))
    refine ⟨y, ?_, hB⟩
    rw [hf, h.1, List.take_of_length_le (by rw [List.length_drop]; omega)] at hy
    exact hy

theorem opensFs_cons {α β : Type} {P : Program} {f : Field} {fs : List Field} {o o' : Nat} {d : Kd α} {B : α → Prop} {d' : Kd β} {B' : β → Prop} (hf : f.offset = o) (ho : o' = o + d.sz) (h : Opens P f.type d B) (hs : OpensFs P fs o' d' B') :
    OpensFs P (f :: fs) o (Kd.pair d d') (fun y => B y.1 ∧ B' y.2) := by
  intro H enc w base spare held fuel cs xs hl hx hall hw
  match xs, hx with
  | x :: xs, hx =>
    have hx' : xs.length = fs.length := by simpa using hx
    have h0 := hall 0 f rfl
    simp only [List.getElem?_cons_zero] at h0
    have hl' : cs.length = o + (d.sz + d'.sz) := hl
    obtain ⟨y, hy, hB⟩ := h.2 H enc w base spare held fuel _ _ h0 (fun n hn => hw n (by simp [DataW.weightsEach, hn]))
    obtain ⟨z, hz, hB'⟩ := hs H enc w base spare held fuel cs xs (by omega) hx' (fun i g hg => by
      have := hall (i + 1) g (by simpa using hg)
      simpa using this) (fun n hn => hw n (by simp only [List.map_cons, DataW.weightsEach, List.mem_append]; exact .inr hn))
    refine ⟨(y, z), ⟨_, _, ?_, hy, hz⟩, hB, hB'⟩
    rw [hf, h.1, ho, ← List.drop_drop, List.take_append_drop]

theorem opens_struct {α : Type} {P : Program} {t : TypeId} {fs : Array Field} {d : Kd α} {B : α → Prop} (hu : P.underlying t = some (.struct fs)) (hc : P.cellsOf t = d.sz) (h : OpensFs P fs.toList 0 d B) : Opens P t d B := by
  refine ⟨hc, fun H enc w base spare held fuel cs x ht hw => ?_⟩
  obtain ⟨xs, n, _, rfl, hl, hxl, hall⟩ := DataW.trod_struct hu ht
  obtain ⟨y, hy, hB⟩ := h H enc w base spare held n cs xs (by omega) (by simpa using hxl) (fun i f hf => hall i f (by simpa using hf)) (fun q hq => hw q (by simpa [DataW.weights, hu] using hq))
  exact ⟨y, by simpa using hy, hB⟩

theorem opens_iso {α β : Type} {P : Program} {t : TypeId} {d : Kd α} {B : α → Prop} (f : β → α) (g : α → β) (hfg : ∀ a, f (g a) = a) (h : Opens P t d B) : Opens P t (Kd.iso d f) (fun b => B (f b)) := by
  refine ⟨h.1, fun H enc w base spare held fuel cs x ht hw => ?_⟩
  obtain ⟨y, hy, hB⟩ := h.2 H enc w base spare held fuel cs x ht hw
  refine ⟨g y, ?_, by show B (f (g y)); rw [hfg]; exact hB⟩
  show d.K w (f (g y)) cs
  rw [hfg]
  exact hy

end Go.Proofs.YtgobpenmemlieaaDoor.Opening
