/-
  The pure statements of layer 12's four laws on scripts: whatever is appended, synced, cut, whatever stays in a crash, each call tells what the page says.
-/
import Derived.Test.YtpemehpfkkjpiaaOFilesx6
import Derived.Test.YtpemehpfkkjpiaaCallsFiles
namespace Go.Proofs.Ytpemehpfkkjpiaa.Pure
open Go.RowKit Go.Proofs.YtpemehpfkkjpiaaW.PrintWords Go.Proofs.Ytpemehpfkkjpiaa.OFiles
set_option linter.unusedVariables false

theorem FileExact (a0_0 a0_1 : ByteArray) (a0_2 a0_3 : Int) (l0_4 : List S32) (b0 : a0_0.size ≤ 140737488351232 ∧ a0_1.size ≤ 140737488351232 ∧ (Lit.int .i64 a0_2).wf = true) (b1 : (Lit.int .i64 a0_3).wf = true)
    (b2 : l0_4.length * 32 ≤ 140737488351232 ∧ ∀ x ∈ l0_4, (Lit.int .i64 x.f0).wf = true ∧ (Lit.int .i64 x.f1).wf = true ∧ x.f2.size ≤ 140737488351232) : ∃ k, amanuensislaw12_FileExact.f k a0_0 a0_1 a0_2 a0_3 l0_4 = some true :=
  (exact_true a0_0 a0_1 a0_2 a0_3 l0_4 b0.1 b0.2.1 (by omega) (fun x hx => (b2.2 x hx).2.2)).rounds

/-- Acts of some kinds in turn: the script that is made has no other texts. -/
theorem only_loop (K : List Int) (hK : 0 < K.length) (p0 p1 : ByteArray) (p2 p3 : Int) (L : List S32) (h0 : p0.size ≤ 140737488351232) (h1 : p1.size ≤ 140737488351232) (hL : L.length * 32 ≤ 140737488351232) (hS : ∀ x ∈ L, x.f2.size ≤ 140737488351232) :
    ∀ (d : Nat) (i : Int) (q : List S32), 0 ≤ i → i + d = L.length → (q.length : Int) = i → (∀ x ∈ q, x.f2.size ≤ 140737488351232) → Ev (fun k => amanuensislaw12_only.l0 k K i p0 p1 p2 p3 L p0 p1 p2 p3 q) true := by
  intro d
  induction d with
  | zero =>
    intro i q h2 h3 h4 h5
    refine Ev.step (f := fun k => (amanuensislaw12_FileExact.f k p0 p1 p2 p3 q).bind fun t => some t) (fun k => by rw [amanuensislaw12_only.l0, if_neg (by omega)]) ?_
    exact Ev.bind (f := fun _ t => some t) (exact_true p0 p1 p2 p3 q h0 h1 (by omega) h5) (Ev.now true)
  | succ d ih =>
    intro i q h2 h3 h4 h5
    have hm0 := Int.emod_nonneg i (b := (K.length : Int)) (by omega)
    have hm1 := Int.emod_lt_of_pos i (b := (K.length : Int)) (by omega)
    have hx : (rd_T32 L i).f2.size ≤ 140737488351232 := by
      have hi : i.toNat < L.length := by omega
      have : rd_T32 L i = L[i.toNat] := by unfold rd_T32; rw [List.getD_eq_getElem?_getD, List.getElem?_eq_getElem hi]; rfl
      rw [this]
      exact hS _ (List.getElem_mem hi)
    refine Ev.step (fun k => ?_) (ih (i + 1) (q ++ [⟨rd K (i % (K.length : Int)), (rd_T32 L i).f1, (rd_T32 L i).f2⟩]) (by omega) (by omega) (by rw [List.length_append]; simp; omega) (fun x hxm => by
      rcases List.mem_append.1 hxm with h | h
      · exact h5 x h
      · rw [List.mem_singleton.1 h]
        exact hx))
    rw [amanuensislaw12_only.l0, if_pos (by omega), if_pos h2, if_neg (by omega), Int.tmod_eq_emod_of_nonneg h2, if_pos hm0, if_pos hm1, if_pos (by omega), show wrap64 (i + 1) = i + 1 by unfold wrap64; omega]
theorem only_true (K : List Int) (hK : 0 < K.length) (p0 p1 : ByteArray) (p2 p3 : Int) (L : List S32) (h0 : p0.size ≤ 140737488351232) (h1 : p1.size ≤ 140737488351232) (hL : L.length * 32 ≤ 140737488351232) (hS : ∀ x ∈ L, x.f2.size ≤ 140737488351232) :
    Ev (fun k => amanuensislaw12_only.f k p0 p1 p2 p3 L K) true :=
  only_loop K hK p0 p1 p2 p3 L h0 h1 hL hS L.length 0 [] (by omega) (by omega) rfl (fun x h => by cases h)
theorem FileCuts (a0_0 a0_1 : ByteArray) (a0_2 a0_3 : Int) (l0_4 : List S32) (b0 : a0_0.size ≤ 140737488351232 ∧ a0_1.size ≤ 140737488351232 ∧ (Lit.int .i64 a0_2).wf = true) (b1 : (Lit.int .i64 a0_3).wf = true)
    (b2 : l0_4.length * 32 ≤ 140737488351232 ∧ ∀ x ∈ l0_4, (Lit.int .i64 x.f0).wf = true ∧ (Lit.int .i64 x.f1).wf = true ∧ x.f2.size ≤ 140737488351232) : ∃ k, amanuensislaw12_FileCuts.f k a0_0 a0_1 a0_2 a0_3 l0_4 = some true :=
  (Ev.bind (f := fun _ t => some t) (only_true [0, 3, 6, 1, 6, 4, 6] (by decide) a0_0 a0_1 a0_2 a0_3 l0_4 b0.1 b0.2.1 b2.1 (fun x hx => (b2.2 x hx).2.2)) (Ev.now true)).rounds
end Go.Proofs.Ytpemehpfkkjpiaa.Pure
