/- Packed by our own shrink.py: theorems that the claim does not use are left out. -/
import Derived.Test.YtgobpenmemlieaaDoorVRds
import Derived.Test.YtgobpenmemlieaaDoorVAgr
/-
  SdlReads answers true, whatever it is given.
-/
namespace Go.Proofs.YtgobpenmemlieaaDoor.Lex
open Go.RowKit Go.Proofs.YtgobpenmemlieaaDoorW.PrintWords Go.Proofs.YtgobpenmemlieaaDoorW.PrintLast Go.Proofs.YtgobpenmemlieaaDoorW.PrintMore PSdlBack
set_option linter.unusedVariables false
set_option linter.unusedSimpArgs false
theorem SdlReads_all (A0 : Option Addr) (c0 : Nat) (l0 : List ByteArray) (A1 : Option Addr) (c1 : Nat) (l1 : List Int) (A2 : Option Addr) (c2 : Nat) (l2 : List (List S54)) (w : World)
    (hr0 : Kd.C Kd.string w A0 l0.length l0) (h0c : l0.length ≤ c0) (hr1 : Kd.C (Kd.int .i64) w A1 l1.length l1) (h1c : l1.length ≤ c1) (hr2 : Kd.C (Kd.slice 54 k54) w A2 l2.length l2) (h2c : l2.length ≤ c2) (hT : Tab w)
    (hB : ((l0.length * 16 ≤ 140737488351232 ∧ ∀ x ∈ l0, x.size ≤ 140737488351232) ∧ (l1.length * 8 ≤ 140737488351232 ∧ ∀ x ∈ l1, (Lit.int .i64 x).wf = true)) ∧ (l2.length * 24 ≤ 140737488351232 ∧ ∀ x ∈ l2, (x.length * 56 ≤ 140737488351232 ∧ ∀ z ∈ x, (z.f0.size ≤ 140737488351232 ∧ (Lit.int .i64 z.f1).wf = true ∧ z.f2.size ≤ 140737488351232 ∧ z.f3.size ≤ 140737488351232)))) :
    Calls Tryd.prog 3 #[.agg #[.slice A0 l0.length c0, .slice A1 l1.length c1, .slice A2 l2.length c2]] w fun e w' => e = .returned (.bool true) ∧ Below w.heap.size w w' := by
  obtain ⟨⟨⟨b0, -⟩, -⟩, b2, b3⟩ := hB
  have hl : ∀ i : Int, (rd_L3 l2 i).length ≤ 1000000000000000 := fun i => by
    unfold rd_L3
    rw [List.getD_eq_getElem?_getD]
    cases hq : l2[i.toNat]? with
    | none => exact Nat.zero_le _
    | some x =>
      have := (b3 x (List.mem_of_getElem? hq)).1
      show x.length ≤ _
      omega
  have hs : ∀ i j : Int, (rd_T54 (rd_L3 l2 i) j).f0.size ≤ 1000000000000000 := fun i j => by
    unfold rd_T54
    rw [List.getD_eq_getElem?_getD]
    cases hq : (rd_L3 l2 i)[j.toNat]? with
    | none => exact Nat.zero_le _
    | some z =>
      unfold rd_L3 at hq
      rw [List.getD_eq_getElem?_getD] at hq
      cases hq2 : l2[i.toNat]? with
      | none => rw [hq2] at hq; simp at hq
      | some x =>
        rw [hq2] at hq
        have := ((b3 x (List.mem_of_getElem? hq2)).2 z (List.mem_of_getElem? hq)).1
        show z.f0.size ≤ _
        omega
  obtain ⟨kh, hv, hh, hg⟩ := heavy_allP l0 l1 l2 (by omega) (by omega) hl hs
  obtain ⟨s0, hp, hr⟩ := wk_good
  obtain ⟨kc, hcs⟩ := copyS_all l0 (by omega)
  exact SdlReads_calls A0 c0 l0 A1 c1 l1 A2 c2 l2 w hr0 h0c hr1 h1c hr2 h2c kh hv hh hT hg kc hcs agree_all words_ok s0 hp hr
end Go.Proofs.YtgobpenmemlieaaDoor.Lex
