/- Packed by our own shrink.py: theorems that the claim does not use are left out. -/
import Derived.Test.YtgobpenmemlieaaDoorVPu8
/-
  Plain: the reference's service of a name is ours.
-/
namespace Go.Proofs.YtgobpenmemlieaaDoor.Lex
open Go.RowKit Go.Proofs.YtgobpenmemlieaaDoorW.PrintWords Go.Proofs.YtgobpenmemlieaaDoorW.PrintLast Go.Proofs.YtgobpenmemlieaaDoorW.PrintMore PSdlBack
set_option linter.unusedVariables false
theorem serv_spec (a : ByteArray) : ∃ n e : Int, sdl_Service.f 10 a = some (n, e) ∧ amanuensisref4_Service.f 10 a = some n ∧ ((0 < n ∧ e = 0) ∨ (n = 0 ∧ e = 3)) := by
  by_cases h : ∀ j : Nat, 1 ≤ j → j < 5 → svcs.getD j ⟨#[]⟩ ≠ a
  · exact ⟨0, 3, serv_low a h, serv_no a h, .inr ⟨rfl, rfl⟩⟩
  · obtain ⟨j, h1, h5, e⟩ : ∃ j : Nat, 1 ≤ j ∧ j < 5 ∧ svcs.getD j ⟨#[]⟩ = a := by
      refine Classical.byContradiction fun hn => h fun j h1 h5 e => hn ⟨j, h1, h5, e⟩
    have hs : isServ (j : Int) = true := by unfold isServ; simp; omega
    have hn : svcName (j : Int) = a := by unfold svcName; rw [Int.toNat_natCast]; exact e
    exact ⟨j, 0, by rw [← hn]; exact (svc_name j hs).2, by rw [← hn]; exact serv_yes j hs, .inl ⟨by omega, rfl⟩⟩
end Go.Proofs.YtgobpenmemlieaaDoor.Lex
