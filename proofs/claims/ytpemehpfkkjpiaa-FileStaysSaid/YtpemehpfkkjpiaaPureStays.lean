/-
  The pure statement of FileStays: what was synced stays till it is cut; a crash keeps a beginning of what waited.
-/
import Derived.Test.YtpemehpfkkjpiaaOFileStays0
import Derived.Test.YtpemehpfkkjpiaaCallsStays
namespace Go.Proofs.Ytpemehpfkkjpiaa.Pure
open Go.RowKit Go.Proofs.YtpemehpfkkjpiaaW.PrintWords Go.Proofs.YtpemehpfkkjpiaaW.PrintLast Go.Proofs.YtpemehpfkkjpiaaW.PrintMore Go.Proofs.Ytpemehpfkkjpiaa.OFiles
set_option linter.unusedVariables false

theorem stays_end (i : Int) (p0 p1 : ByteArray) (p2 p3 : Int) (L : List S32) (s t : ByteArray) (c : Int) : Ev (fun k => FStays.j1 k i false p0 p1 p2 p3 L s t c) true := by
  refine Ev.step (f := fun _ => some true) (fun k => ?_) (Ev.now _)
  rw [FStays.j1, if_neg (by decide), wakes_eq]
  rfl
theorem stays_j2 (i : Int) (h0 : 0 ≤ i) (h1 : i < 100) (p0 p1 : ByteArray) (p2 p3 : Int) (L : List S32) (x0 x1 y0 y1 z0 z1 : ByteArray) (c : Int)
    (hx : Ev (fun k => FStays.l0 k (i + 1) p0 p1 p2 p3 L x0 x1 c) true) (hy : Ev (fun k => FStays.l0 k (i + 1) p0 p1 p2 p3 L y0 y1 c) true) (hz : Ev (fun k => FStays.l0 k (i + 1) p0 p1 p2 p3 L z0 z1 c) true) :
    Ev (fun k => FStays.j2 k i false p0 p1 p2 p3 L x0 x1 c y0 y1 c z0 z1 c) true := by
  have hw : wrap64 (i + 1) = i + 1 := by unfold wrap64; omega
  by_cases h3 : Int.tmod i 3 = 0
  · exact Ev.step (fun k => by rw [FStays.j2, if_neg (by decide), if_pos h3, hw]) hx
  · by_cases h4 : Int.tmod i 3 = 1
    · exact Ev.step (fun k => by rw [FStays.j2, if_neg (by decide), if_neg h3, if_pos h4, hw]) hz
    · exact Ev.step (fun k => by rw [FStays.j2, if_neg (by decide), if_neg h3, if_neg h4, hw]) hy
theorem bs {α β : Type} (a : α) (f : α → Option β) : (some a).bind f = f a := by
  cases h : f a <;> simp [h]
theorem hnum (a : Int) : amanuensislaw12_num.f a = some a := rfl
theorem stays_step (k : Nat) (i : Int) (h0 : 0 ≤ i) (p0 p1 : ByteArray) (p2 p3 : Int) (L : List S32) (hl : i < (L.length : Int)) (s t x Y W EE : ByteArray) (n : Int) (a : ByteArray) (hab : (rd_T32 L i).f2 = a) (hn : (rd_T32 L i).f1 = n)
    (ha : file_Append.f s t 200 a = some (s, x, 200, 0)) (hc : file_Crash.f s x 200 n = some (Y, EE, 200, 0)) (hy : file_Sync.f s x 200 = some (W, EE, 200, 0)) (hE : EE.toList = [])
    (g1 : ¬ (Y.size : Int) < (s.size : Int)) (g2 : (s.size : Int) ≤ (Y.size : Int)) (e1 : (Y.extract 0 ((s.size : Int)).toNat).toList = s.toList) (g3 : ¬ (W.size : Int) < (Y.size : Int)) (g4 : (Y.size : Int) ≤ (W.size : Int))
    (e2 : (W.extract 0 ((Y.size : Int)).toNat).toList = Y.toList) (g5 : s.size + x.size ≤ 9223372036854775807) (e3 : W = s ++ x) :
    FStays.j1 (k + 1) i true p0 p1 p2 p3 L s t 200 = FStays.j2 k i false p0 p1 p2 p3 L s x 200 Y EE 200 W EE 200 := by
  have g6 : (0 : Int) ≤ (s.size : Int) := Int.natCast_nonneg _
  have g7 : (0 : Int) ≤ (Y.size : Int) := Int.natCast_nonneg _
  have e4 : (W.toList != (s ++ x).toList) = false := by rw [e3]; exact bne_self_eq_false _
  have n7 : ¬ ((0 : Int) = 7) := by decide
  rw [FStays.j1, if_pos rfl, if_pos h0, if_pos hl, hab, hn, ha, bs]
  dsimp only
  rw [hnum, bs, if_neg n7, hc, bs]
  dsimp only
  rw [hy, bs]
  dsimp only
  rw [bs, if_pos rfl, hnum, bs, if_pos rfl, bs, if_pos rfl, if_neg g1, if_pos g6, if_pos g2, if_pos e1, if_neg g3, if_pos g7, if_pos g4, if_pos e2, if_pos hE, if_pos hE, if_pos g5, e4]
theorem stays_all (p0 p1 : ByteArray) (p2 p3 : Int) (L : List S32) : ∀ (d : Nat) (i : Int) (s t : ByteArray), 0 ≤ i → i + d = 20 → s.size + t.size ≤ 200 → Ev (fun k => FStays.l0 k i p0 p1 p2 p3 L s t 200) true := by
  intro d
  induction d with
  | zero =>
    intro i s t h0 h1 hs
    refine Ev.step (fun k => ?_) (stays_end i p0 p1 p2 p3 L s t 200)
    rw [FStays.l0, decide_eq_false (by omega), ite_self]
  | succ d ih =>
    intro i s t h0 h1 hs
    by_cases hl : i < (L.length : Int)
    · refine Ev.step (f := fun k => FStays.j1 k i true p0 p1 p2 p3 L s t 200) (fun k => by rw [FStays.l0, if_pos hl, decide_eq_true (by omega)]) ?_
      have hm : may s t 200 = true := may_iff.2 ⟨by omega, by omega, by omega⟩
      have hw : wrap64 (i + 1) = i + 1 := by unfold wrap64; omega
      by_cases hx : ((rd_T32 L i).f2.size : Int) ≤ 200 - s.size - t.size
      · have ha := Append_yes s t 200 (rd_T32 L i).f2 (by omega) hm hx
        obtain ⟨a, hab⟩ : ∃ a, (rd_T32 L i).f2 = a := ⟨_, rfl⟩
        rw [hab] at ha hx
        have hta : (t ++ a).size = t.size + a.size := ByteArray.size_append
        have hm2 : may s (t ++ a) 200 = true := may_iff.2 ⟨by omega, by omega, by rw [hta]; omega⟩
        have hc := Crash_yes s (t ++ a) 200 (rd_T32 L i).f1 (by rw [hta]; omega) hm2
        have hy := Sync_yes s (t ++ a) 200 (by rw [hta]; omega) hm2
        have hk := kept_le (t ++ a) (rd_T32 L i).f1
        have hkk : kept (t ++ a) (rd_T32 L i).f1 ≤ (t ++ a).size := by unfold kept; omega
        generalize kept (t ++ a) (rd_T32 L i).f1 = kk at hc hkk
        have e1 := ext_whole s ((t ++ a).extract 0 kk)
        have e2 := ext_pre s (t ++ a) kk hkk
        have z1 : (s ++ (t ++ a).extract 0 kk).size = s.size + kk := by rw [ByteArray.size_append, ByteArray.size_extract]; omega
        have z2 : (s ++ (t ++ a)).size = s.size + (t ++ a).size := ByteArray.size_append
        have hE : E.toList = [] := by rw [toL_eq]; rfl
        have h2 := stays_j2 i h0 (by omega) p0 p1 p2 p3 L s (t ++ a) (s ++ (t ++ a).extract 0 kk) E (s ++ (t ++ a)) E 200
          (ih (i + 1) s (t ++ a) (by omega) (by omega) (by rw [hta]; omega)) (ih (i + 1) _ E (by omega) (by omega) (by rw [z1, E_size]; omega)) (ih (i + 1) _ E (by omega) (by omega) (by rw [z2, E_size]; omega))
        refine Ev.step (fun k => ?_) h2
        exact stays_step k i h0 p0 p1 p2 p3 L hl s t (t ++ a) (s ++ (t ++ a).extract 0 kk) (s ++ (t ++ a)) E _ a hab rfl ha hc hy hE (by rw [z1]; omega) (by rw [z1]; omega) (by rw [Int.toNat_natCast, e1]) (by rw [z1, z2]; omega) (by rw [z1, z2]; omega) (by rw [Int.toNat_natCast, e2]) (by rw [hta]; omega) rfl
      · have ha := Append_full s t 200 (rd_T32 L i).f2 (by omega) hm hx
        refine Ev.step (fun k => ?_) (ih (i + 1) s t (by omega) (by omega) hs)
        rw [FStays.j1, if_pos rfl, if_pos h0, if_pos hl, ha, hw]
        rfl
    · exact Ev.step (fun k => by rw [FStays.l0, if_neg hl]) (stays_end i p0 p1 p2 p3 L s t 200)
theorem FileStays (a0_0 a0_1 : ByteArray) (a0_2 a0_3 : Int) (l0_4 : List S32) (b0 : a0_0.size ≤ 140737488351232 ∧ a0_1.size ≤ 140737488351232 ∧ (Lit.int .i64 a0_2).wf = true) (b1 : (Lit.int .i64 a0_3).wf = true)
    (b2 : l0_4.length * 32 ≤ 140737488351232 ∧ ∀ x ∈ l0_4, (Lit.int .i64 x.f0).wf = true ∧ (Lit.int .i64 x.f1).wf = true ∧ x.f2.size ≤ 140737488351232) : ∃ k, FStays.f k a0_0 a0_1 a0_2 a0_3 l0_4 = some true := by
  obtain ⟨b, hb, _⟩ := heavy_loop a0_0 a0_1 a0_2 a0_3 l0_4 (by omega) (fun x hx => (b2.2 x hx).2.2) l0_4.length ((a0_0.size : Int) + a0_1.size + l0_4.length) 0 (by omega) (by omega) (by omega) (by omega)
  have hb' : Ev (fun k => amanuensislaw12_Heavy.f k a0_0 a0_1 a0_2 a0_3 l0_4) b := by
    refine Ev.congr (fun k => ?_) hb
    unfold amanuensislaw12_Heavy.f
    rw [show wrap64 ((a0_0.size : Int) + (a0_1.size : Int)) = (a0_0.size : Int) + a0_1.size by unfold wrap64; omega, show wrap64 ((a0_0.size : Int) + a0_1.size + (l0_4.length : Int)) = (a0_0.size : Int) + a0_1.size + l0_4.length by unfold wrap64; omega]
  refine Ev.rounds ?_
  unfold FStays.f
  refine Ev.bind (f := fun k t145 => _) hb' ?_
  cases b with
  | true => exact Ev.congr (f := fun _ => some true) (fun k => if_pos rfl) (Ev.now _)
  | false => exact Ev.congr (fun k => by rw [if_neg (by decide)]; rfl) (stays_all a0_0 a0_1 a0_2 a0_3 l0_4 20 0 E E (by omega) (by omega) (by decide))
end Go.Proofs.Ytpemehpfkkjpiaa.Pure
