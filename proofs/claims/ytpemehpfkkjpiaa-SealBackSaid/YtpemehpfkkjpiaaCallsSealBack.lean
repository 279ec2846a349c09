/-
  What the printed functions of layer 10 come to: the check, the frame, what a text begins with. (For the law SealBack.)
-/
import Derived.Test.YtpemehpfkkjpiaaSealMath
import Derived.Test.YtpemehpfkkjpiaaPSealBackx1
namespace Go.Proofs.Ytpemehpfkkjpiaa.PSealBack
open Go.RowKit Go.Proofs.YtpemehpfkkjpiaaW.PrintWords Go.Proofs.Ytpemehpfkkjpiaa.SealMath
set_option linter.unusedVariables false

theorem empty_eq : (⟨#[]⟩ : ByteArray) = ByteArray.empty := rfl
theorem of_loop (s : ByteArray) (hs : s.size ≤ 9223372036854775807) : ∀ (d : Nat) (i h : Int), 0 ≤ i → 0 ≤ h → h < 4294967291 → i + d = s.size →
    Ev (fun k => seal_Of.l0 k s h s.size i) (((bytesOf s).drop i.toNat).foldl stp h) := by
  intro d
  induction d with
  | zero =>
    intro i h h0 h1 h2 hd
    rw [List.drop_of_length_le (by rw [bytesOf_len]; omega)]
    refine Ev.step (f := fun _ => some h) (fun k => ?_) (Ev.now h)
    rw [seal_Of.l0, if_neg (by omega), show h % 4294967296 = h by omega]
  | succ d ih =>
    intro i h h0 h1 h2 hd
    have hb := bt_range s i
    rw [drop_cons s i h0 (by omega), List.foldl_cons]
    refine Ev.step (fun k => ?_) (ih (i + 1) (stp h (bt s i)) (by omega) (stp_range _ _).1 (stp_range _ _).2 (by omega))
    rw [seal_Of.l0, if_pos (by omega), if_pos h0, if_pos (by omega), stp_wrap h _ h1 h2 hb.1 hb.2, show wrap64 (i + 1) = i + 1 by unfold wrap64; omega]
theorem of_ev (s : ByteArray) (hs : s.size ≤ 9223372036854775807) : Ev (fun k => seal_Of.f k s) (chk (bytesOf s)) :=
  of_loop s hs s.size 0 7 (by omega) (by omega) (by omega) (by omega)
theorem number_eq (n : Int) : seal_number.f n = some (num4 n) := rfl
theorem add_ev (s : ByteArray) : Ev (fun k => seal_Add.f k s) (frame s) := by
  by_cases h : (s.size : Int) > 4000
  · refine Ev.congr (f := fun _ => some (frame s)) (fun k => ?_) (Ev.now _)
    unfold seal_Add.f frame
    rw [if_pos h, if_neg (by omega)]
    rfl
  · refine Ev.congr (f := fun k => (seal_Of.f k (num4 s.size ++ s)).bind fun _ => some (frame s)) (fun k => ?_) (Ev.bind (f := fun _ _ => some (frame s)) (of_ev _ (by rw [ByteArray.size_append, num4_size]; omega)) (Ev.now _))
    unfold seal_Add.f
    rw [if_neg h, show (s.size : Int) % 4294967296 = s.size by omega, number_eq]
    simp only [Option.bind_some]
    rw [if_pos (by rw [num4_size]; omega)]
    obtain ⟨K, hK⟩ := of_ev (num4 s.size ++ s) (by rw [ByteArray.size_append, num4_size]; omega)
    cases hf : seal_Of.f k (num4 ↑s.size ++ s) with
    | none => rfl
    | some r =>
      have hr : r = chk (bytesOf (num4 s.size ++ s)) := by
        have h1 := at_rounds (g := fun k => seal_Of.f k (num4 ↑s.size ++ s)) (seal_Of.mono _) (Nat.le_max_left k K) hf
        have h2 := hK (max k K) (Nat.le_max_right _ _)
        simp only [h1, Option.some.injEq] at h2
        exact h2
      simp only [Option.bind_some, number_eq]
      rw [if_pos (by rw [num4_size, num4_size]; omega), if_pos (by rw [ByteArray.size_append, num4_size, num4_size]; omega)]
      unfold frame
      rw [if_pos (by omega), hr]
theorem number4_eq (s : ByteArray) (h : 4 ≤ s.size) : seal_Number.f s = some (rd4 (bytesOf s)) := by
  unfold seal_Number.f
  rw [if_pos (by omega), if_pos (by omega), if_pos (by omega), if_pos (by omega)]
  have h0 := bt_range s 0; have h1 := bt_range s 1; have h2 := bt_range s 2; have h3 := bt_range s 3
  rw [or4 _ _ _ _ (by omega) (by omega) (by omega) (by omega)]
  simp only [bt_bytes, rd4]
  rfl
theorem take_ev (s : ByteArray) (hs : s.size ≤ 140737488351300) : Ev (fun k => seal_Take.f k s) (unframe s) := by
  by_cases h8 : (s.size : Int) < 8
  · refine Ev.congr (f := fun _ => some (unframe s)) (fun k => ?_) (Ev.now _)
    unfold seal_Take.f unframe
    rw [if_pos h8, if_neg (by omega)]
    rfl
  · have hr := rd4_range s
    have hj1 : ∀ x5 : Int, Ev (fun k => seal_Take.j0 k s x5 true) (ByteArray.empty, ByteArray.empty, false) := fun x5 =>
      Ev.step (f := fun _ => some _) (fun k => by rw [seal_Take.j0, if_pos rfl]; rfl) (Ev.now _)
    by_cases hn : rd4 (bytesOf s) > 4000
    · refine Ev.congr (f := fun k => seal_Take.j0 k s (rd4 (bytesOf s)) true) (fun k => ?_) ?_
      · unfold seal_Take.f
        rw [if_neg h8, number4_eq s (by omega)]
        simp only [Option.bind_some]
        rw [if_pos hn]
      · have hu : unframe s = (ByteArray.empty, ByteArray.empty, false) := by
          unfold unframe
          rw [if_neg (by omega)]
        rw [hu]
        exact hj1 _
    · have w1 : wrap64 (rd4 (bytesOf s)) = rd4 (bytesOf s) := by unfold wrap64; omega
      have w2 : wrap64 ((s.size : Int) - 8) = (s.size : Int) - 8 := by unfold wrap64; omega
      refine Ev.congr (f := fun k => seal_Take.j0 k s (rd4 (bytesOf s)) (decide (rd4 (bytesOf s) > (s.size : Int) - 8))) (fun k => ?_) ?_
      · unfold seal_Take.f
        rw [if_neg h8, number4_eq s (by omega)]
        simp only [Option.bind_some]
        rw [if_neg hn, w1, w2]
      · by_cases hm : rd4 (bytesOf s) > (s.size : Int) - 8
        · have hu : unframe s = (ByteArray.empty, ByteArray.empty, false) := by
            unfold unframe
            rw [if_neg (by omega)]
          rw [hu, decide_eq_true hm]
          exact hj1 _
        · rw [decide_eq_false hm]
          have w3 : wrap64 (8 + rd4 (bytesOf s)) = 8 + rd4 (bytesOf s) := by unfold wrap64; omega
          have t3 : (8 + rd4 (bytesOf s)).toNat = 8 + (rd4 (bytesOf s)).toNat := by omega
          refine Ev.step (f := fun k => (seal_Of.f k (s.extract 0 4 ++ s.extract 8 (8 + (rd4 (bytesOf s)).toNat))).bind fun t109 => if rd4 ((bytesOf s).drop 4) = t109 then some (s.extract 8 (8 + (rd4 (bytesOf s)).toNat), s.extract (8 + (rd4 (bytesOf s)).toNat) s.size, true) else some (ByteArray.empty, ByteArray.empty, false)) (fun k => ?_) ?_
          · rw [seal_Take.j0, if_neg (by decide)]
            simp only [w1, w3, t3]
            rw [if_pos (by omega), if_pos (by omega), if_pos (by omega), if_pos (by omega), number4_eq _ (by rw [ByteArray.size_extract]; omega)]
            simp only [Option.bind_some]
            rw [if_pos (by omega), if_pos (by rw [ByteArray.size_extract, ByteArray.size_extract]; omega), bytesOf_extract, List.take_of_length_le (by rw [bytesOf_len]; omega)]
            rfl
          · refine Ev.bind (f := fun _ t109 => if rd4 ((bytesOf s).drop 4) = t109 then some (s.extract 8 (8 + (rd4 (bytesOf s)).toNat), s.extract (8 + (rd4 (bytesOf s)).toNat) s.size, true) else some (ByteArray.empty, ByteArray.empty, false)) (of_ev _ (by rw [ByteArray.size_append, ByteArray.size_extract, ByteArray.size_extract]; omega)) ?_
            refine Ev.congr (f := fun _ => some (unframe s)) (fun k => ?_) (Ev.now _)
            unfold unframe
            by_cases he : rd4 ((bytesOf s).drop 4) = chk (bytesOf (s.extract 0 4 ++ s.extract 8 (8 + (rd4 (bytesOf s)).toNat)))
            · rw [if_pos he, if_pos ⟨by omega, by omega, by omega, he⟩]
            · rw [if_neg he, if_neg (fun hh => he hh.2.2.2)]
theorem wakes_ev : Ev (fun k => amanuensislaw10_wakes.f k) true := by
  unfold amanuensislaw10_wakes.f
  refine Ev.bind (f := fun k t110 => _) (add_ev _) ?_
  have hsz : (frame ⟨#[97, 98]⟩).size = 10 := by rw [frame_size _ (by decide)]; rfl
  refine Ev.congr (f := fun k => (seal_Take.f k (frame ⟨#[97, 98]⟩ ++ ⟨#[99]⟩)).bind _) (fun k => by rw [if_pos (by rw [hsz]; omega)]) ?_
  refine Ev.bind (f := fun k bt111 => _) (take_ev _ (by rw [ByteArray.size_append, hsz]; decide)) ?_
  rw [unframe_frame _ _ (by decide)]
  refine Ev.bind (f := fun k t114 => _) (add_ev _) ?_
  have hsz0 : (frame ⟨#[]⟩).size = 8 := by rw [frame_size _ (by decide)]; rfl
  refine Ev.congr (f := fun k => (seal_Of.f k (⟨#[97]⟩ : ByteArray)).bind fun t115 => (seal_Of.f k (⟨#[98]⟩ : ByteArray)).bind fun t116 => some (t115 != t116)) (fun k => by rw [if_pos (by rw [hsz0]; rfl), if_pos rfl, if_pos (by rw [toL_eq]), if_pos (by rw [toL_eq])]) ?_
  refine Ev.bind (f := fun k t115 => (seal_Of.f k (⟨#[98]⟩ : ByteArray)).bind fun t116 => some (t115 != t116)) (of_ev _ (by decide)) ?_
  refine Ev.bind (f := fun k t116 => some (chk (bytesOf ⟨#[97]⟩) != t116)) (of_ev _ (by decide)) ?_
  exact Ev.congr (f := fun _ => some true) (fun k => by decide) (Ev.now _)
end Go.Proofs.Ytpemehpfkkjpiaa.PSealBack
