/-
  What the printed functions of layer 10 come to: the check, the frame, what a text begins with. (For the law SealExact.)
-/
import Derived.Test.YtpemehpfkkjpiaaSealMath
import Derived.Test.YtpemehpfkkjpiaaOUnframe
import Derived.Test.YtpemehpfkkjpiaaPSealExactx3
namespace Go.Proofs.Ytpemehpfkkjpiaa.PSealExact
open Go.RowKit Go.Proofs.YtpemehpfkkjpiaaW.PrintWords Go.Proofs.Ytpemehpfkkjpiaa.SealMath
set_option linter.unusedVariables false

theorem empty_eq : (⟨#[]⟩ : ByteArray) = ByteArray.empty := rfl
theorem of_loop (s : ByteArray) (hs : s.size ≤ 9223372036854775807) : ∀ (d : Nat) (i h : Int), 0 ≤ i → 0 ≤ h → h < 4294967291 → i + d = s.size →
    Ev (fun k => seal_Of.l0 k s h s.size i) (((bytesOf s).drop i.toNat).foldl stp h) := by
  intro d
  induction d with
  | zero =>
    intro i h h0 h1 h2 hd
    rw [List.drop_of_length_le (by rw [bytesOf_len]; omega)]
    refine Ev.step (f := fun _ => some h) (fun k => ?_) (Ev.now h)
    rw [seal_Of.l0, if_neg (by omega), show h % 4294967296 = h by omega]
  | succ d ih =>
    intro i h h0 h1 h2 hd
    have hb := bt_range s i
    rw [drop_cons s i h0 (by omega), List.foldl_cons]
    refine Ev.step (fun k => ?_) (ih (i + 1) (stp h (bt s i)) (by omega) (stp_range _ _).1 (stp_range _ _).2 (by omega))
    rw [seal_Of.l0, if_pos (by omega), if_pos h0, if_pos (by omega), stp_wrap h _ h1 h2 hb.1 hb.2, show wrap64 (i + 1) = i + 1 by unfold wrap64; omega]
theorem of_ev (s : ByteArray) (hs : s.size ≤ 9223372036854775807) : Ev (fun k => seal_Of.f k s) (chk (bytesOf s)) :=
  of_loop s hs s.size 0 7 (by omega) (by omega) (by omega) (by omega)
theorem number_eq (n : Int) : seal_number.f n = some (num4 n) := rfl
theorem add_ev (s : ByteArray) : Ev (fun k => seal_Add.f k s) (frame s) := by
  by_cases h : (s.size : Int) > 4000
  · refine Ev.congr (f := fun _ => some (frame s)) (fun k => ?_) (Ev.now _)
    unfold seal_Add.f frame
    rw [if_pos h, if_neg (by omega)]
    rfl
  · refine Ev.congr (f := fun k => (seal_Of.f k (num4 s.size ++ s)).bind fun _ => some (frame s)) (fun k => ?_) (Ev.bind (f := fun _ _ => some (frame s)) (of_ev _ (by rw [ByteArray.size_append, num4_size]; omega)) (Ev.now _))
    unfold seal_Add.f
    rw [if_neg h, show (s.size : Int) % 4294967296 = s.size by omega, number_eq]
    simp only [Option.bind_some]
    rw [if_pos (by rw [num4_size]; omega)]
    obtain ⟨K, hK⟩ := of_ev (num4 s.size ++ s) (by rw [ByteArray.size_append, num4_size]; omega)
    cases hf : seal_Of.f k (num4 ↑s.size ++ s) with
    | none => rfl
    | some r =>
      have hr : r = chk (bytesOf (num4 s.size ++ s)) := by
        have h1 := at_rounds (g := fun k => seal_Of.f k (num4 ↑s.size ++ s)) (seal_Of.mono _) (Nat.le_max_left k K) hf
        have h2 := hK (max k K) (Nat.le_max_right _ _)
        simp only [h1, Option.some.injEq] at h2
        exact h2
      simp only [Option.bind_some, number_eq]
      rw [if_pos (by rw [num4_size, num4_size]; omega), if_pos (by rw [ByteArray.size_append, num4_size, num4_size]; omega)]
      unfold frame
      rw [if_pos (by omega), hr]
theorem number4_eq (s : ByteArray) (h : 4 ≤ s.size) : seal_Number.f s = some (rd4 (bytesOf s)) := by
  unfold seal_Number.f
  rw [if_pos (by omega), if_pos (by omega), if_pos (by omega), if_pos (by omega)]
  have h0 := bt_range s 0; have h1 := bt_range s 1; have h2 := bt_range s 2; have h3 := bt_range s 3
  rw [or4 _ _ _ _ (by omega) (by omega) (by omega) (by omega)]
  simp only [bt_bytes, rd4]
  rfl
theorem take_ev (s : ByteArray) (hs : s.size ≤ 140737488351300) : Ev (fun k => seal_Take.f k s) (unframe s) := by
  by_cases h8 : (s.size : Int) < 8
  · refine Ev.congr (f := fun _ => some (unframe s)) (fun k => ?_) (Ev.now _)
    unfold seal_Take.f unframe
    rw [if_pos h8, if_neg (by omega)]
    rfl
  · have hr := rd4_range s
    have hj1 : ∀ x5 : Int, Ev (fun k => seal_Take.j0 k s x5 true) (ByteArray.empty, ByteArray.empty, false) := fun x5 =>
      Ev.step (f := fun _ => some _) (fun k => by rw [seal_Take.j0, if_pos rfl]; rfl) (Ev.now _)
    by_cases hn : rd4 (bytesOf s) > 4000
    · refine Ev.congr (f := fun k => seal_Take.j0 k s (rd4 (bytesOf s)) true) (fun k => ?_) ?_
      · unfold seal_Take.f
        rw [if_neg h8, number4_eq s (by omega)]
        simp only [Option.bind_some]
        rw [if_pos hn]
      · have hu : unframe s = (ByteArray.empty, ByteArray.empty, false) := by
          unfold unframe
          rw [if_neg (by omega)]
        rw [hu]
        exact hj1 _
    · have w1 : wrap64 (rd4 (bytesOf s)) = rd4 (bytesOf s) := by unfold wrap64; omega
      have w2 : wrap64 ((s.size : Int) - 8) = (s.size : Int) - 8 := by unfold wrap64; omega
      refine Ev.congr (f := fun k => seal_Take.j0 k s (rd4 (bytesOf s)) (decide (rd4 (bytesOf s) > (s.size : Int) - 8))) (fun k => ?_) ?_
      · unfold seal_Take.f
        rw [if_neg h8, number4_eq s (by omega)]
        simp only [Option.bind_some]
        rw [if_neg hn, w1, w2]
      · by_cases hm : rd4 (bytesOf s) > (s.size : Int) - 8
        · have hu : unframe s = (ByteArray.empty, ByteArray.empty, false) := by
            unfold unframe
            rw [if_neg (by omega)]
          rw [hu, decide_eq_true hm]
          exact hj1 _
        · rw [decide_eq_false hm]
          have w3 : wrap64 (8 + rd4 (bytesOf s)) = 8 + rd4 (bytesOf s) := by unfold wrap64; omega
          have t3 : (8 + rd4 (bytesOf s)).toNat = 8 + (rd4 (bytesOf s)).toNat := by omega
          refine Ev.step (f := fun k => (seal_Of.f k (s.extract 0 4 ++ s.extract 8 (8 + (rd4 (bytesOf s)).toNat))).bind fun t109 => if rd4 ((bytesOf s).drop 4) = t109 then some (s.extract 8 (8 + (rd4 (bytesOf s)).toNat), s.extract (8 + (rd4 (bytesOf s)).toNat) s.size, true) else some (ByteArray.empty, ByteArray.empty, false)) (fun k => ?_) ?_
          · rw [seal_Take.j0, if_neg (by decide)]
            simp only [w1, w3, t3]
            rw [if_pos (by omega), if_pos (by omega), if_pos (by omega), if_pos (by omega), number4_eq _ (by rw [ByteArray.size_extract]; omega)]
            simp only [Option.bind_some]
            rw [if_pos (by omega), if_pos (by rw [ByteArray.size_extract, ByteArray.size_extract]; omega), bytesOf_extract, List.take_of_length_le (by rw [bytesOf_len]; omega)]
            rfl
          · refine Ev.bind (f := fun _ t109 => if rd4 ((bytesOf s).drop 4) = t109 then some (s.extract 8 (8 + (rd4 (bytesOf s)).toNat), s.extract (8 + (rd4 (bytesOf s)).toNat) s.size, true) else some (ByteArray.empty, ByteArray.empty, false)) (of_ev _ (by rw [ByteArray.size_append, ByteArray.size_extract, ByteArray.size_extract]; omega)) ?_
            refine Ev.congr (f := fun _ => some (unframe s)) (fun k => ?_) (Ev.now _)
            unfold unframe
            by_cases he : rd4 ((bytesOf s).drop 4) = chk (bytesOf (s.extract 0 4 ++ s.extract 8 (8 + (rd4 (bytesOf s)).toNat)))
            · rw [if_pos he, if_pos ⟨by omega, by omega, by omega, he⟩]
            · rw [if_neg he, if_neg (fun hh => he hh.2.2.2)]
theorem wakes_ev : Ev (fun k => amanuensislaw10_wakes.f k) true := by
  unfold amanuensislaw10_wakes.f
  refine Ev.bind (f := fun k t110 => _) (add_ev _) ?_
  have hsz : (frame ⟨#[97, 98]⟩).size = 10 := by rw [frame_size _ (by decide)]; rfl
  refine Ev.congr (f := fun k => (seal_Take.f k (frame ⟨#[97, 98]⟩ ++ ⟨#[99]⟩)).bind _) (fun k => by rw [if_pos (by rw [hsz]; omega)]) ?_
  refine Ev.bind (f := fun k bt111 => _) (take_ev _ (by rw [ByteArray.size_append, hsz]; decide)) ?_
  rw [unframe_frame _ _ (by decide)]
  refine Ev.bind (f := fun k t114 => _) (add_ev _) ?_
  have hsz0 : (frame ⟨#[]⟩).size = 8 := by rw [frame_size _ (by decide)]; rfl
  refine Ev.congr (f := fun k => (seal_Of.f k (⟨#[97]⟩ : ByteArray)).bind fun t115 => (seal_Of.f k (⟨#[98]⟩ : ByteArray)).bind fun t116 => some (t115 != t116)) (fun k => by rw [if_pos (by rw [hsz0]; rfl), if_pos rfl, if_pos (by rw [toL_eq]), if_pos (by rw [toL_eq])]) ?_
  refine Ev.bind (f := fun k t115 => (seal_Of.f k (⟨#[98]⟩ : ByteArray)).bind fun t116 => some (t115 != t116)) (of_ev _ (by decide)) ?_
  refine Ev.bind (f := fun k t116 => some (chk (bytesOf ⟨#[97]⟩) != t116)) (of_ev _ (by decide)) ?_
  exact Ev.congr (f := fun _ => some true) (fun k => by decide) (Ev.now _)
theorem check_loop (s : ByteArray) (hs : s.size ≤ 9223372036854775807) : ∀ (d : Nat) (i h : Int), 0 ≤ i → 0 ≤ h → h < 4294967291 → i + d = s.size →
    Ev (fun k => amanuensisref9_Check.l0 k s h i) (((bytesOf s).drop i.toNat).foldl stp h) := by
  intro d
  induction d with
  | zero =>
    intro i h h0 h1 h2 hd
    rw [List.drop_of_length_le (by rw [bytesOf_len]; omega)]
    refine Ev.step (f := fun _ => some h) (fun k => ?_) (Ev.now h)
    rw [amanuensisref9_Check.l0, if_neg (by omega), show h % 4294967296 = h by omega]
  | succ d ih =>
    intro i h h0 h1 h2 hd
    have hb := bt_range s i
    rw [drop_cons s i h0 (by omega), List.foldl_cons]
    refine Ev.step (fun k => ?_) (ih (i + 1) (stp h (bt s i)) (by omega) (stp_range _ _).1 (stp_range _ _).2 (by omega))
    rw [amanuensisref9_Check.l0, if_pos (by omega), if_pos h0, stp_wrap h _ h1 h2 hb.1 hb.2, show wrap64 (i + 1) = i + 1 by unfold wrap64; omega]
theorem check_ev (s : ByteArray) (hs : s.size ≤ 9223372036854775807) : Ev (fun k => amanuensisref9_Check.f k s) (chk (bytesOf s)) :=
  check_loop s hs s.size 0 7 (by omega) (by omega) (by omega) (by omega)
theorem rnumber_eq (n : Int) : amanuensisref9_number.f n = some (num4 n) := rfl
theorem frame_ev (s : ByteArray) : Ev (fun k => amanuensisref9_Frame.f k s) (frame s) := by
  by_cases h : (s.size : Int) > 4000
  · refine Ev.congr (f := fun _ => some (frame s)) (fun k => ?_) (Ev.now _)
    unfold amanuensisref9_Frame.f frame
    rw [if_pos h, if_neg (by omega)]
    rfl
  · refine Ev.congr (f := fun k => (amanuensisref9_Check.f k (num4 s.size ++ s)).bind fun c => (some (num4 (wrap64 c))).bind fun t112 => (if (num4 s.size).size + t112.size ≤ 9223372036854775807 then (if (num4 s.size ++ t112).size + s.size ≤ 9223372036854775807 then (some ((num4 s.size ++ t112) ++ s)) else (none)) else (none))) (fun k => ?_) ?_
    · unfold amanuensisref9_Frame.f
      rw [if_neg h, rnumber_eq]
      simp only [Option.bind_some]
      rw [if_pos (by rw [num4_size]; omega)]
      rfl
    · refine Ev.bind (f := fun _ c => (some (num4 (wrap64 c))).bind fun t112 => (if (num4 s.size).size + t112.size ≤ 9223372036854775807 then (if (num4 s.size ++ t112).size + s.size ≤ 9223372036854775807 then (some ((num4 s.size ++ t112) ++ s)) else (none)) else (none))) (check_ev _ (by rw [ByteArray.size_append, num4_size]; omega)) ?_
      refine Ev.congr (f := fun _ => some (frame s)) (fun k => ?_) (Ev.now _)
      simp only [Option.bind_some]
      rw [if_pos (by rw [num4_size, num4_size]; omega), if_pos (by rw [ByteArray.size_append, num4_size, num4_size]; omega)]
      have := chk_range (bytesOf (num4 s.size ++ s))
      rw [show wrap64 (chk (bytesOf (num4 s.size ++ s))) = chk (bytesOf (num4 s.size ++ s)) by unfold wrap64; omega]
      unfold frame
      rw [if_pos (by omega)]
theorem or4i (a b c d : Int) (ha : 0 ≤ a ∧ a < 256) (hb : 0 ≤ b ∧ b < 256) (hc : 0 ≤ c ∧ c < 256) (hd : 0 ≤ d ∧ d < 256) :
    Go.bits .or .i64 (Go.bits .or .i64 (Go.bits .or .i64 (wrap64 ((wrap64 a) * 16777216)) (wrap64 ((wrap64 b) * 65536))) (wrap64 ((wrap64 c) * 256))) (wrap64 d) = a * 16777216 + b * 65536 + c * 256 + d := by
  have hk : ∀ n : Int, 0 ≤ n → n < 2 ^ 32 → IntKind.i64.wrap n = n := by
    intro n h0 h1
    rw [IntKind.wrap_i64]
    omega
  rw [show wrap64 a = a by unfold wrap64; omega, show wrap64 b = b by unfold wrap64; omega, show wrap64 c = c by unfold wrap64; omega, show wrap64 d = d by unfold wrap64; omega,
    show wrap64 (a * 16777216) = a * 16777216 by unfold wrap64; omega, show wrap64 (b * 65536) = b * 65536 by unfold wrap64; omega, show wrap64 (c * 256) = c * 256 by unfold wrap64; omega]
  rw [bits_join .i64 32 (by decide) hk 24 (a * 16777216) _ (by omega) (by omega) (by omega) (by omega) (by omega) (by omega)]
  rw [bits_join .i64 32 (by decide) hk 16 (a * 16777216 + b * 65536) _ (by omega) (by omega) (by omega) (by omega) (by omega) (by omega)]
  rw [bits_join .i64 32 (by decide) hk 8 (a * 16777216 + b * 65536 + c * 256) _ (by omega) (by omega) (by omega) (by omega) (by omega) (by omega)]
theorem read_eq (s : ByteArray) (h : 4 ≤ s.size) : amanuensisref9_read.f s = some (rd4 (bytesOf s)) := by
  unfold amanuensisref9_read.f
  rw [if_pos (by omega), if_pos (by omega), if_pos (by omega), if_pos (by omega)]
  have h0 := bt_range s 0; have h1 := bt_range s 1; have h2 := bt_range s 2; have h3 := bt_range s 3
  rw [or4i _ _ _ _ (by omega) (by omega) (by omega) (by omega)]
  simp only [bt_bytes, rd4]
  rfl
/-- Four bytes are the number's that they tell. -/
theorem num4_rd4 (l : List Int) (hl : ∀ c ∈ l, 0 ≤ c ∧ c < 256) (h4 : 4 ≤ l.length) : bytesOf (num4 (rd4 l)) = l.take 4 := by
  match l, h4 with
  | a :: b :: c :: d :: t, _ =>
    have ha := hl a (by simp)
    have hb := hl b (by simp)
    have hc := hl c (by simp)
    have hd := hl d (by simp)
    rw [num4_bytes]
    simp [rd4]
    omega
/-- The page's test of a frame is the program's. -/
theorem frame_test (s : ByteArray) (h8 : 8 ≤ s.size) (hn : rd4 (bytesOf s) ≤ 4000) (hm : rd4 (bytesOf s) ≤ s.size - 8) :
    (frame (s.extract 8 (8 + (rd4 (bytesOf s)).toNat))).toList = (s.extract 0 (8 + (rd4 (bytesOf s)).toNat)).toList ↔ rd4 ((bytesOf s).drop 4) = chk (bytesOf (s.extract 0 4 ++ s.extract 8 (8 + (rd4 (bytesOf s)).toNat))) := by
  have hr := rd4_range s
  have hb := bytesOf_range s
  have hlen := bytesOf_len s
  have hsz : (s.extract 8 (8 + (rd4 (bytesOf s)).toNat)).size = (rd4 (bytesOf s)).toNat := by rw [ByteArray.size_extract]; omega
  have hN : bytesOf (num4 ((s.extract 8 (8 + (rd4 (bytesOf s)).toNat)).size : Int)) = (bytesOf s).take 4 := by
    rw [hsz, Int.toNat_of_nonneg hr.1]
    exact num4_rd4 _ hb (by omega)
  have hd : ∀ c ∈ (bytesOf s).drop 4, 0 ≤ c ∧ c < 256 := fun c hc => hb c (List.mem_of_mem_drop hc)
  have hC := num4_rd4 ((bytesOf s).drop 4) hd (by rw [List.length_drop]; omega)
  have hsplit : (bytesOf s).take (8 + (rd4 (bytesOf s)).toNat) = (bytesOf s).take 4 ++ (((bytesOf s).drop 4).take 4 ++ ((bytesOf s).take (8 + (rd4 (bytesOf s)).toNat)).drop 8) := by
    rw [← List.append_assoc, ← List.take_add, List.drop_take, Nat.add_sub_cancel_left, ← List.take_add]
  have hX : bytesOf (s.extract 0 4 ++ s.extract 8 (8 + (rd4 (bytesOf s)).toNat)) = (bytesOf s).take 4 ++ ((bytesOf s).take (8 + (rd4 (bytesOf s)).toNat)).drop 8 := by
    rw [bytesOf_append, bytesOf_extract, bytesOf_extract, List.drop_zero]
  have hT : bytesOf (s.extract 8 (8 + (rd4 (bytesOf s)).toNat)) = ((bytesOf s).take (8 + (rd4 (bytesOf s)).toNat)).drop 8 := by rw [bytesOf_extract]
  have hF : bytesOf (frame (s.extract 8 (8 + (rd4 (bytesOf s)).toNat))) = (bytesOf s).take 4 ++ (bytesOf (num4 (chk (bytesOf (s.extract 0 4 ++ s.extract 8 (8 + (rd4 (bytesOf s)).toNat))))) ++ ((bytesOf s).take (8 + (rd4 (bytesOf s)).toNat)).drop 8) := by
    unfold frame
    rw [if_pos (by omega), bytesOf_append, bytesOf_append, bytesOf_append, hN, hT, List.append_assoc, hX]
  have hcr := chk_range (bytesOf (s.extract 0 4 ++ s.extract 8 (8 + (rd4 (bytesOf s)).toNat)))
  constructor
  · intro h
    have h' := congrArg bytesOf (toL_inj h)
    rw [hF, bytesOf_extract, List.drop_zero, hsplit] at h'
    have h2 := List.append_cancel_left h'
    have h3 := (List.append_inj h2 (by rw [bytesOf_len, num4_size, List.length_take, List.length_drop]; omega)).1
    have h4 := rd4_num4 (chk (bytesOf (s.extract 0 4 ++ s.extract 8 (8 + (rd4 (bytesOf s)).toNat)))) hcr.1 (by omega) []
    rw [List.append_nil, h3, ← hC, ← List.append_nil (bytesOf (num4 (rd4 ((bytesOf s).drop 4))))] at h4
    have hr4 : 0 ≤ rd4 ((bytesOf s).drop 4) ∧ rd4 ((bytesOf s).drop 4) < 4294967296 := by
      have hg := getD_range _ hd
      unfold rd4
      have := hg 0; have := hg 1; have := hg 2; have := hg 3
      omega
    rw [rd4_num4 _ hr4.1 hr4.2 []] at h4
    exact h4
  · intro h
    have : frame (s.extract 8 (8 + (rd4 (bytesOf s)).toNat)) = s.extract 0 (8 + (rd4 (bytesOf s)).toNat) := by
      apply bytesOf_inj
      rw [hF, bytesOf_extract, List.drop_zero, ← h, hC]
      exact hsplit.symm
    rw [this]
theorem unframe_ev (s : ByteArray) (hs : s.size ≤ 140737488351300) : Ev (fun k => amanuensisref9_Unframe.f k s) (unframe s) := by
  by_cases h8 : (s.size : Int) < 8
  · refine Ev.congr (f := fun _ => some (unframe s)) (fun k => ?_) (Ev.now _)
    unfold amanuensisref9_Unframe.f unframe
    rw [if_pos h8, if_neg (by omega)]
    rfl
  · have hr := rd4_range s
    have w2 : wrap64 ((s.size : Int) - 8) = (s.size : Int) - 8 := by unfold wrap64; omega
    by_cases hn : rd4 (bytesOf s) > 4000
    · refine Ev.congr (f := fun _ => some (unframe s)) (fun k => ?_) (Ev.now _)
      unfold amanuensisref9_Unframe.f unframe
      rw [if_neg h8, read_eq s (by omega)]
      simp only [Option.bind_some]
      rw [if_pos hn, if_neg (by omega)]
      rfl
    · by_cases hm : rd4 (bytesOf s) > (s.size : Int) - 8
      · refine Ev.congr (f := fun _ => some (unframe s)) (fun k => ?_) (Ev.now _)
        unfold amanuensisref9_Unframe.f unframe
        rw [if_neg h8, read_eq s (by omega)]
        simp only [Option.bind_some]
        rw [if_neg hn, w2, if_pos hm, if_neg (by omega)]
        rfl
      · have w3 : wrap64 (8 + rd4 (bytesOf s)) = 8 + rd4 (bytesOf s) := by unfold wrap64; omega
        have t3 : (8 + rd4 (bytesOf s)).toNat = 8 + (rd4 (bytesOf s)).toNat := by omega
        have ht := frame_test s (by omega) (by omega) (by omega)
        refine Ev.congr (f := fun k => (amanuensisref9_Frame.f k (s.extract 8 (8 + (rd4 (bytesOf s)).toNat))).bind fun t120 => if t120.toList = (s.extract 0 (8 + (rd4 (bytesOf s)).toNat)).toList then some (s.extract 8 (8 + (rd4 (bytesOf s)).toNat), s.extract (8 + (rd4 (bytesOf s)).toNat) s.size, true) else some (ByteArray.empty, ByteArray.empty, false)) (fun k => ?_) ?_
        · unfold amanuensisref9_Unframe.f
          rw [if_neg h8, read_eq s (by omega)]
          simp only [Option.bind_some]
          rw [if_neg hn, w2, if_neg hm, w3, if_pos (by omega), if_pos (by omega), t3]
          congr 1
          funext t
          rw [if_pos (by omega)]
          rfl
        · refine Ev.bind (f := fun _ t120 => if t120.toList = (s.extract 0 (8 + (rd4 (bytesOf s)).toNat)).toList then some (s.extract 8 (8 + (rd4 (bytesOf s)).toNat), s.extract (8 + (rd4 (bytesOf s)).toNat) s.size, true) else some (ByteArray.empty, ByteArray.empty, false)) (frame_ev _) ?_
          refine Ev.congr (f := fun _ => some (unframe s)) (fun k => ?_) (Ev.now _)
          unfold unframe
          by_cases he : rd4 ((bytesOf s).drop 4) = chk (bytesOf (s.extract 0 4 ++ s.extract 8 (8 + (rd4 (bytesOf s)).toNat)))
          · rw [if_pos (ht.2 he), if_pos ⟨by omega, by omega, by omega, he⟩]
          · rw [if_neg (fun hh => he (ht.1 hh)), if_neg (fun hh => he hh.2.2.2)]
end Go.Proofs.Ytpemehpfkkjpiaa.PSealExact
