/-
  The pure statement of SealEdges: the checks and frames of texts of each length are the page's; each one's frame is taken behind another.
-/
import Derived.Test.YtpemehpfkkjpiaaPSealEdgesx2
import Derived.Test.YtpemehpfkkjpiaaCallsSealEdges
namespace Go.Proofs.Ytpemehpfkkjpiaa.PSealEdges
open Go.RowKit Go.Proofs.YtpemehpfkkjpiaaW.PrintWords Go.Proofs.Ytpemehpfkkjpiaa.SealMath
set_option linter.unusedVariables false
theorem check_loop (s : ByteArray) (hs : s.size ≤ 9223372036854775807) : ∀ (d : Nat) (i h : Int), 0 ≤ i → 0 ≤ h → h < 4294967291 → i + d = s.size →
    Ev (fun k => amanuensisref9_Check.l0 k s h i) (((bytesOf s).drop i.toNat).foldl stp h) := by
  intro d
  induction d with
  | zero =>
    intro i h h0 h1 h2 hd
    rw [List.drop_of_length_le (by rw [bytesOf_len]; omega)]
    refine Ev.step (f := fun _ => some h) (fun k => ?_) (Ev.now h)
    rw [amanuensisref9_Check.l0, if_neg (by omega), show h % 4294967296 = h by omega]
  | succ d ih =>
    intro i h h0 h1 h2 hd
    have hb := bt_range s i
    rw [drop_cons s i h0 (by omega), List.foldl_cons]
    refine Ev.step (fun k => ?_) (ih (i + 1) (stp h (bt s i)) (by omega) (stp_range _ _).1 (stp_range _ _).2 (by omega))
    rw [amanuensisref9_Check.l0, if_pos (by omega), if_pos h0, stp_wrap h _ h1 h2 hb.1 hb.2, show wrap64 (i + 1) = i + 1 by unfold wrap64; omega]
theorem check_ev (s : ByteArray) (hs : s.size ≤ 9223372036854775807) : Ev (fun k => amanuensisref9_Check.f k s) (chk (bytesOf s)) :=
  check_loop s hs s.size 0 7 (by omega) (by omega) (by omega) (by omega)
theorem rnumber_eq (n : Int) : amanuensisref9_number.f n = some (num4 n) := rfl
theorem frame_ev (s : ByteArray) : Ev (fun k => amanuensisref9_Frame.f k s) (frame s) := by
  by_cases h : (s.size : Int) > 4000
  · refine Ev.congr (f := fun _ => some (frame s)) (fun k => ?_) (Ev.now _)
    unfold amanuensisref9_Frame.f frame
    rw [if_pos h, if_neg (by omega)]
    rfl
  · refine Ev.congr (f := fun k => (amanuensisref9_Check.f k (num4 s.size ++ s)).bind fun c => (some (num4 (wrap64 c))).bind fun t112 => (if (num4 s.size).size + t112.size ≤ 9223372036854775807 then (if (num4 s.size ++ t112).size + s.size ≤ 9223372036854775807 then (some ((num4 s.size ++ t112) ++ s)) else (none)) else (none))) (fun k => ?_) ?_
    · unfold amanuensisref9_Frame.f
      rw [if_neg h, rnumber_eq]
      simp only [Option.bind_some]
      rw [if_pos (by rw [num4_size]; omega)]
      rfl
    · refine Ev.bind (f := fun _ c => (some (num4 (wrap64 c))).bind fun t112 => (if (num4 s.size).size + t112.size ≤ 9223372036854775807 then (if (num4 s.size ++ t112).size + s.size ≤ 9223372036854775807 then (some ((num4 s.size ++ t112) ++ s)) else (none)) else (none))) (check_ev _ (by rw [ByteArray.size_append, num4_size]; omega)) ?_
      refine Ev.congr (f := fun _ => some (frame s)) (fun k => ?_) (Ev.now _)
      simp only [Option.bind_some]
      rw [if_pos (by rw [num4_size, num4_size]; omega), if_pos (by rw [ByteArray.size_append, num4_size, num4_size]; omega)]
      have := chk_range (bytesOf (num4 s.size ++ s))
      rw [show wrap64 (chk (bytesOf (num4 s.size ++ s))) = chk (bytesOf (num4 s.size ++ s)) by unfold wrap64; omega]
      unfold frame
      rw [if_pos (by omega)]
end Go.Proofs.Ytpemehpfkkjpiaa.PSealEdges
namespace Go.Proofs.Ytpemehpfkkjpiaa.Pure
open Go.RowKit Go.Proofs.YtpemehpfkkjpiaaW.PrintWords Go.Proofs.Ytpemehpfkkjpiaa.SealMath Go.Proofs.Ytpemehpfkkjpiaa.PSealEdges
set_option linter.unusedVariables false

/-- The row of frames of texts of 10 m, 10 (m + 1), .. bytes up to 110. -/
def Row : Nat → Int → ByteArray → Prop
  | 0, m, r => m = 12 ∧ r = ByteArray.empty
  | d + 1, m, r => ∃ (s r' : ByteArray), r = frame s ++ r' ∧ (s.size : Int) = 10 * m ∧ 0 ≤ m ∧ m < 12 ∧ Row d (m + 1) r'

theorem row_size : ∀ (d : Nat) (m : Int) (r : ByteArray), Row d m r → r.size ≤ 200 * d
  | 0, m, r, h => by obtain ⟨_, rfl⟩ := h; simp
  | d + 1, m, r, h => by
    obtain ⟨s, r', rfl, hs, h0, h1, hr⟩ := h
    have := row_size d (m + 1) r' hr
    rw [ByteArray.size_append, frame_size s (by omega)]
    omega
theorem edges_back (S : List ByteArray) (N : List Int) : ∀ (d : Nat) (m : Int) (r : ByteArray), Row d m r → m + d = 12 → Ev (fun k => amanuensislaw10_SealEdges.l1 k r m) true := by
  intro d
  induction d with
  | zero =>
    intro m r h hm
    obtain ⟨rfl, rfl⟩ := h
    refine Ev.step (f := fun k => (amanuensislaw10_wakes.f k).bind fun t => some t) (fun k => ?_) (Ev.bind (f := fun _ t => some t) wakes_ev (Ev.now true))
    rw [amanuensislaw10_SealEdges.l1, if_neg (by omega), if_pos (by rw [toL_eq]; rfl)]
  | succ d ih =>
    intro m r h hm
    have hsz := row_size _ _ _ h
    obtain ⟨s, r', rfl, hs, h0, h1, hr⟩ := h
    refine Ev.step (f := fun k => (seal_Take.f k (frame s ++ r')).bind fun bt => if bt.2.2 = true then (if (bt.1.size : Int) = 10 * m then (if (bt.2.1.size : Int) ≥ ((frame s ++ r').size : Int) then some false else amanuensislaw10_SealEdges.l1 k bt.2.1 (m + 1)) else some false) else some false) (fun k => ?_) ?_
    · rw [amanuensislaw10_SealEdges.l1, if_pos (by omega), show wrap64 (10 * m) = 10 * m by unfold wrap64; omega, show wrap64 (m + 1) = m + 1 by unfold wrap64; omega]
    · refine Ev.bind (f := fun k (bt : ByteArray × ByteArray × Bool) => if bt.2.2 = true then (if (bt.1.size : Int) = 10 * m then (if (bt.2.1.size : Int) ≥ ((frame s ++ r').size : Int) then some false else amanuensislaw10_SealEdges.l1 k bt.2.1 (m + 1)) else some false) else some false) (take_ev _ (by omega)) ?_
      rw [unframe_frame _ _ (by omega)]
      refine Ev.congr (fun k => ?_) (ih (m + 1) r' hr (by omega))
      rw [if_pos rfl, if_pos (by omega), if_neg (by show ¬ ((r'.size : Int) ≥ _); rw [ByteArray.size_append, frame_size s (by omega)]; omega)]

/-- What the row is before it is full: frames from 0 on, up to m; whatever completes it. -/
def Begun (m : Int) (r : ByteArray) : Prop := ∀ q, Row (12 - m).toNat m q → Row 12 0 (r ++ q)
theorem begun_none : Begun 0 ByteArray.empty := fun q h => by rw [ByteArray.empty_append]; exact h
theorem begun_snoc {m : Int} {r s : ByteArray} (h0 : 0 ≤ m) (h1 : m < 12) (hs : (s.size : Int) = 10 * m) (h : Begun m r) : Begun (m + 1) (r ++ frame s) := by
  intro q hq
  rw [ByteArray.append_assoc]
  apply h
  rw [show (12 - m).toNat = (12 - (m + 1)).toNat + 1 by omega]
  exact ⟨s, q, rfl, hs, h0, h1, hq⟩
theorem begun_full {r : ByteArray} (h : Begun 12 r) : Row 12 0 r := by
  have := h ByteArray.empty ⟨rfl, rfl⟩
  rwa [ByteArray.append_empty] at this
theorem begun_size {m : Int} {r : ByteArray} (h0 : 0 ≤ m) (h1 : m ≤ 12) (h : Begun m r) : r.size ≤ 2400 := by
  have hq : ∀ (d : Nat) (m : Int), 0 ≤ m → m + d = 12 → ∃ q, Row d m q := by
    intro d
    induction d with
    | zero => intro m _ hm; exact ⟨ByteArray.empty, by omega, rfl⟩
    | succ d ih =>
      intro m h0 hm
      obtain ⟨q, hq⟩ := ih (m + 1) (by omega) (by omega)
      exact ⟨_, strOfNums (List.replicate (10 * m).toNat 0), q, rfl, by rw [strOfNums_size, List.length_replicate]; omega, h0, by omega, hq⟩
  obtain ⟨q, hq⟩ := hq (12 - m).toNat m h0 (by omega)
  have := row_size _ _ _ (h q hq)
  rw [ByteArray.size_append] at this
  omega
theorem edges_all (S : List ByteArray) (N : List Int) (hS : S.length ≤ 140737488351232) : ∀ (d : Nat) (n : Int) (s r : ByteArray), 0 ≤ n → n + d = 120 → (s.size : Int) = n → Begun ((n + 9) / 10) r →
    Ev (fun k => amanuensislaw10_SealEdges.l0 k s r n S N) true := by
  intro d
  induction d with
  | zero =>
    intro n s r h0 hn hs hb
    rw [show (n + 9) / 10 = 12 by omega] at hb
    refine Ev.step (fun k => ?_) (edges_back S N 12 0 r (begun_full hb) (by omega))
    rw [amanuensislaw10_SealEdges.l0, if_neg (by omega)]
  | succ d ih =>
    intro n s r h0 hn hs hb
    refine Ev.step (f := fun k => (seal_Of.f k s).bind fun t124 => (amanuensisref9_Check.f k s).bind fun t125 => if t124 = t125 then ((seal_Add.f k s).bind fun t126 => (amanuensisref9_Frame.f k s).bind fun t127 => amanuensislaw10_SealEdges.j1 k s r n (t126.toList != t127.toList) S N) else amanuensislaw10_SealEdges.j1 k s r n true S N) (fun k => by rw [amanuensislaw10_SealEdges.l0, if_pos (by omega)]) ?_
    refine Ev.bind (f := fun k t124 => (amanuensisref9_Check.f k s).bind fun t125 => if t124 = t125 then ((seal_Add.f k s).bind fun t126 => (amanuensisref9_Frame.f k s).bind fun t127 => amanuensislaw10_SealEdges.j1 k s r n (t126.toList != t127.toList) S N) else amanuensislaw10_SealEdges.j1 k s r n true S N) (of_ev s (by omega)) ?_
    refine Ev.bind (f := fun k t125 => if chk (bytesOf s) = t125 then ((seal_Add.f k s).bind fun t126 => (amanuensisref9_Frame.f k s).bind fun t127 => amanuensislaw10_SealEdges.j1 k s r n (t126.toList != t127.toList) S N) else amanuensislaw10_SealEdges.j1 k s r n true S N) (check_ev s (by omega)) ?_
    refine Ev.congr (f := fun k => (seal_Add.f k s).bind fun t126 => (amanuensisref9_Frame.f k s).bind fun t127 => amanuensislaw10_SealEdges.j1 k s r n (t126.toList != t127.toList) S N) (fun k => by rw [if_pos rfl]) ?_
    refine Ev.bind (f := fun k t126 => (amanuensisref9_Frame.f k s).bind fun t127 => amanuensislaw10_SealEdges.j1 k s r n (t126.toList != t127.toList) S N) (add_ev s) ?_
    refine Ev.bind (f := fun k t127 => amanuensislaw10_SealEdges.j1 k s r n ((frame s).toList != t127.toList) S N) (frame_ev s) ?_
    have hne : ((frame s).toList != (frame s).toList) = false := by simp
    rw [hne]
    have hx : ∀ c : Int, (strOfNums [c]).size = 1 := fun c => by rw [strOfNums_size]; rfl
    by_cases h10 : n % 10 = 0
    · have hb' := begun_snoc (s := s) (by omega) (by omega) (by omega) hb
      have hz := begun_size (by omega) (by omega) hb
      refine Ev.step (f := fun k => (seal_Add.f k s).bind fun t128 => if r.size + t128.size ≤ 9223372036854775807 then amanuensislaw10_SealEdges.l0 k (s ++ strOfNums [(wrap64 (wrap64 (n * 7) + (S.length : Int))) % 256]) (r ++ t128) (n + 1) S N else none) (fun k => ?_) ?_
      · rw [amanuensislaw10_SealEdges.j1, if_neg (by decide), Int.tmod_eq_emod_of_nonneg h0, if_pos h10]
        have hc : s.size + (strOfNums [(wrap64 (wrap64 (n * 7) + (S.length : Int))) % 256]).size ≤ 9223372036854775807 := by rw [hx]; omega
        simp only [Option.bind_some, if_pos hc]
        rw [show wrap64 (n + 1) = n + 1 by unfold wrap64; omega]
      · refine Ev.bind (f := fun k t128 => if r.size + t128.size ≤ 9223372036854775807 then amanuensislaw10_SealEdges.l0 k (s ++ strOfNums [(wrap64 (wrap64 (n * 7) + (S.length : Int))) % 256]) (r ++ t128) (n + 1) S N else none) (add_ev s) ?_
        refine Ev.congr (fun k => by rw [if_pos (by rw [frame_size s (by omega)]; omega)]) (ih (n + 1) _ (r ++ frame s) (by omega) (by omega) (by rw [ByteArray.size_append, hx]; omega) (by rw [show (n + 1 + 9) / 10 = (n + 9) / 10 + 1 by omega]; exact hb'))
    · refine Ev.step (fun k => ?_) (ih (n + 1) (s ++ strOfNums [(wrap64 (wrap64 (n * 7) + (S.length : Int))) % 256]) r (by omega) (by omega) (by rw [ByteArray.size_append, hx]; omega) (by rw [show (n + 1 + 9) / 10 = (n + 9) / 10 by omega]; exact hb))
      rw [amanuensislaw10_SealEdges.j1, if_neg (by decide), Int.tmod_eq_emod_of_nonneg h0, if_neg h10]
      simp only [Option.bind_some]
      rw [if_pos (by rw [hx]; omega), show wrap64 (n + 1) = n + 1 by unfold wrap64; omega]

theorem SealEdges (l0_0 : List ByteArray) (l0_1 : List Int) (b0 : l0_0.length * 16 ≤ 140737488351232 ∧ ∀ x ∈ l0_0, x.size ≤ 140737488351232) (b1 : l0_1.length * 8 ≤ 140737488351232 ∧ ∀ x ∈ l0_1, (Lit.int .i64 x).wf = true) : ∃ k, amanuensislaw10_SealEdges.f k l0_0 l0_1 = some true :=
  (edges_all l0_0 l0_1 (by omega) 120 0 _ _ (by omega) (by omega) rfl begun_none).rounds

end Go.Proofs.Ytpemehpfkkjpiaa.Pure
