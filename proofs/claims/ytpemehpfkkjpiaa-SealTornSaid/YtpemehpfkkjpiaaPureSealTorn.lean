/-
  The pure statement of SealTorn: a frame that is cut off anywhere is not taken; nor is one whose length says more than there is.
-/
import Derived.Test.YtpemehpfkkjpiaaPSealTornx2
import Derived.Test.YtpemehpfkkjpiaaCallsSealTorn
namespace Go.Proofs.Ytpemehpfkkjpiaa.Pure
open Go.RowKit Go.Proofs.YtpemehpfkkjpiaaW.PrintWords Go.Proofs.Ytpemehpfkkjpiaa.SealMath Go.Proofs.Ytpemehpfkkjpiaa.PSealTorn
set_option linter.unusedVariables false

def farLen : ByteArray := ⟨#[255, 255, 255, 255, 0, 0, 0, 0]⟩
theorem torn_tail (x3 : Int) (S : List ByteArray) (N : List Int) : Ev (fun k => amanuensislaw10_SealTorn.j1 k x3 false S N) true := by
  refine Ev.step (f := fun k => (seal_Take.f k farLen).bind fun bt => if bt.2.2 = true then some false else (amanuensislaw10_wakes.f k).bind fun t => some t) (fun k => by rw [amanuensislaw10_SealTorn.j1, if_neg (by decide)]; rfl) ?_
  refine Ev.bind (f := fun k (bt : ByteArray × ByteArray × Bool) => if bt.2.2 = true then some false else (amanuensislaw10_wakes.f k).bind fun t => some t) (take_ev farLen (by decide)) ?_
  have h : (unframe farLen).2.2 = false := unframe_short _ (by decide)
  refine Ev.congr (f := fun k => (amanuensislaw10_wakes.f k).bind fun t => some t) (fun k => by rw [h, if_neg (by decide)]) ?_
  exact Ev.bind (f := fun _ t => some t) wakes_ev (Ev.now true)
theorem torn_round (t : ByteArray) (ht : t.size ≤ 100) (x3 : Int) (h0 : 0 ≤ x3) (h1 : x3 < 100) (S : List ByteArray) (N : List Int) (hn : Ev (fun k => amanuensislaw10_SealTorn.l0 k (x3 + 1) S N) true) :
    ∀ (d : Nat) (j : Int), 0 ≤ j → j + d = (frame t).size → Ev (fun k => amanuensislaw10_SealTorn.l1 k x3 (frame t) j S N) true := by
  have hs := frame_size t (by omega)
  intro d
  induction d with
  | zero =>
    intro j h0' hj
    refine Ev.step (fun k => ?_) hn
    rw [amanuensislaw10_SealTorn.l1, if_neg (by omega), show wrap64 (x3 + 1) = x3 + 1 by unfold wrap64; omega]
  | succ d ih =>
    intro j h0' hj
    refine Ev.step (f := fun k => (seal_Take.f k ((frame t).extract 0 j.toNat)).bind fun bt => if bt.2.2 = true then some false else amanuensislaw10_SealTorn.l1 k x3 (frame t) (j + 1) S N) (fun k => ?_) ?_
    · rw [amanuensislaw10_SealTorn.l1, if_pos (by omega), if_pos h0', if_pos (by omega), show wrap64 (j + 1) = j + 1 by unfold wrap64; omega]
    · refine Ev.bind (f := fun k (bt : ByteArray × ByteArray × Bool) => if bt.2.2 = true then some false else amanuensislaw10_SealTorn.l1 k x3 (frame t) (j + 1) S N) (take_ev _ (by rw [ByteArray.size_extract]; omega)) ?_
      have h := unframe_torn t (by omega) j.toNat (by omega)
      refine Ev.congr (fun k => ?_) (ih (j + 1) (by omega) (by omega))
      rw [h, if_neg (by decide)]
theorem torn_j2 (t : ByteArray) (ht : t.size ≤ 100) (x3 : Int) (h0 : 0 ≤ x3) (h1 : x3 < 100) (S : List ByteArray) (N : List Int) (hn : Ev (fun k => amanuensislaw10_SealTorn.l0 k (x3 + 1) S N) true) :
    Ev (fun k => amanuensislaw10_SealTorn.j2 k x3 t S N) true := by
  refine Ev.step (f := fun k => (seal_Add.f k t).bind fun t123 => amanuensislaw10_SealTorn.l1 k x3 t123 0 S N) (fun k => by rw [amanuensislaw10_SealTorn.j2]) ?_
  exact Ev.bind (f := fun k t123 => amanuensislaw10_SealTorn.l1 k x3 t123 0 S N) (add_ev t) (torn_round t ht x3 h0 h1 S N hn (frame t).size 0 (by omega) (by omega))
theorem torn_all (S : List ByteArray) (N : List Int) : ∀ (d : Nat) (x3 : Int), 0 ≤ x3 → x3 + d = 8 → Ev (fun k => amanuensislaw10_SealTorn.l0 k x3 S N) true := by
  intro d
  induction d with
  | zero =>
    intro x3 h0 h1
    refine Ev.step (fun k => ?_) (torn_tail x3 S N)
    rw [amanuensislaw10_SealTorn.l0, decide_eq_false (by omega), ite_self]
  | succ d ih =>
    intro x3 h0 h1
    by_cases hl : x3 < (S.length : Int)
    · refine Ev.step (f := fun k => amanuensislaw10_SealTorn.j1 k x3 true S N) (fun k => ?_) ?_
      · rw [amanuensislaw10_SealTorn.l0, if_pos hl, decide_eq_true (by omega)]
      · have hn := ih (x3 + 1) (by omega) (by omega)
        by_cases hs : ((rdOf ByteArray.empty S x3).size : Int) > 100
        · refine Ev.step (fun k => ?_) (torn_j2 ((rdOf ByteArray.empty S x3).extract 0 100) (by rw [ByteArray.size_extract]; omega) x3 h0 (by omega) S N hn)
          rw [amanuensislaw10_SealTorn.j1, if_pos rfl, if_pos h0, if_pos hl, if_pos hs, if_pos (by decide), if_pos (by omega)]
        · refine Ev.step (fun k => ?_) (torn_j2 (rdOf ByteArray.empty S x3) (by omega) x3 h0 (by omega) S N hn)
          rw [amanuensislaw10_SealTorn.j1, if_pos rfl, if_pos h0, if_pos hl, if_neg hs]
    · refine Ev.step (fun k => ?_) (torn_tail x3 S N)
      rw [amanuensislaw10_SealTorn.l0, if_neg hl]

theorem SealTorn (l0_0 : List ByteArray) (l0_1 : List Int) (b0 : l0_0.length * 16 ≤ 140737488351232 ∧ ∀ x ∈ l0_0, x.size ≤ 140737488351232) (b1 : l0_1.length * 8 ≤ 140737488351232 ∧ ∀ x ∈ l0_1, (Lit.int .i64 x).wf = true) : ∃ k, amanuensislaw10_SealTorn.f k l0_0 l0_1 = some true :=
  (torn_all l0_0 l0_1 8 0 (by omega) (by omega)).rounds

end Go.Proofs.Ytpemehpfkkjpiaa.Pure
