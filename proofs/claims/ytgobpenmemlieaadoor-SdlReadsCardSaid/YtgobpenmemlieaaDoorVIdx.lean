/- Packed by our own shrink.py: theorems that the claim does not use are left out. -/
import Derived.Test.YtgobpenmemlieaaDoorVFds
/-
  The walks of the closures that ask for a name, slices.IndexFunc, slices.ContainsFunc and sdl.Place.
-/
namespace Go.Proofs.YtgobpenmemlieaaDoor.Lex
open Go.RowKit Go.Proofs.YtgobpenmemlieaaDoorW.PrintWords Go.Proofs.YtgobpenmemlieaaDoorW.PrintLast Go.Proofs.YtgobpenmemlieaaDoorW.PrintMore PSdlBack
set_option linter.unusedVariables false
set_option linter.unusedSimpArgs false
def agg54 (x : S54) : Value := .agg #[.string x.f0, .int .i64 x.f1, .string x.f2, .string x.f3]
def named54 (x : S54) (s : ByteArray) : Bool := x.f0.toList == s.toList
set_option maxHeartbeats 4000000 in
set_option maxRecDepth 100000 in
theorem eq62 (x : S54) (nb : Nat) (s : ByteArray) (w : World) (hc : w.cell? ⟨nb, 0, none⟩ = some (.string s)) :
    Calls Tryd.prog 62 #[.agg #[.string x.f0, .int .i64 x.f1, .string x.f2, .string x.f3], .pointer (some ⟨nb, 0, none⟩)] w fun e w' => e = .returned (.bool (named54 x s)) ∧ Below w.heap.size w w' := by
  have hb0 := below_alloc (Below.refl w.heap.size w) (.cells #[.string x.f0, .int .i64 x.f1, .string x.f2, .string x.f3] 54)
  have HB := Aside0.mk hb0
  have hc2 := pw_cell_below hb0 hc
  clear hb0 hc
  go_enter Tryd.func62, Tryd.ntmps62
  go_wp2
  go_ret
  exact ⟨rfl, by repeat (first | exact HB.out | apply pw_below_drewN | apply below_drew1)⟩
set_option maxHeartbeats 4000000 in
set_option maxRecDepth 100000 in
theorem eq55 (x : S54) (nb : Nat) (s : ByteArray) (w : World) (hc : w.cell? ⟨nb, 0, none⟩ = some (.string s)) :
    Calls Tryd.prog 55 #[.agg #[.string x.f0, .int .i64 x.f1, .string x.f2, .string x.f3], .pointer (some ⟨nb, 0, none⟩)] w fun e w' => e = .returned (.bool (named54 x s)) ∧ Below w.heap.size w w' := by
  have hb0 := below_alloc (Below.refl w.heap.size w) (.cells #[.string x.f0, .int .i64 x.f1, .string x.f2, .string x.f3] 54)
  have HB := Aside0.mk hb0
  have hc2 := pw_cell_below hb0 hc
  clear hb0 hc
  go_enter Tryd.func55, Tryd.ntmps55
  go_wp2
  go_ret
  exact ⟨rfl, by repeat (first | exact HB.out | apply pw_below_drewN | apply below_drew1)⟩
/-- The first place at which the predicate holds, from i on. -/
def first (s : ByteArray) : List S54 → Nat → Int
  | [], _ => -1
  | x :: l, i => if named54 x s then i else first s l (i + 1)
def idx (s : ByteArray) (l : List S54) : Int := first s l 0
theorem first_at (s : ByteArray) (l : List S54) (j : Nat) (h : j < l.length) : first s (l.drop j) j = if named54 (rd_T54 l j) s then (j : Int) else first s (l.drop (j + 1)) (j + 1) := by
  have hr : rd_T54 l j = l[j] := by
    unfold rd_T54
    rw [Int.toNat_natCast, List.getD_eq_getElem?_getD, List.getElem?_eq_getElem h]
    rfl
  rw [List.drop_eq_getElem_cons h, hr]
  rfl
set_option maxHeartbeats 8000000 in
set_option maxRecDepth 100000 in
theorem index_calls (F : Nat) (nb : Nat) (s : ByteArray) (A : Option Addr) (c : Nat) (l : List S54) (w : World) (hl : l.length ≤ 1000000000) (hC : Kd.C k54 w A l.length l) (hc : w.cell? ⟨nb, 0, none⟩ = some (.string s)) (hF : F = 55 ∨ F = 62) :
    Calls Tryd.prog 61 #[.slice A l.length c, .func (.func F) #[] #[.pointer (some ⟨nb, 0, none⟩)]] w fun e w' => e = .returned (.int .i64 (idx s l)) ∧ Below w.heap.size w w' := by
  obtain ⟨r, hr⟩ : ∃ r, idx s l = r := ⟨_, rfl⟩
  rw [hr]
  have HR := Aside0.mk hr
  have HC := Aside0.mk hC
  have Hc := Aside0.mk hc
  have HB := Aside0.mk (Below.refl w.heap.size w)
  clear hr hC hc
  rcases hF with rfl | rfl
  · go_enter Tryd.func61, Tryd.ntmps61
    go_wp2
    go_loopg [8] l.length (fun kq v8 w' => ∃ j : Nat, v8 = .int .i64 j ∧ j ≤ l.length ∧ j + kq = l.length ∧ Aside0 (first s (l.drop j) j = r) ∧ Aside0 (Below w.heap.size w w'))
    case atStart => exact ⟨0, rfl, by omega, by omega, HR, ⟨(by repeat (first | (with_reducible first | exact HB.out | apply below_alloc | apply pw_below_drewN | apply below_drew1) | exact HB.out))⟩⟩
    case round =>
      clear HB HR
      obtain ⟨j, rfl, hj, hk, HE, HB⟩ := hrel
      by_cases hjl : j < l.length
      · have c1 : decide ((j : Int) < (l.length : Int)) = true := decide_eq_true (by omega)
        obtain ⟨k1, rfl⟩ : ∃ k1, gk = k1 + 1 := ⟨gk - 1, by omega⟩
        obtain ⟨ad, e, hx0, hx1, hx2, hx3⟩ := at_T54 HC.out (j : Int) (by omega) (by omega)
        cases e
        replace hx0 := pw_cell_below HB.out hx0
        replace hx1 := pw_cell_below HB.out hx1
        replace hx2 := pw_cell_below HB.out hx2
        replace hx3 := pw_cell_below HB.out hx3
        rw [Int.toNat_natCast] at hx0 hx1 hx2 hx3
        have hfst := first_at s l j hjl
        have HQ := Aside0.mk (fun w hc => eq55 (rd_T54 l j) nb s w hc)
        generalize rd_T54 l j = x at hx0 hx1 hx2 hx3 hfst HQ
        have p1 := eq_true (show (0 : Int) ≤ (j : Int) by omega)
        have p2 := eq_true (show (j : Int) < (l.length : Int) by omega)
        have p3 := eq_true hjl
        cases hn : named54 x s with
        | true =>
          rw [hn] at hfst HQ
          have hrj : (j : Int) = r := by rw [← HE.out, hfst, if_pos rfl]
          clear hn hfst HE
          subst hrj
          go_wp2_with (first | (go_at_call 55; refine (HQ.out _ (pw_cell_below (by repeat (first | (with_reducible first | exact HB.out | apply below_alloc | apply pw_below_drewN | apply below_drew1) | exact HB.out)) Hc.out)).mono ?_; rintro e wq ⟨rfl, hb2⟩; have n0_ := Aside0.mk (below_step (by repeat (first | (with_reducible first | exact HB.out | apply below_alloc | apply pw_below_drewN | apply below_drew1) | exact HB.out)) hb2); clear HB; have HB := n0_; clear n0_ hb2))
          go_ret
          exact ⟨rfl, (by repeat (first | (with_reducible first | exact HB.out | apply below_alloc | apply pw_below_drewN | apply below_drew1) | exact HB.out))⟩
        | false =>
          rw [hn] at hfst HQ
          have HE2 : Aside0 (first s (l.drop (j + 1)) (j + 1) = r) := ⟨by rw [← HE.out, hfst, if_neg (by decide)]⟩
          clear hn hfst HE
          go_wp2_with (first | (go_at_call 55; refine (HQ.out _ (pw_cell_below (by repeat (first | (with_reducible first | exact HB.out | apply below_alloc | apply pw_below_drewN | apply below_drew1) | exact HB.out)) Hc.out)).mono ?_; rintro e wq ⟨rfl, hb2⟩; have n0_ := Aside0.mk (below_step (by repeat (first | (with_reducible first | exact HB.out | apply below_alloc | apply pw_below_drewN | apply below_drew1) | exact HB.out)) hb2); clear HB; have HB := n0_; clear n0_ hb2))
          go_roundg k1
          case measure => omega
          case rel => exact ⟨j + 1, by first | rfl | (simp only [Int.natCast_add]; done) | (simp only [Int.natCast_add]; rfl), by omega, by omega, HE2, ⟨(by repeat (first | (with_reducible first | exact HB.out | apply below_alloc | apply pw_below_drewN | apply below_drew1) | exact HB.out))⟩⟩
      · have c1 : decide ((j : Int) < (l.length : Int)) = false := decide_eq_false (by omega)
        have hrj : r = -1 := by rw [← HE.out, List.drop_eq_nil_of_le (by omega)]; rfl
        clear HE
        subst hrj
        go_wp2
        go_ret
        exact ⟨rfl, (by repeat (first | (with_reducible first | exact HB.out | apply below_alloc | apply pw_below_drewN | apply below_drew1) | exact HB.out))⟩
  · go_enter Tryd.func61, Tryd.ntmps61
    go_wp2
    go_loopg [8] l.length (fun kq v8 w' => ∃ j : Nat, v8 = .int .i64 j ∧ j ≤ l.length ∧ j + kq = l.length ∧ Aside0 (first s (l.drop j) j = r) ∧ Aside0 (Below w.heap.size w w'))
    case atStart => exact ⟨0, rfl, by omega, by omega, HR, ⟨(by repeat (first | (with_reducible first | exact HB.out | apply below_alloc | apply pw_below_drewN | apply below_drew1) | exact HB.out))⟩⟩
    case round =>
      clear HB HR
      obtain ⟨j, rfl, hj, hk, HE, HB⟩ := hrel
      by_cases hjl : j < l.length
      · have c1 : decide ((j : Int) < (l.length : Int)) = true := decide_eq_true (by omega)
        obtain ⟨k1, rfl⟩ : ∃ k1, gk = k1 + 1 := ⟨gk - 1, by omega⟩
        obtain ⟨ad, e, hx0, hx1, hx2, hx3⟩ := at_T54 HC.out (j : Int) (by omega) (by omega)
        cases e
        replace hx0 := pw_cell_below HB.out hx0
        replace hx1 := pw_cell_below HB.out hx1
        replace hx2 := pw_cell_below HB.out hx2
        replace hx3 := pw_cell_below HB.out hx3
        rw [Int.toNat_natCast] at hx0 hx1 hx2 hx3
        have hfst := first_at s l j hjl
        have HQ := Aside0.mk (fun w hc => eq62 (rd_T54 l j) nb s w hc)
        generalize rd_T54 l j = x at hx0 hx1 hx2 hx3 hfst HQ
        have p1 := eq_true (show (0 : Int) ≤ (j : Int) by omega)
        have p2 := eq_true (show (j : Int) < (l.length : Int) by omega)
        have p3 := eq_true hjl
        cases hn : named54 x s with
        | true =>
          rw [hn] at hfst HQ
          have hrj : (j : Int) = r := by rw [← HE.out, hfst, if_pos rfl]
          clear hn hfst HE
          subst hrj
          go_wp2_with (first | (go_at_call 62; refine (HQ.out _ (pw_cell_below (by repeat (first | (with_reducible first | exact HB.out | apply below_alloc | apply pw_below_drewN | apply below_drew1) | exact HB.out)) Hc.out)).mono ?_; rintro e wq ⟨rfl, hb2⟩; have n0_ := Aside0.mk (below_step (by repeat (first | (with_reducible first | exact HB.out | apply below_alloc | apply pw_below_drewN | apply below_drew1) | exact HB.out)) hb2); clear HB; have HB := n0_; clear n0_ hb2))
          go_ret
          exact ⟨rfl, (by repeat (first | (with_reducible first | exact HB.out | apply below_alloc | apply pw_below_drewN | apply below_drew1) | exact HB.out))⟩
        | false =>
          rw [hn] at hfst HQ
          have HE2 : Aside0 (first s (l.drop (j + 1)) (j + 1) = r) := ⟨by rw [← HE.out, hfst, if_neg (by decide)]⟩
          clear hn hfst HE
          go_wp2_with (first | (go_at_call 62; refine (HQ.out _ (pw_cell_below (by repeat (first | (with_reducible first | exact HB.out | apply below_alloc | apply pw_below_drewN | apply below_drew1) | exact HB.out)) Hc.out)).mono ?_; rintro e wq ⟨rfl, hb2⟩; have n0_ := Aside0.mk (below_step (by repeat (first | (with_reducible first | exact HB.out | apply below_alloc | apply pw_below_drewN | apply below_drew1) | exact HB.out)) hb2); clear HB; have HB := n0_; clear n0_ hb2))
          go_roundg k1
          case measure => omega
          case rel => exact ⟨j + 1, by first | rfl | (simp only [Int.natCast_add]; done) | (simp only [Int.natCast_add]; rfl), by omega, by omega, HE2, ⟨(by repeat (first | (with_reducible first | exact HB.out | apply below_alloc | apply pw_below_drewN | apply below_drew1) | exact HB.out))⟩⟩
      · have c1 : decide ((j : Int) < (l.length : Int)) = false := decide_eq_false (by omega)
        have hrj : r = -1 := by rw [← HE.out, List.drop_eq_nil_of_le (by omega)]; rfl
        clear HE
        subst hrj
        go_wp2
        go_ret
        exact ⟨rfl, (by repeat (first | (with_reducible first | exact HB.out | apply below_alloc | apply pw_below_drewN | apply below_drew1) | exact HB.out))⟩
end Go.Proofs.YtgobpenmemlieaaDoor.Lex
