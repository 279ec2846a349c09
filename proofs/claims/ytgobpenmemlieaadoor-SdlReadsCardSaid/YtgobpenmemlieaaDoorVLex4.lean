/- Packed by our own shrink.py: theorems that the claim does not use are left out. -/
import Derived.Test.YtgobpenmemlieaaDoorVLex3
import Derived.Test.YtgobpenmemlieaaDoorVOSdlx3
/-
  The walk of lex.Words: what it tells, said by what pass and size tell at each place.
-/
namespace Go.Proofs.YtgobpenmemlieaaDoor.Lex
open Go.RowKit Go.Proofs.YtgobpenmemlieaaDoorW.PrintWords Go.Proofs.YtgobpenmemlieaaDoorW.PrintLast Go.Proofs.YtgobpenmemlieaaDoorW.PrintMore PSdlBack
attribute [local go_sem] max2_int min2_int max_two min_two max_three min_three max_four min_four
set_option linter.unusedVariables false
set_option linter.unusedSimpArgs false
theorem info39 : (Tryd.prog.info? 39).map (fun i => (i.zero, i.size, i.bytes)) = some (some (.agg #[(.string ⟨#[]⟩), (.int .i64 0)]), 2, 24) := by kernel_rfl
def SizeIs (s : ByteArray) (n : Nat) : Prop := ∀ w, Calls Tryd.prog 50 #[.string s] w fun e w' => e = .returned (.int .i64 n) ∧ Below w.heap.size w w'
inductive Lexes (s : ByteArray) : Nat → List S39 → (List S39 × Int × Int) → Prop
  | fin {i d} : i = s.size → Lexes s i d (d, 0, 0)
  | skip {i d r} (n : Nat) : i < s.size → passed (bytesOf (s.extract i s.size)) = n → 0 < n → i + n ≤ s.size → Lexes s (i + n) d r → Lexes s i d r
  | bad {i d} : i < s.size → passed (bytesOf (s.extract i s.size)) = 0 → SizeIs (s.extract i s.size) 0 → Lexes s i d ([], i, 4)
  | word {i d r} (n : Nat) : i < s.size → passed (bytesOf (s.extract i s.size)) = 0 → SizeIs (s.extract i s.size) n → 0 < n → i + n ≤ s.size → Lexes s (i + n) (d ++ [⟨s.extract i (i + n), i⟩]) r → Lexes s i d r
theorem pass_at (s : ByteArray) (k : Nat) (h : passed (bytesOf s) = k) (hs : s.size ≤ 9223372036854775806) (h1 : 0 < s.size) (w : World) : Calls Tryd.prog 49 #[.string s] w fun e w' => e = .returned (.int .i64 k) ∧ Below w.heap.size w w' := by
  subst h
  refine (pass_calls s w hs h1).mono ?_
  rintro e w' ⟨rfl, ⟨nd, rfl⟩⟩
  exact ⟨rfl, by repeat (first | exact Below.refl _ _ | apply pw_below_drewN)⟩
theorem extract_size (s : ByteArray) (i : Nat) : (s.extract i s.size).size = s.size - i := by
  simp [ByteArray.size_extract]
set_option maxHeartbeats 8000000 in
set_option maxRecDepth 100000 in
theorem Words_calls (a0 : ByteArray) (r1 : List S39) (r2 r3 : Int) (w : World) (hs : a0.size ≤ 3000) (H : Lexes a0 0 [] (r1, r2, r3)) :
    Calls Tryd.prog 33 #[.string a0] w fun e w' => ∃ v0_ : Value, e = .returned (.tuple #[v0_, .int .i64 r2, .int .i64 r3]) ∧ Kd.R k39 39 w' w.heap.size (fun _ => True) v0_ r1 ∧ Below w.heap.size w w' := by
  have hu39 := Tryd.underlying39
  have HB := Aside0.mk (Below.refl w.heap.size w)
  have H' := Aside0.mk H
  clear H
  have c2b0 : decide (3000 < (a0.size : Int)) = false := decide_eq_false (by omega)
  go_enter Tryd.func33, Tryd.ntmps33
  go_wp2
  go_loopg [2, 5] (a0.size + 1) (fun kq v2 v5 w' => ∃ (d : List S39) (i : Nat), v5 = .int .i64 i ∧ a0.size + 1 ≤ i + kq ∧ d.length ≤ i ∧ Aside0 (Lexes a0 i d (r1, r2, r3)) ∧ Aside0 (Kd.R k39 39 w' w.heap.size (fun _ => True) v2 d) ∧ Aside0 (Below w.heap.size w w'))
  case atStart => exact ⟨[], 0, rfl, by omega, by simp, H', ⟨Kd.R_nil _ _ _ _ _⟩, ⟨by repeat (first | (with_reducible first | exact HB.out | apply below_alloc | apply pw_below_drewN | apply below_drew1) | exact HB.out)⟩⟩
  case round =>
    clear H' c2b0 HB
    obtain ⟨d, i, rfl, hk, hd, HA, HO, HB⟩ := hrel
    cases HA.out with
    | fin h =>
      have c1 : decide ((i : Int) < (a0.size : Int)) = false := decide_eq_false (by omega)
      go_wp2
      go_ret3
      exact ⟨_, rfl, by (with_reducible repeat (first | apply Kd.R_alloc | apply Kd.R_drewN | apply Kd.R_drew)); exact HO.out, by repeat (first | (with_reducible first | exact HB.out | apply below_alloc | apply pw_below_drewN | apply below_drew1) | exact HB.out)⟩
    | skip n h1 h2 h3 h4 h5 =>
      have c1 : decide ((i : Int) < (a0.size : Int)) = true := decide_eq_true (by omega)
      have hz := extract_size a0 i
      have hsz : ((i : Int)).toNat = i := Int.toNat_natCast i
      obtain ⟨k1, rfl⟩ : ∃ k1, gk = k1 + 1 := ⟨gk - 1, by omega⟩
      have HPS := Aside0.mk (pass_at (a0.extract i a0.size) n h2 (by omega) (by omega))
      have c3 : decide (0 < (n : Int)) = true := decide_eq_true (by omega)
      have HN := Aside0.mk h5
      clear h2 h5 HA hz
      go_wp2_with (first | (go_at_call 49; (with_reducible refine (HPS.out _).mono ?_); rintro e wq ⟨rfl, hb⟩; have n0_ := Aside0.mk (Kd.R_below (by (with_reducible repeat (first | apply Kd.R_alloc | apply Kd.R_drewN | apply Kd.R_drew)); exact HO.out) hb); have n1_ := Aside0.mk (below_step (by repeat (first | (with_reducible first | exact HB.out | apply below_alloc | apply pw_below_drewN | apply below_drew1) | exact HB.out)) hb); clear HO; clear HB; have HO := n0_; have HB := n1_; clear n0_ n1_; (try clear hb)))
      go_roundg k1
      case measure => omega
      case rel => exact ⟨d, i + n, by first | rfl | (simp only [Int.natCast_add]; done) | (simp only [Int.natCast_add]; rfl), by omega, by omega, HN, ⟨(by (with_reducible repeat (first | apply Kd.R_alloc | apply Kd.R_drewN | apply Kd.R_drew)); exact HO.out)⟩, ⟨(by repeat (first | (with_reducible first | exact HB.out | apply below_alloc | apply pw_below_drewN | apply below_drew1) | exact HB.out))⟩⟩
    | bad h1 h2 h3 =>
      have c1 : decide ((i : Int) < (a0.size : Int)) = true := decide_eq_true (by omega)
      have hz := extract_size a0 i
      have hsz : ((i : Int)).toNat = i := Int.toNat_natCast i
      obtain ⟨k1, rfl⟩ : ∃ k1, gk = k1 + 1 := ⟨gk - 1, by omega⟩
      have HPS := Aside0.mk (pass_at (a0.extract i a0.size) 0 h2 (by omega) (by omega))
      have HSZ : Aside0 (∀ w, Calls Tryd.prog 50 #[.string (a0.extract i a0.size)] w fun e w' => e = .returned (.int .i64 ((0 : Nat) : Int)) ∧ Below w.heap.size w w') := ⟨h3⟩
      clear h2 h3 HA hz
      go_wp2_with (first | (go_at_call 49; (with_reducible refine (HPS.out _).mono ?_); rintro e wq ⟨rfl, hb⟩; have n0_ := Aside0.mk (Kd.R_below (by (with_reducible repeat (first | apply Kd.R_alloc | apply Kd.R_drewN | apply Kd.R_drew)); exact HO.out) hb); have n1_ := Aside0.mk (below_step (by repeat (first | (with_reducible first | exact HB.out | apply below_alloc | apply pw_below_drewN | apply below_drew1) | exact HB.out)) hb); clear HO; clear HB; have HO := n0_; have HB := n1_; clear n0_ n1_; (try clear hb)) | (go_at_call 50; (with_reducible refine (HSZ.out _).mono ?_); rintro e wq ⟨rfl, hb⟩; have n0_ := Aside0.mk (Kd.R_below (by (with_reducible repeat (first | apply Kd.R_alloc | apply Kd.R_drewN | apply Kd.R_drew)); exact HO.out) hb); have n1_ := Aside0.mk (below_step (by repeat (first | (with_reducible first | exact HB.out | apply below_alloc | apply pw_below_drewN | apply below_drew1) | exact HB.out)) hb); clear HO; clear HB; have HO := n0_; have HB := n1_; clear n0_ n1_; (try clear hb)))
      go_ret3
      exact ⟨_, rfl, Kd.R_nil _ _ _ _ _, (by repeat (first | (with_reducible first | exact HB.out | apply below_alloc | apply pw_below_drewN | apply below_drew1) | exact HB.out))⟩
    | word n h1 h2 h3 h4 h5 h6 =>
      have c1 : decide ((i : Int) < (a0.size : Int)) = true := decide_eq_true (by omega)
      have hz := extract_size a0 i
      have hsz : ((i : Int)).toNat = i := Int.toNat_natCast i
      obtain ⟨k1, rfl⟩ : ∃ k1, gk = k1 + 1 := ⟨gk - 1, by omega⟩
      have HPS := Aside0.mk (pass_at (a0.extract i a0.size) 0 h2 (by omega) (by omega))
      have HSZ : Aside0 (∀ w, Calls Tryd.prog 50 #[.string (a0.extract i a0.size)] w fun e w' => e = .returned (.int .i64 (n : Int)) ∧ Below w.heap.size w w') := ⟨h3⟩
      have c3 : ((n : Int) == 0) = false := beq_eq_false_iff_ne.mpr (by omega)
      have hin : ((i : Int) + (n : Int)).toNat = i + n := by omega
      have LM := Aside0.mk (show d.length < 5864062014805 by omega)
      have HN := Aside0.mk h6
      clear h2 h3 h6 HA hz
      go_wp2_with (first | (go_at_call 49; (with_reducible refine (HPS.out _).mono ?_); rintro e wq ⟨rfl, hb⟩; have n0_ := Aside0.mk (Kd.R_below (by (with_reducible repeat (first | apply Kd.R_alloc | apply Kd.R_drewN | apply Kd.R_drew)); exact HO.out) hb); have n1_ := Aside0.mk (below_step (by repeat (first | (with_reducible first | exact HB.out | apply below_alloc | apply pw_below_drewN | apply below_drew1) | exact HB.out)) hb); clear HO; clear HB; have HO := n0_; have HB := n1_; clear n0_ n1_; (try clear hb)) | (go_at_call 50; (with_reducible refine (HSZ.out _).mono ?_); rintro e wq ⟨rfl, hb⟩; have n0_ := Aside0.mk (Kd.R_below (by (with_reducible repeat (first | apply Kd.R_alloc | apply Kd.R_drewN | apply Kd.R_drew)); exact HO.out) hb); have n1_ := Aside0.mk (below_step (by repeat (first | (with_reducible first | exact HB.out | apply below_alloc | apply pw_below_drewN | apply below_drew1) | exact HB.out)) hb); clear HO; clear HB; have HO := n0_; have HB := n1_; clear n0_ n1_; (try clear hb)) | ((with_reducible refine gate_builtin (b := .append) (xs := #[.tmp 31, .tmp 40]) rfl ?_); at_builtin; refine Kd.R_append k39 (w0 := w) w.heap.size rfl (.tmp 31) (.tmp 40) 34 39 (.agg #[(.string ⟨#[]⟩), (.int .i64 0)]) 24 rfl Tryd.underlying34 info39 rfl (by decide) (by omega) u2 d (⟨a0.extract i (i + n), i⟩ : S39) [.string (a0.extract i (i + n)), .int .i64 i] (fun _ => True) (fun _ => False) rfl rfl ?aP (fun _ hk => hk.elim) ?aF ?aO ?aB ?aS ?aL ?_; (case aP => exact k39_mkM _ _ _ (⟨a0.extract i (i + n), i⟩ : S39)); (case aB => exact (by repeat (first | (with_reducible first | exact HB.out | apply below_alloc | apply pw_below_drewN | apply below_drew1) | exact HB.out))); (case aF => exact (fun _ _ => trivial)); (case aO => exact (by (with_reducible repeat (first | apply Kd.R_alloc | apply Kd.R_drewN | apply Kd.R_drew)); exact HO.out)); (case aS => exact (below_size (by repeat (first | (with_reducible first | exact HB.out | apply below_alloc | apply pw_below_drewN | apply below_drew1) | exact HB.out)))); (case aL => have := LM.out; omega); intro v198 w29 ho hb hg hat; have n0_ := Aside0.mk (hb); have n1_ := Aside0.mk (ho); clear HB; clear HO; have HB := n0_; have HO := n1_; clear n0_ n1_; clear ho hb hg hat))
      go_roundg k1
      case measure => omega
      case rel => exact ⟨_, i + n, by first | rfl | (simp only [Int.natCast_add]; done) | (simp only [Int.natCast_add]; rfl), by omega, by (simp only [List.length_append, List.length_singleton]; omega), HN, ⟨(by (with_reducible repeat (first | apply Kd.R_alloc | apply Kd.R_drewN | apply Kd.R_drew)); exact HO.out)⟩, ⟨(by repeat (first | (with_reducible first | exact HB.out | apply below_alloc | apply pw_below_drewN | apply below_drew1) | exact HB.out))⟩⟩
end Go.Proofs.YtgobpenmemlieaaDoor.Lex
