/- Packed by our own shrink.py: theorems that the claim does not use are left out. -/
import Derived.Test.YtgobpenmemlieaaDoorVLex4
import Derived.Test.YtgobpenmemlieaaDoorVBld
/-
  The walk of json.String, and that it tells something of any text.
-/
namespace Go.Proofs.YtgobpenmemlieaaDoor.Lex
open Go.RowKit Go.Proofs.YtgobpenmemlieaaDoorW.PrintWords Go.Proofs.YtgobpenmemlieaaDoorW.PrintLast Go.Proofs.YtgobpenmemlieaaDoorW.PrintMore PSdlBack
set_option linter.unusedVariables false
set_option linter.unusedSimpArgs false
theorem bytes_more (d : List UInt8) (c : Int) (h0 : 0 ≤ c) (h1 : c < 256) : Lib.byteCells d ++ [.int .u8 c] = Lib.byteCells (d ++ [c.toNat.toUInt8]) := by
  obtain ⟨n, rfl⟩ := Int.eq_ofNat_of_zero_le h0
  have hn : (n.toUInt8).toNat = n := by simp; omega
  unfold Lib.byteCells
  rw [List.map_append, List.map_singleton]
  simp only [Int.ofNat_eq_natCast, Int.toNat_natCast, hn]
/-- What json.String tells, from place i on, where the builder holds d. -/
inductive Strs (s : ByteArray) : Int → List UInt8 → (ByteArray × Int × Bool) → Prop
  | fin {i : Int} {d : List UInt8} : (s.size : Int) ≤ i → Strs s i d (⟨#[]⟩, 0, false)
  | quote {i : Int} {d : List UInt8} : i < (s.size : Int) → bt s i = 34 → Strs s i d (⟨d.toArray⟩, i + 1, true)
  | low {i : Int} {d : List UInt8} : i < (s.size : Int) → bt s i ≠ 34 → bt s i < 32 → Strs s i d (⟨#[]⟩, 0, false)
  | high {i : Int} {d : List UInt8} : i < (s.size : Int) → bt s i ≠ 34 → 126 < bt s i → Strs s i d (⟨#[]⟩, 0, false)
  | plain {i : Int} {d : List UInt8} {r : ByteArray × Int × Bool} : i < (s.size : Int) → bt s i ≠ 34 → 32 ≤ bt s i → bt s i ≤ 126 → bt s i ≠ 92 → Strs s (i + 1) (d ++ [(bt s i).toNat.toUInt8]) r → Strs s i d r
  | last {i : Int} {d : List UInt8} : i < (s.size : Int) → bt s i = 92 → (s.size : Int) ≤ i + 1 → Strs s i d (⟨#[]⟩, 0, false)
  | other {i : Int} {d : List UInt8} : bt s i = 92 → i + 1 < (s.size : Int) → bt s (i + 1) ≠ 34 → bt s (i + 1) ≠ 92 → Strs s i d (⟨#[]⟩, 0, false)
  | esc {i : Int} {d : List UInt8} {r : ByteArray × Int × Bool} : bt s i = 92 → i + 1 < (s.size : Int) → bt s (i + 1) = 34 → Strs s (i + 2) (d ++ [(34 : Int).toNat.toUInt8]) r → Strs s i d r
  | esc2 {i : Int} {d : List UInt8} {r : ByteArray × Int × Bool} : bt s i = 92 → i + 1 < (s.size : Int) → bt s (i + 1) = 92 → Strs s (i + 2) (d ++ [(92 : Int).toNat.toUInt8]) r → Strs s i d r
theorem Strs.all (s : ByteArray) : ∀ (k : Nat) (i : Int) (d : List UInt8), (s.size : Int) ≤ i + k → ∃ r, Strs s i d r
  | 0, i, d, h => ⟨_, Strs.fin (s := s) (i := i) (d := d) (by omega)⟩
  | k + 1, i, d, h => by
    by_cases h1 : (s.size : Int) ≤ i
    · exact ⟨_, Strs.fin (s := s) (i := i) (d := d) h1⟩
    by_cases h2 : bt s i = 34
    · exact ⟨_, Strs.quote (s := s) (i := i) (d := d) (by omega) h2⟩
    by_cases h3 : bt s i < 32
    · exact ⟨_, Strs.low (s := s) (i := i) (d := d) (by omega) h2 h3⟩
    by_cases h4 : 126 < bt s i
    · exact ⟨_, Strs.high (s := s) (i := i) (d := d) (by omega) h2 h4⟩
    by_cases h5 : bt s i = 92
    · by_cases h6 : (s.size : Int) ≤ i + 1
      · exact ⟨_, Strs.last (s := s) (i := i) (d := d) (by omega) h5 h6⟩
      by_cases h7 : bt s (i + 1) = 34
      · obtain ⟨r, hr⟩ := Strs.all s k (i + 2) (d ++ [(34 : Int).toNat.toUInt8]) (by omega)
        exact ⟨r, Strs.esc (s := s) (i := i) (d := d) h5 (by omega) h7 hr⟩
      by_cases h8 : bt s (i + 1) = 92
      · obtain ⟨r, hr⟩ := Strs.all s k (i + 2) (d ++ [(92 : Int).toNat.toUInt8]) (by omega)
        exact ⟨r, Strs.esc2 (s := s) (i := i) (d := d) h5 (by omega) h8 hr⟩
      exact ⟨_, Strs.other (s := s) (i := i) (d := d) h5 (by omega) h7 h8⟩
    · obtain ⟨r, hr⟩ := Strs.all s k (i + 1) (d ++ [(bt s i).toNat.toUInt8]) (by omega)
      exact ⟨r, Strs.plain (s := s) (i := i) (d := d) (by omega) h2 (by omega) (by omega) h5 hr⟩
set_option maxHeartbeats 8000000 in
set_option maxRecDepth 100000 in
theorem String_calls (a0 : ByteArray) (r1 : ByteArray) (r2 : Int) (r3 : Bool) (w : World) (hs : a0.size ≤ 70000000000000) (H : Strs a0 1 [] (r1, r2, r3)) :
    Calls Tryd.prog 70 #[.string a0] w fun e w' => e = .returned (.tuple #[.string r1, .int .i64 r2, .bool r3]) ∧ Below w.heap.size w w' := by
  have H' := Aside0.mk H
  clear H
  go_enter Tryd.func70, Tryd.ntmps70
  go_wp2
  go_loopg [6] (a0.size + 1) (fun kq v6 w' => ∃ (d : List UInt8) (i : Int), v6 = .int .i64 i ∧ 1 ≤ i ∧ (a0.size : Int) + 1 ≤ i + kq ∧ d.length ≤ i ∧ i ≤ (a0.size : Int) + 1 ∧ Aside0 (Strs a0 i d (r1, r2, r3)) ∧ Aside0 (Lib.IsBuilderF 96 5 w.heap.size w.heap.size (Lib.byteCells d) w') ∧ Aside0 (Below w.heap.size w w'))
  case atStart => exact ⟨[], 1, rfl, by omega, by omega, by simp, by omega, H', ⟨Lib.IsBuilderF.of (Lib.fresh_isBuilder 96 5 w)⟩, ⟨by repeat (first | exact Below.refl _ _ | apply below_alloc | apply pw_below_drewN | apply below_drew1)⟩⟩
  case round =>
    clear H'
    obtain ⟨d, i, rfl, h0, hk, hd, hi, HA, HI, HB⟩ := hrel
    cases HA.out with
    | fin h1 =>
      have c1 : decide (i < (a0.size : Int)) = false := decide_eq_false (by omega)
      clear HA
      go_wp2
      go_ret3
      exact ⟨rfl, (by repeat (first | (with_reducible first | exact HB.out | apply below_alloc | apply pw_below_drewN | apply below_drew1) | exact HB.out))⟩
    | quote h1 h2 =>
      have c1 : decide (i < (a0.size : Int)) = true := decide_eq_true (by omega)
      have hr := bt_range a0 (i)
      have hx := bt_at a0 (i)
      have p := eq_true (show 0 ≤ i by omega)
      have q := eq_true (show i < (a0.size : Int) by omega)
      have c2 : (bt a0 i == 34) = true := beq_iff_eq.mpr (by omega)
      clear h2 HA
      go_wp2_with (first | (go_at_call 60; refine (Tryd.Builder_String_any_k w.heap.size w.heap.size d _ HI.out (below_size (by repeat (first | (with_reducible first | exact HB.out | apply below_alloc | apply pw_below_drewN | apply below_drew1) | exact HB.out)))).mono ?_; rintro e wq ⟨rfl, hi2, hb2, -⟩; have n0_ := Aside0.mk (Below.trans (by repeat (first | (with_reducible first | exact HB.out | apply below_alloc | apply pw_below_drewN | apply below_drew1) | exact HB.out)) hb2); clear HB; have HB := n0_; clear n0_ hi2 hb2))
      go_ret3
      exact ⟨rfl, (by repeat (first | (with_reducible first | exact HB.out | apply below_alloc | apply pw_below_drewN | apply below_drew1) | exact HB.out))⟩
    | low h1 h2 h3 =>
      have c1 : decide (i < (a0.size : Int)) = true := decide_eq_true (by omega)
      have hr := bt_range a0 (i)
      have hx := bt_at a0 (i)
      have p := eq_true (show 0 ≤ i by omega)
      have q := eq_true (show i < (a0.size : Int) by omega)
      have c2 : (bt a0 i == 34) = false := beq_eq_false_iff_ne.mpr (by omega)
      have c3 : decide (bt a0 i < 32) = true := decide_eq_true (by omega)
      clear h2 h3 HA
      go_wp2
      go_ret3
      exact ⟨rfl, (by repeat (first | (with_reducible first | exact HB.out | apply below_alloc | apply pw_below_drewN | apply below_drew1) | exact HB.out))⟩
    | high h1 h2 h3 =>
      have c1 : decide (i < (a0.size : Int)) = true := decide_eq_true (by omega)
      have hr := bt_range a0 (i)
      have hx := bt_at a0 (i)
      have p := eq_true (show 0 ≤ i by omega)
      have q := eq_true (show i < (a0.size : Int) by omega)
      have c2 : (bt a0 i == 34) = false := beq_eq_false_iff_ne.mpr (by omega)
      have c3 : decide (bt a0 i < 32) = false := decide_eq_false (by omega)
      have c4 : decide (126 < bt a0 i) = true := decide_eq_true (by omega)
      clear h2 h3 HA
      go_wp2
      go_ret3
      exact ⟨rfl, (by repeat (first | (with_reducible first | exact HB.out | apply below_alloc | apply pw_below_drewN | apply below_drew1) | exact HB.out))⟩
    | plain h1 h2 h3 h4 h5 h6 =>
      have c1 : decide (i < (a0.size : Int)) = true := decide_eq_true (by omega)
      obtain ⟨k1, rfl⟩ : ∃ k1, gk = k1 + 1 := ⟨gk - 1, by omega⟩
      have hr := bt_range a0 (i)
      have hx := bt_at a0 (i)
      have p := eq_true (show 0 ≤ i by omega)
      have q := eq_true (show i < (a0.size : Int) by omega)
      have c2 : (bt a0 i == 34) = false := beq_eq_false_iff_ne.mpr (by omega)
      have c3 : decide (bt a0 i < 32) = false := decide_eq_false (by omega)
      have c4 : decide (126 < bt a0 i) = false := decide_eq_false (by omega)
      have c5 : (bt a0 i == 92) = false := beq_eq_false_iff_ne.mpr (by omega)
      have HN := Aside0.mk h6
      clear h2 h3 h4 h5 h6 HA
      go_wp2_with (first | (go_at_call 82; refine (Tryd.Builder_WriteByte_k w.heap.size w.heap.size (Lib.byteCells d) (bt a0 i) _ HI.out (by rw [Lib.byteCells_length]; omega) (below_size (by repeat (first | (with_reducible first | exact HB.out | apply below_alloc | apply pw_below_drewN | apply below_drew1) | exact HB.out)))).mono ?_; rintro e wq ⟨rfl, hi2, hb2, -⟩; have n0_ := Aside0.mk (Below.trans (by repeat (first | (with_reducible first | exact HB.out | apply below_alloc | apply pw_below_drewN | apply below_drew1) | exact HB.out)) hb2); rw [bytes_more d (bt a0 i) (by omega) (by omega)] at hi2; have n1_ := Aside0.mk hi2; clear HB HI; have HB := n0_; have HI := n1_; clear n0_ n1_ hi2 hb2))
      go_roundg k1
      case measure => omega
      case rel => exact ⟨_, i + 1, rfl, by omega, by omega, by (simp only [List.length_append, List.length_singleton]; omega), by omega, HN, ⟨.inr HI.out⟩, ⟨(by repeat (first | (with_reducible first | exact HB.out | apply below_alloc | apply pw_below_drewN | apply below_drew1) | exact HB.out))⟩⟩
    | last h1 h2 h3 =>
      have c1 : decide (i < (a0.size : Int)) = true := decide_eq_true (by omega)
      have hr := bt_range a0 (i)
      have hx := bt_at a0 (i)
      have p := eq_true (show 0 ≤ i by omega)
      have q := eq_true (show i < (a0.size : Int) by omega)
      have c2 : (bt a0 i == 34) = false := beq_eq_false_iff_ne.mpr (by omega)
      have c3 : decide (bt a0 i < 32) = false := decide_eq_false (by omega)
      have c4 : decide (126 < bt a0 i) = false := decide_eq_false (by omega)
      have c5 : (bt a0 i == 92) = true := beq_iff_eq.mpr (by omega)
      have c6 : decide ((a0.size : Int) ≤ i + 1) = true := decide_eq_true (by omega)
      clear h2 HA
      go_wp2
      go_ret3
      exact ⟨rfl, (by repeat (first | (with_reducible first | exact HB.out | apply below_alloc | apply pw_below_drewN | apply below_drew1) | exact HB.out))⟩
    | other h1 h2 h3 h4 =>
      have c1 : decide (i < (a0.size : Int)) = true := decide_eq_true (by omega)
      have hr := bt_range a0 (i)
      have hx := bt_at a0 (i)
      have p := eq_true (show 0 ≤ i by omega)
      have q := eq_true (show i < (a0.size : Int) by omega)
      have hrb := bt_range a0 (i + 1)
      have hxb := bt_at a0 (i + 1)
      have pb := eq_true (show 0 ≤ i + 1 by omega)
      have qb := eq_true (show i + 1 < (a0.size : Int) by omega)
      have c2 : (bt a0 i == 34) = false := beq_eq_false_iff_ne.mpr (by omega)
      have c3 : decide (bt a0 i < 32) = false := decide_eq_false (by omega)
      have c4 : decide (126 < bt a0 i) = false := decide_eq_false (by omega)
      have c5 : (bt a0 i == 92) = true := beq_iff_eq.mpr (by omega)
      have c6 : decide ((a0.size : Int) ≤ i + 1) = false := decide_eq_false (by omega)
      have c7 : (bt a0 (i + 1) != 34) = true := bne_iff_ne.mpr h3
      have c8 : (bt a0 (i + 1) != 92) = true := bne_iff_ne.mpr h4
      clear h1 h3 h4 HA
      go_wp2
      go_ret3
      exact ⟨rfl, (by repeat (first | (with_reducible first | exact HB.out | apply below_alloc | apply pw_below_drewN | apply below_drew1) | exact HB.out))⟩
    | esc h1 h2 h3 h4 =>
      have c1 : decide (i < (a0.size : Int)) = true := decide_eq_true (by omega)
      obtain ⟨k1, rfl⟩ : ∃ k1, gk = k1 + 1 := ⟨gk - 1, by omega⟩
      have hr := bt_range a0 (i)
      have hx := bt_at a0 (i)
      have p := eq_true (show 0 ≤ i by omega)
      have q := eq_true (show i < (a0.size : Int) by omega)
      have hrb := bt_range a0 (i + 1)
      have hxb := bt_at a0 (i + 1)
      have pb := eq_true (show 0 ≤ i + 1 by omega)
      have qb := eq_true (show i + 1 < (a0.size : Int) by omega)
      have c2 : (bt a0 i == 34) = false := beq_eq_false_iff_ne.mpr (by omega)
      have c3 : decide (bt a0 i < 32) = false := decide_eq_false (by omega)
      have c4 : decide (126 < bt a0 i) = false := decide_eq_false (by omega)
      have c5 : (bt a0 i == 92) = true := beq_iff_eq.mpr (by omega)
      have c6 : decide ((a0.size : Int) ≤ i + 1) = false := decide_eq_false (by omega)
      have c7 : (bt a0 (i + 1) != 34) = false := bne_eq_false_iff_eq.mpr h3
      have HN := Aside0.mk h4
      rw [h3] at hxb
      clear h1 h4 HA
      go_wp2_with (first | (go_at_call 82; refine (Tryd.Builder_WriteByte_k w.heap.size w.heap.size (Lib.byteCells d) (34) _ HI.out (by rw [Lib.byteCells_length]; omega) (below_size (by repeat (first | (with_reducible first | exact HB.out | apply below_alloc | apply pw_below_drewN | apply below_drew1) | exact HB.out)))).mono ?_; rintro e wq ⟨rfl, hi2, hb2, -⟩; have n0_ := Aside0.mk (Below.trans (by repeat (first | (with_reducible first | exact HB.out | apply below_alloc | apply pw_below_drewN | apply below_drew1) | exact HB.out)) hb2); rw [bytes_more d (34) (by omega) (by omega)] at hi2; have n1_ := Aside0.mk hi2; clear HB HI; have HB := n0_; have HI := n1_; clear n0_ n1_ hi2 hb2))
      go_roundg k1
      case measure => omega
      case rel => exact ⟨_, i + 2, (by rw [show i + 1 + 1 = i + 2 by omega]), by omega, by omega, by (simp only [List.length_append, List.length_singleton]; omega), by omega, HN, ⟨.inr HI.out⟩, ⟨(by repeat (first | (with_reducible first | exact HB.out | apply below_alloc | apply pw_below_drewN | apply below_drew1) | exact HB.out))⟩⟩
    | esc2 h1 h2 h3 h4 =>
      have c1 : decide (i < (a0.size : Int)) = true := decide_eq_true (by omega)
      obtain ⟨k1, rfl⟩ : ∃ k1, gk = k1 + 1 := ⟨gk - 1, by omega⟩
      have hr := bt_range a0 (i)
      have hx := bt_at a0 (i)
      have p := eq_true (show 0 ≤ i by omega)
      have q := eq_true (show i < (a0.size : Int) by omega)
      have hrb := bt_range a0 (i + 1)
      have hxb := bt_at a0 (i + 1)
      have pb := eq_true (show 0 ≤ i + 1 by omega)
      have qb := eq_true (show i + 1 < (a0.size : Int) by omega)
      have c2 : (bt a0 i == 34) = false := beq_eq_false_iff_ne.mpr (by omega)
      have c3 : decide (bt a0 i < 32) = false := decide_eq_false (by omega)
      have c4 : decide (126 < bt a0 i) = false := decide_eq_false (by omega)
      have c5 : (bt a0 i == 92) = true := beq_iff_eq.mpr (by omega)
      have c6 : decide ((a0.size : Int) ≤ i + 1) = false := decide_eq_false (by omega)
      have c7 : (bt a0 (i + 1) != 34) = true := bne_iff_ne.mpr (by omega)
      have c8 : (bt a0 (i + 1) != 92) = false := bne_eq_false_iff_eq.mpr h3
      have HN := Aside0.mk h4
      rw [h3] at hxb
      clear h1 h4 HA
      go_wp2_with (first | (go_at_call 82; refine (Tryd.Builder_WriteByte_k w.heap.size w.heap.size (Lib.byteCells d) (92) _ HI.out (by rw [Lib.byteCells_length]; omega) (below_size (by repeat (first | (with_reducible first | exact HB.out | apply below_alloc | apply pw_below_drewN | apply below_drew1) | exact HB.out)))).mono ?_; rintro e wq ⟨rfl, hi2, hb2, -⟩; have n0_ := Aside0.mk (Below.trans (by repeat (first | (with_reducible first | exact HB.out | apply below_alloc | apply pw_below_drewN | apply below_drew1) | exact HB.out)) hb2); rw [bytes_more d (92) (by omega) (by omega)] at hi2; have n1_ := Aside0.mk hi2; clear HB HI; have HB := n0_; have HI := n1_; clear n0_ n1_ hi2 hb2))
      go_roundg k1
      case measure => omega
      case rel => exact ⟨_, i + 2, (by rw [show i + 1 + 1 = i + 2 by omega]), by omega, by omega, by (simp only [List.length_append, List.length_singleton]; omega), by omega, HN, ⟨.inr HI.out⟩, ⟨(by repeat (first | (with_reducible first | exact HB.out | apply below_alloc | apply pw_below_drewN | apply below_drew1) | exact HB.out))⟩⟩
end Go.Proofs.YtgobpenmemlieaaDoor.Lex
