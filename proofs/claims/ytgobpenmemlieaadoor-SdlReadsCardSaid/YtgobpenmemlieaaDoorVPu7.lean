/- Packed by our own shrink.py: theorems that the claim does not use are left out. -/
import Derived.Test.YtgobpenmemlieaaDoorVPu6
/-
  Plain: the reference's numbers are ours.
-/
namespace Go.Proofs.YtgobpenmemlieaaDoor.Lex
open Go.RowKit Go.Proofs.YtgobpenmemlieaaDoorW.PrintWords Go.Proofs.YtgobpenmemlieaaDoorW.PrintLast Go.Proofs.YtgobpenmemlieaaDoorW.PrintMore PSdlBack
set_option linter.unusedVariables false
set_option linter.unusedSimpArgs false
/-- The digits from place i on. -/
def dg (s : ByteArray) (i : Nat) : List Int := ((bytesOf s).drop i).takeWhile isDigit
theorem len_bytes (s : ByteArray) : (bytesOf s).length = s.size := by unfold bytesOf; rw [List.length_map]; rfl
theorem dg_digits (s : ByteArray) (i : Nat) : ∀ c ∈ dg s i, isDigit c = true := fun c hc => by
  unfold dg at hc
  exact List.all_eq_true.mp List.all_takeWhile c hc
theorem dg_cons (s : ByteArray) (i : Nat) (h : i < s.size) (hd : isDigit (bt s i) = true) : dg s i = bt s i :: dg s (i + 1) := by
  have hl : i < (bytesOf s).length := by rw [len_bytes]; exact h
  have hb : bt s i = (bytesOf s)[i] := by rw [bt_bytes, Int.toNat_natCast, List.getD_eq_getElem?_getD, List.getElem?_eq_getElem hl]; rfl
  unfold dg
  rw [List.drop_eq_getElem_cons hl, ← hb, List.takeWhile_cons_of_pos hd]
theorem dg_stop (s : ByteArray) (i : Nat) (h : i < s.size) (hd : isDigit (bt s i) = false) : dg s i = [] := by
  have hl : i < (bytesOf s).length := by rw [len_bytes]; exact h
  have hb : bt s i = (bytesOf s)[i] := by rw [bt_bytes, Int.toNat_natCast, List.getD_eq_getElem?_getD, List.getElem?_eq_getElem hl]; rfl
  unfold dg
  rw [List.drop_eq_getElem_cons hl, ← hb, List.takeWhile_cons_of_neg (by rw [hd]; decide)]
theorem dg_end (s : ByteArray) (i : Nat) (h : s.size ≤ i) : dg s i = [] := by
  unfold dg
  rw [List.drop_eq_nil_of_le (by rw [len_bytes]; exact h)]
  rfl
theorem dg_len (s : ByteArray) (i : Nat) (h : i ≤ s.size) : i + (dg s i).length ≤ s.size := by
  have h1 : (dg s i).length ≤ ((bytesOf s).drop i).length := (List.takeWhile_sublist isDigit).length_le
  rw [List.length_drop, len_bytes] at h1
  omega
theorem dig_json (c : Int) : json_digit.f c = some (isDigit c) := by
  unfold json_digit.f isDigit
  by_cases h1 : 48 ≤ c <;> simp [h1]
theorem dig_mod (c : Int) (h : isDigit c = true) : (c - 48) % 256 = c - 48 ∧ 48 ≤ c ∧ c ≤ 57 := by
  unfold isDigit at h
  simp at h
  omega
theorem json_run (s : ByteArray) (hs : (s.size : Int) ≤ 1000000000000) (x5 : Int) (r : Int × Int × Bool) : ∀ (n i : Nat) (v : Int), i ≤ s.size → s.size - i ≤ n → 0 ≤ v → v ≤ 20000000000 →
    Ends (fun k => json_Number.j2 k s (satv (dg s i) v) ((i : Int) + (dg s i).length) x5 false) r → Ends (fun k => json_Number.l0 k s v i x5) r
  | 0, i, v, h0, h1, hv, hv2, h => by
    rw [dg_end s i (by omega)] at h
    refine Ends.step h (fun k => ?_)
    rw [json_Number.l0, if_neg (by omega)]
    simp [satv]
  | n + 1, i, v, h0, h1, hv, hv2, h => by
    by_cases hi : i < s.size
    · cases hd : isDigit (bt s i) with
      | true =>
        obtain ⟨m1, m2, m3⟩ := dig_mod _ hd
        rw [dg_cons s i hi hd] at h
        have e0 : ((i : Int) + ((bt s i :: dg s (i + 1)).length : Int)) = ((i + 1 : Nat) : Int) + ((dg s (i + 1)).length : Int) := by rw [List.length_cons]; omega
        rw [e0] at h
        unfold satv at h
        refine Ends.step (g := fun k => json_Number.j2 k s v i x5 true) ?_ (fun k => by rw [json_Number.l0, if_pos (by omega), if_pos (by omega), dig_json, hd]; rfl)
        by_cases hM : v ≤ 1073741824
        · rw [if_pos hM] at h
          have h2 := json_run s hs x5 r n (i + 1) (v * 10 + (bt s i - 48)) (by omega) (by omega) (by omega) (by omega) h
          refine Ends.step h2 (fun k => ?_)
          rw [json_Number.j2, if_pos rfl, if_pos hM, if_pos (by omega), if_pos (by omega), m1, wrap64_id (n := v * 10) (by omega) (by omega), wrap64_id (n := v * 10 + _) (by omega) (by omega), wrap64_id (n := (i : Int) + 1) (by omega) (by omega)]
          rfl
        · rw [if_neg hM] at h
          have h2 := json_run s hs x5 r n (i + 1) v (by omega) (by omega) (by omega) (by omega) h
          refine Ends.step h2 (fun k => ?_)
          rw [json_Number.j2, if_pos rfl, if_neg hM, wrap64_id (n := (i : Int) + 1) (by omega) (by omega)]
          rfl
      | false =>
        rw [dg_stop s i hi hd] at h
        refine Ends.step h (fun k => ?_)
        rw [json_Number.l0, if_pos (by omega), if_pos (by omega), dig_json, hd]
        simp [satv]
    · rw [dg_end s i (by omega)] at h
      refine Ends.step h (fun k => ?_)
      rw [json_Number.l0, if_neg (by omega)]
      simp [satv]
theorem ref_run (s : ByteArray) (hs : (s.size : Int) ≤ 1000000000000) (r : Int) (e : Nat) (h : Ends (fun k => (amanuensisref1_Int.f k (s.extract 0 e)).bind fun b => if b.2 = true then some (e : Int) else some 0) r) : ∀ (n i : Nat), i ≤ s.size → s.size - i ≤ n → e = i + (dg s i).length → Ends (fun k => amanuensisref2_one.l1 k s i) r
  | 0, i, h0, h1, he => by
    rw [dg_end s i (by omega), List.length_nil, Nat.add_zero] at he
    subst he
    refine Ends.step h (fun k => ?_)
    rw [amanuensisref2_one.l1, if_neg (by omega), if_pos (by omega), if_pos (by omega), Int.toNat_natCast]
  | n + 1, i, h0, h1, he => by
    by_cases hi : i < s.size
    · cases hd : isDigit (bt s i) with
      | true =>
        rw [dg_cons s i hi hd, List.length_cons] at he
        refine Ends.step (ref_run s hs r e h n (i + 1) (by omega) (by omega) (by omega)) (fun k => ?_)
        rw [amanuensisref2_one.l1, if_pos (by omega), if_pos (by omega), digit_ref, hd, wrap64_id (n := (i : Int) + 1) (by omega) (by omega), Option.bind_some, if_pos rfl]
        rfl
      | false =>
        rw [dg_stop s i hi hd, List.length_nil, Nat.add_zero] at he
        subst he
        refine Ends.step h (fun k => ?_)
        rw [amanuensisref2_one.l1, if_pos (by omega), if_pos (by omega), digit_ref, hd, Option.bind_some, if_neg (by decide), if_pos (by omega), Int.toNat_natCast]
    · rw [dg_end s i (by omega), List.length_nil, Nat.add_zero] at he
      subst he
      refine Ends.step h (fun k => ?_)
      rw [amanuensisref2_one.l1, if_neg (by omega), if_pos (by omega), if_pos (by omega), Int.toNat_natCast]
theorem int_digits (a x : ByteArray) (hx : x.size ≤ 10) (hd : ∀ c ∈ bytesOf x, isDigit c = true) : ∀ (n i : Nat) (y : Int), i ≤ x.size → x.size - i ≤ n → 0 ≤ y → y < 10 ^ i →
    Ends (fun k => (amanuensisref1_Int.l0 k a x y i).map (fun p => p.2)) (decide (exv ((bytesOf x).drop i) y ≤ 1073741824))
  | n, i, y, h0, h1, hy, hy2 => by
    by_cases hi : i < x.size
    · obtain ⟨n, rfl⟩ : ∃ m, n = m + 1 := ⟨n - 1, by omega⟩
      have hl : i < (bytesOf x).length := by rw [len_bytes]; exact hi
      have hb : bt x i = (bytesOf x)[i] := by rw [bt_bytes, Int.toNat_natCast, List.getD_eq_getElem?_getD, List.getElem?_eq_getElem hl]; rfl
      have hdi : isDigit (bt x i) = true := by rw [hb]; exact hd _ (List.getElem_mem hl)
      obtain ⟨m1, m2, m3⟩ := dig_mod _ hdi
      have hp : (10 : Int) ^ i ≤ 10 ^ 9 := by
        have : ∀ a b : Nat, a ≤ b → (10 : Int) ^ a ≤ 10 ^ b := fun a b hab => by
          have := Nat.pow_le_pow_right (show 0 < 10 by decide) hab
          exact_mod_cast this
        exact this i 9 (by omega)
      have hp9 : (10 : Int) ^ 9 = 1000000000 := by decide
      have hs : (10 : Int) ^ (i + 1) = 10 ^ i * 10 := Int.pow_succ _ _
      have ih := int_digits a x hx hd n (i + 1) (10 * y + (bt x i - 48)) (by omega) (by omega) (by omega) (by omega)
      have e1 : (bytesOf x).drop i = bt x i :: (bytesOf x).drop (i + 1) := by rw [List.drop_eq_getElem_cons hl, ← hb]
      rw [e1]
      refine Ends.step ih (fun k => ?_)
      rw [amanuensisref1_Int.l0, if_pos (by omega), if_pos (by omega), if_neg (by omega), if_neg (by omega), m1, wrap64_id (n := 10 * y) (by omega) (by omega), wrap64_id (n := 10 * y + _) (by omega) (by omega), wrap64_id (n := (i : Int) + 1) (by omega) (by omega)]
      rfl
    · rw [List.drop_eq_nil_of_le (by rw [len_bytes]; omega)]
      refine Ends.step (Ends.const _) (fun k => ?_)
      rw [amanuensisref1_Int.l0, if_neg (by omega)]
      unfold exv
      by_cases hM : y > 1073741824
      · rw [if_pos hM, decide_eq_false (by omega)]; rfl
      · rw [if_neg hM, decide_eq_true (by omega)]
        split <;> rfl
def numOk (neg : Bool) (ds : List Int) : Bool := decide (0 < ds.length) && (decide (satv ds 0 ≤ 1073741824) && !(decide (ds.getD 0 0 = 48) && (neg || decide (1 < ds.length))))
theorem Ends.map {α β : Type} {g : Nat → Option α} {x : α} (f : α → β) (h : Ends g x) : Ends (fun k => (g k).map f) (f x) := by
  obtain ⟨K, hK⟩ := h
  exact ⟨K, fun k hk => by show (g k).map f = _; rw [hK k hk]; rfl⟩
theorem bt_first (x : ByteArray) (c : Int) (r : List Int) (h : bytesOf x = c :: r) : bt x 0 = c := by rw [bt_bytes, h]; rfl
theorem pow10 : (10 : Int) ^ 10 = 10000000000 := by decide
theorem int_j1_ok (a x : ByteArray) (neg : Bool) (hd : ∀ c ∈ bytesOf x, isDigit c = true) (hz : a.toList = [48] ↔ (neg = false ∧ bytesOf x = [48])) : Ends (fun k => (amanuensisref1_Int.j1 k a x).map (fun p => p.2)) (numOk neg (bytesOf x)) := by
  have hbad : Ends (fun k => (amanuensisref1_Int.j2 k a x true).map (fun p => p.2)) false := Ends.step (Ends.const _) (fun k => by rw [amanuensisref1_Int.j2, if_pos rfl]; rfl)
  have hlen := len_bytes x
  unfold numOk
  by_cases h0 : x.size = 0
  · rw [hlen, h0, decide_eq_false (by omega)]
    exact Ends.step hbad (fun k => by rw [amanuensisref1_Int.j1, if_pos (by omega)])
  · rw [hlen, decide_eq_true (by omega), Bool.true_and]
    obtain ⟨c, r, hcr⟩ : ∃ c r, bytesOf x = c :: r := by
      cases hq : bytesOf x with
      | nil => rw [hq] at hlen; simp at hlen; omega
      | cons c r => exact ⟨c, r, rfl⟩
    have hb0 := bt_first x c r hcr
    have hg : (bytesOf x).getD 0 0 = c := by rw [hcr]; rfl
    have hdc : isDigit c = true := hd c (by rw [hcr]; simp)
    obtain ⟨-, c1, c2⟩ := dig_mod c hdc
    have hse := sat_ex (bytesOf x) 0 hd (by omega)
    have hex : decide (satv (bytesOf x) 0 ≤ 1073741824) = decide (exv (bytesOf x) 0 ≤ 1073741824) := by
      by_cases h : exv (bytesOf x) 0 ≤ 1073741824
      · rw [decide_eq_true h, decide_eq_true (hse.mpr h)]
      · rw [decide_eq_false h, decide_eq_false (fun h2 => h (hse.mp h2))]
    rw [hg, hex]
    by_cases h10 : x.size > 10
    · have hno : (decide (exv (bytesOf x) 0 ≤ 1073741824) && !(decide (c = 48) && (neg || decide (1 < x.size)))) = false := by
        by_cases h48 : c = 48
        · rw [decide_eq_true h48, decide_eq_true (show 1 < x.size by omega)]; simp
        · have hr : r.length + 1 = x.size := by rw [← hlen, hcr, List.length_cons]
          have hl := exv_long r (c - 48) (fun y hy => hd y (by rw [hcr]; simp [hy])) (by omega)
          have he : exv (bytesOf x) 0 = exv r (c - 48) := by rw [hcr]; show exv r (10 * 0 + (c - 48)) = _; rw [show 10 * (0 : Int) + (c - 48) = c - 48 by omega]
          have hp : (10 : Int) ^ 10 ≤ 10 ^ r.length := by
            have := Nat.pow_le_pow_right (show 0 < 10 by decide) (show 10 ≤ r.length by omega)
            exact_mod_cast this
          rw [pow10] at hp
          rw [decide_eq_false (by omega)]; rfl
      rw [hno]
      exact Ends.step hbad (fun k => by rw [amanuensisref1_Int.j1, if_neg (by omega), if_pos (by omega)])
    · have hloop : Ends (fun k => (amanuensisref1_Int.j2 k a x false).map (fun p => p.2)) (decide (exv (bytesOf x) 0 ≤ 1073741824)) := by
        have h := int_digits a x (by omega) hd x.size 0 0 (by omega) (by omega) (by omega) (by decide)
        exact Ends.step h (fun k => by rw [amanuensisref1_Int.j2, if_neg (by decide)]; rfl)
      by_cases h48 : c = 48
      · rw [decide_eq_true h48, Bool.true_and]
        by_cases hza : a.toList = [48]
        · obtain ⟨hn, hx⟩ := hz.mp hza
          have hs1 : x.size = 1 := by rw [← hlen, hx]; rfl
          rw [hn, hs1]
          have e : (decide (exv (bytesOf x) 0 ≤ 1073741824) && !(false || decide (1 < 1))) = decide (exv (bytesOf x) 0 ≤ 1073741824) := by simp
          rw [e]
          exact Ends.step hloop (fun k => by rw [amanuensisref1_Int.j1, if_neg (by omega), if_neg (by omega), if_pos (by omega), if_pos (by rw [hb0]; exact h48), hza]; rfl)
        · have hno : (neg || decide (1 < x.size)) = true := by
            cases neg with
            | true => rfl
            | false =>
              by_cases h1 : 1 < x.size
              · rw [decide_eq_true h1]; rfl
              · exfalso
                apply hza
                refine hz.mpr ⟨rfl, ?_⟩
                have hr : r = [] := by
                  have : r.length + 1 = x.size := by rw [← hlen, hcr, List.length_cons]
                  exact List.length_eq_zero_iff.mp (by omega)
                rw [hcr, hr, h48]
          rw [hno, Bool.not_true, Bool.and_false]
          have hne : (a.toList != ([48] : List UInt8)) = true := bne_iff_ne.mpr hza
          exact Ends.step hbad (fun k => by rw [amanuensisref1_Int.j1, if_neg (by omega), if_neg (by omega), if_pos (by omega), if_pos (by rw [hb0]; exact h48), hne])
      · rw [decide_eq_false h48, Bool.false_and, Bool.not_false, Bool.and_true]
        exact Ends.step hloop (fun k => by rw [amanuensisref1_Int.j1, if_neg (by omega), if_neg (by omega), if_pos (by omega), if_neg (by rw [hb0]; exact h48)])
theorem bytes_inj {a : ByteArray} (l : List UInt8) (h : bytesOf a = l.map (fun b => (b.toNat : Int))) : a.data.toList = l := by
  unfold bytesOf at h
  have inj : ∀ x y : UInt8, ((x.toNat : Nat) : Int) = (y.toNat : Int) → x = y := fun x y e => UInt8.toNat_inj.mp (by omega)
  have key : ∀ (p q : List UInt8), p.map (fun b => (b.toNat : Int)) = q.map (fun b => (b.toNat : Int)) → p = q := by
    intro p
    induction p with
    | nil => intro q hq; cases q with
      | nil => rfl
      | cons y q => simp at hq
    | cons x p ih => intro q hq; cases q with
      | nil => simp at hq
      | cons y q =>
        simp only [List.map_cons, List.cons.injEq] at hq
        rw [inj x y hq.1, ih q hq.2]
  exact key _ _ h
theorem is48 (a : ByteArray) : a.toList = [48] ↔ bytesOf a = [48] := by
  rw [toL_eq]
  constructor
  · intro h; unfold bytesOf; rw [h]; rfl
  · intro h; exact bytes_inj [48] h
theorem int_agree (a : ByteArray) (neg : Bool) (ds : List Int) (hb : bytesOf a = (if neg then [45] else []) ++ ds) (hd : ∀ c ∈ ds, isDigit c = true) : Ends (fun k => (amanuensisref1_Int.f k a).map (fun p => p.2)) (numOk neg ds) := by
  have hlen := len_bytes a
  cases neg with
  | true =>
    have hb' : bytesOf a = 45 :: ds := hb
    have hs : 0 < a.size := by rw [← hlen, hb']; simp
    have hx : bytesOf (a.extract 1 a.size) = ds := by
      have : (a.extract 1 a.size).data.toList = a.data.toList.drop 1 := by rw [ext_list, List.take_of_length_le]; rw [List.length_drop]; exact Nat.le_refl _
      unfold bytesOf at hb' ⊢
      rw [this, List.map_drop, hb']
      rfl
    have h := int_j1_ok a (a.extract 1 a.size) true (by rw [hx]; exact hd) (by
      rw [is48, hb']
      constructor
      · intro h; exact absurd (List.cons.inj h).1 (by decide)
      · intro h; exact absurd h.1 (by decide))
    rw [hx] at h
    refine Ends.of (g := fun k => (amanuensisref1_Int.j0 k a a true).map (fun p => p.2)) (Ends.step h (fun k => by rw [amanuensisref1_Int.j0, if_pos rfl, if_pos (by omega)])) (fun k => ?_)
    rw [amanuensisref1_Int.f, if_pos (by omega), if_pos (by omega), show (bt a 0 == 45) = true by rw [bt_first a 45 ds hb']; rfl]
  | false =>
    have hb' : bytesOf a = ds := hb
    have h := int_j1_ok a a false (by rw [hb']; exact hd) (by rw [is48]; simp)
    rw [hb'] at h
    have h2 : Ends (fun k => (amanuensisref1_Int.j0 k a a false).map (fun p => p.2)) (numOk false ds) := Ends.step h (fun k => by rw [amanuensisref1_Int.j0, if_neg (by decide)])
    refine Ends.of h2 (fun k => ?_)
    by_cases hs : (a.size : Int) > 0
    · have hne : (bt a 0 == 45) = false := by
        cases hq : ds with
        | nil => rw [hb', hq] at hlen; simp at hlen; omega
        | cons c r =>
          have hc := hd c (by rw [hq]; simp)
          obtain ⟨-, c1, c2⟩ := dig_mod c hc
          rw [bt_first a c r (by rw [hb', hq]), beq_eq_false_iff_ne]
          omega
      rw [amanuensisref1_Int.f, if_pos hs, if_pos hs, hne]
    · rw [amanuensisref1_Int.f, if_neg hs]
theorem pre45 (s : ByteArray) (h : 0 < s.size) : strings_HasPrefix.f s (⟨#[45]⟩ : ByteArray) = some (bt s 0 == 45) := by
  obtain ⟨c, r, hc⟩ : ∃ c r, s.data.toList = c :: r := by
    cases hq : s.data.toList with
    | nil => rw [size_list, hq] at h; simp at h
    | cons c r => exact ⟨c, r, rfl⟩
  have hb := bt_zero s c r hc
  have he : (s.extract 0 1).toList = [c] := by rw [toL_eq, ext_list, hc]; rfl
  have h45 : (⟨#[45]⟩ : ByteArray).toList = [45] := by rw [toL_eq]
  have hz : (⟨#[45]⟩ : ByteArray).size = 1 := rfl
  unfold strings_HasPrefix.f stringslite_HasPrefix.f
  rw [hz, if_pos (show (s.size : Int) ≥ ((1 : Nat) : Int) by omega), if_pos (by omega), if_pos (by omega), Option.bind_some, Int.toNat_natCast, he, h45, hb]
  congr 1
  by_cases e : c = 45
  · rw [e]; rfl
  · have e2 : ((c.toNat : Nat) : Int) ≠ 45 := fun h2 => by
      have h3 : c.toNat = (45 : UInt8).toNat := by show c.toNat = 45; omega
      exact e (UInt8.toNat_inj.mp h3)
    rw [beq_eq_false_iff_ne.mpr e2, beq_eq_false_iff_ne]
    exact fun h3 => e (List.cons.inj h3).1
theorem json_end (s : ByteArray) (hs : (s.size : Int) ≤ 1000000000000) (i0 : Nat) (hi : i0 ≤ 1) (hi2 : i0 ≤ s.size) : ∃ r1, Ends (fun k => json_Number.j2 k s (satv (dg s i0) 0) ((i0 : Int) + (dg s i0).length) (if i0 = 1 then -1 else 1) false) (r1, (i0 : Int) + (dg s i0).length, numOk (decide (i0 = 1)) (dg s i0)) := by
  have hl := dg_len s i0 hi2
  have hr := sat_range (dg s i0) 0 (dg_digits s i0) (by omega) (by omega)
  generalize hv : satv (dg s i0) 0 = v at hr
  unfold numOk
  rw [hv]
  have hfirst : 0 < (dg s i0).length → (dg s i0).getD 0 0 = bt s i0 := fun h0 => by
    have h3 : i0 < s.size := by omega
    cases hd : isDigit (bt s i0) with
    | true => rw [dg_cons s i0 h3 hd]; rfl
    | false => rw [dg_stop s i0 h3 hd] at h0; simp at h0
  generalize hn : (dg s i0).length = n at hl hfirst
  generalize (dg s i0).getD 0 0 = c at hfirst
  by_cases h0 : n = 0
  · refine ⟨0, ?_⟩
    rw [h0, decide_eq_false (by omega)]
    rcases (show i0 = 0 ∨ i0 = 1 by omega) with rfl | rfl
    · exact Ends.step (Ends.const _) (fun k => by rw [json_Number.j2, if_neg (by decide), if_neg (by decide), if_pos (by decide)]; rfl)
    · exact Ends.step (Ends.const _) (fun k => by rw [json_Number.j2, if_neg (by decide), if_pos (by decide), wrap64_id (n := ((1 : Nat) : Int) + ((0 : Nat) : Int) - 1) (by decide) (by decide), if_pos (by decide)]; rfl)
  · have hc := hfirst (by omega)
    by_cases hM : v > 1073741824
    · refine ⟨0, ?_⟩
      rw [decide_eq_true (show 0 < n by omega), decide_eq_false (show ¬ v ≤ 1073741824 by omega)]
      rcases (show i0 = 0 ∨ i0 = 1 by omega) with rfl | rfl
      · exact Ends.step (Ends.const _) (fun k => by rw [json_Number.j2, if_neg (by decide), if_neg (by decide), if_neg (by omega), if_pos hM]; rfl)
      · exact Ends.step (Ends.const _) (fun k => by rw [json_Number.j2, if_neg (by decide), if_pos (by decide), wrap64_id (n := ((1 : Nat) : Int) + (n : Int) - 1) (by omega) (by omega), if_neg (by omega), if_pos hM]; rfl)
    · rw [decide_eq_true (show 0 < n by omega), decide_eq_true (show v ≤ 1073741824 by omega), Bool.true_and, Bool.true_and]
      rcases (show i0 = 0 ∨ i0 = 1 by omega) with rfl | rfl
      · have e0 : (((0 : Nat) : Int) + (n : Int)) - (((0 : Nat) : Int) + (n : Int)) = 0 := by omega
        have hc' : bt s 0 = c := hc.symm
        by_cases h48 : c = 48
        · by_cases h1 : 1 < n
          · refine ⟨0, Ends.step (Ends.const _) (fun k => ?_)⟩
            rw [json_Number.j2, if_neg (by decide), if_neg (by decide), if_neg (by omega), if_neg hM, e0, wrap64_id (n := 0) (by decide) (by decide), if_pos (by decide), if_pos (by omega), hc', if_pos h48, if_pos (by omega), decide_eq_true h48, decide_eq_true h1]
            rfl
          · refine ⟨wrap64 ((if (0 : Nat) = 1 then -1 else 1) * v), Ends.step (Ends.const _) (fun k => ?_)⟩
            rw [json_Number.j2, if_neg (by decide), if_neg (by decide), if_neg (by omega), if_neg hM, e0, wrap64_id (n := 0) (by decide) (by decide), if_pos (by decide), if_pos (by omega), hc', if_pos h48, if_neg (by omega), decide_eq_true h48, decide_eq_false h1]
            rfl
        · refine ⟨wrap64 ((if (0 : Nat) = 1 then -1 else 1) * v), Ends.step (Ends.const _) (fun k => ?_)⟩
          rw [json_Number.j2, if_neg (by decide), if_neg (by decide), if_neg (by omega), if_neg hM, e0, wrap64_id (n := 0) (by decide) (by decide), if_pos (by decide), if_pos (by omega), hc', if_neg h48, decide_eq_false h48]
          rfl
      · have e1 : ((1 : Nat) : Int) + (n : Int) - (((1 : Nat) : Int) + (n : Int) - 1) = 1 := by omega
        have hc' : bt s 1 = c := hc.symm
        by_cases h48 : c = 48
        · refine ⟨0, Ends.step (Ends.const _) (fun k => ?_)⟩
          rw [json_Number.j2, if_neg (by decide), if_pos (by decide), wrap64_id (n := ((1 : Nat) : Int) + (n : Int) - 1) (by omega) (by omega), if_neg (by omega), if_neg hM, e1, wrap64_id (n := 1) (by decide) (by decide), if_pos (by decide), if_pos (by omega), hc', if_pos h48, decide_eq_true h48]
          split <;> rfl
        · refine ⟨wrap64 ((if (1 : Nat) = 1 then -1 else 1) * v), Ends.step (Ends.const _) (fun k => ?_)⟩
          rw [json_Number.j2, if_neg (by decide), if_pos (by decide), wrap64_id (n := ((1 : Nat) : Int) + (n : Int) - 1) (by omega) (by omega), if_neg (by omega), if_neg hM, e1, wrap64_id (n := 1) (by decide) (by decide), if_pos (by decide), if_pos (by omega), hc', if_neg h48, decide_eq_false h48]
          rfl
theorem num_agree (s : ByteArray) (h1 : 0 < s.size) (hs : (s.size : Int) ≤ 1000000000000) (hc : bt s 0 = 45 ∨ isDigit (bt s 0) = true) : ∃ n : Int, SizeI s n ∧ Ends (fun k => amanuensisref2_one.l1 k s 1) n ∧ 0 ≤ n ∧ n ≤ s.size := by
  have main : ∀ i0 : Nat, i0 ≤ 1 → (bt s 0 == 45) = decide (i0 = 1) → 1 + (dg s 1).length = i0 + (dg s i0).length → bytesOf (s.extract 0 (i0 + (dg s i0).length)) = (if decide (i0 = 1) then [45] else []) ++ dg s i0 → ∃ n : Int, SizeI s n ∧ Ends (fun k => amanuensisref2_one.l1 k s 1) n ∧ 0 ≤ n ∧ n ≤ s.size := by
    intro i0 hi h45 hlen hbytes
    obtain ⟨r1, hj⟩ := json_end s hs i0 hi (by omega)
    have hrun := json_run s hs (if i0 = 1 then -1 else 1) _ s.size i0 0 (by omega) (by omega) (by omega) (by omega) hj
    have hf : Ends (fun k => json_Number.f k s) (r1, (i0 : Int) + (dg s i0).length, numOk (decide (i0 = 1)) (dg s i0)) := by
      refine Ends.of (g := fun k => json_Number.j0 k s 0 i0 (if i0 = 1 then -1 else 1)) (Ends.step hrun (fun k => by rw [json_Number.j0])) (fun k => ?_)
      unfold json_Number.f
      rw [pre45 s h1, h45, Option.bind_some]
      rcases (show i0 = 0 ∨ i0 = 1 by omega) with rfl | rfl <;> rfl
    obtain ⟨K, hK⟩ := hf
    have hn := hK K (Nat.le_refl _)
    have hcalls := fun w => json_Number.calls K s _ _ _ w hn
    have hl := dg_len s i0 (by omega)
    refine ⟨if numOk (decide (i0 = 1)) (dg s i0) = true then (i0 : Int) + (dg s i0).length else 0, ?_, ?_, by split <;> omega, by split <;> omega⟩
    · rcases hc with hc | hc
      · exact size_minus s h1 hc _ _ _ hcalls
      · exact size_digit s h1 hc _ _ _ hcalls
    · have hi := int_agree (s.extract 0 (i0 + (dg s i0).length)) (decide (i0 = 1)) (dg s i0) hbytes (dg_digits s i0)
      refine ref_run s hs _ (i0 + (dg s i0).length) ?_ s.size 1 (by omega) (by omega) hlen.symm
      obtain ⟨K2, hK2⟩ := hi
      refine ⟨K2, fun k hk => ?_⟩
      have h2 := hK2 k hk
      obtain ⟨p, hp, hp2⟩ := Option.map_eq_some_iff.mp h2
      show (amanuensisref1_Int.f k _).bind _ = _
      rw [hp, Option.bind_some, hp2]
      split <;> simp
  have hfst : ∃ c r, s.data.toList = c :: r := by
    cases hq : s.data.toList with
    | nil => rw [size_list, hq] at h1; simp at h1
    | cons c r => exact ⟨c, r, rfl⟩
  have htake : ∀ i0 : Nat, bytesOf (s.extract 0 (i0 + (dg s i0).length)) = (bytesOf s).take i0 ++ dg s i0 := fun i0 => by
    have e1 : bytesOf (s.extract 0 (i0 + (dg s i0).length)) = (bytesOf s).take (i0 + (dg s i0).length) := by
      unfold bytesOf
      rw [ext_list, List.drop_zero, Nat.sub_zero, List.map_take]
    rw [e1, List.take_add]
    congr 1
    unfold dg
    obtain ⟨t, ht⟩ := List.takeWhile_prefix (l := (bytesOf s).drop i0) isDigit
    generalize ((bytesOf s).drop i0).takeWhile isDigit = u at ht ⊢
    rw [← ht]
    exact List.take_left
  by_cases h45 : bt s 0 = 45
  · refine main 1 (by omega) (by rw [h45]; rfl) rfl ?_
    rw [htake 1]
    obtain ⟨c, r, hcr⟩ := hfst
    have hb : bytesOf s = 45 :: r.map (fun b => (b.toNat : Int)) := by
      have := bt_zero s c r hcr
      rw [h45] at this
      unfold bytesOf
      rw [hcr, List.map_cons, ← this]
    rw [hb]
    rfl
  · have hd : isDigit (bt s 0) = true := hc.resolve_left h45
    refine main 0 (by omega) (by rw [beq_eq_false_iff_ne.mpr h45]; rfl) ?_ ?_
    · have := dg_cons s 0 h1 hd
      rw [this, List.length_cons, Nat.zero_add, Nat.zero_add, Nat.add_comm]
    · rw [htake 0]; rfl
end Go.Proofs.YtgobpenmemlieaaDoor.Lex
