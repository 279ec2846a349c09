/- Packed by our own shrink.py: theorems that the claim does not use are left out. -/
import Derived.Test.YtgobpenmemlieaaDoorVRdf
import Derived.Test.YtgobpenmemlieaaDoorVPu9
/-
  Plain: what sdl.Read makes of any list of words is what the reference's Read makes of it.
-/
namespace Go.Proofs.YtgobpenmemlieaaDoor.Lex
open Go.RowKit Go.Proofs.YtgobpenmemlieaaDoorW.PrintWords Go.Proofs.YtgobpenmemlieaaDoorW.PrintLast Go.Proofs.YtgobpenmemlieaaDoorW.PrintMore PSdlBack
set_option linter.unusedVariables false
set_option linter.unusedSimpArgs false
/-! ### rows of words -/
def rowL (x : S75) : List ByteArray := x.f0 :: (W1 ++ (x.f1 :: (W2 ++ (x.f2 :: (W3 ++ (x.f3 :: W4))))))
def wordsR : List S75 → List ByteArray → List ByteArray
  | [], r => r
  | x :: l, r => rowL x ++ wordsR l r
structure Named (x : S75) : Prop where
  h0 : isName x.f0 = true
  h1 : isName x.f1 = true
  h2 : isName x.f2 = true
  h3 : isName x.f3 = true
def quad (x : S75) : List ByteArray := [x.f0, x.f1, x.f2, x.f3]
theorem rowL_eq (x : S75) (r : List ByteArray) : rowL x ++ r = x.f0 :: (W1 ++ (x.f1 :: (W2 ++ (x.f2 :: (W3 ++ (x.f3 :: (W4 ++ r))))))) := by
  simp [rowL, List.append_assoc]
theorem rowL_len (x : S75) : (rowL x).length = 26 := rfl
theorem wordsR_len : ∀ (xs : List S75) (r : List ByteArray), (wordsR xs r).length = 26 * xs.length + r.length
  | [], r => by simp [wordsR]
  | x :: xs, r => by
    show (rowL x ++ wordsR xs r).length = _
    rw [List.length_append, rowL_len, wordsR_len xs r, List.length_cons]
    omega
theorem wordsR_app : ∀ (xs : List S75) (r : List ByteArray), wordsR xs r = wordsR xs [] ++ r
  | [], r => rfl
  | x :: xs, r => by
    show rowL x ++ wordsR xs r = (rowL x ++ wordsR xs []) ++ r
    rw [wordsR_app xs r, List.append_assoc]
/-! ### sdl.Read's parser: what fits is read -/
theorem field_okR (x : S75) (hx : Named x) (l : List S39) (r : List ByteArray) (h : texts l = rowL x ++ r) : raw (l, false) = x ∧ ∃ l', p4 (l, false) = (l', false) ∧ texts l' = r := by
  rw [rowL_eq] at h
  obtain ⟨a0, l1, e1, t1⟩ := nm_ok h hx.h0
  obtain ⟨l2, e2, t2⟩ := sg_ok W1 l1 _ t1 (by decide)
  obtain ⟨a1, l3, e3, t3⟩ := nm_ok t2 hx.h1
  obtain ⟨l4, e4, t4⟩ := sg_ok W2 l3 _ t3 (by decide)
  obtain ⟨a2, l5, e5, t5⟩ := nm_ok t4 hx.h2
  obtain ⟨l6, e6, t6⟩ := sg_ok W3 l5 _ t5 (by decide)
  obtain ⟨a3, l7, e7, t7⟩ := nm_ok t6 hx.h3
  obtain ⟨l8, e8, t8⟩ := sg_ok W4 l7 _ t7 (by decide)
  have q1 : p1 (l, false) = (l2, false) := by unfold p1; rw [e1, e2]
  have q2 : p2 (l, false) = (l4, false) := by unfold p2; rw [q1, e3, e4]
  have q3 : p3 (l, false) = (l6, false) := by unfold p3; rw [q2, e5, e6]
  have q4 : p4 (l, false) = (l8, false) := by unfold p4; rw [q3, e7, e8]
  refine ⟨?_, l8, q4, t8⟩
  unfold raw
  rw [q1, q2, q3, a0, a1, a2, a3]
theorem reads_okR : ∀ (xs : List S75) (l : List S39) (m0 : List S75), texts l = wordsR xs W5 → (∀ x ∈ xs, Named x) → (xs = [] → m0 ≠ []) → ∃ l', Reads xs.length (l, false) m0 (l', false) (m0 ++ xs) ∧ texts l' = W5
  | [], l, m0, h, _, hm => by
    refine ⟨l, ?_, h⟩
    rw [List.append_nil]
    refine .stop ?_
    have hc : closes l = true := by
      obtain ⟨h1, -⟩ := take_ok (w := ⟨#[125]⟩) (r := []) h (by decide)
      unfold closes
      rw [h1, toL_eq]
      rfl
    have hl : (m0.length == 0) = false := by
      rw [beq_eq_false_iff_ne]
      intro h0
      exact hm rfl (List.length_eq_zero_iff.mp h0)
    unfold more
    show (!false && (m0.length == 0 || !closes l)) = false
    rw [hc, hl]
    rfl
  | x :: xs, l, m0, h, hx, _ => by
    have hx0 := hx x (by simp)
    obtain ⟨e1, l1, e2, t1⟩ := field_okR x hx0 l (wordsR xs W5) h
    obtain ⟨l', h1, h2⟩ := reads_okR xs l1 (m0 ++ [x]) t1 (fun y hy => hx y (by simp [hy])) (by simp)
    refine ⟨l', ?_, h2⟩
    have h0 : texts l = x.f0 :: (W1 ++ (x.f1 :: (W2 ++ (x.f2 :: (W3 ++ (x.f3 :: (W4 ++ wordsR xs W5))))))) := by rw [← rowL_eq]; exact h
    have hs : seen l = x.f0 := (take_ok (w := x.f0) h0 (name_size hx0.h0)).1
    have hm : more (l, false) m0 = true := by
      unfold more closes
      show (!false && (m0.length == 0 || !((seen l).toList == [125]))) = true
      rw [hs, name_open hx0.h0]
      simp
    have e3 : m0 ++ (x :: xs) = (m0 ++ [x]) ++ xs := by simp
    rw [e3]
    refine .step hm ?_
    rw [e2, e1]
    exact h1
/-! ### sdl.Read's parser: what is read does fit -/
theorem fits_inv {l : List S39} {b is : Bool} (h : takeB l b is = false) : b = false ∧ is = true ∧ texts l = seen l :: texts (takeL l b is) ∧ takeR l b is = seen l := by
  have hf : fits l b is = true := by
    unfold takeB at h
    cases hq : fits l b is with
    | true => rfl
    | false => rw [hq] at h; cases h
  have e1 : takeL l b is = l.drop 1 := if_pos hf
  have e2 : takeR l b is = seen l := if_pos hf
  unfold fits at hf
  simp only [Bool.and_eq_true, Bool.not_eq_true'] at hf
  obtain ⟨f1, rfl, rfl⟩ := hf
  refine ⟨rfl, rfl, ?_, e2⟩
  cases l with
  | nil => exact absurd f1 (by rw [toL_eq]; decide)
  | cons t l => rw [e1, seen_cons]; rfl
theorem signs_inv : ∀ (ws : List ByteArray) (l : List S39) (b : Bool), (signsS ws l b).2 = false → b = false ∧ texts l = ws ++ texts (signsS ws l b).1
  | [], l, b, h => ⟨h, rfl⟩
  | s :: r, l, b, h => by
    obtain ⟨h1, h2⟩ := signs_inv r _ _ h
    obtain ⟨g1, g2, g3, -⟩ := fits_inv h1
    refine ⟨g1, ?_⟩
    have hs : seen l = s := (ba_iff _ _).mp (eq_of_beq g2)
    rw [g3, h2, hs]
    rfl
theorem sg_inv (ws : List ByteArray) (p : List S39 × Bool) (h : (sg ws p).2 = false) : p.2 = false ∧ texts p.1 = ws ++ texts (sg ws p).1 := signs_inv ws p.1 p.2 h
theorem signs_le : ∀ (ws : List ByteArray) (l : List S39) (b : Bool), (signsS ws l b).1.length ≤ l.length
  | [], l, b => Nat.le_refl _
  | s :: r, l, b => by
    have h1 : (takeL l b (same l s)).length ≤ l.length := by
      unfold takeL
      split
      · rw [List.length_drop]; omega
      · exact Nat.le_refl _
    exact Nat.le_trans (signs_le r _ _) h1
theorem sg_le (ws : List ByteArray) (l : List S39) (b : Bool) : (sg ws (l, b)).1.length ≤ l.length := signs_le ws l b
theorem nm_inv (p : List S39 × Bool) (h : (nx p).2 = false) : p.2 = false ∧ isName (nm p) = true ∧ texts p.1 = nm p :: texts (nx p).1 := by
  obtain ⟨g1, g2, g3, g4⟩ := fits_inv (l := p.1) (b := p.2) (is := isName (seen p.1)) h
  have e : nm p = seen p.1 := g4
  refine ⟨g1, by rw [e]; exact g2, ?_⟩
  rw [e]
  exact g3
theorem field_inv (p : List S39 × Bool) (h : (p4 p).2 = false) : p.2 = false ∧ Named (raw p) ∧ texts p.1 = rowL (raw p) ++ texts (p4 p).1 := by
  obtain ⟨b8, t8⟩ := sg_inv W4 (nx (p3 p)) h
  obtain ⟨b7, n3, t7⟩ := nm_inv (p3 p) b8
  obtain ⟨b6, t6⟩ := sg_inv W3 (nx (p2 p)) b7
  obtain ⟨b5, n2, t5⟩ := nm_inv (p2 p) b6
  obtain ⟨b4, t4⟩ := sg_inv W2 (nx (p1 p)) b5
  obtain ⟨b3, n1, t3⟩ := nm_inv (p1 p) b4
  obtain ⟨b2, t2⟩ := sg_inv W1 (nx p) b3
  obtain ⟨b1, n0, t1⟩ := nm_inv p b2
  refine ⟨b1, ⟨n0, n1, n2, n3⟩, ?_⟩
  rw [rowL_eq]
  show texts p.1 = nm p :: (W1 ++ (nm (p1 p) :: (W2 ++ (nm (p2 p) :: (W3 ++ (nm (p3 p) :: (W4 ++ texts (p4 p).1)))))))
  have u3 : texts (p3 p).1 = nm (p3 p) :: (W4 ++ texts (p4 p).1) := by rw [t7, t8]; rfl
  have u2 : texts (p2 p).1 = nm (p2 p) :: (W3 ++ (nm (p3 p) :: (W4 ++ texts (p4 p).1))) := by rw [t5, t6, ← u3]; rfl
  have u1 : texts (p1 p).1 = nm (p1 p) :: (W2 ++ (nm (p2 p) :: (W3 ++ (nm (p3 p) :: (W4 ++ texts (p4 p).1))))) := by rw [t3, t4, ← u2]; rfl
  rw [t1, t2, ← u1]
  rfl
theorem ends_bad (q : List S39 × Bool) (h : q.2 = true) : ends q = true := by
  unfold ends
  cases hs : (sg W5 q).2 with
  | true => rfl
  | false =>
    have := (sg_inv W5 q hs).1
    rw [h] at this
    cases this
theorem more_bad (p : List S39 × Bool) (l : List S75) (h : p.2 = true) : more p l = false := by
  unfold more
  rw [h]
  rfl
theorem reads_bad {n : Nat} {p q : List S39 × Bool} {l m : List S75} (H : Reads n p l q m) (h : p.2 = true) : q.2 = true := by
  cases H with
  | stop _ => exact h
  | step hm _ => rw [more_bad p l h] at hm; cases hm
theorem reads_inv {n : Nat} {p q : List S39 × Bool} {l m : List S75} (H : Reads n p l q m) : ends q = false → ∃ xs, m = l ++ xs ∧ texts p.1 = wordsR xs W5 ∧ (∀ x ∈ xs, Named x) ∧ (l = [] → xs ≠ []) := by
  induction H with
  | stop hm =>
    rename_i n p l
    intro he
    have hb : p.2 = false := by
      cases hq : p.2 with
      | false => rfl
      | true => rw [ends_bad p hq] at he; cases he
    unfold ends at he
    simp only [Bool.or_eq_false_iff, decide_eq_false_iff_not] at he
    obtain ⟨he1, he2⟩ := he
    have ht := (sg_inv W5 p he1).2
    have h0 : (sg W5 p).1 = [] := List.length_eq_zero_iff.mp (by omega)
    rw [h0] at ht
    refine ⟨[], by simp, by rw [ht]; rfl, by simp, fun e => ?_⟩
    subst e
    unfold more at hm
    rw [hb] at hm
    cases hm
  | step hm H ih =>
    rename_i n p q l m
    intro he
    obtain ⟨xs, e1, e2, e3, -⟩ := ih he
    have hb : (p4 p).2 = false := by
      cases hq : (p4 p).2 with
      | false => rfl
      | true => rw [ends_bad q (reads_bad H hq)] at he; cases he
    obtain ⟨-, g2, g3⟩ := field_inv p hb
    refine ⟨raw p :: xs, by rw [e1]; simp, ?_, ?_, by simp⟩
    · rw [g3, e2]; rfl
    · intro x hx
      rcases List.mem_cons.mp hx with rfl | hx
      · exact g2
      · exact e3 x hx
theorem texts_len (l : List S39) : (texts l).length = l.length := by unfold texts; rw [List.length_map]
theorem reads_all : ∀ (k : Nat) (p : List S39 × Bool) (l : List S75), p.1.length ≤ k → ∃ n q m, n ≤ k + 1 ∧ Reads n p l q m
  | k, p, l, hk => by
    cases hm : more p l with
    | false => exact ⟨0, p, l, by omega, .stop hm⟩
    | true =>
      cases hb : (p4 p).2 with
      | true => exact ⟨1, p4 p, l ++ [raw p], by omega, .step hm (.stop (more_bad _ _ hb))⟩
      | false =>
        obtain ⟨-, -, g3⟩ := field_inv p hb
        have hlen : p.1.length = 26 + (p4 p).1.length := by
          have := congrArg List.length g3
          rw [List.length_append, rowL_len, texts_len, texts_len] at this
          exact this
        obtain ⟨k, rfl⟩ : ∃ j, k = j + 1 := ⟨k - 1, by omega⟩
        obtain ⟨n, q, m, h1, h2⟩ := reads_all k (p4 p) (l ++ [raw p]) (by omega)
        exact ⟨n + 1, q, m, by omega, .step hm h2⟩
/-! ### the reference's reading of a list of words -/
def okW (ws : List ByteArray) (a i : Nat) : Bool := if isB i then isName (wat ws (a + 1 + i)) else (fw i).toList == (wat ws (a + 1 + i)).toList
theorem rinner_eq (ws : List ByteArray) (a : Nat) : ∀ (n j : Nat) (f : List ByteArray), (∀ i, j ≤ i → i < j + n → 0 < (wat ws (a + 1 + i)).size) → rinner ws a n j f = if (List.range' j n).all (okW ws a) then some (f ++ ((List.range' j n).filter isB).map (fun i => wat ws (a + 1 + i))) else none
  | 0, j, f, _ => by simp [rinner]
  | n + 1, j, f, h => by
    have h0 := h j (by omega) (by omega)
    have ih := fun g => rinner_eq ws a n (j + 1) g (fun i h1 h2 => h i (by omega) (by omega))
    unfold rinner
    rw [List.range'_succ, List.all_cons, ih, ih]
    cases hb : isB j with
    | true =>
      have hok : okW ws a j = isName (wat ws (a + 1 + j)) := by unfold okW; rw [if_pos hb]
      rw [List.filter_cons_of_pos hb, hok]
      cases hn : isName (wat ws (a + 1 + j)) with
      | true => rw [Bool.true_and, Bool.true_and]; simp
      | false =>
        have hne : ((fw j).toList == (wat ws (a + 1 + j)).toList) = false := by
          rw [beq_eq_false_iff_ne, toL_eq, toL_eq]
          intro h9
          rw [size_list, ← h9] at h0
          have h7 : (fw j).data.toList = [] := List.isEmpty_iff.mp hb
          rw [h7] at h0
          simp at h0
        rw [hne, Bool.false_and]
        simp
    | false =>
      have hok : okW ws a j = ((fw j).toList == (wat ws (a + 1 + j)).toList) := by unfold okW; rw [if_neg (by rw [hb]; decide)]
      rw [List.filter_cons_of_neg (by rw [hb]; decide), hok]
      cases hq : ((fw j).toList == (wat ws (a + 1 + j)).toList) with
      | true => rw [Bool.true_and]; simp
      | false => rw [Bool.false_and]; simp
theorem picks : (List.range' 0 25).filter isB = [17, 20, 23] := by decide +kernel
def quadAt (ws : List ByteArray) (a : Nat) : S75 := ⟨wat ws a, wat ws (a + 18), wat ws (a + 21), wat ws (a + 24)⟩
def rowOk (ws : List ByteArray) (a : Nat) : Bool := isName (wat ws a) && (List.range' 0 25).all (okW ws a)
theorem rinner_row (ws : List ByteArray) (a : Nat) (h : ∀ i, i < 25 → 0 < (wat ws (a + 1 + i)).size) : rinner ws a 25 0 [wat ws a] = if (List.range' 0 25).all (okW ws a) then some (quad (quadAt ws a)) else none := by
  rw [rinner_eq ws a 25 0 _ (fun i _ h2 => h i (by omega)), picks]
  rfl
theorem router_step (ws : List ByteArray) (n a : Nat) (l : List (List ByteArray)) (h : ∀ i, i < 25 → 0 < (wat ws (a + 1 + i)).size) : router ws (n + 1) a l = if rowOk ws a then router ws n (a + 26) (l ++ [quad (quadAt ws a)]) else none := by
  show (if isName (wat ws a) then match rinner ws a 25 0 [wat ws a] with
    | none => none
    | some f => router ws n (a + 26) (l ++ [f])
    else none) = _
  unfold rowOk
  rw [rinner_row ws a h]
  cases isName (wat ws a) with
  | false => simp
  | true =>
    cases (List.range' 0 25).all (okW ws a) with
    | false => simp
    | true => simp
def fill (x : S75) (j : Nat) : ByteArray := if isB j then [x.f1, x.f2, x.f3].getD (kB j) ⟨#[]⟩ else fw j
theorem rowL_map (x : S75) : rowL x = x.f0 :: (List.range' 0 25).map (fill x) := by rfl
theorem open_at : ∀ j : Nat, j < 25 → isB j = true → j = 17 ∨ j = 20 ∨ j = 23 := by decide +kernel
theorem take_at (ws : List ByteArray) (a n : Nat) (h : a + n ≤ ws.length) : (ws.drop a).take n = (List.range' 0 n).map (fun k => wat ws (a + k)) := by
  apply List.ext_getElem?
  intro k
  by_cases hk : k < n
  · rw [List.getElem?_take_of_lt hk, List.getElem?_drop, List.getElem?_map, List.getElem?_range' hk]
    show ws[a + k]? = some (wat ws (a + (0 + 1 * k)))
    unfold wat
    rw [show 0 + 1 * k = k by omega, List.getD_eq_getElem?_getD, List.getElem?_eq_getElem (show a + k < ws.length by omega)]
    rfl
  · rw [List.getElem?_eq_none (by rw [List.length_take]; omega), List.getElem?_eq_none (by rw [List.length_map, List.length_range']; omega)]
theorem row_sound (ws : List ByteArray) (a : Nat) (h : a + 26 ≤ ws.length) (hr : rowOk ws a = true) : ws.drop a = rowL (quadAt ws a) ++ ws.drop (a + 26) ∧ Named (quadAt ws a) := by
  unfold rowOk at hr
  rw [Bool.and_eq_true, List.all_eq_true] at hr
  obtain ⟨hn, hw⟩ := hr
  have hw' : ∀ j, j < 25 → okW ws a j = true := fun j hj => hw j (by rw [List.mem_range']; exact ⟨j, hj, by omega⟩)
  have nmAt : ∀ j, j < 25 → isB j = true → isName (wat ws (a + 1 + j)) = true := fun j hj hb => by
    have := hw' j hj
    unfold okW at this
    rw [if_pos hb] at this
    exact this
  constructor
  · have e : ws.drop a = (ws.drop a).take 26 ++ ws.drop (a + 26) := by
      rw [← List.drop_drop, List.take_append_drop]
    rw [e, take_at ws a 26 h, rowL_map, show List.range' 0 26 = 0 :: (List.range' 0 25).map (· + 1) by rfl, List.map_cons, List.map_map]
    have e2 : (List.range' 0 25).map ((fun k => wat ws (a + k)) ∘ (· + 1)) = (List.range' 0 25).map (fill (quadAt ws a)) := by
      apply List.map_congr_left
      intro j hj
      obtain ⟨i, hi, rfl⟩ := List.mem_range'.mp hj
      have hj' : 0 + 1 * i < 25 := by omega
      generalize 0 + 1 * i = j at hj'
      show wat ws (a + (j + 1)) = fill (quadAt ws a) j
      rw [show a + (j + 1) = a + 1 + j by omega]
      cases hb : isB j with
      | true =>
        have hf : fill (quadAt ws a) j = [wat ws (a + 18), wat ws (a + 21), wat ws (a + 24)].getD (kB j) ⟨#[]⟩ := by unfold fill; rw [if_pos hb]; rfl
        rw [hf]
        rcases open_at j hj' hb with rfl | rfl | rfl <;> rfl
      | false =>
        have h1 := hw' j hj'
        unfold okW at h1
        rw [if_neg (by rw [hb]; decide)] at h1
        unfold fill
        rw [if_neg (by rw [hb]; decide)]
        exact ((ba_iff _ _).mp (eq_of_beq h1)).symm
    rw [e2]
    rfl
  · exact ⟨hn, nmAt 17 (by decide) (by decide +kernel), nmAt 20 (by decide) (by decide +kernel), nmAt 23 (by decide) (by decide +kernel)⟩
theorem row_complete (ws : List ByteArray) (a : Nat) (x : S75) (r : List ByteArray) (hx : Named x) (h : ws.drop a = rowL x ++ r) : rowOk ws a = true ∧ quadAt ws a = x := by
  have hat : ∀ k, k < 26 → wat ws (a + k) = (rowL x).getD k ⟨#[]⟩ := fun k hk => by
    unfold wat
    rw [List.getD_eq_getElem?_getD, List.getD_eq_getElem?_getD, ← List.getElem?_drop, h, List.getElem?_append_left (by rw [rowL_len]; exact hk)]
  have hj : ∀ j, j < 25 → wat ws (a + 1 + j) = fill x j := fun j hj => by
    rw [show a + 1 + j = a + (j + 1) by omega, hat (j + 1) (by omega), rowL_map, List.getD_cons_succ, List.getD_eq_getElem?_getD, List.getElem?_map, List.getElem?_range' hj]
    show (some (fill x (0 + 1 * j))).getD _ = _
    rw [show 0 + 1 * j = j by omega]
    rfl
  have h0 : wat ws a = x.f0 := hat 0 (by decide)
  have h1 : wat ws (a + 18) = x.f1 := hat 18 (by decide)
  have h2 : wat ws (a + 21) = x.f2 := hat 21 (by decide)
  have h3 : wat ws (a + 24) = x.f3 := hat 24 (by decide)
  constructor
  · unfold rowOk
    rw [Bool.and_eq_true, List.all_eq_true]
    refine ⟨by rw [h0]; exact hx.h0, fun j hj' => ?_⟩
    obtain ⟨i, hi, rfl⟩ := List.mem_range'.mp hj'
    have hj2 : 0 + 1 * i < 25 := by omega
    generalize 0 + 1 * i = j at hj2
    unfold okW
    rw [hj j hj2]
    cases hb : isB j with
    | true =>
      rw [if_pos rfl]
      unfold fill
      rw [if_pos hb]
      rcases open_at j hj2 hb with rfl | rfl | rfl
      · exact hx.h1
      · exact hx.h2
      · exact hx.h3
    | false =>
      rw [if_neg (by decide)]
      unfold fill
      rw [if_neg (by rw [hb]; decide)]
      simp
  · unfold quadAt
    rw [h0, h1, h2, h3]
theorem router_sound (ws : List ByteArray) (hne : ∀ i, i < ws.length → 0 < (wat ws i).size) : ∀ (n a : Nat) (l rows : List (List ByteArray)), a + 26 * n ≤ ws.length → router ws n a l = some rows → ∃ xs : List S75, xs.length = n ∧ rows = l ++ xs.map quad ∧ ws.drop a = wordsR xs (ws.drop (a + 26 * n)) ∧ ∀ x ∈ xs, Named x
  | 0, a, l, rows, _, h => ⟨[], rfl, by cases h; simp, by simp [wordsR], by simp⟩
  | n + 1, a, l, rows, hl, h => by
    rw [router_step ws n a l (fun i hi => hne _ (by omega))] at h
    cases hr : rowOk ws a with
    | false => rw [hr] at h; cases h
    | true =>
      rw [hr, if_pos rfl] at h
      obtain ⟨g1, g2⟩ := row_sound ws a (by omega) hr
      obtain ⟨xs, e1, e2, e3, e4⟩ := router_sound ws hne n (a + 26) _ rows (by omega) h
      refine ⟨quadAt ws a :: xs, by rw [List.length_cons, e1], by rw [e2]; simp, ?_, ?_⟩
      · rw [g1, e3, show a + 26 * (n + 1) = a + 26 + 26 * n by omega]
        rfl
      · intro x hx
        rcases List.mem_cons.mp hx with rfl | hx
        · exact g2
        · exact e4 x hx
theorem router_complete (ws : List ByteArray) (hne : ∀ i, i < ws.length → 0 < (wat ws i).size) : ∀ (xs : List S75) (a : Nat) (l : List (List ByteArray)) (r : List ByteArray), ws.drop a = wordsR xs r → (∀ x ∈ xs, Named x) → router ws xs.length a l = some (l ++ xs.map quad)
  | [], a, l, r, _, _ => by simp [router]
  | x :: xs, a, l, r, h, hx => by
    have hlen : (ws.drop a).length = 26 + (wordsR xs r).length := by
      rw [h]
      show (rowL x ++ wordsR xs r).length = _
      rw [List.length_append, rowL_len]
    rw [List.length_drop] at hlen
    obtain ⟨g1, g2⟩ := row_complete ws a x (wordsR xs r) (hx x (by simp)) h
    rw [List.length_cons, router_step ws xs.length a l (fun i hi => hne _ (by omega)), if_pos g1, g2]
    have h2 : ws.drop (a + 26) = wordsR xs r := by
      rw [← List.drop_drop, h]
      show (rowL x ++ wordsR xs r).drop 26 = _
      rw [List.drop_append_of_le_length (by rw [rowL_len]; exact Nat.le_refl _), List.drop_eq_nil_of_le (by rw [rowL_len]; exact Nat.le_refl _)]
      rfl
    rw [router_complete ws hne xs (a + 26) _ r h2 (fun y hy => hx y (by simp [hy]))]
    simp
/-! ### the fields -/
theorem serv_same (a : ByteArray) : ∃ n e : Int, sdl_Service.f 10 a = some (n, e) ∧ rs a = n ∧ ((0 < n ∧ e = 0) ∨ (n = 0 ∧ e = 3)) := by
  obtain ⟨n, e, h1, h2, h3⟩ := serv_spec a
  exact ⟨n, e, h1, by unfold rs; rw [h2]; rfl, h3⟩
theorem build_same : ∀ (xs : List S75) (acc : List S54), readR svR evR pbR xs acc = rbuild (xs.map quad) acc
  | [], acc => rfl
  | x :: xs, acc => by
    obtain ⟨n, e, h1, h2, h3⟩ := serv_same x.f1
    have hs : svR x = n := by unfold svR; rw [h1]; rfl
    have he : evR x = e := by unfold evR; rw [h1]; rfl
    have hp : pbR x = pbX ⟨x.f0, n, x.f2, x.f3⟩ := by unfold pbR pbX; rw [hs]
    rw [List.map_cons]
    unfold readR rbuild
    show _ = if decide (0 ≤ idx x.f0 acc) || rs x.f1 == 0 then (([] : List S54), (5 : Int)) else if isServ (rs x.f1) && pbX ⟨x.f0, rs x.f1, x.f2, x.f3⟩ then rbuild (xs.map quad) (acc ++ [⟨x.f0, rs x.f1, x.f2, x.f3⟩]) else ([], 6)
    rw [h2, hs, he, hp]
    unfold fieldV
    by_cases hi : 0 ≤ idx x.f0 acc
    · rw [if_pos hi, decide_eq_true hi]
      simp
    · rw [if_neg hi, decide_eq_false hi]
      rcases h3 with ⟨hn, rfl⟩ | ⟨rfl, rfl⟩
      · have hsv : isServ n = true := by
          obtain ⟨n2, e2, g1, g2⟩ := service_some x.f1
          rw [h1] at g1
          cases g1
          exact g2 rfl
        have hn0 : (n == 0) = false := by rw [beq_eq_false_iff_ne]; omega
        rw [hn0, hsv]
        cases hq : pbX ⟨x.f0, n, x.f2, x.f3⟩ with
        | false => simp
        | true =>
          have ih := build_same xs (acc ++ [⟨x.f0, n, x.f2, x.f3⟩])
          simpa using ih
      · simp
/-! ### both are one -/
theorem w5_one : W5 = [(⟨#[125]⟩ : ByteArray)] := rfl
theorem read_good (toks : List S39) (xs : List S75) (hne : ∀ i, i < toks.length → 0 < (wat (texts toks) i).size) (h : texts toks = W0 ++ wordsR xs W5) (hx : xs ≠ []) (hn : ∀ x ∈ xs, Named x) : ∃ n q m, n ≤ toks.length ∧ Reads n (sg W0 (toks, false)) [] q m ∧ readM svR evR pbR q m = rread (texts toks) := by
  obtain ⟨l1, e1, t1⟩ := sg_ok W0 toks _ h (by decide)
  obtain ⟨l2, hr, t2⟩ := reads_okR xs l1 [] t1 hn (fun e => absurd e hx)
  have hlen : (texts toks).length = 4 + 26 * xs.length := by
    rw [h, List.length_append, wordsR_len]
    show 3 + (26 * xs.length + 1) = _
    omega
  have hpos : 0 < xs.length := List.length_pos_iff.mpr hx
  have hne' : ∀ i, i < (texts toks).length → 0 < (wat (texts toks) i).size := fun i hi => hne i (by rw [texts_len] at hi; exact hi)
  refine ⟨xs.length, (l2, false), [] ++ xs, ?_, by rw [e1]; exact hr, ?_⟩
  · rw [texts_len] at hlen; omega
  · have hw0 : ∀ i, i < 3 → wat (texts toks) i = wat W0 i := fun i hi => by
      unfold wat
      rw [List.getD_eq_getElem?_getD, List.getD_eq_getElem?_getD, h, List.getElem?_append_left (by show i < 3; exact hi)]
    have hlast : wat (texts toks) ((texts toks).length - 1) = ⟨#[125]⟩ := by
      unfold wat
      rw [List.getD_eq_getElem?_getD, hlen, h, wordsR_app, ← List.append_assoc, List.getElem?_append_right (by rw [List.length_append, wordsR_len]; show 3 + (26 * xs.length + 0) ≤ _; omega), List.length_append, wordsR_len]
      rw [show 4 + 26 * xs.length - 1 - (W0.length + (26 * xs.length + ([] : List ByteArray).length)) = 0 by show 4 + 26 * xs.length - 1 - (3 + (26 * xs.length + 0)) = 0; omega]
      rfl
    have hwell : rwell (texts toks) = true := by
      unfold rwell
      rw [hlast, hw0 0 (by decide), hw0 1 (by decide), hw0 2 (by decide), hlen, decide_eq_true (show 30 ≤ 4 + 26 * xs.length by omega), decide_eq_true (show (4 + 26 * xs.length - 4) % 26 = 0 by omega), toL_eq]
      simp
    have hdrop : (texts toks).drop 3 = wordsR xs W5 := by rw [h]; rfl
    have hrt := router_complete (texts toks) hne' xs 3 [] W5 hdrop hn
    have hM : ((texts toks).length - 4) / 26 = xs.length := by rw [hlen]; omega
    unfold rread
    rw [hwell, if_pos rfl, hM, hrt]
    show _ = rfields ([] ++ xs.map quad)
    unfold readM rfields
    rw [ends_ok l2 t2, if_neg (by decide), List.nil_append, List.nil_append, List.length_map, build_same]
theorem rread_bad (ws : List ByteArray) (hne : ∀ i, i < ws.length → 0 < (wat ws i).size) (h : ¬ ∃ xs, ws = W0 ++ wordsR xs W5 ∧ xs ≠ [] ∧ ∀ x ∈ xs, Named x) : rread ws = ([], 4) := by
  unfold rread
  cases hw : rwell ws with
  | false => rfl
  | true =>
    rw [if_pos rfl]
    cases hr : router ws ((ws.length - 4) / 26) 3 [] with
    | none => rfl
    | some rows =>
      exfalso
      unfold rwell at hw
      simp only [Bool.and_eq_true, decide_eq_true_eq] at hw
      obtain ⟨h30, hmod, hlast, h0, h1, h2⟩ := hw
      have hM : 4 + 26 * ((ws.length - 4) / 26) = ws.length := by omega
      obtain ⟨xs, e1, -, e3, e4⟩ := router_sound ws hne _ 3 [] rows (by omega) hr
      refine h ⟨xs, ?_, ?_, e4⟩
      · have hl : ws.drop (3 + 26 * ((ws.length - 4) / 26)) = W5 := by
          rw [show 3 + 26 * ((ws.length - 4) / 26) = ws.length - 1 by omega]
          have hd : ws.drop (ws.length - 1) = [wat ws (ws.length - 1)] := by
            rw [List.drop_eq_getElem_cons (by omega), show ws.length - 1 + 1 = ws.length by omega, List.drop_eq_nil_of_le (Nat.le_refl _)]
            unfold wat
            rw [List.getD_eq_getElem?_getD, List.getElem?_eq_getElem (by omega)]
            rfl
          rw [hd, w5_one]
          congr 1
          apply (ba_iff _ _).mp
          rw [eq_of_beq hlast, toL_eq]
        rw [hl] at e3
        rw [← e3]
        have ht : ws.take 3 = W0 := by
          have := take_at ws 0 3 (by omega)
          rw [List.drop_zero] at this
          rw [this]
          have g0 := (ba_iff _ _).mp (eq_of_beq h0)
          have g1 := (ba_iff _ _).mp (eq_of_beq h1)
          have g2 := (ba_iff _ _).mp (eq_of_beq h2)
          show [wat ws (0 + 0), wat ws (0 + 1), wat ws (0 + 2)] = W0
          rw [show 0 + 0 = 0 from rfl, show 0 + 1 = 1 from rfl, show 0 + 2 = 2 from rfl, g0, g1, g2]
          rfl
        rw [← ht, List.take_append_drop]
      · intro e
        rw [e] at e1
        have : (ws.length - 4) / 26 = 0 := e1.symm
        omega
theorem reads_agree (toks : List S39) (hne : ∀ i, i < toks.length → 0 < (wat (texts toks) i).size) : ∃ n q m, n ≤ toks.length + 1 ∧ Reads n (sg W0 (toks, false)) [] q m ∧ readM svR evR pbR q m = rread (texts toks) := by
  by_cases h : ∃ xs, texts toks = W0 ++ wordsR xs W5 ∧ xs ≠ [] ∧ ∀ x ∈ xs, Named x
  · obtain ⟨xs, h1, h2, h3⟩ := h
    obtain ⟨n, q, m, g1, g2, g3⟩ := read_good toks xs hne h1 h2 h3
    exact ⟨n, q, m, by omega, g2, g3⟩
  · have hlen : (sg W0 (toks, false)).1.length ≤ toks.length := sg_le W0 toks false
    obtain ⟨n, q, m, g1, g2⟩ := reads_all toks.length (sg W0 (toks, false)) [] hlen
    refine ⟨n, q, m, g1, g2, ?_⟩
    rw [rread_bad (texts toks) (fun i hi => hne i (by rw [texts_len] at hi; exact hi)) h]
    unfold readM
    rw [if_pos ?_]
    cases he : ends q with
    | true => rfl
    | false =>
      exfalso
      obtain ⟨xs, -, e2, e3, e4⟩ := reads_inv g2 he
      have hb : (sg W0 (toks, false)).2 = false := by
        cases hq : (sg W0 (toks, false)).2 with
        | false => rfl
        | true => rw [ends_bad q (reads_bad g2 hq)] at he; cases he
      have ht := (sg_inv W0 (toks, false) hb).2
      exact h ⟨xs, by rw [← e2]; exact ht, e4 rfl, e3⟩
end Go.Proofs.YtgobpenmemlieaaDoor.Lex
