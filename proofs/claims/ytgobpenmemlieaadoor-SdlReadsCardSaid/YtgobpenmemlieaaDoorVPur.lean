/- Packed by our own shrink.py: theorems that the claim does not use are left out. -/
import Derived.Test.YtgobpenmemlieaaDoorVPri
/-
  Plain: what is printed is cut into its words: the text of a list of words (names and signs, one blank between) is lexed to them.
  Plain: the words of a printed list of fields are read as these fields.
-/
namespace Go.Proofs.YtgobpenmemlieaaDoor.Lex
open Go.RowKit Go.Proofs.YtgobpenmemlieaaDoorW.PrintWords Go.Proofs.YtgobpenmemlieaaDoorW.PrintLast Go.Proofs.YtgobpenmemlieaaDoorW.PrintMore PSdlBack
set_option linter.unusedVariables false
set_option linter.unusedSimpArgs false
/-- What stands behind the first word. -/
def tl (ws : List ByteArray) : List UInt8 := (ws.map fun w => (32 : UInt8) :: w.data.toList).flatten
theorem tl_append (a b : List ByteArray) : tl (a ++ b) = tl a ++ tl b := by simp [tl]
theorem tl_cons (w : ByteArray) (r : List ByteArray) : tl (w :: r) = 32 :: (w.data.toList ++ tl r) := by simp [tl]
theorem join_tl (x : ByteArray) (r : List ByteArray) : Lib.join ((x :: r).map (fun x => x.data.toList)) (⟨#[32]⟩ : ByteArray).data.toList = x.data.toList ++ tl r := by
  rw [List.map_cons, Lib.join_cons]
  unfold Lib.joinTail tl
  rw [List.map_map]
  rfl
def isWd (w : ByteArray) : Prop := isName w = true ∨ ∃ c : UInt8, w.data.toList = [c] ∧ isSign (c.toNat : Int) = true
theorem ba_ext {a b : ByteArray} (h : a.data.toList = b.data.toList) : a = b := by
  cases a with
  | mk x => cases b with
    | mk y => exact congrArg ByteArray.mk (Array.toList_inj.mp h)
theorem ext_list (s : ByteArray) (i j : Nat) : (s.extract i j).data.toList = (s.data.toList.drop i).take (j - i) := by
  rw [ByteArray.data_extract]
  simp [List.take_drop]
theorem size_list (s : ByteArray) : s.size = s.data.toList.length := rfl
theorem takeWhile_app (f : Int → Bool) : ∀ (a b : List Int), (∀ x ∈ a, f x = true) → (b = [] ∨ ∃ y r, b = y :: r ∧ f y = false) → (a ++ b).takeWhile f = a
  | [], b, _, hb => by
    rcases hb with rfl | ⟨y, r, rfl, hy⟩
    · rfl
    · exact List.takeWhile_cons_of_neg (by rw [hy]; decide)
  | x :: a, b, ha, hb => by
    rw [List.cons_append, List.takeWhile_cons_of_pos (ha x (by simp)), takeWhile_app f a b (fun z hz => ha z (by simp [hz])) hb]
theorem takeWhile_all (f : Int → Bool) : ∀ (a : List Int), (a.takeWhile f).length = a.length → ∀ x ∈ a, f x = true
  | [], _, x, hx => by simp at hx
  | y :: a, h, x, hx => by
    cases hy : f y with
    | false => rw [List.takeWhile_cons_of_neg (by rw [hy]; decide)] at h; simp at h
    | true =>
      rw [List.takeWhile_cons_of_pos hy] at h
      rcases List.mem_cons.mp hx with rfl | hx
      · exact hy
      · exact takeWhile_all f a (by simpa using h) x hx
theorem letter_plain (c : Int) (h : isLetter c = true) : c ≠ 35 ∧ isBlank c = false := by
  unfold isLetter at h
  unfold isBlank
  simp at h ⊢
  omega
theorem sign_plain2 (c : Int) (h : isSign c = true) : c ≠ 35 ∧ isBlank c = false := by
  have h1 : c ∈ signs := by unfold isSign at h; simpa using h
  unfold signs at h1
  simp at h1
  unfold isBlank
  rcases h1 with h1 | h1 | h1 | h1 | h1 | h1 | h1 | h1 | h1 | h1 | h1 <;> subst h1 <;> decide
theorem bt_zero (s : ByteArray) (c : UInt8) (r : List UInt8) (h : s.data.toList = c :: r) : bt s 0 = (c.toNat : Int) := by
  rw [bt_bytes]
  unfold bytesOf
  rw [h]
  rfl
/-- A word's first byte. -/
theorem wd_first {w : ByteArray} (h : isWd w) : ∃ c r, w.data.toList = c :: r ∧ (c.toNat : Int) ≠ 35 ∧ isBlank (c.toNat : Int) = false := by
  rcases h with h | ⟨c, hc, hs⟩
  · unfold isName at h
    simp only [Bool.and_eq_true, decide_eq_true_eq, beq_iff_eq] at h
    obtain ⟨h1, h2, -⟩ := h
    rw [size_list] at h1
    cases hq : w.data.toList with
    | nil => rw [hq] at h1; simp at h1
    | cons c r =>
      rw [bt_zero w c r hq] at h2
      exact ⟨c, r, rfl, letter_plain _ h2⟩
  · exact ⟨c, [], hc, sign_plain2 _ hs⟩
def stops (t : List UInt8) : Prop := t = [] ∨ ∃ r, t = 32 :: r
theorem tl_stops (r : List ByteArray) : stops (tl r) := by
  cases r with
  | nil => exact .inl rfl
  | cons a r => exact .inr ⟨_, tl_cons a r⟩
/-- A word in front: its size is told. -/
theorem size_word (e w : ByteArray) (t : List UInt8) (hw : isWd w) (ht : stops t) (he : e.data.toList = w.data.toList ++ t) (hs : e.size ≤ 9223372036854775806) : SizeIs e w.size := by
  intro W
  obtain ⟨c, r, hc, -, -⟩ := wd_first hw
  have h0 : bt e 0 = (c.toNat : Int) := bt_zero e c (r ++ t) (by rw [he, hc]; rfl)
  have h1 : 0 < e.size := by rw [size_list, he, hc]; simp
  rcases hw with h | ⟨c', hc', hg⟩
  · unfold isName at h
    simp only [Bool.and_eq_true, decide_eq_true_eq, beq_iff_eq] at h
    obtain ⟨-, h2, h3⟩ := h
    rw [bt_zero w c r hc, ← h0] at h2
    have hn : named (bytesOf e) = w.size := by
      have h4 : (bytesOf w).length = w.size := by unfold bytesOf; rw [List.length_map]; rfl
      have h5 : 0 < w.size := by rw [size_list, hc]; simp
      have h6 : cnt isWordy (bytesOf w) = w.size := by
        unfold named at h3
        split at h3
        · omega
        · exact h3
      have h7 : bytesOf e = bytesOf w ++ t.map (fun b => (b.toNat : Int)) := by unfold bytesOf; rw [he, List.map_append]
      have h8 : cnt isWordy (bytesOf e) = w.size := by
        unfold cnt at h6 ⊢
        rw [h7, takeWhile_app isWordy _ _ (takeWhile_all isWordy _ (by rw [h6, h4])) (by
          rcases ht with rfl | ⟨r2, rfl⟩
          · exact .inl rfl
          · exact .inr ⟨_, _, rfl, by decide⟩), h4]
      unfold named at h3 ⊢
      rw [h6] at h3
      rw [h8]
      exact h3
    refine (size_letter e W hs h1 h2).mono ?_
    rintro e' w' ⟨rfl, hd⟩
    exact ⟨by rw [hn], below_drawn hd⟩
  · have e1 : c = c' := by rw [hc] at hc'; injection hc'
    subst e1
    have h5 : w.size = 1 := by rw [size_list, hc']; rfl
    refine (size_sign e W hs h1 (by rw [h0]; exact hg)).mono ?_
    rintro e' w' ⟨rfl, hd⟩
    exact ⟨by rw [h5]; rfl, below_drawn hd⟩
theorem passed_word (e w : ByteArray) (t : List UInt8) (hw : isWd w) (he : e.data.toList = w.data.toList ++ t) : passed (bytesOf e) = 0 := by
  obtain ⟨c, r, hc, h1, h2⟩ := wd_first hw
  have h3 : bytesOf e = (c.toNat : Int) :: (r ++ t).map (fun b => (b.toNat : Int)) := by unfold bytesOf; rw [he, hc]; rfl
  rw [h3]
  unfold passed
  rw [if_neg (by simpa using h1)]
  unfold cnt
  rw [List.takeWhile_cons_of_neg (by rw [h2]; decide)]
  rfl
theorem passed_blank (e w : ByteArray) (t : List UInt8) (hw : isWd w) (he : e.data.toList = 32 :: (w.data.toList ++ t)) : passed (bytesOf e) = 1 := by
  obtain ⟨c, r, hc, h1, h2⟩ := wd_first hw
  have h3 : bytesOf e = (32 : Int) :: (c.toNat : Int) :: (r ++ t).map (fun b => (b.toNat : Int)) := by unfold bytesOf; rw [he, hc]; rfl
  rw [h3]
  unfold passed
  rw [if_neg (by show ¬ (32 : Int) = 35; decide)]
  unfold cnt
  rw [List.takeWhile_cons_of_pos (by decide), List.takeWhile_cons_of_neg (by rw [h2]; decide)]
  rfl
theorem lex_at (s : ByteArray) (hs : s.size ≤ 1000000) : ∀ (ws : List ByteArray) (w : ByteArray) (i : Nat) (d : List S39), s.data.toList.drop i = w.data.toList ++ tl ws → i ≤ s.size → isWd w → (∀ x ∈ ws, isWd x) →
    ∃ toks, toks.map (·.f0) = w :: ws ∧ Lexes s i d (d ++ toks, 0, 0)
  | ws, w, i, d, hd, hi, hw, hall => by
    obtain ⟨c, r, hc, -, -⟩ := wd_first hw
    have hw0 : 0 < w.size := by rw [size_list, hc]; simp
    have he : (s.extract i s.size).data.toList = w.data.toList ++ tl ws := by
      rw [ext_list, hd, List.take_of_length_le]
      rw [← hd, List.length_drop]
      exact Nat.le_refl _
    have hlen : s.size - i = w.size + (tl ws).length := by
      have := congrArg List.length hd
      rw [List.length_drop, List.length_append] at this
      exact this
    have hw1 : s.extract i (i + w.size) = w := ba_ext (by
      rw [ext_list, hd, show i + w.size - i = w.size by omega]
      exact List.take_left)
    have hdn : s.data.toList.drop (i + w.size) = tl ws := by
      rw [← List.drop_drop, hd]
      exact List.drop_left
    have hfin : ∀ r2, Lexes s (i + w.size) (d ++ [⟨s.extract i (i + w.size), i⟩]) r2 → Lexes s i d r2 := fun r2 h =>
      .word w.size (by omega) (passed_word _ w _ hw he) (size_word _ w _ hw (tl_stops ws) he (by rw [extract_size]; omega)) hw0 (by omega) h
    match ws, hall with
    | [], _ =>
      refine ⟨[⟨w, i⟩], rfl, hfin _ ?_⟩
      rw [hw1]
      refine .fin ?_
      simp [tl] at hlen
      omega
    | v :: ws, hall =>
      have hv := hall v (by simp)
      rw [tl_cons] at hdn
      have hl2 : s.size - (i + w.size) = 1 + (v.size + (tl ws).length) := by
        have := congrArg List.length hdn
        rw [List.length_drop, List.length_cons, List.length_append] at this
        simp only [size_list] at this ⊢
        omega
      have hdn2 : s.data.toList.drop (i + w.size + 1) = v.data.toList ++ tl ws := by
        rw [← List.drop_drop, hdn]
        rfl
      obtain ⟨toks, h1, h2⟩ := lex_at s hs ws v (i + w.size + 1) (d ++ [⟨w, i⟩]) hdn2 (by omega) hv (fun x hx => hall x (by simp [hx]))
      refine ⟨⟨w, i⟩ :: toks, by rw [List.map_cons, h1], hfin _ ?_⟩
      rw [hw1]
      refine .skip 1 (by omega) (passed_blank _ v (tl ws) hv ?_) (by omega) (by omega) ?_
      · rw [ext_list, hdn, List.take_of_length_le]
        rw [← hdn, List.length_drop]
        exact Nat.le_refl _
      · have e1 : d ++ (⟨w, i⟩ : S39) :: toks = (d ++ [⟨w, i⟩]) ++ toks := by simp
        rw [e1]
        exact h2
  termination_by ws => ws.length
end Go.Proofs.YtgobpenmemlieaaDoor.Lex

namespace Go.Proofs.YtgobpenmemlieaaDoor.Lex
open Go.RowKit Go.Proofs.YtgobpenmemlieaaDoorW.PrintWords Go.Proofs.YtgobpenmemlieaaDoorW.PrintLast Go.Proofs.YtgobpenmemlieaaDoorW.PrintMore PSdlBack
set_option linter.unusedVariables false
set_option linter.unusedSimpArgs false
def wF (x : S54) (r : List ByteArray) : List ByteArray := x.f0 :: (W1 ++ (svcName x.f1 :: (W2 ++ (x.f2 :: (W3 ++ (x.f3 :: (W4 ++ r)))))))
def wordsL : List S54 → List ByteArray → List ByteArray
  | [], r => r
  | x :: l, r => wF x (wordsL l r)
def texts (l : List S39) : List ByteArray := l.map (·.f0)
theorem seen_cons (t : S39) (l : List S39) : seen (t :: l) = t.f0 := by
  unfold seen
  rw [if_neg (by simp)]
  rfl
theorem take_ok {l : List S39} {w : ByteArray} {r : List ByteArray} (h : texts l = w :: r) (hw : 0 < w.size) : seen l = w ∧ fits l false true = true ∧ takeR l false true = w ∧ takeB l false true = false ∧ texts (takeL l false true) = r := by
  cases l with
  | nil => simp [texts] at h
  | cons t l =>
    have h1 : t.f0 = w := by simpa [texts] using congrArg List.head? h
    have h2 : texts l = r := by simpa [texts] using congrArg List.tail h
    have h3 : seen (t :: l) = w := by rw [seen_cons, h1]
    have h4 : fits (t :: l) false true = true := by unfold fits; rw [h3, some_empty w hw]; rfl
    refine ⟨h3, h4, ?_, ?_, ?_⟩
    · unfold takeR; rw [if_pos h4, h3]
    · unfold takeB; rw [h4]; rfl
    · unfold takeL; rw [if_pos h4]; exact h2
theorem sgn : ∀ (ws : List ByteArray) (l : List S39) (r : List ByteArray), texts l = ws ++ r → (∀ w ∈ ws, 0 < w.size) → ∃ l', signsS ws l false = (l', false) ∧ texts l' = r
  | [], l, r, h, _ => ⟨l, rfl, h⟩
  | w :: ws, l, r, h, hw => by
    obtain ⟨h1, h2, h3, h4, h5⟩ := take_ok h (hw w (by simp))
    have hs : same l w = true := by unfold same; rw [h1]; simp
    unfold signsS
    rw [hs, h4]
    exact sgn ws _ r h5 (fun v hv => hw v (by simp [hv]))
theorem sg_ok (ws : List ByteArray) (l : List S39) (r : List ByteArray) (h : texts l = ws ++ r) (hw : ∀ w ∈ ws, 0 < w.size) : ∃ l', sg ws (l, false) = (l', false) ∧ texts l' = r := sgn ws l r h hw
theorem name_size {w : ByteArray} (h : isName w = true) : 0 < w.size := by
  unfold isName at h
  simp only [Bool.and_eq_true, decide_eq_true_eq] at h
  exact h.1
theorem nm_ok {l : List S39} {w : ByteArray} {r : List ByteArray} (h : texts l = w :: r) (hw : isName w = true) : nm (l, false) = w ∧ ∃ l', nx (l, false) = (l', false) ∧ texts l' = r := by
  obtain ⟨h1, h2, h3, h4, h5⟩ := take_ok h (name_size hw)
  have hn : isName (seen l) = true := by rw [h1]; exact hw
  refine ⟨?_, takeL l false true, ?_, h5⟩
  · unfold nm
    show takeR l false (isName (seen l)) = w
    rw [hn, h3]
  · unfold nx
    show (takeL l false (isName (seen l)), takeB l false (isName (seen l))) = _
    rw [hn, h4]
def rawOf (x : S54) : S75 := ⟨x.f0, svcName x.f1, x.f2, x.f3⟩
structure Fine (x : S54) : Prop where
  h0 : isName x.f0 = true
  h1 : isName (svcName x.f1) = true
  h2 : isName x.f2 = true
  h3 : isName x.f3 = true
theorem field_ok (x : S54) (hx : Fine x) (l : List S39) (r : List ByteArray) (h : texts l = wF x r) : raw (l, false) = rawOf x ∧ ∃ l', p4 (l, false) = (l', false) ∧ texts l' = r := by
  obtain ⟨a0, l1, e1, t1⟩ := nm_ok h hx.h0
  obtain ⟨l2, e2, t2⟩ := sg_ok W1 l1 _ t1 (by decide)
  obtain ⟨a1, l3, e3, t3⟩ := nm_ok t2 hx.h1
  obtain ⟨l4, e4, t4⟩ := sg_ok W2 l3 _ t3 (by decide)
  obtain ⟨a2, l5, e5, t5⟩ := nm_ok t4 hx.h2
  obtain ⟨l6, e6, t6⟩ := sg_ok W3 l5 _ t5 (by decide)
  obtain ⟨a3, l7, e7, t7⟩ := nm_ok t6 hx.h3
  obtain ⟨l8, e8, t8⟩ := sg_ok W4 l7 _ t7 (by decide)
  have q1 : p1 (l, false) = (l2, false) := by unfold p1; rw [e1, e2]
  have q2 : p2 (l, false) = (l4, false) := by unfold p2; rw [q1, e3, e4]
  have q3 : p3 (l, false) = (l6, false) := by unfold p3; rw [q2, e5, e6]
  have q4 : p4 (l, false) = (l8, false) := by unfold p4; rw [q3, e7, e8]
  refine ⟨?_, l8, q4, t8⟩
  unfold raw rawOf
  rw [q1, q2, q3, a0, a1, a2, a3]
theorem name_open {w : ByteArray} (h : isName w = true) : (w.toList == [125]) = false := by
  rw [beq_eq_false_iff_ne]
  intro e
  unfold isName at h
  simp only [Bool.and_eq_true, decide_eq_true_eq] at h
  rw [toL_eq] at e
  have h1 := bt_zero w 125 [] e
  rw [h1] at h
  exact absurd h.2.1 (by decide)
theorem reads_ok : ∀ (xs : List S54) (l : List S39) (m0 : List S75), texts l = wordsL xs W5 → (∀ x ∈ xs, Fine x) → (xs = [] → m0 ≠ []) → ∃ l', Reads xs.length (l, false) m0 (l', false) (m0 ++ xs.map rawOf) ∧ texts l' = W5
  | [], l, m0, h, _, hm => by
    refine ⟨l, ?_, h⟩
    rw [List.map_nil, List.append_nil]
    refine .stop ?_
    have hc : closes l = true := by
      obtain ⟨h1, -⟩ := take_ok (w := ⟨#[125]⟩) (r := []) h (by decide)
      unfold closes
      rw [h1, toL_eq]
      rfl
    have hl : (m0.length == 0) = false := by
      rw [beq_eq_false_iff_ne]
      intro h0
      exact hm rfl (List.length_eq_zero_iff.mp h0)
    unfold more
    show (!false && (m0.length == 0 || !closes l)) = false
    rw [hc, hl]
    rfl
  | x :: xs, l, m0, h, hx, _ => by
    have hx0 := hx x (by simp)
    obtain ⟨e1, l1, e2, t1⟩ := field_ok x hx0 l _ h
    obtain ⟨l', h1, h2⟩ := reads_ok xs l1 (m0 ++ [rawOf x]) t1 (fun y hy => hx y (by simp [hy])) (by simp)
    refine ⟨l', ?_, h2⟩
    have hs : seen l = x.f0 := (take_ok (w := x.f0) h (name_size hx0.h0)).1
    have hm : more (l, false) m0 = true := by
      unfold more closes
      show (!false && (m0.length == 0 || !((seen l).toList == [125]))) = true
      rw [hs, name_open hx0.h0]
      simp
    have e3 : m0 ++ (x :: xs).map rawOf = (m0 ++ [rawOf x]) ++ xs.map rawOf := by simp
    rw [e3]
    refine .step hm ?_
    rw [e2, e1]
    exact h1
theorem ends_ok (l : List S39) (h : texts l = W5) : ends (l, false) = false := by
  obtain ⟨l', e, t⟩ := sg_ok W5 l [] (by rw [h]; simp) (by decide)
  unfold ends
  rw [e]
  have : l' = [] := by simpa [texts] using t
  rw [this]
  rfl
theorem readR_ok (sv ev : S75 → Int) (pb : S75 → Bool) : ∀ (xs acc : List S54), (∀ x ∈ xs, sv (rawOf x) = x.f1 ∧ ev (rawOf x) = 0 ∧ pb (rawOf x) = true) → (∀ j (h : j < xs.length), ¬ 0 ≤ idx xs[j].f0 (acc ++ xs.take j)) → readR sv ev pb (xs.map rawOf) acc = (acc ++ xs, 0)
  | [], acc, _, _ => by rw [List.append_nil]; rfl
  | x :: xs, acc, h, hi => by
    obtain ⟨h1, h2, h3⟩ := h x (by simp)
    have h0 := hi 0 (by simp)
    have hf : fieldV acc (rawOf x) (sv (rawOf x)) (ev (rawOf x)) (pb (rawOf x)) = (x, 0) := by
      unfold fieldV
      rw [if_neg (by simpa [rawOf] using h0), if_neg (by rw [h2]; simp), if_neg (by rw [h3]; simp), h1]
      rfl
    rw [List.map_cons]
    unfold readR
    rw [hf, if_neg (by simp)]
    have e : acc ++ x :: xs = (acc ++ [x]) ++ xs := by simp
    rw [e]
    refine readR_ok sv ev pb xs (acc ++ [x]) (fun y hy => h y (by simp [hy])) (fun j hj => ?_)
    have h4 := hi (j + 1) (by simpa using hj)
    simpa using h4
end Go.Proofs.YtgobpenmemlieaaDoor.Lex
