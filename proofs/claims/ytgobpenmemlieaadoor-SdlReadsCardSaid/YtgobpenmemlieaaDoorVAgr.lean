/- Packed by our own shrink.py: theorems that the claim does not use are left out. -/
import Derived.Test.YtgobpenmemlieaaDoorVRrd
import Derived.Test.YtgobpenmemlieaaDoorVPua
import Derived.Test.YtgobpenmemlieaaDoorVAgs
/-
  Both readers tell one answer of any text; SdlErrors holds.
-/
namespace Go.Proofs.YtgobpenmemlieaaDoor.Lex
open Go.RowKit Go.Proofs.YtgobpenmemlieaaDoorW.PrintWords Go.Proofs.YtgobpenmemlieaaDoorW.PrintLast Go.Proofs.YtgobpenmemlieaaDoorW.PrintMore PSdlBack
set_option linter.unusedVariables false
set_option linter.unusedSimpArgs false
/-- What a lexed word is: a part of the text. -/
def Part (s : ByteArray) (t : S39) : Prop := 0 < t.f0.size ∧ 0 ≤ t.f1 ∧ t.f1 + (t.f0.size : Int) ≤ (s.size : Int)
theorem lexes_parts (s : ByteArray) {i : Nat} {d : List S39} {r : List S39 × Int × Int} (H : Lexes s i d r) : (∀ t ∈ d, Part s t) → d.length ≤ i → i ≤ s.size → (∀ t ∈ r.1, Part s t) ∧ r.1.length ≤ s.size ∧ (r.2.2 ≠ 0 → r.1 = [] ∧ r.2.2 = 4) := by
  induction H with
  | fin h =>
    rename_i i d
    exact fun hd hl hi => ⟨hd, (by show d.length ≤ s.size; omega), fun h => absurd rfl h⟩
  | skip n h1 h2 h3 h4 _ ih => exact fun hd hl hi => ih hd (by omega) h4
  | bad h1 _ _ => exact fun hd hl hi => ⟨fun t ht => (by cases ht), Nat.zero_le _, fun _ => ⟨rfl, rfl⟩⟩
  | word n h1 h2 h3 h4 h5 _ ih =>
    rename_i i d r _
    intro hd hl hi
    refine ih (fun t ht => ?_) (by rw [List.length_append, List.length_singleton]; omega) h5
    rcases List.mem_append.mp ht with ht | ht
    · exact hd t ht
    · rw [List.mem_singleton.mp ht]
      have hsz : (s.extract i (i + n)).size = n := by rw [ByteArray.size_extract]; omega
      refine ⟨?_, ?_, ?_⟩
      · show 0 < (s.extract i (i + n)).size
        omega
      · show (0 : Int) ≤ (i : Int)
        omega
      · show (i : Int) + ((s.extract i (i + n)).size : Int) ≤ _
        rw [hsz]
        omega
theorem words_agree (s : ByteArray) (hs : s.size ≤ 3000) : ∃ (toks : List S39) (at_ ec : Int), Lexes s 0 [] (toks, at_, ec) ∧ (∀ w, Calls Tryd.prog 11 #[.string s] w fun e w' => ∃ v0_ : Value, e = .returned (.tuple #[v0_, .int .i64 at_, .int .i64 ec]) ∧ Kd.R k39 39 w' w.heap.size (fun _ => True) v0_ toks ∧ Below w.heap.size w w') ∧ (∀ t ∈ toks, Part s t) ∧ toks.length ≤ 3000 ∧ (ec ≠ 0 → toks = [] ∧ ec = 4) := by
  obtain ⟨⟨toks, at_, ec⟩, h1, K, hK⟩ := words_from s hs s.size 0 [] (by omega) (by omega) (by simp)
  obtain ⟨p1, p2, p3⟩ := lexes_parts s h1 (fun t ht => by cases ht) (by simp) (by omega)
  refine ⟨toks, at_, ec, h1, fun w => amanuensisref2_Words.calls K s toks at_ ec w ?_, p1, Nat.le_trans p2 hs, p3⟩
  unfold amanuensisref2_Words.f
  rw [if_neg (by omega)]
  exact hK K (Nat.le_refl _)
theorem words_long (s : ByteArray) (hs : 3000 < s.size) (w : World) : Calls Tryd.prog 11 #[.string s] w fun e w' => ∃ v0_ : Value, e = .returned (.tuple #[v0_, .int .i64 0, .int .i64 2]) ∧ Kd.R k39 39 w' w.heap.size (fun _ => True) v0_ [] ∧ Below w.heap.size w w' := by
  refine amanuensisref2_Words.calls 0 s [] 0 2 w ?_
  unfold amanuensisref2_Words.f
  rw [if_pos (by omega)]
theorem words_ok (s : ByteArray) : WordsOk s := by
  by_cases hs : s.size ≤ 3000
  · obtain ⟨toks, at_, ec, -, h2, h3, h4, -⟩ := words_agree s hs
    exact ⟨toks, ⟨at_, ec, h2⟩, h4, fun _ => hs, fun t ht => ⟨(h3 t ht).2.1, (h3 t ht).2.2⟩⟩
  · exact ⟨[], ⟨0, 2, fun w => words_long s (by omega) w⟩, by simp, fun h => absurd rfl h, fun t ht => by cases ht⟩
theorem rbuild_len : ∀ (rows : List (List ByteArray)) (acc : List S54), (rbuild rows acc).1.length ≤ rows.length + acc.length
  | [], acc => by simp [rbuild]
  | f :: r, acc => by
    have ih := rbuild_len r (acc ++ [⟨wat f 0, rs (wat f 1), wat f 2, wat f 3⟩])
    rw [List.length_append, List.length_singleton] at ih
    unfold rbuild
    rw [List.length_cons]
    split
    · exact Nat.zero_le _
    · split
      · omega
      · exact Nat.zero_le _
theorem rread_len (ws : List ByteArray) : (rread ws).1.length ≤ 8 := by
  unfold rread
  split
  · split
    · exact Nat.zero_le _
    · rename_i l _
      unfold rfields
      split
      · exact Nat.zero_le _
      · have := rbuild_len l []
        simp at this
        omega
  · exact Nat.zero_le _
theorem rread_off (ws : List ByteArray) (h : rwell ws = false) : rread ws = ([], 4) := by
  unfold rread
  rw [h]
  rfl
theorem pieces_of (s : ByteArray) (toks : List S39) (h : ∀ t ∈ toks, Part s t) (i : Nat) (hi : i < toks.length) : 0 < (wat (texts toks) i).size ∧ (wat (texts toks) i).size ≤ s.size := by
  have e : wat (texts toks) i = toks[i].f0 := by
    unfold wat texts
    rw [List.getD_eq_getElem?_getD, List.getElem?_map, List.getElem?_eq_getElem hi]
    rfl
  rw [e]
  obtain ⟨h1, h2, h3⟩ := h toks[i] (List.getElem_mem hi)
  exact ⟨h1, by omega⟩
theorem nil_reads {k : Nat} {args : Array Value} {w : World} {ec : Int} (h : Calls Tryd.prog k args w fun e w' => e = .returned (.tuple #[.slice none 0 0, .int .i64 ec]) ∧ Below w.heap.size w w') : Calls Tryd.prog k args w fun e w' => ∃ v, e = .returned (.tuple #[v, .int .i64 ec]) ∧ Kd.R k54 54 w' w.heap.size (fun _ => True) v ([] : List S54) ∧ Below w.heap.size w w' := by
  refine h.mono ?_
  rintro e w' ⟨rfl, hb⟩
  exact ⟨_, rfl, Kd.R_nil _ _ _ _ _, hb⟩
theorem rread_calls (s : ByteArray) (hs : s.size ≤ 3000) (toks : List S39) (at_ : Int) (hp : ∀ t ∈ toks, Part s t) (hl : toks.length ≤ 3000) (hW : ∀ w, Calls Tryd.prog 11 #[.string s] w fun e w' => ∃ v0_ : Value, e = .returned (.tuple #[v0_, .int .i64 at_, .int .i64 0]) ∧ Kd.R k39 39 w' w.heap.size (fun _ => True) v0_ toks ∧ Below w.heap.size w w') : RReadsTo s (rread (texts toks)).1 (rread (texts toks)).2 := by
  intro w
  have hlen : (texts toks).length = toks.length := texts_len toks
  by_cases h30 : toks.length < 30
  · rw [rread_off _ (by unfold rwell; rw [hlen, decide_eq_false (by omega)]; rfl)]
    exact nil_reads (RRead_short s toks at_ w h30 hW)
  · by_cases hr : (toks.length - 4) % 26 = 0
    · cases hx : ((wat (texts toks) (toks.length - 1)).toList == [125]) with
      | false =>
        rw [rread_off _ (by unfold rwell; rw [hlen, hx, decide_eq_true hr, decide_eq_true (by omega)]; rfl)]
        exact nil_reads (RRead_last s toks at_ w (by omega) (by omega) hr _ rfl hx hW)
      | true =>
        refine RRead_main s toks at_ w (by omega) (by omega) hr hx _ _ rfl (fun i hi => (pieces_of s toks hp i hi).1) (fun i hi w2 => ?_) finds_as (fun x w2 => ?_) (fun a w2 => ?_) hW
        · obtain ⟨k, hk⟩ := name_ref (wat (texts toks) i) (by have := (pieces_of s toks hp i hi).2; omega)
          exact amanuensisref2_Name.calls k _ _ w2 hk
        · exact amanuensisref4_Pair.calls x.f1 x.f2 x.f3 _ w2 (pair_ref x.f1 x.f2 x.f3)
        · obtain ⟨n, e, -, h2, -⟩ := serv_spec a
          refine amanuensisref4_Service.calls 10 a (rs a) w2 ?_
          unfold rs
          rw [h2]
          rfl
    · rw [rread_off _ (by unfold rwell; rw [hlen, decide_eq_false hr, decide_eq_true (by omega)]; rfl)]
      exact nil_reads (RRead_rem s toks at_ w (by omega) (by omega) hr hW)
theorem agree_all (s : ByteArray) : AgreeS s := by
  by_cases hs : s.size ≤ 3000
  · obtain ⟨toks, at_, ec, h1, h2, h3, h4, h5⟩ := words_agree s hs
    by_cases he : ec = 0
    · subst he
      obtain ⟨n, q, m, g1, g2, g3⟩ := reads_agree toks (fun i hi => (pieces_of s toks h3 i hi).1)
      have hsm : Small toks := by
        intro i
        by_cases hi : i < toks.length
        · have e : rd_T39 toks i = toks[i] := by
            unfold rd_T39
            rw [Int.toNat_natCast, List.getD_eq_getElem?_getD, List.getElem?_eq_getElem hi]
            rfl
          rw [e]
          have := (h3 toks[i] (List.getElem_mem hi)).2
          omega
        · have e : rd_T39 toks i = z39 := by
            unfold rd_T39
            rw [Int.toNat_natCast, List.getD_eq_getElem?_getD, List.getElem?_eq_none (by omega)]
            rfl
          rw [e]
          decide
      refine ⟨_, _, rread_len (texts toks), fun w hT => ?_, rread_calls s hs toks at_ h3 h4 h2⟩
      exact Read_calls s toks at_ n q m w (by omega) (fun w2 => Words_calls s toks at_ 0 w2 hs h1) g2 hsm hT svR evR pbR serv_calls pbR_calls _ _ g3
    · obtain ⟨e1, e2⟩ := h5 he
      subst e1
      exact ⟨[], ec, by simp, fun w _ => nil_reads (Read_bad s at_ ec he w (fun w2 => Words_calls s [] at_ ec w2 hs h1)), fun w => nil_reads (RRead_bad s [] at_ ec he w h2)⟩
  · exact ⟨[], 2, by simp, fun w _ => nil_reads (Read_long s w (by omega)), fun w => nil_reads (RRead_bad s [] 0 2 (by decide) w (fun w2 => words_long s (by omega) w2))⟩
end Go.Proofs.YtgobpenmemlieaaDoor.Lex
