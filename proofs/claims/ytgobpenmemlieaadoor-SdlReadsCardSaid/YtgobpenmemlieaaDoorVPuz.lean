/- Packed by our own shrink.py: theorems that the claim does not use are left out. -/
import Derived.Test.YtgobpenmemlieaaDoorVPur
import Derived.Test.YtgobpenmemlieaaDoorVBak
import Derived.Test.YtgobpenmemlieaaDoorVBal
/-
  Plain: services and their ops; what may be; what is printed is read back ('Good').
  Plain: what Heavy tells: it always answers, and where it says no, the lists and their names are short.
  The law SdlBack, over all its argument's readings.
-/
namespace Go.Proofs.YtgobpenmemlieaaDoor.Lex
open Go.RowKit Go.Proofs.YtgobpenmemlieaaDoorW.PrintWords Go.Proofs.YtgobpenmemlieaaDoorW.PrintLast Go.Proofs.YtgobpenmemlieaaDoorW.PrintMore PSdlBack
set_option linter.unusedVariables false
set_option linter.unusedSimpArgs false
theorem index_some (xs : List ByteArray) (a : ByteArray) (hl : xs.length ≤ 1000) : ∀ (n : Nat) (i : Int), 0 ≤ i → i ≤ xs.length → (xs.length : Int) - i ≤ n →
    ∃ r, slices_Index_string_string.l0 (n + 1) xs a xs.length i = some r ∧ r < xs.length ∧ (0 ≤ r → a ∈ xs) ∧ (r < 0 → ∀ j : Nat, i ≤ j → j < xs.length → xs.getD j ⟨#[]⟩ ≠ a)
  | 0, i, h0, h1, h2 => by
    refine ⟨-1, ?_, by omega, by omega, fun _ j hj hj2 => by omega⟩
    unfold slices_Index_string_string.l0
    rw [if_neg (by omega)]
  | n + 1, i, h0, h1, h2 => by
    unfold slices_Index_string_string.l0
    by_cases h : i < xs.length
    · rw [if_pos h, if_pos h0, if_pos h]
      by_cases he : a.toList = (rdOf ByteArray.empty xs i).toList
      · rw [if_pos he]
        refine ⟨i, rfl, h, fun _ => ?_, fun h_ => by omega⟩
        have e1 : a = rdOf ByteArray.empty xs i := ba_ext (by rw [← toL_eq, ← toL_eq]; exact he)
        rw [e1]
        unfold rdOf
        have h3 : i.toNat < xs.length := by omega
        rw [List.getD_eq_getElem?_getD, List.getElem?_eq_getElem h3]
        exact List.getElem_mem h3
      · rw [if_neg he, wrap64_id (by omega) (by omega)]
        obtain ⟨r, h3, h4, h5, h6⟩ := index_some xs a hl n (i + 1) (by omega) (by omega) (by omega)
        refine ⟨r, h3, h4, h5, fun hr j hj hj2 => ?_⟩
        by_cases hji : (j : Int) = i
        · intro e
          apply he
          unfold rdOf
          rw [show i.toNat = j by omega]
          have e2 : xs.getD j ByteArray.empty = xs.getD j ⟨#[]⟩ := rfl
          rw [e2, e]
        · exact h6 hr j (by omega) hj2
    · rw [if_neg h]
      exact ⟨-1, rfl, by omega, by omega, fun _ j hj hj2 => by omega⟩
theorem index_more (k : Nat) (xs : List ByteArray) (a : ByteArray) (hl : xs.length ≤ 1000) (hk : xs.length < k) : ∃ r, slices_Index_string_string.f k xs a = some r ∧ r < xs.length ∧ (0 ≤ r → a ∈ xs) ∧ (r < 0 → a ∉ xs) := by
  obtain ⟨n, rfl⟩ : ∃ n, k = n + 1 := ⟨k - 1, by omega⟩
  obtain ⟨r, h1, h2, h3, h4⟩ := index_some xs a hl n 0 (by omega) (by omega) (by omega)
  refine ⟨r, h1, h2, h3, fun hr hm => ?_⟩
  obtain ⟨j, hj, e⟩ := List.getElem_of_mem hm
  exact h4 hr j (by omega) hj (by rw [List.getD_eq_getElem?_getD, List.getElem?_eq_getElem hj]; exact e)
def opsOf (n : Int) : List ByteArray := if n = 1 then [⟨#[99, 114, 101, 100, 105, 116]⟩, ⟨#[100, 101, 98, 105, 116]⟩] else if n = 2 then [⟨#[112, 117, 116]⟩, ⟨#[116, 97, 107, 101]⟩] else if n = 3 then [⟨#[98, 111, 111, 107]⟩, ⟨#[99, 97, 110, 99, 101, 108]⟩] else [⟨#[115, 101, 110, 100]⟩, ⟨#[114, 101, 99, 97, 108, 108]⟩]
theorem ops_some (n : Int) (h : isServ n = true) : sdl_Ops.f n = some (opsOf n) := by
  unfold isServ at h
  simp only [Bool.and_eq_true, decide_eq_true_eq] at h
  have h1 : n = 1 ∨ n = 2 ∨ n = 3 ∨ n = 4 := by omega
  rcases h1 with rfl | rfl | rfl | rfl <;> rfl
theorem ops_len (n : Int) : (opsOf n).length = 2 := by unfold opsOf; split; rfl; split; rfl; split <;> rfl
theorem ops_names (n : Int) : ∀ a ∈ opsOf n, isName a = true := by
  unfold opsOf
  split
  · decide
  · split
    · decide
    · split <;> decide
theorem pair_some (n : Int) (a b : ByteArray) (h : isServ n = true) : ∃ r, sdl_Pair.f 10 n a b = some r ∧ (r = true → a ∈ opsOf n ∧ b ∈ opsOf n) := by
  have hl := ops_len n
  obtain ⟨r1, h1, -, h2, h3⟩ := index_more 10 (opsOf n) a (by omega) (by omega)
  obtain ⟨r2, h4, -, h5, h6⟩ := index_more 10 (opsOf n) b (by omega) (by omega)
  unfold sdl_Pair.f slices_Contains_string_string.f
  rw [ops_some n h]
  simp only [Option.bind_some, h1, h4]
  by_cases c1 : r1 ≥ 0
  · rw [if_pos (decide_eq_true c1)]
    by_cases c2 : r2 ≥ 0
    · rw [if_pos (decide_eq_true c2)]
      exact ⟨_, rfl, fun _ => ⟨h2 c1, h5 c2⟩⟩
    · rw [if_neg (by rw [decide_eq_false c2]; decide)]
      exact ⟨_, rfl, fun h_ => absurd h_ (by decide)⟩
  · rw [if_neg (by rw [decide_eq_false c1]; decide)]
    exact ⟨_, rfl, fun h_ => absurd h_ (by decide)⟩
theorem services : sdl_Services.f = some svcs := rfl
theorem service_some (a : ByteArray) : ∃ n e, sdl_Service.f 10 a = some (n, e) ∧ (e = 0 → isServ n = true) := by
  obtain ⟨r, h1, h2, -, -⟩ := index_more 10 svcs a (by decide) (by decide)
  have h2' : r < 5 := h2
  unfold sdl_Service.f
  rw [services]
  simp only [Option.bind_some, h1]
  by_cases c : r > 0
  · rw [if_pos c]
    exact ⟨r, 0, rfl, fun _ => by unfold isServ; simp; omega⟩
  · rw [if_neg c]
    exact ⟨0, 3, rfl, by decide⟩
def pbX (x : S54) : Bool := (sdl_Pair.f 10 x.f1 x.f2 x.f3).getD false
def svR (r : S75) : Int := ((sdl_Service.f 10 r.f1).getD (0, 3)).1
def evR (r : S75) : Int := ((sdl_Service.f 10 r.f1).getD (0, 3)).2
def pbR (r : S75) : Bool := (sdl_Pair.f 10 (svR r) r.f2 r.f3).getD false
theorem pair_at (n : Int) (a b : ByteArray) (h : isServ n = true) (w : World) : Calls Tryd.prog 56 #[.int .i64 n, .string a, .string b] w fun e w' => e = .returned (.bool ((sdl_Pair.f 10 n a b).getD false)) ∧ Below w.heap.size w w' := by
  obtain ⟨r, h1, -⟩ := pair_some n a b h
  rw [h1]
  exact sdl_Pair.calls 10 n a b r w h1
theorem serv_calls (r : S75) (w : World) : Calls Tryd.prog 26 #[.string r.f1] w fun e w' => e = .returned (.tuple #[.int .i64 (svR r), .int .i64 (evR r)]) ∧ Below w.heap.size w w' := by
  obtain ⟨n, e, h1, -⟩ := service_some r.f1
  unfold svR evR
  rw [h1]
  exact sdl_Service.calls 10 r.f1 n e w h1
theorem pbR_calls (r : S75) (h : evR r = 0) (w : World) : Calls Tryd.prog 56 #[.int .i64 (svR r), .string r.f2, .string r.f3] w fun e w' => e = .returned (.bool (pbR r)) ∧ Below w.heap.size w w' := by
  have hs : isServ (svR r) = true := by
    obtain ⟨n, e, h1, h2⟩ := service_some r.f1
    unfold evR at h
    unfold svR
    rw [h1] at h ⊢
    exact h2 h
  exact pair_at (svR r) r.f2 r.f3 hs w
theorem svc_name (n : Int) (h : isServ n = true) : isName (svcName n) = true ∧ sdl_Service.f 10 (svcName n) = some (n, 0) := by
  unfold isServ at h
  simp only [Bool.and_eq_true, decide_eq_true_eq] at h
  have h1 : n = 1 ∨ n = 2 ∨ n = 3 ∨ n = 4 := by omega
  rcases h1 with rfl | rfl | rfl | rfl
  all_goals
    refine ⟨by decide, ?_⟩
    simp only [sdl_Service.f, services, Option.bind_some, slices_Index_string_string.f, slices_Index_string_string.l0, toL_eq]
    decide +kernel
theorem ok_all (pb : S54 → Bool) (l : List S54) : ∀ (k j : Nat), okFrom pb l k j = true → ∀ i, j ≤ i → i < j + k → okAt pb l i = true
  | 0, j, _, i, h1, h2 => by omega
  | k + 1, j, h, i, h1, h2 => by
    unfold okFrom at h
    rw [Bool.and_eq_true] at h
    by_cases e : i = j
    · rw [e]; exact h.1
    · exact ok_all pb l k (j + 1) h.2 i (by omega) (by omega)
theorem rd_at (l : List S54) (j : Nat) (h : j < l.length) : rd_T54 l j = l[j] := by
  unfold rd_T54
  rw [Int.toNat_natCast, List.getD_eq_getElem?_getD, List.getElem?_eq_getElem h]
  rfl
structure Okay (l : List S54) : Prop where
  n1 : 1 ≤ l.length
  n8 : l.length ≤ 8
  at_ : ∀ j (h : j < l.length), isName l[j].f0 = true ∧ ¬ 0 ≤ idx l[j].f0 (l.take j) ∧ isServ l[j].f1 = true ∧ pbX l[j] = true
theorem may_okay (l : List S54) (h : may pbX l = true) : Okay l := by
  unfold may at h
  simp only [Bool.and_eq_true, decide_eq_true_eq] at h
  obtain ⟨h1, h2, h3⟩ := h
  refine ⟨h2, h3, fun j hj => ?_⟩
  have h4 := ok_all pbX l l.length 0 h1 j (by omega) (by omega)
  unfold okAt at h4
  rw [rd_at l j hj] at h4
  simp only [Bool.and_eq_true, Bool.not_eq_true', decide_eq_false_iff_not] at h4
  exact ⟨h4.1, h4.2.1, h4.2.2.1, h4.2.2.2⟩
theorem okay_fine {l : List S54} (h : Okay l) : ∀ x ∈ l, Fine x := by
  intro x hx
  obtain ⟨j, hj, rfl⟩ := List.getElem_of_mem hx
  obtain ⟨h1, -, h3, h4⟩ := h.at_ j hj
  obtain ⟨r, h5, h6⟩ := pair_some l[j].f1 l[j].f2 l[j].f3 h3
  unfold pbX at h4
  rw [h5] at h4
  obtain ⟨h7, h8⟩ := h6 h4
  exact ⟨h1, (svc_name _ h3).1, ops_names _ _ h7, ops_names _ _ h8⟩
/-! ### the text and its words -/
theorem pieces_words (x : S54) (r : List ByteArray) : tl (pieces x) ++ tl r = tl (wF x r) := by
  unfold pieces wF
  have e1 : tl [T1] = tl W1 := by decide +kernel
  have e2 : tl [T2] = tl W2 := by decide +kernel
  have e3 : tl [T3] = tl W3 := by decide +kernel
  have e4 : tl [T4] = tl W4 := by decide +kernel
  have c : ∀ (a : ByteArray) (b : List ByteArray), tl (a :: b) = tl [a] ++ tl b := fun a b => tl_append [a] b
  rw [c x.f0 [T1, _, _, _, _, _, _], c T1, c (svcName x.f1), c T2, c x.f2, c T3, c x.f3, e1, e2, e3, e4]
  rw [c x.f0 (W1 ++ _), tl_append W1, c (svcName x.f1) (W2 ++ _), tl_append W2, c x.f2 (W3 ++ _), tl_append W3, c x.f3 (W4 ++ _), tl_append W4]
  simp only [List.append_assoc]
theorem all_words : ∀ (l : List S54) (r : List ByteArray), tl (piecesAll l) ++ tl r = tl (wordsL l r)
  | [], r => rfl
  | x :: l, r => by
    have h := all_words l r
    unfold piecesAll wordsL
    rw [tl_append, List.append_assoc, h, pieces_words]
def w01 : List ByteArray := [(⟨#[77, 117, 116, 97, 116, 105, 111, 110]⟩ : ByteArray), (⟨#[123]⟩ : ByteArray)]
def w00 : ByteArray := ⟨#[116, 121, 112, 101]⟩
theorem printed_list (l : List S54) : (printed l).data.toList = w00.data.toList ++ tl (w01 ++ wordsL l W5) := by
  unfold printed
  have h1 := join_tl T0 (piecesAll l ++ [T5])
  rw [List.cons_append, h1, tl_append, tl_append w01, ← all_words]
  have e0 : T0.data.toList = w00.data.toList ++ tl w01 := by decide +kernel
  have e5 : tl [T5] = tl W5 := by decide +kernel
  rw [e0, e5]
  simp only [List.append_assoc]
theorem wd_of {w : ByteArray} (h : isName w = true) : isWd w := .inl h
theorem name12 {w : ByteArray} (h : isName w = true) : w.size ≤ 12 := by
  unfold isName at h
  simp only [Bool.and_eq_true, decide_eq_true_eq, beq_iff_eq] at h
  obtain ⟨h1, -, h3⟩ := h
  unfold named at h3
  split at h3 <;> omega
def wdB (w : ByteArray) : Bool := isName w || (w.size == 1 && isSign (bt w 0))
theorem wd_b {w : ByteArray} (h : wdB w = true) : isWd w := by
  unfold wdB at h
  rw [Bool.or_eq_true, Bool.and_eq_true] at h
  rcases h with h | ⟨h1, h2⟩
  · exact .inl h
  · right
    have h1' : w.data.toList.length = 1 := by simpa using h1
    match hq : w.data.toList, h1' with
    | [c], _ => exact ⟨c, rfl, by rw [← bt_zero w c [] hq]; exact h2⟩
theorem closed_wd : (∀ w ∈ W1, isWd w) ∧ (∀ w ∈ W2, isWd w) ∧ (∀ w ∈ W3, isWd w) ∧ (∀ w ∈ W4, isWd w) ∧ (∀ w ∈ W5, isWd w) ∧ (∀ w ∈ w01, isWd w) := by
  refine ⟨fun w hw => wd_b ?_, fun w hw => wd_b ?_, fun w hw => wd_b ?_, fun w hw => wd_b ?_, fun w hw => wd_b ?_, fun w hw => wd_b ?_⟩
  · exact (by decide +kernel : ∀ w ∈ W1, wdB w = true) w hw
  · exact (by decide +kernel : ∀ w ∈ W2, wdB w = true) w hw
  · exact (by decide +kernel : ∀ w ∈ W3, wdB w = true) w hw
  · exact (by decide +kernel : ∀ w ∈ W4, wdB w = true) w hw
  · exact (by decide +kernel : ∀ w ∈ W5, wdB w = true) w hw
  · exact (by decide +kernel : ∀ w ∈ w01, wdB w = true) w hw
theorem words_wd : ∀ (l : List S54), (∀ x ∈ l, Fine x) → ∀ w ∈ wordsL l W5, isWd w
  | [], _, w, hw => closed_wd.2.2.2.2.1 w hw
  | x :: l, hx, w, hw => by
    have hf := hx x (by simp)
    have ih := words_wd l (fun y hy => hx y (by simp [hy]))
    obtain ⟨c1, c2, c3, c4, -, -⟩ := closed_wd
    unfold wordsL wF at hw
    simp only [List.mem_cons, List.mem_append] at hw
    rcases hw with rfl | hw | rfl | hw | rfl | hw | rfl | hw | hw
    · exact wd_of hf.h0
    · exact c1 w hw
    · exact wd_of hf.h1
    · exact c2 w hw
    · exact wd_of hf.h2
    · exact c3 w hw
    · exact wd_of hf.h3
    · exact c4 w hw
    · exact ih w hw
theorem words_len : ∀ (l : List S54), (∀ x ∈ l, Fine x) → (tl (wordsL l W5)).length ≤ 200 * l.length + 2
  | [], _ => by decide +kernel
  | x :: l, hx => by
    have hf := hx x (by simp)
    have ih := words_len l (fun y hy => hx y (by simp [hy]))
    have e1 : (tl W1).length ≤ 70 := by decide +kernel
    have e2 : (tl W2).length ≤ 10 := by decide +kernel
    have e3 : (tl W3).length ≤ 10 := by decide +kernel
    have e4 : (tl W4).length ≤ 2 := by decide +kernel
    have n0 := name12 hf.h0
    have n1 := name12 hf.h1
    have n2 := name12 hf.h2
    have n3 := name12 hf.h3
    rw [size_list] at n0 n1 n2 n3
    unfold wordsL wF
    simp only [tl_cons, tl_append, List.length_cons, List.length_append]
    omega
theorem wd_size {w : ByteArray} (h : isWd w) : w.size ≤ 12 := by
  rcases h with h | ⟨c, hc, -⟩
  · exact name12 h
  · rw [size_list, hc]; exact (by omega : 1 ≤ 12)
theorem printed_size {l : List S54} (h : Okay l) : (printed l).size ≤ 2000 := by
  have h1 := words_len l (okay_fine h)
  have h8 := h.n8
  rw [size_list, printed_list, tl_append, List.length_append, List.length_append]
  have e0 : w00.data.toList.length = 4 := rfl
  have e1 : (tl w01).length ≤ 20 := by decide +kernel
  omega
theorem reads_back (l : List S54) (h : Okay l) : ReadsAs (printed l) l := by
  intro w hT
  have hf := okay_fine h
  have hsz := printed_size h
  obtain ⟨toks, ht, hlex⟩ := lex_at (printed l) (by omega) (w01 ++ wordsL l W5) w00 0 [] (printed_list l) (by omega) (wd_b (by decide +kernel)) (by
    intro x hx
    rcases List.mem_append.mp hx with hx | hx
    · exact closed_wd.2.2.2.2.2 x hx
    · exact words_wd l hf x hx)
  rw [List.nil_append] at hlex
  have ht0 : texts toks = W0 ++ wordsL l W5 := ht
  obtain ⟨l1, e1, t1⟩ := sg_ok W0 toks _ ht0 (by decide)
  obtain ⟨l2, hr, t2⟩ := reads_ok l l1 [] t1 hf (fun e => absurd h.n1 (by rw [e]; decide))
  have hsm : Small toks := by
    intro i
    have h12 : ∀ t ∈ toks, t.f0.size ≤ 2000 := by
      intro t htk
      have h13 : t.f0 ∈ w00 :: (w01 ++ wordsL l W5) := by rw [← ht]; exact List.mem_map_of_mem htk
      rcases List.mem_cons.mp h13 with h13 | h13
      · rw [h13]; decide
      · rcases List.mem_append.mp h13 with h13 | h13
        · exact Nat.le_trans (wd_size (closed_wd.2.2.2.2.2 _ h13)) (by decide)
        · exact Nat.le_trans (wd_size (words_wd l hf _ h13)) (by decide)
    by_cases hi : i < toks.length
    · have : rd_T39 toks i = toks[i] := by
        unfold rd_T39
        rw [Int.toNat_natCast, List.getD_eq_getElem?_getD, List.getElem?_eq_getElem hi]
        rfl
      rw [this]
      exact Nat.le_trans (h12 _ (List.getElem_mem hi)) (by omega)
    · have : rd_T39 toks i = z39 := by
        unfold rd_T39
        rw [Int.toNat_natCast, List.getD_eq_getElem?_getD, List.getElem?_eq_none (by omega)]
        rfl
      rw [this]
      decide
  have hm : readM svR evR pbR (l2, false) (l.map rawOf) = (l, 0) := by
    have h8 := h.n8
    unfold readM
    rw [ends_ok l2 t2, if_neg (by decide), if_neg (by rw [List.length_map]; omega)]
    refine readR_ok svR evR pbR l [] (fun x hx => ?_) (fun j hj => ?_)
    · obtain ⟨j, hj, rfl⟩ := List.getElem_of_mem hx
      obtain ⟨-, -, h3, h4⟩ := h.at_ j hj
      have h5 := (svc_name _ h3).2
      have s1 : svR (rawOf l[j]) = l[j].f1 := by unfold svR rawOf; rw [h5]; rfl
      refine ⟨s1, by unfold evR rawOf; rw [h5]; rfl, ?_⟩
      unfold pbR
      rw [s1]
      exact h4
    · rw [List.nil_append]
      exact (h.at_ j hj).2.1
  exact Read_calls (printed l) toks 0 l.length (l2, false) (l.map rawOf) w (by have := h.n8; omega) (fun w2 => Words_calls (printed l) toks 0 0 w2 (by omega) hlex) (by rw [e1]; exact hr) hsm hT svR evR pbR serv_calls pbR_calls l 0 hm
theorem may_at (l : List S54) (hl : l.length ≤ 1000000000) (hsm : ∀ j, (rd_T54 l j).f0.size ≤ 1000000000000) (A : Option Addr) (c : Nat) (w : World) (hc : l.length ≤ c) (hC : Kd.C k54 w A l.length l) (w1 : World) (hb : Below w.heap.size w w1) :
    Calls Tryd.prog 36 #[.slice A l.length c] w1 fun e w' => e = .returned (.bool (may pbX l)) ∧ Below w1.heap.size w1 w' :=
  May_calls pbX A c l w1 hl hc (Kd.C_below hC hb) hsm (fun x hx w2 => pair_at x.f1 x.f2 x.f3 hx w2)
theorem wk_pair : pbX wk0 = true := by
  unfold pbX
  simp only [sdl_Pair.f, ops_some 1 (by decide), wk0, Option.bind_some, slices_Contains_string_string.f, slices_Index_string_string.f, slices_Index_string_string.l0, toL_eq]
  decide +kernel
theorem wk_okay : Okay [wk0] := ⟨by decide, by decide, fun j hj => by
  have : j = 0 := by simpa using hj
  subst this
  exact ⟨(by decide : isName wk0.f0 = true), (by decide : ¬ 0 ≤ idx wk0.f0 []), (by decide : isServ wk0.f1 = true), wk_pair⟩⟩
theorem wk_good : ∃ s, PrintsAs [wk0] s 0 ∧ ReadsAs s [wk0] := by
  refine ⟨printed [wk0], fun A c w hc hC => ?_, reads_back _ wk_okay⟩
  have hm : may pbX [wk0] = true := by
    have h1 : okAt pbX [wk0] 0 = true := by
      unfold okAt
      rw [rd_at [wk0] 0 (by decide)]
      show (isName wk0.f0 && (!decide (0 ≤ idx wk0.f0 []) && (isServ wk0.f1 && pbX wk0))) = true
      rw [wk_pair]
      decide
    unfold may
    show (okAt pbX [wk0] 0 && okFrom pbX [wk0] 0 1 && (decide (1 ≤ 1) && decide (1 ≤ 8))) = true
    rw [h1]
    rfl
  refine Print_calls A c [wk0] w (by decide) hC (fun j hj => ?_) (fun w1 hb => ?_) (by have := printed_size wk_okay; omega)
  · rw [rd_at [wk0] j hj]
    exact (wk_okay.at_ j hj).2.2.1
  · have h1 := may_at [wk0] (by decide) (fun j => by
      unfold rd_T54
      rw [List.getD_eq_getElem?_getD]
      cases j.toNat with
      | zero => exact (by decide : wk0.f0.size ≤ 1000000000000)
      | succ k => exact (by decide : z54.f0.size ≤ 1000000000000)) A c w hc hC w1 hb
    rw [hm] at h1
    exact h1
end Go.Proofs.YtgobpenmemlieaaDoor.Lex

namespace Go.Proofs.YtgobpenmemlieaaDoor.Lex
open Go.RowKit Go.Proofs.YtgobpenmemlieaaDoorW.PrintWords Go.Proofs.YtgobpenmemlieaaDoorW.PrintLast Go.Proofs.YtgobpenmemlieaaDoorW.PrintMore PSdlBack
set_option linter.unusedVariables false
set_option linter.unusedSimpArgs false
theorem texts_tot (l : List ByteArray) (hl : l.length ≤ 1000000000000000) : ∀ (n : Nat) (x3 i : Int), 0 ≤ i → i ≤ l.length → (l.length : Int) - i ≤ n → ∃ r, ∀ k, n + 1 ≤ k → amanuensislaw0_Texts.l0 k l x3 i = some r
  | 0, x3, i, h0, h1, h2 => by
    refine ⟨x3, fun k hk => ?_⟩
    obtain ⟨k, rfl⟩ : ∃ m, k = m + 1 := ⟨k - 1, by omega⟩
    unfold amanuensislaw0_Texts.l0
    rw [if_neg (by omega)]
  | n + 1, x3, i, h0, h1, h2 => by
    by_cases h : i < l.length
    · by_cases h3 : x3 < 1048576
      · obtain ⟨r, hr⟩ := texts_tot l hl n (wrap64 (x3 + ((rdOf ByteArray.empty l i).size : Int))) (i + 1) (by omega) (by omega) (by omega)
        refine ⟨r, fun k hk => ?_⟩
        obtain ⟨k, rfl⟩ : ∃ m, k = m + 1 := ⟨k - 1, by omega⟩
        unfold amanuensislaw0_Texts.l0
        rw [if_pos h, if_pos h3, if_pos h0, wrap64_id (n := i + 1) (by omega) (by omega)]
        exact hr k (by omega)
      · refine ⟨x3, fun k hk => ?_⟩
        obtain ⟨k, rfl⟩ : ∃ m, k = m + 1 := ⟨k - 1, by omega⟩
        unfold amanuensislaw0_Texts.l0
        rw [if_pos h, if_neg h3]
    · refine ⟨x3, fun k hk => ?_⟩
      obtain ⟨k, rfl⟩ : ∃ m, k = m + 1 := ⟨k - 1, by omega⟩
      unfold amanuensislaw0_Texts.l0
      rw [if_neg h]
theorem heavy2_tot (a : List ByteArray) (b : List Int) (hl : a.length ≤ 1000000000000000) : ∃ r K, ∀ k, K ≤ k → amanuensislaw2_Heavy.f k a b = some r := by
  obtain ⟨r, hr⟩ := texts_tot a hl a.length (a.length : Int) 0 (by omega) (by omega) (by omega)
  refine ⟨decide ((wrap64 (r + (b.length : Int))) > 7000), a.length + 1, fun k hk => ?_⟩
  unfold amanuensislaw2_Heavy.f amanuensislaw0_Texts.f
  rw [hr k hk]
  rfl
section
variable (a : List ByteArray) (b : List Int) (L : List (List S54))
def Tot (g : Nat → Option Bool) : Prop := ∃ r K, ∀ k, K ≤ k → g k = some r
theorem Tot.step {g h : Nat → Option Bool} (hg : Tot g) (e : ∀ k, h (k + 1) = g k) : Tot h := by
  obtain ⟨r, K, hK⟩ := hg
  refine ⟨r, K + 1, fun k hk => ?_⟩
  obtain ⟨k, rfl⟩ : ∃ m, k = m + 1 := ⟨k - 1, by omega⟩
  rw [e]
  exact hK k (by omega)
theorem j1_false (ha : a.length ≤ 1000000000000000) (x3 x4 : Int) : Tot (fun k => amanuensislaw4_Heavy.j1 k x3 x4 false a b L) := by
  by_cases h : x3 > 600
  · refine Tot.step (g := fun _ => some true) ⟨true, 0, fun _ _ => rfl⟩ (fun k => ?_)
    unfold amanuensislaw4_Heavy.j1
    rw [if_neg (by decide), if_pos h]
  · obtain ⟨r, K, hK⟩ := heavy2_tot a b ha
    refine Tot.step (g := fun k => (amanuensislaw2_Heavy.f k a b).bind fun t105 => (some t105)) ⟨r, K, fun k hk => by show (amanuensislaw2_Heavy.f k a b).bind _ = _; rw [hK k hk]; rfl⟩ (fun k => ?_)
    show amanuensislaw4_Heavy.j1 (k + 1) x3 x4 false a b L = _
    unfold amanuensislaw4_Heavy.j1
    rw [if_neg (by decide), if_neg h]
theorem inner_tot (x4 : Int) (h0 : 0 ≤ x4) (h1 : x4 < L.length) (hL : L.length ≤ 1000000000000000) (hl : (rd_L3 L x4).length ≤ 1000000000000000) (next : ∀ x3, Tot (fun k => amanuensislaw4_Heavy.l0 k x3 (x4 + 1) a b L)) :
    ∀ (n : Nat) (x3 x5 : Int), 0 ≤ x5 → x5 ≤ (rd_L3 L x4).length → ((rd_L3 L x4).length : Int) - x5 ≤ n → Tot (fun k => amanuensislaw4_Heavy.l1 k x3 x4 x5 a b L)
  | 0, x3, x5, h2, h3, h4 => by
    refine Tot.step (next x3) (fun k => ?_)
    show amanuensislaw4_Heavy.l1 (k + 1) x3 x4 x5 a b L = _
    unfold amanuensislaw4_Heavy.l1
    rw [if_pos h0, if_pos h1, if_neg (by omega), wrap64_id (by omega) (by omega)]
  | n + 1, x3, x5, h2, h3, h4 => by
    by_cases h : x5 < (rd_L3 L x4).length
    · by_cases h6 : x3 < 1048576
      · refine Tot.step (inner_tot x4 h0 h1 hL hl next n (wrap64 (x3 + (((rd_T54 (rd_L3 L x4) x5).f0).size : Int))) (x5 + 1) (by omega) (by omega) (by omega)) (fun k => ?_)
        show amanuensislaw4_Heavy.l1 (k + 1) x3 x4 x5 a b L = _
        rw [amanuensislaw4_Heavy.l1, if_pos h0, if_pos h1, if_pos h, if_pos h6, if_pos h2, wrap64_id (n := x5 + 1) (by omega) (by omega)]
      · refine Tot.step (next x3) (fun k => ?_)
        show amanuensislaw4_Heavy.l1 (k + 1) x3 x4 x5 a b L = _
        rw [amanuensislaw4_Heavy.l1, if_pos h0, if_pos h1, if_pos h, if_neg h6, wrap64_id (by omega) (by omega)]
    · refine Tot.step (next x3) (fun k => ?_)
      show amanuensislaw4_Heavy.l1 (k + 1) x3 x4 x5 a b L = _
      rw [amanuensislaw4_Heavy.l1, if_pos h0, if_pos h1, if_neg h, wrap64_id (by omega) (by omega)]
theorem outer_tot (ha : a.length ≤ 1000000000000000) (hL : L.length ≤ 1000000000000000) (hl : ∀ i : Int, (rd_L3 L i).length ≤ 1000000000000000) : ∀ (n : Nat) (x3 x4 : Int), 0 ≤ x4 → x4 ≤ L.length → (L.length : Int) - x4 ≤ n → Tot (fun k => amanuensislaw4_Heavy.l0 k x3 x4 a b L)
  | 0, x3, x4, h0, h1, h2 => by
    refine Tot.step (j1_false a b L ha x3 x4) (fun k => ?_)
    show amanuensislaw4_Heavy.l0 (k + 1) x3 x4 a b L = _
    rw [amanuensislaw4_Heavy.l0, if_neg (by omega)]
  | n + 1, x3, x4, h0, h1, h2 => by
    by_cases h : x4 < L.length
    · by_cases h3 : x3 < 1048576
      · have h5 := inner_tot a b L x4 h0 h hL (hl x4) (fun y3 => outer_tot ha hL hl n y3 (x4 + 1) (by omega) (by omega) (by omega)) (rd_L3 L x4).length (wrap64 (x3 + ((rd_L3 L x4).length : Int))) 0 (by omega) (by omega) (by omega)
        have h6 : Tot (fun k => amanuensislaw4_Heavy.j1 k x3 x4 true a b L) := Tot.step h5 (fun k => by
          show amanuensislaw4_Heavy.j1 (k + 1) x3 x4 true a b L = _
          rw [amanuensislaw4_Heavy.j1, if_pos rfl, if_pos h0, if_pos h])
        refine Tot.step h6 (fun k => ?_)
        show amanuensislaw4_Heavy.l0 (k + 1) x3 x4 a b L = _
        rw [amanuensislaw4_Heavy.l0, if_pos h, decide_eq_true h3]
      · refine Tot.step (j1_false a b L ha x3 x4) (fun k => ?_)
        show amanuensislaw4_Heavy.l0 (k + 1) x3 x4 a b L = _
        rw [amanuensislaw4_Heavy.l0, if_pos h, decide_eq_false h3]
    · refine Tot.step (j1_false a b L ha x3 x4) (fun k => ?_)
      show amanuensislaw4_Heavy.l0 (k + 1) x3 x4 a b L = _
      rw [amanuensislaw4_Heavy.l0, if_neg h]
def Short (l : List S54) : Prop := l.length ≤ 600 ∧ ∀ j : Nat, j < l.length → (rd_T54 l j).f0.size ≤ 600
theorem heavy_sound (hL : L.length ≤ 1000000000000000) (hl : ∀ i : Int, (rd_L3 L i).length ≤ 1000000000000000) (hs : ∀ i j : Int, (rd_T54 (rd_L3 L i) j).f0.size ≤ 1000000000000000) : ∀ k : Nat,
    (∀ x3 x4 : Int, 0 ≤ x3 → x3 ≤ 3000000000000000 → 0 ≤ x4 → x4 ≤ L.length → amanuensislaw4_Heavy.l0 k x3 x4 a b L = some false → x3 ≤ 600 ∧ ∀ i : Nat, x4 ≤ i → i < L.length → Short (rd_L3 L i)) ∧
    (∀ x3 x4 : Int, 0 ≤ x3 → x3 ≤ 3000000000000000 → amanuensislaw4_Heavy.j1 k x3 x4 false a b L = some false → x3 ≤ 600) ∧
    (∀ x3 x4 : Int, 0 ≤ x3 → x3 < 1048576 → 0 ≤ x4 → x4 < L.length → amanuensislaw4_Heavy.j1 k x3 x4 true a b L = some false → x3 ≤ 600 ∧ ∀ i : Nat, x4 ≤ i → i < L.length → Short (rd_L3 L i)) ∧
    (∀ x3 x4 x5 : Int, 0 ≤ x3 → x3 ≤ 3000000000000000 → 0 ≤ x4 → x4 < L.length → 0 ≤ x5 → x5 ≤ (rd_L3 L x4).length → amanuensislaw4_Heavy.l1 k x3 x4 x5 a b L = some false → x3 ≤ 600 ∧ (∀ j : Nat, x5 ≤ j → j < (rd_L3 L x4).length → (rd_T54 (rd_L3 L x4) j).f0.size ≤ 600) ∧ ∀ i : Nat, x4 < i → i < L.length → Short (rd_L3 L i))
  | 0 => by
    refine ⟨fun _ _ _ _ _ _ h => ?_, fun _ _ _ _ h => ?_, fun _ _ _ _ _ _ h => ?_, fun _ _ _ _ _ _ _ _ _ h => ?_⟩
    · rw [amanuensislaw4_Heavy.l0] at h; cases h
    · rw [amanuensislaw4_Heavy.j1] at h; cases h
    · rw [amanuensislaw4_Heavy.j1] at h; cases h
    · rw [amanuensislaw4_Heavy.l1] at h; cases h
  | k + 1 => by
    obtain ⟨i0, i1, i2, i3⟩ := heavy_sound hL hl hs k
    refine ⟨fun x3 x4 h0 h1 h2 h3 h => ?_, fun x3 x4 h0 h1 h => ?_, fun x3 x4 h0 h1 h2 h3 h => ?_, fun x3 x4 x5 h0 h1 h2 h3 h4 h5 h => ?_⟩
    · rw [amanuensislaw4_Heavy.l0] at h
      by_cases c : x4 < L.length
      · rw [if_pos c] at h
        by_cases d : x3 < 1048576
        · rw [decide_eq_true d] at h
          exact i2 x3 x4 h0 d h2 c h
        · rw [decide_eq_false d] at h
          have := i1 x3 x4 h0 h1 h
          omega
      · rw [if_neg c] at h
        exact ⟨i1 x3 x4 h0 h1 h, fun i hi hi2 => by omega⟩
    · rw [amanuensislaw4_Heavy.j1, if_neg (by decide)] at h
      by_cases c : x3 > 600
      · rw [if_pos c] at h; cases h
      · omega
    · rw [amanuensislaw4_Heavy.j1, if_pos rfl, if_pos h2, if_pos h3] at h
      have hlx := hl x4
      rw [wrap64_id (by omega) (by omega)] at h
      obtain ⟨r1, r2, r3⟩ := i3 _ x4 0 (by omega) (by omega) h2 h3 (by omega) (by omega) h
      refine ⟨by omega, fun i hi hi2 => ?_⟩
      by_cases e : (i : Int) = x4
      · rw [e]
        exact ⟨by omega, fun j hj => r2 j (by omega) hj⟩
      · exact r3 i (by omega) hi2
    · rw [amanuensislaw4_Heavy.l1, if_pos h2, if_pos h3] at h
      by_cases c : x5 < (rd_L3 L x4).length
      · rw [if_pos c] at h
        by_cases d : x3 < 1048576
        · rw [if_pos d, if_pos h4] at h
          have hsx := hs x4 x5
          have hlx := hl x4
          rw [wrap64_id (n := x3 + _) (by omega) (by omega), wrap64_id (n := x5 + 1) (by omega) (by omega)] at h
          obtain ⟨r1, r2, r3⟩ := i3 _ x4 (x5 + 1) (by omega) (by omega) h2 h3 (by omega) (by omega) h
          refine ⟨by omega, fun j hj hj2 => ?_, r3⟩
          by_cases e : (j : Int) = x5
          · rw [e]; omega
          · exact r2 j (by omega) hj2
        · rw [if_neg d, wrap64_id (n := x4 + 1) (by omega) (by omega)] at h
          obtain ⟨r1, r2⟩ := i0 x3 (x4 + 1) h0 h1 (by omega) (by omega) h
          omega
      · rw [if_neg c, wrap64_id (n := x4 + 1) (by omega) (by omega)] at h
        obtain ⟨r1, r2⟩ := i0 x3 (x4 + 1) h0 h1 (by omega) (by omega) h
        exact ⟨r1, fun j hj hj2 => by omega, fun i hi hi2 => r2 i (by omega) hi2⟩
end
end Go.Proofs.YtgobpenmemlieaaDoor.Lex

namespace Go.Proofs.YtgobpenmemlieaaDoor.Lex
open Go.RowKit Go.Proofs.YtgobpenmemlieaaDoorW.PrintWords Go.Proofs.YtgobpenmemlieaaDoorW.PrintLast Go.Proofs.YtgobpenmemlieaaDoorW.PrintMore PSdlBack
set_option linter.unusedVariables false
end Go.Proofs.YtgobpenmemlieaaDoor.Lex
