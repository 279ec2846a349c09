/- Packed by our own shrink.py: theorems that the claim does not use are left out. -/
import Derived.Test.YtgobpenmemlieaaDoorVPar
import Derived.Lib.SmallJoins
/-
  The walk of (*parser).signs.
-/
namespace Go.Proofs.YtgobpenmemlieaaDoor.Lex
open Go.RowKit Go.Proofs.YtgobpenmemlieaaDoorW.PrintWords Go.Proofs.YtgobpenmemlieaaDoorW.PrintLast Go.Proofs.YtgobpenmemlieaaDoorW.PrintMore PSdlBack
set_option linter.unusedVariables false
set_option linter.unusedSimpArgs false
/-- The table that strings.Fields reads. -/
def Tab (w : World) : Prop := Lib.TabIs Tryd.prog w "strings.asciiSpace" .u8 Lib.asciiSpaceTab
theorem Tab.below {w w' : World} (h : Tab w) (hb : Below w.heap.size w w') : Tab w' := Go.Joins.var_stays (g := 0) (by kernel_rfl) h hb (Nat.le_refl _)
/-- What signs leaves, word for word. -/
def same (l : List S39) (s : ByteArray) : Bool := (seen l).toList == s.toList
def signsS : List ByteArray → List S39 → Bool → List S39 × Bool
  | [], l, b => (l, b)
  | s :: r, l, b => signsS r (takeL l b (same l s)) (takeB l b (same l s))
set_option maxHeartbeats 8000000 in
set_option maxRecDepth 100000 in
theorem signs_calls (text : ByteArray) (ws : List ByteArray) (hws : (Lib.fields text.data.toList).map (fun l => (⟨l.toArray⟩ : ByteArray)) = ws) (hM : ws.length ≤ 1000) (hsz : text.size < 4294967281) (hascii : ∀ (j : Nat) b, text.data.toList[j]? = some b → b.toNat < 128)
    (g : Nat) (l : List S39) (b : Bool) (w0 w : World) (hI : PS w0 w g l b) (hB : Below w0.heap.size w0 w) (hT : Tab w0) :
    Calls Tryd.prog 51 #[.pointer (some ⟨g, 0, none⟩), .string text] w fun e w' => e = .returned (.tuple #[]) ∧ PS w0 w' g (signsS ws l b).1 (signsS ws l b).2 ∧ Below w0.heap.size w0 w' ∧ KeepBut w w' g none := by
  have HI := Aside0.mk hI
  have HB := Aside0.mk hB
  have HK := Aside0.mk (KeepBut.refl w g none)
  have HT := Aside0.mk hT
  clear hI hT
  obtain ⟨l2, b2, hres⟩ : ∃ l2 b2, signsS ws l b = (l2, b2) := ⟨_, _, rfl⟩
  rw [hres]
  have HR := Aside0.mk hres
  clear hres
  go_enter Tryd.func51, Tryd.ntmps51
  go_wp2_with (first | (go_at_call 73; refine (Tryd.strings_Fields_laid text _ hsz hascii (HT.out.below (by repeat (first | (with_reducible first | exact HB.out | apply below_alloc | apply pw_below_drewN | apply below_drew1) | exact HB.out)))).mono ?_; rintro e wq ⟨rfl, rfl⟩))
  have hfs : ∀ (j : Nat) (x : ByteArray), ws[j]? = some x → (((Lib.fields text.data.toList).map fun l => Value.string ⟨l.toArray⟩).toArray)[j]? = some (Value.string x) := by
    intro j x hj
    rw [← hws, List.getElem?_map] at hj
    cases hq : (Lib.fields text.data.toList)[j]? with
    | none => rw [hq] at hj; cases hj
    | some y =>
      rw [hq] at hj
      cases hj
      simp [hq]
  have hlen : (Lib.fields text.data.toList).length = ws.length := by rw [← hws, List.length_map]
  have hF0 : (w.alloc (.cells ((Lib.fields text.data.toList).map fun l => Value.string ⟨l.toArray⟩).toArray 9)).heap[w.heap.size]? = some (.cells ((Lib.fields text.data.toList).map fun l => Value.string ⟨l.toArray⟩).toArray 9 (0, 0)) := heap_alloc_new w _
  have HF0 := Aside0.mk hF0
  have HFn : Aside0 (w.heap.size ≠ g) := ⟨fun h_ => by have := HI.out.lt; omega⟩
  have HM := Aside0.mk hM
  clear hF0
  rw [hlen]
  generalize ((Lib.fields text.data.toList).map fun l => Value.string ⟨l.toArray⟩).toArray = fcs at hfs HF0 ⊢
  obtain ⟨fb, hfb⟩ : ∃ fb, w.heap.size = fb := ⟨_, rfl⟩
  have HFl0 : Aside0 (fb < (w.alloc (.cells fcs 9)).heap.size) := ⟨by rw [← hfb]; simp⟩
  rw [hfb] at HF0 HFn ⊢
  have HFS := Aside0.mk hfs
  clear hws hascii hlen hfs
  go_loopg [9] ws.length (fun kq v9 w' => ∃ (j : Nat) (l1 : List S39) (b1 : Bool), v9 = .int .i64 j ∧ j ≤ ws.length ∧ j + kq = ws.length ∧ Aside0 (signsS (ws.drop j) l1 b1 = (l2, b2)) ∧ Aside0 (PS w0 w' g l1 b1) ∧ Aside0 (Below w0.heap.size w0 w') ∧ Aside0 (KeepBut w w' g none) ∧ Aside0 (w'.heap[fb]? = some (.cells fcs 9 (0, 0))) ∧ Aside0 (fb < w'.heap.size))
  case atStart => exact ⟨0, l, b, rfl, by omega, by omega, ⟨HR.out⟩, ⟨(by (with_reducible repeat (first | exact HI.out | apply PS.alloc | apply PS.drewN)); done)⟩, ⟨(by repeat (first | (with_reducible first | exact HB.out | apply below_alloc | apply pw_below_drewN | apply below_drew1) | exact HB.out))⟩, ⟨(by repeat (first | (with_reducible first | exact HK.out | apply keep_drewN | apply keep_drew | apply keep_alloc) | exact HK.out))⟩, HF0, HFl0⟩
  case round =>
    clear HF0 HFl0 HI HB HK
    obtain ⟨j, l1, b1, rfl, hj, hk, HE, HI, HB, HK, HF, HFl⟩ := hrel
    by_cases hjl : j < ws.length
    · have c1 : decide ((j : Int) < (ws.length : Int)) = true := decide_eq_true (by omega)
      obtain ⟨k1, rfl⟩ : ∃ k1, gk = k1 + 1 := ⟨gk - 1, by omega⟩
      obtain ⟨s, hs⟩ : ∃ s, ws[j]? = some s := ⟨_, List.getElem?_eq_getElem hjl⟩
      have hcell : wr.cell? ⟨fb, j, none⟩ = some (.string s) := (blk_cell HF.out j).trans (HFS.out j s hs)
      have hst : ws.drop j = s :: ws.drop (j + 1) := by rw [List.drop_eq_getElem_cons hjl]; congr 1; exact Option.some.inj ((List.getElem?_eq_getElem hjl).symm.trans hs)
      have HE2 : Aside0 (signsS (ws.drop (j + 1)) (takeL l1 b1 (same l1 s)) (takeB l1 b1 (same l1 s)) = (l2, b2)) := ⟨by rw [← HE.out, hst]; rfl⟩
      have p1 := eq_true (show (0 : Int) ≤ (j : Int) by omega)
      have p2 := eq_true (show (j : Int) < (ws.length : Int) by omega)
      have p3 := eq_true hjl
      clear hs hst HE
      go_wp2_with (first | (go_at_call 52; (with_reducible refine (see_calls g l1 b1 w0 _ (by (with_reducible repeat (first | exact HI.out | apply PS.alloc | apply PS.drewN)); done) (by repeat (first | (with_reducible first | exact HB.out | apply below_alloc | apply pw_below_drewN | apply below_drew1) | exact HB.out))).mono ?_); rintro e wq ⟨rfl, ⟨nd, rfl⟩⟩) | (go_at_call 74; (with_reducible refine (take_calls g l1 b1 _ w0 _ (by (with_reducible repeat (first | exact HI.out | apply PS.alloc | apply PS.drewN)); done) (by repeat (first | (with_reducible first | exact HB.out | apply below_alloc | apply pw_below_drewN | apply below_drew1) | exact HB.out))).mono ?_); rintro e wq ⟨rfl, hi2, hb2, hk2⟩; have n0_ := Aside0.mk hi2; have n1_ := Aside0.mk hb2; have n2_ := Aside0.mk (KeepBut.trans (by repeat (first | (with_reducible first | exact HK.out | apply keep_drewN | apply keep_drew | apply keep_alloc) | exact HK.out)) hk2 (.inl rfl)); have n3_ := Aside0.mk ((hk2.2 fb (by simpa using HFl.out) (fun h_ => HFn.out h_) (by simp)).trans HF.out); have n4_ := Aside0.mk (Nat.lt_of_lt_of_le HFl.out hk2.1); clear HI HB HK HF HFl; have HI := n0_; have HB := n1_; have HK := n2_; have HF := n3_; have HFl := n4_; clear n0_ n1_ n2_ n3_ n4_ hi2 hb2 hk2))
      go_roundg k1
      case measure => omega
      case rel => exact ⟨j + 1, _, _, by first | rfl | (simp only [Int.natCast_add]; done) | (simp only [Int.natCast_add]; rfl), by omega, by omega, HE2, ⟨HI.out⟩, ⟨(by repeat (first | (with_reducible first | exact HB.out | apply below_alloc | apply pw_below_drewN | apply below_drew1) | exact HB.out))⟩, ⟨(by repeat (first | (with_reducible first | exact HK.out | apply keep_drewN | apply keep_drew | apply keep_alloc) | exact HK.out))⟩, ⟨HF.out⟩, ⟨HFl.out⟩⟩
    · have c1 : decide ((j : Int) < (ws.length : Int)) = false := decide_eq_false (by omega)
      have hst : ws.drop j = [] := List.drop_eq_nil_of_le (by omega)
      have e1 : (l1, b1) = (l2, b2) := by rw [← HE.out, hst]; rfl
      cases e1
      clear hst HE
      go_wp2
      go_end0
      exact ⟨rfl, (by (with_reducible repeat (first | exact HI.out | apply PS.alloc | apply PS.drewN)); done), (by repeat (first | (with_reducible first | exact HB.out | apply below_alloc | apply pw_below_drewN | apply below_drew1) | exact HB.out)), (by repeat (first | (with_reducible first | exact HK.out | apply keep_drewN | apply keep_drew | apply keep_alloc) | exact HK.out))⟩
end Go.Proofs.YtgobpenmemlieaaDoor.Lex
