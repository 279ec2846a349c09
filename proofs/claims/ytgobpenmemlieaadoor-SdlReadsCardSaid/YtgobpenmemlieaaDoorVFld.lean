/- Packed by our own shrink.py: theorems that the claim does not use are left out. -/
import Derived.Test.YtgobpenmemlieaaDoorVSig
/-
  The walks of (*parser).name and (*parser).field.
-/
namespace Go.Proofs.YtgobpenmemlieaaDoor.Lex
open Go.RowKit Go.Proofs.YtgobpenmemlieaaDoorW.PrintWords Go.Proofs.YtgobpenmemlieaaDoorW.PrintLast Go.Proofs.YtgobpenmemlieaaDoorW.PrintMore PSdlBack
set_option linter.unusedVariables false
set_option linter.unusedSimpArgs false
/-- Words that are no longer than a text may be. -/
def Small (l : List S39) : Prop := ∀ i : Nat, (rd_T39 l i).f0.size ≤ 1000000000000
theorem Small.tail {l : List S39} (h : Small l) : Small (l.drop 1) := fun i => by
  have := h (i + 1)
  unfold rd_T39 at this ⊢
  simpa [Nat.add_comm] using this
theorem Small.seen {l : List S39} (h : Small l) : (seen l).size ≤ 1000000000000 := by
  unfold Lex.seen
  split
  · decide
  · exact h 0
theorem Small.take {l : List S39} (h : Small l) (b is : Bool) : Small (takeL l b is) := by
  unfold takeL
  split
  · exact h.tail
  · exact h
theorem Small.signs : ∀ (ws : List ByteArray) {l : List S39} (h : Small l) (b : Bool), Small (signsS ws l b).1
  | [], l, h, b => h
  | s :: r, l, h, b => Small.signs r (h.take b _) _
/-- The states: the words that are left, and whether it is bad. -/
def nm (p : List S39 × Bool) : ByteArray := takeR p.1 p.2 (isName (seen p.1))
def nx (p : List S39 × Bool) : List S39 × Bool := (takeL p.1 p.2 (isName (seen p.1)), takeB p.1 p.2 (isName (seen p.1)))
def sg (ws : List ByteArray) (p : List S39 × Bool) : List S39 × Bool := signsS ws p.1 p.2
theorem Small.nx {p : List S39 × Bool} (h : Small p.1) : Small (nx p).1 := h.take _ _
theorem Small.sg {p : List S39 × Bool} (h : Small p.1) (ws : List ByteArray) : Small (sg ws p).1 := Small.signs ws h _
set_option maxHeartbeats 8000000 in
set_option maxRecDepth 100000 in
theorem name_calls (g : Nat) (p : List S39 × Bool) (w0 w : World) (hI : PS w0 w g p.1 p.2) (hB : Below w0.heap.size w0 w) (hS : Small p.1) :
    Calls Tryd.prog 75 #[.pointer (some ⟨g, 0, none⟩)] w fun e w' => e = .returned (.string (nm p)) ∧ PS w0 w' g (nx p).1 (nx p).2 ∧ Below w0.heap.size w0 w' ∧ KeepBut w w' g none := by
  have HI := Aside0.mk hI
  have HB := Aside0.mk hB
  have HK := Aside0.mk (KeepBut.refl w g none)
  have HS := Aside0.mk hS.seen
  clear hI hS
  obtain ⟨l, b⟩ := p
  go_enter Tryd.func75, Tryd.ntmps75
  go_wp2_with (first | (go_at_call 52; (with_reducible refine (see_calls g l b w0 _ (by (with_reducible repeat (first | exact HI.out | apply PS.alloc | apply PS.drewN)); done) (by repeat (first | (with_reducible first | exact HB.out | apply below_alloc | apply pw_below_drewN | apply below_drew1) | exact HB.out))).mono ?_); rintro e wq ⟨rfl, ⟨nd, rfl⟩⟩) | (go_at_call 57; refine (Name_calls (seen l) HS.out _).mono ?_; rintro e wq ⟨rfl, hb2⟩; have n0_ := Aside0.mk (PS.below (by (with_reducible repeat (first | exact HI.out | apply PS.alloc | apply PS.drewN)); done) hb2); have n1_ := Aside0.mk (below_step (by repeat (first | (with_reducible first | exact HB.out | apply below_alloc | apply pw_below_drewN | apply below_drew1) | exact HB.out)) hb2); have n2_ := Aside0.mk (KeepBut.trans (by repeat (first | (with_reducible first | exact HK.out | apply keep_drewN | apply keep_drew | apply keep_alloc) | exact HK.out)) (KeepBut.of_below hb2 g none) (.inl rfl)); clear HI HB HK; have HI := n0_; have HB := n1_; have HK := n2_; clear n0_ n1_ n2_ hb2) | (go_at_call 74; (with_reducible refine (take_calls g l b _ w0 _ (by (with_reducible repeat (first | exact HI.out | apply PS.alloc | apply PS.drewN)); done) (by repeat (first | (with_reducible first | exact HB.out | apply below_alloc | apply pw_below_drewN | apply below_drew1) | exact HB.out))).mono ?_); rintro e wq ⟨rfl, hi2, hb2, hk2⟩; have n0_ := Aside0.mk hi2; have n1_ := Aside0.mk hb2; have n2_ := Aside0.mk (KeepBut.trans (by repeat (first | (with_reducible first | exact HK.out | apply keep_drewN | apply keep_drew | apply keep_alloc) | exact HK.out)) hk2 (.inl rfl)); clear HI HB HK; have HI := n0_; have HB := n1_; have HK := n2_; clear n0_ n1_ n2_ hi2 hb2 hk2))
  go_ret
  exact ⟨rfl, HI.out, HB.out, HK.out⟩
def T0 : ByteArray := (⟨#[116, 121, 112, 101, 32, 77, 117, 116, 97, 116, 105, 111, 110, 32, 123]⟩ : ByteArray)
def W0 : List ByteArray := [(⟨#[116, 121, 112, 101]⟩ : ByteArray), (⟨#[77, 117, 116, 97, 116, 105, 111, 110]⟩ : ByteArray), (⟨#[123]⟩ : ByteArray)]
theorem signs0 (g : Nat) (p : List S39 × Bool) (w0 w : World) (hI : PS w0 w g p.1 p.2) (hB : Below w0.heap.size w0 w) (hT : Tab w0) :
    Calls Tryd.prog 51 #[.pointer (some ⟨g, 0, none⟩), .string (⟨#[116, 121, 112, 101, 32, 77, 117, 116, 97, 116, 105, 111, 110, 32, 123]⟩ : ByteArray)] w fun e w' => e = .returned (.tuple #[]) ∧ PS w0 w' g (sg W0 p).1 (sg W0 p).2 ∧ Below w0.heap.size w0 w' ∧ KeepBut w w' g none :=
  signs_calls (⟨#[116, 121, 112, 101, 32, 77, 117, 116, 97, 116, 105, 111, 110, 32, 123]⟩ : ByteArray) W0 (by decide +kernel) (by decide) (by decide) (by
    intro j b hj
    have hm := List.mem_of_getElem? hj
    revert b
    have : ∀ b ∈ ((⟨#[116, 121, 112, 101, 32, 77, 117, 116, 97, 116, 105, 111, 110, 32, 123]⟩ : ByteArray)).data.toList, b.toNat < 128 := by decide
    intro b _ hm
    exact this b hm) g p.1 p.2 w0 w hI hB hT
def T1 : ByteArray := (⟨#[40, 32, 119, 104, 111, 32, 58, 32, 83, 116, 114, 105, 110, 103, 32, 33, 32, 110, 32, 58, 32, 73, 110, 116, 32, 33, 32, 41, 32, 58, 32, 83, 116, 101, 112, 32, 64, 32, 115, 97, 103, 97, 32, 40, 32, 115, 101, 114, 118, 105, 99, 101, 32, 58]⟩ : ByteArray)
def W1 : List ByteArray := [(⟨#[40]⟩ : ByteArray), (⟨#[119, 104, 111]⟩ : ByteArray), (⟨#[58]⟩ : ByteArray), (⟨#[83, 116, 114, 105, 110, 103]⟩ : ByteArray), (⟨#[33]⟩ : ByteArray), (⟨#[110]⟩ : ByteArray), (⟨#[58]⟩ : ByteArray), (⟨#[73, 110, 116]⟩ : ByteArray), (⟨#[33]⟩ : ByteArray), (⟨#[41]⟩ : ByteArray), (⟨#[58]⟩ : ByteArray), (⟨#[83, 116, 101, 112]⟩ : ByteArray), (⟨#[64]⟩ : ByteArray), (⟨#[115, 97, 103, 97]⟩ : ByteArray), (⟨#[40]⟩ : ByteArray), (⟨#[115, 101, 114, 118, 105, 99, 101]⟩ : ByteArray), (⟨#[58]⟩ : ByteArray)]
theorem signs1 (g : Nat) (p : List S39 × Bool) (w0 w : World) (hI : PS w0 w g p.1 p.2) (hB : Below w0.heap.size w0 w) (hT : Tab w0) :
    Calls Tryd.prog 51 #[.pointer (some ⟨g, 0, none⟩), .string (⟨#[40, 32, 119, 104, 111, 32, 58, 32, 83, 116, 114, 105, 110, 103, 32, 33, 32, 110, 32, 58, 32, 73, 110, 116, 32, 33, 32, 41, 32, 58, 32, 83, 116, 101, 112, 32, 64, 32, 115, 97, 103, 97, 32, 40, 32, 115, 101, 114, 118, 105, 99, 101, 32, 58]⟩ : ByteArray)] w fun e w' => e = .returned (.tuple #[]) ∧ PS w0 w' g (sg W1 p).1 (sg W1 p).2 ∧ Below w0.heap.size w0 w' ∧ KeepBut w w' g none :=
  signs_calls (⟨#[40, 32, 119, 104, 111, 32, 58, 32, 83, 116, 114, 105, 110, 103, 32, 33, 32, 110, 32, 58, 32, 73, 110, 116, 32, 33, 32, 41, 32, 58, 32, 83, 116, 101, 112, 32, 64, 32, 115, 97, 103, 97, 32, 40, 32, 115, 101, 114, 118, 105, 99, 101, 32, 58]⟩ : ByteArray) W1 (by decide +kernel) (by decide) (by decide) (by
    intro j b hj
    have hm := List.mem_of_getElem? hj
    revert b
    have : ∀ b ∈ ((⟨#[40, 32, 119, 104, 111, 32, 58, 32, 83, 116, 114, 105, 110, 103, 32, 33, 32, 110, 32, 58, 32, 73, 110, 116, 32, 33, 32, 41, 32, 58, 32, 83, 116, 101, 112, 32, 64, 32, 115, 97, 103, 97, 32, 40, 32, 115, 101, 114, 118, 105, 99, 101, 32, 58]⟩ : ByteArray)).data.toList, b.toNat < 128 := by decide
    intro b _ hm
    exact this b hm) g p.1 p.2 w0 w hI hB hT
def T2 : ByteArray := (⟨#[100, 111, 32, 58]⟩ : ByteArray)
def W2 : List ByteArray := [(⟨#[100, 111]⟩ : ByteArray), (⟨#[58]⟩ : ByteArray)]
theorem signs2 (g : Nat) (p : List S39 × Bool) (w0 w : World) (hI : PS w0 w g p.1 p.2) (hB : Below w0.heap.size w0 w) (hT : Tab w0) :
    Calls Tryd.prog 51 #[.pointer (some ⟨g, 0, none⟩), .string (⟨#[100, 111, 32, 58]⟩ : ByteArray)] w fun e w' => e = .returned (.tuple #[]) ∧ PS w0 w' g (sg W2 p).1 (sg W2 p).2 ∧ Below w0.heap.size w0 w' ∧ KeepBut w w' g none :=
  signs_calls (⟨#[100, 111, 32, 58]⟩ : ByteArray) W2 (by decide +kernel) (by decide) (by decide) (by
    intro j b hj
    have hm := List.mem_of_getElem? hj
    revert b
    have : ∀ b ∈ ((⟨#[100, 111, 32, 58]⟩ : ByteArray)).data.toList, b.toNat < 128 := by decide
    intro b _ hm
    exact this b hm) g p.1 p.2 w0 w hI hB hT
def T3 : ByteArray := (⟨#[117, 110, 100, 111, 32, 58]⟩ : ByteArray)
def W3 : List ByteArray := [(⟨#[117, 110, 100, 111]⟩ : ByteArray), (⟨#[58]⟩ : ByteArray)]
theorem signs3 (g : Nat) (p : List S39 × Bool) (w0 w : World) (hI : PS w0 w g p.1 p.2) (hB : Below w0.heap.size w0 w) (hT : Tab w0) :
    Calls Tryd.prog 51 #[.pointer (some ⟨g, 0, none⟩), .string (⟨#[117, 110, 100, 111, 32, 58]⟩ : ByteArray)] w fun e w' => e = .returned (.tuple #[]) ∧ PS w0 w' g (sg W3 p).1 (sg W3 p).2 ∧ Below w0.heap.size w0 w' ∧ KeepBut w w' g none :=
  signs_calls (⟨#[117, 110, 100, 111, 32, 58]⟩ : ByteArray) W3 (by decide +kernel) (by decide) (by decide) (by
    intro j b hj
    have hm := List.mem_of_getElem? hj
    revert b
    have : ∀ b ∈ ((⟨#[117, 110, 100, 111, 32, 58]⟩ : ByteArray)).data.toList, b.toNat < 128 := by decide
    intro b _ hm
    exact this b hm) g p.1 p.2 w0 w hI hB hT
def T4 : ByteArray := (⟨#[41]⟩ : ByteArray)
def W4 : List ByteArray := [(⟨#[41]⟩ : ByteArray)]
theorem signs4 (g : Nat) (p : List S39 × Bool) (w0 w : World) (hI : PS w0 w g p.1 p.2) (hB : Below w0.heap.size w0 w) (hT : Tab w0) :
    Calls Tryd.prog 51 #[.pointer (some ⟨g, 0, none⟩), .string (⟨#[41]⟩ : ByteArray)] w fun e w' => e = .returned (.tuple #[]) ∧ PS w0 w' g (sg W4 p).1 (sg W4 p).2 ∧ Below w0.heap.size w0 w' ∧ KeepBut w w' g none :=
  signs_calls (⟨#[41]⟩ : ByteArray) W4 (by decide +kernel) (by decide) (by decide) (by
    intro j b hj
    have hm := List.mem_of_getElem? hj
    revert b
    have : ∀ b ∈ ((⟨#[41]⟩ : ByteArray)).data.toList, b.toNat < 128 := by decide
    intro b _ hm
    exact this b hm) g p.1 p.2 w0 w hI hB hT
def T5 : ByteArray := (⟨#[125]⟩ : ByteArray)
def W5 : List ByteArray := [(⟨#[125]⟩ : ByteArray)]
theorem signs5 (g : Nat) (p : List S39 × Bool) (w0 w : World) (hI : PS w0 w g p.1 p.2) (hB : Below w0.heap.size w0 w) (hT : Tab w0) :
    Calls Tryd.prog 51 #[.pointer (some ⟨g, 0, none⟩), .string (⟨#[125]⟩ : ByteArray)] w fun e w' => e = .returned (.tuple #[]) ∧ PS w0 w' g (sg W5 p).1 (sg W5 p).2 ∧ Below w0.heap.size w0 w' ∧ KeepBut w w' g none :=
  signs_calls (⟨#[125]⟩ : ByteArray) W5 (by decide +kernel) (by decide) (by decide) (by
    intro j b hj
    have hm := List.mem_of_getElem? hj
    revert b
    have : ∀ b ∈ ((⟨#[125]⟩ : ByteArray)).data.toList, b.toNat < 128 := by decide
    intro b _ hm
    exact this b hm) g p.1 p.2 w0 w hI hB hT
/-- Inside field: the parser's state, and what the block of the result (fb) holds. -/
def FS (w0 w W : World) (g fb : Nat) (p : List S39 × Bool) (cs : Array Value) : Prop := PS w0 W g p.1 p.2 ∧ Below w0.heap.size w0 W ∧ KeepBut w W g none ∧ W.heap[fb]? = some (.cells cs 75 (0, 0)) ∧ w.heap.size ≤ fb ∧ fb ≠ g ∧ w0.heap.size ≤ w.heap.size
theorem PS.far {w0 W : World} {g : Nat} {l : List S39} {b : Bool} {q : Addr} (h : PS w0 W g l b) (hne : g ≠ q.block) (u : Value) : PS w0 (W.setCell q u) g l b := by
  obtain ⟨A, c, hb, hg, hr, hc⟩ := h
  exact ⟨A, c, blk_far hb hne u, hg, hr, hc⟩
section
variable {w0 w W W2 : World} {g fb : Nat} {p p2 : List S39 × Bool} {cs : Array Value}
theorem FS.ps (h : FS w0 w W g fb p cs) : PS w0 W g p.1 p.2 := h.1
theorem FS.bel (h : FS w0 w W g fb p cs) : Below w0.heap.size w0 W := h.2.1
theorem FS.blk (h : FS w0 w W g fb p cs) : W.heap[fb]? = some (.cells cs 75 (0, 0)) := h.2.2.2.1
theorem FS.drewN (h : FS w0 w W g fb p cs) (m : Nat) : FS w0 w (W.drewN m) g fb p cs :=
  ⟨h.1.drewN m, pw_below_drewN h.2.1 m, keep_drewN h.2.2.1 m, h.2.2.2.1, h.2.2.2.2⟩
theorem FS.set (h : FS w0 w W g fb p cs) (k : Nat) (v : Value) : FS w0 w (W.setCell ⟨fb, k, none⟩ v) g fb p (cs.setIfInBounds k v) := by
  obtain ⟨h1, h2, h3, h4, h5, h6, h7⟩ := h
  exact ⟨h1.far (fun e => h6 e.symm) v, below_set h2 (by omega), ⟨by simpa [World.setCell] using h3.1, fun i hi hg hr => (Below.heap_setCell W ⟨fb, k, none⟩ v i (fun e => by have : i = fb := e; omega)).trans (h3.2 i hi hg hr)⟩, blk_set h4 k v, h5, h6, h7⟩
theorem FS.put {cs2 : Array Value} (h : FS w0 w W g fb p cs) (k : Nat) (v : Value) (e : cs.setIfInBounds k v = cs2) : FS w0 w (W.setCell ⟨fb, k, none⟩ v) g fb p cs2 := e ▸ h.set k v
theorem FS.call (h : FS w0 w W g fb p cs) (hi : PS w0 W2 g p2.1 p2.2) (hb : Below w0.heap.size w0 W2) (hk : KeepBut W W2 g none) : FS w0 w W2 g fb p2 cs := by
  obtain ⟨h1, h2, h3, h4, h5, h6, h7⟩ := h
  exact ⟨hi, hb, h3.trans hk (.inl rfl), (hk.2 fb (blk_lt h4) h6 (by simp)).trans h4, h5, h6, h7⟩
end
/-- What field tells, and leaves. -/
def p1 (p : List S39 × Bool) := sg W1 (nx p)
def p2 (p : List S39 × Bool) := sg W2 (nx (p1 p))
def p3 (p : List S39 × Bool) := sg W3 (nx (p2 p))
def p4 (p : List S39 × Bool) := sg W4 (nx (p3 p))
theorem p1_eq (p : List S39 × Bool) : sg W1 (nx p) = p1 p := rfl
theorem p2_eq (p : List S39 × Bool) : sg W2 (nx (p1 p)) = p2 p := rfl
theorem p3_eq (p : List S39 × Bool) : sg W3 (nx (p2 p)) = p3 p := rfl
theorem p4_eq (p : List S39 × Bool) : sg W4 (nx (p3 p)) = p4 p := rfl
attribute [local irreducible] p1 p2 p3 p4 nx nm sg
set_option maxHeartbeats 8000000 in
set_option maxRecDepth 100000 in
theorem field_calls (g : Nat) (p : List S39 × Bool) (w0 w : World) (hI : PS w0 w g p.1 p.2) (hB : Below w0.heap.size w0 w) (hS : Small p.1) (hT : Tab w0) :
    Calls Tryd.prog 53 #[.pointer (some ⟨g, 0, none⟩)] w fun e w' => e = .returned (.agg #[.string (nm p), .string (nm (p1 p)), .string (nm (p2 p)), .string (nm (p3 p))]) ∧ PS w0 w' g (p4 p).1 (p4 p).2 ∧ Below w0.heap.size w0 w' ∧ KeepBut w w' g none := by
  have HS0 := Aside0.mk hS
  have HS1 : Aside0 (Small (p1 p).1) := ⟨by rw [← p1_eq]; exact Small.sg (Small.nx hS) _⟩
  have HS2 : Aside0 (Small (p2 p).1) := ⟨by rw [← p2_eq]; exact Small.sg (Small.nx HS1.out) _⟩
  have HS3 : Aside0 (Small (p3 p).1) := ⟨by rw [← p3_eq]; exact Small.sg (Small.nx HS2.out) _⟩
  have HT := Aside0.mk hT
  have hF0 : FS w0 w (w.alloc (.cells #[.string ⟨#[]⟩, .string ⟨#[]⟩, .string ⟨#[]⟩, .string ⟨#[]⟩] 75)) g w.heap.size p #[.string ⟨#[]⟩, .string ⟨#[]⟩, .string ⟨#[]⟩, .string ⟨#[]⟩] := ⟨hI.alloc _, below_alloc hB _, keep_alloc (KeepBut.refl w g none) _, heap_alloc_new w _, Nat.le_refl _, fun e => by have := hI.lt; omega, hB.size⟩
  have HF := Aside0.mk hF0
  have HL := Aside0.mk hI.lt
  clear hF0 hI hS hT
  have ST0 := trivial
  go_enter Tryd.func53, Tryd.ntmps53
  go_wp2_with (first | (go_at_call 51; have st_ := ST1; refine (signs1 g (nx p) w0 _ (FS.ps (w := w) (fb := w.heap.size) (cs := #[.string (nm p), .string ⟨#[]⟩, .string ⟨#[]⟩, .string ⟨#[]⟩]) (by repeat (first | exact FS.put HF.out _ _ rfl | apply FS.drewN))) (FS.bel (w := w) (fb := w.heap.size) (g := g) (p := nx p) (cs := #[.string (nm p), .string ⟨#[]⟩, .string ⟨#[]⟩, .string ⟨#[]⟩]) (by repeat (first | exact FS.put HF.out _ _ rfl | apply FS.drewN))) HT.out).mono ?_; rintro e wq ⟨rfl, hi2, hb2, hk2⟩; have n0_ : Aside0 (FS w0 w wq g w.heap.size (p1 p) #[.string (nm p), .string ⟨#[]⟩, .string ⟨#[]⟩, .string ⟨#[]⟩]) := ⟨by rw [← p1_eq]; exact FS.call (p := nx p) (by repeat (first | exact FS.put HF.out _ _ rfl | apply FS.drewN)) hi2 hb2 hk2⟩; clear HF; (try clear hcz0 hcz1 hcz2 hcz3 hfz0 hfz1 hfz2 hfz3); have hcz0 : wq.cell? ⟨w.heap.size, 0, none⟩ = some (.string (nm p)) := (blk_cell (FS.blk n0_.out) 0).trans rfl; have hfz0 := blk_frozen (FS.blk n0_.out) 0; have hcz1 : wq.cell? ⟨w.heap.size, 1, none⟩ = some (.string ⟨#[]⟩) := (blk_cell (FS.blk n0_.out) 1).trans rfl; have hfz1 := blk_frozen (FS.blk n0_.out) 1; have hcz2 : wq.cell? ⟨w.heap.size, 2, none⟩ = some (.string ⟨#[]⟩) := (blk_cell (FS.blk n0_.out) 2).trans rfl; have hfz2 := blk_frozen (FS.blk n0_.out) 2; have hcz3 : wq.cell? ⟨w.heap.size, 3, none⟩ = some (.string ⟨#[]⟩) := (blk_cell (FS.blk n0_.out) 3).trans rfl; have hfz3 := blk_frozen (FS.blk n0_.out) 3; have HF := n0_; clear n0_ hi2 hb2 hk2 st_ ST1; have ST2 := trivial) | (go_at_call 51; have st_ := ST3; refine (signs2 g (nx (p1 p)) w0 _ (FS.ps (w := w) (fb := w.heap.size) (cs := #[.string (nm p), .string (nm (p1 p)), .string ⟨#[]⟩, .string ⟨#[]⟩]) (by repeat (first | exact FS.put HF.out _ _ rfl | apply FS.drewN))) (FS.bel (w := w) (fb := w.heap.size) (g := g) (p := nx (p1 p)) (cs := #[.string (nm p), .string (nm (p1 p)), .string ⟨#[]⟩, .string ⟨#[]⟩]) (by repeat (first | exact FS.put HF.out _ _ rfl | apply FS.drewN))) HT.out).mono ?_; rintro e wq ⟨rfl, hi2, hb2, hk2⟩; have n0_ : Aside0 (FS w0 w wq g w.heap.size (p2 p) #[.string (nm p), .string (nm (p1 p)), .string ⟨#[]⟩, .string ⟨#[]⟩]) := ⟨by rw [← p2_eq]; exact FS.call (p := nx (p1 p)) (by repeat (first | exact FS.put HF.out _ _ rfl | apply FS.drewN)) hi2 hb2 hk2⟩; clear HF; (try clear hcz0 hcz1 hcz2 hcz3 hfz0 hfz1 hfz2 hfz3); have hcz0 : wq.cell? ⟨w.heap.size, 0, none⟩ = some (.string (nm p)) := (blk_cell (FS.blk n0_.out) 0).trans rfl; have hfz0 := blk_frozen (FS.blk n0_.out) 0; have hcz1 : wq.cell? ⟨w.heap.size, 1, none⟩ = some (.string (nm (p1 p))) := (blk_cell (FS.blk n0_.out) 1).trans rfl; have hfz1 := blk_frozen (FS.blk n0_.out) 1; have hcz2 : wq.cell? ⟨w.heap.size, 2, none⟩ = some (.string ⟨#[]⟩) := (blk_cell (FS.blk n0_.out) 2).trans rfl; have hfz2 := blk_frozen (FS.blk n0_.out) 2; have hcz3 : wq.cell? ⟨w.heap.size, 3, none⟩ = some (.string ⟨#[]⟩) := (blk_cell (FS.blk n0_.out) 3).trans rfl; have hfz3 := blk_frozen (FS.blk n0_.out) 3; have HF := n0_; clear n0_ hi2 hb2 hk2 st_ ST3; have ST4 := trivial) | (go_at_call 51; have st_ := ST5; refine (signs3 g (nx (p2 p)) w0 _ (FS.ps (w := w) (fb := w.heap.size) (cs := #[.string (nm p), .string (nm (p1 p)), .string (nm (p2 p)), .string ⟨#[]⟩]) (by repeat (first | exact FS.put HF.out _ _ rfl | apply FS.drewN))) (FS.bel (w := w) (fb := w.heap.size) (g := g) (p := nx (p2 p)) (cs := #[.string (nm p), .string (nm (p1 p)), .string (nm (p2 p)), .string ⟨#[]⟩]) (by repeat (first | exact FS.put HF.out _ _ rfl | apply FS.drewN))) HT.out).mono ?_; rintro e wq ⟨rfl, hi2, hb2, hk2⟩; have n0_ : Aside0 (FS w0 w wq g w.heap.size (p3 p) #[.string (nm p), .string (nm (p1 p)), .string (nm (p2 p)), .string ⟨#[]⟩]) := ⟨by rw [← p3_eq]; exact FS.call (p := nx (p2 p)) (by repeat (first | exact FS.put HF.out _ _ rfl | apply FS.drewN)) hi2 hb2 hk2⟩; clear HF; (try clear hcz0 hcz1 hcz2 hcz3 hfz0 hfz1 hfz2 hfz3); have hcz0 : wq.cell? ⟨w.heap.size, 0, none⟩ = some (.string (nm p)) := (blk_cell (FS.blk n0_.out) 0).trans rfl; have hfz0 := blk_frozen (FS.blk n0_.out) 0; have hcz1 : wq.cell? ⟨w.heap.size, 1, none⟩ = some (.string (nm (p1 p))) := (blk_cell (FS.blk n0_.out) 1).trans rfl; have hfz1 := blk_frozen (FS.blk n0_.out) 1; have hcz2 : wq.cell? ⟨w.heap.size, 2, none⟩ = some (.string (nm (p2 p))) := (blk_cell (FS.blk n0_.out) 2).trans rfl; have hfz2 := blk_frozen (FS.blk n0_.out) 2; have hcz3 : wq.cell? ⟨w.heap.size, 3, none⟩ = some (.string ⟨#[]⟩) := (blk_cell (FS.blk n0_.out) 3).trans rfl; have hfz3 := blk_frozen (FS.blk n0_.out) 3; have HF := n0_; clear n0_ hi2 hb2 hk2 st_ ST5; have ST6 := trivial) | (go_at_call 51; have st_ := ST7; refine (signs4 g (nx (p3 p)) w0 _ (FS.ps (w := w) (fb := w.heap.size) (cs := #[.string (nm p), .string (nm (p1 p)), .string (nm (p2 p)), .string (nm (p3 p))]) (by repeat (first | exact FS.put HF.out _ _ rfl | apply FS.drewN))) (FS.bel (w := w) (fb := w.heap.size) (g := g) (p := nx (p3 p)) (cs := #[.string (nm p), .string (nm (p1 p)), .string (nm (p2 p)), .string (nm (p3 p))]) (by repeat (first | exact FS.put HF.out _ _ rfl | apply FS.drewN))) HT.out).mono ?_; rintro e wq ⟨rfl, hi2, hb2, hk2⟩; have n0_ : Aside0 (FS w0 w wq g w.heap.size (p4 p) #[.string (nm p), .string (nm (p1 p)), .string (nm (p2 p)), .string (nm (p3 p))]) := ⟨by rw [← p4_eq]; exact FS.call (p := nx (p3 p)) (by repeat (first | exact FS.put HF.out _ _ rfl | apply FS.drewN)) hi2 hb2 hk2⟩; clear HF; (try clear hcz0 hcz1 hcz2 hcz3 hfz0 hfz1 hfz2 hfz3); have hcz0 : wq.cell? ⟨w.heap.size, 0, none⟩ = some (.string (nm p)) := (blk_cell (FS.blk n0_.out) 0).trans rfl; have hfz0 := blk_frozen (FS.blk n0_.out) 0; have hcz1 : wq.cell? ⟨w.heap.size, 1, none⟩ = some (.string (nm (p1 p))) := (blk_cell (FS.blk n0_.out) 1).trans rfl; have hfz1 := blk_frozen (FS.blk n0_.out) 1; have hcz2 : wq.cell? ⟨w.heap.size, 2, none⟩ = some (.string (nm (p2 p))) := (blk_cell (FS.blk n0_.out) 2).trans rfl; have hfz2 := blk_frozen (FS.blk n0_.out) 2; have hcz3 : wq.cell? ⟨w.heap.size, 3, none⟩ = some (.string (nm (p3 p))) := (blk_cell (FS.blk n0_.out) 3).trans rfl; have hfz3 := blk_frozen (FS.blk n0_.out) 3; have HF := n0_; clear n0_ hi2 hb2 hk2 st_ ST7; have ST8 := trivial) | (go_at_call 75; have st_ := ST0; refine (name_calls g p w0 _ (FS.ps (w := w) (fb := w.heap.size) (cs := #[.string ⟨#[]⟩, .string ⟨#[]⟩, .string ⟨#[]⟩, .string ⟨#[]⟩]) (by repeat (first | exact HF.out | apply FS.drewN))) (FS.bel (w := w) (fb := w.heap.size) (g := g) (p := p) (cs := #[.string ⟨#[]⟩, .string ⟨#[]⟩, .string ⟨#[]⟩, .string ⟨#[]⟩]) (by repeat (first | exact HF.out | apply FS.drewN))) HS0.out).mono ?_; rintro e wq ⟨rfl, hi2, hb2, hk2⟩; have n0_ : Aside0 (FS w0 w wq g w.heap.size (nx p) #[.string ⟨#[]⟩, .string ⟨#[]⟩, .string ⟨#[]⟩, .string ⟨#[]⟩]) := ⟨FS.call (p := p) (by repeat (first | exact HF.out | apply FS.drewN)) hi2 hb2 hk2⟩; clear HF; (try clear hcz0 hcz1 hcz2 hcz3 hfz0 hfz1 hfz2 hfz3); have hcz0 : wq.cell? ⟨w.heap.size, 0, none⟩ = some (.string ⟨#[]⟩) := (blk_cell (FS.blk n0_.out) 0).trans rfl; have hfz0 := blk_frozen (FS.blk n0_.out) 0; have hcz1 : wq.cell? ⟨w.heap.size, 1, none⟩ = some (.string ⟨#[]⟩) := (blk_cell (FS.blk n0_.out) 1).trans rfl; have hfz1 := blk_frozen (FS.blk n0_.out) 1; have hcz2 : wq.cell? ⟨w.heap.size, 2, none⟩ = some (.string ⟨#[]⟩) := (blk_cell (FS.blk n0_.out) 2).trans rfl; have hfz2 := blk_frozen (FS.blk n0_.out) 2; have hcz3 : wq.cell? ⟨w.heap.size, 3, none⟩ = some (.string ⟨#[]⟩) := (blk_cell (FS.blk n0_.out) 3).trans rfl; have hfz3 := blk_frozen (FS.blk n0_.out) 3; have HF := n0_; clear n0_ hi2 hb2 hk2 st_ ST0; have ST1 := trivial) | (go_at_call 75; have st_ := ST2; refine (name_calls g (p1 p) w0 _ (FS.ps (w := w) (fb := w.heap.size) (cs := #[.string (nm p), .string ⟨#[]⟩, .string ⟨#[]⟩, .string ⟨#[]⟩]) (by repeat (first | exact HF.out | apply FS.drewN))) (FS.bel (w := w) (fb := w.heap.size) (g := g) (p := (p1 p)) (cs := #[.string (nm p), .string ⟨#[]⟩, .string ⟨#[]⟩, .string ⟨#[]⟩]) (by repeat (first | exact HF.out | apply FS.drewN))) HS1.out).mono ?_; rintro e wq ⟨rfl, hi2, hb2, hk2⟩; have n0_ : Aside0 (FS w0 w wq g w.heap.size (nx (p1 p)) #[.string (nm p), .string ⟨#[]⟩, .string ⟨#[]⟩, .string ⟨#[]⟩]) := ⟨FS.call (p := (p1 p)) (by repeat (first | exact HF.out | apply FS.drewN)) hi2 hb2 hk2⟩; clear HF; (try clear hcz0 hcz1 hcz2 hcz3 hfz0 hfz1 hfz2 hfz3); have hcz0 : wq.cell? ⟨w.heap.size, 0, none⟩ = some (.string (nm p)) := (blk_cell (FS.blk n0_.out) 0).trans rfl; have hfz0 := blk_frozen (FS.blk n0_.out) 0; have hcz1 : wq.cell? ⟨w.heap.size, 1, none⟩ = some (.string ⟨#[]⟩) := (blk_cell (FS.blk n0_.out) 1).trans rfl; have hfz1 := blk_frozen (FS.blk n0_.out) 1; have hcz2 : wq.cell? ⟨w.heap.size, 2, none⟩ = some (.string ⟨#[]⟩) := (blk_cell (FS.blk n0_.out) 2).trans rfl; have hfz2 := blk_frozen (FS.blk n0_.out) 2; have hcz3 : wq.cell? ⟨w.heap.size, 3, none⟩ = some (.string ⟨#[]⟩) := (blk_cell (FS.blk n0_.out) 3).trans rfl; have hfz3 := blk_frozen (FS.blk n0_.out) 3; have HF := n0_; clear n0_ hi2 hb2 hk2 st_ ST2; have ST3 := trivial) | (go_at_call 75; have st_ := ST4; refine (name_calls g (p2 p) w0 _ (FS.ps (w := w) (fb := w.heap.size) (cs := #[.string (nm p), .string (nm (p1 p)), .string ⟨#[]⟩, .string ⟨#[]⟩]) (by repeat (first | exact HF.out | apply FS.drewN))) (FS.bel (w := w) (fb := w.heap.size) (g := g) (p := (p2 p)) (cs := #[.string (nm p), .string (nm (p1 p)), .string ⟨#[]⟩, .string ⟨#[]⟩]) (by repeat (first | exact HF.out | apply FS.drewN))) HS2.out).mono ?_; rintro e wq ⟨rfl, hi2, hb2, hk2⟩; have n0_ : Aside0 (FS w0 w wq g w.heap.size (nx (p2 p)) #[.string (nm p), .string (nm (p1 p)), .string ⟨#[]⟩, .string ⟨#[]⟩]) := ⟨FS.call (p := (p2 p)) (by repeat (first | exact HF.out | apply FS.drewN)) hi2 hb2 hk2⟩; clear HF; (try clear hcz0 hcz1 hcz2 hcz3 hfz0 hfz1 hfz2 hfz3); have hcz0 : wq.cell? ⟨w.heap.size, 0, none⟩ = some (.string (nm p)) := (blk_cell (FS.blk n0_.out) 0).trans rfl; have hfz0 := blk_frozen (FS.blk n0_.out) 0; have hcz1 : wq.cell? ⟨w.heap.size, 1, none⟩ = some (.string (nm (p1 p))) := (blk_cell (FS.blk n0_.out) 1).trans rfl; have hfz1 := blk_frozen (FS.blk n0_.out) 1; have hcz2 : wq.cell? ⟨w.heap.size, 2, none⟩ = some (.string ⟨#[]⟩) := (blk_cell (FS.blk n0_.out) 2).trans rfl; have hfz2 := blk_frozen (FS.blk n0_.out) 2; have hcz3 : wq.cell? ⟨w.heap.size, 3, none⟩ = some (.string ⟨#[]⟩) := (blk_cell (FS.blk n0_.out) 3).trans rfl; have hfz3 := blk_frozen (FS.blk n0_.out) 3; have HF := n0_; clear n0_ hi2 hb2 hk2 st_ ST4; have ST5 := trivial) | (go_at_call 75; have st_ := ST6; refine (name_calls g (p3 p) w0 _ (FS.ps (w := w) (fb := w.heap.size) (cs := #[.string (nm p), .string (nm (p1 p)), .string (nm (p2 p)), .string ⟨#[]⟩]) (by repeat (first | exact HF.out | apply FS.drewN))) (FS.bel (w := w) (fb := w.heap.size) (g := g) (p := (p3 p)) (cs := #[.string (nm p), .string (nm (p1 p)), .string (nm (p2 p)), .string ⟨#[]⟩]) (by repeat (first | exact HF.out | apply FS.drewN))) HS3.out).mono ?_; rintro e wq ⟨rfl, hi2, hb2, hk2⟩; have n0_ : Aside0 (FS w0 w wq g w.heap.size (nx (p3 p)) #[.string (nm p), .string (nm (p1 p)), .string (nm (p2 p)), .string ⟨#[]⟩]) := ⟨FS.call (p := (p3 p)) (by repeat (first | exact HF.out | apply FS.drewN)) hi2 hb2 hk2⟩; clear HF; (try clear hcz0 hcz1 hcz2 hcz3 hfz0 hfz1 hfz2 hfz3); have hcz0 : wq.cell? ⟨w.heap.size, 0, none⟩ = some (.string (nm p)) := (blk_cell (FS.blk n0_.out) 0).trans rfl; have hfz0 := blk_frozen (FS.blk n0_.out) 0; have hcz1 : wq.cell? ⟨w.heap.size, 1, none⟩ = some (.string (nm (p1 p))) := (blk_cell (FS.blk n0_.out) 1).trans rfl; have hfz1 := blk_frozen (FS.blk n0_.out) 1; have hcz2 : wq.cell? ⟨w.heap.size, 2, none⟩ = some (.string (nm (p2 p))) := (blk_cell (FS.blk n0_.out) 2).trans rfl; have hfz2 := blk_frozen (FS.blk n0_.out) 2; have hcz3 : wq.cell? ⟨w.heap.size, 3, none⟩ = some (.string ⟨#[]⟩) := (blk_cell (FS.blk n0_.out) 3).trans rfl; have hfz3 := blk_frozen (FS.blk n0_.out) 3; have HF := n0_; clear n0_ hi2 hb2 hk2 st_ ST6; have ST7 := trivial))
  have HE := FS.put (FS.put (FS.put (FS.put HF.out 0 (.string (nm p)) (cs2 := #[.string (nm p), .string (nm (p1 p)), .string (nm (p2 p)), .string (nm (p3 p))]) rfl) 1 (.string (nm (p1 p))) (cs2 := #[.string (nm p), .string (nm (p1 p)), .string (nm (p2 p)), .string (nm (p3 p))]) rfl) 2 (.string (nm (p2 p))) (cs2 := #[.string (nm p), .string (nm (p1 p)), .string (nm (p2 p)), .string (nm (p3 p))]) rfl) 3 (.string (nm (p3 p))) (cs2 := #[.string (nm p), .string (nm (p1 p)), .string (nm (p2 p)), .string (nm (p3 p))]) rfl
  refine bodyPost_ret (results_cell_row rfl _ _ w.heap.size 75 #[.string (nm p), .string (nm (p1 p)), .string (nm (p2 p)), .string (nm (p3 p))] (0, 0) _ rfl HE.blk Tryd.underlying75 rfl (by kernel_rfl)) rfl ?_
  exact ⟨rfl, HE.ps, HE.bel, HE.2.2.1⟩
end Go.Proofs.YtgobpenmemlieaaDoor.Lex
