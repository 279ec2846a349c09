/-
  Two steps of a walk: a string becomes a row of bytes of the call's own; a row of bytes becomes a string.
-/
import Derived.Test.YtpemehpfkkjpiaaWWords
import Derived.Lib.ConvBytes
import Derived.Laws.BytesArg
import Derived.WalkKit
namespace Go.Proofs.Ytpemehpfkkjpiaa.Conv2
open Go.RowKit Go.Proofs.YtpemehpfkkjpiaaW.PrintWords
set_option linter.unusedVariables false
theorem bt_getD (s : ByteArray) (j : Nat) : (((s.data.toList.getD j 0).toNat : Nat) : Int) = (bytesOf s).getD j 0 := by
  unfold bytesOf
  rw [List.getD_eq_getElem?_getD, List.getD_eq_getElem?_getD, List.getElem?_map]
  cases s.data.toList[j]? <;> rfl
section
variable {P : Program} {ops : Array Oper} {rest : List Oper} {o : Oper} {a : Act} {Q : Exit → Act → World → Prop}
theorem conv_event {W : World} (hgd : o.guard = none) {N : Tmp} (_hd : o.dst = some N) {s : ByteArray} {src dst e : TypeId} {x : Operand} {u : TypeDesc} (hop : o.op = .convert src dst x) (hx : a.eval x = .string s)
    (hs : P.underlying src = some u) (hd : P.underlying dst = some (.slice e)) (he : P.underlying e = some (.int .u8))
    (h : ∀ g c w1, g = W.heap.size → (∀ j, j < s.size → w1.cell? ⟨g, j, none⟩ = some (.int .u8 ((bytesOf s).getD j 0))) → (∀ j, j < s.size → w1.frozen? ⟨g, j, none⟩ = false) → Below W.heap.size W w1 →
      wpList P ops Q rest (a.put o.dst (.slice (some ⟨g, 0, none⟩) s.size c)) w1) : wpList P ops Q (o :: rest) a W := by
  refine Kd.event_run hgd (v := .slice (some ⟨W.heap.size, 0, none⟩) s.size (grownCap W s.size 0 e)) (w1 := Lib.bytesWorld W e s) ?_ (h _ _ _ rfl ?_ ?_ ?_)
  · unfold execOp
    rw [hop]
    simp [hx, Lib.run_convert_string_bytes W src dst e s hs hd he, Result.andThen]
  · intro j hj
    rw [Lib.bytesWorld_cell W e s j hj, bt_getD]
  · intro j hj
    have hsz : s.size ≤ (Lib.bytesCells W e s).size := by
      unfold Lib.bytesCells
      rw [Array.size_append, Array.size_map]
      exact Nat.le_add_right _ _
    simp [World.frozen?, Lib.bytesWorld_at_new]
    omega
  · exact ⟨rfl, rfl, rfl, by rw [Lib.bytesWorld_size]; omega, fun i hi => Lib.bytesWorld_at_old W e s i hi⟩
theorem back_event {W : World} (hgd : o.guard = none) {N : Tmp} (_hd : o.dst = some N) {src dst e : TypeId} {x : Operand} {b n c : Nat} (xs : List Int) (hop : o.op = .convert src dst x) (hx : a.eval x = .slice (some ⟨b, 0, none⟩) n c)
    (hs : P.underlying src = some (.slice e)) (he : P.underlying e = some (.int .u8)) (hd : P.underlying dst = some .string) (hl : xs.length = n)
    (hc : ∀ i, i < n → W.cell? ⟨b, i, none⟩ = some (.int .u8 (xs.getD i 0)))
    (h : wpList P ops Q rest (a.put o.dst (.string (strOfNums xs))) W) : wpList P ops Q (o :: rest) a W := by
  refine Kd.event_run hgd (v := .string (strOfNums xs)) (w1 := W) ?_ h
  unfold execOp
  rw [hop]
  have := run_convert_bytes_arg (P := P) W src e hs he b 0 n c xs hl (fun i hi => by rw [Nat.zero_add]; exact hc i hi) dst hd
  simp [hx, this, Result.andThen]
theorem conv_run {W : World} {src dst e : TypeId} {x : Operand} {b n c : Nat} (xs : List Int) (hop : o.op = .convert src dst x) (hx : a.eval x = .slice (some ⟨b, 0, none⟩) n c)
    (hs : P.underlying src = some (.slice e)) (he : P.underlying e = some (.int .u8)) (hd : P.underlying dst = some .string) (hl : xs.length = n)
    (hc : ∀ i, i < n → W.cell? ⟨b, i, none⟩ = some (.int .u8 (xs.getD i 0))) : (execOp a.eval o).run P W = .ok (.value (.string (strOfNums xs))) W := by
  unfold execOp
  rw [hop]
  have := run_convert_bytes_arg (P := P) W src e hs he b 0 n c xs hl (fun i hi => by rw [Nat.zero_add]; exact hc i hi) dst hd
  simp [hx, this, Result.andThen]
theorem conv_read {W : World} {src dst e : TypeId} {x : Operand} {A : Option Addr} {n c : Nat} {xs : List Int} (hop : o.op = .convert src dst x) (hx : a.eval x = .slice A n c)
    (hs : P.underlying src = some (.slice e)) (he : P.underlying e = some (.int .u8)) (hd : P.underlying dst = some .string) (h : (Kd.int .u8).C W A n xs) : (execOp a.eval o).run P W = .ok (.value (.string (strOfNums xs))) W := by
  unfold execOp
  rw [hop]
  have := Kd.C_string (P := P) (src := src) (dst := dst) (c := c) hs he hd h
  simp [hx, this, Result.andThen]
end
end Go.Proofs.Ytpemehpfkkjpiaa.Conv2
