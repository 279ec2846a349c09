/-
  The law 'SealExact' answers true whatever it is given, and its argument reads afterwards as it read before: the row, out of the law's contract and the pure statement.
-/
import Derived.Test.YtpemehpfkkjpiaaRows
import Derived.Test.YtpemehpfkkjpiaaWalkSealExact
import Derived.Test.YtpemehpfkkjpiaaRows
import Derived.Test.YtpemehpfkkjpiaaOpen
import Derived.WalkKit
import Derived.ProofKit
import Derived.OpenShut
import Derived.ShutString
import Derived.ChangeOld
import Derived.Below
import Derived.Carry
import Derived.SizedLaws
namespace Go.Proofs.Ytpemehpfkkjpiaa.sealExact
open Go.ChangeShapes Go.WideShapes Go.ChangeAt Go.RowKit Go.Deep
open Go.Proofs.YtpemehpfkkjpiaaW.PrintWords Go.Proofs.Ytpemehpfkkjpiaa.Opening Go.Proofs.Ytpemehpfkkjpiaa.PSealExact
set_option linter.unusedVariables false
theorem own : ownKnob Try.prog.godebug = none := by kernel_rfl
theorem laidOut : laidOutB Try.prog = true := by kernel_rfl
/-- What the argument reads as. -/
theorem opensArg : Opens Try.prog 40 (Kd.pair (Kd.slice 9 Kd.string) (Kd.slice 3 (Kd.int .i64))) (fun y : List ByteArray × List Int => (y.1.length * 16 ≤ 140737488351232 ∧ ∀ x ∈ y.1, x.size ≤ 140737488351232) ∧ (y.2.length * 8 ≤ 140737488351232 ∧ ∀ x ∈ y.2, (Lit.int .i64 x).wf = true)) :=
  (opens_struct Try.underlying40 (by kernel_rfl) (opensFs_cons rfl rfl (opens_slice Try.underlying37 (by kernel_rfl) (by kernel_rfl) (opens_string Try.underlying9 (by kernel_rfl))) (opensFs_one rfl (opens_slice Try.underlying38 (by kernel_rfl) (by kernel_rfl) (opens_int Try.underlying3 (by kernel_rfl))))))
theorem walk (W : World) (y : List ByteArray × List Int) (cs : List Value) (hK : (Kd.pair (Kd.slice 9 Kd.string) (Kd.slice 3 (Kd.int .i64))).K W y cs) (hB : (y.1.length * 16 ≤ 140737488351232 ∧ ∀ x ∈ y.1, x.size ≤ 140737488351232) ∧ (y.2.length * 8 ≤ 140737488351232 ∧ ∀ x ∈ y.2, (Lit.int .i64 x).wf = true)) :
    Calls Try.prog 4 #[.agg cs.toArray] W fun e w' => e = .returned (.bool true) ∧ Below W.heap.size W w' := by
  obtain ⟨_, _, rfl, ⟨A0, c0, rfl, h0, r0⟩, ⟨A1, c1, rfl, h1, r1⟩⟩ := hK
  exact amanuensislaw10_SealExact.calls y.1 y.2 A0 A1 c0 c1 W r0 h0 r1 h1 hB.1
set_option maxRecDepth 100000 in
theorem lifted (os : Os) (started : os.Started) (H : Type) (enc : TypeId × Value → H) :
    ReturnsInHanded {} Try.checked os 4 .any (Rows.sealExactSpec.pre6 enc Try.prog Try.f4 Rows.sealExactRow.domain false) (Rows.sealExactSpec.post enc Try.prog Try.f4 false true false false) := by
  refine returnsInHanded_of_change_sized (C := Try.checked) own started (by kernel_rfl) Try.func4
    (ChangeSpec.witness6 (enc := enc) (C := Try.checked) false ⟨#[], #[.agg #[.slice none 0 0, .slice none 0 0]], []⟩ 8 (by kernel_rfl) (by kernel_rfl) (by kernel_rfl) (by kernel_rfl)) ?_
  intro W base args ds gs before hval0 hW hcnd hsz0 _
  have hsz : (DataW.weightsEach Try.prog (Try.f4.params.toList ++ Rows.sealExactSpec.plain.varTypes Try.prog) (ds ++ gs)).all (· ≤ reachBytes) = true := hsz0
  have hval : ∀ (j : Nat) t v, Try.f4.params[j]? = some t → args[j]? = some v → Value.okWide Try.prog W .any base t v := hval0
  have hW' := hW
  obtain ⟨p, q, hA0, hV, rfl, hfz, hnd⟩ := hW
  have hA : DataW.TrodAll enc Try.prog W 0 (fun _ => true) true Try.f4.params.toList args.toList ds p := hA0
  rw [Try.params4] at hA hval hsz
  obtain ⟨v0, vs0, d0, ds0, p0, q0, hargs, rfl, rfl, h0, r0⟩ := trodAll_cons hA
  obtain ⟨rfl, rfl, rfl⟩ := trodAll_nil r0
  obtain rfl : args = #[v0] := by cases args; simp_all
  obtain ⟨rfl, rfl⟩ := trodVars_none hV
  obtain ⟨cs, rfl, hcs⟩ := okWide_struct Try.underlying40 (hval 0 40 v0 rfl rfl)
  have k0 := h0
  have lt0 : ∀ x ∈ p0, x.block < W.heap.size := by obtain ⟨m, hm⟩ := k0; exact DataW.trod_lt m _ _ _ hm
  obtain ⟨fuel, hf⟩ := h0
  obtain ⟨y, hK, hB⟩ := opensArg.2 H enc W 0 _ true fuel _ _ hf (fun m hm => by
    have hmem := DataW.weights_mem_each (ts := [40] ++ Rows.sealExactSpec.plain.varTypes Try.prog) (ds := [d0] ++ []) (j := 0) rfl rfl m hm
    simpa using List.all_eq_true.1 hsz _ hmem)
  have hw := walk W y cs.toList hK hB
  clear hA0 hval0 hsz0 hsz hf hK hB
  refine hw.mono fun e W' ⟨he, bel⟩ => ?_
  subst he
  exact ⟨_, rfl, _, _, _, [], _, [], hW', trodAll_mk1 (shut_bool Try.underlying4 _), (trodAll_cons_mk (Below.trod laidOut (by kernel_rfl) (of_decide_eq_true (by kernel_rfl)) k0 bel lt0) trodAll_mk0), rfl, bel.frame _, fun h => by cases h⟩
theorem over : Rows.sealExactRow.holds Try.pinned (OpenSpec.ofChange Rows.sealExactSpec) :=
  OpenClaim.holds_of_wide 4 Try.f4 rfl rfl rfl rfl rfl rfl rfl ⟨rfl, rfl, rfl, rfl, rfl⟩ rfl rfl rfl rfl rfl (by kernel_rfl) Try.func4 (by kernel_rfl)
    (of_decide_eq_true (by kernel_rfl)) (by unfold Func.isWrapper; first | (rw [if_pos (by decide +kernel)]; kernel_rfl) | (rw [if_neg (by decide +kernel)]; exact ⟨rfl, rfl⟩))
    (fun os started H enc _ => lifted os started H enc)
theorem proved : Rows.SealExactSaid := over
#print axioms proved
end Go.Proofs.Ytpemehpfkkjpiaa.sealExact
namespace Go.Proofs.Ytpemehpfkkjpiaa
/-- The row, under a short name, for the claim. -/
theorem sealExact_holds : Rows.SealExactSaid := sealExact.proved
end Go.Proofs.Ytpemehpfkkjpiaa
