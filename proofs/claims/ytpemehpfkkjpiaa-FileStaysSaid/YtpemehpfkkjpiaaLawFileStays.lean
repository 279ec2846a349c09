/-
  The law 'FileStays' answers true whatever it is given, and its argument reads afterwards as it read before: the row, out of the law's contract and the pure statement.
-/
import Derived.Test.YtpemehpfkkjpiaaRows
import Derived.Test.YtpemehpfkkjpiaaOFileStays
import Derived.Test.YtpemehpfkkjpiaaPureStays
import Derived.Test.YtpemehpfkkjpiaaOpen
import Derived.WalkKit
import Derived.ProofKit
import Derived.OpenShut
import Derived.ShutString
import Derived.ChangeOld
import Derived.Below
import Derived.Carry
import Derived.SizedLaws
namespace Go.Proofs.Ytpemehpfkkjpiaa.fileStays
open Go.ChangeShapes Go.WideShapes Go.ChangeAt Go.RowKit Go.Deep
open Go.Proofs.YtpemehpfkkjpiaaW.PrintWords Go.Proofs.Ytpemehpfkkjpiaa.Opening Go.Proofs.Ytpemehpfkkjpiaa.OFiles
set_option linter.unusedVariables false
theorem own : ownKnob Try.prog.godebug = none := by kernel_rfl
theorem laidOut : laidOutB Try.prog = true := by kernel_rfl
/-- What the argument reads as. -/
theorem opensArg : Opens Try.prog 26 (Kd.pair (Kd.pair Kd.string (Kd.pair Kd.string (Kd.int .i64))) (Kd.pair (Kd.int .i64) (Kd.slice 32 k32))) (fun y : (ByteArray × ByteArray × Int) × Int × List S32 => (y.1.1.size ≤ 140737488351232 ∧ y.1.2.1.size ≤ 140737488351232 ∧ (Lit.int .i64 y.1.2.2).wf = true) ∧ (Lit.int .i64 y.2.1).wf = true ∧ (y.2.2.length * 32 ≤ 140737488351232 ∧ ∀ x ∈ y.2.2, (Lit.int .i64 x.f0).wf = true ∧ (Lit.int .i64 x.f1).wf = true ∧ x.f2.size ≤ 140737488351232)) :=
  (opens_struct Try.underlying26 (by kernel_rfl) (opensFs_cons rfl rfl (opens_struct Try.underlying23 (by kernel_rfl) (opensFs_cons rfl rfl (opens_string Try.underlying9 (by kernel_rfl)) (opensFs_cons rfl rfl (opens_string Try.underlying9 (by kernel_rfl)) (opensFs_one rfl (opens_int Try.underlying3 (by kernel_rfl)))))) (opensFs_cons rfl rfl (opens_int Try.underlying3 (by kernel_rfl)) (opensFs_one rfl (opens_slice Try.underlying24 (by kernel_rfl) (by kernel_rfl) (opens_iso (fun x : S32 => (x.f0, x.f1, x.f2)) (fun a => ⟨a.1, a.2.1, a.2.2⟩) (fun a => rfl) (opens_struct Try.underlying32 (by kernel_rfl) (opensFs_cons rfl rfl (opens_int Try.underlying3 (by kernel_rfl)) (opensFs_cons rfl rfl (opens_int Try.underlying3 (by kernel_rfl)) (opensFs_one rfl (opens_string Try.underlying9 (by kernel_rfl))))))))))))
theorem walk (W : World) (y : (ByteArray × ByteArray × Int) × Int × List S32) (cs : List Value) (hK : (Kd.pair (Kd.pair Kd.string (Kd.pair Kd.string (Kd.int .i64))) (Kd.pair (Kd.int .i64) (Kd.slice 32 k32))).K W y cs) (hB : (y.1.1.size ≤ 140737488351232 ∧ y.1.2.1.size ≤ 140737488351232 ∧ (Lit.int .i64 y.1.2.2).wf = true) ∧ (Lit.int .i64 y.2.1).wf = true ∧ (y.2.2.length * 32 ≤ 140737488351232 ∧ ∀ x ∈ y.2.2, (Lit.int .i64 x.f0).wf = true ∧ (Lit.int .i64 x.f1).wf = true ∧ x.f2.size ≤ 140737488351232)) :
    Calls Try.prog 3 #[.agg cs.toArray] W fun e w' => e = .returned (.bool true) ∧ Below W.heap.size W w' := by
  obtain ⟨_, _, rfl, ⟨_, _, rfl, rfl, ⟨_, _, rfl, rfl, rfl⟩⟩, ⟨_, _, rfl, rfl, ⟨A0, c0, rfl, h0, r0⟩⟩⟩ := hK
  obtain ⟨k, h⟩ := Pure.FileStays y.1.1 y.1.2.1 y.1.2.2 y.2.1 y.2.2 hB.1 hB.2.1 hB.2.2
  exact FStays.calls k y.1.1 y.1.2.1 y.1.2.2 y.2.1 A0 c0 y.2.2 W r0 h0 h
set_option maxRecDepth 100000 in
theorem lifted (os : Os) (started : os.Started) (H : Type) (enc : TypeId × Value → H) :
    ReturnsInHanded {} Try.checked os 3 .any (Rows.fileStaysSpec.pre6 enc Try.prog Try.f3 Rows.fileStaysRow.domain false) (Rows.fileStaysSpec.post enc Try.prog Try.f3 false true false false) := by
  refine returnsInHanded_of_change_sized (C := Try.checked) own started (by kernel_rfl) Try.func3
    (ChangeSpec.witness6 (enc := enc) (C := Try.checked) false ⟨#[], #[.agg #[.string ByteArray.empty, .string ByteArray.empty, .int .i64 0, .int .i64 0, .slice none 0 0]], []⟩ 8 (by kernel_rfl) (by kernel_rfl) (by kernel_rfl) (by kernel_rfl)) ?_
  intro W base args ds gs before hval0 hW hcnd hsz0 _
  have hsz : (DataW.weightsEach Try.prog (Try.f3.params.toList ++ Rows.fileStaysSpec.plain.varTypes Try.prog) (ds ++ gs)).all (· ≤ reachBytes) = true := hsz0
  have hval : ∀ (j : Nat) t v, Try.f3.params[j]? = some t → args[j]? = some v → Value.okWide Try.prog W .any base t v := hval0
  have hW' := hW
  obtain ⟨p, q, hA0, hV, rfl, hfz, hnd⟩ := hW
  have hA : DataW.TrodAll enc Try.prog W 0 (fun _ => true) true Try.f3.params.toList args.toList ds p := hA0
  rw [Try.params3] at hA hval hsz
  obtain ⟨v0, vs0, d0, ds0, p0, q0, hargs, rfl, rfl, h0, r0⟩ := trodAll_cons hA
  obtain ⟨rfl, rfl, rfl⟩ := trodAll_nil r0
  obtain rfl : args = #[v0] := by cases args; simp_all
  obtain ⟨rfl, rfl⟩ := trodVars_none hV
  obtain ⟨cs, rfl, hcs⟩ := okWide_struct Try.underlying26 (hval 0 26 v0 rfl rfl)
  have k0 := h0
  have lt0 : ∀ x ∈ p0, x.block < W.heap.size := by obtain ⟨m, hm⟩ := k0; exact DataW.trod_lt m _ _ _ hm
  obtain ⟨fuel, hf⟩ := h0
  obtain ⟨y, hK, hB⟩ := opensArg.2 H enc W 0 _ true fuel _ _ hf (fun m hm => by
    have hmem := DataW.weights_mem_each (ts := [26] ++ Rows.fileStaysSpec.plain.varTypes Try.prog) (ds := [d0] ++ []) (j := 0) rfl rfl m hm
    simpa using List.all_eq_true.1 hsz _ hmem)
  have hw := walk W y cs.toList hK hB
  clear hA0 hval0 hsz0 hsz hf hK hB
  refine hw.mono fun e W' ⟨he, bel⟩ => ?_
  subst he
  exact ⟨_, rfl, _, _, _, [], _, [], hW', trodAll_mk1 (shut_bool Try.underlying4 _), (trodAll_cons_mk (Below.trod laidOut (by kernel_rfl) (of_decide_eq_true (by kernel_rfl)) k0 bel lt0) trodAll_mk0), rfl, bel.frame _, fun h => by cases h⟩
theorem over : Rows.fileStaysRow.holds Try.pinned (OpenSpec.ofChange Rows.fileStaysSpec) :=
  OpenClaim.holds_of_wide 3 Try.f3 rfl rfl rfl rfl rfl rfl rfl ⟨rfl, rfl, rfl, rfl, rfl⟩ rfl rfl rfl rfl rfl (by kernel_rfl) Try.func3 (by kernel_rfl)
    (of_decide_eq_true (by kernel_rfl)) (by unfold Func.isWrapper; first | (rw [if_pos (by decide +kernel)]; kernel_rfl) | (rw [if_neg (by decide +kernel)]; exact ⟨rfl, rfl⟩))
    (fun os started H enc _ => lifted os started H enc)
theorem proved : Rows.FileStaysSaid := over
#print axioms proved
end Go.Proofs.Ytpemehpfkkjpiaa.fileStays
namespace Go.Proofs.Ytpemehpfkkjpiaa
/-- The row, under a short name, for the claim. -/
theorem fileStays_holds : Rows.FileStaysSaid := fileStays.proved
end Go.Proofs.Ytpemehpfkkjpiaa
