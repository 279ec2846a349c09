/- Packed by our own shrink.py: theorems that the claim does not use are left out. -/
import Derived.Test.YtgobpenmemlieaaDoorRows
import Derived.Test.YtgobpenmemlieaaDoorCards
import Derived.Test.YtgobpenmemlieaaDoorTie
import Derived.Test.YtgobpenmemlieaaDoorVFre
import Derived.Test.YtgobpenmemlieaaDoorVOpen
import Derived.WalkKit
import Derived.ProofKit
import Derived.OpenShut
import Derived.ShutString
import Derived.ChangeOld
import Derived.Below
import Derived.Carry
import Derived.SizedLaws
import Derived.LaidMore
import Derived.Lib.LaidTab
import Derived.SevenTiedAt
/-
  The law 'SdlReads' answers true whatever it is given, and its argument reads afterwards as it read before; and its tied card.
  Conditions: the tables strings.asciiSpace and unicode.White_Space hold what the program's own text lays (tied by the card). It is a card over a pruned copy of the program.
-/
namespace Go.Proofs.YtgobpenmemlieaaDoor.sdlReads
open Go.ChangeShapes Go.WideShapes Go.ChangeAt Go.RowKit Go.Deep
open Go.Proofs.YtgobpenmemlieaaDoorW.PrintWords Go.Proofs.YtgobpenmemlieaaDoor.Opening Go.Proofs.YtgobpenmemlieaaDoor.PSdlBack Go.Proofs.YtgobpenmemlieaaDoor.Lex
set_option linter.unusedVariables false
theorem own : ownKnob Tryd.prog.godebug = none := by kernel_rfl
theorem laidOut : laidOutB Tryd.prog = true := by kernel_rfl
theorem gSp : Tryd.prog.globalNamed "strings.asciiSpace" = some 0 := by kernel_rfl
theorem tSp : (Tryd.prog.globals[0]?).map (·.type) = some 115 := by kernel_rfl
abbrev laid2 : List (String × DataW Unit) := [("unicode.White_Space", Rows.laid_unicode_White_Space), ("strings.asciiSpace", Rows.laid_strings_asciiSpace)]
theorem tabD : (Rows.laid_strings_asciiSpace : DataW Unit) = Lib.tabData .u8 Lib.asciiSpaceTab := by kernel_rfl
/-- The door's own heap meets the condition. -/
theorem door_met (os : Os) (args : Array Value) : laidMetH Tryd.prog laid2 ((World.doorLaid Tryd.prog 2000 os).forCall (fun _ _ => 0) ⟨#[], args, []⟩).memory :=
  laidMetH_of_parts3 (fuel := 8) (laidMet_of_run' 8 (by kernel_rfl) (by kernel_rfl)) (by kernel_rfl) (by kernel_rfl)
theorem of_laid {W : World} (h : laidMetH Tryd.prog laid2 W) : Tab W := by
  rw [MakeChecks.laidMetH_plain _ _ _ (by kernel_rfl)] at h
  obtain ⟨ps, ⟨g0, t0, cs0, f0, p0, q0, hg0, ht0, hv0, hd0, ⟨g1, t1, cs1, f1, p1, q1, hg1, ht1, hv1, hd1, _, _⟩, _⟩, _, _⟩ := h
  obtain rfl := Option.some.inj (gSp.symm.trans hg1)
  obtain rfl := Option.some.inj (tSp.symm.trans ht1)
  rw [tabD] at hd1
  unfold Tab Lib.TabIs
  rw [hv1, ← Lib.cells_of_tab Tryd.underlying115 Tryd.underlying5 (by kernel_rfl) (by kernel_rfl) hd1]
set_option maxRecDepth 100000 in
/-- What the argument reads as. -/
theorem opensArg : Opens Tryd.prog 28 (Kd.pair (Kd.pair (Kd.slice 9 Kd.string) (Kd.slice 3 (Kd.int .i64))) (Kd.slice 32 (Kd.slice 54 k54))) (fun y : (List ByteArray × List Int) × List (List S54) => ((y.1.1.length * 16 ≤ 140737488351232 ∧ ∀ x ∈ y.1.1, x.size ≤ 140737488351232) ∧ (y.1.2.length * 8 ≤ 140737488351232 ∧ ∀ x ∈ y.1.2, (Lit.int .i64 x).wf = true)) ∧ (y.2.length * 24 ≤ 140737488351232 ∧ ∀ x ∈ y.2, (x.length * 56 ≤ 140737488351232 ∧ ∀ z ∈ x, (z.f0.size ≤ 140737488351232 ∧ (Lit.int .i64 z.f1).wf = true ∧ z.f2.size ≤ 140737488351232 ∧ z.f3.size ≤ 140737488351232)))) :=
  (opens_struct Tryd.underlying28 (by kernel_rfl) (opensFs_cons rfl rfl (opens_struct Tryd.underlying25 (by kernel_rfl) (opensFs_cons rfl rfl (opens_slice Tryd.underlying22 (by kernel_rfl) (by kernel_rfl) (opens_string Tryd.underlying9 (by kernel_rfl))) (opensFs_one rfl (opens_slice Tryd.underlying23 (by kernel_rfl) (by kernel_rfl) (opens_int Tryd.underlying3 (by kernel_rfl)))))) (opensFs_one rfl (opens_slice Tryd.underlying26 (by kernel_rfl) (by kernel_rfl) (opens_slice Tryd.underlying32 (by kernel_rfl) (by kernel_rfl) (opens_iso (fun x : S54 => (x.f0, x.f1, x.f2, x.f3)) (fun a => ⟨a.1, a.2.1, a.2.2.1, a.2.2.2⟩) (fun a => rfl) (opens_struct Tryd.underlying54 (by kernel_rfl) (opensFs_cons rfl rfl (opens_string Tryd.underlying9 (by kernel_rfl)) (opensFs_cons rfl rfl (opens_int Tryd.underlying3 (by kernel_rfl)) (opensFs_cons rfl rfl (opens_string Tryd.underlying9 (by kernel_rfl)) (opensFs_one rfl (opens_string Tryd.underlying9 (by kernel_rfl)))))))))))))
theorem walk (W : World) (hT : Tab W) (y : (List ByteArray × List Int) × List (List S54)) (cs : List Value) (hK : (Kd.pair (Kd.pair (Kd.slice 9 Kd.string) (Kd.slice 3 (Kd.int .i64))) (Kd.slice 32 (Kd.slice 54 k54))).K W y cs) (hB : ((y.1.1.length * 16 ≤ 140737488351232 ∧ ∀ x ∈ y.1.1, x.size ≤ 140737488351232) ∧ (y.1.2.length * 8 ≤ 140737488351232 ∧ ∀ x ∈ y.1.2, (Lit.int .i64 x).wf = true)) ∧ (y.2.length * 24 ≤ 140737488351232 ∧ ∀ x ∈ y.2, (x.length * 56 ≤ 140737488351232 ∧ ∀ z ∈ x, (z.f0.size ≤ 140737488351232 ∧ (Lit.int .i64 z.f1).wf = true ∧ z.f2.size ≤ 140737488351232 ∧ z.f3.size ≤ 140737488351232)))) :
    Calls Tryd.prog 3 #[.agg cs.toArray] W fun e w' => e = .returned (.bool true) ∧ Below W.heap.size W w' := by
  obtain ⟨_, _, rfl, ⟨_, _, rfl, ⟨A0, c0, rfl, h0, r0⟩, ⟨A1, c1, rfl, h1, r1⟩⟩, ⟨A2, c2, rfl, h2, r2⟩⟩ := hK
  exact SdlReads_all A0 c0 y.1.1 A1 c1 y.1.2 A2 c2 y.2 W r0 h0 r1 h1 r2 h2 hT hB
set_option maxRecDepth 100000 in
theorem lifted (os : Os) (started : os.Started) (H : Type) (enc : TypeId × Value → H) :
    ReturnsInHanded {} Tryd.checked os 3 .any (fun w args => (Rows.sdlReadsSpec.pre enc Tryd.prog Tryd.f3 [] false w args ∧ laidMetH Tryd.prog laid2 w) ∧ sizedMet enc Tryd.prog Tryd.f3 (OpenSpec.ofChange Rows.sdlReadsSpec) false w args)
      (Rows.sdlReadsSpec.post enc Tryd.prog Tryd.f3 false true false false) := by
  refine returnsInHanded_of_change_and (C := Tryd.checked) (X := fun w _ => laidMetH Tryd.prog laid2 w) (fun _ _ _ hh h => h.of_heap hh) own started (by kernel_rfl) Tryd.func3
    (ChangeSpec.witness_shaped (enc := enc) (C := Tryd.checked) (os := os) (X := fun w _ => laidMetH Tryd.prog laid2 w) false (World.doorLaid Tryd.prog 2000 os) #[.agg #[.slice none 0 0, .slice none 0 0, .slice none 0 0]] 8 rfl (World.shaped_of_RefB (by kernel_rfl) (by kernel_rfl)) (by kernel_rfl) (by kernel_rfl) (by kernel_rfl) (door_met os _)) ?_
  intro W base args ds gs before hval0 hW hcnd hsz0 hL _
  have hT := of_laid hL
  have hsz : (DataW.weightsEach Tryd.prog (Tryd.f3.params.toList ++ Rows.sdlReadsSpec.plain.varTypes Tryd.prog) (ds ++ gs)).all (· ≤ reachBytes) = true := hsz0
  have hval : ∀ (j : Nat) t v, Tryd.f3.params[j]? = some t → args[j]? = some v → Value.okWide Tryd.prog W .any base t v := hval0
  have hW' := hW
  obtain ⟨p, q, hA0, hV, rfl, hfz, hnd⟩ := hW
  have hA : DataW.TrodAll enc Tryd.prog W 0 (fun _ => true) true Tryd.f3.params.toList args.toList ds p := hA0
  rw [Tryd.params3] at hA hval hsz
  obtain ⟨v0, vs0, d0, ds0, p0, q0, hargs, rfl, rfl, h0, r0⟩ := trodAll_cons hA
  obtain ⟨rfl, rfl, rfl⟩ := trodAll_nil r0
  obtain rfl : args = #[v0] := by cases args; simp_all
  obtain ⟨rfl, rfl⟩ := trodVars_none hV
  obtain ⟨cs, rfl, hcs⟩ := okWide_struct Tryd.underlying28 (hval 0 28 v0 rfl rfl)
  have k0 := h0
  have lt0 : ∀ x ∈ p0, x.block < W.heap.size := by obtain ⟨m, hm⟩ := k0; exact DataW.trod_lt m _ _ _ hm
  obtain ⟨fuel, hf⟩ := h0
  obtain ⟨y, hK, hB⟩ := opensArg.2 H enc W 0 _ true fuel _ _ hf (fun m hm => by
    have hmem := DataW.weights_mem_each (ts := [28] ++ Rows.sdlReadsSpec.plain.varTypes Tryd.prog) (ds := [d0] ++ []) (j := 0) rfl rfl m hm
    simpa using List.all_eq_true.1 hsz _ hmem)
  have hw := walk W hT y cs.toList hK hB
  clear hA0 hval0 hsz0 hsz hf hK hB
  refine hw.mono fun e W' ⟨he, bel⟩ => ?_
  subst he
  exact ⟨_, rfl, _, _, _, [], _, [], hW', trodAll_mk1 (shut_bool Tryd.underlying4 _), (trodAll_cons_mk (Below.trod laidOut (by kernel_rfl) (of_decide_eq_true (by kernel_rfl)) k0 bel lt0) trodAll_mk0), rfl, bel.frame _, fun h => by cases h⟩
theorem over : Rows.SdlReadsSaid :=
  OpenClaim.holds_of_wide 3 Tryd.f3 rfl rfl rfl rfl rfl rfl rfl ⟨rfl, rfl, rfl, rfl, rfl⟩ rfl rfl rfl rfl rfl (by kernel_rfl) Tryd.func3 (by kernel_rfl)
    (of_decide_eq_true (by kernel_rfl)) (by unfold Func.isWrapper; first | (rw [if_pos (by decide +kernel)]; kernel_rfl) | (rw [if_neg (by decide +kernel)]; exact ⟨rfl, rfl⟩))
    (fun os started H enc _ => lifted os started H enc)
/-- The tied card. -/
theorem card : Rows.SdlReadsCardSaid :=
  Claim7.holds_tied_plain_at .later [] [.listed, .data] true (true, "2a321853fd6888133f3cec328e32c3a5404dc10ea2630a945f9060726c7df963") false
    over (fun _ h => by cases h) (by kernel_rfl) (fun _ h => by cases h) sdlReads_row_tie rfl ⟨rfl, rfl⟩ (by kernel_rfl) rfl
    (fun f fn hf hfn => by
      obtain rfl : f = 3 := Option.some.inj ((show Tryd.prog.funcNamed "amanuensis/amanuensislaw4.SdlReads" = some 3 by kernel_rfl).symm.trans hf) |>.symm
      obtain rfl : fn = Tryd.f3 := (Option.some.inj (Tryd.func3.symm.trans hfn)).symm
      exact ⟨by kernel_rfl, fun j t ht => by
        rw [Tryd.params3] at ht
        have h3 : t = 28 := by
          rcases j with _ | j
          · simpa using ht.symm
          · simp at ht
        subst h3
        exact (show Tryd.prog.wantsStandIn 28 = false by kernel_rfl)⟩)
    (by kernel_rfl)
#print axioms card
end Go.Proofs.YtgobpenmemlieaaDoor.sdlReads
namespace Go.Proofs.YtgobpenmemlieaaDoor
/-- The card, under a short name, for the claim. -/
theorem sdlReads_holds : Rows.SdlReadsCardSaid := sdlReads.card
end Go.Proofs.YtgobpenmemlieaaDoor
