/-
  DERIVED. GIVEN WITH THE SEED: THE CARDS: each row of YtgobpenmemlieaaDoorRows.lean that lists a variable, with what it lists TIED to the program's text (the seventh form; the later family's looks); each row that meets fmt, with fmt's text TOLD by the authors' own Lean function (tested against real Go, not proved from fmt's source: count such statements apart). THE CARD IS WHAT COUNTS. Prove the row's statement (the work); the ties are given (YtgobpenmemlieaaDoorTie.lean); close each card by the builder's one call (the guide's Derived/Test/ToyasCard.lean, 'card_holds'). Laid BY PROGRAM, IN A SANDBOX (cutbox-door.mjs). By AI agents, Wed Nov 11 2026. No macro, syntax, notation, axiom, sorry.
-/
import Derived.Test.YtgobpenmemlieaaDoorRows
import GoSem.ClaimSeven
namespace Go.Proofs.YtgobpenmemlieaaDoor
namespace Rows

/-- THE TIED CARD OF 'amanuensislaw4.SdlReads'. -/
def sdlReadsCard : Claim7 := { stood := { row := sdlReadsRow, standIns := [], harness := (true, "2a321853fd6888133f3cec328e32c3a5404dc10ea2630a945f9060726c7df963"), looks := false }, kinds := [], alts := [], laidByText := true, laidKinds := [.listed, .data], laidTests := true, laidLooks := .later }
def SdlReadsCardSaid : Prop := Claim7.holds Tryd.pinned (.plain (OpenSpec.ofChange sdlReadsSpec)) sdlReadsCard

/-- THE TIED CARD OF 'amanuensislaw4.SdlErrors'. -/
def sdlErrorsCard : Claim7 := { stood := { row := sdlErrorsRow, standIns := [], harness := (true, "2a321853fd6888133f3cec328e32c3a5404dc10ea2630a945f9060726c7df963"), looks := false }, kinds := [], alts := [], laidByText := true, laidKinds := [.listed, .data], laidTests := true, laidLooks := .later }
def SdlErrorsCardSaid : Prop := Claim7.holds Tryd.pinned (.plain (OpenSpec.ofChange sdlErrorsSpec)) sdlErrorsCard

/-- THE TIED CARD OF 'amanuensislaw4.SdlBack'. -/
def sdlBackCard : Claim7 := { stood := { row := sdlBackRow, standIns := [], harness := (true, "2a321853fd6888133f3cec328e32c3a5404dc10ea2630a945f9060726c7df963"), looks := false }, kinds := [], alts := [], laidByText := true, laidKinds := [.listed, .data], laidTests := true, laidLooks := .later }
def SdlBackCardSaid : Prop := Claim7.holds Tryd.pinned (.plain (OpenSpec.ofChange sdlBackSpec)) sdlBackCard

/-- THE TIED CARD OF 'amanuensislaw4.SdlPrints'. -/
def sdlPrintsCard : Claim7 := { stood := { row := sdlPrintsRow, standIns := [], harness := (true, "2a321853fd6888133f3cec328e32c3a5404dc10ea2630a945f9060726c7df963"), looks := false }, kinds := [], alts := [], laidByText := true, laidKinds := [.listed, .data], laidTests := true, laidLooks := .later }
def SdlPrintsCardSaid : Prop := Claim7.holds Tryd.pinned (.plain (OpenSpec.ofChange sdlPrintsSpec)) sdlPrintsCard

/-- THE SECOND FORM's CARD OF 'amanuensislaw4.SdlReads'. -/
def sdlReadsUptoCard : Claim7 := { stood := { row := sdlReadsUptoRow, standIns := [], harness := (true, "2a321853fd6888133f3cec328e32c3a5404dc10ea2630a945f9060726c7df963"), looks := false }, kinds := [], alts := [], laidByText := true, laidKinds := [.listed, .data], laidTests := true, laidLooks := .later }
def SdlReadsUptoCardSaid : Prop := Claim7.holds Tryd.pinned (.plain (OpenSpec.upto sdlReadsSpec)) sdlReadsUptoCard

/-- THE SECOND FORM's CARD OF 'amanuensislaw4.SdlErrors'. -/
def sdlErrorsUptoCard : Claim7 := { stood := { row := sdlErrorsUptoRow, standIns := [], harness := (true, "2a321853fd6888133f3cec328e32c3a5404dc10ea2630a945f9060726c7df963"), looks := false }, kinds := [], alts := [], laidByText := true, laidKinds := [.listed, .data], laidTests := true, laidLooks := .later }
def SdlErrorsUptoCardSaid : Prop := Claim7.holds Tryd.pinned (.plain (OpenSpec.upto sdlErrorsSpec)) sdlErrorsUptoCard

/-- THE SECOND FORM's CARD OF 'amanuensislaw4.SdlBack'. -/
def sdlBackUptoCard : Claim7 := { stood := { row := sdlBackUptoRow, standIns := [], harness := (true, "2a321853fd6888133f3cec328e32c3a5404dc10ea2630a945f9060726c7df963"), looks := false }, kinds := [], alts := [], laidByText := true, laidKinds := [.listed, .data], laidTests := true, laidLooks := .later }
def SdlBackUptoCardSaid : Prop := Claim7.holds Tryd.pinned (.plain (OpenSpec.upto sdlBackSpec)) sdlBackUptoCard

/-- THE SECOND FORM's CARD OF 'amanuensislaw4.SdlPrints'. -/
def sdlPrintsUptoCard : Claim7 := { stood := { row := sdlPrintsUptoRow, standIns := [], harness := (true, "2a321853fd6888133f3cec328e32c3a5404dc10ea2630a945f9060726c7df963"), looks := false }, kinds := [], alts := [], laidByText := true, laidKinds := [.listed, .data], laidTests := true, laidLooks := .later }
def SdlPrintsUptoCardSaid : Prop := Claim7.holds Tryd.pinned (.plain (OpenSpec.upto sdlPrintsSpec)) sdlPrintsUptoCard
end Rows
end Go.Proofs.YtgobpenmemlieaaDoor
