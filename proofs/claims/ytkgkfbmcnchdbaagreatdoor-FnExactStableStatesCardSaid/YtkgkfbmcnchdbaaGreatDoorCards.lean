/-
  DERIVED. GIVEN WITH THE SEED: THE CARDS: each row of YtkgkfbmcnchdbaaGreatDoorRows.lean that lists a variable, with what it lists TIED to the program's text (the seventh form; the later family's looks); each row that meets fmt, with fmt's text TOLD by the authors' own Lean function (tested against real Go, not proved from fmt's source: count such statements apart). THE CARD IS WHAT COUNTS. Prove the row's statement (the work); the ties are given (YtkgkfbmcnchdbaaGreatDoorTie.lean); close each card by the builder's one call (the guide's Derived/Test/ToyasCard.lean, 'card_holds'). Laid BY PROGRAM, IN A SANDBOX (cutbox-door.mjs). By AI agents, Wed Nov 11 2026. No macro, syntax, notation, axiom, sorry.
-/
import Derived.Test.YtkgkfbmcnchdbaaGreatDoorRows
import GoSem.ClaimSeven
namespace Go.Proofs.YtkgkfbmcnchdbaaGreatDoor
namespace Rows

/-- THE TIED CARD OF 'laws.FnExactValidLts'. -/
def fnExactValidLtsCard : Claim7 := { stood := { row := fnExactValidLtsRow, standIns := [], harness := (true, "57c9f75092b5d57ec6db75b90eda318b8ed19d9ac5b5b69996b434bfd2b6f7b4"), looks := true }, kinds := [], alts := [], laidByText := true, laidKinds := [.data, .data, .data, .data, .sentinel, .sentinel, .pinned], laidTests := true, laidLooks := .later }
def FnExactValidLtsCardSaid : Prop := Claim7.holds Tryz.pinned (.plain (OpenSpec.ofChange fnExactValidLtsSpec)) fnExactValidLtsCard

/-- THE TIED CARD OF 'laws.FnExactIsDeterministicLts'. -/
def fnExactIsDeterministicLtsCard : Claim7 := { stood := { row := fnExactIsDeterministicLtsRow, standIns := [], harness := (true, "57c9f75092b5d57ec6db75b90eda318b8ed19d9ac5b5b69996b434bfd2b6f7b4"), looks := true }, kinds := [], alts := [], laidByText := true, laidKinds := [.data, .data, .data, .data, .sentinel, .sentinel, .pinned], laidTests := true, laidLooks := .later }
def FnExactIsDeterministicLtsCardSaid : Prop := Claim7.holds Tryz.pinned (.plain (OpenSpec.ofChange fnExactIsDeterministicLtsSpec)) fnExactIsDeterministicLtsCard

/-- THE TIED CARD OF 'laws.FnExactEndOfPath'. -/
def fnExactEndOfPathCard : Claim7 := { stood := { row := fnExactEndOfPathRow, standIns := [], harness := (true, "57c9f75092b5d57ec6db75b90eda318b8ed19d9ac5b5b69996b434bfd2b6f7b4"), looks := true }, kinds := [], alts := [], laidByText := true, laidKinds := [.data, .data, .data, .data, .sentinel, .sentinel, .pinned], laidTests := true, laidLooks := .later }
def FnExactEndOfPathCardSaid : Prop := Claim7.holds Tryz.pinned (.plain (OpenSpec.ofChange fnExactEndOfPathSpec)) fnExactEndOfPathCard

/-- THE TIED CARD OF 'laws.FnExactOutOf'. -/
def fnExactOutOfCard : Claim7 := { stood := { row := fnExactOutOfRow, standIns := [], harness := (true, "57c9f75092b5d57ec6db75b90eda318b8ed19d9ac5b5b69996b434bfd2b6f7b4"), looks := true }, kinds := [], alts := [], laidByText := true, laidKinds := [.data, .data, .data, .data, .sentinel, .sentinel, .pinned], laidTests := true, laidLooks := .later }
def FnExactOutOfCardSaid : Prop := Claim7.holds Tryz.pinned (.plain (OpenSpec.ofChange fnExactOutOfSpec)) fnExactOutOfCard

/-- THE TIED CARD OF 'laws.FnExactPathLabels'. -/
def fnExactPathLabelsCard : Claim7 := { stood := { row := fnExactPathLabelsRow, standIns := [], harness := (true, "57c9f75092b5d57ec6db75b90eda318b8ed19d9ac5b5b69996b434bfd2b6f7b4"), looks := true }, kinds := [], alts := [], laidByText := true, laidKinds := [.data, .data, .data, .data, .sentinel, .sentinel, .pinned], laidTests := true, laidLooks := .later }
def FnExactPathLabelsCardSaid : Prop := Claim7.holds Tryz.pinned (.plain (OpenSpec.ofChange fnExactPathLabelsSpec)) fnExactPathLabelsCard

/-- THE TIED CARD OF 'laws.FnExactDistancesOf'. -/
def fnExactDistancesOfCard : Claim7 := { stood := { row := fnExactDistancesOfRow, standIns := [], harness := (true, "57c9f75092b5d57ec6db75b90eda318b8ed19d9ac5b5b69996b434bfd2b6f7b4"), looks := true }, kinds := [], alts := [], laidByText := true, laidKinds := [.data, .data, .data, .data, .sentinel, .sentinel, .pinned], laidTests := true, laidLooks := .later }
def FnExactDistancesOfCardSaid : Prop := Claim7.holds Tryz.pinned (.plain (OpenSpec.ofChange fnExactDistancesOfSpec)) fnExactDistancesOfCard

/-- THE TIED CARD OF 'laws.FnExactInertEdges'. -/
def fnExactInertEdgesCard : Claim7 := { stood := { row := fnExactInertEdgesRow, standIns := [], harness := (true, "57c9f75092b5d57ec6db75b90eda318b8ed19d9ac5b5b69996b434bfd2b6f7b4"), looks := true }, kinds := [], alts := [], laidByText := true, laidKinds := [.data, .data, .data, .data, .sentinel, .sentinel, .pinned], laidTests := true, laidLooks := .later }
def FnExactInertEdgesCardSaid : Prop := Claim7.holds Tryz.pinned (.plain (OpenSpec.ofChange fnExactInertEdgesSpec)) fnExactInertEdgesCard

/-- THE TIED CARD OF 'laws.FnExactDivergentStates'. -/
def fnExactDivergentStatesCard : Claim7 := { stood := { row := fnExactDivergentStatesRow, standIns := [], harness := (true, "57c9f75092b5d57ec6db75b90eda318b8ed19d9ac5b5b69996b434bfd2b6f7b4"), looks := true }, kinds := [], alts := [], laidByText := true, laidKinds := [.data, .data, .data, .data, .sentinel, .sentinel, .pinned], laidTests := true, laidLooks := .later }
def FnExactDivergentStatesCardSaid : Prop := Claim7.holds Tryz.pinned (.plain (OpenSpec.ofChange fnExactDivergentStatesSpec)) fnExactDivergentStatesCard

/-- THE TIED CARD OF 'laws.FnExactReachableStates'. -/
def fnExactReachableStatesCard : Claim7 := { stood := { row := fnExactReachableStatesRow, standIns := [], harness := (true, "57c9f75092b5d57ec6db75b90eda318b8ed19d9ac5b5b69996b434bfd2b6f7b4"), looks := true }, kinds := [], alts := [], laidByText := true, laidKinds := [.data, .data, .data, .data, .sentinel, .sentinel, .pinned], laidTests := true, laidLooks := .later }
def FnExactReachableStatesCardSaid : Prop := Claim7.holds Tryz.pinned (.plain (OpenSpec.ofChange fnExactReachableStatesSpec)) fnExactReachableStatesCard

/-- THE TIED CARD OF 'laws.FnExactDeadlocksOf'. -/
def fnExactDeadlocksOfCard : Claim7 := { stood := { row := fnExactDeadlocksOfRow, standIns := [], harness := (true, "57c9f75092b5d57ec6db75b90eda318b8ed19d9ac5b5b69996b434bfd2b6f7b4"), looks := true }, kinds := [], alts := [], laidByText := true, laidKinds := [.data, .data, .data, .data, .sentinel, .sentinel, .pinned], laidTests := true, laidLooks := .later }
def FnExactDeadlocksOfCardSaid : Prop := Claim7.holds Tryz.pinned (.plain (OpenSpec.ofChange fnExactDeadlocksOfSpec)) fnExactDeadlocksOfCard

/-- THE TIED CARD OF 'laws.FnExactShortestPath'. -/
def fnExactShortestPathCard : Claim7 := { stood := { row := fnExactShortestPathRow, standIns := [], harness := (true, "57c9f75092b5d57ec6db75b90eda318b8ed19d9ac5b5b69996b434bfd2b6f7b4"), looks := true }, kinds := [], alts := [], laidByText := true, laidKinds := [.data, .data, .data, .data, .sentinel, .sentinel, .pinned], laidTests := true, laidLooks := .later }
def FnExactShortestPathCardSaid : Prop := Claim7.holds Tryz.pinned (.plain (OpenSpec.ofChange fnExactShortestPathSpec)) fnExactShortestPathCard

/-- THE TIED CARD OF 'laws.FnExactSuccessorsOf'. -/
def fnExactSuccessorsOfCard : Claim7 := { stood := { row := fnExactSuccessorsOfRow, standIns := [], harness := (true, "57c9f75092b5d57ec6db75b90eda318b8ed19d9ac5b5b69996b434bfd2b6f7b4"), looks := true }, kinds := [], alts := [], laidByText := true, laidKinds := [.data, .data, .data, .data, .sentinel, .sentinel, .pinned], laidTests := true, laidLooks := .later }
def FnExactSuccessorsOfCardSaid : Prop := Claim7.holds Tryz.pinned (.plain (OpenSpec.ofChange fnExactSuccessorsOfSpec)) fnExactSuccessorsOfCard

/-- THE TIED CARD OF 'laws.FnExactSubSystem'. -/
def fnExactSubSystemCard : Claim7 := { stood := { row := fnExactSubSystemRow, standIns := [], harness := (true, "57c9f75092b5d57ec6db75b90eda318b8ed19d9ac5b5b69996b434bfd2b6f7b4"), looks := true }, kinds := [], alts := [], laidByText := true, laidKinds := [.data, .data, .data, .data, .sentinel, .sentinel, .pinned], laidTests := true, laidLooks := .later }
def FnExactSubSystemCardSaid : Prop := Claim7.holds Tryz.pinned (.plain (OpenSpec.ofChange fnExactSubSystemSpec)) fnExactSubSystemCard

/-- THE TIED CARD OF 'laws.FnExactStableStates'. -/
def fnExactStableStatesCard : Claim7 := { stood := { row := fnExactStableStatesRow, standIns := [], harness := (true, "57c9f75092b5d57ec6db75b90eda318b8ed19d9ac5b5b69996b434bfd2b6f7b4"), looks := true }, kinds := [], alts := [], laidByText := true, laidKinds := [.data, .data, .data, .data, .sentinel, .sentinel, .pinned], laidTests := true, laidLooks := .later }
def FnExactStableStatesCardSaid : Prop := Claim7.holds Tryz.pinned (.plain (OpenSpec.ofChange fnExactStableStatesSpec)) fnExactStableStatesCard

/-- THE TIED CARD OF 'laws.FnExactInternalClosure'. -/
def fnExactInternalClosureCard : Claim7 := { stood := { row := fnExactInternalClosureRow, standIns := [], harness := (true, "57c9f75092b5d57ec6db75b90eda318b8ed19d9ac5b5b69996b434bfd2b6f7b4"), looks := true }, kinds := [], alts := [], laidByText := true, laidKinds := [.data, .data, .data, .data, .sentinel, .sentinel, .pinned], laidTests := true, laidLooks := .later }
def FnExactInternalClosureCardSaid : Prop := Claim7.holds Tryz.pinned (.plain (OpenSpec.ofChange fnExactInternalClosureSpec)) fnExactInternalClosureCard

/-- THE TIED CARD OF 'laws.FnExactIsCompletedTrace'. -/
def fnExactIsCompletedTraceCard : Claim7 := { stood := { row := fnExactIsCompletedTraceRow, standIns := [], harness := (true, "57c9f75092b5d57ec6db75b90eda318b8ed19d9ac5b5b69996b434bfd2b6f7b4"), looks := true }, kinds := [], alts := [], laidByText := true, laidKinds := [.data, .data, .data, .data, .sentinel, .sentinel, .pinned], laidTests := true, laidLooks := .later }
def FnExactIsCompletedTraceCardSaid : Prop := Claim7.holds Tryz.pinned (.plain (OpenSpec.ofChange fnExactIsCompletedTraceSpec)) fnExactIsCompletedTraceCard

/-- THE SECOND FORM's CARD OF 'laws.FnExactValidLts'. -/
def fnExactValidLtsUptoCard : Claim7 := { stood := { row := fnExactValidLtsUptoRow, standIns := [], harness := (true, "57c9f75092b5d57ec6db75b90eda318b8ed19d9ac5b5b69996b434bfd2b6f7b4"), looks := true }, kinds := [], alts := [], laidByText := true, laidKinds := [.data, .data, .data, .data, .sentinel, .sentinel, .pinned], laidTests := true, laidLooks := .later }
def FnExactValidLtsUptoCardSaid : Prop := Claim7.holds Tryz.pinned (.plain (OpenSpec.upto fnExactValidLtsSpec)) fnExactValidLtsUptoCard

/-- THE SECOND FORM's CARD OF 'laws.FnExactIsDeterministicLts'. -/
def fnExactIsDeterministicLtsUptoCard : Claim7 := { stood := { row := fnExactIsDeterministicLtsUptoRow, standIns := [], harness := (true, "57c9f75092b5d57ec6db75b90eda318b8ed19d9ac5b5b69996b434bfd2b6f7b4"), looks := true }, kinds := [], alts := [], laidByText := true, laidKinds := [.data, .data, .data, .data, .sentinel, .sentinel, .pinned], laidTests := true, laidLooks := .later }
def FnExactIsDeterministicLtsUptoCardSaid : Prop := Claim7.holds Tryz.pinned (.plain (OpenSpec.upto fnExactIsDeterministicLtsSpec)) fnExactIsDeterministicLtsUptoCard

/-- THE SECOND FORM's CARD OF 'laws.FnExactEndOfPath'. -/
def fnExactEndOfPathUptoCard : Claim7 := { stood := { row := fnExactEndOfPathUptoRow, standIns := [], harness := (true, "57c9f75092b5d57ec6db75b90eda318b8ed19d9ac5b5b69996b434bfd2b6f7b4"), looks := true }, kinds := [], alts := [], laidByText := true, laidKinds := [.data, .data, .data, .data, .sentinel, .sentinel, .pinned], laidTests := true, laidLooks := .later }
def FnExactEndOfPathUptoCardSaid : Prop := Claim7.holds Tryz.pinned (.plain (OpenSpec.upto fnExactEndOfPathSpec)) fnExactEndOfPathUptoCard

/-- THE SECOND FORM's CARD OF 'laws.FnExactOutOf'. -/
def fnExactOutOfUptoCard : Claim7 := { stood := { row := fnExactOutOfUptoRow, standIns := [], harness := (true, "57c9f75092b5d57ec6db75b90eda318b8ed19d9ac5b5b69996b434bfd2b6f7b4"), looks := true }, kinds := [], alts := [], laidByText := true, laidKinds := [.data, .data, .data, .data, .sentinel, .sentinel, .pinned], laidTests := true, laidLooks := .later }
def FnExactOutOfUptoCardSaid : Prop := Claim7.holds Tryz.pinned (.plain (OpenSpec.upto fnExactOutOfSpec)) fnExactOutOfUptoCard

/-- THE SECOND FORM's CARD OF 'laws.FnExactPathLabels'. -/
def fnExactPathLabelsUptoCard : Claim7 := { stood := { row := fnExactPathLabelsUptoRow, standIns := [], harness := (true, "57c9f75092b5d57ec6db75b90eda318b8ed19d9ac5b5b69996b434bfd2b6f7b4"), looks := true }, kinds := [], alts := [], laidByText := true, laidKinds := [.data, .data, .data, .data, .sentinel, .sentinel, .pinned], laidTests := true, laidLooks := .later }
def FnExactPathLabelsUptoCardSaid : Prop := Claim7.holds Tryz.pinned (.plain (OpenSpec.upto fnExactPathLabelsSpec)) fnExactPathLabelsUptoCard

/-- THE SECOND FORM's CARD OF 'laws.FnExactDistancesOf'. -/
def fnExactDistancesOfUptoCard : Claim7 := { stood := { row := fnExactDistancesOfUptoRow, standIns := [], harness := (true, "57c9f75092b5d57ec6db75b90eda318b8ed19d9ac5b5b69996b434bfd2b6f7b4"), looks := true }, kinds := [], alts := [], laidByText := true, laidKinds := [.data, .data, .data, .data, .sentinel, .sentinel, .pinned], laidTests := true, laidLooks := .later }
def FnExactDistancesOfUptoCardSaid : Prop := Claim7.holds Tryz.pinned (.plain (OpenSpec.upto fnExactDistancesOfSpec)) fnExactDistancesOfUptoCard

/-- THE SECOND FORM's CARD OF 'laws.FnExactInertEdges'. -/
def fnExactInertEdgesUptoCard : Claim7 := { stood := { row := fnExactInertEdgesUptoRow, standIns := [], harness := (true, "57c9f75092b5d57ec6db75b90eda318b8ed19d9ac5b5b69996b434bfd2b6f7b4"), looks := true }, kinds := [], alts := [], laidByText := true, laidKinds := [.data, .data, .data, .data, .sentinel, .sentinel, .pinned], laidTests := true, laidLooks := .later }
def FnExactInertEdgesUptoCardSaid : Prop := Claim7.holds Tryz.pinned (.plain (OpenSpec.upto fnExactInertEdgesSpec)) fnExactInertEdgesUptoCard

/-- THE SECOND FORM's CARD OF 'laws.FnExactDivergentStates'. -/
def fnExactDivergentStatesUptoCard : Claim7 := { stood := { row := fnExactDivergentStatesUptoRow, standIns := [], harness := (true, "57c9f75092b5d57ec6db75b90eda318b8ed19d9ac5b5b69996b434bfd2b6f7b4"), looks := true }, kinds := [], alts := [], laidByText := true, laidKinds := [.data, .data, .data, .data, .sentinel, .sentinel, .pinned], laidTests := true, laidLooks := .later }
def FnExactDivergentStatesUptoCardSaid : Prop := Claim7.holds Tryz.pinned (.plain (OpenSpec.upto fnExactDivergentStatesSpec)) fnExactDivergentStatesUptoCard

/-- THE SECOND FORM's CARD OF 'laws.FnExactReachableStates'. -/
def fnExactReachableStatesUptoCard : Claim7 := { stood := { row := fnExactReachableStatesUptoRow, standIns := [], harness := (true, "57c9f75092b5d57ec6db75b90eda318b8ed19d9ac5b5b69996b434bfd2b6f7b4"), looks := true }, kinds := [], alts := [], laidByText := true, laidKinds := [.data, .data, .data, .data, .sentinel, .sentinel, .pinned], laidTests := true, laidLooks := .later }
def FnExactReachableStatesUptoCardSaid : Prop := Claim7.holds Tryz.pinned (.plain (OpenSpec.upto fnExactReachableStatesSpec)) fnExactReachableStatesUptoCard

/-- THE SECOND FORM's CARD OF 'laws.FnExactDeadlocksOf'. -/
def fnExactDeadlocksOfUptoCard : Claim7 := { stood := { row := fnExactDeadlocksOfUptoRow, standIns := [], harness := (true, "57c9f75092b5d57ec6db75b90eda318b8ed19d9ac5b5b69996b434bfd2b6f7b4"), looks := true }, kinds := [], alts := [], laidByText := true, laidKinds := [.data, .data, .data, .data, .sentinel, .sentinel, .pinned], laidTests := true, laidLooks := .later }
def FnExactDeadlocksOfUptoCardSaid : Prop := Claim7.holds Tryz.pinned (.plain (OpenSpec.upto fnExactDeadlocksOfSpec)) fnExactDeadlocksOfUptoCard

/-- THE SECOND FORM's CARD OF 'laws.FnExactShortestPath'. -/
def fnExactShortestPathUptoCard : Claim7 := { stood := { row := fnExactShortestPathUptoRow, standIns := [], harness := (true, "57c9f75092b5d57ec6db75b90eda318b8ed19d9ac5b5b69996b434bfd2b6f7b4"), looks := true }, kinds := [], alts := [], laidByText := true, laidKinds := [.data, .data, .data, .data, .sentinel, .sentinel, .pinned], laidTests := true, laidLooks := .later }
def FnExactShortestPathUptoCardSaid : Prop := Claim7.holds Tryz.pinned (.plain (OpenSpec.upto fnExactShortestPathSpec)) fnExactShortestPathUptoCard

/-- THE SECOND FORM's CARD OF 'laws.FnExactSuccessorsOf'. -/
def fnExactSuccessorsOfUptoCard : Claim7 := { stood := { row := fnExactSuccessorsOfUptoRow, standIns := [], harness := (true, "57c9f75092b5d57ec6db75b90eda318b8ed19d9ac5b5b69996b434bfd2b6f7b4"), looks := true }, kinds := [], alts := [], laidByText := true, laidKinds := [.data, .data, .data, .data, .sentinel, .sentinel, .pinned], laidTests := true, laidLooks := .later }
def FnExactSuccessorsOfUptoCardSaid : Prop := Claim7.holds Tryz.pinned (.plain (OpenSpec.upto fnExactSuccessorsOfSpec)) fnExactSuccessorsOfUptoCard

/-- THE SECOND FORM's CARD OF 'laws.FnExactSubSystem'. -/
def fnExactSubSystemUptoCard : Claim7 := { stood := { row := fnExactSubSystemUptoRow, standIns := [], harness := (true, "57c9f75092b5d57ec6db75b90eda318b8ed19d9ac5b5b69996b434bfd2b6f7b4"), looks := true }, kinds := [], alts := [], laidByText := true, laidKinds := [.data, .data, .data, .data, .sentinel, .sentinel, .pinned], laidTests := true, laidLooks := .later }
def FnExactSubSystemUptoCardSaid : Prop := Claim7.holds Tryz.pinned (.plain (OpenSpec.upto fnExactSubSystemSpec)) fnExactSubSystemUptoCard

/-- THE SECOND FORM's CARD OF 'laws.FnExactStableStates'. -/
def fnExactStableStatesUptoCard : Claim7 := { stood := { row := fnExactStableStatesUptoRow, standIns := [], harness := (true, "57c9f75092b5d57ec6db75b90eda318b8ed19d9ac5b5b69996b434bfd2b6f7b4"), looks := true }, kinds := [], alts := [], laidByText := true, laidKinds := [.data, .data, .data, .data, .sentinel, .sentinel, .pinned], laidTests := true, laidLooks := .later }
def FnExactStableStatesUptoCardSaid : Prop := Claim7.holds Tryz.pinned (.plain (OpenSpec.upto fnExactStableStatesSpec)) fnExactStableStatesUptoCard

/-- THE SECOND FORM's CARD OF 'laws.FnExactInternalClosure'. -/
def fnExactInternalClosureUptoCard : Claim7 := { stood := { row := fnExactInternalClosureUptoRow, standIns := [], harness := (true, "57c9f75092b5d57ec6db75b90eda318b8ed19d9ac5b5b69996b434bfd2b6f7b4"), looks := true }, kinds := [], alts := [], laidByText := true, laidKinds := [.data, .data, .data, .data, .sentinel, .sentinel, .pinned], laidTests := true, laidLooks := .later }
def FnExactInternalClosureUptoCardSaid : Prop := Claim7.holds Tryz.pinned (.plain (OpenSpec.upto fnExactInternalClosureSpec)) fnExactInternalClosureUptoCard

/-- THE SECOND FORM's CARD OF 'laws.FnExactIsCompletedTrace'. -/
def fnExactIsCompletedTraceUptoCard : Claim7 := { stood := { row := fnExactIsCompletedTraceUptoRow, standIns := [], harness := (true, "57c9f75092b5d57ec6db75b90eda318b8ed19d9ac5b5b69996b434bfd2b6f7b4"), looks := true }, kinds := [], alts := [], laidByText := true, laidKinds := [.data, .data, .data, .data, .sentinel, .sentinel, .pinned], laidTests := true, laidLooks := .later }
def FnExactIsCompletedTraceUptoCardSaid : Prop := Claim7.holds Tryz.pinned (.plain (OpenSpec.upto fnExactIsCompletedTraceSpec)) fnExactIsCompletedTraceUptoCard
end Rows
end Go.Proofs.YtkgkfbmcnchdbaaGreatDoor
