/-
  DERIVED. GIVEN WITH THE SEED: THE CARDS: each row of YtciiinpphaaddaaGreatDoorRows.lean that lists a variable, with what it lists TIED to the program's text (the seventh form; the later family's looks); each row that meets fmt, with fmt's text TOLD by the authors' own Lean function (tested against real Go, not proved from fmt's source: count such statements apart). THE CARD IS WHAT COUNTS. Prove the row's statement (the work); the ties are given (YtciiinpphaaddaaGreatDoorTie.lean); close each card by the builder's one call (the guide's Derived/Test/ToyasCard.lean, 'card_holds'). Laid BY PROGRAM, IN A SANDBOX (cutbox-door.mjs). By AI agents, Wed Nov 11 2026. No macro, syntax, notation, axiom, sorry.
-/
import Derived.Test.YtciiinpphaaddaaGreatDoorRows
import GoSem.ClaimSeven
namespace Go.Proofs.YtciiinpphaaddaaGreatDoor
namespace Rows

/-- THE TIED CARD OF 'laws.FnExactStrongClasses'. -/
def fnExactStrongClassesCard : Claim7 := { stood := { row := fnExactStrongClassesRow, standIns := [], harness := (true, "705743b2222b42d635a836332f999fdc67457c6ac63777d41cedcd2e366d0382"), looks := true }, kinds := [], alts := [], laidByText := true, laidKinds := [.data, .data, .data, .data, .sentinel, .sentinel, .pinned], laidTests := true, laidLooks := .later }
def FnExactStrongClassesCardSaid : Prop := Claim7.holds Tryz.pinned (.plain (OpenSpec.ofChange fnExactStrongClassesSpec)) fnExactStrongClassesCard

/-- THE TIED CARD OF 'laws.FnExactStrongRounds'. -/
def fnExactStrongRoundsCard : Claim7 := { stood := { row := fnExactStrongRoundsRow, standIns := [], harness := (true, "705743b2222b42d635a836332f999fdc67457c6ac63777d41cedcd2e366d0382"), looks := true }, kinds := [], alts := [], laidByText := true, laidKinds := [.data, .data, .data, .data, .sentinel, .sentinel, .pinned], laidTests := true, laidLooks := .later }
def FnExactStrongRoundsCardSaid : Prop := Claim7.holds Tryz.pinned (.plain (OpenSpec.ofChange fnExactStrongRoundsSpec)) fnExactStrongRoundsCard

/-- THE TIED CARD OF 'laws.FnExactIsStablePartition'. -/
def fnExactIsStablePartitionCard : Claim7 := { stood := { row := fnExactIsStablePartitionRow, standIns := [], harness := (true, "705743b2222b42d635a836332f999fdc67457c6ac63777d41cedcd2e366d0382"), looks := true }, kinds := [], alts := [], laidByText := true, laidKinds := [.data, .data, .data, .data, .sentinel, .sentinel, .pinned], laidTests := true, laidLooks := .later }
def FnExactIsStablePartitionCardSaid : Prop := Claim7.holds Tryz.pinned (.plain (OpenSpec.ofChange fnExactIsStablePartitionSpec)) fnExactIsStablePartitionCard

/-- THE TIED CARD OF 'laws.FnExactSplitRound'. -/
def fnExactSplitRoundCard : Claim7 := { stood := { row := fnExactSplitRoundRow, standIns := [], harness := (true, "705743b2222b42d635a836332f999fdc67457c6ac63777d41cedcd2e366d0382"), looks := true }, kinds := [], alts := [], laidByText := true, laidKinds := [.data, .data, .data, .data, .sentinel, .sentinel, .pinned], laidTests := true, laidLooks := .later }
def FnExactSplitRoundCardSaid : Prop := Claim7.holds Tryz.pinned (.plain (OpenSpec.ofChange fnExactSplitRoundSpec)) fnExactSplitRoundCard

/-- THE TIED CARD OF 'laws.FnExactSeparationDepth'. -/
def fnExactSeparationDepthCard : Claim7 := { stood := { row := fnExactSeparationDepthRow, standIns := [], harness := (true, "705743b2222b42d635a836332f999fdc67457c6ac63777d41cedcd2e366d0382"), looks := true }, kinds := [], alts := [], laidByText := true, laidKinds := [.data, .data, .data, .data, .sentinel, .sentinel, .pinned], laidTests := true, laidLooks := .later }
def FnExactSeparationDepthCardSaid : Prop := Claim7.holds Tryz.pinned (.plain (OpenSpec.ofChange fnExactSeparationDepthSpec)) fnExactSeparationDepthCard

/-- THE TIED CARD OF 'laws.FnExactUsedLabels'. -/
def fnExactUsedLabelsCard : Claim7 := { stood := { row := fnExactUsedLabelsRow, standIns := [], harness := (true, "705743b2222b42d635a836332f999fdc67457c6ac63777d41cedcd2e366d0382"), looks := true }, kinds := [], alts := [], laidByText := true, laidKinds := [.data, .data, .data, .data, .sentinel, .sentinel, .pinned], laidTests := true, laidLooks := .later }
def FnExactUsedLabelsCardSaid : Prop := Claim7.holds Tryz.pinned (.plain (OpenSpec.ofChange fnExactUsedLabelsSpec)) fnExactUsedLabelsCard

/-- THE TIED CARD OF 'laws.FnExactRenameLabels'. -/
def fnExactRenameLabelsCard : Claim7 := { stood := { row := fnExactRenameLabelsRow, standIns := [], harness := (true, "705743b2222b42d635a836332f999fdc67457c6ac63777d41cedcd2e366d0382"), looks := true }, kinds := [], alts := [], laidByText := true, laidKinds := [.data, .data, .data, .data, .sentinel, .sentinel, .pinned], laidTests := true, laidLooks := .later }
def FnExactRenameLabelsCardSaid : Prop := Claim7.holds Tryz.pinned (.plain (OpenSpec.ofChange fnExactRenameLabelsSpec)) fnExactRenameLabelsCard

/-- THE SECOND FORM's CARD OF 'laws.FnExactStrongClasses'. -/
def fnExactStrongClassesUptoCard : Claim7 := { stood := { row := fnExactStrongClassesUptoRow, standIns := [], harness := (true, "705743b2222b42d635a836332f999fdc67457c6ac63777d41cedcd2e366d0382"), looks := true }, kinds := [], alts := [], laidByText := true, laidKinds := [.data, .data, .data, .data, .sentinel, .sentinel, .pinned], laidTests := true, laidLooks := .later }
def FnExactStrongClassesUptoCardSaid : Prop := Claim7.holds Tryz.pinned (.plain (OpenSpec.upto fnExactStrongClassesSpec)) fnExactStrongClassesUptoCard

/-- THE SECOND FORM's CARD OF 'laws.FnExactStrongRounds'. -/
def fnExactStrongRoundsUptoCard : Claim7 := { stood := { row := fnExactStrongRoundsUptoRow, standIns := [], harness := (true, "705743b2222b42d635a836332f999fdc67457c6ac63777d41cedcd2e366d0382"), looks := true }, kinds := [], alts := [], laidByText := true, laidKinds := [.data, .data, .data, .data, .sentinel, .sentinel, .pinned], laidTests := true, laidLooks := .later }
def FnExactStrongRoundsUptoCardSaid : Prop := Claim7.holds Tryz.pinned (.plain (OpenSpec.upto fnExactStrongRoundsSpec)) fnExactStrongRoundsUptoCard

/-- THE SECOND FORM's CARD OF 'laws.FnExactIsStablePartition'. -/
def fnExactIsStablePartitionUptoCard : Claim7 := { stood := { row := fnExactIsStablePartitionUptoRow, standIns := [], harness := (true, "705743b2222b42d635a836332f999fdc67457c6ac63777d41cedcd2e366d0382"), looks := true }, kinds := [], alts := [], laidByText := true, laidKinds := [.data, .data, .data, .data, .sentinel, .sentinel, .pinned], laidTests := true, laidLooks := .later }
def FnExactIsStablePartitionUptoCardSaid : Prop := Claim7.holds Tryz.pinned (.plain (OpenSpec.upto fnExactIsStablePartitionSpec)) fnExactIsStablePartitionUptoCard

/-- THE SECOND FORM's CARD OF 'laws.FnExactSplitRound'. -/
def fnExactSplitRoundUptoCard : Claim7 := { stood := { row := fnExactSplitRoundUptoRow, standIns := [], harness := (true, "705743b2222b42d635a836332f999fdc67457c6ac63777d41cedcd2e366d0382"), looks := true }, kinds := [], alts := [], laidByText := true, laidKinds := [.data, .data, .data, .data, .sentinel, .sentinel, .pinned], laidTests := true, laidLooks := .later }
def FnExactSplitRoundUptoCardSaid : Prop := Claim7.holds Tryz.pinned (.plain (OpenSpec.upto fnExactSplitRoundSpec)) fnExactSplitRoundUptoCard

/-- THE SECOND FORM's CARD OF 'laws.FnExactSeparationDepth'. -/
def fnExactSeparationDepthUptoCard : Claim7 := { stood := { row := fnExactSeparationDepthUptoRow, standIns := [], harness := (true, "705743b2222b42d635a836332f999fdc67457c6ac63777d41cedcd2e366d0382"), looks := true }, kinds := [], alts := [], laidByText := true, laidKinds := [.data, .data, .data, .data, .sentinel, .sentinel, .pinned], laidTests := true, laidLooks := .later }
def FnExactSeparationDepthUptoCardSaid : Prop := Claim7.holds Tryz.pinned (.plain (OpenSpec.upto fnExactSeparationDepthSpec)) fnExactSeparationDepthUptoCard

/-- THE SECOND FORM's CARD OF 'laws.FnExactUsedLabels'. -/
def fnExactUsedLabelsUptoCard : Claim7 := { stood := { row := fnExactUsedLabelsUptoRow, standIns := [], harness := (true, "705743b2222b42d635a836332f999fdc67457c6ac63777d41cedcd2e366d0382"), looks := true }, kinds := [], alts := [], laidByText := true, laidKinds := [.data, .data, .data, .data, .sentinel, .sentinel, .pinned], laidTests := true, laidLooks := .later }
def FnExactUsedLabelsUptoCardSaid : Prop := Claim7.holds Tryz.pinned (.plain (OpenSpec.upto fnExactUsedLabelsSpec)) fnExactUsedLabelsUptoCard

/-- THE SECOND FORM's CARD OF 'laws.FnExactRenameLabels'. -/
def fnExactRenameLabelsUptoCard : Claim7 := { stood := { row := fnExactRenameLabelsUptoRow, standIns := [], harness := (true, "705743b2222b42d635a836332f999fdc67457c6ac63777d41cedcd2e366d0382"), looks := true }, kinds := [], alts := [], laidByText := true, laidKinds := [.data, .data, .data, .data, .sentinel, .sentinel, .pinned], laidTests := true, laidLooks := .later }
def FnExactRenameLabelsUptoCardSaid : Prop := Claim7.holds Tryz.pinned (.plain (OpenSpec.upto fnExactRenameLabelsSpec)) fnExactRenameLabelsUptoCard
end Rows
end Go.Proofs.YtciiinpphaaddaaGreatDoor
