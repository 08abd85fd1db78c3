/-
  DERIVED. GIVEN WITH THE SEED: THE CARDS: each row of YtflpmgehkoachaaGreatDoorRows.lean that lists a variable, with what it lists TIED to the program's text (the seventh form; the later family's looks); each row that meets fmt, with fmt's text TOLD by the authors' own Lean function (tested against real Go, not proved from fmt's source: count such statements apart). THE CARD IS WHAT COUNTS. Prove the row's statement (the work); the ties are given (YtflpmgehkoachaaGreatDoorTie.lean); close each card by the builder's one call (the guide's Derived/Test/ToyasCard.lean, 'card_holds'). Laid BY PROGRAM, IN A SANDBOX (cutbox-door.mjs). By AI agents, Wed Nov 11 2026. No macro, syntax, notation, axiom, sorry.
-/
import Derived.Test.YtflpmgehkoachaaGreatDoorRows
import GoSem.ClaimSeven
namespace Go.Proofs.YtflpmgehkoachaaGreatDoor
namespace Rows

/-- THE TIED CARD OF 'windroselaw19.StateSound'. -/
def stateSoundCard : Claim7 := { stood := { row := stateSoundRow, standIns := [], harness := (true, "42b91d91bb5cceefb1a936fdbcea4731cd935a18da40390b675becf6e1372b46"), looks := true }, kinds := [], alts := [], laidByText := true, laidKinds := [.data, .widerDeep], laidTests := true, laidLooks := .later }
def StateSoundCardSaid : Prop := Claim7.holds Tryz.pinned (.plain (OpenSpec.ofChange stateSoundSpec)) stateSoundCard

/-- THE TIED CARD OF 'windroselaw19.StateTells'. -/
def stateTellsCard : Claim7 := { stood := { row := stateTellsRow, standIns := [], harness := (true, "42b91d91bb5cceefb1a936fdbcea4731cd935a18da40390b675becf6e1372b46"), looks := true }, kinds := [], alts := [], laidByText := true, laidKinds := [.data, .widerDeep], laidTests := true, laidLooks := .later }
def StateTellsCardSaid : Prop := Claim7.holds Tryz.pinned (.plain (OpenSpec.ofChange stateTellsSpec)) stateTellsCard

/-- THE TIED CARD OF 'windroselaw19.StateMay'. -/
def stateMayCard : Claim7 := { stood := { row := stateMayRow, standIns := [], harness := (true, "42b91d91bb5cceefb1a936fdbcea4731cd935a18da40390b675becf6e1372b46"), looks := true }, kinds := [], alts := [], laidByText := true, laidKinds := [.data, .widerDeep], laidTests := true, laidLooks := .later }
def StateMayCardSaid : Prop := Claim7.holds Tryz.pinned (.plain (OpenSpec.ofChange stateMaySpec)) stateMayCard

/-- THE TIED CARD OF 'windroselaw19.StateReaps'. -/
def stateReapsCard : Claim7 := { stood := { row := stateReapsRow, standIns := [], harness := (true, "42b91d91bb5cceefb1a936fdbcea4731cd935a18da40390b675becf6e1372b46"), looks := true }, kinds := [], alts := [], laidByText := true, laidKinds := [.data, .widerDeep], laidTests := true, laidLooks := .later }
def StateReapsCardSaid : Prop := Claim7.holds Tryz.pinned (.plain (OpenSpec.ofChange stateReapsSpec)) stateReapsCard

/-- THE TIED CARD OF 'windroselaw19.StateGoes'. -/
def stateGoesCard : Claim7 := { stood := { row := stateGoesRow, standIns := [], harness := (true, "42b91d91bb5cceefb1a936fdbcea4731cd935a18da40390b675becf6e1372b46"), looks := true }, kinds := [], alts := [], laidByText := true, laidKinds := [.data, .widerDeep], laidTests := true, laidLooks := .later }
def StateGoesCardSaid : Prop := Claim7.holds Tryz.pinned (.plain (OpenSpec.ofChange stateGoesSpec)) stateGoesCard

/-- THE TIED CARD OF 'windroselaw19.StateTurn'. -/
def stateTurnCard : Claim7 := { stood := { row := stateTurnRow, standIns := [], harness := (true, "42b91d91bb5cceefb1a936fdbcea4731cd935a18da40390b675becf6e1372b46"), looks := true }, kinds := [], alts := [], laidByText := true, laidKinds := [.data, .widerDeep], laidTests := true, laidLooks := .later }
def StateTurnCardSaid : Prop := Claim7.holds Tryz.pinned (.plain (OpenSpec.ofChange stateTurnSpec)) stateTurnCard

/-- THE SECOND FORM's CARD OF 'windroselaw19.StateSound'. -/
def stateSoundUptoCard : Claim7 := { stood := { row := stateSoundUptoRow, standIns := [], harness := (true, "42b91d91bb5cceefb1a936fdbcea4731cd935a18da40390b675becf6e1372b46"), looks := true }, kinds := [], alts := [], laidByText := true, laidKinds := [.data, .widerDeep], laidTests := true, laidLooks := .later }
def StateSoundUptoCardSaid : Prop := Claim7.holds Tryz.pinned (.plain (OpenSpec.upto stateSoundSpec)) stateSoundUptoCard

/-- THE SECOND FORM's CARD OF 'windroselaw19.StateTells'. -/
def stateTellsUptoCard : Claim7 := { stood := { row := stateTellsUptoRow, standIns := [], harness := (true, "42b91d91bb5cceefb1a936fdbcea4731cd935a18da40390b675becf6e1372b46"), looks := true }, kinds := [], alts := [], laidByText := true, laidKinds := [.data, .widerDeep], laidTests := true, laidLooks := .later }
def StateTellsUptoCardSaid : Prop := Claim7.holds Tryz.pinned (.plain (OpenSpec.upto stateTellsSpec)) stateTellsUptoCard

/-- THE SECOND FORM's CARD OF 'windroselaw19.StateMay'. -/
def stateMayUptoCard : Claim7 := { stood := { row := stateMayUptoRow, standIns := [], harness := (true, "42b91d91bb5cceefb1a936fdbcea4731cd935a18da40390b675becf6e1372b46"), looks := true }, kinds := [], alts := [], laidByText := true, laidKinds := [.data, .widerDeep], laidTests := true, laidLooks := .later }
def StateMayUptoCardSaid : Prop := Claim7.holds Tryz.pinned (.plain (OpenSpec.upto stateMaySpec)) stateMayUptoCard

/-- THE SECOND FORM's CARD OF 'windroselaw19.StateReaps'. -/
def stateReapsUptoCard : Claim7 := { stood := { row := stateReapsUptoRow, standIns := [], harness := (true, "42b91d91bb5cceefb1a936fdbcea4731cd935a18da40390b675becf6e1372b46"), looks := true }, kinds := [], alts := [], laidByText := true, laidKinds := [.data, .widerDeep], laidTests := true, laidLooks := .later }
def StateReapsUptoCardSaid : Prop := Claim7.holds Tryz.pinned (.plain (OpenSpec.upto stateReapsSpec)) stateReapsUptoCard

/-- THE SECOND FORM's CARD OF 'windroselaw19.StateGoes'. -/
def stateGoesUptoCard : Claim7 := { stood := { row := stateGoesUptoRow, standIns := [], harness := (true, "42b91d91bb5cceefb1a936fdbcea4731cd935a18da40390b675becf6e1372b46"), looks := true }, kinds := [], alts := [], laidByText := true, laidKinds := [.data, .widerDeep], laidTests := true, laidLooks := .later }
def StateGoesUptoCardSaid : Prop := Claim7.holds Tryz.pinned (.plain (OpenSpec.upto stateGoesSpec)) stateGoesUptoCard

/-- THE SECOND FORM's CARD OF 'windroselaw19.StateTurn'. -/
def stateTurnUptoCard : Claim7 := { stood := { row := stateTurnUptoRow, standIns := [], harness := (true, "42b91d91bb5cceefb1a936fdbcea4731cd935a18da40390b675becf6e1372b46"), looks := true }, kinds := [], alts := [], laidByText := true, laidKinds := [.data, .widerDeep], laidTests := true, laidLooks := .later }
def StateTurnUptoCardSaid : Prop := Claim7.holds Tryz.pinned (.plain (OpenSpec.upto stateTurnSpec)) stateTurnUptoCard
end Rows
end Go.Proofs.YtflpmgehkoachaaGreatDoor
