/-
  DERIVED. GIVEN WITH THE SEED: THE CARDS: each row of YtmhoclmjgjopfaaDoorRows.lean that lists a variable, with what it lists TIED to the program's text (the seventh form; the later family's looks); each row that meets fmt, with fmt's text TOLD by the authors' own Lean function (tested against real Go, not proved from fmt's source: count such statements apart). THE CARD IS WHAT COUNTS. Prove the row's statement (the work); the ties are given (YtmhoclmjgjopfaaDoorTie.lean); close each card by the builder's one call (the guide's Derived/Test/ToyasCard.lean, 'card_holds'). Laid BY PROGRAM, IN A SANDBOX (cutbox-door.mjs). By AI agents, Wed Nov 11 2026. No macro, syntax, notation, axiom, sorry.
-/
import Derived.Test.YtmhoclmjgjopfaaDoorRows
import GoSem.ClaimSeven
namespace Go.Proofs.YtmhoclmjgjopfaaDoor
namespace Rows

/-- THE TIED CARD OF 'windroselaw02.AllocTakes'. -/
def allocTakesCard : Claim7 := { stood := { row := allocTakesRow, standIns := [], harness := (true, "c812bd16461893b59ff1c9b11575473a3dd7f925cadaefe779c83152ab813434"), looks := false }, kinds := [], alts := [], laidByText := true, laidKinds := [.data], laidTests := true, laidLooks := .later }
def AllocTakesCardSaid : Prop := Claim7.holds Tryd.pinned (.plain (OpenSpec.ofChange allocTakesSpec)) allocTakesCard

/-- THE TIED CARD OF 'windroselaw02.AllocMay'. -/
def allocMayCard : Claim7 := { stood := { row := allocMayRow, standIns := [], harness := (true, "c812bd16461893b59ff1c9b11575473a3dd7f925cadaefe779c83152ab813434"), looks := false }, kinds := [], alts := [], laidByText := true, laidKinds := [.data], laidTests := true, laidLooks := .later }
def AllocMayCardSaid : Prop := Claim7.holds Tryd.pinned (.plain (OpenSpec.ofChange allocMaySpec)) allocMayCard

/-- THE TIED CARD OF 'windroselaw02.AllocLives'. -/
def allocLivesCard : Claim7 := { stood := { row := allocLivesRow, standIns := [], harness := (true, "c812bd16461893b59ff1c9b11575473a3dd7f925cadaefe779c83152ab813434"), looks := false }, kinds := [], alts := [], laidByText := true, laidKinds := [.data], laidTests := true, laidLooks := .later }
def AllocLivesCardSaid : Prop := Claim7.holds Tryd.pinned (.plain (OpenSpec.ofChange allocLivesSpec)) allocLivesCard

/-- THE TIED CARD OF 'windroselaw02.AllocRoom'. -/
def allocRoomCard : Claim7 := { stood := { row := allocRoomRow, standIns := [], harness := (true, "c812bd16461893b59ff1c9b11575473a3dd7f925cadaefe779c83152ab813434"), looks := false }, kinds := [], alts := [], laidByText := true, laidKinds := [.data], laidTests := true, laidLooks := .later }
def AllocRoomCardSaid : Prop := Claim7.holds Tryd.pinned (.plain (OpenSpec.ofChange allocRoomSpec)) allocRoomCard

/-- THE TIED CARD OF 'windroselaw02.AllocSees'. -/
def allocSeesCard : Claim7 := { stood := { row := allocSeesRow, standIns := [], harness := (true, "c812bd16461893b59ff1c9b11575473a3dd7f925cadaefe779c83152ab813434"), looks := false }, kinds := [], alts := [], laidByText := true, laidKinds := [.data], laidTests := true, laidLooks := .later }
def AllocSeesCardSaid : Prop := Claim7.holds Tryd.pinned (.plain (OpenSpec.ofChange allocSeesSpec)) allocSeesCard

/-- THE TIED CARD OF 'windroselaw02.AllocGives'. -/
def allocGivesCard : Claim7 := { stood := { row := allocGivesRow, standIns := [], harness := (true, "c812bd16461893b59ff1c9b11575473a3dd7f925cadaefe779c83152ab813434"), looks := false }, kinds := [], alts := [], laidByText := true, laidKinds := [.data], laidTests := true, laidLooks := .later }
def AllocGivesCardSaid : Prop := Claim7.holds Tryd.pinned (.plain (OpenSpec.ofChange allocGivesSpec)) allocGivesCard

/-- THE TIED CARD OF 'windroselaw20.PlanWhys'. -/
def planWhysCard : Claim7 := { stood := { row := planWhysRow, standIns := [], harness := (true, "c812bd16461893b59ff1c9b11575473a3dd7f925cadaefe779c83152ab813434"), looks := false }, kinds := [], alts := [], laidByText := true, laidKinds := [.widerDeep], laidTests := true, laidLooks := .later }
def PlanWhysCardSaid : Prop := Claim7.holds Tryd.pinned (.plain (OpenSpec.ofChange planWhysSpec)) planWhysCard

/-- THE TIED CARD OF 'windroselaw20.PlanTouches'. -/
def planTouchesCard : Claim7 := { stood := { row := planTouchesRow, standIns := [], harness := (true, "c812bd16461893b59ff1c9b11575473a3dd7f925cadaefe779c83152ab813434"), looks := false }, kinds := [], alts := [], laidByText := true, laidKinds := [.widerDeep], laidTests := true, laidLooks := .later }
def PlanTouchesCardSaid : Prop := Claim7.holds Tryd.pinned (.plain (OpenSpec.ofChange planTouchesSpec)) planTouchesCard

/-- THE TIED CARD OF 'windroselaw20.PlanCloses'. -/
def planClosesCard : Claim7 := { stood := { row := planClosesRow, standIns := [], harness := (true, "c812bd16461893b59ff1c9b11575473a3dd7f925cadaefe779c83152ab813434"), looks := false }, kinds := [], alts := [], laidByText := true, laidKinds := [.widerDeep], laidTests := true, laidLooks := .later }
def PlanClosesCardSaid : Prop := Claim7.holds Tryd.pinned (.plain (OpenSpec.ofChange planClosesSpec)) planClosesCard

/-- THE TIED CARD OF 'windroselaw20.PlanMore'. -/
def planMoreCard : Claim7 := { stood := { row := planMoreRow, standIns := [], harness := (true, "c812bd16461893b59ff1c9b11575473a3dd7f925cadaefe779c83152ab813434"), looks := false }, kinds := [], alts := [], laidByText := true, laidKinds := [.widerDeep], laidTests := true, laidLooks := .later }
def PlanMoreCardSaid : Prop := Claim7.holds Tryd.pinned (.plain (OpenSpec.ofChange planMoreSpec)) planMoreCard

/-- THE SECOND FORM's CARD OF 'windroselaw02.AllocTakes'. -/
def allocTakesUptoCard : Claim7 := { stood := { row := allocTakesUptoRow, standIns := [], harness := (true, "c812bd16461893b59ff1c9b11575473a3dd7f925cadaefe779c83152ab813434"), looks := false }, kinds := [], alts := [], laidByText := true, laidKinds := [.data], laidTests := true, laidLooks := .later }
def AllocTakesUptoCardSaid : Prop := Claim7.holds Tryd.pinned (.plain (OpenSpec.upto allocTakesSpec)) allocTakesUptoCard

/-- THE SECOND FORM's CARD OF 'windroselaw02.AllocMay'. -/
def allocMayUptoCard : Claim7 := { stood := { row := allocMayUptoRow, standIns := [], harness := (true, "c812bd16461893b59ff1c9b11575473a3dd7f925cadaefe779c83152ab813434"), looks := false }, kinds := [], alts := [], laidByText := true, laidKinds := [.data], laidTests := true, laidLooks := .later }
def AllocMayUptoCardSaid : Prop := Claim7.holds Tryd.pinned (.plain (OpenSpec.upto allocMaySpec)) allocMayUptoCard

/-- THE SECOND FORM's CARD OF 'windroselaw02.AllocLives'. -/
def allocLivesUptoCard : Claim7 := { stood := { row := allocLivesUptoRow, standIns := [], harness := (true, "c812bd16461893b59ff1c9b11575473a3dd7f925cadaefe779c83152ab813434"), looks := false }, kinds := [], alts := [], laidByText := true, laidKinds := [.data], laidTests := true, laidLooks := .later }
def AllocLivesUptoCardSaid : Prop := Claim7.holds Tryd.pinned (.plain (OpenSpec.upto allocLivesSpec)) allocLivesUptoCard

/-- THE SECOND FORM's CARD OF 'windroselaw02.AllocRoom'. -/
def allocRoomUptoCard : Claim7 := { stood := { row := allocRoomUptoRow, standIns := [], harness := (true, "c812bd16461893b59ff1c9b11575473a3dd7f925cadaefe779c83152ab813434"), looks := false }, kinds := [], alts := [], laidByText := true, laidKinds := [.data], laidTests := true, laidLooks := .later }
def AllocRoomUptoCardSaid : Prop := Claim7.holds Tryd.pinned (.plain (OpenSpec.upto allocRoomSpec)) allocRoomUptoCard

/-- THE SECOND FORM's CARD OF 'windroselaw02.AllocSees'. -/
def allocSeesUptoCard : Claim7 := { stood := { row := allocSeesUptoRow, standIns := [], harness := (true, "c812bd16461893b59ff1c9b11575473a3dd7f925cadaefe779c83152ab813434"), looks := false }, kinds := [], alts := [], laidByText := true, laidKinds := [.data], laidTests := true, laidLooks := .later }
def AllocSeesUptoCardSaid : Prop := Claim7.holds Tryd.pinned (.plain (OpenSpec.upto allocSeesSpec)) allocSeesUptoCard

/-- THE SECOND FORM's CARD OF 'windroselaw02.AllocGives'. -/
def allocGivesUptoCard : Claim7 := { stood := { row := allocGivesUptoRow, standIns := [], harness := (true, "c812bd16461893b59ff1c9b11575473a3dd7f925cadaefe779c83152ab813434"), looks := false }, kinds := [], alts := [], laidByText := true, laidKinds := [.data], laidTests := true, laidLooks := .later }
def AllocGivesUptoCardSaid : Prop := Claim7.holds Tryd.pinned (.plain (OpenSpec.upto allocGivesSpec)) allocGivesUptoCard

/-- THE SECOND FORM's CARD OF 'windroselaw20.PlanWhys'. -/
def planWhysUptoCard : Claim7 := { stood := { row := planWhysUptoRow, standIns := [], harness := (true, "c812bd16461893b59ff1c9b11575473a3dd7f925cadaefe779c83152ab813434"), looks := false }, kinds := [], alts := [], laidByText := true, laidKinds := [.widerDeep], laidTests := true, laidLooks := .later }
def PlanWhysUptoCardSaid : Prop := Claim7.holds Tryd.pinned (.plain (OpenSpec.upto planWhysSpec)) planWhysUptoCard

/-- THE SECOND FORM's CARD OF 'windroselaw20.PlanTouches'. -/
def planTouchesUptoCard : Claim7 := { stood := { row := planTouchesUptoRow, standIns := [], harness := (true, "c812bd16461893b59ff1c9b11575473a3dd7f925cadaefe779c83152ab813434"), looks := false }, kinds := [], alts := [], laidByText := true, laidKinds := [.widerDeep], laidTests := true, laidLooks := .later }
def PlanTouchesUptoCardSaid : Prop := Claim7.holds Tryd.pinned (.plain (OpenSpec.upto planTouchesSpec)) planTouchesUptoCard

/-- THE SECOND FORM's CARD OF 'windroselaw20.PlanCloses'. -/
def planClosesUptoCard : Claim7 := { stood := { row := planClosesUptoRow, standIns := [], harness := (true, "c812bd16461893b59ff1c9b11575473a3dd7f925cadaefe779c83152ab813434"), looks := false }, kinds := [], alts := [], laidByText := true, laidKinds := [.widerDeep], laidTests := true, laidLooks := .later }
def PlanClosesUptoCardSaid : Prop := Claim7.holds Tryd.pinned (.plain (OpenSpec.upto planClosesSpec)) planClosesUptoCard

/-- THE SECOND FORM's CARD OF 'windroselaw20.PlanMore'. -/
def planMoreUptoCard : Claim7 := { stood := { row := planMoreUptoRow, standIns := [], harness := (true, "c812bd16461893b59ff1c9b11575473a3dd7f925cadaefe779c83152ab813434"), looks := false }, kinds := [], alts := [], laidByText := true, laidKinds := [.widerDeep], laidTests := true, laidLooks := .later }
def PlanMoreUptoCardSaid : Prop := Claim7.holds Tryd.pinned (.plain (OpenSpec.upto planMoreSpec)) planMoreUptoCard
end Rows
end Go.Proofs.YtmhoclmjgjopfaaDoor
