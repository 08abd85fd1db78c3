/-
  NARROWER THAN 'FOR EVERY INPUT', by the rows' own cells (each row's printed sentence says how): StateSound: laid · StateTells: laid · StateMay: laid · StateReaps: laid · StateGoes: laid · StateTurn: laid.
  DERIVED. THE GIVEN ROWS OF THIS SEAT. 6 by the template 'for every input the law returns true; each argument reads behind the call as it read before'; 0 by the template 'total and deterministic' (their statements: YtflpmgehkoachaaGreatDoorTotals.lean).
  GIVEN WITH THE SEED: the statements are not yours to turn. If you find one false, say at which input.
  Laid BY PROGRAM, IN A SANDBOX (cutbox-rows.mjs): the forced cells as the released guide's own fill.sh prints them over the translation c01ae597f65bdccc… (all of the seat's roots in one cut). By AI agents, Wed Nov 11 2026. No macro, syntax, notation, axiom, sorry.
-/
import Derived.Test.YtflpmgehkoachaaGreatDoorChecked
import GoSem.Claim
import GoSem.ClaimJoined
import GoSem.ClaimMapViews
import Derived.JoinedTies
import Derived.KernelRfl
namespace Go.Proofs.YtflpmgehkoachaaGreatDoor
/- THE CELL 'sum', in the pinned program and in every row, IS THE sha256 OF THE DUMP (.gsa) THAT YtflpmgehkoachaaGreatDoorProg.lean LOADS. Nothing in Lean hashes anything: it is a label: what it is worth is what the hold of that sum in a sandbox is worth. -/
noncomputable def Tryz.pinned : Pinned := { name := "ytflpmgehkoachaagreatdoor", sum := "c01ae597f65bdccc7a03d6ae6811c8b2e668096ef05645556e8a322bb582d9c1", checked := Tryz.checked }
namespace Rows
def none {H : Type} : Left H := { results := [], args := [] }

/- WHAT THE LISTED PACKAGE-LEVEL VARIABLES READ AS WHEN THE CALL BEGINS. Each datum BY PROGRAM (the guide's laid-datum.mjs) off the statement by which the dump's own 'gosem.cut.vars' lays the variable. In a bare row this is a premise. The card (YtflpmgehkoachaaGreatDoorCards.lean) ties it to the program's text. -/
def laid_windrose_alloc_always {H : Type} : DataW H := .agg [.lit (.int .i64 0), .lit (.bool true)]
def laid_windrose_trait_first {H : Type} : DataW H := .agg [.agg [.lit (.int .i64 1), .agg [.lit (.bool true), .lit (.bool true), .lit (.int .i64 0), .lit (.int .i64 1), .lit (.int .i64 2)]], .agg [.lit (.int .i64 2), .agg [.lit (.bool true), .lit (.bool false), .lit (.int .i64 0), .lit (.int .i64 0), .lit (.int .i64 2)]]]

/-- 'windroselaw19.StateSound': WHATEVER THE INPUT: true; the input reads as it did. -/
def stateSoundSpec : ChangeSpec := { name := "stateSound", fn := fun _ => fun
  | [d] => { results := [.lit (.bool true)], args := [d] }
  | _ => none }
def stateSoundRow : OpenClaim := { program := "ytflpmgehkoachaagreatdoor", sum := "c01ae597f65bdccc7a03d6ae6811c8b2e668096ef05645556e8a322bb582d9c1", func := "windrose/windroselaw19.StateSound", spec := "stateSound", inPlace := ["slices.overlaps[windrose/api.Row]", "slices.overlaps[windrose/api.Value]"], unfollowed := true, recurses := true, named := ["windrose/alloc.always", "windrose/trait.first"], apart := false, laid := [("windrose/alloc.always", laid_windrose_alloc_always), ("windrose/trait.first", laid_windrose_trait_first)] }
def StateSoundSaid : Prop := stateSoundRow.holds Tryz.pinned (OpenSpec.ofChange stateSoundSpec)

/-- ITS FALSE NEIGHBOUR: 'it returns false'. Refute it at one input. -/
def stateSoundWrong : ChangeSpec := { name := "stateSound", fn := fun _ => fun
  | [d] => { results := [.lit (.bool false)], args := [d] }
  | _ => none }
def StateSoundWrongFalsely : Prop := stateSoundRow.holds Tryz.pinned (OpenSpec.ofChange stateSoundWrong)

/-- 'windroselaw19.StateTells': WHATEVER THE INPUT: true; the input reads as it did. -/
def stateTellsSpec : ChangeSpec := { name := "stateTells", fn := fun _ => fun
  | [d1, d2, d3] => { results := [.lit (.bool true)], args := [d1, d2, d3] }
  | _ => none }
def stateTellsRow : OpenClaim := { program := "ytflpmgehkoachaagreatdoor", sum := "c01ae597f65bdccc7a03d6ae6811c8b2e668096ef05645556e8a322bb582d9c1", func := "windrose/windroselaw19.StateTells", spec := "stateTells", inPlace := ["slices.overlaps[windrose/api.Row]", "slices.overlaps[windrose/api.Value]"], unfollowed := true, recurses := true, named := ["windrose/alloc.always", "windrose/trait.first"], apart := false, laid := [("windrose/alloc.always", laid_windrose_alloc_always), ("windrose/trait.first", laid_windrose_trait_first)] }
def StateTellsSaid : Prop := stateTellsRow.holds Tryz.pinned (OpenSpec.ofChange stateTellsSpec)

/-- ITS FALSE NEIGHBOUR: 'it returns false'. Refute it at one input. -/
def stateTellsWrong : ChangeSpec := { name := "stateTells", fn := fun _ => fun
  | [d1, d2, d3] => { results := [.lit (.bool false)], args := [d1, d2, d3] }
  | _ => none }
def StateTellsWrongFalsely : Prop := stateTellsRow.holds Tryz.pinned (OpenSpec.ofChange stateTellsWrong)

/-- 'windroselaw19.StateMay': WHATEVER THE INPUT: true; the input reads as it did. -/
def stateMaySpec : ChangeSpec := { name := "stateMay", fn := fun _ => fun
  | [d1, d2, d3] => { results := [.lit (.bool true)], args := [d1, d2, d3] }
  | _ => none }
def stateMayRow : OpenClaim := { program := "ytflpmgehkoachaagreatdoor", sum := "c01ae597f65bdccc7a03d6ae6811c8b2e668096ef05645556e8a322bb582d9c1", func := "windrose/windroselaw19.StateMay", spec := "stateMay", inPlace := ["slices.overlaps[windrose/api.Row]", "slices.overlaps[windrose/api.Value]"], unfollowed := true, recurses := true, named := ["windrose/alloc.always", "windrose/trait.first"], apart := false, laid := [("windrose/alloc.always", laid_windrose_alloc_always), ("windrose/trait.first", laid_windrose_trait_first)] }
def StateMaySaid : Prop := stateMayRow.holds Tryz.pinned (OpenSpec.ofChange stateMaySpec)

/-- ITS FALSE NEIGHBOUR: 'it returns false'. Refute it at one input. -/
def stateMayWrong : ChangeSpec := { name := "stateMay", fn := fun _ => fun
  | [d1, d2, d3] => { results := [.lit (.bool false)], args := [d1, d2, d3] }
  | _ => none }
def StateMayWrongFalsely : Prop := stateMayRow.holds Tryz.pinned (OpenSpec.ofChange stateMayWrong)

/-- 'windroselaw19.StateReaps': WHATEVER THE INPUT: true; the input reads as it did. -/
def stateReapsSpec : ChangeSpec := { name := "stateReaps", fn := fun _ => fun
  | [d1, d2] => { results := [.lit (.bool true)], args := [d1, d2] }
  | _ => none }
def stateReapsRow : OpenClaim := { program := "ytflpmgehkoachaagreatdoor", sum := "c01ae597f65bdccc7a03d6ae6811c8b2e668096ef05645556e8a322bb582d9c1", func := "windrose/windroselaw19.StateReaps", spec := "stateReaps", inPlace := ["slices.overlaps[windrose/api.Row]", "slices.overlaps[windrose/api.Value]"], unfollowed := true, recurses := true, named := ["windrose/alloc.always", "windrose/trait.first"], apart := false, laid := [("windrose/alloc.always", laid_windrose_alloc_always), ("windrose/trait.first", laid_windrose_trait_first)] }
def StateReapsSaid : Prop := stateReapsRow.holds Tryz.pinned (OpenSpec.ofChange stateReapsSpec)

/-- ITS FALSE NEIGHBOUR: 'it returns false'. Refute it at one input. -/
def stateReapsWrong : ChangeSpec := { name := "stateReaps", fn := fun _ => fun
  | [d1, d2] => { results := [.lit (.bool false)], args := [d1, d2] }
  | _ => none }
def StateReapsWrongFalsely : Prop := stateReapsRow.holds Tryz.pinned (OpenSpec.ofChange stateReapsWrong)

/-- 'windroselaw19.StateGoes': WHATEVER THE INPUT: true; the input reads as it did. -/
def stateGoesSpec : ChangeSpec := { name := "stateGoes", fn := fun _ => fun
  | [d1, d2] => { results := [.lit (.bool true)], args := [d1, d2] }
  | _ => none }
def stateGoesRow : OpenClaim := { program := "ytflpmgehkoachaagreatdoor", sum := "c01ae597f65bdccc7a03d6ae6811c8b2e668096ef05645556e8a322bb582d9c1", func := "windrose/windroselaw19.StateGoes", spec := "stateGoes", inPlace := ["slices.overlaps[windrose/api.Row]", "slices.overlaps[windrose/api.Value]"], unfollowed := true, recurses := true, named := ["windrose/alloc.always", "windrose/trait.first"], apart := false, laid := [("windrose/alloc.always", laid_windrose_alloc_always), ("windrose/trait.first", laid_windrose_trait_first)] }
def StateGoesSaid : Prop := stateGoesRow.holds Tryz.pinned (OpenSpec.ofChange stateGoesSpec)

/-- ITS FALSE NEIGHBOUR: 'it returns false'. Refute it at one input. -/
def stateGoesWrong : ChangeSpec := { name := "stateGoes", fn := fun _ => fun
  | [d1, d2] => { results := [.lit (.bool false)], args := [d1, d2] }
  | _ => none }
def StateGoesWrongFalsely : Prop := stateGoesRow.holds Tryz.pinned (OpenSpec.ofChange stateGoesWrong)

/-- 'windroselaw19.StateTurn': WHATEVER THE INPUT: true; the input reads as it did. -/
def stateTurnSpec : ChangeSpec := { name := "stateTurn", fn := fun _ => fun
  | [d1, d2, d3] => { results := [.lit (.bool true)], args := [d1, d2, d3] }
  | _ => none }
def stateTurnRow : OpenClaim := { program := "ytflpmgehkoachaagreatdoor", sum := "c01ae597f65bdccc7a03d6ae6811c8b2e668096ef05645556e8a322bb582d9c1", func := "windrose/windroselaw19.StateTurn", spec := "stateTurn", inPlace := ["slices.overlaps[windrose/api.Row]", "slices.overlaps[windrose/api.Value]"], unfollowed := true, recurses := true, named := ["windrose/alloc.always", "windrose/trait.first"], apart := false, laid := [("windrose/alloc.always", laid_windrose_alloc_always), ("windrose/trait.first", laid_windrose_trait_first)] }
def StateTurnSaid : Prop := stateTurnRow.holds Tryz.pinned (OpenSpec.ofChange stateTurnSpec)

/-- ITS FALSE NEIGHBOUR: 'it returns false'. Refute it at one input. -/
def stateTurnWrong : ChangeSpec := { name := "stateTurn", fn := fun _ => fun
  | [d1, d2, d3] => { results := [.lit (.bool false)], args := [d1, d2, d3] }
  | _ => none }
def StateTurnWrongFalsely : Prop := stateTurnRow.holds Tryz.pinned (OpenSpec.ofChange stateTurnWrong)

/- THE SECOND FORM. 'bulk': how many values and letters a reading holds, each counted each time it is reached (what is shared counts as often as it is met; a slice's spare places count too). A statement '..UptoSaid' is the law's where the arguments, and the package variables that the reading takes, are together of bulk at most 1048576: NARROWER than '..Said'. Prove '..Said' where nothing that the law and all that it calls make is longer than what came in: it says more and counts as full. Else prove '..UptoSaid'. A law counts once. -/
mutual
def uptoBulk {H : Type} : DataW H → Nat
  | .lit (.string bytes) => bytes.length + 1
  | .lit _ => 1
  | .nil => 1
  | .ptr d => uptoBulk d + 1
  | .slice elems spare => uptoBulkAll elems + uptoBulkAll spare + 1
  | .agg parts => uptoBulkAll parts + 1
  | .iface _ d => uptoBulk d + 1
  | .map entries => uptoBulkEntries entries + 1
  | .held _ => 1
def uptoBulkAll {H : Type} : List (DataW H) → Nat
  | [] => 0
  | d :: r => uptoBulk d + uptoBulkAll r
def uptoBulkEntries {H : Type} : List (Lit × DataW H) → Nat
  | [] => 0
  | x :: r => uptoBulkEntry x + uptoBulkEntries r
def uptoBulkEntry {H : Type} : Lit × DataW H → Nat
  | (.string bytes, d) => bytes.length + uptoBulk d + 1
  | (_, d) => uptoBulk d + 1
 end
def uptoSmall : (H : Type) → List (DataW H) → Bool := fun _ ds => decide (uptoBulkAll ds ≤ 1048576)
def OpenSpec.upto (s : _root_.Go.ChangeSpec) : _root_.Go.OpenSpec := { _root_.Go.OpenSpec.ofChange s with cond := some uptoSmall }

/-- 'windroselaw19.StateSound', WHERE WHAT IT READS IS OF BULK AT MOST 1048576: true; the input reads as it did. -/
def stateSoundUptoRow : OpenClaim := { program := "ytflpmgehkoachaagreatdoor", sum := "c01ae597f65bdccc7a03d6ae6811c8b2e668096ef05645556e8a322bb582d9c1", func := "windrose/windroselaw19.StateSound", spec := "stateSound", inPlace := ["slices.overlaps[windrose/api.Row]", "slices.overlaps[windrose/api.Value]"], unfollowed := true, recurses := true, named := ["windrose/alloc.always", "windrose/trait.first"], apart := false, laid := [("windrose/alloc.always", laid_windrose_alloc_always), ("windrose/trait.first", laid_windrose_trait_first)], narrowed := true }
def StateSoundUptoSaid : Prop := stateSoundUptoRow.holds Tryz.pinned (OpenSpec.upto stateSoundSpec)

/-- 'windroselaw19.StateTells', WHERE WHAT IT READS IS OF BULK AT MOST 1048576: true; the input reads as it did. -/
def stateTellsUptoRow : OpenClaim := { program := "ytflpmgehkoachaagreatdoor", sum := "c01ae597f65bdccc7a03d6ae6811c8b2e668096ef05645556e8a322bb582d9c1", func := "windrose/windroselaw19.StateTells", spec := "stateTells", inPlace := ["slices.overlaps[windrose/api.Row]", "slices.overlaps[windrose/api.Value]"], unfollowed := true, recurses := true, named := ["windrose/alloc.always", "windrose/trait.first"], apart := false, laid := [("windrose/alloc.always", laid_windrose_alloc_always), ("windrose/trait.first", laid_windrose_trait_first)], narrowed := true }
def StateTellsUptoSaid : Prop := stateTellsUptoRow.holds Tryz.pinned (OpenSpec.upto stateTellsSpec)

/-- 'windroselaw19.StateMay', WHERE WHAT IT READS IS OF BULK AT MOST 1048576: true; the input reads as it did. -/
def stateMayUptoRow : OpenClaim := { program := "ytflpmgehkoachaagreatdoor", sum := "c01ae597f65bdccc7a03d6ae6811c8b2e668096ef05645556e8a322bb582d9c1", func := "windrose/windroselaw19.StateMay", spec := "stateMay", inPlace := ["slices.overlaps[windrose/api.Row]", "slices.overlaps[windrose/api.Value]"], unfollowed := true, recurses := true, named := ["windrose/alloc.always", "windrose/trait.first"], apart := false, laid := [("windrose/alloc.always", laid_windrose_alloc_always), ("windrose/trait.first", laid_windrose_trait_first)], narrowed := true }
def StateMayUptoSaid : Prop := stateMayUptoRow.holds Tryz.pinned (OpenSpec.upto stateMaySpec)

/-- 'windroselaw19.StateReaps', WHERE WHAT IT READS IS OF BULK AT MOST 1048576: true; the input reads as it did. -/
def stateReapsUptoRow : OpenClaim := { program := "ytflpmgehkoachaagreatdoor", sum := "c01ae597f65bdccc7a03d6ae6811c8b2e668096ef05645556e8a322bb582d9c1", func := "windrose/windroselaw19.StateReaps", spec := "stateReaps", inPlace := ["slices.overlaps[windrose/api.Row]", "slices.overlaps[windrose/api.Value]"], unfollowed := true, recurses := true, named := ["windrose/alloc.always", "windrose/trait.first"], apart := false, laid := [("windrose/alloc.always", laid_windrose_alloc_always), ("windrose/trait.first", laid_windrose_trait_first)], narrowed := true }
def StateReapsUptoSaid : Prop := stateReapsUptoRow.holds Tryz.pinned (OpenSpec.upto stateReapsSpec)

/-- 'windroselaw19.StateGoes', WHERE WHAT IT READS IS OF BULK AT MOST 1048576: true; the input reads as it did. -/
def stateGoesUptoRow : OpenClaim := { program := "ytflpmgehkoachaagreatdoor", sum := "c01ae597f65bdccc7a03d6ae6811c8b2e668096ef05645556e8a322bb582d9c1", func := "windrose/windroselaw19.StateGoes", spec := "stateGoes", inPlace := ["slices.overlaps[windrose/api.Row]", "slices.overlaps[windrose/api.Value]"], unfollowed := true, recurses := true, named := ["windrose/alloc.always", "windrose/trait.first"], apart := false, laid := [("windrose/alloc.always", laid_windrose_alloc_always), ("windrose/trait.first", laid_windrose_trait_first)], narrowed := true }
def StateGoesUptoSaid : Prop := stateGoesUptoRow.holds Tryz.pinned (OpenSpec.upto stateGoesSpec)

/-- 'windroselaw19.StateTurn', WHERE WHAT IT READS IS OF BULK AT MOST 1048576: true; the input reads as it did. -/
def stateTurnUptoRow : OpenClaim := { program := "ytflpmgehkoachaagreatdoor", sum := "c01ae597f65bdccc7a03d6ae6811c8b2e668096ef05645556e8a322bb582d9c1", func := "windrose/windroselaw19.StateTurn", spec := "stateTurn", inPlace := ["slices.overlaps[windrose/api.Row]", "slices.overlaps[windrose/api.Value]"], unfollowed := true, recurses := true, named := ["windrose/alloc.always", "windrose/trait.first"], apart := false, laid := [("windrose/alloc.always", laid_windrose_alloc_always), ("windrose/trait.first", laid_windrose_trait_first)], narrowed := true }
def StateTurnUptoSaid : Prop := stateTurnUptoRow.holds Tryz.pinned (OpenSpec.upto stateTurnSpec)

end Rows
end Go.Proofs.YtflpmgehkoachaaGreatDoor
