/-
  No cell of these rows narrows 'for every input' (looked for: loops, veiled, ifaces, maps, wideKeys, modest, calm, conditions, laid).
  DERIVED. THE GIVEN ROWS OF THIS SEAT. 6 by the template 'for every input the law returns true; each argument reads behind the call as it read before'; 0 by the template 'total and deterministic' (their statements: YtmkmdfgfclckoaaTotals.lean).
  GIVEN WITH THE SEED: the statements are not yours to turn. If you find one false, say at which input.
  Laid BY PROGRAM, IN A SANDBOX (cutbox-rows.mjs): the forced cells as the released guide's own fill.sh prints them over the translation ebb3fbee6e8a04bd… (all of the seat's roots in one cut). By AI agents, Wed Nov 11 2026. No macro, syntax, notation, axiom, sorry.
-/
import Derived.Test.YtmkmdfgfclckoaaChecked
import GoSem.Claim
import GoSem.ClaimJoined
import GoSem.ClaimMapViews
import Derived.JoinedTies
import Derived.KernelRfl
namespace Go.Proofs.Ytmkmdfgfclckoaa
/- THE CELL 'sum', in the pinned program and in every row, IS THE sha256 OF THE DUMP (.gsa) THAT YtmkmdfgfclckoaaProg.lean LOADS. Nothing in Lean hashes anything: it is a label: what it is worth is what the hold of that sum in a sandbox is worth. -/
noncomputable def Try.pinned : Pinned := { name := "ytmkmdfgfclckoaa", sum := "ebb3fbee6e8a04bdccb0c0e94d80992d5627521ed9152bfa20d9dc6f6c935421", checked := Try.checked }
namespace Rows
def none {H : Type} : Left H := { results := [], args := [] }

/-- 'windroselaw03.TypesTells': WHATEVER THE INPUT: true; the input reads as it did. -/
def typesTellsSpec : ChangeSpec := { name := "typesTells", fn := fun _ => fun
  | [d1, d2, d3] => { results := [.lit (.bool true)], args := [d1, d2, d3] }
  | _ => none }
def typesTellsRow : OpenClaim := { program := "ytmkmdfgfclckoaa", sum := "ebb3fbee6e8a04bdccb0c0e94d80992d5627521ed9152bfa20d9dc6f6c935421", func := "windrose/windroselaw03.TypesTells", spec := "typesTells", unfollowed := true, recurses := true, apart := false }
def TypesTellsSaid : Prop := typesTellsRow.holds Try.pinned (OpenSpec.ofChange typesTellsSpec)

/-- ITS FALSE NEIGHBOUR: 'it returns false'. Refute it at one input. -/
def typesTellsWrong : ChangeSpec := { name := "typesTells", fn := fun _ => fun
  | [d1, d2, d3] => { results := [.lit (.bool false)], args := [d1, d2, d3] }
  | _ => none }
def TypesTellsWrongFalsely : Prop := typesTellsRow.holds Try.pinned (OpenSpec.ofChange typesTellsWrong)

/-- 'windroselaw03.TypesGoes': WHATEVER THE INPUT: true; the input reads as it did. -/
def typesGoesSpec : ChangeSpec := { name := "typesGoes", fn := fun _ => fun
  | [d1, d2, d3] => { results := [.lit (.bool true)], args := [d1, d2, d3] }
  | _ => none }
def typesGoesRow : OpenClaim := { program := "ytmkmdfgfclckoaa", sum := "ebb3fbee6e8a04bdccb0c0e94d80992d5627521ed9152bfa20d9dc6f6c935421", func := "windrose/windroselaw03.TypesGoes", spec := "typesGoes", unfollowed := true, recurses := true, apart := false }
def TypesGoesSaid : Prop := typesGoesRow.holds Try.pinned (OpenSpec.ofChange typesGoesSpec)

/-- ITS FALSE NEIGHBOUR: 'it returns false'. Refute it at one input. -/
def typesGoesWrong : ChangeSpec := { name := "typesGoes", fn := fun _ => fun
  | [d1, d2, d3] => { results := [.lit (.bool false)], args := [d1, d2, d3] }
  | _ => none }
def TypesGoesWrongFalsely : Prop := typesGoesRow.holds Try.pinned (OpenSpec.ofChange typesGoesWrong)

/-- 'windroselaw03.TypesTurn': WHATEVER THE INPUT: true; the input reads as it did. -/
def typesTurnSpec : ChangeSpec := { name := "typesTurn", fn := fun _ => fun
  | [d1, d2] => { results := [.lit (.bool true)], args := [d1, d2] }
  | _ => none }
def typesTurnRow : OpenClaim := { program := "ytmkmdfgfclckoaa", sum := "ebb3fbee6e8a04bdccb0c0e94d80992d5627521ed9152bfa20d9dc6f6c935421", func := "windrose/windroselaw03.TypesTurn", spec := "typesTurn", unfollowed := true, recurses := true, apart := false }
def TypesTurnSaid : Prop := typesTurnRow.holds Try.pinned (OpenSpec.ofChange typesTurnSpec)

/-- ITS FALSE NEIGHBOUR: 'it returns false'. Refute it at one input. -/
def typesTurnWrong : ChangeSpec := { name := "typesTurn", fn := fun _ => fun
  | [d1, d2] => { results := [.lit (.bool false)], args := [d1, d2] }
  | _ => none }
def TypesTurnWrongFalsely : Prop := typesTurnRow.holds Try.pinned (OpenSpec.ofChange typesTurnWrong)

/-- 'windroselaw03.TypesOrder': WHATEVER THE INPUT: true; the input reads as it did. -/
def typesOrderSpec : ChangeSpec := { name := "typesOrder", fn := fun _ => fun
  | [d1, d2, d3] => { results := [.lit (.bool true)], args := [d1, d2, d3] }
  | _ => none }
def typesOrderRow : OpenClaim := { program := "ytmkmdfgfclckoaa", sum := "ebb3fbee6e8a04bdccb0c0e94d80992d5627521ed9152bfa20d9dc6f6c935421", func := "windrose/windroselaw03.TypesOrder", spec := "typesOrder", unfollowed := true, recurses := true, apart := false }
def TypesOrderSaid : Prop := typesOrderRow.holds Try.pinned (OpenSpec.ofChange typesOrderSpec)

/-- ITS FALSE NEIGHBOUR: 'it returns false'. Refute it at one input. -/
def typesOrderWrong : ChangeSpec := { name := "typesOrder", fn := fun _ => fun
  | [d1, d2, d3] => { results := [.lit (.bool false)], args := [d1, d2, d3] }
  | _ => none }
def TypesOrderWrongFalsely : Prop := typesOrderRow.holds Try.pinned (OpenSpec.ofChange typesOrderWrong)

/-- 'windroselaw03.TypesMay': WHATEVER THE INPUT: true; the input reads as it did. -/
def typesMaySpec : ChangeSpec := { name := "typesMay", fn := fun _ => fun
  | [d1, d2] => { results := [.lit (.bool true)], args := [d1, d2] }
  | _ => none }
def typesMayRow : OpenClaim := { program := "ytmkmdfgfclckoaa", sum := "ebb3fbee6e8a04bdccb0c0e94d80992d5627521ed9152bfa20d9dc6f6c935421", func := "windrose/windroselaw03.TypesMay", spec := "typesMay", unfollowed := true, recurses := true, apart := false }
def TypesMaySaid : Prop := typesMayRow.holds Try.pinned (OpenSpec.ofChange typesMaySpec)

/-- ITS FALSE NEIGHBOUR: 'it returns false'. Refute it at one input. -/
def typesMayWrong : ChangeSpec := { name := "typesMay", fn := fun _ => fun
  | [d1, d2] => { results := [.lit (.bool false)], args := [d1, d2] }
  | _ => none }
def TypesMayWrongFalsely : Prop := typesMayRow.holds Try.pinned (OpenSpec.ofChange typesMayWrong)

/-- 'windroselaw03.TypesPairs': WHATEVER THE INPUT: true; the input reads as it did. -/
def typesPairsSpec : ChangeSpec := { name := "typesPairs", fn := fun _ => fun
  | [d1, d2] => { results := [.lit (.bool true)], args := [d1, d2] }
  | _ => none }
def typesPairsRow : OpenClaim := { program := "ytmkmdfgfclckoaa", sum := "ebb3fbee6e8a04bdccb0c0e94d80992d5627521ed9152bfa20d9dc6f6c935421", func := "windrose/windroselaw03.TypesPairs", spec := "typesPairs", unfollowed := true, recurses := true, apart := false }
def TypesPairsSaid : Prop := typesPairsRow.holds Try.pinned (OpenSpec.ofChange typesPairsSpec)

/-- ITS FALSE NEIGHBOUR: 'it returns false'. Refute it at one input. -/
def typesPairsWrong : ChangeSpec := { name := "typesPairs", fn := fun _ => fun
  | [d1, d2] => { results := [.lit (.bool false)], args := [d1, d2] }
  | _ => none }
def TypesPairsWrongFalsely : Prop := typesPairsRow.holds Try.pinned (OpenSpec.ofChange typesPairsWrong)

/- THE SECOND FORM. 'bulk': how many values and letters a reading holds, each counted each time it is reached (what is shared counts as often as it is met; a slice's spare places count too). A statement '..UptoSaid' is the law's where the arguments, and the package variables that the reading takes, are together of bulk at most 1048576: NARROWER than '..Said'. Prove '..Said' where nothing that the law and all that it calls make is longer than what came in: it says more and counts as full. Else prove '..UptoSaid'. A law counts once. -/
mutual
def uptoBulk {H : Type} : DataW H → Nat
  | .lit (.string bytes) => bytes.length + 1
  | .lit _ => 1
  | .nil => 1
  | .ptr d => uptoBulk d + 1
  | .slice elems spare => uptoBulkAll elems + uptoBulkAll spare + 1
  | .agg parts => uptoBulkAll parts + 1
  | .iface _ d => uptoBulk d + 1
  | .map entries => uptoBulkEntries entries + 1
  | .held _ => 1
def uptoBulkAll {H : Type} : List (DataW H) → Nat
  | [] => 0
  | d :: r => uptoBulk d + uptoBulkAll r
def uptoBulkEntries {H : Type} : List (Lit × DataW H) → Nat
  | [] => 0
  | x :: r => uptoBulkEntry x + uptoBulkEntries r
def uptoBulkEntry {H : Type} : Lit × DataW H → Nat
  | (.string bytes, d) => bytes.length + uptoBulk d + 1
  | (_, d) => uptoBulk d + 1
 end
def uptoSmall : (H : Type) → List (DataW H) → Bool := fun _ ds => decide (uptoBulkAll ds ≤ 1048576)
def OpenSpec.upto (s : _root_.Go.ChangeSpec) : _root_.Go.OpenSpec := { _root_.Go.OpenSpec.ofChange s with cond := some uptoSmall }

/-- 'windroselaw03.TypesTells', WHERE WHAT IT READS IS OF BULK AT MOST 1048576: true; the input reads as it did. -/
def typesTellsUptoRow : OpenClaim := { program := "ytmkmdfgfclckoaa", sum := "ebb3fbee6e8a04bdccb0c0e94d80992d5627521ed9152bfa20d9dc6f6c935421", func := "windrose/windroselaw03.TypesTells", spec := "typesTells", unfollowed := true, recurses := true, apart := false, narrowed := true }
def TypesTellsUptoSaid : Prop := typesTellsUptoRow.holds Try.pinned (OpenSpec.upto typesTellsSpec)

/-- 'windroselaw03.TypesGoes', WHERE WHAT IT READS IS OF BULK AT MOST 1048576: true; the input reads as it did. -/
def typesGoesUptoRow : OpenClaim := { program := "ytmkmdfgfclckoaa", sum := "ebb3fbee6e8a04bdccb0c0e94d80992d5627521ed9152bfa20d9dc6f6c935421", func := "windrose/windroselaw03.TypesGoes", spec := "typesGoes", unfollowed := true, recurses := true, apart := false, narrowed := true }
def TypesGoesUptoSaid : Prop := typesGoesUptoRow.holds Try.pinned (OpenSpec.upto typesGoesSpec)

/-- 'windroselaw03.TypesTurn', WHERE WHAT IT READS IS OF BULK AT MOST 1048576: true; the input reads as it did. -/
def typesTurnUptoRow : OpenClaim := { program := "ytmkmdfgfclckoaa", sum := "ebb3fbee6e8a04bdccb0c0e94d80992d5627521ed9152bfa20d9dc6f6c935421", func := "windrose/windroselaw03.TypesTurn", spec := "typesTurn", unfollowed := true, recurses := true, apart := false, narrowed := true }
def TypesTurnUptoSaid : Prop := typesTurnUptoRow.holds Try.pinned (OpenSpec.upto typesTurnSpec)

/-- 'windroselaw03.TypesOrder', WHERE WHAT IT READS IS OF BULK AT MOST 1048576: true; the input reads as it did. -/
def typesOrderUptoRow : OpenClaim := { program := "ytmkmdfgfclckoaa", sum := "ebb3fbee6e8a04bdccb0c0e94d80992d5627521ed9152bfa20d9dc6f6c935421", func := "windrose/windroselaw03.TypesOrder", spec := "typesOrder", unfollowed := true, recurses := true, apart := false, narrowed := true }
def TypesOrderUptoSaid : Prop := typesOrderUptoRow.holds Try.pinned (OpenSpec.upto typesOrderSpec)

/-- 'windroselaw03.TypesMay', WHERE WHAT IT READS IS OF BULK AT MOST 1048576: true; the input reads as it did. -/
def typesMayUptoRow : OpenClaim := { program := "ytmkmdfgfclckoaa", sum := "ebb3fbee6e8a04bdccb0c0e94d80992d5627521ed9152bfa20d9dc6f6c935421", func := "windrose/windroselaw03.TypesMay", spec := "typesMay", unfollowed := true, recurses := true, apart := false, narrowed := true }
def TypesMayUptoSaid : Prop := typesMayUptoRow.holds Try.pinned (OpenSpec.upto typesMaySpec)

/-- 'windroselaw03.TypesPairs', WHERE WHAT IT READS IS OF BULK AT MOST 1048576: true; the input reads as it did. -/
def typesPairsUptoRow : OpenClaim := { program := "ytmkmdfgfclckoaa", sum := "ebb3fbee6e8a04bdccb0c0e94d80992d5627521ed9152bfa20d9dc6f6c935421", func := "windrose/windroselaw03.TypesPairs", spec := "typesPairs", unfollowed := true, recurses := true, apart := false, narrowed := true }
def TypesPairsUptoSaid : Prop := typesPairsUptoRow.holds Try.pinned (OpenSpec.upto typesPairsSpec)

end Rows
end Go.Proofs.Ytmkmdfgfclckoaa
