/-
  NARROWER THAN 'FOR EVERY INPUT', by the rows' own cells (each row's printed sentence says how): AllocTakes: laid · AllocMay: laid · AllocLives: laid · AllocRoom: laid · AllocSees: laid · AllocGives: laid · PlanWhys: laid · PlanTouches: laid · PlanCloses: laid · PlanMore: laid.
  DERIVED. THE GIVEN ROWS OF THIS SEAT. 10 by the template 'for every input the law returns true; each argument reads behind the call as it read before'; 0 by the template 'total and deterministic' (their statements: YtmhoclmjgjopfaaDoorTotals.lean).
  GIVEN WITH THE SEED: the statements are not yours to turn. If you find one false, say at which input.
  Laid BY PROGRAM, IN A SANDBOX (cutbox-rows.mjs): the forced cells as the released guide's own fill.sh prints them over the translation 929eaac2091eea07… (all of the seat's roots in one cut). By AI agents, Wed Nov 11 2026. No macro, syntax, notation, axiom, sorry.
-/
import Derived.Test.YtmhoclmjgjopfaaDoorChecked
import GoSem.Claim
import GoSem.ClaimJoined
import GoSem.ClaimMapViews
import Derived.JoinedTies
import Derived.KernelRfl
namespace Go.Proofs.YtmhoclmjgjopfaaDoor
/- THE CELL 'sum', in the pinned program and in every row, IS THE sha256 OF THE DUMP (.gsa) THAT YtmhoclmjgjopfaaDoorProg.lean LOADS. Nothing in Lean hashes anything: it is a label: what it is worth is what the hold of that sum in a sandbox is worth. -/
noncomputable def Tryd.pinned : Pinned := { name := "ytmhoclmjgjopfaadoor", sum := "929eaac2091eea07e36ccf985f90357a400edc58ccfb99559485bfb9bc29bb85", checked := Tryd.checked }
namespace Rows
def none {H : Type} : Left H := { results := [], args := [] }

/- WHAT THE LISTED PACKAGE-LEVEL VARIABLES READ AS WHEN THE CALL BEGINS. Each datum BY PROGRAM (the guide's laid-datum.mjs) off the statement by which the dump's own 'gosem.cut.vars' lays the variable. In a bare row this is a premise. The card (YtmhoclmjgjopfaaDoorCards.lean) ties it to the program's text. -/
def laid_windrose_alloc_always {H : Type} : DataW H := .agg [.lit (.int .i64 0), .lit (.bool true)]
def laid_windrose_trait_first {H : Type} : DataW H := .agg [.agg [.lit (.int .i64 1), .agg [.lit (.bool true), .lit (.bool true), .lit (.int .i64 0), .lit (.int .i64 1), .lit (.int .i64 2)]], .agg [.lit (.int .i64 2), .agg [.lit (.bool true), .lit (.bool false), .lit (.int .i64 0), .lit (.int .i64 0), .lit (.int .i64 2)]]]

/-- 'windroselaw02.AllocTakes': WHATEVER THE INPUT: true; the input reads as it did. -/
def allocTakesSpec : ChangeSpec := { name := "allocTakes", fn := fun _ => fun
  | [d1, d2] => { results := [.lit (.bool true)], args := [d1, d2] }
  | _ => none }
def allocTakesRow : OpenClaim := { program := "ytmhoclmjgjopfaadoor", sum := "929eaac2091eea07e36ccf985f90357a400edc58ccfb99559485bfb9bc29bb85", func := "windrose/windroselaw02.AllocTakes", spec := "allocTakes", unfollowed := true, recurses := true, named := ["windrose/alloc.always"], apart := false, laid := [("windrose/alloc.always", laid_windrose_alloc_always)] }
def AllocTakesSaid : Prop := allocTakesRow.holds Tryd.pinned (OpenSpec.ofChange allocTakesSpec)

/-- ITS FALSE NEIGHBOUR: 'it returns false'. Refute it at one input. -/
def allocTakesWrong : ChangeSpec := { name := "allocTakes", fn := fun _ => fun
  | [d1, d2] => { results := [.lit (.bool false)], args := [d1, d2] }
  | _ => none }
def AllocTakesWrongFalsely : Prop := allocTakesRow.holds Tryd.pinned (OpenSpec.ofChange allocTakesWrong)

/-- 'windroselaw02.AllocMay': WHATEVER THE INPUT: true; the input reads as it did. -/
def allocMaySpec : ChangeSpec := { name := "allocMay", fn := fun _ => fun
  | [d1, d2, d3] => { results := [.lit (.bool true)], args := [d1, d2, d3] }
  | _ => none }
def allocMayRow : OpenClaim := { program := "ytmhoclmjgjopfaadoor", sum := "929eaac2091eea07e36ccf985f90357a400edc58ccfb99559485bfb9bc29bb85", func := "windrose/windroselaw02.AllocMay", spec := "allocMay", unfollowed := true, recurses := true, named := ["windrose/alloc.always"], apart := false, laid := [("windrose/alloc.always", laid_windrose_alloc_always)] }
def AllocMaySaid : Prop := allocMayRow.holds Tryd.pinned (OpenSpec.ofChange allocMaySpec)

/-- ITS FALSE NEIGHBOUR: 'it returns false'. Refute it at one input. -/
def allocMayWrong : ChangeSpec := { name := "allocMay", fn := fun _ => fun
  | [d1, d2, d3] => { results := [.lit (.bool false)], args := [d1, d2, d3] }
  | _ => none }
def AllocMayWrongFalsely : Prop := allocMayRow.holds Tryd.pinned (OpenSpec.ofChange allocMayWrong)

/-- 'windroselaw02.AllocLives': WHATEVER THE INPUT: true; the input reads as it did. -/
def allocLivesSpec : ChangeSpec := { name := "allocLives", fn := fun _ => fun
  | [d1, d2] => { results := [.lit (.bool true)], args := [d1, d2] }
  | _ => none }
def allocLivesRow : OpenClaim := { program := "ytmhoclmjgjopfaadoor", sum := "929eaac2091eea07e36ccf985f90357a400edc58ccfb99559485bfb9bc29bb85", func := "windrose/windroselaw02.AllocLives", spec := "allocLives", unfollowed := true, recurses := true, named := ["windrose/alloc.always"], apart := false, laid := [("windrose/alloc.always", laid_windrose_alloc_always)] }
def AllocLivesSaid : Prop := allocLivesRow.holds Tryd.pinned (OpenSpec.ofChange allocLivesSpec)

/-- ITS FALSE NEIGHBOUR: 'it returns false'. Refute it at one input. -/
def allocLivesWrong : ChangeSpec := { name := "allocLives", fn := fun _ => fun
  | [d1, d2] => { results := [.lit (.bool false)], args := [d1, d2] }
  | _ => none }
def AllocLivesWrongFalsely : Prop := allocLivesRow.holds Tryd.pinned (OpenSpec.ofChange allocLivesWrong)

/-- 'windroselaw02.AllocRoom': WHATEVER THE INPUT: true; the input reads as it did. -/
def allocRoomSpec : ChangeSpec := { name := "allocRoom", fn := fun _ => fun
  | [d] => { results := [.lit (.bool true)], args := [d] }
  | _ => none }
def allocRoomRow : OpenClaim := { program := "ytmhoclmjgjopfaadoor", sum := "929eaac2091eea07e36ccf985f90357a400edc58ccfb99559485bfb9bc29bb85", func := "windrose/windroselaw02.AllocRoom", spec := "allocRoom", unfollowed := true, recurses := true, named := ["windrose/alloc.always"], apart := false, laid := [("windrose/alloc.always", laid_windrose_alloc_always)] }
def AllocRoomSaid : Prop := allocRoomRow.holds Tryd.pinned (OpenSpec.ofChange allocRoomSpec)

/-- ITS FALSE NEIGHBOUR: 'it returns false'. Refute it at one input. -/
def allocRoomWrong : ChangeSpec := { name := "allocRoom", fn := fun _ => fun
  | [d] => { results := [.lit (.bool false)], args := [d] }
  | _ => none }
def AllocRoomWrongFalsely : Prop := allocRoomRow.holds Tryd.pinned (OpenSpec.ofChange allocRoomWrong)

/-- 'windroselaw02.AllocSees': WHATEVER THE INPUT: true; the input reads as it did. -/
def allocSeesSpec : ChangeSpec := { name := "allocSees", fn := fun _ => fun
  | [d1, d2] => { results := [.lit (.bool true)], args := [d1, d2] }
  | _ => none }
def allocSeesRow : OpenClaim := { program := "ytmhoclmjgjopfaadoor", sum := "929eaac2091eea07e36ccf985f90357a400edc58ccfb99559485bfb9bc29bb85", func := "windrose/windroselaw02.AllocSees", spec := "allocSees", unfollowed := true, recurses := true, named := ["windrose/alloc.always"], apart := false, laid := [("windrose/alloc.always", laid_windrose_alloc_always)] }
def AllocSeesSaid : Prop := allocSeesRow.holds Tryd.pinned (OpenSpec.ofChange allocSeesSpec)

/-- ITS FALSE NEIGHBOUR: 'it returns false'. Refute it at one input. -/
def allocSeesWrong : ChangeSpec := { name := "allocSees", fn := fun _ => fun
  | [d1, d2] => { results := [.lit (.bool false)], args := [d1, d2] }
  | _ => none }
def AllocSeesWrongFalsely : Prop := allocSeesRow.holds Tryd.pinned (OpenSpec.ofChange allocSeesWrong)

/-- 'windroselaw02.AllocGives': WHATEVER THE INPUT: true; the input reads as it did. -/
def allocGivesSpec : ChangeSpec := { name := "allocGives", fn := fun _ => fun
  | [d1, d2] => { results := [.lit (.bool true)], args := [d1, d2] }
  | _ => none }
def allocGivesRow : OpenClaim := { program := "ytmhoclmjgjopfaadoor", sum := "929eaac2091eea07e36ccf985f90357a400edc58ccfb99559485bfb9bc29bb85", func := "windrose/windroselaw02.AllocGives", spec := "allocGives", unfollowed := true, recurses := true, named := ["windrose/alloc.always"], apart := false, laid := [("windrose/alloc.always", laid_windrose_alloc_always)] }
def AllocGivesSaid : Prop := allocGivesRow.holds Tryd.pinned (OpenSpec.ofChange allocGivesSpec)

/-- ITS FALSE NEIGHBOUR: 'it returns false'. Refute it at one input. -/
def allocGivesWrong : ChangeSpec := { name := "allocGives", fn := fun _ => fun
  | [d1, d2] => { results := [.lit (.bool false)], args := [d1, d2] }
  | _ => none }
def AllocGivesWrongFalsely : Prop := allocGivesRow.holds Tryd.pinned (OpenSpec.ofChange allocGivesWrong)

/-- 'windroselaw20.PlanWhys': WHATEVER THE INPUT: true; the input reads as it did. -/
def planWhysSpec : ChangeSpec := { name := "planWhys", fn := fun _ => fun
  | [d1, d2, d3] => { results := [.lit (.bool true)], args := [d1, d2, d3] }
  | _ => none }
def planWhysRow : OpenClaim := { program := "ytmhoclmjgjopfaadoor", sum := "929eaac2091eea07e36ccf985f90357a400edc58ccfb99559485bfb9bc29bb85", func := "windrose/windroselaw20.PlanWhys", spec := "planWhys", unfollowed := true, recurses := true, named := ["windrose/trait.first"], apart := false, laid := [("windrose/trait.first", laid_windrose_trait_first)] }
def PlanWhysSaid : Prop := planWhysRow.holds Tryd.pinned (OpenSpec.ofChange planWhysSpec)

/-- ITS FALSE NEIGHBOUR: 'it returns false'. Refute it at one input. -/
def planWhysWrong : ChangeSpec := { name := "planWhys", fn := fun _ => fun
  | [d1, d2, d3] => { results := [.lit (.bool false)], args := [d1, d2, d3] }
  | _ => none }
def PlanWhysWrongFalsely : Prop := planWhysRow.holds Tryd.pinned (OpenSpec.ofChange planWhysWrong)

/-- 'windroselaw20.PlanTouches': WHATEVER THE INPUT: true; the input reads as it did. -/
def planTouchesSpec : ChangeSpec := { name := "planTouches", fn := fun _ => fun
  | [d1, d2, d3] => { results := [.lit (.bool true)], args := [d1, d2, d3] }
  | _ => none }
def planTouchesRow : OpenClaim := { program := "ytmhoclmjgjopfaadoor", sum := "929eaac2091eea07e36ccf985f90357a400edc58ccfb99559485bfb9bc29bb85", func := "windrose/windroselaw20.PlanTouches", spec := "planTouches", unfollowed := true, recurses := true, named := ["windrose/trait.first"], apart := false, laid := [("windrose/trait.first", laid_windrose_trait_first)] }
def PlanTouchesSaid : Prop := planTouchesRow.holds Tryd.pinned (OpenSpec.ofChange planTouchesSpec)

/-- ITS FALSE NEIGHBOUR: 'it returns false'. Refute it at one input. -/
def planTouchesWrong : ChangeSpec := { name := "planTouches", fn := fun _ => fun
  | [d1, d2, d3] => { results := [.lit (.bool false)], args := [d1, d2, d3] }
  | _ => none }
def PlanTouchesWrongFalsely : Prop := planTouchesRow.holds Tryd.pinned (OpenSpec.ofChange planTouchesWrong)

/-- 'windroselaw20.PlanCloses': WHATEVER THE INPUT: true; the input reads as it did. -/
def planClosesSpec : ChangeSpec := { name := "planCloses", fn := fun _ => fun
  | [d1, d2, d3] => { results := [.lit (.bool true)], args := [d1, d2, d3] }
  | _ => none }
def planClosesRow : OpenClaim := { program := "ytmhoclmjgjopfaadoor", sum := "929eaac2091eea07e36ccf985f90357a400edc58ccfb99559485bfb9bc29bb85", func := "windrose/windroselaw20.PlanCloses", spec := "planCloses", unfollowed := true, recurses := true, named := ["windrose/trait.first"], apart := false, laid := [("windrose/trait.first", laid_windrose_trait_first)] }
def PlanClosesSaid : Prop := planClosesRow.holds Tryd.pinned (OpenSpec.ofChange planClosesSpec)

/-- ITS FALSE NEIGHBOUR: 'it returns false'. Refute it at one input. -/
def planClosesWrong : ChangeSpec := { name := "planCloses", fn := fun _ => fun
  | [d1, d2, d3] => { results := [.lit (.bool false)], args := [d1, d2, d3] }
  | _ => none }
def PlanClosesWrongFalsely : Prop := planClosesRow.holds Tryd.pinned (OpenSpec.ofChange planClosesWrong)

/-- 'windroselaw20.PlanMore': WHATEVER THE INPUT: true; the input reads as it did. -/
def planMoreSpec : ChangeSpec := { name := "planMore", fn := fun _ => fun
  | [d1, d2, d3] => { results := [.lit (.bool true)], args := [d1, d2, d3] }
  | _ => none }
def planMoreRow : OpenClaim := { program := "ytmhoclmjgjopfaadoor", sum := "929eaac2091eea07e36ccf985f90357a400edc58ccfb99559485bfb9bc29bb85", func := "windrose/windroselaw20.PlanMore", spec := "planMore", unfollowed := true, recurses := true, named := ["windrose/trait.first"], apart := false, laid := [("windrose/trait.first", laid_windrose_trait_first)] }
def PlanMoreSaid : Prop := planMoreRow.holds Tryd.pinned (OpenSpec.ofChange planMoreSpec)

/-- ITS FALSE NEIGHBOUR: 'it returns false'. Refute it at one input. -/
def planMoreWrong : ChangeSpec := { name := "planMore", fn := fun _ => fun
  | [d1, d2, d3] => { results := [.lit (.bool false)], args := [d1, d2, d3] }
  | _ => none }
def PlanMoreWrongFalsely : Prop := planMoreRow.holds Tryd.pinned (OpenSpec.ofChange planMoreWrong)

/- THE SECOND FORM. 'bulk': how many values and letters a reading holds, each counted each time it is reached (what is shared counts as often as it is met; a slice's spare places count too). A statement '..UptoSaid' is the law's where the arguments, and the package variables that the reading takes, are together of bulk at most 1048576: NARROWER than '..Said'. Prove '..Said' where nothing that the law and all that it calls make is longer than what came in: it says more and counts as full. Else prove '..UptoSaid'. A law counts once. -/
mutual
def uptoBulk {H : Type} : DataW H → Nat
  | .lit (.string bytes) => bytes.length + 1
  | .lit _ => 1
  | .nil => 1
  | .ptr d => uptoBulk d + 1
  | .slice elems spare => uptoBulkAll elems + uptoBulkAll spare + 1
  | .agg parts => uptoBulkAll parts + 1
  | .iface _ d => uptoBulk d + 1
  | .map entries => uptoBulkEntries entries + 1
  | .held _ => 1
def uptoBulkAll {H : Type} : List (DataW H) → Nat
  | [] => 0
  | d :: r => uptoBulk d + uptoBulkAll r
def uptoBulkEntries {H : Type} : List (Lit × DataW H) → Nat
  | [] => 0
  | x :: r => uptoBulkEntry x + uptoBulkEntries r
def uptoBulkEntry {H : Type} : Lit × DataW H → Nat
  | (.string bytes, d) => bytes.length + uptoBulk d + 1
  | (_, d) => uptoBulk d + 1
 end
def uptoSmall : (H : Type) → List (DataW H) → Bool := fun _ ds => decide (uptoBulkAll ds ≤ 1048576)
def OpenSpec.upto (s : _root_.Go.ChangeSpec) : _root_.Go.OpenSpec := { _root_.Go.OpenSpec.ofChange s with cond := some uptoSmall }

/-- 'windroselaw02.AllocTakes', WHERE WHAT IT READS IS OF BULK AT MOST 1048576: true; the input reads as it did. -/
def allocTakesUptoRow : OpenClaim := { program := "ytmhoclmjgjopfaadoor", sum := "929eaac2091eea07e36ccf985f90357a400edc58ccfb99559485bfb9bc29bb85", func := "windrose/windroselaw02.AllocTakes", spec := "allocTakes", unfollowed := true, recurses := true, named := ["windrose/alloc.always"], apart := false, laid := [("windrose/alloc.always", laid_windrose_alloc_always)], narrowed := true }
def AllocTakesUptoSaid : Prop := allocTakesUptoRow.holds Tryd.pinned (OpenSpec.upto allocTakesSpec)

/-- 'windroselaw02.AllocMay', WHERE WHAT IT READS IS OF BULK AT MOST 1048576: true; the input reads as it did. -/
def allocMayUptoRow : OpenClaim := { program := "ytmhoclmjgjopfaadoor", sum := "929eaac2091eea07e36ccf985f90357a400edc58ccfb99559485bfb9bc29bb85", func := "windrose/windroselaw02.AllocMay", spec := "allocMay", unfollowed := true, recurses := true, named := ["windrose/alloc.always"], apart := false, laid := [("windrose/alloc.always", laid_windrose_alloc_always)], narrowed := true }
def AllocMayUptoSaid : Prop := allocMayUptoRow.holds Tryd.pinned (OpenSpec.upto allocMaySpec)

/-- 'windroselaw02.AllocLives', WHERE WHAT IT READS IS OF BULK AT MOST 1048576: true; the input reads as it did. -/
def allocLivesUptoRow : OpenClaim := { program := "ytmhoclmjgjopfaadoor", sum := "929eaac2091eea07e36ccf985f90357a400edc58ccfb99559485bfb9bc29bb85", func := "windrose/windroselaw02.AllocLives", spec := "allocLives", unfollowed := true, recurses := true, named := ["windrose/alloc.always"], apart := false, laid := [("windrose/alloc.always", laid_windrose_alloc_always)], narrowed := true }
def AllocLivesUptoSaid : Prop := allocLivesUptoRow.holds Tryd.pinned (OpenSpec.upto allocLivesSpec)

/-- 'windroselaw02.AllocRoom', WHERE WHAT IT READS IS OF BULK AT MOST 1048576: true; the input reads as it did. -/
def allocRoomUptoRow : OpenClaim := { program := "ytmhoclmjgjopfaadoor", sum := "929eaac2091eea07e36ccf985f90357a400edc58ccfb99559485bfb9bc29bb85", func := "windrose/windroselaw02.AllocRoom", spec := "allocRoom", unfollowed := true, recurses := true, named := ["windrose/alloc.always"], apart := false, laid := [("windrose/alloc.always", laid_windrose_alloc_always)], narrowed := true }
def AllocRoomUptoSaid : Prop := allocRoomUptoRow.holds Tryd.pinned (OpenSpec.upto allocRoomSpec)

/-- 'windroselaw02.AllocSees', WHERE WHAT IT READS IS OF BULK AT MOST 1048576: true; the input reads as it did. -/
def allocSeesUptoRow : OpenClaim := { program := "ytmhoclmjgjopfaadoor", sum := "929eaac2091eea07e36ccf985f90357a400edc58ccfb99559485bfb9bc29bb85", func := "windrose/windroselaw02.AllocSees", spec := "allocSees", unfollowed := true, recurses := true, named := ["windrose/alloc.always"], apart := false, laid := [("windrose/alloc.always", laid_windrose_alloc_always)], narrowed := true }
def AllocSeesUptoSaid : Prop := allocSeesUptoRow.holds Tryd.pinned (OpenSpec.upto allocSeesSpec)

/-- 'windroselaw02.AllocGives', WHERE WHAT IT READS IS OF BULK AT MOST 1048576: true; the input reads as it did. -/
def allocGivesUptoRow : OpenClaim := { program := "ytmhoclmjgjopfaadoor", sum := "929eaac2091eea07e36ccf985f90357a400edc58ccfb99559485bfb9bc29bb85", func := "windrose/windroselaw02.AllocGives", spec := "allocGives", unfollowed := true, recurses := true, named := ["windrose/alloc.always"], apart := false, laid := [("windrose/alloc.always", laid_windrose_alloc_always)], narrowed := true }
def AllocGivesUptoSaid : Prop := allocGivesUptoRow.holds Tryd.pinned (OpenSpec.upto allocGivesSpec)

/-- 'windroselaw20.PlanWhys', WHERE WHAT IT READS IS OF BULK AT MOST 1048576: true; the input reads as it did. -/
def planWhysUptoRow : OpenClaim := { program := "ytmhoclmjgjopfaadoor", sum := "929eaac2091eea07e36ccf985f90357a400edc58ccfb99559485bfb9bc29bb85", func := "windrose/windroselaw20.PlanWhys", spec := "planWhys", unfollowed := true, recurses := true, named := ["windrose/trait.first"], apart := false, laid := [("windrose/trait.first", laid_windrose_trait_first)], narrowed := true }
def PlanWhysUptoSaid : Prop := planWhysUptoRow.holds Tryd.pinned (OpenSpec.upto planWhysSpec)

/-- 'windroselaw20.PlanTouches', WHERE WHAT IT READS IS OF BULK AT MOST 1048576: true; the input reads as it did. -/
def planTouchesUptoRow : OpenClaim := { program := "ytmhoclmjgjopfaadoor", sum := "929eaac2091eea07e36ccf985f90357a400edc58ccfb99559485bfb9bc29bb85", func := "windrose/windroselaw20.PlanTouches", spec := "planTouches", unfollowed := true, recurses := true, named := ["windrose/trait.first"], apart := false, laid := [("windrose/trait.first", laid_windrose_trait_first)], narrowed := true }
def PlanTouchesUptoSaid : Prop := planTouchesUptoRow.holds Tryd.pinned (OpenSpec.upto planTouchesSpec)

/-- 'windroselaw20.PlanCloses', WHERE WHAT IT READS IS OF BULK AT MOST 1048576: true; the input reads as it did. -/
def planClosesUptoRow : OpenClaim := { program := "ytmhoclmjgjopfaadoor", sum := "929eaac2091eea07e36ccf985f90357a400edc58ccfb99559485bfb9bc29bb85", func := "windrose/windroselaw20.PlanCloses", spec := "planCloses", unfollowed := true, recurses := true, named := ["windrose/trait.first"], apart := false, laid := [("windrose/trait.first", laid_windrose_trait_first)], narrowed := true }
def PlanClosesUptoSaid : Prop := planClosesUptoRow.holds Tryd.pinned (OpenSpec.upto planClosesSpec)

/-- 'windroselaw20.PlanMore', WHERE WHAT IT READS IS OF BULK AT MOST 1048576: true; the input reads as it did. -/
def planMoreUptoRow : OpenClaim := { program := "ytmhoclmjgjopfaadoor", sum := "929eaac2091eea07e36ccf985f90357a400edc58ccfb99559485bfb9bc29bb85", func := "windrose/windroselaw20.PlanMore", spec := "planMore", unfollowed := true, recurses := true, named := ["windrose/trait.first"], apart := false, laid := [("windrose/trait.first", laid_windrose_trait_first)], narrowed := true }
def PlanMoreUptoSaid : Prop := planMoreUptoRow.holds Tryd.pinned (OpenSpec.upto planMoreSpec)

end Rows
end Go.Proofs.YtmhoclmjgjopfaaDoor
