/-
  No cell of these rows narrows 'for every input' (looked for: loops, veiled, ifaces, maps, wideKeys, modest, calm, conditions, laid).
  DERIVED. THE GIVEN ROWS OF THIS SEAT. 11 by the template 'for every input the law returns true; each argument reads behind the call as it read before'; 0 by the template 'total and deterministic' (their statements: YtkhjpgimjkofcaaTotals.lean).
  GIVEN WITH THE SEED: the statements are not yours to turn. If you find one false, say at which input.
  Laid BY PROGRAM, IN A SANDBOX (cutbox-rows.mjs): the forced cells as the released guide's own fill.sh prints them over the translation afec12d88d8d6547… (all of the seat's roots in one cut). By AI agents, Wed Nov 11 2026. No macro, syntax, notation, axiom, sorry.
-/
import Derived.Test.YtkhjpgimjkofcaaChecked
import GoSem.Claim
import GoSem.ClaimJoined
import GoSem.ClaimMapViews
import Derived.JoinedTies
import Derived.KernelRfl
namespace Go.Proofs.Ytkhjpgimjkofcaa
/- THE CELL 'sum', in the pinned program and in every row, IS THE sha256 OF THE DUMP (.gsa) THAT YtkhjpgimjkofcaaProg.lean LOADS. Nothing in Lean hashes anything: it is a label: what it is worth is what the hold of that sum in a sandbox is worth. -/
noncomputable def Try.pinned : Pinned := { name := "ytkhjpgimjkofcaa", sum := "afec12d88d8d65476e6271f96a24e65f92c1e8473226d66d401580f03b2ed49d", checked := Try.checked }
namespace Rows
def none {H : Type} : Left H := { results := [], args := [] }

/-- 'windroselaw18.HeirWays': WHATEVER THE INPUT: true; the input reads as it did. -/
def heirWaysSpec : ChangeSpec := { name := "heirWays", fn := fun _ => fun
  | [d1, d2] => { results := [.lit (.bool true)], args := [d1, d2] }
  | _ => none }
def heirWaysRow : OpenClaim := { program := "ytkhjpgimjkofcaa", sum := "afec12d88d8d65476e6271f96a24e65f92c1e8473226d66d401580f03b2ed49d", func := "windrose/windroselaw18.HeirWays", spec := "heirWays", unfollowed := true, recurses := true, apart := false }
def HeirWaysSaid : Prop := heirWaysRow.holds Try.pinned (OpenSpec.ofChange heirWaysSpec)

/-- ITS FALSE NEIGHBOUR: 'it returns false'. Refute it at one input. -/
def heirWaysWrong : ChangeSpec := { name := "heirWays", fn := fun _ => fun
  | [d1, d2] => { results := [.lit (.bool false)], args := [d1, d2] }
  | _ => none }
def HeirWaysWrongFalsely : Prop := heirWaysRow.holds Try.pinned (OpenSpec.ofChange heirWaysWrong)

/-- 'windroselaw18.HeirOwners': WHATEVER THE INPUT: true; the input reads as it did. -/
def heirOwnersSpec : ChangeSpec := { name := "heirOwners", fn := fun _ => fun
  | [d1, d2, d3] => { results := [.lit (.bool true)], args := [d1, d2, d3] }
  | _ => none }
def heirOwnersRow : OpenClaim := { program := "ytkhjpgimjkofcaa", sum := "afec12d88d8d65476e6271f96a24e65f92c1e8473226d66d401580f03b2ed49d", func := "windrose/windroselaw18.HeirOwners", spec := "heirOwners", unfollowed := true, recurses := true, apart := false }
def HeirOwnersSaid : Prop := heirOwnersRow.holds Try.pinned (OpenSpec.ofChange heirOwnersSpec)

/-- ITS FALSE NEIGHBOUR: 'it returns false'. Refute it at one input. -/
def heirOwnersWrong : ChangeSpec := { name := "heirOwners", fn := fun _ => fun
  | [d1, d2, d3] => { results := [.lit (.bool false)], args := [d1, d2, d3] }
  | _ => none }
def HeirOwnersWrongFalsely : Prop := heirOwnersRow.holds Try.pinned (OpenSpec.ofChange heirOwnersWrong)

/-- 'windroselaw18.HeirParts': WHATEVER THE INPUT: true; the input reads as it did. -/
def heirPartsSpec : ChangeSpec := { name := "heirParts", fn := fun _ => fun
  | [d1, d2, d3] => { results := [.lit (.bool true)], args := [d1, d2, d3] }
  | _ => none }
def heirPartsRow : OpenClaim := { program := "ytkhjpgimjkofcaa", sum := "afec12d88d8d65476e6271f96a24e65f92c1e8473226d66d401580f03b2ed49d", func := "windrose/windroselaw18.HeirParts", spec := "heirParts", unfollowed := true, recurses := true, apart := false }
def HeirPartsSaid : Prop := heirPartsRow.holds Try.pinned (OpenSpec.ofChange heirPartsSpec)

/-- ITS FALSE NEIGHBOUR: 'it returns false'. Refute it at one input. -/
def heirPartsWrong : ChangeSpec := { name := "heirParts", fn := fun _ => fun
  | [d1, d2, d3] => { results := [.lit (.bool false)], args := [d1, d2, d3] }
  | _ => none }
def HeirPartsWrongFalsely : Prop := heirPartsRow.holds Try.pinned (OpenSpec.ofChange heirPartsWrong)

/-- 'windroselaw18.HeirMore': WHATEVER THE INPUT: true; the input reads as it did. -/
def heirMoreSpec : ChangeSpec := { name := "heirMore", fn := fun _ => fun
  | [d1, d2, d3] => { results := [.lit (.bool true)], args := [d1, d2, d3] }
  | _ => none }
def heirMoreRow : OpenClaim := { program := "ytkhjpgimjkofcaa", sum := "afec12d88d8d65476e6271f96a24e65f92c1e8473226d66d401580f03b2ed49d", func := "windrose/windroselaw18.HeirMore", spec := "heirMore", unfollowed := true, recurses := true, apart := false }
def HeirMoreSaid : Prop := heirMoreRow.holds Try.pinned (OpenSpec.ofChange heirMoreSpec)

/-- ITS FALSE NEIGHBOUR: 'it returns false'. Refute it at one input. -/
def heirMoreWrong : ChangeSpec := { name := "heirMore", fn := fun _ => fun
  | [d1, d2, d3] => { results := [.lit (.bool false)], args := [d1, d2, d3] }
  | _ => none }
def HeirMoreWrongFalsely : Prop := heirMoreRow.holds Try.pinned (OpenSpec.ofChange heirMoreWrong)

/-- 'windroselaw18.HeirFirst': WHATEVER THE INPUT: true; the input reads as it did. -/
def heirFirstSpec : ChangeSpec := { name := "heirFirst", fn := fun _ => fun
  | [d1, d2, d3] => { results := [.lit (.bool true)], args := [d1, d2, d3] }
  | _ => none }
def heirFirstRow : OpenClaim := { program := "ytkhjpgimjkofcaa", sum := "afec12d88d8d65476e6271f96a24e65f92c1e8473226d66d401580f03b2ed49d", func := "windrose/windroselaw18.HeirFirst", spec := "heirFirst", unfollowed := true, recurses := true, apart := false }
def HeirFirstSaid : Prop := heirFirstRow.holds Try.pinned (OpenSpec.ofChange heirFirstSpec)

/-- ITS FALSE NEIGHBOUR: 'it returns false'. Refute it at one input. -/
def heirFirstWrong : ChangeSpec := { name := "heirFirst", fn := fun _ => fun
  | [d1, d2, d3] => { results := [.lit (.bool false)], args := [d1, d2, d3] }
  | _ => none }
def HeirFirstWrongFalsely : Prop := heirFirstRow.holds Try.pinned (OpenSpec.ofChange heirFirstWrong)

/-- 'windroselaw16.ChainOf': WHATEVER THE INPUT: true; the input reads as it did. -/
def chainOfSpec : ChangeSpec := { name := "chainOf", fn := fun _ => fun
  | [d] => { results := [.lit (.bool true)], args := [d] }
  | _ => none }
def chainOfRow : OpenClaim := { program := "ytkhjpgimjkofcaa", sum := "afec12d88d8d65476e6271f96a24e65f92c1e8473226d66d401580f03b2ed49d", func := "windrose/windroselaw16.ChainOf", spec := "chainOf", unfollowed := true, recurses := true, apart := false }
def ChainOfSaid : Prop := chainOfRow.holds Try.pinned (OpenSpec.ofChange chainOfSpec)

/-- ITS FALSE NEIGHBOUR: 'it returns false'. Refute it at one input. -/
def chainOfWrong : ChangeSpec := { name := "chainOf", fn := fun _ => fun
  | [d] => { results := [.lit (.bool false)], args := [d] }
  | _ => none }
def ChainOfWrongFalsely : Prop := chainOfRow.holds Try.pinned (OpenSpec.ofChange chainOfWrong)

/-- 'windroselaw16.ChainThird': WHATEVER THE INPUT: true; the input reads as it did. -/
def chainThirdSpec : ChangeSpec := { name := "chainThird", fn := fun _ => fun
  | [d1, d2, d3] => { results := [.lit (.bool true)], args := [d1, d2, d3] }
  | _ => none }
def chainThirdRow : OpenClaim := { program := "ytkhjpgimjkofcaa", sum := "afec12d88d8d65476e6271f96a24e65f92c1e8473226d66d401580f03b2ed49d", func := "windrose/windroselaw16.ChainThird", spec := "chainThird", unfollowed := true, recurses := true, apart := false }
def ChainThirdSaid : Prop := chainThirdRow.holds Try.pinned (OpenSpec.ofChange chainThirdSpec)

/-- ITS FALSE NEIGHBOUR: 'it returns false'. Refute it at one input. -/
def chainThirdWrong : ChangeSpec := { name := "chainThird", fn := fun _ => fun
  | [d1, d2, d3] => { results := [.lit (.bool false)], args := [d1, d2, d3] }
  | _ => none }
def ChainThirdWrongFalsely : Prop := chainThirdRow.holds Try.pinned (OpenSpec.ofChange chainThirdWrong)

/-- 'windroselaw16.ChainCloses': WHATEVER THE INPUT: true; the input reads as it did. -/
def chainClosesSpec : ChangeSpec := { name := "chainCloses", fn := fun _ => fun
  | [d1, d2] => { results := [.lit (.bool true)], args := [d1, d2] }
  | _ => none }
def chainClosesRow : OpenClaim := { program := "ytkhjpgimjkofcaa", sum := "afec12d88d8d65476e6271f96a24e65f92c1e8473226d66d401580f03b2ed49d", func := "windrose/windroselaw16.ChainCloses", spec := "chainCloses", unfollowed := true, recurses := true, apart := false }
def ChainClosesSaid : Prop := chainClosesRow.holds Try.pinned (OpenSpec.ofChange chainClosesSpec)

/-- ITS FALSE NEIGHBOUR: 'it returns false'. Refute it at one input. -/
def chainClosesWrong : ChangeSpec := { name := "chainCloses", fn := fun _ => fun
  | [d1, d2] => { results := [.lit (.bool false)], args := [d1, d2] }
  | _ => none }
def ChainClosesWrongFalsely : Prop := chainClosesRow.holds Try.pinned (OpenSpec.ofChange chainClosesWrong)

/-- 'windroselaw16.ChainLeads': WHATEVER THE INPUT: true; the input reads as it did. -/
def chainLeadsSpec : ChangeSpec := { name := "chainLeads", fn := fun _ => fun
  | [d1, d2] => { results := [.lit (.bool true)], args := [d1, d2] }
  | _ => none }
def chainLeadsRow : OpenClaim := { program := "ytkhjpgimjkofcaa", sum := "afec12d88d8d65476e6271f96a24e65f92c1e8473226d66d401580f03b2ed49d", func := "windrose/windroselaw16.ChainLeads", spec := "chainLeads", unfollowed := true, recurses := true, apart := false }
def ChainLeadsSaid : Prop := chainLeadsRow.holds Try.pinned (OpenSpec.ofChange chainLeadsSpec)

/-- ITS FALSE NEIGHBOUR: 'it returns false'. Refute it at one input. -/
def chainLeadsWrong : ChangeSpec := { name := "chainLeads", fn := fun _ => fun
  | [d1, d2] => { results := [.lit (.bool false)], args := [d1, d2] }
  | _ => none }
def ChainLeadsWrongFalsely : Prop := chainLeadsRow.holds Try.pinned (OpenSpec.ofChange chainLeadsWrong)

/-- 'windroselaw16.ChainFar': WHATEVER THE INPUT: true; the input reads as it did. -/
def chainFarSpec : ChangeSpec := { name := "chainFar", fn := fun _ => fun
  | [d1, d2] => { results := [.lit (.bool true)], args := [d1, d2] }
  | _ => none }
def chainFarRow : OpenClaim := { program := "ytkhjpgimjkofcaa", sum := "afec12d88d8d65476e6271f96a24e65f92c1e8473226d66d401580f03b2ed49d", func := "windrose/windroselaw16.ChainFar", spec := "chainFar", unfollowed := true, recurses := true, apart := false }
def ChainFarSaid : Prop := chainFarRow.holds Try.pinned (OpenSpec.ofChange chainFarSpec)

/-- ITS FALSE NEIGHBOUR: 'it returns false'. Refute it at one input. -/
def chainFarWrong : ChangeSpec := { name := "chainFar", fn := fun _ => fun
  | [d1, d2] => { results := [.lit (.bool false)], args := [d1, d2] }
  | _ => none }
def ChainFarWrongFalsely : Prop := chainFarRow.holds Try.pinned (OpenSpec.ofChange chainFarWrong)

/-- 'windroselaw16.ChainWaves': WHATEVER THE INPUT: true; the input reads as it did. -/
def chainWavesSpec : ChangeSpec := { name := "chainWaves", fn := fun _ => fun
  | [d1, d2] => { results := [.lit (.bool true)], args := [d1, d2] }
  | _ => none }
def chainWavesRow : OpenClaim := { program := "ytkhjpgimjkofcaa", sum := "afec12d88d8d65476e6271f96a24e65f92c1e8473226d66d401580f03b2ed49d", func := "windrose/windroselaw16.ChainWaves", spec := "chainWaves", unfollowed := true, recurses := true, apart := false }
def ChainWavesSaid : Prop := chainWavesRow.holds Try.pinned (OpenSpec.ofChange chainWavesSpec)

/-- ITS FALSE NEIGHBOUR: 'it returns false'. Refute it at one input. -/
def chainWavesWrong : ChangeSpec := { name := "chainWaves", fn := fun _ => fun
  | [d1, d2] => { results := [.lit (.bool false)], args := [d1, d2] }
  | _ => none }
def ChainWavesWrongFalsely : Prop := chainWavesRow.holds Try.pinned (OpenSpec.ofChange chainWavesWrong)

/- THE SECOND FORM. 'bulk': how many values and letters a reading holds, each counted each time it is reached (what is shared counts as often as it is met; a slice's spare places count too). A statement '..UptoSaid' is the law's where the arguments, and the package variables that the reading takes, are together of bulk at most 1048576: NARROWER than '..Said'. Prove '..Said' where nothing that the law and all that it calls make is longer than what came in: it says more and counts as full. Else prove '..UptoSaid'. A law counts once. -/
mutual
def uptoBulk {H : Type} : DataW H → Nat
  | .lit (.string bytes) => bytes.length + 1
  | .lit _ => 1
  | .nil => 1
  | .ptr d => uptoBulk d + 1
  | .slice elems spare => uptoBulkAll elems + uptoBulkAll spare + 1
  | .agg parts => uptoBulkAll parts + 1
  | .iface _ d => uptoBulk d + 1
  | .map entries => uptoBulkEntries entries + 1
  | .held _ => 1
def uptoBulkAll {H : Type} : List (DataW H) → Nat
  | [] => 0
  | d :: r => uptoBulk d + uptoBulkAll r
def uptoBulkEntries {H : Type} : List (Lit × DataW H) → Nat
  | [] => 0
  | x :: r => uptoBulkEntry x + uptoBulkEntries r
def uptoBulkEntry {H : Type} : Lit × DataW H → Nat
  | (.string bytes, d) => bytes.length + uptoBulk d + 1
  | (_, d) => uptoBulk d + 1
 end
def uptoSmall : (H : Type) → List (DataW H) → Bool := fun _ ds => decide (uptoBulkAll ds ≤ 1048576)
def OpenSpec.upto (s : _root_.Go.ChangeSpec) : _root_.Go.OpenSpec := { _root_.Go.OpenSpec.ofChange s with cond := some uptoSmall }

/-- 'windroselaw18.HeirWays', WHERE WHAT IT READS IS OF BULK AT MOST 1048576: true; the input reads as it did. -/
def heirWaysUptoRow : OpenClaim := { program := "ytkhjpgimjkofcaa", sum := "afec12d88d8d65476e6271f96a24e65f92c1e8473226d66d401580f03b2ed49d", func := "windrose/windroselaw18.HeirWays", spec := "heirWays", unfollowed := true, recurses := true, apart := false, narrowed := true }
def HeirWaysUptoSaid : Prop := heirWaysUptoRow.holds Try.pinned (OpenSpec.upto heirWaysSpec)

/-- 'windroselaw18.HeirOwners', WHERE WHAT IT READS IS OF BULK AT MOST 1048576: true; the input reads as it did. -/
def heirOwnersUptoRow : OpenClaim := { program := "ytkhjpgimjkofcaa", sum := "afec12d88d8d65476e6271f96a24e65f92c1e8473226d66d401580f03b2ed49d", func := "windrose/windroselaw18.HeirOwners", spec := "heirOwners", unfollowed := true, recurses := true, apart := false, narrowed := true }
def HeirOwnersUptoSaid : Prop := heirOwnersUptoRow.holds Try.pinned (OpenSpec.upto heirOwnersSpec)

/-- 'windroselaw18.HeirParts', WHERE WHAT IT READS IS OF BULK AT MOST 1048576: true; the input reads as it did. -/
def heirPartsUptoRow : OpenClaim := { program := "ytkhjpgimjkofcaa", sum := "afec12d88d8d65476e6271f96a24e65f92c1e8473226d66d401580f03b2ed49d", func := "windrose/windroselaw18.HeirParts", spec := "heirParts", unfollowed := true, recurses := true, apart := false, narrowed := true }
def HeirPartsUptoSaid : Prop := heirPartsUptoRow.holds Try.pinned (OpenSpec.upto heirPartsSpec)

/-- 'windroselaw18.HeirMore', WHERE WHAT IT READS IS OF BULK AT MOST 1048576: true; the input reads as it did. -/
def heirMoreUptoRow : OpenClaim := { program := "ytkhjpgimjkofcaa", sum := "afec12d88d8d65476e6271f96a24e65f92c1e8473226d66d401580f03b2ed49d", func := "windrose/windroselaw18.HeirMore", spec := "heirMore", unfollowed := true, recurses := true, apart := false, narrowed := true }
def HeirMoreUptoSaid : Prop := heirMoreUptoRow.holds Try.pinned (OpenSpec.upto heirMoreSpec)

/-- 'windroselaw18.HeirFirst', WHERE WHAT IT READS IS OF BULK AT MOST 1048576: true; the input reads as it did. -/
def heirFirstUptoRow : OpenClaim := { program := "ytkhjpgimjkofcaa", sum := "afec12d88d8d65476e6271f96a24e65f92c1e8473226d66d401580f03b2ed49d", func := "windrose/windroselaw18.HeirFirst", spec := "heirFirst", unfollowed := true, recurses := true, apart := false, narrowed := true }
def HeirFirstUptoSaid : Prop := heirFirstUptoRow.holds Try.pinned (OpenSpec.upto heirFirstSpec)

/-- 'windroselaw16.ChainOf', WHERE WHAT IT READS IS OF BULK AT MOST 1048576: true; the input reads as it did. -/
def chainOfUptoRow : OpenClaim := { program := "ytkhjpgimjkofcaa", sum := "afec12d88d8d65476e6271f96a24e65f92c1e8473226d66d401580f03b2ed49d", func := "windrose/windroselaw16.ChainOf", spec := "chainOf", unfollowed := true, recurses := true, apart := false, narrowed := true }
def ChainOfUptoSaid : Prop := chainOfUptoRow.holds Try.pinned (OpenSpec.upto chainOfSpec)

/-- 'windroselaw16.ChainThird', WHERE WHAT IT READS IS OF BULK AT MOST 1048576: true; the input reads as it did. -/
def chainThirdUptoRow : OpenClaim := { program := "ytkhjpgimjkofcaa", sum := "afec12d88d8d65476e6271f96a24e65f92c1e8473226d66d401580f03b2ed49d", func := "windrose/windroselaw16.ChainThird", spec := "chainThird", unfollowed := true, recurses := true, apart := false, narrowed := true }
def ChainThirdUptoSaid : Prop := chainThirdUptoRow.holds Try.pinned (OpenSpec.upto chainThirdSpec)

/-- 'windroselaw16.ChainCloses', WHERE WHAT IT READS IS OF BULK AT MOST 1048576: true; the input reads as it did. -/
def chainClosesUptoRow : OpenClaim := { program := "ytkhjpgimjkofcaa", sum := "afec12d88d8d65476e6271f96a24e65f92c1e8473226d66d401580f03b2ed49d", func := "windrose/windroselaw16.ChainCloses", spec := "chainCloses", unfollowed := true, recurses := true, apart := false, narrowed := true }
def ChainClosesUptoSaid : Prop := chainClosesUptoRow.holds Try.pinned (OpenSpec.upto chainClosesSpec)

/-- 'windroselaw16.ChainLeads', WHERE WHAT IT READS IS OF BULK AT MOST 1048576: true; the input reads as it did. -/
def chainLeadsUptoRow : OpenClaim := { program := "ytkhjpgimjkofcaa", sum := "afec12d88d8d65476e6271f96a24e65f92c1e8473226d66d401580f03b2ed49d", func := "windrose/windroselaw16.ChainLeads", spec := "chainLeads", unfollowed := true, recurses := true, apart := false, narrowed := true }
def ChainLeadsUptoSaid : Prop := chainLeadsUptoRow.holds Try.pinned (OpenSpec.upto chainLeadsSpec)

/-- 'windroselaw16.ChainFar', WHERE WHAT IT READS IS OF BULK AT MOST 1048576: true; the input reads as it did. -/
def chainFarUptoRow : OpenClaim := { program := "ytkhjpgimjkofcaa", sum := "afec12d88d8d65476e6271f96a24e65f92c1e8473226d66d401580f03b2ed49d", func := "windrose/windroselaw16.ChainFar", spec := "chainFar", unfollowed := true, recurses := true, apart := false, narrowed := true }
def ChainFarUptoSaid : Prop := chainFarUptoRow.holds Try.pinned (OpenSpec.upto chainFarSpec)

/-- 'windroselaw16.ChainWaves', WHERE WHAT IT READS IS OF BULK AT MOST 1048576: true; the input reads as it did. -/
def chainWavesUptoRow : OpenClaim := { program := "ytkhjpgimjkofcaa", sum := "afec12d88d8d65476e6271f96a24e65f92c1e8473226d66d401580f03b2ed49d", func := "windrose/windroselaw16.ChainWaves", spec := "chainWaves", unfollowed := true, recurses := true, apart := false, narrowed := true }
def ChainWavesUptoSaid : Prop := chainWavesUptoRow.holds Try.pinned (OpenSpec.upto chainWavesSpec)

end Rows
end Go.Proofs.Ytkhjpgimjkofcaa
