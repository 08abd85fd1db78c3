/-
  No cell of these rows narrows 'for every input' (looked for: loops, veiled, ifaces, maps, wideKeys, modest, calm, conditions, laid).
  DERIVED. THE GIVEN ROWS OF THIS SEAT. 5 by the template 'for every input the law returns true; each argument reads behind the call as it read before'; 0 by the template 'total and deterministic' (their statements: YtmigaagkfglabaaTotals.lean).
  GIVEN WITH THE SEED: the statements are not yours to turn. If you find one false, say at which input.
  Laid BY PROGRAM, IN A SANDBOX (cutbox-rows.mjs): the forced cells as the released guide's own fill.sh prints them over the translation 3c8124934d5b43ef… (all of the seat's roots in one cut). By AI agents, Wed Nov 11 2026. No macro, syntax, notation, axiom, sorry.
-/
import Derived.Test.YtmigaagkfglabaaChecked
import GoSem.Claim
import GoSem.ClaimJoined
import GoSem.ClaimMapViews
import Derived.JoinedTies
import Derived.KernelRfl
namespace Go.Proofs.Ytmigaagkfglabaa
/- THE CELL 'sum', in the pinned program and in every row, IS THE sha256 OF THE DUMP (.gsa) THAT YtmigaagkfglabaaProg.lean LOADS. Nothing in Lean hashes anything: it is a label: what it is worth is what the hold of that sum in a sandbox is worth. -/
noncomputable def Try.pinned : Pinned := { name := "ytmigaagkfglabaa", sum := "3c8124934d5b43ef53ca4303bfc0d482a372e2c13fe61a991838267a0148b7cb", checked := Try.checked }
namespace Rows
def none {H : Type} : Left H := { results := [], args := [] }

/-- 'windroselaw03.TypesPairs': WHATEVER THE INPUT: true; the input reads as it did. -/
def typesPairsSpec : ChangeSpec := { name := "typesPairs", fn := fun _ => fun
  | [d1, d2] => { results := [.lit (.bool true)], args := [d1, d2] }
  | _ => none }
def typesPairsRow : OpenClaim := { program := "ytmigaagkfglabaa", sum := "3c8124934d5b43ef53ca4303bfc0d482a372e2c13fe61a991838267a0148b7cb", func := "windrose/windroselaw03.TypesPairs", spec := "typesPairs", unfollowed := true, recurses := true, apart := false }
def TypesPairsSaid : Prop := typesPairsRow.holds Try.pinned (OpenSpec.ofChange typesPairsSpec)

/-- ITS FALSE NEIGHBOUR: 'it returns false'. Refute it at one input. -/
def typesPairsWrong : ChangeSpec := { name := "typesPairs", fn := fun _ => fun
  | [d1, d2] => { results := [.lit (.bool false)], args := [d1, d2] }
  | _ => none }
def TypesPairsWrongFalsely : Prop := typesPairsRow.holds Try.pinned (OpenSpec.ofChange typesPairsWrong)

/-- 'windroselaw14.IndexFinds': WHATEVER THE INPUT: true; the input reads as it did. -/
def indexFindsSpec : ChangeSpec := { name := "indexFinds", fn := fun _ => fun
  | [d1, d2, d3] => { results := [.lit (.bool true)], args := [d1, d2, d3] }
  | _ => none }
def indexFindsRow : OpenClaim := { program := "ytmigaagkfglabaa", sum := "3c8124934d5b43ef53ca4303bfc0d482a372e2c13fe61a991838267a0148b7cb", func := "windrose/windroselaw14.IndexFinds", spec := "indexFinds", inPlace := ["slices.overlaps[int]"], unfollowed := true, recurses := true, apart := false }
def IndexFindsSaid : Prop := indexFindsRow.holds Try.pinned (OpenSpec.ofChange indexFindsSpec)

/-- ITS FALSE NEIGHBOUR: 'it returns false'. Refute it at one input. -/
def indexFindsWrong : ChangeSpec := { name := "indexFinds", fn := fun _ => fun
  | [d1, d2, d3] => { results := [.lit (.bool false)], args := [d1, d2, d3] }
  | _ => none }
def IndexFindsWrongFalsely : Prop := indexFindsRow.holds Try.pinned (OpenSpec.ofChange indexFindsWrong)

/-- 'windroselaw14.IndexPatterns': WHATEVER THE INPUT: true; the input reads as it did. -/
def indexPatternsSpec : ChangeSpec := { name := "indexPatterns", fn := fun _ => fun
  | [d] => { results := [.lit (.bool true)], args := [d] }
  | _ => none }
def indexPatternsRow : OpenClaim := { program := "ytmigaagkfglabaa", sum := "3c8124934d5b43ef53ca4303bfc0d482a372e2c13fe61a991838267a0148b7cb", func := "windrose/windroselaw14.IndexPatterns", spec := "indexPatterns", inPlace := ["slices.overlaps[int]"], unfollowed := true, recurses := true, apart := false }
def IndexPatternsSaid : Prop := indexPatternsRow.holds Try.pinned (OpenSpec.ofChange indexPatternsSpec)

/-- ITS FALSE NEIGHBOUR: 'it returns false'. Refute it at one input. -/
def indexPatternsWrong : ChangeSpec := { name := "indexPatterns", fn := fun _ => fun
  | [d] => { results := [.lit (.bool false)], args := [d] }
  | _ => none }
def IndexPatternsWrongFalsely : Prop := indexPatternsRow.holds Try.pinned (OpenSpec.ofChange indexPatternsWrong)

/-- 'windroselaw14.IndexKeys': WHATEVER THE INPUT: true; the input reads as it did. -/
def indexKeysSpec : ChangeSpec := { name := "indexKeys", fn := fun _ => fun
  | [d] => { results := [.lit (.bool true)], args := [d] }
  | _ => none }
def indexKeysRow : OpenClaim := { program := "ytmigaagkfglabaa", sum := "3c8124934d5b43ef53ca4303bfc0d482a372e2c13fe61a991838267a0148b7cb", func := "windrose/windroselaw14.IndexKeys", spec := "indexKeys", inPlace := ["slices.overlaps[int]"], unfollowed := true, recurses := true, apart := false }
def IndexKeysSaid : Prop := indexKeysRow.holds Try.pinned (OpenSpec.ofChange indexKeysSpec)

/-- ITS FALSE NEIGHBOUR: 'it returns false'. Refute it at one input. -/
def indexKeysWrong : ChangeSpec := { name := "indexKeys", fn := fun _ => fun
  | [d] => { results := [.lit (.bool false)], args := [d] }
  | _ => none }
def IndexKeysWrongFalsely : Prop := indexKeysRow.holds Try.pinned (OpenSpec.ofChange indexKeysWrong)

/-- 'windroselaw14.IndexBack': WHATEVER THE INPUT: true; the input reads as it did. -/
def indexBackSpec : ChangeSpec := { name := "indexBack", fn := fun _ => fun
  | [d1, d2, d3] => { results := [.lit (.bool true)], args := [d1, d2, d3] }
  | _ => none }
def indexBackRow : OpenClaim := { program := "ytmigaagkfglabaa", sum := "3c8124934d5b43ef53ca4303bfc0d482a372e2c13fe61a991838267a0148b7cb", func := "windrose/windroselaw14.IndexBack", spec := "indexBack", inPlace := ["slices.overlaps[int]"], unfollowed := true, recurses := true, apart := false }
def IndexBackSaid : Prop := indexBackRow.holds Try.pinned (OpenSpec.ofChange indexBackSpec)

/-- ITS FALSE NEIGHBOUR: 'it returns false'. Refute it at one input. -/
def indexBackWrong : ChangeSpec := { name := "indexBack", fn := fun _ => fun
  | [d1, d2, d3] => { results := [.lit (.bool false)], args := [d1, d2, d3] }
  | _ => none }
def IndexBackWrongFalsely : Prop := indexBackRow.holds Try.pinned (OpenSpec.ofChange indexBackWrong)

/- THE SECOND FORM. 'bulk': how many values and letters a reading holds, each counted each time it is reached (what is shared counts as often as it is met; a slice's spare places count too). A statement '..UptoSaid' is the law's where the arguments, and the package variables that the reading takes, are together of bulk at most 1048576: NARROWER than '..Said'. Prove '..Said' where nothing that the law and all that it calls make is longer than what came in: it says more and counts as full. Else prove '..UptoSaid'. A law counts once. -/
mutual
def uptoBulk {H : Type} : DataW H → Nat
  | .lit (.string bytes) => bytes.length + 1
  | .lit _ => 1
  | .nil => 1
  | .ptr d => uptoBulk d + 1
  | .slice elems spare => uptoBulkAll elems + uptoBulkAll spare + 1
  | .agg parts => uptoBulkAll parts + 1
  | .iface _ d => uptoBulk d + 1
  | .map entries => uptoBulkEntries entries + 1
  | .held _ => 1
def uptoBulkAll {H : Type} : List (DataW H) → Nat
  | [] => 0
  | d :: r => uptoBulk d + uptoBulkAll r
def uptoBulkEntries {H : Type} : List (Lit × DataW H) → Nat
  | [] => 0
  | x :: r => uptoBulkEntry x + uptoBulkEntries r
def uptoBulkEntry {H : Type} : Lit × DataW H → Nat
  | (.string bytes, d) => bytes.length + uptoBulk d + 1
  | (_, d) => uptoBulk d + 1
 end
def uptoSmall : (H : Type) → List (DataW H) → Bool := fun _ ds => decide (uptoBulkAll ds ≤ 1048576)
def OpenSpec.upto (s : _root_.Go.ChangeSpec) : _root_.Go.OpenSpec := { _root_.Go.OpenSpec.ofChange s with cond := some uptoSmall }

/-- 'windroselaw03.TypesPairs', WHERE WHAT IT READS IS OF BULK AT MOST 1048576: true; the input reads as it did. -/
def typesPairsUptoRow : OpenClaim := { program := "ytmigaagkfglabaa", sum := "3c8124934d5b43ef53ca4303bfc0d482a372e2c13fe61a991838267a0148b7cb", func := "windrose/windroselaw03.TypesPairs", spec := "typesPairs", unfollowed := true, recurses := true, apart := false, narrowed := true }
def TypesPairsUptoSaid : Prop := typesPairsUptoRow.holds Try.pinned (OpenSpec.upto typesPairsSpec)

/-- 'windroselaw14.IndexFinds', WHERE WHAT IT READS IS OF BULK AT MOST 1048576: true; the input reads as it did. -/
def indexFindsUptoRow : OpenClaim := { program := "ytmigaagkfglabaa", sum := "3c8124934d5b43ef53ca4303bfc0d482a372e2c13fe61a991838267a0148b7cb", func := "windrose/windroselaw14.IndexFinds", spec := "indexFinds", inPlace := ["slices.overlaps[int]"], unfollowed := true, recurses := true, apart := false, narrowed := true }
def IndexFindsUptoSaid : Prop := indexFindsUptoRow.holds Try.pinned (OpenSpec.upto indexFindsSpec)

/-- 'windroselaw14.IndexPatterns', WHERE WHAT IT READS IS OF BULK AT MOST 1048576: true; the input reads as it did. -/
def indexPatternsUptoRow : OpenClaim := { program := "ytmigaagkfglabaa", sum := "3c8124934d5b43ef53ca4303bfc0d482a372e2c13fe61a991838267a0148b7cb", func := "windrose/windroselaw14.IndexPatterns", spec := "indexPatterns", inPlace := ["slices.overlaps[int]"], unfollowed := true, recurses := true, apart := false, narrowed := true }
def IndexPatternsUptoSaid : Prop := indexPatternsUptoRow.holds Try.pinned (OpenSpec.upto indexPatternsSpec)

/-- 'windroselaw14.IndexKeys', WHERE WHAT IT READS IS OF BULK AT MOST 1048576: true; the input reads as it did. -/
def indexKeysUptoRow : OpenClaim := { program := "ytmigaagkfglabaa", sum := "3c8124934d5b43ef53ca4303bfc0d482a372e2c13fe61a991838267a0148b7cb", func := "windrose/windroselaw14.IndexKeys", spec := "indexKeys", inPlace := ["slices.overlaps[int]"], unfollowed := true, recurses := true, apart := false, narrowed := true }
def IndexKeysUptoSaid : Prop := indexKeysUptoRow.holds Try.pinned (OpenSpec.upto indexKeysSpec)

/-- 'windroselaw14.IndexBack', WHERE WHAT IT READS IS OF BULK AT MOST 1048576: true; the input reads as it did. -/
def indexBackUptoRow : OpenClaim := { program := "ytmigaagkfglabaa", sum := "3c8124934d5b43ef53ca4303bfc0d482a372e2c13fe61a991838267a0148b7cb", func := "windrose/windroselaw14.IndexBack", spec := "indexBack", inPlace := ["slices.overlaps[int]"], unfollowed := true, recurses := true, apart := false, narrowed := true }
def IndexBackUptoSaid : Prop := indexBackUptoRow.holds Try.pinned (OpenSpec.upto indexBackSpec)

end Rows
end Go.Proofs.Ytmigaagkfglabaa
