/-
  No cell of these rows narrows 'for every input' (looked for: loops, veiled, ifaces, maps, wideKeys, modest, calm, conditions, laid).
  DERIVED. THE GIVEN ROWS OF THIS SEAT. 3 by the template 'for every input the law returns true; each argument reads behind the call as it read before'; 0 by the template 'total and deterministic' (their statements: YticbfkoialmojaaTotals.lean).
  GIVEN WITH THE SEED: the statements are not yours to turn. If you find one false, say at which input.
  Laid BY PROGRAM, IN A SANDBOX (cutbox-rows.mjs): the forced cells as the released guide's own fill.sh prints them over the translation 7fc784493eefddfb… (all of the seat's roots in one cut). By AI agents, Wed Nov 11 2026. No macro, syntax, notation, axiom, sorry.
-/
import Derived.Test.YticbfkoialmojaaChecked
import GoSem.Claim
import GoSem.ClaimJoined
import GoSem.ClaimMapViews
import Derived.JoinedTies
import Derived.KernelRfl
namespace Go.Proofs.Yticbfkoialmojaa
/- THE CELL 'sum', in the pinned program and in every row, IS THE sha256 OF THE DUMP (.gsa) THAT YticbfkoialmojaaProg.lean LOADS. Nothing in Lean hashes anything: it is a label: what it is worth is what the hold of that sum in a sandbox is worth. -/
noncomputable def Try.pinned : Pinned := { name := "yticbfkoialmojaa", sum := "7fc784493eefddfb0699162ed96ed924d4006c5edbfe8a4d4c05db548fe3ee15", checked := Try.checked }
namespace Rows
def none {H : Type} : Left H := { results := [], args := [] }

/-- 'laws.FnExactRatioOf': WHATEVER THE INPUT: true; the input reads as it did. -/
def fnExactRatioOfSpec : ChangeSpec := { name := "fnExactRatioOf", fn := fun _ => fun
  | [d1, d2] => { results := [.lit (.bool true)], args := [d1, d2] }
  | _ => none }
def fnExactRatioOfRow : OpenClaim := { program := "yticbfkoialmojaa", sum := "7fc784493eefddfb0699162ed96ed924d4006c5edbfe8a4d4c05db548fe3ee15", func := "loop.example/g01112/laws.FnExactRatioOf", spec := "fnExactRatioOf", unfollowed := true, recurses := true, apart := false }
def FnExactRatioOfSaid : Prop := fnExactRatioOfRow.holds Try.pinned (OpenSpec.ofChange fnExactRatioOfSpec)

/-- ITS FALSE NEIGHBOUR: 'it returns false'. Refute it at one input. -/
def fnExactRatioOfWrong : ChangeSpec := { name := "fnExactRatioOf", fn := fun _ => fun
  | [d1, d2] => { results := [.lit (.bool false)], args := [d1, d2] }
  | _ => none }
def FnExactRatioOfWrongFalsely : Prop := fnExactRatioOfRow.holds Try.pinned (OpenSpec.ofChange fnExactRatioOfWrong)

/-- 'laws.FnOptimal': WHATEVER THE INPUT: true; the input reads as it did. -/
def fnOptimalSpec : ChangeSpec := { name := "fnOptimal", fn := fun _ => fun
  | [d1, d2] => { results := [.lit (.bool true)], args := [d1, d2] }
  | _ => none }
def fnOptimalRow : OpenClaim := { program := "yticbfkoialmojaa", sum := "7fc784493eefddfb0699162ed96ed924d4006c5edbfe8a4d4c05db548fe3ee15", func := "loop.example/g01112/laws.FnOptimal", spec := "fnOptimal", unfollowed := true, recurses := true, apart := false }
def FnOptimalSaid : Prop := fnOptimalRow.holds Try.pinned (OpenSpec.ofChange fnOptimalSpec)

/-- ITS FALSE NEIGHBOUR: 'it returns false'. Refute it at one input. -/
def fnOptimalWrong : ChangeSpec := { name := "fnOptimal", fn := fun _ => fun
  | [d1, d2] => { results := [.lit (.bool false)], args := [d1, d2] }
  | _ => none }
def FnOptimalWrongFalsely : Prop := fnOptimalRow.holds Try.pinned (OpenSpec.ofChange fnOptimalWrong)

/-- 'laws.FnRivals': WHATEVER THE INPUT: true; the input reads as it did. -/
def fnRivalsSpec : ChangeSpec := { name := "fnRivals", fn := fun _ => fun
  | [d1, d2] => { results := [.lit (.bool true)], args := [d1, d2] }
  | _ => none }
def fnRivalsRow : OpenClaim := { program := "yticbfkoialmojaa", sum := "7fc784493eefddfb0699162ed96ed924d4006c5edbfe8a4d4c05db548fe3ee15", func := "loop.example/g01112/laws.FnRivals", spec := "fnRivals", inPlace := ["slices.overlaps[int64]"], unfollowed := true, recurses := true, apart := false }
def FnRivalsSaid : Prop := fnRivalsRow.holds Try.pinned (OpenSpec.ofChange fnRivalsSpec)

/-- ITS FALSE NEIGHBOUR: 'it returns false'. Refute it at one input. -/
def fnRivalsWrong : ChangeSpec := { name := "fnRivals", fn := fun _ => fun
  | [d1, d2] => { results := [.lit (.bool false)], args := [d1, d2] }
  | _ => none }
def FnRivalsWrongFalsely : Prop := fnRivalsRow.holds Try.pinned (OpenSpec.ofChange fnRivalsWrong)

/- THE SECOND FORM. 'bulk': how many values and letters a reading holds, each counted each time it is reached (what is shared counts as often as it is met; a slice's spare places count too). A statement '..UptoSaid' is the law's where the arguments, and the package variables that the reading takes, are together of bulk at most 1048576: NARROWER than '..Said'. Prove '..Said' where nothing that the law and all that it calls make is longer than what came in: it says more and counts as full. Else prove '..UptoSaid'. A law counts once. -/
mutual
def uptoBulk {H : Type} : DataW H → Nat
  | .lit (.string bytes) => bytes.length + 1
  | .lit _ => 1
  | .nil => 1
  | .ptr d => uptoBulk d + 1
  | .slice elems spare => uptoBulkAll elems + uptoBulkAll spare + 1
  | .agg parts => uptoBulkAll parts + 1
  | .iface _ d => uptoBulk d + 1
  | .map entries => uptoBulkEntries entries + 1
  | .held _ => 1
def uptoBulkAll {H : Type} : List (DataW H) → Nat
  | [] => 0
  | d :: r => uptoBulk d + uptoBulkAll r
def uptoBulkEntries {H : Type} : List (Lit × DataW H) → Nat
  | [] => 0
  | x :: r => uptoBulkEntry x + uptoBulkEntries r
def uptoBulkEntry {H : Type} : Lit × DataW H → Nat
  | (.string bytes, d) => bytes.length + uptoBulk d + 1
  | (_, d) => uptoBulk d + 1
 end
def uptoSmall : (H : Type) → List (DataW H) → Bool := fun _ ds => decide (uptoBulkAll ds ≤ 1048576)
def OpenSpec.upto (s : _root_.Go.ChangeSpec) : _root_.Go.OpenSpec := { _root_.Go.OpenSpec.ofChange s with cond := some uptoSmall }

/-- 'laws.FnExactRatioOf', WHERE WHAT IT READS IS OF BULK AT MOST 1048576: true; the input reads as it did. -/
def fnExactRatioOfUptoRow : OpenClaim := { program := "yticbfkoialmojaa", sum := "7fc784493eefddfb0699162ed96ed924d4006c5edbfe8a4d4c05db548fe3ee15", func := "loop.example/g01112/laws.FnExactRatioOf", spec := "fnExactRatioOf", unfollowed := true, recurses := true, apart := false, narrowed := true }
def FnExactRatioOfUptoSaid : Prop := fnExactRatioOfUptoRow.holds Try.pinned (OpenSpec.upto fnExactRatioOfSpec)

/-- 'laws.FnOptimal', WHERE WHAT IT READS IS OF BULK AT MOST 1048576: true; the input reads as it did. -/
def fnOptimalUptoRow : OpenClaim := { program := "yticbfkoialmojaa", sum := "7fc784493eefddfb0699162ed96ed924d4006c5edbfe8a4d4c05db548fe3ee15", func := "loop.example/g01112/laws.FnOptimal", spec := "fnOptimal", unfollowed := true, recurses := true, apart := false, narrowed := true }
def FnOptimalUptoSaid : Prop := fnOptimalUptoRow.holds Try.pinned (OpenSpec.upto fnOptimalSpec)

/-- 'laws.FnRivals', WHERE WHAT IT READS IS OF BULK AT MOST 1048576: true; the input reads as it did. -/
def fnRivalsUptoRow : OpenClaim := { program := "yticbfkoialmojaa", sum := "7fc784493eefddfb0699162ed96ed924d4006c5edbfe8a4d4c05db548fe3ee15", func := "loop.example/g01112/laws.FnRivals", spec := "fnRivals", inPlace := ["slices.overlaps[int64]"], unfollowed := true, recurses := true, apart := false, narrowed := true }
def FnRivalsUptoSaid : Prop := fnRivalsUptoRow.holds Try.pinned (OpenSpec.upto fnRivalsSpec)

end Rows
end Go.Proofs.Yticbfkoialmojaa
