/-
  No cell of these rows narrows 'for every input' (looked for: loops, veiled, ifaces, maps, wideKeys, modest, calm, conditions, laid).
  DERIVED. THE GIVEN ROWS OF THIS SEAT. 4 by the template 'for every input the law returns true; each argument reads behind the call as it read before'; 0 by the template 'total and deterministic' (their statements: YtbapbghnageckaaGreatTotals.lean).
  GIVEN WITH THE SEED: the statements are not yours to turn. If you find one false, say at which input.
  Laid BY PROGRAM, IN A SANDBOX (cutbox-rows.mjs): the forced cells as the released guide's own fill.sh prints them over the translation 32919d7e1cf9ed66… (all of the seat's roots in one cut). By AI agents, Wed Nov 11 2026. No macro, syntax, notation, axiom, sorry.
-/
import Derived.Test.YtbapbghnageckaaGreatChecked
import GoSem.Claim
import GoSem.ClaimJoined
import GoSem.ClaimMapViews
import Derived.JoinedTies
import Derived.KernelRfl
namespace Go.Proofs.YtbapbghnageckaaGreat
/- THE CELL 'sum', in the pinned program and in every row, IS THE sha256 OF THE DUMP (.gsa) THAT YtbapbghnageckaaGreatProg.lean LOADS. Nothing in Lean hashes anything: it is a label: what it is worth is what the hold of that sum in a sandbox is worth. -/
noncomputable def Tryz.pinned : Pinned := { name := "ytbapbghnageckaagreat", sum := "32919d7e1cf9ed66930c668c8475eb2c02c4a152d8c155653a2149c0a8929ead", checked := Tryz.checked }
namespace Rows
def none {H : Type} : Left H := { results := [], args := [] }

/-- 'laws.FnExactUsePage': WHATEVER THE INPUT: true; the input reads as it did. -/
def fnExactUsePageSpec : ChangeSpec := { name := "fnExactUsePage", fn := fun _ => fun
  | [d1, d2] => { results := [.lit (.bool true)], args := [d1, d2] }
  | _ => none }
def fnExactUsePageRow : OpenClaim := { program := "ytbapbghnageckaagreat", sum := "32919d7e1cf9ed66930c668c8475eb2c02c4a152d8c155653a2149c0a8929ead", func := "loop.example/g01112/laws.FnExactUsePage", spec := "fnExactUsePage", inPlace := ["slices.overlaps[loop.example/g01112/impl.Cached]"], unfollowed := true, recurses := true, apart := false }
def FnExactUsePageSaid : Prop := fnExactUsePageRow.holds Tryz.pinned (OpenSpec.ofChange fnExactUsePageSpec)

/-- ITS FALSE NEIGHBOUR: 'it returns false'. Refute it at one input. -/
def fnExactUsePageWrong : ChangeSpec := { name := "fnExactUsePage", fn := fun _ => fun
  | [d1, d2] => { results := [.lit (.bool false)], args := [d1, d2] }
  | _ => none }
def FnExactUsePageWrongFalsely : Prop := fnExactUsePageRow.holds Tryz.pinned (OpenSpec.ofChange fnExactUsePageWrong)

/-- 'laws.FnExactRunSpace': WHATEVER THE INPUT: true; the input reads as it did. -/
def fnExactRunSpaceSpec : ChangeSpec := { name := "fnExactRunSpace", fn := fun _ => fun
  | [d1, d2] => { results := [.lit (.bool true)], args := [d1, d2] }
  | _ => none }
def fnExactRunSpaceRow : OpenClaim := { program := "ytbapbghnageckaagreat", sum := "32919d7e1cf9ed66930c668c8475eb2c02c4a152d8c155653a2149c0a8929ead", func := "loop.example/g01112/laws.FnExactRunSpace", spec := "fnExactRunSpace", inPlace := ["slices.overlaps[loop.example/g01112/impl.Cached]"], unfollowed := true, recurses := true, apart := false }
def FnExactRunSpaceSaid : Prop := fnExactRunSpaceRow.holds Tryz.pinned (OpenSpec.ofChange fnExactRunSpaceSpec)

/-- ITS FALSE NEIGHBOUR: 'it returns false'. Refute it at one input. -/
def fnExactRunSpaceWrong : ChangeSpec := { name := "fnExactRunSpace", fn := fun _ => fun
  | [d1, d2] => { results := [.lit (.bool false)], args := [d1, d2] }
  | _ => none }
def FnExactRunSpaceWrongFalsely : Prop := fnExactRunSpaceRow.holds Tryz.pinned (OpenSpec.ofChange fnExactRunSpaceWrong)

/-- 'laws.FnSpaceRuns': WHATEVER THE INPUT: true; the input reads as it did. -/
def fnSpaceRunsSpec : ChangeSpec := { name := "fnSpaceRuns", fn := fun _ => fun
  | [d1, d2] => { results := [.lit (.bool true)], args := [d1, d2] }
  | _ => none }
def fnSpaceRunsRow : OpenClaim := { program := "ytbapbghnageckaagreat", sum := "32919d7e1cf9ed66930c668c8475eb2c02c4a152d8c155653a2149c0a8929ead", func := "loop.example/g01112/laws.FnSpaceRuns", spec := "fnSpaceRuns", inPlace := ["slices.overlaps[loop.example/g01112/impl.Cached]"], unfollowed := true, recurses := true, apart := false }
def FnSpaceRunsSaid : Prop := fnSpaceRunsRow.holds Tryz.pinned (OpenSpec.ofChange fnSpaceRunsSpec)

/-- ITS FALSE NEIGHBOUR: 'it returns false'. Refute it at one input. -/
def fnSpaceRunsWrong : ChangeSpec := { name := "fnSpaceRuns", fn := fun _ => fun
  | [d1, d2] => { results := [.lit (.bool false)], args := [d1, d2] }
  | _ => none }
def FnSpaceRunsWrongFalsely : Prop := fnSpaceRunsRow.holds Tryz.pinned (OpenSpec.ofChange fnSpaceRunsWrong)

/-- 'laws.FnMapped': WHATEVER THE INPUT: true; the input reads as it did. -/
def fnMappedSpec : ChangeSpec := { name := "fnMapped", fn := fun _ => fun
  | [d1, d2] => { results := [.lit (.bool true)], args := [d1, d2] }
  | _ => none }
def fnMappedRow : OpenClaim := { program := "ytbapbghnageckaagreat", sum := "32919d7e1cf9ed66930c668c8475eb2c02c4a152d8c155653a2149c0a8929ead", func := "loop.example/g01112/laws.FnMapped", spec := "fnMapped", inPlace := ["slices.overlaps[loop.example/g01112/impl.Cached]"], unfollowed := true, recurses := true, apart := false }
def FnMappedSaid : Prop := fnMappedRow.holds Tryz.pinned (OpenSpec.ofChange fnMappedSpec)

/-- ITS FALSE NEIGHBOUR: 'it returns false'. Refute it at one input. -/
def fnMappedWrong : ChangeSpec := { name := "fnMapped", fn := fun _ => fun
  | [d1, d2] => { results := [.lit (.bool false)], args := [d1, d2] }
  | _ => none }
def FnMappedWrongFalsely : Prop := fnMappedRow.holds Tryz.pinned (OpenSpec.ofChange fnMappedWrong)

/- THE SECOND FORM. 'bulk': how many values and letters a reading holds, each counted each time it is reached (what is shared counts as often as it is met; a slice's spare places count too). A statement '..UptoSaid' is the law's where the arguments, and the package variables that the reading takes, are together of bulk at most 1048576: NARROWER than '..Said'. Prove '..Said' where nothing that the law and all that it calls make is longer than what came in: it says more and counts as full. Else prove '..UptoSaid'. A law counts once. -/
mutual
def uptoBulk {H : Type} : DataW H → Nat
  | .lit (.string bytes) => bytes.length + 1
  | .lit _ => 1
  | .nil => 1
  | .ptr d => uptoBulk d + 1
  | .slice elems spare => uptoBulkAll elems + uptoBulkAll spare + 1
  | .agg parts => uptoBulkAll parts + 1
  | .iface _ d => uptoBulk d + 1
  | .map entries => uptoBulkEntries entries + 1
  | .held _ => 1
def uptoBulkAll {H : Type} : List (DataW H) → Nat
  | [] => 0
  | d :: r => uptoBulk d + uptoBulkAll r
def uptoBulkEntries {H : Type} : List (Lit × DataW H) → Nat
  | [] => 0
  | x :: r => uptoBulkEntry x + uptoBulkEntries r
def uptoBulkEntry {H : Type} : Lit × DataW H → Nat
  | (.string bytes, d) => bytes.length + uptoBulk d + 1
  | (_, d) => uptoBulk d + 1
 end
def uptoSmall : (H : Type) → List (DataW H) → Bool := fun _ ds => decide (uptoBulkAll ds ≤ 1048576)
def OpenSpec.upto (s : _root_.Go.ChangeSpec) : _root_.Go.OpenSpec := { _root_.Go.OpenSpec.ofChange s with cond := some uptoSmall }

/-- 'laws.FnExactUsePage', WHERE WHAT IT READS IS OF BULK AT MOST 1048576: true; the input reads as it did. -/
def fnExactUsePageUptoRow : OpenClaim := { program := "ytbapbghnageckaagreat", sum := "32919d7e1cf9ed66930c668c8475eb2c02c4a152d8c155653a2149c0a8929ead", func := "loop.example/g01112/laws.FnExactUsePage", spec := "fnExactUsePage", inPlace := ["slices.overlaps[loop.example/g01112/impl.Cached]"], unfollowed := true, recurses := true, apart := false, narrowed := true }
def FnExactUsePageUptoSaid : Prop := fnExactUsePageUptoRow.holds Tryz.pinned (OpenSpec.upto fnExactUsePageSpec)

/-- 'laws.FnExactRunSpace', WHERE WHAT IT READS IS OF BULK AT MOST 1048576: true; the input reads as it did. -/
def fnExactRunSpaceUptoRow : OpenClaim := { program := "ytbapbghnageckaagreat", sum := "32919d7e1cf9ed66930c668c8475eb2c02c4a152d8c155653a2149c0a8929ead", func := "loop.example/g01112/laws.FnExactRunSpace", spec := "fnExactRunSpace", inPlace := ["slices.overlaps[loop.example/g01112/impl.Cached]"], unfollowed := true, recurses := true, apart := false, narrowed := true }
def FnExactRunSpaceUptoSaid : Prop := fnExactRunSpaceUptoRow.holds Tryz.pinned (OpenSpec.upto fnExactRunSpaceSpec)

/-- 'laws.FnSpaceRuns', WHERE WHAT IT READS IS OF BULK AT MOST 1048576: true; the input reads as it did. -/
def fnSpaceRunsUptoRow : OpenClaim := { program := "ytbapbghnageckaagreat", sum := "32919d7e1cf9ed66930c668c8475eb2c02c4a152d8c155653a2149c0a8929ead", func := "loop.example/g01112/laws.FnSpaceRuns", spec := "fnSpaceRuns", inPlace := ["slices.overlaps[loop.example/g01112/impl.Cached]"], unfollowed := true, recurses := true, apart := false, narrowed := true }
def FnSpaceRunsUptoSaid : Prop := fnSpaceRunsUptoRow.holds Tryz.pinned (OpenSpec.upto fnSpaceRunsSpec)

/-- 'laws.FnMapped', WHERE WHAT IT READS IS OF BULK AT MOST 1048576: true; the input reads as it did. -/
def fnMappedUptoRow : OpenClaim := { program := "ytbapbghnageckaagreat", sum := "32919d7e1cf9ed66930c668c8475eb2c02c4a152d8c155653a2149c0a8929ead", func := "loop.example/g01112/laws.FnMapped", spec := "fnMapped", inPlace := ["slices.overlaps[loop.example/g01112/impl.Cached]"], unfollowed := true, recurses := true, apart := false, narrowed := true }
def FnMappedUptoSaid : Prop := fnMappedUptoRow.holds Tryz.pinned (OpenSpec.upto fnMappedSpec)

end Rows
end Go.Proofs.YtbapbghnageckaaGreat
