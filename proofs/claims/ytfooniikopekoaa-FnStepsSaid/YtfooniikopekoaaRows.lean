/-
  No cell of these rows narrows 'for every input' (looked for: loops, veiled, ifaces, maps, wideKeys, modest, calm, conditions, laid).
  DERIVED. THE GIVEN ROWS OF THIS SEAT. 6 by the template 'for every input the law returns true; each argument reads behind the call as it read before'; 0 by the template 'total and deterministic' (their statements: YtfooniikopekoaaTotals.lean).
  GIVEN WITH THE SEED: the statements are not yours to turn. If you find one false, say at which input.
  Laid BY PROGRAM, IN A SANDBOX (cutbox-rows.mjs): the forced cells as the released guide's own fill.sh prints them over the translation b5fb3d33f9227fcd… (all of the seat's roots in one cut). By AI agents, Wed Nov 11 2026. No macro, syntax, notation, axiom, sorry.
-/
import Derived.Test.YtfooniikopekoaaChecked
import GoSem.Claim
import GoSem.ClaimJoined
import GoSem.ClaimMapViews
import Derived.JoinedTies
import Derived.KernelRfl
namespace Go.Proofs.Ytfooniikopekoaa
/- THE CELL 'sum', in the pinned program and in every row, IS THE sha256 OF THE DUMP (.gsa) THAT YtfooniikopekoaaProg.lean LOADS. Nothing in Lean hashes anything: it is a label: what it is worth is what the hold of that sum in a sandbox is worth. -/
noncomputable def Try.pinned : Pinned := { name := "ytfooniikopekoaa", sum := "b5fb3d33f9227fcd16f04a6103534851e83677286d679a072b0ae7982ac59312", checked := Try.checked }
namespace Rows
def none {H : Type} : Left H := { results := [], args := [] }

/-- 'laws.FnExactValidBench': WHATEVER THE INPUT: true; the input reads as it did. -/
def fnExactValidBenchSpec : ChangeSpec := { name := "fnExactValidBench", fn := fun _ => fun
  | [d] => { results := [.lit (.bool true)], args := [d] }
  | _ => none }
def fnExactValidBenchRow : OpenClaim := { program := "ytfooniikopekoaa", sum := "b5fb3d33f9227fcd16f04a6103534851e83677286d679a072b0ae7982ac59312", func := "loop.example/g01112/laws.FnExactValidBench", spec := "fnExactValidBench", unfollowed := true, recurses := true, apart := false }
def FnExactValidBenchSaid : Prop := fnExactValidBenchRow.holds Try.pinned (OpenSpec.ofChange fnExactValidBenchSpec)

/-- ITS FALSE NEIGHBOUR: 'it returns false'. Refute it at one input. -/
def fnExactValidBenchWrong : ChangeSpec := { name := "fnExactValidBench", fn := fun _ => fun
  | [d] => { results := [.lit (.bool false)], args := [d] }
  | _ => none }
def FnExactValidBenchWrongFalsely : Prop := fnExactValidBenchRow.holds Try.pinned (OpenSpec.ofChange fnExactValidBenchWrong)

/-- 'laws.FnExactMissesOf': WHATEVER THE INPUT: true; the input reads as it did. -/
def fnExactMissesOfSpec : ChangeSpec := { name := "fnExactMissesOf", fn := fun _ => fun
  | [d1, d2] => { results := [.lit (.bool true)], args := [d1, d2] }
  | _ => none }
def fnExactMissesOfRow : OpenClaim := { program := "ytfooniikopekoaa", sum := "b5fb3d33f9227fcd16f04a6103534851e83677286d679a072b0ae7982ac59312", func := "loop.example/g01112/laws.FnExactMissesOf", spec := "fnExactMissesOf", unfollowed := true, recurses := true, apart := false }
def FnExactMissesOfSaid : Prop := fnExactMissesOfRow.holds Try.pinned (OpenSpec.ofChange fnExactMissesOfSpec)

/-- ITS FALSE NEIGHBOUR: 'it returns false'. Refute it at one input. -/
def fnExactMissesOfWrong : ChangeSpec := { name := "fnExactMissesOf", fn := fun _ => fun
  | [d1, d2] => { results := [.lit (.bool false)], args := [d1, d2] }
  | _ => none }
def FnExactMissesOfWrongFalsely : Prop := fnExactMissesOfRow.holds Try.pinned (OpenSpec.ofChange fnExactMissesOfWrong)

/-- 'laws.FnExactEvictedBy': WHATEVER THE INPUT: true; the input reads as it did. -/
def fnExactEvictedBySpec : ChangeSpec := { name := "fnExactEvictedBy", fn := fun _ => fun
  | [d1, d2] => { results := [.lit (.bool true)], args := [d1, d2] }
  | _ => none }
def fnExactEvictedByRow : OpenClaim := { program := "ytfooniikopekoaa", sum := "b5fb3d33f9227fcd16f04a6103534851e83677286d679a072b0ae7982ac59312", func := "loop.example/g01112/laws.FnExactEvictedBy", spec := "fnExactEvictedBy", unfollowed := true, recurses := true, apart := false }
def FnExactEvictedBySaid : Prop := fnExactEvictedByRow.holds Try.pinned (OpenSpec.ofChange fnExactEvictedBySpec)

/-- ITS FALSE NEIGHBOUR: 'it returns false'. Refute it at one input. -/
def fnExactEvictedByWrong : ChangeSpec := { name := "fnExactEvictedBy", fn := fun _ => fun
  | [d1, d2] => { results := [.lit (.bool false)], args := [d1, d2] }
  | _ => none }
def FnExactEvictedByWrongFalsely : Prop := fnExactEvictedByRow.holds Try.pinned (OpenSpec.ofChange fnExactEvictedByWrong)

/-- 'laws.FnExactRunPolicy': WHATEVER THE INPUT: true; the input reads as it did. -/
def fnExactRunPolicySpec : ChangeSpec := { name := "fnExactRunPolicy", fn := fun _ => fun
  | [d1, d2] => { results := [.lit (.bool true)], args := [d1, d2] }
  | _ => none }
def fnExactRunPolicyRow : OpenClaim := { program := "ytfooniikopekoaa", sum := "b5fb3d33f9227fcd16f04a6103534851e83677286d679a072b0ae7982ac59312", func := "loop.example/g01112/laws.FnExactRunPolicy", spec := "fnExactRunPolicy", unfollowed := true, recurses := true, apart := false }
def FnExactRunPolicySaid : Prop := fnExactRunPolicyRow.holds Try.pinned (OpenSpec.ofChange fnExactRunPolicySpec)

/-- ITS FALSE NEIGHBOUR: 'it returns false'. Refute it at one input. -/
def fnExactRunPolicyWrong : ChangeSpec := { name := "fnExactRunPolicy", fn := fun _ => fun
  | [d1, d2] => { results := [.lit (.bool false)], args := [d1, d2] }
  | _ => none }
def FnExactRunPolicyWrongFalsely : Prop := fnExactRunPolicyRow.holds Try.pinned (OpenSpec.ofChange fnExactRunPolicyWrong)

/-- 'laws.FnKnown': WHATEVER THE INPUT: true; the input reads as it did. -/
def fnKnownSpec : ChangeSpec := { name := "fnKnown", fn := fun _ => fun
  | [d1, d2] => { results := [.lit (.bool true)], args := [d1, d2] }
  | _ => none }
def fnKnownRow : OpenClaim := { program := "ytfooniikopekoaa", sum := "b5fb3d33f9227fcd16f04a6103534851e83677286d679a072b0ae7982ac59312", func := "loop.example/g01112/laws.FnKnown", spec := "fnKnown", inPlace := ["slices.overlaps[int64]"], unfollowed := true, recurses := true, apart := false }
def FnKnownSaid : Prop := fnKnownRow.holds Try.pinned (OpenSpec.ofChange fnKnownSpec)

/-- ITS FALSE NEIGHBOUR: 'it returns false'. Refute it at one input. -/
def fnKnownWrong : ChangeSpec := { name := "fnKnown", fn := fun _ => fun
  | [d1, d2] => { results := [.lit (.bool false)], args := [d1, d2] }
  | _ => none }
def FnKnownWrongFalsely : Prop := fnKnownRow.holds Try.pinned (OpenSpec.ofChange fnKnownWrong)

/-- 'laws.FnSteps': WHATEVER THE INPUT: true; the input reads as it did. -/
def fnStepsSpec : ChangeSpec := { name := "fnSteps", fn := fun _ => fun
  | [d1, d2] => { results := [.lit (.bool true)], args := [d1, d2] }
  | _ => none }
def fnStepsRow : OpenClaim := { program := "ytfooniikopekoaa", sum := "b5fb3d33f9227fcd16f04a6103534851e83677286d679a072b0ae7982ac59312", func := "loop.example/g01112/laws.FnSteps", spec := "fnSteps", unfollowed := true, recurses := true, apart := false }
def FnStepsSaid : Prop := fnStepsRow.holds Try.pinned (OpenSpec.ofChange fnStepsSpec)

/-- ITS FALSE NEIGHBOUR: 'it returns false'. Refute it at one input. -/
def fnStepsWrong : ChangeSpec := { name := "fnSteps", fn := fun _ => fun
  | [d1, d2] => { results := [.lit (.bool false)], args := [d1, d2] }
  | _ => none }
def FnStepsWrongFalsely : Prop := fnStepsRow.holds Try.pinned (OpenSpec.ofChange fnStepsWrong)

/- THE SECOND FORM. 'bulk': how many values and letters a reading holds, each counted each time it is reached (what is shared counts as often as it is met; a slice's spare places count too). A statement '..UptoSaid' is the law's where the arguments, and the package variables that the reading takes, are together of bulk at most 1048576: NARROWER than '..Said'. Prove '..Said' where nothing that the law and all that it calls make is longer than what came in: it says more and counts as full. Else prove '..UptoSaid'. A law counts once. -/
mutual
def uptoBulk {H : Type} : DataW H → Nat
  | .lit (.string bytes) => bytes.length + 1
  | .lit _ => 1
  | .nil => 1
  | .ptr d => uptoBulk d + 1
  | .slice elems spare => uptoBulkAll elems + uptoBulkAll spare + 1
  | .agg parts => uptoBulkAll parts + 1
  | .iface _ d => uptoBulk d + 1
  | .map entries => uptoBulkEntries entries + 1
  | .held _ => 1
def uptoBulkAll {H : Type} : List (DataW H) → Nat
  | [] => 0
  | d :: r => uptoBulk d + uptoBulkAll r
def uptoBulkEntries {H : Type} : List (Lit × DataW H) → Nat
  | [] => 0
  | x :: r => uptoBulkEntry x + uptoBulkEntries r
def uptoBulkEntry {H : Type} : Lit × DataW H → Nat
  | (.string bytes, d) => bytes.length + uptoBulk d + 1
  | (_, d) => uptoBulk d + 1
 end
def uptoSmall : (H : Type) → List (DataW H) → Bool := fun _ ds => decide (uptoBulkAll ds ≤ 1048576)
def OpenSpec.upto (s : _root_.Go.ChangeSpec) : _root_.Go.OpenSpec := { _root_.Go.OpenSpec.ofChange s with cond := some uptoSmall }

/-- 'laws.FnExactValidBench', WHERE WHAT IT READS IS OF BULK AT MOST 1048576: true; the input reads as it did. -/
def fnExactValidBenchUptoRow : OpenClaim := { program := "ytfooniikopekoaa", sum := "b5fb3d33f9227fcd16f04a6103534851e83677286d679a072b0ae7982ac59312", func := "loop.example/g01112/laws.FnExactValidBench", spec := "fnExactValidBench", unfollowed := true, recurses := true, apart := false, narrowed := true }
def FnExactValidBenchUptoSaid : Prop := fnExactValidBenchUptoRow.holds Try.pinned (OpenSpec.upto fnExactValidBenchSpec)

/-- 'laws.FnExactMissesOf', WHERE WHAT IT READS IS OF BULK AT MOST 1048576: true; the input reads as it did. -/
def fnExactMissesOfUptoRow : OpenClaim := { program := "ytfooniikopekoaa", sum := "b5fb3d33f9227fcd16f04a6103534851e83677286d679a072b0ae7982ac59312", func := "loop.example/g01112/laws.FnExactMissesOf", spec := "fnExactMissesOf", unfollowed := true, recurses := true, apart := false, narrowed := true }
def FnExactMissesOfUptoSaid : Prop := fnExactMissesOfUptoRow.holds Try.pinned (OpenSpec.upto fnExactMissesOfSpec)

/-- 'laws.FnExactEvictedBy', WHERE WHAT IT READS IS OF BULK AT MOST 1048576: true; the input reads as it did. -/
def fnExactEvictedByUptoRow : OpenClaim := { program := "ytfooniikopekoaa", sum := "b5fb3d33f9227fcd16f04a6103534851e83677286d679a072b0ae7982ac59312", func := "loop.example/g01112/laws.FnExactEvictedBy", spec := "fnExactEvictedBy", unfollowed := true, recurses := true, apart := false, narrowed := true }
def FnExactEvictedByUptoSaid : Prop := fnExactEvictedByUptoRow.holds Try.pinned (OpenSpec.upto fnExactEvictedBySpec)

/-- 'laws.FnExactRunPolicy', WHERE WHAT IT READS IS OF BULK AT MOST 1048576: true; the input reads as it did. -/
def fnExactRunPolicyUptoRow : OpenClaim := { program := "ytfooniikopekoaa", sum := "b5fb3d33f9227fcd16f04a6103534851e83677286d679a072b0ae7982ac59312", func := "loop.example/g01112/laws.FnExactRunPolicy", spec := "fnExactRunPolicy", unfollowed := true, recurses := true, apart := false, narrowed := true }
def FnExactRunPolicyUptoSaid : Prop := fnExactRunPolicyUptoRow.holds Try.pinned (OpenSpec.upto fnExactRunPolicySpec)

/-- 'laws.FnKnown', WHERE WHAT IT READS IS OF BULK AT MOST 1048576: true; the input reads as it did. -/
def fnKnownUptoRow : OpenClaim := { program := "ytfooniikopekoaa", sum := "b5fb3d33f9227fcd16f04a6103534851e83677286d679a072b0ae7982ac59312", func := "loop.example/g01112/laws.FnKnown", spec := "fnKnown", inPlace := ["slices.overlaps[int64]"], unfollowed := true, recurses := true, apart := false, narrowed := true }
def FnKnownUptoSaid : Prop := fnKnownUptoRow.holds Try.pinned (OpenSpec.upto fnKnownSpec)

/-- 'laws.FnSteps', WHERE WHAT IT READS IS OF BULK AT MOST 1048576: true; the input reads as it did. -/
def fnStepsUptoRow : OpenClaim := { program := "ytfooniikopekoaa", sum := "b5fb3d33f9227fcd16f04a6103534851e83677286d679a072b0ae7982ac59312", func := "loop.example/g01112/laws.FnSteps", spec := "fnSteps", unfollowed := true, recurses := true, apart := false, narrowed := true }
def FnStepsUptoSaid : Prop := fnStepsUptoRow.holds Try.pinned (OpenSpec.upto fnStepsSpec)

end Rows
end Go.Proofs.Ytfooniikopekoaa
