/-
  No cell of these rows narrows 'for every input' (looked for: loops, veiled, ifaces, maps, wideKeys, modest, calm, conditions, laid).
  DERIVED. THE GIVEN ROWS OF THIS SEAT. 7 by the template 'for every input the law returns true; each argument reads behind the call as it read before'; 0 by the template 'total and deterministic' (their statements: YthmnlokdikomkaaTotals.lean).
  GIVEN WITH THE SEED: the statements are not yours to turn. If you find one false, say at which input.
  Laid BY PROGRAM, IN A SANDBOX (cutbox-rows.mjs): the forced cells as the released guide's own fill.sh prints them over the translation 8d0ae4b9122a0c11… (all of the seat's roots in one cut). By AI agents, Wed Nov 11 2026. No macro, syntax, notation, axiom, sorry.
-/
import Derived.Test.YthmnlokdikomkaaChecked
import GoSem.Claim
import GoSem.ClaimJoined
import GoSem.ClaimMapViews
import Derived.JoinedTies
import Derived.KernelRfl
namespace Go.Proofs.Ythmnlokdikomkaa
/- THE CELL 'sum', in the pinned program and in every row, IS THE sha256 OF THE DUMP (.gsa) THAT YthmnlokdikomkaaProg.lean LOADS. Nothing in Lean hashes anything: it is a label: what it is worth is what the hold of that sum in a sandbox is worth. -/
noncomputable def Try.pinned : Pinned := { name := "ythmnlokdikomkaa", sum := "8d0ae4b9122a0c118e19df0be7d8f5f66ddceaa2cb5055f96f5ae69dabd888ea", checked := Try.checked }
namespace Rows
def none {H : Type} : Left H := { results := [], args := [] }

/-- 'laws.FnAgreed': WHATEVER THE INPUT: true; the input reads as it did. -/
def fnAgreedSpec : ChangeSpec := { name := "fnAgreed", fn := fun _ => fun
  | [d1, d2] => { results := [.lit (.bool true)], args := [d1, d2] }
  | _ => none }
def fnAgreedRow : OpenClaim := { program := "ythmnlokdikomkaa", sum := "8d0ae4b9122a0c118e19df0be7d8f5f66ddceaa2cb5055f96f5ae69dabd888ea", func := "loop.example/g01112/laws.FnAgreed", spec := "fnAgreed", inPlace := ["internal/abi.NoEscape"], unfollowed := true, recurses := true, apart := false }
def FnAgreedSaid : Prop := fnAgreedRow.holds Try.pinned (OpenSpec.ofChange fnAgreedSpec)

/-- ITS FALSE NEIGHBOUR: 'it returns false'. Refute it at one input. -/
def fnAgreedWrong : ChangeSpec := { name := "fnAgreed", fn := fun _ => fun
  | [d1, d2] => { results := [.lit (.bool false)], args := [d1, d2] }
  | _ => none }
def FnAgreedWrongFalsely : Prop := fnAgreedRow.holds Try.pinned (OpenSpec.ofChange fnAgreedWrong)

/-- 'laws.FnSeen': WHATEVER THE INPUT: true; the input reads as it did. -/
def fnSeenSpec : ChangeSpec := { name := "fnSeen", fn := fun _ => fun
  | [d1, d2] => { results := [.lit (.bool true)], args := [d1, d2] }
  | _ => none }
def fnSeenRow : OpenClaim := { program := "ythmnlokdikomkaa", sum := "8d0ae4b9122a0c118e19df0be7d8f5f66ddceaa2cb5055f96f5ae69dabd888ea", func := "loop.example/g01112/laws.FnSeen", spec := "fnSeen", unfollowed := true, recurses := true, apart := false }
def FnSeenSaid : Prop := fnSeenRow.holds Try.pinned (OpenSpec.ofChange fnSeenSpec)

/-- ITS FALSE NEIGHBOUR: 'it returns false'. Refute it at one input. -/
def fnSeenWrong : ChangeSpec := { name := "fnSeen", fn := fun _ => fun
  | [d1, d2] => { results := [.lit (.bool false)], args := [d1, d2] }
  | _ => none }
def FnSeenWrongFalsely : Prop := fnSeenRow.holds Try.pinned (OpenSpec.ofChange fnSeenWrong)

/-- 'laws.FnShortestFlaw': WHATEVER THE INPUT: true; the input reads as it did. -/
def fnShortestFlawSpec : ChangeSpec := { name := "fnShortestFlaw", fn := fun _ => fun
  | [d1, d2] => { results := [.lit (.bool true)], args := [d1, d2] }
  | _ => none }
def fnShortestFlawRow : OpenClaim := { program := "ythmnlokdikomkaa", sum := "8d0ae4b9122a0c118e19df0be7d8f5f66ddceaa2cb5055f96f5ae69dabd888ea", func := "loop.example/g01112/laws.FnShortestFlaw", spec := "fnShortestFlaw", inPlace := ["internal/abi.NoEscape"], unfollowed := true, recurses := true, apart := false }
def FnShortestFlawSaid : Prop := fnShortestFlawRow.holds Try.pinned (OpenSpec.ofChange fnShortestFlawSpec)

/-- ITS FALSE NEIGHBOUR: 'it returns false'. Refute it at one input. -/
def fnShortestFlawWrong : ChangeSpec := { name := "fnShortestFlaw", fn := fun _ => fun
  | [d1, d2] => { results := [.lit (.bool false)], args := [d1, d2] }
  | _ => none }
def FnShortestFlawWrongFalsely : Prop := fnShortestFlawRow.holds Try.pinned (OpenSpec.ofChange fnShortestFlawWrong)

/-- 'laws.FnExactReachedSystems': WHATEVER THE INPUT: true; the input reads as it did. -/
def fnExactReachedSystemsSpec : ChangeSpec := { name := "fnExactReachedSystems", fn := fun _ => fun
  | [d1, d2] => { results := [.lit (.bool true)], args := [d1, d2] }
  | _ => none }
def fnExactReachedSystemsRow : OpenClaim := { program := "ythmnlokdikomkaa", sum := "8d0ae4b9122a0c118e19df0be7d8f5f66ddceaa2cb5055f96f5ae69dabd888ea", func := "loop.example/g01112/laws.FnExactReachedSystems", spec := "fnExactReachedSystems", inPlace := ["internal/abi.NoEscape"], unfollowed := true, recurses := true, apart := false }
def FnExactReachedSystemsSaid : Prop := fnExactReachedSystemsRow.holds Try.pinned (OpenSpec.ofChange fnExactReachedSystemsSpec)

/-- ITS FALSE NEIGHBOUR: 'it returns false'. Refute it at one input. -/
def fnExactReachedSystemsWrong : ChangeSpec := { name := "fnExactReachedSystems", fn := fun _ => fun
  | [d1, d2] => { results := [.lit (.bool false)], args := [d1, d2] }
  | _ => none }
def FnExactReachedSystemsWrongFalsely : Prop := fnExactReachedSystemsRow.holds Try.pinned (OpenSpec.ofChange fnExactReachedSystemsWrong)

/-- 'laws.FnExactOwnersAlone': WHATEVER THE INPUT: true; the input reads as it did. -/
def fnExactOwnersAloneSpec : ChangeSpec := { name := "fnExactOwnersAlone", fn := fun _ => fun
  | [d1, d2] => { results := [.lit (.bool true)], args := [d1, d2] }
  | _ => none }
def fnExactOwnersAloneRow : OpenClaim := { program := "ythmnlokdikomkaa", sum := "8d0ae4b9122a0c118e19df0be7d8f5f66ddceaa2cb5055f96f5ae69dabd888ea", func := "loop.example/g01112/laws.FnExactOwnersAlone", spec := "fnExactOwnersAlone", inPlace := ["internal/abi.NoEscape"], unfollowed := true, recurses := true, apart := false }
def FnExactOwnersAloneSaid : Prop := fnExactOwnersAloneRow.holds Try.pinned (OpenSpec.ofChange fnExactOwnersAloneSpec)

/-- ITS FALSE NEIGHBOUR: 'it returns false'. Refute it at one input. -/
def fnExactOwnersAloneWrong : ChangeSpec := { name := "fnExactOwnersAlone", fn := fun _ => fun
  | [d1, d2] => { results := [.lit (.bool false)], args := [d1, d2] }
  | _ => none }
def FnExactOwnersAloneWrongFalsely : Prop := fnExactOwnersAloneRow.holds Try.pinned (OpenSpec.ofChange fnExactOwnersAloneWrong)

/-- 'laws.FnExactStepSystem': WHATEVER THE INPUT: true; the input reads as it did. -/
def fnExactStepSystemSpec : ChangeSpec := { name := "fnExactStepSystem", fn := fun _ => fun
  | [d1, d2, d3] => { results := [.lit (.bool true)], args := [d1, d2, d3] }
  | _ => none }
def fnExactStepSystemRow : OpenClaim := { program := "ythmnlokdikomkaa", sum := "8d0ae4b9122a0c118e19df0be7d8f5f66ddceaa2cb5055f96f5ae69dabd888ea", func := "loop.example/g01112/laws.FnExactStepSystem", spec := "fnExactStepSystem", unfollowed := true, recurses := true, apart := false }
def FnExactStepSystemSaid : Prop := fnExactStepSystemRow.holds Try.pinned (OpenSpec.ofChange fnExactStepSystemSpec)

/-- ITS FALSE NEIGHBOUR: 'it returns false'. Refute it at one input. -/
def fnExactStepSystemWrong : ChangeSpec := { name := "fnExactStepSystem", fn := fun _ => fun
  | [d1, d2, d3] => { results := [.lit (.bool false)], args := [d1, d2, d3] }
  | _ => none }
def FnExactStepSystemWrongFalsely : Prop := fnExactStepSystemRow.holds Try.pinned (OpenSpec.ofChange fnExactStepSystemWrong)

/-- 'laws.FnExactShortestFlaw': WHATEVER THE INPUT: true; the input reads as it did. -/
def fnExactShortestFlawSpec : ChangeSpec := { name := "fnExactShortestFlaw", fn := fun _ => fun
  | [d1, d2] => { results := [.lit (.bool true)], args := [d1, d2] }
  | _ => none }
def fnExactShortestFlawRow : OpenClaim := { program := "ythmnlokdikomkaa", sum := "8d0ae4b9122a0c118e19df0be7d8f5f66ddceaa2cb5055f96f5ae69dabd888ea", func := "loop.example/g01112/laws.FnExactShortestFlaw", spec := "fnExactShortestFlaw", inPlace := ["internal/abi.NoEscape"], unfollowed := true, recurses := true, apart := false }
def FnExactShortestFlawSaid : Prop := fnExactShortestFlawRow.holds Try.pinned (OpenSpec.ofChange fnExactShortestFlawSpec)

/-- ITS FALSE NEIGHBOUR: 'it returns false'. Refute it at one input. -/
def fnExactShortestFlawWrong : ChangeSpec := { name := "fnExactShortestFlaw", fn := fun _ => fun
  | [d1, d2] => { results := [.lit (.bool false)], args := [d1, d2] }
  | _ => none }
def FnExactShortestFlawWrongFalsely : Prop := fnExactShortestFlawRow.holds Try.pinned (OpenSpec.ofChange fnExactShortestFlawWrong)

/- THE SECOND FORM. 'bulk': how many values and letters a reading holds, each counted each time it is reached (what is shared counts as often as it is met; a slice's spare places count too). A statement '..UptoSaid' is the law's where the arguments, and the package variables that the reading takes, are together of bulk at most 1048576: NARROWER than '..Said'. Prove '..Said' where nothing that the law and all that it calls make is longer than what came in: it says more and counts as full. Else prove '..UptoSaid'. A law counts once. -/
mutual
def uptoBulk {H : Type} : DataW H → Nat
  | .lit (.string bytes) => bytes.length + 1
  | .lit _ => 1
  | .nil => 1
  | .ptr d => uptoBulk d + 1
  | .slice elems spare => uptoBulkAll elems + uptoBulkAll spare + 1
  | .agg parts => uptoBulkAll parts + 1
  | .iface _ d => uptoBulk d + 1
  | .map entries => uptoBulkEntries entries + 1
  | .held _ => 1
def uptoBulkAll {H : Type} : List (DataW H) → Nat
  | [] => 0
  | d :: r => uptoBulk d + uptoBulkAll r
def uptoBulkEntries {H : Type} : List (Lit × DataW H) → Nat
  | [] => 0
  | x :: r => uptoBulkEntry x + uptoBulkEntries r
def uptoBulkEntry {H : Type} : Lit × DataW H → Nat
  | (.string bytes, d) => bytes.length + uptoBulk d + 1
  | (_, d) => uptoBulk d + 1
 end
def uptoSmall : (H : Type) → List (DataW H) → Bool := fun _ ds => decide (uptoBulkAll ds ≤ 1048576)
def OpenSpec.upto (s : _root_.Go.ChangeSpec) : _root_.Go.OpenSpec := { _root_.Go.OpenSpec.ofChange s with cond := some uptoSmall }

/-- 'laws.FnAgreed', WHERE WHAT IT READS IS OF BULK AT MOST 1048576: true; the input reads as it did. -/
def fnAgreedUptoRow : OpenClaim := { program := "ythmnlokdikomkaa", sum := "8d0ae4b9122a0c118e19df0be7d8f5f66ddceaa2cb5055f96f5ae69dabd888ea", func := "loop.example/g01112/laws.FnAgreed", spec := "fnAgreed", inPlace := ["internal/abi.NoEscape"], unfollowed := true, recurses := true, apart := false, narrowed := true }
def FnAgreedUptoSaid : Prop := fnAgreedUptoRow.holds Try.pinned (OpenSpec.upto fnAgreedSpec)

/-- 'laws.FnSeen', WHERE WHAT IT READS IS OF BULK AT MOST 1048576: true; the input reads as it did. -/
def fnSeenUptoRow : OpenClaim := { program := "ythmnlokdikomkaa", sum := "8d0ae4b9122a0c118e19df0be7d8f5f66ddceaa2cb5055f96f5ae69dabd888ea", func := "loop.example/g01112/laws.FnSeen", spec := "fnSeen", unfollowed := true, recurses := true, apart := false, narrowed := true }
def FnSeenUptoSaid : Prop := fnSeenUptoRow.holds Try.pinned (OpenSpec.upto fnSeenSpec)

/-- 'laws.FnShortestFlaw', WHERE WHAT IT READS IS OF BULK AT MOST 1048576: true; the input reads as it did. -/
def fnShortestFlawUptoRow : OpenClaim := { program := "ythmnlokdikomkaa", sum := "8d0ae4b9122a0c118e19df0be7d8f5f66ddceaa2cb5055f96f5ae69dabd888ea", func := "loop.example/g01112/laws.FnShortestFlaw", spec := "fnShortestFlaw", inPlace := ["internal/abi.NoEscape"], unfollowed := true, recurses := true, apart := false, narrowed := true }
def FnShortestFlawUptoSaid : Prop := fnShortestFlawUptoRow.holds Try.pinned (OpenSpec.upto fnShortestFlawSpec)

/-- 'laws.FnExactReachedSystems', WHERE WHAT IT READS IS OF BULK AT MOST 1048576: true; the input reads as it did. -/
def fnExactReachedSystemsUptoRow : OpenClaim := { program := "ythmnlokdikomkaa", sum := "8d0ae4b9122a0c118e19df0be7d8f5f66ddceaa2cb5055f96f5ae69dabd888ea", func := "loop.example/g01112/laws.FnExactReachedSystems", spec := "fnExactReachedSystems", inPlace := ["internal/abi.NoEscape"], unfollowed := true, recurses := true, apart := false, narrowed := true }
def FnExactReachedSystemsUptoSaid : Prop := fnExactReachedSystemsUptoRow.holds Try.pinned (OpenSpec.upto fnExactReachedSystemsSpec)

/-- 'laws.FnExactOwnersAlone', WHERE WHAT IT READS IS OF BULK AT MOST 1048576: true; the input reads as it did. -/
def fnExactOwnersAloneUptoRow : OpenClaim := { program := "ythmnlokdikomkaa", sum := "8d0ae4b9122a0c118e19df0be7d8f5f66ddceaa2cb5055f96f5ae69dabd888ea", func := "loop.example/g01112/laws.FnExactOwnersAlone", spec := "fnExactOwnersAlone", inPlace := ["internal/abi.NoEscape"], unfollowed := true, recurses := true, apart := false, narrowed := true }
def FnExactOwnersAloneUptoSaid : Prop := fnExactOwnersAloneUptoRow.holds Try.pinned (OpenSpec.upto fnExactOwnersAloneSpec)

/-- 'laws.FnExactStepSystem', WHERE WHAT IT READS IS OF BULK AT MOST 1048576: true; the input reads as it did. -/
def fnExactStepSystemUptoRow : OpenClaim := { program := "ythmnlokdikomkaa", sum := "8d0ae4b9122a0c118e19df0be7d8f5f66ddceaa2cb5055f96f5ae69dabd888ea", func := "loop.example/g01112/laws.FnExactStepSystem", spec := "fnExactStepSystem", unfollowed := true, recurses := true, apart := false, narrowed := true }
def FnExactStepSystemUptoSaid : Prop := fnExactStepSystemUptoRow.holds Try.pinned (OpenSpec.upto fnExactStepSystemSpec)

/-- 'laws.FnExactShortestFlaw', WHERE WHAT IT READS IS OF BULK AT MOST 1048576: true; the input reads as it did. -/
def fnExactShortestFlawUptoRow : OpenClaim := { program := "ythmnlokdikomkaa", sum := "8d0ae4b9122a0c118e19df0be7d8f5f66ddceaa2cb5055f96f5ae69dabd888ea", func := "loop.example/g01112/laws.FnExactShortestFlaw", spec := "fnExactShortestFlaw", inPlace := ["internal/abi.NoEscape"], unfollowed := true, recurses := true, apart := false, narrowed := true }
def FnExactShortestFlawUptoSaid : Prop := fnExactShortestFlawUptoRow.holds Try.pinned (OpenSpec.upto fnExactShortestFlawSpec)

end Rows
end Go.Proofs.Ythmnlokdikomkaa
