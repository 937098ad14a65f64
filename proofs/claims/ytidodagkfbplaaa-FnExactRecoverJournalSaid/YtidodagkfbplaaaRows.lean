/-
  No cell of these rows narrows 'for every input' (looked for: loops, veiled, ifaces, maps, wideKeys, modest, calm, conditions, laid).
  DERIVED. THE GIVEN ROWS OF THIS SEAT. 6 by the template 'for every input the law returns true; each argument reads behind the call as it read before'; 0 by the template 'total and deterministic' (their statements: YtidodagkfbplaaaTotals.lean).
  GIVEN WITH THE SEED: the statements are not yours to turn. If you find one false, say at which input.
  Laid BY PROGRAM, IN A SANDBOX (cutbox-rows.mjs): the forced cells as the released guide's own fill.sh prints them over the translation b65f71d9b8deafa6… (all of the seat's roots in one cut). By AI agents, Wed Nov 11 2026. No macro, syntax, notation, axiom, sorry.
-/
import Derived.Test.YtidodagkfbplaaaChecked
import GoSem.Claim
import GoSem.ClaimJoined
import GoSem.ClaimMapViews
import Derived.JoinedTies
import Derived.KernelRfl
namespace Go.Proofs.Ytidodagkfbplaaa
/- THE CELL 'sum', in the pinned program and in every row, IS THE sha256 OF THE DUMP (.gsa) THAT YtidodagkfbplaaaProg.lean LOADS. Nothing in Lean hashes anything: it is a label: what it is worth is what the hold of that sum in a sandbox is worth. -/
noncomputable def Try.pinned : Pinned := { name := "ytidodagkfbplaaa", sum := "b65f71d9b8deafa68a4c70516a0fd5509501a9c0a5d7573b040a6e334e41d549", checked := Try.checked }
namespace Rows
def none {H : Type} : Left H := { results := [], args := [] }

/-- 'laws.FnExactValidGraph': WHATEVER THE INPUT: true; the input reads as it did. -/
def fnExactValidGraphSpec : ChangeSpec := { name := "fnExactValidGraph", fn := fun _ => fun
  | [d] => { results := [.lit (.bool true)], args := [d] }
  | _ => none }
def fnExactValidGraphRow : OpenClaim := { program := "ytidodagkfbplaaa", sum := "b65f71d9b8deafa68a4c70516a0fd5509501a9c0a5d7573b040a6e334e41d549", func := "loop.example/g01112/laws.FnExactValidGraph", spec := "fnExactValidGraph", unfollowed := true, recurses := true, apart := false }
def FnExactValidGraphSaid : Prop := fnExactValidGraphRow.holds Try.pinned (OpenSpec.ofChange fnExactValidGraphSpec)

/-- ITS FALSE NEIGHBOUR: 'it returns false'. Refute it at one input. -/
def fnExactValidGraphWrong : ChangeSpec := { name := "fnExactValidGraph", fn := fun _ => fun
  | [d] => { results := [.lit (.bool false)], args := [d] }
  | _ => none }
def FnExactValidGraphWrongFalsely : Prop := fnExactValidGraphRow.holds Try.pinned (OpenSpec.ofChange fnExactValidGraphWrong)

/-- 'laws.FnExactRecoverJournal': WHATEVER THE INPUT: true; the input reads as it did. -/
def fnExactRecoverJournalSpec : ChangeSpec := { name := "fnExactRecoverJournal", fn := fun _ => fun
  | [d] => { results := [.lit (.bool true)], args := [d] }
  | _ => none }
def fnExactRecoverJournalRow : OpenClaim := { program := "ytidodagkfbplaaa", sum := "b65f71d9b8deafa68a4c70516a0fd5509501a9c0a5d7573b040a6e334e41d549", func := "loop.example/g01112/laws.FnExactRecoverJournal", spec := "fnExactRecoverJournal", inPlace := ["internal/bytealg.IndexByteString", "internal/bytealg.IndexString"], named := ["internal/bytealg.MaxLen"], apart := false }
def FnExactRecoverJournalSaid : Prop := fnExactRecoverJournalRow.holds Try.pinned (OpenSpec.ofChange fnExactRecoverJournalSpec)

/-- ITS FALSE NEIGHBOUR: 'it returns false'. Refute it at one input. -/
def fnExactRecoverJournalWrong : ChangeSpec := { name := "fnExactRecoverJournal", fn := fun _ => fun
  | [d] => { results := [.lit (.bool false)], args := [d] }
  | _ => none }
def FnExactRecoverJournalWrongFalsely : Prop := fnExactRecoverJournalRow.holds Try.pinned (OpenSpec.ofChange fnExactRecoverJournalWrong)

/-- 'laws.FnExactJournalOf': WHATEVER THE INPUT: true; the input reads as it did. -/
def fnExactJournalOfSpec : ChangeSpec := { name := "fnExactJournalOf", fn := fun _ => fun
  | [d] => { results := [.lit (.bool true)], args := [d] }
  | _ => none }
def fnExactJournalOfRow : OpenClaim := { program := "ytidodagkfbplaaa", sum := "b65f71d9b8deafa68a4c70516a0fd5509501a9c0a5d7573b040a6e334e41d549", func := "loop.example/g01112/laws.FnExactJournalOf", spec := "fnExactJournalOf", inPlace := ["internal/abi.NoEscape", "internal/bytealg.IndexByteString", "internal/bytealg.IndexString"], named := ["internal/bytealg.MaxLen"], apart := false }
def FnExactJournalOfSaid : Prop := fnExactJournalOfRow.holds Try.pinned (OpenSpec.ofChange fnExactJournalOfSpec)

/-- ITS FALSE NEIGHBOUR: 'it returns false'. Refute it at one input. -/
def fnExactJournalOfWrong : ChangeSpec := { name := "fnExactJournalOf", fn := fun _ => fun
  | [d] => { results := [.lit (.bool false)], args := [d] }
  | _ => none }
def FnExactJournalOfWrongFalsely : Prop := fnExactJournalOfRow.holds Try.pinned (OpenSpec.ofChange fnExactJournalOfWrong)

/-- 'laws.FnExactSourcesOf': WHATEVER THE INPUT: true; the input reads as it did. -/
def fnExactSourcesOfSpec : ChangeSpec := { name := "fnExactSourcesOf", fn := fun _ => fun
  | [d] => { results := [.lit (.bool true)], args := [d] }
  | _ => none }
def fnExactSourcesOfRow : OpenClaim := { program := "ytidodagkfbplaaa", sum := "b65f71d9b8deafa68a4c70516a0fd5509501a9c0a5d7573b040a6e334e41d549", func := "loop.example/g01112/laws.FnExactSourcesOf", spec := "fnExactSourcesOf", unfollowed := true, recurses := true, apart := false }
def FnExactSourcesOfSaid : Prop := fnExactSourcesOfRow.holds Try.pinned (OpenSpec.ofChange fnExactSourcesOfSpec)

/-- ITS FALSE NEIGHBOUR: 'it returns false'. Refute it at one input. -/
def fnExactSourcesOfWrong : ChangeSpec := { name := "fnExactSourcesOf", fn := fun _ => fun
  | [d] => { results := [.lit (.bool false)], args := [d] }
  | _ => none }
def FnExactSourcesOfWrongFalsely : Prop := fnExactSourcesOfRow.holds Try.pinned (OpenSpec.ofChange fnExactSourcesOfWrong)

/-- 'laws.FnExactTransferBound': WHATEVER THE INPUT: true; the input reads as it did. -/
def fnExactTransferBoundSpec : ChangeSpec := { name := "fnExactTransferBound", fn := fun _ => fun
  | [d] => { results := [.lit (.bool true)], args := [d] }
  | _ => none }
def fnExactTransferBoundRow : OpenClaim := { program := "ytidodagkfbplaaa", sum := "b65f71d9b8deafa68a4c70516a0fd5509501a9c0a5d7573b040a6e334e41d549", func := "loop.example/g01112/laws.FnExactTransferBound", spec := "fnExactTransferBound", unfollowed := true, recurses := true, apart := false }
def FnExactTransferBoundSaid : Prop := fnExactTransferBoundRow.holds Try.pinned (OpenSpec.ofChange fnExactTransferBoundSpec)

/-- ITS FALSE NEIGHBOUR: 'it returns false'. Refute it at one input. -/
def fnExactTransferBoundWrong : ChangeSpec := { name := "fnExactTransferBound", fn := fun _ => fun
  | [d] => { results := [.lit (.bool false)], args := [d] }
  | _ => none }
def FnExactTransferBoundWrongFalsely : Prop := fnExactTransferBoundRow.holds Try.pinned (OpenSpec.ofChange fnExactTransferBoundWrong)

/-- 'laws.FnExactOutputsOf': WHATEVER THE INPUT: true; the input reads as it did. -/
def fnExactOutputsOfSpec : ChangeSpec := { name := "fnExactOutputsOf", fn := fun _ => fun
  | [d] => { results := [.lit (.bool true)], args := [d] }
  | _ => none }
def fnExactOutputsOfRow : OpenClaim := { program := "ytidodagkfbplaaa", sum := "b65f71d9b8deafa68a4c70516a0fd5509501a9c0a5d7573b040a6e334e41d549", func := "loop.example/g01112/laws.FnExactOutputsOf", spec := "fnExactOutputsOf", unfollowed := true, recurses := true, apart := false }
def FnExactOutputsOfSaid : Prop := fnExactOutputsOfRow.holds Try.pinned (OpenSpec.ofChange fnExactOutputsOfSpec)

/-- ITS FALSE NEIGHBOUR: 'it returns false'. Refute it at one input. -/
def fnExactOutputsOfWrong : ChangeSpec := { name := "fnExactOutputsOf", fn := fun _ => fun
  | [d] => { results := [.lit (.bool false)], args := [d] }
  | _ => none }
def FnExactOutputsOfWrongFalsely : Prop := fnExactOutputsOfRow.holds Try.pinned (OpenSpec.ofChange fnExactOutputsOfWrong)

/- THE SECOND FORM. 'bulk': how many values and letters a reading holds, each counted each time it is reached (what is shared counts as often as it is met; a slice's spare places count too). A statement '..UptoSaid' is the law's where the arguments, and the package variables that the reading takes, are together of bulk at most 1048576: NARROWER than '..Said'. Prove '..Said' where nothing that the law and all that it calls make is longer than what came in: it says more and counts as full. Else prove '..UptoSaid'. A law counts once. -/
mutual
def uptoBulk {H : Type} : DataW H → Nat
  | .lit (.string bytes) => bytes.length + 1
  | .lit _ => 1
  | .nil => 1
  | .ptr d => uptoBulk d + 1
  | .slice elems spare => uptoBulkAll elems + uptoBulkAll spare + 1
  | .agg parts => uptoBulkAll parts + 1
  | .iface _ d => uptoBulk d + 1
  | .map entries => uptoBulkEntries entries + 1
  | .held _ => 1
def uptoBulkAll {H : Type} : List (DataW H) → Nat
  | [] => 0
  | d :: r => uptoBulk d + uptoBulkAll r
def uptoBulkEntries {H : Type} : List (Lit × DataW H) → Nat
  | [] => 0
  | x :: r => uptoBulkEntry x + uptoBulkEntries r
def uptoBulkEntry {H : Type} : Lit × DataW H → Nat
  | (.string bytes, d) => bytes.length + uptoBulk d + 1
  | (_, d) => uptoBulk d + 1
 end
def uptoSmall : (H : Type) → List (DataW H) → Bool := fun _ ds => decide (uptoBulkAll ds ≤ 1048576)
def OpenSpec.upto (s : _root_.Go.ChangeSpec) : _root_.Go.OpenSpec := { _root_.Go.OpenSpec.ofChange s with cond := some uptoSmall }

/-- 'laws.FnExactValidGraph', WHERE WHAT IT READS IS OF BULK AT MOST 1048576: true; the input reads as it did. -/
def fnExactValidGraphUptoRow : OpenClaim := { program := "ytidodagkfbplaaa", sum := "b65f71d9b8deafa68a4c70516a0fd5509501a9c0a5d7573b040a6e334e41d549", func := "loop.example/g01112/laws.FnExactValidGraph", spec := "fnExactValidGraph", unfollowed := true, recurses := true, apart := false, narrowed := true }
def FnExactValidGraphUptoSaid : Prop := fnExactValidGraphUptoRow.holds Try.pinned (OpenSpec.upto fnExactValidGraphSpec)

/-- 'laws.FnExactRecoverJournal', WHERE WHAT IT READS IS OF BULK AT MOST 1048576: true; the input reads as it did. -/
def fnExactRecoverJournalUptoRow : OpenClaim := { program := "ytidodagkfbplaaa", sum := "b65f71d9b8deafa68a4c70516a0fd5509501a9c0a5d7573b040a6e334e41d549", func := "loop.example/g01112/laws.FnExactRecoverJournal", spec := "fnExactRecoverJournal", inPlace := ["internal/bytealg.IndexByteString", "internal/bytealg.IndexString"], named := ["internal/bytealg.MaxLen"], apart := false, narrowed := true }
def FnExactRecoverJournalUptoSaid : Prop := fnExactRecoverJournalUptoRow.holds Try.pinned (OpenSpec.upto fnExactRecoverJournalSpec)

/-- 'laws.FnExactJournalOf', WHERE WHAT IT READS IS OF BULK AT MOST 1048576: true; the input reads as it did. -/
def fnExactJournalOfUptoRow : OpenClaim := { program := "ytidodagkfbplaaa", sum := "b65f71d9b8deafa68a4c70516a0fd5509501a9c0a5d7573b040a6e334e41d549", func := "loop.example/g01112/laws.FnExactJournalOf", spec := "fnExactJournalOf", inPlace := ["internal/abi.NoEscape", "internal/bytealg.IndexByteString", "internal/bytealg.IndexString"], named := ["internal/bytealg.MaxLen"], apart := false, narrowed := true }
def FnExactJournalOfUptoSaid : Prop := fnExactJournalOfUptoRow.holds Try.pinned (OpenSpec.upto fnExactJournalOfSpec)

/-- 'laws.FnExactSourcesOf', WHERE WHAT IT READS IS OF BULK AT MOST 1048576: true; the input reads as it did. -/
def fnExactSourcesOfUptoRow : OpenClaim := { program := "ytidodagkfbplaaa", sum := "b65f71d9b8deafa68a4c70516a0fd5509501a9c0a5d7573b040a6e334e41d549", func := "loop.example/g01112/laws.FnExactSourcesOf", spec := "fnExactSourcesOf", unfollowed := true, recurses := true, apart := false, narrowed := true }
def FnExactSourcesOfUptoSaid : Prop := fnExactSourcesOfUptoRow.holds Try.pinned (OpenSpec.upto fnExactSourcesOfSpec)

/-- 'laws.FnExactTransferBound', WHERE WHAT IT READS IS OF BULK AT MOST 1048576: true; the input reads as it did. -/
def fnExactTransferBoundUptoRow : OpenClaim := { program := "ytidodagkfbplaaa", sum := "b65f71d9b8deafa68a4c70516a0fd5509501a9c0a5d7573b040a6e334e41d549", func := "loop.example/g01112/laws.FnExactTransferBound", spec := "fnExactTransferBound", unfollowed := true, recurses := true, apart := false, narrowed := true }
def FnExactTransferBoundUptoSaid : Prop := fnExactTransferBoundUptoRow.holds Try.pinned (OpenSpec.upto fnExactTransferBoundSpec)

/-- 'laws.FnExactOutputsOf', WHERE WHAT IT READS IS OF BULK AT MOST 1048576: true; the input reads as it did. -/
def fnExactOutputsOfUptoRow : OpenClaim := { program := "ytidodagkfbplaaa", sum := "b65f71d9b8deafa68a4c70516a0fd5509501a9c0a5d7573b040a6e334e41d549", func := "loop.example/g01112/laws.FnExactOutputsOf", spec := "fnExactOutputsOf", unfollowed := true, recurses := true, apart := false, narrowed := true }
def FnExactOutputsOfUptoSaid : Prop := fnExactOutputsOfUptoRow.holds Try.pinned (OpenSpec.upto fnExactOutputsOfSpec)

end Rows
end Go.Proofs.Ytidodagkfbplaaa
