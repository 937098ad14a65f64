/-
  No cell of these rows narrows 'for every input' (looked for: loops, veiled, ifaces, maps, wideKeys, modest, calm, conditions, laid).
  DERIVED. THE GIVEN ROWS OF THIS SEAT. 9 by the template 'for every input the law returns true; each argument reads behind the call as it read before'; 0 by the template 'total and deterministic' (their statements: YthhankjdpbbncaaTotals.lean).
  GIVEN WITH THE SEED: the statements are not yours to turn. If you find one false, say at which input.
  Laid BY PROGRAM, IN A SANDBOX (cutbox-rows.mjs): the forced cells as the released guide's own fill.sh prints them over the translation 713b5363bdf134f5… (all of the seat's roots in one cut). By AI agents, Wed Nov 11 2026. No macro, syntax, notation, axiom, sorry.
-/
import Derived.Test.YthhankjdpbbncaaChecked
import GoSem.Claim
import GoSem.ClaimJoined
import GoSem.ClaimMapViews
import Derived.JoinedTies
import Derived.KernelRfl
namespace Go.Proofs.Ythhankjdpbbncaa
/- THE CELL 'sum', in the pinned program and in every row, IS THE sha256 OF THE DUMP (.gsa) THAT YthhankjdpbbncaaProg.lean LOADS. Nothing in Lean hashes anything: it is a label: what it is worth is what the hold of that sum in a sandbox is worth. -/
noncomputable def Try.pinned : Pinned := { name := "ythhankjdpbbncaa", sum := "713b5363bdf134f545a02cb1a3f49c22e8ca64cee899e8c9fe3b63cceeb9ef2d", checked := Try.checked }
namespace Rows
def none {H : Type} : Left H := { results := [], args := [] }

/-- 'laws.FnExactJournalOf': WHATEVER THE INPUT: true; the input reads as it did. -/
def fnExactJournalOfSpec : ChangeSpec := { name := "fnExactJournalOf", fn := fun _ => fun
  | [d] => { results := [.lit (.bool true)], args := [d] }
  | _ => none }
def fnExactJournalOfRow : OpenClaim := { program := "ythhankjdpbbncaa", sum := "713b5363bdf134f545a02cb1a3f49c22e8ca64cee899e8c9fe3b63cceeb9ef2d", func := "loop.example/g01112/laws.FnExactJournalOf", spec := "fnExactJournalOf", inPlace := ["internal/abi.NoEscape", "internal/bytealg.IndexByteString", "internal/bytealg.IndexString"], named := ["internal/bytealg.MaxLen"], plainKeys := false, apart := false }
def FnExactJournalOfSaid : Prop := fnExactJournalOfRow.holds Try.pinned (OpenSpec.ofChange fnExactJournalOfSpec)

/-- ITS FALSE NEIGHBOUR: 'it returns false'. Refute it at one input. -/
def fnExactJournalOfWrong : ChangeSpec := { name := "fnExactJournalOf", fn := fun _ => fun
  | [d] => { results := [.lit (.bool false)], args := [d] }
  | _ => none }
def FnExactJournalOfWrongFalsely : Prop := fnExactJournalOfRow.holds Try.pinned (OpenSpec.ofChange fnExactJournalOfWrong)

/-- 'laws.FnMorePlaces': WHATEVER THE INPUT: true; the input reads as it did. -/
def fnMorePlacesSpec : ChangeSpec := { name := "fnMorePlaces", fn := fun _ => fun
  | [d1, d2] => { results := [.lit (.bool true)], args := [d1, d2] }
  | _ => none }
def fnMorePlacesRow : OpenClaim := { program := "ythhankjdpbbncaa", sum := "713b5363bdf134f545a02cb1a3f49c22e8ca64cee899e8c9fe3b63cceeb9ef2d", func := "loop.example/g01112/laws.FnMorePlaces", spec := "fnMorePlaces", unfollowed := true, recurses := true, plainKeys := false, apart := false }
def FnMorePlacesSaid : Prop := fnMorePlacesRow.holds Try.pinned (OpenSpec.ofChange fnMorePlacesSpec)

/-- ITS FALSE NEIGHBOUR: 'it returns false'. Refute it at one input. -/
def fnMorePlacesWrong : ChangeSpec := { name := "fnMorePlaces", fn := fun _ => fun
  | [d1, d2] => { results := [.lit (.bool false)], args := [d1, d2] }
  | _ => none }
def FnMorePlacesWrongFalsely : Prop := fnMorePlacesRow.holds Try.pinned (OpenSpec.ofChange fnMorePlacesWrong)

/-- 'laws.FnExactLeastPlaces': WHATEVER THE INPUT: true; the input reads as it did. -/
def fnExactLeastPlacesSpec : ChangeSpec := { name := "fnExactLeastPlaces", fn := fun _ => fun
  | [d] => { results := [.lit (.bool true)], args := [d] }
  | _ => none }
def fnExactLeastPlacesRow : OpenClaim := { program := "ythhankjdpbbncaa", sum := "713b5363bdf134f545a02cb1a3f49c22e8ca64cee899e8c9fe3b63cceeb9ef2d", func := "loop.example/g01112/laws.FnExactLeastPlaces", spec := "fnExactLeastPlaces", unfollowed := true, recurses := true, plainKeys := false, apart := false }
def FnExactLeastPlacesSaid : Prop := fnExactLeastPlacesRow.holds Try.pinned (OpenSpec.ofChange fnExactLeastPlacesSpec)

/-- ITS FALSE NEIGHBOUR: 'it returns false'. Refute it at one input. -/
def fnExactLeastPlacesWrong : ChangeSpec := { name := "fnExactLeastPlaces", fn := fun _ => fun
  | [d] => { results := [.lit (.bool false)], args := [d] }
  | _ => none }
def FnExactLeastPlacesWrongFalsely : Prop := fnExactLeastPlacesRow.holds Try.pinned (OpenSpec.ofChange fnExactLeastPlacesWrong)

/-- 'laws.FnExactIsPebbling': WHATEVER THE INPUT: true; the input reads as it did. -/
def fnExactIsPebblingSpec : ChangeSpec := { name := "fnExactIsPebbling", fn := fun _ => fun
  | [d1, d2, d3] => { results := [.lit (.bool true)], args := [d1, d2, d3] }
  | _ => none }
def fnExactIsPebblingRow : OpenClaim := { program := "ythhankjdpbbncaa", sum := "713b5363bdf134f545a02cb1a3f49c22e8ca64cee899e8c9fe3b63cceeb9ef2d", func := "loop.example/g01112/laws.FnExactIsPebbling", spec := "fnExactIsPebbling", unfollowed := true, recurses := true, plainKeys := false, apart := false }
def FnExactIsPebblingSaid : Prop := fnExactIsPebblingRow.holds Try.pinned (OpenSpec.ofChange fnExactIsPebblingSpec)

/-- ITS FALSE NEIGHBOUR: 'it returns false'. Refute it at one input. -/
def fnExactIsPebblingWrong : ChangeSpec := { name := "fnExactIsPebbling", fn := fun _ => fun
  | [d1, d2, d3] => { results := [.lit (.bool false)], args := [d1, d2, d3] }
  | _ => none }
def FnExactIsPebblingWrongFalsely : Prop := fnExactIsPebblingRow.holds Try.pinned (OpenSpec.ofChange fnExactIsPebblingWrong)

/-- 'laws.FnExactRunPebbling': WHATEVER THE INPUT: true; the input reads as it did. -/
def fnExactRunPebblingSpec : ChangeSpec := { name := "fnExactRunPebbling", fn := fun _ => fun
  | [d1, d2, d3] => { results := [.lit (.bool true)], args := [d1, d2, d3] }
  | _ => none }
def fnExactRunPebblingRow : OpenClaim := { program := "ythhankjdpbbncaa", sum := "713b5363bdf134f545a02cb1a3f49c22e8ca64cee899e8c9fe3b63cceeb9ef2d", func := "loop.example/g01112/laws.FnExactRunPebbling", spec := "fnExactRunPebbling", unfollowed := true, recurses := true, plainKeys := false, apart := false }
def FnExactRunPebblingSaid : Prop := fnExactRunPebblingRow.holds Try.pinned (OpenSpec.ofChange fnExactRunPebblingSpec)

/-- ITS FALSE NEIGHBOUR: 'it returns false'. Refute it at one input. -/
def fnExactRunPebblingWrong : ChangeSpec := { name := "fnExactRunPebbling", fn := fun _ => fun
  | [d1, d2, d3] => { results := [.lit (.bool false)], args := [d1, d2, d3] }
  | _ => none }
def FnExactRunPebblingWrongFalsely : Prop := fnExactRunPebblingRow.holds Try.pinned (OpenSpec.ofChange fnExactRunPebblingWrong)

/-- 'laws.FnExactLeastTransfers': WHATEVER THE INPUT: true; the input reads as it did. -/
def fnExactLeastTransfersSpec : ChangeSpec := { name := "fnExactLeastTransfers", fn := fun _ => fun
  | [d1, d2] => { results := [.lit (.bool true)], args := [d1, d2] }
  | _ => none }
def fnExactLeastTransfersRow : OpenClaim := { program := "ythhankjdpbbncaa", sum := "713b5363bdf134f545a02cb1a3f49c22e8ca64cee899e8c9fe3b63cceeb9ef2d", func := "loop.example/g01112/laws.FnExactLeastTransfers", spec := "fnExactLeastTransfers", unfollowed := true, recurses := true, plainKeys := false, apart := false }
def FnExactLeastTransfersSaid : Prop := fnExactLeastTransfersRow.holds Try.pinned (OpenSpec.ofChange fnExactLeastTransfersSpec)

/-- ITS FALSE NEIGHBOUR: 'it returns false'. Refute it at one input. -/
def fnExactLeastTransfersWrong : ChangeSpec := { name := "fnExactLeastTransfers", fn := fun _ => fun
  | [d1, d2] => { results := [.lit (.bool false)], args := [d1, d2] }
  | _ => none }
def FnExactLeastTransfersWrongFalsely : Prop := fnExactLeastTransfersRow.holds Try.pinned (OpenSpec.ofChange fnExactLeastTransfersWrong)

/-- 'laws.FnPebbled': WHATEVER THE INPUT: true; the input reads as it did. -/
def fnPebbledSpec : ChangeSpec := { name := "fnPebbled", fn := fun _ => fun
  | [d1, d2] => { results := [.lit (.bool true)], args := [d1, d2] }
  | _ => none }
def fnPebbledRow : OpenClaim := { program := "ythhankjdpbbncaa", sum := "713b5363bdf134f545a02cb1a3f49c22e8ca64cee899e8c9fe3b63cceeb9ef2d", func := "loop.example/g01112/laws.FnPebbled", spec := "fnPebbled", unfollowed := true, recurses := true, plainKeys := false, apart := false }
def FnPebbledSaid : Prop := fnPebbledRow.holds Try.pinned (OpenSpec.ofChange fnPebbledSpec)

/-- ITS FALSE NEIGHBOUR: 'it returns false'. Refute it at one input. -/
def fnPebbledWrong : ChangeSpec := { name := "fnPebbled", fn := fun _ => fun
  | [d1, d2] => { results := [.lit (.bool false)], args := [d1, d2] }
  | _ => none }
def FnPebbledWrongFalsely : Prop := fnPebbledRow.holds Try.pinned (OpenSpec.ofChange fnPebbledWrong)

/-- 'laws.FnExactBestPebbling': WHATEVER THE INPUT: true; the input reads as it did. -/
def fnExactBestPebblingSpec : ChangeSpec := { name := "fnExactBestPebbling", fn := fun _ => fun
  | [d1, d2] => { results := [.lit (.bool true)], args := [d1, d2] }
  | _ => none }
def fnExactBestPebblingRow : OpenClaim := { program := "ythhankjdpbbncaa", sum := "713b5363bdf134f545a02cb1a3f49c22e8ca64cee899e8c9fe3b63cceeb9ef2d", func := "loop.example/g01112/laws.FnExactBestPebbling", spec := "fnExactBestPebbling", unfollowed := true, recurses := true, plainKeys := false, apart := false }
def FnExactBestPebblingSaid : Prop := fnExactBestPebblingRow.holds Try.pinned (OpenSpec.ofChange fnExactBestPebblingSpec)

/-- ITS FALSE NEIGHBOUR: 'it returns false'. Refute it at one input. -/
def fnExactBestPebblingWrong : ChangeSpec := { name := "fnExactBestPebbling", fn := fun _ => fun
  | [d1, d2] => { results := [.lit (.bool false)], args := [d1, d2] }
  | _ => none }
def FnExactBestPebblingWrongFalsely : Prop := fnExactBestPebblingRow.holds Try.pinned (OpenSpec.ofChange fnExactBestPebblingWrong)

/-- 'laws.FnJournal': WHATEVER THE INPUT: true; the input reads as it did. -/
def fnJournalSpec : ChangeSpec := { name := "fnJournal", fn := fun _ => fun
  | [d1, d2] => { results := [.lit (.bool true)], args := [d1, d2] }
  | _ => none }
def fnJournalRow : OpenClaim := { program := "ythhankjdpbbncaa", sum := "713b5363bdf134f545a02cb1a3f49c22e8ca64cee899e8c9fe3b63cceeb9ef2d", func := "loop.example/g01112/laws.FnJournal", spec := "fnJournal", inPlace := ["internal/abi.NoEscape", "internal/bytealg.IndexByteString", "internal/bytealg.IndexString"], named := ["internal/bytealg.MaxLen"], plainKeys := false, apart := false }
def FnJournalSaid : Prop := fnJournalRow.holds Try.pinned (OpenSpec.ofChange fnJournalSpec)

/-- ITS FALSE NEIGHBOUR: 'it returns false'. Refute it at one input. -/
def fnJournalWrong : ChangeSpec := { name := "fnJournal", fn := fun _ => fun
  | [d1, d2] => { results := [.lit (.bool false)], args := [d1, d2] }
  | _ => none }
def FnJournalWrongFalsely : Prop := fnJournalRow.holds Try.pinned (OpenSpec.ofChange fnJournalWrong)

/- THE SECOND FORM. 'bulk': how many values and letters a reading holds, each counted each time it is reached (what is shared counts as often as it is met; a slice's spare places count too). A statement '..UptoSaid' is the law's where the arguments, and the package variables that the reading takes, are together of bulk at most 1048576: NARROWER than '..Said'. Prove '..Said' where nothing that the law and all that it calls make is longer than what came in: it says more and counts as full. Else prove '..UptoSaid'. A law counts once. -/
mutual
def uptoBulk {H : Type} : DataW H → Nat
  | .lit (.string bytes) => bytes.length + 1
  | .lit _ => 1
  | .nil => 1
  | .ptr d => uptoBulk d + 1
  | .slice elems spare => uptoBulkAll elems + uptoBulkAll spare + 1
  | .agg parts => uptoBulkAll parts + 1
  | .iface _ d => uptoBulk d + 1
  | .map entries => uptoBulkEntries entries + 1
  | .held _ => 1
def uptoBulkAll {H : Type} : List (DataW H) → Nat
  | [] => 0
  | d :: r => uptoBulk d + uptoBulkAll r
def uptoBulkEntries {H : Type} : List (Lit × DataW H) → Nat
  | [] => 0
  | x :: r => uptoBulkEntry x + uptoBulkEntries r
def uptoBulkEntry {H : Type} : Lit × DataW H → Nat
  | (.string bytes, d) => bytes.length + uptoBulk d + 1
  | (_, d) => uptoBulk d + 1
 end
def uptoSmall : (H : Type) → List (DataW H) → Bool := fun _ ds => decide (uptoBulkAll ds ≤ 1048576)
def OpenSpec.upto (s : _root_.Go.ChangeSpec) : _root_.Go.OpenSpec := { _root_.Go.OpenSpec.ofChange s with cond := some uptoSmall }

/-- 'laws.FnExactJournalOf', WHERE WHAT IT READS IS OF BULK AT MOST 1048576: true; the input reads as it did. -/
def fnExactJournalOfUptoRow : OpenClaim := { program := "ythhankjdpbbncaa", sum := "713b5363bdf134f545a02cb1a3f49c22e8ca64cee899e8c9fe3b63cceeb9ef2d", func := "loop.example/g01112/laws.FnExactJournalOf", spec := "fnExactJournalOf", inPlace := ["internal/abi.NoEscape", "internal/bytealg.IndexByteString", "internal/bytealg.IndexString"], named := ["internal/bytealg.MaxLen"], plainKeys := false, apart := false, narrowed := true }
def FnExactJournalOfUptoSaid : Prop := fnExactJournalOfUptoRow.holds Try.pinned (OpenSpec.upto fnExactJournalOfSpec)

/-- 'laws.FnMorePlaces', WHERE WHAT IT READS IS OF BULK AT MOST 1048576: true; the input reads as it did. -/
def fnMorePlacesUptoRow : OpenClaim := { program := "ythhankjdpbbncaa", sum := "713b5363bdf134f545a02cb1a3f49c22e8ca64cee899e8c9fe3b63cceeb9ef2d", func := "loop.example/g01112/laws.FnMorePlaces", spec := "fnMorePlaces", unfollowed := true, recurses := true, plainKeys := false, apart := false, narrowed := true }
def FnMorePlacesUptoSaid : Prop := fnMorePlacesUptoRow.holds Try.pinned (OpenSpec.upto fnMorePlacesSpec)

/-- 'laws.FnExactLeastPlaces', WHERE WHAT IT READS IS OF BULK AT MOST 1048576: true; the input reads as it did. -/
def fnExactLeastPlacesUptoRow : OpenClaim := { program := "ythhankjdpbbncaa", sum := "713b5363bdf134f545a02cb1a3f49c22e8ca64cee899e8c9fe3b63cceeb9ef2d", func := "loop.example/g01112/laws.FnExactLeastPlaces", spec := "fnExactLeastPlaces", unfollowed := true, recurses := true, plainKeys := false, apart := false, narrowed := true }
def FnExactLeastPlacesUptoSaid : Prop := fnExactLeastPlacesUptoRow.holds Try.pinned (OpenSpec.upto fnExactLeastPlacesSpec)

/-- 'laws.FnExactIsPebbling', WHERE WHAT IT READS IS OF BULK AT MOST 1048576: true; the input reads as it did. -/
def fnExactIsPebblingUptoRow : OpenClaim := { program := "ythhankjdpbbncaa", sum := "713b5363bdf134f545a02cb1a3f49c22e8ca64cee899e8c9fe3b63cceeb9ef2d", func := "loop.example/g01112/laws.FnExactIsPebbling", spec := "fnExactIsPebbling", unfollowed := true, recurses := true, plainKeys := false, apart := false, narrowed := true }
def FnExactIsPebblingUptoSaid : Prop := fnExactIsPebblingUptoRow.holds Try.pinned (OpenSpec.upto fnExactIsPebblingSpec)

/-- 'laws.FnExactRunPebbling', WHERE WHAT IT READS IS OF BULK AT MOST 1048576: true; the input reads as it did. -/
def fnExactRunPebblingUptoRow : OpenClaim := { program := "ythhankjdpbbncaa", sum := "713b5363bdf134f545a02cb1a3f49c22e8ca64cee899e8c9fe3b63cceeb9ef2d", func := "loop.example/g01112/laws.FnExactRunPebbling", spec := "fnExactRunPebbling", unfollowed := true, recurses := true, plainKeys := false, apart := false, narrowed := true }
def FnExactRunPebblingUptoSaid : Prop := fnExactRunPebblingUptoRow.holds Try.pinned (OpenSpec.upto fnExactRunPebblingSpec)

/-- 'laws.FnExactLeastTransfers', WHERE WHAT IT READS IS OF BULK AT MOST 1048576: true; the input reads as it did. -/
def fnExactLeastTransfersUptoRow : OpenClaim := { program := "ythhankjdpbbncaa", sum := "713b5363bdf134f545a02cb1a3f49c22e8ca64cee899e8c9fe3b63cceeb9ef2d", func := "loop.example/g01112/laws.FnExactLeastTransfers", spec := "fnExactLeastTransfers", unfollowed := true, recurses := true, plainKeys := false, apart := false, narrowed := true }
def FnExactLeastTransfersUptoSaid : Prop := fnExactLeastTransfersUptoRow.holds Try.pinned (OpenSpec.upto fnExactLeastTransfersSpec)

/-- 'laws.FnPebbled', WHERE WHAT IT READS IS OF BULK AT MOST 1048576: true; the input reads as it did. -/
def fnPebbledUptoRow : OpenClaim := { program := "ythhankjdpbbncaa", sum := "713b5363bdf134f545a02cb1a3f49c22e8ca64cee899e8c9fe3b63cceeb9ef2d", func := "loop.example/g01112/laws.FnPebbled", spec := "fnPebbled", unfollowed := true, recurses := true, plainKeys := false, apart := false, narrowed := true }
def FnPebbledUptoSaid : Prop := fnPebbledUptoRow.holds Try.pinned (OpenSpec.upto fnPebbledSpec)

/-- 'laws.FnExactBestPebbling', WHERE WHAT IT READS IS OF BULK AT MOST 1048576: true; the input reads as it did. -/
def fnExactBestPebblingUptoRow : OpenClaim := { program := "ythhankjdpbbncaa", sum := "713b5363bdf134f545a02cb1a3f49c22e8ca64cee899e8c9fe3b63cceeb9ef2d", func := "loop.example/g01112/laws.FnExactBestPebbling", spec := "fnExactBestPebbling", unfollowed := true, recurses := true, plainKeys := false, apart := false, narrowed := true }
def FnExactBestPebblingUptoSaid : Prop := fnExactBestPebblingUptoRow.holds Try.pinned (OpenSpec.upto fnExactBestPebblingSpec)

/-- 'laws.FnJournal', WHERE WHAT IT READS IS OF BULK AT MOST 1048576: true; the input reads as it did. -/
def fnJournalUptoRow : OpenClaim := { program := "ythhankjdpbbncaa", sum := "713b5363bdf134f545a02cb1a3f49c22e8ca64cee899e8c9fe3b63cceeb9ef2d", func := "loop.example/g01112/laws.FnJournal", spec := "fnJournal", inPlace := ["internal/abi.NoEscape", "internal/bytealg.IndexByteString", "internal/bytealg.IndexString"], named := ["internal/bytealg.MaxLen"], plainKeys := false, apart := false, narrowed := true }
def FnJournalUptoSaid : Prop := fnJournalUptoRow.holds Try.pinned (OpenSpec.upto fnJournalSpec)

end Rows
end Go.Proofs.Ythhankjdpbbncaa
