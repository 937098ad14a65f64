/-
  No cell of these rows narrows 'for every input' (looked for: loops, veiled, ifaces, maps, wideKeys, modest, calm, conditions, laid).
  DERIVED. THE GIVEN ROWS OF THIS SEAT. 6 by the template 'for every input the law returns true; each argument reads behind the call as it read before'; 0 by the template 'total and deterministic' (their statements: YticpldfkjldepaaTotals.lean).
  GIVEN WITH THE SEED: the statements are not yours to turn. If you find one false, say at which input.
  Laid BY PROGRAM, IN A SANDBOX (cutbox-rows.mjs): the forced cells as the released guide's own fill.sh prints them over the translation 36ac1129795df3f0… (all of the seat's roots in one cut). By AI agents, Wed Nov 11 2026. No macro, syntax, notation, axiom, sorry.
-/
import Derived.Test.YticpldfkjldepaaChecked
import GoSem.Claim
import GoSem.ClaimJoined
import GoSem.ClaimMapViews
import Derived.JoinedTies
import Derived.KernelRfl
namespace Go.Proofs.Yticpldfkjldepaa
/- THE CELL 'sum', in the pinned program and in every row, IS THE sha256 OF THE DUMP (.gsa) THAT YticpldfkjldepaaProg.lean LOADS. Nothing in Lean hashes anything: it is a label: what it is worth is what the hold of that sum in a sandbox is worth. -/
noncomputable def Try.pinned : Pinned := { name := "yticpldfkjldepaa", sum := "36ac1129795df3f02e40569d73ae6db6423909a868a4ca1cd563fa8943a27ee0", checked := Try.checked }
namespace Rows
def none {H : Type} : Left H := { results := [], args := [] }

/-- 'laws.FnExactFlushAll': WHATEVER THE INPUT: true; the input reads as it did. -/
def fnExactFlushAllSpec : ChangeSpec := { name := "fnExactFlushAll", fn := fun _ => fun
  | [d] => { results := [.lit (.bool true)], args := [d] }
  | _ => none }
def fnExactFlushAllRow : OpenClaim := { program := "yticpldfkjldepaa", sum := "36ac1129795df3f02e40569d73ae6db6423909a868a4ca1cd563fa8943a27ee0", func := "loop.example/g01112/laws.FnExactFlushAll", spec := "fnExactFlushAll", unfollowed := true, recurses := true, apart := false }
def FnExactFlushAllSaid : Prop := fnExactFlushAllRow.holds Try.pinned (OpenSpec.ofChange fnExactFlushAllSpec)

/-- ITS FALSE NEIGHBOUR: 'it returns false'. Refute it at one input. -/
def fnExactFlushAllWrong : ChangeSpec := { name := "fnExactFlushAll", fn := fun _ => fun
  | [d] => { results := [.lit (.bool false)], args := [d] }
  | _ => none }
def FnExactFlushAllWrongFalsely : Prop := fnExactFlushAllRow.holds Try.pinned (OpenSpec.ofChange fnExactFlushAllWrong)

/-- 'laws.FnExactClearUsed': WHATEVER THE INPUT: true; the input reads as it did. -/
def fnExactClearUsedSpec : ChangeSpec := { name := "fnExactClearUsed", fn := fun _ => fun
  | [d] => { results := [.lit (.bool true)], args := [d] }
  | _ => none }
def fnExactClearUsedRow : OpenClaim := { program := "yticpldfkjldepaa", sum := "36ac1129795df3f02e40569d73ae6db6423909a868a4ca1cd563fa8943a27ee0", func := "loop.example/g01112/laws.FnExactClearUsed", spec := "fnExactClearUsed", unfollowed := true, recurses := true, apart := false }
def FnExactClearUsedSaid : Prop := fnExactClearUsedRow.holds Try.pinned (OpenSpec.ofChange fnExactClearUsedSpec)

/-- ITS FALSE NEIGHBOUR: 'it returns false'. Refute it at one input. -/
def fnExactClearUsedWrong : ChangeSpec := { name := "fnExactClearUsed", fn := fun _ => fun
  | [d] => { results := [.lit (.bool false)], args := [d] }
  | _ => none }
def FnExactClearUsedWrongFalsely : Prop := fnExactClearUsedRow.holds Try.pinned (OpenSpec.ofChange fnExactClearUsedWrong)

/-- 'laws.FnExactFlushPage': WHATEVER THE INPUT: true; the input reads as it did. -/
def fnExactFlushPageSpec : ChangeSpec := { name := "fnExactFlushPage", fn := fun _ => fun
  | [d1, d2] => { results := [.lit (.bool true)], args := [d1, d2] }
  | _ => none }
def fnExactFlushPageRow : OpenClaim := { program := "yticpldfkjldepaa", sum := "36ac1129795df3f02e40569d73ae6db6423909a868a4ca1cd563fa8943a27ee0", func := "loop.example/g01112/laws.FnExactFlushPage", spec := "fnExactFlushPage", unfollowed := true, recurses := true, apart := false }
def FnExactFlushPageSaid : Prop := fnExactFlushPageRow.holds Try.pinned (OpenSpec.ofChange fnExactFlushPageSpec)

/-- ITS FALSE NEIGHBOUR: 'it returns false'. Refute it at one input. -/
def fnExactFlushPageWrong : ChangeSpec := { name := "fnExactFlushPage", fn := fun _ => fun
  | [d1, d2] => { results := [.lit (.bool false)], args := [d1, d2] }
  | _ => none }
def FnExactFlushPageWrongFalsely : Prop := fnExactFlushPageRow.holds Try.pinned (OpenSpec.ofChange fnExactFlushPageWrong)

/-- 'laws.FnExactUnmapPage': WHATEVER THE INPUT: true; the input reads as it did. -/
def fnExactUnmapPageSpec : ChangeSpec := { name := "fnExactUnmapPage", fn := fun _ => fun
  | [d1, d2] => { results := [.lit (.bool true)], args := [d1, d2] }
  | _ => none }
def fnExactUnmapPageRow : OpenClaim := { program := "yticpldfkjldepaa", sum := "36ac1129795df3f02e40569d73ae6db6423909a868a4ca1cd563fa8943a27ee0", func := "loop.example/g01112/laws.FnExactUnmapPage", spec := "fnExactUnmapPage", unfollowed := true, recurses := true, apart := false }
def FnExactUnmapPageSaid : Prop := fnExactUnmapPageRow.holds Try.pinned (OpenSpec.ofChange fnExactUnmapPageSpec)

/-- ITS FALSE NEIGHBOUR: 'it returns false'. Refute it at one input. -/
def fnExactUnmapPageWrong : ChangeSpec := { name := "fnExactUnmapPage", fn := fun _ => fun
  | [d1, d2] => { results := [.lit (.bool false)], args := [d1, d2] }
  | _ => none }
def FnExactUnmapPageWrongFalsely : Prop := fnExactUnmapPageRow.holds Try.pinned (OpenSpec.ofChange fnExactUnmapPageWrong)

/-- 'laws.FnExactProtectPage': WHATEVER THE INPUT: true; the input reads as it did. -/
def fnExactProtectPageSpec : ChangeSpec := { name := "fnExactProtectPage", fn := fun _ => fun
  | [d1, d2, d3] => { results := [.lit (.bool true)], args := [d1, d2, d3] }
  | _ => none }
def fnExactProtectPageRow : OpenClaim := { program := "yticpldfkjldepaa", sum := "36ac1129795df3f02e40569d73ae6db6423909a868a4ca1cd563fa8943a27ee0", func := "loop.example/g01112/laws.FnExactProtectPage", spec := "fnExactProtectPage", unfollowed := true, recurses := true, apart := false }
def FnExactProtectPageSaid : Prop := fnExactProtectPageRow.holds Try.pinned (OpenSpec.ofChange fnExactProtectPageSpec)

/-- ITS FALSE NEIGHBOUR: 'it returns false'. Refute it at one input. -/
def fnExactProtectPageWrong : ChangeSpec := { name := "fnExactProtectPage", fn := fun _ => fun
  | [d1, d2, d3] => { results := [.lit (.bool false)], args := [d1, d2, d3] }
  | _ => none }
def FnExactProtectPageWrongFalsely : Prop := fnExactProtectPageRow.holds Try.pinned (OpenSpec.ofChange fnExactProtectPageWrong)

/-- 'laws.FnTranslated': WHATEVER THE INPUT: true; the input reads as it did. -/
def fnTranslatedSpec : ChangeSpec := { name := "fnTranslated", fn := fun _ => fun
  | [d1, d2] => { results := [.lit (.bool true)], args := [d1, d2] }
  | _ => none }
def fnTranslatedRow : OpenClaim := { program := "yticpldfkjldepaa", sum := "36ac1129795df3f02e40569d73ae6db6423909a868a4ca1cd563fa8943a27ee0", func := "loop.example/g01112/laws.FnTranslated", spec := "fnTranslated", inPlace := ["slices.overlaps[loop.example/g01112/impl.Cached]"], unfollowed := true, recurses := true, apart := false }
def FnTranslatedSaid : Prop := fnTranslatedRow.holds Try.pinned (OpenSpec.ofChange fnTranslatedSpec)

/-- ITS FALSE NEIGHBOUR: 'it returns false'. Refute it at one input. -/
def fnTranslatedWrong : ChangeSpec := { name := "fnTranslated", fn := fun _ => fun
  | [d1, d2] => { results := [.lit (.bool false)], args := [d1, d2] }
  | _ => none }
def FnTranslatedWrongFalsely : Prop := fnTranslatedRow.holds Try.pinned (OpenSpec.ofChange fnTranslatedWrong)

/- THE SECOND FORM. 'bulk': how many values and letters a reading holds, each counted each time it is reached (what is shared counts as often as it is met; a slice's spare places count too). A statement '..UptoSaid' is the law's where the arguments, and the package variables that the reading takes, are together of bulk at most 1048576: NARROWER than '..Said'. Prove '..Said' where nothing that the law and all that it calls make is longer than what came in: it says more and counts as full. Else prove '..UptoSaid'. A law counts once. -/
mutual
def uptoBulk {H : Type} : DataW H → Nat
  | .lit (.string bytes) => bytes.length + 1
  | .lit _ => 1
  | .nil => 1
  | .ptr d => uptoBulk d + 1
  | .slice elems spare => uptoBulkAll elems + uptoBulkAll spare + 1
  | .agg parts => uptoBulkAll parts + 1
  | .iface _ d => uptoBulk d + 1
  | .map entries => uptoBulkEntries entries + 1
  | .held _ => 1
def uptoBulkAll {H : Type} : List (DataW H) → Nat
  | [] => 0
  | d :: r => uptoBulk d + uptoBulkAll r
def uptoBulkEntries {H : Type} : List (Lit × DataW H) → Nat
  | [] => 0
  | x :: r => uptoBulkEntry x + uptoBulkEntries r
def uptoBulkEntry {H : Type} : Lit × DataW H → Nat
  | (.string bytes, d) => bytes.length + uptoBulk d + 1
  | (_, d) => uptoBulk d + 1
 end
def uptoSmall : (H : Type) → List (DataW H) → Bool := fun _ ds => decide (uptoBulkAll ds ≤ 1048576)
def OpenSpec.upto (s : _root_.Go.ChangeSpec) : _root_.Go.OpenSpec := { _root_.Go.OpenSpec.ofChange s with cond := some uptoSmall }

/-- 'laws.FnExactFlushAll', WHERE WHAT IT READS IS OF BULK AT MOST 1048576: true; the input reads as it did. -/
def fnExactFlushAllUptoRow : OpenClaim := { program := "yticpldfkjldepaa", sum := "36ac1129795df3f02e40569d73ae6db6423909a868a4ca1cd563fa8943a27ee0", func := "loop.example/g01112/laws.FnExactFlushAll", spec := "fnExactFlushAll", unfollowed := true, recurses := true, apart := false, narrowed := true }
def FnExactFlushAllUptoSaid : Prop := fnExactFlushAllUptoRow.holds Try.pinned (OpenSpec.upto fnExactFlushAllSpec)

/-- 'laws.FnExactClearUsed', WHERE WHAT IT READS IS OF BULK AT MOST 1048576: true; the input reads as it did. -/
def fnExactClearUsedUptoRow : OpenClaim := { program := "yticpldfkjldepaa", sum := "36ac1129795df3f02e40569d73ae6db6423909a868a4ca1cd563fa8943a27ee0", func := "loop.example/g01112/laws.FnExactClearUsed", spec := "fnExactClearUsed", unfollowed := true, recurses := true, apart := false, narrowed := true }
def FnExactClearUsedUptoSaid : Prop := fnExactClearUsedUptoRow.holds Try.pinned (OpenSpec.upto fnExactClearUsedSpec)

/-- 'laws.FnExactFlushPage', WHERE WHAT IT READS IS OF BULK AT MOST 1048576: true; the input reads as it did. -/
def fnExactFlushPageUptoRow : OpenClaim := { program := "yticpldfkjldepaa", sum := "36ac1129795df3f02e40569d73ae6db6423909a868a4ca1cd563fa8943a27ee0", func := "loop.example/g01112/laws.FnExactFlushPage", spec := "fnExactFlushPage", unfollowed := true, recurses := true, apart := false, narrowed := true }
def FnExactFlushPageUptoSaid : Prop := fnExactFlushPageUptoRow.holds Try.pinned (OpenSpec.upto fnExactFlushPageSpec)

/-- 'laws.FnExactUnmapPage', WHERE WHAT IT READS IS OF BULK AT MOST 1048576: true; the input reads as it did. -/
def fnExactUnmapPageUptoRow : OpenClaim := { program := "yticpldfkjldepaa", sum := "36ac1129795df3f02e40569d73ae6db6423909a868a4ca1cd563fa8943a27ee0", func := "loop.example/g01112/laws.FnExactUnmapPage", spec := "fnExactUnmapPage", unfollowed := true, recurses := true, apart := false, narrowed := true }
def FnExactUnmapPageUptoSaid : Prop := fnExactUnmapPageUptoRow.holds Try.pinned (OpenSpec.upto fnExactUnmapPageSpec)

/-- 'laws.FnExactProtectPage', WHERE WHAT IT READS IS OF BULK AT MOST 1048576: true; the input reads as it did. -/
def fnExactProtectPageUptoRow : OpenClaim := { program := "yticpldfkjldepaa", sum := "36ac1129795df3f02e40569d73ae6db6423909a868a4ca1cd563fa8943a27ee0", func := "loop.example/g01112/laws.FnExactProtectPage", spec := "fnExactProtectPage", unfollowed := true, recurses := true, apart := false, narrowed := true }
def FnExactProtectPageUptoSaid : Prop := fnExactProtectPageUptoRow.holds Try.pinned (OpenSpec.upto fnExactProtectPageSpec)

/-- 'laws.FnTranslated', WHERE WHAT IT READS IS OF BULK AT MOST 1048576: true; the input reads as it did. -/
def fnTranslatedUptoRow : OpenClaim := { program := "yticpldfkjldepaa", sum := "36ac1129795df3f02e40569d73ae6db6423909a868a4ca1cd563fa8943a27ee0", func := "loop.example/g01112/laws.FnTranslated", spec := "fnTranslated", inPlace := ["slices.overlaps[loop.example/g01112/impl.Cached]"], unfollowed := true, recurses := true, apart := false, narrowed := true }
def FnTranslatedUptoSaid : Prop := fnTranslatedUptoRow.holds Try.pinned (OpenSpec.upto fnTranslatedSpec)

end Rows
end Go.Proofs.Yticpldfkjldepaa
