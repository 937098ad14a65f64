/- The library's own functions: laid by the kit's command, written out. -/
import Derived.Shelf.SlicesE.Clone
import Derived.Test.YthmnlokdikomkaaProg
namespace Go.Proofs.Ythmnlokdikomkaa.PI
open Go Go.Proofs Go.Shelf
set_option maxRecDepth 100000
def cloneI_ren : Ren :=
  { f := fun x => match x with
      | 41 => 106
      | n => n,
    t := fun x => match x with
      | 22 => 35
      | 23 => 2
      | 4 => 4
      | n => n,
    g := fun x => x }
theorem cloneI : SlLaysE0.n41 Try.prog cloneI_ren :=
  { mixed := rfl,
    f41 := Exists.intro "slices.Clone[[]int64,int64]" ⟨rfl, Eq.trans Try.func106 rfl⟩,
    t4 := Try.underlying4,
    a4 := Try.isAgg4,
    z4 := Try.sizeOf4,
    v4 := Try.zeroValue4,
    t22 := Try.underlying35,
    a22 := Try.isAgg35,
    z22 := Try.sizeOf35,
    v22 := Try.zeroValue35 }
def cloneB_ren : Ren :=
  { f := fun x => match x with
      | 41 => 107
      | n => n,
    t := fun x => match x with
      | 22 => 36
      | 23 => 4
      | 4 => 4
      | n => n,
    g := fun x => x }
theorem cloneB : SlLaysE0.n41 Try.prog cloneB_ren :=
  { mixed := rfl,
    f41 := Exists.intro "slices.Clone[[]bool,bool]" ⟨rfl, Eq.trans Try.func107 rfl⟩,
    t4 := Try.underlying4,
    a4 := Try.isAgg4,
    z4 := Try.sizeOf4,
    v4 := Try.zeroValue4,
    t22 := Try.underlying36,
    a22 := Try.isAgg36,
    z22 := Try.sizeOf36,
    v22 := Try.zeroValue36 }
def cloneO_ren : Ren :=
  { f := fun x => match x with
      | 41 => 92
      | n => n,
    t := fun x => match x with
      | 22 => 29
      | 23 => 51
      | 4 => 4
      | n => n,
    g := fun x => x }
theorem cloneO : SlLaysE0.n41 Try.prog cloneO_ren :=
  { mixed := rfl,
    f41 := Exists.intro "slices.Clone[[]loop.example/g01112/impl.Op,loop.example/g01112/impl.Op]" ⟨rfl, Eq.trans Try.func92 rfl⟩,
    t4 := Try.underlying4,
    a4 := Try.isAgg4,
    z4 := Try.sizeOf4,
    v4 := Try.zeroValue4,
    t22 := Try.underlying29,
    a22 := Try.isAgg29,
    z22 := Try.sizeOf29,
    v22 := Try.zeroValue29 }
end Go.Proofs.Ythmnlokdikomkaa.PI
