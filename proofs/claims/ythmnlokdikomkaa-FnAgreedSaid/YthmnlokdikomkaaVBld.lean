/- strings.Builder: layings written out by a program of the session. -/
import Derived.Test.YthmnlokdikomkaaGQBuild3
import Derived.Test.YthmnlokdikomkaaProg
namespace Go.Proofs.Ythmnlokdikomkaa.PI
open Go Go.Proofs Go.Shelf
set_option maxRecDepth 100000
def bld_ren : Ren :=
  { f := fun x => match x with
      | 167 => 115
      | 169 => 116
      | 240 => 121
      | 276 => 122
      | n => n,
    t := fun x => match x with
      | 20 => 20
      | 37 => 22
      | 70 => 154
      | 72 => 156
      | 75 => 158
      | 80 => 134
      | 127 => 163
      | 164 => 164
      | n => n,
    g := fun x => x }
theorem bld167 : Lays.n167 Try.prog bld_ren :=
  { mixed := rfl,
    f167 := Eq.trans Try.func115 rfl,
    f240 := Eq.trans Try.func121 rfl,
    f276 := Eq.trans Try.func122 rfl,
    t0 := Try.underlying0,
    a0 := Try.isAgg0,
    z0 := Try.sizeOf0,
    v0 := Try.zeroValue0,
    t4 := Try.underlying4,
    a4 := Try.isAgg4,
    z4 := Try.sizeOf4,
    v4 := Try.zeroValue4,
    t5 := Try.underlying5,
    a5 := Try.isAgg5,
    z5 := Try.sizeOf5,
    v5 := Try.zeroValue5,
    t9 := Try.underlying9,
    a9 := Try.isAgg9,
    z9 := Try.sizeOf9,
    v9 := Try.zeroValue9,
    t20 := Try.underlying20,
    a20 := Try.isAgg20,
    z20 := Try.sizeOf20,
    v20 := Try.zeroValue20,
    t37 := Try.underlying22,
    a37 := Try.isAgg22,
    z37 := Try.sizeOf22,
    v37 := Try.zeroValue22,
    t70 := Try.underlying154,
    a70 := Try.isAgg154,
    z70 := Try.sizeOf154,
    v70 := Try.zeroValue154,
    t72 := Try.underlying156,
    a72 := Try.isAgg156,
    z72 := Try.sizeOf156,
    v72 := Try.zeroValue156,
    t75 := Try.underlying158,
    a75 := Try.isAgg158,
    z75 := Try.sizeOf158,
    v75 := Try.zeroValue158,
    t164 := Try.underlying164,
    a164 := Try.isAgg164,
    z164 := Try.sizeOf164,
    v164 := Try.zeroValue164 }
theorem bld169 : Lays.n169 Try.prog bld_ren :=
  { mixed := rfl,
    f169 := Eq.trans Try.func116 rfl,
    t0 := Try.underlying0,
    a0 := Try.isAgg0,
    z0 := Try.sizeOf0,
    v0 := Try.zeroValue0,
    t3 := Try.underlying3,
    a3 := Try.isAgg3,
    z3 := Try.sizeOf3,
    v3 := Try.zeroValue3,
    t9 := Try.underlying9,
    a9 := Try.isAgg9,
    z9 := Try.sizeOf9,
    v9 := Try.zeroValue9,
    t37 := Try.underlying22,
    a37 := Try.isAgg22,
    z37 := Try.sizeOf22,
    v37 := Try.zeroValue22,
    t70 := Try.underlying154,
    a70 := Try.isAgg154,
    z70 := Try.sizeOf154,
    v70 := Try.zeroValue154,
    t72 := Try.underlying156,
    a72 := Try.isAgg156,
    z72 := Try.sizeOf156,
    v72 := Try.zeroValue156,
    t127 := Try.underlying163,
    a127 := Try.isAgg163,
    z127 := Try.sizeOf163,
    v127 := Try.zeroValue163 }
theorem bldX : Builder.Extra Try.prog bld_ren where
  sizeBuilder := by kernel_rfl
  liesBuilder := by kernel_rfl
  t5 := Try.underlying5
  a5 := Try.isAgg5
  z5 := Try.sizeOf5
  v5 := Try.zeroValue5
  infoByte := by kernel_rfl
  cellsByte := by kernel_rfl
  sizeByte := by kernel_rfl
  neB5 := by decide
end Go.Proofs.Ythmnlokdikomkaa.PI
