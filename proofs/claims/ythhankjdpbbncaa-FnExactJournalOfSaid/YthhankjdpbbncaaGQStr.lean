/- For evaluation: strings as lists of bytes. -/
import Derived.Test.YthhankjdpbbncaaGQBits
namespace Go.Q
set_option linter.unusedVariables false
set_option linter.unusedSimpArgs false
open Go
def mkS (l : List UInt8) : ByteArray := ⟨l.toArray⟩
theorem mkS_data (b : ByteArray) : mkS b.data.toList = b := by
  cases b; rfl
theorem mkS_of (l : List UInt8) : ByteArray.mk (List.toArray l) = mkS l := rfl
theorem mkS_empty : ByteArray.empty = mkS [] := rfl
theorem mkS_inj {a b : List UInt8} (h : mkS a = mkS b) : a = b := by
  have := congrArg (fun x : ByteArray => x.data.toList) h
  simpa [mkS] using this
theorem mkS_eq (a b : List UInt8) : (mkS a = mkS b) = (a = b) := propext ⟨mkS_inj, fun h => by rw [h]⟩
theorem mkS_size (l : List UInt8) : (mkS l).size = l.length := by simp [mkS, ByteArray.size]
theorem mkS_append (a b : List UInt8) : mkS a ++ mkS b = mkS (a ++ b) := by
  apply ByteArray.ext
  simp [mkS, ByteArray.data_append]
theorem mkS_extract (l : List UInt8) (i j : Nat) : (mkS l).extract i j = mkS ((l.drop i).take (j - i)) := by
  apply ByteArray.ext
  rw [ByteArray.data_extract]
  apply Array.ext'
  simp [mkS, Array.toList_extract, List.extract_eq_take_drop]
theorem mkS_toList (l : List UInt8) : (mkS l).toList = l := by rw [ByteArray.toList_eq]; rfl
theorem mkS_strAt (l : List UInt8) (i : Nat) : strAt (mkS l) i = ((l.getD i 0).toNat : Int) := by
  unfold strAt
  split
  · rename_i h
    rw [mkS_size] at h
    congr 2
    rw [getD_of_lt h]
    rfl
  · rename_i h
    rw [mkS_size] at h
    have : l.getD i 0 = 0 := by simp [List.getD, List.getElem?_eq_none (Nat.le_of_not_lt h)]
    rw [this]; rfl
theorem mkS_bytes (xs : List Int) : bytesS xs = mkS (xs.map fun n => UInt8.ofNat n.toNat) := rfl
abbrev T (l : List UInt8) : AV := .d .str (mkS l)
theorem ms_add (a b : List UInt8) : binStr .add (mkS a) (mkS b) = if ((a.length + b.length : Nat) : Int) > 9223372036854775807 then none else some (.d .str (mkS (a ++ b))) := by
  unfold binStr
  rw [mkS_size, mkS_size, mkS_append]; rfl
theorem beq_dec (a b : List UInt8) : (a == b) = decide (a = b) := by
  by_cases h : a = b <;> simp [h]
theorem ms_eql (a b : List UInt8) : binStr .eql (mkS a) (mkS b) = some (.d .bool (decide (a = b))) := by
  unfold binStr
  rw [mkS_toList, mkS_toList, ← beq_dec]
theorem ms_neq (a b : List UInt8) : binStr .neq (mkS a) (mkS b) = some (.d .bool (!decide (a = b))) := by
  unfold binStr
  rw [mkS_toList, mkS_toList, ← beq_dec]
theorem sub_zero' (n : Nat) : n - 0 = n := rfl
theorem cast_0 : ((0 : Nat) : Int) = 0 := rfl
theorem cast_1 : ((1 : Nat) : Int) = 1 := rfl
theorem cast_2 : ((2 : Nat) : Int) = 2 := rfl
theorem cast_3 : ((3 : Nat) : Int) = 3 := rfl
attribute [go_sem] cast_0 cast_1 cast_2 cast_3 mkS_of mkS_empty mkS_size mkS_append mkS_extract mkS_strAt mkS_bytes ms_add ms_eql ms_neq
end Go.Q
