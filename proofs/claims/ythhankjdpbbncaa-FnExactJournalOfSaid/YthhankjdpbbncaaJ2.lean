/- Journals: where a byte is; the builder; the reference. -/
import Derived.Test.YthhankjdpbbncaaJ1
namespace Go.Proofs.Ythhankjdpbbncaa.PI
open Go Go.Q
set_option maxRecDepth 100000
set_option maxHeartbeats 4000000
set_option linter.unusedSimpArgs false

theorem call_ib (l : List UInt8) (c : Int) : callOf pr 131 [T l, .d (.int .u8) c] [] = some (I (Lib.indexByte l c.toNat.toUInt8), []) := by
  rw [given_eq _ _ _ _ rfl]
  rfl
theorem call_ix (l : List UInt8) (c : UInt8) : callOf pr 121 [T l, T [c]] [] = some (I (Lib.indexByte l c), []) := by
  have h85 := call_ib l (c.toNat : Int)
  have hc : ((c.toNat : Int)).toNat.toUInt8 = c := by simp
  rw [hc] at h85
  rw [call_eq pr 121 _ _ Try.f121 fn_121 _ rfl _ ann_121 rfl]
  by_cases he : [c] = l
  · subst he
    have : Lib.indexByte [c] c = 0 := by simp [Lib.indexByte]
    simp -implicitDefEqProofs only [this, decide_true, go_sem, Nat.reduceAdd, Nat.reduceSub, Nat.reduceMul, Nat.reduceMod, Nat.reduceLT, Nat.reduceLeDiff, Nat.reduceEqDiff, Nat.reduceBEq, Nat.reduceDiv, Int.reduceLT, Int.reduceLE, Int.reduceToNat, Int.reduceNeg, Int.reduceEq, ↓reduceIte, reduceCtorEq, ↓reduceDIte]
  · have he' : decide ([c] = l) = false := by simp [he]
    simp -implicitDefEqProofs only [he', h85, List.getD_cons_zero, go_sem, Nat.reduceAdd, Nat.reduceSub, Nat.reduceMul, Nat.reduceMod, Nat.reduceLT, Nat.reduceLeDiff, Nat.reduceEqDiff, Nat.reduceBEq, Nat.reduceDiv, Int.reduceLT, Int.reduceLE, Int.reduceToNat, Int.reduceNeg, Int.reduceEq, ↓reduceIte, reduceCtorEq, ↓reduceDIte]
theorem call_six (l : List UInt8) (c : UInt8) : callOf pr 92 [T l, T [c]] [] = some (I (Lib.indexByte l c), []) := by
  have h := call_ix l c
  rw [call_eq pr 92 _ _ Try.f92 fn_92 _ rfl _ ann_92 rfl]
  simp -implicitDefEqProofs only [h, go_sem, Nat.reduceAdd, Nat.reduceSub, Nat.reduceMul, Nat.reduceMod, Nat.reduceLT, Nat.reduceLeDiff, Nat.reduceEqDiff, Nat.reduceBEq, Nat.reduceDiv, Int.reduceLT, Int.reduceLE, Int.reduceToNat, Int.reduceNeg, Int.reduceEq, ↓reduceIte, reduceCtorEq, ↓reduceDIte]
theorem indexByte_mem (c : UInt8) : ∀ l : List UInt8, (0 ≤ Lib.indexByte l c ↔ c ∈ l)
  | [] => by simp [Lib.indexByte]
  | b :: l => by
    have ih := indexByte_mem c l
    by_cases hb : b = c
    · subst hb; simp [Lib.indexByte]
    · have hb' : (b == c) = false := by simp [hb]
      have hb2 : ¬ c = b := fun e => hb e.symm
      have hm : (c ∈ b :: l) ↔ c ∈ l := by simp [hb2]
      rw [hm, ← ih]
      simp only [Lib.indexByte, hb']
      by_cases hm1 : Lib.indexByte l c = -1
      · simp [hm1]
      · have : ((Lib.indexByte l c) == -1) = false := by simp [hm1]
        simp only [this]
        constructor
        · intro h
          simp at h
          by_cases h0 : 0 ≤ Lib.indexByte l c
          · exact h0
          · exfalso
            omega
        · intro h; simp; omega
theorem call_has (l : List UInt8) (c : UInt8) : callOf pr 52 [T l, T [c]] [] = some (B (decide (c ∈ l)), []) := by
  have h := call_six l c
  have hc : decide (0 ≤ Lib.indexByte l c) = decide (c ∈ l) := by simp only [indexByte_mem]
  rw [call_eq pr 52 _ _ Try.f52 fn_52 _ rfl _ ann_52 rfl]
  simp -implicitDefEqProofs only [h, ge_iff_le, go_sem, Nat.reduceAdd, Nat.reduceSub, Nat.reduceMul, Nat.reduceMod, Nat.reduceLT, Nat.reduceLeDiff, Nat.reduceEqDiff, Nat.reduceBEq, Nat.reduceDiv, Int.reduceLT, Int.reduceLE, Int.reduceToNat, Int.reduceNeg, Int.reduceEq, ↓reduceIte, reduceCtorEq, ↓reduceDIte]
  rw [hc]
theorem call_ws (s x : List UInt8) (hx : x.length ≠ 0) (hl : s.length + x.length ≤ 140737488355328) : callOf pr 51 [.op 1000000 0, T x] [(1000000, .bld false 71 5 (mkS s))] = some (.tuple [I x.length, .d .err false], [(1000000, .bld false 71 5 (mkS (s ++ x)))]) := by
  rw [given_eq _ _ _ _ rfl, show ∀ vs h, pr.given 51 vs h = wsV 71 5 vs h from fun _ _ => rfl]
  simp only [wsV, onBld, wsF, mkS_size, hx, hl, ne_eq, not_false_eq_true, and_self, if_true, Option.map_some, mkS_append]
theorem call_bl (s : List UInt8) : callOf pr 53 [.op 1000000 0] [(1000000, .bld false 71 5 (mkS s))] = some (I s.length, [(1000000, .bld false 71 5 (mkS s))]) := by
  rw [given_eq _ _ _ _ rfl, show ∀ vs h, pr.given 53 vs h = lenBV 71 5 vs h from fun _ _ => rfl]
  simp only [lenBV, onBld, lenF, mkS_size, and_self, if_true, Option.map_some]
theorem call_bs (s : List UInt8) : callOf pr 54 [.op 1000000 0] [(1000000, .bld false 71 5 (mkS s))] = some (T s, [(1000000, .bld true 71 5 (mkS s))]) := by
  rw [given_eq _ _ _ _ rfl, show ∀ vs h, pr.given 54 vs h = strV 71 5 vs h from fun _ _ => rfl]
  simp only [strV, onBld, strF, and_self, if_true, Option.map_some]

/-- What a line gives. -/
def entry (prev x : List UInt8) : List UInt8 := letters (prev ++ x) ++ [32] ++ x ++ [10]
/-- The journal of lines behind what there is. -/
def jrun : List UInt8 → List UInt8 → List (List UInt8) → Option (List UInt8)
  | _, out, [] => some out
  | prev, out, x :: xs => if 10 ∈ x ∨ 4000 < (out ++ entry prev x).length then none else jrun (letters (prev ++ x)) (out ++ entry prev x) xs
theorem entry_length (prev x : List UInt8) : (entry prev x).length = x.length + 4 := by simp [entry, letters]
end Go.Proofs.Ythhankjdpbbncaa.PI
