/- Strings: letters that check a text. -/
import Derived.Test.YthhankjdpbbncaaPIProg
import Derived.Test.YthhankjdpbbncaaGQStr
namespace Go.Proofs.Ythhankjdpbbncaa.PI
open Go Go.Q
set_option maxRecDepth 100000
set_option maxHeartbeats 4000000
set_option linter.unusedSimpArgs false

def letN (a : Nat) (l : List UInt8) : Nat := l.foldl (fun a b => (31 * a + b.toNat) % 676) a
def letters (l : List UInt8) : List UInt8 := [UInt8.ofNat (97 + letN 1 l / 26), UInt8.ofNat (97 + letN 1 l % 26)]
theorem letN_lt (l : List UInt8) : ∀ a, a < 676 → letN a l < 676 := by
  induction l with
  | nil => exact fun a h => h
  | cons b l ih => exact fun a h => ih _ (Nat.mod_lt _ (by omega))
theorem tmod_nat (a b : Nat) : ((a : Int).tmod (b : Int)) = ((a % b : Nat) : Int) := by rfl
theorem tdiv_nat (a b : Nat) : ((a : Int).tdiv (b : Int)) = ((a / b : Nat) : Int) := by rfl
theorem byte_lt (b : UInt8) : b.toNat < 256 := UInt8.toNat_lt b
theorem let_step (a : Nat) (ha : a < 676) (b : UInt8) : IntKind.i64.wrap (31 * (a : Int)) = ((31 * a : Nat) : Int) ∧ IntKind.i64.wrap (b.toNat : Int) = (b.toNat : Int) ∧ IntKind.i64.wrap (((31 * a : Nat) : Int) + (b.toNat : Int)) = ((31 * a + b.toNat : Nat) : Int) ∧ ((31 * a + b.toNat : Nat) : Int).tmod 676 = ((((31 * a + b.toNat) % 676 : Nat)) : Int) := by
  have := byte_lt b
  refine ⟨?_, ?_, ?_, rfl⟩ <;> rw [wrap_i] <;> omega
theorem let_out (a : Nat) (ha : a < 676) : (a : Int).tdiv 26 = ((a / 26 : Nat) : Int) ∧ (a : Int).tmod 26 = ((a % 26 : Nat) : Int) ∧ IntKind.i64.wrap ((a / 26 : Nat) : Int) = ((a / 26 : Nat) : Int) ∧ IntKind.i64.wrap (97 + ((a / 26 : Nat) : Int)) = ((97 + a / 26 : Nat) : Int) ∧ IntKind.i64.wrap (97 + ((a % 26 : Nat) : Int)) = ((97 + a % 26 : Nat) : Int) ∧ IntKind.u8.wrap ((97 + a / 26 : Nat) : Int) = ((97 + a / 26 : Nat) : Int) ∧ IntKind.u8.wrap ((97 + a % 26 : Nat) : Int) = ((97 + a % 26 : Nat) : Int) := by
  have h1 : a / 26 < 26 := by omega
  have h2 : a % 26 < 26 := Nat.mod_lt _ (by omega)
  refine ⟨rfl, rfl, ?_, ?_, ?_, ?_, ?_⟩
  · rw [wrap_i] <;> omega
  · rw [wrap_i] <;> omega
  · rw [wrap_i] <;> omega
  · simp [IntKind.wrap, IntKind.signed, IntKind.bits]; omega
  · simp [IntKind.wrap, IntKind.signed, IntKind.bits]; omega

theorem loop_42 (l : List UInt8) (hl : l.length < 1000000000) : ∀ (suf pre : List UInt8) (a : Nat), l = pre ++ suf → a < 676 →
    loopOf pr 90 0 ⟨[(0, T l), (3, I a), (4, I pre.length)], []⟩ = some (.exit 0, ⟨[(0, T l), (3, I (letN a suf)), (4, I l.length)], []⟩)
  | [], pre, a, h, _ => by
    have hp : l.length = pre.length := by rw [h]; simp
    rw [loop_eq pr 90 0 _ Try.f90 fn_90 _ rfl _ ann_90 _ rfl]
    simp -implicitDefEqProofs only [hp, Int.lt_irrefl, go_sem, Nat.reduceAdd, Nat.reduceSub, Nat.reduceMul, Nat.reduceMod, Nat.reduceLT, Nat.reduceLeDiff, Nat.reduceEqDiff, Nat.reduceBEq, Nat.reduceDiv, Int.reduceLT, Int.reduceLE, Int.reduceToNat, Int.reduceNeg, Int.reduceEq, ↓reduceIte, reduceCtorEq, ↓reduceDIte]
    rfl
  | b :: suf, pre, a, h, ha => by
    have hp : l.length = pre.length + (suf.length + 1) := by rw [h]; simp
    have hlt : pre.length < l.length := by omega
    have hg : l.getD pre.length 0 = b := by rw [h]; simp
    obtain ⟨h1, h2, h3, h4⟩ := let_step a ha b
    have ih := loop_42 l hl suf (pre ++ [b]) ((31 * a + b.toNat) % 676) (by rw [h]; simp) (Nat.mod_lt _ (by omega))
    have e1 : (pre ++ [b]).length = pre.length + 1 := by simp
    rw [e1] at ih
    rw [loop_eq pr 90 0 _ Try.f90 fn_90 _ rfl _ ann_90 _ rfl]
    simp -implicitDefEqProofs only [lt_cast hlt, zero_le_cast, Int.toNat_natCast, hg, wrap_succ hlt (show l.length < 1000000000000000000 by omega), h1, h2, h3, h4, Int.reduceEq, go_sem, Nat.reduceAdd, Nat.reduceSub, Nat.reduceMul, Nat.reduceMod, Nat.reduceLT, Nat.reduceLeDiff, Nat.reduceEqDiff, Nat.reduceBEq, Nat.reduceDiv, Int.reduceLT, Int.reduceLE, Int.reduceToNat, Int.reduceNeg, Int.reduceEq, ↓reduceIte, reduceCtorEq, ↓reduceDIte]
    exact ih
theorem call_42 (l : List UInt8) (hl : l.length < 1000000000) : callOf pr 90 [T l] [] = some (T (letters l), []) := by
  have h := loop_42 l hl l [] 1 rfl (by omega)
  have h : loopOf pr 90 0 ⟨[(0, T l), (3, I 1), (4, I 0)], []⟩ = _ := h
  obtain ⟨h1, h2, h3, h4, h5, h6, h7⟩ := let_out (letN 1 l) (letN_lt l 1 (by omega))
  rw [call_eq pr 90 _ _ Try.f90 fn_90 _ rfl _ ann_90 rfl]
  simp -implicitDefEqProofs only [h, h1, h2, h3, h4, h5, h6, h7, Int.reduceEq, Int.toNat_natCast, go_sem, Nat.reduceAdd, Nat.reduceSub, Nat.reduceMul, Nat.reduceMod, Nat.reduceLT, Nat.reduceLeDiff, Nat.reduceEqDiff, Nat.reduceBEq, Nat.reduceDiv, Int.reduceLT, Int.reduceLE, Int.reduceToNat, Int.reduceNeg, Int.reduceEq, ↓reduceIte, reduceCtorEq, ↓reduceDIte]
  rfl
theorem loop_44 (l : List UInt8) (hl : l.length < 1000000000) : ∀ (suf pre : List UInt8) (a : Nat), l = pre ++ suf → a < 676 →
    loopOf pr 50 0 ⟨[(0, T l), (3, I a), (6, I l.length), (7, I pre.length)], []⟩ = some (.exit 0, ⟨[(0, T l), (3, I (letN a suf)), (6, I l.length), (7, I l.length)], []⟩)
  | [], pre, a, h, _ => by
    have hp : l.length = pre.length := by rw [h]; simp
    rw [loop_eq pr 50 0 _ Try.f50 fn_50 _ rfl _ ann_50 _ rfl]
    simp -implicitDefEqProofs only [hp, Int.lt_irrefl, go_sem, Nat.reduceAdd, Nat.reduceSub, Nat.reduceMul, Nat.reduceMod, Nat.reduceLT, Nat.reduceLeDiff, Nat.reduceEqDiff, Nat.reduceBEq, Nat.reduceDiv, Int.reduceLT, Int.reduceLE, Int.reduceToNat, Int.reduceNeg, Int.reduceEq, ↓reduceIte, reduceCtorEq, ↓reduceDIte]
    rfl
  | b :: suf, pre, a, h, ha => by
    have hp : l.length = pre.length + (suf.length + 1) := by rw [h]; simp
    have hlt : pre.length < l.length := by omega
    have hg : l.getD pre.length 0 = b := by rw [h]; simp
    obtain ⟨h1, h2, h3, h4⟩ := let_step a ha b
    have ih := loop_44 l hl suf (pre ++ [b]) ((31 * a + b.toNat) % 676) (by rw [h]; simp) (Nat.mod_lt _ (by omega))
    have e1 : (pre ++ [b]).length = pre.length + 1 := by simp
    rw [e1] at ih
    rw [loop_eq pr 50 0 _ Try.f50 fn_50 _ rfl _ ann_50 _ rfl]
    simp -implicitDefEqProofs only [lt_cast hlt, zero_le_cast, Int.toNat_natCast, hg, wrap_succ hlt (show l.length < 1000000000000000000 by omega), h1, h2, h3, h4, Int.reduceEq, go_sem, Nat.reduceAdd, Nat.reduceSub, Nat.reduceMul, Nat.reduceMod, Nat.reduceLT, Nat.reduceLeDiff, Nat.reduceEqDiff, Nat.reduceBEq, Nat.reduceDiv, Int.reduceLT, Int.reduceLE, Int.reduceToNat, Int.reduceNeg, Int.reduceEq, ↓reduceIte, reduceCtorEq, ↓reduceDIte]
    exact ih
theorem call_44 (l : List UInt8) (hl : l.length < 1000000000) : callOf pr 50 [T l] [] = some (T (letters l), []) := by
  have h := loop_44 l hl l [] 1 rfl (by omega)
  have h : loopOf pr 50 0 ⟨[(0, T l), (3, I 1), (6, I l.length), (7, I 0)], []⟩ = _ := h
  obtain ⟨h1, h2, h3, h4, h5, h6, h7⟩ := let_out (letN 1 l) (letN_lt l 1 (by omega))
  rw [call_eq pr 50 _ _ Try.f50 fn_50 _ rfl _ ann_50 rfl]
  simp -implicitDefEqProofs only [h, h1, h2, h3, h4, h5, h6, h7, Int.reduceEq, Int.toNat_natCast, go_sem, Nat.reduceAdd, Nat.reduceSub, Nat.reduceMul, Nat.reduceMod, Nat.reduceLT, Nat.reduceLeDiff, Nat.reduceEqDiff, Nat.reduceBEq, Nat.reduceDiv, Int.reduceLT, Int.reduceLE, Int.reduceToNat, Int.reduceNeg, Int.reduceEq, ↓reduceIte, reduceCtorEq, ↓reduceDIte]
  rfl
end Go.Proofs.Ythhankjdpbbncaa.PI
