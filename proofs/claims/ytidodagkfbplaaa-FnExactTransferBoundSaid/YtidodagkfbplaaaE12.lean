/- The outputs: the reference's and the program's. -/
import Derived.Test.YtidodagkfbplaaaE11
namespace Go.Proofs.Ytidodagkfbplaaa.PI
open Go Go.Q
set_option maxRecDepth 100000
set_option maxHeartbeats 4000000
set_option linter.unusedSimpArgs false

theorem loop_56i (xs : List (List Int)) (hn : xs.length ≤ 6) (i : Nat) (hi : i < xs.length) (hv : ∀ x ∈ xs.getD i [], 0 ≤ x ∧ x < 6) (hb : (xs.getD i []).length < 1000000000000000000) : ∀ (rest pre : List Int) (f : Nat → Bool), xs.getD i [] = pre ++ rest →
    loopOf pr 56 1 ⟨[(0, .rp [LL xs]), (3, I (maskB f xs.length)), (4, I i), (5, I pre.length)], []⟩ = some (.exit 2, ⟨[(0, .rp [LL xs]), (3, I (maskB (fun k => f k && !(rest.any fun x => decide ((k : Int) = x))) xs.length)), (4, I i), (5, I ((pre.length + rest.length : Nat) : Int))], []⟩)
  | [], pre, f, h => by
    have hl : (xs.getD i []).length = pre.length := by rw [h]; simp
    rw [loop_eq pr 56 1 _ Try.f56 fn_56 _ rfl _ ann_56 _ rfl]
    simp -implicitDefEqProofs only [lt_cast hi, zero_le_cast, Int.toNat_natCast, hl, Int.lt_irrefl, go_sem, Nat.reduceAdd, Nat.reduceSub, Nat.reduceMul, Nat.reduceMod, Nat.reduceLT, Nat.reduceLeDiff, Nat.reduceEqDiff, Nat.reduceBEq, Nat.reduceDiv, Int.reduceLT, Int.reduceLE, Int.reduceToNat, Int.reduceNeg, Int.reduceEq, ↓reduceIte, reduceCtorEq, ↓reduceDIte, Bool.false_eq_true, Bool.true_eq_false, ne_eq, not_true_eq_false, not_false_eq_true, Bool.true_or, Bool.false_or, Bool.or_true, Bool.or_false, Bool.true_and, Bool.false_and, Bool.and_true, Bool.and_false, Bool.not_true, Bool.not_false, Bool.not_eq_false', Bool.not_eq_true', and_true, true_and, and_false, false_and, or_true, true_or, or_false, false_or, and_self, or_self, decide_eq_true_eq, decide_true, decide_false, decide_eq_false_iff_not, ite_not, if_true, if_false, eq_self]
    simp
  | x :: rest, pre, f, h => by
    have hl : (xs.getD i []).length = pre.length + (rest.length + 1) := by rw [h]; simp
    have hlt : pre.length < (xs.getD i []).length := by omega
    have hx := hv x (by rw [h]; simp)
    obtain ⟨y, rfl⟩ : ∃ y : Nat, x = (y : Int) := ⟨x.toNat, by omega⟩
    have hy : y < 6 := by omega
    have hg : (xs.getD i []).getD pre.length 0 = (y : Int) := by rw [h]; simp
    have ih := loop_56i xs hn i hi hv hb rest (pre ++ [(y : Int)]) (fun k => f k && !(k == y)) (by rw [h]; simp)
    have e1 : (pre ++ [(y : Int)]).length = pre.length + 1 := by simp
    have e2 : pre.length + 1 + rest.length = pre.length + (rest.length + 1) := by omega
    have e3 : maskB (fun k => (f k && !(k == y)) && !(rest.any fun x => decide ((k : Int) = x))) xs.length = maskB (fun k => f k && !(((y : Int) :: rest).any fun x => decide ((k : Int) = x))) xs.length := by
      apply maskB_congr
      intro k _
      rw [List.any_cons, Bool.not_or, ← Bool.and_assoc]
      congr 2
      congr 1
      by_cases e : k = y
      · subst e; simp
      · have : ¬ (k : Int) = (y : Int) := by omega
        simp [e, this]
    rw [e1, e2, e3] at ih
    have hout := mask_out (f := f) (n := xs.length) (x := y) (by omega) (by omega)
    rw [loop_eq pr 56 1 _ Try.f56 fn_56 _ rfl _ ann_56 _ rfl]
    simp -implicitDefEqProofs only [lt_cast hi, lt_cast hlt, zero_le_cast, Int.toNat_natCast, hg, wrap_succ hlt hb, u64_small (show y < 1000000000000000000 by omega), cast_neg, min_64 (show y < 64 by omega), i64_pow (show y < 62 by omega), hout, IntKind.bits, go_sem, Nat.reduceAdd, Nat.reduceSub, Nat.reduceMul, Nat.reduceMod, Nat.reduceLT, Nat.reduceLeDiff, Nat.reduceEqDiff, Nat.reduceBEq, Nat.reduceDiv, Int.reduceLT, Int.reduceLE, Int.reduceToNat, Int.reduceNeg, Int.reduceEq, ↓reduceIte, reduceCtorEq, ↓reduceDIte, Bool.false_eq_true, Bool.true_eq_false, ne_eq, not_true_eq_false, not_false_eq_true, Bool.true_or, Bool.false_or, Bool.or_true, Bool.or_false, Bool.true_and, Bool.false_and, Bool.and_true, Bool.and_false, Bool.not_true, Bool.not_false, Bool.not_eq_false', Bool.not_eq_true', and_true, true_and, and_false, false_and, or_true, true_or, or_false, false_or, and_self, or_self, decide_eq_true_eq, decide_true, decide_false, decide_eq_false_iff_not, ite_not, if_true, if_false, eq_self]
    exact ih

theorem loop_56 (xs : List (List Int)) (hn : xs.length ≤ 6) (hv : ∀ l ∈ xs, ∀ x ∈ l, 0 ≤ x ∧ x < 6) (hc : ∀ l ∈ xs, l.length < 1000000000000000000) : ∀ (suf pre : List (List Int)) (f : Nat → Bool), xs = pre ++ suf →
    loopOf pr 56 0 ⟨[(0, .rp [LL xs]), (3, I (maskB f xs.length)), (4, I pre.length)], []⟩ = some (.exit 0, ⟨[(0, .rp [LL xs]), (3, I (maskB (fun k => f k && !(suf.any fun l => l.any fun x => decide ((k : Int) = x))) xs.length)), (4, I xs.length)], []⟩)
  | [], pre, f, h => by
    have hl : xs.length = pre.length := by rw [h]; simp
    rw [loop_eq pr 56 0 _ Try.f56 fn_56 _ rfl _ ann_56 _ rfl]
    simp -implicitDefEqProofs only [hl, Int.lt_irrefl, go_sem, Nat.reduceAdd, Nat.reduceSub, Nat.reduceMul, Nat.reduceMod, Nat.reduceLT, Nat.reduceLeDiff, Nat.reduceEqDiff, Nat.reduceBEq, Nat.reduceDiv, Int.reduceLT, Int.reduceLE, Int.reduceToNat, Int.reduceNeg, Int.reduceEq, ↓reduceIte, reduceCtorEq, ↓reduceDIte, Bool.false_eq_true, Bool.true_eq_false, ne_eq, not_true_eq_false, not_false_eq_true, Bool.true_or, Bool.false_or, Bool.or_true, Bool.or_false, Bool.true_and, Bool.false_and, Bool.and_true, Bool.and_false, Bool.not_true, Bool.not_false, Bool.not_eq_false', Bool.not_eq_true', and_true, true_and, and_false, false_and, or_true, true_or, or_false, false_or, and_self, or_self, decide_eq_true_eq, decide_true, decide_false, decide_eq_false_iff_not, ite_not, if_true, if_false, eq_self]
    simp
  | l :: suf, pre, f, h => by
    have hl : xs.length = pre.length + (suf.length + 1) := by rw [h]; simp
    have hlt : pre.length < xs.length := by omega
    have hb : xs.length < 1000000000000000000 := by omega
    have hg : xs.getD pre.length [] = l := by rw [h]; simp
    have hm : l ∈ xs := by rw [h]; simp
    have ih := loop_56 xs hn hv hc suf (pre ++ [l]) (fun k => f k && !(l.any fun x => decide ((k : Int) = x))) (by rw [h]; simp)
    have e1 : (pre ++ [l]).length = pre.length + 1 := by simp
    have e3 : maskB (fun k => (f k && !(l.any fun x => decide ((k : Int) = x))) && !(suf.any fun l => l.any fun x => decide ((k : Int) = x))) xs.length = maskB (fun k => f k && !((l :: suf).any fun l => l.any fun x => decide ((k : Int) = x))) xs.length := by
      apply maskB_congr
      intro k _
      rw [List.any_cons, Bool.not_or, ← Bool.and_assoc]
    rw [e1, e3] at ih
    have hin := loop_56i xs hn pre.length hlt (by rw [hg]; exact hv l hm) (by rw [hg]; exact hc l hm) l [] f (by rw [hg]; rfl)
    have hin : loopOf pr 56 1 ⟨[(0, .rp [LL xs]), (3, I (maskB f xs.length)), (4, I pre.length), (5, I 0)], []⟩ = _ := hin
    rw [loop_eq pr 56 0 _ Try.f56 fn_56 _ rfl _ ann_56 _ rfl]
    simp -implicitDefEqProofs only [lt_cast hlt, zero_le_cast, Int.toNat_natCast, wrap_succ hlt hb, hin, go_sem, Nat.reduceAdd, Nat.reduceSub, Nat.reduceMul, Nat.reduceMod, Nat.reduceLT, Nat.reduceLeDiff, Nat.reduceEqDiff, Nat.reduceBEq, Nat.reduceDiv, Int.reduceLT, Int.reduceLE, Int.reduceToNat, Int.reduceNeg, Int.reduceEq, ↓reduceIte, reduceCtorEq, ↓reduceDIte, Bool.false_eq_true, Bool.true_eq_false, ne_eq, not_true_eq_false, not_false_eq_true, Bool.true_or, Bool.false_or, Bool.or_true, Bool.or_false, Bool.true_and, Bool.false_and, Bool.and_true, Bool.and_false, Bool.not_true, Bool.not_false, Bool.not_eq_false', Bool.not_eq_true', and_true, true_and, and_false, false_and, or_true, true_or, or_false, false_or, and_self, or_self, decide_eq_true_eq, decide_true, decide_false, decide_eq_false_iff_not, ite_not, if_true, if_false, eq_self]
    exact ih

/-- Does nobody use a node? -/
def isOut (xs : List (List Int)) (k : Nat) : Bool := !(xs.any fun l => l.any fun x => decide ((k : Int) = x))
theorem call_56 (xs : List (List Int)) (hn : xs.length ≤ 6) (hv : ∀ l ∈ xs, ∀ x ∈ l, 0 ≤ x ∧ x < 6) (hc : ∀ l ∈ xs, l.length < 1000000000000000000) : callOf pr 56 [.rp [LL xs]] [] = some (I (maskB (isOut xs) xs.length), []) := by
  have h := loop_56 xs hn hv hc xs [] (fun _ => true) rfl
  have h2 : (2 : Nat) ^ xs.length ≤ 2 ^ 6 := Nat.pow_le_pow_right (by omega) hn
  have h1 : 1 ≤ (2 : Nat) ^ xs.length := Nat.one_le_two_pow
  have hw : IntKind.i64.wrap (((2 ^ xs.length : Nat) : Int) - 1) = ((2 ^ xs.length - 1 : Nat) : Int) := by rw [wrap_i] <;> omega
  rw [mask_full] at h
  have h : loopOf pr 56 0 ⟨[(0, .rp [LL xs]), (3, I ((2 ^ xs.length - 1 : Nat) : Int)), (4, I 0)], []⟩ = _ := h
  simp only [Bool.true_and] at h
  rw [call_eq pr 56 _ _ Try.f56 fn_56 _ rfl _ ann_56 rfl]
  simp -implicitDefEqProofs only [u64_small (show xs.length < 1000000000000000000 by omega), cast_neg, Int.toNat_natCast, min_64 (show xs.length < 64 by omega), i64_pow (show xs.length < 62 by omega), hw, h, IntKind.bits, go_sem, Nat.reduceAdd, Nat.reduceSub, Nat.reduceMul, Nat.reduceMod, Nat.reduceLT, Nat.reduceLeDiff, Nat.reduceEqDiff, Nat.reduceBEq, Nat.reduceDiv, Int.reduceLT, Int.reduceLE, Int.reduceToNat, Int.reduceNeg, Int.reduceEq, ↓reduceIte, reduceCtorEq, ↓reduceDIte, Bool.false_eq_true, Bool.true_eq_false, ne_eq, not_true_eq_false, not_false_eq_true, Bool.true_or, Bool.false_or, Bool.or_true, Bool.or_false, Bool.true_and, Bool.false_and, Bool.and_true, Bool.and_false, Bool.not_true, Bool.not_false, Bool.not_eq_false', Bool.not_eq_true', and_true, true_and, and_false, false_and, or_true, true_or, or_false, false_or, and_self, or_self, decide_eq_true_eq, decide_true, decide_false, decide_eq_false_iff_not, ite_not, if_true, if_false, eq_self]
  rfl
end Go.Proofs.Ytidodagkfbplaaa.PI
