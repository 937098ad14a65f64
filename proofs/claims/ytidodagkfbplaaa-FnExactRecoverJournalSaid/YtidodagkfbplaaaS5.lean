/- Strings: what is marked, held and compared; the law. -/
import Derived.Test.YtidodagkfbplaaaS4
namespace Go.Proofs.Ytidodagkfbplaaa.PI
open Go Go.Q
set_option maxRecDepth 100000
set_option maxHeartbeats 4000000
set_option linter.unusedSimpArgs false

/-- A mark's digits. -/
def digs : Nat → Nat → List UInt8 → List UInt8
  | 0, _, s => s
  | f + 1, n, s => if n = 0 then s else digs f (n / 10) (UInt8.ofNat (48 + n % 10) :: s)
def mtxt (n : Nat) : List UInt8 := if n = 0 then [109, 48] else 109 :: digs 40 n []
theorem digs_len : ∀ (f n : Nat) (s : List UInt8), (digs f n s).length ≤ f + s.length
  | 0, _, s => by simp [digs]
  | f + 1, n, s => by
    simp only [digs]
    split
    · omega
    · have := digs_len f (n / 10) (UInt8.ofNat (48 + n % 10) :: s)
      simp only [List.length_cons] at this
      omega
theorem loop_45 : ∀ (f n : Nat) (s : List UInt8), n < 10 ^ f → n < 1000000000000 → s.length + f < 1000 →
    loopOf pr 45 0 ⟨[(0, I n), (3, T s)], []⟩ = some (.exit 0, ⟨[(0, I 0), (3, T (digs f n s))], []⟩)
  | 0, n, s, h, _, _ => by
    have : n = 0 := by simpa using h
    subst this
    rw [loop_eq pr 45 0 _ Try.f45 fn_45 _ rfl _ ann_45 _ rfl]
    simp -implicitDefEqProofs only [Int.lt_irrefl, go_sem, Nat.reduceAdd, Nat.reduceSub, Nat.reduceMul, Nat.reduceMod, Nat.reduceLT, Nat.reduceLeDiff, Nat.reduceEqDiff, Nat.reduceBEq, Nat.reduceDiv, Int.reduceLT, Int.reduceLE, Int.reduceToNat, Int.reduceNeg, Int.reduceEq, ↓reduceIte, reduceCtorEq, ↓reduceDIte, Bool.false_eq_true, Bool.true_eq_false, ne_eq, not_true_eq_false, not_false_eq_true, Bool.true_or, Bool.false_or, Bool.or_true, Bool.or_false, Bool.true_and, Bool.false_and, Bool.and_true, Bool.and_false, Bool.not_true, Bool.not_false, Bool.not_eq_false', Bool.not_eq_true', and_true, true_and, and_false, false_and, or_true, true_or, or_false, false_or, and_self, or_self, decide_eq_true_eq, decide_true, decide_false, decide_eq_false_iff_not, ite_not, if_true, if_false, eq_self]
    rfl
  | f + 1, n, s, h, hn, hs => by
    rw [loop_eq pr 45 0 _ Try.f45 fn_45 _ rfl _ ann_45 _ rfl]
    by_cases h0 : n = 0
    · subst h0
      simp -implicitDefEqProofs only [Int.lt_irrefl, go_sem, Nat.reduceAdd, Nat.reduceSub, Nat.reduceMul, Nat.reduceMod, Nat.reduceLT, Nat.reduceLeDiff, Nat.reduceEqDiff, Nat.reduceBEq, Nat.reduceDiv, Int.reduceLT, Int.reduceLE, Int.reduceToNat, Int.reduceNeg, Int.reduceEq, ↓reduceIte, reduceCtorEq, ↓reduceDIte, Bool.false_eq_true, Bool.true_eq_false, ne_eq, not_true_eq_false, not_false_eq_true, Bool.true_or, Bool.false_or, Bool.or_true, Bool.or_false, Bool.true_and, Bool.false_and, Bool.and_true, Bool.and_false, Bool.not_true, Bool.not_false, Bool.not_eq_false', Bool.not_eq_true', and_true, true_and, and_false, false_and, or_true, true_or, or_false, false_or, and_self, or_self, decide_eq_true_eq, decide_true, decide_false, decide_eq_false_iff_not, ite_not, if_true, if_false, eq_self]
      simp [digs]
    · have hm : n % 10 < 10 := Nat.mod_lt _ (by omega)
      have h1 : (n : Int).tmod 10 = ((n % 10 : Nat) : Int) := rfl
      have h2 : (n : Int).tdiv 10 = ((n / 10 : Nat) : Int) := rfl
      have h3 : IntKind.i64.wrap (48 + ((n % 10 : Nat) : Int)) = ((48 + n % 10 : Nat) : Int) := by rw [wrap_i] <;> omega
      have h4 : IntKind.u8.wrap ((48 + n % 10 : Nat) : Int) = ((48 + n % 10 : Nat) : Int) := by
        simp [IntKind.wrap, IntKind.signed, IntKind.bits]; omega
      have h5 : IntKind.i64.wrap ((n / 10 : Nat) : Int) = ((n / 10 : Nat) : Int) := by rw [wrap_i] <;> omega
      have ih := loop_45 f (n / 10) (UInt8.ofNat (48 + n % 10) :: s) (by rw [Nat.pow_succ] at h; omega) (by omega) (by simp only [List.length_cons]; omega)
      have hsz : ¬ 9223372036854775807 < ((1 + s.length : Nat) : Int) := by omega
      simp -implicitDefEqProofs only [tr (show (0 : Int) < (n : Int) by omega), h1, h2, h3, h4, h5, Int.reduceEq, Int.toNat_natCast, gt_iff_lt, fa hsz, go_sem, Nat.reduceAdd, Nat.reduceSub, Nat.reduceMul, Nat.reduceMod, Nat.reduceLT, Nat.reduceLeDiff, Nat.reduceEqDiff, Nat.reduceBEq, Nat.reduceDiv, Int.reduceLT, Int.reduceLE, Int.reduceToNat, Int.reduceNeg, Int.reduceEq, ↓reduceIte, reduceCtorEq, ↓reduceDIte, Bool.false_eq_true, Bool.true_eq_false, ne_eq, not_true_eq_false, not_false_eq_true, Bool.true_or, Bool.false_or, Bool.or_true, Bool.or_false, Bool.true_and, Bool.false_and, Bool.and_true, Bool.and_false, Bool.not_true, Bool.not_false, Bool.not_eq_false', Bool.not_eq_true', and_true, true_and, and_false, false_and, or_true, true_or, or_false, false_or, and_self, or_self, decide_eq_true_eq, decide_true, decide_false, decide_eq_false_iff_not, ite_not, if_true, if_false, eq_self]
      rw [show digs (f + 1) n s = digs f (n / 10) (UInt8.ofNat (48 + n % 10) :: s) from by simp [digs, h0]]
      exact ih
theorem call_45 (n : Nat) (hn : n < 1000000000000) : callOf pr 45 [I n] [] = some (T (mtxt n), []) := by
  rw [call_eq pr 45 _ _ Try.f45 fn_45 _ rfl _ ann_45 rfl]
  by_cases h0 : n = 0
  · subst h0
    simp -implicitDefEqProofs only [Int.le_refl, go_sem, Nat.reduceAdd, Nat.reduceSub, Nat.reduceMul, Nat.reduceMod, Nat.reduceLT, Nat.reduceLeDiff, Nat.reduceEqDiff, Nat.reduceBEq, Nat.reduceDiv, Int.reduceLT, Int.reduceLE, Int.reduceToNat, Int.reduceNeg, Int.reduceEq, ↓reduceIte, reduceCtorEq, ↓reduceDIte, Bool.false_eq_true, Bool.true_eq_false, ne_eq, not_true_eq_false, not_false_eq_true, Bool.true_or, Bool.false_or, Bool.or_true, Bool.or_false, Bool.true_and, Bool.false_and, Bool.and_true, Bool.and_false, Bool.not_true, Bool.not_false, Bool.not_eq_false', Bool.not_eq_true', and_true, true_and, and_false, false_and, or_true, true_or, or_false, false_or, and_self, or_self, decide_eq_true_eq, decide_true, decide_false, decide_eq_false_iff_not, ite_not, if_true, if_false, eq_self]
    rfl
  · have h := loop_45 40 n [] (by have : (10 : Nat) ^ 12 ≤ 10 ^ 40 := Nat.pow_le_pow_right (by omega) (by omega)
                                  omega) hn (by simp)
    have hl := digs_len 40 n []
    have hsz : ¬ 9223372036854775807 < ((1 + (digs 40 n []).length : Nat) : Int) := by simp only [List.length_nil] at hl; omega
    simp -implicitDefEqProofs only [fa (show ¬ (n : Int) ≤ 0 by omega), h, gt_iff_lt, fa hsz, go_sem, Nat.reduceAdd, Nat.reduceSub, Nat.reduceMul, Nat.reduceMod, Nat.reduceLT, Nat.reduceLeDiff, Nat.reduceEqDiff, Nat.reduceBEq, Nat.reduceDiv, Int.reduceLT, Int.reduceLE, Int.reduceToNat, Int.reduceNeg, Int.reduceEq, ↓reduceIte, reduceCtorEq, ↓reduceDIte, Bool.false_eq_true, Bool.true_eq_false, ne_eq, not_true_eq_false, not_false_eq_true, Bool.true_or, Bool.false_or, Bool.or_true, Bool.or_false, Bool.true_and, Bool.false_and, Bool.and_true, Bool.and_false, Bool.not_true, Bool.not_false, Bool.not_eq_false', Bool.not_eq_true', and_true, true_and, and_false, false_and, or_true, true_or, or_false, false_or, and_self, or_self, decide_eq_true_eq, decide_true, decide_false, decide_eq_false_iff_not, ite_not, if_true, if_false, eq_self]
    rw [show mtxt n = 109 :: digs 40 n [] from by simp [mtxt, h0]]
def markT (m : Nat) : Nat → List (List UInt8)
  | 0 => []
  | n + 1 => mtxt m :: markT (m + 1) n
theorem loop_17 : ∀ (rest pre : List ByteArray) (m : Nat), m + rest.length < 1000000000 → pre.length + rest.length < 1000000000 →
    loopOf pr 17 0 ⟨[(0, .os (.t 1000000)), (1, I m), (5, I pre.length)], [(1000000, .arr false false .str (pre ++ rest))]⟩ = some (.exit 0, ⟨[(0, .os (.t 1000000)), (1, I ((m + rest.length : Nat) : Int)), (5, I ((pre.length + rest.length : Nat) : Int))], [(1000000, .arr false false .str (pre ++ (markT m rest.length).map mkS))]⟩)
  | [], pre, m, hm, hp => by
    rw [loop_eq pr 17 0 _ Try.f17 fn_17 _ rfl _ ann_17 _ rfl]
    have hl : (pre ++ []).length = pre.length := by simp
    simp -implicitDefEqProofs only [hl, Int.lt_irrefl, go_sem, Nat.reduceAdd, Nat.reduceSub, Nat.reduceMul, Nat.reduceMod, Nat.reduceLT, Nat.reduceLeDiff, Nat.reduceEqDiff, Nat.reduceBEq, Nat.reduceDiv, Int.reduceLT, Int.reduceLE, Int.reduceToNat, Int.reduceNeg, Int.reduceEq, ↓reduceIte, reduceCtorEq, ↓reduceDIte, Bool.false_eq_true, Bool.true_eq_false, ne_eq, not_true_eq_false, not_false_eq_true, Bool.true_or, Bool.false_or, Bool.or_true, Bool.or_false, Bool.true_and, Bool.false_and, Bool.and_true, Bool.and_false, Bool.not_true, Bool.not_false, Bool.not_eq_false', Bool.not_eq_true', and_true, true_and, and_false, false_and, or_true, true_or, or_false, false_or, and_self, or_self, decide_eq_true_eq, decide_true, decide_false, decide_eq_false_iff_not, ite_not, if_true, if_false, eq_self]
    simp [markT]
  | x :: rest, pre, m, hm, hp => by
    simp only [List.length_cons] at hm hp
    have hl : (pre ++ x :: rest).length = pre.length + (rest.length + 1) := by simp
    have hlt : pre.length < (pre ++ x :: rest).length := by rw [hl]; omega
    have ih := loop_17 rest (pre ++ [mkS (mtxt m)]) (m + 1) (by omega) (by simp; omega)
    have e1 : (pre ++ [mkS (mtxt m)]).length = pre.length + 1 := by simp
    have e2 : pre ++ [mkS (mtxt m)] ++ rest = pre ++ mkS (mtxt m) :: rest := by simp
    have e3 : pre ++ [mkS (mtxt m)] ++ (markT (m + 1) rest.length).map mkS = pre ++ (markT m (x :: rest).length).map mkS := by simp [markT]
    have e4 : m + 1 + rest.length = m + (x :: rest).length := by simp; omega
    have e5 : pre.length + 1 + rest.length = pre.length + (x :: rest).length := by simp; omega
    rw [e1, e2, e3, e4, e5] at ih
    have hset : (pre ++ x :: rest).set pre.length (mkS (mtxt m)) = pre ++ mkS (mtxt m) :: rest := by simp
    have hw1 : IntKind.i64.wrap ((m : Int) + 1) = ((m + 1 : Nat) : Int) := by rw [wrap_i] <;> omega
    have hw2 : IntKind.i64.wrap ((pre.length : Int) + 1) = ((pre.length + 1 : Nat) : Int) := by rw [wrap_i] <;> omega
    rw [loop_eq pr 17 0 _ Try.f17 fn_17 _ rfl _ ann_17 _ rfl]
    simp -implicitDefEqProofs only [lt_cast hlt, zero_le_cast, Int.toNat_natCast, call_45 m (by omega), hset, hw1, hw2, go_sem, Nat.reduceAdd, Nat.reduceSub, Nat.reduceMul, Nat.reduceMod, Nat.reduceLT, Nat.reduceLeDiff, Nat.reduceEqDiff, Nat.reduceBEq, Nat.reduceDiv, Int.reduceLT, Int.reduceLE, Int.reduceToNat, Int.reduceNeg, Int.reduceEq, ↓reduceIte, reduceCtorEq, ↓reduceDIte, Bool.false_eq_true, Bool.true_eq_false, ne_eq, not_true_eq_false, not_false_eq_true, Bool.true_or, Bool.false_or, Bool.or_true, Bool.or_false, Bool.true_and, Bool.false_and, Bool.and_true, Bool.and_false, Bool.not_true, Bool.not_false, Bool.not_eq_false', Bool.not_eq_true', and_true, true_and, and_false, false_and, or_true, true_or, or_false, false_or, and_self, or_self, decide_eq_true_eq, decide_true, decide_false, decide_eq_false_iff_not, ite_not, if_true, if_false, eq_self]
    exact ih
theorem call_17 (xs : List ByteArray) (hb : xs.length < 100000000) : callOf pr 17 [.os (.t 1000000), I 1] [(1000000, .arr false false .str xs)] = some (I ((1 + xs.length : Nat) : Int), [(1000000, .arr false false .str ((markT 1 xs.length).map mkS))]) := by
  have h := loop_17 xs [] 1 (by omega) (by simp; omega)
  simp only [List.nil_append, List.length_nil, Nat.zero_add] at h
  have h : loopOf pr 17 0 ⟨[(0, .os (.t 1000000)), (1, I 1), (5, I 0)], [(1000000, .arr false false .str xs)]⟩ = _ := h
  rw [call_eq pr 17 _ _ Try.f17 fn_17 _ rfl _ ann_17 rfl]
  simp -implicitDefEqProofs only [h, go_sem, Nat.reduceAdd, Nat.reduceSub, Nat.reduceMul, Nat.reduceMod, Nat.reduceLT, Nat.reduceLeDiff, Nat.reduceEqDiff, Nat.reduceBEq, Nat.reduceDiv, Int.reduceLT, Int.reduceLE, Int.reduceToNat, Int.reduceNeg, Int.reduceEq, ↓reduceIte, reduceCtorEq, ↓reduceDIte, Bool.false_eq_true, Bool.true_eq_false, ne_eq, not_true_eq_false, not_false_eq_true, Bool.true_or, Bool.false_or, Bool.or_true, Bool.or_false, Bool.true_and, Bool.false_and, Bool.and_true, Bool.and_false, Bool.not_true, Bool.not_false, Bool.not_eq_false', Bool.not_eq_true', and_true, true_and, and_false, false_and, or_true, true_or, or_false, false_or, and_self, or_self, decide_eq_true_eq, decide_true, decide_false, decide_eq_false_iff_not, ite_not, if_true, if_false, eq_self]
theorem call_17n : callOf pr 17 [.nilS, I 1] [] = some (I 1, []) := by
  have h : loopOf pr 17 0 ⟨[(0, .nilS), (1, I 1), (5, I 0)], []⟩ = some (.exit 0, ⟨[(0, .nilS), (1, I 1), (5, I 0)], []⟩) := by
    rw [loop_eq pr 17 0 _ Try.f17 fn_17 _ rfl _ ann_17 _ rfl]
    simp -implicitDefEqProofs only [Int.lt_irrefl, go_sem, Nat.reduceAdd, Nat.reduceSub, Nat.reduceMul, Nat.reduceMod, Nat.reduceLT, Nat.reduceLeDiff, Nat.reduceEqDiff, Nat.reduceBEq, Nat.reduceDiv, Int.reduceLT, Int.reduceLE, Int.reduceToNat, Int.reduceNeg, Int.reduceEq, ↓reduceIte, reduceCtorEq, ↓reduceDIte, Bool.false_eq_true, Bool.true_eq_false, ne_eq, not_true_eq_false, not_false_eq_true, Bool.true_or, Bool.false_or, Bool.or_true, Bool.or_false, Bool.true_and, Bool.false_and, Bool.and_true, Bool.and_false, Bool.not_true, Bool.not_false, Bool.not_eq_false', Bool.not_eq_true', and_true, true_and, and_false, false_and, or_true, true_or, or_false, false_or, and_self, or_self, decide_eq_true_eq, decide_true, decide_false, decide_eq_false_iff_not, ite_not, if_true, if_false, eq_self]
  rw [call_eq pr 17 _ _ Try.f17 fn_17 _ rfl _ ann_17 rfl]
  simp -implicitDefEqProofs only [h, go_sem, Nat.reduceAdd, Nat.reduceSub, Nat.reduceMul, Nat.reduceMod, Nat.reduceLT, Nat.reduceLeDiff, Nat.reduceEqDiff, Nat.reduceBEq, Nat.reduceDiv, Int.reduceLT, Int.reduceLE, Int.reduceToNat, Int.reduceNeg, Int.reduceEq, ↓reduceIte, reduceCtorEq, ↓reduceDIte, Bool.false_eq_true, Bool.true_eq_false, ne_eq, not_true_eq_false, not_false_eq_true, Bool.true_or, Bool.false_or, Bool.or_true, Bool.or_false, Bool.true_and, Bool.false_and, Bool.and_true, Bool.and_false, Bool.not_true, Bool.not_false, Bool.not_eq_false', Bool.not_eq_true', and_true, true_and, and_false, false_and, or_true, true_or, or_false, false_or, and_self, or_self, decide_eq_true_eq, decide_true, decide_false, decide_eq_false_iff_not, ite_not, if_true, if_false, eq_self]
theorem call_18n : callOf pr 18 [.nilS, I 1] [] = some (I 1, []) := by
  have h : loopOf pr 18 0 ⟨[(0, .nilS), (1, I 1), (5, I 0)], []⟩ = some (.exit 0, ⟨[(0, .nilS), (1, I 1), (5, I 0)], []⟩) := by
    rw [loop_eq pr 18 0 _ Try.f18 fn_18 _ rfl _ ann_18 _ rfl]
    simp -implicitDefEqProofs only [Int.lt_irrefl, go_sem, Nat.reduceAdd, Nat.reduceSub, Nat.reduceMul, Nat.reduceMod, Nat.reduceLT, Nat.reduceLeDiff, Nat.reduceEqDiff, Nat.reduceBEq, Nat.reduceDiv, Int.reduceLT, Int.reduceLE, Int.reduceToNat, Int.reduceNeg, Int.reduceEq, ↓reduceIte, reduceCtorEq, ↓reduceDIte, Bool.false_eq_true, Bool.true_eq_false, ne_eq, not_true_eq_false, not_false_eq_true, Bool.true_or, Bool.false_or, Bool.or_true, Bool.or_false, Bool.true_and, Bool.false_and, Bool.and_true, Bool.and_false, Bool.not_true, Bool.not_false, Bool.not_eq_false', Bool.not_eq_true', and_true, true_and, and_false, false_and, or_true, true_or, or_false, false_or, and_self, or_self, decide_eq_true_eq, decide_true, decide_false, decide_eq_false_iff_not, ite_not, if_true, if_false, eq_self]
  rw [call_eq pr 18 _ _ Try.f18 fn_18 _ rfl _ ann_18 rfl]
  simp -implicitDefEqProofs only [h, go_sem, Nat.reduceAdd, Nat.reduceSub, Nat.reduceMul, Nat.reduceMod, Nat.reduceLT, Nat.reduceLeDiff, Nat.reduceEqDiff, Nat.reduceBEq, Nat.reduceDiv, Int.reduceLT, Int.reduceLE, Int.reduceToNat, Int.reduceNeg, Int.reduceEq, ↓reduceIte, reduceCtorEq, ↓reduceDIte, Bool.false_eq_true, Bool.true_eq_false, ne_eq, not_true_eq_false, not_false_eq_true, Bool.true_or, Bool.false_or, Bool.or_true, Bool.or_false, Bool.true_and, Bool.false_and, Bool.and_true, Bool.and_false, Bool.not_true, Bool.not_false, Bool.not_eq_false', Bool.not_eq_true', and_true, true_and, and_false, false_and, or_true, true_or, or_false, false_or, and_self, or_self, decide_eq_true_eq, decide_true, decide_false, decide_eq_false_iff_not, ite_not, if_true, if_false, eq_self]
theorem call_16n : callOf pr 16 [.nilS, .nilS] [] = some (B true, []) := by
  have h : loopOf pr 16 0 ⟨[(0, .nilS), (1, .nilS), (5, I 0)], []⟩ = some (.exit 0, ⟨[(0, .nilS), (1, .nilS), (5, I 0)], []⟩) := by
    rw [loop_eq pr 16 0 _ Try.f16 fn_16 _ rfl _ ann_16 _ rfl]
    simp -implicitDefEqProofs only [Int.lt_irrefl, go_sem, Nat.reduceAdd, Nat.reduceSub, Nat.reduceMul, Nat.reduceMod, Nat.reduceLT, Nat.reduceLeDiff, Nat.reduceEqDiff, Nat.reduceBEq, Nat.reduceDiv, Int.reduceLT, Int.reduceLE, Int.reduceToNat, Int.reduceNeg, Int.reduceEq, ↓reduceIte, reduceCtorEq, ↓reduceDIte, Bool.false_eq_true, Bool.true_eq_false, ne_eq, not_true_eq_false, not_false_eq_true, Bool.true_or, Bool.false_or, Bool.or_true, Bool.or_false, Bool.true_and, Bool.false_and, Bool.and_true, Bool.and_false, Bool.not_true, Bool.not_false, Bool.not_eq_false', Bool.not_eq_true', and_true, true_and, and_false, false_and, or_true, true_or, or_false, false_or, and_self, or_self, decide_eq_true_eq, decide_true, decide_false, decide_eq_false_iff_not, ite_not, if_true, if_false, eq_self]
  rw [call_eq pr 16 _ _ Try.f16 fn_16 _ rfl _ ann_16 rfl]
  simp -implicitDefEqProofs only [h, go_sem, Nat.reduceAdd, Nat.reduceSub, Nat.reduceMul, Nat.reduceMod, Nat.reduceLT, Nat.reduceLeDiff, Nat.reduceEqDiff, Nat.reduceBEq, Nat.reduceDiv, Int.reduceLT, Int.reduceLE, Int.reduceToNat, Int.reduceNeg, Int.reduceEq, ↓reduceIte, reduceCtorEq, ↓reduceDIte, Bool.false_eq_true, Bool.true_eq_false, ne_eq, not_true_eq_false, not_false_eq_true, Bool.true_or, Bool.false_or, Bool.or_true, Bool.or_false, Bool.true_and, Bool.false_and, Bool.and_true, Bool.and_false, Bool.not_true, Bool.not_false, Bool.not_eq_false', Bool.not_eq_true', and_true, true_and, and_false, false_and, or_true, true_or, or_false, false_or, and_self, or_self, decide_eq_true_eq, decide_true, decide_false, decide_eq_false_iff_not, ite_not, if_true, if_false, eq_self]
theorem loop_18 (full : List ByteArray) (hb : full.length < 1000000000) : ∀ (n m : Nat) (pre : List ByteArray), full = pre ++ (markT m n).map mkS → m + n < 1000000000 →
    loopOf pr 18 0 ⟨[(0, .d (.slice .str) full), (1, I m), (5, I pre.length)], []⟩ = some (.exit 0, ⟨[(0, .d (.slice .str) full), (1, I ((m + n : Nat) : Int)), (5, I full.length)], []⟩)
  | 0, m, pre, h, hm => by
    have hl : full.length = pre.length := by rw [h]; simp [markT]
    rw [loop_eq pr 18 0 _ Try.f18 fn_18 _ rfl _ ann_18 _ rfl]
    simp -implicitDefEqProofs only [hl, Int.lt_irrefl, go_sem, Nat.reduceAdd, Nat.reduceSub, Nat.reduceMul, Nat.reduceMod, Nat.reduceLT, Nat.reduceLeDiff, Nat.reduceEqDiff, Nat.reduceBEq, Nat.reduceDiv, Int.reduceLT, Int.reduceLE, Int.reduceToNat, Int.reduceNeg, Int.reduceEq, ↓reduceIte, reduceCtorEq, ↓reduceDIte, Bool.false_eq_true, Bool.true_eq_false, ne_eq, not_true_eq_false, not_false_eq_true, Bool.true_or, Bool.false_or, Bool.or_true, Bool.or_false, Bool.true_and, Bool.false_and, Bool.and_true, Bool.and_false, Bool.not_true, Bool.not_false, Bool.not_eq_false', Bool.not_eq_true', and_true, true_and, and_false, false_and, or_true, true_or, or_false, false_or, and_self, or_self, decide_eq_true_eq, decide_true, decide_false, decide_eq_false_iff_not, ite_not, if_true, if_false, eq_self]
    rfl
  | n + 1, m, pre, h, hm => by
    have hl : full.length = pre.length + ((markT (m + 1) n).length + 1) := by rw [h]; simp [markT]
    have hlt : pre.length < full.length := by omega
    have hg : full.getD pre.length (mkS []) = mkS (mtxt m) := by rw [h]; simp [markT]
    have ih := loop_18 full hb n (m + 1) (pre ++ [mkS (mtxt m)]) (by rw [h]; simp [markT]) (by omega)
    have e1 : (pre ++ [mkS (mtxt m)]).length = pre.length + 1 := by simp
    have e2 : m + 1 + n = m + (n + 1) := by omega
    rw [e1, e2] at ih
    have hw1 : IntKind.i64.wrap ((m : Int) + 1) = ((m + 1 : Nat) : Int) := by rw [wrap_i] <;> omega
    have hw2 : IntKind.i64.wrap ((pre.length : Int) + 1) = ((pre.length + 1 : Nat) : Int) := by rw [wrap_i] <;> omega
    rw [loop_eq pr 18 0 _ Try.f18 fn_18 _ rfl _ ann_18 _ rfl]
    simp -implicitDefEqProofs only [lt_cast hlt, zero_le_cast, Int.toNat_natCast, call_45 m (by omega), hg, hw1, hw2, go_sem, Nat.reduceAdd, Nat.reduceSub, Nat.reduceMul, Nat.reduceMod, Nat.reduceLT, Nat.reduceLeDiff, Nat.reduceEqDiff, Nat.reduceBEq, Nat.reduceDiv, Int.reduceLT, Int.reduceLE, Int.reduceToNat, Int.reduceNeg, Int.reduceEq, ↓reduceIte, reduceCtorEq, ↓reduceDIte, Bool.false_eq_true, Bool.true_eq_false, ne_eq, not_true_eq_false, not_false_eq_true, Bool.true_or, Bool.false_or, Bool.or_true, Bool.or_false, Bool.true_and, Bool.false_and, Bool.and_true, Bool.and_false, Bool.not_true, Bool.not_false, Bool.not_eq_false', Bool.not_eq_true', and_true, true_and, and_false, false_and, or_true, true_or, or_false, false_or, and_self, or_self, decide_eq_true_eq, decide_true, decide_false, decide_eq_false_iff_not, ite_not, if_true, if_false, eq_self]
    exact ih
theorem markT_length (m n : Nat) : (markT m n).length = n := by
  induction n generalizing m with
  | zero => rfl
  | succ n ih => simp [markT, ih]
theorem call_18 (n : Nat) (hn : n < 100000000) : callOf pr 18 [.d (.slice .str) ((markT 1 n).map mkS), I 1] [] = some (I ((1 + n : Nat) : Int), []) := by
  have h := loop_18 ((markT 1 n).map mkS) (by rw [List.length_map, markT_length]; omega) n 1 [] rfl (by omega)
  have h : loopOf pr 18 0 ⟨[(0, .d (.slice .str) ((markT 1 n).map mkS)), (1, I 1), (5, I 0)], []⟩ = _ := h
  rw [call_eq pr 18 _ _ Try.f18 fn_18 _ rfl _ ann_18 rfl]
  simp -implicitDefEqProofs only [h, go_sem, Nat.reduceAdd, Nat.reduceSub, Nat.reduceMul, Nat.reduceMod, Nat.reduceLT, Nat.reduceLeDiff, Nat.reduceEqDiff, Nat.reduceBEq, Nat.reduceDiv, Int.reduceLT, Int.reduceLE, Int.reduceToNat, Int.reduceNeg, Int.reduceEq, ↓reduceIte, reduceCtorEq, ↓reduceDIte, Bool.false_eq_true, Bool.true_eq_false, ne_eq, not_true_eq_false, not_false_eq_true, Bool.true_or, Bool.false_or, Bool.or_true, Bool.or_false, Bool.true_and, Bool.false_and, Bool.and_true, Bool.and_false, Bool.not_true, Bool.not_false, Bool.not_eq_false', Bool.not_eq_true', and_true, true_and, and_false, false_and, or_true, true_or, or_false, false_or, and_self, or_self, decide_eq_true_eq, decide_true, decide_false, decide_eq_false_iff_not, ite_not, if_true, if_false, eq_self]
theorem loop_16 (xs : List (List UInt8)) (hb : xs.length < 1000000000) : ∀ (n k : Nat), k + n = xs.length →
    loopOf pr 16 0 ⟨[(0, .d (.slice .str) (xs.map mkS)), (1, .d (.slice .str) (xs.map mkS)), (5, I k)], []⟩ = some (.exit 0, ⟨[(0, .d (.slice .str) (xs.map mkS)), (1, .d (.slice .str) (xs.map mkS)), (5, I xs.length)], []⟩)
  | 0, k, h => by
    have : k = (xs.map mkS).length := by rw [List.length_map]; omega
    subst this
    rw [loop_eq pr 16 0 _ Try.f16 fn_16 _ rfl _ ann_16 _ rfl]
    simp -implicitDefEqProofs only [Int.lt_irrefl, List.length_map, go_sem, Nat.reduceAdd, Nat.reduceSub, Nat.reduceMul, Nat.reduceMod, Nat.reduceLT, Nat.reduceLeDiff, Nat.reduceEqDiff, Nat.reduceBEq, Nat.reduceDiv, Int.reduceLT, Int.reduceLE, Int.reduceToNat, Int.reduceNeg, Int.reduceEq, ↓reduceIte, reduceCtorEq, ↓reduceDIte, Bool.false_eq_true, Bool.true_eq_false, ne_eq, not_true_eq_false, not_false_eq_true, Bool.true_or, Bool.false_or, Bool.or_true, Bool.or_false, Bool.true_and, Bool.false_and, Bool.and_true, Bool.and_false, Bool.not_true, Bool.not_false, Bool.not_eq_false', Bool.not_eq_true', and_true, true_and, and_false, false_and, or_true, true_or, or_false, false_or, and_self, or_self, decide_eq_true_eq, decide_true, decide_false, decide_eq_false_iff_not, ite_not, if_true, if_false, eq_self]
  | n + 1, k, h => by
    have hlt : k < (xs.map mkS).length := by rw [List.length_map]; omega
    have hlt' : k < xs.length := by omega
    have ih := loop_16 xs hb n (k + 1) (by omega)
    have hg : (xs.map mkS).getD k (mkS []) = mkS (xs.getD k []) := by rw [getD_of_lt hlt, getD_of_lt hlt']; simp
    rw [loop_eq pr 16 0 _ Try.f16 fn_16 _ rfl _ ann_16 _ rfl]
    simp -implicitDefEqProofs only [lt_cast hlt, zero_le_cast, Int.toNat_natCast, wrap_succ hlt' (show xs.length < 1000000000000000000 by omega), hg, go_sem, Nat.reduceAdd, Nat.reduceSub, Nat.reduceMul, Nat.reduceMod, Nat.reduceLT, Nat.reduceLeDiff, Nat.reduceEqDiff, Nat.reduceBEq, Nat.reduceDiv, Int.reduceLT, Int.reduceLE, Int.reduceToNat, Int.reduceNeg, Int.reduceEq, ↓reduceIte, reduceCtorEq, ↓reduceDIte, Bool.false_eq_true, Bool.true_eq_false, ne_eq, not_true_eq_false, not_false_eq_true, Bool.true_or, Bool.false_or, Bool.or_true, Bool.or_false, Bool.true_and, Bool.false_and, Bool.and_true, Bool.and_false, Bool.not_true, Bool.not_false, Bool.not_eq_false', Bool.not_eq_true', and_true, true_and, and_false, false_and, or_true, true_or, or_false, false_or, and_self, or_self, decide_eq_true_eq, decide_true, decide_false, decide_eq_false_iff_not, ite_not, if_true, if_false, eq_self]
    exact ih
theorem call_16 (xs : List (List UInt8)) (hb : xs.length < 1000000000) : callOf pr 16 [.d (.slice .str) (xs.map mkS), .d (.slice .str) (xs.map mkS)] [] = some (B true, []) := by
  have h := loop_16 xs hb xs.length 0 (by omega)
  have h : loopOf pr 16 0 ⟨[(0, .d (.slice .str) (xs.map mkS)), (1, .d (.slice .str) (xs.map mkS)), (5, I 0)], []⟩ = _ := h
  rw [call_eq pr 16 _ _ Try.f16 fn_16 _ rfl _ ann_16 rfl]
  simp -implicitDefEqProofs only [h, go_sem, Nat.reduceAdd, Nat.reduceSub, Nat.reduceMul, Nat.reduceMod, Nat.reduceLT, Nat.reduceLeDiff, Nat.reduceEqDiff, Nat.reduceBEq, Nat.reduceDiv, Int.reduceLT, Int.reduceLE, Int.reduceToNat, Int.reduceNeg, Int.reduceEq, ↓reduceIte, reduceCtorEq, ↓reduceDIte, Bool.false_eq_true, Bool.true_eq_false, ne_eq, not_true_eq_false, not_false_eq_true, Bool.true_or, Bool.false_or, Bool.or_true, Bool.or_false, Bool.true_and, Bool.false_and, Bool.and_true, Bool.and_false, Bool.not_true, Bool.not_false, Bool.not_eq_false', Bool.not_eq_true', and_true, true_and, and_false, false_and, or_true, true_or, or_false, false_or, and_self, or_self, decide_eq_true_eq, decide_true, decide_false, decide_eq_false_iff_not, ite_not, if_true, if_false, eq_self]
theorem recS_le : ∀ (ls : List (List UInt8)) (prev : List UInt8), (recS prev ls).1.length ≤ tot ls
  | [], _ => by simp [recS, tot]
  | x :: ls, prev => by
    simp only [recS, tot]
    split
    · have := recS_le ls (x.take 2)
      simp only [List.length_cons]
      omega
    · simp
theorem law_4 (l : List UInt8) (hl : l.length < 1000000000000000000) : callOf pr 4 [T l] [] = some (B true, []) := by
  rw [call_eq pr 4 _ _ Try.f4 fn_4 _ rfl _ ann_4 rfl]
  by_cases hbig : 1048576 < l.length
  · simp -implicitDefEqProofs only [gt_iff_lt, tr (show (1048576 : Int) < (l.length : Int) by omega), go_sem, Nat.reduceAdd, Nat.reduceSub, Nat.reduceMul, Nat.reduceMod, Nat.reduceLT, Nat.reduceLeDiff, Nat.reduceEqDiff, Nat.reduceBEq, Nat.reduceDiv, Int.reduceLT, Int.reduceLE, Int.reduceToNat, Int.reduceNeg, Int.reduceEq, ↓reduceIte, reduceCtorEq, ↓reduceDIte, Bool.false_eq_true, Bool.true_eq_false, ne_eq, not_true_eq_false, not_false_eq_true, Bool.true_or, Bool.false_or, Bool.or_true, Bool.or_false, Bool.true_and, Bool.false_and, Bool.and_true, Bool.and_false, Bool.not_true, Bool.not_false, Bool.not_eq_false', Bool.not_eq_true', and_true, true_and, and_false, false_and, or_true, true_or, or_false, false_or, and_self, or_self, decide_eq_true_eq, decide_true, decide_false, decide_eq_false_iff_not, ite_not, if_true, if_false, eq_self]
  · have h14 := call_14 l
    have h15 := call_15 l (by omega)
    by_cases h4 : 4000 < l.length
    · rw [if_pos h4] at h14 h15
      simp -implicitDefEqProofs only [gt_iff_lt, fa (show ¬ (1048576 : Int) < (l.length : Int) by omega), h14, h15, call_16n, call_17n, call_18n, decide_true, BEq.rfl, go_sem, Nat.reduceAdd, Nat.reduceSub, Nat.reduceMul, Nat.reduceMod, Nat.reduceLT, Nat.reduceLeDiff, Nat.reduceEqDiff, Nat.reduceBEq, Nat.reduceDiv, Int.reduceLT, Int.reduceLE, Int.reduceToNat, Int.reduceNeg, Int.reduceEq, ↓reduceIte, reduceCtorEq, ↓reduceDIte, Bool.false_eq_true, Bool.true_eq_false, ne_eq, not_true_eq_false, not_false_eq_true, Bool.true_or, Bool.false_or, Bool.or_true, Bool.or_false, Bool.true_and, Bool.false_and, Bool.and_true, Bool.and_false, Bool.not_true, Bool.not_false, Bool.not_eq_false', Bool.not_eq_true', and_true, true_and, and_false, false_and, or_true, true_or, or_false, false_or, and_self, or_self, decide_eq_true_eq, decide_true, decide_false, decide_eq_false_iff_not, ite_not, if_true, if_false, eq_self]
    · rw [if_neg h4] at h14 h15
      have ht := tot_lines l []
      have hr := recS_le (linesA [] l).1 []
      simp only [List.length_nil, Nat.zero_add] at ht
      generalize hz : (recS [] (linesA [] l).1).1 = zs at h14 h15 hr
      have h16 := call_16 zs (by omega)
      have h17 := call_17 (zs.map mkS) (by rw [List.length_map]; omega)
      rw [List.length_map] at h17
      have h18 := call_18 zs.length (by omega)
      have hpos : ¬ ((1 + zs.length : Nat) : Int) < 0 := by omega
      simp -implicitDefEqProofs only [gt_iff_lt, fa (show ¬ (1048576 : Int) < (l.length : Int) by omega), h14, h15, h16, h17, h18, decide_true, BEq.rfl, fa hpos, go_sem, Nat.reduceAdd, Nat.reduceSub, Nat.reduceMul, Nat.reduceMod, Nat.reduceLT, Nat.reduceLeDiff, Nat.reduceEqDiff, Nat.reduceBEq, Nat.reduceDiv, Int.reduceLT, Int.reduceLE, Int.reduceToNat, Int.reduceNeg, Int.reduceEq, ↓reduceIte, reduceCtorEq, ↓reduceDIte, Bool.false_eq_true, Bool.true_eq_false, ne_eq, not_true_eq_false, not_false_eq_true, Bool.true_or, Bool.false_or, Bool.or_true, Bool.or_false, Bool.true_and, Bool.false_and, Bool.and_true, Bool.and_false, Bool.not_true, Bool.not_false, Bool.not_eq_false', Bool.not_eq_true', and_true, true_and, and_false, false_and, or_true, true_or, or_false, false_or, and_self, or_self, decide_eq_true_eq, decide_true, decide_false, decide_eq_false_iff_not, ite_not, if_true, if_false, eq_self]
end Go.Proofs.Ytidodagkfbplaaa.PI
