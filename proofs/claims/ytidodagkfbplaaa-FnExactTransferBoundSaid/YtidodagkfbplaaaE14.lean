/- The bound of transfers. -/
import Derived.Test.YtidodagkfbplaaaE13
namespace Go.Proofs.Ytidodagkfbplaaa.PI
open Go Go.Q
set_option maxRecDepth 100000
set_option maxHeartbeats 4000000
set_option linter.unusedSimpArgs false

/-- How many bits. -/
def kern : Nat → Nat → Option Nat
  | 0, _ => none
  | n + 1, m => if m = 0 then some 0 else (kern n (m &&& (m - 1))).map (· + 1)
theorem loop_55 : ∀ (n m c r : Nat), m < 2 ^ 62 → kern n m = some r → c + r < 1000000 →
    loopOf pr 55 0 ⟨[(0, I m), (3, I c)], []⟩ = some (.exit 0, ⟨[(0, I 0), (3, I ((c + r : Nat) : Int))], []⟩)
  | 0, _, _, _, _, h, _ => by simp [kern] at h
  | n + 1, m, c, r, hm, h, hc => by
    simp only [kern] at h
    by_cases h0 : m = 0
    · rw [if_pos h0] at h
      cases h
      subst h0
      rw [loop_eq pr 55 0 _ Try.f55 fn_55 _ rfl _ ann_55 _ rfl]
      simp -implicitDefEqProofs only [Int.natCast_zero, Int.lt_irrefl, Nat.add_zero, go_sem, Nat.reduceAdd, Nat.reduceSub, Nat.reduceMul, Nat.reduceMod, Nat.reduceLT, Nat.reduceLeDiff, Nat.reduceEqDiff, Nat.reduceBEq, Nat.reduceDiv, Int.reduceLT, Int.reduceLE, Int.reduceToNat, Int.reduceNeg, Int.reduceEq, ↓reduceIte, reduceCtorEq, ↓reduceDIte, Bool.false_eq_true, Bool.true_eq_false, ne_eq, not_true_eq_false, not_false_eq_true, Bool.true_or, Bool.false_or, Bool.or_true, Bool.or_false, Bool.true_and, Bool.false_and, Bool.and_true, Bool.and_false, Bool.not_true, Bool.not_false, Bool.not_eq_false', Bool.not_eq_true', and_true, true_and, and_false, false_and, or_true, true_or, or_false, false_or, and_self, or_self, decide_eq_true_eq, decide_true, decide_false, decide_eq_false_iff_not, ite_not, if_true, if_false, eq_self]
    · rw [if_neg h0, Option.map_eq_some_iff] at h
      obtain ⟨q, hq, rfl⟩ := h
      have hlt : m &&& (m - 1) ≤ m := Nat.and_le_left
      have ih := loop_55 n (m &&& (m - 1)) (c + 1) q (by omega) hq (by omega)
      have e1 : c + 1 + q = c + (q + 1) := by omega
      rw [e1] at ih
      have hw : IntKind.i64.wrap ((c : Int) + 1) = ((c + 1 : Nat) : Int) := by rw [wrap_i] <;> omega
      have hw2 : IntKind.i64.wrap ((m : Int) - 1) = ((m - 1 : Nat) : Int) := by rw [wrap_i] <;> omega
      have hand := bits_and (a := m) (b := m - 1) (by omega) (by omega)
      rw [loop_eq pr 55 0 _ Try.f55 fn_55 _ rfl _ ann_55 _ rfl]
      simp -implicitDefEqProofs only [tr (show (0 : Int) < (m : Int) by omega), hw, hw2, hand, go_sem, Nat.reduceAdd, Nat.reduceSub, Nat.reduceMul, Nat.reduceMod, Nat.reduceLT, Nat.reduceLeDiff, Nat.reduceEqDiff, Nat.reduceBEq, Nat.reduceDiv, Int.reduceLT, Int.reduceLE, Int.reduceToNat, Int.reduceNeg, Int.reduceEq, ↓reduceIte, reduceCtorEq, ↓reduceDIte, Bool.false_eq_true, Bool.true_eq_false, ne_eq, not_true_eq_false, not_false_eq_true, Bool.true_or, Bool.false_or, Bool.or_true, Bool.or_false, Bool.true_and, Bool.false_and, Bool.and_true, Bool.and_false, Bool.not_true, Bool.not_false, Bool.not_eq_false', Bool.not_eq_true', and_true, true_and, and_false, false_and, or_true, true_or, or_false, false_or, and_self, or_self, decide_eq_true_eq, decide_true, decide_false, decide_eq_false_iff_not, ite_not, if_true, if_false, eq_self]
      exact ih
theorem kern_all : ∀ m, m < 64 → kern 8 m = some (those m.testBit 6).length := by decide
theorem call_55 (m : Nat) (hm : m < 64) : callOf pr 55 [I m] [] = some (I (those m.testBit 6).length, []) := by
  have hl := those_length m.testBit 6
  have h := loop_55 8 m 0 _ (by omega) (kern_all m hm) (by omega)
  rw [Nat.zero_add] at h
  have h : loopOf pr 55 0 ⟨[(0, I m), (3, I 0)], []⟩ = _ := h
  rw [call_eq pr 55 _ _ Try.f55 fn_55 _ rfl _ ann_55 rfl]
  simp -implicitDefEqProofs only [h, go_sem, Nat.reduceAdd, Nat.reduceSub, Nat.reduceMul, Nat.reduceMod, Nat.reduceLT, Nat.reduceLeDiff, Nat.reduceEqDiff, Nat.reduceBEq, Nat.reduceDiv, Int.reduceLT, Int.reduceLE, Int.reduceToNat, Int.reduceNeg, Int.reduceEq, ↓reduceIte, reduceCtorEq, ↓reduceDIte, Bool.false_eq_true, Bool.true_eq_false, ne_eq, not_true_eq_false, not_false_eq_true, Bool.true_or, Bool.false_or, Bool.or_true, Bool.or_false, Bool.true_and, Bool.false_and, Bool.and_true, Bool.and_false, Bool.not_true, Bool.not_false, Bool.not_eq_false', Bool.not_eq_true', and_true, true_and, and_false, false_and, or_true, true_or, or_false, false_or, and_self, or_self, decide_eq_true_eq, decide_true, decide_false, decide_eq_false_iff_not, ite_not, if_true, if_false, eq_self]

theorem mask_six {f : Nat → Bool} {n : Nat} (hn : n ≤ 6) : maskB f n < 64 := by
  have h1 : (2 : Nat) ^ n ≤ 2 ^ 6 := Nat.pow_le_pow_right (by omega) hn
  have h2 := maskB_lt f n
  omega
theorem call_29 (xs : List (List Int)) (hb : xs.length < 1000000000000000000) (hc : ∀ x ∈ xs, x.length < 1000000000000000000) : callOf pr 29 [.agg [LL xs]] [] = if specValid xs = true then some (.tuple [I (those (maskB (isSrc xs) xs.length ^^^ maskB (isOut xs) xs.length).testBit 6).length, B true], []) else some (.tuple [I 0, B false], []) := by
  have h34 := call_34 xs hb hc
  rw [call_eq pr 29 _ _ Try.f29 fn_29 _ rfl _ ann_29 rfl]
  cases hv : specValid xs with
  | false =>
    rw [hv] at h34
    simp -implicitDefEqProofs only [h34, go_sem, Nat.reduceAdd, Nat.reduceSub, Nat.reduceMul, Nat.reduceMod, Nat.reduceLT, Nat.reduceLeDiff, Nat.reduceEqDiff, Nat.reduceBEq, Nat.reduceDiv, Int.reduceLT, Int.reduceLE, Int.reduceToNat, Int.reduceNeg, Int.reduceEq, ↓reduceIte, reduceCtorEq, ↓reduceDIte, Bool.false_eq_true, Bool.true_eq_false, ne_eq, not_true_eq_false, not_false_eq_true, Bool.true_or, Bool.false_or, Bool.or_true, Bool.or_false, Bool.true_and, Bool.false_and, Bool.and_true, Bool.and_false, Bool.not_true, Bool.not_false, Bool.not_eq_false', Bool.not_eq_true', and_true, true_and, and_false, false_and, or_true, true_or, or_false, false_or, and_self, or_self, decide_eq_true_eq, decide_true, decide_false, decide_eq_false_iff_not, ite_not, if_true, if_false, eq_self]
  | true =>
    rw [hv] at h34
    obtain ⟨hn, _, hx⟩ := valid_bound hv
    have h1 := mask_six (f := isSrc xs) hn
    have h2 := mask_six (f := isOut xs) hn
    have h3 : maskB (isSrc xs) xs.length ^^^ maskB (isOut xs) xs.length < 2 ^ 6 := Nat.xor_lt_two_pow (n := 6) h1 h2
    have hxor := bits_xor (a := maskB (isSrc xs) xs.length) (b := maskB (isOut xs) xs.length) (by omega) (by omega)
    have h55 := call_55 _ h3
    simp -implicitDefEqProofs only [h34, call_52 xs hn, call_56 xs hn hx hc, hxor, h55, go_sem, Nat.reduceAdd, Nat.reduceSub, Nat.reduceMul, Nat.reduceMod, Nat.reduceLT, Nat.reduceLeDiff, Nat.reduceEqDiff, Nat.reduceBEq, Nat.reduceDiv, Int.reduceLT, Int.reduceLE, Int.reduceToNat, Int.reduceNeg, Int.reduceEq, ↓reduceIte, reduceCtorEq, ↓reduceDIte, Bool.false_eq_true, Bool.true_eq_false, ne_eq, not_true_eq_false, not_false_eq_true, Bool.true_or, Bool.false_or, Bool.or_true, Bool.or_false, Bool.true_and, Bool.false_and, Bool.and_true, Bool.and_false, Bool.not_true, Bool.not_false, Bool.not_eq_false', Bool.not_eq_true', and_true, true_and, and_false, false_and, or_true, true_or, or_false, false_or, and_self, or_self, decide_eq_true_eq, decide_true, decide_false, decide_eq_false_iff_not, ite_not, if_true, if_false, eq_self]

/-- A mask of numbers. -/
def maskL (m : Nat) (xs : List Int) : Nat := xs.foldl (fun m x => m ||| 2 ^ x.toNat) m
theorem maskL_lt (xs : List Int) (h : ∀ x ∈ xs, x.toNat < 62) : ∀ m, m < 2 ^ 62 → maskL m xs < 2 ^ 62 := by
  induction xs with
  | nil => exact fun m hm => hm
  | cons x xs ih =>
    intro m hm
    exact ih (fun y hy => h y (by simp [hy])) _ (Nat.or_lt_two_pow hm (Nat.pow_lt_pow_right (by omega) (h x (by simp))))
theorem maskL_those (f : Nat → Bool) (n : Nat) : maskL 0 (those f n) = maskB f n := by
  induction n with
  | zero => rfl
  | succ n ih =>
    rw [those_succ]
    simp only [maskB]
    split
    · unfold maskL at ih ⊢
      rw [List.foldl_append, ih]
      simp
    · exact ih
theorem loop_57 (xs : List Int) (hb : xs.length < 1000000000000000000) (hx : ∀ x ∈ xs, 0 ≤ x ∧ x < 62) : ∀ (suf pre : List Int) (m : Nat), xs = pre ++ suf → m < 2 ^ 62 →
    loopOf pr 57 0 ⟨[(3, I m), (6, L xs), (7, I xs.length), (8, I pre.length)], []⟩ = some (.exit 0, ⟨[(3, I (maskL m suf)), (6, L xs), (7, I xs.length), (8, I xs.length)], []⟩)
  | [], pre, m, h, _ => by
    have hl : xs.length = pre.length := by rw [h]; simp
    rw [loop_eq pr 57 0 _ Try.f57 fn_57 _ rfl _ ann_57 _ rfl]
    simp -implicitDefEqProofs only [hl, Int.lt_irrefl, go_sem, Nat.reduceAdd, Nat.reduceSub, Nat.reduceMul, Nat.reduceMod, Nat.reduceLT, Nat.reduceLeDiff, Nat.reduceEqDiff, Nat.reduceBEq, Nat.reduceDiv, Int.reduceLT, Int.reduceLE, Int.reduceToNat, Int.reduceNeg, Int.reduceEq, ↓reduceIte, reduceCtorEq, ↓reduceDIte, Bool.false_eq_true, Bool.true_eq_false, ne_eq, not_true_eq_false, not_false_eq_true, Bool.true_or, Bool.false_or, Bool.or_true, Bool.or_false, Bool.true_and, Bool.false_and, Bool.and_true, Bool.and_false, Bool.not_true, Bool.not_false, Bool.not_eq_false', Bool.not_eq_true', and_true, true_and, and_false, false_and, or_true, true_or, or_false, false_or, and_self, or_self, decide_eq_true_eq, decide_true, decide_false, decide_eq_false_iff_not, ite_not, if_true, if_false, eq_self]
    rfl
  | x :: suf, pre, m, h, hm => by
    have hl : xs.length = pre.length + (suf.length + 1) := by rw [h]; simp
    have hlt : pre.length < xs.length := by omega
    obtain ⟨h1, h2⟩ := hx x (by rw [h]; simp)
    obtain ⟨y, rfl⟩ : ∃ y : Nat, x = (y : Int) := ⟨x.toNat, by omega⟩
    have hy : y < 62 := by omega
    have hy2 : (2 : Nat) ^ y < 2 ^ 62 := Nat.pow_lt_pow_right (by omega) hy
    have hg : xs.getD pre.length 0 = (y : Int) := by rw [h]; simp
    have ih := loop_57 xs hb hx suf (pre ++ [(y : Int)]) (m ||| 2 ^ y) (by rw [h]; simp) (Nat.or_lt_two_pow hm hy2)
    have e1 : (pre ++ [(y : Int)]).length = pre.length + 1 := by simp
    have e2 : maskL (m ||| 2 ^ y) suf = maskL m ((y : Int) :: suf) := rfl
    rw [e1, e2] at ih
    have hor := bits_or (a := m) (b := 2 ^ y) (by omega) (by omega)
    rw [loop_eq pr 57 0 _ Try.f57 fn_57 _ rfl _ ann_57 _ rfl]
    simp -implicitDefEqProofs only [lt_cast hlt, zero_le_cast, Int.toNat_natCast, hg, wrap_succ hlt hb, cast_neg, min_64 (show y < 64 by omega), i64_pow (show y < 62 by omega), hor, IntKind.bits, go_sem, Nat.reduceAdd, Nat.reduceSub, Nat.reduceMul, Nat.reduceMod, Nat.reduceLT, Nat.reduceLeDiff, Nat.reduceEqDiff, Nat.reduceBEq, Nat.reduceDiv, Int.reduceLT, Int.reduceLE, Int.reduceToNat, Int.reduceNeg, Int.reduceEq, ↓reduceIte, reduceCtorEq, ↓reduceDIte, Bool.false_eq_true, Bool.true_eq_false, ne_eq, not_true_eq_false, not_false_eq_true, Bool.true_or, Bool.false_or, Bool.or_true, Bool.or_false, Bool.true_and, Bool.false_and, Bool.and_true, Bool.and_false, Bool.not_true, Bool.not_false, Bool.not_eq_false', Bool.not_eq_true', and_true, true_and, and_false, false_and, or_true, true_or, or_false, false_or, and_self, or_self, decide_eq_true_eq, decide_true, decide_false, decide_eq_false_iff_not, ite_not, if_true, if_false, eq_self]
    exact ih
theorem call_57 (f : Nat → Bool) (n : Nat) (hn : n ≤ 6) : callOf pr 57 [L (those f n)] [] = some (I (maskB f n), []) := by
  have hl := those_length f n
  have h := loop_57 (those f n) (by omega) (fun x hx => by
    obtain ⟨k, rfl, hk⟩ := those_mem hx
    omega) (those f n) [] 0 rfl (by omega)
  rw [maskL_those] at h
  have h : loopOf pr 57 0 ⟨[(3, I 0), (6, L (those f n)), (7, I (those f n).length), (8, I 0)], []⟩ = _ := h
  rw [call_eq pr 57 _ _ Try.f57 fn_57 _ rfl _ ann_57 rfl]
  simp -implicitDefEqProofs only [h, go_sem, Nat.reduceAdd, Nat.reduceSub, Nat.reduceMul, Nat.reduceMod, Nat.reduceLT, Nat.reduceLeDiff, Nat.reduceEqDiff, Nat.reduceBEq, Nat.reduceDiv, Int.reduceLT, Int.reduceLE, Int.reduceToNat, Int.reduceNeg, Int.reduceEq, ↓reduceIte, reduceCtorEq, ↓reduceDIte, Bool.false_eq_true, Bool.true_eq_false, ne_eq, not_true_eq_false, not_false_eq_true, Bool.true_or, Bool.false_or, Bool.or_true, Bool.or_false, Bool.true_and, Bool.false_and, Bool.and_true, Bool.and_false, Bool.not_true, Bool.not_false, Bool.not_eq_false', Bool.not_eq_true', and_true, true_and, and_false, false_and, or_true, true_or, or_false, false_or, and_self, or_self, decide_eq_true_eq, decide_true, decide_false, decide_eq_false_iff_not, ite_not, if_true, if_false, eq_self]
theorem call_59 (xs : List Int) : callOf pr 59 [L xs] [] = some (I xs.length, []) := by
  rw [call_eq pr 59 _ _ Try.f59 fn_59 _ rfl _ ann_59 rfl]
  simp -implicitDefEqProofs only [go_sem, Nat.reduceAdd, Nat.reduceSub, Nat.reduceMul, Nat.reduceMod, Nat.reduceLT, Nat.reduceLeDiff, Nat.reduceEqDiff, Nat.reduceBEq, Nat.reduceDiv, Int.reduceLT, Int.reduceLE, Int.reduceToNat, Int.reduceNeg, Int.reduceEq, ↓reduceIte, reduceCtorEq, ↓reduceDIte, Bool.false_eq_true, Bool.true_eq_false, ne_eq, not_true_eq_false, not_false_eq_true, Bool.true_or, Bool.false_or, Bool.or_true, Bool.or_false, Bool.true_and, Bool.false_and, Bool.and_true, Bool.and_false, Bool.not_true, Bool.not_false, Bool.not_eq_false', Bool.not_eq_true', and_true, true_and, and_false, false_and, or_true, true_or, or_false, false_or, and_self, or_self, decide_eq_true_eq, decide_true, decide_false, decide_eq_false_iff_not, ite_not, if_true, if_false, eq_self]
theorem call_77 (m k : Nat) (hm : m < 64) (hk : k < 6) : callOf pr 77 [I k, .rp [I m]] [] = some (B (!m.testBit k), []) := by
  have hb := bit_is (a := m) (k := k) (by omega)
  rw [call_eq pr 77 _ _ Try.f77 fn_77 _ rfl _ ann_77 rfl]
  cases ht : m.testBit k with
  | true =>
    rw [ht, if_pos rfl] at hb
    simp -implicitDefEqProofs only [cast_neg, Int.toNat_natCast, min_64 (show k < 64 by omega), hb, IntKind.bits, go_sem, Nat.reduceAdd, Nat.reduceSub, Nat.reduceMul, Nat.reduceMod, Nat.reduceLT, Nat.reduceLeDiff, Nat.reduceEqDiff, Nat.reduceBEq, Nat.reduceDiv, Int.reduceLT, Int.reduceLE, Int.reduceToNat, Int.reduceNeg, Int.reduceEq, ↓reduceIte, reduceCtorEq, ↓reduceDIte, Bool.false_eq_true, Bool.true_eq_false, ne_eq, not_true_eq_false, not_false_eq_true, Bool.true_or, Bool.false_or, Bool.or_true, Bool.or_false, Bool.true_and, Bool.false_and, Bool.and_true, Bool.and_false, Bool.not_true, Bool.not_false, Bool.not_eq_false', Bool.not_eq_true', and_true, true_and, and_false, false_and, or_true, true_or, or_false, false_or, and_self, or_self, decide_eq_true_eq, decide_true, decide_false, decide_eq_false_iff_not, ite_not, if_true, if_false, eq_self]
  | false =>
    rw [ht, if_neg (by simp)] at hb
    simp -implicitDefEqProofs only [cast_neg, Int.toNat_natCast, min_64 (show k < 64 by omega), hb, IntKind.bits, go_sem, Nat.reduceAdd, Nat.reduceSub, Nat.reduceMul, Nat.reduceMod, Nat.reduceLT, Nat.reduceLeDiff, Nat.reduceEqDiff, Nat.reduceBEq, Nat.reduceDiv, Int.reduceLT, Int.reduceLE, Int.reduceToNat, Int.reduceNeg, Int.reduceEq, ↓reduceIte, reduceCtorEq, ↓reduceDIte, Bool.false_eq_true, Bool.true_eq_false, ne_eq, not_true_eq_false, not_false_eq_true, Bool.true_or, Bool.false_or, Bool.or_true, Bool.or_false, Bool.true_and, Bool.false_and, Bool.and_true, Bool.and_false, Bool.not_true, Bool.not_false, Bool.not_eq_false', Bool.not_eq_true', and_true, true_and, and_false, false_and, or_true, true_or, or_false, false_or, and_self, or_self, decide_eq_true_eq, decide_true, decide_false, decide_eq_false_iff_not, ite_not, if_true, if_false, eq_self]
theorem call_60 (m : Nat) (hm : m < 64) : callOf pr 60 [I m] [] = some (.os (.t 192), [(192, .arr true false (.int .i64) (those m.testBit 6))]) := by
  have h75 := call_75 (fun x => !m.testBit x.toNat) 77 [.rp [I m]] ⟨rfl, of_decide_eq_true rfl⟩ rfl (those (fun _ => true) 6) (by rw [those_full_length]; omega) (fun x hx => by
    obtain ⟨k, rfl, hk⟩ := those_mem hx
    exact call_77 m k hm hk)
  have hfil : ((those (fun _ => true) 6).filter fun x => !!m.testBit x.toNat) = those m.testBit 6 := those_all m.testBit _ _ (fun k _ => by simp)
  have h76 := call_76 6 (by omega)
  have h76 : callOf pr 76 [I 6] [] = _ := h76
  rw [hfil] at h75
  rw [call_eq pr 60 _ _ Try.f60 fn_60 _ rfl _ ann_60 rfl]
  by_cases ha : (those (fun _ => true) 6).any (fun x => !m.testBit x.toNat) = true
  · rw [if_pos ha] at h75
    have h1 : 0 + (those m.testBit 6).length ≤ (those m.testBit 6 ++ List.replicate ((those (fun _ => true) 6).length - (those m.testBit 6).length) 0).length := by rw [List.length_append]; omega
    have h2 : 0 < (those m.testBit 6 ++ List.replicate ((those (fun _ => true) 6).length - (those m.testBit 6).length) (0 : Int)).length := by
      have := those_length m.testBit 6
      rw [List.length_append, List.length_replicate, those_full_length]; omega
    simp -implicitDefEqProofs only [h76, h75, tr h1, tr h2, List.take_left, go_sem, Nat.reduceAdd, Nat.reduceSub, Nat.reduceMul, Nat.reduceMod, Nat.reduceLT, Nat.reduceLeDiff, Nat.reduceEqDiff, Nat.reduceBEq, Nat.reduceDiv, Int.reduceLT, Int.reduceLE, Int.reduceToNat, Int.reduceNeg, Int.reduceEq, ↓reduceIte, reduceCtorEq, ↓reduceDIte, Bool.false_eq_true, Bool.true_eq_false, ne_eq, not_true_eq_false, not_false_eq_true, Bool.true_or, Bool.false_or, Bool.or_true, Bool.or_false, Bool.true_and, Bool.false_and, Bool.and_true, Bool.and_false, Bool.not_true, Bool.not_false, Bool.not_eq_false', Bool.not_eq_true', and_true, true_and, and_false, false_and, or_true, true_or, or_false, false_or, and_self, or_self, decide_eq_true_eq, decide_true, decide_false, decide_eq_false_iff_not, ite_not, if_true, if_false, eq_self]
  · rw [if_neg ha] at h75
    have he : those (fun _ => true) 6 = those m.testBit 6 := by
      apply those_congr
      intro k hk
      have h3 : ∀ x ∈ those (fun _ => true) 6, m.testBit x.toNat = true := by
        intro x hx
        by_cases h4 : m.testBit x.toNat = true
        · exact h4
        · exact absurd (List.any_eq_true.2 ⟨x, hx, by simp [h4]⟩) ha
      have := h3 k (by unfold those; rw [List.mem_map]; exact ⟨k, by simp [hk], rfl⟩)
      simpa using this.symm
    rw [he] at h75 h76
    simp -implicitDefEqProofs only [h76, h75, go_sem, Nat.reduceAdd, Nat.reduceSub, Nat.reduceMul, Nat.reduceMod, Nat.reduceLT, Nat.reduceLeDiff, Nat.reduceEqDiff, Nat.reduceBEq, Nat.reduceDiv, Int.reduceLT, Int.reduceLE, Int.reduceToNat, Int.reduceNeg, Int.reduceEq, ↓reduceIte, reduceCtorEq, ↓reduceDIte, Bool.false_eq_true, Bool.true_eq_false, ne_eq, not_true_eq_false, not_false_eq_true, Bool.true_or, Bool.false_or, Bool.or_true, Bool.or_false, Bool.true_and, Bool.false_and, Bool.and_true, Bool.and_false, Bool.not_true, Bool.not_false, Bool.not_eq_false', Bool.not_eq_true', and_true, true_and, and_false, false_and, or_true, true_or, or_false, false_or, and_self, or_self, decide_eq_true_eq, decide_true, decide_false, decide_eq_false_iff_not, ite_not, if_true, if_false, eq_self]
theorem call_30 (xs : List (List Int)) (hb : xs.length < 2000000) (hc : ∀ x ∈ xs, x.length < 1000000000000000000) : callOf pr 30 [.agg [LL xs]] [] = if specValid xs = true then some (.tuple [I (those (maskB (isSrc xs) xs.length ^^^ maskB (isOut xs) xs.length).testBit 6).length, B true], []) else some (.tuple [I 0, B false], []) := by
  have h12 := call_12 xs (by omega) hc
  rw [← valid_eq] at h12
  rw [call_eq pr 30 _ _ Try.f30 fn_30 _ rfl _ ann_30 rfl]
  cases hv : specValid xs with
  | false =>
    rw [hv] at h12
    simp -implicitDefEqProofs only [h12, go_sem, Nat.reduceAdd, Nat.reduceSub, Nat.reduceMul, Nat.reduceMod, Nat.reduceLT, Nat.reduceLeDiff, Nat.reduceEqDiff, Nat.reduceBEq, Nat.reduceDiv, Int.reduceLT, Int.reduceLE, Int.reduceToNat, Int.reduceNeg, Int.reduceEq, ↓reduceIte, reduceCtorEq, ↓reduceDIte, Bool.false_eq_true, Bool.true_eq_false, ne_eq, not_true_eq_false, not_false_eq_true, Bool.true_or, Bool.false_or, Bool.or_true, Bool.or_false, Bool.true_and, Bool.false_and, Bool.and_true, Bool.and_false, Bool.not_true, Bool.not_false, Bool.not_eq_false', Bool.not_eq_true', and_true, true_and, and_false, false_and, or_true, true_or, or_false, false_or, and_self, or_self, decide_eq_true_eq, decide_true, decide_false, decide_eq_false_iff_not, ite_not, if_true, if_false, eq_self]
  | true =>
    rw [hv] at h12
    obtain ⟨hn, h0, hx⟩ := valid_bound hv
    have h1 := mask_six (f := isSrc xs) hn
    have h2 := mask_six (f := isOut xs) hn
    have h3 : maskB (isSrc xs) xs.length ^^^ maskB (isOut xs) xs.length < 2 ^ 6 := Nat.xor_lt_two_pow (n := 6) h1 h2
    have hxor := bits_xor (a := maskB (isSrc xs) xs.length) (b := maskB (isOut xs) xs.length) (by omega) (by omega)
    have h60 := call_60 _ h3
    have h57a := call_57 (isSrc xs) xs.length hn
    have h57b := call_57 (isOut xs) xs.length hn
    simp -implicitDefEqProofs only [h12, call_53 xs hb h0, call_58 xs hb h0 hc, h57a, h57b, hxor, h60, call_59, go_sem, Nat.reduceAdd, Nat.reduceSub, Nat.reduceMul, Nat.reduceMod, Nat.reduceLT, Nat.reduceLeDiff, Nat.reduceEqDiff, Nat.reduceBEq, Nat.reduceDiv, Int.reduceLT, Int.reduceLE, Int.reduceToNat, Int.reduceNeg, Int.reduceEq, ↓reduceIte, reduceCtorEq, ↓reduceDIte, Bool.false_eq_true, Bool.true_eq_false, ne_eq, not_true_eq_false, not_false_eq_true, Bool.true_or, Bool.false_or, Bool.or_true, Bool.or_false, Bool.true_and, Bool.false_and, Bool.and_true, Bool.and_false, Bool.not_true, Bool.not_false, Bool.not_eq_false', Bool.not_eq_true', and_true, true_and, and_false, false_and, or_true, true_or, or_false, false_or, and_self, or_self, decide_eq_true_eq, decide_true, decide_false, decide_eq_false_iff_not, ite_not, if_true, if_false, eq_self]
end Go.Proofs.Ytidodagkfbplaaa.PI
