/- Moves: the plain step, and the reference's. -/
import Derived.Test.YthhankjdpbbncaaG4
namespace Go.Proofs.Ythhankjdpbbncaa.PI
open Go Go.Q
set_option maxRecDepth 100000
set_option maxHeartbeats 4000000
set_option linter.unusedSimpArgs false
set_option linter.unusedVariables false

abbrev tyM : Ty := .agg (.cons (.int .i64) (.cons (.int .i64) .nil))
/-- How many values. -/
def bitsN (m : Nat) : Nat := (those m.testBit 6).length
/-- A mask without a number. -/
def clr (f n : Nat) : Nat := maskB (fun k => f.testBit k && !(k == n)) 6
def needOk (ps : List Int) (f : Nat) : Bool := ps.all fun x => f.testBit x.toNat
/-- A move of a node that is one. -/
def mvR (xs : List (List Int)) (f s : Nat) (kind : Int) (n : Nat) : Option (Nat × Nat) :=
  if kind = 0 then (if s.testBit n = true ∧ f.testBit n = false then some (f ||| 2 ^ n, s) else none)
  else if kind = 1 then (if f.testBit n = true ∧ s.testBit n = false then some (f, s ||| 2 ^ n) else none)
  else if kind = 2 then (if f.testBit n = false ∧ ¬ xs.getD n [] = [] ∧ needOk (xs.getD n []) f = true then some (f ||| 2 ^ n, s) else none)
  else if kind = 3 then (if f.testBit n = true then some (clr f n, s) else none)
  else none
theorem mvR2 (xs : List (List Int)) (f s n : Nat) : mvR xs f s 2 n = if f.testBit n = false ∧ ¬ xs.getD n [] = [] ∧ needOk (xs.getD n []) f = true then some (f ||| 2 ^ n, s) else none := by
  unfold mvR
  rw [if_neg (by decide), if_neg (by decide), if_pos rfl]
def inPl (P : Int) : Option (Nat × Nat) → Option (Nat × Nat)
  | some r => if (bitsN r.1 : Int) ≤ P then some r else none
  | none => none
/-- A move. -/
def mv (xs : List (List Int)) (P : Int) (f s : Nat) (kind node : Int) : Option (Nat × Nat) :=
  if 0 ≤ node ∧ node ≤ (xs.length : Int) - 1 then inPl P (mvR xs f s kind node.toNat) else none
theorem or_lt {f n : Nat} (hf : f < 64) (hn : n < 6) : f ||| 2 ^ n < 64 :=
  Nat.or_lt_two_pow (n := 6) hf (Nat.pow_lt_pow_right (by omega) hn)
theorem clr_lt (f n : Nat) : clr f n < 64 := maskB_lt _ 6
theorem mvR_lt {xs : List (List Int)} {f s : Nat} {kind : Int} {n : Nat} (hf : f < 64) (hs : s < 64) (hn : n < 6) {r : Nat × Nat} (h : mvR xs f s kind n = some r) : r.1 < 64 ∧ r.2 < 64 := by
  unfold mvR at h
  repeat' split at h
  all_goals first | (cases h; first | exact ⟨or_lt hf hn, hs⟩ | exact ⟨hf, or_lt hs hn⟩ | exact ⟨clr_lt _ _, hs⟩) | cases h
theorem inPl_some {P : Int} {o : Option (Nat × Nat)} {r : Nat × Nat} (h : inPl P o = some r) : o = some r := by
  unfold inPl at h
  split at h
  · split at h
    · cases h; rfl
    · cases h
  · cases h
theorem mv_lt {xs : List (List Int)} {P : Int} {f s : Nat} {kind node : Int} (hx : xs.length ≤ 6) (hf : f < 64) (hs : s < 64) {r : Nat × Nat} (h : mv xs P f s kind node = some r) : r.1 < 64 ∧ r.2 < 64 := by
  unfold mv at h
  split at h
  · exact mvR_lt hf hs (by omega) (inPl_some h)
  · cases h
theorem and_pow {f n : Nat} : f &&& 2 ^ n = if f.testBit n = true then 2 ^ n else 0 := by
  apply Nat.eq_of_testBit_eq
  intro k
  rw [Nat.testBit_and, Nat.testBit_two_pow]
  by_cases e : n = k
  · subst e
    by_cases h : f.testBit n = true
    · simp [h]
    · simp [h]
  · split
    · simp [e, Nat.testBit_two_pow]
    · simp [e]
theorem bit_on {f n : Nat} (h : f.testBit n = true) : ((f &&& 2 ^ n : Nat) : Int) = 0 ↔ False := by
  rw [and_pow, if_pos h]
  have := Nat.two_pow_pos n
  constructor
  · intro h; omega
  · exact False.elim
theorem bit_off {f n : Nat} (h : f.testBit n = false) : ((f &&& 2 ^ n : Nat) : Int) = 0 := by
  rw [and_pow, if_neg (by simp [h])]; rfl
theorem andNot_clr {f n : Nat} (hf : f < 64) (hn : n < 6) : bitsOf .andNot .i64 (f : Int) ((2 ^ n : Nat) : Int) = (clr f n : Int) := by
  have h2 : (2 : Nat) ^ n ≤ 2 ^ 5 := Nat.pow_le_pow_right (by omega) (by omega)
  obtain ⟨r, h1, _, h3⟩ := bits_andNot (a := f) (b := 2 ^ n) (by omega) (by omega)
  rw [h1]
  congr 1
  apply maskB_eq
  intro k
  rw [h3, Nat.testBit_two_pow]
  by_cases hk : k < 6
  · by_cases e : n = k
    · subst e; simp [hk]
    · have : ¬ k = n := fun h => e h.symm
      simp [hk, e, this]
  · have : f.testBit k = false := Nat.testBit_lt_two_pow (Nat.lt_of_lt_of_le hf (Nat.pow_le_pow_right (n := 2) (by omega) (by omega : 6 ≤ k)))
    simp [hk, this]

theorem need_loop (xs : List (List Int)) (P : Int) (f s n : Nat) (hx : xs.length ≤ 6) (hn : n < xs.length) (hf : f < 64) (hv : ∀ x ∈ xs.getD n [], 0 ≤ x ∧ x < 6) (hl : (xs.getD n []).length < 1000000000000000000) : ∀ (suf pre : List Int), xs.getD n [] = pre ++ suf →
    loopOf pr 86 0 ⟨[(0, .rp [LL xs]), (1, I P), (2, I f), (3, I s), (9, .op 576 0), (13, I ((2 ^ n : Nat) : Int)), (16, I pre.length)], [(576, .box [I 2, I n])]⟩ =
      if needOk suf f = true then some (.exit 1, ⟨[(0, .rp [LL xs]), (1, I P), (2, I f), (3, I s), (9, .op 576 0), (13, I ((2 ^ n : Nat) : Int)), (16, I (xs.getD n []).length)], [(576, .box [I 2, I n])]⟩)
      else some (.ret, ⟨[(10, I 0), (11, I 0), (12, B false)], [(576, .box [I 2, I n])]⟩)
  | [], pre, h => by
    have hlen : (xs.getD n []).length = pre.length := by rw [h]; simp
    rw [if_pos (by simp [needOk])]
    rw [loop_eq pr 86 0 _ Try.f86 fn_86 _ rfl _ ann_86 _ rfl]
    simp -implicitDefEqProofs only [lt_cast hn, zero_le_cast, Int.toNat_natCast, hlen, Int.lt_irrefl, go_sem, Nat.reduceAdd, Nat.reduceSub, Nat.reduceMul, Nat.reduceMod, Nat.reduceLT, Nat.reduceLeDiff, Nat.reduceEqDiff, Nat.reduceBEq, Nat.reduceDiv, Int.reduceLT, Int.reduceLE, Int.reduceToNat, Int.reduceNeg, Int.reduceEq, ↓reduceIte, reduceCtorEq, ↓reduceDIte, Bool.false_eq_true, Bool.true_eq_false, ne_eq, not_true_eq_false, not_false_eq_true, Bool.true_or, Bool.false_or, Bool.or_true, Bool.or_false, Bool.true_and, Bool.false_and, Bool.and_true, Bool.and_false, Bool.not_true, Bool.not_false, Bool.not_eq_false', Bool.not_eq_true', and_true, true_and, and_false, false_and, or_true, true_or, or_false, false_or, and_self, or_self, decide_eq_true_eq, decide_true, decide_false, decide_eq_false_iff_not, ite_not, if_true, if_false, eq_self]
  | x :: suf, pre, h => by
    have hlen : (xs.getD n []).length = pre.length + (suf.length + 1) := by rw [h]; simp
    have hlt : pre.length < (xs.getD n []).length := by omega
    obtain ⟨h1, h2⟩ := hv x (by rw [h]; simp)
    obtain ⟨y, rfl⟩ : ∃ y : Nat, x = (y : Int) := ⟨x.toNat, by omega⟩
    have hy : y < 6 := by omega
    have hg : (xs.getD n []).getD pre.length 0 = (y : Int) := by rw [h]; simp
    have hw : IntKind.i64.wrap ((pre.length : Int) + 1) = ((pre.length + 1 : Nat) : Int) := by rw [wrap_i] <;> omega
    have hbit := bit_is (a := f) (k := y) (by omega)
    have ih := need_loop xs P f s n hx hn hf hv hl suf (pre ++ [(y : Int)]) (by rw [h]; simp)
    have e1 : (pre ++ [(y : Int)]).length = pre.length + 1 := by simp
    rw [e1] at ih
    rw [loop_eq pr 86 0 _ Try.f86 fn_86 _ rfl _ ann_86 _ rfl]
    cases hs : f.testBit y with
    | true =>
      rw [hs, if_pos rfl] at hbit
      have hne : needOk ((y : Int) :: suf) f = needOk suf f := by simp [needOk, hs]
      rw [hne]
      simp -implicitDefEqProofs only [lt_cast hn, lt_cast hlt, zero_le_cast, Int.toNat_natCast, hg, hw, u64_small (show y < 1000000000000000000 by omega), cast_neg, min_64 (show y < 64 by omega), hbit, IntKind.bits, go_sem, Nat.reduceAdd, Nat.reduceSub, Nat.reduceMul, Nat.reduceMod, Nat.reduceLT, Nat.reduceLeDiff, Nat.reduceEqDiff, Nat.reduceBEq, Nat.reduceDiv, Int.reduceLT, Int.reduceLE, Int.reduceToNat, Int.reduceNeg, Int.reduceEq, ↓reduceIte, reduceCtorEq, ↓reduceDIte, Bool.false_eq_true, Bool.true_eq_false, ne_eq, not_true_eq_false, not_false_eq_true, Bool.true_or, Bool.false_or, Bool.or_true, Bool.or_false, Bool.true_and, Bool.false_and, Bool.and_true, Bool.and_false, Bool.not_true, Bool.not_false, Bool.not_eq_false', Bool.not_eq_true', and_true, true_and, and_false, false_and, or_true, true_or, or_false, false_or, and_self, or_self, decide_eq_true_eq, decide_true, decide_false, decide_eq_false_iff_not, ite_not, if_true, if_false, eq_self]
      exact ih
    | false =>
      rw [hs, if_neg (by simp)] at hbit
      have hne : needOk ((y : Int) :: suf) f = false := by simp [needOk, hs]
      rw [hne]
      simp -implicitDefEqProofs only [lt_cast hn, lt_cast hlt, zero_le_cast, Int.toNat_natCast, hg, hw, u64_small (show y < 1000000000000000000 by omega), cast_neg, min_64 (show y < 64 by omega), hbit, IntKind.bits, go_sem, Nat.reduceAdd, Nat.reduceSub, Nat.reduceMul, Nat.reduceMod, Nat.reduceLT, Nat.reduceLeDiff, Nat.reduceEqDiff, Nat.reduceBEq, Nat.reduceDiv, Int.reduceLT, Int.reduceLE, Int.reduceToNat, Int.reduceNeg, Int.reduceEq, ↓reduceIte, reduceCtorEq, ↓reduceDIte, Bool.false_eq_true, Bool.true_eq_false, ne_eq, not_true_eq_false, not_false_eq_true, Bool.true_or, Bool.false_or, Bool.or_true, Bool.or_false, Bool.true_and, Bool.false_and, Bool.and_true, Bool.and_false, Bool.not_true, Bool.not_false, Bool.not_eq_false', Bool.not_eq_true', and_true, true_and, and_false, false_and, or_true, true_or, or_false, false_or, and_self, or_self, decide_eq_true_eq, decide_true, decide_false, decide_eq_false_iff_not, ite_not, if_true, if_false, eq_self]

/-- What a move's answer is. -/
def Ans (c : Option (AV × Heap)) (P : Int) (R : Option (Nat × Nat)) (form : Int → Int → AV) : Prop := ∃ a b, c = some (.tuple [form a b, B (inPl P R).isSome], []) ∧ ∀ r, inPl P R = some r → a = r.1 ∧ b = r.2
def Ans3 (c : Option (AV × Heap)) (P : Int) (R : Option (Nat × Nat)) : Prop := ∃ a b, c = some (.tuple [I a, I b, B (inPl P R).isSome], []) ∧ ∀ r, inPl P R = some r → a = r.1 ∧ b = r.2
theorem inPl_isSome (P : Int) (m t : Nat) : (inPl P (some (m, t))).isSome = decide ((bitsN m : Int) ≤ P) := by
  unfold inPl
  simp only
  split <;> simp_all
theorem Ans3.none {c : Option (AV × Heap)} {P : Int} {R : Option (Nat × Nat)} (a b : Int) (hR : R = none) (h : c = some (.tuple [I a, I b, B false], [])) : Ans3 c P R := by
  subst hR
  exact ⟨a, b, h, fun r h => by cases h⟩
theorem Ans3.some {c : Option (AV × Heap)} {P : Int} {R : Option (Nat × Nat)} {m t : Nat} (hR : R = some (m, t)) (h : c = some (.tuple [I m, I t, B (decide ((bitsN m : Int) ≤ P))], [])) : Ans3 c P R := by
  subst hR
  refine ⟨m, t, by rw [h, inPl_isSome], fun r hr => ?_⟩
  have := inPl_some hr
  cases this
  exact ⟨rfl, rfl⟩
/-- The reference's move. -/
theorem smove_in (xs : List (List Int)) (P : Int) (f s n : Nat) (hx : xs.length ≤ 6) (hn : n < xs.length) (hf : f < 64) (hs : s < 64) (kind : Int) (hv : ∀ x ∈ xs.getD n [], 0 ≤ x ∧ x < 6) (hl : (xs.getD n []).length < 1000000000000000000) :
    Ans3 (callOf pr 86 [.rp [LL xs], I P, I f, I s, .agg [I kind, I n]] []) P (mvR xs f s kind n) := by
  have hp : (2 : Nat) ^ n ≤ 2 ^ 5 := Nat.pow_le_pow_right (by omega) (by omega)
  have hin : ((n : Int) ≤ IntKind.i64.wrap ((xs.length : Int) - 1)) = True := tr (by rw [wrap_i] <;> omega)
  have ha1 := bits_and (a := f) (b := 2 ^ n) (by omega) (by omega)
  have ha2 := bits_and (a := s) (b := 2 ^ n) (by omega) (by omega)
  have ho1 := bits_or (a := f) (b := 2 ^ n) (by omega) (by omega)
  have ho2 := bits_or (a := s) (b := 2 ^ n) (by omega) (by omega)
  have hcl := andNot_clr (f := f) hf (show n < 6 by omega)
  have c1 : callOf pr 114 [I ((f ||| 2 ^ n : Nat) : Int)] [] = some (I (bitsN (f ||| 2 ^ n)), []) := call_114 (f ||| 2 ^ n) (or_lt hf (by omega))
  have c2 : callOf pr 114 [I f] [] = some (I (bitsN f), []) := call_114 f hf
  have c3 : callOf pr 114 [I (clr f n)] [] = some (I (bitsN (clr f n)), []) := call_114 (clr f n) (clr_lt _ _)
  have hf0 : f.testBit n = true ∨ f.testBit n = false := by cases f.testBit n <;> simp
  have hs0 : s.testBit n = true ∨ s.testBit n = false := by cases s.testBit n <;> simp
  have hlp := need_loop xs P f s n hx hn hf hv hl (xs.getD n []) [] rfl
  have hlp : loopOf pr 86 0 ⟨[(0, .rp [LL xs]), (1, I P), (2, I f), (3, I s), (9, .op 576 0), (13, I ((2 ^ n : Nat) : Int)), (16, I 0)], [(576, .box [I 2, I n])]⟩ = _ := hlp
  rw [call_eq pr 86 _ _ Try.f86 fn_86 _ rfl _ ann_86 rfl]
  by_cases k0 : kind = 0
  · subst k0
    rcases hf0 with hf1 | hf1 <;> rcases hs0 with hs1 | hs1
    · refine .none 0 0 (by simp [mvR, hf1, hs1]) ?_
      simp -implicitDefEqProofs only [call_112, hin, decide_true, lt_cast hn, zero_le_cast, Int.toNat_natCast, u64_small (show n < 1000000000000000000 by omega), cast_neg, min_64 (show n < 64 by omega), i64_pow (show n < 62 by omega), IntKind.bits, ha1, ha2, ho1, ho2, bit_on hf1, bit_on hs1, go_sem, Nat.reduceAdd, Nat.reduceSub, Nat.reduceMul, Nat.reduceMod, Nat.reduceLT, Nat.reduceLeDiff, Nat.reduceEqDiff, Nat.reduceBEq, Nat.reduceDiv, Int.reduceLT, Int.reduceLE, Int.reduceToNat, Int.reduceNeg, Int.reduceEq, ↓reduceIte, reduceCtorEq, ↓reduceDIte, Bool.false_eq_true, Bool.true_eq_false, ne_eq, not_true_eq_false, not_false_eq_true, Bool.true_or, Bool.false_or, Bool.or_true, Bool.or_false, Bool.true_and, Bool.false_and, Bool.and_true, Bool.and_false, Bool.not_true, Bool.not_false, Bool.not_eq_false', Bool.not_eq_true', and_true, true_and, and_false, false_and, or_true, true_or, or_false, false_or, and_self, or_self, decide_eq_true_eq, decide_true, decide_false, decide_eq_false_iff_not, ite_not, if_true, if_false, eq_self]
    · refine .none 0 0 (by simp [mvR, hf1, hs1]) ?_
      simp -implicitDefEqProofs only [call_112, hin, decide_true, lt_cast hn, zero_le_cast, Int.toNat_natCast, u64_small (show n < 1000000000000000000 by omega), cast_neg, min_64 (show n < 64 by omega), i64_pow (show n < 62 by omega), IntKind.bits, ha1, ha2, ho1, ho2, bit_on hf1, bit_off hs1, go_sem, Nat.reduceAdd, Nat.reduceSub, Nat.reduceMul, Nat.reduceMod, Nat.reduceLT, Nat.reduceLeDiff, Nat.reduceEqDiff, Nat.reduceBEq, Nat.reduceDiv, Int.reduceLT, Int.reduceLE, Int.reduceToNat, Int.reduceNeg, Int.reduceEq, ↓reduceIte, reduceCtorEq, ↓reduceDIte, Bool.false_eq_true, Bool.true_eq_false, ne_eq, not_true_eq_false, not_false_eq_true, Bool.true_or, Bool.false_or, Bool.or_true, Bool.or_false, Bool.true_and, Bool.false_and, Bool.and_true, Bool.and_false, Bool.not_true, Bool.not_false, Bool.not_eq_false', Bool.not_eq_true', and_true, true_and, and_false, false_and, or_true, true_or, or_false, false_or, and_self, or_self, decide_eq_true_eq, decide_true, decide_false, decide_eq_false_iff_not, ite_not, if_true, if_false, eq_self]
    · refine .some (m := f ||| 2 ^ n) (t := s) (by simp [mvR, hf1, hs1]) ?_
      simp -implicitDefEqProofs only [call_112, hin, decide_true, lt_cast hn, zero_le_cast, Int.toNat_natCast, u64_small (show n < 1000000000000000000 by omega), cast_neg, min_64 (show n < 64 by omega), i64_pow (show n < 62 by omega), IntKind.bits, ha1, ha2, ho1, ho2, bit_off hf1, bit_on hs1, c1, go_sem, Nat.reduceAdd, Nat.reduceSub, Nat.reduceMul, Nat.reduceMod, Nat.reduceLT, Nat.reduceLeDiff, Nat.reduceEqDiff, Nat.reduceBEq, Nat.reduceDiv, Int.reduceLT, Int.reduceLE, Int.reduceToNat, Int.reduceNeg, Int.reduceEq, ↓reduceIte, reduceCtorEq, ↓reduceDIte, Bool.false_eq_true, Bool.true_eq_false, ne_eq, not_true_eq_false, not_false_eq_true, Bool.true_or, Bool.false_or, Bool.or_true, Bool.or_false, Bool.true_and, Bool.false_and, Bool.and_true, Bool.and_false, Bool.not_true, Bool.not_false, Bool.not_eq_false', Bool.not_eq_true', and_true, true_and, and_false, false_and, or_true, true_or, or_false, false_or, and_self, or_self, decide_eq_true_eq, decide_true, decide_false, decide_eq_false_iff_not, ite_not, if_true, if_false, eq_self]
    · refine .none 0 0 (by simp [mvR, hf1, hs1]) ?_
      simp -implicitDefEqProofs only [call_112, hin, decide_true, lt_cast hn, zero_le_cast, Int.toNat_natCast, u64_small (show n < 1000000000000000000 by omega), cast_neg, min_64 (show n < 64 by omega), i64_pow (show n < 62 by omega), IntKind.bits, ha1, ha2, ho1, ho2, bit_off hf1, bit_off hs1, go_sem, Nat.reduceAdd, Nat.reduceSub, Nat.reduceMul, Nat.reduceMod, Nat.reduceLT, Nat.reduceLeDiff, Nat.reduceEqDiff, Nat.reduceBEq, Nat.reduceDiv, Int.reduceLT, Int.reduceLE, Int.reduceToNat, Int.reduceNeg, Int.reduceEq, ↓reduceIte, reduceCtorEq, ↓reduceDIte, Bool.false_eq_true, Bool.true_eq_false, ne_eq, not_true_eq_false, not_false_eq_true, Bool.true_or, Bool.false_or, Bool.or_true, Bool.or_false, Bool.true_and, Bool.false_and, Bool.and_true, Bool.and_false, Bool.not_true, Bool.not_false, Bool.not_eq_false', Bool.not_eq_true', and_true, true_and, and_false, false_and, or_true, true_or, or_false, false_or, and_self, or_self, decide_eq_true_eq, decide_true, decide_false, decide_eq_false_iff_not, ite_not, if_true, if_false, eq_self]
  by_cases k1 : kind = 1
  · subst k1
    rcases hf0 with hf1 | hf1 <;> rcases hs0 with hs1 | hs1
    · refine .none 0 0 (by simp [mvR, hf1, hs1]) ?_
      simp -implicitDefEqProofs only [call_112, hin, decide_true, lt_cast hn, zero_le_cast, Int.toNat_natCast, u64_small (show n < 1000000000000000000 by omega), cast_neg, min_64 (show n < 64 by omega), i64_pow (show n < 62 by omega), IntKind.bits, ha1, ha2, ho1, ho2, bit_on hf1, bit_on hs1, go_sem, Nat.reduceAdd, Nat.reduceSub, Nat.reduceMul, Nat.reduceMod, Nat.reduceLT, Nat.reduceLeDiff, Nat.reduceEqDiff, Nat.reduceBEq, Nat.reduceDiv, Int.reduceLT, Int.reduceLE, Int.reduceToNat, Int.reduceNeg, Int.reduceEq, ↓reduceIte, reduceCtorEq, ↓reduceDIte, Bool.false_eq_true, Bool.true_eq_false, ne_eq, not_true_eq_false, not_false_eq_true, Bool.true_or, Bool.false_or, Bool.or_true, Bool.or_false, Bool.true_and, Bool.false_and, Bool.and_true, Bool.and_false, Bool.not_true, Bool.not_false, Bool.not_eq_false', Bool.not_eq_true', and_true, true_and, and_false, false_and, or_true, true_or, or_false, false_or, and_self, or_self, decide_eq_true_eq, decide_true, decide_false, decide_eq_false_iff_not, ite_not, if_true, if_false, eq_self]
    · refine .some (m := f) (t := s ||| 2 ^ n) (by simp [mvR, hf1, hs1]) ?_
      simp -implicitDefEqProofs only [call_112, hin, decide_true, lt_cast hn, zero_le_cast, Int.toNat_natCast, u64_small (show n < 1000000000000000000 by omega), cast_neg, min_64 (show n < 64 by omega), i64_pow (show n < 62 by omega), IntKind.bits, ha1, ha2, ho1, ho2, bit_on hf1, bit_off hs1, c2, go_sem, Nat.reduceAdd, Nat.reduceSub, Nat.reduceMul, Nat.reduceMod, Nat.reduceLT, Nat.reduceLeDiff, Nat.reduceEqDiff, Nat.reduceBEq, Nat.reduceDiv, Int.reduceLT, Int.reduceLE, Int.reduceToNat, Int.reduceNeg, Int.reduceEq, ↓reduceIte, reduceCtorEq, ↓reduceDIte, Bool.false_eq_true, Bool.true_eq_false, ne_eq, not_true_eq_false, not_false_eq_true, Bool.true_or, Bool.false_or, Bool.or_true, Bool.or_false, Bool.true_and, Bool.false_and, Bool.and_true, Bool.and_false, Bool.not_true, Bool.not_false, Bool.not_eq_false', Bool.not_eq_true', and_true, true_and, and_false, false_and, or_true, true_or, or_false, false_or, and_self, or_self, decide_eq_true_eq, decide_true, decide_false, decide_eq_false_iff_not, ite_not, if_true, if_false, eq_self]
    · refine .none 0 0 (by simp [mvR, hf1, hs1]) ?_
      simp -implicitDefEqProofs only [call_112, hin, decide_true, lt_cast hn, zero_le_cast, Int.toNat_natCast, u64_small (show n < 1000000000000000000 by omega), cast_neg, min_64 (show n < 64 by omega), i64_pow (show n < 62 by omega), IntKind.bits, ha1, ha2, ho1, ho2, bit_off hf1, bit_on hs1, go_sem, Nat.reduceAdd, Nat.reduceSub, Nat.reduceMul, Nat.reduceMod, Nat.reduceLT, Nat.reduceLeDiff, Nat.reduceEqDiff, Nat.reduceBEq, Nat.reduceDiv, Int.reduceLT, Int.reduceLE, Int.reduceToNat, Int.reduceNeg, Int.reduceEq, ↓reduceIte, reduceCtorEq, ↓reduceDIte, Bool.false_eq_true, Bool.true_eq_false, ne_eq, not_true_eq_false, not_false_eq_true, Bool.true_or, Bool.false_or, Bool.or_true, Bool.or_false, Bool.true_and, Bool.false_and, Bool.and_true, Bool.and_false, Bool.not_true, Bool.not_false, Bool.not_eq_false', Bool.not_eq_true', and_true, true_and, and_false, false_and, or_true, true_or, or_false, false_or, and_self, or_self, decide_eq_true_eq, decide_true, decide_false, decide_eq_false_iff_not, ite_not, if_true, if_false, eq_self]
    · refine .none 0 0 (by simp [mvR, hf1, hs1]) ?_
      simp -implicitDefEqProofs only [call_112, hin, decide_true, lt_cast hn, zero_le_cast, Int.toNat_natCast, u64_small (show n < 1000000000000000000 by omega), cast_neg, min_64 (show n < 64 by omega), i64_pow (show n < 62 by omega), IntKind.bits, ha1, ha2, ho1, ho2, bit_off hf1, bit_off hs1, go_sem, Nat.reduceAdd, Nat.reduceSub, Nat.reduceMul, Nat.reduceMod, Nat.reduceLT, Nat.reduceLeDiff, Nat.reduceEqDiff, Nat.reduceBEq, Nat.reduceDiv, Int.reduceLT, Int.reduceLE, Int.reduceToNat, Int.reduceNeg, Int.reduceEq, ↓reduceIte, reduceCtorEq, ↓reduceDIte, Bool.false_eq_true, Bool.true_eq_false, ne_eq, not_true_eq_false, not_false_eq_true, Bool.true_or, Bool.false_or, Bool.or_true, Bool.or_false, Bool.true_and, Bool.false_and, Bool.and_true, Bool.and_false, Bool.not_true, Bool.not_false, Bool.not_eq_false', Bool.not_eq_true', and_true, true_and, and_false, false_and, or_true, true_or, or_false, false_or, and_self, or_self, decide_eq_true_eq, decide_true, decide_false, decide_eq_false_iff_not, ite_not, if_true, if_false, eq_self]
  by_cases k2 : kind = 2
  · subst k2
    have hsb : ∃ p : Prop, (((s &&& 2 ^ n : Nat) : Int) = 0) = p := ⟨_, rfl⟩
    rcases hf0 with hf1 | hf1
    · refine .none 0 0 (by simp [mvR, hf1]) ?_
      simp -implicitDefEqProofs only [call_112, hin, decide_true, lt_cast hn, zero_le_cast, Int.toNat_natCast, u64_small (show n < 1000000000000000000 by omega), cast_neg, min_64 (show n < 64 by omega), i64_pow (show n < 62 by omega), IntKind.bits, ha1, ha2, ho1, ho2, bit_on hf1, go_sem, Nat.reduceAdd, Nat.reduceSub, Nat.reduceMul, Nat.reduceMod, Nat.reduceLT, Nat.reduceLeDiff, Nat.reduceEqDiff, Nat.reduceBEq, Nat.reduceDiv, Int.reduceLT, Int.reduceLE, Int.reduceToNat, Int.reduceNeg, Int.reduceEq, ↓reduceIte, reduceCtorEq, ↓reduceDIte, Bool.false_eq_true, Bool.true_eq_false, ne_eq, not_true_eq_false, not_false_eq_true, Bool.true_or, Bool.false_or, Bool.or_true, Bool.or_false, Bool.true_and, Bool.false_and, Bool.and_true, Bool.and_false, Bool.not_true, Bool.not_false, Bool.not_eq_false', Bool.not_eq_true', and_true, true_and, and_false, false_and, or_true, true_or, or_false, false_or, and_self, or_self, decide_eq_true_eq, decide_true, decide_false, decide_eq_false_iff_not, ite_not, if_true, if_false, eq_self]
    · by_cases he : xs.getD n [] = []
      · have he2 : ((xs.getD n []).length : Int) = 0 := by rw [he]; rfl
        refine .none 0 0 (by rw [mvR2, if_neg (fun h => h.2.1 he)]) ?_
        simp -implicitDefEqProofs only [call_112, hin, decide_true, lt_cast hn, zero_le_cast, Int.toNat_natCast, u64_small (show n < 1000000000000000000 by omega), cast_neg, min_64 (show n < 64 by omega), i64_pow (show n < 62 by omega), IntKind.bits, ha1, ha2, ho1, ho2, bit_off hf1, tr he2, go_sem, Nat.reduceAdd, Nat.reduceSub, Nat.reduceMul, Nat.reduceMod, Nat.reduceLT, Nat.reduceLeDiff, Nat.reduceEqDiff, Nat.reduceBEq, Nat.reduceDiv, Int.reduceLT, Int.reduceLE, Int.reduceToNat, Int.reduceNeg, Int.reduceEq, ↓reduceIte, reduceCtorEq, ↓reduceDIte, Bool.false_eq_true, Bool.true_eq_false, ne_eq, not_true_eq_false, not_false_eq_true, Bool.true_or, Bool.false_or, Bool.or_true, Bool.or_false, Bool.true_and, Bool.false_and, Bool.and_true, Bool.and_false, Bool.not_true, Bool.not_false, Bool.not_eq_false', Bool.not_eq_true', and_true, true_and, and_false, false_and, or_true, true_or, or_false, false_or, and_self, or_self, decide_eq_true_eq, decide_true, decide_false, decide_eq_false_iff_not, ite_not, if_true, if_false, eq_self]
      · have he2 : ¬ ((xs.getD n []).length : Int) = 0 := fun h => he (List.eq_nil_of_length_eq_zero (by omega))
        cases hk : needOk (xs.getD n []) f with
        | true =>
          rw [if_pos hk] at hlp
          refine .some (m := f ||| 2 ^ n) (t := s) (by rw [mvR2, if_pos ⟨hf1, he, hk⟩]) ?_
          simp -implicitDefEqProofs only [call_112, hin, decide_true, lt_cast hn, zero_le_cast, Int.toNat_natCast, u64_small (show n < 1000000000000000000 by omega), cast_neg, min_64 (show n < 64 by omega), i64_pow (show n < 62 by omega), IntKind.bits, ha1, ha2, ho1, ho2, bit_off hf1, fa he2, hlp, c1, go_sem, Nat.reduceAdd, Nat.reduceSub, Nat.reduceMul, Nat.reduceMod, Nat.reduceLT, Nat.reduceLeDiff, Nat.reduceEqDiff, Nat.reduceBEq, Nat.reduceDiv, Int.reduceLT, Int.reduceLE, Int.reduceToNat, Int.reduceNeg, Int.reduceEq, ↓reduceIte, reduceCtorEq, ↓reduceDIte, Bool.false_eq_true, Bool.true_eq_false, ne_eq, not_true_eq_false, not_false_eq_true, Bool.true_or, Bool.false_or, Bool.or_true, Bool.or_false, Bool.true_and, Bool.false_and, Bool.and_true, Bool.and_false, Bool.not_true, Bool.not_false, Bool.not_eq_false', Bool.not_eq_true', and_true, true_and, and_false, false_and, or_true, true_or, or_false, false_or, and_self, or_self, decide_eq_true_eq, decide_true, decide_false, decide_eq_false_iff_not, ite_not, if_true, if_false, eq_self]
        | false =>
          rw [if_neg (fun h => Bool.false_ne_true (hk.symm.trans h))] at hlp
          refine .none 0 0 (by rw [mvR2, if_neg (fun h => Bool.false_ne_true (hk.symm.trans h.2.2))]) ?_
          simp -implicitDefEqProofs only [call_112, hin, decide_true, lt_cast hn, zero_le_cast, Int.toNat_natCast, u64_small (show n < 1000000000000000000 by omega), cast_neg, min_64 (show n < 64 by omega), i64_pow (show n < 62 by omega), IntKind.bits, ha1, ha2, ho1, ho2, bit_off hf1, fa he2, hlp, go_sem, Nat.reduceAdd, Nat.reduceSub, Nat.reduceMul, Nat.reduceMod, Nat.reduceLT, Nat.reduceLeDiff, Nat.reduceEqDiff, Nat.reduceBEq, Nat.reduceDiv, Int.reduceLT, Int.reduceLE, Int.reduceToNat, Int.reduceNeg, Int.reduceEq, ↓reduceIte, reduceCtorEq, ↓reduceDIte, Bool.false_eq_true, Bool.true_eq_false, ne_eq, not_true_eq_false, not_false_eq_true, Bool.true_or, Bool.false_or, Bool.or_true, Bool.or_false, Bool.true_and, Bool.false_and, Bool.and_true, Bool.and_false, Bool.not_true, Bool.not_false, Bool.not_eq_false', Bool.not_eq_true', and_true, true_and, and_false, false_and, or_true, true_or, or_false, false_or, and_self, or_self, decide_eq_true_eq, decide_true, decide_false, decide_eq_false_iff_not, ite_not, if_true, if_false, eq_self]
  by_cases k3 : kind = 3
  · subst k3
    rcases hf0 with hf1 | hf1
    · refine .some (m := clr f n) (t := s) (by simp [mvR, hf1]) ?_
      simp -implicitDefEqProofs only [call_112, hin, decide_true, lt_cast hn, zero_le_cast, Int.toNat_natCast, u64_small (show n < 1000000000000000000 by omega), cast_neg, min_64 (show n < 64 by omega), i64_pow (show n < 62 by omega), IntKind.bits, ha1, ha2, ho1, ho2, bit_on hf1, hcl, c3, go_sem, Nat.reduceAdd, Nat.reduceSub, Nat.reduceMul, Nat.reduceMod, Nat.reduceLT, Nat.reduceLeDiff, Nat.reduceEqDiff, Nat.reduceBEq, Nat.reduceDiv, Int.reduceLT, Int.reduceLE, Int.reduceToNat, Int.reduceNeg, Int.reduceEq, ↓reduceIte, reduceCtorEq, ↓reduceDIte, Bool.false_eq_true, Bool.true_eq_false, ne_eq, not_true_eq_false, not_false_eq_true, Bool.true_or, Bool.false_or, Bool.or_true, Bool.or_false, Bool.true_and, Bool.false_and, Bool.and_true, Bool.and_false, Bool.not_true, Bool.not_false, Bool.not_eq_false', Bool.not_eq_true', and_true, true_and, and_false, false_and, or_true, true_or, or_false, false_or, and_self, or_self, decide_eq_true_eq, decide_true, decide_false, decide_eq_false_iff_not, ite_not, if_true, if_false, eq_self]
    · refine .none 0 0 (by simp [mvR, hf1]) ?_
      simp -implicitDefEqProofs only [call_112, hin, decide_true, lt_cast hn, zero_le_cast, Int.toNat_natCast, u64_small (show n < 1000000000000000000 by omega), cast_neg, min_64 (show n < 64 by omega), i64_pow (show n < 62 by omega), IntKind.bits, ha1, ha2, ho1, ho2, bit_off hf1, go_sem, Nat.reduceAdd, Nat.reduceSub, Nat.reduceMul, Nat.reduceMod, Nat.reduceLT, Nat.reduceLeDiff, Nat.reduceEqDiff, Nat.reduceBEq, Nat.reduceDiv, Int.reduceLT, Int.reduceLE, Int.reduceToNat, Int.reduceNeg, Int.reduceEq, ↓reduceIte, reduceCtorEq, ↓reduceDIte, Bool.false_eq_true, Bool.true_eq_false, ne_eq, not_true_eq_false, not_false_eq_true, Bool.true_or, Bool.false_or, Bool.or_true, Bool.or_false, Bool.true_and, Bool.false_and, Bool.and_true, Bool.and_false, Bool.not_true, Bool.not_false, Bool.not_eq_false', Bool.not_eq_true', and_true, true_and, and_false, false_and, or_true, true_or, or_false, false_or, and_self, or_self, decide_eq_true_eq, decide_true, decide_false, decide_eq_false_iff_not, ite_not, if_true, if_false, eq_self]
  · refine .none 0 0 (by simp [mvR, k0, k1, k2, k3]) ?_
    simp -implicitDefEqProofs only [call_112, hin, decide_true, lt_cast hn, zero_le_cast, Int.toNat_natCast, u64_small (show n < 1000000000000000000 by omega), cast_neg, min_64 (show n < 64 by omega), i64_pow (show n < 62 by omega), IntKind.bits, ha1, ha2, ho1, ho2, fa k0, fa k1, fa k2, fa k3, go_sem, Nat.reduceAdd, Nat.reduceSub, Nat.reduceMul, Nat.reduceMod, Nat.reduceLT, Nat.reduceLeDiff, Nat.reduceEqDiff, Nat.reduceBEq, Nat.reduceDiv, Int.reduceLT, Int.reduceLE, Int.reduceToNat, Int.reduceNeg, Int.reduceEq, ↓reduceIte, reduceCtorEq, ↓reduceDIte, Bool.false_eq_true, Bool.true_eq_false, ne_eq, not_true_eq_false, not_false_eq_true, Bool.true_or, Bool.false_or, Bool.or_true, Bool.or_false, Bool.true_and, Bool.false_and, Bool.and_true, Bool.and_false, Bool.not_true, Bool.not_false, Bool.not_eq_false', Bool.not_eq_true', and_true, true_and, and_false, false_and, or_true, true_or, or_false, false_or, and_self, or_self, decide_eq_true_eq, decide_true, decide_false, decide_eq_false_iff_not, ite_not, if_true, if_false, eq_self]
theorem smove (xs : List (List Int)) (P : Int) (f s : Nat) (hx : xs.length ≤ 6) (hf : f < 64) (hs : s < 64) (kind node : Int) (hv : ∀ l ∈ xs, ∀ x ∈ l, 0 ≤ x ∧ x < 6) (hc : ∀ l ∈ xs, l.length < 1000000000000000000) :
    ∃ a b, callOf pr 86 [.rp [LL xs], I P, I f, I s, .agg [I kind, I node]] [] = some (.tuple [I a, I b, B (mv xs P f s kind node).isSome], []) ∧ ∀ r, mv xs P f s kind node = some r → a = r.1 ∧ b = r.2 := by
  unfold mv
  by_cases h : 0 ≤ node ∧ node ≤ (xs.length : Int) - 1
  · rw [if_pos h]
    obtain ⟨n, rfl⟩ : ∃ n : Nat, node = (n : Int) := ⟨node.toNat, by omega⟩
    have hn : n < xs.length := by omega
    have hm : xs.getD n [] ∈ xs := by rw [getD_of_lt hn]; exact List.getElem_mem hn
    exact smove_in xs P f s n hx hn hf hs kind (hv _ hm) (hc _ hm)
  · rw [if_neg h]
    have hin : ((0 ≤ node ∧ node ≤ IntKind.i64.wrap ((xs.length : Int) - 1))) = False := fa (by rw [wrap_i] <;> omega)
    refine ⟨0, 0, ?_, fun r h => by cases h⟩
    rw [call_eq pr 86 _ _ Try.f86 fn_86 _ rfl _ ann_86 rfl]
    simp -implicitDefEqProofs only [call_112, hin, decide_false, Option.isSome_none, go_sem, Nat.reduceAdd, Nat.reduceSub, Nat.reduceMul, Nat.reduceMod, Nat.reduceLT, Nat.reduceLeDiff, Nat.reduceEqDiff, Nat.reduceBEq, Nat.reduceDiv, Int.reduceLT, Int.reduceLE, Int.reduceToNat, Int.reduceNeg, Int.reduceEq, ↓reduceIte, reduceCtorEq, ↓reduceDIte, Bool.false_eq_true, Bool.true_eq_false, ne_eq, not_true_eq_false, not_false_eq_true, Bool.true_or, Bool.false_or, Bool.or_true, Bool.or_false, Bool.true_and, Bool.false_and, Bool.and_true, Bool.and_false, Bool.not_true, Bool.not_false, Bool.not_eq_false', Bool.not_eq_true', and_true, true_and, and_false, false_and, or_true, true_or, or_false, false_or, and_self, or_self, decide_eq_true_eq, decide_true, decide_false, decide_eq_false_iff_not, ite_not, if_true, if_false, eq_self]
end Go.Proofs.Ythhankjdpbbncaa.PI
