/- Moves: the program's. -/
import Derived.Test.YthhankjdpbbncaaH1
namespace Go.Proofs.Ythhankjdpbbncaa.PI
open Go Go.Q
set_option maxRecDepth 100000
set_option maxHeartbeats 4000000
set_option linter.unusedSimpArgs false
set_option linter.unusedVariables false

theorem call_mask (l : List Int) (hx : ∀ x ∈ l, 0 ≤ x ∧ x < 6) (hb : l.length < 1000000000000000000) : callOf pr 62 [L l] [] = some (I (maskL 0 l), []) := by
  have h := loop_62 l hb (fun x hx' => by have := hx x hx'; omega) l [] 0 rfl (by omega)
  have h : loopOf pr 62 0 ⟨[(3, I 0), (6, L l), (7, I l.length), (8, I 0)], []⟩ = _ := h
  rw [call_eq pr 62 _ _ Try.f62 fn_62 _ rfl _ ann_62 rfl]
  simp -implicitDefEqProofs only [h, go_sem, Nat.reduceAdd, Nat.reduceSub, Nat.reduceMul, Nat.reduceMod, Nat.reduceLT, Nat.reduceLeDiff, Nat.reduceEqDiff, Nat.reduceBEq, Nat.reduceDiv, Int.reduceLT, Int.reduceLE, Int.reduceToNat, Int.reduceNeg, Int.reduceEq, ↓reduceIte, reduceCtorEq, ↓reduceDIte, Bool.false_eq_true, Bool.true_eq_false, ne_eq, not_true_eq_false, not_false_eq_true, Bool.true_or, Bool.false_or, Bool.or_true, Bool.or_false, Bool.true_and, Bool.false_and, Bool.and_true, Bool.and_false, Bool.not_true, Bool.not_false, Bool.not_eq_false', Bool.not_eq_true', and_true, true_and, and_false, false_and, or_true, true_or, or_false, false_or, and_self, or_self, decide_eq_true_eq, decide_true, decide_false, decide_eq_false_iff_not, ite_not, if_true, if_false, eq_self]
theorem maskL_bit (l : List Int) : ∀ (m k : Nat), (maskL m l).testBit k = (m.testBit k || l.any fun x => decide (x.toNat = k)) := by
  induction l with
  | nil => intro m k; simp [maskL]
  | cons x l ih =>
    intro m k
    have : maskL m (x :: l) = maskL (m ||| 2 ^ x.toNat) l := rfl
    rw [this, ih, Nat.testBit_or, Nat.testBit_two_pow, List.any_cons, Bool.or_assoc]
theorem maskL_six (l : List Int) (hx : ∀ x ∈ l, 0 ≤ x ∧ x < 6) : ∀ m, m < 64 → maskL m l < 64 := by
  induction l with
  | nil => exact fun m hm => hm
  | cons x l ih =>
    intro m hm
    have := hx x (by simp)
    exact ih (fun y hy => hx y (by simp [hy])) _ (or_lt hm (by omega))
theorem maskL_zero (l : List Int) : maskL 0 l = 0 ↔ l = [] := by
  constructor
  · intro h
    cases l with
    | nil => rfl
    | cons x l =>
      have := maskL_bit (x :: l) 0 x.toNat
      rw [h] at this
      simp at this
  · rintro rfl; rfl
theorem needs_iff (l : List Int) (f : Nat) : f &&& maskL 0 l = maskL 0 l ↔ needOk l f = true := by
  constructor
  · intro h
    unfold needOk
    rw [List.all_eq_true]
    intro x hx
    have h2 : (f &&& maskL 0 l).testBit x.toNat = (maskL 0 l).testBit x.toNat := by rw [h]
    rw [Nat.testBit_and, maskL_bit] at h2
    have h3 : (l.any fun y => decide (y.toNat = x.toNat)) = true := List.any_eq_true.2 ⟨x, hx, by simp⟩
    rw [h3] at h2
    simpa using h2
  · intro h
    unfold needOk at h
    rw [List.all_eq_true] at h
    apply Nat.eq_of_testBit_eq
    intro k
    rw [Nat.testBit_and]
    cases hk : (maskL 0 l).testBit k with
    | false => simp
    | true =>
      rw [maskL_bit] at hk
      simp only [Nat.zero_testBit, Bool.false_or, List.any_eq_true, decide_eq_true_eq] at hk
      obtain ⟨x, hx, rfl⟩ := hk
      rw [h x hx]; rfl
theorem or_on {f n : Nat} (h : f.testBit n = true) : f ||| 2 ^ n = f := by
  apply Nat.eq_of_testBit_eq
  intro k
  rw [Nat.testBit_or, Nat.testBit_two_pow]
  by_cases e : n = k
  · subst e; simp [h]
  · simp [e]
theorem or_off {f n : Nat} (h : f.testBit n = false) : ¬ ((f ||| 2 ^ n : Nat) : Int) = (f : Int) := by
  intro e
  have e : f ||| 2 ^ n = f := by omega
  have : (f ||| 2 ^ n).testBit n = f.testBit n := by rw [e]
  rw [Nat.testBit_or, Nat.testBit_two_pow, h] at this
  simp at this
theorem clr_bit (f n k : Nat) : (clr f n).testBit k = (decide (k < 6) && (f.testBit k && !(k == n))) := maskB_bit _ _ _
theorem clr_off {f n : Nat} (hf : f < 64) (h : f.testBit n = false) : clr f n = f := by
  apply Nat.eq_of_testBit_eq
  intro k
  rw [clr_bit]
  by_cases hk : k < 6
  · by_cases e : k = n
    · subst e; simp [h]
    · simp [hk, e]
  · have : f.testBit k = false := Nat.testBit_lt_two_pow (Nat.lt_of_lt_of_le hf (Nat.pow_le_pow_right (n := 2) (by omega) (by omega : 6 ≤ k)))
    simp [hk, this]
theorem clr_on {f n : Nat} (h : f.testBit n = true) : ¬ ((clr f n : Nat) : Int) = (f : Int) := by
  intro e
  have e : clr f n = f := by omega
  have : (clr f n).testBit n = f.testBit n := by rw [e]
  rw [clr_bit, h] at this
  simp at this

def Ans2 (c : Option (AV × Heap)) (P : Int) (R : Option (Nat × Nat)) : Prop := ∃ a b, c = some (.tuple [.agg [I a, I b], B (inPl P R).isSome], []) ∧ ∀ r, inPl P R = some r → a = r.1 ∧ b = r.2
theorem Ans2.none {c : Option (AV × Heap)} {P : Int} {R : Option (Nat × Nat)} (a b : Int) (hR : R = none) (h : c = some (.tuple [.agg [I a, I b], B false], [])) : Ans2 c P R := by
  subst hR
  exact ⟨a, b, h, fun r h => by cases h⟩
theorem Ans2.some {c : Option (AV × Heap)} {P : Int} {R : Option (Nat × Nat)} {m t : Nat} (hR : R = some (m, t)) (h : c = some (.tuple [.agg [I m, I t], B (decide ((bitsN m : Int) ≤ P))], [])) : Ans2 c P R := by
  subst hR
  refine ⟨m, t, by rw [h, inPl_isSome], fun r hr => ?_⟩
  have := inPl_some hr
  cases this
  exact ⟨rfl, rfl⟩
theorem len_bits (m : Nat) : callOf pr 63 [L (those m.testBit 6)] [] = some (I (bitsN m), []) := call_63 (those m.testBit 6)
theorem imove_in (xs : List (List Int)) (P : Int) (f s n : Nat) (hx : xs.length ≤ 6) (hn : n < xs.length) (hf : f < 64) (hs : s < 64) (kind : Int) (hv : ∀ x ∈ xs.getD n [], 0 ≤ x ∧ x < 6) (hl : (xs.getD n []).length < 1000000000000000000) :
    Ans2 (callOf pr 83 [.agg [LL xs], .agg [I f, I s], I P, .agg [I kind, I n]] []) P (mvR xs f s kind n) := by
  have hp : (2 : Nat) ^ n ≤ 2 ^ 5 := Nat.pow_le_pow_right (by omega) (by omega)
  have hin : ((n : Int) ≤ IntKind.i64.wrap ((xs.length : Int) - 1)) = True := tr (by rw [wrap_i] <;> omega)
  have ha1 := bits_and (a := f) (b := 2 ^ n) (by omega) (by omega)
  have ha2 := bits_and (a := s) (b := 2 ^ n) (by omega) (by omega)
  have ho1 := bits_or (a := f) (b := 2 ^ n) (by omega) (by omega)
  have ho2 := bits_or (a := s) (b := 2 ^ n) (by omega) (by omega)
  have hcl := andNot_clr (f := f) hf (show n < 6 by omega)
  have c1 := call_64 (f ||| 2 ^ n) (or_lt hf (by omega))
  have c2 := call_64 f hf
  have c3 := call_64 (clr f n) (clr_lt _ _)
  have hf0 : f.testBit n = true ∨ f.testBit n = false := by cases f.testBit n <;> simp
  have hs0 : s.testBit n = true ∨ s.testBit n = false := by cases s.testBit n <;> simp
  rw [call_eq pr 83 _ _ Try.f83 fn_83 _ rfl _ ann_83 rfl]
  by_cases k0 : kind = 0
  · subst k0
    rcases hs0 with hs1 | hs1
    · rcases hf0 with hf1 | hf1
      · refine .none (f : Int) s (by simp [mvR, hf1, hs1]) ?_
        simp -implicitDefEqProofs only [call_96, call_97, hin, decide_true, lt_cast hn, zero_le_cast, Int.toNat_natCast, cast_neg, min_64 (show n < 64 by omega), i64_pow (show n < 62 by omega), IntKind.bits, ha1, ha2, ho1, ho2, len_bits, BEq.rfl, bit_on hs1, or_on hf1, eq_self_iff_true, go_sem, Nat.reduceAdd, Nat.reduceSub, Nat.reduceMul, Nat.reduceMod, Nat.reduceLT, Nat.reduceLeDiff, Nat.reduceEqDiff, Nat.reduceBEq, Nat.reduceDiv, Int.reduceLT, Int.reduceLE, Int.reduceToNat, Int.reduceNeg, Int.reduceEq, ↓reduceIte, reduceCtorEq, ↓reduceDIte, Bool.false_eq_true, Bool.true_eq_false, ne_eq, not_true_eq_false, not_false_eq_true, Bool.true_or, Bool.false_or, Bool.or_true, Bool.or_false, Bool.true_and, Bool.false_and, Bool.and_true, Bool.and_false, Bool.not_true, Bool.not_false, Bool.not_eq_false', Bool.not_eq_true', and_true, true_and, and_false, false_and, or_true, true_or, or_false, false_or, and_self, or_self, decide_eq_true_eq, decide_true, decide_false, decide_eq_false_iff_not, ite_not, if_true, if_false, eq_self]
      · refine .some (m := f ||| 2 ^ n) (t := s) (by simp [mvR, hf1, hs1]) ?_
        simp -implicitDefEqProofs only [call_96, call_97, hin, decide_true, lt_cast hn, zero_le_cast, Int.toNat_natCast, cast_neg, min_64 (show n < 64 by omega), i64_pow (show n < 62 by omega), IntKind.bits, ha1, ha2, ho1, ho2, len_bits, BEq.rfl, bit_on hs1, fa (or_off hf1), c1, go_sem, Nat.reduceAdd, Nat.reduceSub, Nat.reduceMul, Nat.reduceMod, Nat.reduceLT, Nat.reduceLeDiff, Nat.reduceEqDiff, Nat.reduceBEq, Nat.reduceDiv, Int.reduceLT, Int.reduceLE, Int.reduceToNat, Int.reduceNeg, Int.reduceEq, ↓reduceIte, reduceCtorEq, ↓reduceDIte, Bool.false_eq_true, Bool.true_eq_false, ne_eq, not_true_eq_false, not_false_eq_true, Bool.true_or, Bool.false_or, Bool.or_true, Bool.or_false, Bool.true_and, Bool.false_and, Bool.and_true, Bool.and_false, Bool.not_true, Bool.not_false, Bool.not_eq_false', Bool.not_eq_true', and_true, true_and, and_false, false_and, or_true, true_or, or_false, false_or, and_self, or_self, decide_eq_true_eq, decide_true, decide_false, decide_eq_false_iff_not, ite_not, if_true, if_false, eq_self]
    · refine .none f s (by simp [mvR, hs1]) ?_
      simp -implicitDefEqProofs only [call_96, call_97, hin, decide_true, lt_cast hn, zero_le_cast, Int.toNat_natCast, cast_neg, min_64 (show n < 64 by omega), i64_pow (show n < 62 by omega), IntKind.bits, ha1, ha2, ho1, ho2, len_bits, BEq.rfl, bit_off hs1, go_sem, Nat.reduceAdd, Nat.reduceSub, Nat.reduceMul, Nat.reduceMod, Nat.reduceLT, Nat.reduceLeDiff, Nat.reduceEqDiff, Nat.reduceBEq, Nat.reduceDiv, Int.reduceLT, Int.reduceLE, Int.reduceToNat, Int.reduceNeg, Int.reduceEq, ↓reduceIte, reduceCtorEq, ↓reduceDIte, Bool.false_eq_true, Bool.true_eq_false, ne_eq, not_true_eq_false, not_false_eq_true, Bool.true_or, Bool.false_or, Bool.or_true, Bool.or_false, Bool.true_and, Bool.false_and, Bool.and_true, Bool.and_false, Bool.not_true, Bool.not_false, Bool.not_eq_false', Bool.not_eq_true', and_true, true_and, and_false, false_and, or_true, true_or, or_false, false_or, and_self, or_self, decide_eq_true_eq, decide_true, decide_false, decide_eq_false_iff_not, ite_not, if_true, if_false, eq_self]
  by_cases k1 : kind = 1
  · subst k1
    rcases hf0 with hf1 | hf1
    · rcases hs0 with hs1 | hs1
      · refine .none (f : Int) s (by simp [mvR, hf1, hs1]) ?_
        simp -implicitDefEqProofs only [call_96, call_97, hin, decide_true, lt_cast hn, zero_le_cast, Int.toNat_natCast, cast_neg, min_64 (show n < 64 by omega), i64_pow (show n < 62 by omega), IntKind.bits, ha1, ha2, ho1, ho2, len_bits, BEq.rfl, bit_on hf1, or_on hs1, eq_self_iff_true, go_sem, Nat.reduceAdd, Nat.reduceSub, Nat.reduceMul, Nat.reduceMod, Nat.reduceLT, Nat.reduceLeDiff, Nat.reduceEqDiff, Nat.reduceBEq, Nat.reduceDiv, Int.reduceLT, Int.reduceLE, Int.reduceToNat, Int.reduceNeg, Int.reduceEq, ↓reduceIte, reduceCtorEq, ↓reduceDIte, Bool.false_eq_true, Bool.true_eq_false, ne_eq, not_true_eq_false, not_false_eq_true, Bool.true_or, Bool.false_or, Bool.or_true, Bool.or_false, Bool.true_and, Bool.false_and, Bool.and_true, Bool.and_false, Bool.not_true, Bool.not_false, Bool.not_eq_false', Bool.not_eq_true', and_true, true_and, and_false, false_and, or_true, true_or, or_false, false_or, and_self, or_self, decide_eq_true_eq, decide_true, decide_false, decide_eq_false_iff_not, ite_not, if_true, if_false, eq_self]
      · refine .some (m := f) (t := s ||| 2 ^ n) (by simp [mvR, hf1, hs1]) ?_
        simp -implicitDefEqProofs only [call_96, call_97, hin, decide_true, lt_cast hn, zero_le_cast, Int.toNat_natCast, cast_neg, min_64 (show n < 64 by omega), i64_pow (show n < 62 by omega), IntKind.bits, ha1, ha2, ho1, ho2, len_bits, BEq.rfl, bit_on hf1, fa (or_off hs1), c2, go_sem, Nat.reduceAdd, Nat.reduceSub, Nat.reduceMul, Nat.reduceMod, Nat.reduceLT, Nat.reduceLeDiff, Nat.reduceEqDiff, Nat.reduceBEq, Nat.reduceDiv, Int.reduceLT, Int.reduceLE, Int.reduceToNat, Int.reduceNeg, Int.reduceEq, ↓reduceIte, reduceCtorEq, ↓reduceDIte, Bool.false_eq_true, Bool.true_eq_false, ne_eq, not_true_eq_false, not_false_eq_true, Bool.true_or, Bool.false_or, Bool.or_true, Bool.or_false, Bool.true_and, Bool.false_and, Bool.and_true, Bool.and_false, Bool.not_true, Bool.not_false, Bool.not_eq_false', Bool.not_eq_true', and_true, true_and, and_false, false_and, or_true, true_or, or_false, false_or, and_self, or_self, decide_eq_true_eq, decide_true, decide_false, decide_eq_false_iff_not, ite_not, if_true, if_false, eq_self]
    · refine .none f s (by simp [mvR, hf1]) ?_
      simp -implicitDefEqProofs only [call_96, call_97, hin, decide_true, lt_cast hn, zero_le_cast, Int.toNat_natCast, cast_neg, min_64 (show n < 64 by omega), i64_pow (show n < 62 by omega), IntKind.bits, ha1, ha2, ho1, ho2, len_bits, BEq.rfl, bit_off hf1, go_sem, Nat.reduceAdd, Nat.reduceSub, Nat.reduceMul, Nat.reduceMod, Nat.reduceLT, Nat.reduceLeDiff, Nat.reduceEqDiff, Nat.reduceBEq, Nat.reduceDiv, Int.reduceLT, Int.reduceLE, Int.reduceToNat, Int.reduceNeg, Int.reduceEq, ↓reduceIte, reduceCtorEq, ↓reduceDIte, Bool.false_eq_true, Bool.true_eq_false, ne_eq, not_true_eq_false, not_false_eq_true, Bool.true_or, Bool.false_or, Bool.or_true, Bool.or_false, Bool.true_and, Bool.false_and, Bool.and_true, Bool.and_false, Bool.not_true, Bool.not_false, Bool.not_eq_false', Bool.not_eq_true', and_true, true_and, and_false, false_and, or_true, true_or, or_false, false_or, and_self, or_self, decide_eq_true_eq, decide_true, decide_false, decide_eq_false_iff_not, ite_not, if_true, if_false, eq_self]
  by_cases k2 : kind = 2
  · subst k2
    have hm := call_mask (xs.getD n []) hv hl
    have hmlt := maskL_six (xs.getD n []) hv 0 (by omega)
    have han := bits_and (a := f) (b := maskL 0 (xs.getD n [])) (by omega) (by omega)
    by_cases he : xs.getD n [] = []
    · have h0 : ((maskL 0 (xs.getD n []) : Nat) : Int) = 0 := by rw [(maskL_zero _).2 he]; rfl
      refine .none f s (by rw [mvR2, if_neg (fun h => h.2.1 he)]) ?_
      simp -implicitDefEqProofs only [call_96, call_97, hin, decide_true, lt_cast hn, zero_le_cast, Int.toNat_natCast, cast_neg, min_64 (show n < 64 by omega), i64_pow (show n < 62 by omega), IntKind.bits, ha1, ha2, ho1, ho2, len_bits, BEq.rfl, hm, tr h0, go_sem, Nat.reduceAdd, Nat.reduceSub, Nat.reduceMul, Nat.reduceMod, Nat.reduceLT, Nat.reduceLeDiff, Nat.reduceEqDiff, Nat.reduceBEq, Nat.reduceDiv, Int.reduceLT, Int.reduceLE, Int.reduceToNat, Int.reduceNeg, Int.reduceEq, ↓reduceIte, reduceCtorEq, ↓reduceDIte, Bool.false_eq_true, Bool.true_eq_false, ne_eq, not_true_eq_false, not_false_eq_true, Bool.true_or, Bool.false_or, Bool.or_true, Bool.or_false, Bool.true_and, Bool.false_and, Bool.and_true, Bool.and_false, Bool.not_true, Bool.not_false, Bool.not_eq_false', Bool.not_eq_true', and_true, true_and, and_false, false_and, or_true, true_or, or_false, false_or, and_self, or_self, decide_eq_true_eq, decide_true, decide_false, decide_eq_false_iff_not, ite_not, if_true, if_false, eq_self]
    · have h0 : ¬ ((maskL 0 (xs.getD n []) : Nat) : Int) = 0 := fun h => he ((maskL_zero _).1 (by omega))
      cases hk : needOk (xs.getD n []) f with
      | false =>
        have h1 : ¬ ((f &&& maskL 0 (xs.getD n []) : Nat) : Int) = ((maskL 0 (xs.getD n []) : Nat) : Int) := fun h => Bool.false_ne_true (hk.symm.trans ((needs_iff _ _).1 (by omega)))
        refine .none f s (by rw [mvR2, if_neg (fun h => Bool.false_ne_true (hk.symm.trans h.2.2))]) ?_
        simp -implicitDefEqProofs only [call_96, call_97, hin, decide_true, lt_cast hn, zero_le_cast, Int.toNat_natCast, cast_neg, min_64 (show n < 64 by omega), i64_pow (show n < 62 by omega), IntKind.bits, ha1, ha2, ho1, ho2, len_bits, BEq.rfl, hm, fa h0, han, fa h1, go_sem, Nat.reduceAdd, Nat.reduceSub, Nat.reduceMul, Nat.reduceMod, Nat.reduceLT, Nat.reduceLeDiff, Nat.reduceEqDiff, Nat.reduceBEq, Nat.reduceDiv, Int.reduceLT, Int.reduceLE, Int.reduceToNat, Int.reduceNeg, Int.reduceEq, ↓reduceIte, reduceCtorEq, ↓reduceDIte, Bool.false_eq_true, Bool.true_eq_false, ne_eq, not_true_eq_false, not_false_eq_true, Bool.true_or, Bool.false_or, Bool.or_true, Bool.or_false, Bool.true_and, Bool.false_and, Bool.and_true, Bool.and_false, Bool.not_true, Bool.not_false, Bool.not_eq_false', Bool.not_eq_true', and_true, true_and, and_false, false_and, or_true, true_or, or_false, false_or, and_self, or_self, decide_eq_true_eq, decide_true, decide_false, decide_eq_false_iff_not, ite_not, if_true, if_false, eq_self]
      | true =>
        have h1 : f &&& maskL 0 (xs.getD n []) = maskL 0 (xs.getD n []) := (needs_iff _ _).2 hk
        rw [h1] at han
        rcases hf0 with hf1 | hf1
        · refine .none (f : Int) s (by rw [mvR2, if_neg (fun h => Bool.false_ne_true (h.1.symm.trans hf1))]) ?_
          simp -implicitDefEqProofs only [call_96, call_97, hin, decide_true, lt_cast hn, zero_le_cast, Int.toNat_natCast, cast_neg, min_64 (show n < 64 by omega), i64_pow (show n < 62 by omega), IntKind.bits, ha1, ha2, ho1, ho2, len_bits, BEq.rfl, hm, fa h0, han, or_on hf1, eq_self_iff_true, go_sem, Nat.reduceAdd, Nat.reduceSub, Nat.reduceMul, Nat.reduceMod, Nat.reduceLT, Nat.reduceLeDiff, Nat.reduceEqDiff, Nat.reduceBEq, Nat.reduceDiv, Int.reduceLT, Int.reduceLE, Int.reduceToNat, Int.reduceNeg, Int.reduceEq, ↓reduceIte, reduceCtorEq, ↓reduceDIte, Bool.false_eq_true, Bool.true_eq_false, ne_eq, not_true_eq_false, not_false_eq_true, Bool.true_or, Bool.false_or, Bool.or_true, Bool.or_false, Bool.true_and, Bool.false_and, Bool.and_true, Bool.and_false, Bool.not_true, Bool.not_false, Bool.not_eq_false', Bool.not_eq_true', and_true, true_and, and_false, false_and, or_true, true_or, or_false, false_or, and_self, or_self, decide_eq_true_eq, decide_true, decide_false, decide_eq_false_iff_not, ite_not, if_true, if_false, eq_self]
        · refine .some (m := f ||| 2 ^ n) (t := s) (by rw [mvR2, if_pos ⟨hf1, he, hk⟩]) ?_
          simp -implicitDefEqProofs only [call_96, call_97, hin, decide_true, lt_cast hn, zero_le_cast, Int.toNat_natCast, cast_neg, min_64 (show n < 64 by omega), i64_pow (show n < 62 by omega), IntKind.bits, ha1, ha2, ho1, ho2, len_bits, BEq.rfl, hm, fa h0, han, fa (or_off hf1), c1, go_sem, Nat.reduceAdd, Nat.reduceSub, Nat.reduceMul, Nat.reduceMod, Nat.reduceLT, Nat.reduceLeDiff, Nat.reduceEqDiff, Nat.reduceBEq, Nat.reduceDiv, Int.reduceLT, Int.reduceLE, Int.reduceToNat, Int.reduceNeg, Int.reduceEq, ↓reduceIte, reduceCtorEq, ↓reduceDIte, Bool.false_eq_true, Bool.true_eq_false, ne_eq, not_true_eq_false, not_false_eq_true, Bool.true_or, Bool.false_or, Bool.or_true, Bool.or_false, Bool.true_and, Bool.false_and, Bool.and_true, Bool.and_false, Bool.not_true, Bool.not_false, Bool.not_eq_false', Bool.not_eq_true', and_true, true_and, and_false, false_and, or_true, true_or, or_false, false_or, and_self, or_self, decide_eq_true_eq, decide_true, decide_false, decide_eq_false_iff_not, ite_not, if_true, if_false, eq_self]
  by_cases k3 : kind = 3
  · subst k3
    rcases hf0 with hf1 | hf1
    · refine .some (m := clr f n) (t := s) (by simp [mvR, hf1]) ?_
      simp -implicitDefEqProofs only [call_96, call_97, hin, decide_true, lt_cast hn, zero_le_cast, Int.toNat_natCast, cast_neg, min_64 (show n < 64 by omega), i64_pow (show n < 62 by omega), IntKind.bits, ha1, ha2, ho1, ho2, len_bits, BEq.rfl, hcl, fa (clr_on hf1), c3, go_sem, Nat.reduceAdd, Nat.reduceSub, Nat.reduceMul, Nat.reduceMod, Nat.reduceLT, Nat.reduceLeDiff, Nat.reduceEqDiff, Nat.reduceBEq, Nat.reduceDiv, Int.reduceLT, Int.reduceLE, Int.reduceToNat, Int.reduceNeg, Int.reduceEq, ↓reduceIte, reduceCtorEq, ↓reduceDIte, Bool.false_eq_true, Bool.true_eq_false, ne_eq, not_true_eq_false, not_false_eq_true, Bool.true_or, Bool.false_or, Bool.or_true, Bool.or_false, Bool.true_and, Bool.false_and, Bool.and_true, Bool.and_false, Bool.not_true, Bool.not_false, Bool.not_eq_false', Bool.not_eq_true', and_true, true_and, and_false, false_and, or_true, true_or, or_false, false_or, and_self, or_self, decide_eq_true_eq, decide_true, decide_false, decide_eq_false_iff_not, ite_not, if_true, if_false, eq_self]
    · refine .none (f : Int) s (by simp [mvR, hf1]) ?_
      simp -implicitDefEqProofs only [call_96, call_97, hin, decide_true, lt_cast hn, zero_le_cast, Int.toNat_natCast, cast_neg, min_64 (show n < 64 by omega), i64_pow (show n < 62 by omega), IntKind.bits, ha1, ha2, ho1, ho2, len_bits, BEq.rfl, hcl, clr_off hf hf1, eq_self_iff_true, go_sem, Nat.reduceAdd, Nat.reduceSub, Nat.reduceMul, Nat.reduceMod, Nat.reduceLT, Nat.reduceLeDiff, Nat.reduceEqDiff, Nat.reduceBEq, Nat.reduceDiv, Int.reduceLT, Int.reduceLE, Int.reduceToNat, Int.reduceNeg, Int.reduceEq, ↓reduceIte, reduceCtorEq, ↓reduceDIte, Bool.false_eq_true, Bool.true_eq_false, ne_eq, not_true_eq_false, not_false_eq_true, Bool.true_or, Bool.false_or, Bool.or_true, Bool.or_false, Bool.true_and, Bool.false_and, Bool.and_true, Bool.and_false, Bool.not_true, Bool.not_false, Bool.not_eq_false', Bool.not_eq_true', and_true, true_and, and_false, false_and, or_true, true_or, or_false, false_or, and_self, or_self, decide_eq_true_eq, decide_true, decide_false, decide_eq_false_iff_not, ite_not, if_true, if_false, eq_self]
  · refine .none f s (by simp [mvR, k0, k1, k2, k3]) ?_
    simp -implicitDefEqProofs only [call_96, call_97, hin, decide_true, lt_cast hn, zero_le_cast, Int.toNat_natCast, cast_neg, min_64 (show n < 64 by omega), i64_pow (show n < 62 by omega), IntKind.bits, ha1, ha2, ho1, ho2, len_bits, BEq.rfl, fa k0, fa k1, fa k2, fa k3, go_sem, Nat.reduceAdd, Nat.reduceSub, Nat.reduceMul, Nat.reduceMod, Nat.reduceLT, Nat.reduceLeDiff, Nat.reduceEqDiff, Nat.reduceBEq, Nat.reduceDiv, Int.reduceLT, Int.reduceLE, Int.reduceToNat, Int.reduceNeg, Int.reduceEq, ↓reduceIte, reduceCtorEq, ↓reduceDIte, Bool.false_eq_true, Bool.true_eq_false, ne_eq, not_true_eq_false, not_false_eq_true, Bool.true_or, Bool.false_or, Bool.or_true, Bool.or_false, Bool.true_and, Bool.false_and, Bool.and_true, Bool.and_false, Bool.not_true, Bool.not_false, Bool.not_eq_false', Bool.not_eq_true', and_true, true_and, and_false, false_and, or_true, true_or, or_false, false_or, and_self, or_self, decide_eq_true_eq, decide_true, decide_false, decide_eq_false_iff_not, ite_not, if_true, if_false, eq_self]
theorem imove (xs : List (List Int)) (P : Int) (f s : Nat) (hx : xs.length ≤ 6) (hf : f < 64) (hs : s < 64) (kind node : Int) (hv : ∀ l ∈ xs, ∀ x ∈ l, 0 ≤ x ∧ x < 6) (hc : ∀ l ∈ xs, l.length < 1000000000000000000) :
    ∃ a b, callOf pr 83 [.agg [LL xs], .agg [I f, I s], I P, .agg [I kind, I node]] [] = some (.tuple [.agg [I a, I b], B (mv xs P f s kind node).isSome], []) ∧ ∀ r, mv xs P f s kind node = some r → a = r.1 ∧ b = r.2 := by
  unfold mv
  by_cases h : 0 ≤ node ∧ node ≤ (xs.length : Int) - 1
  · rw [if_pos h]
    obtain ⟨n, rfl⟩ : ∃ n : Nat, node = (n : Int) := ⟨node.toNat, by omega⟩
    have hn : n < xs.length := by omega
    have hm : xs.getD n [] ∈ xs := by rw [getD_of_lt hn]; exact List.getElem_mem hn
    exact imove_in xs P f s n hx hn hf hs kind (hv _ hm) (hc _ hm)
  · rw [if_neg h]
    have hin : ((0 ≤ node ∧ node ≤ IntKind.i64.wrap ((xs.length : Int) - 1))) = False := fa (by rw [wrap_i] <;> omega)
    refine ⟨f, s, ?_, fun r h => by cases h⟩
    rw [call_eq pr 83 _ _ Try.f83 fn_83 _ rfl _ ann_83 rfl]
    simp -implicitDefEqProofs only [call_96, call_97, hin, decide_false, Option.isSome_none, go_sem, Nat.reduceAdd, Nat.reduceSub, Nat.reduceMul, Nat.reduceMod, Nat.reduceLT, Nat.reduceLeDiff, Nat.reduceEqDiff, Nat.reduceBEq, Nat.reduceDiv, Int.reduceLT, Int.reduceLE, Int.reduceToNat, Int.reduceNeg, Int.reduceEq, ↓reduceIte, reduceCtorEq, ↓reduceDIte, Bool.false_eq_true, Bool.true_eq_false, ne_eq, not_true_eq_false, not_false_eq_true, Bool.true_or, Bool.false_or, Bool.or_true, Bool.or_false, Bool.true_and, Bool.false_and, Bool.and_true, Bool.and_false, Bool.not_true, Bool.not_false, Bool.not_eq_false', Bool.not_eq_true', and_true, true_and, and_false, false_and, or_true, true_or, or_false, false_or, and_self, or_self, decide_eq_true_eq, decide_true, decide_false, decide_eq_false_iff_not, ite_not, if_true, if_false, eq_self]
end Go.Proofs.Ythhankjdpbbncaa.PI
