/- Policies and uses that are valid. -/
import Derived.Test.YtfooniikopekoaaP2
namespace Go.Proofs.Ytfooniikopekoaa.PI
open Go Go.Q
set_option maxRecDepth 100000
set_option maxHeartbeats 4000000
set_option linter.unusedSimpArgs false
set_option linter.unusedVariables false
def validP (hit : List (List Int)) (miss : List Int) : Bool := decide (1 ≤ miss.length ∧ miss.length ≤ 6 ∧ hit.length = miss.length) && (orderB miss miss.length && hit.all fun l => orderB l miss.length)
theorem loop_is (hit : List (List Int)) (miss : List Int) (n : Nat) (hn : n < 1000000) (hc : ∀ l ∈ hit, l.length < 1000000000000000000) : ∀ (suf pre : List (List Int)), hit = pre ++ suf → hit.length = n →
    loopOf pr 48 0 ⟨[(0, .rp [LL hit, L miss]), (3, I n), (4, I pre.length)], []⟩ = if suf.all (fun l => orderB l n) = true then some (.exit 0, ⟨[(0, .rp [LL hit, L miss]), (3, I n), (4, I n)], []⟩) else some (.ret, ⟨[(2, B false)], []⟩)
  | [], pre, h, hl => by
    have : pre.length = n := by rw [← hl, h]; simp
    rw [this, if_pos (by simp), loop_eq pr 48 0 _ Try.f48 fn_48 _ rfl _ ann_48 _ rfl]
    simp -implicitDefEqProofs only [Int.lt_irrefl, go_sem, Nat.reduceAdd, Nat.reduceSub, Nat.reduceMul, Nat.reduceMod, Nat.reduceLT, Nat.reduceLeDiff, Nat.reduceEqDiff, Nat.reduceBEq, Nat.reduceDiv, Int.reduceLT, Int.reduceLE, Int.reduceToNat, Int.reduceNeg, Int.reduceEq, ↓reduceIte, reduceCtorEq, ↓reduceDIte, Bool.false_eq_true, Bool.true_eq_false, ne_eq, not_true_eq_false, not_false_eq_true, Bool.true_or, Bool.false_or, Bool.or_true, Bool.or_false, Bool.true_and, Bool.false_and, Bool.and_true, Bool.and_false, Bool.not_true, Bool.not_false, Bool.not_eq_false', Bool.not_eq_true', and_true, true_and, and_false, false_and, or_true, true_or, or_false, false_or, and_self, or_self, decide_eq_true_eq, decide_true, decide_false, decide_eq_false_iff_not, ite_not, if_true, if_false, eq_self]
  | x :: suf, pre, h, hl => by
    have hlen : hit.length = pre.length + (suf.length + 1) := by rw [h]; simp
    have hlt : ((pre.length : Int) < (n : Int)) = True := tr (by omega)
    have hlt2 : ((pre.length : Int) < (hit.length : Int)) = True := tr (by omega)
    have hw : IntKind.i64.wrap ((pre.length : Int) + 1) = ((pre.length + 1 : Nat) : Int) := by rw [wrap_i] <;> omega
    have hg : hit.getD pre.length [] = x := by rw [h]; simp
    have hs := call_sord x n hn (hc x (by rw [h]; simp))
    rw [← order_eq] at hs
    rw [loop_eq pr 48 0 _ Try.f48 fn_48 _ rfl _ ann_48 _ rfl]
    cases ho : orderB x n with
    | false =>
      rw [ho] at hs
      rw [if_neg (by simp [ho])]
      simp -implicitDefEqProofs only [hlt, hlt2, zero_le_cast, Int.toNat_natCast, hg, hs, go_sem, Nat.reduceAdd, Nat.reduceSub, Nat.reduceMul, Nat.reduceMod, Nat.reduceLT, Nat.reduceLeDiff, Nat.reduceEqDiff, Nat.reduceBEq, Nat.reduceDiv, Int.reduceLT, Int.reduceLE, Int.reduceToNat, Int.reduceNeg, Int.reduceEq, ↓reduceIte, reduceCtorEq, ↓reduceDIte, Bool.false_eq_true, Bool.true_eq_false, ne_eq, not_true_eq_false, not_false_eq_true, Bool.true_or, Bool.false_or, Bool.or_true, Bool.or_false, Bool.true_and, Bool.false_and, Bool.and_true, Bool.and_false, Bool.not_true, Bool.not_false, Bool.not_eq_false', Bool.not_eq_true', and_true, true_and, and_false, false_and, or_true, true_or, or_false, false_or, and_self, or_self, decide_eq_true_eq, decide_true, decide_false, decide_eq_false_iff_not, ite_not, if_true, if_false, eq_self]
    | true =>
      rw [ho] at hs
      have ih := loop_is hit miss n hn hc suf (pre ++ [x]) (by rw [h]; simp) hl
      have e1 : (pre ++ [x]).length = pre.length + 1 := by simp
      have e3 : ((x :: suf).all fun l => orderB l n) = suf.all fun l => orderB l n := by simp [ho]
      rw [e1] at ih
      rw [e3]
      simp -implicitDefEqProofs only [hlt, hlt2, zero_le_cast, Int.toNat_natCast, hg, hs, hw, go_sem, Nat.reduceAdd, Nat.reduceSub, Nat.reduceMul, Nat.reduceMod, Nat.reduceLT, Nat.reduceLeDiff, Nat.reduceEqDiff, Nat.reduceBEq, Nat.reduceDiv, Int.reduceLT, Int.reduceLE, Int.reduceToNat, Int.reduceNeg, Int.reduceEq, ↓reduceIte, reduceCtorEq, ↓reduceDIte, Bool.false_eq_true, Bool.true_eq_false, ne_eq, not_true_eq_false, not_false_eq_true, Bool.true_or, Bool.false_or, Bool.or_true, Bool.or_false, Bool.true_and, Bool.false_and, Bool.and_true, Bool.and_false, Bool.not_true, Bool.not_false, Bool.not_eq_false', Bool.not_eq_true', and_true, true_and, and_false, false_and, or_true, true_or, or_false, false_or, and_self, or_self, decide_eq_true_eq, decide_true, decide_false, decide_eq_false_iff_not, ite_not, if_true, if_false, eq_self]
      exact ih
theorem call_is (hit : List (List Int)) (miss : List Int) (h1 : hit.length < 1000000000000000000) (h2 : miss.length < 1000000000000000000) (hc : ∀ l ∈ hit, l.length < 1000000000000000000) : callOf pr 48 [.rp [LL hit, L miss]] [] = some (B (validP hit miss), []) := by
  rw [call_eq pr 48 _ _ Try.f48 fn_48 _ rfl _ ann_48 rfl]
  by_cases g1 : (miss.length : Int) < 1
  · have hk : validP hit miss = false := by
      have : ¬ 1 ≤ miss.length := by omega
      simp [validP, this]
    simp -implicitDefEqProofs only [tr g1, hk, go_sem, Nat.reduceAdd, Nat.reduceSub, Nat.reduceMul, Nat.reduceMod, Nat.reduceLT, Nat.reduceLeDiff, Nat.reduceEqDiff, Nat.reduceBEq, Nat.reduceDiv, Int.reduceLT, Int.reduceLE, Int.reduceToNat, Int.reduceNeg, Int.reduceEq, ↓reduceIte, reduceCtorEq, ↓reduceDIte, Bool.false_eq_true, Bool.true_eq_false, ne_eq, not_true_eq_false, not_false_eq_true, Bool.true_or, Bool.false_or, Bool.or_true, Bool.or_false, Bool.true_and, Bool.false_and, Bool.and_true, Bool.and_false, Bool.not_true, Bool.not_false, Bool.not_eq_false', Bool.not_eq_true', and_true, true_and, and_false, false_and, or_true, true_or, or_false, false_or, and_self, or_self, decide_eq_true_eq, decide_true, decide_false, decide_eq_false_iff_not, ite_not, if_true, if_false, eq_self]
  by_cases g2 : 6 < (miss.length : Int)
  · have hk : validP hit miss = false := by
      have : ¬ miss.length ≤ 6 := by omega
      simp [validP, this]
    simp -implicitDefEqProofs only [fa g1, tr g2, hk, go_sem, Nat.reduceAdd, Nat.reduceSub, Nat.reduceMul, Nat.reduceMod, Nat.reduceLT, Nat.reduceLeDiff, Nat.reduceEqDiff, Nat.reduceBEq, Nat.reduceDiv, Int.reduceLT, Int.reduceLE, Int.reduceToNat, Int.reduceNeg, Int.reduceEq, ↓reduceIte, reduceCtorEq, ↓reduceDIte, Bool.false_eq_true, Bool.true_eq_false, ne_eq, not_true_eq_false, not_false_eq_true, Bool.true_or, Bool.false_or, Bool.or_true, Bool.or_false, Bool.true_and, Bool.false_and, Bool.and_true, Bool.and_false, Bool.not_true, Bool.not_false, Bool.not_eq_false', Bool.not_eq_true', and_true, true_and, and_false, false_and, or_true, true_or, or_false, false_or, and_self, or_self, decide_eq_true_eq, decide_true, decide_false, decide_eq_false_iff_not, ite_not, if_true, if_false, eq_self]
  by_cases g3 : (hit.length : Int) = (miss.length : Int)
  · have hs := call_sord miss miss.length (by omega) h2
    rw [← order_eq] at hs
    have hd : decide (1 ≤ miss.length ∧ miss.length ≤ 6 ∧ hit.length = miss.length) = true := decide_eq_true (by omega)
    cases ho : orderB miss miss.length with
    | false =>
      rw [ho] at hs
      have hk : validP hit miss = false := by simp only [validP, hd, ho]; rfl
      simp -implicitDefEqProofs only [fa g1, fa g2, tr g3, hs, hk, go_sem, Nat.reduceAdd, Nat.reduceSub, Nat.reduceMul, Nat.reduceMod, Nat.reduceLT, Nat.reduceLeDiff, Nat.reduceEqDiff, Nat.reduceBEq, Nat.reduceDiv, Int.reduceLT, Int.reduceLE, Int.reduceToNat, Int.reduceNeg, Int.reduceEq, ↓reduceIte, reduceCtorEq, ↓reduceDIte, Bool.false_eq_true, Bool.true_eq_false, ne_eq, not_true_eq_false, not_false_eq_true, Bool.true_or, Bool.false_or, Bool.or_true, Bool.or_false, Bool.true_and, Bool.false_and, Bool.and_true, Bool.and_false, Bool.not_true, Bool.not_false, Bool.not_eq_false', Bool.not_eq_true', and_true, true_and, and_false, false_and, or_true, true_or, or_false, false_or, and_self, or_self, decide_eq_true_eq, decide_true, decide_false, decide_eq_false_iff_not, ite_not, if_true, if_false, eq_self]
    | true =>
      rw [ho] at hs
      have h := loop_is hit miss miss.length (by omega) hc hit [] rfl (by omega)
      have h : loopOf pr 48 0 ⟨[(0, .rp [LL hit, L miss]), (3, I miss.length), (4, I 0)], []⟩ = _ := h
      have hk : validP hit miss = hit.all fun l => orderB l miss.length := by simp only [validP, hd, ho]; rfl
      cases ha : hit.all fun l => orderB l miss.length with
      | true =>
        rw [ha, if_pos rfl] at h
        rw [ha] at hk
        simp -implicitDefEqProofs only [fa g1, fa g2, tr g3, hs, h, hk, go_sem, Nat.reduceAdd, Nat.reduceSub, Nat.reduceMul, Nat.reduceMod, Nat.reduceLT, Nat.reduceLeDiff, Nat.reduceEqDiff, Nat.reduceBEq, Nat.reduceDiv, Int.reduceLT, Int.reduceLE, Int.reduceToNat, Int.reduceNeg, Int.reduceEq, ↓reduceIte, reduceCtorEq, ↓reduceDIte, Bool.false_eq_true, Bool.true_eq_false, ne_eq, not_true_eq_false, not_false_eq_true, Bool.true_or, Bool.false_or, Bool.or_true, Bool.or_false, Bool.true_and, Bool.false_and, Bool.and_true, Bool.and_false, Bool.not_true, Bool.not_false, Bool.not_eq_false', Bool.not_eq_true', and_true, true_and, and_false, false_and, or_true, true_or, or_false, false_or, and_self, or_self, decide_eq_true_eq, decide_true, decide_false, decide_eq_false_iff_not, ite_not, if_true, if_false, eq_self]
      | false =>
        rw [ha, if_neg (by simp)] at h
        rw [ha] at hk
        simp -implicitDefEqProofs only [fa g1, fa g2, tr g3, hs, h, hk, go_sem, Nat.reduceAdd, Nat.reduceSub, Nat.reduceMul, Nat.reduceMod, Nat.reduceLT, Nat.reduceLeDiff, Nat.reduceEqDiff, Nat.reduceBEq, Nat.reduceDiv, Int.reduceLT, Int.reduceLE, Int.reduceToNat, Int.reduceNeg, Int.reduceEq, ↓reduceIte, reduceCtorEq, ↓reduceDIte, Bool.false_eq_true, Bool.true_eq_false, ne_eq, not_true_eq_false, not_false_eq_true, Bool.true_or, Bool.false_or, Bool.or_true, Bool.or_false, Bool.true_and, Bool.false_and, Bool.and_true, Bool.and_false, Bool.not_true, Bool.not_false, Bool.not_eq_false', Bool.not_eq_true', and_true, true_and, and_false, false_and, or_true, true_or, or_false, false_or, and_self, or_self, decide_eq_true_eq, decide_true, decide_false, decide_eq_false_iff_not, ite_not, if_true, if_false, eq_self]
  · have hk : validP hit miss = false := by
      have : ¬ hit.length = miss.length := by omega
      simp [validP, this]
    simp -implicitDefEqProofs only [fa g1, fa g2, fa g3, hk, go_sem, Nat.reduceAdd, Nat.reduceSub, Nat.reduceMul, Nat.reduceMod, Nat.reduceLT, Nat.reduceLeDiff, Nat.reduceEqDiff, Nat.reduceBEq, Nat.reduceDiv, Int.reduceLT, Int.reduceLE, Int.reduceToNat, Int.reduceNeg, Int.reduceEq, ↓reduceIte, reduceCtorEq, ↓reduceDIte, Bool.false_eq_true, Bool.true_eq_false, ne_eq, not_true_eq_false, not_false_eq_true, Bool.true_or, Bool.false_or, Bool.or_true, Bool.or_false, Bool.true_and, Bool.false_and, Bool.and_true, Bool.and_false, Bool.not_true, Bool.not_false, Bool.not_eq_false', Bool.not_eq_true', and_true, true_and, and_false, false_and, or_true, true_or, or_false, false_or, and_self, or_self, decide_eq_true_eq, decide_true, decide_false, decide_eq_false_iff_not, ite_not, if_true, if_false, eq_self]
theorem call_ways (n : Int) : callOf pr 84 [I n] [] = some (B (decide (1 ≤ n ∧ n ≤ 6)), []) := by
  rw [call_eq pr 84 _ _ Try.f84 fn_84 _ rfl _ ann_84 rfl]
  simp -implicitDefEqProofs only [call_100, go_sem, Nat.reduceAdd, Nat.reduceSub, Nat.reduceMul, Nat.reduceMod, Nat.reduceLT, Nat.reduceLeDiff, Nat.reduceEqDiff, Nat.reduceBEq, Nat.reduceDiv, Int.reduceLT, Int.reduceLE, Int.reduceToNat, Int.reduceNeg, Int.reduceEq, ↓reduceIte, reduceCtorEq, ↓reduceDIte, Bool.false_eq_true, Bool.true_eq_false, ne_eq, not_true_eq_false, not_false_eq_true, Bool.true_or, Bool.false_or, Bool.or_true, Bool.or_false, Bool.true_and, Bool.false_and, Bool.and_true, Bool.and_false, Bool.not_true, Bool.not_false, Bool.not_eq_false', Bool.not_eq_true', and_true, true_and, and_false, false_and, or_true, true_or, or_false, false_or, and_self, or_self, decide_eq_true_eq, decide_true, decide_false, decide_eq_false_iff_not, ite_not, if_true, if_false, eq_self]
theorem call_vpc (l : List Int) (n : Nat) (h1 : 1 ≤ n) (hn : n < 1000000) (hb : l.length < 1000000000000000000) : callOf pr 88 [L l, .rp [I n]] [] = some (B (!orderB l n), []) := by
  rw [call_eq pr 88 _ _ Try.f88 fn_88 _ rfl _ ann_88 rfl]
  simp -implicitDefEqProofs only [call_order l n h1 hn hb, go_sem, Nat.reduceAdd, Nat.reduceSub, Nat.reduceMul, Nat.reduceMod, Nat.reduceLT, Nat.reduceLeDiff, Nat.reduceEqDiff, Nat.reduceBEq, Nat.reduceDiv, Int.reduceLT, Int.reduceLE, Int.reduceToNat, Int.reduceNeg, Int.reduceEq, ↓reduceIte, reduceCtorEq, ↓reduceDIte, Bool.false_eq_true, Bool.true_eq_false, ne_eq, not_true_eq_false, not_false_eq_true, Bool.true_or, Bool.false_or, Bool.or_true, Bool.or_false, Bool.true_and, Bool.false_and, Bool.and_true, Bool.and_false, Bool.not_true, Bool.not_false, Bool.not_eq_false', Bool.not_eq_true', and_true, true_and, and_false, false_and, or_true, true_or, or_false, false_or, and_self, or_self, decide_eq_true_eq, decide_true, decide_false, decide_eq_false_iff_not, ite_not, if_true, if_false, eq_self]
theorem call_vp (hit : List (List Int)) (miss : List Int) (h1 : hit.length < 1000000000000000000) (h2 : miss.length < 1000000000000000000) (hc : ∀ l ∈ hit, l.length < 1000000000000000000) : callOf pr 44 [.agg [LL hit, L miss]] [] = some (B (validP hit miss), []) := by
  have hw := call_ways (miss.length : Int)
  rw [call_eq pr 44 _ _ Try.f44 fn_44 _ rfl _ ann_44 rfl]
  by_cases g1 : 1 ≤ (miss.length : Int) ∧ (miss.length : Int) ≤ 6
  · rw [decide_eq_true g1] at hw
    by_cases g3 : (hit.length : Int) = (miss.length : Int)
    · have hs := call_order miss miss.length (by omega) (by omega) h2
      have hd : decide (1 ≤ miss.length ∧ miss.length ≤ 6 ∧ hit.length = miss.length) = true := decide_eq_true (by omega)
      cases ho : orderB miss miss.length with
      | false =>
        rw [ho] at hs
        have hk : validP hit miss = false := by simp only [validP, hd, ho]; rfl
        simp -implicitDefEqProofs only [call_83, call_85, hw, tr g3, hs, hk, go_sem, Nat.reduceAdd, Nat.reduceSub, Nat.reduceMul, Nat.reduceMod, Nat.reduceLT, Nat.reduceLeDiff, Nat.reduceEqDiff, Nat.reduceBEq, Nat.reduceDiv, Int.reduceLT, Int.reduceLE, Int.reduceToNat, Int.reduceNeg, Int.reduceEq, ↓reduceIte, reduceCtorEq, ↓reduceDIte, Bool.false_eq_true, Bool.true_eq_false, ne_eq, not_true_eq_false, not_false_eq_true, Bool.true_or, Bool.false_or, Bool.or_true, Bool.or_false, Bool.true_and, Bool.false_and, Bool.and_true, Bool.and_false, Bool.not_true, Bool.not_false, Bool.not_eq_false', Bool.not_eq_true', and_true, true_and, and_false, false_and, or_true, true_or, or_false, false_or, and_self, or_self, decide_eq_true_eq, decide_true, decide_false, decide_eq_false_iff_not, ite_not, if_true, if_false, eq_self]
      | true =>
        rw [ho] at hs
        have h := call_87 hit h1 (fun l => !orderB l miss.length) 88 [.rp [I miss.length]] ⟨rfl, of_decide_eq_true rfl⟩ rfl (fun l hl => call_vpc l miss.length (by omega) (by omega) (hc l hl))
        have hk : validP hit miss = !(hit.any fun l => !orderB l miss.length) := by
          simp only [validP, hd, ho, Bool.true_and]
          exact List.all_eq_not_any_not
        simp -implicitDefEqProofs only [call_83, call_85, hw, tr g3, hs, h, hk, go_sem, Nat.reduceAdd, Nat.reduceSub, Nat.reduceMul, Nat.reduceMod, Nat.reduceLT, Nat.reduceLeDiff, Nat.reduceEqDiff, Nat.reduceBEq, Nat.reduceDiv, Int.reduceLT, Int.reduceLE, Int.reduceToNat, Int.reduceNeg, Int.reduceEq, ↓reduceIte, reduceCtorEq, ↓reduceDIte, Bool.false_eq_true, Bool.true_eq_false, ne_eq, not_true_eq_false, not_false_eq_true, Bool.true_or, Bool.false_or, Bool.or_true, Bool.or_false, Bool.true_and, Bool.false_and, Bool.and_true, Bool.and_false, Bool.not_true, Bool.not_false, Bool.not_eq_false', Bool.not_eq_true', and_true, true_and, and_false, false_and, or_true, true_or, or_false, false_or, and_self, or_self, decide_eq_true_eq, decide_true, decide_false, decide_eq_false_iff_not, ite_not, if_true, if_false, eq_self]
    · have hk : validP hit miss = false := by
        have : ¬ hit.length = miss.length := by omega
        simp [validP, this]
      simp -implicitDefEqProofs only [call_83, call_85, hw, fa g3, hk, go_sem, Nat.reduceAdd, Nat.reduceSub, Nat.reduceMul, Nat.reduceMod, Nat.reduceLT, Nat.reduceLeDiff, Nat.reduceEqDiff, Nat.reduceBEq, Nat.reduceDiv, Int.reduceLT, Int.reduceLE, Int.reduceToNat, Int.reduceNeg, Int.reduceEq, ↓reduceIte, reduceCtorEq, ↓reduceDIte, Bool.false_eq_true, Bool.true_eq_false, ne_eq, not_true_eq_false, not_false_eq_true, Bool.true_or, Bool.false_or, Bool.or_true, Bool.or_false, Bool.true_and, Bool.false_and, Bool.and_true, Bool.and_false, Bool.not_true, Bool.not_false, Bool.not_eq_false', Bool.not_eq_true', and_true, true_and, and_false, false_and, or_true, true_or, or_false, false_or, and_self, or_self, decide_eq_true_eq, decide_true, decide_false, decide_eq_false_iff_not, ite_not, if_true, if_false, eq_self]
  · rw [decide_eq_false g1] at hw
    have hk : validP hit miss = false := by
      have : ¬ (1 ≤ miss.length ∧ miss.length ≤ 6 ∧ hit.length = miss.length) := by omega
      simp only [validP, decide_eq_false this, Bool.false_and]
    simp -implicitDefEqProofs only [call_83, call_85, hw, hk, go_sem, Nat.reduceAdd, Nat.reduceSub, Nat.reduceMul, Nat.reduceMod, Nat.reduceLT, Nat.reduceLeDiff, Nat.reduceEqDiff, Nat.reduceBEq, Nat.reduceDiv, Int.reduceLT, Int.reduceLE, Int.reduceToNat, Int.reduceNeg, Int.reduceEq, ↓reduceIte, reduceCtorEq, ↓reduceDIte, Bool.false_eq_true, Bool.true_eq_false, ne_eq, not_true_eq_false, not_false_eq_true, Bool.true_or, Bool.false_or, Bool.or_true, Bool.or_false, Bool.true_and, Bool.false_and, Bool.and_true, Bool.and_false, Bool.not_true, Bool.not_false, Bool.not_eq_false', Bool.not_eq_true', and_true, true_and, and_false, false_and, or_true, true_or, or_false, false_or, and_self, or_self, decide_eq_true_eq, decide_true, decide_false, decide_eq_false_iff_not, ite_not, if_true, if_false, eq_self]

/-- Uses. -/
def addrB (a : Int) : Bool := decide (0 ≤ a ∧ a ≤ 63)
def validU (uses : List Int) : Bool := uses.all addrB && decide (uses.length ≤ 60)
theorem call_sa (a : Int) : callOf pr 91 [I a] [] = some (B (addrB a), []) := by
  rw [call_eq pr 91 _ _ Try.f91 fn_91 _ rfl _ ann_91 rfl]
  simp -implicitDefEqProofs only [call_113, addrB, go_sem, Nat.reduceAdd, Nat.reduceSub, Nat.reduceMul, Nat.reduceMod, Nat.reduceLT, Nat.reduceLeDiff, Nat.reduceEqDiff, Nat.reduceBEq, Nat.reduceDiv, Int.reduceLT, Int.reduceLE, Int.reduceToNat, Int.reduceNeg, Int.reduceEq, ↓reduceIte, reduceCtorEq, ↓reduceDIte, Bool.false_eq_true, Bool.true_eq_false, ne_eq, not_true_eq_false, not_false_eq_true, Bool.true_or, Bool.false_or, Bool.or_true, Bool.or_false, Bool.true_and, Bool.false_and, Bool.and_true, Bool.and_false, Bool.not_true, Bool.not_false, Bool.not_eq_false', Bool.not_eq_true', and_true, true_and, and_false, false_and, or_true, true_or, or_false, false_or, and_self, or_self, decide_eq_true_eq, decide_true, decide_false, decide_eq_false_iff_not, ite_not, if_true, if_false, eq_self]
theorem loop_su : ∀ (suf pre : List Int), pre.length + suf.length < 1000000000000000000 →
    loopOf pr 49 0 ⟨[(0, L (pre ++ suf)), (3, I pre.length)], []⟩ = if suf.all addrB = true then some (.exit 0, ⟨[(0, L (pre ++ suf)), (3, I ((pre.length + suf.length : Nat) : Int))], []⟩) else some (.ret, ⟨[(2, B false)], []⟩)
  | [], pre, hb => by
    rw [if_pos (by simp), loop_eq pr 49 0 _ Try.f49 fn_49 _ rfl _ ann_49 _ rfl]
    simp -implicitDefEqProofs only [Int.lt_irrefl, List.append_nil, Nat.add_zero, go_sem, Nat.reduceAdd, Nat.reduceSub, Nat.reduceMul, Nat.reduceMod, Nat.reduceLT, Nat.reduceLeDiff, Nat.reduceEqDiff, Nat.reduceBEq, Nat.reduceDiv, Int.reduceLT, Int.reduceLE, Int.reduceToNat, Int.reduceNeg, Int.reduceEq, ↓reduceIte, reduceCtorEq, ↓reduceDIte, Bool.false_eq_true, Bool.true_eq_false, ne_eq, not_true_eq_false, not_false_eq_true, Bool.true_or, Bool.false_or, Bool.or_true, Bool.or_false, Bool.true_and, Bool.false_and, Bool.and_true, Bool.and_false, Bool.not_true, Bool.not_false, Bool.not_eq_false', Bool.not_eq_true', and_true, true_and, and_false, false_and, or_true, true_or, or_false, false_or, and_self, or_self, decide_eq_true_eq, decide_true, decide_false, decide_eq_false_iff_not, ite_not, if_true, if_false, eq_self]
  | x :: suf, pre, hb => by
    simp only [List.length_cons] at hb
    have hw : IntKind.i64.wrap ((pre.length : Int) + 1) = ((pre.length + 1 : Nat) : Int) := by rw [wrap_i] <;> omega
    have hs := call_sa x
    rw [loop_eq pr 49 0 _ Try.f49 fn_49 _ rfl _ ann_49 _ rfl]
    cases ho : addrB x with
    | false =>
      rw [ho] at hs
      rw [if_neg (by simp [ho])]
      simp -implicitDefEqProofs only [getD_app, lt_app, ltn_app, zero_le_cast, Int.toNat_natCast, hs, go_sem, Nat.reduceAdd, Nat.reduceSub, Nat.reduceMul, Nat.reduceMod, Nat.reduceLT, Nat.reduceLeDiff, Nat.reduceEqDiff, Nat.reduceBEq, Nat.reduceDiv, Int.reduceLT, Int.reduceLE, Int.reduceToNat, Int.reduceNeg, Int.reduceEq, ↓reduceIte, reduceCtorEq, ↓reduceDIte, Bool.false_eq_true, Bool.true_eq_false, ne_eq, not_true_eq_false, not_false_eq_true, Bool.true_or, Bool.false_or, Bool.or_true, Bool.or_false, Bool.true_and, Bool.false_and, Bool.and_true, Bool.and_false, Bool.not_true, Bool.not_false, Bool.not_eq_false', Bool.not_eq_true', and_true, true_and, and_false, false_and, or_true, true_or, or_false, false_or, and_self, or_self, decide_eq_true_eq, decide_true, decide_false, decide_eq_false_iff_not, ite_not, if_true, if_false, eq_self]
    | true =>
      rw [ho] at hs
      have ih := loop_su suf (pre ++ [x]) (by simp; omega)
      have e1 : (pre ++ [x]).length = pre.length + 1 := by simp
      have e2 : pre.length + 1 + suf.length = pre.length + (x :: suf).length := by simp; omega
      have e3 : (x :: suf).all addrB = suf.all addrB := by simp [ho]
      rw [app_one, e1, e2] at ih
      rw [e3]
      simp -implicitDefEqProofs only [getD_app, lt_app, ltn_app, zero_le_cast, Int.toNat_natCast, hs, hw, go_sem, Nat.reduceAdd, Nat.reduceSub, Nat.reduceMul, Nat.reduceMod, Nat.reduceLT, Nat.reduceLeDiff, Nat.reduceEqDiff, Nat.reduceBEq, Nat.reduceDiv, Int.reduceLT, Int.reduceLE, Int.reduceToNat, Int.reduceNeg, Int.reduceEq, ↓reduceIte, reduceCtorEq, ↓reduceDIte, Bool.false_eq_true, Bool.true_eq_false, ne_eq, not_true_eq_false, not_false_eq_true, Bool.true_or, Bool.false_or, Bool.or_true, Bool.or_false, Bool.true_and, Bool.false_and, Bool.and_true, Bool.and_false, Bool.not_true, Bool.not_false, Bool.not_eq_false', Bool.not_eq_true', and_true, true_and, and_false, false_and, or_true, true_or, or_false, false_or, and_self, or_self, decide_eq_true_eq, decide_true, decide_false, decide_eq_false_iff_not, ite_not, if_true, if_false, eq_self]
      exact ih
theorem call_su (xs : List Int) (hb : xs.length < 1000000000000000000) : callOf pr 49 [L xs] [] = some (B (validU xs), []) := by
  have h := loop_su xs [] (by simpa using hb)
  simp only [List.nil_append, List.length_nil] at h
  have h : loopOf pr 49 0 ⟨[(0, L xs), (3, I 0)], []⟩ = _ := h
  rw [call_eq pr 49 _ _ Try.f49 fn_49 _ rfl _ ann_49 rfl]
  cases ho : xs.all addrB with
  | true =>
    rw [ho, if_pos rfl] at h
    have hk : validU xs = decide ((xs.length : Int) ≤ 60) := by
      simp only [validU, ho, Bool.true_and]
      rw [decide_eq_decide]; omega
    simp -implicitDefEqProofs only [h, hk, go_sem, Nat.reduceAdd, Nat.reduceSub, Nat.reduceMul, Nat.reduceMod, Nat.reduceLT, Nat.reduceLeDiff, Nat.reduceEqDiff, Nat.reduceBEq, Nat.reduceDiv, Int.reduceLT, Int.reduceLE, Int.reduceToNat, Int.reduceNeg, Int.reduceEq, ↓reduceIte, reduceCtorEq, ↓reduceDIte, Bool.false_eq_true, Bool.true_eq_false, ne_eq, not_true_eq_false, not_false_eq_true, Bool.true_or, Bool.false_or, Bool.or_true, Bool.or_false, Bool.true_and, Bool.false_and, Bool.and_true, Bool.and_false, Bool.not_true, Bool.not_false, Bool.not_eq_false', Bool.not_eq_true', and_true, true_and, and_false, false_and, or_true, true_or, or_false, false_or, and_self, or_self, decide_eq_true_eq, decide_true, decide_false, decide_eq_false_iff_not, ite_not, if_true, if_false, eq_self]
  | false =>
    rw [ho, if_neg (by simp)] at h
    have hk : validU xs = false := by simp only [validU, ho, Bool.false_and]
    simp -implicitDefEqProofs only [h, hk, go_sem, Nat.reduceAdd, Nat.reduceSub, Nat.reduceMul, Nat.reduceMod, Nat.reduceLT, Nat.reduceLeDiff, Nat.reduceEqDiff, Nat.reduceBEq, Nat.reduceDiv, Int.reduceLT, Int.reduceLE, Int.reduceToNat, Int.reduceNeg, Int.reduceEq, ↓reduceIte, reduceCtorEq, ↓reduceDIte, Bool.false_eq_true, Bool.true_eq_false, ne_eq, not_true_eq_false, not_false_eq_true, Bool.true_or, Bool.false_or, Bool.or_true, Bool.or_false, Bool.true_and, Bool.false_and, Bool.and_true, Bool.and_false, Bool.not_true, Bool.not_false, Bool.not_eq_false', Bool.not_eq_true', and_true, true_and, and_false, false_and, or_true, true_or, or_false, false_or, and_self, or_self, decide_eq_true_eq, decide_true, decide_false, decide_eq_false_iff_not, ite_not, if_true, if_false, eq_self]
theorem call_vu (xs : List Int) (hb : xs.length < 1000000000000000000) : callOf pr 52 [L xs] [] = some (B (validU xs), []) := by
  have h := call_73 xs hb 0 63
  have e : (!(xs.any fun n => !decide (0 ≤ n ∧ n ≤ 63))) = xs.all addrB := by
    rw [List.all_eq_not_any_not]; rfl
  rw [e] at h
  rw [call_eq pr 52 _ _ Try.f52 fn_52 _ rfl _ ann_52 rfl]
  by_cases g : (xs.length : Int) ≤ 60
  · have hk : validU xs = xs.all addrB := by
      have : xs.length ≤ 60 := by omega
      simp [validU, this]
    simp -implicitDefEqProofs only [tr g, h, hk, go_sem, Nat.reduceAdd, Nat.reduceSub, Nat.reduceMul, Nat.reduceMod, Nat.reduceLT, Nat.reduceLeDiff, Nat.reduceEqDiff, Nat.reduceBEq, Nat.reduceDiv, Int.reduceLT, Int.reduceLE, Int.reduceToNat, Int.reduceNeg, Int.reduceEq, ↓reduceIte, reduceCtorEq, ↓reduceDIte, Bool.false_eq_true, Bool.true_eq_false, ne_eq, not_true_eq_false, not_false_eq_true, Bool.true_or, Bool.false_or, Bool.or_true, Bool.or_false, Bool.true_and, Bool.false_and, Bool.and_true, Bool.and_false, Bool.not_true, Bool.not_false, Bool.not_eq_false', Bool.not_eq_true', and_true, true_and, and_false, false_and, or_true, true_or, or_false, false_or, and_self, or_self, decide_eq_true_eq, decide_true, decide_false, decide_eq_false_iff_not, ite_not, if_true, if_false, eq_self]
  · have hk : validU xs = false := by
      have : ¬ xs.length ≤ 60 := by omega
      simp [validU, this]
    simp -implicitDefEqProofs only [fa g, hk, go_sem, Nat.reduceAdd, Nat.reduceSub, Nat.reduceMul, Nat.reduceMod, Nat.reduceLT, Nat.reduceLeDiff, Nat.reduceEqDiff, Nat.reduceBEq, Nat.reduceDiv, Int.reduceLT, Int.reduceLE, Int.reduceToNat, Int.reduceNeg, Int.reduceEq, ↓reduceIte, reduceCtorEq, ↓reduceDIte, Bool.false_eq_true, Bool.true_eq_false, ne_eq, not_true_eq_false, not_false_eq_true, Bool.true_or, Bool.false_or, Bool.or_true, Bool.or_false, Bool.true_and, Bool.false_and, Bool.and_true, Bool.and_false, Bool.not_true, Bool.not_false, Bool.not_eq_false', Bool.not_eq_true', and_true, true_and, and_false, false_and, or_true, true_or, or_false, false_or, and_self, or_self, decide_eq_true_eq, decide_true, decide_false, decide_eq_false_iff_not, ite_not, if_true, if_false, eq_self]
theorem validP_bound {hit : List (List Int)} {miss : List Int} (h : validP hit miss = true) : 1 ≤ miss.length ∧ miss.length ≤ 6 ∧ hit.length = miss.length ∧ (∀ x ∈ miss, 0 ≤ x ∧ x < (miss.length : Int)) ∧ ∀ l ∈ hit, l.length = miss.length ∧ ∀ x ∈ l, 0 ≤ x ∧ x < (miss.length : Int) := by
  simp only [validP, Bool.and_eq_true, decide_eq_true_eq, List.all_eq_true] at h
  obtain ⟨⟨h1, h2, h3⟩, h4, h5⟩ := h
  exact ⟨h1, h2, h3, (order_bound h4).2, fun l hl => order_bound (h5 l hl)⟩
end Go.Proofs.Ytfooniikopekoaa.PI
