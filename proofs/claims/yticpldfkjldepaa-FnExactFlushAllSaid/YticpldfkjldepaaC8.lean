/- Spaces, as the program looks at them: all of it. -/
import Derived.Test.YticpldfkjldepaaC7
namespace Go.Proofs.Yticpldfkjldepaa.PI
open Go Go.Q
set_option maxRecDepth 100000
set_option maxHeartbeats 4000000
set_option linter.unusedSimpArgs false
set_option linter.unusedVariables false
theorem call_del0 : callOf pr 71 [L [], .fn 73 []] [] = some (L [], []) := by
  have h := call_109 [] (by simp) (fun n => decide (n = -1)) 73 [] ⟨rfl, of_decide_eq_true rfl⟩ rfl (fun x _ => call_v1 x)
  simp only [List.findIdx?_nil] at h
  rw [call_eq pr 71 _ _ Try.f71 fn_71 _ rfl _ ann_71 rfl]
  simp -implicitDefEqProofs only [h, go_sem, Nat.reduceAdd, Nat.reduceSub, Nat.reduceMul, Nat.reduceMod, Nat.reduceLT, Nat.reduceLeDiff, Nat.reduceEqDiff, Nat.reduceBEq, Nat.reduceDiv, Int.reduceLT, Int.reduceLE, Int.reduceToNat, Int.reduceNeg, Int.reduceEq, ↓reduceIte, reduceCtorEq, ↓reduceDIte, Bool.false_eq_true, Bool.true_eq_false, ne_eq, not_true_eq_false, not_false_eq_true, Bool.true_or, Bool.false_or, Bool.or_true, Bool.or_false, Bool.true_and, Bool.false_and, Bool.and_true, Bool.and_false, Bool.not_true, Bool.not_false, Bool.not_eq_false', Bool.not_eq_true', and_true, true_and, and_false, false_and, or_true, true_or, or_false, false_or, and_self, or_self, decide_eq_true_eq, decide_true, decide_false, decide_eq_false_iff_not, ite_not, if_true, if_false, eq_self]
def tabE (x : List En) : Bool := decide (x.length = 8) && x.all entB
theorem loop_vt (r : List Int) (b : List Ca) (T : List (List En)) : ∀ (suf pre : List (List En)), pre.length + suf.length < 1000 → (∀ x ∈ suf, x.length < 2000000) →
    loopOf pr 30 0 ⟨[(1, .op 64 0), (38, LLE (pre ++ suf)), (39, I ((pre.length + suf.length : Nat) : Int)), (40, I pre.length)], [(64, .box [L r, LLE T, LC b])]⟩ = if suf.all tabE = true then some (.exit 0, ⟨[(1, .op 64 0), (38, LLE (pre ++ suf)), (39, I ((pre.length + suf.length : Nat) : Int)), (40, I ((pre.length + suf.length : Nat) : Int))], [(64, .box [L r, LLE T, LC b])]⟩) else some (.ret, ⟨[(2, B false)], [(64, .box [L r, LLE T, LC b])]⟩)
  | [], pre, hb, hx => by
    rw [if_pos (by simp), loop_eq pr 30 0 _ Try.f30 fn_30 _ rfl _ ann_30 _ rfl]
    simp -implicitDefEqProofs only [Int.lt_irrefl, List.append_nil, Nat.add_zero, List.length_nil, go_sem, Nat.reduceAdd, Nat.reduceSub, Nat.reduceMul, Nat.reduceMod, Nat.reduceLT, Nat.reduceLeDiff, Nat.reduceEqDiff, Nat.reduceBEq, Nat.reduceDiv, Int.reduceLT, Int.reduceLE, Int.reduceToNat, Int.reduceNeg, Int.reduceEq, ↓reduceIte, reduceCtorEq, ↓reduceDIte, Bool.false_eq_true, Bool.true_eq_false, ne_eq, not_true_eq_false, not_false_eq_true, Bool.true_or, Bool.false_or, Bool.or_true, Bool.or_false, Bool.true_and, Bool.false_and, Bool.and_true, Bool.and_false, Bool.not_true, Bool.not_false, Bool.not_eq_false', Bool.not_eq_true', and_true, true_and, and_false, false_and, or_true, true_or, or_false, false_or, and_self, or_self, decide_eq_true_eq, decide_true, decide_false, decide_eq_false_iff_not, ite_not, if_true, if_false, eq_self]
  | x :: suf, pre, hb, hx => by
    simp only [List.length_cons] at hb ⊢
    have hw : IntKind.i64.wrap ((pre.length : Int) + 1) = ((pre.length + 1 : Nat) : Int) := by rw [wrap_i] <;> omega
    have hlt : ((pre.length : Int) < ((pre.length + (suf.length + 1) : Nat) : Int)) = True := tr (by omega)
    have h := call_cfe x (hx x (by simp))
    have ih := loop_vt r b T suf (pre ++ [x]) (by simp; omega) (fun y hy => hx y (by simp [hy]))
    have e1 : (pre ++ [x]).length = pre.length + 1 := by simp
    have e2 : pre.length + 1 + suf.length = pre.length + (suf.length + 1) := by omega
    rw [app_one, e1, e2] at ih
    have hk : (x :: suf).all tabE = (tabE x && suf.all tabE) := rfl
    rw [hk, loop_eq pr 30 0 _ Try.f30 fn_30 _ rfl _ ann_30 _ rfl]
    by_cases hl : x.length = 8
    · have g : (((x.length : Nat) : Int) = 8) = True := tr (by omega)
      cases he : x.all entB with
      | true =>
        rw [he] at h
        have hk2 : tabE x = true := by simp only [tabE, hl, he]; rfl
        rw [hk2]
        simp -implicitDefEqProofs only [getD_app, lt_app, ltn_app, zero_le_cast, Int.toNat_natCast, hlt, hw, g, h, go_sem, Nat.reduceAdd, Nat.reduceSub, Nat.reduceMul, Nat.reduceMod, Nat.reduceLT, Nat.reduceLeDiff, Nat.reduceEqDiff, Nat.reduceBEq, Nat.reduceDiv, Int.reduceLT, Int.reduceLE, Int.reduceToNat, Int.reduceNeg, Int.reduceEq, ↓reduceIte, reduceCtorEq, ↓reduceDIte, Bool.false_eq_true, Bool.true_eq_false, ne_eq, not_true_eq_false, not_false_eq_true, Bool.true_or, Bool.false_or, Bool.or_true, Bool.or_false, Bool.true_and, Bool.false_and, Bool.and_true, Bool.and_false, Bool.not_true, Bool.not_false, Bool.not_eq_false', Bool.not_eq_true', and_true, true_and, and_false, false_and, or_true, true_or, or_false, false_or, and_self, or_self, decide_eq_true_eq, decide_true, decide_false, decide_eq_false_iff_not, ite_not, if_true, if_false, eq_self]
        exact ih
      | false =>
        rw [he] at h
        have hk2 : tabE x = false := by simp only [tabE, hl, he]; rfl
        rw [hk2, if_neg (by simp)]
        simp -implicitDefEqProofs only [getD_app, lt_app, ltn_app, zero_le_cast, Int.toNat_natCast, hlt, hw, g, h, go_sem, Nat.reduceAdd, Nat.reduceSub, Nat.reduceMul, Nat.reduceMod, Nat.reduceLT, Nat.reduceLeDiff, Nat.reduceEqDiff, Nat.reduceBEq, Nat.reduceDiv, Int.reduceLT, Int.reduceLE, Int.reduceToNat, Int.reduceNeg, Int.reduceEq, ↓reduceIte, reduceCtorEq, ↓reduceDIte, Bool.false_eq_true, Bool.true_eq_false, ne_eq, not_true_eq_false, not_false_eq_true, Bool.true_or, Bool.false_or, Bool.or_true, Bool.or_false, Bool.true_and, Bool.false_and, Bool.and_true, Bool.and_false, Bool.not_true, Bool.not_false, Bool.not_eq_false', Bool.not_eq_true', and_true, true_and, and_false, false_and, or_true, true_or, or_false, false_or, and_self, or_self, decide_eq_true_eq, decide_true, decide_false, decide_eq_false_iff_not, ite_not, if_true, if_false, eq_self]
    · have g : (((x.length : Nat) : Int) = 8) = False := fa (by omega)
      have hk2 : tabE x = false := by simp only [tabE, decide_eq_false hl]; rfl
      rw [hk2, if_neg (by simp)]
      simp -implicitDefEqProofs only [getD_app, lt_app, ltn_app, zero_le_cast, Int.toNat_natCast, hlt, hw, g, go_sem, Nat.reduceAdd, Nat.reduceSub, Nat.reduceMul, Nat.reduceMod, Nat.reduceLT, Nat.reduceLeDiff, Nat.reduceEqDiff, Nat.reduceBEq, Nat.reduceDiv, Int.reduceLT, Int.reduceLE, Int.reduceToNat, Int.reduceNeg, Int.reduceEq, ↓reduceIte, reduceCtorEq, ↓reduceDIte, Bool.false_eq_true, Bool.true_eq_false, ne_eq, not_true_eq_false, not_false_eq_true, Bool.true_or, Bool.false_or, Bool.or_true, Bool.or_false, Bool.true_and, Bool.false_and, Bool.and_true, Bool.and_false, Bool.not_true, Bool.not_false, Bool.not_eq_false', Bool.not_eq_true', and_true, true_and, and_false, false_and, or_true, true_or, or_false, false_or, and_self, or_self, decide_eq_true_eq, decide_true, decide_false, decide_eq_false_iff_not, ite_not, if_true, if_false, eq_self]
theorem loop_vb (r : List Int) (t : List (List En)) : ∀ (suf pre : List Ca), pre.length + suf.length < 1000 →
    (bufB pre suf = true → loopOf pr 30 1 ⟨[(1, .op 64 0), (53, LC (pre ++ suf)), (54, I ((pre.length + suf.length : Nat) : Int)), (55, I pre.length)], [(64, .box [L r, LLE t, LC (pre ++ suf)])]⟩ = some (.exit 2, ⟨[(1, .op 64 0), (53, LC (pre ++ suf)), (54, I ((pre.length + suf.length : Nat) : Int)), (55, I ((pre.length + suf.length : Nat) : Int))], [(64, .box [L r, LLE t, LC (pre ++ suf)])]⟩)) ∧
    (bufB pre suf = false → ∃ (q f : Int) (w : Bool), loopOf pr 30 1 ⟨[(1, .op 64 0), (53, LC (pre ++ suf)), (54, I ((pre.length + suf.length : Nat) : Int)), (55, I pre.length)], [(64, .box [L r, LLE t, LC (pre ++ suf)])]⟩ = some (.ret, ⟨[(2, B false)], [(64, .box [L r, LLE t, LC (pre ++ suf)]), (448, .box [I q, I f, B w])]⟩))
  | [], pre, hb => by
    refine ⟨fun _ => ?_, fun h => by simp [bufB] at h⟩
    rw [loop_eq pr 30 1 _ Try.f30 fn_30 _ rfl _ ann_30 _ rfl]
    simp -implicitDefEqProofs only [Int.lt_irrefl, List.append_nil, Nat.add_zero, List.length_nil, go_sem, Nat.reduceAdd, Nat.reduceSub, Nat.reduceMul, Nat.reduceMod, Nat.reduceLT, Nat.reduceLeDiff, Nat.reduceEqDiff, Nat.reduceBEq, Nat.reduceDiv, Int.reduceLT, Int.reduceLE, Int.reduceToNat, Int.reduceNeg, Int.reduceEq, ↓reduceIte, reduceCtorEq, ↓reduceDIte, Bool.false_eq_true, Bool.true_eq_false, ne_eq, not_true_eq_false, not_false_eq_true, Bool.true_or, Bool.false_or, Bool.or_true, Bool.or_false, Bool.true_and, Bool.false_and, Bool.and_true, Bool.and_false, Bool.not_true, Bool.not_false, Bool.not_eq_false', Bool.not_eq_true', and_true, true_and, and_false, false_and, or_true, true_or, or_false, false_or, and_self, or_self, decide_eq_true_eq, decide_true, decide_false, decide_eq_false_iff_not, ite_not, if_true, if_false, eq_self]
  | (p, f, w, ()) :: suf, pre, hb => by
    simp only [List.length_cons] at hb ⊢
    have hw : IntKind.i64.wrap ((pre.length : Int) + 1) = ((pre.length + 1 : Nat) : Int) := by rw [wrap_i] <;> omega
    have hlt : ((pre.length : Int) < ((pre.length + (suf.length + 1) : Nat) : Int)) = True := tr (by omega)
    obtain ⟨i1, i2⟩ := loop_vb r t suf (pre ++ [(p, f, w, ())]) (by simp; omega)
    have e1 : (pre ++ [(p, f, w, ())]).length = pre.length + 1 := by simp
    have e2 : pre.length + 1 + suf.length = pre.length + (suf.length + 1) := by omega
    rw [app_one, e1, e2] at i1 i2
    have ha := call_ia p
    have hf := call_if f
    have hd := call_bp pre p (by omega)
    have hle : ((pre.length : Int) ≤ ((pre ++ (p, f, w, ()) :: suf).length : Int)) = True := tr (by simp; omega)
    have hk : bufB pre ((p, f, w, ()) :: suf) = (addrB p && frameB f && !pre.any (pageAt p) && bufB (pre ++ [(p, f, w, ())]) suf) := rfl
    rw [hk]
    cases h1 : addrB p with
    | false =>
      rw [h1] at ha
      refine ⟨fun h => by simp at h, fun _ => ⟨p, f, w, ?_⟩⟩
      rw [loop_eq pr 30 1 _ Try.f30 fn_30 _ rfl _ ann_30 _ rfl]
      simp -implicitDefEqProofs only [getD_app, lt_app, ltn_app, zero_le_cast, Int.toNat_natCast, hlt, hw, hle, List.take_left, ha, go_sem, Nat.reduceAdd, Nat.reduceSub, Nat.reduceMul, Nat.reduceMod, Nat.reduceLT, Nat.reduceLeDiff, Nat.reduceEqDiff, Nat.reduceBEq, Nat.reduceDiv, Int.reduceLT, Int.reduceLE, Int.reduceToNat, Int.reduceNeg, Int.reduceEq, ↓reduceIte, reduceCtorEq, ↓reduceDIte, Bool.false_eq_true, Bool.true_eq_false, ne_eq, not_true_eq_false, not_false_eq_true, Bool.true_or, Bool.false_or, Bool.or_true, Bool.or_false, Bool.true_and, Bool.false_and, Bool.and_true, Bool.and_false, Bool.not_true, Bool.not_false, Bool.not_eq_false', Bool.not_eq_true', and_true, true_and, and_false, false_and, or_true, true_or, or_false, false_or, and_self, or_self, decide_eq_true_eq, decide_true, decide_false, decide_eq_false_iff_not, ite_not, if_true, if_false, eq_self]
    | true =>
      rw [h1] at ha
      cases h2 : frameB f with
      | false =>
        rw [h2] at hf
        refine ⟨fun h => by simp at h, fun _ => ⟨p, f, w, ?_⟩⟩
        rw [loop_eq pr 30 1 _ Try.f30 fn_30 _ rfl _ ann_30 _ rfl]
        simp -implicitDefEqProofs only [getD_app, lt_app, ltn_app, zero_le_cast, Int.toNat_natCast, hlt, hw, hle, List.take_left, ha, hf, go_sem, Nat.reduceAdd, Nat.reduceSub, Nat.reduceMul, Nat.reduceMod, Nat.reduceLT, Nat.reduceLeDiff, Nat.reduceEqDiff, Nat.reduceBEq, Nat.reduceDiv, Int.reduceLT, Int.reduceLE, Int.reduceToNat, Int.reduceNeg, Int.reduceEq, ↓reduceIte, reduceCtorEq, ↓reduceDIte, Bool.false_eq_true, Bool.true_eq_false, ne_eq, not_true_eq_false, not_false_eq_true, Bool.true_or, Bool.false_or, Bool.or_true, Bool.or_false, Bool.true_and, Bool.false_and, Bool.and_true, Bool.and_false, Bool.not_true, Bool.not_false, Bool.not_eq_false', Bool.not_eq_true', and_true, true_and, and_false, false_and, or_true, true_or, or_false, false_or, and_self, or_self, decide_eq_true_eq, decide_true, decide_false, decide_eq_false_iff_not, ite_not, if_true, if_false, eq_self]
      | true =>
        rw [h2] at hf
        have h4 := find_any pre p
        cases h3 : pre.any (pageAt p) with
        | true =>
          rw [h3] at h4
          have h5 : (findP pre p ≥ 0) = True := tr (by simpa using h4)
          refine ⟨fun h => by simp at h, fun _ => ⟨p, f, w, ?_⟩⟩
          rw [loop_eq pr 30 1 _ Try.f30 fn_30 _ rfl _ ann_30 _ rfl]
          simp -implicitDefEqProofs only [getD_app, lt_app, ltn_app, zero_le_cast, Int.toNat_natCast, hlt, hw, hle, List.take_left, ha, hf, hd, h5, go_sem, Nat.reduceAdd, Nat.reduceSub, Nat.reduceMul, Nat.reduceMod, Nat.reduceLT, Nat.reduceLeDiff, Nat.reduceEqDiff, Nat.reduceBEq, Nat.reduceDiv, Int.reduceLT, Int.reduceLE, Int.reduceToNat, Int.reduceNeg, Int.reduceEq, ↓reduceIte, reduceCtorEq, ↓reduceDIte, Bool.false_eq_true, Bool.true_eq_false, ne_eq, not_true_eq_false, not_false_eq_true, Bool.true_or, Bool.false_or, Bool.or_true, Bool.or_false, Bool.true_and, Bool.false_and, Bool.and_true, Bool.and_false, Bool.not_true, Bool.not_false, Bool.not_eq_false', Bool.not_eq_true', and_true, true_and, and_false, false_and, or_true, true_or, or_false, false_or, and_self, or_self, decide_eq_true_eq, decide_true, decide_false, decide_eq_false_iff_not, ite_not, if_true, if_false, eq_self]
        | false =>
          rw [h3] at h4
          have h5 : (findP pre p ≥ 0) = False := fa (by simpa using h4)
          refine ⟨fun h => ?_, fun h => ?_⟩
          · have ih := i1 (by simpa using h)
            rw [loop_eq pr 30 1 _ Try.f30 fn_30 _ rfl _ ann_30 _ rfl]
            simp -implicitDefEqProofs only [getD_app, lt_app, ltn_app, zero_le_cast, Int.toNat_natCast, hlt, hw, hle, List.take_left, ha, hf, hd, h5, go_sem, Nat.reduceAdd, Nat.reduceSub, Nat.reduceMul, Nat.reduceMod, Nat.reduceLT, Nat.reduceLeDiff, Nat.reduceEqDiff, Nat.reduceBEq, Nat.reduceDiv, Int.reduceLT, Int.reduceLE, Int.reduceToNat, Int.reduceNeg, Int.reduceEq, ↓reduceIte, reduceCtorEq, ↓reduceDIte, Bool.false_eq_true, Bool.true_eq_false, ne_eq, not_true_eq_false, not_false_eq_true, Bool.true_or, Bool.false_or, Bool.or_true, Bool.or_false, Bool.true_and, Bool.false_and, Bool.and_true, Bool.and_false, Bool.not_true, Bool.not_false, Bool.not_eq_false', Bool.not_eq_true', and_true, true_and, and_false, false_and, or_true, true_or, or_false, false_or, and_self, or_self, decide_eq_true_eq, decide_true, decide_false, decide_eq_false_iff_not, ite_not, if_true, if_false, eq_self]
            exact ih
          · obtain ⟨q, f', w', ih⟩ := i2 (by simpa using h)
            refine ⟨q, f', w', ?_⟩
            rw [loop_eq pr 30 1 _ Try.f30 fn_30 _ rfl _ ann_30 _ rfl]
            simp -implicitDefEqProofs only [getD_app, lt_app, ltn_app, zero_le_cast, Int.toNat_natCast, hlt, hw, hle, List.take_left, ha, hf, hd, h5, go_sem, Nat.reduceAdd, Nat.reduceSub, Nat.reduceMul, Nat.reduceMod, Nat.reduceLT, Nat.reduceLeDiff, Nat.reduceEqDiff, Nat.reduceBEq, Nat.reduceDiv, Int.reduceLT, Int.reduceLE, Int.reduceToNat, Int.reduceNeg, Int.reduceEq, ↓reduceIte, reduceCtorEq, ↓reduceDIte, Bool.false_eq_true, Bool.true_eq_false, ne_eq, not_true_eq_false, not_false_eq_true, Bool.true_or, Bool.false_or, Bool.or_true, Bool.or_false, Bool.true_and, Bool.false_and, Bool.and_true, Bool.and_false, Bool.not_true, Bool.not_false, Bool.not_eq_false', Bool.not_eq_true', and_true, true_and, and_false, false_and, or_true, true_or, or_false, false_or, and_self, or_self, decide_eq_true_eq, decide_true, decide_false, decide_eq_false_iff_not, ite_not, if_true, if_false, eq_self]
            exact ih
end Go.Proofs.Yticpldfkjldepaa.PI
