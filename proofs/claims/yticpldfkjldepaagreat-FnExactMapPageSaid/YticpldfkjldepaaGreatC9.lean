/- Spaces, as the program looks at them: all of it. -/
import Derived.Test.YticpldfkjldepaaGreatC7
namespace Go.Proofs.YticpldfkjldepaaGreat.PI
open Go Go.Q
set_option maxRecDepth 100000
set_option maxHeartbeats 4000000
set_option linter.unusedSimpArgs false
set_option linter.unusedVariables false
theorem call_ix0 : callOf pr 130 [.empS, .fn 102 []] [] = some (I (-1), []) := by
  have h : loopOf pr 130 0 ⟨[(0, .empS), (1, .fn 102 []), (7, I 0), (8, I 0)], []⟩ = some (.exit 0, ⟨[(0, .empS), (1, .fn 102 []), (7, I 0), (8, I 0)], []⟩) := by
    rw [loop_eq pr 130 0 _ Tryz.f130 fn_130 _ rfl _ ann_130 _ rfl]
    simp -implicitDefEqProofs only [Int.lt_irrefl, go_sem, Nat.reduceAdd, Nat.reduceSub, Nat.reduceMul, Nat.reduceMod, Nat.reduceLT, Nat.reduceLeDiff, Nat.reduceEqDiff, Nat.reduceBEq, Nat.reduceDiv, Int.reduceLT, Int.reduceLE, Int.reduceToNat, Int.reduceNeg, Int.reduceEq, ↓reduceIte, reduceCtorEq, ↓reduceDIte]
  rw [call_eq pr 130 _ _ Tryz.f130 fn_130 _ rfl _ ann_130 rfl]
  simp -implicitDefEqProofs only [h, go_sem, Nat.reduceAdd, Nat.reduceSub, Nat.reduceMul, Nat.reduceMod, Nat.reduceLT, Nat.reduceLeDiff, Nat.reduceEqDiff, Nat.reduceBEq, Nat.reduceDiv, Int.reduceLT, Int.reduceLE, Int.reduceToNat, Int.reduceNeg, Int.reduceEq, ↓reduceIte, reduceCtorEq, ↓reduceDIte]
theorem call_del0 : callOf pr 83 [.empS, .fn 102 []] [] = some (.empS, []) := by
  have h := call_ix0
  rw [call_eq pr 83 _ _ Tryz.f83 fn_83 _ rfl _ ann_83 rfl]
  simp -implicitDefEqProofs only [h, go_sem, Nat.reduceAdd, Nat.reduceSub, Nat.reduceMul, Nat.reduceMod, Nat.reduceLT, Nat.reduceLeDiff, Nat.reduceEqDiff, Nat.reduceBEq, Nat.reduceDiv, Int.reduceLT, Int.reduceLE, Int.reduceToNat, Int.reduceNeg, Int.reduceEq, ↓reduceIte, reduceCtorEq, ↓reduceDIte]
def tabE (x : List En) : Bool := decide (x.length = 8) && x.all entB
theorem loop_vt (r : List Int) (b : List Ca) (T : List (List En)) : ∀ (suf pre : List (List En)), pre.length + suf.length < 1000 → (∀ x ∈ suf, x.length < 2000000) →
    loopOf pr 47 0 ⟨[(1, .op 64 0), (38, LLE (pre ++ suf)), (39, I ((pre.length + suf.length : Nat) : Int)), (40, I pre.length)], [(64, .box [L r, LLE T, LC b])]⟩ = if suf.all tabE = true then some (.exit 0, ⟨[(1, .op 64 0), (38, LLE (pre ++ suf)), (39, I ((pre.length + suf.length : Nat) : Int)), (40, I ((pre.length + suf.length : Nat) : Int))], [(64, .box [L r, LLE T, LC b])]⟩) else some (.ret, ⟨[(2, B false)], [(64, .box [L r, LLE T, LC b])]⟩)
  | [], pre, hb, hx => by
    rw [if_pos (by simp), loop_eq pr 47 0 _ Tryz.f47 fn_47 _ rfl _ ann_47 _ rfl]
    simp -implicitDefEqProofs only [Int.lt_irrefl, List.append_nil, Nat.add_zero, List.length_nil, go_sem, Nat.reduceAdd, Nat.reduceSub, Nat.reduceMul, Nat.reduceMod, Nat.reduceLT, Nat.reduceLeDiff, Nat.reduceEqDiff, Nat.reduceBEq, Nat.reduceDiv, Int.reduceLT, Int.reduceLE, Int.reduceToNat, Int.reduceNeg, Int.reduceEq, ↓reduceIte, reduceCtorEq, ↓reduceDIte]
  | x :: suf, pre, hb, hx => by
    simp only [List.length_cons] at hb ⊢
    have hw : IntKind.i64.wrap ((pre.length : Int) + 1) = ((pre.length + 1 : Nat) : Int) := by rw [wrap_i] <;> omega
    have hlt : ((pre.length : Int) < ((pre.length + (suf.length + 1) : Nat) : Int)) = True := tr (by omega)
    have h := call_cfe x (hx x (by simp))
    have ih := loop_vt r b T suf (pre ++ [x]) (by simp; omega) (fun y hy => hx y (by simp [hy]))
    have e1 : (pre ++ [x]).length = pre.length + 1 := by simp
    have e2 : pre.length + 1 + suf.length = pre.length + (suf.length + 1) := by omega
    rw [app_one, e1, e2] at ih
    have hk : (x :: suf).all tabE = (tabE x && suf.all tabE) := rfl
    rw [hk, loop_eq pr 47 0 _ Tryz.f47 fn_47 _ rfl _ ann_47 _ rfl]
    by_cases hl : x.length = 8
    · have g : (((x.length : Nat) : Int) = 8) = True := tr (by omega)
      cases he : x.all entB with
      | true =>
        rw [he] at h
        have hk2 : tabE x = true := by simp only [tabE, hl, he]; rfl
        rw [hk2]
        simp -implicitDefEqProofs only [getD_app, lt_app, ltn_app, zero_le_cast, Int.toNat_natCast, hlt, hw, g, h, go_sem, Nat.reduceAdd, Nat.reduceSub, Nat.reduceMul, Nat.reduceMod, Nat.reduceLT, Nat.reduceLeDiff, Nat.reduceEqDiff, Nat.reduceBEq, Nat.reduceDiv, Int.reduceLT, Int.reduceLE, Int.reduceToNat, Int.reduceNeg, Int.reduceEq, ↓reduceIte, reduceCtorEq, ↓reduceDIte]
        exact ih
      | false =>
        rw [he] at h
        have hk2 : tabE x = false := by simp only [tabE, hl, he]; rfl
        rw [hk2, if_neg (by simp)]
        simp -implicitDefEqProofs only [getD_app, lt_app, ltn_app, zero_le_cast, Int.toNat_natCast, hlt, hw, g, h, go_sem, Nat.reduceAdd, Nat.reduceSub, Nat.reduceMul, Nat.reduceMod, Nat.reduceLT, Nat.reduceLeDiff, Nat.reduceEqDiff, Nat.reduceBEq, Nat.reduceDiv, Int.reduceLT, Int.reduceLE, Int.reduceToNat, Int.reduceNeg, Int.reduceEq, ↓reduceIte, reduceCtorEq, ↓reduceDIte]
    · have g : (((x.length : Nat) : Int) = 8) = False := fa (by omega)
      have hk2 : tabE x = false := by simp only [tabE, decide_eq_false hl]; rfl
      rw [hk2, if_neg (by simp)]
      simp -implicitDefEqProofs only [getD_app, lt_app, ltn_app, zero_le_cast, Int.toNat_natCast, hlt, hw, g, go_sem, Nat.reduceAdd, Nat.reduceSub, Nat.reduceMul, Nat.reduceMod, Nat.reduceLT, Nat.reduceLeDiff, Nat.reduceEqDiff, Nat.reduceBEq, Nat.reduceDiv, Int.reduceLT, Int.reduceLE, Int.reduceToNat, Int.reduceNeg, Int.reduceEq, ↓reduceIte, reduceCtorEq, ↓reduceDIte]
theorem loop_vb (r : List Int) (t : List (List En)) : ∀ (suf pre : List Ca), pre.length + suf.length < 1000 →
    (bufB pre suf = true → loopOf pr 47 1 ⟨[(1, .op 64 0), (53, LC (pre ++ suf)), (54, I ((pre.length + suf.length : Nat) : Int)), (55, I pre.length)], [(64, .box [L r, LLE t, LC (pre ++ suf)])]⟩ = some (.exit 2, ⟨[(1, .op 64 0), (53, LC (pre ++ suf)), (54, I ((pre.length + suf.length : Nat) : Int)), (55, I ((pre.length + suf.length : Nat) : Int))], [(64, .box [L r, LLE t, LC (pre ++ suf)])]⟩)) ∧
    (bufB pre suf = false → ∃ (q f : Int) (w : Bool), loopOf pr 47 1 ⟨[(1, .op 64 0), (53, LC (pre ++ suf)), (54, I ((pre.length + suf.length : Nat) : Int)), (55, I pre.length)], [(64, .box [L r, LLE t, LC (pre ++ suf)])]⟩ = some (.ret, ⟨[(2, B false)], [(64, .box [L r, LLE t, LC (pre ++ suf)]), (448, .box [I q, I f, B w])]⟩))
  | [], pre, hb => by
    refine ⟨fun _ => ?_, fun h => by simp [bufB] at h⟩
    rw [loop_eq pr 47 1 _ Tryz.f47 fn_47 _ rfl _ ann_47 _ rfl]
    simp -implicitDefEqProofs only [Int.lt_irrefl, List.append_nil, Nat.add_zero, List.length_nil, go_sem, Nat.reduceAdd, Nat.reduceSub, Nat.reduceMul, Nat.reduceMod, Nat.reduceLT, Nat.reduceLeDiff, Nat.reduceEqDiff, Nat.reduceBEq, Nat.reduceDiv, Int.reduceLT, Int.reduceLE, Int.reduceToNat, Int.reduceNeg, Int.reduceEq, ↓reduceIte, reduceCtorEq, ↓reduceDIte]
  | (p, f, w, ()) :: suf, pre, hb => by
    simp only [List.length_cons] at hb ⊢
    have hw : IntKind.i64.wrap ((pre.length : Int) + 1) = ((pre.length + 1 : Nat) : Int) := by rw [wrap_i] <;> omega
    have hlt : ((pre.length : Int) < ((pre.length + (suf.length + 1) : Nat) : Int)) = True := tr (by omega)
    obtain ⟨i1, i2⟩ := loop_vb r t suf (pre ++ [(p, f, w, ())]) (by simp; omega)
    have e1 : (pre ++ [(p, f, w, ())]).length = pre.length + 1 := by simp
    have e2 : pre.length + 1 + suf.length = pre.length + (suf.length + 1) := by omega
    rw [app_one, e1, e2] at i1 i2
    have ha := call_ia p
    have hf := call_if f
    have hd := call_bp pre p (by omega)
    have hle : ((pre.length : Int) ≤ ((pre ++ (p, f, w, ()) :: suf).length : Int)) = True := tr (by simp; omega)
    have hk : bufB pre ((p, f, w, ()) :: suf) = (addrB p && frameB f && !pre.any (pageAt p) && bufB (pre ++ [(p, f, w, ())]) suf) := rfl
    rw [hk]
    cases h1 : addrB p with
    | false =>
      rw [h1] at ha
      refine ⟨fun h => by simp at h, fun _ => ⟨p, f, w, ?_⟩⟩
      rw [loop_eq pr 47 1 _ Tryz.f47 fn_47 _ rfl _ ann_47 _ rfl]
      simp -implicitDefEqProofs only [getD_app, lt_app, ltn_app, zero_le_cast, Int.toNat_natCast, hlt, hw, hle, List.take_left, ha, go_sem, Nat.reduceAdd, Nat.reduceSub, Nat.reduceMul, Nat.reduceMod, Nat.reduceLT, Nat.reduceLeDiff, Nat.reduceEqDiff, Nat.reduceBEq, Nat.reduceDiv, Int.reduceLT, Int.reduceLE, Int.reduceToNat, Int.reduceNeg, Int.reduceEq, ↓reduceIte, reduceCtorEq, ↓reduceDIte]
    | true =>
      rw [h1] at ha
      cases h2 : frameB f with
      | false =>
        rw [h2] at hf
        refine ⟨fun h => by simp at h, fun _ => ⟨p, f, w, ?_⟩⟩
        rw [loop_eq pr 47 1 _ Tryz.f47 fn_47 _ rfl _ ann_47 _ rfl]
        simp -implicitDefEqProofs only [getD_app, lt_app, ltn_app, zero_le_cast, Int.toNat_natCast, hlt, hw, hle, List.take_left, ha, hf, go_sem, Nat.reduceAdd, Nat.reduceSub, Nat.reduceMul, Nat.reduceMod, Nat.reduceLT, Nat.reduceLeDiff, Nat.reduceEqDiff, Nat.reduceBEq, Nat.reduceDiv, Int.reduceLT, Int.reduceLE, Int.reduceToNat, Int.reduceNeg, Int.reduceEq, ↓reduceIte, reduceCtorEq, ↓reduceDIte]
      | true =>
        rw [h2] at hf
        have h4 := find_any pre p
        cases h3 : pre.any (pageAt p) with
        | true =>
          rw [h3] at h4
          have h5 : (findP pre p ≥ 0) = True := tr (by simpa using h4)
          refine ⟨fun h => by simp at h, fun _ => ⟨p, f, w, ?_⟩⟩
          rw [loop_eq pr 47 1 _ Tryz.f47 fn_47 _ rfl _ ann_47 _ rfl]
          simp -implicitDefEqProofs only [getD_app, lt_app, ltn_app, zero_le_cast, Int.toNat_natCast, hlt, hw, hle, List.take_left, ha, hf, hd, h5, go_sem, Nat.reduceAdd, Nat.reduceSub, Nat.reduceMul, Nat.reduceMod, Nat.reduceLT, Nat.reduceLeDiff, Nat.reduceEqDiff, Nat.reduceBEq, Nat.reduceDiv, Int.reduceLT, Int.reduceLE, Int.reduceToNat, Int.reduceNeg, Int.reduceEq, ↓reduceIte, reduceCtorEq, ↓reduceDIte]
        | false =>
          rw [h3] at h4
          have h5 : (findP pre p ≥ 0) = False := fa (by simpa using h4)
          refine ⟨fun h => ?_, fun h => ?_⟩
          · have ih := i1 (by simpa using h)
            rw [loop_eq pr 47 1 _ Tryz.f47 fn_47 _ rfl _ ann_47 _ rfl]
            simp -implicitDefEqProofs only [getD_app, lt_app, ltn_app, zero_le_cast, Int.toNat_natCast, hlt, hw, hle, List.take_left, ha, hf, hd, h5, go_sem, Nat.reduceAdd, Nat.reduceSub, Nat.reduceMul, Nat.reduceMod, Nat.reduceLT, Nat.reduceLeDiff, Nat.reduceEqDiff, Nat.reduceBEq, Nat.reduceDiv, Int.reduceLT, Int.reduceLE, Int.reduceToNat, Int.reduceNeg, Int.reduceEq, ↓reduceIte, reduceCtorEq, ↓reduceDIte]
            exact ih
          · obtain ⟨q, f', w', ih⟩ := i2 (by simpa using h)
            refine ⟨q, f', w', ?_⟩
            rw [loop_eq pr 47 1 _ Tryz.f47 fn_47 _ rfl _ ann_47 _ rfl]
            simp -implicitDefEqProofs only [getD_app, lt_app, ltn_app, zero_le_cast, Int.toNat_natCast, hlt, hw, hle, List.take_left, ha, hf, hd, h5, go_sem, Nat.reduceAdd, Nat.reduceSub, Nat.reduceMul, Nat.reduceMod, Nat.reduceLT, Nat.reduceLeDiff, Nat.reduceEqDiff, Nat.reduceBEq, Nat.reduceDiv, Int.reduceLT, Int.reduceLE, Int.reduceToNat, Int.reduceNeg, Int.reduceEq, ↓reduceIte, reduceCtorEq, ↓reduceDIte]
            exact ih
def usedOf (r : List Int) : List Int := r.filter fun x => !decide (x = -1)
def implS (r : List Int) (t : List (List En)) (b : List Ca) : Bool := decide (r.length = 8) && decide (t.length ≤ 8) && orderB (usedOf r) t.length && decide (b.length ≤ 4) && t.all tabE && bufB [] b && decide ((comp (sortI (frT t))).length = (frT t).length)
/-- What stands behind the first operations. -/
theorem call_vs (r : List Int) (t : List (List En)) (b : List Ca) (hr : r.length < 2000000) (ht : t.length < 2000000) (hx : ∀ x ∈ t, x.length < 2000000) (hbl : b.length < 2000000) : callOf pr 47 [.agg [L r, LLE t, LC b]] [] = some (B (implS r t b), []) := by
  by_cases h8 : r.length = 8
  case neg =>
    have g1 : (((r.length : Nat) : Int) = 8) = False := fa (by omega)
    have hk : implS r t b = false := by simp only [implS, decide_eq_false h8, Bool.false_and]
    rw [hk]
    by_cases h0 : r.length = 0
    · have hr0 : r = [] := List.eq_nil_of_length_eq_zero h0
      subst hr0
      have h1 : callOf pr 101 [L []] [] = some (.empS, []) := call_cli [] (by simp)
      have h2 := call_del0
      have g2 : (((0 : Nat) : Int) = 8) = False := fa (by omega)
      rw [call_eq pr 47 _ _ Tryz.f47 fn_47 _ rfl _ ann_47 rfl]
      simp -implicitDefEqProofs only [h1, h2, g2, List.length_nil, go_sem, Nat.reduceAdd, Nat.reduceSub, Nat.reduceMul, Nat.reduceMod, Nat.reduceLT, Nat.reduceLeDiff, Nat.reduceEqDiff, Nat.reduceBEq, Nat.reduceDiv, Int.reduceLT, Int.reduceLE, Int.reduceToNat, Int.reduceNeg, Int.reduceEq, ↓reduceIte, reduceCtorEq, ↓reduceDIte]
    · have h1 : callOf pr 101 [L r] [] = some (.os (.t 64), [(64, .arr true false (.int .i64) r)]) := by
        rw [call_cli r (by omega)]
        simp only [cloneV, if_neg h0]
      have h2 := call_83 (fun n => decide (n = -1)) 102 [] ⟨rfl, of_decide_eq_true rfl⟩ rfl r (by omega) (fun x _ => call_v1 x)
      rw [call_eq pr 47 _ _ Tryz.f47 fn_47 _ rfl _ ann_47 rfl]
      cases ha : r.any fun n => decide (n = -1) with
      | true =>
        rw [ha, if_pos rfl] at h2
        simp -implicitDefEqProofs only [h1, h2, g1, go_sem, Nat.reduceAdd, Nat.reduceSub, Nat.reduceMul, Nat.reduceMod, Nat.reduceLT, Nat.reduceLeDiff, Nat.reduceEqDiff, Nat.reduceBEq, Nat.reduceDiv, Int.reduceLT, Int.reduceLE, Int.reduceToNat, Int.reduceNeg, Int.reduceEq, ↓reduceIte, reduceCtorEq, ↓reduceDIte]
      | false =>
        rw [ha, if_neg (by simp)] at h2
        simp -implicitDefEqProofs only [h1, h2, g1, go_sem, Nat.reduceAdd, Nat.reduceSub, Nat.reduceMul, Nat.reduceMod, Nat.reduceLT, Nat.reduceLeDiff, Nat.reduceEqDiff, Nat.reduceBEq, Nat.reduceDiv, Int.reduceLT, Int.reduceLE, Int.reduceToNat, Int.reduceNeg, Int.reduceEq, ↓reduceIte, reduceCtorEq, ↓reduceDIte]
  case pos =>
    have g1 : (((r.length : Nat) : Int) = 8) = True := tr (by omega)
    have h1 : callOf pr 101 [L r] [] = some (.os (.t 64), [(64, .arr true false (.int .i64) r)]) := by
      rw [call_cli r (by omega)]
      simp only [cloneV, if_neg (show ¬ r.length = 0 by omega)]
    have h2 := call_83 (fun n => decide (n = -1)) 102 [] ⟨rfl, of_decide_eq_true rfl⟩ rfl r (by omega) (fun x _ => call_v1 x)
    have h3 := call_len t
    have hul : (usedOf r).length ≤ r.length := List.length_filter_le _ _
    have h4 := fun h : t.length ≤ 8 => call_ord (usedOf r) t.length (by omega) (by omega)
    -- the part behind the condition
    have key : callOf pr 47 [.agg [L r, LLE t, LC b]] [] = some (B (implS r t b), []) := by
      by_cases ht8 : t.length ≤ 8
      case neg =>
        have g2 : ((t.length : Int) > 8) = True := tr (by omega)
        have hk : implS r t b = false := by simp only [implS, decide_eq_false ht8, Bool.and_false, Bool.false_and]
        rw [hk, call_eq pr 47 _ _ Tryz.f47 fn_47 _ rfl _ ann_47 rfl]
        cases ha : r.any fun n => decide (n = -1) with
        | true =>
          rw [ha, if_pos rfl] at h2
          simp -implicitDefEqProofs only [h1, h2, g1, g2, go_sem, Nat.reduceAdd, Nat.reduceSub, Nat.reduceMul, Nat.reduceMod, Nat.reduceLT, Nat.reduceLeDiff, Nat.reduceEqDiff, Nat.reduceBEq, Nat.reduceDiv, Int.reduceLT, Int.reduceLE, Int.reduceToNat, Int.reduceNeg, Int.reduceEq, ↓reduceIte, reduceCtorEq, ↓reduceDIte]
        | false =>
          rw [ha, if_neg (by simp)] at h2
          simp -implicitDefEqProofs only [h1, h2, g1, g2, go_sem, Nat.reduceAdd, Nat.reduceSub, Nat.reduceMul, Nat.reduceMod, Nat.reduceLT, Nat.reduceLeDiff, Nat.reduceEqDiff, Nat.reduceBEq, Nat.reduceDiv, Int.reduceLT, Int.reduceLE, Int.reduceToNat, Int.reduceNeg, Int.reduceEq, ↓reduceIte, reduceCtorEq, ↓reduceDIte]
      case pos =>
        have g2 : ((t.length : Int) > 8) = False := fa (by omega)
        replace h4 := h4 ht8
        have hus : ∀ ha : (r.any fun n => decide (n = -1)) = false, usedOf r = r := fun ha => by
          unfold usedOf
          rw [List.filter_eq_self]
          intro x hx
          rw [List.any_eq_false] at ha
          simpa using ha x hx
        cases ho : orderB (usedOf r) t.length with
        | false =>
          rw [ho] at h4
          have hk : implS r t b = false := by simp only [implS, ho, Bool.and_false, Bool.false_and]
          rw [hk, call_eq pr 47 _ _ Tryz.f47 fn_47 _ rfl _ ann_47 rfl]
          cases ha : r.any fun n => decide (n = -1) with
          | true =>
            rw [ha, if_pos rfl] at h2
            have h4' := h4
            unfold usedOf at h4'
            simp -implicitDefEqProofs only [h1, h2, g1, g2, h3, List.take_left, h4', go_sem, Nat.reduceAdd, Nat.reduceSub, Nat.reduceMul, Nat.reduceMod, Nat.reduceLT, Nat.reduceLeDiff, Nat.reduceEqDiff, Nat.reduceBEq, Nat.reduceDiv, Int.reduceLT, Int.reduceLE, Int.reduceToNat, Int.reduceNeg, Int.reduceEq, ↓reduceIte, reduceCtorEq, ↓reduceDIte]
          | false =>
            rw [ha, if_neg (by simp)] at h2
            rw [hus ha] at h4
            simp -implicitDefEqProofs only [h1, h2, g1, g2, h3, h4, go_sem, Nat.reduceAdd, Nat.reduceSub, Nat.reduceMul, Nat.reduceMod, Nat.reduceLT, Nat.reduceLeDiff, Nat.reduceEqDiff, Nat.reduceBEq, Nat.reduceDiv, Int.reduceLT, Int.reduceLE, Int.reduceToNat, Int.reduceNeg, Int.reduceEq, ↓reduceIte, reduceCtorEq, ↓reduceDIte]
        | true =>
          rw [ho] at h4
          by_cases hb4 : b.length ≤ 4
          case neg =>
            have g3 : ((b.length : Int) > 4) = True := tr (by omega)
            have hk : implS r t b = false := by simp only [implS, decide_eq_false hb4, Bool.and_false, Bool.false_and]
            rw [hk, call_eq pr 47 _ _ Tryz.f47 fn_47 _ rfl _ ann_47 rfl]
            cases ha : r.any fun n => decide (n = -1) with
            | true =>
              rw [ha, if_pos rfl] at h2
              have h4' := h4
              unfold usedOf at h4'
              simp -implicitDefEqProofs only [h1, h2, g1, g2, g3, h3, List.take_left, h4', go_sem, Nat.reduceAdd, Nat.reduceSub, Nat.reduceMul, Nat.reduceMod, Nat.reduceLT, Nat.reduceLeDiff, Nat.reduceEqDiff, Nat.reduceBEq, Nat.reduceDiv, Int.reduceLT, Int.reduceLE, Int.reduceToNat, Int.reduceNeg, Int.reduceEq, ↓reduceIte, reduceCtorEq, ↓reduceDIte]
            | false =>
              rw [ha, if_neg (by simp)] at h2
              rw [hus ha] at h4
              simp -implicitDefEqProofs only [h1, h2, g1, g2, g3, h3, h4, go_sem, Nat.reduceAdd, Nat.reduceSub, Nat.reduceMul, Nat.reduceMod, Nat.reduceLT, Nat.reduceLeDiff, Nat.reduceEqDiff, Nat.reduceBEq, Nat.reduceDiv, Int.reduceLT, Int.reduceLE, Int.reduceToNat, Int.reduceNeg, Int.reduceEq, ↓reduceIte, reduceCtorEq, ↓reduceDIte]
          case pos =>
            have g3 : ((b.length : Int) > 4) = False := fa (by omega)
            have h5 := loop_vt r b t t [] (by simp; omega) hx
            simp only [List.nil_append, List.length_nil, Nat.zero_add] at h5
            have h5 : loopOf pr 47 0 ⟨[(1, .op 64 0), (38, LLE t), (39, I t.length), (40, I 0)], [(64, .box [L r, LLE t, LC b])]⟩ = _ := h5
            obtain ⟨j1, j2⟩ := loop_vb r t b [] (by simp; omega)
            simp only [List.nil_append, List.length_nil, Nat.zero_add] at j1 j2
            have fin : ∀ (F : List AV × Heap), True := fun _ => trivial
            cases hta : t.all tabE with
            | false =>
              rw [hta, if_neg (by simp)] at h5
              have hk : implS r t b = false := by simp only [implS, hta, Bool.and_false, Bool.false_and]
              rw [hk, call_eq pr 47 _ _ Tryz.f47 fn_47 _ rfl _ ann_47 rfl]
              cases ha : r.any fun n => decide (n = -1) with
              | true =>
                rw [ha, if_pos rfl] at h2
                have h4' := h4
                unfold usedOf at h4'
                simp -implicitDefEqProofs only [h1, h2, g1, g2, g3, h3, List.take_left, h4', h5, go_sem, Nat.reduceAdd, Nat.reduceSub, Nat.reduceMul, Nat.reduceMod, Nat.reduceLT, Nat.reduceLeDiff, Nat.reduceEqDiff, Nat.reduceBEq, Nat.reduceDiv, Int.reduceLT, Int.reduceLE, Int.reduceToNat, Int.reduceNeg, Int.reduceEq, ↓reduceIte, reduceCtorEq, ↓reduceDIte]
              | false =>
                rw [ha, if_neg (by simp)] at h2
                rw [hus ha] at h4
                simp -implicitDefEqProofs only [h1, h2, g1, g2, g3, h3, h4, h5, go_sem, Nat.reduceAdd, Nat.reduceSub, Nat.reduceMul, Nat.reduceMod, Nat.reduceLT, Nat.reduceLeDiff, Nat.reduceEqDiff, Nat.reduceBEq, Nat.reduceDiv, Int.reduceLT, Int.reduceLE, Int.reduceToNat, Int.reduceNeg, Int.reduceEq, ↓reduceIte, reduceCtorEq, ↓reduceDIte]
            | true =>
              rw [hta, if_pos rfl] at h5
              cases hbb : bufB [] b with
              | false =>
                obtain ⟨q', f', w', h6⟩ := j2 hbb
                have h6 : loopOf pr 47 1 ⟨[(1, .op 64 0), (53, LC b), (54, I b.length), (55, I 0)], [(64, .box [L r, LLE t, LC b])]⟩ = _ := h6
                have hk : implS r t b = false := by simp only [implS, hbb, Bool.and_false, Bool.false_and]
                rw [hk, call_eq pr 47 _ _ Tryz.f47 fn_47 _ rfl _ ann_47 rfl]
                cases ha : r.any fun n => decide (n = -1) with
                | true =>
                  rw [ha, if_pos rfl] at h2
                  have h4' := h4
                  unfold usedOf at h4'
                  simp -implicitDefEqProofs only [h1, h2, g1, g2, g3, h3, List.take_left, h4', h5, h6, go_sem, Nat.reduceAdd, Nat.reduceSub, Nat.reduceMul, Nat.reduceMod, Nat.reduceLT, Nat.reduceLeDiff, Nat.reduceEqDiff, Nat.reduceBEq, Nat.reduceDiv, Int.reduceLT, Int.reduceLE, Int.reduceToNat, Int.reduceNeg, Int.reduceEq, ↓reduceIte, reduceCtorEq, ↓reduceDIte]
                | false =>
                  rw [ha, if_neg (by simp)] at h2
                  rw [hus ha] at h4
                  simp -implicitDefEqProofs only [h1, h2, g1, g2, g3, h3, h4, h5, h6, go_sem, Nat.reduceAdd, Nat.reduceSub, Nat.reduceMul, Nat.reduceMod, Nat.reduceLT, Nat.reduceLeDiff, Nat.reduceEqDiff, Nat.reduceBEq, Nat.reduceDiv, Int.reduceLT, Int.reduceLE, Int.reduceToNat, Int.reduceNeg, Int.reduceEq, ↓reduceIte, reduceCtorEq, ↓reduceDIte]
              | true =>
                have h6 : loopOf pr 47 1 ⟨[(1, .op 64 0), (53, LC b), (54, I b.length), (55, I 0)], [(64, .box [L r, LLE t, LC b])]⟩ = _ := j1 hbb
                have h8t : ∀ x ∈ t, x.length = 8 := fun x hx' => by
                  have := (List.all_eq_true.1 hta) x hx'
                  simp only [tabE, Bool.and_eq_true, decide_eq_true_eq] at this
                  exact this.1
                have h7 := call_fs r t b h8t ht8
                have hfl := frT_length h8t
                have hk : implS r t b = decide ((((comp (sortI (frT t))).length : Nat) : Int) = ((frT t).length : Int)) := by
                  simp only [implS, h8, ht8, ho, hb4, hta, hbb, decide_true, Bool.true_and]
                  rw [decide_eq_decide]; omega
                rw [hk, call_eq pr 47 _ _ Tryz.f47 fn_47 _ rfl _ ann_47 rfl]
                by_cases hz : (frT t).length = 0
                · have hz' : frT t = [] := List.eq_nil_of_length_eq_zero hz
                  rw [hz'] at h7 ⊢
                  have h9 := call_st0
                  have hc : comp (sortI []) = [] := by simp [sortI, comp]
                  cases ha : r.any fun n => decide (n = -1) with
                  | true =>
                    rw [ha, if_pos rfl] at h2
                    have h4' := h4
                    unfold usedOf at h4'
                    simp -implicitDefEqProofs only [h1, h2, g1, g2, g3, h3, List.take_left, h4', h5, h6, h7, h9, hc, go_sem, Nat.reduceAdd, Nat.reduceSub, Nat.reduceMul, Nat.reduceMod, Nat.reduceLT, Nat.reduceLeDiff, Nat.reduceEqDiff, Nat.reduceBEq, Nat.reduceDiv, Int.reduceLT, Int.reduceLE, Int.reduceToNat, Int.reduceNeg, Int.reduceEq, ↓reduceIte, reduceCtorEq, ↓reduceDIte]
                    rfl
                  | false =>
                    rw [ha, if_neg (by simp)] at h2
                    rw [hus ha] at h4
                    simp -implicitDefEqProofs only [h1, h2, g1, g2, g3, h3, h4, h5, h6, h7, h9, hc, go_sem, Nat.reduceAdd, Nat.reduceSub, Nat.reduceMul, Nat.reduceMod, Nat.reduceLT, Nat.reduceLeDiff, Nat.reduceEqDiff, Nat.reduceBEq, Nat.reduceDiv, Int.reduceLT, Int.reduceLE, Int.reduceToNat, Int.reduceNeg, Int.reduceEq, ↓reduceIte, reduceCtorEq, ↓reduceDIte]
                    rfl
                · have h9 := call_st (frT t) hz (by omega)
                  cases ha : r.any fun n => decide (n = -1) with
                  | true =>
                    rw [ha, if_pos rfl] at h2
                    have h4' := h4
                    unfold usedOf at h4'
                    simp -implicitDefEqProofs only [h1, h2, g1, g2, g3, h3, List.take_left, h4', h5, h6, h7, h9, go_sem, Nat.reduceAdd, Nat.reduceSub, Nat.reduceMul, Nat.reduceMod, Nat.reduceLT, Nat.reduceLeDiff, Nat.reduceEqDiff, Nat.reduceBEq, Nat.reduceDiv, Int.reduceLT, Int.reduceLE, Int.reduceToNat, Int.reduceNeg, Int.reduceEq, ↓reduceIte, reduceCtorEq, ↓reduceDIte]
                  | false =>
                    rw [ha, if_neg (by simp)] at h2
                    rw [hus ha] at h4
                    simp -implicitDefEqProofs only [h1, h2, g1, g2, g3, h3, h4, h5, h6, h7, h9, go_sem, Nat.reduceAdd, Nat.reduceSub, Nat.reduceMul, Nat.reduceMod, Nat.reduceLT, Nat.reduceLeDiff, Nat.reduceEqDiff, Nat.reduceBEq, Nat.reduceDiv, Int.reduceLT, Int.reduceLE, Int.reduceToNat, Int.reduceNeg, Int.reduceEq, ↓reduceIte, reduceCtorEq, ↓reduceDIte]
    exact key
end Go.Proofs.YticpldfkjldepaaGreat.PI
