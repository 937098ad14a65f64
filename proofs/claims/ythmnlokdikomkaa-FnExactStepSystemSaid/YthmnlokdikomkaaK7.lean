/- Systems and ops: what is valid. -/
import Derived.Test.YthmnlokdikomkaaK4
namespace Go.Proofs.Ythmnlokdikomkaa.PI
open Go Go.Q
set_option maxRecDepth 100000
set_option maxHeartbeats 4000000
set_option linter.unusedSimpArgs false
set_option linter.unusedVariables false
abbrev cI (xs : List Int) : AV := .d (.slice (.int .i64)) xs
theorem call_len (xs : List Int) : callOf pr 55 [cI xs] [] = some (I xs.length, []) := by
  rw [call_eq pr 55 _ _ Try.f55 fn_55 _ rfl _ ann_55 rfl]
  simp -implicitDefEqProofs only [go_sem, Nat.reduceAdd, Nat.reduceSub, Nat.reduceMul, Nat.reduceMod, Nat.reduceLT, Nat.reduceLeDiff, Nat.reduceEqDiff, Nat.reduceBEq, Nat.reduceDiv, Int.reduceLT, Int.reduceLE, Int.reduceToNat, Int.reduceNeg, Int.reduceEq, ↓reduceIte, reduceCtorEq, ↓reduceDIte]
def sysL : List Int → List Bool → Bool
  | c :: cs, f :: fs => copyB c && !(decide (c = 0) && f) && sysL cs fs
  | _, _ => true
def sysB (cs : List Int) (fs : List Bool) : Bool := decide (1 ≤ (cs.length : Int) ∧ (cs.length : Int) ≤ 3) && decide (fs.length = cs.length) && sysL cs fs
theorem loop_vs (m : Bool) : ∀ (sc : List Int) (sf : List Bool) (pc : List Int) (pf : List Bool), sc.length = sf.length → pc.length = pf.length → pc.length + sc.length < 100 →
    loopOf pr 19 0 ⟨[(1, .op 64 0), (20, cI (pc ++ sc)), (21, I ((pc.length + sc.length : Nat) : Int)), (22, I pc.length)], [(64, .box [cI (pc ++ sc), LB (pf ++ sf), B m])]⟩ = if sysL sc sf = true then some (.exit 0, ⟨[(1, .op 64 0), (20, cI (pc ++ sc)), (21, I ((pc.length + sc.length : Nat) : Int)), (22, I ((pc.length + sc.length : Nat) : Int))], [(64, .box [cI (pc ++ sc), LB (pf ++ sf), B m])]⟩) else some (.ret, ⟨[(2, B false)], [(64, .box [cI (pc ++ sc), LB (pf ++ sf), B m])]⟩)
  | [], [], pc, pf, h, hp, hb => by
    rw [loop_eq pr 19 0 _ Try.f19 fn_19 _ rfl _ ann_19 _ rfl]
    simp -implicitDefEqProofs only [Int.lt_irrefl, List.append_nil, List.length_nil, Nat.add_zero, sysL, go_sem, Nat.reduceAdd, Nat.reduceSub, Nat.reduceMul, Nat.reduceMod, Nat.reduceLT, Nat.reduceLeDiff, Nat.reduceEqDiff, Nat.reduceBEq, Nat.reduceDiv, Int.reduceLT, Int.reduceLE, Int.reduceToNat, Int.reduceNeg, Int.reduceEq, ↓reduceIte, reduceCtorEq, ↓reduceDIte]
  | [], _ :: _, _, _, h, _, _ => by simp at h
  | _ :: _, [], _, _, h, _, _ => by simp at h
  | c :: sc, f :: sf, pc, pf, h, hp, hb => by
    simp only [List.length_cons] at hb h
    have hw : IntKind.i64.wrap ((pc.length : Int) + 1) = ((pc.length + 1 : Nat) : Int) := by rw [wrap_i] <;> omega
    have e1 : (pc ++ [c]).length = pc.length + 1 := by simp
    have e2 : pc.length + 1 + sc.length = pc.length + (sc.length + 1) := by omega
    have ih := loop_vs m sc sf (pc ++ [c]) (pf ++ [f]) (by omega) (by simp; omega) (by simp; omega)
    rw [e1, e2, app_one, app_one] at ih
    have hlt : ((pc.length : Int) < ((pc.length + (sc.length + 1) : Nat) : Int)) = True := tr (by omega)
    have g1 : ∀ z : Bool, (pf ++ f :: sf).getD pc.length z = f := by intro z; rw [hp]; simp
    have g3 : ((pc.length : Int) < (((pf ++ f :: sf).length : Nat) : Int)) = True := tr (by simp; omega)
    have g4 : (pc.length < (pf ++ f :: sf).length) = True := tr (by simp; omega)
    have c1 := call_icp c
    have hk : sysL (c :: sc) (f :: sf) = (copyB c && !(decide (c = 0) && f) && sysL sc sf) := rfl
    rw [hk]
    rw [loop_eq pr 19 0 _ Try.f19 fn_19 _ rfl _ ann_19 _ rfl]
    cases hc : copyB c with
    | false =>
      rw [hc] at c1
      rw [Bool.false_and, Bool.false_and]
      simp -implicitDefEqProofs only [hlt, getD_app, lt_app, ltn_app, zero_le_cast, Int.toNat_natCast, hw, List.length_cons, g1, g3, g4, c1, go_sem, Nat.reduceAdd, Nat.reduceSub, Nat.reduceMul, Nat.reduceMod, Nat.reduceLT, Nat.reduceLeDiff, Nat.reduceEqDiff, Nat.reduceBEq, Nat.reduceDiv, Int.reduceLT, Int.reduceLE, Int.reduceToNat, Int.reduceNeg, Int.reduceEq, ↓reduceIte, reduceCtorEq, ↓reduceDIte]
    | true =>
      rw [hc] at c1
      by_cases h0 : c = 0
      · cases f with
        | true =>
          rw [decide_eq_true h0]
          simp -implicitDefEqProofs only [hlt, getD_app, lt_app, ltn_app, zero_le_cast, Int.toNat_natCast, hw, List.length_cons, g1, g3, g4, c1, tr h0, go_sem, Nat.reduceAdd, Nat.reduceSub, Nat.reduceMul, Nat.reduceMod, Nat.reduceLT, Nat.reduceLeDiff, Nat.reduceEqDiff, Nat.reduceBEq, Nat.reduceDiv, Int.reduceLT, Int.reduceLE, Int.reduceToNat, Int.reduceNeg, Int.reduceEq, ↓reduceIte, reduceCtorEq, ↓reduceDIte]
        | false =>
          rw [Bool.and_false, Bool.not_false, Bool.true_and, Bool.true_and]
          simp -implicitDefEqProofs only [hlt, getD_app, lt_app, ltn_app, zero_le_cast, Int.toNat_natCast, hw, List.length_cons, g1, g3, g4, c1, tr h0, go_sem, Nat.reduceAdd, Nat.reduceSub, Nat.reduceMul, Nat.reduceMod, Nat.reduceLT, Nat.reduceLeDiff, Nat.reduceEqDiff, Nat.reduceBEq, Nat.reduceDiv, Int.reduceLT, Int.reduceLE, Int.reduceToNat, Int.reduceNeg, Int.reduceEq, ↓reduceIte, reduceCtorEq, ↓reduceDIte]
          exact ih
      · rw [decide_eq_false h0, Bool.false_and, Bool.not_false, Bool.true_and, Bool.true_and]
        simp -implicitDefEqProofs only [hlt, getD_app, lt_app, ltn_app, zero_le_cast, Int.toNat_natCast, hw, List.length_cons, g1, g3, g4, c1, fa h0, go_sem, Nat.reduceAdd, Nat.reduceSub, Nat.reduceMul, Nat.reduceMod, Nat.reduceLT, Nat.reduceLeDiff, Nat.reduceEqDiff, Nat.reduceBEq, Nat.reduceDiv, Int.reduceLT, Int.reduceLE, Int.reduceToNat, Int.reduceNeg, Int.reduceEq, ↓reduceIte, reduceCtorEq, ↓reduceDIte]
        exact ih
theorem call_vs (cs : List Int) (fs : List Bool) (m : Bool) : callOf pr 19 [.agg [cI cs, LB fs, B m]] [] = some (B (sysB cs fs), []) := by
  have c1 := call_len cs
  have c2 := call_iin (cs.length : Int) 1 3
  rw [call_eq pr 19 _ _ Try.f19 fn_19 _ rfl _ ann_19 rfl]
  by_cases h1 : 1 ≤ (cs.length : Int) ∧ (cs.length : Int) ≤ 3
  case neg =>
    rw [decide_eq_false h1] at c2
    rw [sysB, decide_eq_false h1, Bool.false_and, Bool.false_and]
    simp -implicitDefEqProofs only [c1, c2, go_sem, Nat.reduceAdd, Nat.reduceSub, Nat.reduceMul, Nat.reduceMod, Nat.reduceLT, Nat.reduceLeDiff, Nat.reduceEqDiff, Nat.reduceBEq, Nat.reduceDiv, Int.reduceLT, Int.reduceLE, Int.reduceToNat, Int.reduceNeg, Int.reduceEq, ↓reduceIte, reduceCtorEq, ↓reduceDIte]
  rw [decide_eq_true h1] at c2
  by_cases h2 : fs.length = cs.length
  case neg =>
    rw [sysB, decide_eq_false h2, Bool.and_false, Bool.false_and]
    have h3 : ((fs.length : Int) = (cs.length : Int)) = False := fa (by omega)
    simp -implicitDefEqProofs only [c1, c2, h3, go_sem, Nat.reduceAdd, Nat.reduceSub, Nat.reduceMul, Nat.reduceMod, Nat.reduceLT, Nat.reduceLeDiff, Nat.reduceEqDiff, Nat.reduceBEq, Nat.reduceDiv, Int.reduceLT, Int.reduceLE, Int.reduceToNat, Int.reduceNeg, Int.reduceEq, ↓reduceIte, reduceCtorEq, ↓reduceDIte]
  have h3 : ((fs.length : Int) = (cs.length : Int)) = True := tr (by omega)
  have h4 := loop_vs m cs fs [] [] h2.symm rfl (by simp; omega)
  simp only [List.nil_append, List.length_nil, Nat.zero_add] at h4
  have h4 : loopOf pr 19 0 ⟨[(1, .op 64 0), (20, cI cs), (21, I cs.length), (22, I 0)], [(64, .box [cI cs, LB fs, B m])]⟩ = _ := h4
  rw [sysB, decide_eq_true h1, decide_eq_true h2, Bool.true_and, Bool.true_and]
  cases hs : sysL cs fs with
  | true =>
    rw [hs, if_pos rfl] at h4
    simp -implicitDefEqProofs only [c1, c2, h3, h4, go_sem, Nat.reduceAdd, Nat.reduceSub, Nat.reduceMul, Nat.reduceMod, Nat.reduceLT, Nat.reduceLeDiff, Nat.reduceEqDiff, Nat.reduceBEq, Nat.reduceDiv, Int.reduceLT, Int.reduceLE, Int.reduceToNat, Int.reduceNeg, Int.reduceEq, ↓reduceIte, reduceCtorEq, ↓reduceDIte]
  | false =>
    rw [hs, if_neg (by simp)] at h4
    simp -implicitDefEqProofs only [c1, c2, h3, h4, go_sem, Nat.reduceAdd, Nat.reduceSub, Nat.reduceMul, Nat.reduceMod, Nat.reduceLT, Nat.reduceLeDiff, Nat.reduceEqDiff, Nat.reduceBEq, Nat.reduceDiv, Int.reduceLT, Int.reduceLE, Int.reduceToNat, Int.reduceNeg, Int.reduceEq, ↓reduceIte, reduceCtorEq, ↓reduceDIte]
abbrev pS (cs : List Int) (fs : List Bool) (m : Bool) : AV := .rp [cI cs, LB fs, B m]
theorem loop_ss (m : Bool) : ∀ (sc : List Int) (sf : List Bool) (pc : List Int) (pf : List Bool), sc.length = sf.length → pc.length = pf.length → pc.length + sc.length < 100 →
    loopOf pr 76 0 ⟨[(0, pS (pc ++ sc) (pf ++ sf) m), (3, I pc.length)], []⟩ = if sysL sc sf = true then some (.exit 0, ⟨[(0, pS (pc ++ sc) (pf ++ sf) m), (3, I ((pc.length + sc.length : Nat) : Int))], []⟩) else some (.ret, ⟨[(2, B false)], []⟩)
  | [], [], pc, pf, h, hp, hb => by
    rw [loop_eq pr 76 0 _ Try.f76 fn_76 _ rfl _ ann_76 _ rfl]
    simp -implicitDefEqProofs only [Int.lt_irrefl, List.append_nil, List.length_nil, Nat.add_zero, sysL, go_sem, Nat.reduceAdd, Nat.reduceSub, Nat.reduceMul, Nat.reduceMod, Nat.reduceLT, Nat.reduceLeDiff, Nat.reduceEqDiff, Nat.reduceBEq, Nat.reduceDiv, Int.reduceLT, Int.reduceLE, Int.reduceToNat, Int.reduceNeg, Int.reduceEq, ↓reduceIte, reduceCtorEq, ↓reduceDIte]
  | [], _ :: _, _, _, h, _, _ => by simp at h
  | _ :: _, [], _, _, h, _, _ => by simp at h
  | c :: sc, f :: sf, pc, pf, h, hp, hb => by
    simp only [List.length_cons] at hb h
    have hw : IntKind.i64.wrap ((pc.length : Int) + 1) = ((pc.length + 1 : Nat) : Int) := by rw [wrap_i] <;> omega
    have e1 : (pc ++ [c]).length = pc.length + 1 := by simp
    have e2 : pc.length + 1 + sc.length = pc.length + (sc.length + 1) := by omega
    have ih := loop_ss m sc sf (pc ++ [c]) (pf ++ [f]) (by omega) (by simp; omega) (by simp; omega)
    rw [e1, e2, app_one, app_one] at ih
    have g1 : ∀ z : Bool, (pf ++ f :: sf).getD pc.length z = f := by intro z; rw [hp]; simp
    have g3 : ((pc.length : Int) < (((pf ++ f :: sf).length : Nat) : Int)) = True := tr (by simp; omega)
    have g4 : (pc.length < (pf ++ f :: sf).length) = True := tr (by simp; omega)
    have c1 := call_scp c
    have hk : sysL (c :: sc) (f :: sf) = (copyB c && !(decide (c = 0) && f) && sysL sc sf) := rfl
    rw [hk]
    rw [loop_eq pr 76 0 _ Try.f76 fn_76 _ rfl _ ann_76 _ rfl]
    cases hc : copyB c with
    | false =>
      rw [hc] at c1
      rw [Bool.false_and, Bool.false_and]
      simp -implicitDefEqProofs only [getD_app, lt_app, ltn_app, zero_le_cast, Int.toNat_natCast, hw, g1, g3, g4, c1, go_sem, Nat.reduceAdd, Nat.reduceSub, Nat.reduceMul, Nat.reduceMod, Nat.reduceLT, Nat.reduceLeDiff, Nat.reduceEqDiff, Nat.reduceBEq, Nat.reduceDiv, Int.reduceLT, Int.reduceLE, Int.reduceToNat, Int.reduceNeg, Int.reduceEq, ↓reduceIte, reduceCtorEq, ↓reduceDIte]
    | true =>
      rw [hc] at c1
      by_cases h0 : c = 0
      · cases f with
        | true =>
          rw [decide_eq_true h0]
          simp -implicitDefEqProofs only [getD_app, lt_app, ltn_app, zero_le_cast, Int.toNat_natCast, hw, g1, g3, g4, c1, tr h0, go_sem, Nat.reduceAdd, Nat.reduceSub, Nat.reduceMul, Nat.reduceMod, Nat.reduceLT, Nat.reduceLeDiff, Nat.reduceEqDiff, Nat.reduceBEq, Nat.reduceDiv, Int.reduceLT, Int.reduceLE, Int.reduceToNat, Int.reduceNeg, Int.reduceEq, ↓reduceIte, reduceCtorEq, ↓reduceDIte]
        | false =>
          rw [Bool.and_false, Bool.not_false, Bool.true_and, Bool.true_and]
          simp -implicitDefEqProofs only [getD_app, lt_app, ltn_app, zero_le_cast, Int.toNat_natCast, hw, g1, g3, g4, c1, tr h0, go_sem, Nat.reduceAdd, Nat.reduceSub, Nat.reduceMul, Nat.reduceMod, Nat.reduceLT, Nat.reduceLeDiff, Nat.reduceEqDiff, Nat.reduceBEq, Nat.reduceDiv, Int.reduceLT, Int.reduceLE, Int.reduceToNat, Int.reduceNeg, Int.reduceEq, ↓reduceIte, reduceCtorEq, ↓reduceDIte]
          exact ih
      · cases f with
        | true =>
          rw [decide_eq_false h0, Bool.false_and, Bool.not_false, Bool.true_and, Bool.true_and]
          simp -implicitDefEqProofs only [getD_app, lt_app, ltn_app, zero_le_cast, Int.toNat_natCast, hw, g1, g3, g4, c1, fa h0, go_sem, Nat.reduceAdd, Nat.reduceSub, Nat.reduceMul, Nat.reduceMod, Nat.reduceLT, Nat.reduceLeDiff, Nat.reduceEqDiff, Nat.reduceBEq, Nat.reduceDiv, Int.reduceLT, Int.reduceLE, Int.reduceToNat, Int.reduceNeg, Int.reduceEq, ↓reduceIte, reduceCtorEq, ↓reduceDIte]
          exact ih
        | false =>
          rw [Bool.and_false, Bool.not_false, Bool.true_and, Bool.true_and]
          simp -implicitDefEqProofs only [getD_app, lt_app, ltn_app, zero_le_cast, Int.toNat_natCast, hw, g1, g3, g4, c1, fa h0, go_sem, Nat.reduceAdd, Nat.reduceSub, Nat.reduceMul, Nat.reduceMod, Nat.reduceLT, Nat.reduceLeDiff, Nat.reduceEqDiff, Nat.reduceBEq, Nat.reduceDiv, Int.reduceLT, Int.reduceLE, Int.reduceToNat, Int.reduceNeg, Int.reduceEq, ↓reduceIte, reduceCtorEq, ↓reduceDIte]
          exact ih
theorem call_ss (cs : List Int) (fs : List Bool) (m : Bool) : callOf pr 76 [pS cs fs m] [] = some (B (sysB cs fs), []) := by
  have c2 := call_sin (cs.length : Int) 1 3
  rw [call_eq pr 76 _ _ Try.f76 fn_76 _ rfl _ ann_76 rfl]
  by_cases h1 : 1 ≤ (cs.length : Int) ∧ (cs.length : Int) ≤ 3
  case neg =>
    rw [decide_eq_false h1] at c2
    rw [sysB, decide_eq_false h1, Bool.false_and, Bool.false_and]
    simp -implicitDefEqProofs only [c2, go_sem, Nat.reduceAdd, Nat.reduceSub, Nat.reduceMul, Nat.reduceMod, Nat.reduceLT, Nat.reduceLeDiff, Nat.reduceEqDiff, Nat.reduceBEq, Nat.reduceDiv, Int.reduceLT, Int.reduceLE, Int.reduceToNat, Int.reduceNeg, Int.reduceEq, ↓reduceIte, reduceCtorEq, ↓reduceDIte]
  rw [decide_eq_true h1] at c2
  by_cases h2 : fs.length = cs.length
  case neg =>
    rw [sysB, decide_eq_false h2, Bool.and_false, Bool.false_and]
    have h3 : ((fs.length : Int) = (cs.length : Int)) = False := fa (by omega)
    simp -implicitDefEqProofs only [c2, h3, go_sem, Nat.reduceAdd, Nat.reduceSub, Nat.reduceMul, Nat.reduceMod, Nat.reduceLT, Nat.reduceLeDiff, Nat.reduceEqDiff, Nat.reduceBEq, Nat.reduceDiv, Int.reduceLT, Int.reduceLE, Int.reduceToNat, Int.reduceNeg, Int.reduceEq, ↓reduceIte, reduceCtorEq, ↓reduceDIte]
  have h3 : ((fs.length : Int) = (cs.length : Int)) = True := tr (by omega)
  have h4 := loop_ss m cs fs [] [] h2.symm rfl (by simp; omega)
  simp only [List.nil_append, List.length_nil, Nat.zero_add] at h4
  have h4 : loopOf pr 76 0 ⟨[(0, pS cs fs m), (3, I 0)], []⟩ = _ := h4
  rw [sysB, decide_eq_true h1, decide_eq_true h2, Bool.true_and, Bool.true_and]
  cases hs : sysL cs fs with
  | true =>
    rw [hs, if_pos rfl] at h4
    simp -implicitDefEqProofs only [c2, h3, h4, go_sem, Nat.reduceAdd, Nat.reduceSub, Nat.reduceMul, Nat.reduceMod, Nat.reduceLT, Nat.reduceLeDiff, Nat.reduceEqDiff, Nat.reduceBEq, Nat.reduceDiv, Int.reduceLT, Int.reduceLE, Int.reduceToNat, Int.reduceNeg, Int.reduceEq, ↓reduceIte, reduceCtorEq, ↓reduceDIte]
  | false =>
    rw [hs, if_neg (by simp)] at h4
    simp -implicitDefEqProofs only [c2, h3, h4, go_sem, Nat.reduceAdd, Nat.reduceSub, Nat.reduceMul, Nat.reduceMod, Nat.reduceLT, Nat.reduceLeDiff, Nat.reduceEqDiff, Nat.reduceBEq, Nat.reduceDiv, Int.reduceLT, Int.reduceLE, Int.reduceToNat, Int.reduceNeg, Int.reduceEq, ↓reduceIte, reduceCtorEq, ↓reduceDIte]
def opB (k c n : Int) : Bool := decide (0 ≤ k ∧ k ≤ 2) && decide (0 ≤ c ∧ c ≤ n - 1)
theorem call_io (k c n : Int) (h : 1 ≤ n ∧ n ≤ 3) : callOf pr 65 [.agg [I k, I c], I n] [] = some (B (opB k c n), []) := by
  have c1 := call_iin k 0 2
  have c2 := call_iin c 0 (n - 1)
  have hw : IntKind.i64.wrap (n - 1) = n - 1 := by rw [wrap_i] <;> omega
  rw [call_eq pr 65 _ _ Try.f65 fn_65 _ rfl _ ann_65 rfl, opB]
  cases hk : decide (0 ≤ k ∧ k ≤ 2) with
  | true =>
    rw [hk] at c1
    simp -implicitDefEqProofs only [c1, c2, hw, go_sem, Nat.reduceAdd, Nat.reduceSub, Nat.reduceMul, Nat.reduceMod, Nat.reduceLT, Nat.reduceLeDiff, Nat.reduceEqDiff, Nat.reduceBEq, Nat.reduceDiv, Int.reduceLT, Int.reduceLE, Int.reduceToNat, Int.reduceNeg, Int.reduceEq, ↓reduceIte, reduceCtorEq, ↓reduceDIte]
  | false =>
    rw [hk] at c1
    simp -implicitDefEqProofs only [c1, go_sem, Nat.reduceAdd, Nat.reduceSub, Nat.reduceMul, Nat.reduceMod, Nat.reduceLT, Nat.reduceLeDiff, Nat.reduceEqDiff, Nat.reduceBEq, Nat.reduceDiv, Int.reduceLT, Int.reduceLE, Int.reduceToNat, Int.reduceNeg, Int.reduceEq, ↓reduceIte, reduceCtorEq, ↓reduceDIte]
theorem call_so (k c n : Int) (h : 1 ≤ n ∧ n ≤ 3) : callOf pr 77 [.agg [I k, I c], I n] [] = some (B (opB k c n), []) := by
  have c1 := call_sin k 0 2
  have c2 := call_sin c 0 (n - 1)
  have hw : IntKind.i64.wrap (n - 1) = n - 1 := by rw [wrap_i] <;> omega
  rw [call_eq pr 77 _ _ Try.f77 fn_77 _ rfl _ ann_77 rfl, opB]
  cases hk : decide (0 ≤ k ∧ k ≤ 2) with
  | true =>
    rw [hk] at c1
    simp -implicitDefEqProofs only [c1, c2, hw, go_sem, Nat.reduceAdd, Nat.reduceSub, Nat.reduceMul, Nat.reduceMod, Nat.reduceLT, Nat.reduceLeDiff, Nat.reduceEqDiff, Nat.reduceBEq, Nat.reduceDiv, Int.reduceLT, Int.reduceLE, Int.reduceToNat, Int.reduceNeg, Int.reduceEq, ↓reduceIte, reduceCtorEq, ↓reduceDIte]
  | false =>
    rw [hk] at c1
    simp -implicitDefEqProofs only [c1, go_sem, Nat.reduceAdd, Nat.reduceSub, Nat.reduceMul, Nat.reduceMod, Nat.reduceLT, Nat.reduceLeDiff, Nat.reduceEqDiff, Nat.reduceBEq, Nat.reduceDiv, Int.reduceLT, Int.reduceLE, Int.reduceToNat, Int.reduceNeg, Int.reduceEq, ↓reduceIte, reduceCtorEq, ↓reduceDIte]
abbrev HX (cs : List Int) (fs : List Bool) (m : Bool) : Heap := [(1000000, .box [.os (.t 1000001), .os (.t 1000002), B m]), (1000001, .arr false false (.int .i64) cs), (1000002, .arr false false .bool fs)]
theorem call_bc (n : Nat) (c : Int) (b m : Bool) (cs : List Int) (fs : List Bool) (h4 : n < cs.length) (h5 : n < fs.length) : callOf pr 96 [.op 1000000 0, I n, I c, B b] (HX cs fs m) = some (.tuple [], HX (cs.set n c) (fs.set n (b && !decide (c = 0))) m) := by
  have g4 := tr h4
  have g5 := tr h5
  have g2 : ((n : Int) < (cs.length : Int)) = True := tr (by omega)
  have g3 : ((n : Int) < (fs.length : Int)) = True := tr (by omega)
  rw [call_eq pr 96 _ _ Try.f96 fn_96 _ rfl _ ann_96 rfl, HX]
  cases b with
  | false => simp -implicitDefEqProofs only [g2, g3, g4, g5, zero_le_cast, Int.toNat_natCast, go_sem, Nat.reduceAdd, Nat.reduceSub, Nat.reduceMul, Nat.reduceMod, Nat.reduceLT, Nat.reduceLeDiff, Nat.reduceEqDiff, Nat.reduceBEq, Nat.reduceDiv, Int.reduceLT, Int.reduceLE, Int.reduceToNat, Int.reduceNeg, Int.reduceEq, ↓reduceIte, reduceCtorEq, ↓reduceDIte]
  | true =>
    by_cases h0 : c = 0
    · rw [decide_eq_true h0]
      simp -implicitDefEqProofs only [g2, g3, g4, g5, zero_le_cast, Int.toNat_natCast, tr h0, go_sem, Nat.reduceAdd, Nat.reduceSub, Nat.reduceMul, Nat.reduceMod, Nat.reduceLT, Nat.reduceLeDiff, Nat.reduceEqDiff, Nat.reduceBEq, Nat.reduceDiv, Int.reduceLT, Int.reduceLE, Int.reduceToNat, Int.reduceNeg, Int.reduceEq, ↓reduceIte, reduceCtorEq, ↓reduceDIte]
    · rw [decide_eq_false h0]
      simp -implicitDefEqProofs only [g2, g3, g4, g5, zero_le_cast, Int.toNat_natCast, fa h0, go_sem, Nat.reduceAdd, Nat.reduceSub, Nat.reduceMul, Nat.reduceMod, Nat.reduceLT, Nat.reduceLeDiff, Nat.reduceEqDiff, Nat.reduceBEq, Nat.reduceDiv, Int.reduceLT, Int.reduceLE, Int.reduceToNat, Int.reduceNeg, Int.reduceEq, ↓reduceIte, reduceCtorEq, ↓reduceDIte]
abbrev rZ : Ru := (0, 0, false, ())
/-- What others do when a cache does something: copies, what is fresh, memory, how often it is written. -/
def seeL (rules : List Ru) (c : Int) : Int → List Int → List Bool → Bool → Int → List Int × List Bool × Bool × Int
  | i, x :: cs, f :: fs, m, k => if (decide (i = c) || decide (x = 0)) = true then (x :: (seeL rules c (i + 1) cs fs m k).1, f :: (seeL rules c (i + 1) cs fs m k).2.1, (seeL rules c (i + 1) cs fs m k).2.2) else
      let r := rules.getD x.toNat rZ
      let q := seeL rules c (i + 1) cs fs (if r.2.2.1 then f else m) (if r.2.2.1 then k + 1 else k)
      (r.1 :: q.1, (f && !decide (r.1 = 0)) :: q.2.1, q.2.2)
  | _, cs, fs, m, k => (cs, fs, m, k)
theorem see_skip (rules : List Ru) (c i : Int) (x : Int) (cs : List Int) (f : Bool) (fs : List Bool) (m : Bool) (k : Int) (h : i = c ∨ x = 0) : seeL rules c i (x :: cs) (f :: fs) m k = (x :: (seeL rules c (i + 1) cs fs m k).1, f :: (seeL rules c (i + 1) cs fs m k).2.1, (seeL rules c (i + 1) cs fs m k).2.2) := by
  rw [seeL, if_pos (by simpa using h)]
theorem see_take (rules : List Ru) (c i : Int) (x : Int) (cs : List Int) (f : Bool) (fs : List Bool) (m : Bool) (k : Int) (n s : Int) (b : Bool) (h : ¬ i = c) (hx : ¬ x = 0) (hr : rules.getD x.toNat rZ = (n, s, b, ())) : seeL rules c i (x :: cs) (f :: fs) m k = (n :: (seeL rules c (i + 1) cs fs (if b then f else m) (if b then k + 1 else k)).1, (f && !decide (n = 0)) :: (seeL rules c (i + 1) cs fs (if b then f else m) (if b then k + 1 else k)).2.1, (seeL rules c (i + 1) cs fs (if b then f else m) (if b then k + 1 else k)).2.2) := by
  rw [seeL, if_neg (by simp [h, hx])]
  simp only [hr]
theorem see_len (rules : List Ru) (c : Int) : ∀ (cs : List Int) (fs : List Bool) (i : Int) (m : Bool) (k : Int), cs.length = fs.length → (seeL rules c i cs fs m k).1.length = cs.length ∧ (seeL rules c i cs fs m k).2.1.length = fs.length
  | [], [], _, _, _, _ => ⟨rfl, rfl⟩
  | [], _ :: _, _, _, _, h => by simp at h
  | _ :: _, [], _, _, _, h => by simp at h
  | x :: cs, f :: fs, i, m, k, h => by
    have h : cs.length = fs.length := by simpa using h
    by_cases hk : i = c ∨ x = 0
    · rw [see_skip rules c i x cs f fs m k hk]
      have := see_len rules c cs fs (i + 1) m k h
      simp [this.1, this.2]
    · obtain ⟨n, s, b, ⟨⟩⟩ : Ru := rules.getD x.toNat rZ
      rw [seeL, if_neg (by simpa using hk)]
      have := fun m k => see_len rules c cs fs (i + 1) m k h
      simp [(this _ _).1, (this _ _).2]
theorem see_bk (rules : List Ru) (c : Int) : ∀ (cs : List Int) (fs : List Bool) (i : Int) (m : Bool) (k : Int), cs.length = fs.length → k ≤ (seeL rules c i cs fs m k).2.2.2 ∧ (seeL rules c i cs fs m k).2.2.2 ≤ k + cs.length
  | [], [], _, _, _, _ => by simp [seeL]
  | [], _ :: _, _, _, _, h => by simp at h
  | _ :: _, [], _, _, _, h => by simp at h
  | x :: cs, f :: fs, i, m, k, h => by
    have h : cs.length = fs.length := by simpa using h
    by_cases hk : i = c ∨ x = 0
    · rw [see_skip rules c i x cs f fs m k hk]
      have := see_bk rules c cs fs (i + 1) m k h
      simp only [List.length_cons]
      omega
    · obtain ⟨n, s, b, hb⟩ : ∃ n s b, rules.getD x.toNat rZ = (n, s, b, ()) := by
        obtain ⟨n, s, b, ⟨⟩⟩ : Ru := rules.getD x.toNat rZ
        exact ⟨n, s, b, rfl⟩
      rw [see_take rules c i x cs f fs m k n s b (fun h => hk (.inl h)) (fun h => hk (.inr h)) hb]
      have := fun m k => see_bk rules c cs fs (i + 1) m k h
      simp only [List.length_cons]
      cases b with
      | true => have := this f (k + 1); simp only [if_true]; omega
      | false => have := this m k; simp only [Bool.false_eq_true, if_false]; omega
theorem loop_se (rules : List Ru) (c : Int) (hr : rules.length = 4) : ∀ (sc : List Int) (sf : List Bool) (pc : List Int) (pf : List Bool) (m : Bool) (k : Int), sc.length = sf.length → pc.length = pf.length → pc.length + sc.length < 100 → (0 ≤ k ∧ k ≤ pc.length) → (∀ x ∈ sc, 0 ≤ x ∧ x ≤ 3) →
    loopOf pr 97 0 ⟨[(0, .op 1000000 0), (1, I c), (2, LR rules), (7, I k), (13, .os (.t 1000001)), (14, I ((pc.length + sc.length : Nat) : Int)), (15, I pc.length)], HX (pc ++ sc) (pf ++ sf) m⟩ = some (.exit 0, ⟨[(0, .op 1000000 0), (1, I c), (2, LR rules), (7, I (seeL rules c pc.length sc sf m k).2.2.2), (13, .os (.t 1000001)), (14, I ((pc.length + sc.length : Nat) : Int)), (15, I ((pc.length + sc.length : Nat) : Int))], HX (pc ++ (seeL rules c pc.length sc sf m k).1) (pf ++ (seeL rules c pc.length sc sf m k).2.1) (seeL rules c pc.length sc sf m k).2.2.1⟩)
  | [], [], pc, pf, m, k, h, hp, hb, hk, hx => by
    rw [loop_eq pr 97 0 _ Try.f97 fn_97 _ rfl _ ann_97 _ rfl, HX]
    simp -implicitDefEqProofs only [Int.lt_irrefl, List.append_nil, List.length_nil, Nat.add_zero, seeL, go_sem, Nat.reduceAdd, Nat.reduceSub, Nat.reduceMul, Nat.reduceMod, Nat.reduceLT, Nat.reduceLeDiff, Nat.reduceEqDiff, Nat.reduceBEq, Nat.reduceDiv, Int.reduceLT, Int.reduceLE, Int.reduceToNat, Int.reduceNeg, Int.reduceEq, ↓reduceIte, reduceCtorEq, ↓reduceDIte]
  | [], _ :: _, _, _, _, _, h, _, _, _, _ => by simp at h
  | _ :: _, [], _, _, _, _, h, _, _, _, _ => by simp at h
  | x :: sc, f :: sf, pc, pf, m, k, h, hp, hb, hk, hx => by
    simp only [List.length_cons] at hb h
    have hw : IntKind.i64.wrap ((pc.length : Int) + 1) = ((pc.length + 1 : Nat) : Int) := by rw [wrap_i] <;> omega
    have hw2 : IntKind.i64.wrap (k + 1) = k + 1 := by rw [wrap_i] <;> omega
    have e1 : ∀ x : Int, (pc ++ [x]).length = pc.length + 1 := by intro x; simp
    have e2 : pc.length + 1 + sc.length = pc.length + (sc.length + 1) := by omega
    have ih := fun (x' : Int) (f' m' : Bool) (k' : Int) (hk' : 0 ≤ k' ∧ k' ≤ pc.length + 1) => loop_se rules c hr sc sf (pc ++ [x']) (pf ++ [f']) m' k' (by omega) (by simp; omega) (by simp; omega) (by simpa using hk') (fun y hy => hx y (List.mem_cons_of_mem _ hy))
    simp only [e1, e2, app_one] at ih
    have hlt : ((pc.length : Int) < ((pc.length + (sc.length + 1) : Nat) : Int)) = True := tr (by omega)
    have g1 : ∀ z : Bool, (pf ++ f :: sf).getD pc.length z = f := by intro z; rw [hp]; simp
    have g2 : ∀ y : Bool, (pf ++ f :: sf).set pc.length y = pf ++ y :: sf := by intro z; rw [hp]; simp
    have g3 : ((pc.length : Int) < (((pf ++ f :: sf).length : Nat) : Int)) = True := tr (by simp; omega)
    have g4 : (pc.length < (pf ++ f :: sf).length) = True := tr (by simp; omega)
    have ec : ((pc.length : Int) + 1) = ((pc.length + 1 : Nat) : Int) := by omega
    by_cases hc : (pc.length : Int) = c
    · have i1 := ih x f m k (by omega)
      rw [see_skip rules c _ x sc f sf m k (.inl hc), ec]
      rw [loop_eq pr 97 0 _ Try.f97 fn_97 _ rfl _ ann_97 _ rfl, HX]
      simp -implicitDefEqProofs only [hlt, getD_app, set_app, lt_app, ltn_app, zero_le_cast, Int.toNat_natCast, hw, List.length_cons, g1, g2, g3, g4, tr hc, go_sem, Nat.reduceAdd, Nat.reduceSub, Nat.reduceMul, Nat.reduceMod, Nat.reduceLT, Nat.reduceLeDiff, Nat.reduceEqDiff, Nat.reduceBEq, Nat.reduceDiv, Int.reduceLT, Int.reduceLE, Int.reduceToNat, Int.reduceNeg, Int.reduceEq, ↓reduceIte, reduceCtorEq, ↓reduceDIte]
      exact i1
    by_cases h0 : x = 0
    · have i1 := ih x f m k (by omega)
      rw [see_skip rules c _ x sc f sf m k (.inr h0), ec]
      rw [loop_eq pr 97 0 _ Try.f97 fn_97 _ rfl _ ann_97 _ rfl, HX]
      simp -implicitDefEqProofs only [hlt, getD_app, set_app, lt_app, ltn_app, zero_le_cast, Int.toNat_natCast, hw, List.length_cons, g1, g2, g3, g4, fa hc, tr h0, go_sem, Nat.reduceAdd, Nat.reduceSub, Nat.reduceMul, Nat.reduceMod, Nat.reduceLT, Nat.reduceLeDiff, Nat.reduceEqDiff, Nat.reduceBEq, Nat.reduceDiv, Int.reduceLT, Int.reduceLE, Int.reduceToNat, Int.reduceNeg, Int.reduceEq, ↓reduceIte, reduceCtorEq, ↓reduceDIte]
      exact i1
    obtain ⟨x0, x3⟩ := hx x (List.mem_cons_self ..)
    obtain ⟨n, s, b, hg⟩ : ∃ n s b, rules.getD x.toNat rZ = (n, s, b, ()) := by
      obtain ⟨n, s, b, ⟨⟩⟩ : Ru := rules.getD x.toNat rZ
      exact ⟨n, s, b, rfl⟩
    have hxl : x.toNat < rules.length := by omega
    have hg2 : ∀ z : Ru, rules.getD x.toNat z = (n, s, b, ()) := by
      intro z
      rw [← hg, getD_of_lt hxl, getD_of_lt hxl]
    have x1 : (0 ≤ x) = True := tr x0
    have x2 : (x < (rules.length : Int)) = True := tr (by omega)
    have x4 := tr hxl
    rw [see_take rules c _ x sc f sf m k n s b hc h0 hg, ec]
    cases b with
    | true =>
      have hbc := call_bc pc.length n f f (pc ++ x :: sc) (pf ++ f :: sf) (by simp) (by simp; omega)
      rw [HX, HX, set_app, g2] at hbc
      have i1 := ih n (f && !decide (n = 0)) f (k + 1) (by omega)
      rw [loop_eq pr 97 0 _ Try.f97 fn_97 _ rfl _ ann_97 _ rfl, HX]
      simp -implicitDefEqProofs only [hlt, getD_app, set_app, lt_app, ltn_app, zero_le_cast, Int.toNat_natCast, hw, List.length_cons, g1, g2, g3, g4, fa hc, fa h0, x1, x2, x4, hg2, hw2, hbc, go_sem, Nat.reduceAdd, Nat.reduceSub, Nat.reduceMul, Nat.reduceMod, Nat.reduceLT, Nat.reduceLeDiff, Nat.reduceEqDiff, Nat.reduceBEq, Nat.reduceDiv, Int.reduceLT, Int.reduceLE, Int.reduceToNat, Int.reduceNeg, Int.reduceEq, ↓reduceIte, reduceCtorEq, ↓reduceDIte]
      exact i1
    | false =>
      have hbc := call_bc pc.length n f m (pc ++ x :: sc) (pf ++ f :: sf) (by simp) (by simp; omega)
      rw [HX, HX, set_app, g2] at hbc
      have i1 := ih n (f && !decide (n = 0)) m k (by omega)
      rw [loop_eq pr 97 0 _ Try.f97 fn_97 _ rfl _ ann_97 _ rfl, HX]
      simp -implicitDefEqProofs only [hlt, getD_app, set_app, lt_app, ltn_app, zero_le_cast, Int.toNat_natCast, hw, List.length_cons, g1, g2, g3, g4, fa hc, fa h0, x1, x2, x4, hg2, hw2, hbc, go_sem, Nat.reduceAdd, Nat.reduceSub, Nat.reduceMul, Nat.reduceMod, Nat.reduceLT, Nat.reduceLeDiff, Nat.reduceEqDiff, Nat.reduceBEq, Nat.reduceDiv, Int.reduceLT, Int.reduceLE, Int.reduceToNat, Int.reduceNeg, Int.reduceEq, ↓reduceIte, reduceCtorEq, ↓reduceDIte]
      exact i1
theorem call_se (rules : List Ru) (c : Int) (hr : rules.length = 4) (cs : List Int) (fs : List Bool) (m : Bool) (h : cs.length = fs.length) (hb : cs.length < 100) (hx : ∀ x ∈ cs, 0 ≤ x ∧ x ≤ 3) : callOf pr 97 [.op 1000000 0, I c, LR rules] (HX cs fs m) = some (I (seeL rules c 0 cs fs m 0).2.2.2, HX (seeL rules c 0 cs fs m 0).1 (seeL rules c 0 cs fs m 0).2.1 (seeL rules c 0 cs fs m 0).2.2.1) := by
  have h1 := loop_se rules c hr cs fs [] [] m 0 h rfl (by simpa using hb) (by simp) hx
  simp only [List.nil_append, List.length_nil, Nat.zero_add, HX] at h1
  have h1 : loopOf pr 97 0 ⟨[(0, .op 1000000 0), (1, I c), (2, LR rules), (7, I 0), (13, .os (.t 1000001)), (14, I cs.length), (15, I 0)], HX cs fs m⟩ = _ := h1
  rw [HX] at h1
  rw [call_eq pr 97 _ _ Try.f97 fn_97 _ rfl _ ann_97 rfl, HX]
  simp -implicitDefEqProofs only [h1, go_sem, Nat.reduceAdd, Nat.reduceSub, Nat.reduceMul, Nat.reduceMod, Nat.reduceLT, Nat.reduceLeDiff, Nat.reduceEqDiff, Nat.reduceBEq, Nat.reduceDiv, Int.reduceLT, Int.reduceLE, Int.reduceToNat, Int.reduceNeg, Int.reduceEq, ↓reduceIte, reduceCtorEq, ↓reduceDIte]
  rfl
theorem loop_s10 (rules : List Ru) (c : Int) (hr : rules.length = 4) : ∀ (sc : List Int) (sf : List Bool) (pc : List Int) (pf : List Bool) (m : Bool) (k : Int), sc.length = sf.length → pc.length = pf.length → pc.length + sc.length < 100 → (0 ≤ k ∧ k ≤ pc.length) → (∀ x ∈ sc, 0 ≤ x ∧ x ≤ 3) →
    loopOf pr 113 0 ⟨[(0, LR rules), (1, .op 1000000 0), (2, I c), (7, I k), (8, I pc.length)], HX (pc ++ sc) (pf ++ sf) m⟩ = some (.exit 0, ⟨[(0, LR rules), (1, .op 1000000 0), (2, I c), (7, I (seeL rules c pc.length sc sf m k).2.2.2), (8, I ((pc.length + sc.length : Nat) : Int))], HX (pc ++ (seeL rules c pc.length sc sf m k).1) (pf ++ (seeL rules c pc.length sc sf m k).2.1) (seeL rules c pc.length sc sf m k).2.2.1⟩)
  | [], [], pc, pf, m, k, h, hp, hb, hk, hx => by
    rw [loop_eq pr 113 0 _ Try.f113 fn_113 _ rfl _ ann_113 _ rfl, HX]
    simp -implicitDefEqProofs only [Int.lt_irrefl, List.append_nil, List.length_nil, Nat.add_zero, seeL, go_sem, Nat.reduceAdd, Nat.reduceSub, Nat.reduceMul, Nat.reduceMod, Nat.reduceLT, Nat.reduceLeDiff, Nat.reduceEqDiff, Nat.reduceBEq, Nat.reduceDiv, Int.reduceLT, Int.reduceLE, Int.reduceToNat, Int.reduceNeg, Int.reduceEq, ↓reduceIte, reduceCtorEq, ↓reduceDIte]
  | [], _ :: _, _, _, _, _, h, _, _, _, _ => by simp at h
  | _ :: _, [], _, _, _, _, h, _, _, _, _ => by simp at h
  | x :: sc, f :: sf, pc, pf, m, k, h, hp, hb, hk, hx => by
    simp only [List.length_cons] at hb h
    have hw : IntKind.i64.wrap ((pc.length : Int) + 1) = ((pc.length + 1 : Nat) : Int) := by rw [wrap_i] <;> omega
    have hw2 : IntKind.i64.wrap (k + 1) = k + 1 := by rw [wrap_i] <;> omega
    have e1 : ∀ x : Int, (pc ++ [x]).length = pc.length + 1 := by intro x; simp
    have e2 : pc.length + 1 + sc.length = pc.length + (sc.length + 1) := by omega
    have ih := fun (x' : Int) (f' m' : Bool) (k' : Int) (hk' : 0 ≤ k' ∧ k' ≤ pc.length + 1) => loop_s10 rules c hr sc sf (pc ++ [x']) (pf ++ [f']) m' k' (by omega) (by simp; omega) (by simp; omega) (by simpa using hk') (fun y hy => hx y (List.mem_cons_of_mem _ hy))
    simp only [e1, e2, app_one] at ih
    have wk : ∀ n : Nat, n < 100 → IntKind.i64.wrap (n : Int) = (n : Int) := by intro n hn; rw [wrap_i] <;> omega
    have g1 : ∀ z : Bool, (pf ++ f :: sf).getD pc.length z = f := by intro z; rw [hp]; simp
    have g2 : ∀ y : Bool, (pf ++ f :: sf).set pc.length y = pf ++ y :: sf := by intro z; rw [hp]; simp
    have g3 : ((pc.length : Int) < (((pf ++ f :: sf).length : Nat) : Int)) = True := tr (by simp; omega)
    have g4 : (pc.length < (pf ++ f :: sf).length) = True := tr (by simp; omega)
    have ec : ((pc.length : Int) + 1) = ((pc.length + 1 : Nat) : Int) := by omega
    by_cases hc : (pc.length : Int) = c
    · have i1 := ih x f m k (by omega)
      rw [see_skip rules c _ x sc f sf m k (.inl hc), ec]
      rw [loop_eq pr 113 0 _ Try.f113 fn_113 _ rfl _ ann_113 _ rfl, HX]
      simp -implicitDefEqProofs only [getD_app, set_app, lt_app, ltn_app, zero_le_cast, Int.toNat_natCast, hw, List.length_cons, g1, g2, g3, g4, tr hc, go_sem, Nat.reduceAdd, Nat.reduceSub, Nat.reduceMul, Nat.reduceMod, Nat.reduceLT, Nat.reduceLeDiff, Nat.reduceEqDiff, Nat.reduceBEq, Nat.reduceDiv, Int.reduceLT, Int.reduceLE, Int.reduceToNat, Int.reduceNeg, Int.reduceEq, ↓reduceIte, reduceCtorEq, ↓reduceDIte]
      exact i1
    by_cases h0 : x = 0
    · have i1 := ih x f m k (by omega)
      rw [see_skip rules c _ x sc f sf m k (.inr h0), ec]
      rw [loop_eq pr 113 0 _ Try.f113 fn_113 _ rfl _ ann_113 _ rfl, HX]
      simp -implicitDefEqProofs only [getD_app, set_app, lt_app, ltn_app, zero_le_cast, Int.toNat_natCast, hw, List.length_cons, g1, g2, g3, g4, fa hc, tr h0, go_sem, Nat.reduceAdd, Nat.reduceSub, Nat.reduceMul, Nat.reduceMod, Nat.reduceLT, Nat.reduceLeDiff, Nat.reduceEqDiff, Nat.reduceBEq, Nat.reduceDiv, Int.reduceLT, Int.reduceLE, Int.reduceToNat, Int.reduceNeg, Int.reduceEq, ↓reduceIte, reduceCtorEq, ↓reduceDIte]
      exact i1
    obtain ⟨x0, x3⟩ := hx x (List.mem_cons_self ..)
    obtain ⟨n, s, b, hg⟩ : ∃ n s b, rules.getD x.toNat rZ = (n, s, b, ()) := by
      obtain ⟨n, s, b, ⟨⟩⟩ : Ru := rules.getD x.toNat rZ
      exact ⟨n, s, b, rfl⟩
    have hxl : x.toNat < rules.length := by omega
    have hg2 : ∀ z : Ru, rules.getD x.toNat z = (n, s, b, ()) := by
      intro z
      rw [← hg, getD_of_lt hxl, getD_of_lt hxl]
    have x1 : (0 ≤ x) = True := tr x0
    have x2 : (x < (rules.length : Int)) = True := tr (by omega)
    have x4 := tr hxl
    rw [see_take rules c _ x sc f sf m k n s b hc h0 hg, ec]
    cases b with
    | true =>
      have i1 := ih n (f && !decide (n = 0)) f (k + 1) (by omega)
      rw [loop_eq pr 113 0 _ Try.f113 fn_113 _ rfl _ ann_113 _ rfl, HX]
      cases f with
      | false =>
        simp -implicitDefEqProofs only [getD_app, set_app, lt_app, ltn_app, zero_le_cast, Int.toNat_natCast, hw, List.length_cons, g1, g2, g3, g4, fa hc, fa h0, x1, x2, x4, hg2, hw2, go_sem, Nat.reduceAdd, Nat.reduceSub, Nat.reduceMul, Nat.reduceMod, Nat.reduceLT, Nat.reduceLeDiff, Nat.reduceEqDiff, Nat.reduceBEq, Nat.reduceDiv, Int.reduceLT, Int.reduceLE, Int.reduceToNat, Int.reduceNeg, Int.reduceEq, ↓reduceIte, reduceCtorEq, ↓reduceDIte]
        exact i1
      | true =>
        by_cases n0 : n = 0
        · rw [decide_eq_true n0] at i1 ⊢
          simp -implicitDefEqProofs only [getD_app, set_app, lt_app, ltn_app, zero_le_cast, Int.toNat_natCast, hw, List.length_cons, g1, g2, g3, g4, fa hc, fa h0, x1, x2, x4, hg2, hw2, tr n0, go_sem, Nat.reduceAdd, Nat.reduceSub, Nat.reduceMul, Nat.reduceMod, Nat.reduceLT, Nat.reduceLeDiff, Nat.reduceEqDiff, Nat.reduceBEq, Nat.reduceDiv, Int.reduceLT, Int.reduceLE, Int.reduceToNat, Int.reduceNeg, Int.reduceEq, ↓reduceIte, reduceCtorEq, ↓reduceDIte]
          exact i1
        · rw [decide_eq_false n0] at i1 ⊢
          simp -implicitDefEqProofs only [getD_app, set_app, lt_app, ltn_app, zero_le_cast, Int.toNat_natCast, hw, List.length_cons, g1, g2, g3, g4, fa hc, fa h0, x1, x2, x4, hg2, hw2, fa n0, go_sem, Nat.reduceAdd, Nat.reduceSub, Nat.reduceMul, Nat.reduceMod, Nat.reduceLT, Nat.reduceLeDiff, Nat.reduceEqDiff, Nat.reduceBEq, Nat.reduceDiv, Int.reduceLT, Int.reduceLE, Int.reduceToNat, Int.reduceNeg, Int.reduceEq, ↓reduceIte, reduceCtorEq, ↓reduceDIte]
          exact i1
    | false =>
      have i1 := ih n (f && !decide (n = 0)) m k (by omega)
      rw [loop_eq pr 113 0 _ Try.f113 fn_113 _ rfl _ ann_113 _ rfl, HX]
      cases f with
      | false =>
        simp -implicitDefEqProofs only [getD_app, set_app, lt_app, ltn_app, zero_le_cast, Int.toNat_natCast, hw, List.length_cons, g1, g2, g3, g4, fa hc, fa h0, x1, x2, x4, hg2, hw2, go_sem, Nat.reduceAdd, Nat.reduceSub, Nat.reduceMul, Nat.reduceMod, Nat.reduceLT, Nat.reduceLeDiff, Nat.reduceEqDiff, Nat.reduceBEq, Nat.reduceDiv, Int.reduceLT, Int.reduceLE, Int.reduceToNat, Int.reduceNeg, Int.reduceEq, ↓reduceIte, reduceCtorEq, ↓reduceDIte]
        exact i1
      | true =>
        by_cases n0 : n = 0
        · rw [decide_eq_true n0] at i1 ⊢
          simp -implicitDefEqProofs only [getD_app, set_app, lt_app, ltn_app, zero_le_cast, Int.toNat_natCast, hw, List.length_cons, g1, g2, g3, g4, fa hc, fa h0, x1, x2, x4, hg2, hw2, tr n0, go_sem, Nat.reduceAdd, Nat.reduceSub, Nat.reduceMul, Nat.reduceMod, Nat.reduceLT, Nat.reduceLeDiff, Nat.reduceEqDiff, Nat.reduceBEq, Nat.reduceDiv, Int.reduceLT, Int.reduceLE, Int.reduceToNat, Int.reduceNeg, Int.reduceEq, ↓reduceIte, reduceCtorEq, ↓reduceDIte]
          exact i1
        · rw [decide_eq_false n0] at i1 ⊢
          simp -implicitDefEqProofs only [getD_app, set_app, lt_app, ltn_app, zero_le_cast, Int.toNat_natCast, hw, List.length_cons, g1, g2, g3, g4, fa hc, fa h0, x1, x2, x4, hg2, hw2, fa n0, go_sem, Nat.reduceAdd, Nat.reduceSub, Nat.reduceMul, Nat.reduceMod, Nat.reduceLT, Nat.reduceLeDiff, Nat.reduceEqDiff, Nat.reduceBEq, Nat.reduceDiv, Int.reduceLT, Int.reduceLE, Int.reduceToNat, Int.reduceNeg, Int.reduceEq, ↓reduceIte, reduceCtorEq, ↓reduceDIte]
          exact i1
theorem call_s10 (rules : List Ru) (c : Int) (hr : rules.length = 4) (cs : List Int) (fs : List Bool) (m : Bool) (h : cs.length = fs.length) (hb : cs.length < 100) (hx : ∀ x ∈ cs, 0 ≤ x ∧ x ≤ 3) : callOf pr 113 [LR rules, .op 1000000 0, I c] (HX cs fs m) = some (I (seeL rules c 0 cs fs m 0).2.2.2, HX (seeL rules c 0 cs fs m 0).1 (seeL rules c 0 cs fs m 0).2.1 (seeL rules c 0 cs fs m 0).2.2.1) := by
  have h1 := loop_s10 rules c hr cs fs [] [] m 0 h rfl (by simpa using hb) (by simp) hx
  simp only [List.nil_append, List.length_nil, Nat.zero_add, HX] at h1
  have h1 : loopOf pr 113 0 ⟨[(0, LR rules), (1, .op 1000000 0), (2, I c), (7, I 0), (8, I 0)], HX cs fs m⟩ = _ := h1
  rw [HX] at h1
  rw [call_eq pr 113 _ _ Try.f113 fn_113 _ rfl _ ann_113 rfl, HX]
  simp -implicitDefEqProofs only [h1, go_sem, Nat.reduceAdd, Nat.reduceSub, Nat.reduceMul, Nat.reduceMod, Nat.reduceLT, Nat.reduceLeDiff, Nat.reduceEqDiff, Nat.reduceBEq, Nat.reduceDiv, Int.reduceLT, Int.reduceLE, Int.reduceToNat, Int.reduceNeg, Int.reduceEq, ↓reduceIte, reduceCtorEq, ↓reduceDIte]
  rfl
/-- Has a cache other than one a copy? -/
def othB (c : Int) : Int → List Int → Bool
  | _, [] => false
  | i, x :: cs => (!decide (i = c) && !decide (x = 0)) || othB c (i + 1) cs
theorem loop_ot (c : Int) (fs : List Bool) (m : Bool) : ∀ (sc pc : List Int), pc.length + sc.length < 100 →
    loopOf pr 73 0 ⟨[(0, pS (pc ++ sc) fs m), (1, I c), (5, I pc.length)], []⟩ = if othB c pc.length sc = true then some (.ret, ⟨[(4, B true)], []⟩) else some (.exit 0, ⟨[(0, pS (pc ++ sc) fs m), (1, I c), (5, I ((pc.length + sc.length : Nat) : Int))], []⟩)
  | [], pc, hb => by
    rw [loop_eq pr 73 0 _ Try.f73 fn_73 _ rfl _ ann_73 _ rfl]
    simp -implicitDefEqProofs only [Int.lt_irrefl, List.append_nil, List.length_nil, Nat.add_zero, othB, go_sem, Nat.reduceAdd, Nat.reduceSub, Nat.reduceMul, Nat.reduceMod, Nat.reduceLT, Nat.reduceLeDiff, Nat.reduceEqDiff, Nat.reduceBEq, Nat.reduceDiv, Int.reduceLT, Int.reduceLE, Int.reduceToNat, Int.reduceNeg, Int.reduceEq, ↓reduceIte, reduceCtorEq, ↓reduceDIte]
  | x :: sc, pc, hb => by
    simp only [List.length_cons] at hb
    have hw : IntKind.i64.wrap ((pc.length : Int) + 1) = ((pc.length + 1 : Nat) : Int) := by rw [wrap_i] <;> omega
    have e1 : (pc ++ [x]).length = pc.length + 1 := by simp
    have e2 : pc.length + 1 + sc.length = pc.length + (sc.length + 1) := by omega
    have ih := loop_ot c fs m sc (pc ++ [x]) (by simp; omega)
    rw [e1, e2, app_one] at ih
    have ec : othB c pc.length (x :: sc) = ((!decide ((pc.length : Int) = c) && !decide (x = 0)) || othB c ((pc.length + 1 : Nat) : Int) sc) := by rw [othB, Int.natCast_add]; rfl
    rw [ec, loop_eq pr 73 0 _ Try.f73 fn_73 _ rfl _ ann_73 _ rfl]
    by_cases hc : (pc.length : Int) = c
    · rw [decide_eq_true hc]
      simp -implicitDefEqProofs only [getD_app, lt_app, ltn_app, zero_le_cast, Int.toNat_natCast, hw, tr hc, go_sem, Nat.reduceAdd, Nat.reduceSub, Nat.reduceMul, Nat.reduceMod, Nat.reduceLT, Nat.reduceLeDiff, Nat.reduceEqDiff, Nat.reduceBEq, Nat.reduceDiv, Int.reduceLT, Int.reduceLE, Int.reduceToNat, Int.reduceNeg, Int.reduceEq, ↓reduceIte, reduceCtorEq, ↓reduceDIte]
      exact ih
    · rw [decide_eq_false hc]
      by_cases h0 : x = 0
      · rw [decide_eq_true h0]
        simp -implicitDefEqProofs only [getD_app, lt_app, ltn_app, zero_le_cast, Int.toNat_natCast, hw, fa hc, tr h0, go_sem, Nat.reduceAdd, Nat.reduceSub, Nat.reduceMul, Nat.reduceMod, Nat.reduceLT, Nat.reduceLeDiff, Nat.reduceEqDiff, Nat.reduceBEq, Nat.reduceDiv, Int.reduceLT, Int.reduceLE, Int.reduceToNat, Int.reduceNeg, Int.reduceEq, ↓reduceIte, reduceCtorEq, ↓reduceDIte]
        exact ih
      · rw [decide_eq_false h0]
        simp -implicitDefEqProofs only [getD_app, lt_app, ltn_app, zero_le_cast, Int.toNat_natCast, hw, fa hc, fa h0, go_sem, Nat.reduceAdd, Nat.reduceSub, Nat.reduceMul, Nat.reduceMod, Nat.reduceLT, Nat.reduceLeDiff, Nat.reduceEqDiff, Nat.reduceBEq, Nat.reduceDiv, Int.reduceLT, Int.reduceLE, Int.reduceToNat, Int.reduceNeg, Int.reduceEq, ↓reduceIte, reduceCtorEq, ↓reduceDIte]
theorem call_ot (c : Int) (cs : List Int) (fs : List Bool) (m : Bool) (hb : cs.length < 100) : callOf pr 73 [pS cs fs m, I c] [] = some (B (othB c 0 cs), []) := by
  have h1 := loop_ot c fs m cs [] (by simpa using hb)
  simp only [List.nil_append, List.length_nil, Nat.zero_add] at h1
  have h1 : loopOf pr 73 0 ⟨[(0, pS cs fs m), (1, I c), (5, I 0)], []⟩ = if othB c 0 cs = true then some (.ret, ⟨[(4, B true)], []⟩) else some (.exit 0, ⟨[(0, pS cs fs m), (1, I c), (5, I cs.length)], []⟩) := h1
  rw [call_eq pr 73 _ _ Try.f73 fn_73 _ rfl _ ann_73 rfl]
  cases ho : othB c 0 cs with
  | true =>
    rw [ho, if_pos rfl] at h1
    simp -implicitDefEqProofs only [h1, go_sem, Nat.reduceAdd, Nat.reduceSub, Nat.reduceMul, Nat.reduceMod, Nat.reduceLT, Nat.reduceLeDiff, Nat.reduceEqDiff, Nat.reduceBEq, Nat.reduceDiv, Int.reduceLT, Int.reduceLE, Int.reduceToNat, Int.reduceNeg, Int.reduceEq, ↓reduceIte, reduceCtorEq, ↓reduceDIte]
  | false =>
    rw [ho, if_neg (by simp)] at h1
    simp -implicitDefEqProofs only [h1, go_sem, Nat.reduceAdd, Nat.reduceSub, Nat.reduceMul, Nat.reduceMod, Nat.reduceLT, Nat.reduceLeDiff, Nat.reduceEqDiff, Nat.reduceBEq, Nat.reduceDiv, Int.reduceLT, Int.reduceLE, Int.reduceToNat, Int.reduceNeg, Int.reduceEq, ↓reduceIte, reduceCtorEq, ↓reduceDIte]
end Go.Proofs.Ythmnlokdikomkaa.PI
