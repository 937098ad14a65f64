/- Systems and ops: what is valid. -/
import Derived.Test.YthmnlokdikomkaaK4
import Derived.Test.YthmnlokdikomkaaW
namespace Go.Proofs.Ythmnlokdikomkaa.PI
open Go Go.Q
set_option maxRecDepth 100000
set_option maxHeartbeats 4000000
set_option linter.unusedSimpArgs false
set_option linter.unusedVariables false
abbrev cI (xs : List Int) : AV := .d (.slice (.int .i64)) xs
theorem call_len (xs : List Int) : callOf pr 55 [cI xs] [] = some (I xs.length, []) := by
  rw [call_eq pr 55 _ _ Try.f55 fn_55 _ rfl _ ann_55 rfl]
  simp -implicitDefEqProofs only [go_sem, Nat.reduceAdd, Nat.reduceSub, Nat.reduceMul, Nat.reduceMod, Nat.reduceLT, Nat.reduceLeDiff, Nat.reduceEqDiff, Nat.reduceBEq, Nat.reduceDiv, Int.reduceLT, Int.reduceLE, Int.reduceToNat, Int.reduceNeg, Int.reduceEq, ↓reduceIte, reduceCtorEq, ↓reduceDIte]
def sysL : List Int → List Bool → Bool
  | c :: cs, f :: fs => copyB c && !(decide (c = 0) && f) && sysL cs fs
  | _, _ => true
def sysB (cs : List Int) (fs : List Bool) : Bool := decide (1 ≤ (cs.length : Int) ∧ (cs.length : Int) ≤ 3) && decide (fs.length = cs.length) && sysL cs fs
theorem loop_vs (m : Bool) : ∀ (sc : List Int) (sf : List Bool) (pc : List Int) (pf : List Bool), sc.length = sf.length → pc.length = pf.length → pc.length + sc.length < 100 →
    loopOf pr 19 0 ⟨[(1, .op 64 0), (20, cI (pc ++ sc)), (21, I ((pc.length + sc.length : Nat) : Int)), (22, I pc.length)], [(64, .box [cI (pc ++ sc), LB (pf ++ sf), B m])]⟩ = if sysL sc sf = true then some (.exit 0, ⟨[(1, .op 64 0), (20, cI (pc ++ sc)), (21, I ((pc.length + sc.length : Nat) : Int)), (22, I ((pc.length + sc.length : Nat) : Int))], [(64, .box [cI (pc ++ sc), LB (pf ++ sf), B m])]⟩) else some (.ret, ⟨[(2, B false)], [(64, .box [cI (pc ++ sc), LB (pf ++ sf), B m])]⟩)
  | [], [], pc, pf, h, hp, hb => by
    rw [loop_eq pr 19 0 _ Try.f19 fn_19 _ rfl _ ann_19 _ rfl]
    simp -implicitDefEqProofs only [Int.lt_irrefl, List.append_nil, List.length_nil, Nat.add_zero, sysL, go_sem, Nat.reduceAdd, Nat.reduceSub, Nat.reduceMul, Nat.reduceMod, Nat.reduceLT, Nat.reduceLeDiff, Nat.reduceEqDiff, Nat.reduceBEq, Nat.reduceDiv, Int.reduceLT, Int.reduceLE, Int.reduceToNat, Int.reduceNeg, Int.reduceEq, ↓reduceIte, reduceCtorEq, ↓reduceDIte]
  | [], _ :: _, _, _, h, _, _ => by simp at h
  | _ :: _, [], _, _, h, _, _ => by simp at h
  | c :: sc, f :: sf, pc, pf, h, hp, hb => by
    simp only [List.length_cons] at hb h
    have hw : IntKind.i64.wrap ((pc.length : Int) + 1) = ((pc.length + 1 : Nat) : Int) := by rw [wrap_i] <;> omega
    have e1 : (pc ++ [c]).length = pc.length + 1 := by simp
    have e2 : pc.length + 1 + sc.length = pc.length + (sc.length + 1) := by omega
    have ih := loop_vs m sc sf (pc ++ [c]) (pf ++ [f]) (by omega) (by simp; omega) (by simp; omega)
    rw [e1, e2, app_one, app_one] at ih
    have hlt : ((pc.length : Int) < ((pc.length + (sc.length + 1) : Nat) : Int)) = True := tr (by omega)
    have g1 : ∀ z : Bool, (pf ++ f :: sf).getD pc.length z = f := by intro z; rw [hp]; simp
    have g3 : ((pc.length : Int) < (((pf ++ f :: sf).length : Nat) : Int)) = True := tr (by simp; omega)
    have g4 : (pc.length < (pf ++ f :: sf).length) = True := tr (by simp; omega)
    have c1 := call_icp c
    have hk : sysL (c :: sc) (f :: sf) = (copyB c && !(decide (c = 0) && f) && sysL sc sf) := rfl
    rw [hk]
    rw [loop_eq pr 19 0 _ Try.f19 fn_19 _ rfl _ ann_19 _ rfl]
    cases hc : copyB c with
    | false =>
      rw [hc] at c1
      rw [Bool.false_and, Bool.false_and]
      simp -implicitDefEqProofs only [hlt, getD_app, lt_app, ltn_app, zero_le_cast, Int.toNat_natCast, hw, List.length_cons, g1, g3, g4, c1, go_sem, Nat.reduceAdd, Nat.reduceSub, Nat.reduceMul, Nat.reduceMod, Nat.reduceLT, Nat.reduceLeDiff, Nat.reduceEqDiff, Nat.reduceBEq, Nat.reduceDiv, Int.reduceLT, Int.reduceLE, Int.reduceToNat, Int.reduceNeg, Int.reduceEq, ↓reduceIte, reduceCtorEq, ↓reduceDIte]
    | true =>
      rw [hc] at c1
      by_cases h0 : c = 0
      · cases f with
        | true =>
          rw [decide_eq_true h0]
          simp -implicitDefEqProofs only [hlt, getD_app, lt_app, ltn_app, zero_le_cast, Int.toNat_natCast, hw, List.length_cons, g1, g3, g4, c1, tr h0, go_sem, Nat.reduceAdd, Nat.reduceSub, Nat.reduceMul, Nat.reduceMod, Nat.reduceLT, Nat.reduceLeDiff, Nat.reduceEqDiff, Nat.reduceBEq, Nat.reduceDiv, Int.reduceLT, Int.reduceLE, Int.reduceToNat, Int.reduceNeg, Int.reduceEq, ↓reduceIte, reduceCtorEq, ↓reduceDIte]
        | false =>
          rw [Bool.and_false, Bool.not_false, Bool.true_and, Bool.true_and]
          simp -implicitDefEqProofs only [hlt, getD_app, lt_app, ltn_app, zero_le_cast, Int.toNat_natCast, hw, List.length_cons, g1, g3, g4, c1, tr h0, go_sem, Nat.reduceAdd, Nat.reduceSub, Nat.reduceMul, Nat.reduceMod, Nat.reduceLT, Nat.reduceLeDiff, Nat.reduceEqDiff, Nat.reduceBEq, Nat.reduceDiv, Int.reduceLT, Int.reduceLE, Int.reduceToNat, Int.reduceNeg, Int.reduceEq, ↓reduceIte, reduceCtorEq, ↓reduceDIte]
          exact ih
      · rw [decide_eq_false h0, Bool.false_and, Bool.not_false, Bool.true_and, Bool.true_and]
        simp -implicitDefEqProofs only [hlt, getD_app, lt_app, ltn_app, zero_le_cast, Int.toNat_natCast, hw, List.length_cons, g1, g3, g4, c1, fa h0, go_sem, Nat.reduceAdd, Nat.reduceSub, Nat.reduceMul, Nat.reduceMod, Nat.reduceLT, Nat.reduceLeDiff, Nat.reduceEqDiff, Nat.reduceBEq, Nat.reduceDiv, Int.reduceLT, Int.reduceLE, Int.reduceToNat, Int.reduceNeg, Int.reduceEq, ↓reduceIte, reduceCtorEq, ↓reduceDIte]
        exact ih
theorem call_vs (cs : List Int) (fs : List Bool) (m : Bool) : callOf pr 19 [.agg [cI cs, LB fs, B m]] [] = some (B (sysB cs fs), []) := by
  have c1 := call_len cs
  have c2 := call_iin (cs.length : Int) 1 3
  rw [call_eq pr 19 _ _ Try.f19 fn_19 _ rfl _ ann_19 rfl]
  by_cases h1 : 1 ≤ (cs.length : Int) ∧ (cs.length : Int) ≤ 3
  case neg =>
    rw [decide_eq_false h1] at c2
    rw [sysB, decide_eq_false h1, Bool.false_and, Bool.false_and]
    simp -implicitDefEqProofs only [c1, c2, go_sem, Nat.reduceAdd, Nat.reduceSub, Nat.reduceMul, Nat.reduceMod, Nat.reduceLT, Nat.reduceLeDiff, Nat.reduceEqDiff, Nat.reduceBEq, Nat.reduceDiv, Int.reduceLT, Int.reduceLE, Int.reduceToNat, Int.reduceNeg, Int.reduceEq, ↓reduceIte, reduceCtorEq, ↓reduceDIte]
  rw [decide_eq_true h1] at c2
  by_cases h2 : fs.length = cs.length
  case neg =>
    rw [sysB, decide_eq_false h2, Bool.and_false, Bool.false_and]
    have h3 : ((fs.length : Int) = (cs.length : Int)) = False := fa (by omega)
    simp -implicitDefEqProofs only [c1, c2, h3, go_sem, Nat.reduceAdd, Nat.reduceSub, Nat.reduceMul, Nat.reduceMod, Nat.reduceLT, Nat.reduceLeDiff, Nat.reduceEqDiff, Nat.reduceBEq, Nat.reduceDiv, Int.reduceLT, Int.reduceLE, Int.reduceToNat, Int.reduceNeg, Int.reduceEq, ↓reduceIte, reduceCtorEq, ↓reduceDIte]
  have h3 : ((fs.length : Int) = (cs.length : Int)) = True := tr (by omega)
  have h4 := loop_vs m cs fs [] [] h2.symm rfl (by simp; omega)
  simp only [List.nil_append, List.length_nil, Nat.zero_add] at h4
  have h4 : loopOf pr 19 0 ⟨[(1, .op 64 0), (20, cI cs), (21, I cs.length), (22, I 0)], [(64, .box [cI cs, LB fs, B m])]⟩ = _ := h4
  rw [sysB, decide_eq_true h1, decide_eq_true h2, Bool.true_and, Bool.true_and]
  cases hs : sysL cs fs with
  | true =>
    rw [hs, if_pos rfl] at h4
    simp -implicitDefEqProofs only [c1, c2, h3, h4, go_sem, Nat.reduceAdd, Nat.reduceSub, Nat.reduceMul, Nat.reduceMod, Nat.reduceLT, Nat.reduceLeDiff, Nat.reduceEqDiff, Nat.reduceBEq, Nat.reduceDiv, Int.reduceLT, Int.reduceLE, Int.reduceToNat, Int.reduceNeg, Int.reduceEq, ↓reduceIte, reduceCtorEq, ↓reduceDIte]
  | false =>
    rw [hs, if_neg (by simp)] at h4
    simp -implicitDefEqProofs only [c1, c2, h3, h4, go_sem, Nat.reduceAdd, Nat.reduceSub, Nat.reduceMul, Nat.reduceMod, Nat.reduceLT, Nat.reduceLeDiff, Nat.reduceEqDiff, Nat.reduceBEq, Nat.reduceDiv, Int.reduceLT, Int.reduceLE, Int.reduceToNat, Int.reduceNeg, Int.reduceEq, ↓reduceIte, reduceCtorEq, ↓reduceDIte]
def opB (k c n : Int) : Bool := decide (0 ≤ k ∧ k ≤ 2) && decide (0 ≤ c ∧ c ≤ n - 1)
theorem call_io (k c n : Int) (h : 1 ≤ n ∧ n ≤ 3) : callOf pr 65 [.agg [I k, I c], I n] [] = some (B (opB k c n), []) := by
  have c1 := call_iin k 0 2
  have c2 := call_iin c 0 (n - 1)
  have hw : IntKind.i64.wrap (n - 1) = n - 1 := by rw [wrap_i] <;> omega
  rw [call_eq pr 65 _ _ Try.f65 fn_65 _ rfl _ ann_65 rfl, opB]
  cases hk : decide (0 ≤ k ∧ k ≤ 2) with
  | true =>
    rw [hk] at c1
    simp -implicitDefEqProofs only [c1, c2, hw, go_sem, Nat.reduceAdd, Nat.reduceSub, Nat.reduceMul, Nat.reduceMod, Nat.reduceLT, Nat.reduceLeDiff, Nat.reduceEqDiff, Nat.reduceBEq, Nat.reduceDiv, Int.reduceLT, Int.reduceLE, Int.reduceToNat, Int.reduceNeg, Int.reduceEq, ↓reduceIte, reduceCtorEq, ↓reduceDIte]
  | false =>
    rw [hk] at c1
    simp -implicitDefEqProofs only [c1, go_sem, Nat.reduceAdd, Nat.reduceSub, Nat.reduceMul, Nat.reduceMod, Nat.reduceLT, Nat.reduceLeDiff, Nat.reduceEqDiff, Nat.reduceBEq, Nat.reduceDiv, Int.reduceLT, Int.reduceLE, Int.reduceToNat, Int.reduceNeg, Int.reduceEq, ↓reduceIte, reduceCtorEq, ↓reduceDIte]
abbrev HX (cs : List Int) (fs : List Bool) (m : Bool) : Heap := [(1000000, .box [.os (.t 1000001), .os (.t 1000002), B m]), (1000001, .arr false false (.int .i64) cs), (1000002, .arr false false .bool fs)]
theorem call_bc (n : Nat) (c : Int) (b m : Bool) (cs : List Int) (fs : List Bool) (h4 : n < cs.length) (h5 : n < fs.length) : callOf pr 96 [.op 1000000 0, I n, I c, B b] (HX cs fs m) = some (.tuple [], HX (cs.set n c) (fs.set n (b && !decide (c = 0))) m) := by
  have g4 := tr h4
  have g5 := tr h5
  have g2 : ((n : Int) < (cs.length : Int)) = True := tr (by omega)
  have g3 : ((n : Int) < (fs.length : Int)) = True := tr (by omega)
  rw [call_eq pr 96 _ _ Try.f96 fn_96 _ rfl _ ann_96 rfl, HX]
  cases b with
  | false => simp -implicitDefEqProofs only [g2, g3, g4, g5, zero_le_cast, Int.toNat_natCast, go_sem, Nat.reduceAdd, Nat.reduceSub, Nat.reduceMul, Nat.reduceMod, Nat.reduceLT, Nat.reduceLeDiff, Nat.reduceEqDiff, Nat.reduceBEq, Nat.reduceDiv, Int.reduceLT, Int.reduceLE, Int.reduceToNat, Int.reduceNeg, Int.reduceEq, ↓reduceIte, reduceCtorEq, ↓reduceDIte]
  | true =>
    by_cases h0 : c = 0
    · rw [decide_eq_true h0]
      simp -implicitDefEqProofs only [g2, g3, g4, g5, zero_le_cast, Int.toNat_natCast, tr h0, go_sem, Nat.reduceAdd, Nat.reduceSub, Nat.reduceMul, Nat.reduceMod, Nat.reduceLT, Nat.reduceLeDiff, Nat.reduceEqDiff, Nat.reduceBEq, Nat.reduceDiv, Int.reduceLT, Int.reduceLE, Int.reduceToNat, Int.reduceNeg, Int.reduceEq, ↓reduceIte, reduceCtorEq, ↓reduceDIte]
    · rw [decide_eq_false h0]
      simp -implicitDefEqProofs only [g2, g3, g4, g5, zero_le_cast, Int.toNat_natCast, fa h0, go_sem, Nat.reduceAdd, Nat.reduceSub, Nat.reduceMul, Nat.reduceMod, Nat.reduceLT, Nat.reduceLeDiff, Nat.reduceEqDiff, Nat.reduceBEq, Nat.reduceDiv, Int.reduceLT, Int.reduceLE, Int.reduceToNat, Int.reduceNeg, Int.reduceEq, ↓reduceIte, reduceCtorEq, ↓reduceDIte]
abbrev rZ : Ru := (0, 0, false, ())
/-- What others do when a cache does something: copies, what is fresh, memory, how often it is written. -/
def seeL (rules : List Ru) (c : Int) : Int → List Int → List Bool → Bool → Int → List Int × List Bool × Bool × Int
  | i, x :: cs, f :: fs, m, k => if (decide (i = c) || decide (x = 0)) = true then (x :: (seeL rules c (i + 1) cs fs m k).1, f :: (seeL rules c (i + 1) cs fs m k).2.1, (seeL rules c (i + 1) cs fs m k).2.2) else
      let r := rules.getD x.toNat rZ
      let q := seeL rules c (i + 1) cs fs (if r.2.2.1 then f else m) (if r.2.2.1 then k + 1 else k)
      (r.1 :: q.1, (f && !decide (r.1 = 0)) :: q.2.1, q.2.2)
  | _, cs, fs, m, k => (cs, fs, m, k)
theorem see_skip (rules : List Ru) (c i : Int) (x : Int) (cs : List Int) (f : Bool) (fs : List Bool) (m : Bool) (k : Int) (h : i = c ∨ x = 0) : seeL rules c i (x :: cs) (f :: fs) m k = (x :: (seeL rules c (i + 1) cs fs m k).1, f :: (seeL rules c (i + 1) cs fs m k).2.1, (seeL rules c (i + 1) cs fs m k).2.2) := by
  rw [seeL, if_pos (by simpa using h)]
theorem see_take (rules : List Ru) (c i : Int) (x : Int) (cs : List Int) (f : Bool) (fs : List Bool) (m : Bool) (k : Int) (n s : Int) (b : Bool) (h : ¬ i = c) (hx : ¬ x = 0) (hr : rules.getD x.toNat rZ = (n, s, b, ())) : seeL rules c i (x :: cs) (f :: fs) m k = (n :: (seeL rules c (i + 1) cs fs (if b then f else m) (if b then k + 1 else k)).1, (f && !decide (n = 0)) :: (seeL rules c (i + 1) cs fs (if b then f else m) (if b then k + 1 else k)).2.1, (seeL rules c (i + 1) cs fs (if b then f else m) (if b then k + 1 else k)).2.2) := by
  rw [seeL, if_neg (by simp [h, hx])]
  simp only [hr]
theorem see_len (rules : List Ru) (c : Int) : ∀ (cs : List Int) (fs : List Bool) (i : Int) (m : Bool) (k : Int), cs.length = fs.length → (seeL rules c i cs fs m k).1.length = cs.length ∧ (seeL rules c i cs fs m k).2.1.length = fs.length
  | [], [], _, _, _, _ => ⟨rfl, rfl⟩
  | [], _ :: _, _, _, _, h => by simp at h
  | _ :: _, [], _, _, _, h => by simp at h
  | x :: cs, f :: fs, i, m, k, h => by
    have h : cs.length = fs.length := by simpa using h
    by_cases hk : i = c ∨ x = 0
    · rw [see_skip rules c i x cs f fs m k hk]
      have := see_len rules c cs fs (i + 1) m k h
      simp [this.1, this.2]
    · obtain ⟨n, s, b, ⟨⟩⟩ : Ru := rules.getD x.toNat rZ
      rw [seeL, if_neg (by simpa using hk)]
      have := fun m k => see_len rules c cs fs (i + 1) m k h
      simp [(this _ _).1, (this _ _).2]
theorem see_bk (rules : List Ru) (c : Int) : ∀ (cs : List Int) (fs : List Bool) (i : Int) (m : Bool) (k : Int), cs.length = fs.length → k ≤ (seeL rules c i cs fs m k).2.2.2 ∧ (seeL rules c i cs fs m k).2.2.2 ≤ k + cs.length
  | [], [], _, _, _, _ => by simp [seeL]
  | [], _ :: _, _, _, _, h => by simp at h
  | _ :: _, [], _, _, _, h => by simp at h
  | x :: cs, f :: fs, i, m, k, h => by
    have h : cs.length = fs.length := by simpa using h
    by_cases hk : i = c ∨ x = 0
    · rw [see_skip rules c i x cs f fs m k hk]
      have := see_bk rules c cs fs (i + 1) m k h
      simp only [List.length_cons]
      omega
    · obtain ⟨n, s, b, hb⟩ : ∃ n s b, rules.getD x.toNat rZ = (n, s, b, ()) := by
        obtain ⟨n, s, b, ⟨⟩⟩ : Ru := rules.getD x.toNat rZ
        exact ⟨n, s, b, rfl⟩
      rw [see_take rules c i x cs f fs m k n s b (fun h => hk (.inl h)) (fun h => hk (.inr h)) hb]
      have := fun m k => see_bk rules c cs fs (i + 1) m k h
      simp only [List.length_cons]
      cases b with
      | true => have := this f (k + 1); simp only [if_true]; omega
      | false => have := this m k; simp only [Bool.false_eq_true, if_false]; omega
theorem loop_se (rules : List Ru) (c : Int) (hr : rules.length = 4) : ∀ (sc : List Int) (sf : List Bool) (pc : List Int) (pf : List Bool) (m : Bool) (k : Int), sc.length = sf.length → pc.length = pf.length → pc.length + sc.length < 100 → (0 ≤ k ∧ k ≤ pc.length) → (∀ x ∈ sc, 0 ≤ x ∧ x ≤ 3) →
    loopOf pr 97 0 ⟨[(0, .op 1000000 0), (1, I c), (2, LR rules), (7, I k), (13, .os (.t 1000001)), (14, I ((pc.length + sc.length : Nat) : Int)), (15, I pc.length)], HX (pc ++ sc) (pf ++ sf) m⟩ = some (.exit 0, ⟨[(0, .op 1000000 0), (1, I c), (2, LR rules), (7, I (seeL rules c pc.length sc sf m k).2.2.2), (13, .os (.t 1000001)), (14, I ((pc.length + sc.length : Nat) : Int)), (15, I ((pc.length + sc.length : Nat) : Int))], HX (pc ++ (seeL rules c pc.length sc sf m k).1) (pf ++ (seeL rules c pc.length sc sf m k).2.1) (seeL rules c pc.length sc sf m k).2.2.1⟩)
  | [], [], pc, pf, m, k, h, hp, hb, hk, hx => by
    rw [loop_eq pr 97 0 _ Try.f97 fn_97 _ rfl _ ann_97 _ rfl, HX]
    simp -implicitDefEqProofs only [Int.lt_irrefl, List.append_nil, List.length_nil, Nat.add_zero, seeL, go_sem, Nat.reduceAdd, Nat.reduceSub, Nat.reduceMul, Nat.reduceMod, Nat.reduceLT, Nat.reduceLeDiff, Nat.reduceEqDiff, Nat.reduceBEq, Nat.reduceDiv, Int.reduceLT, Int.reduceLE, Int.reduceToNat, Int.reduceNeg, Int.reduceEq, ↓reduceIte, reduceCtorEq, ↓reduceDIte]
  | [], _ :: _, _, _, _, _, h, _, _, _, _ => by simp at h
  | _ :: _, [], _, _, _, _, h, _, _, _, _ => by simp at h
  | x :: sc, f :: sf, pc, pf, m, k, h, hp, hb, hk, hx => by
    simp only [List.length_cons] at hb h
    have hw : IntKind.i64.wrap ((pc.length : Int) + 1) = ((pc.length + 1 : Nat) : Int) := by rw [wrap_i] <;> omega
    have hw2 : IntKind.i64.wrap (k + 1) = k + 1 := by rw [wrap_i] <;> omega
    have e1 : ∀ x : Int, (pc ++ [x]).length = pc.length + 1 := by intro x; simp
    have e2 : pc.length + 1 + sc.length = pc.length + (sc.length + 1) := by omega
    have ih := fun (x' : Int) (f' m' : Bool) (k' : Int) (hk' : 0 ≤ k' ∧ k' ≤ pc.length + 1) => loop_se rules c hr sc sf (pc ++ [x']) (pf ++ [f']) m' k' (by omega) (by simp; omega) (by simp; omega) (by simpa using hk') (fun y hy => hx y (List.mem_cons_of_mem _ hy))
    simp only [e1, e2, app_one] at ih
    have hlt : ((pc.length : Int) < ((pc.length + (sc.length + 1) : Nat) : Int)) = True := tr (by omega)
    have g1 : ∀ z : Bool, (pf ++ f :: sf).getD pc.length z = f := by intro z; rw [hp]; simp
    have g2 : ∀ y : Bool, (pf ++ f :: sf).set pc.length y = pf ++ y :: sf := by intro z; rw [hp]; simp
    have g3 : ((pc.length : Int) < (((pf ++ f :: sf).length : Nat) : Int)) = True := tr (by simp; omega)
    have g4 : (pc.length < (pf ++ f :: sf).length) = True := tr (by simp; omega)
    have ec : ((pc.length : Int) + 1) = ((pc.length + 1 : Nat) : Int) := by omega
    by_cases hc : (pc.length : Int) = c
    · have i1 := ih x f m k (by omega)
      rw [see_skip rules c _ x sc f sf m k (.inl hc), ec]
      rw [loop_eq pr 97 0 _ Try.f97 fn_97 _ rfl _ ann_97 _ rfl, HX]
      simp -implicitDefEqProofs only [hlt, getD_app, set_app, lt_app, ltn_app, zero_le_cast, Int.toNat_natCast, hw, List.length_cons, g1, g2, g3, g4, tr hc, go_sem, Nat.reduceAdd, Nat.reduceSub, Nat.reduceMul, Nat.reduceMod, Nat.reduceLT, Nat.reduceLeDiff, Nat.reduceEqDiff, Nat.reduceBEq, Nat.reduceDiv, Int.reduceLT, Int.reduceLE, Int.reduceToNat, Int.reduceNeg, Int.reduceEq, ↓reduceIte, reduceCtorEq, ↓reduceDIte]
      exact i1
    by_cases h0 : x = 0
    · have i1 := ih x f m k (by omega)
      rw [see_skip rules c _ x sc f sf m k (.inr h0), ec]
      rw [loop_eq pr 97 0 _ Try.f97 fn_97 _ rfl _ ann_97 _ rfl, HX]
      simp -implicitDefEqProofs only [hlt, getD_app, set_app, lt_app, ltn_app, zero_le_cast, Int.toNat_natCast, hw, List.length_cons, g1, g2, g3, g4, fa hc, tr h0, go_sem, Nat.reduceAdd, Nat.reduceSub, Nat.reduceMul, Nat.reduceMod, Nat.reduceLT, Nat.reduceLeDiff, Nat.reduceEqDiff, Nat.reduceBEq, Nat.reduceDiv, Int.reduceLT, Int.reduceLE, Int.reduceToNat, Int.reduceNeg, Int.reduceEq, ↓reduceIte, reduceCtorEq, ↓reduceDIte]
      exact i1
    obtain ⟨x0, x3⟩ := hx x (List.mem_cons_self ..)
    obtain ⟨n, s, b, hg⟩ : ∃ n s b, rules.getD x.toNat rZ = (n, s, b, ()) := by
      obtain ⟨n, s, b, ⟨⟩⟩ : Ru := rules.getD x.toNat rZ
      exact ⟨n, s, b, rfl⟩
    have hxl : x.toNat < rules.length := by omega
    have hg2 : ∀ z : Ru, rules.getD x.toNat z = (n, s, b, ()) := by
      intro z
      rw [← hg, getD_of_lt hxl, getD_of_lt hxl]
    have x1 : (0 ≤ x) = True := tr x0
    have x2 : (x < (rules.length : Int)) = True := tr (by omega)
    have x4 := tr hxl
    rw [see_take rules c _ x sc f sf m k n s b hc h0 hg, ec]
    cases b with
    | true =>
      have hbc := call_bc pc.length n f f (pc ++ x :: sc) (pf ++ f :: sf) (by simp) (by simp; omega)
      rw [HX, HX, set_app, g2] at hbc
      have i1 := ih n (f && !decide (n = 0)) f (k + 1) (by omega)
      rw [loop_eq pr 97 0 _ Try.f97 fn_97 _ rfl _ ann_97 _ rfl, HX]
      simp -implicitDefEqProofs only [hlt, getD_app, set_app, lt_app, ltn_app, zero_le_cast, Int.toNat_natCast, hw, List.length_cons, g1, g2, g3, g4, fa hc, fa h0, x1, x2, x4, hg2, hw2, hbc, go_sem, Nat.reduceAdd, Nat.reduceSub, Nat.reduceMul, Nat.reduceMod, Nat.reduceLT, Nat.reduceLeDiff, Nat.reduceEqDiff, Nat.reduceBEq, Nat.reduceDiv, Int.reduceLT, Int.reduceLE, Int.reduceToNat, Int.reduceNeg, Int.reduceEq, ↓reduceIte, reduceCtorEq, ↓reduceDIte]
      exact i1
    | false =>
      have hbc := call_bc pc.length n f m (pc ++ x :: sc) (pf ++ f :: sf) (by simp) (by simp; omega)
      rw [HX, HX, set_app, g2] at hbc
      have i1 := ih n (f && !decide (n = 0)) m k (by omega)
      rw [loop_eq pr 97 0 _ Try.f97 fn_97 _ rfl _ ann_97 _ rfl, HX]
      simp -implicitDefEqProofs only [hlt, getD_app, set_app, lt_app, ltn_app, zero_le_cast, Int.toNat_natCast, hw, List.length_cons, g1, g2, g3, g4, fa hc, fa h0, x1, x2, x4, hg2, hw2, hbc, go_sem, Nat.reduceAdd, Nat.reduceSub, Nat.reduceMul, Nat.reduceMod, Nat.reduceLT, Nat.reduceLeDiff, Nat.reduceEqDiff, Nat.reduceBEq, Nat.reduceDiv, Int.reduceLT, Int.reduceLE, Int.reduceToNat, Int.reduceNeg, Int.reduceEq, ↓reduceIte, reduceCtorEq, ↓reduceDIte]
      exact i1
theorem call_se (rules : List Ru) (c : Int) (hr : rules.length = 4) (cs : List Int) (fs : List Bool) (m : Bool) (h : cs.length = fs.length) (hb : cs.length < 100) (hx : ∀ x ∈ cs, 0 ≤ x ∧ x ≤ 3) : callOf pr 97 [.op 1000000 0, I c, LR rules] (HX cs fs m) = some (I (seeL rules c 0 cs fs m 0).2.2.2, HX (seeL rules c 0 cs fs m 0).1 (seeL rules c 0 cs fs m 0).2.1 (seeL rules c 0 cs fs m 0).2.2.1) := by
  have h1 := loop_se rules c hr cs fs [] [] m 0 h rfl (by simpa using hb) (by simp) hx
  simp only [List.nil_append, List.length_nil, Nat.zero_add, HX] at h1
  have h1 : loopOf pr 97 0 ⟨[(0, .op 1000000 0), (1, I c), (2, LR rules), (7, I 0), (13, .os (.t 1000001)), (14, I cs.length), (15, I 0)], HX cs fs m⟩ = _ := h1
  rw [HX] at h1
  rw [call_eq pr 97 _ _ Try.f97 fn_97 _ rfl _ ann_97 rfl, HX]
  simp -implicitDefEqProofs only [h1, go_sem, Nat.reduceAdd, Nat.reduceSub, Nat.reduceMul, Nat.reduceMod, Nat.reduceLT, Nat.reduceLeDiff, Nat.reduceEqDiff, Nat.reduceBEq, Nat.reduceDiv, Int.reduceLT, Int.reduceLE, Int.reduceToNat, Int.reduceNeg, Int.reduceEq, ↓reduceIte, reduceCtorEq, ↓reduceDIte]
  rfl
/-- Has a cache other than one a copy? -/
def othB (c : Int) : Int → List Int → Bool
  | _, [] => false
  | i, x :: cs => (!decide (i = c) && !decide (x = 0)) || othB c (i + 1) cs
theorem any_of_find {α : Type} (p : α → Bool) (xs : List α) : decide (0 ≤ (match xs.findIdx? p with | some i => (i : Int) | none => -1)) = xs.any p := by
  cases hf : xs.findIdx? p with
  | none =>
    have hany : xs.any p = false := by
      rw [List.findIdx?_eq_none_iff] at hf
      simpa using hf
    rw [hany]; rfl
  | some i =>
    have hany : xs.any p = true := by
      rw [List.findIdx?_eq_some_iff_getElem] at hf
      obtain ⟨h1, h2, _⟩ := hf
      exact List.any_eq_true.2 ⟨_, List.getElem_mem h1, h2⟩
    rw [hany]; simp
theorem call_st1 (x : Int) : callOf pr 99 [I x] [] = some (B (decide (x ≠ 0)), []) := by
  rw [call_eq pr 99 _ _ Try.f99 fn_99 _ rfl _ ann_99 rfl]
  by_cases h : x = 0
  · simp -implicitDefEqProofs only [tr h, go_sem, Nat.reduceAdd, Nat.reduceSub, Nat.reduceMul, Nat.reduceMod, Nat.reduceLT, Nat.reduceLeDiff, Nat.reduceEqDiff, Nat.reduceBEq, Nat.reduceDiv, Int.reduceLT, Int.reduceLE, Int.reduceToNat, Int.reduceNeg, Int.reduceEq, ↓reduceIte, reduceCtorEq, ↓reduceDIte]
    try simp [h]
  · simp -implicitDefEqProofs only [fa h, go_sem, Nat.reduceAdd, Nat.reduceSub, Nat.reduceMul, Nat.reduceMod, Nat.reduceLT, Nat.reduceLeDiff, Nat.reduceEqDiff, Nat.reduceBEq, Nat.reduceDiv, Int.reduceLT, Int.reduceLE, Int.reduceToNat, Int.reduceNeg, Int.reduceEq, ↓reduceIte, reduceCtorEq, ↓reduceDIte]
    try simp [h]
theorem loop_ixi (xs : List Int) (hb : xs.length < 1000000000000000000) : ∀ (n k : Nat), k + n = xs.length →
    loopOf pr 118 0 ⟨[(0, cI xs), (1, .fn 99 []), (7, I xs.length), (8, I k)], []⟩ = match (xs.drop k).findIdx? fun x => decide (x ≠ 0) with
    | some i => some (.ret, ⟨[(4, I ((k + i : Nat) : Int))], []⟩)
    | none => some (.exit 0, ⟨[(0, cI xs), (1, .fn 99 []), (7, I xs.length), (8, I xs.length)], []⟩)
  | 0, k, h => by
    have : k = xs.length := by omega
    subst this
    rw [List.drop_of_length_le (Nat.le_refl _), loop_eq pr 118 0 _ Try.f118 fn_118 _ rfl _ ann_118 _ rfl]
    simp -implicitDefEqProofs only [Int.lt_irrefl, List.findIdx?_nil, go_sem, Nat.reduceAdd, Nat.reduceSub, Nat.reduceMul, Nat.reduceMod, Nat.reduceLT, Nat.reduceLeDiff, Nat.reduceEqDiff, Nat.reduceBEq, Nat.reduceDiv, Int.reduceLT, Int.reduceLE, Int.reduceToNat, Int.reduceNeg, Int.reduceEq, ↓reduceIte, reduceCtorEq, ↓reduceDIte]
  | n + 1, k, h => by
    have hlt : k < xs.length := by omega
    have ih := loop_ixi xs hb n (k + 1) (by omega)
    have c1 := call_st1 (xs.getD k 0)
    rw [List.drop_eq_getElem_cons hlt, List.findIdx?_cons, loop_eq pr 118 0 _ Try.f118 fn_118 _ rfl _ ann_118 _ rfl]
    rw [← getD_of_lt hlt 0]
    by_cases hq : xs.getD k 0 ≠ 0
    · rw [decide_eq_true hq] at c1 ⊢
      simp -implicitDefEqProofs only [lt_cast hlt, zero_le_cast, Int.toNat_natCast, wrap_succ hlt hb, c1, go_sem, Nat.reduceAdd, Nat.reduceSub, Nat.reduceMul, Nat.reduceMod, Nat.reduceLT, Nat.reduceLeDiff, Nat.reduceEqDiff, Nat.reduceBEq, Nat.reduceDiv, Int.reduceLT, Int.reduceLE, Int.reduceToNat, Int.reduceNeg, Int.reduceEq, ↓reduceIte, reduceCtorEq, ↓reduceDIte]
      rfl
    · rw [decide_eq_false hq] at c1 ⊢
      simp -implicitDefEqProofs only [lt_cast hlt, zero_le_cast, Int.toNat_natCast, wrap_succ hlt hb, c1, go_sem, Nat.reduceAdd, Nat.reduceSub, Nat.reduceMul, Nat.reduceMod, Nat.reduceLT, Nat.reduceLeDiff, Nat.reduceEqDiff, Nat.reduceBEq, Nat.reduceDiv, Int.reduceLT, Int.reduceLE, Int.reduceToNat, Int.reduceNeg, Int.reduceEq, ↓reduceIte, reduceCtorEq, ↓reduceDIte]
      rw [ih]
      cases List.findIdx? (fun x => decide (x ≠ 0)) (List.drop (k + 1) xs) with
      | none => rfl
      | some i => simp only [Option.map_some]; rw [show k + 1 + i = k + (i + 1) from by omega]
theorem call_ixi (xs : List Int) (hb : xs.length < 1000000000000000000) :
    callOf pr 118 [cI xs, .fn 99 []] [] = some (I (match xs.findIdx? fun x => decide (x ≠ 0) with | some i => (i : Int) | none => -1), []) := by
  have h : loopOf pr 118 0 ⟨[(0, cI xs), (1, .fn 99 []), (7, I xs.length), (8, I 0)], []⟩ = _ := loop_ixi xs hb xs.length 0 (by omega)
  rw [call_eq pr 118 _ _ Try.f118 fn_118 _ rfl _ ann_118 rfl]
  rw [List.drop_zero] at h
  cases hf : xs.findIdx? fun x => decide (x ≠ 0) with
  | none =>
    rw [hf] at h
    simp -implicitDefEqProofs only [h, go_sem, Nat.reduceAdd, Nat.reduceSub, Nat.reduceMul, Nat.reduceMod, Nat.reduceLT, Nat.reduceLeDiff, Nat.reduceEqDiff, Nat.reduceBEq, Nat.reduceDiv, Int.reduceLT, Int.reduceLE, Int.reduceToNat, Int.reduceNeg, Int.reduceEq, ↓reduceIte, reduceCtorEq, ↓reduceDIte]
  | some i =>
    rw [hf] at h
    simp only [Nat.zero_add] at h
    simp -implicitDefEqProofs only [h, go_sem, Nat.reduceAdd, Nat.reduceSub, Nat.reduceMul, Nat.reduceMod, Nat.reduceLT, Nat.reduceLeDiff, Nat.reduceEqDiff, Nat.reduceBEq, Nat.reduceDiv, Int.reduceLT, Int.reduceLE, Int.reduceToNat, Int.reduceNeg, Int.reduceEq, ↓reduceIte, reduceCtorEq, ↓reduceDIte]
theorem call_cfi (xs : List Int) (hb : xs.length < 1000000000000000000) : callOf pr 98 [cI xs, .fn 99 []] [] = some (B (xs.any fun x => decide (x ≠ 0)), []) := by
  have h := call_ixi xs hb
  rw [call_eq pr 98 _ _ Try.f98 fn_98 _ rfl _ ann_98 rfl]
  rw [← any_of_find]
  simp -implicitDefEqProofs only [h, go_sem, Nat.reduceAdd, Nat.reduceSub, Nat.reduceMul, Nat.reduceMod, Nat.reduceLT, Nat.reduceLeDiff, Nat.reduceEqDiff, Nat.reduceBEq, Nat.reduceDiv, Int.reduceLT, Int.reduceLE, Int.reduceToNat, Int.reduceNeg, Int.reduceEq, ↓reduceIte, reduceCtorEq, ↓reduceDIte]
  try rfl
theorem loop_ixb (xs : List Bool) (hb : xs.length < 1000000000000000000) : ∀ (n k : Nat), k + n = xs.length →
    loopOf pr 119 0 ⟨[(0, LB xs), (1, B true), (7, I xs.length), (8, I k)], []⟩ = match (xs.drop k).findIdx? id with
    | some i => some (.ret, ⟨[(4, I ((k + i : Nat) : Int))], []⟩)
    | none => some (.exit 0, ⟨[(0, LB xs), (1, B true), (7, I xs.length), (8, I xs.length)], []⟩)
  | 0, k, h => by
    have : k = xs.length := by omega
    subst this
    rw [List.drop_of_length_le (Nat.le_refl _), loop_eq pr 119 0 _ Try.f119 fn_119 _ rfl _ ann_119 _ rfl]
    simp -implicitDefEqProofs only [Int.lt_irrefl, List.findIdx?_nil, go_sem, Nat.reduceAdd, Nat.reduceSub, Nat.reduceMul, Nat.reduceMod, Nat.reduceLT, Nat.reduceLeDiff, Nat.reduceEqDiff, Nat.reduceBEq, Nat.reduceDiv, Int.reduceLT, Int.reduceLE, Int.reduceToNat, Int.reduceNeg, Int.reduceEq, ↓reduceIte, reduceCtorEq, ↓reduceDIte]
  | n + 1, k, h => by
    have hlt : k < xs.length := by omega
    have ih := loop_ixb xs hb n (k + 1) (by omega)
    rw [List.drop_eq_getElem_cons hlt, List.findIdx?_cons, loop_eq pr 119 0 _ Try.f119 fn_119 _ rfl _ ann_119 _ rfl]
    rw [← getD_of_lt hlt false, id]
    cases hq : xs.getD k false with
    | true =>
      simp -implicitDefEqProofs only [lt_cast hlt, zero_le_cast, Int.toNat_natCast, wrap_succ hlt hb, hq, go_sem, Nat.reduceAdd, Nat.reduceSub, Nat.reduceMul, Nat.reduceMod, Nat.reduceLT, Nat.reduceLeDiff, Nat.reduceEqDiff, Nat.reduceBEq, Nat.reduceDiv, Int.reduceLT, Int.reduceLE, Int.reduceToNat, Int.reduceNeg, Int.reduceEq, ↓reduceIte, reduceCtorEq, ↓reduceDIte]
      rfl
    | false =>
      have bf : (true == false) = false := rfl
      simp -implicitDefEqProofs only [lt_cast hlt, zero_le_cast, Int.toNat_natCast, wrap_succ hlt hb, hq, bf, go_sem, Nat.reduceAdd, Nat.reduceSub, Nat.reduceMul, Nat.reduceMod, Nat.reduceLT, Nat.reduceLeDiff, Nat.reduceEqDiff, Nat.reduceBEq, Nat.reduceDiv, Int.reduceLT, Int.reduceLE, Int.reduceToNat, Int.reduceNeg, Int.reduceEq, ↓reduceIte, reduceCtorEq, ↓reduceDIte]
      rw [ih]
      cases List.findIdx? id (List.drop (k + 1) xs) with
      | none => rfl
      | some i => simp only [Option.map_some]; rw [show k + 1 + i = k + (i + 1) from by omega]
theorem call_ixb (xs : List Bool) (hb : xs.length < 1000000000000000000) :
    callOf pr 119 [LB xs, B true] [] = some (I (match xs.findIdx? id with | some i => (i : Int) | none => -1), []) := by
  have h : loopOf pr 119 0 ⟨[(0, LB xs), (1, B true), (7, I xs.length), (8, I 0)], []⟩ = _ := loop_ixb xs hb xs.length 0 (by omega)
  rw [call_eq pr 119 _ _ Try.f119 fn_119 _ rfl _ ann_119 rfl]
  rw [List.drop_zero] at h
  cases hf : xs.findIdx? id with
  | none =>
    rw [hf] at h
    simp -implicitDefEqProofs only [h, go_sem, Nat.reduceAdd, Nat.reduceSub, Nat.reduceMul, Nat.reduceMod, Nat.reduceLT, Nat.reduceLeDiff, Nat.reduceEqDiff, Nat.reduceBEq, Nat.reduceDiv, Int.reduceLT, Int.reduceLE, Int.reduceToNat, Int.reduceNeg, Int.reduceEq, ↓reduceIte, reduceCtorEq, ↓reduceDIte]
  | some i =>
    rw [hf] at h
    simp only [Nat.zero_add] at h
    simp -implicitDefEqProofs only [h, go_sem, Nat.reduceAdd, Nat.reduceSub, Nat.reduceMul, Nat.reduceMod, Nat.reduceLT, Nat.reduceLeDiff, Nat.reduceEqDiff, Nat.reduceBEq, Nat.reduceDiv, Int.reduceLT, Int.reduceLE, Int.reduceToNat, Int.reduceNeg, Int.reduceEq, ↓reduceIte, reduceCtorEq, ↓reduceDIte]
theorem call_cob (xs : List Bool) (hb : xs.length < 1000000000000000000) : callOf pr 100 [LB xs, B true] [] = some (B (xs.any id), []) := by
  have h := call_ixb xs hb
  rw [call_eq pr 100 _ _ Try.f100 fn_100 _ rfl _ ann_100 rfl]
  rw [← any_of_find]
  simp -implicitDefEqProofs only [h, go_sem, Nat.reduceAdd, Nat.reduceSub, Nat.reduceMul, Nat.reduceMod, Nat.reduceLT, Nat.reduceLeDiff, Nat.reduceEqDiff, Nat.reduceBEq, Nat.reduceDiv, Int.reduceLT, Int.reduceLE, Int.reduceToNat, Int.reduceNeg, Int.reduceEq, ↓reduceIte, reduceCtorEq, ↓reduceDIte]
  try rfl
theorem call_cln (x : Int) (xs : List Int) (f : Bool) (fs : List Bool) (m : Bool) (h : xs.length < 1000000) (h2 : fs.length < 1000000) : callOf pr 66 [.agg [cI (x :: xs), LB (f :: fs), B m]] [] = some (.agg [.os (.t 320), .os (.t 512), B m], [(320, .arr true false (.int .i64) (x :: xs)), (512, .arr true false .bool (f :: fs))]) := by
  have c1 := call_cli (x :: xs) (by simp; omega)
  have c2 := call_clb (f :: fs) (by simp; omega)
  simp only [cloneV] at c1 c2
  rw [call_eq pr 66 _ _ Try.f66 fn_66 _ rfl _ ann_66 rfl]
  simp -implicitDefEqProofs only [c1, c2, go_sem, Nat.reduceAdd, Nat.reduceSub, Nat.reduceMul, Nat.reduceMod, Nat.reduceLT, Nat.reduceLeDiff, Nat.reduceEqDiff, Nat.reduceBEq, Nat.reduceDiv, Int.reduceLT, Int.reduceLE, Int.reduceToNat, Int.reduceNeg, Int.reduceEq, ↓reduceIte, reduceCtorEq, ↓reduceDIte]
theorem getD_z {α : Type} {xs : List α} {n : Nat} (h : n < xs.length) (d : α) : ∀ z, xs.getD n z = xs.getD n d := by
  intro z
  rw [getD_of_lt h, getD_of_lt h]
theorem ru_parts {rules : List Ru} {n : Nat} (h : n < rules.length) : ∃ a s b, ∀ z : Ru, rules.getD n z = (a, s, b, ()) := by
  have e := getD_z h rZ
  obtain ⟨a, s, b, hq⟩ : ∃ a s b, rules.getD n rZ = (a, s, b, ()) := by
    obtain ⟨a, s, b, ⟨⟩⟩ : Ru := rules.getD n rZ
    exact ⟨a, s, b, rfl⟩
  exact ⟨a, s, b, fun z => (e z).trans hq⟩
/-- Behind a step: copies, what is fresh, memory, a flaw, whether others see it, how often the memory is written. -/
abbrev Aft : Type := List Int × List Bool × Bool × Bool × Bool × Int
def flawB (r : Aft) : Bool := r.2.2.2.1 || !(r.2.2.1 || r.2.1.any id)
def aftR1 (a : List Ru) (n : Nat) (cs : List Int) (fs : List Bool) (m : Bool) : Aft := (cs.set n (a.getD (cs.getD n 0).toNat rZ).1, fs.set n (fs.getD n false && !decide ((a.getD (cs.getD n 0).toNat rZ).1 = 0)), m, !fs.getD n false, false, 0)
def aftR0 (a d : List Ru) (n : Nat) (cs : List Int) (fs : List Bool) (m : Bool) : Aft :=
  let q := seeL d n 0 cs fs m 0
  let nx := if (q.1.any fun x => decide (x ≠ 0)) = true then (a.getD 0 rZ).2.1 else (a.getD 0 rZ).1
  (q.1.set n nx, q.2.1.set n (q.2.2.1 && !decide (nx = 0)), q.2.2.1, !q.2.2.1, true, q.2.2.2)
def aftW (b : List Ru) (n : Nat) (x : Int) (seen : Bool) (q : List Int × List Bool × Bool × Int) : Aft :=
  let w := b.getD x.toNat rZ
  (q.1.set n w.1, (List.replicate q.2.1.length false).set n (!decide (w.1 = 0)), w.2.2.1, false, seen, if w.2.2.1 then q.2.2.2 + 1 else q.2.2.2)
def aftE (v : List Ru) (n : Nat) (cs : List Int) (fs : List Bool) (m : Bool) : Aft :=
  let w := v.getD (cs.getD n 0).toNat rZ
  (cs.set n 0, fs.set n false, if w.2.2.1 then fs.getD n false else m, false, false, if w.2.2.1 then 1 else 0)
theorem st_r1 (a b v d e : List Ru) (ha : a.length = 4) (hb : b.length = 4) (hv : v.length = 4) (hd : d.length = 4) (he : e.length = 4) (n : Nat) (cs : List Int) (fs : List Bool) (m : Bool) (hn : n < cs.length) (hcf : cs.length = fs.length) (hl : cs.length ≤ 3) (hx : ∀ x ∈ cs, 0 ≤ x ∧ x ≤ 3) (h0 : ¬ cs.getD n 0 = 0) : callOf pr 52 [.op 1000000 0, pA a b v d e, .agg [I 0, I n]] (HX cs fs m) = (fun r : Aft => (some (AV.tuple [B (flawB r), B r.2.2.2.2.1, I r.2.2.2.2.2], HX r.1 r.2.1 r.2.2.1) : Option (AV × Heap))) (aftR1 a n cs fs m) := by
  obtain ⟨x0, x3⟩ : 0 ≤ cs.getD n 0 ∧ cs.getD n 0 ≤ 3 := by rw [getD_of_lt hn]; exact hx _ (List.getElem_mem hn)
  have g1 := getD_z hn 0
  have g2 := getD_z (show n < fs.length by omega) false
  generalize hX : cs.getD n 0 = x at *
  generalize hF : fs.getD n false = f at *
  obtain ⟨r1, r2, r3, hg⟩ := ru_parts (show x.toNat < a.length by omega)
  have hbc := call_bc n r1 f m cs fs hn (by omega)
  have hco := call_cob (fs.set n (f && !decide (r1 = 0))) (by simp; omega)
  have hm : aftR1 a n cs fs m = (cs.set n r1, fs.set n (f && !decide (r1 = 0)), m, !f, false, 0) := by simp only [aftR1, hX, hF, hg]
  have w1 : ((n : Int) < (cs.length : Int)) = True := tr (by omega)
  have w2 : (n < cs.length) = True := tr hn
  have w3 : ((n : Int) < (fs.length : Int)) = True := tr (by omega)
  have w4 : (n < fs.length) = True := tr (by omega)
  have y1 : (x < (a.length : Int)) = True := tr (by omega)
  have y2 : (x.toNat < a.length) = True := tr (by omega)
  rw [hm, call_eq pr 52 _ _ Try.f52 fn_52 _ rfl _ ann_52 rfl, HX]
  simp only [flawB]
  rw [HX, HX] at hbc
  cases f with
  | false =>
    rw [Bool.not_false, Bool.true_or]
    simp -implicitDefEqProofs only [w1, w2, w3, w4, zero_le_cast, Int.toNat_natCast, tr x0, y1, y2, g1, g2, hg, hbc, hco, fa h0, go_sem, Nat.reduceAdd, Nat.reduceSub, Nat.reduceMul, Nat.reduceMod, Nat.reduceLT, Nat.reduceLeDiff, Nat.reduceEqDiff, Nat.reduceBEq, Nat.reduceDiv, Int.reduceLT, Int.reduceLE, Int.reduceToNat, Int.reduceNeg, Int.reduceEq, ↓reduceIte, reduceCtorEq, ↓reduceDIte]
  | true =>
    rw [Bool.not_true, Bool.false_or]
    simp only [Bool.true_and] at hco hbc ⊢
    cases m with
    | true =>
      simp -implicitDefEqProofs only [w1, w2, w3, w4, zero_le_cast, Int.toNat_natCast, tr x0, y1, y2, g1, g2, hg, hbc, hco, fa h0, go_sem, Nat.reduceAdd, Nat.reduceSub, Nat.reduceMul, Nat.reduceMod, Nat.reduceLT, Nat.reduceLeDiff, Nat.reduceEqDiff, Nat.reduceBEq, Nat.reduceDiv, Int.reduceLT, Int.reduceLE, Int.reduceToNat, Int.reduceNeg, Int.reduceEq, ↓reduceIte, reduceCtorEq, ↓reduceDIte]
      | false =>
      simp -implicitDefEqProofs only [w1, w2, w3, w4, zero_le_cast, Int.toNat_natCast, tr x0, y1, y2, g1, g2, hg, hbc, hco, fa h0, go_sem, Nat.reduceAdd, Nat.reduceSub, Nat.reduceMul, Nat.reduceMod, Nat.reduceLT, Nat.reduceLeDiff, Nat.reduceEqDiff, Nat.reduceBEq, Nat.reduceDiv, Int.reduceLT, Int.reduceLE, Int.reduceToNat, Int.reduceNeg, Int.reduceEq, ↓reduceIte, reduceCtorEq, ↓reduceDIte]
theorem st_r0 (a b v d e : List Ru) (ha : a.length = 4) (hb : b.length = 4) (hv : v.length = 4) (hd : d.length = 4) (he : e.length = 4) (n : Nat) (cs : List Int) (fs : List Bool) (m : Bool) (hn : n < cs.length) (hcf : cs.length = fs.length) (hl : cs.length ≤ 3) (hx : ∀ x ∈ cs, 0 ≤ x ∧ x ≤ 3) (h0 : cs.getD n 0 = 0) : callOf pr 52 [.op 1000000 0, pA a b v d e, .agg [I 0, I n]] (HX cs fs m) = (fun r : Aft => (some (AV.tuple [B (flawB r), B r.2.2.2.2.1, I r.2.2.2.2.2], HX r.1 r.2.1 r.2.2.1) : Option (AV × Heap))) (aftR0 a d n cs fs m) := by
  have g1 := getD_z hn 0
  rw [h0] at g1
  obtain ⟨r1, r2, r3, hg⟩ := ru_parts (show 0 < a.length by omega)
  have hse := call_se d n hd cs fs m hcf (by omega) hx
  obtain ⟨l1, l2⟩ := see_len d n cs fs 0 m 0 hcf
  have hm : aftR0 a d n cs fs m = ((seeL d n 0 cs fs m 0).1.set n (if ((seeL d n 0 cs fs m 0).1.any fun x => decide (x ≠ 0)) = true then r2 else r1), (seeL d n 0 cs fs m 0).2.1.set n ((seeL d n 0 cs fs m 0).2.2.1 && !decide ((if ((seeL d n 0 cs fs m 0).1.any fun x => decide (x ≠ 0)) = true then r2 else r1) = 0)), (seeL d n 0 cs fs m 0).2.2.1, !(seeL d n 0 cs fs m 0).2.2.1, true, (seeL d n 0 cs fs m 0).2.2.2) := by simp only [aftR0, hg]
  rw [hm]
  generalize seeL d n 0 cs fs m 0 = q at *
  obtain ⟨qc, qf, qm, qk⟩ := q
  simp only at *
  have hcfi := call_cfi qc (by omega)
  have w1 : ((n : Int) < (cs.length : Int)) = True := tr (by omega)
  have w2 : (n < cs.length) = True := tr hn
  have y1 : ((0 : Int) < (a.length : Int)) = True := tr (by omega)
  have y2 : (0 < a.length) = True := tr (by omega)
  simp only [flawB]
  rw [call_eq pr 52 _ _ Try.f52 fn_52 _ rfl _ ann_52 rfl, HX]
  rw [HX, HX] at hse
  cases hany : qc.any fun x => decide (x ≠ 0) with
  | true =>
    rw [hany] at hcfi
    rw [if_pos rfl]
    have hbc := call_bc n r2 qm qm qc qf (by omega) (by omega)
    have hco := call_cob (qf.set n (qm && !decide (r2 = 0))) (by simp; omega)
    rw [HX, HX] at hbc
    cases qm with
    | true =>
      simp only [Bool.true_and, Bool.not_true, Bool.false_or, Bool.true_or] at hco hbc ⊢
      simp -implicitDefEqProofs only [w1, w2, zero_le_cast, Int.toNat_natCast, Int.toNat_zero, y1, y2, g1, hg, hse, hcfi, hbc, hco, go_sem, Nat.reduceAdd, Nat.reduceSub, Nat.reduceMul, Nat.reduceMod, Nat.reduceLT, Nat.reduceLeDiff, Nat.reduceEqDiff, Nat.reduceBEq, Nat.reduceDiv, Int.reduceLT, Int.reduceLE, Int.reduceToNat, Int.reduceNeg, Int.reduceEq, ↓reduceIte, reduceCtorEq, ↓reduceDIte]
    | false =>
      simp only [Bool.false_and, Bool.not_false, Bool.true_or] at hco hbc ⊢
      simp -implicitDefEqProofs only [w1, w2, zero_le_cast, Int.toNat_natCast, Int.toNat_zero, y1, y2, g1, hg, hse, hcfi, hbc, hco, go_sem, Nat.reduceAdd, Nat.reduceSub, Nat.reduceMul, Nat.reduceMod, Nat.reduceLT, Nat.reduceLeDiff, Nat.reduceEqDiff, Nat.reduceBEq, Nat.reduceDiv, Int.reduceLT, Int.reduceLE, Int.reduceToNat, Int.reduceNeg, Int.reduceEq, ↓reduceIte, reduceCtorEq, ↓reduceDIte]
  | false =>
    rw [hany] at hcfi
    rw [if_neg (by simp)]
    have hbc := call_bc n r1 qm qm qc qf (by omega) (by omega)
    have hco := call_cob (qf.set n (qm && !decide (r1 = 0))) (by simp; omega)
    rw [HX, HX] at hbc
    cases qm with
    | true =>
      simp only [Bool.true_and, Bool.not_true, Bool.false_or, Bool.true_or] at hco hbc ⊢
      simp -implicitDefEqProofs only [w1, w2, zero_le_cast, Int.toNat_natCast, Int.toNat_zero, y1, y2, g1, hg, hse, hcfi, hbc, hco, go_sem, Nat.reduceAdd, Nat.reduceSub, Nat.reduceMul, Nat.reduceMod, Nat.reduceLT, Nat.reduceLeDiff, Nat.reduceEqDiff, Nat.reduceBEq, Nat.reduceDiv, Int.reduceLT, Int.reduceLE, Int.reduceToNat, Int.reduceNeg, Int.reduceEq, ↓reduceIte, reduceCtorEq, ↓reduceDIte]
    | false =>
      simp only [Bool.false_and, Bool.not_false, Bool.true_or] at hco hbc ⊢
      simp -implicitDefEqProofs only [w1, w2, zero_le_cast, Int.toNat_natCast, Int.toNat_zero, y1, y2, g1, hg, hse, hcfi, hbc, hco, go_sem, Nat.reduceAdd, Nat.reduceSub, Nat.reduceMul, Nat.reduceMod, Nat.reduceLT, Nat.reduceLeDiff, Nat.reduceEqDiff, Nat.reduceBEq, Nat.reduceDiv, Int.reduceLT, Int.reduceLE, Int.reduceToNat, Int.reduceNeg, Int.reduceEq, ↓reduceIte, reduceCtorEq, ↓reduceDIte]
theorem st_e (a b v d e : List Ru) (ha : a.length = 4) (hb : b.length = 4) (hv : v.length = 4) (hd : d.length = 4) (he : e.length = 4) (n : Nat) (cs : List Int) (fs : List Bool) (m : Bool) (hn : n < cs.length) (hcf : cs.length = fs.length) (hl : cs.length ≤ 3) (hx : ∀ x ∈ cs, 0 ≤ x ∧ x ≤ 3) : callOf pr 52 [.op 1000000 0, pA a b v d e, .agg [I 2, I n]] (HX cs fs m) = (fun r : Aft => (some (AV.tuple [B (flawB r), B r.2.2.2.2.1, I r.2.2.2.2.2], HX r.1 r.2.1 r.2.2.1) : Option (AV × Heap))) (aftE v n cs fs m) := by
  obtain ⟨x0, x3⟩ : 0 ≤ cs.getD n 0 ∧ cs.getD n 0 ≤ 3 := by rw [getD_of_lt hn]; exact hx _ (List.getElem_mem hn)
  have g1 := getD_z hn 0
  have g2 := getD_z (show n < fs.length by omega) false
  generalize hX : cs.getD n 0 = x at *
  generalize hF : fs.getD n false = f at *
  obtain ⟨r1, r2, r3, hg⟩ := ru_parts (show x.toNat < v.length by omega)
  have hco := call_cob (fs.set n false) (by simp; omega)
  have hm : aftE v n cs fs m = (cs.set n 0, fs.set n false, if r3 then f else m, false, false, if r3 then 1 else 0) := by simp only [aftE, hX, hF, hg]
  have w1 : ((n : Int) < (cs.length : Int)) = True := tr (by omega)
  have w2 : (n < cs.length) = True := tr hn
  have w3 : ((n : Int) < (fs.length : Int)) = True := tr (by omega)
  have w4 : (n < fs.length) = True := tr (by omega)
  have y1 : (x < (v.length : Int)) = True := tr (by omega)
  have y2 : (x.toNat < v.length) = True := tr (by omega)
  have k1 : ((2 : Int) = 0) = False := fa (by decide)
  have k2 : ((2 : Int) = 1) = False := fa (by decide)
  have kw : IntKind.i64.wrap 1 = 1 := by decide
  rw [hm, call_eq pr 52 _ _ Try.f52 fn_52 _ rfl _ ann_52 rfl, HX]
  simp only [flawB]
  cases r3 with
  | true =>
    have hbc := call_bc n 0 false f cs fs hn (by omega)
    rw [HX, HX, Bool.false_and] at hbc
    cases f with
    | true => simp -implicitDefEqProofs only [w1, w2, w3, w4, zero_le_cast, Int.toNat_natCast, tr x0, y1, y2, g1, g2, hg, k1, k2, kw, Int.zero_add, hbc, go_sem, Nat.reduceAdd, Nat.reduceSub, Nat.reduceMul, Nat.reduceMod, Nat.reduceLT, Nat.reduceLeDiff, Nat.reduceEqDiff, Nat.reduceBEq, Nat.reduceDiv, Int.reduceLT, Int.reduceLE, Int.reduceToNat, Int.reduceNeg, Int.reduceEq, ↓reduceIte, reduceCtorEq, ↓reduceDIte]
    | false => simp -implicitDefEqProofs only [w1, w2, w3, w4, zero_le_cast, Int.toNat_natCast, tr x0, y1, y2, g1, g2, hg, k1, k2, kw, Int.zero_add, hbc, hco, go_sem, Nat.reduceAdd, Nat.reduceSub, Nat.reduceMul, Nat.reduceMod, Nat.reduceLT, Nat.reduceLeDiff, Nat.reduceEqDiff, Nat.reduceBEq, Nat.reduceDiv, Int.reduceLT, Int.reduceLE, Int.reduceToNat, Int.reduceNeg, Int.reduceEq, ↓reduceIte, reduceCtorEq, ↓reduceDIte]
  | false =>
    have hbc := call_bc n 0 false m cs fs hn (by omega)
    rw [HX, HX, Bool.false_and] at hbc
    cases m with
    | true => simp -implicitDefEqProofs only [w1, w2, w3, w4, zero_le_cast, Int.toNat_natCast, tr x0, y1, y2, g1, g2, hg, k1, k2, kw, Int.zero_add, hbc, go_sem, Nat.reduceAdd, Nat.reduceSub, Nat.reduceMul, Nat.reduceMod, Nat.reduceLT, Nat.reduceLeDiff, Nat.reduceEqDiff, Nat.reduceBEq, Nat.reduceDiv, Int.reduceLT, Int.reduceLE, Int.reduceToNat, Int.reduceNeg, Int.reduceEq, ↓reduceIte, reduceCtorEq, ↓reduceDIte]
    | false => simp -implicitDefEqProofs only [w1, w2, w3, w4, zero_le_cast, Int.toNat_natCast, tr x0, y1, y2, g1, g2, hg, k1, k2, kw, Int.zero_add, hbc, hco, go_sem, Nat.reduceAdd, Nat.reduceSub, Nat.reduceMul, Nat.reduceMod, Nat.reduceLT, Nat.reduceLeDiff, Nat.reduceEqDiff, Nat.reduceBEq, Nat.reduceDiv, Int.reduceLT, Int.reduceLE, Int.reduceToNat, Int.reduceNeg, Int.reduceEq, ↓reduceIte, reduceCtorEq, ↓reduceDIte]
theorem clear_all (fs : List Bool) : copyIn fs (List.replicate fs.length false) 0 fs.length = List.replicate fs.length false := by
  simp [copyIn]
theorem st_w (a b v d e : List Ru) (ha : a.length = 4) (hb : b.length = 4) (hv : v.length = 4) (hd : d.length = 4) (he : e.length = 4) (n : Nat) (cs : List Int) (fs : List Bool) (m : Bool) (hn : n < cs.length) (hcf : cs.length = fs.length) (hl : cs.length ≤ 3) (hx : ∀ x ∈ cs, 0 ≤ x ∧ x ≤ 3) : callOf pr 52 [.op 1000000 0, pA a b v d e, .agg [I 1, I n]] (HX cs fs m) = (fun r : Aft => (some (AV.tuple [B (flawB r), B r.2.2.2.2.1, I r.2.2.2.2.2], HX r.1 r.2.1 r.2.2.1) : Option (AV × Heap))) (aftW b n (cs.getD n 0) (decide (cs.getD n 0 = 0) || decide (cs.getD n 0 = 1)) (if (decide (cs.getD n 0 = 0) || decide (cs.getD n 0 = 1)) = true then seeL e n 0 cs fs m 0 else (cs, fs, m, 0))) := by
  obtain ⟨x0, x3⟩ : 0 ≤ cs.getD n 0 ∧ cs.getD n 0 ≤ 3 := by rw [getD_of_lt hn]; exact hx _ (List.getElem_mem hn)
  have g1 := getD_z hn 0
  generalize hX : cs.getD n 0 = x at *
  obtain ⟨r1, r2, r3, hg⟩ := ru_parts (show x.toNat < b.length by omega)
  have hse := call_se e n he cs fs m hcf (by omega) hx
  obtain ⟨l1, l2⟩ := see_len e n cs fs 0 m 0 hcf
  have k0 := see_bk e n cs fs 0 m 0 hcf
  have w1 : ((n : Int) < (cs.length : Int)) = True := tr (by omega)
  have w2 : (n < cs.length) = True := tr hn
  have y1 : (x < (b.length : Int)) = True := tr (by omega)
  have y2 : (x.toNat < b.length) = True := tr (by omega)
  have k1 : ((1 : Int) = 0) = False := fa (by decide)
  have kw : IntKind.i64.wrap 1 = 1 := by decide
  generalize seeL e n 0 cs fs m 0 = q at *
  obtain ⟨qc, qf, qm, qk⟩ := q
  simp only at *
  have kq : IntKind.i64.wrap (qk + 1) = qk + 1 := by rw [wrap_i] <;> omega
  rw [HX, HX] at hse
  by_cases h0 : x = 0
  · rw [decide_eq_true h0, Bool.true_or, if_pos rfl]
    have hm : aftW b n x true (qc, qf, qm, qk) = (qc.set n r1, (List.replicate qf.length false).set n (!decide (r1 = 0)), r3, false, true, if r3 then qk + 1 else qk) := by simp only [aftW, hg]
    rw [hm, call_eq pr 52 _ _ Try.f52 fn_52 _ rfl _ ann_52 rfl, HX]
    simp only [flawB]
    have hbc := call_bc n r1 true qm qc (List.replicate qf.length false) (by omega) (by simp; omega)
    have hco := call_cob ((List.replicate qf.length false).set n (!decide (r1 = 0))) (by simp; omega)
    rw [HX, HX, Bool.true_and] at hbc
    cases r3 with
    | true => simp -implicitDefEqProofs only [w1, w2, zero_le_cast, Int.toNat_natCast, tr x0, y1, y2, g1, hg, k1, kw, kq, clear_all, Int.zero_add, tr h0, hse, hbc, hco, go_sem, Nat.reduceAdd, Nat.reduceSub, Nat.reduceMul, Nat.reduceMod, Nat.reduceLT, Nat.reduceLeDiff, Nat.reduceEqDiff, Nat.reduceBEq, Nat.reduceDiv, Int.reduceLT, Int.reduceLE, Int.reduceToNat, Int.reduceNeg, Int.reduceEq, ↓reduceIte, reduceCtorEq, ↓reduceDIte]
    | false => simp -implicitDefEqProofs only [w1, w2, zero_le_cast, Int.toNat_natCast, tr x0, y1, y2, g1, hg, k1, kw, kq, clear_all, Int.zero_add, tr h0, hse, hbc, hco, go_sem, Nat.reduceAdd, Nat.reduceSub, Nat.reduceMul, Nat.reduceMod, Nat.reduceLT, Nat.reduceLeDiff, Nat.reduceEqDiff, Nat.reduceBEq, Nat.reduceDiv, Int.reduceLT, Int.reduceLE, Int.reduceToNat, Int.reduceNeg, Int.reduceEq, ↓reduceIte, reduceCtorEq, ↓reduceDIte]
  by_cases h1 : x = 1
  · rw [decide_eq_true h1, Bool.or_true, if_pos rfl]
    have hm : aftW b n x true (qc, qf, qm, qk) = (qc.set n r1, (List.replicate qf.length false).set n (!decide (r1 = 0)), r3, false, true, if r3 then qk + 1 else qk) := by simp only [aftW, hg]
    rw [hm, call_eq pr 52 _ _ Try.f52 fn_52 _ rfl _ ann_52 rfl, HX]
    simp only [flawB]
    have hbc := call_bc n r1 true qm qc (List.replicate qf.length false) (by omega) (by simp; omega)
    have hco := call_cob ((List.replicate qf.length false).set n (!decide (r1 = 0))) (by simp; omega)
    rw [HX, HX, Bool.true_and] at hbc
    cases r3 with
    | true => simp -implicitDefEqProofs only [w1, w2, zero_le_cast, Int.toNat_natCast, tr x0, y1, y2, g1, hg, k1, kw, kq, clear_all, Int.zero_add, fa h0, tr h1, hse, hbc, hco, go_sem, Nat.reduceAdd, Nat.reduceSub, Nat.reduceMul, Nat.reduceMod, Nat.reduceLT, Nat.reduceLeDiff, Nat.reduceEqDiff, Nat.reduceBEq, Nat.reduceDiv, Int.reduceLT, Int.reduceLE, Int.reduceToNat, Int.reduceNeg, Int.reduceEq, ↓reduceIte, reduceCtorEq, ↓reduceDIte]
    | false => simp -implicitDefEqProofs only [w1, w2, zero_le_cast, Int.toNat_natCast, tr x0, y1, y2, g1, hg, k1, kw, kq, clear_all, Int.zero_add, fa h0, tr h1, hse, hbc, hco, go_sem, Nat.reduceAdd, Nat.reduceSub, Nat.reduceMul, Nat.reduceMod, Nat.reduceLT, Nat.reduceLeDiff, Nat.reduceEqDiff, Nat.reduceBEq, Nat.reduceDiv, Int.reduceLT, Int.reduceLE, Int.reduceToNat, Int.reduceNeg, Int.reduceEq, ↓reduceIte, reduceCtorEq, ↓reduceDIte]
  · rw [decide_eq_false h0, decide_eq_false h1, Bool.or_false, if_neg (by simp)]
    have hm : aftW b n x false (cs, fs, m, 0) = (cs.set n r1, (List.replicate fs.length false).set n (!decide (r1 = 0)), r3, false, false, if r3 then 1 else 0) := by simp only [aftW, hg, Int.zero_add]
    rw [hm, call_eq pr 52 _ _ Try.f52 fn_52 _ rfl _ ann_52 rfl, HX]
    simp only [flawB]
    have hbc := call_bc n r1 true m cs (List.replicate fs.length false) (by omega) (by simp; omega)
    have hco := call_cob ((List.replicate fs.length false).set n (!decide (r1 = 0))) (by simp; omega)
    rw [HX, HX, Bool.true_and] at hbc
    cases r3 with
    | true => simp -implicitDefEqProofs only [w1, w2, zero_le_cast, Int.toNat_natCast, tr x0, y1, y2, g1, hg, k1, kw, kq, clear_all, Int.zero_add, fa h0, fa h1, hbc, hco, go_sem, Nat.reduceAdd, Nat.reduceSub, Nat.reduceMul, Nat.reduceMod, Nat.reduceLT, Nat.reduceLeDiff, Nat.reduceEqDiff, Nat.reduceBEq, Nat.reduceDiv, Int.reduceLT, Int.reduceLE, Int.reduceToNat, Int.reduceNeg, Int.reduceEq, ↓reduceIte, reduceCtorEq, ↓reduceDIte]
    | false => simp -implicitDefEqProofs only [w1, w2, zero_le_cast, Int.toNat_natCast, tr x0, y1, y2, g1, hg, k1, kw, kq, clear_all, Int.zero_add, fa h0, fa h1, hbc, hco, go_sem, Nat.reduceAdd, Nat.reduceSub, Nat.reduceMul, Nat.reduceMod, Nat.reduceLT, Nat.reduceLeDiff, Nat.reduceEqDiff, Nat.reduceBEq, Nat.reduceDiv, Int.reduceLT, Int.reduceLE, Int.reduceToNat, Int.reduceNeg, Int.reduceEq, ↓reduceIte, reduceCtorEq, ↓reduceDIte]
def sR1 (a : List Ru) (n : Nat) (cs : List Int) (fs : List Bool) (m : Bool) : Aft := (cs.set n (a.getD (cs.getD n 0).toNat rZ).1, fs, m, !fs.getD n false, false, 0)
def sR0 (a d : List Ru) (n : Nat) (cs : List Int) (fs : List Bool) (m : Bool) : Aft :=
  let q := seeL d n 0 cs fs m 0
  (if othB n 0 (q.1.set n (a.getD 0 rZ).1) = true then (q.1.set n (a.getD 0 rZ).1).set n (a.getD 0 rZ).2.1 else q.1.set n (a.getD 0 rZ).1, q.2.1.set n q.2.2.1, q.2.2.1, !q.2.2.1, true, q.2.2.2)
def stepI (a b v d e : List Ru) (k : Int) (n : Nat) (cs : List Int) (fs : List Bool) (m : Bool) : Aft :=
  if k = 0 then if cs.getD n 0 = 0 then aftR0 a d n cs fs m else aftR1 a n cs fs m else if k = 1 then aftW b n (cs.getD n 0) (decide (cs.getD n 0 = 0) || decide (cs.getD n 0 = 1)) (if (decide (cs.getD n 0 = 0) || decide (cs.getD n 0 = 1)) = true then seeL e n 0 cs fs m 0 else (cs, fs, m, 0)) else aftE v n cs fs m
def stepS (a b v d e : List Ru) (k : Int) (n : Nat) (cs : List Int) (fs : List Bool) (m : Bool) : Aft :=
  if k = 0 then if cs.getD n 0 = 0 then sR0 a d n cs fs m else sR1 a n cs fs m else if k = 1 then aftW b n (cs.getD n 0) (decide (cs.getD n 0 = 0) || decide (cs.getD n 0 = 1)) (if (decide (cs.getD n 0 = 0) || decide (cs.getD n 0 = 1)) = true then seeL e n 0 cs fs m 0 else (cs, fs, m, 0)) else aftE v n cs fs m
theorem see_at (rules : List Ru) (c : Int) : ∀ (cs : List Int) (fs : List Bool) (i : Int) (n : Nat) (m : Bool) (k : Int), cs.length = fs.length → i + n = c → (seeL rules c i cs fs m k).1.getD n 0 = cs.getD n 0
  | [], [], _, _, _, _, _, _ => rfl
  | [], _ :: _, _, _, _, _, h, _ => by simp at h
  | _ :: _, [], _, _, _, _, h, _ => by simp at h
  | x :: cs, f :: fs, i, 0, m, k, h, hi => by
    rw [see_skip rules c i x cs f fs m k (.inl (by simpa using hi))]
    rfl
  | x :: cs, f :: fs, i, n + 1, m, k, h, hi => by
    have h : cs.length = fs.length := by simpa using h
    by_cases hk : i = c ∨ x = 0
    · rw [see_skip rules c i x cs f fs m k hk]
      exact see_at rules c cs fs (i + 1) n m k h (by omega)
    · obtain ⟨n', s, b, hb⟩ : ∃ n s b, rules.getD x.toNat rZ = (n, s, b, ()) := by
        obtain ⟨n, s, b, ⟨⟩⟩ : Ru := rules.getD x.toNat rZ
        exact ⟨n, s, b, rfl⟩
      rw [see_take rules c i x cs f fs m k n' s b (fun h => hk (.inl h)) (fun h => hk (.inr h)) hb]
      exact see_at rules c cs fs (i + 1) n _ _ h (by omega)
theorem oth_any (c : Int) (r : Int) : ∀ (cs : List Int) (i : Int) (n : Nat), i + n = c → cs.getD n 0 = 0 → othB c i (cs.set n r) = cs.any fun x => decide (x ≠ 0)
  | [], i, n, _, _ => rfl
  | x :: cs, i, 0, hi, h => by
    have h : x = 0 := h
    have hi : i = c := by simpa using hi
    subst h
    rw [List.set_cons_zero, othB, List.any_cons]
    have : ∀ (cs : List Int) (j : Int), c < j → othB c j cs = cs.any fun x => decide (x ≠ 0) := by
      intro cs
      induction cs with
      | nil => intro j _; rfl
      | cons y cs ih =>
        intro j hj
        rw [othB, List.any_cons, ih (j + 1) (by omega)]
        have : ¬ j = c := by omega
        by_cases hy : y = 0 <;> simp [this, hy]
    rw [this cs (i + 1) (by omega)]
    simp [hi]
  | x :: cs, i, n + 1, hi, h => by
    rw [List.set_cons_succ, othB, List.any_cons, oth_any c r cs (i + 1) n (by omega) h]
    have : ¬ i = c := by omega
    by_cases hy : x = 0 <;> simp [this, hy]
theorem set_self {α : Type} : ∀ (xs : List α) (n : Nat) (d : α), xs.set n (xs.getD n d) = xs
  | [], _, _ => rfl
  | x :: xs, 0, _ => rfl
  | x :: xs, n + 1, d => by
    rw [List.set_cons_succ]
    have := set_self xs n d
    rw [show (x :: xs).getD (n + 1) d = xs.getD n d from rfl, this]
theorem step_eq (a b v d e : List Ru) (ha : a.length = 4) (hb : b.length = 4) (hv : v.length = 4) (hd : d.length = 4) (he : e.length = 4) (n : Nat) (cs : List Int) (fs : List Bool) (m : Bool) (hn : n < cs.length) (hcf : cs.length = fs.length) (hl : cs.length ≤ 3) (hx : ∀ x ∈ cs, 0 ≤ x ∧ x ≤ 3) (hz : a.all nzB = true) (k : Int) : stepI a b v d e k n cs fs m = stepS a b v d e k n cs fs m := by
  have hnz : ∀ j : Nat, j < a.length → ¬ (a.getD j rZ).1 = 0 ∧ ¬ (a.getD j rZ).2.1 = 0 := by
    intro j hj
    rw [getD_of_lt hj]
    have := (List.all_eq_true.1 hz) a[j] (List.getElem_mem hj)
    simpa [nzB] using this
  unfold stepI stepS
  by_cases hk : k = 0
  case neg => rw [if_neg hk, if_neg hk]
  rw [if_pos hk, if_pos hk]
  by_cases h0 : cs.getD n 0 = 0
  · rw [if_pos h0, if_pos h0]
    obtain ⟨z1, z2⟩ := hnz 0 (by omega)
    have hat := see_at d n cs fs 0 n m 0 hcf (by omega)
    rw [h0] at hat
    unfold aftR0 sR0
    generalize seeL d n 0 cs fs m 0 = q at *
    simp only
    rw [oth_any n _ q.1 0 n (by omega) hat]
    cases q.1.any fun x => decide (x ≠ 0) with
    | true => simp only [if_true, List.set_set, decide_eq_false z2, Bool.not_false, Bool.and_true]
    | false => simp only [Bool.false_eq_true, if_false, decide_eq_false z1, Bool.not_false, Bool.and_true]
  · rw [if_neg h0, if_neg h0]
    obtain ⟨x0, x3⟩ : 0 ≤ cs.getD n 0 ∧ cs.getD n 0 ≤ 3 := by rw [getD_of_lt hn]; exact hx _ (List.getElem_mem hn)
    obtain ⟨z1, z2⟩ := hnz (cs.getD n 0).toNat (by omega)
    unfold aftR1 sR1
    rw [decide_eq_false z1, Bool.not_false, Bool.and_true, set_self]
theorem st_all (a b v d e : List Ru) (ha : a.length = 4) (hb : b.length = 4) (hv : v.length = 4) (hd : d.length = 4) (he : e.length = 4) (n : Nat) (cs : List Int) (fs : List Bool) (m : Bool) (hn : n < cs.length) (hcf : cs.length = fs.length) (hl : cs.length ≤ 3) (hx : ∀ x ∈ cs, 0 ≤ x ∧ x ≤ 3) (k : Int) (hk : 0 ≤ k ∧ k ≤ 2) : callOf pr 52 [.op 1000000 0, pA a b v d e, .agg [I k, I n]] (HX cs fs m) = some (AV.tuple [B (flawB (stepI a b v d e k n cs fs m)), B (stepI a b v d e k n cs fs m).2.2.2.2.1, I (stepI a b v d e k n cs fs m).2.2.2.2.2], HX (stepI a b v d e k n cs fs m).1 (stepI a b v d e k n cs fs m).2.1 (stepI a b v d e k n cs fs m).2.2.1) := by
  unfold stepI
  by_cases k0 : k = 0
  · subst k0
    simp only [if_true]
    by_cases h0 : cs.getD n 0 = 0
    · simp only [if_pos h0]
      exact st_r0 a b v d e ha hb hv hd he n cs fs m hn hcf hl hx h0
    · simp only [if_neg h0]
      exact st_r1 a b v d e ha hb hv hd he n cs fs m hn hcf hl hx h0
  · simp only [if_neg k0]
    by_cases k1 : k = 1
    · subst k1
      simp only [if_true]
      exact st_w a b v d e ha hb hv hd he n cs fs m hn hcf hl hx
    · simp only [if_neg k1]
      have k2 : k = 2 := by omega
      subst k2
      exact st_e a b v d e ha hb hv hd he n cs fs m hn hcf hl hx
end Go.Proofs.Ythmnlokdikomkaa.PI
