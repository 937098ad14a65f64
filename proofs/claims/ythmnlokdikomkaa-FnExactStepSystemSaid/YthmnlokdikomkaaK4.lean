/- Protocols: the reference's validity. -/
import Derived.Test.YthmnlokdikomkaaK2
namespace Go.Proofs.Ythmnlokdikomkaa.PI
open Go Go.Q
set_option maxRecDepth 100000
set_option maxHeartbeats 4000000
set_option linter.unusedSimpArgs false
set_option linter.unusedVariables false
theorem tf (p : Prop) : (p = True) ∨ (p = False) := (Classical.em p).imp tr fa
/-- What a rule of a table is asked, by the table's number and the copy's. -/
def askB (k q : Int) (r : Ru) : Bool := copyB r.1 && copyB r.2.1 && !(decide (k = 0) && (decide (r.1 = 0) || decide (r.2.1 = 0))) && !(decide (k = 2) && decide (r.1 ≠ 0)) && !(decide (2 ≤ k) && decide (q = 0) && (decide (r.1 ≠ 0) || r.2.2.1))
def askL (k : Int) : Int → List Ru → Bool
  | _, [] => true
  | q, r :: rs => askB k q r && askL k (q + 1) rs
def tailH : Option (Int × Int × Bool) → Heap
  | none => []
  | some (n, s, b) => [(384, .box [I n, I s, B b])]
theorem q_k0 (T0 T1 : List (List Ru)) (hk1 : T0.length < 100) (n s : Int) (b : Bool) (suf pre : List Ru) (hl : pre.length + (suf.length + 1) = 4) (hn : copyB n = true) (hs : copyB s = true) (k0 : ((T0.length : Int) = 0) = True) (k2 : ((T0.length : Int) = 2) = False) (kg : (2 ≤ (T0.length : Int)) = False) (box : Option (Int × Int × Bool))
    (ih : loopOf pr 68 1 ⟨[(3, .os (.t 512)), (4, I T0.length), (5, I ((pre.length + 1 : Nat) : Int))], [(512, .arr true false (.slice tyR) (T0 ++ (pre ++ (n, s, b, ()) :: suf) :: T1))]⟩ = if askL T0.length ((pre.length + 1 : Nat) : Int) suf = true then some (.exit 2, ⟨[(3, .os (.t 512)), (4, I T0.length), (5, I 4)], [(512, .arr true false (.slice tyR) (T0 ++ (pre ++ (n, s, b, ()) :: suf) :: T1))]⟩) else some (.ret, ⟨[(2, B false)], (512, .arr true false (.slice tyR) (T0 ++ (pre ++ (n, s, b, ()) :: suf) :: T1)) :: tailH box⟩)) : ∃ box : Option (Int × Int × Bool), loopOf pr 68 1 ⟨[(3, .os (.t 512)), (4, I T0.length), (5, I pre.length)], [(512, .arr true false (.slice tyR) (T0 ++ (pre ++ (n, s, b, ()) :: suf) :: T1))]⟩ = if (askB T0.length pre.length (n, s, b, ()) && askL T0.length ((pre.length + 1 : Nat) : Int) suf) = true then some (.exit 2, ⟨[(3, .os (.t 512)), (4, I T0.length), (5, I 4)], [(512, .arr true false (.slice tyR) (T0 ++ (pre ++ (n, s, b, ()) :: suf) :: T1))]⟩) else some (.ret, ⟨[(2, B false)], (512, .arr true false (.slice tyR) (T0 ++ (pre ++ (n, s, b, ()) :: suf) :: T1)) :: tailH box⟩) := by
    have hw : IntKind.i64.wrap ((pre.length : Int) + 1) = ((pre.length + 1 : Nat) : Int) := by rw [wrap_i] <;> omega
    have hlt : ((pre.length : Int) < 4) = True := tr (by omega)
    have c1 := call_scp n
    have c2 := call_scp s
    rw [hn] at c1
    rw [hs] at c2
    rcases tf (n = 0) with n0 | n0
    · have hb : askB T0.length pre.length (n, s, b, ()) = false := by simp only [askB, hn, hs, k0, k2, kg, n0, decide_true, decide_false, ne_eq, not_true, not_false_eq_true, Bool.and_true, Bool.true_and, Bool.false_and, Bool.and_false, Bool.or_true, Bool.or_false, Bool.true_or, Bool.false_or, Bool.not_true, Bool.not_false]
      rw [hb, Bool.false_and]
      refine ⟨some (n, s, b), ?_⟩
      rw [if_neg (by simp)]
      rw [loop_eq pr 68 1 _ Try.f68 fn_68 _ rfl _ ann_68 _ rfl]
      simp -implicitDefEqProofs only [hlt, getD_app, lt_app, ltn_app, zero_le_cast, Int.toNat_natCast, hw, ge_iff_le, c1, c2, k0, k2, kg, n0, go_sem, Nat.reduceAdd, Nat.reduceSub, Nat.reduceMul, Nat.reduceMod, Nat.reduceLT, Nat.reduceLeDiff, Nat.reduceEqDiff, Nat.reduceBEq, Nat.reduceDiv, Int.reduceLT, Int.reduceLE, Int.reduceToNat, Int.reduceNeg, Int.reduceEq, ↓reduceIte, reduceCtorEq, ↓reduceDIte]
      rfl
    · rcases tf (s = 0) with s0 | s0
      · have hb : askB T0.length pre.length (n, s, b, ()) = false := by simp only [askB, hn, hs, k0, k2, kg, n0, s0, decide_true, decide_false, ne_eq, not_true, not_false_eq_true, Bool.and_true, Bool.true_and, Bool.false_and, Bool.and_false, Bool.or_true, Bool.or_false, Bool.true_or, Bool.false_or, Bool.not_true, Bool.not_false]
        rw [hb, Bool.false_and]
        refine ⟨some (n, s, b), ?_⟩
        rw [if_neg (by simp)]
        rw [loop_eq pr 68 1 _ Try.f68 fn_68 _ rfl _ ann_68 _ rfl]
        simp -implicitDefEqProofs only [hlt, getD_app, lt_app, ltn_app, zero_le_cast, Int.toNat_natCast, hw, ge_iff_le, c1, c2, k0, k2, kg, n0, s0, go_sem, Nat.reduceAdd, Nat.reduceSub, Nat.reduceMul, Nat.reduceMod, Nat.reduceLT, Nat.reduceLeDiff, Nat.reduceEqDiff, Nat.reduceBEq, Nat.reduceDiv, Int.reduceLT, Int.reduceLE, Int.reduceToNat, Int.reduceNeg, Int.reduceEq, ↓reduceIte, reduceCtorEq, ↓reduceDIte]
        rfl
      · have hb : askB T0.length pre.length (n, s, b, ()) = true := by simp only [askB, hn, hs, k0, k2, kg, n0, s0, decide_true, decide_false, ne_eq, not_true, not_false_eq_true, Bool.and_true, Bool.true_and, Bool.false_and, Bool.and_false, Bool.or_true, Bool.or_false, Bool.true_or, Bool.false_or, Bool.not_true, Bool.not_false]
        rw [hb, Bool.true_and]
        refine ⟨box, ?_⟩
        rw [loop_eq pr 68 1 _ Try.f68 fn_68 _ rfl _ ann_68 _ rfl]
        simp -implicitDefEqProofs only [hlt, getD_app, lt_app, ltn_app, zero_le_cast, Int.toNat_natCast, hw, ge_iff_le, c1, c2, k0, k2, kg, n0, s0, go_sem, Nat.reduceAdd, Nat.reduceSub, Nat.reduceMul, Nat.reduceMod, Nat.reduceLT, Nat.reduceLeDiff, Nat.reduceEqDiff, Nat.reduceBEq, Nat.reduceDiv, Int.reduceLT, Int.reduceLE, Int.reduceToNat, Int.reduceNeg, Int.reduceEq, ↓reduceIte, reduceCtorEq, ↓reduceDIte]
        exact ih
theorem q_k1 (T0 T1 : List (List Ru)) (hk1 : T0.length < 100) (n s : Int) (b : Bool) (suf pre : List Ru) (hl : pre.length + (suf.length + 1) = 4) (hn : copyB n = true) (hs : copyB s = true) (k0 : ((T0.length : Int) = 0) = False) (k2 : ((T0.length : Int) = 2) = False) (kg : (2 ≤ (T0.length : Int)) = False) (box : Option (Int × Int × Bool))
    (ih : loopOf pr 68 1 ⟨[(3, .os (.t 512)), (4, I T0.length), (5, I ((pre.length + 1 : Nat) : Int))], [(512, .arr true false (.slice tyR) (T0 ++ (pre ++ (n, s, b, ()) :: suf) :: T1))]⟩ = if askL T0.length ((pre.length + 1 : Nat) : Int) suf = true then some (.exit 2, ⟨[(3, .os (.t 512)), (4, I T0.length), (5, I 4)], [(512, .arr true false (.slice tyR) (T0 ++ (pre ++ (n, s, b, ()) :: suf) :: T1))]⟩) else some (.ret, ⟨[(2, B false)], (512, .arr true false (.slice tyR) (T0 ++ (pre ++ (n, s, b, ()) :: suf) :: T1)) :: tailH box⟩)) : ∃ box : Option (Int × Int × Bool), loopOf pr 68 1 ⟨[(3, .os (.t 512)), (4, I T0.length), (5, I pre.length)], [(512, .arr true false (.slice tyR) (T0 ++ (pre ++ (n, s, b, ()) :: suf) :: T1))]⟩ = if (askB T0.length pre.length (n, s, b, ()) && askL T0.length ((pre.length + 1 : Nat) : Int) suf) = true then some (.exit 2, ⟨[(3, .os (.t 512)), (4, I T0.length), (5, I 4)], [(512, .arr true false (.slice tyR) (T0 ++ (pre ++ (n, s, b, ()) :: suf) :: T1))]⟩) else some (.ret, ⟨[(2, B false)], (512, .arr true false (.slice tyR) (T0 ++ (pre ++ (n, s, b, ()) :: suf) :: T1)) :: tailH box⟩) := by
    have hw : IntKind.i64.wrap ((pre.length : Int) + 1) = ((pre.length + 1 : Nat) : Int) := by rw [wrap_i] <;> omega
    have hlt : ((pre.length : Int) < 4) = True := tr (by omega)
    have c1 := call_scp n
    have c2 := call_scp s
    rw [hn] at c1
    rw [hs] at c2
    have hb : askB T0.length pre.length (n, s, b, ()) = true := by simp only [askB, hn, hs, k0, k2, kg, decide_true, decide_false, ne_eq, not_true, not_false_eq_true, Bool.and_true, Bool.true_and, Bool.false_and, Bool.and_false, Bool.or_true, Bool.or_false, Bool.true_or, Bool.false_or, Bool.not_true, Bool.not_false]
    rw [hb, Bool.true_and]
    refine ⟨box, ?_⟩
    rw [loop_eq pr 68 1 _ Try.f68 fn_68 _ rfl _ ann_68 _ rfl]
    simp -implicitDefEqProofs only [hlt, getD_app, lt_app, ltn_app, zero_le_cast, Int.toNat_natCast, hw, ge_iff_le, c1, c2, k0, k2, kg, go_sem, Nat.reduceAdd, Nat.reduceSub, Nat.reduceMul, Nat.reduceMod, Nat.reduceLT, Nat.reduceLeDiff, Nat.reduceEqDiff, Nat.reduceBEq, Nat.reduceDiv, Int.reduceLT, Int.reduceLE, Int.reduceToNat, Int.reduceNeg, Int.reduceEq, ↓reduceIte, reduceCtorEq, ↓reduceDIte]
    exact ih
theorem q_k2 (T0 T1 : List (List Ru)) (hk1 : T0.length < 100) (n s : Int) (b : Bool) (suf pre : List Ru) (hl : pre.length + (suf.length + 1) = 4) (hn : copyB n = true) (hs : copyB s = true) (k0 : ((T0.length : Int) = 0) = False) (k2 : ((T0.length : Int) = 2) = True) (kg : (2 ≤ (T0.length : Int)) = True) (box : Option (Int × Int × Bool))
    (ih : loopOf pr 68 1 ⟨[(3, .os (.t 512)), (4, I T0.length), (5, I ((pre.length + 1 : Nat) : Int))], [(512, .arr true false (.slice tyR) (T0 ++ (pre ++ (n, s, b, ()) :: suf) :: T1))]⟩ = if askL T0.length ((pre.length + 1 : Nat) : Int) suf = true then some (.exit 2, ⟨[(3, .os (.t 512)), (4, I T0.length), (5, I 4)], [(512, .arr true false (.slice tyR) (T0 ++ (pre ++ (n, s, b, ()) :: suf) :: T1))]⟩) else some (.ret, ⟨[(2, B false)], (512, .arr true false (.slice tyR) (T0 ++ (pre ++ (n, s, b, ()) :: suf) :: T1)) :: tailH box⟩)) : ∃ box : Option (Int × Int × Bool), loopOf pr 68 1 ⟨[(3, .os (.t 512)), (4, I T0.length), (5, I pre.length)], [(512, .arr true false (.slice tyR) (T0 ++ (pre ++ (n, s, b, ()) :: suf) :: T1))]⟩ = if (askB T0.length pre.length (n, s, b, ()) && askL T0.length ((pre.length + 1 : Nat) : Int) suf) = true then some (.exit 2, ⟨[(3, .os (.t 512)), (4, I T0.length), (5, I 4)], [(512, .arr true false (.slice tyR) (T0 ++ (pre ++ (n, s, b, ()) :: suf) :: T1))]⟩) else some (.ret, ⟨[(2, B false)], (512, .arr true false (.slice tyR) (T0 ++ (pre ++ (n, s, b, ()) :: suf) :: T1)) :: tailH box⟩) := by
    have hw : IntKind.i64.wrap ((pre.length : Int) + 1) = ((pre.length + 1 : Nat) : Int) := by rw [wrap_i] <;> omega
    have hlt : ((pre.length : Int) < 4) = True := tr (by omega)
    have c1 := call_scp n
    have c2 := call_scp s
    rw [hn] at c1
    rw [hs] at c2
    rcases tf (n = 0) with n0 | n0
    · rcases tf ((pre.length : Int) = 0) with q0 | q0
      · rcases Bool.eq_false_or_eq_true b with b0 | b0
        · have hb : askB T0.length pre.length (n, s, b, ()) = false := by simp only [askB, hn, hs, k0, k2, kg, n0, q0, b0, decide_true, decide_false, ne_eq, not_true, not_false_eq_true, Bool.and_true, Bool.true_and, Bool.false_and, Bool.and_false, Bool.or_true, Bool.or_false, Bool.true_or, Bool.false_or, Bool.not_true, Bool.not_false]
          rw [hb, Bool.false_and]
          refine ⟨some (n, s, b), ?_⟩
          rw [if_neg (by simp)]
          rw [loop_eq pr 68 1 _ Try.f68 fn_68 _ rfl _ ann_68 _ rfl]
          simp -implicitDefEqProofs only [hlt, getD_app, lt_app, ltn_app, zero_le_cast, Int.toNat_natCast, hw, ge_iff_le, c1, c2, k0, k2, kg, n0, q0, b0, go_sem, Nat.reduceAdd, Nat.reduceSub, Nat.reduceMul, Nat.reduceMod, Nat.reduceLT, Nat.reduceLeDiff, Nat.reduceEqDiff, Nat.reduceBEq, Nat.reduceDiv, Int.reduceLT, Int.reduceLE, Int.reduceToNat, Int.reduceNeg, Int.reduceEq, ↓reduceIte, reduceCtorEq, ↓reduceDIte]
          rfl
        · have hb : askB T0.length pre.length (n, s, b, ()) = true := by simp only [askB, hn, hs, k0, k2, kg, n0, q0, b0, decide_true, decide_false, ne_eq, not_true, not_false_eq_true, Bool.and_true, Bool.true_and, Bool.false_and, Bool.and_false, Bool.or_true, Bool.or_false, Bool.true_or, Bool.false_or, Bool.not_true, Bool.not_false]
          rw [hb, Bool.true_and]
          refine ⟨box, ?_⟩
          rw [loop_eq pr 68 1 _ Try.f68 fn_68 _ rfl _ ann_68 _ rfl]
          simp -implicitDefEqProofs only [hlt, getD_app, lt_app, ltn_app, zero_le_cast, Int.toNat_natCast, hw, ge_iff_le, c1, c2, k0, k2, kg, n0, q0, b0, go_sem, Nat.reduceAdd, Nat.reduceSub, Nat.reduceMul, Nat.reduceMod, Nat.reduceLT, Nat.reduceLeDiff, Nat.reduceEqDiff, Nat.reduceBEq, Nat.reduceDiv, Int.reduceLT, Int.reduceLE, Int.reduceToNat, Int.reduceNeg, Int.reduceEq, ↓reduceIte, reduceCtorEq, ↓reduceDIte]
          simp only [b0] at ih
          exact ih
      · have hb : askB T0.length pre.length (n, s, b, ()) = true := by simp only [askB, hn, hs, k0, k2, kg, n0, q0, decide_true, decide_false, ne_eq, not_true, not_false_eq_true, Bool.and_true, Bool.true_and, Bool.false_and, Bool.and_false, Bool.or_true, Bool.or_false, Bool.true_or, Bool.false_or, Bool.not_true, Bool.not_false]
        rw [hb, Bool.true_and]
        refine ⟨box, ?_⟩
        rw [loop_eq pr 68 1 _ Try.f68 fn_68 _ rfl _ ann_68 _ rfl]
        simp -implicitDefEqProofs only [hlt, getD_app, lt_app, ltn_app, zero_le_cast, Int.toNat_natCast, hw, ge_iff_le, c1, c2, k0, k2, kg, n0, q0, go_sem, Nat.reduceAdd, Nat.reduceSub, Nat.reduceMul, Nat.reduceMod, Nat.reduceLT, Nat.reduceLeDiff, Nat.reduceEqDiff, Nat.reduceBEq, Nat.reduceDiv, Int.reduceLT, Int.reduceLE, Int.reduceToNat, Int.reduceNeg, Int.reduceEq, ↓reduceIte, reduceCtorEq, ↓reduceDIte]
        exact ih
    · have hb : askB T0.length pre.length (n, s, b, ()) = false := by simp only [askB, hn, hs, k0, k2, kg, n0, decide_true, decide_false, ne_eq, not_true, not_false_eq_true, Bool.and_true, Bool.true_and, Bool.false_and, Bool.and_false, Bool.or_true, Bool.or_false, Bool.true_or, Bool.false_or, Bool.not_true, Bool.not_false]
      rw [hb, Bool.false_and]
      refine ⟨some (n, s, b), ?_⟩
      rw [if_neg (by simp)]
      rw [loop_eq pr 68 1 _ Try.f68 fn_68 _ rfl _ ann_68 _ rfl]
      simp -implicitDefEqProofs only [hlt, getD_app, lt_app, ltn_app, zero_le_cast, Int.toNat_natCast, hw, ge_iff_le, c1, c2, k0, k2, kg, n0, go_sem, Nat.reduceAdd, Nat.reduceSub, Nat.reduceMul, Nat.reduceMod, Nat.reduceLT, Nat.reduceLeDiff, Nat.reduceEqDiff, Nat.reduceBEq, Nat.reduceDiv, Int.reduceLT, Int.reduceLE, Int.reduceToNat, Int.reduceNeg, Int.reduceEq, ↓reduceIte, reduceCtorEq, ↓reduceDIte]
      rfl
theorem q_k3 (T0 T1 : List (List Ru)) (hk1 : T0.length < 100) (n s : Int) (b : Bool) (suf pre : List Ru) (hl : pre.length + (suf.length + 1) = 4) (hn : copyB n = true) (hs : copyB s = true) (k0 : ((T0.length : Int) = 0) = False) (k2 : ((T0.length : Int) = 2) = False) (kg : (2 ≤ (T0.length : Int)) = True) (box : Option (Int × Int × Bool))
    (ih : loopOf pr 68 1 ⟨[(3, .os (.t 512)), (4, I T0.length), (5, I ((pre.length + 1 : Nat) : Int))], [(512, .arr true false (.slice tyR) (T0 ++ (pre ++ (n, s, b, ()) :: suf) :: T1))]⟩ = if askL T0.length ((pre.length + 1 : Nat) : Int) suf = true then some (.exit 2, ⟨[(3, .os (.t 512)), (4, I T0.length), (5, I 4)], [(512, .arr true false (.slice tyR) (T0 ++ (pre ++ (n, s, b, ()) :: suf) :: T1))]⟩) else some (.ret, ⟨[(2, B false)], (512, .arr true false (.slice tyR) (T0 ++ (pre ++ (n, s, b, ()) :: suf) :: T1)) :: tailH box⟩)) : ∃ box : Option (Int × Int × Bool), loopOf pr 68 1 ⟨[(3, .os (.t 512)), (4, I T0.length), (5, I pre.length)], [(512, .arr true false (.slice tyR) (T0 ++ (pre ++ (n, s, b, ()) :: suf) :: T1))]⟩ = if (askB T0.length pre.length (n, s, b, ()) && askL T0.length ((pre.length + 1 : Nat) : Int) suf) = true then some (.exit 2, ⟨[(3, .os (.t 512)), (4, I T0.length), (5, I 4)], [(512, .arr true false (.slice tyR) (T0 ++ (pre ++ (n, s, b, ()) :: suf) :: T1))]⟩) else some (.ret, ⟨[(2, B false)], (512, .arr true false (.slice tyR) (T0 ++ (pre ++ (n, s, b, ()) :: suf) :: T1)) :: tailH box⟩) := by
    have hw : IntKind.i64.wrap ((pre.length : Int) + 1) = ((pre.length + 1 : Nat) : Int) := by rw [wrap_i] <;> omega
    have hlt : ((pre.length : Int) < 4) = True := tr (by omega)
    have c1 := call_scp n
    have c2 := call_scp s
    rw [hn] at c1
    rw [hs] at c2
    rcases tf ((pre.length : Int) = 0) with q0 | q0
    · rcases tf (n = 0) with n0 | n0
      · rcases Bool.eq_false_or_eq_true b with b0 | b0
        · have hb : askB T0.length pre.length (n, s, b, ()) = false := by simp only [askB, hn, hs, k0, k2, kg, n0, q0, b0, decide_true, decide_false, ne_eq, not_true, not_false_eq_true, Bool.and_true, Bool.true_and, Bool.false_and, Bool.and_false, Bool.or_true, Bool.or_false, Bool.true_or, Bool.false_or, Bool.not_true, Bool.not_false]
          rw [hb, Bool.false_and]
          refine ⟨some (n, s, b), ?_⟩
          rw [if_neg (by simp)]
          rw [loop_eq pr 68 1 _ Try.f68 fn_68 _ rfl _ ann_68 _ rfl]
          simp -implicitDefEqProofs only [hlt, getD_app, lt_app, ltn_app, zero_le_cast, Int.toNat_natCast, hw, ge_iff_le, c1, c2, k0, k2, kg, n0, q0, b0, go_sem, Nat.reduceAdd, Nat.reduceSub, Nat.reduceMul, Nat.reduceMod, Nat.reduceLT, Nat.reduceLeDiff, Nat.reduceEqDiff, Nat.reduceBEq, Nat.reduceDiv, Int.reduceLT, Int.reduceLE, Int.reduceToNat, Int.reduceNeg, Int.reduceEq, ↓reduceIte, reduceCtorEq, ↓reduceDIte]
          rfl
        · have hb : askB T0.length pre.length (n, s, b, ()) = true := by simp only [askB, hn, hs, k0, k2, kg, n0, q0, b0, decide_true, decide_false, ne_eq, not_true, not_false_eq_true, Bool.and_true, Bool.true_and, Bool.false_and, Bool.and_false, Bool.or_true, Bool.or_false, Bool.true_or, Bool.false_or, Bool.not_true, Bool.not_false]
          rw [hb, Bool.true_and]
          refine ⟨box, ?_⟩
          rw [loop_eq pr 68 1 _ Try.f68 fn_68 _ rfl _ ann_68 _ rfl]
          simp -implicitDefEqProofs only [hlt, getD_app, lt_app, ltn_app, zero_le_cast, Int.toNat_natCast, hw, ge_iff_le, c1, c2, k0, k2, kg, n0, q0, b0, go_sem, Nat.reduceAdd, Nat.reduceSub, Nat.reduceMul, Nat.reduceMod, Nat.reduceLT, Nat.reduceLeDiff, Nat.reduceEqDiff, Nat.reduceBEq, Nat.reduceDiv, Int.reduceLT, Int.reduceLE, Int.reduceToNat, Int.reduceNeg, Int.reduceEq, ↓reduceIte, reduceCtorEq, ↓reduceDIte]
          simp only [b0] at ih
          exact ih
      · have hb : askB T0.length pre.length (n, s, b, ()) = false := by simp only [askB, hn, hs, k0, k2, kg, n0, q0, decide_true, decide_false, ne_eq, not_true, not_false_eq_true, Bool.and_true, Bool.true_and, Bool.false_and, Bool.and_false, Bool.or_true, Bool.or_false, Bool.true_or, Bool.false_or, Bool.not_true, Bool.not_false]
        rw [hb, Bool.false_and]
        refine ⟨some (n, s, b), ?_⟩
        rw [if_neg (by simp)]
        rw [loop_eq pr 68 1 _ Try.f68 fn_68 _ rfl _ ann_68 _ rfl]
        simp -implicitDefEqProofs only [hlt, getD_app, lt_app, ltn_app, zero_le_cast, Int.toNat_natCast, hw, ge_iff_le, c1, c2, k0, k2, kg, n0, q0, go_sem, Nat.reduceAdd, Nat.reduceSub, Nat.reduceMul, Nat.reduceMod, Nat.reduceLT, Nat.reduceLeDiff, Nat.reduceEqDiff, Nat.reduceBEq, Nat.reduceDiv, Int.reduceLT, Int.reduceLE, Int.reduceToNat, Int.reduceNeg, Int.reduceEq, ↓reduceIte, reduceCtorEq, ↓reduceDIte]
        rfl
    · have hb : askB T0.length pre.length (n, s, b, ()) = true := by simp only [askB, hn, hs, k0, k2, kg, q0, decide_true, decide_false, ne_eq, not_true, not_false_eq_true, Bool.and_true, Bool.true_and, Bool.false_and, Bool.and_false, Bool.or_true, Bool.or_false, Bool.true_or, Bool.false_or, Bool.not_true, Bool.not_false]
      rw [hb, Bool.true_and]
      refine ⟨box, ?_⟩
      rw [loop_eq pr 68 1 _ Try.f68 fn_68 _ rfl _ ann_68 _ rfl]
      simp -implicitDefEqProofs only [hlt, getD_app, lt_app, ltn_app, zero_le_cast, Int.toNat_natCast, hw, ge_iff_le, c1, c2, k0, k2, kg, q0, go_sem, Nat.reduceAdd, Nat.reduceSub, Nat.reduceMul, Nat.reduceMod, Nat.reduceLT, Nat.reduceLeDiff, Nat.reduceEqDiff, Nat.reduceBEq, Nat.reduceDiv, Int.reduceLT, Int.reduceLE, Int.reduceToNat, Int.reduceNeg, Int.reduceEq, ↓reduceIte, reduceCtorEq, ↓reduceDIte]
      exact ih
theorem loop_q (T0 T1 : List (List Ru)) (hk1 : T0.length < 100) : ∀ (suf pre : List Ru), pre.length + suf.length = 4 →
    ∃ box : Option (Int × Int × Bool), loopOf pr 68 1 ⟨[(3, .os (.t 512)), (4, I T0.length), (5, I pre.length)], [(512, .arr true false (.slice tyR) (T0 ++ (pre ++ suf) :: T1))]⟩ = if askL T0.length pre.length suf = true then some (.exit 2, ⟨[(3, .os (.t 512)), (4, I T0.length), (5, I 4)], [(512, .arr true false (.slice tyR) (T0 ++ (pre ++ suf) :: T1))]⟩) else some (.ret, ⟨[(2, B false)], (512, .arr true false (.slice tyR) (T0 ++ (pre ++ suf) :: T1)) :: tailH box⟩)
  | [], pre, hl => by
    have hp : ((pre.length : Int) < 4) = False := fa (by simp at hl; omega)
    have he : (pre.length : Int) = 4 := by simp at hl; omega
    refine ⟨none, ?_⟩
    rw [loop_eq pr 68 1 _ Try.f68 fn_68 _ rfl _ ann_68 _ rfl]
    simp -implicitDefEqProofs only [hp, List.append_nil, he, Int.lt_irrefl, askL, go_sem, Nat.reduceAdd, Nat.reduceSub, Nat.reduceMul, Nat.reduceMod, Nat.reduceLT, Nat.reduceLeDiff, Nat.reduceEqDiff, Nat.reduceBEq, Nat.reduceDiv, Int.reduceLT, Int.reduceLE, Int.reduceToNat, Int.reduceNeg, Int.reduceEq, ↓reduceIte, reduceCtorEq, ↓reduceDIte]
  | (n, s, b, ()) :: suf, pre, hl => by
    simp only [List.length_cons] at hl
    have hw : IntKind.i64.wrap ((pre.length : Int) + 1) = ((pre.length + 1 : Nat) : Int) := by rw [wrap_i] <;> omega
    have e1 : (pre ++ [(n, s, b, ())]).length = pre.length + 1 := by simp
    obtain ⟨box, ih⟩ := loop_q T0 T1 hk1 suf (pre ++ [(n, s, b, ())]) (by simp; omega)
    rw [e1, app_one] at ih
    have hlt : ((pre.length : Int) < 4) = True := tr (by omega)
    have c1 := call_scp n
    have c2 := call_scp s
    have hask : askL T0.length pre.length ((n, s, b, ()) :: suf) = (askB T0.length pre.length (n, s, b, ()) && askL T0.length ((pre.length + 1 : Nat) : Int) suf) := by rw [askL, Int.natCast_add]; rfl
    rw [hask]
    cases hn : copyB n with
    | false =>
      rw [hn] at c1
      have hb : askB T0.length pre.length (n, s, b, ()) = false := by simp [askB, hn]
      rw [hb, Bool.false_and]
      refine ⟨some (n, s, b), ?_⟩
      rw [if_neg (by simp)]
      rw [loop_eq pr 68 1 _ Try.f68 fn_68 _ rfl _ ann_68 _ rfl]
      simp -implicitDefEqProofs only [hlt, getD_app, lt_app, ltn_app, zero_le_cast, Int.toNat_natCast, hw, ge_iff_le, c1, go_sem, Nat.reduceAdd, Nat.reduceSub, Nat.reduceMul, Nat.reduceMod, Nat.reduceLT, Nat.reduceLeDiff, Nat.reduceEqDiff, Nat.reduceBEq, Nat.reduceDiv, Int.reduceLT, Int.reduceLE, Int.reduceToNat, Int.reduceNeg, Int.reduceEq, ↓reduceIte, reduceCtorEq, ↓reduceDIte]
      rfl
    | true =>
    rw [hn] at c1
    cases hs : copyB s with
    | false =>
      rw [hs] at c2
      have hb : askB T0.length pre.length (n, s, b, ()) = false := by simp [askB, hs]
      rw [hb, Bool.false_and]
      refine ⟨some (n, s, b), ?_⟩
      rw [if_neg (by simp)]
      rw [loop_eq pr 68 1 _ Try.f68 fn_68 _ rfl _ ann_68 _ rfl]
      simp -implicitDefEqProofs only [hlt, getD_app, lt_app, ltn_app, zero_le_cast, Int.toNat_natCast, hw, ge_iff_le, c1, c2, go_sem, Nat.reduceAdd, Nat.reduceSub, Nat.reduceMul, Nat.reduceMod, Nat.reduceLT, Nat.reduceLeDiff, Nat.reduceEqDiff, Nat.reduceBEq, Nat.reduceDiv, Int.reduceLT, Int.reduceLE, Int.reduceToNat, Int.reduceNeg, Int.reduceEq, ↓reduceIte, reduceCtorEq, ↓reduceDIte]
      rfl
    | true =>
    rw [hs] at c2
    have hkk : (((T0.length : Int) = 0) = True ∧ ((T0.length : Int) = 2) = False ∧ (2 ≤ (T0.length : Int)) = False) ∨ (((T0.length : Int) = 0) = False ∧ ((T0.length : Int) = 2) = False ∧ (2 ≤ (T0.length : Int)) = False) ∨ (((T0.length : Int) = 0) = False ∧ ((T0.length : Int) = 2) = True ∧ (2 ≤ (T0.length : Int)) = True) ∨ (((T0.length : Int) = 0) = False ∧ ((T0.length : Int) = 2) = False ∧ (2 ≤ (T0.length : Int)) = True) := by
      simp only [eq_iff_iff, iff_true, iff_false]
      omega
    rcases hkk with ⟨k0, k2, kg⟩ | ⟨k0, k2, kg⟩ | ⟨k0, k2, kg⟩ | ⟨k0, k2, kg⟩
    · exact q_k0 T0 T1 hk1 n s b suf pre hl hn hs k0 k2 kg box ih
    · exact q_k1 T0 T1 hk1 n s b suf pre hl hn hs k0 k2 kg box ih
    · exact q_k2 T0 T1 hk1 n s b suf pre hl hn hs k0 k2 kg box ih
    · exact q_k3 T0 T1 hk1 n s b suf pre hl hn hs k0 k2 kg box ih
def tabsL : Int → List (List Ru) → Bool
  | _, [] => true
  | k, t :: ts => decide (t.length = 4) && askL k 0 t && tabsL (k + 1) ts
theorem loop_t : ∀ (suf pre : List (List Ru)), pre.length + suf.length < 100 →
    ∃ box : Option (Int × Int × Bool), loopOf pr 68 0 ⟨[(3, .os (.t 512)), (4, I pre.length)], [(512, .arr true false (.slice tyR) (pre ++ suf))]⟩ = if tabsL pre.length suf = true then some (.exit 0, ⟨[(3, .os (.t 512)), (4, I ((pre.length + suf.length : Nat) : Int))], [(512, .arr true false (.slice tyR) (pre ++ suf))]⟩) else some (.ret, ⟨[(2, B false)], (512, .arr true false (.slice tyR) (pre ++ suf)) :: tailH box⟩)
  | [], pre, hb => by
    refine ⟨none, ?_⟩
    rw [loop_eq pr 68 0 _ Try.f68 fn_68 _ rfl _ ann_68 _ rfl]
    simp -implicitDefEqProofs only [Int.lt_irrefl, List.append_nil, List.length_nil, Nat.add_zero, tabsL, go_sem, Nat.reduceAdd, Nat.reduceSub, Nat.reduceMul, Nat.reduceMod, Nat.reduceLT, Nat.reduceLeDiff, Nat.reduceEqDiff, Nat.reduceBEq, Nat.reduceDiv, Int.reduceLT, Int.reduceLE, Int.reduceToNat, Int.reduceNeg, Int.reduceEq, ↓reduceIte, reduceCtorEq, ↓reduceDIte]
  | t :: suf, pre, hb => by
    simp only [List.length_cons] at hb
    have hw : IntKind.i64.wrap ((pre.length : Int) + 1) = ((pre.length + 1 : Nat) : Int) := by rw [wrap_i] <;> omega
    have e1 : (pre ++ [t]).length = pre.length + 1 := by simp
    have e2 : pre.length + 1 + suf.length = pre.length + (suf.length + 1) := by omega
    obtain ⟨box, ih⟩ := loop_t suf (pre ++ [t]) (by simp; omega)
    rw [e1, e2, app_one] at ih
    have hlt : ((pre.length : Int) < ((pre.length + (suf.length + 1) : Nat) : Int)) = True := tr (by omega)
    have hk : tabsL pre.length (t :: suf) = (decide (t.length = 4) && askL pre.length 0 t && tabsL ((pre.length + 1 : Nat) : Int) suf) := by rw [tabsL, Int.natCast_add]; rfl
    rw [hk]
    by_cases h4 : t.length = 4
    · have g4 : (((t.length : Nat) : Int) = 4) = True := tr (by omega)
      obtain ⟨box1, h1⟩ := loop_q pre suf (by omega) t [] (by simpa using h4)
      simp only [List.nil_append, List.length_nil] at h1
      have h1 : loopOf pr 68 1 ⟨[(3, .os (.t 512)), (4, I pre.length), (5, I 0)], [(512, .arr true false (.slice tyR) (pre ++ t :: suf))]⟩ = if askL pre.length 0 t = true then some (.exit 2, ⟨[(3, .os (.t 512)), (4, I pre.length), (5, I 4)], [(512, .arr true false (.slice tyR) (pre ++ t :: suf))]⟩) else some (.ret, ⟨[(2, B false)], (512, .arr true false (.slice tyR) (pre ++ t :: suf)) :: tailH box1⟩) := h1
      cases hq : askL pre.length 0 t with
      | true =>
        rw [hq, if_pos rfl] at h1
        rw [Bool.and_true, decide_eq_true h4, Bool.true_and]
        refine ⟨box, ?_⟩
        rw [loop_eq pr 68 0 _ Try.f68 fn_68 _ rfl _ ann_68 _ rfl]
        simp -implicitDefEqProofs only [hlt, getD_app, lt_app, ltn_app, zero_le_cast, Int.toNat_natCast, hw, List.length_cons, g4, h1, go_sem, Nat.reduceAdd, Nat.reduceSub, Nat.reduceMul, Nat.reduceMod, Nat.reduceLT, Nat.reduceLeDiff, Nat.reduceEqDiff, Nat.reduceBEq, Nat.reduceDiv, Int.reduceLT, Int.reduceLE, Int.reduceToNat, Int.reduceNeg, Int.reduceEq, ↓reduceIte, reduceCtorEq, ↓reduceDIte]
        exact ih
      | false =>
        rw [hq, if_neg (by simp)] at h1
        rw [Bool.and_false, Bool.false_and]
        refine ⟨box1, ?_⟩
        rw [if_neg (by simp)]
        rw [loop_eq pr 68 0 _ Try.f68 fn_68 _ rfl _ ann_68 _ rfl]
        simp -implicitDefEqProofs only [hlt, getD_app, lt_app, ltn_app, zero_le_cast, Int.toNat_natCast, hw, List.length_cons, g4, h1, go_sem, Nat.reduceAdd, Nat.reduceSub, Nat.reduceMul, Nat.reduceMod, Nat.reduceLT, Nat.reduceLeDiff, Nat.reduceEqDiff, Nat.reduceBEq, Nat.reduceDiv, Int.reduceLT, Int.reduceLE, Int.reduceToNat, Int.reduceNeg, Int.reduceEq, ↓reduceIte, reduceCtorEq, ↓reduceDIte]
    · have g4 : (((t.length : Nat) : Int) = 4) = False := fa (by omega)
      rw [decide_eq_false h4, Bool.false_and, Bool.false_and]
      refine ⟨none, ?_⟩
      rw [if_neg (by simp)]
      rw [loop_eq pr 68 0 _ Try.f68 fn_68 _ rfl _ ann_68 _ rfl]
      simp -implicitDefEqProofs only [hlt, getD_app, lt_app, ltn_app, zero_le_cast, Int.toNat_natCast, hw, List.length_cons, g4, go_sem, Nat.reduceAdd, Nat.reduceSub, Nat.reduceMul, Nat.reduceMod, Nat.reduceLT, Nat.reduceLeDiff, Nat.reduceEqDiff, Nat.reduceBEq, Nat.reduceDiv, Int.reduceLT, Int.reduceLE, Int.reduceToNat, Int.reduceNeg, Int.reduceEq, ↓reduceIte, reduceCtorEq, ↓reduceDIte]
      rfl
theorem call_si0 (a b c d e : List Ru) : callOf pr 68 [pR a b c d e] [] = some (B (tabsL 0 [a, b, c, d, e]), []) := by
  have h1 := call_tbs a b c d e
  obtain ⟨box, h2⟩ := loop_t [a, b, c, d, e] [] (by simp)
  simp only [List.nil_append, List.length_nil, List.length_cons, Nat.zero_add] at h2
  have h2 : loopOf pr 68 0 ⟨[(3, .os (.t 512)), (4, I 0)], [(512, .arr true false (.slice tyR) [a, b, c, d, e])]⟩ = if tabsL 0 [a, b, c, d, e] = true then some (.exit 0, ⟨[(3, .os (.t 512)), (4, I 5)], [(512, .arr true false (.slice tyR) [a, b, c, d, e])]⟩) else some (.ret, ⟨[(2, B false)], (512, .arr true false (.slice tyR) [a, b, c, d, e]) :: tailH box⟩) := h2
  rw [call_eq pr 68 _ _ Try.f68 fn_68 _ rfl _ ann_68 rfl]
  cases hk : tabsL 0 [a, b, c, d, e] with
  | true =>
    rw [hk, if_pos rfl] at h2
    simp -implicitDefEqProofs only [h1, h2, go_sem, Nat.reduceAdd, Nat.reduceSub, Nat.reduceMul, Nat.reduceMod, Nat.reduceLT, Nat.reduceLeDiff, Nat.reduceEqDiff, Nat.reduceBEq, Nat.reduceDiv, Int.reduceLT, Int.reduceLE, Int.reduceToNat, Int.reduceNeg, Int.reduceEq, ↓reduceIte, reduceCtorEq, ↓reduceDIte]
  | false =>
    rw [hk, if_neg (by simp)] at h2
    cases box with
    | none =>
      rw [tailH] at h2
      simp -implicitDefEqProofs only [h1, h2, go_sem, Nat.reduceAdd, Nat.reduceSub, Nat.reduceMul, Nat.reduceMod, Nat.reduceLT, Nat.reduceLeDiff, Nat.reduceEqDiff, Nat.reduceBEq, Nat.reduceDiv, Int.reduceLT, Int.reduceLE, Int.reduceToNat, Int.reduceNeg, Int.reduceEq, ↓reduceIte, reduceCtorEq, ↓reduceDIte]
    | some x =>
      obtain ⟨n, s, b⟩ := x
      rw [tailH] at h2
      simp -implicitDefEqProofs only [h1, h2, go_sem, Nat.reduceAdd, Nat.reduceSub, Nat.reduceMul, Nat.reduceMod, Nat.reduceLT, Nat.reduceLeDiff, Nat.reduceEqDiff, Nat.reduceBEq, Nat.reduceDiv, Int.reduceLT, Int.reduceLE, Int.reduceToNat, Int.reduceNeg, Int.reduceEq, ↓reduceIte, reduceCtorEq, ↓reduceDIte]
/-! plain -/
def nzB (r : Ru) : Bool := decide (r.1 ≠ 0) && decide (r.2.1 ≠ 0)
def zB (r : Ru) : Bool := decide (r.1 = 0)
theorem ask_0 : ∀ (t : List Ru) (q : Int), askL 0 q t = (t.all ruleB && t.all nzB)
  | [], q => rfl
  | r :: t, q => by
    rw [askL, ask_0 t, List.all_cons, List.all_cons]
    have : askB 0 q r = (ruleB r && nzB r) := by
      obtain ⟨n, s, b, ⟨⟩⟩ := r
      by_cases h1 : n = 0 <;> by_cases h2 : s = 0 <;> simp [askB, ruleB, nzB, h1, h2]
    rw [this]
    cases ruleB r <;> cases nzB r <;> simp
theorem ask_1 : ∀ (t : List Ru) (q : Int), askL 1 q t = t.all ruleB
  | [], q => rfl
  | r :: t, q => by
    rw [askL, ask_1 t, List.all_cons]
    have : askB 1 q r = ruleB r := by
      obtain ⟨n, s, b, ⟨⟩⟩ := r
      simp [askB, ruleB]
    rw [this]
theorem ask_2 : ∀ (t : List Ru) (q : Int), 0 < q → askL 2 q t = (t.all ruleB && t.all zB)
  | [], q, _ => rfl
  | r :: t, q, hq => by
    rw [askL, ask_2 t _ (by omega), List.all_cons, List.all_cons]
    have q0 : (q = 0) = False := fa (by omega)
    have : askB 2 q r = (ruleB r && zB r) := by
      obtain ⟨n, s, b, ⟨⟩⟩ := r
      by_cases h1 : n = 0 <;> simp [askB, ruleB, zB, h1, q0]
    rw [this]
    cases ruleB r <;> cases zB r <;> simp
theorem ask_3 (k : Int) (hk : 2 < k) : ∀ (t : List Ru) (q : Int), 0 < q → askL k q t = t.all ruleB
  | [], q, _ => rfl
  | r :: t, q, hq => by
    rw [askL, ask_3 k hk t _ (by omega), List.all_cons]
    have q0 : (q = 0) = False := fa (by omega)
    have k0 : (k = 0) = False := fa (by omega)
    have k2 : (k = 2) = False := fa (by omega)
    have : askB k q r = ruleB r := by
      obtain ⟨n, s, b, ⟨⟩⟩ := r
      simp [askB, ruleB, q0, k0, k2]
    rw [this]
theorem ask_2h (r : Ru) (t : List Ru) : askL 2 0 (r :: t) = (ruleB r && t.all ruleB && (zB r && t.all zB) && noneOk r) := by
  rw [askL, ask_2 t _ (by omega)]
  have : askB 2 0 r = (ruleB r && zB r && noneOk r) := by
    obtain ⟨n, s, b, ⟨⟩⟩ := r
    by_cases h1 : n = 0 <;> cases b <;> simp [askB, ruleB, zB, noneOk, h1]
  rw [this]
  cases ruleB r <;> cases zB r <;> cases noneOk r <;> simp
theorem ask_3h (k : Int) (hk : 2 < k) (r : Ru) (t : List Ru) : askL k 0 (r :: t) = (ruleB r && t.all ruleB && noneOk r) := by
  rw [askL, ask_3 k hk t _ (by omega)]
  have k0 : (k = 0) = False := fa (by omega)
  have k2 : (k = 2) = False := fa (by omega)
  have kg : (2 ≤ k) = True := tr (by omega)
  have : askB k 0 r = (ruleB r && noneOk r) := by
    obtain ⟨n, s, b, ⟨⟩⟩ := r
    by_cases h1 : n = 0 <;> cases b <;> simp [askB, ruleB, noneOk, h1, k0, k2, kg]
  rw [this]
  cases ruleB r <;> cases noneOk r <;> simp
theorem held_split : ∀ (a c : List Ru), a.length = c.length → heldOk a c = (a.all nzB && c.all zB)
  | [], [], _ => rfl
  | [], _ :: _, h => by simp at h
  | _ :: _, [], h => by simp at h
  | r :: a, s :: c, h => by
    rw [heldOk, held_split a c (by simpa using h), List.all_cons, List.all_cons]
    have e : (decide (r.1 ≠ 0) && decide (r.2.1 ≠ 0) && decide (s.1 = 0) && (a.all nzB && c.all zB)) = (nzB r && zB s && (a.all nzB && c.all zB)) := rfl
    rw [e]
    cases nzB r <;> cases zB s <;> cases a.all nzB <;> rfl
theorem prot_eq (a b c d e : List Ru) : tabsL 0 [a, b, c, d, e] = protB a b c d e := by
  have hs : tabsL 0 [a, b, c, d, e] = (decide (a.length = 4) && askL 0 0 a && (decide (b.length = 4) && askL 1 0 b && (decide (c.length = 4) && askL 2 0 c && (decide (d.length = 4) && askL 3 0 d && (decide (e.length = 4) && askL 4 0 e && true))))) := rfl
  rw [hs]
  by_cases ha : a.length = 4
  case neg => simp [protB, tabOk, ha]
  by_cases hb : b.length = 4
  case neg => simp [protB, tabOk, hb]
  by_cases hc : c.length = 4
  case neg => simp [protB, tabOk, hc]
  by_cases hd : d.length = 4
  case neg => simp [protB, tabOk, hd]
  by_cases he : e.length = 4
  case neg => simp [protB, tabOk, he]
  match c, d, e, hc, hd, he with
  | c0 :: c, d0 :: d, e0 :: e, hc, hd, he =>
    have h1 := held_split a (c0 :: c) (by omega)
    have h2 : protB a b (c0 :: c) (d0 :: d) (e0 :: e) = ([a, b, c0 :: c, d0 :: d, e0 :: e].all tabOk && (noneOk d0 && noneOk e0 && noneOk c0) && heldOk a (c0 :: c)) := rfl
    rw [h2, h1, ask_0, ask_1, ask_2h, ask_3h 3 (by omega), ask_3h 4 (by omega), decide_eq_true ha, decide_eq_true hb, decide_eq_true hc, decide_eq_true hd, decide_eq_true he]
    simp only [List.all_cons, List.all_nil, tabOk, decide_eq_true ha, decide_eq_true hb, decide_eq_true hc, decide_eq_true hd, decide_eq_true he, Bool.true_and, Bool.and_true]
    generalize a.all ruleB = x1
    generalize a.all nzB = x2
    generalize b.all ruleB = x3
    generalize (ruleB c0 && c.all ruleB) = x4
    generalize (zB c0 && c.all zB) = x5
    generalize (ruleB d0 && d.all ruleB) = x6
    generalize (ruleB e0 && e.all ruleB) = x7
    generalize noneOk c0 = x8
    generalize noneOk d0 = x9
    generalize noneOk e0 = x10
    cases x1 <;> cases x2 <;> cases x3 <;> cases x4 <;> cases x5 <;> simp [Bool.and_comm, Bool.and_left_comm, Bool.and_assoc]
theorem call_si (a b c d e : List Ru) : callOf pr 68 [pR a b c d e] [] = some (B (protB a b c d e), []) := by
  rw [call_si0, prot_eq]
end Go.Proofs.Ythmnlokdikomkaa.PI
