/- Runs of moves. -/
import Derived.Test.YthhankjdpbbncaaH2
namespace Go.Proofs.Ythhankjdpbbncaa.PI
open Go Go.Q
set_option maxRecDepth 100000
set_option maxHeartbeats 4000000
set_option linter.unusedSimpArgs false
set_option linter.unusedVariables false

abbrev Mv : Type := Int × Int × Unit
abbrev LM (ms : List Mv) : AV := .d (.slice tyM) ms
def isTr (k : Int) : Bool := decide (k = 0) || decide (k = 1)
/-- Moves, one after another. -/
def runM (xs : List (List Int)) (P : Int) : Nat → Nat → Nat → List Mv → Option (Nat × Nat × Nat)
  | f, s, t, [] => some (f, s, t)
  | f, s, t, m :: ms => match mv xs P f s m.1 m.2.1 with
    | none => none
    | some r => runM xs P r.1 r.2 (if isTr m.1 = true then t + 1 else t) ms
theorem runM_lt {xs : List (List Int)} {P : Int} (hx : xs.length ≤ 6) : ∀ (ms : List Mv) {f s t : Nat}, f < 64 → s < 64 → ∀ {r}, runM xs P f s t ms = some r → r.1 < 64 ∧ r.2.1 < 64 ∧ r.2.2 ≤ t + ms.length
  | [], f, s, t, hf, hs, r, h => by cases h; exact ⟨hf, hs, Nat.le_refl _⟩
  | m :: ms, f, s, t, hf, hs, r, h => by
    simp only [runM] at h
    split at h
    · cases h
    · rename_i q hq
      obtain ⟨h1, h2⟩ := mv_lt hx hf hs hq
      obtain ⟨h3, h4, h5⟩ := runM_lt hx ms h1 h2 h
      refine ⟨h3, h4, ?_⟩
      rw [List.length_cons]
      split at h5 <;> omega
structure GOK (xs : List (List Int)) : Prop where
  len : xs.length ≤ 6
  vals : ∀ l ∈ xs, ∀ x ∈ l, 0 ≤ x ∧ x < 6
  lens : ∀ l ∈ xs, l.length < 1000000000000000000

theorem sruns (xs : List (List Int)) (P : Int) (hG : GOK xs) : ∀ (suf pre : List Mv) (f s t : Nat), f < 64 → s < 64 → pre.length + suf.length < 1000000000000 → t ≤ pre.length →
    loopOf pr 71 0 ⟨[(0, .rp [LL xs]), (1, I P), (2, LM (pre ++ suf)), (10, I f), (11, I s), (12, I t), (13, I pre.length)], []⟩ =
      match runM xs P f s t suf with
      | some r => some (.exit 0, ⟨[(0, .rp [LL xs]), (1, I P), (2, LM (pre ++ suf)), (10, I r.1), (11, I r.2.1), (12, I r.2.2), (13, I ((pre.length + suf.length : Nat) : Int))], []⟩)
      | none => some (.ret, ⟨[(6, I 0), (7, I 0), (8, I 0), (9, B false)], []⟩)
  | [], pre, f, s, t, hf, hs, hb, ht => by
    simp only [runM]
    rw [loop_eq pr 71 0 _ Try.f71 fn_71 _ rfl _ ann_71 _ rfl]
    simp -implicitDefEqProofs only [Int.lt_irrefl, List.append_nil, Nat.add_zero, go_sem, Nat.reduceAdd, Nat.reduceSub, Nat.reduceMul, Nat.reduceMod, Nat.reduceLT, Nat.reduceLeDiff, Nat.reduceEqDiff, Nat.reduceBEq, Nat.reduceDiv, Int.reduceLT, Int.reduceLE, Int.reduceToNat, Int.reduceNeg, Int.reduceEq, ↓reduceIte, reduceCtorEq, ↓reduceDIte, Bool.false_eq_true, Bool.true_eq_false, ne_eq, not_true_eq_false, not_false_eq_true, Bool.true_or, Bool.false_or, Bool.or_true, Bool.or_false, Bool.true_and, Bool.false_and, Bool.and_true, Bool.and_false, Bool.not_true, Bool.not_false, Bool.not_eq_false', Bool.not_eq_true', and_true, true_and, and_false, false_and, or_true, true_or, or_false, false_or, and_self, or_self, decide_eq_true_eq, decide_true, decide_false, decide_eq_false_iff_not, ite_not, if_true, if_false, eq_self]
  | (kind, node, ()) :: suf, pre, f, s, t, hf, hs, hb, ht => by
    simp only [List.length_cons] at hb
    obtain ⟨a, b, h1, h2⟩ := smove xs P f s hG.len hf hs kind node hG.vals hG.lens
    have hn : IntKind.i64.wrap ((pre.length : Int) + 1) = ((pre.length + 1 : Nat) : Int) := by rw [wrap_i] <;> omega
    have ht1 : IntKind.i64.wrap ((t : Int) + 1) = ((t + 1 : Nat) : Int) := by rw [wrap_i] <;> omega
    rw [loop_eq pr 71 0 _ Try.f71 fn_71 _ rfl _ ann_71 _ rfl]
    simp only [runM]
    cases hm : mv xs P f s kind node with
    | none =>
      rw [hm] at h1
      simp -implicitDefEqProofs only [getD_app, lt_app, ltn_app, zero_le_cast, Int.toNat_natCast, h1, Option.isSome_none, go_sem, Nat.reduceAdd, Nat.reduceSub, Nat.reduceMul, Nat.reduceMod, Nat.reduceLT, Nat.reduceLeDiff, Nat.reduceEqDiff, Nat.reduceBEq, Nat.reduceDiv, Int.reduceLT, Int.reduceLE, Int.reduceToNat, Int.reduceNeg, Int.reduceEq, ↓reduceIte, reduceCtorEq, ↓reduceDIte, Bool.false_eq_true, Bool.true_eq_false, ne_eq, not_true_eq_false, not_false_eq_true, Bool.true_or, Bool.false_or, Bool.or_true, Bool.or_false, Bool.true_and, Bool.false_and, Bool.and_true, Bool.and_false, Bool.not_true, Bool.not_false, Bool.not_eq_false', Bool.not_eq_true', and_true, true_and, and_false, false_and, or_true, true_or, or_false, false_or, and_self, or_self, decide_eq_true_eq, decide_true, decide_false, decide_eq_false_iff_not, ite_not, if_true, if_false, eq_self]
    | some r =>
      rw [hm] at h1 h2
      obtain ⟨rfl, rfl⟩ := h2 r rfl
      obtain ⟨q1, q2⟩ := mv_lt hG.len hf hs hm
      have ih := sruns xs P hG suf (pre ++ [(kind, node, ())]) r.1 r.2 (if isTr kind = true then t + 1 else t) q1 q2 (by simp only [List.length_append, List.length_cons, List.length_nil]; omega) (by simp only [List.length_append, List.length_cons, List.length_nil]; split <;> omega)
      have e1 : (pre ++ [(kind, node, ())]).length = pre.length + 1 := by simp
      have e2 : pre.length + 1 + suf.length = pre.length + ((kind, node, ()) :: suf).length := by simp; omega
      rw [app_one, e1, e2] at ih
      by_cases k0 : kind = 0
      · have hi : isTr kind = true := by simp [isTr, k0]
        rw [if_pos hi] at ih
        simp only
        rw [if_pos hi]
        simp -implicitDefEqProofs only [getD_app, lt_app, ltn_app, zero_le_cast, Int.toNat_natCast, h1, Option.isSome_some, tr k0, hn, ht1, go_sem, Nat.reduceAdd, Nat.reduceSub, Nat.reduceMul, Nat.reduceMod, Nat.reduceLT, Nat.reduceLeDiff, Nat.reduceEqDiff, Nat.reduceBEq, Nat.reduceDiv, Int.reduceLT, Int.reduceLE, Int.reduceToNat, Int.reduceNeg, Int.reduceEq, ↓reduceIte, reduceCtorEq, ↓reduceDIte, Bool.false_eq_true, Bool.true_eq_false, ne_eq, not_true_eq_false, not_false_eq_true, Bool.true_or, Bool.false_or, Bool.or_true, Bool.or_false, Bool.true_and, Bool.false_and, Bool.and_true, Bool.and_false, Bool.not_true, Bool.not_false, Bool.not_eq_false', Bool.not_eq_true', and_true, true_and, and_false, false_and, or_true, true_or, or_false, false_or, and_self, or_self, decide_eq_true_eq, decide_true, decide_false, decide_eq_false_iff_not, ite_not, if_true, if_false, eq_self]
        exact ih
      · by_cases k1 : kind = 1
        · have hi : isTr kind = true := by simp [isTr, k1]
          rw [if_pos hi] at ih
          simp only
          rw [if_pos hi]
          simp -implicitDefEqProofs only [getD_app, lt_app, ltn_app, zero_le_cast, Int.toNat_natCast, h1, Option.isSome_some, fa k0, tr k1, hn, ht1, go_sem, Nat.reduceAdd, Nat.reduceSub, Nat.reduceMul, Nat.reduceMod, Nat.reduceLT, Nat.reduceLeDiff, Nat.reduceEqDiff, Nat.reduceBEq, Nat.reduceDiv, Int.reduceLT, Int.reduceLE, Int.reduceToNat, Int.reduceNeg, Int.reduceEq, ↓reduceIte, reduceCtorEq, ↓reduceDIte, Bool.false_eq_true, Bool.true_eq_false, ne_eq, not_true_eq_false, not_false_eq_true, Bool.true_or, Bool.false_or, Bool.or_true, Bool.or_false, Bool.true_and, Bool.false_and, Bool.and_true, Bool.and_false, Bool.not_true, Bool.not_false, Bool.not_eq_false', Bool.not_eq_true', and_true, true_and, and_false, false_and, or_true, true_or, or_false, false_or, and_self, or_self, decide_eq_true_eq, decide_true, decide_false, decide_eq_false_iff_not, ite_not, if_true, if_false, eq_self]
          exact ih
        · have hi : ¬ isTr kind = true := by simp [isTr, k0, k1]
          rw [if_neg hi] at ih
          simp only
          rw [if_neg hi]
          simp -implicitDefEqProofs only [getD_app, lt_app, ltn_app, zero_le_cast, Int.toNat_natCast, h1, Option.isSome_some, fa k0, fa k1, hn, ht1, go_sem, Nat.reduceAdd, Nat.reduceSub, Nat.reduceMul, Nat.reduceMod, Nat.reduceLT, Nat.reduceLeDiff, Nat.reduceEqDiff, Nat.reduceBEq, Nat.reduceDiv, Int.reduceLT, Int.reduceLE, Int.reduceToNat, Int.reduceNeg, Int.reduceEq, ↓reduceIte, reduceCtorEq, ↓reduceDIte, Bool.false_eq_true, Bool.true_eq_false, ne_eq, not_true_eq_false, not_false_eq_true, Bool.true_or, Bool.false_or, Bool.or_true, Bool.or_false, Bool.true_and, Bool.false_and, Bool.and_true, Bool.and_false, Bool.not_true, Bool.not_false, Bool.not_eq_false', Bool.not_eq_true', and_true, true_and, and_false, false_and, or_true, true_or, or_false, false_or, and_self, or_self, decide_eq_true_eq, decide_true, decide_false, decide_eq_false_iff_not, ite_not, if_true, if_false, eq_self]
          exact ih
/-- The values at first. -/
def slow0 (xs : List (List Int)) : Nat := maskB (isSrc xs) xs.length
theorem slow0_lt {xs : List (List Int)} (hx : xs.length ≤ 6) : slow0 xs < 64 := mask_six hx
theorem srun (xs : List (List Int)) (P : Int) (hG : GOK xs) (ms : List Mv) (hb : ms.length < 1000000000000) :
    callOf pr 71 [.rp [LL xs], I P, LM ms] [] = some (match runM xs P 0 (slow0 xs) 0 ms with
      | some r => .tuple [I r.1, I r.2.1, I r.2.2, B true]
      | none => .tuple [I 0, I 0, I 0, B false], []) := by
  have h := sruns xs P hG ms [] 0 (slow0 xs) 0 (by omega) (slow0_lt hG.len) (by simp; omega) (by simp)
  have h : loopOf pr 71 0 ⟨[(0, .rp [LL xs]), (1, I P), (2, LM ms), (10, I 0), (11, I (slow0 xs)), (12, I 0), (13, I 0)], []⟩ = _ := h
  have h80 : callOf pr 80 [.rp [LL xs]] [] = some (I (slow0 xs), []) := call_80 xs hG.len
  rw [call_eq pr 71 _ _ Try.f71 fn_71 _ rfl _ ann_71 rfl]
  cases hr : runM xs P 0 (slow0 xs) 0 ms with
  | none =>
    rw [hr] at h
    simp -implicitDefEqProofs only [h80, h, go_sem, Nat.reduceAdd, Nat.reduceSub, Nat.reduceMul, Nat.reduceMod, Nat.reduceLT, Nat.reduceLeDiff, Nat.reduceEqDiff, Nat.reduceBEq, Nat.reduceDiv, Int.reduceLT, Int.reduceLE, Int.reduceToNat, Int.reduceNeg, Int.reduceEq, ↓reduceIte, reduceCtorEq, ↓reduceDIte, Bool.false_eq_true, Bool.true_eq_false, ne_eq, not_true_eq_false, not_false_eq_true, Bool.true_or, Bool.false_or, Bool.or_true, Bool.or_false, Bool.true_and, Bool.false_and, Bool.and_true, Bool.and_false, Bool.not_true, Bool.not_false, Bool.not_eq_false', Bool.not_eq_true', and_true, true_and, and_false, false_and, or_true, true_or, or_false, false_or, and_self, or_self, decide_eq_true_eq, decide_true, decide_false, decide_eq_false_iff_not, ite_not, if_true, if_false, eq_self]
  | some r =>
    rw [hr] at h
    simp -implicitDefEqProofs only [h80, h, go_sem, Nat.reduceAdd, Nat.reduceSub, Nat.reduceMul, Nat.reduceMod, Nat.reduceLT, Nat.reduceLeDiff, Nat.reduceEqDiff, Nat.reduceBEq, Nat.reduceDiv, Int.reduceLT, Int.reduceLE, Int.reduceToNat, Int.reduceNeg, Int.reduceEq, ↓reduceIte, reduceCtorEq, ↓reduceDIte, Bool.false_eq_true, Bool.true_eq_false, ne_eq, not_true_eq_false, not_false_eq_true, Bool.true_or, Bool.false_or, Bool.or_true, Bool.or_false, Bool.true_and, Bool.false_and, Bool.and_true, Bool.and_false, Bool.not_true, Bool.not_false, Bool.not_eq_false', Bool.not_eq_true', and_true, true_and, and_false, false_and, or_true, true_or, or_false, false_or, and_self, or_self, decide_eq_true_eq, decide_true, decide_false, decide_eq_false_iff_not, ite_not, if_true, if_false, eq_self]

theorem call_tr (kind node : Int) : callOf pr 113 [.agg [I kind, I node]] [] = some (B (isTr kind), []) := by
  rw [call_eq pr 113 _ _ Try.f113 fn_113 _ rfl _ ann_113 rfl]
  by_cases k0 : kind = 0
  · have hi : isTr kind = true := by simp [isTr, k0]
    simp -implicitDefEqProofs only [tr k0, hi, go_sem, Nat.reduceAdd, Nat.reduceSub, Nat.reduceMul, Nat.reduceMod, Nat.reduceLT, Nat.reduceLeDiff, Nat.reduceEqDiff, Nat.reduceBEq, Nat.reduceDiv, Int.reduceLT, Int.reduceLE, Int.reduceToNat, Int.reduceNeg, Int.reduceEq, ↓reduceIte, reduceCtorEq, ↓reduceDIte, Bool.false_eq_true, Bool.true_eq_false, ne_eq, not_true_eq_false, not_false_eq_true, Bool.true_or, Bool.false_or, Bool.or_true, Bool.or_false, Bool.true_and, Bool.false_and, Bool.and_true, Bool.and_false, Bool.not_true, Bool.not_false, Bool.not_eq_false', Bool.not_eq_true', and_true, true_and, and_false, false_and, or_true, true_or, or_false, false_or, and_self, or_self, decide_eq_true_eq, decide_true, decide_false, decide_eq_false_iff_not, ite_not, if_true, if_false, eq_self]
  · by_cases k1 : kind = 1
    · have hi : isTr kind = true := by simp [isTr, k1]
      simp -implicitDefEqProofs only [fa k0, tr k1, hi, go_sem, Nat.reduceAdd, Nat.reduceSub, Nat.reduceMul, Nat.reduceMod, Nat.reduceLT, Nat.reduceLeDiff, Nat.reduceEqDiff, Nat.reduceBEq, Nat.reduceDiv, Int.reduceLT, Int.reduceLE, Int.reduceToNat, Int.reduceNeg, Int.reduceEq, ↓reduceIte, reduceCtorEq, ↓reduceDIte, Bool.false_eq_true, Bool.true_eq_false, ne_eq, not_true_eq_false, not_false_eq_true, Bool.true_or, Bool.false_or, Bool.or_true, Bool.or_false, Bool.true_and, Bool.false_and, Bool.and_true, Bool.and_false, Bool.not_true, Bool.not_false, Bool.not_eq_false', Bool.not_eq_true', and_true, true_and, and_false, false_and, or_true, true_or, or_false, false_or, and_self, or_self, decide_eq_true_eq, decide_true, decide_false, decide_eq_false_iff_not, ite_not, if_true, if_false, eq_self]
    · have hi : isTr kind = false := by simp [isTr, k0, k1]
      simp -implicitDefEqProofs only [fa k0, fa k1, hi, go_sem, Nat.reduceAdd, Nat.reduceSub, Nat.reduceMul, Nat.reduceMod, Nat.reduceLT, Nat.reduceLeDiff, Nat.reduceEqDiff, Nat.reduceBEq, Nat.reduceDiv, Int.reduceLT, Int.reduceLE, Int.reduceToNat, Int.reduceNeg, Int.reduceEq, ↓reduceIte, reduceCtorEq, ↓reduceDIte, Bool.false_eq_true, Bool.true_eq_false, ne_eq, not_true_eq_false, not_false_eq_true, Bool.true_or, Bool.false_or, Bool.or_true, Bool.or_false, Bool.true_and, Bool.false_and, Bool.and_true, Bool.and_false, Bool.not_true, Bool.not_false, Bool.not_eq_false', Bool.not_eq_true', and_true, true_and, and_false, false_and, or_true, true_or, or_false, false_or, and_self, or_self, decide_eq_true_eq, decide_true, decide_false, decide_eq_false_iff_not, ite_not, if_true, if_false, eq_self]
theorem iruns (xs : List (List Int)) (P : Int) (hG : GOK xs) : ∀ (suf pre : List Mv) (f s t : Nat), f < 64 → s < 64 → pre.length + suf.length < 1000000000000 → t ≤ pre.length →
    (∀ r, runM xs P f s t suf = some r → loopOf pr 74 0 ⟨[(1, I P), (3, .op 192 0), (6, .op 384 0), (9, .op 576 0), (10, I t), (27, LM (pre ++ suf)), (28, I ((pre.length + suf.length : Nat) : Int)), (29, I pre.length)], [(192, .box [LL xs]), (384, .box [I 0, I 0]), (576, .box [I f, I s])]⟩ =
      some (.exit 0, ⟨[(1, I P), (3, .op 192 0), (6, .op 384 0), (9, .op 576 0), (10, I r.2.2), (27, LM (pre ++ suf)), (28, I ((pre.length + suf.length : Nat) : Int)), (29, I ((pre.length + suf.length : Nat) : Int))], [(192, .box [LL xs]), (384, .box [I 0, I 0]), (576, .box [I r.1, I r.2.1])]⟩)) ∧
    (runM xs P f s t suf = none → ∃ a1 a2 a3 a4 a5 a6 : Int, loopOf pr 74 0 ⟨[(1, I P), (3, .op 192 0), (6, .op 384 0), (9, .op 576 0), (10, I t), (27, LM (pre ++ suf)), (28, I ((pre.length + suf.length : Nat) : Int)), (29, I pre.length)], [(192, .box [LL xs]), (384, .box [I 0, I 0]), (576, .box [I f, I s])]⟩ =
      some (.ret, ⟨[(6, .op 384 0), (7, I 0), (8, B false)], [(192, .box [LL xs]), (384, .box [I 0, I 0]), (576, .box [I a1, I a2]), (768, .box [I a3, I a4]), (832, .box [I a5, I a6])]⟩))
  | [], pre, f, s, t, hf, hs, hb, ht => by
    refine ⟨fun r hr => ?_, fun h => by cases h⟩
    simp only [runM, Option.some.injEq] at hr
    subst hr
    rw [loop_eq pr 74 0 _ Try.f74 fn_74 _ rfl _ ann_74 _ rfl]
    simp -implicitDefEqProofs only [Int.lt_irrefl, List.append_nil, Nat.add_zero, go_sem, Nat.reduceAdd, Nat.reduceSub, Nat.reduceMul, Nat.reduceMod, Nat.reduceLT, Nat.reduceLeDiff, Nat.reduceEqDiff, Nat.reduceBEq, Nat.reduceDiv, Int.reduceLT, Int.reduceLE, Int.reduceToNat, Int.reduceNeg, Int.reduceEq, ↓reduceIte, reduceCtorEq, ↓reduceDIte, Bool.false_eq_true, Bool.true_eq_false, ne_eq, not_true_eq_false, not_false_eq_true, Bool.true_or, Bool.false_or, Bool.or_true, Bool.or_false, Bool.true_and, Bool.false_and, Bool.and_true, Bool.and_false, Bool.not_true, Bool.not_false, Bool.not_eq_false', Bool.not_eq_true', and_true, true_and, and_false, false_and, or_true, true_or, or_false, false_or, and_self, or_self, decide_eq_true_eq, decide_true, decide_false, decide_eq_false_iff_not, ite_not, if_true, if_false, eq_self]
  | (kind, node, ()) :: suf, pre, f, s, t, hf, hs, hb, ht => by
    simp only [List.length_cons] at hb
    obtain ⟨a, b, h1, h2⟩ := imove xs P f s hG.len hf hs kind node hG.vals hG.lens
    have hn : IntKind.i64.wrap ((pre.length : Int) + 1) = ((pre.length + 1 : Nat) : Int) := by rw [wrap_i] <;> omega
    have ht1 : IntKind.i64.wrap ((t : Int) + 1) = ((t + 1 : Nat) : Int) := by rw [wrap_i] <;> omega
    have hlt : ((pre.length : Int) < ((pre.length + (suf.length + 1) : Nat) : Int)) = True := by simp; omega
    rw [loop_eq pr 74 0 _ Try.f74 fn_74 _ rfl _ ann_74 _ rfl]
    simp only [runM]
    cases hm : mv xs P f s kind node with
    | none =>
      rw [hm] at h1
      refine ⟨fun r h => (by cases h), fun _ => ⟨f, s, kind, node, a, b, ?_⟩⟩
      simp -implicitDefEqProofs only [hlt, getD_app, lt_app, ltn_app, zero_le_cast, Int.toNat_natCast, h1, Option.isSome_none, go_sem, Nat.reduceAdd, Nat.reduceSub, Nat.reduceMul, Nat.reduceMod, Nat.reduceLT, Nat.reduceLeDiff, Nat.reduceEqDiff, Nat.reduceBEq, Nat.reduceDiv, Int.reduceLT, Int.reduceLE, Int.reduceToNat, Int.reduceNeg, Int.reduceEq, ↓reduceIte, reduceCtorEq, ↓reduceDIte, Bool.false_eq_true, Bool.true_eq_false, ne_eq, not_true_eq_false, not_false_eq_true, Bool.true_or, Bool.false_or, Bool.or_true, Bool.or_false, Bool.true_and, Bool.false_and, Bool.and_true, Bool.and_false, Bool.not_true, Bool.not_false, Bool.not_eq_false', Bool.not_eq_true', and_true, true_and, and_false, false_and, or_true, true_or, or_false, false_or, and_self, or_self, decide_eq_true_eq, decide_true, decide_false, decide_eq_false_iff_not, ite_not, if_true, if_false, eq_self]
    | some r =>
      rw [hm] at h1 h2
      obtain ⟨rfl, rfl⟩ := h2 r rfl
      obtain ⟨q1, q2⟩ := mv_lt hG.len hf hs hm
      have ih := iruns xs P hG suf (pre ++ [(kind, node, ())]) r.1 r.2 (if isTr kind = true then t + 1 else t) q1 q2 (by simp only [List.length_append, List.length_cons, List.length_nil]; omega) (by simp only [List.length_append, List.length_cons, List.length_nil]; split <;> omega)
      have e1 : (pre ++ [(kind, node, ())]).length = pre.length + 1 := by simp
      have e2 : pre.length + 1 + suf.length = pre.length + (suf.length + 1) := by omega
      rw [app_one, e1, e2] at ih
      have hc := call_tr kind node
      cases hi : isTr kind with
      | true =>
        rw [hi] at ih hc
        simp only [if_true] at ih
        simp only [if_true]
        simp -implicitDefEqProofs only [hlt, getD_app, lt_app, ltn_app, zero_le_cast, Int.toNat_natCast, h1, Option.isSome_some, hc, hn, ht1, go_sem, Nat.reduceAdd, Nat.reduceSub, Nat.reduceMul, Nat.reduceMod, Nat.reduceLT, Nat.reduceLeDiff, Nat.reduceEqDiff, Nat.reduceBEq, Nat.reduceDiv, Int.reduceLT, Int.reduceLE, Int.reduceToNat, Int.reduceNeg, Int.reduceEq, ↓reduceIte, reduceCtorEq, ↓reduceDIte, Bool.false_eq_true, Bool.true_eq_false, ne_eq, not_true_eq_false, not_false_eq_true, Bool.true_or, Bool.false_or, Bool.or_true, Bool.or_false, Bool.true_and, Bool.false_and, Bool.and_true, Bool.and_false, Bool.not_true, Bool.not_false, Bool.not_eq_false', Bool.not_eq_true', and_true, true_and, and_false, false_and, or_true, true_or, or_false, false_or, and_self, or_self, decide_eq_true_eq, decide_true, decide_false, decide_eq_false_iff_not, ite_not, if_true, if_false, eq_self]
        exact ih
      | false =>
        rw [hi] at ih hc
        simp only [Bool.false_eq_true, if_false] at ih
        simp only [Bool.false_eq_true, if_false]
        simp -implicitDefEqProofs only [hlt, getD_app, lt_app, ltn_app, zero_le_cast, Int.toNat_natCast, h1, Option.isSome_some, hc, hn, ht1, go_sem, Nat.reduceAdd, Nat.reduceSub, Nat.reduceMul, Nat.reduceMod, Nat.reduceLT, Nat.reduceLeDiff, Nat.reduceEqDiff, Nat.reduceBEq, Nat.reduceDiv, Int.reduceLT, Int.reduceLE, Int.reduceToNat, Int.reduceNeg, Int.reduceEq, ↓reduceIte, reduceCtorEq, ↓reduceDIte, Bool.false_eq_true, Bool.true_eq_false, ne_eq, not_true_eq_false, not_false_eq_true, Bool.true_or, Bool.false_or, Bool.or_true, Bool.or_false, Bool.true_and, Bool.false_and, Bool.and_true, Bool.and_false, Bool.not_true, Bool.not_false, Bool.not_eq_false', Bool.not_eq_true', and_true, true_and, and_false, false_and, or_true, true_or, or_false, false_or, and_self, or_self, decide_eq_true_eq, decide_true, decide_false, decide_eq_false_iff_not, ite_not, if_true, if_false, eq_self]
        exact ih
/-- Places, and a graph that is valid. -/
def okP (xs : List (List Int)) (P : Int) : Bool := specValid xs && decide (1 ≤ P ∧ P ≤ 6)
theorem call_isPlaces (xs : List (List Int)) (P : Int) (hb : xs.length < 1000000000000000000) (hc : ∀ l ∈ xs, l.length < 1000000000000000000) : callOf pr 94 [.agg [LL xs], I P] [] = some (B (okP xs P), []) := by
  have h := call_59 xs hb hc
  rw [← valid_eq] at h
  rw [call_eq pr 94 _ _ Try.f94 fn_94 _ rfl _ ann_94 rfl]
  cases hv : specValid xs with
  | false =>
    rw [hv] at h
    have hk : okP xs P = false := by simp [okP, hv]
    simp -implicitDefEqProofs only [h, hk, go_sem, Nat.reduceAdd, Nat.reduceSub, Nat.reduceMul, Nat.reduceMod, Nat.reduceLT, Nat.reduceLeDiff, Nat.reduceEqDiff, Nat.reduceBEq, Nat.reduceDiv, Int.reduceLT, Int.reduceLE, Int.reduceToNat, Int.reduceNeg, Int.reduceEq, ↓reduceIte, reduceCtorEq, ↓reduceDIte, Bool.false_eq_true, Bool.true_eq_false, ne_eq, not_true_eq_false, not_false_eq_true, Bool.true_or, Bool.false_or, Bool.or_true, Bool.or_false, Bool.true_and, Bool.false_and, Bool.and_true, Bool.and_false, Bool.not_true, Bool.not_false, Bool.not_eq_false', Bool.not_eq_true', and_true, true_and, and_false, false_and, or_true, true_or, or_false, false_or, and_self, or_self, decide_eq_true_eq, decide_true, decide_false, decide_eq_false_iff_not, ite_not, if_true, if_false, eq_self]
  | true =>
    rw [hv] at h
    have hk : okP xs P = decide (1 ≤ P ∧ P ≤ 6) := by simp [okP, hv]
    simp -implicitDefEqProofs only [h, call_96, hk, go_sem, Nat.reduceAdd, Nat.reduceSub, Nat.reduceMul, Nat.reduceMod, Nat.reduceLT, Nat.reduceLeDiff, Nat.reduceEqDiff, Nat.reduceBEq, Nat.reduceDiv, Int.reduceLT, Int.reduceLE, Int.reduceToNat, Int.reduceNeg, Int.reduceEq, ↓reduceIte, reduceCtorEq, ↓reduceDIte, Bool.false_eq_true, Bool.true_eq_false, ne_eq, not_true_eq_false, not_false_eq_true, Bool.true_or, Bool.false_or, Bool.or_true, Bool.or_false, Bool.true_and, Bool.false_and, Bool.and_true, Bool.and_false, Bool.not_true, Bool.not_false, Bool.not_eq_false', Bool.not_eq_true', and_true, true_and, and_false, false_and, or_true, true_or, or_false, false_or, and_self, or_self, decide_eq_true_eq, decide_true, decide_false, decide_eq_false_iff_not, ite_not, if_true, if_false, eq_self]
theorem call_first (xs : List (List Int)) (hx : xs.length ≤ 6) (h0 : 0 < xs.length) : callOf pr 81 [.agg [LL xs]] [] = some (.agg [I 0, I (slow0 xs)], []) := by
  have h1 := call_60 xs (by omega) h0
  have h2 : callOf pr 62 [L (those (isSrc xs) xs.length)] [] = some (I (slow0 xs), []) := call_62 (isSrc xs) xs.length hx
  rw [call_eq pr 81 _ _ Try.f81 fn_81 _ rfl _ ann_81 rfl]
  simp -implicitDefEqProofs only [h1, h2, go_sem, Nat.reduceAdd, Nat.reduceSub, Nat.reduceMul, Nat.reduceMod, Nat.reduceLT, Nat.reduceLeDiff, Nat.reduceEqDiff, Nat.reduceBEq, Nat.reduceDiv, Int.reduceLT, Int.reduceLE, Int.reduceToNat, Int.reduceNeg, Int.reduceEq, ↓reduceIte, reduceCtorEq, ↓reduceDIte, Bool.false_eq_true, Bool.true_eq_false, ne_eq, not_true_eq_false, not_false_eq_true, Bool.true_or, Bool.false_or, Bool.or_true, Bool.or_false, Bool.true_and, Bool.false_and, Bool.and_true, Bool.and_false, Bool.not_true, Bool.not_false, Bool.not_eq_false', Bool.not_eq_true', and_true, true_and, and_false, false_and, or_true, true_or, or_false, false_or, and_self, or_self, decide_eq_true_eq, decide_true, decide_false, decide_eq_false_iff_not, ite_not, if_true, if_false, eq_self]
theorem okP_GOK {xs : List (List Int)} {P : Int} (h : okP xs P = true) (hc : ∀ l ∈ xs, l.length < 1000000000000000000) : GOK xs ∧ 0 < xs.length := by
  simp only [okP, Bool.and_eq_true] at h
  obtain ⟨h1, h2, h3⟩ := valid_bound h.1
  exact ⟨⟨h1, h3, hc⟩, h2⟩
theorem irun (xs : List (List Int)) (P : Int) (hb : xs.length < 1000000000000000000) (hc : ∀ l ∈ xs, l.length < 1000000000000000000) (ms : List Mv) (hl : ms.length < 1000000000000) :
    callOf pr 74 [.agg [LL xs], I P, LM ms] [] = some (match (if okP xs P = true ∧ ms.length ≤ 60 then runM xs P 0 (slow0 xs) 0 ms else none) with
      | some r => .tuple [.agg [I r.1, I r.2.1], I r.2.2, B true]
      | none => .tuple [.agg [I 0, I 0], I 0, B false], []) := by
  have hp := call_isPlaces xs P hb hc
  rw [call_eq pr 74 _ _ Try.f74 fn_74 _ rfl _ ann_74 rfl]
  cases hk : okP xs P with
  | false =>
    rw [hk] at hp
    rw [if_neg (by simp)]
    simp -implicitDefEqProofs only [hp, go_sem, Nat.reduceAdd, Nat.reduceSub, Nat.reduceMul, Nat.reduceMod, Nat.reduceLT, Nat.reduceLeDiff, Nat.reduceEqDiff, Nat.reduceBEq, Nat.reduceDiv, Int.reduceLT, Int.reduceLE, Int.reduceToNat, Int.reduceNeg, Int.reduceEq, ↓reduceIte, reduceCtorEq, ↓reduceDIte, Bool.false_eq_true, Bool.true_eq_false, ne_eq, not_true_eq_false, not_false_eq_true, Bool.true_or, Bool.false_or, Bool.or_true, Bool.or_false, Bool.true_and, Bool.false_and, Bool.and_true, Bool.and_false, Bool.not_true, Bool.not_false, Bool.not_eq_false', Bool.not_eq_true', and_true, true_and, and_false, false_and, or_true, true_or, or_false, false_or, and_self, or_self, decide_eq_true_eq, decide_true, decide_false, decide_eq_false_iff_not, ite_not, if_true, if_false, eq_self]
  | true =>
    rw [hk] at hp
    by_cases h60 : 60 < (ms.length : Int)
    · rw [if_neg (fun h => by omega)]
      simp -implicitDefEqProofs only [hp, tr h60, go_sem, Nat.reduceAdd, Nat.reduceSub, Nat.reduceMul, Nat.reduceMod, Nat.reduceLT, Nat.reduceLeDiff, Nat.reduceEqDiff, Nat.reduceBEq, Nat.reduceDiv, Int.reduceLT, Int.reduceLE, Int.reduceToNat, Int.reduceNeg, Int.reduceEq, ↓reduceIte, reduceCtorEq, ↓reduceDIte, Bool.false_eq_true, Bool.true_eq_false, ne_eq, not_true_eq_false, not_false_eq_true, Bool.true_or, Bool.false_or, Bool.or_true, Bool.or_false, Bool.true_and, Bool.false_and, Bool.and_true, Bool.and_false, Bool.not_true, Bool.not_false, Bool.not_eq_false', Bool.not_eq_true', and_true, true_and, and_false, false_and, or_true, true_or, or_false, false_or, and_self, or_self, decide_eq_true_eq, decide_true, decide_false, decide_eq_false_iff_not, ite_not, if_true, if_false, eq_self]
    · rw [if_pos ⟨rfl, by omega⟩]
      obtain ⟨hG, h0⟩ := okP_GOK hk hc
      have hf := call_first xs hG.len h0
      obtain ⟨i1, i2⟩ := iruns xs P hG ms [] 0 (slow0 xs) 0 (by omega) (slow0_lt hG.len) (by simp; omega) (by simp)
      simp only [List.nil_append, List.length_nil, Nat.zero_add] at i1 i2
      cases hr : runM xs P 0 (slow0 xs) 0 ms with
      | none =>
        obtain ⟨a1, a2, a3, a4, a5, a6, h⟩ := i2 hr
        have h : loopOf pr 74 0 ⟨[(1, I P), (3, .op 192 0), (6, .op 384 0), (9, .op 576 0), (10, I 0), (27, LM ms), (28, I ms.length), (29, I 0)], [(192, .box [LL xs]), (384, .box [I 0, I 0]), (576, .box [I 0, I (slow0 xs)])]⟩ = _ := h
        simp -implicitDefEqProofs only [hp, fa h60, hf, h, go_sem, Nat.reduceAdd, Nat.reduceSub, Nat.reduceMul, Nat.reduceMod, Nat.reduceLT, Nat.reduceLeDiff, Nat.reduceEqDiff, Nat.reduceBEq, Nat.reduceDiv, Int.reduceLT, Int.reduceLE, Int.reduceToNat, Int.reduceNeg, Int.reduceEq, ↓reduceIte, reduceCtorEq, ↓reduceDIte, Bool.false_eq_true, Bool.true_eq_false, ne_eq, not_true_eq_false, not_false_eq_true, Bool.true_or, Bool.false_or, Bool.or_true, Bool.or_false, Bool.true_and, Bool.false_and, Bool.and_true, Bool.and_false, Bool.not_true, Bool.not_false, Bool.not_eq_false', Bool.not_eq_true', and_true, true_and, and_false, false_and, or_true, true_or, or_false, false_or, and_self, or_self, decide_eq_true_eq, decide_true, decide_false, decide_eq_false_iff_not, ite_not, if_true, if_false, eq_self]
      | some r =>
        have h := i1 r hr
        have h : loopOf pr 74 0 ⟨[(1, I P), (3, .op 192 0), (6, .op 384 0), (9, .op 576 0), (10, I 0), (27, LM ms), (28, I ms.length), (29, I 0)], [(192, .box [LL xs]), (384, .box [I 0, I 0]), (576, .box [I 0, I (slow0 xs)])]⟩ = _ := h
        simp -implicitDefEqProofs only [hp, fa h60, hf, h, go_sem, Nat.reduceAdd, Nat.reduceSub, Nat.reduceMul, Nat.reduceMod, Nat.reduceLT, Nat.reduceLeDiff, Nat.reduceEqDiff, Nat.reduceBEq, Nat.reduceDiv, Int.reduceLT, Int.reduceLE, Int.reduceToNat, Int.reduceNeg, Int.reduceEq, ↓reduceIte, reduceCtorEq, ↓reduceDIte, Bool.false_eq_true, Bool.true_eq_false, ne_eq, not_true_eq_false, not_false_eq_true, Bool.true_or, Bool.false_or, Bool.or_true, Bool.or_false, Bool.true_and, Bool.false_and, Bool.and_true, Bool.and_false, Bool.not_true, Bool.not_false, Bool.not_eq_false', Bool.not_eq_true', and_true, true_and, and_false, false_and, or_true, true_or, or_false, false_or, and_self, or_self, decide_eq_true_eq, decide_true, decide_false, decide_eq_false_iff_not, ite_not, if_true, if_false, eq_self]
end Go.Proofs.Ythhankjdpbbncaa.PI
