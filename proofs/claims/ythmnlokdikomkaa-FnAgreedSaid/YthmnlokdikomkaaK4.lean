/- The functions of the rows: sizes, copies, comparisons, marks: printed by a program of the session. -/
import Derived.Test.YthmnlokdikomkaaGQStd
import Derived.Test.YthmnlokdikomkaaPIProg
import Derived.Test.YthmnlokdikomkaaGQBits
namespace Go.Proofs.Ythmnlokdikomkaa.PI
open Go Go.Q
set_option maxRecDepth 100000
set_option maxHeartbeats 4000000
set_option linter.unusedSimpArgs false
set_option linter.unusedVariables false

theorem call_iin (n lo hi : Int) : callOf pr 54 [I n, I lo, I hi] [] = some (B (decide (lo ≤ n ∧ n ≤ hi)), []) := by
  rw [call_eq pr 54 _ _ Try.f54 fn_54 _ rfl _ ann_54 rfl]
  by_cases h : lo ≤ n
  · simp -implicitDefEqProofs only [ge_iff_le, tr h, go_sem, Nat.reduceAdd, Nat.reduceSub, Nat.reduceMul, Nat.reduceMod, Nat.reduceLT, Nat.reduceLeDiff, Nat.reduceEqDiff, Nat.reduceBEq, Nat.reduceDiv, Int.reduceLT, Int.reduceLE, Int.reduceToNat, Int.reduceNeg, Int.reduceEq, ↓reduceIte, reduceCtorEq, ↓reduceDIte]
  · simp -implicitDefEqProofs only [ge_iff_le, fa h, go_sem, Nat.reduceAdd, Nat.reduceSub, Nat.reduceMul, Nat.reduceMod, Nat.reduceLT, Nat.reduceLeDiff, Nat.reduceEqDiff, Nat.reduceBEq, Nat.reduceDiv, Int.reduceLT, Int.reduceLE, Int.reduceToNat, Int.reduceNeg, Int.reduceEq, ↓reduceIte, reduceCtorEq, ↓reduceDIte]
abbrev Ru : Type := Int × Int × Bool × Unit
abbrev LR (t : List Ru) : AV := .d (.slice tyR) t
abbrev LB (t : List Bool) : AV := .d (.slice .bool) t
def copyB (n : Int) : Bool := decide (0 ≤ n ∧ n ≤ 3)
theorem call_icp (n : Int) : callOf pr 56 [I n] [] = some (B (copyB n), []) := by
  have h := call_iin n 0 3
  rw [call_eq pr 56 _ _ Try.f56 fn_56 _ rfl _ ann_56 rfl]
  simp -implicitDefEqProofs only [h, go_sem, Nat.reduceAdd, Nat.reduceSub, Nat.reduceMul, Nat.reduceMod, Nat.reduceLT, Nat.reduceLeDiff, Nat.reduceEqDiff, Nat.reduceBEq, Nat.reduceDiv, Int.reduceLT, Int.reduceLE, Int.reduceToNat, Int.reduceNeg, Int.reduceEq, ↓reduceIte, reduceCtorEq, ↓reduceDIte]
  rfl
/-- Are its copies such? -/
def ruleB (r : Ru) : Bool := copyB r.1 && copyB r.2.1
theorem call_v1 (n s : Int) (b : Bool) : callOf pr 59 [.agg [I n, I s, B b]] [] = some (B (!ruleB (n, s, b, ())), []) := by
  have h1 := call_icp n
  have h2 := call_icp s
  rw [call_eq pr 59 _ _ Try.f59 fn_59 _ rfl _ ann_59 rfl]
  cases hn : copyB n with
  | false =>
    rw [hn] at h1
    have : ruleB (n, s, b, ()) = false := by simp [ruleB, hn]
    rw [this]
    simp -implicitDefEqProofs only [h1, go_sem, Nat.reduceAdd, Nat.reduceSub, Nat.reduceMul, Nat.reduceMod, Nat.reduceLT, Nat.reduceLeDiff, Nat.reduceEqDiff, Nat.reduceBEq, Nat.reduceDiv, Int.reduceLT, Int.reduceLE, Int.reduceToNat, Int.reduceNeg, Int.reduceEq, ↓reduceIte, reduceCtorEq, ↓reduceDIte]
  | true =>
    rw [hn] at h1
    have : ruleB (n, s, b, ()) = copyB s := by simp [ruleB, hn]
    rw [this]
    simp -implicitDefEqProofs only [h1, h2, go_sem, Nat.reduceAdd, Nat.reduceSub, Nat.reduceMul, Nat.reduceMod, Nat.reduceLT, Nat.reduceLeDiff, Nat.reduceEqDiff, Nat.reduceBEq, Nat.reduceDiv, Int.reduceLT, Int.reduceLE, Int.reduceToNat, Int.reduceNeg, Int.reduceEq, ↓reduceIte, reduceCtorEq, ↓reduceDIte]
theorem loop_ixr : ∀ (suf pre : List Ru), pre.length + suf.length < 2000000 →
    loopOf pr 101 0 ⟨[(0, LR (pre ++ suf)), (1, .fn 59 []), (7, I ((pre.length + suf.length : Nat) : Int)), (8, I pre.length)], []⟩ = match suf.findIdx? (fun r => !ruleB r) with
      | some i => some (.ret, ⟨[(4, I ((pre.length + i : Nat) : Int))], []⟩)
      | none => some (.exit 0, ⟨[(0, LR (pre ++ suf)), (1, .fn 59 []), (7, I ((pre.length + suf.length : Nat) : Int)), (8, I ((pre.length + suf.length : Nat) : Int))], []⟩)
  | [], pre, hb => by
    rw [loop_eq pr 101 0 _ Try.f101 fn_101 _ rfl _ ann_101 _ rfl]
    simp -implicitDefEqProofs only [Int.lt_irrefl, List.findIdx?_nil, List.append_nil, List.length_nil, Nat.add_zero, go_sem, Nat.reduceAdd, Nat.reduceSub, Nat.reduceMul, Nat.reduceMod, Nat.reduceLT, Nat.reduceLeDiff, Nat.reduceEqDiff, Nat.reduceBEq, Nat.reduceDiv, Int.reduceLT, Int.reduceLE, Int.reduceToNat, Int.reduceNeg, Int.reduceEq, ↓reduceIte, reduceCtorEq, ↓reduceDIte]
  | (n, s, b, ()) :: suf, pre, hb => by
    simp only [List.length_cons] at hb
    have hw : IntKind.i64.wrap ((pre.length : Int) + 1) = ((pre.length + 1 : Nat) : Int) := by rw [wrap_i] <;> omega
    have e1 : (pre ++ [(n, s, b, ())]).length = pre.length + 1 := by simp
    have e2 : pre.length + 1 + suf.length = pre.length + (suf.length + 1) := by omega
    have ih := loop_ixr suf (pre ++ [(n, s, b, ())]) (by simp; omega)
    rw [e1, e2, app_one] at ih
    have hlt : ((pre.length : Int) < ((pre.length + (suf.length + 1) : Nat) : Int)) = True := tr (by omega)
    have h1 := call_v1 n s b
    rw [List.findIdx?_cons, loop_eq pr 101 0 _ Try.f101 fn_101 _ rfl _ ann_101 _ rfl]
    cases hr : ruleB (n, s, b, ()) with
    | false =>
      rw [hr] at h1
      simp -implicitDefEqProofs only [hlt, getD_app, lt_app, ltn_app, zero_le_cast, Int.toNat_natCast, hw, h1, List.length_cons, Nat.add_zero, go_sem, Nat.reduceAdd, Nat.reduceSub, Nat.reduceMul, Nat.reduceMod, Nat.reduceLT, Nat.reduceLeDiff, Nat.reduceEqDiff, Nat.reduceBEq, Nat.reduceDiv, Int.reduceLT, Int.reduceLE, Int.reduceToNat, Int.reduceNeg, Int.reduceEq, ↓reduceIte, reduceCtorEq, ↓reduceDIte]
    | true =>
      rw [hr] at h1
      simp -implicitDefEqProofs only [hlt, getD_app, lt_app, ltn_app, zero_le_cast, Int.toNat_natCast, hw, h1, List.length_cons, go_sem, Nat.reduceAdd, Nat.reduceSub, Nat.reduceMul, Nat.reduceMod, Nat.reduceLT, Nat.reduceLeDiff, Nat.reduceEqDiff, Nat.reduceBEq, Nat.reduceDiv, Int.reduceLT, Int.reduceLE, Int.reduceToNat, Int.reduceNeg, Int.reduceEq, ↓reduceIte, reduceCtorEq, ↓reduceDIte]
      rw [ih]
      cases suf.findIdx? (fun r => !ruleB r) with
      | none => rfl
      | some i =>
        simp only [Option.map_some]
        have : pre.length + 1 + i = pre.length + (i + 1) := by omega
        rw [this]
theorem call_cfr (xs : List Ru) (hb : xs.length < 2000000) : callOf pr 58 [LR xs, .fn 59 []] [] = some (B (!xs.all ruleB), []) := by
  have h := loop_ixr xs [] (by simpa using hb)
  simp only [List.nil_append, List.length_nil, Nat.zero_add] at h
  have h : loopOf pr 101 0 ⟨[(0, LR xs), (1, .fn 59 []), (7, I xs.length), (8, I 0)], []⟩ = _ := h
  have h1 : callOf pr 101 [LR xs, .fn 59 []] [] = some (I (match xs.findIdx? (fun r => !ruleB r) with | some i => (i : Int) | none => -1), []) := by
    rw [call_eq pr 101 _ _ Try.f101 fn_101 _ rfl _ ann_101 rfl]
    cases hf : xs.findIdx? (fun r => !ruleB r) with
    | none =>
      rw [hf] at h
      simp -implicitDefEqProofs only [h, go_sem, Nat.reduceAdd, Nat.reduceSub, Nat.reduceMul, Nat.reduceMod, Nat.reduceLT, Nat.reduceLeDiff, Nat.reduceEqDiff, Nat.reduceBEq, Nat.reduceDiv, Int.reduceLT, Int.reduceLE, Int.reduceToNat, Int.reduceNeg, Int.reduceEq, ↓reduceIte, reduceCtorEq, ↓reduceDIte]
    | some i =>
      rw [hf] at h
      simp -implicitDefEqProofs only [h, go_sem, Nat.reduceAdd, Nat.reduceSub, Nat.reduceMul, Nat.reduceMod, Nat.reduceLT, Nat.reduceLeDiff, Nat.reduceEqDiff, Nat.reduceBEq, Nat.reduceDiv, Int.reduceLT, Int.reduceLE, Int.reduceToNat, Int.reduceNeg, Int.reduceEq, ↓reduceIte, reduceCtorEq, ↓reduceDIte]
  rw [call_eq pr 58 _ _ Try.f58 fn_58 _ rfl _ ann_58 rfl]
  cases hf : xs.findIdx? (fun r => !ruleB r) with
  | none =>
    rw [hf] at h1
    have : xs.all ruleB = true := by
      rw [List.findIdx?_eq_none_iff] at hf
      rw [List.all_eq_true]
      intro x hx
      simpa using hf x hx
    rw [this]
    simp -implicitDefEqProofs only [h1, go_sem, Nat.reduceAdd, Nat.reduceSub, Nat.reduceMul, Nat.reduceMod, Nat.reduceLT, Nat.reduceLeDiff, Nat.reduceEqDiff, Nat.reduceBEq, Nat.reduceDiv, Int.reduceLT, Int.reduceLE, Int.reduceToNat, Int.reduceNeg, Int.reduceEq, ↓reduceIte, reduceCtorEq, ↓reduceDIte]
    try decide
  | some i =>
    rw [hf] at h1
    have : xs.all ruleB = false := by
      rw [List.findIdx?_eq_some_iff_getElem] at hf
      obtain ⟨k1, k2, _⟩ := hf
      rw [List.all_eq_false]
      exact ⟨_, List.getElem_mem k1, by simpa using k2⟩
    rw [this]
    simp -implicitDefEqProofs only [h1, ge_iff_le, zero_le_cast, go_sem, Nat.reduceAdd, Nat.reduceSub, Nat.reduceMul, Nat.reduceMod, Nat.reduceLT, Nat.reduceLeDiff, Nat.reduceEqDiff, Nat.reduceBEq, Nat.reduceDiv, Int.reduceLT, Int.reduceLE, Int.reduceToNat, Int.reduceNeg, Int.reduceEq, ↓reduceIte, reduceCtorEq, ↓reduceDIte]
/-! tables -/
abbrev pR (a b c d e : List Ru) : AV := .rp [LR a, LR b, LR c, LR d, LR e]
abbrev pA (a b c d e : List Ru) : AV := .agg [LR a, LR b, LR c, LR d, LR e]
theorem ab_rp (h : Heap) (vs : List AV) : absorb1 h (.rp vs) = none := rfl
def un4 {α : Type} (vs : List AV) (x : α × List AV) : α × List AV := (x.1, vs)
theorem un4_mk {α : Type} (vs us : List AV) (x : α) : un4 vs (x, us) = (x, vs) := rfl
theorem un_ptr (t : Ty) (us vs : List AV) : unflat (.ptr t) (.rp us :: vs) = (unflat t us).map (un4 vs) := by rw [unflat]; rfl
theorem fl_ptr (t : Ty) (x : t.Den) : flat (.ptr t) x = [.rp (flat t x)] := rfl
theorem top_rp (vs : List AV) : AV.top (.rp vs) = none := rfl
theorem ty_ptr : tyOf 92 = none := rfl
theorem call_tbi (a b c d e : List Ru) : callOf pr 57 [pR a b c d e] [] = some (.os (.t 1152), [(1152, .arr true false (.ptr (.slice tyR)) [a, b, c, d, e])]) := by
  rw [call_eq pr 57 _ _ Try.f57 fn_57 _ rfl _ ann_57 rfl]
  simp -implicitDefEqProofs only [ty_ptr, ab_rp, un_ptr, un4_mk, top_rp, go_sem, Nat.reduceAdd, Nat.reduceSub, Nat.reduceMul, Nat.reduceMod, Nat.reduceLT, Nat.reduceLeDiff, Nat.reduceEqDiff, Nat.reduceBEq, Nat.reduceDiv, Int.reduceLT, Int.reduceLE, Int.reduceToNat, Int.reduceNeg, Int.reduceEq, ↓reduceIte, reduceCtorEq, ↓reduceDIte]
def tabOk (t : List Ru) : Bool := decide (t.length = 4) && t.all ruleB
theorem loop_v0 (R : AV) (hR : R = pR [] [] [] [] [] ∨ ∃ a b c d e, R = pR a b c d e) : ∀ (suf pre : List (List Ru)), pre.length + suf.length < 100 →
    loopOf pr 20 0 ⟨[(1, R), (8, .os (.t 512)), (9, I ((pre.length + suf.length : Nat) : Int)), (10, I pre.length)], [(512, .arr true false (.ptr (.slice tyR)) (pre ++ suf))]⟩ = if suf.all tabOk = true then some (.exit 0, ⟨[(1, R), (8, .os (.t 512)), (9, I ((pre.length + suf.length : Nat) : Int)), (10, I ((pre.length + suf.length : Nat) : Int))], [(512, .arr true false (.ptr (.slice tyR)) (pre ++ suf))]⟩) else some (.ret, ⟨[(2, B false)], [(512, .arr true false (.ptr (.slice tyR)) (pre ++ suf))]⟩) := by
  obtain ⟨a, b, c, d, e, rfl⟩ : ∃ a b c d e, R = pR a b c d e := by rcases hR with h | h; exact ⟨_, _, _, _, _, h⟩; exact h
  intro suf
  induction suf with
  | nil =>
    intro pre hb
    rw [loop_eq pr 20 0 _ Try.f20 fn_20 _ rfl _ ann_20 _ rfl]
    simp -implicitDefEqProofs only [Int.lt_irrefl, List.append_nil, List.all_nil, List.length_nil, Nat.add_zero, go_sem, Nat.reduceAdd, Nat.reduceSub, Nat.reduceMul, Nat.reduceMod, Nat.reduceLT, Nat.reduceLeDiff, Nat.reduceEqDiff, Nat.reduceBEq, Nat.reduceDiv, Int.reduceLT, Int.reduceLE, Int.reduceToNat, Int.reduceNeg, Int.reduceEq, ↓reduceIte, reduceCtorEq, ↓reduceDIte]
  | cons t suf ih =>
    intro pre hb
    simp only [List.length_cons] at hb
    have hw : IntKind.i64.wrap ((pre.length : Int) + 1) = ((pre.length + 1 : Nat) : Int) := by rw [wrap_i] <;> omega
    have e1 : (pre ++ [t]).length = pre.length + 1 := by simp
    have e2 : pre.length + 1 + suf.length = pre.length + (suf.length + 1) := by omega
    have ih := ih (pre ++ [t]) (by simp; omega)
    rw [e1, e2, app_one] at ih
    have hlt : ((pre.length : Int) < ((pre.length + (suf.length + 1) : Nat) : Int)) = True := tr (by omega)
    rw [loop_eq pr 20 0 _ Try.f20 fn_20 _ rfl _ ann_20 _ rfl]
    by_cases h4 : t.length = 4
    · have g4 : (((t.length : Nat) : Int) = 4) = True := tr (by omega)
      have h1 := call_cfr t (by omega)
      cases hr : t.all ruleB with
      | true =>
        rw [hr] at h1
        have hk : (t :: suf).all tabOk = suf.all tabOk := by simp [tabOk, h4, hr]
        rw [hk]
        simp -implicitDefEqProofs only [hlt, getD_app, lt_app, ltn_app, zero_le_cast, Int.toNat_natCast, hw, g4, h1, fl_ptr, List.length_cons, go_sem, Nat.reduceAdd, Nat.reduceSub, Nat.reduceMul, Nat.reduceMod, Nat.reduceLT, Nat.reduceLeDiff, Nat.reduceEqDiff, Nat.reduceBEq, Nat.reduceDiv, Int.reduceLT, Int.reduceLE, Int.reduceToNat, Int.reduceNeg, Int.reduceEq, ↓reduceIte, reduceCtorEq, ↓reduceDIte]
        exact ih
      | false =>
        rw [hr] at h1
        have hk : (t :: suf).all tabOk = false := by simp [tabOk, hr]
        rw [hk]
        simp -implicitDefEqProofs only [hlt, getD_app, lt_app, ltn_app, zero_le_cast, Int.toNat_natCast, hw, g4, h1, fl_ptr, List.length_cons, go_sem, Nat.reduceAdd, Nat.reduceSub, Nat.reduceMul, Nat.reduceMod, Nat.reduceLT, Nat.reduceLeDiff, Nat.reduceEqDiff, Nat.reduceBEq, Nat.reduceDiv, Int.reduceLT, Int.reduceLE, Int.reduceToNat, Int.reduceNeg, Int.reduceEq, ↓reduceIte, reduceCtorEq, ↓reduceDIte]
    · have g4 : (((t.length : Nat) : Int) = 4) = False := fa (by omega)
      have hk : (t :: suf).all tabOk = false := by simp [tabOk, h4]
      rw [hk]
      simp -implicitDefEqProofs only [hlt, getD_app, lt_app, ltn_app, zero_le_cast, Int.toNat_natCast, hw, g4, fl_ptr, List.length_cons, go_sem, Nat.reduceAdd, Nat.reduceSub, Nat.reduceMul, Nat.reduceMod, Nat.reduceLT, Nat.reduceLeDiff, Nat.reduceEqDiff, Nat.reduceBEq, Nat.reduceDiv, Int.reduceLT, Int.reduceLE, Int.reduceToNat, Int.reduceNeg, Int.reduceEq, ↓reduceIte, reduceCtorEq, ↓reduceDIte]
def noneOk (r : Ru) : Bool := decide (r.1 = 0) && !r.2.2.1
theorem loop_v1 (a b : List Ru) (c0 d0 e0 : Ru) (c d e : List Ru) (hx : List (List Ru)) :
    loopOf pr 20 1 ⟨[(1, pR a b (c0 :: c) (d0 :: d) (e0 :: e)), (32, .agg [LR (d0 :: d), LR (e0 :: e), LR (c0 :: c)]), (33, I 0)], []⟩ = if (noneOk d0 && noneOk e0 && noneOk c0) = true then some (.exit 2, ⟨[(1, pR a b (c0 :: c) (d0 :: d) (e0 :: e)), (32, .agg [LR (d0 :: d), LR (e0 :: e), LR (c0 :: c)]), (33, I 3)], []⟩) else some (.ret, ⟨[(2, B false)], []⟩) := by
  obtain ⟨cn, cs, cb, ⟨⟩⟩ := c0
  obtain ⟨dn, ds, db, ⟨⟩⟩ := d0
  obtain ⟨en, es, eb, ⟨⟩⟩ := e0
  have w1 : IntKind.i64.wrap 1 = 1 := by decide
  have w2 : IntKind.i64.wrap 2 = 2 := by decide
  have w3 : IntKind.i64.wrap 3 = 3 := by decide
  have p1 : ∀ n : Nat, ((0 : Int) < ((n : Int) + 1)) = True := fun n => tr (by omega)
  have p2 : ∀ n : Nat, (0 < n + 1) = True := fun n => tr (by omega)
  rw [loop_eq pr 20 1 _ Try.f20 fn_20 _ rfl _ ann_20 _ rfl]
  by_cases hd : dn = 0
  case neg =>
    rw [if_neg (by simp [noneOk, hd])]
    simp -implicitDefEqProofs only [List.length_cons, Int.cast_ofNat_Int, Int.natCast_add, Int.natCast_one, List.getD_cons_zero, w1, w2, w3, Int.reduceAdd, p1, p2, fa hd, go_sem, Nat.reduceAdd, Nat.reduceSub, Nat.reduceMul, Nat.reduceMod, Nat.reduceLT, Nat.reduceLeDiff, Nat.reduceEqDiff, Nat.reduceBEq, Nat.reduceDiv, Int.reduceLT, Int.reduceLE, Int.reduceToNat, Int.reduceNeg, Int.reduceEq, ↓reduceIte, reduceCtorEq, ↓reduceDIte]
  subst hd
  cases db with
  | true =>
    rw [if_neg (by simp [noneOk])]
    simp -implicitDefEqProofs only [List.length_cons, Int.cast_ofNat_Int, Int.natCast_add, Int.natCast_one, List.getD_cons_zero, w1, w2, w3, Int.reduceAdd, p1, p2, go_sem, Nat.reduceAdd, Nat.reduceSub, Nat.reduceMul, Nat.reduceMod, Nat.reduceLT, Nat.reduceLeDiff, Nat.reduceEqDiff, Nat.reduceBEq, Nat.reduceDiv, Int.reduceLT, Int.reduceLE, Int.reduceToNat, Int.reduceNeg, Int.reduceEq, ↓reduceIte, reduceCtorEq, ↓reduceDIte]
  | false =>
    simp -implicitDefEqProofs only [List.length_cons, Int.cast_ofNat_Int, Int.natCast_add, Int.natCast_one, List.getD_cons_zero, w1, w2, w3, Int.reduceAdd, p1, p2, go_sem, Nat.reduceAdd, Nat.reduceSub, Nat.reduceMul, Nat.reduceMod, Nat.reduceLT, Nat.reduceLeDiff, Nat.reduceEqDiff, Nat.reduceBEq, Nat.reduceDiv, Int.reduceLT, Int.reduceLE, Int.reduceToNat, Int.reduceNeg, Int.reduceEq, ↓reduceIte, reduceCtorEq, ↓reduceDIte]
    rw [loop_eq pr 20 1 _ Try.f20 fn_20 _ rfl _ ann_20 _ rfl]
    by_cases he : en = 0
    case neg =>
      rw [if_neg (by simp [noneOk, he])]
      simp -implicitDefEqProofs only [List.length_cons, Int.cast_ofNat_Int, Int.natCast_add, Int.natCast_one, List.getD_cons_zero, w1, w2, w3, Int.reduceAdd, p1, p2, fa he, go_sem, Nat.reduceAdd, Nat.reduceSub, Nat.reduceMul, Nat.reduceMod, Nat.reduceLT, Nat.reduceLeDiff, Nat.reduceEqDiff, Nat.reduceBEq, Nat.reduceDiv, Int.reduceLT, Int.reduceLE, Int.reduceToNat, Int.reduceNeg, Int.reduceEq, ↓reduceIte, reduceCtorEq, ↓reduceDIte]
    subst he
    cases eb with
    | true =>
      rw [if_neg (by simp [noneOk])]
      simp -implicitDefEqProofs only [List.length_cons, Int.cast_ofNat_Int, Int.natCast_add, Int.natCast_one, List.getD_cons_zero, w1, w2, w3, Int.reduceAdd, p1, p2, go_sem, Nat.reduceAdd, Nat.reduceSub, Nat.reduceMul, Nat.reduceMod, Nat.reduceLT, Nat.reduceLeDiff, Nat.reduceEqDiff, Nat.reduceBEq, Nat.reduceDiv, Int.reduceLT, Int.reduceLE, Int.reduceToNat, Int.reduceNeg, Int.reduceEq, ↓reduceIte, reduceCtorEq, ↓reduceDIte]
    | false =>
      simp -implicitDefEqProofs only [List.length_cons, Int.cast_ofNat_Int, Int.natCast_add, Int.natCast_one, List.getD_cons_zero, w1, w2, w3, Int.reduceAdd, p1, p2, go_sem, Nat.reduceAdd, Nat.reduceSub, Nat.reduceMul, Nat.reduceMod, Nat.reduceLT, Nat.reduceLeDiff, Nat.reduceEqDiff, Nat.reduceBEq, Nat.reduceDiv, Int.reduceLT, Int.reduceLE, Int.reduceToNat, Int.reduceNeg, Int.reduceEq, ↓reduceIte, reduceCtorEq, ↓reduceDIte]
      rw [loop_eq pr 20 1 _ Try.f20 fn_20 _ rfl _ ann_20 _ rfl]
      by_cases hc : cn = 0
      case neg =>
        rw [if_neg (by simp [noneOk, hc])]
        simp -implicitDefEqProofs only [List.length_cons, Int.cast_ofNat_Int, Int.natCast_add, Int.natCast_one, List.getD_cons_zero, w1, w2, w3, Int.reduceAdd, p1, p2, fa hc, go_sem, Nat.reduceAdd, Nat.reduceSub, Nat.reduceMul, Nat.reduceMod, Nat.reduceLT, Nat.reduceLeDiff, Nat.reduceEqDiff, Nat.reduceBEq, Nat.reduceDiv, Int.reduceLT, Int.reduceLE, Int.reduceToNat, Int.reduceNeg, Int.reduceEq, ↓reduceIte, reduceCtorEq, ↓reduceDIte]
      subst hc
      cases cb with
      | true =>
        rw [if_neg (by simp [noneOk])]
        simp -implicitDefEqProofs only [List.length_cons, Int.cast_ofNat_Int, Int.natCast_add, Int.natCast_one, List.getD_cons_zero, w1, w2, w3, Int.reduceAdd, p1, p2, go_sem, Nat.reduceAdd, Nat.reduceSub, Nat.reduceMul, Nat.reduceMod, Nat.reduceLT, Nat.reduceLeDiff, Nat.reduceEqDiff, Nat.reduceBEq, Nat.reduceDiv, Int.reduceLT, Int.reduceLE, Int.reduceToNat, Int.reduceNeg, Int.reduceEq, ↓reduceIte, reduceCtorEq, ↓reduceDIte]
      | false =>
        rw [if_pos (by simp [noneOk])]
        simp -implicitDefEqProofs only [List.length_cons, Int.cast_ofNat_Int, Int.natCast_add, Int.natCast_one, List.getD_cons_zero, w1, w2, w3, Int.reduceAdd, p1, p2, go_sem, Nat.reduceAdd, Nat.reduceSub, Nat.reduceMul, Nat.reduceMod, Nat.reduceLT, Nat.reduceLeDiff, Nat.reduceEqDiff, Nat.reduceBEq, Nat.reduceDiv, Int.reduceLT, Int.reduceLE, Int.reduceToNat, Int.reduceNeg, Int.reduceEq, ↓reduceIte, reduceCtorEq, ↓reduceDIte]
        rw [loop_eq pr 20 1 _ Try.f20 fn_20 _ rfl _ ann_20 _ rfl]
        simp -implicitDefEqProofs only [List.length_cons, Int.cast_ofNat_Int, Int.natCast_add, Int.natCast_one, List.getD_cons_zero, w1, w2, w3, Int.reduceAdd, p1, p2, go_sem, Nat.reduceAdd, Nat.reduceSub, Nat.reduceMul, Nat.reduceMod, Nat.reduceLT, Nat.reduceLeDiff, Nat.reduceEqDiff, Nat.reduceBEq, Nat.reduceDiv, Int.reduceLT, Int.reduceLE, Int.reduceToNat, Int.reduceNeg, Int.reduceEq, ↓reduceIte, reduceCtorEq, ↓reduceDIte]
/-- Reads leave copies, and none is left when one goes. -/
def heldOk : List Ru → List Ru → Bool
  | r :: rs, s :: ss => decide (r.1 ≠ 0) && decide (r.2.1 ≠ 0) && decide (s.1 = 0) && heldOk rs ss
  | _, _ => true
theorem loop_v2 (b d e : List Ru) : ∀ (sa sc pa pc : List Ru), sa.length = sc.length → pa.length = pc.length → pa.length + sa.length < 1000 →
    loopOf pr 20 2 ⟨[(1, pR (pa ++ sa) b (pc ++ sc) d e), (50, I ((pa.length + sa.length : Nat) : Int)), (51, I pa.length)], []⟩ = if heldOk sa sc = true then some (.exit 4, ⟨[(1, pR (pa ++ sa) b (pc ++ sc) d e), (50, I ((pa.length + sa.length : Nat) : Int)), (51, I ((pa.length + sa.length : Nat) : Int))], []⟩) else some (.ret, ⟨[(2, B false)], []⟩)
  | [], [], pa, pc, _, _, hb => by
    rw [loop_eq pr 20 2 _ Try.f20 fn_20 _ rfl _ ann_20 _ rfl]
    simp -implicitDefEqProofs only [Int.lt_irrefl, List.append_nil, heldOk, List.length_nil, Nat.add_zero, go_sem, Nat.reduceAdd, Nat.reduceSub, Nat.reduceMul, Nat.reduceMod, Nat.reduceLT, Nat.reduceLeDiff, Nat.reduceEqDiff, Nat.reduceBEq, Nat.reduceDiv, Int.reduceLT, Int.reduceLE, Int.reduceToNat, Int.reduceNeg, Int.reduceEq, ↓reduceIte, reduceCtorEq, ↓reduceDIte]
  | [], _ :: _, _, _, h, _, _ => by simp at h
  | _ :: _, [], _, _, h, _, _ => by simp at h
  | (rn, rs, rb, ()) :: sa, (sn, ss, sb, ()) :: sc, pa, pc, h, hp, hb => by
    simp only [List.length_cons] at hb h
    have hw : IntKind.i64.wrap ((pa.length : Int) + 1) = ((pa.length + 1 : Nat) : Int) := by rw [wrap_i] <;> omega
    have e1 : (pa ++ [(rn, rs, rb, ())]).length = pa.length + 1 := by simp
    have e2 : pa.length + 1 + sa.length = pa.length + (sa.length + 1) := by omega
    have ih := loop_v2 b d e sa sc (pa ++ [(rn, rs, rb, ())]) (pc ++ [(sn, ss, sb, ())]) (by omega) (by simp; omega) (by simp; omega)
    rw [e1, e2, app_one, app_one] at ih
    have hlt : ((pa.length : Int) < ((pa.length + (sa.length + 1) : Nat) : Int)) = True := tr (by omega)
    have g1 : ∀ z : Ru, (pc ++ (sn, ss, sb, ()) :: sc).getD pa.length z = (sn, ss, sb, ()) := by intro z; rw [hp]; simp
    have g3 : ((pa.length : Int) < (((pc ++ (sn, ss, sb, ()) :: sc).length : Nat) : Int)) = True := tr (by simp; omega)
    have g4 : (pa.length < (pc ++ (sn, ss, sb, ()) :: sc).length) = True := tr (by simp; omega)
    rw [loop_eq pr 20 2 _ Try.f20 fn_20 _ rfl _ ann_20 _ rfl]
    by_cases h1 : rn = 0
    · rw [if_neg (by simp [heldOk, h1])]
      simp -implicitDefEqProofs only [hlt, getD_app, lt_app, ltn_app, zero_le_cast, Int.toNat_natCast, hw, g1, g3, g4, List.length_cons, tr h1, go_sem, Nat.reduceAdd, Nat.reduceSub, Nat.reduceMul, Nat.reduceMod, Nat.reduceLT, Nat.reduceLeDiff, Nat.reduceEqDiff, Nat.reduceBEq, Nat.reduceDiv, Int.reduceLT, Int.reduceLE, Int.reduceToNat, Int.reduceNeg, Int.reduceEq, ↓reduceIte, reduceCtorEq, ↓reduceDIte]
    · by_cases h2 : rs = 0
      · rw [if_neg (by simp [heldOk, h2])]
        simp -implicitDefEqProofs only [hlt, getD_app, lt_app, ltn_app, zero_le_cast, Int.toNat_natCast, hw, g1, g3, g4, List.length_cons, fa h1, tr h2, go_sem, Nat.reduceAdd, Nat.reduceSub, Nat.reduceMul, Nat.reduceMod, Nat.reduceLT, Nat.reduceLeDiff, Nat.reduceEqDiff, Nat.reduceBEq, Nat.reduceDiv, Int.reduceLT, Int.reduceLE, Int.reduceToNat, Int.reduceNeg, Int.reduceEq, ↓reduceIte, reduceCtorEq, ↓reduceDIte]
      · by_cases h3 : sn = 0
        · have hk : heldOk ((rn, rs, rb, ()) :: sa) ((sn, ss, sb, ()) :: sc) = heldOk sa sc := by simp [heldOk, h1, h2, h3]
          rw [hk]
          simp -implicitDefEqProofs only [hlt, getD_app, lt_app, ltn_app, zero_le_cast, Int.toNat_natCast, hw, g1, g3, g4, List.length_cons, fa h1, fa h2, tr h3, go_sem, Nat.reduceAdd, Nat.reduceSub, Nat.reduceMul, Nat.reduceMod, Nat.reduceLT, Nat.reduceLeDiff, Nat.reduceEqDiff, Nat.reduceBEq, Nat.reduceDiv, Int.reduceLT, Int.reduceLE, Int.reduceToNat, Int.reduceNeg, Int.reduceEq, ↓reduceIte, reduceCtorEq, ↓reduceDIte]
          exact ih
        · rw [if_neg (by simp [heldOk, h3])]
          simp -implicitDefEqProofs only [hlt, getD_app, lt_app, ltn_app, zero_le_cast, Int.toNat_natCast, hw, g1, g3, g4, List.length_cons, fa h1, fa h2, fa h3, go_sem, Nat.reduceAdd, Nat.reduceSub, Nat.reduceMul, Nat.reduceMod, Nat.reduceLT, Nat.reduceLeDiff, Nat.reduceEqDiff, Nat.reduceBEq, Nat.reduceDiv, Int.reduceLT, Int.reduceLE, Int.reduceToNat, Int.reduceNeg, Int.reduceEq, ↓reduceIte, reduceCtorEq, ↓reduceDIte]
def protB (a b c d e : List Ru) : Bool := [a, b, c, d, e].all tabOk && (match c, d, e with | c0 :: _, d0 :: _, e0 :: _ => noneOk d0 && noneOk e0 && noneOk c0 | _, _, _ => false) && heldOk a c
theorem call_vp (a b c d e : List Ru) : callOf pr 20 [pA a b c d e] [] = some (B (protB a b c d e), []) := by
  have h1 := call_tbi a b c d e
  have h2 := loop_v0 (pR a b c d e) (.inr ⟨a, b, c, d, e, rfl⟩) [a, b, c, d, e] [] (by simp)
  simp only [List.nil_append, List.length_nil, List.length_cons, Nat.zero_add] at h2
  have h2 : loopOf pr 20 0 ⟨[(1, pR a b c d e), (8, .os (.t 512)), (9, I 5), (10, I 0)], [(512, .arr true false (.ptr (.slice tyR)) [a, b, c, d, e])]⟩ = _ := h2
  cases ht : [a, b, c, d, e].all tabOk with
  | false =>
    rw [ht, if_neg (by simp)] at h2
    have hk : protB a b c d e = false := by simp only [protB, ht, Bool.false_and]
    rw [hk, call_eq pr 20 _ _ Try.f20 fn_20 _ rfl _ ann_20 rfl]
    simp -implicitDefEqProofs only [h1, Int.cast_ofNat_Int, h2, go_sem, Nat.reduceAdd, Nat.reduceSub, Nat.reduceMul, Nat.reduceMod, Nat.reduceLT, Nat.reduceLeDiff, Nat.reduceEqDiff, Nat.reduceBEq, Nat.reduceDiv, Int.reduceLT, Int.reduceLE, Int.reduceToNat, Int.reduceNeg, Int.reduceEq, ↓reduceIte, reduceCtorEq, ↓reduceDIte]
  | true =>
    rw [ht, if_pos rfl] at h2
    have hl : a.length = 4 ∧ c.length = 4 ∧ d.length = 4 ∧ e.length = 4 := by
      simp only [List.all_cons, List.all_nil, Bool.and_eq_true, tabOk, decide_eq_true_eq] at ht
      exact ⟨ht.1.1, ht.2.2.1.1, ht.2.2.2.1.1, ht.2.2.2.2.1.1⟩
    match a, c, d, e, hl with
    | a, c0 :: c, d0 :: d, e0 :: e, hl =>
      have h3 := loop_v1 a b c0 d0 e0 c d e []
      cases hn : (noneOk d0 && noneOk e0 && noneOk c0) with
      | false =>
        rw [hn, if_neg (by simp)] at h3
        have hk : protB a b (c0 :: c) (d0 :: d) (e0 :: e) = false := by simp only [protB, hn, Bool.and_false, Bool.false_and]
        rw [hk, call_eq pr 20 _ _ Try.f20 fn_20 _ rfl _ ann_20 rfl]
        simp -implicitDefEqProofs only [h1, Int.cast_ofNat_Int, h2, h3, go_sem, Nat.reduceAdd, Nat.reduceSub, Nat.reduceMul, Nat.reduceMod, Nat.reduceLT, Nat.reduceLeDiff, Nat.reduceEqDiff, Nat.reduceBEq, Nat.reduceDiv, Int.reduceLT, Int.reduceLE, Int.reduceToNat, Int.reduceNeg, Int.reduceEq, ↓reduceIte, reduceCtorEq, ↓reduceDIte]
      | true =>
        rw [hn, if_pos rfl] at h3
        have h4 := loop_v2 b (d0 :: d) (e0 :: e) a (c0 :: c) [] [] (by omega) rfl (by simp; omega)
        simp only [List.nil_append, List.length_nil, Nat.zero_add] at h4
        have h4 : loopOf pr 20 2 ⟨[(1, pR a b (c0 :: c) (d0 :: d) (e0 :: e)), (50, I a.length), (51, I 0)], []⟩ = _ := h4
        have hk : protB a b (c0 :: c) (d0 :: d) (e0 :: e) = heldOk a (c0 :: c) := by simp only [protB, ht, hn, Bool.true_and]
        rw [hk, call_eq pr 20 _ _ Try.f20 fn_20 _ rfl _ ann_20 rfl]
        cases hh : heldOk a (c0 :: c) with
        | true =>
          rw [hh, if_pos rfl] at h4
          simp -implicitDefEqProofs only [h1, Int.cast_ofNat_Int, h2, h3, h4, go_sem, Nat.reduceAdd, Nat.reduceSub, Nat.reduceMul, Nat.reduceMod, Nat.reduceLT, Nat.reduceLeDiff, Nat.reduceEqDiff, Nat.reduceBEq, Nat.reduceDiv, Int.reduceLT, Int.reduceLE, Int.reduceToNat, Int.reduceNeg, Int.reduceEq, ↓reduceIte, reduceCtorEq, ↓reduceDIte]
        | false =>
          rw [hh, if_neg (by simp)] at h4
          simp -implicitDefEqProofs only [h1, Int.cast_ofNat_Int, h2, h3, h4, go_sem, Nat.reduceAdd, Nat.reduceSub, Nat.reduceMul, Nat.reduceMod, Nat.reduceLT, Nat.reduceLeDiff, Nat.reduceEqDiff, Nat.reduceBEq, Nat.reduceDiv, Int.reduceLT, Int.reduceLE, Int.reduceToNat, Int.reduceNeg, Int.reduceEq, ↓reduceIte, reduceCtorEq, ↓reduceDIte]
/-- What a rule of a table is asked, by the table's number and the copy's. -/
def askB (k q : Int) (r : Ru) : Bool := copyB r.1 && copyB r.2.1 && !(decide (k = 0) && (decide (r.1 = 0) || decide (r.2.1 = 0))) && !(decide (k = 2) && decide (r.1 ≠ 0)) && !(decide (2 ≤ k) && decide (q = 0) && (decide (r.1 ≠ 0) || r.2.2.1))
def askL (k : Int) : Int → List Ru → Bool
  | _, [] => true
  | q, r :: rs => askB k q r && askL k (q + 1) rs
def tabsL : Int → List (List Ru) → Bool
  | _, [] => true
  | k, t :: ts => decide (t.length = 4) && askL k 0 t && tabsL (k + 1) ts
/-! plain -/
def nzB (r : Ru) : Bool := decide (r.1 ≠ 0) && decide (r.2.1 ≠ 0)
def zB (r : Ru) : Bool := decide (r.1 = 0)
theorem ask_0 : ∀ (t : List Ru) (q : Int), askL 0 q t = (t.all ruleB && t.all nzB)
  | [], q => rfl
  | r :: t, q => by
    rw [askL, ask_0 t, List.all_cons, List.all_cons]
    have : askB 0 q r = (ruleB r && nzB r) := by
      obtain ⟨n, s, b, ⟨⟩⟩ := r
      by_cases h1 : n = 0 <;> by_cases h2 : s = 0 <;> simp [askB, ruleB, nzB, h1, h2]
    rw [this]
    cases ruleB r <;> cases nzB r <;> simp
theorem ask_1 : ∀ (t : List Ru) (q : Int), askL 1 q t = t.all ruleB
  | [], q => rfl
  | r :: t, q => by
    rw [askL, ask_1 t, List.all_cons]
    have : askB 1 q r = ruleB r := by
      obtain ⟨n, s, b, ⟨⟩⟩ := r
      simp [askB, ruleB]
    rw [this]
theorem ask_2 : ∀ (t : List Ru) (q : Int), 0 < q → askL 2 q t = (t.all ruleB && t.all zB)
  | [], q, _ => rfl
  | r :: t, q, hq => by
    rw [askL, ask_2 t _ (by omega), List.all_cons, List.all_cons]
    have q0 : (q = 0) = False := fa (by omega)
    have : askB 2 q r = (ruleB r && zB r) := by
      obtain ⟨n, s, b, ⟨⟩⟩ := r
      by_cases h1 : n = 0 <;> simp [askB, ruleB, zB, h1, q0]
    rw [this]
    cases ruleB r <;> cases zB r <;> simp
theorem ask_3 (k : Int) (hk : 2 < k) : ∀ (t : List Ru) (q : Int), 0 < q → askL k q t = t.all ruleB
  | [], q, _ => rfl
  | r :: t, q, hq => by
    rw [askL, ask_3 k hk t _ (by omega), List.all_cons]
    have q0 : (q = 0) = False := fa (by omega)
    have k0 : (k = 0) = False := fa (by omega)
    have k2 : (k = 2) = False := fa (by omega)
    have : askB k q r = ruleB r := by
      obtain ⟨n, s, b, ⟨⟩⟩ := r
      simp [askB, ruleB, q0, k0, k2]
    rw [this]
theorem ask_2h (r : Ru) (t : List Ru) : askL 2 0 (r :: t) = (ruleB r && t.all ruleB && (zB r && t.all zB) && noneOk r) := by
  rw [askL, ask_2 t _ (by omega)]
  have : askB 2 0 r = (ruleB r && zB r && noneOk r) := by
    obtain ⟨n, s, b, ⟨⟩⟩ := r
    by_cases h1 : n = 0 <;> cases b <;> simp [askB, ruleB, zB, noneOk, h1]
  rw [this]
  cases ruleB r <;> cases zB r <;> cases noneOk r <;> simp
theorem ask_3h (k : Int) (hk : 2 < k) (r : Ru) (t : List Ru) : askL k 0 (r :: t) = (ruleB r && t.all ruleB && noneOk r) := by
  rw [askL, ask_3 k hk t _ (by omega)]
  have k0 : (k = 0) = False := fa (by omega)
  have k2 : (k = 2) = False := fa (by omega)
  have kg : (2 ≤ k) = True := tr (by omega)
  have : askB k 0 r = (ruleB r && noneOk r) := by
    obtain ⟨n, s, b, ⟨⟩⟩ := r
    by_cases h1 : n = 0 <;> cases b <;> simp [askB, ruleB, noneOk, h1, k0, k2, kg]
  rw [this]
  cases ruleB r <;> cases noneOk r <;> simp
theorem held_split : ∀ (a c : List Ru), a.length = c.length → heldOk a c = (a.all nzB && c.all zB)
  | [], [], _ => rfl
  | [], _ :: _, h => by simp at h
  | _ :: _, [], h => by simp at h
  | r :: a, s :: c, h => by
    rw [heldOk, held_split a c (by simpa using h), List.all_cons, List.all_cons]
    have e : (decide (r.1 ≠ 0) && decide (r.2.1 ≠ 0) && decide (s.1 = 0) && (a.all nzB && c.all zB)) = (nzB r && zB s && (a.all nzB && c.all zB)) := rfl
    rw [e]
    cases nzB r <;> cases zB s <;> cases a.all nzB <;> rfl
theorem prot_eq (a b c d e : List Ru) : tabsL 0 [a, b, c, d, e] = protB a b c d e := by
  have hs : tabsL 0 [a, b, c, d, e] = (decide (a.length = 4) && askL 0 0 a && (decide (b.length = 4) && askL 1 0 b && (decide (c.length = 4) && askL 2 0 c && (decide (d.length = 4) && askL 3 0 d && (decide (e.length = 4) && askL 4 0 e && true))))) := rfl
  rw [hs]
  by_cases ha : a.length = 4
  case neg => simp [protB, tabOk, ha]
  by_cases hb : b.length = 4
  case neg => simp [protB, tabOk, hb]
  by_cases hc : c.length = 4
  case neg => simp [protB, tabOk, hc]
  by_cases hd : d.length = 4
  case neg => simp [protB, tabOk, hd]
  by_cases he : e.length = 4
  case neg => simp [protB, tabOk, he]
  match c, d, e, hc, hd, he with
  | c0 :: c, d0 :: d, e0 :: e, hc, hd, he =>
    have h1 := held_split a (c0 :: c) (by omega)
    have h2 : protB a b (c0 :: c) (d0 :: d) (e0 :: e) = ([a, b, c0 :: c, d0 :: d, e0 :: e].all tabOk && (noneOk d0 && noneOk e0 && noneOk c0) && heldOk a (c0 :: c)) := rfl
    rw [h2, h1, ask_0, ask_1, ask_2h, ask_3h 3 (by omega), ask_3h 4 (by omega), decide_eq_true ha, decide_eq_true hb, decide_eq_true hc, decide_eq_true hd, decide_eq_true he]
    simp only [List.all_cons, List.all_nil, tabOk, decide_eq_true ha, decide_eq_true hb, decide_eq_true hc, decide_eq_true hd, decide_eq_true he, Bool.true_and, Bool.and_true]
    generalize a.all ruleB = x1
    generalize a.all nzB = x2
    generalize b.all ruleB = x3
    generalize (ruleB c0 && c.all ruleB) = x4
    generalize (zB c0 && c.all zB) = x5
    generalize (ruleB d0 && d.all ruleB) = x6
    generalize (ruleB e0 && e.all ruleB) = x7
    generalize noneOk c0 = x8
    generalize noneOk d0 = x9
    generalize noneOk e0 = x10
    cases x1 <;> cases x2 <;> cases x3 <;> cases x4 <;> cases x5 <;> simp [Bool.and_comm, Bool.and_left_comm, Bool.and_assoc]
end Go.Proofs.Ythmnlokdikomkaa.PI
