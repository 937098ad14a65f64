/- Traces, as both look at them. -/
import Derived.Test.YtbapbghnageckaaGreatU4
namespace Go.Proofs.YtbapbghnageckaaGreat.PI
open Go Go.Q
set_option maxRecDepth 100000
set_option maxHeartbeats 4000000
set_option linter.unusedSimpArgs false
set_option linter.unusedVariables false
attribute [local go_sem] Nat.reduceAdd Nat.reduceSub Nat.reduceMul Nat.reduceMod Nat.reduceLT Nat.reduceLeDiff Nat.reduceEqDiff Nat.reduceBEq Nat.reduceDiv Int.reduceLT Int.reduceLE Int.reduceToNat Int.reduceNeg Int.reduceEq reduceCtorEq
attribute [local go_sem ↓] reduceIte reduceDIte
abbrev tyA : Ty := .agg (.cons (.int .i64) (.cons (.int .i64) .nil))
abbrev Acc : Type := Int × Int × Unit
abbrev LA (ts : List Acc) : AV := .d (.slice tyA) ts
def kindB (k : Int) : Bool := decide (0 ≤ k ∧ k ≤ 1)
def accB (a : Acc) : Bool := kindB a.1 && addrB a.2.1
def validT (ts : List Acc) : Bool := ts.all accB && decide (ts.length ≤ 60)
theorem call_ik (k : Int) : callOf pr 108 [I k] [] = some (B (kindB k), []) := by
 rw [call_eq pr 108 _ _ Tryz.f108 fn_108 _ rfl _ ann_108 rfl]
 simp -implicitDefEqProofs only [call_125, kindB, go_sem]
theorem call_vt1 (k a : Int) : callOf pr 107 [.agg [I k, I a]] [] = some (B (!accB (k, a, ())), []) := by
 have hk := call_ik k
 have ha := call_ia a
 rw [call_eq pr 107 _ _ Tryz.f107 fn_107 _ rfl _ ann_107 rfl]
 cases ho : kindB k with
 | false =>
  rw [ho] at hk
  simp -implicitDefEqProofs only [hk, accB, ho, go_sem]
 | true =>
  rw [ho] at hk
  simp -implicitDefEqProofs only [hk, ha, accB, ho, go_sem]
theorem loop_ixa : ∀ (suf pre : List Acc), pre.length + suf.length < 1000000000000000000 →
  (suf.all accB = true → loopOf pr 136 0 ⟨[(0, LA (pre ++ suf)), (1, .fn 107 []), (7, I ((pre.length + suf.length : Nat) : Int)), (8, I pre.length)], []⟩ = some (.exit 0, ⟨[(0, LA (pre ++ suf)), (1, .fn 107 []), (7, I ((pre.length + suf.length : Nat) : Int)), (8, I ((pre.length + suf.length : Nat) : Int))], []⟩)) ∧
  (suf.all accB = false → ∃ i : Nat, loopOf pr 136 0 ⟨[(0, LA (pre ++ suf)), (1, .fn 107 []), (7, I ((pre.length + suf.length : Nat) : Int)), (8, I pre.length)], []⟩ = some (.ret, ⟨[(4, I i)], []⟩))
 | [], pre, hb => by
  refine ⟨fun _ => ?_, fun h => by simp at h⟩
  rw [loop_eq pr 136 0 _ Tryz.f136 fn_136 _ rfl _ ann_136 _ rfl]
  simp -implicitDefEqProofs only [Int.lt_irrefl, List.append_nil, Nat.add_zero, List.length_nil, go_sem]
 | (k, a, ()) :: suf, pre, hb => by
  simp only [List.length_cons] at hb ⊢
  have hw : IntKind.i64.wrap ((pre.length : Int) + 1) = ((pre.length + 1 : Nat) : Int) := by rw [wrap_i] <;> omega
  have hlt : ((pre.length : Int) < ((pre.length + (suf.length + 1) : Nat) : Int)) = True := tr (by omega)
  have h1 := call_vt1 k a
  obtain ⟨i1, i2⟩ := loop_ixa suf (pre ++ [(k, a, ())]) (by simp; omega)
  have e1 : (pre ++ [(k, a, ())]).length = pre.length + 1 := by simp
  have e2 : pre.length + 1 + suf.length = pre.length + (suf.length + 1) := by omega
  rw [app_one, e1, e2] at i1 i2
  cases ho : accB (k, a, ()) with
  | false =>
   rw [ho] at h1
   refine ⟨fun h => by simp [ho] at h, fun _ => ⟨pre.length, ?_⟩⟩
   rw [loop_eq pr 136 0 _ Tryz.f136 fn_136 _ rfl _ ann_136 _ rfl]
   simp -implicitDefEqProofs only [getD_app, lt_app, ltn_app, zero_le_cast, Int.toNat_natCast, h1, hlt, go_sem]
  | true =>
   rw [ho] at h1
   have e3 : ((k, a, ()) :: suf).all accB = suf.all accB := by simp [ho]
   rw [e3]
   refine ⟨fun h => ?_, fun h => ?_⟩
   ·have ih := i1 h
    rw [loop_eq pr 136 0 _ Tryz.f136 fn_136 _ rfl _ ann_136 _ rfl]
    simp -implicitDefEqProofs only [getD_app, lt_app, ltn_app, zero_le_cast, Int.toNat_natCast, h1, hlt, hw, go_sem]
    exact ih
   ·obtain ⟨i, ih⟩ := i2 h
    refine ⟨i, ?_⟩
    rw [loop_eq pr 136 0 _ Tryz.f136 fn_136 _ rfl _ ann_136 _ rfl]
    simp -implicitDefEqProofs only [getD_app, lt_app, ltn_app, zero_le_cast, Int.toNat_natCast, h1, hlt, hw, go_sem]
    exact ih
theorem call_cfa (xs : List Acc) (hb : xs.length < 1000000000000000000) : callOf pr 106 [LA xs, .fn 107 []] [] = some (B (!xs.all accB), []) := by
 obtain ⟨h1, h2⟩ := loop_ixa xs [] (by simpa using hb)
 simp only [List.nil_append, List.length_nil, Nat.zero_add] at h1 h2
 cases ho : xs.all accB with
 | true =>
  have h : loopOf pr 136 0 ⟨[(0, LA xs), (1, .fn 107 []), (7, I xs.length), (8, I 0)], []⟩ = some (.exit 0, ⟨[(0, LA xs), (1, .fn 107 []), (7, I xs.length), (8, I xs.length)], []⟩) := h1 ho
  have g : callOf pr 136 [LA xs, .fn 107 []] [] = some (I (-1), []) := by
   rw [call_eq pr 136 _ _ Tryz.f136 fn_136 _ rfl _ ann_136 rfl]
   simp -implicitDefEqProofs only [h, go_sem]
  rw [call_eq pr 106 _ _ Tryz.f106 fn_106 _ rfl _ ann_106 rfl]
  simp -implicitDefEqProofs only [g, go_sem]
 | false =>
  obtain ⟨i, h⟩ := h2 ho
  have h : loopOf pr 136 0 ⟨[(0, LA xs), (1, .fn 107 []), (7, I xs.length), (8, I 0)], []⟩ = some (.ret, ⟨[(4, I i)], []⟩) := h
  have g : callOf pr 136 [LA xs, .fn 107 []] [] = some (I i, []) := by
   rw [call_eq pr 136 _ _ Tryz.f136 fn_136 _ rfl _ ann_136 rfl]
   simp -implicitDefEqProofs only [h, go_sem]
  rw [call_eq pr 106 _ _ Tryz.f106 fn_106 _ rfl _ ann_106 rfl]
  simp -implicitDefEqProofs only [g, zero_le_cast, go_sem]
theorem call_vt (xs : List Acc) (hb : xs.length < 1000000000000000000) : callOf pr 50 [LA xs] [] = some (B (validT xs), []) := by
 have h := call_cfa xs hb
 rw [call_eq pr 50 _ _ Tryz.f50 fn_50 _ rfl _ ann_50 rfl]
 by_cases g : (xs.length : Int) ≤ 60
 ·have hk : validT xs = xs.all accB := by
   have : xs.length ≤ 60 := by omega
   simp [validT, this]
  simp -implicitDefEqProofs only [tr g, h, hk, Bool.not_not, go_sem]
 ·have hk : validT xs = false := by
   have : ¬ xs.length ≤ 60 := by omega
   simp [validT, this]
  simp -implicitDefEqProofs only [fa g, hk, go_sem]
theorem loop_fl (p : Int) : ∀ (suf pre kept : List Ca), pre.length + suf.length < 2000000 → kept.length ≤ pre.length →
  loopOf pr 93 0 ⟨[(0, LC (pre ++ suf)), (1, I p), (5, .os (.t 448)), (6, I pre.length)], [(448, .arr true false tyC kept)]⟩ = some (.exit 0, ⟨[(0, LC (pre ++ suf)), (1, I p), (5, .os (.t 448)), (6, I ((pre.length + suf.length : Nat) : Int))], [(448, .arr true false tyC (kept ++ suf.filter fun x => !pageAt p x))]⟩)
 | [], pre, kept, hb, hk => by
  rw [loop_eq pr 93 0 _ Tryz.f93 fn_93 _ rfl _ ann_93 _ rfl]
  simp -implicitDefEqProofs only [Int.lt_irrefl, List.append_nil, Nat.add_zero, List.filter_nil, List.length_nil, go_sem]
 | (q, f, w, ()) :: suf, pre, kept, hb, hk => by
  simp only [List.length_cons] at hb
  have hw : IntKind.i64.wrap ((pre.length : Int) + 1) = ((pre.length + 1 : Nat) : Int) := by rw [wrap_i] <;> omega
  have e1 : (pre ++ [(q, f, w, ())]).length = pre.length + 1 := by simp
  have e2 : pre.length + 1 + suf.length = pre.length + (suf.length + 1) := by omega
  have ih := fun k hk => loop_fl p suf (pre ++ [(q, f, w, ())]) k (by simp; omega) hk
  simp only [e1, e2, app_one] at ih
  rw [loop_eq pr 93 0 _ Tryz.f93 fn_93 _ rfl _ ann_93 _ rfl]
  by_cases hq : q = p
  ·have h1 : ((q, f, w, ()) :: suf).filter (fun x => !pageAt p x) = suf.filter fun x => !pageAt p x := by simp [pageAt, hq]
   rw [h1]
   subst hq
   simp -implicitDefEqProofs only [getD_app, lt_app, ltn_app, zero_le_cast, Int.toNat_natCast, hw, bne_self_eq_false, beq_self_eq_true, List.length_cons, go_sem]
   exact ih kept (by omega)
  ·have h1 : ((q, f, w, ()) :: suf).filter (fun x => !pageAt p x) = (q, f, w, ()) :: suf.filter fun x => !pageAt p x := by simp [pageAt, hq]
   have hroom : ((kept.length + 1) * 24 ≤ 140737488355328 ∧ kept.length ≤ 9223372036854775806) = True := tr (by omega)
   have hne : (q != p) = true := by simp [hq]
   have hne2 : (q == p) = false := by simp [hq]
   rw [h1]
   simp -implicitDefEqProofs only [getD_app, lt_app, ltn_app, zero_le_cast, Int.toNat_natCast, hw, fa hq, hne, hne2, hroom, List.length_cons, go_sem]
   have := ih (kept ++ [(q, f, w, ())]) (by simp; omega)
   rw [app_one] at this
   exact this
theorem call_fl (p : Int) (b : List Ca) (hb : b.length < 2000000) : callOf pr 93 [LC b, I p] [] = some (.os (.t 448), [(448, .arr true false tyC (b.filter fun x => !pageAt p x))]) := by
 have h := loop_fl p b [] [] (by simpa using hb) (by simp)
 simp only [List.nil_append, List.length_nil, Nat.zero_add] at h
 have h : loopOf pr 93 0 ⟨[(0, LC b), (1, I p), (5, .os (.t 448)), (6, I 0)], [(448, .arr true false tyC [])]⟩ = _ := h
 rw [call_eq pr 93 _ _ Tryz.f93 fn_93 _ rfl _ ann_93 rfl]
 simp -implicitDefEqProofs only [h, go_sem]
def once (b : List Ca) : Prop := b.Pairwise fun x y => x.1 ≠ y.1
theorem bufB_once : ∀ (b pre : List Ca), bufB pre b = true → (∀ x ∈ pre, ∀ y ∈ b, x.1 ≠ y.1) ∧ once b
 | [], pre, _ => ⟨by simp, List.Pairwise.nil⟩
 | c :: b, pre, h => by
  have h : (addrB c.1 && frameB c.2.1 && !pre.any (pageAt c.1) && bufB (pre ++ [c]) b) = true := h
  simp only [Bool.and_eq_true, Bool.not_eq_true', List.any_eq_false, pageAt, decide_eq_true_eq] at h
  obtain ⟨h1, h2⟩ := bufB_once b (pre ++ [c]) h.2
  refine ⟨fun x hx y hy => ?_, List.Pairwise.cons (fun y hy => h1 c (by simp) y hy) h2⟩
  rcases List.mem_cons.1 hy with rfl | hy
  ·exact h.1.2 x hx
  ·exact h1 x (by simp [hx]) y hy
def flushB (p : Int) (b : List Ca) : List Ca := b.filter fun x => !pageAt p x
theorem flush_none {p : Int} {b : List Ca} (h : b.findIdx? (pageAt p) = none) : flushB p b = b := by
 unfold flushB
 rw [List.filter_eq_self]
 intro x hx
 rw [List.findIdx?_eq_none_iff] at h
 simp [h x hx]
theorem flush_some {p : Int} : ∀ {b : List Ca} {i : Nat}, once b → b.findIdx? (pageAt p) = some i → flushB p b = b.eraseIdx i ∧ i < b.length ∧ (b.getD i zC).1 = p
 | [], i, _, h => by simp at h
 | c :: b, i, ho, h => by
  have ho' := ho
  unfold once at ho'
  rw [List.pairwise_cons] at ho'
  rw [List.findIdx?_cons] at h
  cases hc : pageAt p c with
  | true =>
   rw [hc, if_pos rfl] at h
   cases h
   have hp : c.1 = p := by simpa [pageAt] using hc
   refine ⟨?_, by simp, by simpa using hp⟩
   have : flushB p b = b := flush_none (by
    rw [List.findIdx?_eq_none_iff]
    intro x hx
    have := ho'.1 x hx
    simp only [pageAt, decide_eq_false_iff_not]
    omega)
   simp only [flushB, List.filter_cons, hc, Bool.not_true, List.eraseIdx_cons_zero] at this ⊢
   exact this
  | false =>
   rw [hc, if_neg (by simp)] at h
   cases hf : b.findIdx? (pageAt p) with
   | none => rw [hf] at h; cases h
   | some j =>
    rw [hf] at h
    cases h
    obtain ⟨h1, h2, h3⟩ := flush_some (b := b) ho'.2 hf
    refine ⟨?_, by simp; omega, by simpa using h3⟩
    simp only [flushB, List.filter_cons, hc, Bool.not_false, if_true, List.eraseIdx_cons_succ] at h1 ⊢
    rw [h1]
theorem once_flush {p : Int} {b : List Ca} (h : once b) : once (flushB p b) := List.Pairwise.filter _ h
theorem once_cons {p f : Int} {w : Bool} {b : List Ca} (h : once b) : once ((p, f, w, ()) :: flushB p b) := by
 refine List.Pairwise.cons (fun y hy => ?_) (once_flush h)
 have := (List.mem_filter.1 hy).2
 simp only [pageAt, Bool.not_eq_true', decide_eq_false_iff_not] at this
 exact fun e => this e.symm
def useR (r : List Int) (t : List (List En)) (b : List Ca) (k p : Int) : Int × Int × List (List En) × List Ca :=
 match b.findIdx? (pageAt p) with
 | none => if (walkS r t p).1 < 0 then (2, -1, t, b) else if (decide (k = 1) && !(walkS r t p).2.1) = true then (3, -1, t, b)
   else (1, (walkS r t p).1, usedT r t p (decide (k = 1)), ((p, (walkS r t p).1, (walkS r t p).2.1, ()) :: b).take 4)
 | some i => if (decide (k = 1) && !(b.getD i zC).2.2.1) = true then (3, -1, t, b.getD i zC :: b.eraseIdx i)
   else (0, (b.getD i zC).2.1, usedT r t p (decide (k = 1)), b.getD i zC :: b.eraseIdx i)
theorem find_none {b : List Ca} {p : Int} (h : b.findIdx? (pageAt p) = none) : findP b p = -1 := by simp [findP, h]
theorem find_some {b : List Ca} {p : Int} {i : Nat} (h : b.findIdx? (pageAt p) = some i) : findP b p = (i : Int) := by simp [findP, h]
structure Fit (r : List Int) (t : List (List En)) (b : List Ca) : Prop where
 root : r.length = 8
 refs : ∀ x ∈ r, -1 ≤ x ∧ x ≤ (t.length : Int) - 1
 rows : ∀ x ∈ t, x.length = 8
 few : t.length ≤ 9
 buf : b.length ≤ 4
 one : once b
theorem usedT_fit {r : List Int} {t : List (List En)} {b : List Ca} {p : Int} (w : Bool) (ha : addrB p = true) (h : Fit r t b) : (usedT r t p w).length = t.length ∧ ∀ x ∈ usedT r t p w, x.length = 8 := by
 unfold usedT
 split
 ·exact ⟨rfl, h.rows⟩
 ·rename_i he
  have h0 := walk_pos he
  obtain ⟨hq, hm, hi, hj⟩ := page_facts ha
  obtain ⟨g1, g2, g3⟩ := root_facts h.root hi h.refs h.rows h0
  exact ⟨putT_length .., putT_rows h.rows g3⟩
theorem Fit.use {r : List Int} {t : List (List En)} {b : List Ca} (k : Int) {p : Int} (ha : addrB p = true) (h : Fit r t b) : Fit r (useR r t b k p).2.2.1 (useR r t b k p).2.2.2 := by
 have u := usedT_fit (decide (k = 1)) ha h
 unfold useR
 split
 ·rename_i hf
  split
  ·exact h
  ·split
   ·exact h
   ·refine ⟨h.root, by simp only; rw [u.1]; exact h.refs, u.2, by simp only; rw [u.1]; exact h.few, by simp only [List.length_take]; omega, ?_⟩
    have := once_cons (p := p) (f := (walkS r t p).1) (w := (walkS r t p).2.1) h.one
    rw [flush_none hf] at this
    exact List.Pairwise.sublist (List.take_sublist _ _) this
 ·rename_i i hf
  obtain ⟨f1, f2, f3⟩ := flush_some h.one hf
  have hl : (b.getD i zC :: b.eraseIdx i).length ≤ 4 := by rw [List.length_cons, List.length_eraseIdx, if_pos f2]; have := h.buf; omega
  have ho : once (b.getD i zC :: b.eraseIdx i) := by
   rw [← f1]
   have := once_cons (p := p) (f := (b.getD i zC).2.1) (w := (b.getD i zC).2.2.1) h.one
   have e : (p, (b.getD i zC).2.1, (b.getD i zC).2.2.1, ()) = b.getD i zC := by rw [← f3]
   rwa [e] at this
  split
  ·exact ⟨h.root, h.refs, h.rows, h.few, hl, ho⟩
  ·exact ⟨h.root, by simp only; rw [u.1]; exact h.refs, u.2, by simp only; rw [u.1]; exact h.few, hl, ho⟩
def LuV (r : List Int) (t' : List (List En)) (b' : List Ca) (o f : Int) (x : Option (AV × Heap)) : Prop :=
 x = some (.tuple [.agg [.os (.t 896), .os (.t 898), .os (.t 897)], I o, I f], [(896, .arr true false (.int .i64) r), (897, .arr true false tyC b'), (898, .arr true true (.slice tyE) t')]) ∨ x = some (.tuple [.agg [.os (.t 6336), .os (.t 6338), .os (.t 6337)], I o, I f], [(6336, .arr true false (.int .i64) r), (6337, .arr true false tyC b'), (6338, .arr true true (.slice tyE) t')]) ∨ x = some (.tuple [.agg [.os (.t 896), .os (.t 898), .os (.t 3904)], I o, I f], [(896, .arr true false (.int .i64) r), (898, .arr true true (.slice tyE) t'), (3904, .arr true false tyC b')])
theorem lu_none (r : List Int) (t : List (List En)) (b : List Ca) (k p : Int) (ha : addrB p = true) (hF : Fit r t b) (hf : b.findIdx? (pageAt p) = none) (he : (walkS r t p).1 < 0) : LuV r t b 2 (-1) (callOf pr 45 [.rp [L r, LLE t, LC b], .agg [I k, I p]] []) := by
 have h1 := call_so r t b (by have := hF.root; omega) (by have := hF.few; omega) (fun x hx => by rw [hF.rows x hx]; omega) (by have := hF.buf; omega)
 have h2 := call_wk r t b p ha hF.root hF.refs hF.rows
 have h3 := call_fd b p (by have := hF.buf; omega)
 rw [find_none hf] at h3
 obtain ⟨⟨ef, ew, eu, ed, ⟨⟩⟩, hE⟩ : ∃ e, walkS r t p = e := ⟨_, rfl⟩
 rw [hE] at h2 he
 refine .inl ?_
 rw [call_eq pr 45 _ _ Tryz.f45 fn_45 _ rfl _ ann_45 rfl]
 by_cases hk : k = 1
 ·subst hk
  simp -implicitDefEqProofs only [h1, h2, h3, tr he, go_sem]
 ·simp -implicitDefEqProofs only [h1, h2, h3, tr he, fa hk, go_sem]
theorem lu_deny (r : List Int) (t : List (List En)) (b : List Ca) (k p : Int) (ha : addrB p = true) (hF : Fit r t b) (hf : b.findIdx? (pageAt p) = none) (he : ¬ (walkS r t p).1 < 0) (hw : (decide (k = 1) && !(walkS r t p).2.1) = true) : LuV r t b 3 (-1) (callOf pr 45 [.rp [L r, LLE t, LC b], .agg [I k, I p]] []) := by
 have h1 := call_so r t b (by have := hF.root; omega) (by have := hF.few; omega) (fun x hx => by rw [hF.rows x hx]; omega) (by have := hF.buf; omega)
 have h2 := call_wk r t b p ha hF.root hF.refs hF.rows
 have h3 := call_fd b p (by have := hF.buf; omega)
 rw [find_none hf] at h3
 obtain ⟨⟨ef, ew, eu, ed, ⟨⟩⟩, hE⟩ : ∃ e, walkS r t p = e := ⟨_, rfl⟩
 rw [hE] at h2 he hw
 refine .inl ?_
 rw [call_eq pr 45 _ _ Tryz.f45 fn_45 _ rfl _ ann_45 rfl]
 simp only [Bool.and_eq_true, decide_eq_true_eq, Bool.not_eq_true'] at hw
 obtain ⟨hk, hw2⟩ := hw
 subst hk hw2
 simp -implicitDefEqProofs only [h1, h2, h3, fa he, go_sem]
theorem lu_fill (r : List Int) (t : List (List En)) (b : List Ca) (k p : Int) (ha : addrB p = true) (hF : Fit r t b) (hf : b.findIdx? (pageAt p) = none) (he : ¬ (walkS r t p).1 < 0) (hw : (decide (k = 1) && !(walkS r t p).2.1) = false) : LuV r (usedT r t p (decide (k = 1))) (((p, (walkS r t p).1, (walkS r t p).2.1, ()) :: b).take 4) 1 (walkS r t p).1 (callOf pr 45 [.rp [L r, LLE t, LC b], .agg [I k, I p]] []) := by
 have h1 := call_so r t b (by have := hF.root; omega) (by have := hF.few; omega) (fun x hx => by rw [hF.rows x hx]; omega) (by have := hF.buf; omega)
 have h2 := call_wk r t b p ha hF.root hF.refs hF.rows
 have h3 := call_fd b p (by have := hF.buf; omega)
 have h4 := call_fl p b (by have := hF.buf; omega)
 rw [find_none hf] at h3
 have hfl : (b.filter fun x => !pageAt p x) = b := flush_none hf
 rw [hfl] at h4
 have h0 := walk_pos he
 have hu : ∀ w, usedT r t p w = putT r t p (usedE (walkS r t p) w) := fun w => if_neg he
 rw [hu]
 obtain ⟨⟨ef, ew, eu, ed, ⟨⟩⟩, hE⟩ : ∃ e, walkS r t p = e := ⟨_, rfl⟩
 rw [hE] at h2 he hw ⊢
 have hroom : ((1 + b.length) * 24 ≤ 140737488355328 ∧ 1 + b.length ≤ 9223372036854775807) = True := tr (by have := hF.buf; omega)
 have hge : (0 ≤ ef) = True := tr (by have := he; simp only at this; omega)
 have h5 := call_pu r t (((p, ef, ew, ()) :: b).take 4) p ha hF.root hF.refs hF.rows (by simp only [List.length_take]; omega) (by have := hF.few; omega) h0
 refine .inr (.inl ?_)
 rw [call_eq pr 45 _ _ Tryz.f45 fn_45 _ rfl _ ann_45 rfl]
 by_cases h4b : b.length < 4
 ·have hb5 : (((b.length + 1 : Nat) : Int) > 4) = False := fa (by omega)
  have htk : ((p, ef, ew, ()) :: b).take 4 = (p, ef, ew, ()) :: b := List.take_of_length_le (by simp only [List.length_cons]; omega)
  rw [htk] at h5 ⊢
  by_cases hk : k = 1
  ·subst hk
   cases ew with
   | false => simp at hw
   | true => cases ed <;> simp -implicitDefEqProofs only [h1, h2, h3, h4, fa he, hb5, hroom, h5, hge, go_sem] <;> rfl
  ·have hk2 : decide (k = 1) = false := by simp [hk]
   cases ed <;> simp -implicitDefEqProofs only [h1, h2, h3, h4, fa he, fa hk, hk2, hb5, hroom, h5, hge, go_sem] <;> rfl
 ·have hb5 : (((b.length + 1 : Nat) : Int) > 4) = True := tr (by omega)
  have hb6 : (4 ≤ b.length + 1) = True := tr (by omega)
  have hb7 : ((4 : Int) ≤ ((b.length + 1 : Nat) : Int)) = True := tr (by omega)
  have htk : ((p, ef, ew, ()) :: b).take 4 = (p, ef, ew, ()) :: b.take 3 := rfl
  rw [htk] at h5 ⊢
  by_cases hk : k = 1
  ·subst hk
   cases ew with
   | false => simp at hw
   | true => cases ed <;> simp -implicitDefEqProofs only [h1, h2, h3, h4, fa he, hb5, hb6, hb7, hroom, h5, hge, List.drop_zero, go_sem] <;> rfl
  ·have hk2 : decide (k = 1) = false := by simp [hk]
   cases ed <;> simp -implicitDefEqProofs only [h1, h2, h3, h4, fa he, fa hk, hk2, hb5, hb6, hb7, hroom, h5, hge, List.drop_zero, go_sem] <;> rfl
theorem lu_hit (r : List Int) (t : List (List En)) (b : List Ca) (k p : Int) (ha : addrB p = true) (hF : Fit r t b) (i : Nat) (hf : b.findIdx? (pageAt p) = some i) (q cf : Int) (cw : Bool) (hc : b.getD i zC = (q, cf, cw, ())) :
  if (decide (k = 1) && !cw) = true then LuV r t ((q, cf, cw, ()) :: b.eraseIdx i) 3 (-1) (callOf pr 45 [.rp [L r, LLE t, LC b], .agg [I k, I p]] [])
  else LuV r (usedT r t p (decide (k = 1))) ((q, cf, cw, ()) :: b.eraseIdx i) 0 cf (callOf pr 45 [.rp [L r, LLE t, LC b], .agg [I k, I p]] []) := by
 have h1 := call_so r t b (by have := hF.root; omega) (by have := hF.few; omega) (fun x hx => by rw [hF.rows x hx]; omega) (by have := hF.buf; omega)
 have h2 := call_wk r t b p ha hF.root hF.refs hF.rows
 have h3 := call_fd b p (by have := hF.buf; omega)
 have h4 := call_fl p b (by have := hF.buf; omega)
 rw [find_some hf] at h3
 obtain ⟨f1, f2, f3⟩ := flush_some hF.one hf
 rw [show (b.filter fun x => !pageAt p x) = b.eraseIdx i from f1] at h4
 have hl : (b.eraseIdx i).length ≤ 3 := by rw [List.length_eraseIdx, if_pos f2]; have := hF.buf; omega
 have hroom : ((1 + (b.eraseIdx i).length) * 24 ≤ 140737488355328 ∧ 1 + (b.eraseIdx i).length ≤ 9223372036854775807) = True := tr (by omega)
 have hb5 : ((((b.eraseIdx i).length + 1 : Nat) : Int) > 4) = False := fa (by omega)
 have hge : ((i : Int) ≥ 0) = True := tr (by omega)
 have hlt : (i < b.length) = True := tr f2
 have hlt' : ((i : Int) < (b.length : Int)) = True := tr (by omega)
 have hn : ((i : Int) < 0) = False := fa (by omega)
 obtain ⟨⟨ef, ew, eu, ed, ⟨⟩⟩, hE⟩ : ∃ e, walkS r t p = e := ⟨_, rfl⟩
 have hu : ∀ w, usedT r t p w = if ef < 0 then t else putT r t p (ef, ew, true, ed || w, ()) := fun w => by rw [usedT, hE]; rfl
 simp only [hu]
 have h0 : ¬ ef < 0 → ¬ rootAt r p < 0 := fun h => walk_pos (by rw [hE]; exact h)
 have h5 := fun hh => call_pu r t ((q, cf, cw, ()) :: b.eraseIdx i) p ha hF.root hF.refs hF.rows (by simp only [List.length_cons]; omega) (by have := hF.few; omega) (h0 hh)
 rw [hE] at h2
 by_cases hk : k = 1
 ·subst hk
  cases cw with
  | false =>
   refine .inr (.inr ?_)
   rw [call_eq pr 45 _ _ Tryz.f45 fn_45 _ rfl _ ann_45 rfl]
   simp -implicitDefEqProofs only [h1, h2, h3, h4, hb5, hroom, hge, hlt, hlt', hn, zero_le_cast, Int.toNat_natCast, hc, go_sem]
  | true =>
   by_cases he : ef < 0
   ·simp only [if_pos he]
    have h6 : (ef ≥ 0) = False := fa (by omega)
    have h6' : (0 ≤ ef) = False := fa (by omega)
    refine .inr (.inr ?_)
    rw [call_eq pr 45 _ _ Tryz.f45 fn_45 _ rfl _ ann_45 rfl]
    simp -implicitDefEqProofs only [h1, h2, h3, h4, hb5, hroom, hge, hlt, hlt', hn, zero_le_cast, Int.toNat_natCast, hc, h6, h6', go_sem]
   ·simp only [if_neg he]
    have h6 : (ef ≥ 0) = True := tr (by omega)
    have h6' : (0 ≤ ef) = True := tr (by omega)
    have h7 := h5 he
    refine .inr (.inl ?_)
    rw [call_eq pr 45 _ _ Tryz.f45 fn_45 _ rfl _ ann_45 rfl]
    cases ed <;> simp -implicitDefEqProofs only [h1, h2, h3, h4, hb5, hroom, hge, hlt, hlt', hn, zero_le_cast, Int.toNat_natCast, hc, h6, h6', h7, go_sem] <;> rfl
 ·have hk2 : decide (k = 1) = false := by simp [hk]
  rw [hk2, if_neg (by simp)]
  by_cases he : ef < 0
  ·simp only [if_pos he]
   have h6 : (ef ≥ 0) = False := fa (by omega)
   have h6' : (0 ≤ ef) = False := fa (by omega)
   refine .inr (.inr ?_)
   rw [call_eq pr 45 _ _ Tryz.f45 fn_45 _ rfl _ ann_45 rfl]
   simp -implicitDefEqProofs only [h1, h2, h3, h4, hb5, hroom, hge, hlt, hlt', hn, zero_le_cast, Int.toNat_natCast, hc, fa hk, hk2, h6, h6', go_sem]
  ·simp only [if_neg he]
   have h6 : (ef ≥ 0) = True := tr (by omega)
   have h6' : (0 ≤ ef) = True := tr (by omega)
   have h7 := h5 he
   refine .inr (.inl ?_)
   rw [call_eq pr 45 _ _ Tryz.f45 fn_45 _ rfl _ ann_45 rfl]
   cases ed <;> simp -implicitDefEqProofs only [h1, h2, h3, h4, hb5, hroom, hge, hlt, hlt', hn, zero_le_cast, Int.toNat_natCast, hc, fa hk, hk2, h6, h6', h7, go_sem] <;> rfl
theorem call_lu (r : List Int) (t : List (List En)) (b : List Ca) (k p : Int) (ha : addrB p = true) (hF : Fit r t b) : LuV r (useR r t b k p).2.2.1 (useR r t b k p).2.2.2 (useR r t b k p).1 (useR r t b k p).2.1 (callOf pr 45 [.rp [L r, LLE t, LC b], .agg [I k, I p]] []) := by
 unfold useR
 split
 ·rename_i hf
  split
  ·exact lu_none r t b k p ha hF hf (by assumption)
  ·rename_i he
   split
   ·rename_i hw; exact lu_deny r t b k p ha hF hf he hw
   ·rename_i hw; exact lu_fill r t b k p ha hF hf he (by simpa using hw)
 ·rename_i i hf
  obtain ⟨⟨q, cf, cw, ⟨⟩⟩, hc⟩ : ∃ c, b.getD i zC = c := ⟨_, rfl⟩
  have h := lu_hit r t b k p ha hF i hf q cf cw hc
  rw [hc]
  split
  ·rename_i hh; rw [if_pos hh] at h; exact h
  ·rename_i hh; rw [if_neg hh] at h; exact h
end Go.Proofs.YtbapbghnageckaaGreat.PI
