/- A page is used, in the program. -/
import Derived.Test.YtbapbghnageckaaGreatU7
namespace Go.Proofs.YtbapbghnageckaaGreat.PI
open Go Go.Q
set_option maxRecDepth 100000
set_option maxHeartbeats 4000000
set_option linter.unusedSimpArgs false
set_option linter.unusedVariables false
theorem refs_nil {r : List Int} {b : List Ca} (hF : Fit r [] b) : ∀ x ∈ r, -1 ≤ x ∧ x ≤ -1 := fun x hx => by have := hF.refs x hx; simpa using this
theorem walk_empty {r : List Int} {b : List Ca} {p : Int} (ha : addrB p = true) (hF : Fit r [] b) : (walkS r [] p).1 < 0 := by
 rw [walk_neg ha hF.root (refs_nil hF)]; decide
theorem use_00 (r : List Int) (k p : Int) (ha : addrB p = true) (hF : Fit r [] []) :
  callOf pr 52 [.op 1000000 0, .agg [I k, I p]] [(1000000, .box [.os (.t 1000001), .nilS, .empS]), (1000001, .arr false false (.int .i64) r)] =
   some (.tuple [I (useR r [] [] k p).1, I (useR r [] [] k p).2.1], [(1000000, .box [.os (.t 1000001), .nilS, .empS]), (1000001, .arr false false (.int .i64) r)]) ∧ (useR r [] [] k p).2.2 = ([], []) := by
 have e : useR r [] [] k p = (2, -1, [], []) := by
  simp only [useR, List.findIdx?_nil, if_pos (walk_empty ha hF)]
 rw [e]
 exact ⟨call_none00 k r [] [] p ha hF.root (refs_nil hF) rfl (by simp) rfl, rfl⟩
theorem use_01 (r : List Int) (b : List Ca) (k p : Int) (ha : addrB p = true) (hF : Fit r [] b) :
  (∃ m, callOf pr 52 [.op 1000000 0, .agg [I k, I p]] [(1000000, .box [.os (.t 1000001), .nilS, .os (.t 1000002)]), (1000001, .arr false false (.int .i64) r), (1000002, .arr false false tyC b)] =
   some (.tuple [I (useR r [] b k p).1, I (useR r [] b k p).2.1], [(1000000, .box [.os (.t 1000001), .nilS, .os (.t 1000002)]), (1000001, .arr false false (.int .i64) r), (1000002, .arr m false tyC (useR r [] b k p).2.2.2)])) ∧ (useR r [] b k p).2.2.1 = [] := by
 have u : ∀ w, usedT r [] p w = [] := usedT_nil ha hF.root (refs_nil hF)
 unfold useR
 split
 ·rename_i hf
  rw [if_pos (walk_empty ha hF)]
  exact ⟨⟨false, call_none01 k r b b p ha hF.root (refs_nil hF) rfl hF.buf (find_none hf)⟩, rfl⟩
 ·rename_i i hf
  obtain ⟨f1, f2, f3⟩ := flush_some hF.one hf
  obtain ⟨⟨q, cf, cw, ⟨⟩⟩, hc⟩ : ∃ c, b.getD i zC = c := ⟨_, rfl⟩
  have h := call_hit01 k i q cf cw r b b p ha hF.root (refs_nil hF) rfl hF.buf (find_some hf) f2 hc
  rw [hc]
  split
  ·rename_i hh; rw [if_pos hh] at h; exact ⟨⟨true, h⟩, rfl⟩
  ·rename_i hh; rw [if_neg hh] at h; exact ⟨⟨true, h⟩, u _⟩
theorem use_10 (r : List Int) (t : List (List En)) (k p : Int) (ha : addrB p = true) (hF : Fit r t []) :
  (callOf pr 52 [.op 1000000 0, .agg [I k, I p]] [(1000000, .box [.os (.t 1000001), .os (.t 1000002), .empS]), (1000001, .arr false false (.int .i64) r), (1000002, .arr false true (.slice tyE) t)] =
   some (.tuple [I (useR r t [] k p).1, I (useR r t [] k p).2.1], [(1000000, .box [.os (.t 1000001), .os (.t 1000002), .empS]), (1000001, .arr false false (.int .i64) r), (1000002, .arr false true (.slice tyE) (useR r t [] k p).2.2.1)]) ∧ (useR r t [] k p).2.2.2 = []) ∨
  (callOf pr 52 [.op 1000000 0, .agg [I k, I p]] [(1000000, .box [.os (.t 1000001), .os (.t 1000002), .empS]), (1000001, .arr false false (.int .i64) r), (1000002, .arr false true (.slice tyE) t)] =
   some (.tuple [I (useR r t [] k p).1, I (useR r t [] k p).2.1], [(1000000, .box [.os (.t 1000001), .os (.t 1000002), .sub (.t 5696) 0 1]), (1000001, .arr false false (.int .i64) r), (1000002, .arr false true (.slice tyE) (useR r t [] k p).2.2.1), (5696, .arr true false tyC (useR r t [] k p).2.2.2)]) ∧ (useR r t [] k p).2.2.2.length = 1) := by
 simp only [useR, List.findIdx?_nil]
 by_cases he : (walkS r t p).1 < 0
 ·simp only [if_pos he]
  exact .inl ⟨call_none10 k r t [] [] p ha hF.root hF.refs hF.rows rfl (by simp) rfl he, trivial⟩
 ·simp only [if_neg he]
  by_cases hw : (decide (k = 1) && !(walkS r t p).2.1) = true
  ·simp only [if_pos hw]
   have hw' := hw
   simp only [Bool.and_eq_true, decide_eq_true_eq, Bool.not_eq_true'] at hw'
   obtain ⟨hk, hw2⟩ := hw'
   subst hk
   exact .inl ⟨call_deny10 r t [] [] p ha hF.root hF.refs hF.rows rfl (by simp) rfl he hw2, trivial⟩
  ·simp only [if_neg hw]
   exact .inr ⟨call_fill10 k r t [] [] p ha hF.root hF.refs hF.rows rfl (by simp) rfl he (by simpa using hw), rfl⟩
def InArr (id : Nat) (bv : AV) (b bs : List Ca) : Prop := (bv = .os (.t id) ∧ b = bs) ∨ (bv = .sub (.t id) 0 b.length ∧ bs.take b.length = b ∧ 0 < b.length)
theorem use_1x (r : List Int) (t : List (List En)) (b bs : List Ca) (bv : AV) (hI : InArr 1000003 bv b bs) (k p : Int) (ha : addrB p = true) (hF : Fit r t b) :
  ∃ m bv' bs', InArr 1000003 bv' (useR r t b k p).2.2.2 bs' ∧ callOf pr 52 [.op 1000000 0, .agg [I k, I p]] [(1000000, .box [.os (.t 1000001), .os (.t 1000002), bv]), (1000001, .arr false false (.int .i64) r), (1000002, .arr false true (.slice tyE) t), (1000003, .arr false false tyC bs)] =
   some (.tuple [I (useR r t b k p).1, I (useR r t b k p).2.1], [(1000000, .box [.os (.t 1000001), .os (.t 1000002), bv']), (1000001, .arr false false (.int .i64) r), (1000002, .arr false true (.slice tyE) (useR r t b k p).2.2.1), (1000003, .arr m false tyC bs')]) := by
 unfold useR
 split
 ·rename_i hf
  have hf' := find_none hf
  by_cases he : (walkS r t p).1 < 0
  ·simp only [if_pos he]
   rcases hI with ⟨rfl, h2⟩ | ⟨rfl, h2, h3⟩
   ·exact ⟨false, _, bs, .inl ⟨rfl, h2⟩, call_none11 k r t b bs p ha hF.root hF.refs hF.rows h2 hF.buf hf' he⟩
   ·exact ⟨false, _, bs, .inr ⟨rfl, h2, h3⟩, call_none12 k r t b bs p ha hF.root hF.refs hF.rows h2 hF.buf hf' he⟩
  ·simp only [if_neg he]
   by_cases hw : (decide (k = 1) && !(walkS r t p).2.1) = true
   ·simp only [if_pos hw]
    have hw' := hw
    simp only [Bool.and_eq_true, decide_eq_true_eq, Bool.not_eq_true'] at hw'
    obtain ⟨hk, hw2⟩ := hw'
    subst hk
    rcases hI with ⟨rfl, h2⟩ | ⟨rfl, h2, h3⟩
    ·exact ⟨false, _, bs, .inl ⟨rfl, h2⟩, call_deny11 r t b bs p ha hF.root hF.refs hF.rows h2 hF.buf hf' he hw2⟩
    ·exact ⟨false, _, bs, .inr ⟨rfl, h2, h3⟩, call_deny12 r t b bs p ha hF.root hF.refs hF.rows h2 hF.buf hf' he hw2⟩
   ·simp only [if_neg hw]
    have hw' : (decide (k = 1) && !(walkS r t p).2.1) = false := by simpa using hw
    have hlen : min (b.length + 1) 4 = (((p, (walkS r t p).1, (walkS r t p).2.1, ()) :: b).take 4).length := by simp only [List.length_take, List.length_cons]; omega
    have htk : ((p, (walkS r t p).1, (walkS r t p).2.1, ()) :: b).take (((p, (walkS r t p).1, (walkS r t p).2.1, ()) :: b).take 4).length = ((p, (walkS r t p).1, (walkS r t p).2.1, ()) :: b).take 4 := by
     rw [List.length_take]
     by_cases h : ((p, (walkS r t p).1, (walkS r t p).2.1, ()) :: b).length ≤ 4
     ·rw [Nat.min_eq_right h, List.take_length, List.take_of_length_le h]
     ·rw [Nat.min_eq_left (by omega)]
    rcases hI with ⟨rfl, h2⟩ | ⟨rfl, h2, h3⟩
    ·have h := call_fill11 k r t b bs p ha hF.root hF.refs hF.rows h2 hF.buf hf' he hw'
     rw [hlen] at h
     exact ⟨true, _, _, .inr ⟨rfl, htk, by simp only [List.length_take, List.length_cons]; omega⟩, h⟩
    ·have h := call_fill12 k r t b bs p ha hF.root hF.refs hF.rows h2 hF.buf hf' he hw'
     rw [hlen] at h
     exact ⟨true, _, _, .inr ⟨rfl, htk, by simp only [List.length_take, List.length_cons]; omega⟩, h⟩
 ·rename_i i hf
  obtain ⟨f1, f2, f3⟩ := flush_some hF.one hf
  obtain ⟨⟨q, cf, cw, ⟨⟩⟩, hc⟩ : ∃ c, b.getD i zC = c := ⟨_, rfl⟩
  rw [hc]
  have h : _ := fun (h2 : b = bs) => call_hit11 k i q cf cw r t b bs p ha hF.root hF.refs hF.rows h2 hF.buf (find_some hf) f2 hc
  have h' : _ := fun (h2 : bs.take b.length = b) => call_hit12 k i q cf cw r t b bs p ha hF.root hF.refs hF.rows h2 hF.buf (find_some hf) f2 hc
  split
  ·rename_i hh
   simp only [if_pos hh] at h h'
   rcases hI with ⟨rfl, h2⟩ | ⟨rfl, h2, h3⟩
   ·exact ⟨true, _, _, .inl ⟨rfl, rfl⟩, h h2⟩
   ·exact ⟨true, _, _, .inl ⟨rfl, rfl⟩, h' h2⟩
  ·rename_i hh
   simp only [if_neg hh] at h h'
   rcases hI with ⟨rfl, h2⟩ | ⟨rfl, h2, h3⟩
   ·exact ⟨true, _, _, .inl ⟨rfl, rfl⟩, h h2⟩
   ·exact ⟨true, _, _, .inl ⟨rfl, rfl⟩, h' h2⟩
attribute [local go_sem] Nat.reduceAdd Nat.reduceSub Nat.reduceMul Nat.reduceMod Nat.reduceLT Nat.reduceLeDiff Nat.reduceEqDiff Nat.reduceBEq Nat.reduceDiv Int.reduceLT Int.reduceLE Int.reduceToNat Int.reduceNeg Int.reduceEq reduceCtorEq
attribute [local go_sem ↓] reduceIte reduceDIte
theorem fit_spec {r : List Int} {t : List (List En)} {b : List Ca} (hs : specS r t b = true) : Fit r t b := by
 obtain ⟨s1, s2, s3, s4, s5⟩ := spec_tab hs
 have hb : bufB [] b = true := by simp only [specS, Bool.and_eq_true] at hs; exact hs.2
 exact ⟨s1, s4, s3, by omega, by omega, (bufB_once b [] hb).2⟩
def useC (r : List Int) (t : List (List En)) (b : List Ca) (k p : Int) : Bool := specS r t b && accB (k, p, ())
theorem call_iu (r : List Int) (t : List (List En)) (b : List Ca) (k p : Int) (hr : r.length < 2000000) (ht : t.length < 2000000) (hx : ∀ x ∈ t, x.length < 2000000) (hb : b.length < 2000000) : if useC r t b k p = true then
   ((useR r t b k p).2.2.1 = [] ∧ (useR r t b k p).2.2.2 = [] ∧ callOf pr 11 [.agg [L r, LLE t, LC b], .agg [I k, I p]] [] = some (.tuple [.agg [.os (.t 1408), .nilS, .empS], I (useR r t b k p).1, I (useR r t b k p).2.1, B true], [(1408, .arr true false (.int .i64) r)])) ∨
   ((useR r t b k p).2.2.1 = [] ∧ callOf pr 11 [.agg [L r, LLE t, LC b], .agg [I k, I p]] [] = some (.tuple [.agg [.os (.t 1408), .nilS, .os (.t 1409)], I (useR r t b k p).1, I (useR r t b k p).2.1, B true], [(1408, .arr true false (.int .i64) r), (1409, .arr true false tyC (useR r t b k p).2.2.2)])) ∨
   ((useR r t b k p).2.2.2 = [] ∧ callOf pr 11 [.agg [L r, LLE t, LC b], .agg [I k, I p]] [] = some (.tuple [.agg [.os (.t 1408), .os (.t 1409), .empS], I (useR r t b k p).1, I (useR r t b k p).2.1, B true], [(1408, .arr true false (.int .i64) r), (1409, .arr true true (.slice tyE) (useR r t b k p).2.2.1)])) ∨
   (callOf pr 11 [.agg [L r, LLE t, LC b], .agg [I k, I p]] [] = some (.tuple [.agg [.os (.t 1408), .os (.t 1409), .os (.t 1600)], I (useR r t b k p).1, I (useR r t b k p).2.1, B true], [(1408, .arr true false (.int .i64) r), (1409, .arr true true (.slice tyE) (useR r t b k p).2.2.1), (1600, .arr true false tyC (useR r t b k p).2.2.2)])) ∨
   (callOf pr 11 [.agg [L r, LLE t, LC b], .agg [I k, I p]] [] = some (.tuple [.agg [.os (.t 1408), .os (.t 1410), .os (.t 1409)], I (useR r t b k p).1, I (useR r t b k p).2.1, B true], [(1408, .arr true false (.int .i64) r), (1409, .arr true false tyC (useR r t b k p).2.2.2), (1410, .arr true true (.slice tyE) (useR r t b k p).2.2.1)]))
  else callOf pr 11 [.agg [L r, LLE t, LC b], .agg [I k, I p]] [] = some (.tuple [.agg [.nilS, .nilS, .nilS], I 0, I 0, B false], []) := by
 have h1 := call_vs r t b hr ht hx hb
 rw [← space_eq] at h1
 have h2 := call_vt [(k, p, ())] (by simp)
 have hv : validT [(k, p, ())] = accB (k, p, ()) := by simp [validT]
 rw [hv] at h2
 cases hs : specS r t b with
 | false =>
  rw [hs] at h1
  rw [if_neg (by simp [useC, hs])]
  rw [call_eq pr 11 _ _ Tryz.f11 fn_11 _ rfl _ ann_11 rfl]
  simp -implicitDefEqProofs only [h1, go_sem]
 | true =>
  rw [hs] at h1
  cases ha : accB (k, p, ()) with
  | false =>
   rw [ha] at h2
   rw [if_neg (by simp [useC, ha])]
   rw [call_eq pr 11 _ _ Tryz.f11 fn_11 _ rfl _ ann_11 rfl]
   simp -implicitDefEqProofs only [h1, h2, go_sem]
  | true =>
   rw [ha] at h2
   rw [if_pos (by simp [useC, ha, hs])]
   have hF := fit_spec hs
   have hp : addrB p = true := by simp only [accB, Bool.and_eq_true] at ha; exact ha.2
   rcases clone4 r t b hF.root hb (by have := hF.few; omega) hF.rows with ⟨rfl, rfl, h3⟩ | ⟨rfl, h3⟩ | ⟨rfl, ht0, h3⟩ | ⟨ht0, h3⟩
   ·obtain ⟨h4, h5⟩ := use_00 r k p hp hF
    refine .inl ⟨by rw [h5], by rw [h5], ?_⟩
    rw [call_eq pr 11 _ _ Tryz.f11 fn_11 _ rfl _ ann_11 rfl]
    simp -implicitDefEqProofs only [h1, h2, h3, h4, go_sem]
   ·obtain ⟨⟨m, h4⟩, h5⟩ := use_01 r b k p hp hF
    refine .inr (.inl ⟨h5, ?_⟩)
    rw [call_eq pr 11 _ _ Tryz.f11 fn_11 _ rfl _ ann_11 rfl]
    cases m <;> simp -implicitDefEqProofs only [h1, h2, h3, h4, go_sem]
   ·rcases use_10 r t k p hp hF with ⟨h4, h5⟩ | ⟨h4, h5⟩
    ·refine .inr (.inr (.inl ⟨h5, ?_⟩))
     rw [call_eq pr 11 _ _ Tryz.f11 fn_11 _ rfl _ ann_11 rfl]
     simp -implicitDefEqProofs only [h1, h2, h3, h4, go_sem]
    ·refine .inr (.inr (.inr (.inl ?_)))
     obtain ⟨c, hc⟩ := List.length_eq_one_iff.1 h5
     rw [hc] at h4 ⊢
     rw [call_eq pr 11 _ _ Tryz.f11 fn_11 _ rfl _ ann_11 rfl]
     simp -implicitDefEqProofs only [h1, h2, h3, h4, List.length_cons, List.length_nil, go_sem]
   ·obtain ⟨m, bv, bs, h5, h4⟩ := use_1x r t b b (.os (.t 1000003)) (.inl ⟨rfl, rfl⟩) k p hp hF
    refine .inr (.inr (.inr (.inr ?_)))
    rw [call_eq pr 11 _ _ Tryz.f11 fn_11 _ rfl _ ann_11 rfl]
    rcases h5 with ⟨rfl, h5⟩ | ⟨rfl, h5, h6⟩
    ·rw [h5]
     cases m <;> simp -implicitDefEqProofs only [h1, h2, h3, h4, go_sem]
    ·have hl : (useR r t b k p).2.2.2.length ≤ bs.length := by have := congrArg List.length h5; rw [List.length_take] at this; omega
     have h7 : (0 + (useR r t b k p).2.2.2.length ≤ bs.length ∧ 0 < bs.length) = True := tr ⟨by omega, by omega⟩
     cases m <;> simp -implicitDefEqProofs only [h1, h2, h3, h4, h7, h5, go_sem]
def runS (r : List Int) : List Acc → List (List En) → List Ca → List Int × List (List En) × List Ca
 | [], t, b => ([], t, b)
 | (k, p, _) :: xs, t, b => ((useR r t b k p).1 :: (runS r xs (useR r t b k p).2.2.1 (useR r t b k p).2.2.2).1, (runS r xs (useR r t b k p).2.2.1 (useR r t b k p).2.2.2).2)
theorem runS_fit {r : List Int} : ∀ (xs : List Acc) {t : List (List En)} {b : List Ca}, xs.all accB = true → Fit r t b → Fit r (runS r xs t b).2.1 (runS r xs t b).2.2 ∧ (runS r xs t b).1.length = xs.length
 | [], t, b, _, h => ⟨h, rfl⟩
 | (k, p, ()) :: xs, t, b, hx, h => by
  simp only [List.all_cons, Bool.and_eq_true, accB] at hx
  obtain ⟨h1, h2⟩ := runS_fit xs (by simpa [accB] using hx.2) (h.use k hx.1.2)
  exact ⟨h1, by simp only [runS, List.length_cons, h2]⟩
def runC (r : List Int) (t : List (List En)) (b : List Ca) (xs : List Acc) : Bool := specS r t b && validT xs
theorem loop_ir1 (r : List Int) : ∀ (suf pre : List Acc) (out : List Int), pre.length + suf.length < 100000 → out.length = pre.length → suf.all accB = true → Fit r [] [] →
  loopOf pr 18 0 ⟨[(4, .op 256 0), (7, .op 448 0), (8, .os (.t 1536)), (25, LA (pre ++ suf)), (26, I ((pre.length + suf.length : Nat) : Int)), (27, I pre.length)], [(256, .box [.nilS, .nilS, .nilS]), (1472, .arr true false (.int .i64) r), (1536, .arr true false (.int .i64) out), (448, .box [.os (.t 1472), .nilS, .empS])]⟩ = some (.exit 0, ⟨[(4, .op 256 0), (7, .op 448 0), (8, .os (.t 1536)), (25, LA (pre ++ suf)), (26, I ((pre.length + suf.length : Nat) : Int)), (27, I ((pre.length + suf.length : Nat) : Int))], [(256, .box [.nilS, .nilS, .nilS]), (1472, .arr true false (.int .i64) r), (1536, .arr true false (.int .i64) (out ++ (runS r suf [] []).1)), (448, .box [.os (.t 1472), .nilS, .empS])]⟩) ∧ (runS r suf [] []).2 = ([], [])
 | [], pre, out, hb, ho, hx, hF => by
  refine ⟨?_, rfl⟩
  rw [loop_eq pr 18 0 _ Tryz.f18 fn_18 _ rfl _ ann_18 _ rfl]
  simp -implicitDefEqProofs only [Int.lt_irrefl, List.append_nil, Nat.add_zero, List.length_nil, runS, go_sem]
 | (k, p, ()) :: suf, pre, out, hb, ho, hx, hF => by
  simp only [List.length_cons] at hb ⊢
  simp only [List.all_cons, Bool.and_eq_true, accB] at hx
  have hw : IntKind.i64.wrap ((pre.length : Int) + 1) = ((pre.length + 1 : Nat) : Int) := by rw [wrap_i] <;> omega
  have hroom : ((out.length + 1) * 8 ≤ 140737488355328 ∧ out.length ≤ 9223372036854775806) = True := tr (by omega)
  have hlt : ((pre.length : Int) < ((pre.length + (suf.length + 1) : Nat) : Int)) = True := tr (by omega)
  obtain ⟨h4, h5⟩ := use_00 r k p hx.1.2 hF
  obtain ⟨ih, h6⟩ := loop_ir1 r suf (pre ++ [(k, p, ())]) (out ++ [(useR r [] [] k p).1]) (by simp; omega) (by simp [ho]) (by simpa [accB] using hx.2) hF
  have e1 : (pre ++ [(k, p, ())]).length = pre.length + 1 := by simp
  have e2 : pre.length + 1 + suf.length = pre.length + (suf.length + 1) := by omega
  have e4 : runS r ((k, p, ()) :: suf) [] [] = ((useR r [] [] k p).1 :: (runS r suf [] []).1, (runS r suf [] []).2) := by simp only [runS, h5]
  have e3 : out ++ [(useR r [] [] k p).1] ++ (runS r suf [] []).1 = out ++ (runS r ((k, p, ()) :: suf) [] []).1 := by rw [e4]; simp
  rw [app_one, e1, e2, e3] at ih
  refine ⟨?_, by rw [e4]; exact h6⟩
  rw [loop_eq pr 18 0 _ Tryz.f18 fn_18 _ rfl _ ann_18 _ rfl]
  simp -implicitDefEqProofs only [getD_app, lt_app, ltn_app, zero_le_cast, Int.toNat_natCast, hw, hlt, hroom, h4, go_sem]
  exact ih
theorem loop_ir2 (r : List Int) : ∀ (suf pre : List Acc) (b : List Ca) (out : List Int), pre.length + suf.length < 100000 → out.length = pre.length → suf.all accB = true → Fit r [] b →
  loopOf pr 18 0 ⟨[(4, .op 256 0), (7, .op 448 0), (8, .os (.t 1536)), (25, LA (pre ++ suf)), (26, I ((pre.length + suf.length : Nat) : Int)), (27, I pre.length)], [(256, .box [.nilS, .nilS, .nilS]), (1472, .arr true false (.int .i64) r), (1536, .arr true false (.int .i64) out), (448, .box [.os (.t 1472), .nilS, .os (.t 451)]), (451, .arr true false tyC b)]⟩ = some (.exit 0, ⟨[(4, .op 256 0), (7, .op 448 0), (8, .os (.t 1536)), (25, LA (pre ++ suf)), (26, I ((pre.length + suf.length : Nat) : Int)), (27, I ((pre.length + suf.length : Nat) : Int))], [(256, .box [.nilS, .nilS, .nilS]), (1472, .arr true false (.int .i64) r), (1536, .arr true false (.int .i64) (out ++ (runS r suf [] b).1)), (448, .box [.os (.t 1472), .nilS, .os (.t 451)]), (451, .arr true false tyC (runS r suf [] b).2.2)]⟩) ∧ (runS r suf [] b).2.1 = []
 | [], pre, b, out, hb, ho, hx, hF => by
  refine ⟨?_, rfl⟩
  rw [loop_eq pr 18 0 _ Tryz.f18 fn_18 _ rfl _ ann_18 _ rfl]
  simp -implicitDefEqProofs only [Int.lt_irrefl, List.append_nil, Nat.add_zero, List.length_nil, runS, go_sem]
 | (k, p, ()) :: suf, pre, b, out, hb, ho, hx, hF => by
  simp only [List.length_cons] at hb ⊢
  simp only [List.all_cons, Bool.and_eq_true, accB] at hx
  have hw : IntKind.i64.wrap ((pre.length : Int) + 1) = ((pre.length + 1 : Nat) : Int) := by rw [wrap_i] <;> omega
  have hroom : ((out.length + 1) * 8 ≤ 140737488355328 ∧ out.length ≤ 9223372036854775806) = True := tr (by omega)
  have hlt : ((pre.length : Int) < ((pre.length + (suf.length + 1) : Nat) : Int)) = True := tr (by omega)
  obtain ⟨⟨m, h4⟩, h5⟩ := use_01 r b k p hx.1.2 hF
  have hF2 := hF.use k hx.1.2
  rw [h5] at hF2
  obtain ⟨ih, h6⟩ := loop_ir2 r suf (pre ++ [(k, p, ())]) (useR r [] b k p).2.2.2 (out ++ [(useR r [] b k p).1]) (by simp; omega) (by simp [ho]) (by simpa [accB] using hx.2) hF2
  have e1 : (pre ++ [(k, p, ())]).length = pre.length + 1 := by simp
  have e2 : pre.length + 1 + suf.length = pre.length + (suf.length + 1) := by omega
  have e4 : runS r ((k, p, ()) :: suf) [] b = ((useR r [] b k p).1 :: (runS r suf [] (useR r [] b k p).2.2.2).1, (runS r suf [] (useR r [] b k p).2.2.2).2) := by simp only [runS, h5]
  have e3 : out ++ [(useR r [] b k p).1] ++ (runS r suf [] (useR r [] b k p).2.2.2).1 = out ++ (runS r ((k, p, ()) :: suf) [] b).1 := by rw [e4]; simp
  have e5 : (runS r suf [] (useR r [] b k p).2.2.2).2.2 = (runS r ((k, p, ()) :: suf) [] b).2.2 := by rw [e4]
  rw [app_one, e1, e2, e3, e5] at ih
  refine ⟨?_, by rw [e4]; exact h6⟩
  rw [loop_eq pr 18 0 _ Tryz.f18 fn_18 _ rfl _ ann_18 _ rfl]
  cases m
  ·simp -implicitDefEqProofs only [getD_app, lt_app, ltn_app, zero_le_cast, Int.toNat_natCast, hw, hlt, hroom, h4, go_sem]
   exact ih
  ·simp -implicitDefEqProofs only [getD_app, lt_app, ltn_app, zero_le_cast, Int.toNat_natCast, hw, hlt, hroom, h4, go_sem]
   exact ih
theorem loop_ir4 (r : List Int) : ∀ (suf pre : List Acc) (t : List (List En)) (b bs : List Ca) (bv : AV) (out : List Int), pre.length + suf.length < 100000 → out.length = pre.length → suf.all accB = true → Fit r t b → InArr 451 bv b bs → ∃ bv' bs', InArr 451 bv' (runS r suf t b).2.2 bs' ∧
  loopOf pr 18 0 ⟨[(4, .op 256 0), (7, .op 448 0), (8, .os (.t 1536)), (25, LA (pre ++ suf)), (26, I ((pre.length + suf.length : Nat) : Int)), (27, I pre.length)], [(256, .box [.nilS, .nilS, .nilS]), (1472, .arr true false (.int .i64) r), (1474, .arr true true (.slice tyE) t), (1536, .arr true false (.int .i64) out), (448, .box [.os (.t 1472), .os (.t 1474), bv]), (451, .arr true false tyC bs)]⟩ = some (.exit 0, ⟨[(4, .op 256 0), (7, .op 448 0), (8, .os (.t 1536)), (25, LA (pre ++ suf)), (26, I ((pre.length + suf.length : Nat) : Int)), (27, I ((pre.length + suf.length : Nat) : Int))], [(256, .box [.nilS, .nilS, .nilS]), (1472, .arr true false (.int .i64) r), (1474, .arr true true (.slice tyE) (runS r suf t b).2.1), (1536, .arr true false (.int .i64) (out ++ (runS r suf t b).1)), (448, .box [.os (.t 1472), .os (.t 1474), bv']), (451, .arr true false tyC bs')]⟩)
 | [], pre, t, b, bs, bv, out, hb, ho, hx, hF, hI => by
  refine ⟨bv, bs, hI, ?_⟩
  rw [loop_eq pr 18 0 _ Tryz.f18 fn_18 _ rfl _ ann_18 _ rfl]
  rcases hI with ⟨rfl, h2⟩ | ⟨rfl, h2, h3⟩
  ·simp -implicitDefEqProofs only [Int.lt_irrefl, List.append_nil, Nat.add_zero, List.length_nil, runS, go_sem]
  ·simp -implicitDefEqProofs only [Int.lt_irrefl, List.append_nil, Nat.add_zero, List.length_nil, runS, go_sem]
 | (k, p, ()) :: suf, pre, t, b, bs, bv, out, hb, ho, hx, hF, hI => by
  simp only [List.length_cons] at hb ⊢
  simp only [List.all_cons, Bool.and_eq_true, accB] at hx
  have hw : IntKind.i64.wrap ((pre.length : Int) + 1) = ((pre.length + 1 : Nat) : Int) := by rw [wrap_i] <;> omega
  have hroom : ((out.length + 1) * 8 ≤ 140737488355328 ∧ out.length ≤ 9223372036854775806) = True := tr (by omega)
  have hlt : ((pre.length : Int) < ((pre.length + (suf.length + 1) : Nat) : Int)) = True := tr (by omega)
  obtain ⟨bl, hbl, hIl⟩ : ∃ bl, InArr 1000003 bl b bs ∧ ((bl = .os (.t 1000003) ∧ bv = .os (.t 451)) ∨ (bl = .sub (.t 1000003) 0 b.length ∧ bv = .sub (.t 451) 0 b.length)) := by
   rcases hI with ⟨rfl, h2⟩ | ⟨rfl, h2, h3⟩
   ·exact ⟨_, .inl ⟨rfl, h2⟩, .inl ⟨rfl, rfl⟩⟩
   ·exact ⟨_, .inr ⟨rfl, h2, h3⟩, .inr ⟨rfl, rfl⟩⟩
  obtain ⟨m, bm, b2, h5, h4⟩ := use_1x r t b bs bl hbl k p hx.1.2 hF
  obtain ⟨bn, hn, hIn⟩ : ∃ bn, InArr 451 bn (useR r t b k p).2.2.2 b2 ∧ ((bm = .os (.t 1000003) ∧ bn = .os (.t 451)) ∨ (bm = .sub (.t 1000003) 0 (useR r t b k p).2.2.2.length ∧ bn = .sub (.t 451) 0 (useR r t b k p).2.2.2.length)) := by
   rcases h5 with ⟨rfl, h2⟩ | ⟨rfl, h2, h3⟩
   ·exact ⟨_, .inl ⟨rfl, h2⟩, .inl ⟨rfl, rfl⟩⟩
   ·exact ⟨_, .inr ⟨rfl, h2, h3⟩, .inr ⟨rfl, rfl⟩⟩
  obtain ⟨bv', bs', h6, ih⟩ := loop_ir4 r suf (pre ++ [(k, p, ())]) (useR r t b k p).2.2.1 (useR r t b k p).2.2.2 b2 bn (out ++ [(useR r t b k p).1]) (by simp; omega) (by simp [ho]) (by simpa [accB] using hx.2) (hF.use k hx.1.2) hn
  have e1 : (pre ++ [(k, p, ())]).length = pre.length + 1 := by simp
  have e2 : pre.length + 1 + suf.length = pre.length + (suf.length + 1) := by omega
  have e3 : out ++ [(useR r t b k p).1] ++ (runS r suf (useR r t b k p).2.2.1 (useR r t b k p).2.2.2).1 = out ++ (runS r ((k, p, ()) :: suf) t b).1 := by simp [runS]
  rw [app_one, e1, e2, e3] at ih
  refine ⟨bv', bs', h6, ?_⟩
  rw [loop_eq pr 18 0 _ Tryz.f18 fn_18 _ rfl _ ann_18 _ rfl]
  rcases hIl with ⟨rfl, rfl⟩ | ⟨rfl, rfl⟩
  ·rcases hIn with ⟨rfl, rfl⟩ | ⟨rfl, rfl⟩
   ·cases m
    ·simp -implicitDefEqProofs only [getD_app, lt_app, ltn_app, zero_le_cast, Int.toNat_natCast, hw, hlt, hroom, h4, go_sem]
     exact ih
    ·simp -implicitDefEqProofs only [getD_app, lt_app, ltn_app, zero_le_cast, Int.toNat_natCast, hw, hlt, hroom, h4, go_sem]
     exact ih
   ·cases m
    ·simp -implicitDefEqProofs only [getD_app, lt_app, ltn_app, zero_le_cast, Int.toNat_natCast, hw, hlt, hroom, h4, go_sem]
     exact ih
    ·simp -implicitDefEqProofs only [getD_app, lt_app, ltn_app, zero_le_cast, Int.toNat_natCast, hw, hlt, hroom, h4, go_sem]
     exact ih
  ·rcases hIn with ⟨rfl, rfl⟩ | ⟨rfl, rfl⟩
   ·cases m
    ·simp -implicitDefEqProofs only [getD_app, lt_app, ltn_app, zero_le_cast, Int.toNat_natCast, hw, hlt, hroom, h4, go_sem]
     exact ih
    ·simp -implicitDefEqProofs only [getD_app, lt_app, ltn_app, zero_le_cast, Int.toNat_natCast, hw, hlt, hroom, h4, go_sem]
     exact ih
   ·cases m
    ·simp -implicitDefEqProofs only [getD_app, lt_app, ltn_app, zero_le_cast, Int.toNat_natCast, hw, hlt, hroom, h4, go_sem]
     exact ih
    ·simp -implicitDefEqProofs only [getD_app, lt_app, ltn_app, zero_le_cast, Int.toNat_natCast, hw, hlt, hroom, h4, go_sem]
     exact ih
theorem loop_ir5 (r : List Int) : ∀ (suf pre : List Acc) (t : List (List En)) (b bs : List Ca) (bv : AV) (out : List Int), pre.length + suf.length < 100000 → out.length = pre.length → suf.all accB = true → Fit r t b → InArr 451 bv b bs → ∃ bv' bs', InArr 451 bv' (runS r suf t b).2.2 bs' ∧
  loopOf pr 18 0 ⟨[(4, .op 256 0), (7, .op 448 0), (8, .os (.t 1536)), (25, LA (pre ++ suf)), (26, I ((pre.length + suf.length : Nat) : Int)), (27, I pre.length)], [(256, .box [.nilS, .nilS, .nilS]), (1472, .arr true false (.int .i64) r), (1473, .arr true true (.slice tyE) t), (1536, .arr true false (.int .i64) out), (448, .box [.os (.t 1472), .os (.t 1473), bv]), (451, .arr true false tyC bs)]⟩ = some (.exit 0, ⟨[(4, .op 256 0), (7, .op 448 0), (8, .os (.t 1536)), (25, LA (pre ++ suf)), (26, I ((pre.length + suf.length : Nat) : Int)), (27, I ((pre.length + suf.length : Nat) : Int))], [(256, .box [.nilS, .nilS, .nilS]), (1472, .arr true false (.int .i64) r), (1473, .arr true true (.slice tyE) (runS r suf t b).2.1), (1536, .arr true false (.int .i64) (out ++ (runS r suf t b).1)), (448, .box [.os (.t 1472), .os (.t 1473), bv']), (451, .arr true false tyC bs')]⟩)
 | [], pre, t, b, bs, bv, out, hb, ho, hx, hF, hI => by
  refine ⟨bv, bs, hI, ?_⟩
  rw [loop_eq pr 18 0 _ Tryz.f18 fn_18 _ rfl _ ann_18 _ rfl]
  rcases hI with ⟨rfl, h2⟩ | ⟨rfl, h2, h3⟩
  ·simp -implicitDefEqProofs only [Int.lt_irrefl, List.append_nil, Nat.add_zero, List.length_nil, runS, go_sem]
  ·simp -implicitDefEqProofs only [Int.lt_irrefl, List.append_nil, Nat.add_zero, List.length_nil, runS, go_sem]
 | (k, p, ()) :: suf, pre, t, b, bs, bv, out, hb, ho, hx, hF, hI => by
  simp only [List.length_cons] at hb ⊢
  simp only [List.all_cons, Bool.and_eq_true, accB] at hx
  have hw : IntKind.i64.wrap ((pre.length : Int) + 1) = ((pre.length + 1 : Nat) : Int) := by rw [wrap_i] <;> omega
  have hroom : ((out.length + 1) * 8 ≤ 140737488355328 ∧ out.length ≤ 9223372036854775806) = True := tr (by omega)
  have hlt : ((pre.length : Int) < ((pre.length + (suf.length + 1) : Nat) : Int)) = True := tr (by omega)
  obtain ⟨bl, hbl, hIl⟩ : ∃ bl, InArr 1000003 bl b bs ∧ ((bl = .os (.t 1000003) ∧ bv = .os (.t 451)) ∨ (bl = .sub (.t 1000003) 0 b.length ∧ bv = .sub (.t 451) 0 b.length)) := by
   rcases hI with ⟨rfl, h2⟩ | ⟨rfl, h2, h3⟩
   ·exact ⟨_, .inl ⟨rfl, h2⟩, .inl ⟨rfl, rfl⟩⟩
   ·exact ⟨_, .inr ⟨rfl, h2, h3⟩, .inr ⟨rfl, rfl⟩⟩
  obtain ⟨m, bm, b2, h5, h4⟩ := use_1x r t b bs bl hbl k p hx.1.2 hF
  obtain ⟨bn, hn, hIn⟩ : ∃ bn, InArr 451 bn (useR r t b k p).2.2.2 b2 ∧ ((bm = .os (.t 1000003) ∧ bn = .os (.t 451)) ∨ (bm = .sub (.t 1000003) 0 (useR r t b k p).2.2.2.length ∧ bn = .sub (.t 451) 0 (useR r t b k p).2.2.2.length)) := by
   rcases h5 with ⟨rfl, h2⟩ | ⟨rfl, h2, h3⟩
   ·exact ⟨_, .inl ⟨rfl, h2⟩, .inl ⟨rfl, rfl⟩⟩
   ·exact ⟨_, .inr ⟨rfl, h2, h3⟩, .inr ⟨rfl, rfl⟩⟩
  obtain ⟨bv', bs', h6, ih⟩ := loop_ir5 r suf (pre ++ [(k, p, ())]) (useR r t b k p).2.2.1 (useR r t b k p).2.2.2 b2 bn (out ++ [(useR r t b k p).1]) (by simp; omega) (by simp [ho]) (by simpa [accB] using hx.2) (hF.use k hx.1.2) hn
  have e1 : (pre ++ [(k, p, ())]).length = pre.length + 1 := by simp
  have e2 : pre.length + 1 + suf.length = pre.length + (suf.length + 1) := by omega
  have e3 : out ++ [(useR r t b k p).1] ++ (runS r suf (useR r t b k p).2.2.1 (useR r t b k p).2.2.2).1 = out ++ (runS r ((k, p, ()) :: suf) t b).1 := by simp [runS]
  rw [app_one, e1, e2, e3] at ih
  refine ⟨bv', bs', h6, ?_⟩
  rw [loop_eq pr 18 0 _ Tryz.f18 fn_18 _ rfl _ ann_18 _ rfl]
  rcases hIl with ⟨rfl, rfl⟩ | ⟨rfl, rfl⟩
  ·rcases hIn with ⟨rfl, rfl⟩ | ⟨rfl, rfl⟩
   ·cases m
    ·simp -implicitDefEqProofs only [getD_app, lt_app, ltn_app, zero_le_cast, Int.toNat_natCast, hw, hlt, hroom, h4, go_sem]
     exact ih
    ·simp -implicitDefEqProofs only [getD_app, lt_app, ltn_app, zero_le_cast, Int.toNat_natCast, hw, hlt, hroom, h4, go_sem]
     exact ih
   ·cases m
    ·simp -implicitDefEqProofs only [getD_app, lt_app, ltn_app, zero_le_cast, Int.toNat_natCast, hw, hlt, hroom, h4, go_sem]
     exact ih
    ·simp -implicitDefEqProofs only [getD_app, lt_app, ltn_app, zero_le_cast, Int.toNat_natCast, hw, hlt, hroom, h4, go_sem]
     exact ih
  ·rcases hIn with ⟨rfl, rfl⟩ | ⟨rfl, rfl⟩
   ·cases m
    ·simp -implicitDefEqProofs only [getD_app, lt_app, ltn_app, zero_le_cast, Int.toNat_natCast, hw, hlt, hroom, h4, go_sem]
     exact ih
    ·simp -implicitDefEqProofs only [getD_app, lt_app, ltn_app, zero_le_cast, Int.toNat_natCast, hw, hlt, hroom, h4, go_sem]
     exact ih
   ·cases m
    ·simp -implicitDefEqProofs only [getD_app, lt_app, ltn_app, zero_le_cast, Int.toNat_natCast, hw, hlt, hroom, h4, go_sem]
     exact ih
    ·simp -implicitDefEqProofs only [getD_app, lt_app, ltn_app, zero_le_cast, Int.toNat_natCast, hw, hlt, hroom, h4, go_sem]
     exact ih
theorem loop_ir3 (r : List Int) : ∀ (suf pre : List Acc) (t : List (List En)) (out : List Int), pre.length + suf.length < 100000 → out.length = pre.length → suf.all accB = true → Fit r t [] →
  (loopOf pr 18 0 ⟨[(4, .op 256 0), (7, .op 448 0), (8, .os (.t 1536)), (25, LA (pre ++ suf)), (26, I ((pre.length + suf.length : Nat) : Int)), (27, I pre.length)], [(256, .box [.nilS, .nilS, .nilS]), (1472, .arr true false (.int .i64) r), (1473, .arr true true (.slice tyE) t), (1536, .arr true false (.int .i64) out), (448, .box [.os (.t 1472), .os (.t 1473), .empS])]⟩ = some (.exit 0, ⟨[(4, .op 256 0), (7, .op 448 0), (8, .os (.t 1536)), (25, LA (pre ++ suf)), (26, I ((pre.length + suf.length : Nat) : Int)), (27, I ((pre.length + suf.length : Nat) : Int))], [(256, .box [.nilS, .nilS, .nilS]), (1472, .arr true false (.int .i64) r), (1473, .arr true true (.slice tyE) (runS r suf t []).2.1), (1536, .arr true false (.int .i64) (out ++ (runS r suf t []).1)), (448, .box [.os (.t 1472), .os (.t 1473), .empS])]⟩) ∧ (runS r suf t []).2.2 = []) ∨
  ∃ bv' bs', InArr 451 bv' (runS r suf t []).2.2 bs' ∧ loopOf pr 18 0 ⟨[(4, .op 256 0), (7, .op 448 0), (8, .os (.t 1536)), (25, LA (pre ++ suf)), (26, I ((pre.length + suf.length : Nat) : Int)), (27, I pre.length)], [(256, .box [.nilS, .nilS, .nilS]), (1472, .arr true false (.int .i64) r), (1473, .arr true true (.slice tyE) t), (1536, .arr true false (.int .i64) out), (448, .box [.os (.t 1472), .os (.t 1473), .empS])]⟩ = some (.exit 0, ⟨[(4, .op 256 0), (7, .op 448 0), (8, .os (.t 1536)), (25, LA (pre ++ suf)), (26, I ((pre.length + suf.length : Nat) : Int)), (27, I ((pre.length + suf.length : Nat) : Int))], [(256, .box [.nilS, .nilS, .nilS]), (1472, .arr true false (.int .i64) r), (1473, .arr true true (.slice tyE) (runS r suf t []).2.1), (1536, .arr true false (.int .i64) (out ++ (runS r suf t []).1)), (448, .box [.os (.t 1472), .os (.t 1473), bv']), (451, .arr true false tyC bs')]⟩)
 | [], pre, t, out, hb, ho, hx, hF => by
  refine .inl ⟨?_, rfl⟩
  rw [loop_eq pr 18 0 _ Tryz.f18 fn_18 _ rfl _ ann_18 _ rfl]
  simp -implicitDefEqProofs only [Int.lt_irrefl, List.append_nil, Nat.add_zero, List.length_nil, runS, go_sem]
 | (k, p, ()) :: suf, pre, t, out, hb, ho, hx, hF => by
  simp only [List.length_cons] at hb ⊢
  simp only [List.all_cons, Bool.and_eq_true, accB] at hx
  have hw : IntKind.i64.wrap ((pre.length : Int) + 1) = ((pre.length + 1 : Nat) : Int) := by rw [wrap_i] <;> omega
  have hroom : ((out.length + 1) * 8 ≤ 140737488355328 ∧ out.length ≤ 9223372036854775806) = True := tr (by omega)
  have hlt : ((pre.length : Int) < ((pre.length + (suf.length + 1) : Nat) : Int)) = True := tr (by omega)
  have e1 : (pre ++ [(k, p, ())]).length = pre.length + 1 := by simp
  have e2 : pre.length + 1 + suf.length = pre.length + (suf.length + 1) := by omega
  have e3 : out ++ [(useR r t [] k p).1] ++ (runS r suf (useR r t [] k p).2.2.1 (useR r t [] k p).2.2.2).1 = out ++ (runS r ((k, p, ()) :: suf) t []).1 := by simp [runS]
  have hF2 := hF.use k hx.1.2
  rcases use_10 r t k p hx.1.2 hF with ⟨h4, h5⟩ | ⟨h4, h5⟩
  ·rw [h5] at hF2 e3
   have e4 : (runS r ((k, p, ()) :: suf) t []).2 = (runS r suf (useR r t [] k p).2.2.1 []).2 := by simp only [runS, h5]
   rw [e4]
   rcases loop_ir3 r suf (pre ++ [(k, p, ())]) (useR r t [] k p).2.2.1 (out ++ [(useR r t [] k p).1]) (by simp; omega) (by simp [ho]) (by simpa [accB] using hx.2) hF2 with ⟨ih, h6⟩ | ⟨bv', bs', h6, ih⟩
   ·refine .inl ⟨?_, h6⟩
    rw [app_one, e1, e2, e3] at ih
    rw [loop_eq pr 18 0 _ Tryz.f18 fn_18 _ rfl _ ann_18 _ rfl]
    simp -implicitDefEqProofs only [getD_app, lt_app, ltn_app, zero_le_cast, Int.toNat_natCast, hw, hlt, hroom, h4, go_sem]
    exact ih
   ·refine .inr ⟨bv', bs', h6, ?_⟩
    rw [app_one, e1, e2, e3] at ih
    rw [loop_eq pr 18 0 _ Tryz.f18 fn_18 _ rfl _ ann_18 _ rfl]
    simp -implicitDefEqProofs only [getD_app, lt_app, ltn_app, zero_le_cast, Int.toNat_natCast, hw, hlt, hroom, h4, go_sem]
    exact ih
  ·have hI : InArr 451 (.sub (.t 451) 0 1) (useR r t [] k p).2.2.2 (useR r t [] k p).2.2.2 := .inr ⟨by rw [h5], List.take_length, by omega⟩
   obtain ⟨bv', bs', h6, ih⟩ := loop_ir5 r suf (pre ++ [(k, p, ())]) (useR r t [] k p).2.2.1 (useR r t [] k p).2.2.2 _ _ (out ++ [(useR r t [] k p).1]) (by simp; omega) (by simp [ho]) (by simpa [accB] using hx.2) hF2 hI
   refine .inr ⟨bv', bs', h6, ?_⟩
   rw [app_one, e1, e2, e3] at ih
   rw [loop_eq pr 18 0 _ Tryz.f18 fn_18 _ rfl _ ann_18 _ rfl]
   simp -implicitDefEqProofs only [getD_app, lt_app, ltn_app, zero_le_cast, Int.toNat_natCast, hw, hlt, hroom, h4, go_sem]
   exact ih
theorem call_irs (r : List Int) (t : List (List En)) (b : List Ca) (xs : List Acc) (hr : r.length < 2000000) (ht : t.length < 2000000) (hx : ∀ x ∈ t, x.length < 2000000) (hb : b.length < 2000000) (hl : xs.length < 2000000) : if runC r t b xs = true then
   ((runS r xs t b).2.1 = [] ∧ (runS r xs t b).2.2 = [] ∧ callOf pr 18 [.agg [L r, LLE t, LC b], LA xs] [] = some (.tuple [.agg [.os (.t 1472), .nilS, .empS], .os (.t 1536), B true], [(1472, .arr true false (.int .i64) r), (1536, .arr true false (.int .i64) (runS r xs t b).1)])) ∨
   ((runS r xs t b).2.1 = [] ∧ callOf pr 18 [.agg [L r, LLE t, LC b], LA xs] [] = some (.tuple [.agg [.os (.t 1472), .nilS, .os (.t 451)], .os (.t 1536), B true], [(1472, .arr true false (.int .i64) r), (1536, .arr true false (.int .i64) (runS r xs t b).1), (451, .arr true false tyC (runS r xs t b).2.2)])) ∨
   ((runS r xs t b).2.2 = [] ∧ callOf pr 18 [.agg [L r, LLE t, LC b], LA xs] [] = some (.tuple [.agg [.os (.t 1472), .os (.t 1473), .empS], .os (.t 1536), B true], [(1472, .arr true false (.int .i64) r), (1473, .arr true true (.slice tyE) (runS r xs t b).2.1), (1536, .arr true false (.int .i64) (runS r xs t b).1)])) ∨
   (callOf pr 18 [.agg [L r, LLE t, LC b], LA xs] [] = some (.tuple [.agg [.os (.t 1472), .os (.t 1473), .os (.t 451)], .os (.t 1536), B true], [(1472, .arr true false (.int .i64) r), (1473, .arr true true (.slice tyE) (runS r xs t b).2.1), (1536, .arr true false (.int .i64) (runS r xs t b).1), (451, .arr true false tyC (runS r xs t b).2.2)])) ∨
   (callOf pr 18 [.agg [L r, LLE t, LC b], LA xs] [] = some (.tuple [.agg [.os (.t 1472), .os (.t 1474), .os (.t 451)], .os (.t 1536), B true], [(1472, .arr true false (.int .i64) r), (1474, .arr true true (.slice tyE) (runS r xs t b).2.1), (1536, .arr true false (.int .i64) (runS r xs t b).1), (451, .arr true false tyC (runS r xs t b).2.2)]))
  else callOf pr 18 [.agg [L r, LLE t, LC b], LA xs] [] = some (.tuple [.agg [.nilS, .nilS, .nilS], .nilS, B false], []) := by
 have h1 := call_vs r t b hr ht hx hb
 rw [← space_eq] at h1
 have h2 := call_vt xs (by omega)
 cases hs : specS r t b with
 | false =>
  rw [hs] at h1
  rw [if_neg (by simp [runC, hs])]
  rw [call_eq pr 18 _ _ Tryz.f18 fn_18 _ rfl _ ann_18 rfl]
  simp -implicitDefEqProofs only [h1, go_sem]
 | true =>
  rw [hs] at h1
  cases ha : validT xs with
  | false =>
   rw [ha] at h2
   rw [if_neg (by simp [runC, ha])]
   rw [call_eq pr 18 _ _ Tryz.f18 fn_18 _ rfl _ ann_18 rfl]
   simp -implicitDefEqProofs only [h1, h2, go_sem]
  | true =>
   rw [ha] at h2
   rw [if_pos (by simp [runC, ha, hs])]
   have hF := fit_spec hs
   have hv2 : xs.all accB = true ∧ xs.length ≤ 60 := by simpa only [validT, Bool.and_eq_true, decide_eq_true_eq] using ha
   rcases clone4 r t b hF.root hb (by have := hF.few; omega) hF.rows with ⟨rfl, rfl, h3⟩ | ⟨rfl, h3⟩ | ⟨rfl, ht0, h3⟩ | ⟨ht0, h3⟩
   ·obtain ⟨h4, h5⟩ := loop_ir1 r xs [] [] (by simp; omega) rfl hv2.1 hF
    simp only [List.nil_append, List.length_nil, Nat.zero_add, Int.natCast_zero] at h4
    refine .inl ⟨by rw [h5], by rw [h5], ?_⟩
    rw [call_eq pr 18 _ _ Tryz.f18 fn_18 _ rfl _ ann_18 rfl]
    simp -implicitDefEqProofs only [h1, h2, h3, h4, go_sem]
   ·obtain ⟨h4, h5⟩ := loop_ir2 r xs [] b [] (by simp; omega) rfl hv2.1 hF
    simp only [List.nil_append, List.length_nil, Nat.zero_add, Int.natCast_zero] at h4
    refine .inr (.inl ⟨h5, ?_⟩)
    rw [call_eq pr 18 _ _ Tryz.f18 fn_18 _ rfl _ ann_18 rfl]
    simp -implicitDefEqProofs only [h1, h2, h3, h4, go_sem]
   ·rcases loop_ir3 r xs [] t [] (by simp; omega) rfl hv2.1 hF with ⟨h4, h5⟩ | ⟨bv, bs, h5, h4⟩
    ·simp only [List.nil_append, List.length_nil, Nat.zero_add, Int.natCast_zero] at h4
     refine .inr (.inr (.inl ⟨h5, ?_⟩))
     rw [call_eq pr 18 _ _ Tryz.f18 fn_18 _ rfl _ ann_18 rfl]
     simp -implicitDefEqProofs only [h1, h2, h3, h4, go_sem]
    ·simp only [List.nil_append, List.length_nil, Nat.zero_add, Int.natCast_zero] at h4
     refine .inr (.inr (.inr (.inl ?_)))
     rw [call_eq pr 18 _ _ Tryz.f18 fn_18 _ rfl _ ann_18 rfl]
     rcases h5 with ⟨rfl, h5⟩ | ⟨rfl, h5, h6⟩
     ·rw [h5]
      simp -implicitDefEqProofs only [h1, h2, h3, h4, go_sem]
     ·have hl : (runS r xs t []).2.2.length ≤ bs.length := by have := congrArg List.length h5; rw [List.length_take] at this; omega
      have h7 : (0 + (runS r xs t []).2.2.length ≤ bs.length ∧ 0 < bs.length) = True := tr ⟨by omega, by omega⟩
      simp -implicitDefEqProofs only [h1, h2, h3, h4, h7, h5, go_sem]
   ·obtain ⟨bv, bs, h5, h4⟩ := loop_ir4 r xs [] t b b _ [] (by simp; omega) rfl hv2.1 hF (.inl ⟨rfl, rfl⟩)
    simp only [List.nil_append, List.length_nil, Nat.zero_add, Int.natCast_zero] at h4
    refine .inr (.inr (.inr (.inr ?_)))
    rw [call_eq pr 18 _ _ Tryz.f18 fn_18 _ rfl _ ann_18 rfl]
    rcases h5 with ⟨rfl, h5⟩ | ⟨rfl, h5, h6⟩
    ·rw [h5]
     simp -implicitDefEqProofs only [h1, h2, h3, h4, go_sem]
    ·have hl : (runS r xs t b).2.2.length ≤ bs.length := by have := congrArg List.length h5; rw [List.length_take] at this; omega
     have h7 : (0 + (runS r xs t b).2.2.length ≤ bs.length ∧ 0 < bs.length) = True := tr ⟨by omega, by omega⟩
     simp -implicitDefEqProofs only [h1, h2, h3, h4, h7, h5, go_sem]
end Go.Proofs.YtbapbghnageckaaGreat.PI
