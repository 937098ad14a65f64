/- The law of FnSpaceRuns. -/
import Derived.Test.YtbapbghnageckaaGreatX13
namespace Go.Proofs.YtbapbghnageckaaGreat.PI
open Go Go.Q
set_option maxRecDepth 100000
set_option maxHeartbeats 4000000
set_option linter.unusedSimpArgs false
set_option linter.unusedVariables false
attribute [local go_sem] Nat.reduceAdd Nat.reduceSub Nat.reduceMul Nat.reduceMod Nat.reduceLT Nat.reduceLeDiff Nat.reduceEqDiff Nat.reduceBEq Nat.reduceDiv Int.reduceLT Int.reduceLE Int.reduceToNat Int.reduceNeg Int.reduceEq reduceCtorEq
attribute [local go_sem ↓] reduceIte reduceDIte
abbrev S4T (r : List Int) (cT : List (List En)) (cB : List Ca) (i : Int) : Slots := [(11, .os (.t 3776)), (16, .os (.t 5440)), (22, .rp [L r, LLE cT, LC cB]), (24, .os (.t 9664)), (26, I i)]
abbrev S4H (d want pages : List Int) : Heap := [(3776, .arr true false (.int .i64) d), (5440, .arr true false (.int .i64) want), (9664, .arr true false (.int .i64) pages)]
theorem has_dirty {r : List Int} {t : List (List En)} {xs : List Int} (h : ∀ q, q ∈ xs ↔ isDirty r t q) {q : Int} (ha : addrB q = true) (h0 : 0 ≤ (walkS r t q).1) : hasL xs q = (walkS r t q).2.2.2.1 := by
 rw [Bool.eq_iff_iff, has_mem, h]
 unfold isDirty
 constructor
 ·exact fun h => h.2.2
 ·exact fun h => ⟨ha, h0, h⟩
theorem loop_s4 (r : List Int) (T : List (List En)) (Bf : List Ca) (d want : List Int) (hd : d.length < 1000) (hwl : want.length < 1000) (hV : Vs r T Bf) (h1 : ∀ q, q ∈ d ↔ isDirty r T q) (h2 : ∀ q, q ∈ want ↔ isDirty r T q) : ∀ (suf pre : List Int), pre.length + suf.length < 1000 → (∀ q ∈ suf, addrB q = true ∧ 0 ≤ (walkS r T q).1) →
  loopOf pr 5 2 ⟨S4T r (clrT T) Bf pre.length, S4H d want (pre ++ suf)⟩ = some (.exit 4, ⟨S4T r (clrT T) Bf ((pre.length + suf.length : Nat) : Int), S4H d want (pre ++ suf)⟩)
 | [], pre, hb, hq => by
  rw [loop_eq pr 5 2 _ Tryz.f5 fn_5 _ rfl _ ann_5 _ rfl]
  simp -implicitDefEqProofs only [Int.lt_irrefl, List.append_nil, Nat.add_zero, List.length_nil, go_sem]
 | q :: suf, pre, hb, hq => by
  simp only [List.length_cons] at hb ⊢
  obtain ⟨ha, h0⟩ := hq q (by simp)
  have hw : IntKind.i64.wrap ((pre.length : Int) + 1) = ((pre.length + 1 : Nat) : Int) := by rw [wrap_i] <;> omega
  have e1 : (pre ++ [q]).length = pre.length + 1 := by simp
  have e2 : pre.length + 1 + suf.length = pre.length + (suf.length + 1) := by omega
  have ih := loop_s4 r T Bf d want hd hwl hV h1 h2 suf (pre ++ [q]) (by simp; omega) (fun y hy => hq y (by simp [hy]))
  rw [app_one, e1, e2] at ih
  have g1 := call_wp r (clrT T) Bf hV.clr q ha
  rw [walk_clr hV ha, if_neg (show ¬ (clrE (walkS r T q)).1 < 0 by simp only [clrE]; omega)] at g1
  have g2 := call_rh d q (by omega)
  have g3 := call_rh want q (by omega)
  rw [has_dirty h1 ha h0] at g2
  rw [has_dirty h2 ha h0] at g3
  obtain ⟨⟨ef, ew, eu, ed, ⟨⟩⟩, hE⟩ : ∃ e, walkS r T q = e := ⟨_, rfl⟩
  rw [hE] at g1 g2 g3 h0
  simp only [clrE] at g1 g2 g3 h0
  rw [loop_eq pr 5 2 _ Tryz.f5 fn_5 _ rfl _ ann_5 _ rfl]
  cases ed
  ·simp -implicitDefEqProofs only [getD_app, lt_app, ltn_app, zero_le_cast, Int.toNat_natCast, hw, g1, g2, g3, go_sem]
   exact ih
  ·simp -implicitDefEqProofs only [getD_app, lt_app, ltn_app, zero_le_cast, Int.toNat_natCast, hw, g1, g2, g3, go_sem]
   exact ih
structure SrH (a c : List Int) (r : List Int) (t T : List (List En)) (b Bf : List Ca) (xs : List Acc) (outs d0 d W pages : List Int) : Prop where
 h1 : callOf pr 24 [BY a, BY c] [] = some (B false, [])
 h2 : callOf pr 25 [BY a] [] = some (.agg [.os (.t 257), .os (.t 258), .os (.t 259)], [(257, .arr true false (.int .i64) r), (258, .arr true true (.slice tyE) t), (259, .arr true false tyC b)])
 h3 : loopOf pr 5 0 ⟨[(1, BY c), (5, .rp [L r, LLE t, LC b]), (6, .os (.t 2176)), (7, I 0)], [(2176, .arr true false tyA [])]⟩ = some (.exit 0, ⟨[(1, BY c), (5, .rp [L r, LLE t, LC b]), (6, .os (.t 2176)), (7, I 10)], [(2176, .arr true false tyA xs)]⟩)
 h5 : callOf pr 27 [.agg [L r, LLE t, LC b]] [] = some (.tuple [.os (.t 320), B true], [(320, .arr true false (.int .i64) d0)])
 h6 : callOf pr 27 [.agg [L r, LLE T, LC Bf]] [] = some (.tuple [.os (.t 320), B true], [(320, .arr true false (.int .i64) d)])
 h7 : callOf pr 30 [.agg [L r, LLE T, LC Bf]] [] = some (.tuple [.os (.t 320), B true], [(320, .arr true false (.int .i64) pages)])
 hol : outs.length = xs.length
 hdl : d.length = W.length
 hroom : ((0 + d0.length) * 8 ≤ 140737488355328 ∧ 0 + d0.length ≤ 9223372036854775807) = True
 h9 : loopOf pr 5 2 ⟨S4T r (clrT T) Bf 0, S4H d W pages⟩ = some (.exit 4, ⟨S4T r (clrT T) Bf pages.length, S4H d W pages⟩)
theorem sr_1 {a c : List Int} {r : List Int} {t T : List (List En)} {b Bf : List Ca} {xs : List Acc} {outs d0 d W pages : List Int} (H : SrH a c r t T b Bf xs outs d0 d W pages) (hT : T = []) (hB : Bf = []) (h4 : callOf pr 18 [.agg [L r, LLE t, LC b], LA xs] [] = some (.tuple [.agg [.os (.t 1472), .nilS, .empS], .os (.t 1536), B true], [(1472, .arr true false (.int .i64) r), (1536, .arr true false (.int .i64) outs)])) (h8 : loopOf pr 5 1 ⟨S2T T Bf r 3393 0, S2H xs outs d d0 3393 r t b⟩ = some (.exit 2, ⟨S2T T Bf r 3393 xs.length, S2H xs outs d W 3393 r T Bf⟩))
  (hC : (T = [] ∧ Bf = [] ∧ callOf pr 29 [.agg [L r, LLE T, LC Bf]] [] = some (.tuple [.agg [.os (.t 832), .nilS, .empS], B true], [(832, .arr true false (.int .i64) r)])) ∨
   (T = [] ∧ callOf pr 29 [.agg [L r, LLE T, LC Bf]] [] = some (.tuple [.agg [.os (.t 832), .nilS, .os (.t 833)], B true], [(832, .arr true false (.int .i64) r), (833, .arr true false tyC Bf)])) ∨
   (Bf = [] ∧ callOf pr 29 [.agg [L r, LLE T, LC Bf]] [] = some (.tuple [.agg [.os (.t 832), .os (.t 833), .empS], B true], [(832, .arr true false (.int .i64) r), (833, .arr true true (.slice tyE) (clrT T))])) ∨
   (callOf pr 29 [.agg [L r, LLE T, LC Bf]] [] = some (.tuple [.agg [.os (.t 832), .os (.t 834), .os (.t 833)], B true], [(832, .arr true false (.int .i64) r), (833, .arr true false tyC Bf), (834, .arr true true (.slice tyE) (clrT T))]))) : callOf pr 5 [BY a, BY c] [] = some (B true, []) := by
 obtain ⟨h1, h2, h3, h5, h6, h7, hol, hdl, hroom, h9⟩ := H
 subst hT hB
 have hnil : clrT [] = [] := rfl
 rw [call_eq pr 5 _ _ Tryz.f5 fn_5 _ rfl _ ann_5 rfl]
 rcases hC with ⟨g1, g2, hC⟩ | ⟨g1, hC⟩ | ⟨g2, hC⟩ | hC
 ·try subst g1
  try subst g2
  rw [hnil] at h9
  simp -implicitDefEqProofs only [h1, h2, h3, h4, h5, h6, h7, hC, h8, h9, hol, hdl, hroom, go_sem]
 ·try subst g1
  rw [hnil] at h9
  simp -implicitDefEqProofs only [h1, h2, h3, h4, h5, h6, h7, hC, h8, h9, hol, hdl, hroom, go_sem]
 ·try subst g2
  simp -implicitDefEqProofs only [h1, h2, h3, h4, h5, h6, h7, hC, h8, h9, hol, hdl, hroom, go_sem]
 ·simp -implicitDefEqProofs only [h1, h2, h3, h4, h5, h6, h7, hC, h8, h9, hol, hdl, hroom, go_sem]
theorem sr_2 {a c : List Int} {r : List Int} {t T : List (List En)} {b Bf : List Ca} {xs : List Acc} {outs d0 d W pages : List Int} (H : SrH a c r t T b Bf xs outs d0 d W pages) (hT : T = []) (h4 : callOf pr 18 [.agg [L r, LLE t, LC b], LA xs] [] = some (.tuple [.agg [.os (.t 1472), .nilS, .os (.t 451)], .os (.t 1536), B true], [(1472, .arr true false (.int .i64) r), (1536, .arr true false (.int .i64) outs), (451, .arr true false tyC Bf)])) (h8 : loopOf pr 5 1 ⟨S2T T Bf r 3393 0, S2H xs outs d d0 3393 r t b⟩ = some (.exit 2, ⟨S2T T Bf r 3393 xs.length, S2H xs outs d W 3393 r T Bf⟩))
  (hC : (T = [] ∧ Bf = [] ∧ callOf pr 29 [.agg [L r, LLE T, LC Bf]] [] = some (.tuple [.agg [.os (.t 832), .nilS, .empS], B true], [(832, .arr true false (.int .i64) r)])) ∨
   (T = [] ∧ callOf pr 29 [.agg [L r, LLE T, LC Bf]] [] = some (.tuple [.agg [.os (.t 832), .nilS, .os (.t 833)], B true], [(832, .arr true false (.int .i64) r), (833, .arr true false tyC Bf)])) ∨
   (Bf = [] ∧ callOf pr 29 [.agg [L r, LLE T, LC Bf]] [] = some (.tuple [.agg [.os (.t 832), .os (.t 833), .empS], B true], [(832, .arr true false (.int .i64) r), (833, .arr true true (.slice tyE) (clrT T))])) ∨
   (callOf pr 29 [.agg [L r, LLE T, LC Bf]] [] = some (.tuple [.agg [.os (.t 832), .os (.t 834), .os (.t 833)], B true], [(832, .arr true false (.int .i64) r), (833, .arr true false tyC Bf), (834, .arr true true (.slice tyE) (clrT T))]))) : callOf pr 5 [BY a, BY c] [] = some (B true, []) := by
 obtain ⟨h1, h2, h3, h5, h6, h7, hol, hdl, hroom, h9⟩ := H
 subst hT
 have hnil : clrT [] = [] := rfl
 rw [call_eq pr 5 _ _ Tryz.f5 fn_5 _ rfl _ ann_5 rfl]
 rcases hC with ⟨g1, g2, hC⟩ | ⟨g1, hC⟩ | ⟨g2, hC⟩ | hC
 ·try subst g1
  try subst g2
  rw [hnil] at h9
  simp -implicitDefEqProofs only [h1, h2, h3, h4, h5, h6, h7, hC, h8, h9, hol, hdl, hroom, go_sem]
 ·try subst g1
  rw [hnil] at h9
  simp -implicitDefEqProofs only [h1, h2, h3, h4, h5, h6, h7, hC, h8, h9, hol, hdl, hroom, go_sem]
 ·try subst g2
  simp -implicitDefEqProofs only [h1, h2, h3, h4, h5, h6, h7, hC, h8, h9, hol, hdl, hroom, go_sem]
 ·simp -implicitDefEqProofs only [h1, h2, h3, h4, h5, h6, h7, hC, h8, h9, hol, hdl, hroom, go_sem]
theorem sr_3 {a c : List Int} {r : List Int} {t T : List (List En)} {b Bf : List Ca} {xs : List Acc} {outs d0 d W pages : List Int} (H : SrH a c r t T b Bf xs outs d0 d W pages) (hB : Bf = []) (h4 : callOf pr 18 [.agg [L r, LLE t, LC b], LA xs] [] = some (.tuple [.agg [.os (.t 1472), .os (.t 1473), .empS], .os (.t 1536), B true], [(1472, .arr true false (.int .i64) r), (1473, .arr true true (.slice tyE) T), (1536, .arr true false (.int .i64) outs)])) (h8 : loopOf pr 5 1 ⟨S2T T Bf r 3394 0, S2H xs outs d d0 3394 r t b⟩ = some (.exit 2, ⟨S2T T Bf r 3394 xs.length, S2H xs outs d W 3394 r T Bf⟩))
  (hC : (T = [] ∧ Bf = [] ∧ callOf pr 29 [.agg [L r, LLE T, LC Bf]] [] = some (.tuple [.agg [.os (.t 832), .nilS, .empS], B true], [(832, .arr true false (.int .i64) r)])) ∨
   (T = [] ∧ callOf pr 29 [.agg [L r, LLE T, LC Bf]] [] = some (.tuple [.agg [.os (.t 832), .nilS, .os (.t 833)], B true], [(832, .arr true false (.int .i64) r), (833, .arr true false tyC Bf)])) ∨
   (Bf = [] ∧ callOf pr 29 [.agg [L r, LLE T, LC Bf]] [] = some (.tuple [.agg [.os (.t 832), .os (.t 833), .empS], B true], [(832, .arr true false (.int .i64) r), (833, .arr true true (.slice tyE) (clrT T))])) ∨
   (callOf pr 29 [.agg [L r, LLE T, LC Bf]] [] = some (.tuple [.agg [.os (.t 832), .os (.t 834), .os (.t 833)], B true], [(832, .arr true false (.int .i64) r), (833, .arr true false tyC Bf), (834, .arr true true (.slice tyE) (clrT T))]))) : callOf pr 5 [BY a, BY c] [] = some (B true, []) := by
 obtain ⟨h1, h2, h3, h5, h6, h7, hol, hdl, hroom, h9⟩ := H
 subst hB
 have hnil : clrT [] = [] := rfl
 rw [call_eq pr 5 _ _ Tryz.f5 fn_5 _ rfl _ ann_5 rfl]
 rcases hC with ⟨g1, g2, hC⟩ | ⟨g1, hC⟩ | ⟨g2, hC⟩ | hC
 ·try subst g1
  try subst g2
  rw [hnil] at h9
  simp -implicitDefEqProofs only [h1, h2, h3, h4, h5, h6, h7, hC, h8, h9, hol, hdl, hroom, go_sem]
 ·try subst g1
  rw [hnil] at h9
  simp -implicitDefEqProofs only [h1, h2, h3, h4, h5, h6, h7, hC, h8, h9, hol, hdl, hroom, go_sem]
 ·try subst g2
  simp -implicitDefEqProofs only [h1, h2, h3, h4, h5, h6, h7, hC, h8, h9, hol, hdl, hroom, go_sem]
 ·simp -implicitDefEqProofs only [h1, h2, h3, h4, h5, h6, h7, hC, h8, h9, hol, hdl, hroom, go_sem]
theorem sr_4 {a c : List Int} {r : List Int} {t T : List (List En)} {b Bf : List Ca} {xs : List Acc} {outs d0 d W pages : List Int} (H : SrH a c r t T b Bf xs outs d0 d W pages) (h4 : callOf pr 18 [.agg [L r, LLE t, LC b], LA xs] [] = some (.tuple [.agg [.os (.t 1472), .os (.t 1473), .os (.t 451)], .os (.t 1536), B true], [(1472, .arr true false (.int .i64) r), (1473, .arr true true (.slice tyE) T), (1536, .arr true false (.int .i64) outs), (451, .arr true false tyC Bf)])) (h8 : loopOf pr 5 1 ⟨S2T T Bf r 3394 0, S2H xs outs d d0 3394 r t b⟩ = some (.exit 2, ⟨S2T T Bf r 3394 xs.length, S2H xs outs d W 3394 r T Bf⟩))
  (hC : (T = [] ∧ Bf = [] ∧ callOf pr 29 [.agg [L r, LLE T, LC Bf]] [] = some (.tuple [.agg [.os (.t 832), .nilS, .empS], B true], [(832, .arr true false (.int .i64) r)])) ∨
   (T = [] ∧ callOf pr 29 [.agg [L r, LLE T, LC Bf]] [] = some (.tuple [.agg [.os (.t 832), .nilS, .os (.t 833)], B true], [(832, .arr true false (.int .i64) r), (833, .arr true false tyC Bf)])) ∨
   (Bf = [] ∧ callOf pr 29 [.agg [L r, LLE T, LC Bf]] [] = some (.tuple [.agg [.os (.t 832), .os (.t 833), .empS], B true], [(832, .arr true false (.int .i64) r), (833, .arr true true (.slice tyE) (clrT T))])) ∨
   (callOf pr 29 [.agg [L r, LLE T, LC Bf]] [] = some (.tuple [.agg [.os (.t 832), .os (.t 834), .os (.t 833)], B true], [(832, .arr true false (.int .i64) r), (833, .arr true false tyC Bf), (834, .arr true true (.slice tyE) (clrT T))]))) : callOf pr 5 [BY a, BY c] [] = some (B true, []) := by
 obtain ⟨h1, h2, h3, h5, h6, h7, hol, hdl, hroom, h9⟩ := H
 skip
 have hnil : clrT [] = [] := rfl
 rw [call_eq pr 5 _ _ Tryz.f5 fn_5 _ rfl _ ann_5 rfl]
 rcases hC with ⟨g1, g2, hC⟩ | ⟨g1, hC⟩ | ⟨g2, hC⟩ | hC
 ·try subst g1
  try subst g2
  rw [hnil] at h9
  simp -implicitDefEqProofs only [h1, h2, h3, h4, h5, h6, h7, hC, h8, h9, hol, hdl, hroom, go_sem]
 ·try subst g1
  rw [hnil] at h9
  simp -implicitDefEqProofs only [h1, h2, h3, h4, h5, h6, h7, hC, h8, h9, hol, hdl, hroom, go_sem]
 ·try subst g2
  simp -implicitDefEqProofs only [h1, h2, h3, h4, h5, h6, h7, hC, h8, h9, hol, hdl, hroom, go_sem]
 ·simp -implicitDefEqProofs only [h1, h2, h3, h4, h5, h6, h7, hC, h8, h9, hol, hdl, hroom, go_sem]
theorem sr_5 {a c : List Int} {r : List Int} {t T : List (List En)} {b Bf : List Ca} {xs : List Acc} {outs d0 d W pages : List Int} (H : SrH a c r t T b Bf xs outs d0 d W pages) (h4 : callOf pr 18 [.agg [L r, LLE t, LC b], LA xs] [] = some (.tuple [.agg [.os (.t 1472), .os (.t 1474), .os (.t 451)], .os (.t 1536), B true], [(1472, .arr true false (.int .i64) r), (1474, .arr true true (.slice tyE) T), (1536, .arr true false (.int .i64) outs), (451, .arr true false tyC Bf)])) (h8 : loopOf pr 5 1 ⟨S2T T Bf r 3394 0, S2H xs outs d d0 3394 r t b⟩ = some (.exit 2, ⟨S2T T Bf r 3394 xs.length, S2H xs outs d W 3394 r T Bf⟩))
  (hC : (T = [] ∧ Bf = [] ∧ callOf pr 29 [.agg [L r, LLE T, LC Bf]] [] = some (.tuple [.agg [.os (.t 832), .nilS, .empS], B true], [(832, .arr true false (.int .i64) r)])) ∨
   (T = [] ∧ callOf pr 29 [.agg [L r, LLE T, LC Bf]] [] = some (.tuple [.agg [.os (.t 832), .nilS, .os (.t 833)], B true], [(832, .arr true false (.int .i64) r), (833, .arr true false tyC Bf)])) ∨
   (Bf = [] ∧ callOf pr 29 [.agg [L r, LLE T, LC Bf]] [] = some (.tuple [.agg [.os (.t 832), .os (.t 833), .empS], B true], [(832, .arr true false (.int .i64) r), (833, .arr true true (.slice tyE) (clrT T))])) ∨
   (callOf pr 29 [.agg [L r, LLE T, LC Bf]] [] = some (.tuple [.agg [.os (.t 832), .os (.t 834), .os (.t 833)], B true], [(832, .arr true false (.int .i64) r), (833, .arr true false tyC Bf), (834, .arr true true (.slice tyE) (clrT T))]))) : callOf pr 5 [BY a, BY c] [] = some (B true, []) := by
 obtain ⟨h1, h2, h3, h5, h6, h7, hol, hdl, hroom, h9⟩ := H
 skip
 have hnil : clrT [] = [] := rfl
 rw [call_eq pr 5 _ _ Tryz.f5 fn_5 _ rfl _ ann_5 rfl]
 rcases hC with ⟨g1, g2, hC⟩ | ⟨g1, hC⟩ | ⟨g2, hC⟩ | hC
 ·try subst g1
  try subst g2
  rw [hnil] at h9
  simp -implicitDefEqProofs only [h1, h2, h3, h4, h5, h6, h7, hC, h8, h9, hol, hdl, hroom, go_sem]
 ·try subst g1
  rw [hnil] at h9
  simp -implicitDefEqProofs only [h1, h2, h3, h4, h5, h6, h7, hC, h8, h9, hol, hdl, hroom, go_sem]
 ·try subst g2
  simp -implicitDefEqProofs only [h1, h2, h3, h4, h5, h6, h7, hC, h8, h9, hol, hdl, hroom, go_sem]
 ·simp -implicitDefEqProofs only [h1, h2, h3, h4, h5, h6, h7, hC, h8, h9, hol, hdl, hroom, go_sem]
theorem law_spaceruns (a c : List Int) (wa : Ty.WF (.slice (.int .u8)) a) (wc : Ty.WF (.slice (.int .u8)) c) : callOf pr 5 [BY a, BY c] [] = some (B true, []) := by
 have h1 := call_long a c
 by_cases l1 : 48 < (a.length : Int)
 ·rw [decide_eq_true l1, Bool.true_or] at h1
  rw [call_eq pr 5 _ _ Tryz.f5 fn_5 _ rfl _ ann_5 rfl]
  simp -implicitDefEqProofs only [h1, go_sem]
 by_cases l2 : 48 < (c.length : Int)
 ·rw [decide_eq_true l2, Bool.or_true] at h1
  rw [call_eq pr 5 _ _ Tryz.f5 fn_5 _ rfl _ ann_5 rfl]
  simp -implicitDefEqProofs only [h1, go_sem]
 rw [decide_eq_false l1, decide_eq_false l2, Bool.or_false] at h1
 obtain ⟨r, t, b, hV, hA, h2⟩ := call_r8s a (okBy_of wa l1)
 obtain ⟨xs, hxl, hxa, h3⟩ := loop_s0 c (okBy_of wc l2) r t b 10 0 [] rfl rfl rfl
 have h3 : loopOf pr 5 0 ⟨[(1, BY c), (5, .rp [L r, LLE t, LC b]), (6, .os (.t 2176)), (7, I 0)], [(2176, .arr true false tyA [])]⟩ = _ := h3
 have hrun := call_irs r t b xs (by have := hV.root; omega) (by have := hV.few; omega) (fun x hx => by rw [hV.rows x hx]; omega) (by have := hV.buf; omega) (by omega)
 have hrc : runC r t b xs = true := by
  simp only [runC, vs_iff.2 hV, validT, hxa, Bool.true_and, decide_eq_true_eq]; omega
 rw [if_pos hrc] at hrun
 obtain ⟨w1, w2, w3, w4⟩ := want_ok xs (want := dirtyL r t) hxa hV hA (those_nodup _ 64) (fun q => mem_dirty (r := r) (t := t) (q := q))
 have hol := (runS_fit xs hxa hV.fit).2
 have hd0 : (dirtyL r t).length ≤ 64 := those_length _ _
 have hd : (dirtyL r (runS r xs t b).2.1).length ≤ 64 := those_length _ _
 have hpl : (mapL r (runS r xs t b).2.1).length ≤ 64 := those_length _ _
 have hdl : (dirtyL r (runS r xs t b).2.1).length = (wantS r xs t b (dirtyL r t)).length := nodup_len (those_nodup _ 64) w1 (fun q => by rw [mem_dirty, w2])
 have h5 := call_dp r t b hV
 have h6 := call_dp r _ _ w3
 have h7 := call_mpg r _ _ w3
 have h9 := loop_s4 r _ _ (dirtyL r (runS r xs t b).2.1) (wantS r xs t b (dirtyL r t)) (by omega) (by omega) w3 (fun q => mem_dirty) w2 (mapL r (runS r xs t b).2.1) [] (by simp; omega) (fun q hq => mem_map.1 hq)
 simp only [List.nil_append, List.length_nil, Nat.zero_add, Int.natCast_zero] at h9
 have hC := call_ic r (runS r xs t b).2.1 (runS r xs t b).2.2 (by have := w3.root; omega) (by have := w3.few; omega) (fun x hx => by rw [w3.rows x hx]; omega) (by have := w3.buf; omega)
 rw [if_pos (vs_iff.2 w3)] at hC
 have s3 := loop_s2_3 r (dirtyL r (runS r xs t b).2.1) (runS r xs t b).2.1 (runS r xs t b).2.2 xs [] t b [] (dirtyL r t) (by simp; omega) (by omega) rfl hxa hV
 have s4 := loop_s2_4 r (dirtyL r (runS r xs t b).2.1) (runS r xs t b).2.1 (runS r xs t b).2.2 xs [] t b [] (dirtyL r t) (by simp; omega) (by omega) rfl hxa hV
 simp only [List.nil_append, List.length_nil, Nat.zero_add, Int.natCast_zero] at s3 s4
 have hroom : ((0 + (dirtyL r t).length) * 8 ≤ 140737488355328 ∧ 0 + (dirtyL r t).length ≤ 9223372036854775807) = True := tr ⟨by omega, by omega⟩
 rcases hrun with ⟨hT, hB, h4⟩ | ⟨hT, h4⟩ | ⟨hB, h4⟩ | h4 | h4
 ·exact sr_1 ⟨h1, h2, h3, h5, h6, h7, hol, hdl, hroom, h9⟩ hT hB h4 s3 hC
 ·exact sr_2 ⟨h1, h2, h3, h5, h6, h7, hol, hdl, hroom, h9⟩ hT h4 s3 hC
 ·exact sr_3 ⟨h1, h2, h3, h5, h6, h7, hol, hdl, hroom, h9⟩ hB h4 s4 hC
 ·exact sr_4 ⟨h1, h2, h3, h5, h6, h7, hol, hdl, hroom, h9⟩ h4 s4 hC
 ·exact sr_5 ⟨h1, h2, h3, h5, h6, h7, hol, hdl, hroom, h9⟩ h4 s4 hC
end Go.Proofs.YtbapbghnageckaaGreat.PI
