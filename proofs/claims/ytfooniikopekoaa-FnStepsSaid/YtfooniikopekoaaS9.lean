/- The law FnSteps. -/
import Derived.Test.YtfooniikopekoaaS7
namespace Go.Proofs.Ytfooniikopekoaa.PI
open Go Go.Q
set_option maxRecDepth 100000
set_option maxHeartbeats 8000000
set_option linter.unusedSimpArgs false
set_option linter.unusedVariables false
abbrev STaa (k : Int) : Slots := [(5, .op 320 0), (6, .os (.t 1664)), (7, .os (.t 1921)), (8, .os (.t 1920)), (12, .os (.t 2752)), (14, .os (.t 896)), (16, I k)]
abbrev SGaa (hit : List (List Int)) (ms us c1 hs gs now : List Int) : Heap := [(1536, .arr true false (.int .i64) ms), (1537, .arr true true (.slice (.int .i64)) hit), (320, .box [.os (.t 1537), .os (.t 1536)]), (1664, .arr true false (.int .i64) us), (1920, .arr true false (.int .i64) c1), (1921, .arr true false (.int .i64) hs), (2752, .arr true false (.int .i64) gs), (896, .arr true false (.int .i64) now)]
theorem lstaa_h (hit : List (List Int)) (ms us c1 hs gs now nx : List Int) (k : Nat) (x : Int) (hk : k < us.length) (hl : us.length < 100) (l1 : hs.length = us.length) (l2 : gs.length = us.length) (hx : ∀ z, us.getD k z = x) (hh : ∀ z, hs.getD k z = 1) (hg : ∀ z, gs.getD k z = -1)
    (g1 : callOf pr 38 [.agg [LL hit, L ms], L now, I x] [] = some (.tuple [.os (.t 1600), B true, B true], [(1600, .arr true false (.int .i64) nx)]))
    (g2 : callOf pr 33 [L now, I x] [] = some (B true, [])) (g3 : callOf pr 33 [L nx, I x] [] = some (B true, []))
    (g4 : callOf pr 39 [.agg [LL hit, L ms], L nx] [] = some (B true, [])) : loopOf pr 8 0 ⟨STaa k, SGaa hit ms us c1 hs gs now⟩ = loopOf pr 8 0 ⟨STaa ((k + 1 : Nat) : Int), SGaa hit ms us c1 hs gs nx⟩ := by
  have e1 : ((k : Int) < (us.length : Int)) = True := tr (by omega)
  have e2 : ((k : Int) < (hs.length : Int)) = True := tr (by omega)
  have e3 : ((k : Int) < (gs.length : Int)) = True := tr (by omega)
  have hw : IntKind.i64.wrap ((k : Int) + 1) = ((k + 1 : Nat) : Int) := by rw [wrap_i] <;> omega
  rw [loop_eq pr 8 0 _ Try.f8 fn_8 _ rfl _ ann_8 _ rfl]
  simp -implicitDefEqProofs only [e1, e2, e3, hx, hh, hg, g1, g2, g3, g4, zero_le_cast, Int.toNat_natCast, hw, show (true == true) = true from rfl, go_sem, Nat.reduceAdd, Nat.reduceSub, Nat.reduceMul, Nat.reduceMod, Nat.reduceLT, Nat.reduceLeDiff, Nat.reduceEqDiff, Nat.reduceBEq, Nat.reduceDiv, Int.reduceLT, Int.reduceLE, Int.reduceToNat, Int.reduceNeg, Int.reduceEq, ↓reduceIte, reduceCtorEq, ↓reduceDIte]
theorem lstaa_m (hit : List (List Int)) (ms us c1 hs gs now nx : List Int) (k : Nat) (x y : Int) (hk : k < us.length) (hl : us.length < 100) (l1 : hs.length = us.length) (l2 : gs.length = us.length) (hx : ∀ z, us.getD k z = x) (hh : ∀ z, hs.getD k z = 0) (hg : ∀ z, gs.getD k z = y)
    (h0 : 0 < now.length) (hnl : now.length < 100) (hny : ∀ z, now.getD (now.length - 1) z = y)
    (g1 : callOf pr 38 [.agg [LL hit, L ms], L now, I x] [] = some (.tuple [.os (.t 1600), B false, B true], [(1600, .arr true false (.int .i64) nx)]))
    (g2 : callOf pr 33 [L now, I x] [] = some (B false, [])) (g3 : callOf pr 33 [L nx, I x] [] = some (B true, []))
    (g4 : callOf pr 39 [.agg [LL hit, L ms], L nx] [] = some (B true, [])) : loopOf pr 8 0 ⟨STaa k, SGaa hit ms us c1 hs gs now⟩ = loopOf pr 8 0 ⟨STaa ((k + 1 : Nat) : Int), SGaa hit ms us c1 hs gs nx⟩ := by
  have e1 : ((k : Int) < (us.length : Int)) = True := tr (by omega)
  have e2 : ((k : Int) < (hs.length : Int)) = True := tr (by omega)
  have e3 : ((k : Int) < (gs.length : Int)) = True := tr (by omega)
  have hw : IntKind.i64.wrap ((k : Int) + 1) = ((k + 1 : Nat) : Int) := by rw [wrap_i] <;> omega
  have hw2 : IntKind.i64.wrap ((now.length : Int) - 1) = ((now.length - 1 : Nat) : Int) := by rw [wrap_i] <;> omega
  have e4 : (((now.length - 1 : Nat) : Int) < (now.length : Int)) = True := tr (by omega)
  rw [loop_eq pr 8 0 _ Try.f8 fn_8 _ rfl _ ann_8 _ rfl]
  simp -implicitDefEqProofs only [e1, e2, e3, e4, hx, hh, hg, hny, g1, g2, g3, g4, zero_le_cast, Int.toNat_natCast, hw, hw2, show (false == false) = true from rfl, go_sem, Nat.reduceAdd, Nat.reduceSub, Nat.reduceMul, Nat.reduceMod, Nat.reduceLT, Nat.reduceLeDiff, Nat.reduceEqDiff, Nat.reduceBEq, Nat.reduceDiv, Int.reduceLT, Int.reduceLE, Int.reduceToNat, Int.reduceNeg, Int.reduceEq, ↓reduceIte, reduceCtorEq, ↓reduceDIte]
theorem lstaa_e (hit : List (List Int)) (ms us c1 hs gs now : List Int) : loopOf pr 8 0 ⟨STaa us.length, SGaa hit ms us c1 hs gs now⟩ = some (.exit 0, ⟨STaa us.length, SGaa hit ms us c1 hs gs now⟩) := by
  rw [loop_eq pr 8 0 _ Try.f8 fn_8 _ rfl _ ann_8 _ rfl]
  simp -implicitDefEqProofs only [Int.lt_irrefl, go_sem, Nat.reduceAdd, Nat.reduceSub, Nat.reduceMul, Nat.reduceMod, Nat.reduceLT, Nat.reduceLeDiff, Nat.reduceEqDiff, Nat.reduceBEq, Nat.reduceDiv, Int.reduceLT, Int.reduceLE, Int.reduceToNat, Int.reduceNeg, Int.reduceEq, ↓reduceIte, reduceCtorEq, ↓reduceDIte]
theorem lstaa (hit : List (List Int)) (ms us c1 hs gs : List Int) (hv : validP hit ms = true) (hl : us.length < 100) (hu : ∀ x ∈ us, 0 ≤ x ∧ x ≤ 63) : ∀ (suf pre hp gp now : List Int), us = pre ++ suf → hp.length = pre.length → gp.length = pre.length → hs = hp ++ (runC hit ms now suf).1 → gs = gp ++ (runC hit ms now suf).2.1 → now.length = ms.length → OKn now →
    loopOf pr 8 0 ⟨STaa pre.length, SGaa hit ms us c1 hs gs now⟩ = some (.exit 0, ⟨STaa us.length, SGaa hit ms us c1 hs gs (runC hit ms now suf).2.2⟩)
  | [], pre, hp, gp, now, e, k1, k2, e1, e2, hn, hok => by
    have : pre.length = us.length := by rw [e]; simp
    rw [this]
    exact lstaa_e hit ms us c1 hs gs now
  | x :: suf, pre, hp, gp, now, e, k1, k2, e1, e2, hn, hok => by
    obtain ⟨v1, v2, v3, v4, v5⟩ := validP_bound hv
    have hxr := hu x (by rw [e]; simp)
    obtain ⟨f1, f2, f3, f4, f5, f6⟩ := step_facts hv hn hok hxr
    have hk : pre.length < us.length := by rw [e]; simp
    have rl := runC_length hit ms (x :: suf) now
    have l1 : hs.length = us.length := by rw [e1, e, List.length_append, List.length_append, rl.1, k1]
    have l2 : gs.length = us.length := by rw [e2, e, List.length_append, List.length_append, rl.2, k2]
    have g1 := call_stp hit ms now x hv hn hok hxr
    have g2 := call_bhas now x (by omega)
    have g3 := call_bhas (stepC hit ms now x).1 x (by omega)
    rw [f2] at g3
    have g4 := call_vc hit ms (stepC hit ms now x).1 hv f4 f3
    have ih := lstaa hit ms us c1 hs gs hv hl hu suf (pre ++ [x]) (hp ++ [if (stepC hit ms now x).2.2 = true then 1 else 0]) (gp ++ [(stepC hit ms now x).2.1]) (stepC hit ms now x).1 (by rw [e]; simp) (by simp [k1]) (by simp [k2]) (by rw [e1]; simp [runC]) (by rw [e2]; simp [runC]) f4 f3
    rw [show (pre ++ [x]).length = pre.length + 1 by simp] at ih
    have hx : ∀ z, us.getD pre.length z = x := fun z => by rw [e]; simp
    have hh : ∀ z, hs.getD pre.length z = if (stepC hit ms now x).2.2 = true then 1 else 0 := fun z => by rw [e1, ← k1]; simp [runC]
    have hg : ∀ z, gs.getD pre.length z = (stepC hit ms now x).2.1 := fun z => by rw [e2, ← k2]; simp [runC]
    show _ = (some (Ex.exit 0, ⟨STaa us.length, SGaa hit ms us c1 hs gs (runC hit ms (stepC hit ms now x).1 suf).2.2⟩) : Option (Ex × St))
    rw [← ih]
    rw [← f1] at g2
    cases hq : (stepC hit ms now x).2.2 with
    | true =>
      rw [hq] at g1 g2
      exact lstaa_h hit ms us c1 hs gs now _ pre.length x hk hl l1 l2 hx (fun z => by rw [hh z, if_pos hq]) (fun z => by rw [hg z, f5 hq]) g1 g2 g3 g4
    | false =>
      rw [hq] at g1 g2
      have hpos : 0 < now.length := by omega
      exact lstaa_m hit ms us c1 hs gs now _ pre.length x _ hk hl l1 l2 hx (fun z => by rw [hh z, if_neg (by simp [hq])]) hg hpos (by omega) (fun z => by rw [f6 hq, getD_of_lt (show now.length - 1 < now.length by omega), getD_of_lt (show now.length - 1 < now.length by omega)]) g1 g2 g3 g4
theorem ksaa (a b us ms hs c1 gs em : List Int) (hit : List (List Int)) (mi : Int)
    (g0 : callOf pr 28 [BY a, BY b] [] = some (B false, []))
    (g1 : callOf pr 35 [BY a] [] = some (.agg [.os (.t 449), .os (.t 448)], [(448, .arr true false (.int .i64) ms), (449, .arr true true (.slice (.int .i64)) hit)]))
    (g2 : callOf pr 29 [BY b] [] = some (.os (.t 576), [(576, .arr true false (.int .i64) us)]))
    (g3 : callOf pr 27 [.agg [LL hit, L ms], L us] [] = some (.tuple [.os (.t 1345), .os (.t 1344), B true], [(1344, .arr true false (.int .i64) c1), (1345, .arr true false (.int .i64) hs)]))
    (g4 : callOf pr 18 [.agg [LL hit, L ms], L us] [] = some (.tuple [I mi, B true], []))
    (g5 : ∃ c, (c = 1282 ∨ c = 1281) ∧ callOf pr 22 [.agg [LL hit, L ms], L us] [] = some (.tuple [.os (.t c), B true], [(c, .arr true false (.int .i64) gs)]))
    (g6 : callOf pr 36 [.agg [LL hit, L ms]] [] = some (.tuple [.os (.t 512), B true], [(512, .arr true false (.int .i64) em)]))
    (g7 : callOf pr 37 [L hs] [] = some (I hs.sum, []))
    (l1 : hs.length = us.length) (l2 : gs.length = us.length) (l3 : em.length = ms.length) (hw : IntKind.i64.wrap ((us.length : Int) - hs.sum) = mi)
    (g8 : loopOf pr 8 0 ⟨STaa 0, SGaa hit ms us c1 hs gs em⟩ = some (.exit 0, ⟨STaa us.length, SGaa hit ms us c1 hs gs c1⟩))
    (g9 : callOf pr 34 [L c1, L c1] [] = some (B true, [])) : callOf pr 8 [BY a, BY b] [] = some (B true, []) := by
  obtain ⟨c, hc, g5⟩ := g5
  rcases hc with rfl | rfl
  · rw [call_eq pr 8 _ _ Try.f8 fn_8 _ rfl _ ann_8 rfl]
    simp -implicitDefEqProofs only [g0, g1, g2, hw, g3, g4, g5, g6, g7, g8, g9, l1, l2, l3, go_sem, Nat.reduceAdd, Nat.reduceSub, Nat.reduceMul, Nat.reduceMod, Nat.reduceLT, Nat.reduceLeDiff, Nat.reduceEqDiff, Nat.reduceBEq, Nat.reduceDiv, Int.reduceLT, Int.reduceLE, Int.reduceToNat, Int.reduceNeg, Int.reduceEq, ↓reduceIte, reduceCtorEq, ↓reduceDIte]
  · rw [call_eq pr 8 _ _ Try.f8 fn_8 _ rfl _ ann_8 rfl]
    simp -implicitDefEqProofs only [g0, g1, g2, hw, g3, g4, g5, g6, g7, g8, g9, l1, l2, l3, go_sem, Nat.reduceAdd, Nat.reduceSub, Nat.reduceMul, Nat.reduceMod, Nat.reduceLT, Nat.reduceLeDiff, Nat.reduceEqDiff, Nat.reduceBEq, Nat.reduceDiv, Int.reduceLT, Int.reduceLE, Int.reduceToNat, Int.reduceNeg, Int.reduceEq, ↓reduceIte, reduceCtorEq, ↓reduceDIte]
abbrev STab (k : Int) : Slots := [(5, .op 320 0), (6, .os (.t 1664)), (7, .os (.t 1920)), (8, .os (.t 1921)), (12, .os (.t 2752)), (14, .os (.t 896)), (16, I k)]
abbrev SGab (hit : List (List Int)) (ms us c1 hs gs now : List Int) : Heap := [(1536, .arr true false (.int .i64) ms), (1537, .arr true true (.slice (.int .i64)) hit), (320, .box [.os (.t 1537), .os (.t 1536)]), (1664, .arr true false (.int .i64) us), (1920, .arr true false (.int .i64) hs), (1921, .arr true false (.int .i64) c1), (2752, .arr true false (.int .i64) gs), (896, .arr true false (.int .i64) now)]
theorem lstab_h (hit : List (List Int)) (ms us c1 hs gs now nx : List Int) (k : Nat) (x : Int) (hk : k < us.length) (hl : us.length < 100) (l1 : hs.length = us.length) (l2 : gs.length = us.length) (hx : ∀ z, us.getD k z = x) (hh : ∀ z, hs.getD k z = 1) (hg : ∀ z, gs.getD k z = -1)
    (g1 : callOf pr 38 [.agg [LL hit, L ms], L now, I x] [] = some (.tuple [.os (.t 1600), B true, B true], [(1600, .arr true false (.int .i64) nx)]))
    (g2 : callOf pr 33 [L now, I x] [] = some (B true, [])) (g3 : callOf pr 33 [L nx, I x] [] = some (B true, []))
    (g4 : callOf pr 39 [.agg [LL hit, L ms], L nx] [] = some (B true, [])) : loopOf pr 8 0 ⟨STab k, SGab hit ms us c1 hs gs now⟩ = loopOf pr 8 0 ⟨STab ((k + 1 : Nat) : Int), SGab hit ms us c1 hs gs nx⟩ := by
  have e1 : ((k : Int) < (us.length : Int)) = True := tr (by omega)
  have e2 : ((k : Int) < (hs.length : Int)) = True := tr (by omega)
  have e3 : ((k : Int) < (gs.length : Int)) = True := tr (by omega)
  have hw : IntKind.i64.wrap ((k : Int) + 1) = ((k + 1 : Nat) : Int) := by rw [wrap_i] <;> omega
  rw [loop_eq pr 8 0 _ Try.f8 fn_8 _ rfl _ ann_8 _ rfl]
  simp -implicitDefEqProofs only [e1, e2, e3, hx, hh, hg, g1, g2, g3, g4, zero_le_cast, Int.toNat_natCast, hw, show (true == true) = true from rfl, go_sem, Nat.reduceAdd, Nat.reduceSub, Nat.reduceMul, Nat.reduceMod, Nat.reduceLT, Nat.reduceLeDiff, Nat.reduceEqDiff, Nat.reduceBEq, Nat.reduceDiv, Int.reduceLT, Int.reduceLE, Int.reduceToNat, Int.reduceNeg, Int.reduceEq, ↓reduceIte, reduceCtorEq, ↓reduceDIte]
theorem lstab_m (hit : List (List Int)) (ms us c1 hs gs now nx : List Int) (k : Nat) (x y : Int) (hk : k < us.length) (hl : us.length < 100) (l1 : hs.length = us.length) (l2 : gs.length = us.length) (hx : ∀ z, us.getD k z = x) (hh : ∀ z, hs.getD k z = 0) (hg : ∀ z, gs.getD k z = y)
    (h0 : 0 < now.length) (hnl : now.length < 100) (hny : ∀ z, now.getD (now.length - 1) z = y)
    (g1 : callOf pr 38 [.agg [LL hit, L ms], L now, I x] [] = some (.tuple [.os (.t 1600), B false, B true], [(1600, .arr true false (.int .i64) nx)]))
    (g2 : callOf pr 33 [L now, I x] [] = some (B false, [])) (g3 : callOf pr 33 [L nx, I x] [] = some (B true, []))
    (g4 : callOf pr 39 [.agg [LL hit, L ms], L nx] [] = some (B true, [])) : loopOf pr 8 0 ⟨STab k, SGab hit ms us c1 hs gs now⟩ = loopOf pr 8 0 ⟨STab ((k + 1 : Nat) : Int), SGab hit ms us c1 hs gs nx⟩ := by
  have e1 : ((k : Int) < (us.length : Int)) = True := tr (by omega)
  have e2 : ((k : Int) < (hs.length : Int)) = True := tr (by omega)
  have e3 : ((k : Int) < (gs.length : Int)) = True := tr (by omega)
  have hw : IntKind.i64.wrap ((k : Int) + 1) = ((k + 1 : Nat) : Int) := by rw [wrap_i] <;> omega
  have hw2 : IntKind.i64.wrap ((now.length : Int) - 1) = ((now.length - 1 : Nat) : Int) := by rw [wrap_i] <;> omega
  have e4 : (((now.length - 1 : Nat) : Int) < (now.length : Int)) = True := tr (by omega)
  rw [loop_eq pr 8 0 _ Try.f8 fn_8 _ rfl _ ann_8 _ rfl]
  simp -implicitDefEqProofs only [e1, e2, e3, e4, hx, hh, hg, hny, g1, g2, g3, g4, zero_le_cast, Int.toNat_natCast, hw, hw2, show (false == false) = true from rfl, go_sem, Nat.reduceAdd, Nat.reduceSub, Nat.reduceMul, Nat.reduceMod, Nat.reduceLT, Nat.reduceLeDiff, Nat.reduceEqDiff, Nat.reduceBEq, Nat.reduceDiv, Int.reduceLT, Int.reduceLE, Int.reduceToNat, Int.reduceNeg, Int.reduceEq, ↓reduceIte, reduceCtorEq, ↓reduceDIte]
theorem lstab_e (hit : List (List Int)) (ms us c1 hs gs now : List Int) : loopOf pr 8 0 ⟨STab us.length, SGab hit ms us c1 hs gs now⟩ = some (.exit 0, ⟨STab us.length, SGab hit ms us c1 hs gs now⟩) := by
  rw [loop_eq pr 8 0 _ Try.f8 fn_8 _ rfl _ ann_8 _ rfl]
  simp -implicitDefEqProofs only [Int.lt_irrefl, go_sem, Nat.reduceAdd, Nat.reduceSub, Nat.reduceMul, Nat.reduceMod, Nat.reduceLT, Nat.reduceLeDiff, Nat.reduceEqDiff, Nat.reduceBEq, Nat.reduceDiv, Int.reduceLT, Int.reduceLE, Int.reduceToNat, Int.reduceNeg, Int.reduceEq, ↓reduceIte, reduceCtorEq, ↓reduceDIte]
theorem lstab (hit : List (List Int)) (ms us c1 hs gs : List Int) (hv : validP hit ms = true) (hl : us.length < 100) (hu : ∀ x ∈ us, 0 ≤ x ∧ x ≤ 63) : ∀ (suf pre hp gp now : List Int), us = pre ++ suf → hp.length = pre.length → gp.length = pre.length → hs = hp ++ (runC hit ms now suf).1 → gs = gp ++ (runC hit ms now suf).2.1 → now.length = ms.length → OKn now →
    loopOf pr 8 0 ⟨STab pre.length, SGab hit ms us c1 hs gs now⟩ = some (.exit 0, ⟨STab us.length, SGab hit ms us c1 hs gs (runC hit ms now suf).2.2⟩)
  | [], pre, hp, gp, now, e, k1, k2, e1, e2, hn, hok => by
    have : pre.length = us.length := by rw [e]; simp
    rw [this]
    exact lstab_e hit ms us c1 hs gs now
  | x :: suf, pre, hp, gp, now, e, k1, k2, e1, e2, hn, hok => by
    obtain ⟨v1, v2, v3, v4, v5⟩ := validP_bound hv
    have hxr := hu x (by rw [e]; simp)
    obtain ⟨f1, f2, f3, f4, f5, f6⟩ := step_facts hv hn hok hxr
    have hk : pre.length < us.length := by rw [e]; simp
    have rl := runC_length hit ms (x :: suf) now
    have l1 : hs.length = us.length := by rw [e1, e, List.length_append, List.length_append, rl.1, k1]
    have l2 : gs.length = us.length := by rw [e2, e, List.length_append, List.length_append, rl.2, k2]
    have g1 := call_stp hit ms now x hv hn hok hxr
    have g2 := call_bhas now x (by omega)
    have g3 := call_bhas (stepC hit ms now x).1 x (by omega)
    rw [f2] at g3
    have g4 := call_vc hit ms (stepC hit ms now x).1 hv f4 f3
    have ih := lstab hit ms us c1 hs gs hv hl hu suf (pre ++ [x]) (hp ++ [if (stepC hit ms now x).2.2 = true then 1 else 0]) (gp ++ [(stepC hit ms now x).2.1]) (stepC hit ms now x).1 (by rw [e]; simp) (by simp [k1]) (by simp [k2]) (by rw [e1]; simp [runC]) (by rw [e2]; simp [runC]) f4 f3
    rw [show (pre ++ [x]).length = pre.length + 1 by simp] at ih
    have hx : ∀ z, us.getD pre.length z = x := fun z => by rw [e]; simp
    have hh : ∀ z, hs.getD pre.length z = if (stepC hit ms now x).2.2 = true then 1 else 0 := fun z => by rw [e1, ← k1]; simp [runC]
    have hg : ∀ z, gs.getD pre.length z = (stepC hit ms now x).2.1 := fun z => by rw [e2, ← k2]; simp [runC]
    show _ = (some (Ex.exit 0, ⟨STab us.length, SGab hit ms us c1 hs gs (runC hit ms (stepC hit ms now x).1 suf).2.2⟩) : Option (Ex × St))
    rw [← ih]
    rw [← f1] at g2
    cases hq : (stepC hit ms now x).2.2 with
    | true =>
      rw [hq] at g1 g2
      exact lstab_h hit ms us c1 hs gs now _ pre.length x hk hl l1 l2 hx (fun z => by rw [hh z, if_pos hq]) (fun z => by rw [hg z, f5 hq]) g1 g2 g3 g4
    | false =>
      rw [hq] at g1 g2
      have hpos : 0 < now.length := by omega
      exact lstab_m hit ms us c1 hs gs now _ pre.length x _ hk hl l1 l2 hx (fun z => by rw [hh z, if_neg (by simp [hq])]) hg hpos (by omega) (fun z => by rw [f6 hq, getD_of_lt (show now.length - 1 < now.length by omega), getD_of_lt (show now.length - 1 < now.length by omega)]) g1 g2 g3 g4
theorem ksab (a b us ms hs c1 gs em : List Int) (hit : List (List Int)) (mi : Int)
    (g0 : callOf pr 28 [BY a, BY b] [] = some (B false, []))
    (g1 : callOf pr 35 [BY a] [] = some (.agg [.os (.t 449), .os (.t 448)], [(448, .arr true false (.int .i64) ms), (449, .arr true true (.slice (.int .i64)) hit)]))
    (g2 : callOf pr 29 [BY b] [] = some (.os (.t 576), [(576, .arr true false (.int .i64) us)]))
    (g3 : callOf pr 27 [.agg [LL hit, L ms], L us] [] = some (.tuple [.os (.t 1344), .os (.t 1346), B true], [(1344, .arr true false (.int .i64) hs), (1346, .arr true false (.int .i64) c1)]))
    (g4 : callOf pr 18 [.agg [LL hit, L ms], L us] [] = some (.tuple [I mi, B true], []))
    (g5 : ∃ c, (c = 1282 ∨ c = 1281) ∧ callOf pr 22 [.agg [LL hit, L ms], L us] [] = some (.tuple [.os (.t c), B true], [(c, .arr true false (.int .i64) gs)]))
    (g6 : callOf pr 36 [.agg [LL hit, L ms]] [] = some (.tuple [.os (.t 512), B true], [(512, .arr true false (.int .i64) em)]))
    (g7 : callOf pr 37 [L hs] [] = some (I hs.sum, []))
    (l1 : hs.length = us.length) (l2 : gs.length = us.length) (l3 : em.length = ms.length) (hw : IntKind.i64.wrap ((us.length : Int) - hs.sum) = mi)
    (g8 : loopOf pr 8 0 ⟨STab 0, SGab hit ms us c1 hs gs em⟩ = some (.exit 0, ⟨STab us.length, SGab hit ms us c1 hs gs c1⟩))
    (g9 : callOf pr 34 [L c1, L c1] [] = some (B true, [])) : callOf pr 8 [BY a, BY b] [] = some (B true, []) := by
  obtain ⟨c, hc, g5⟩ := g5
  rcases hc with rfl | rfl
  · rw [call_eq pr 8 _ _ Try.f8 fn_8 _ rfl _ ann_8 rfl]
    simp -implicitDefEqProofs only [g0, g1, g2, hw, g3, g4, g5, g6, g7, g8, g9, l1, l2, l3, go_sem, Nat.reduceAdd, Nat.reduceSub, Nat.reduceMul, Nat.reduceMod, Nat.reduceLT, Nat.reduceLeDiff, Nat.reduceEqDiff, Nat.reduceBEq, Nat.reduceDiv, Int.reduceLT, Int.reduceLE, Int.reduceToNat, Int.reduceNeg, Int.reduceEq, ↓reduceIte, reduceCtorEq, ↓reduceDIte]
  · rw [call_eq pr 8 _ _ Try.f8 fn_8 _ rfl _ ann_8 rfl]
    simp -implicitDefEqProofs only [g0, g1, g2, hw, g3, g4, g5, g6, g7, g8, g9, l1, l2, l3, go_sem, Nat.reduceAdd, Nat.reduceSub, Nat.reduceMul, Nat.reduceMod, Nat.reduceLT, Nat.reduceLeDiff, Nat.reduceEqDiff, Nat.reduceBEq, Nat.reduceDiv, Int.reduceLT, Int.reduceLE, Int.reduceToNat, Int.reduceNeg, Int.reduceEq, ↓reduceIte, reduceCtorEq, ↓reduceDIte]
abbrev STba (k : Int) : Slots := [(5, .op 320 0), (6, .os (.t 1664)), (7, .os (.t 1921)), (8, .os (.t 1920)), (12, .os (.t 2752)), (14, .os (.t 896)), (16, I k)]
abbrev SGba (hit : List (List Int)) (ms us c1 hs gs now : List Int) : Heap := [(1536, .arr true true (.slice (.int .i64)) hit), (1537, .arr true false (.int .i64) ms), (320, .box [.os (.t 1536), .os (.t 1537)]), (1664, .arr true false (.int .i64) us), (1920, .arr true false (.int .i64) c1), (1921, .arr true false (.int .i64) hs), (2752, .arr true false (.int .i64) gs), (896, .arr true false (.int .i64) now)]
theorem lstba_h (hit : List (List Int)) (ms us c1 hs gs now nx : List Int) (k : Nat) (x : Int) (hk : k < us.length) (hl : us.length < 100) (l1 : hs.length = us.length) (l2 : gs.length = us.length) (hx : ∀ z, us.getD k z = x) (hh : ∀ z, hs.getD k z = 1) (hg : ∀ z, gs.getD k z = -1)
    (g1 : callOf pr 38 [.agg [LL hit, L ms], L now, I x] [] = some (.tuple [.os (.t 1600), B true, B true], [(1600, .arr true false (.int .i64) nx)]))
    (g2 : callOf pr 33 [L now, I x] [] = some (B true, [])) (g3 : callOf pr 33 [L nx, I x] [] = some (B true, []))
    (g4 : callOf pr 39 [.agg [LL hit, L ms], L nx] [] = some (B true, [])) : loopOf pr 8 0 ⟨STba k, SGba hit ms us c1 hs gs now⟩ = loopOf pr 8 0 ⟨STba ((k + 1 : Nat) : Int), SGba hit ms us c1 hs gs nx⟩ := by
  have e1 : ((k : Int) < (us.length : Int)) = True := tr (by omega)
  have e2 : ((k : Int) < (hs.length : Int)) = True := tr (by omega)
  have e3 : ((k : Int) < (gs.length : Int)) = True := tr (by omega)
  have hw : IntKind.i64.wrap ((k : Int) + 1) = ((k + 1 : Nat) : Int) := by rw [wrap_i] <;> omega
  rw [loop_eq pr 8 0 _ Try.f8 fn_8 _ rfl _ ann_8 _ rfl]
  simp -implicitDefEqProofs only [e1, e2, e3, hx, hh, hg, g1, g2, g3, g4, zero_le_cast, Int.toNat_natCast, hw, show (true == true) = true from rfl, go_sem, Nat.reduceAdd, Nat.reduceSub, Nat.reduceMul, Nat.reduceMod, Nat.reduceLT, Nat.reduceLeDiff, Nat.reduceEqDiff, Nat.reduceBEq, Nat.reduceDiv, Int.reduceLT, Int.reduceLE, Int.reduceToNat, Int.reduceNeg, Int.reduceEq, ↓reduceIte, reduceCtorEq, ↓reduceDIte]
theorem lstba_m (hit : List (List Int)) (ms us c1 hs gs now nx : List Int) (k : Nat) (x y : Int) (hk : k < us.length) (hl : us.length < 100) (l1 : hs.length = us.length) (l2 : gs.length = us.length) (hx : ∀ z, us.getD k z = x) (hh : ∀ z, hs.getD k z = 0) (hg : ∀ z, gs.getD k z = y)
    (h0 : 0 < now.length) (hnl : now.length < 100) (hny : ∀ z, now.getD (now.length - 1) z = y)
    (g1 : callOf pr 38 [.agg [LL hit, L ms], L now, I x] [] = some (.tuple [.os (.t 1600), B false, B true], [(1600, .arr true false (.int .i64) nx)]))
    (g2 : callOf pr 33 [L now, I x] [] = some (B false, [])) (g3 : callOf pr 33 [L nx, I x] [] = some (B true, []))
    (g4 : callOf pr 39 [.agg [LL hit, L ms], L nx] [] = some (B true, [])) : loopOf pr 8 0 ⟨STba k, SGba hit ms us c1 hs gs now⟩ = loopOf pr 8 0 ⟨STba ((k + 1 : Nat) : Int), SGba hit ms us c1 hs gs nx⟩ := by
  have e1 : ((k : Int) < (us.length : Int)) = True := tr (by omega)
  have e2 : ((k : Int) < (hs.length : Int)) = True := tr (by omega)
  have e3 : ((k : Int) < (gs.length : Int)) = True := tr (by omega)
  have hw : IntKind.i64.wrap ((k : Int) + 1) = ((k + 1 : Nat) : Int) := by rw [wrap_i] <;> omega
  have hw2 : IntKind.i64.wrap ((now.length : Int) - 1) = ((now.length - 1 : Nat) : Int) := by rw [wrap_i] <;> omega
  have e4 : (((now.length - 1 : Nat) : Int) < (now.length : Int)) = True := tr (by omega)
  rw [loop_eq pr 8 0 _ Try.f8 fn_8 _ rfl _ ann_8 _ rfl]
  simp -implicitDefEqProofs only [e1, e2, e3, e4, hx, hh, hg, hny, g1, g2, g3, g4, zero_le_cast, Int.toNat_natCast, hw, hw2, show (false == false) = true from rfl, go_sem, Nat.reduceAdd, Nat.reduceSub, Nat.reduceMul, Nat.reduceMod, Nat.reduceLT, Nat.reduceLeDiff, Nat.reduceEqDiff, Nat.reduceBEq, Nat.reduceDiv, Int.reduceLT, Int.reduceLE, Int.reduceToNat, Int.reduceNeg, Int.reduceEq, ↓reduceIte, reduceCtorEq, ↓reduceDIte]
theorem lstba_e (hit : List (List Int)) (ms us c1 hs gs now : List Int) : loopOf pr 8 0 ⟨STba us.length, SGba hit ms us c1 hs gs now⟩ = some (.exit 0, ⟨STba us.length, SGba hit ms us c1 hs gs now⟩) := by
  rw [loop_eq pr 8 0 _ Try.f8 fn_8 _ rfl _ ann_8 _ rfl]
  simp -implicitDefEqProofs only [Int.lt_irrefl, go_sem, Nat.reduceAdd, Nat.reduceSub, Nat.reduceMul, Nat.reduceMod, Nat.reduceLT, Nat.reduceLeDiff, Nat.reduceEqDiff, Nat.reduceBEq, Nat.reduceDiv, Int.reduceLT, Int.reduceLE, Int.reduceToNat, Int.reduceNeg, Int.reduceEq, ↓reduceIte, reduceCtorEq, ↓reduceDIte]
theorem lstba (hit : List (List Int)) (ms us c1 hs gs : List Int) (hv : validP hit ms = true) (hl : us.length < 100) (hu : ∀ x ∈ us, 0 ≤ x ∧ x ≤ 63) : ∀ (suf pre hp gp now : List Int), us = pre ++ suf → hp.length = pre.length → gp.length = pre.length → hs = hp ++ (runC hit ms now suf).1 → gs = gp ++ (runC hit ms now suf).2.1 → now.length = ms.length → OKn now →
    loopOf pr 8 0 ⟨STba pre.length, SGba hit ms us c1 hs gs now⟩ = some (.exit 0, ⟨STba us.length, SGba hit ms us c1 hs gs (runC hit ms now suf).2.2⟩)
  | [], pre, hp, gp, now, e, k1, k2, e1, e2, hn, hok => by
    have : pre.length = us.length := by rw [e]; simp
    rw [this]
    exact lstba_e hit ms us c1 hs gs now
  | x :: suf, pre, hp, gp, now, e, k1, k2, e1, e2, hn, hok => by
    obtain ⟨v1, v2, v3, v4, v5⟩ := validP_bound hv
    have hxr := hu x (by rw [e]; simp)
    obtain ⟨f1, f2, f3, f4, f5, f6⟩ := step_facts hv hn hok hxr
    have hk : pre.length < us.length := by rw [e]; simp
    have rl := runC_length hit ms (x :: suf) now
    have l1 : hs.length = us.length := by rw [e1, e, List.length_append, List.length_append, rl.1, k1]
    have l2 : gs.length = us.length := by rw [e2, e, List.length_append, List.length_append, rl.2, k2]
    have g1 := call_stp hit ms now x hv hn hok hxr
    have g2 := call_bhas now x (by omega)
    have g3 := call_bhas (stepC hit ms now x).1 x (by omega)
    rw [f2] at g3
    have g4 := call_vc hit ms (stepC hit ms now x).1 hv f4 f3
    have ih := lstba hit ms us c1 hs gs hv hl hu suf (pre ++ [x]) (hp ++ [if (stepC hit ms now x).2.2 = true then 1 else 0]) (gp ++ [(stepC hit ms now x).2.1]) (stepC hit ms now x).1 (by rw [e]; simp) (by simp [k1]) (by simp [k2]) (by rw [e1]; simp [runC]) (by rw [e2]; simp [runC]) f4 f3
    rw [show (pre ++ [x]).length = pre.length + 1 by simp] at ih
    have hx : ∀ z, us.getD pre.length z = x := fun z => by rw [e]; simp
    have hh : ∀ z, hs.getD pre.length z = if (stepC hit ms now x).2.2 = true then 1 else 0 := fun z => by rw [e1, ← k1]; simp [runC]
    have hg : ∀ z, gs.getD pre.length z = (stepC hit ms now x).2.1 := fun z => by rw [e2, ← k2]; simp [runC]
    show _ = (some (Ex.exit 0, ⟨STba us.length, SGba hit ms us c1 hs gs (runC hit ms (stepC hit ms now x).1 suf).2.2⟩) : Option (Ex × St))
    rw [← ih]
    rw [← f1] at g2
    cases hq : (stepC hit ms now x).2.2 with
    | true =>
      rw [hq] at g1 g2
      exact lstba_h hit ms us c1 hs gs now _ pre.length x hk hl l1 l2 hx (fun z => by rw [hh z, if_pos hq]) (fun z => by rw [hg z, f5 hq]) g1 g2 g3 g4
    | false =>
      rw [hq] at g1 g2
      have hpos : 0 < now.length := by omega
      exact lstba_m hit ms us c1 hs gs now _ pre.length x _ hk hl l1 l2 hx (fun z => by rw [hh z, if_neg (by simp [hq])]) hg hpos (by omega) (fun z => by rw [f6 hq, getD_of_lt (show now.length - 1 < now.length by omega), getD_of_lt (show now.length - 1 < now.length by omega)]) g1 g2 g3 g4
theorem ksba (a b us ms hs c1 gs em : List Int) (hit : List (List Int)) (mi : Int)
    (g0 : callOf pr 28 [BY a, BY b] [] = some (B false, []))
    (g1 : callOf pr 35 [BY a] [] = some (.agg [.os (.t 448), .os (.t 449)], [(448, .arr true true (.slice (.int .i64)) hit), (449, .arr true false (.int .i64) ms)]))
    (g2 : callOf pr 29 [BY b] [] = some (.os (.t 576), [(576, .arr true false (.int .i64) us)]))
    (g3 : callOf pr 27 [.agg [LL hit, L ms], L us] [] = some (.tuple [.os (.t 1345), .os (.t 1344), B true], [(1344, .arr true false (.int .i64) c1), (1345, .arr true false (.int .i64) hs)]))
    (g4 : callOf pr 18 [.agg [LL hit, L ms], L us] [] = some (.tuple [I mi, B true], []))
    (g5 : ∃ c, (c = 1282 ∨ c = 1281) ∧ callOf pr 22 [.agg [LL hit, L ms], L us] [] = some (.tuple [.os (.t c), B true], [(c, .arr true false (.int .i64) gs)]))
    (g6 : callOf pr 36 [.agg [LL hit, L ms]] [] = some (.tuple [.os (.t 512), B true], [(512, .arr true false (.int .i64) em)]))
    (g7 : callOf pr 37 [L hs] [] = some (I hs.sum, []))
    (l1 : hs.length = us.length) (l2 : gs.length = us.length) (l3 : em.length = ms.length) (hw : IntKind.i64.wrap ((us.length : Int) - hs.sum) = mi)
    (g8 : loopOf pr 8 0 ⟨STba 0, SGba hit ms us c1 hs gs em⟩ = some (.exit 0, ⟨STba us.length, SGba hit ms us c1 hs gs c1⟩))
    (g9 : callOf pr 34 [L c1, L c1] [] = some (B true, [])) : callOf pr 8 [BY a, BY b] [] = some (B true, []) := by
  obtain ⟨c, hc, g5⟩ := g5
  rcases hc with rfl | rfl
  · rw [call_eq pr 8 _ _ Try.f8 fn_8 _ rfl _ ann_8 rfl]
    simp -implicitDefEqProofs only [g0, g1, g2, hw, g3, g4, g5, g6, g7, g8, g9, l1, l2, l3, go_sem, Nat.reduceAdd, Nat.reduceSub, Nat.reduceMul, Nat.reduceMod, Nat.reduceLT, Nat.reduceLeDiff, Nat.reduceEqDiff, Nat.reduceBEq, Nat.reduceDiv, Int.reduceLT, Int.reduceLE, Int.reduceToNat, Int.reduceNeg, Int.reduceEq, ↓reduceIte, reduceCtorEq, ↓reduceDIte]
  · rw [call_eq pr 8 _ _ Try.f8 fn_8 _ rfl _ ann_8 rfl]
    simp -implicitDefEqProofs only [g0, g1, g2, hw, g3, g4, g5, g6, g7, g8, g9, l1, l2, l3, go_sem, Nat.reduceAdd, Nat.reduceSub, Nat.reduceMul, Nat.reduceMod, Nat.reduceLT, Nat.reduceLeDiff, Nat.reduceEqDiff, Nat.reduceBEq, Nat.reduceDiv, Int.reduceLT, Int.reduceLE, Int.reduceToNat, Int.reduceNeg, Int.reduceEq, ↓reduceIte, reduceCtorEq, ↓reduceDIte]
abbrev STbb (k : Int) : Slots := [(5, .op 320 0), (6, .os (.t 1664)), (7, .os (.t 1920)), (8, .os (.t 1921)), (12, .os (.t 2752)), (14, .os (.t 896)), (16, I k)]
abbrev SGbb (hit : List (List Int)) (ms us c1 hs gs now : List Int) : Heap := [(1536, .arr true true (.slice (.int .i64)) hit), (1537, .arr true false (.int .i64) ms), (320, .box [.os (.t 1536), .os (.t 1537)]), (1664, .arr true false (.int .i64) us), (1920, .arr true false (.int .i64) hs), (1921, .arr true false (.int .i64) c1), (2752, .arr true false (.int .i64) gs), (896, .arr true false (.int .i64) now)]
theorem lstbb_h (hit : List (List Int)) (ms us c1 hs gs now nx : List Int) (k : Nat) (x : Int) (hk : k < us.length) (hl : us.length < 100) (l1 : hs.length = us.length) (l2 : gs.length = us.length) (hx : ∀ z, us.getD k z = x) (hh : ∀ z, hs.getD k z = 1) (hg : ∀ z, gs.getD k z = -1)
    (g1 : callOf pr 38 [.agg [LL hit, L ms], L now, I x] [] = some (.tuple [.os (.t 1600), B true, B true], [(1600, .arr true false (.int .i64) nx)]))
    (g2 : callOf pr 33 [L now, I x] [] = some (B true, [])) (g3 : callOf pr 33 [L nx, I x] [] = some (B true, []))
    (g4 : callOf pr 39 [.agg [LL hit, L ms], L nx] [] = some (B true, [])) : loopOf pr 8 0 ⟨STbb k, SGbb hit ms us c1 hs gs now⟩ = loopOf pr 8 0 ⟨STbb ((k + 1 : Nat) : Int), SGbb hit ms us c1 hs gs nx⟩ := by
  have e1 : ((k : Int) < (us.length : Int)) = True := tr (by omega)
  have e2 : ((k : Int) < (hs.length : Int)) = True := tr (by omega)
  have e3 : ((k : Int) < (gs.length : Int)) = True := tr (by omega)
  have hw : IntKind.i64.wrap ((k : Int) + 1) = ((k + 1 : Nat) : Int) := by rw [wrap_i] <;> omega
  rw [loop_eq pr 8 0 _ Try.f8 fn_8 _ rfl _ ann_8 _ rfl]
  simp -implicitDefEqProofs only [e1, e2, e3, hx, hh, hg, g1, g2, g3, g4, zero_le_cast, Int.toNat_natCast, hw, show (true == true) = true from rfl, go_sem, Nat.reduceAdd, Nat.reduceSub, Nat.reduceMul, Nat.reduceMod, Nat.reduceLT, Nat.reduceLeDiff, Nat.reduceEqDiff, Nat.reduceBEq, Nat.reduceDiv, Int.reduceLT, Int.reduceLE, Int.reduceToNat, Int.reduceNeg, Int.reduceEq, ↓reduceIte, reduceCtorEq, ↓reduceDIte]
theorem lstbb_m (hit : List (List Int)) (ms us c1 hs gs now nx : List Int) (k : Nat) (x y : Int) (hk : k < us.length) (hl : us.length < 100) (l1 : hs.length = us.length) (l2 : gs.length = us.length) (hx : ∀ z, us.getD k z = x) (hh : ∀ z, hs.getD k z = 0) (hg : ∀ z, gs.getD k z = y)
    (h0 : 0 < now.length) (hnl : now.length < 100) (hny : ∀ z, now.getD (now.length - 1) z = y)
    (g1 : callOf pr 38 [.agg [LL hit, L ms], L now, I x] [] = some (.tuple [.os (.t 1600), B false, B true], [(1600, .arr true false (.int .i64) nx)]))
    (g2 : callOf pr 33 [L now, I x] [] = some (B false, [])) (g3 : callOf pr 33 [L nx, I x] [] = some (B true, []))
    (g4 : callOf pr 39 [.agg [LL hit, L ms], L nx] [] = some (B true, [])) : loopOf pr 8 0 ⟨STbb k, SGbb hit ms us c1 hs gs now⟩ = loopOf pr 8 0 ⟨STbb ((k + 1 : Nat) : Int), SGbb hit ms us c1 hs gs nx⟩ := by
  have e1 : ((k : Int) < (us.length : Int)) = True := tr (by omega)
  have e2 : ((k : Int) < (hs.length : Int)) = True := tr (by omega)
  have e3 : ((k : Int) < (gs.length : Int)) = True := tr (by omega)
  have hw : IntKind.i64.wrap ((k : Int) + 1) = ((k + 1 : Nat) : Int) := by rw [wrap_i] <;> omega
  have hw2 : IntKind.i64.wrap ((now.length : Int) - 1) = ((now.length - 1 : Nat) : Int) := by rw [wrap_i] <;> omega
  have e4 : (((now.length - 1 : Nat) : Int) < (now.length : Int)) = True := tr (by omega)
  rw [loop_eq pr 8 0 _ Try.f8 fn_8 _ rfl _ ann_8 _ rfl]
  simp -implicitDefEqProofs only [e1, e2, e3, e4, hx, hh, hg, hny, g1, g2, g3, g4, zero_le_cast, Int.toNat_natCast, hw, hw2, show (false == false) = true from rfl, go_sem, Nat.reduceAdd, Nat.reduceSub, Nat.reduceMul, Nat.reduceMod, Nat.reduceLT, Nat.reduceLeDiff, Nat.reduceEqDiff, Nat.reduceBEq, Nat.reduceDiv, Int.reduceLT, Int.reduceLE, Int.reduceToNat, Int.reduceNeg, Int.reduceEq, ↓reduceIte, reduceCtorEq, ↓reduceDIte]
theorem lstbb_e (hit : List (List Int)) (ms us c1 hs gs now : List Int) : loopOf pr 8 0 ⟨STbb us.length, SGbb hit ms us c1 hs gs now⟩ = some (.exit 0, ⟨STbb us.length, SGbb hit ms us c1 hs gs now⟩) := by
  rw [loop_eq pr 8 0 _ Try.f8 fn_8 _ rfl _ ann_8 _ rfl]
  simp -implicitDefEqProofs only [Int.lt_irrefl, go_sem, Nat.reduceAdd, Nat.reduceSub, Nat.reduceMul, Nat.reduceMod, Nat.reduceLT, Nat.reduceLeDiff, Nat.reduceEqDiff, Nat.reduceBEq, Nat.reduceDiv, Int.reduceLT, Int.reduceLE, Int.reduceToNat, Int.reduceNeg, Int.reduceEq, ↓reduceIte, reduceCtorEq, ↓reduceDIte]
theorem lstbb (hit : List (List Int)) (ms us c1 hs gs : List Int) (hv : validP hit ms = true) (hl : us.length < 100) (hu : ∀ x ∈ us, 0 ≤ x ∧ x ≤ 63) : ∀ (suf pre hp gp now : List Int), us = pre ++ suf → hp.length = pre.length → gp.length = pre.length → hs = hp ++ (runC hit ms now suf).1 → gs = gp ++ (runC hit ms now suf).2.1 → now.length = ms.length → OKn now →
    loopOf pr 8 0 ⟨STbb pre.length, SGbb hit ms us c1 hs gs now⟩ = some (.exit 0, ⟨STbb us.length, SGbb hit ms us c1 hs gs (runC hit ms now suf).2.2⟩)
  | [], pre, hp, gp, now, e, k1, k2, e1, e2, hn, hok => by
    have : pre.length = us.length := by rw [e]; simp
    rw [this]
    exact lstbb_e hit ms us c1 hs gs now
  | x :: suf, pre, hp, gp, now, e, k1, k2, e1, e2, hn, hok => by
    obtain ⟨v1, v2, v3, v4, v5⟩ := validP_bound hv
    have hxr := hu x (by rw [e]; simp)
    obtain ⟨f1, f2, f3, f4, f5, f6⟩ := step_facts hv hn hok hxr
    have hk : pre.length < us.length := by rw [e]; simp
    have rl := runC_length hit ms (x :: suf) now
    have l1 : hs.length = us.length := by rw [e1, e, List.length_append, List.length_append, rl.1, k1]
    have l2 : gs.length = us.length := by rw [e2, e, List.length_append, List.length_append, rl.2, k2]
    have g1 := call_stp hit ms now x hv hn hok hxr
    have g2 := call_bhas now x (by omega)
    have g3 := call_bhas (stepC hit ms now x).1 x (by omega)
    rw [f2] at g3
    have g4 := call_vc hit ms (stepC hit ms now x).1 hv f4 f3
    have ih := lstbb hit ms us c1 hs gs hv hl hu suf (pre ++ [x]) (hp ++ [if (stepC hit ms now x).2.2 = true then 1 else 0]) (gp ++ [(stepC hit ms now x).2.1]) (stepC hit ms now x).1 (by rw [e]; simp) (by simp [k1]) (by simp [k2]) (by rw [e1]; simp [runC]) (by rw [e2]; simp [runC]) f4 f3
    rw [show (pre ++ [x]).length = pre.length + 1 by simp] at ih
    have hx : ∀ z, us.getD pre.length z = x := fun z => by rw [e]; simp
    have hh : ∀ z, hs.getD pre.length z = if (stepC hit ms now x).2.2 = true then 1 else 0 := fun z => by rw [e1, ← k1]; simp [runC]
    have hg : ∀ z, gs.getD pre.length z = (stepC hit ms now x).2.1 := fun z => by rw [e2, ← k2]; simp [runC]
    show _ = (some (Ex.exit 0, ⟨STbb us.length, SGbb hit ms us c1 hs gs (runC hit ms (stepC hit ms now x).1 suf).2.2⟩) : Option (Ex × St))
    rw [← ih]
    rw [← f1] at g2
    cases hq : (stepC hit ms now x).2.2 with
    | true =>
      rw [hq] at g1 g2
      exact lstbb_h hit ms us c1 hs gs now _ pre.length x hk hl l1 l2 hx (fun z => by rw [hh z, if_pos hq]) (fun z => by rw [hg z, f5 hq]) g1 g2 g3 g4
    | false =>
      rw [hq] at g1 g2
      have hpos : 0 < now.length := by omega
      exact lstbb_m hit ms us c1 hs gs now _ pre.length x _ hk hl l1 l2 hx (fun z => by rw [hh z, if_neg (by simp [hq])]) hg hpos (by omega) (fun z => by rw [f6 hq, getD_of_lt (show now.length - 1 < now.length by omega), getD_of_lt (show now.length - 1 < now.length by omega)]) g1 g2 g3 g4
theorem ksbb (a b us ms hs c1 gs em : List Int) (hit : List (List Int)) (mi : Int)
    (g0 : callOf pr 28 [BY a, BY b] [] = some (B false, []))
    (g1 : callOf pr 35 [BY a] [] = some (.agg [.os (.t 448), .os (.t 449)], [(448, .arr true true (.slice (.int .i64)) hit), (449, .arr true false (.int .i64) ms)]))
    (g2 : callOf pr 29 [BY b] [] = some (.os (.t 576), [(576, .arr true false (.int .i64) us)]))
    (g3 : callOf pr 27 [.agg [LL hit, L ms], L us] [] = some (.tuple [.os (.t 1344), .os (.t 1346), B true], [(1344, .arr true false (.int .i64) hs), (1346, .arr true false (.int .i64) c1)]))
    (g4 : callOf pr 18 [.agg [LL hit, L ms], L us] [] = some (.tuple [I mi, B true], []))
    (g5 : ∃ c, (c = 1282 ∨ c = 1281) ∧ callOf pr 22 [.agg [LL hit, L ms], L us] [] = some (.tuple [.os (.t c), B true], [(c, .arr true false (.int .i64) gs)]))
    (g6 : callOf pr 36 [.agg [LL hit, L ms]] [] = some (.tuple [.os (.t 512), B true], [(512, .arr true false (.int .i64) em)]))
    (g7 : callOf pr 37 [L hs] [] = some (I hs.sum, []))
    (l1 : hs.length = us.length) (l2 : gs.length = us.length) (l3 : em.length = ms.length) (hw : IntKind.i64.wrap ((us.length : Int) - hs.sum) = mi)
    (g8 : loopOf pr 8 0 ⟨STbb 0, SGbb hit ms us c1 hs gs em⟩ = some (.exit 0, ⟨STbb us.length, SGbb hit ms us c1 hs gs c1⟩))
    (g9 : callOf pr 34 [L c1, L c1] [] = some (B true, [])) : callOf pr 8 [BY a, BY b] [] = some (B true, []) := by
  obtain ⟨c, hc, g5⟩ := g5
  rcases hc with rfl | rfl
  · rw [call_eq pr 8 _ _ Try.f8 fn_8 _ rfl _ ann_8 rfl]
    simp -implicitDefEqProofs only [g0, g1, g2, hw, g3, g4, g5, g6, g7, g8, g9, l1, l2, l3, go_sem, Nat.reduceAdd, Nat.reduceSub, Nat.reduceMul, Nat.reduceMod, Nat.reduceLT, Nat.reduceLeDiff, Nat.reduceEqDiff, Nat.reduceBEq, Nat.reduceDiv, Int.reduceLT, Int.reduceLE, Int.reduceToNat, Int.reduceNeg, Int.reduceEq, ↓reduceIte, reduceCtorEq, ↓reduceDIte]
  · rw [call_eq pr 8 _ _ Try.f8 fn_8 _ rfl _ ann_8 rfl]
    simp -implicitDefEqProofs only [g0, g1, g2, hw, g3, g4, g5, g6, g7, g8, g9, l1, l2, l3, go_sem, Nat.reduceAdd, Nat.reduceSub, Nat.reduceMul, Nat.reduceMod, Nat.reduceLT, Nat.reduceLeDiff, Nat.reduceEqDiff, Nat.reduceBEq, Nat.reduceDiv, Int.reduceLT, Int.reduceLE, Int.reduceToNat, Int.reduceNeg, Int.reduceEq, ↓reduceIte, reduceCtorEq, ↓reduceDIte]
theorem okBy_of2 {a : List Int} (hw : Ty.WF (.slice (.int .u8)) a) (hl : ¬ 1048576 < (a.length : Int)) : okBy a := by
  refine ⟨by omega, fun x hx => ?_⟩
  have h1 := hw.2 x hx
  have h2 : IntKind.u8.min ≤ x ∧ x ≤ IntKind.u8.max := h1
  have h3 : IntKind.u8.min = 0 ∧ IntKind.u8.max = 255 := by decide
  omega
theorem law_steps (a b : List Int) (wa : Ty.WF (.slice (.int .u8)) a) (wb : Ty.WF (.slice (.int .u8)) b) : callOf pr 8 [BY a, BY b] [] = some (B true, []) := by
  have g0 := call_long a b
  by_cases h1 : 1048576 < (a.length : Int)
  · rw [decide_eq_true h1, Bool.true_or] at g0
    rw [call_eq pr 8 _ _ Try.f8 fn_8 _ rfl _ ann_8 rfl]
    simp -implicitDefEqProofs only [g0, go_sem, Nat.reduceAdd, Nat.reduceSub, Nat.reduceMul, Nat.reduceMod, Nat.reduceLT, Nat.reduceLeDiff, Nat.reduceEqDiff, Nat.reduceBEq, Nat.reduceDiv, Int.reduceLT, Int.reduceLE, Int.reduceToNat, Int.reduceNeg, Int.reduceEq, ↓reduceIte, reduceCtorEq, ↓reduceDIte]
  by_cases h2 : 1048576 < (b.length : Int)
  · rw [decide_eq_true h2, Bool.or_true] at g0
    rw [call_eq pr 8 _ _ Try.f8 fn_8 _ rfl _ ann_8 rfl]
    simp -implicitDefEqProofs only [g0, go_sem, Nat.reduceAdd, Nat.reduceSub, Nat.reduceMul, Nat.reduceMod, Nat.reduceLT, Nat.reduceLeDiff, Nat.reduceEqDiff, Nat.reduceBEq, Nat.reduceDiv, Int.reduceLT, Int.reduceLE, Int.reduceToNat, Int.reduceNeg, Int.reduceEq, ↓reduceIte, reduceCtorEq, ↓reduceDIte]
  rw [decide_eq_false h1, decide_eq_false h2, Bool.or_false] at g0
  obtain ⟨us, hus, hul, g2⟩ := call_uses b (okBy_of2 wb h2)
  obtain ⟨hit, ms, hv, g1⟩ := call_pol a (okBy_of2 wa h1)
  obtain ⟨v1, v2, v3, v4, v5⟩ := validP_bound hv
  have hu : validU us = true := by
    simp only [validU, Bool.and_eq_true, List.all_eq_true, addrB, decide_eq_true_eq]
    exact ⟨fun x hx => by have := hus x hx; omega, by omega⟩
  have f1 : fair hit ms us = true := by simp only [fair, hv, hu, Bool.and_self]
  have hc : ∀ l ∈ hit, l.length < 1000000000000000000 := fun l hl => by have := (v5 l hl).1; omega
  have g3 := call_irp hit ms (by omega) (by omega) hc us (by omega)
  rw [if_pos f1] at g3
  have g4 := call_imo hit ms (by omega) (by omega) hc us (by omega)
  rw [if_pos f1] at g4
  have g5 := call_iev hit ms (by omega) (by omega) hc us (by omega)
  rw [if_pos f1] at g5
  have g6 := call_emc hit ms hv
  have rl := runC_length hit ms us (emptyC ms)
  have hb := runC_bits hit ms us (emptyC ms)
  have g7 := call_sum (runC hit ms (emptyC ms) us).1 (by rw [rl.1]; omega) hb
  have hel : (emptyC ms).length = ms.length := by simp [emptyC]
  have hs := sum01 _ hb
  have hw : IntKind.i64.wrap ((us.length : Int) - (runC hit ms (emptyC ms) us).1.sum) = missN (runC hit ms (emptyC ms) us).1 := by
    unfold missN
    rw [rl.1] at hs ⊢
    rw [wrap_i] <;> omega
  have hfin := runC_final hv us (emptyC ms) hel
  have g9 := call_nums (runC hit ms (emptyC ms) us).2.2 (by rw [hfin]; omega)
  have hus2 : ∀ x ∈ us, 0 ≤ x ∧ x ≤ 63 := fun x hx => by have := hus x hx; omega
  rcases g1 with g1 | g1 <;> rcases g3 with g3 | g3
  · have g8 := lstaa hit ms us (runC hit ms (emptyC ms) us).2.2 _ _ hv (by omega) hus2 us [] [] [] (emptyC ms) rfl rfl rfl (List.nil_append _).symm (List.nil_append _).symm hel (OKn_empty ms)
    exact ksaa a b us ms _ _ _ _ hit _ g0 g1 g2 g3 g4 g5 g6 g7 rl.1 rl.2 hel hw g8 g9
  · have g8 := lstab hit ms us (runC hit ms (emptyC ms) us).2.2 _ _ hv (by omega) hus2 us [] [] [] (emptyC ms) rfl rfl rfl (List.nil_append _).symm (List.nil_append _).symm hel (OKn_empty ms)
    exact ksab a b us ms _ _ _ _ hit _ g0 g1 g2 g3 g4 g5 g6 g7 rl.1 rl.2 hel hw g8 g9
  · have g8 := lstba hit ms us (runC hit ms (emptyC ms) us).2.2 _ _ hv (by omega) hus2 us [] [] [] (emptyC ms) rfl rfl rfl (List.nil_append _).symm (List.nil_append _).symm hel (OKn_empty ms)
    exact ksba a b us ms _ _ _ _ hit _ g0 g1 g2 g3 g4 g5 g6 g7 rl.1 rl.2 hel hw g8 g9
  · have g8 := lstbb hit ms us (runC hit ms (emptyC ms) us).2.2 _ _ hv (by omega) hus2 us [] [] [] (emptyC ms) rfl rfl rfl (List.nil_append _).symm (List.nil_append _).symm hel (OKn_empty ms)
    exact ksbb a b us ms _ _ _ _ hit _ g0 g1 g2 g3 g4 g5 g6 g7 rl.1 rl.2 hel hw g8 g9
end Go.Proofs.Ytfooniikopekoaa.PI
