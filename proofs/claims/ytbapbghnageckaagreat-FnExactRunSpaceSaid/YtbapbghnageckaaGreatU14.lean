/- RunSpace, in the reference. -/
import Derived.Test.YtbapbghnageckaaGreatU9
namespace Go.Proofs.YtbapbghnageckaaGreat.PI
open Go Go.Q
set_option maxRecDepth 100000
set_option maxHeartbeats 4000000
set_option linter.unusedSimpArgs false
set_option linter.unusedVariables false
attribute [local go_sem] Nat.reduceAdd Nat.reduceSub Nat.reduceMul Nat.reduceMod Nat.reduceLT Nat.reduceLeDiff Nat.reduceEqDiff Nat.reduceBEq Nat.reduceDiv Int.reduceLT Int.reduceLE Int.reduceToNat Int.reduceNeg Int.reduceEq reduceCtorEq
attribute [local go_sem ↓] reduceIte reduceDIte
def runS (r : List Int) : List Acc → List (List En) → List Ca → List Int × List (List En) × List Ca
  | [], t, b => ([], t, b)
  | (k, p, _) :: xs, t, b => ((useR r t b k p).1 :: (runS r xs (useR r t b k p).2.2.1 (useR r t b k p).2.2.2).1, (runS r xs (useR r t b k p).2.2.1 (useR r t b k p).2.2.2).2)
theorem runS_fit {r : List Int} : ∀ (xs : List Acc) {t : List (List En)} {b : List Ca}, xs.all accB = true → Fit r t b → Fit r (runS r xs t b).2.1 (runS r xs t b).2.2 ∧ (runS r xs t b).1.length = xs.length
  | [], t, b, _, h => ⟨h, rfl⟩
  | (k, p, ()) :: xs, t, b, hx, h => by
    simp only [List.all_cons, Bool.and_eq_true, accB] at hx
    obtain ⟨h1, h2⟩ := runS_fit xs (by simpa [accB] using hx.2) (h.use k hx.1.2)
    exact ⟨h1, by simp only [runS, List.length_cons, h2]⟩
theorem loop_sr (r : List Int) : ∀ (suf pre : List Acc) (t : List (List En)) (b : List Ca) (out : List Int), pre.length + suf.length < 100000 → out.length = pre.length → suf.all accB = true → Fit r t b →
    loopOf pr 16 0 ⟨[(1, LA (pre ++ suf)), (4, .op 256 0), (7, .op 448 0), (8, .os (.t 1408)), (9, I pre.length)], [(256, .box [.nilS, .nilS, .nilS]), (448, .box [.os (.t 449), .os (.t 450), .os (.t 451)]), (1408, .arr true false (.int .i64) out), (449, .arr true false (.int .i64) r), (450, .arr true true (.slice tyE) t), (451, .arr true false tyC b)]⟩ = some (.exit 0, ⟨[(1, LA (pre ++ suf)), (4, .op 256 0), (7, .op 448 0), (8, .os (.t 1408)), (9, I ((pre.length + suf.length : Nat) : Int))], [(256, .box [.nilS, .nilS, .nilS]), (448, .box [.os (.t 449), .os (.t 450), .os (.t 451)]), (1408, .arr true false (.int .i64) (out ++ (runS r suf t b).1)), (449, .arr true false (.int .i64) r), (450, .arr true true (.slice tyE) (runS r suf t b).2.1), (451, .arr true false tyC (runS r suf t b).2.2)]⟩)
  | [], pre, t, b, out, hb, ho, hx, hF => by
    rw [loop_eq pr 16 0 _ Tryz.f16 fn_16 _ rfl _ ann_16 _ rfl]
    simp -implicitDefEqProofs only [Int.lt_irrefl, List.append_nil, Nat.add_zero, runS, go_sem]
  | (k, p, ()) :: suf, pre, t, b, out, hb, ho, hx, hF => by
    simp only [List.length_cons] at hb
    simp only [List.all_cons, Bool.and_eq_true, accB] at hx
    have hw : IntKind.i64.wrap ((pre.length : Int) + 1) = ((pre.length + 1 : Nat) : Int) := by rw [wrap_i] <;> omega
    have hroom : ((out.length + 1) * 8 ≤ 140737488355328 ∧ out.length ≤ 9223372036854775806) = True := tr (by omega)
    have h4 := call_lu r t b k p hx.1.2 hF
    have ih := loop_sr r suf (pre ++ [(k, p, ())]) (useR r t b k p).2.2.1 (useR r t b k p).2.2.2 (out ++ [(useR r t b k p).1]) (by simp; omega) (by simp [ho]) (by simpa [accB] using hx.2) (hF.use k hx.1.2)
    have e1 : (pre ++ [(k, p, ())]).length = pre.length + 1 := by simp
    have e2 : pre.length + 1 + suf.length = pre.length + ((k, p, ()) :: suf).length := by simp; omega
    have e3 : out ++ [(useR r t b k p).1] ++ (runS r suf (useR r t b k p).2.2.1 (useR r t b k p).2.2.2).1 = out ++ (runS r ((k, p, ()) :: suf) t b).1 := by simp [runS]
    rw [app_one, e1, e2, e3] at ih
    rw [loop_eq pr 16 0 _ Tryz.f16 fn_16 _ rfl _ ann_16 _ rfl]
    rcases h4 with h4 | h4 | h4
    · simp -implicitDefEqProofs only [getD_app, lt_app, ltn_app, zero_le_cast, Int.toNat_natCast, hw, hroom, h4, go_sem]
      exact ih
    · simp -implicitDefEqProofs only [getD_app, lt_app, ltn_app, zero_le_cast, Int.toNat_natCast, hw, hroom, h4, go_sem]
      exact ih
    · simp -implicitDefEqProofs only [getD_app, lt_app, ltn_app, zero_le_cast, Int.toNat_natCast, hw, hroom, h4, go_sem]
      exact ih
def runC (r : List Int) (t : List (List En)) (b : List Ca) (xs : List Acc) : Bool := specS r t b && validT xs
theorem call_srs (r : List Int) (t : List (List En)) (b : List Ca) (xs : List Acc) (hl : xs.length < 2000000) : callOf pr 16 [.agg [L r, LLE t, LC b], LA xs] [] = if runC r t b xs = true then
      some (.tuple [.agg [.os (.t 449), .os (.t 450), .os (.t 451)], .os (.t 1408), B true], [(1408, .arr true false (.int .i64) (runS r xs t b).1), (449, .arr true false (.int .i64) r), (450, .arr true true (.slice tyE) (runS r xs t b).2.1), (451, .arr true false tyC (runS r xs t b).2.2)])
    else some (.tuple [.agg [.nilS, .nilS, .nilS], .nilS, B false], []) := by
  have h1 := call_si r t b
  have h2 := call_lit xs (by omega)
  cases hs : specS r t b with
  | false =>
    rw [hs] at h1
    rw [if_neg (by simp [runC, hs])]
    rw [call_eq pr 16 _ _ Tryz.f16 fn_16 _ rfl _ ann_16 rfl]
    simp -implicitDefEqProofs only [h1, go_sem]
  | true =>
    rw [hs] at h1
    cases hv : validT xs with
    | false =>
      rw [hv] at h2
      rw [if_neg (by simp [runC, hv])]
      rw [call_eq pr 16 _ _ Tryz.f16 fn_16 _ rfl _ ann_16 rfl]
      simp -implicitDefEqProofs only [h1, h2, go_sem]
    | true =>
      rw [hv] at h2
      rw [if_pos (by simp [runC, hv, hs])]
      have hF := fit_spec hs
      have h3 := call_so r t b (by have := hF.root; omega) (by have := hF.few; omega) (fun x hx => by rw [hF.rows x hx]; omega) (by have := hF.buf; omega)
      have hv2 : xs.all accB = true ∧ xs.length ≤ 60 := by simpa only [validT, Bool.and_eq_true, decide_eq_true_eq] using hv
      have h4 := loop_sr r xs [] t b [] (by simp; omega) rfl hv2.1 hF
      simp only [List.nil_append, List.length_nil, Nat.zero_add, Int.natCast_zero] at h4
      rw [call_eq pr 16 _ _ Tryz.f16 fn_16 _ rfl _ ann_16 rfl]
      simp -implicitDefEqProofs only [h1, h2, h3, h4, go_sem]
attribute [local go_sem] Nat.reduceAdd Nat.reduceSub Nat.reduceMul Nat.reduceMod Nat.reduceLT Nat.reduceLeDiff Nat.reduceEqDiff Nat.reduceBEq Nat.reduceDiv Int.reduceLT Int.reduceLE Int.reduceToNat Int.reduceNeg Int.reduceEq reduceCtorEq
attribute [local go_sem ↓] reduceIte reduceDIte
theorem loop_ir1 (r : List Int) : ∀ (suf pre : List Acc) (out : List Int), pre.length + suf.length < 100000 → out.length = pre.length → suf.all accB = true → Fit r [] [] →
    loopOf pr 18 0 ⟨[(4, .op 256 0), (7, .op 448 0), (8, .os (.t 1536)), (25, LA (pre ++ suf)), (26, I ((pre.length + suf.length : Nat) : Int)), (27, I pre.length)], [(256, .box [.nilS, .nilS, .nilS]), (1472, .arr true false (.int .i64) r), (1536, .arr true false (.int .i64) out), (448, .box [.os (.t 1472), .nilS, .empS])]⟩ = some (.exit 0, ⟨[(4, .op 256 0), (7, .op 448 0), (8, .os (.t 1536)), (25, LA (pre ++ suf)), (26, I ((pre.length + suf.length : Nat) : Int)), (27, I ((pre.length + suf.length : Nat) : Int))], [(256, .box [.nilS, .nilS, .nilS]), (1472, .arr true false (.int .i64) r), (1536, .arr true false (.int .i64) (out ++ (runS r suf [] []).1)), (448, .box [.os (.t 1472), .nilS, .empS])]⟩) ∧ (runS r suf [] []).2 = ([], [])
  | [], pre, out, hb, ho, hx, hF => by
    refine ⟨?_, rfl⟩
    rw [loop_eq pr 18 0 _ Tryz.f18 fn_18 _ rfl _ ann_18 _ rfl]
    simp -implicitDefEqProofs only [Int.lt_irrefl, List.append_nil, Nat.add_zero, List.length_nil, runS, go_sem]
  | (k, p, ()) :: suf, pre, out, hb, ho, hx, hF => by
    simp only [List.length_cons] at hb ⊢
    simp only [List.all_cons, Bool.and_eq_true, accB] at hx
    have hw : IntKind.i64.wrap ((pre.length : Int) + 1) = ((pre.length + 1 : Nat) : Int) := by rw [wrap_i] <;> omega
    have hroom : ((out.length + 1) * 8 ≤ 140737488355328 ∧ out.length ≤ 9223372036854775806) = True := tr (by omega)
    have hlt : ((pre.length : Int) < ((pre.length + (suf.length + 1) : Nat) : Int)) = True := tr (by omega)
    obtain ⟨h4, h5⟩ := use_00 r k p hx.1.2 hF
    obtain ⟨ih, h6⟩ := loop_ir1 r suf (pre ++ [(k, p, ())]) (out ++ [(useR r [] [] k p).1]) (by simp; omega) (by simp [ho]) (by simpa [accB] using hx.2) hF
    have e1 : (pre ++ [(k, p, ())]).length = pre.length + 1 := by simp
    have e2 : pre.length + 1 + suf.length = pre.length + (suf.length + 1) := by omega
    have e4 : runS r ((k, p, ()) :: suf) [] [] = ((useR r [] [] k p).1 :: (runS r suf [] []).1, (runS r suf [] []).2) := by simp only [runS, h5]
    have e3 : out ++ [(useR r [] [] k p).1] ++ (runS r suf [] []).1 = out ++ (runS r ((k, p, ()) :: suf) [] []).1 := by rw [e4]; simp
    rw [app_one, e1, e2, e3] at ih
    refine ⟨?_, by rw [e4]; exact h6⟩
    rw [loop_eq pr 18 0 _ Tryz.f18 fn_18 _ rfl _ ann_18 _ rfl]
    simp -implicitDefEqProofs only [getD_app, lt_app, ltn_app, zero_le_cast, Int.toNat_natCast, hw, hlt, hroom, h4, go_sem]
    exact ih
theorem loop_ir2 (r : List Int) : ∀ (suf pre : List Acc) (b : List Ca) (out : List Int), pre.length + suf.length < 100000 → out.length = pre.length → suf.all accB = true → Fit r [] b →
    loopOf pr 18 0 ⟨[(4, .op 256 0), (7, .op 448 0), (8, .os (.t 1536)), (25, LA (pre ++ suf)), (26, I ((pre.length + suf.length : Nat) : Int)), (27, I pre.length)], [(256, .box [.nilS, .nilS, .nilS]), (1472, .arr true false (.int .i64) r), (1536, .arr true false (.int .i64) out), (448, .box [.os (.t 1472), .nilS, .os (.t 451)]), (451, .arr true false tyC b)]⟩ = some (.exit 0, ⟨[(4, .op 256 0), (7, .op 448 0), (8, .os (.t 1536)), (25, LA (pre ++ suf)), (26, I ((pre.length + suf.length : Nat) : Int)), (27, I ((pre.length + suf.length : Nat) : Int))], [(256, .box [.nilS, .nilS, .nilS]), (1472, .arr true false (.int .i64) r), (1536, .arr true false (.int .i64) (out ++ (runS r suf [] b).1)), (448, .box [.os (.t 1472), .nilS, .os (.t 451)]), (451, .arr true false tyC (runS r suf [] b).2.2)]⟩) ∧ (runS r suf [] b).2.1 = []
  | [], pre, b, out, hb, ho, hx, hF => by
    refine ⟨?_, rfl⟩
    rw [loop_eq pr 18 0 _ Tryz.f18 fn_18 _ rfl _ ann_18 _ rfl]
    simp -implicitDefEqProofs only [Int.lt_irrefl, List.append_nil, Nat.add_zero, List.length_nil, runS, go_sem]
  | (k, p, ()) :: suf, pre, b, out, hb, ho, hx, hF => by
    simp only [List.length_cons] at hb ⊢
    simp only [List.all_cons, Bool.and_eq_true, accB] at hx
    have hw : IntKind.i64.wrap ((pre.length : Int) + 1) = ((pre.length + 1 : Nat) : Int) := by rw [wrap_i] <;> omega
    have hroom : ((out.length + 1) * 8 ≤ 140737488355328 ∧ out.length ≤ 9223372036854775806) = True := tr (by omega)
    have hlt : ((pre.length : Int) < ((pre.length + (suf.length + 1) : Nat) : Int)) = True := tr (by omega)
    obtain ⟨⟨m, h4⟩, h5⟩ := use_01 r b k p hx.1.2 hF
    have hF2 := hF.use k hx.1.2
    rw [h5] at hF2
    obtain ⟨ih, h6⟩ := loop_ir2 r suf (pre ++ [(k, p, ())]) (useR r [] b k p).2.2.2 (out ++ [(useR r [] b k p).1]) (by simp; omega) (by simp [ho]) (by simpa [accB] using hx.2) hF2
    have e1 : (pre ++ [(k, p, ())]).length = pre.length + 1 := by simp
    have e2 : pre.length + 1 + suf.length = pre.length + (suf.length + 1) := by omega
    have e4 : runS r ((k, p, ()) :: suf) [] b = ((useR r [] b k p).1 :: (runS r suf [] (useR r [] b k p).2.2.2).1, (runS r suf [] (useR r [] b k p).2.2.2).2) := by simp only [runS, h5]
    have e3 : out ++ [(useR r [] b k p).1] ++ (runS r suf [] (useR r [] b k p).2.2.2).1 = out ++ (runS r ((k, p, ()) :: suf) [] b).1 := by rw [e4]; simp
    have e5 : (runS r suf [] (useR r [] b k p).2.2.2).2.2 = (runS r ((k, p, ()) :: suf) [] b).2.2 := by rw [e4]
    rw [app_one, e1, e2, e3, e5] at ih
    refine ⟨?_, by rw [e4]; exact h6⟩
    rw [loop_eq pr 18 0 _ Tryz.f18 fn_18 _ rfl _ ann_18 _ rfl]
    cases m
    · simp -implicitDefEqProofs only [getD_app, lt_app, ltn_app, zero_le_cast, Int.toNat_natCast, hw, hlt, hroom, h4, go_sem]
      exact ih
    · simp -implicitDefEqProofs only [getD_app, lt_app, ltn_app, zero_le_cast, Int.toNat_natCast, hw, hlt, hroom, h4, go_sem]
      exact ih
theorem loop_ir4 (r : List Int) : ∀ (suf pre : List Acc) (t : List (List En)) (b bs : List Ca) (bv : AV) (out : List Int), pre.length + suf.length < 100000 → out.length = pre.length → suf.all accB = true → Fit r t b → InArr 451 bv b bs → ∃ bv' bs', InArr 451 bv' (runS r suf t b).2.2 bs' ∧
    loopOf pr 18 0 ⟨[(4, .op 256 0), (7, .op 448 0), (8, .os (.t 1536)), (25, LA (pre ++ suf)), (26, I ((pre.length + suf.length : Nat) : Int)), (27, I pre.length)], [(256, .box [.nilS, .nilS, .nilS]), (1472, .arr true false (.int .i64) r), (1474, .arr true true (.slice tyE) t), (1536, .arr true false (.int .i64) out), (448, .box [.os (.t 1472), .os (.t 1474), bv]), (451, .arr true false tyC bs)]⟩ = some (.exit 0, ⟨[(4, .op 256 0), (7, .op 448 0), (8, .os (.t 1536)), (25, LA (pre ++ suf)), (26, I ((pre.length + suf.length : Nat) : Int)), (27, I ((pre.length + suf.length : Nat) : Int))], [(256, .box [.nilS, .nilS, .nilS]), (1472, .arr true false (.int .i64) r), (1474, .arr true true (.slice tyE) (runS r suf t b).2.1), (1536, .arr true false (.int .i64) (out ++ (runS r suf t b).1)), (448, .box [.os (.t 1472), .os (.t 1474), bv']), (451, .arr true false tyC bs')]⟩)
  | [], pre, t, b, bs, bv, out, hb, ho, hx, hF, hI => by
    refine ⟨bv, bs, hI, ?_⟩
    rw [loop_eq pr 18 0 _ Tryz.f18 fn_18 _ rfl _ ann_18 _ rfl]
    rcases hI with ⟨rfl, h2⟩ | ⟨rfl, h2, h3⟩
    · simp -implicitDefEqProofs only [Int.lt_irrefl, List.append_nil, Nat.add_zero, List.length_nil, runS, go_sem]
    · simp -implicitDefEqProofs only [Int.lt_irrefl, List.append_nil, Nat.add_zero, List.length_nil, runS, go_sem]
  | (k, p, ()) :: suf, pre, t, b, bs, bv, out, hb, ho, hx, hF, hI => by
    simp only [List.length_cons] at hb ⊢
    simp only [List.all_cons, Bool.and_eq_true, accB] at hx
    have hw : IntKind.i64.wrap ((pre.length : Int) + 1) = ((pre.length + 1 : Nat) : Int) := by rw [wrap_i] <;> omega
    have hroom : ((out.length + 1) * 8 ≤ 140737488355328 ∧ out.length ≤ 9223372036854775806) = True := tr (by omega)
    have hlt : ((pre.length : Int) < ((pre.length + (suf.length + 1) : Nat) : Int)) = True := tr (by omega)
    obtain ⟨bl, hbl, hIl⟩ : ∃ bl, InArr 1000003 bl b bs ∧ ((bl = .os (.t 1000003) ∧ bv = .os (.t 451)) ∨ (bl = .sub (.t 1000003) 0 b.length ∧ bv = .sub (.t 451) 0 b.length)) := by
      rcases hI with ⟨rfl, h2⟩ | ⟨rfl, h2, h3⟩
      · exact ⟨_, .inl ⟨rfl, h2⟩, .inl ⟨rfl, rfl⟩⟩
      · exact ⟨_, .inr ⟨rfl, h2, h3⟩, .inr ⟨rfl, rfl⟩⟩
    obtain ⟨m, bm, b2, h5, h4⟩ := use_1x r t b bs bl hbl k p hx.1.2 hF
    obtain ⟨bn, hn, hIn⟩ : ∃ bn, InArr 451 bn (useR r t b k p).2.2.2 b2 ∧ ((bm = .os (.t 1000003) ∧ bn = .os (.t 451)) ∨ (bm = .sub (.t 1000003) 0 (useR r t b k p).2.2.2.length ∧ bn = .sub (.t 451) 0 (useR r t b k p).2.2.2.length)) := by
      rcases h5 with ⟨rfl, h2⟩ | ⟨rfl, h2, h3⟩
      · exact ⟨_, .inl ⟨rfl, h2⟩, .inl ⟨rfl, rfl⟩⟩
      · exact ⟨_, .inr ⟨rfl, h2, h3⟩, .inr ⟨rfl, rfl⟩⟩
    obtain ⟨bv', bs', h6, ih⟩ := loop_ir4 r suf (pre ++ [(k, p, ())]) (useR r t b k p).2.2.1 (useR r t b k p).2.2.2 b2 bn (out ++ [(useR r t b k p).1]) (by simp; omega) (by simp [ho]) (by simpa [accB] using hx.2) (hF.use k hx.1.2) hn
    have e1 : (pre ++ [(k, p, ())]).length = pre.length + 1 := by simp
    have e2 : pre.length + 1 + suf.length = pre.length + (suf.length + 1) := by omega
    have e3 : out ++ [(useR r t b k p).1] ++ (runS r suf (useR r t b k p).2.2.1 (useR r t b k p).2.2.2).1 = out ++ (runS r ((k, p, ()) :: suf) t b).1 := by simp [runS]
    rw [app_one, e1, e2, e3] at ih
    refine ⟨bv', bs', h6, ?_⟩
    rw [loop_eq pr 18 0 _ Tryz.f18 fn_18 _ rfl _ ann_18 _ rfl]
    rcases hIl with ⟨rfl, rfl⟩ | ⟨rfl, rfl⟩
    · rcases hIn with ⟨rfl, rfl⟩ | ⟨rfl, rfl⟩
      · cases m
        · simp -implicitDefEqProofs only [getD_app, lt_app, ltn_app, zero_le_cast, Int.toNat_natCast, hw, hlt, hroom, h4, go_sem]
          exact ih
        · simp -implicitDefEqProofs only [getD_app, lt_app, ltn_app, zero_le_cast, Int.toNat_natCast, hw, hlt, hroom, h4, go_sem]
          exact ih
      · cases m
        · simp -implicitDefEqProofs only [getD_app, lt_app, ltn_app, zero_le_cast, Int.toNat_natCast, hw, hlt, hroom, h4, go_sem]
          exact ih
        · simp -implicitDefEqProofs only [getD_app, lt_app, ltn_app, zero_le_cast, Int.toNat_natCast, hw, hlt, hroom, h4, go_sem]
          exact ih
    · rcases hIn with ⟨rfl, rfl⟩ | ⟨rfl, rfl⟩
      · cases m
        · simp -implicitDefEqProofs only [getD_app, lt_app, ltn_app, zero_le_cast, Int.toNat_natCast, hw, hlt, hroom, h4, go_sem]
          exact ih
        · simp -implicitDefEqProofs only [getD_app, lt_app, ltn_app, zero_le_cast, Int.toNat_natCast, hw, hlt, hroom, h4, go_sem]
          exact ih
      · cases m
        · simp -implicitDefEqProofs only [getD_app, lt_app, ltn_app, zero_le_cast, Int.toNat_natCast, hw, hlt, hroom, h4, go_sem]
          exact ih
        · simp -implicitDefEqProofs only [getD_app, lt_app, ltn_app, zero_le_cast, Int.toNat_natCast, hw, hlt, hroom, h4, go_sem]
          exact ih
theorem loop_ir5 (r : List Int) : ∀ (suf pre : List Acc) (t : List (List En)) (b bs : List Ca) (bv : AV) (out : List Int), pre.length + suf.length < 100000 → out.length = pre.length → suf.all accB = true → Fit r t b → InArr 451 bv b bs → ∃ bv' bs', InArr 451 bv' (runS r suf t b).2.2 bs' ∧
    loopOf pr 18 0 ⟨[(4, .op 256 0), (7, .op 448 0), (8, .os (.t 1536)), (25, LA (pre ++ suf)), (26, I ((pre.length + suf.length : Nat) : Int)), (27, I pre.length)], [(256, .box [.nilS, .nilS, .nilS]), (1472, .arr true false (.int .i64) r), (1473, .arr true true (.slice tyE) t), (1536, .arr true false (.int .i64) out), (448, .box [.os (.t 1472), .os (.t 1473), bv]), (451, .arr true false tyC bs)]⟩ = some (.exit 0, ⟨[(4, .op 256 0), (7, .op 448 0), (8, .os (.t 1536)), (25, LA (pre ++ suf)), (26, I ((pre.length + suf.length : Nat) : Int)), (27, I ((pre.length + suf.length : Nat) : Int))], [(256, .box [.nilS, .nilS, .nilS]), (1472, .arr true false (.int .i64) r), (1473, .arr true true (.slice tyE) (runS r suf t b).2.1), (1536, .arr true false (.int .i64) (out ++ (runS r suf t b).1)), (448, .box [.os (.t 1472), .os (.t 1473), bv']), (451, .arr true false tyC bs')]⟩)
  | [], pre, t, b, bs, bv, out, hb, ho, hx, hF, hI => by
    refine ⟨bv, bs, hI, ?_⟩
    rw [loop_eq pr 18 0 _ Tryz.f18 fn_18 _ rfl _ ann_18 _ rfl]
    rcases hI with ⟨rfl, h2⟩ | ⟨rfl, h2, h3⟩
    · simp -implicitDefEqProofs only [Int.lt_irrefl, List.append_nil, Nat.add_zero, List.length_nil, runS, go_sem]
    · simp -implicitDefEqProofs only [Int.lt_irrefl, List.append_nil, Nat.add_zero, List.length_nil, runS, go_sem]
  | (k, p, ()) :: suf, pre, t, b, bs, bv, out, hb, ho, hx, hF, hI => by
    simp only [List.length_cons] at hb ⊢
    simp only [List.all_cons, Bool.and_eq_true, accB] at hx
    have hw : IntKind.i64.wrap ((pre.length : Int) + 1) = ((pre.length + 1 : Nat) : Int) := by rw [wrap_i] <;> omega
    have hroom : ((out.length + 1) * 8 ≤ 140737488355328 ∧ out.length ≤ 9223372036854775806) = True := tr (by omega)
    have hlt : ((pre.length : Int) < ((pre.length + (suf.length + 1) : Nat) : Int)) = True := tr (by omega)
    obtain ⟨bl, hbl, hIl⟩ : ∃ bl, InArr 1000003 bl b bs ∧ ((bl = .os (.t 1000003) ∧ bv = .os (.t 451)) ∨ (bl = .sub (.t 1000003) 0 b.length ∧ bv = .sub (.t 451) 0 b.length)) := by
      rcases hI with ⟨rfl, h2⟩ | ⟨rfl, h2, h3⟩
      · exact ⟨_, .inl ⟨rfl, h2⟩, .inl ⟨rfl, rfl⟩⟩
      · exact ⟨_, .inr ⟨rfl, h2, h3⟩, .inr ⟨rfl, rfl⟩⟩
    obtain ⟨m, bm, b2, h5, h4⟩ := use_1x r t b bs bl hbl k p hx.1.2 hF
    obtain ⟨bn, hn, hIn⟩ : ∃ bn, InArr 451 bn (useR r t b k p).2.2.2 b2 ∧ ((bm = .os (.t 1000003) ∧ bn = .os (.t 451)) ∨ (bm = .sub (.t 1000003) 0 (useR r t b k p).2.2.2.length ∧ bn = .sub (.t 451) 0 (useR r t b k p).2.2.2.length)) := by
      rcases h5 with ⟨rfl, h2⟩ | ⟨rfl, h2, h3⟩
      · exact ⟨_, .inl ⟨rfl, h2⟩, .inl ⟨rfl, rfl⟩⟩
      · exact ⟨_, .inr ⟨rfl, h2, h3⟩, .inr ⟨rfl, rfl⟩⟩
    obtain ⟨bv', bs', h6, ih⟩ := loop_ir5 r suf (pre ++ [(k, p, ())]) (useR r t b k p).2.2.1 (useR r t b k p).2.2.2 b2 bn (out ++ [(useR r t b k p).1]) (by simp; omega) (by simp [ho]) (by simpa [accB] using hx.2) (hF.use k hx.1.2) hn
    have e1 : (pre ++ [(k, p, ())]).length = pre.length + 1 := by simp
    have e2 : pre.length + 1 + suf.length = pre.length + (suf.length + 1) := by omega
    have e3 : out ++ [(useR r t b k p).1] ++ (runS r suf (useR r t b k p).2.2.1 (useR r t b k p).2.2.2).1 = out ++ (runS r ((k, p, ()) :: suf) t b).1 := by simp [runS]
    rw [app_one, e1, e2, e3] at ih
    refine ⟨bv', bs', h6, ?_⟩
    rw [loop_eq pr 18 0 _ Tryz.f18 fn_18 _ rfl _ ann_18 _ rfl]
    rcases hIl with ⟨rfl, rfl⟩ | ⟨rfl, rfl⟩
    · rcases hIn with ⟨rfl, rfl⟩ | ⟨rfl, rfl⟩
      · cases m
        · simp -implicitDefEqProofs only [getD_app, lt_app, ltn_app, zero_le_cast, Int.toNat_natCast, hw, hlt, hroom, h4, go_sem]
          exact ih
        · simp -implicitDefEqProofs only [getD_app, lt_app, ltn_app, zero_le_cast, Int.toNat_natCast, hw, hlt, hroom, h4, go_sem]
          exact ih
      · cases m
        · simp -implicitDefEqProofs only [getD_app, lt_app, ltn_app, zero_le_cast, Int.toNat_natCast, hw, hlt, hroom, h4, go_sem]
          exact ih
        · simp -implicitDefEqProofs only [getD_app, lt_app, ltn_app, zero_le_cast, Int.toNat_natCast, hw, hlt, hroom, h4, go_sem]
          exact ih
    · rcases hIn with ⟨rfl, rfl⟩ | ⟨rfl, rfl⟩
      · cases m
        · simp -implicitDefEqProofs only [getD_app, lt_app, ltn_app, zero_le_cast, Int.toNat_natCast, hw, hlt, hroom, h4, go_sem]
          exact ih
        · simp -implicitDefEqProofs only [getD_app, lt_app, ltn_app, zero_le_cast, Int.toNat_natCast, hw, hlt, hroom, h4, go_sem]
          exact ih
      · cases m
        · simp -implicitDefEqProofs only [getD_app, lt_app, ltn_app, zero_le_cast, Int.toNat_natCast, hw, hlt, hroom, h4, go_sem]
          exact ih
        · simp -implicitDefEqProofs only [getD_app, lt_app, ltn_app, zero_le_cast, Int.toNat_natCast, hw, hlt, hroom, h4, go_sem]
          exact ih
theorem loop_ir3 (r : List Int) : ∀ (suf pre : List Acc) (t : List (List En)) (out : List Int), pre.length + suf.length < 100000 → out.length = pre.length → suf.all accB = true → Fit r t [] →
    (loopOf pr 18 0 ⟨[(4, .op 256 0), (7, .op 448 0), (8, .os (.t 1536)), (25, LA (pre ++ suf)), (26, I ((pre.length + suf.length : Nat) : Int)), (27, I pre.length)], [(256, .box [.nilS, .nilS, .nilS]), (1472, .arr true false (.int .i64) r), (1473, .arr true true (.slice tyE) t), (1536, .arr true false (.int .i64) out), (448, .box [.os (.t 1472), .os (.t 1473), .empS])]⟩ = some (.exit 0, ⟨[(4, .op 256 0), (7, .op 448 0), (8, .os (.t 1536)), (25, LA (pre ++ suf)), (26, I ((pre.length + suf.length : Nat) : Int)), (27, I ((pre.length + suf.length : Nat) : Int))], [(256, .box [.nilS, .nilS, .nilS]), (1472, .arr true false (.int .i64) r), (1473, .arr true true (.slice tyE) (runS r suf t []).2.1), (1536, .arr true false (.int .i64) (out ++ (runS r suf t []).1)), (448, .box [.os (.t 1472), .os (.t 1473), .empS])]⟩) ∧ (runS r suf t []).2.2 = []) ∨
    ∃ bv' bs', InArr 451 bv' (runS r suf t []).2.2 bs' ∧ loopOf pr 18 0 ⟨[(4, .op 256 0), (7, .op 448 0), (8, .os (.t 1536)), (25, LA (pre ++ suf)), (26, I ((pre.length + suf.length : Nat) : Int)), (27, I pre.length)], [(256, .box [.nilS, .nilS, .nilS]), (1472, .arr true false (.int .i64) r), (1473, .arr true true (.slice tyE) t), (1536, .arr true false (.int .i64) out), (448, .box [.os (.t 1472), .os (.t 1473), .empS])]⟩ = some (.exit 0, ⟨[(4, .op 256 0), (7, .op 448 0), (8, .os (.t 1536)), (25, LA (pre ++ suf)), (26, I ((pre.length + suf.length : Nat) : Int)), (27, I ((pre.length + suf.length : Nat) : Int))], [(256, .box [.nilS, .nilS, .nilS]), (1472, .arr true false (.int .i64) r), (1473, .arr true true (.slice tyE) (runS r suf t []).2.1), (1536, .arr true false (.int .i64) (out ++ (runS r suf t []).1)), (448, .box [.os (.t 1472), .os (.t 1473), bv']), (451, .arr true false tyC bs')]⟩)
  | [], pre, t, out, hb, ho, hx, hF => by
    refine .inl ⟨?_, rfl⟩
    rw [loop_eq pr 18 0 _ Tryz.f18 fn_18 _ rfl _ ann_18 _ rfl]
    simp -implicitDefEqProofs only [Int.lt_irrefl, List.append_nil, Nat.add_zero, List.length_nil, runS, go_sem]
  | (k, p, ()) :: suf, pre, t, out, hb, ho, hx, hF => by
    simp only [List.length_cons] at hb ⊢
    simp only [List.all_cons, Bool.and_eq_true, accB] at hx
    have hw : IntKind.i64.wrap ((pre.length : Int) + 1) = ((pre.length + 1 : Nat) : Int) := by rw [wrap_i] <;> omega
    have hroom : ((out.length + 1) * 8 ≤ 140737488355328 ∧ out.length ≤ 9223372036854775806) = True := tr (by omega)
    have hlt : ((pre.length : Int) < ((pre.length + (suf.length + 1) : Nat) : Int)) = True := tr (by omega)
    have e1 : (pre ++ [(k, p, ())]).length = pre.length + 1 := by simp
    have e2 : pre.length + 1 + suf.length = pre.length + (suf.length + 1) := by omega
    have e3 : out ++ [(useR r t [] k p).1] ++ (runS r suf (useR r t [] k p).2.2.1 (useR r t [] k p).2.2.2).1 = out ++ (runS r ((k, p, ()) :: suf) t []).1 := by simp [runS]
    have hF2 := hF.use k hx.1.2
    rcases use_10 r t k p hx.1.2 hF with ⟨h4, h5⟩ | ⟨h4, h5⟩
    · rw [h5] at hF2 e3
      have e4 : (runS r ((k, p, ()) :: suf) t []).2 = (runS r suf (useR r t [] k p).2.2.1 []).2 := by simp only [runS, h5]
      rw [e4]
      rcases loop_ir3 r suf (pre ++ [(k, p, ())]) (useR r t [] k p).2.2.1 (out ++ [(useR r t [] k p).1]) (by simp; omega) (by simp [ho]) (by simpa [accB] using hx.2) hF2 with ⟨ih, h6⟩ | ⟨bv', bs', h6, ih⟩
      · refine .inl ⟨?_, h6⟩
        rw [app_one, e1, e2, e3] at ih
        rw [loop_eq pr 18 0 _ Tryz.f18 fn_18 _ rfl _ ann_18 _ rfl]
        simp -implicitDefEqProofs only [getD_app, lt_app, ltn_app, zero_le_cast, Int.toNat_natCast, hw, hlt, hroom, h4, go_sem]
        exact ih
      · refine .inr ⟨bv', bs', h6, ?_⟩
        rw [app_one, e1, e2, e3] at ih
        rw [loop_eq pr 18 0 _ Tryz.f18 fn_18 _ rfl _ ann_18 _ rfl]
        simp -implicitDefEqProofs only [getD_app, lt_app, ltn_app, zero_le_cast, Int.toNat_natCast, hw, hlt, hroom, h4, go_sem]
        exact ih
    · have hI : InArr 451 (.sub (.t 451) 0 1) (useR r t [] k p).2.2.2 (useR r t [] k p).2.2.2 := .inr ⟨by rw [h5], List.take_length, by omega⟩
      obtain ⟨bv', bs', h6, ih⟩ := loop_ir5 r suf (pre ++ [(k, p, ())]) (useR r t [] k p).2.2.1 (useR r t [] k p).2.2.2 _ _ (out ++ [(useR r t [] k p).1]) (by simp; omega) (by simp [ho]) (by simpa [accB] using hx.2) hF2 hI
      refine .inr ⟨bv', bs', h6, ?_⟩
      rw [app_one, e1, e2, e3] at ih
      rw [loop_eq pr 18 0 _ Tryz.f18 fn_18 _ rfl _ ann_18 _ rfl]
      simp -implicitDefEqProofs only [getD_app, lt_app, ltn_app, zero_le_cast, Int.toNat_natCast, hw, hlt, hroom, h4, go_sem]
      exact ih
attribute [local go_sem] Nat.reduceAdd Nat.reduceSub Nat.reduceMul Nat.reduceMod Nat.reduceLT Nat.reduceLeDiff Nat.reduceEqDiff Nat.reduceBEq Nat.reduceDiv Int.reduceLT Int.reduceLE Int.reduceToNat Int.reduceNeg Int.reduceEq reduceCtorEq
attribute [local go_sem ↓] reduceIte reduceDIte
theorem call_irs (r : List Int) (t : List (List En)) (b : List Ca) (xs : List Acc) (hr : r.length < 2000000) (ht : t.length < 2000000) (hx : ∀ x ∈ t, x.length < 2000000) (hb : b.length < 2000000) (hl : xs.length < 2000000) : if runC r t b xs = true then
      ((runS r xs t b).2.1 = [] ∧ (runS r xs t b).2.2 = [] ∧ callOf pr 18 [.agg [L r, LLE t, LC b], LA xs] [] = some (.tuple [.agg [.os (.t 1472), .nilS, .empS], .os (.t 1536), B true], [(1472, .arr true false (.int .i64) r), (1536, .arr true false (.int .i64) (runS r xs t b).1)])) ∨
      ((runS r xs t b).2.1 = [] ∧ callOf pr 18 [.agg [L r, LLE t, LC b], LA xs] [] = some (.tuple [.agg [.os (.t 1472), .nilS, .os (.t 451)], .os (.t 1536), B true], [(1472, .arr true false (.int .i64) r), (1536, .arr true false (.int .i64) (runS r xs t b).1), (451, .arr true false tyC (runS r xs t b).2.2)])) ∨
      ((runS r xs t b).2.2 = [] ∧ callOf pr 18 [.agg [L r, LLE t, LC b], LA xs] [] = some (.tuple [.agg [.os (.t 1472), .os (.t 1473), .empS], .os (.t 1536), B true], [(1472, .arr true false (.int .i64) r), (1473, .arr true true (.slice tyE) (runS r xs t b).2.1), (1536, .arr true false (.int .i64) (runS r xs t b).1)])) ∨
      (callOf pr 18 [.agg [L r, LLE t, LC b], LA xs] [] = some (.tuple [.agg [.os (.t 1472), .os (.t 1473), .os (.t 451)], .os (.t 1536), B true], [(1472, .arr true false (.int .i64) r), (1473, .arr true true (.slice tyE) (runS r xs t b).2.1), (1536, .arr true false (.int .i64) (runS r xs t b).1), (451, .arr true false tyC (runS r xs t b).2.2)])) ∨
      (callOf pr 18 [.agg [L r, LLE t, LC b], LA xs] [] = some (.tuple [.agg [.os (.t 1472), .os (.t 1474), .os (.t 451)], .os (.t 1536), B true], [(1472, .arr true false (.int .i64) r), (1474, .arr true true (.slice tyE) (runS r xs t b).2.1), (1536, .arr true false (.int .i64) (runS r xs t b).1), (451, .arr true false tyC (runS r xs t b).2.2)]))
    else callOf pr 18 [.agg [L r, LLE t, LC b], LA xs] [] = some (.tuple [.agg [.nilS, .nilS, .nilS], .nilS, B false], []) := by
  have h1 := call_vs r t b hr ht hx hb
  rw [← space_eq] at h1
  have h2 := call_vt xs (by omega)
  cases hs : specS r t b with
  | false =>
    rw [hs] at h1
    rw [if_neg (by simp [runC, hs])]
    rw [call_eq pr 18 _ _ Tryz.f18 fn_18 _ rfl _ ann_18 rfl]
    simp -implicitDefEqProofs only [h1, go_sem]
  | true =>
    rw [hs] at h1
    cases ha : validT xs with
    | false =>
      rw [ha] at h2
      rw [if_neg (by simp [runC, ha])]
      rw [call_eq pr 18 _ _ Tryz.f18 fn_18 _ rfl _ ann_18 rfl]
      simp -implicitDefEqProofs only [h1, h2, go_sem]
    | true =>
      rw [ha] at h2
      rw [if_pos (by simp [runC, ha, hs])]
      have hF := fit_spec hs
      have hv2 : xs.all accB = true ∧ xs.length ≤ 60 := by simpa only [validT, Bool.and_eq_true, decide_eq_true_eq] using ha
      rcases clone4 r t b hF.root hb (by have := hF.few; omega) hF.rows with ⟨rfl, rfl, h3⟩ | ⟨rfl, h3⟩ | ⟨rfl, ht0, h3⟩ | ⟨ht0, h3⟩
      · obtain ⟨h4, h5⟩ := loop_ir1 r xs [] [] (by simp; omega) rfl hv2.1 hF
        simp only [List.nil_append, List.length_nil, Nat.zero_add, Int.natCast_zero] at h4
        refine .inl ⟨by rw [h5], by rw [h5], ?_⟩
        rw [call_eq pr 18 _ _ Tryz.f18 fn_18 _ rfl _ ann_18 rfl]
        simp -implicitDefEqProofs only [h1, h2, h3, h4, go_sem]
      · obtain ⟨h4, h5⟩ := loop_ir2 r xs [] b [] (by simp; omega) rfl hv2.1 hF
        simp only [List.nil_append, List.length_nil, Nat.zero_add, Int.natCast_zero] at h4
        refine .inr (.inl ⟨h5, ?_⟩)
        rw [call_eq pr 18 _ _ Tryz.f18 fn_18 _ rfl _ ann_18 rfl]
        simp -implicitDefEqProofs only [h1, h2, h3, h4, go_sem]
      · rcases loop_ir3 r xs [] t [] (by simp; omega) rfl hv2.1 hF with ⟨h4, h5⟩ | ⟨bv, bs, h5, h4⟩
        · simp only [List.nil_append, List.length_nil, Nat.zero_add, Int.natCast_zero] at h4
          refine .inr (.inr (.inl ⟨h5, ?_⟩))
          rw [call_eq pr 18 _ _ Tryz.f18 fn_18 _ rfl _ ann_18 rfl]
          simp -implicitDefEqProofs only [h1, h2, h3, h4, go_sem]
        · simp only [List.nil_append, List.length_nil, Nat.zero_add, Int.natCast_zero] at h4
          refine .inr (.inr (.inr (.inl ?_)))
          rw [call_eq pr 18 _ _ Tryz.f18 fn_18 _ rfl _ ann_18 rfl]
          rcases h5 with ⟨rfl, h5⟩ | ⟨rfl, h5, h6⟩
          · rw [h5]
            simp -implicitDefEqProofs only [h1, h2, h3, h4, go_sem]
          · have hl : (runS r xs t []).2.2.length ≤ bs.length := by have := congrArg List.length h5; rw [List.length_take] at this; omega
            have h7 : (0 + (runS r xs t []).2.2.length ≤ bs.length ∧ 0 < bs.length) = True := tr ⟨by omega, by omega⟩
            simp -implicitDefEqProofs only [h1, h2, h3, h4, h7, h5, go_sem]
      · obtain ⟨bv, bs, h5, h4⟩ := loop_ir4 r xs [] t b b _ [] (by simp; omega) rfl hv2.1 hF (.inl ⟨rfl, rfl⟩)
        simp only [List.nil_append, List.length_nil, Nat.zero_add, Int.natCast_zero] at h4
        refine .inr (.inr (.inr (.inr ?_)))
        rw [call_eq pr 18 _ _ Tryz.f18 fn_18 _ rfl _ ann_18 rfl]
        rcases h5 with ⟨rfl, h5⟩ | ⟨rfl, h5, h6⟩
        · rw [h5]
          simp -implicitDefEqProofs only [h1, h2, h3, h4, go_sem]
        · have hl : (runS r xs t b).2.2.length ≤ bs.length := by have := congrArg List.length h5; rw [List.length_take] at this; omega
          have h7 : (0 + (runS r xs t b).2.2.length ≤ bs.length ∧ 0 < bs.length) = True := tr ⟨by omega, by omega⟩
          simp -implicitDefEqProofs only [h1, h2, h3, h4, h7, h5, go_sem]
attribute [local go_sem] Nat.reduceAdd Nat.reduceSub Nat.reduceMul Nat.reduceMod Nat.reduceLT Nat.reduceLeDiff Nat.reduceEqDiff Nat.reduceBEq Nat.reduceDiv Int.reduceLT Int.reduceLE Int.reduceToNat Int.reduceNeg Int.reduceEq reduceCtorEq
attribute [local go_sem ↓] reduceIte reduceDIte
theorem run_sizes {r : List Int} {t : List (List En)} {b : List Ca} {xs : List Acc} (h : runC r t b xs = true) : r.length ≤ 100 ∧ (runS r xs t b).2.1.length ≤ 100 ∧ (∀ x ∈ (runS r xs t b).2.1, x.length ≤ 100) ∧ (runS r xs t b).2.2.length ≤ 100 ∧ (runS r xs t b).1.length ≤ 100 := by
  simp only [runC, validT, Bool.and_eq_true, decide_eq_true_eq] at h
  obtain ⟨F, hl⟩ := runS_fit xs h.2.1 (fit_spec h.1)
  exact ⟨by have := F.root; omega, by have := F.few; omega, fun x hx => by rw [F.rows x hx]; omega, by have := F.buf; omega, by have := h.2.2; omega⟩
theorem law_runspace (r : List Int) (t : List (List En)) (b : List Ca) (xs : List Acc) (hx : Bd wide (.agg (.cons (.slice (.int .i64)) (.cons (.slice (.slice tyE)) (.cons (.slice tyC) .nil)))) (r, t, b, ())) (hxs : Bd wide (.slice tyA) xs) : callOf pr 4 [.agg [L r, LLE t, LC b], LA xs] [] = some (B true, []) := by
  obtain ⟨r0, a0, b0, c0⟩ := sz_Space (r, t, b, ()) hx 1048576 (by omega) (by omega)
  have a0 : callOf pr 7 [.agg [L r, LLE t, LC b], I 1048576] [] = some (I r0, []) := a0
  rw [call_eq pr 4 _ _ Tryz.f4 fn_4 _ rfl _ ann_4 rfl]
  by_cases g0 : r0 < 0
  · simp -implicitDefEqProofs only [a0, tr g0, go_sem]
  obtain ⟨r1, a1, b1, c1⟩ := sz_AccessS xs hxs r0 (by omega) (by omega)
  have a1 : callOf pr 15 [LA xs, I r0] [] = some (I r1, []) := a1
  by_cases g1 : r1 < 0
  · simp -implicitDefEqProofs only [a0, fa g0, a1, tr g1, go_sem]
  have hs : Bd small (.agg (.cons (.slice (.int .i64)) (.cons (.slice (.slice tyE)) (.cons (.slice tyC) .nil)))) (r, t, b, ()) := c0 (by omega)
  have hs1 : Bd small (.slice tyA) xs := c1 (by omega)
  have hl0 : xs.length ≤ 1048576 := hs1.1
  have hl1 : r.length ≤ 1048576 := hs.1.1
  have hl2 : t.length ≤ 1048576 := hs.2.1.1
  have hl3 : b.length ≤ 1048576 := hs.2.2.1.1
  have hcl : ∀ x ∈ t, x.length < 2000000 := fun x hx' => by have : x.length ≤ 1048576 := (hs.2.1.2 x hx').1; omega
  have t1 : callOf pr 9 [.agg [L r, LLE t, LC b]] [] = some (.agg [.os (.t 384), .os (.t 640), .os (.t 896)], [(384, .arr true false (.int .i64) r), (640, .arr true true (.slice tyE) t), (896, .arr true false tyC b)]) := to_Space (r, t, b, ()) hs
  have t2 : callOf pr 17 [LA xs] [] = some (.os (.t 448), [(448, .arr true false tyA xs)]) := to_AccessS xs (by omega)
  have h1 := call_srs r t b xs (by omega)
  have h2 := call_irs r t b xs (by omega) (by omega) hcl (by omega) (by omega)
  have e1 : callOf pr 12 [.agg [L r, LLE t, LC b], .agg [L r, LLE t, LC b]] [] = some (B true, []) := eq_Space (r, t, b, ()) hx
  have e2 : callOf pr 20 [LA xs, LA xs] [] = some (B true, []) := eq_AccessS xs hxs
  have k1 := mark_Space r t b 1 (by omega) (first_small hs) hx.1 hx.2.1 hx.2.2.1
  have cx := cnt_le (n := small) (.slice tyA) xs hs1
  have c1' := first_small hs
  have kend := end_eq 1 r t b
  rw [kend] at k1
  have hend : endS 1 r t b ≤ wide ∧ 0 ≤ endS 1 r t b := by simp only [endS]; omega
  have hsum : endS 1 r t b + cnt (.slice tyA) xs ≤ wide := by
    have c1 := cnt_le (n := small) (.slice (.int .i64)) r hs.1
    have c2 := cnt_le (n := small) (.slice (.slice tyE)) t hs.2.1
    have c3 := cnt_le (n := small) (.slice tyC) b hs.2.2.1
    simp only [top, small] at c1 c2 c3 cx
    simp only [wide, endS]
    omega
  have k2 := mark_AccessS xs (endS 1 r t b) hend.2 hsum hxs.1
  have k3 : ¬ (markD (.slice tyA) (endS 1 r t b) xs).2 < 0 := by rw [markD_end]; omega
  have k2 : callOf pr 21 [.os (.t 1000000), I (endS 1 r t b)] [(1000000, .arr false false tyA xs)] = some (I (markD (.slice tyA) (endS 1 r t b) xs).2, [(1000000, .arr false false tyA (markD (.slice tyA) (endS 1 r t b) xs).1)]) := k2
  cases hsp : runC r t b xs with
  | false =>
    rw [hsp, if_neg (by simp)] at h1 h2
    have m0 := markn_Space 1 (by omega)
    have q0 := heldn_Space 1 (by omega)
    simp -implicitDefEqProofs only [a0, fa g0, a1, fa g1, t1, t2, h1, e1, e2, BEq.rfl, beq_self_eq_true, k1, k2, fa k3, eq_self_iff_true, h2, eqn_Space, m0, q0, eqn_Int64S, markn_Int64S, heldn_Int64S, Int.reduceLT, go_sem]
  | true =>
    rw [hsp, if_pos rfl] at h1 h2
    obtain ⟨z1, z2, z3, z4, z5⟩ := (run_sizes hsp)
    obtain ⟨u1, u2, u3⟩ := bd_small z1 z2 z3 z4
    have u4 := end_small z1 z2 z3 z4
    have z0 := end_pos 1 (r) ((runS r xs t b).2.1) ((runS r xs t b).2.2) (by omega)
    have u5 : Bd wide (.slice (.int .i64)) (runS r xs t b).1 := Bd.mono (by decide) _ _ (Bd_ints z5)
    have u6 := cnt_le (n := 100) (.slice (.int .i64)) _ (Bd_ints z5)
    have u7 : endS 1 r (runS r xs t b).2.1 (runS r xs t b).2.2 + cnt (.slice (.int .i64)) (runS r xs t b).1 ≤ wide := by
      have c1 := cnt_le (n := 100) (.slice (.int .i64)) r (Bd_ints z1)
      have c2 := cnt_le (n := 100) (.slice (.slice tyE)) _ (Bd_tabs z2 z3)
      have c3 := cnt_le (n := 100) (.slice tyC) _ (Bd_buf z4)
      simp only [top] at c1 c2 c3 u6
      simp only [endS, wide]
      omega
    have e3 := eq_Int64S _ u5
    have m1 := mark_Int64S (runS r xs t b).1 (endS 1 r (runS r xs t b).2.1 (runS r xs t b).2.2) (by omega) u7 u5.1
    have q1 := held_Int64S (runS r xs t b).1 (endS 1 r (runS r xs t b).2.1 (runS r xs t b).2.2) (by omega) u7 u5.1
    have z6 : ¬ (markD (.slice (.int .i64)) (endS 1 r (runS r xs t b).2.1 (runS r xs t b).2.2) (runS r xs t b).1).2 < 0 := by rw [markD_end]; omega
    rcases h2 with ⟨ht, hb, h2⟩ | ⟨ht, h2⟩ | ⟨hb, h2⟩ | h2 | h2
    · have v0 := eq_sp (tv := .nilS) (bv := .empS) (r := r) (t := (runS r xs t b).2.1) (b := (runS r xs t b).2.2) (.inr ⟨rfl, ht⟩) (.inr (.inr ⟨rfl, hb⟩)) u1 u2 u3
      have m0 := mark_s01 1 (r) ((runS r xs t b).2.1) ((runS r xs t b).2.2) (by omega) u4 u1 u2 u3 ⟨ht, hb⟩
      have q0 := held_sp (tv := .nilS) (bv := .empS) (m := 1) (r := r) (t := (runS r xs t b).2.1) (b := (runS r xs t b).2.2) (.inr ⟨rfl, by rw [ht]; rfl⟩) (.inr (.inr ⟨rfl, by rw [hb]; rfl⟩)) (by omega) u4 u1 u2 u3
      simp -implicitDefEqProofs only [a0, fa g0, a1, fa g1, t1, t2, h1, e1, e2, BEq.rfl, beq_self_eq_true, k1, k2, fa k3, eq_self_iff_true, h2, v0, m0, q0, fa z0, e3, m1, q1, fa z6, go_sem]
    · have v0 := eq_sp (tv := .nilS) (bv := LC ((runS r xs t b).2.2)) (r := r) (t := (runS r xs t b).2.1) (b := (runS r xs t b).2.2) (.inr ⟨rfl, ht⟩) (.inl rfl) u1 u2 u3
      have m0 := mark_s02 1 (r) ((runS r xs t b).2.1) ((runS r xs t b).2.2) (by omega) u4 u1 u2 u3 ht
      have q0 := held_sp (tv := .nilS) (bv := LC (mB 1 (r) ((runS r xs t b).2.1) ((runS r xs t b).2.2))) (m := 1) (r := r) (t := (runS r xs t b).2.1) (b := (runS r xs t b).2.2) (.inr ⟨rfl, by rw [ht]; rfl⟩) (.inl rfl) (by omega) u4 u1 u2 u3
      simp -implicitDefEqProofs only [a0, fa g0, a1, fa g1, t1, t2, h1, e1, e2, BEq.rfl, beq_self_eq_true, k1, k2, fa k3, eq_self_iff_true, h2, v0, m0, q0, fa z0, e3, m1, q1, fa z6, go_sem]
    · have v0 := eq_sp (tv := LLE ((runS r xs t b).2.1)) (bv := .empS) (r := r) (t := (runS r xs t b).2.1) (b := (runS r xs t b).2.2) (.inl rfl) (.inr (.inr ⟨rfl, hb⟩)) u1 u2 u3
      have m0 := mark_s11 1 (r) ((runS r xs t b).2.1) ((runS r xs t b).2.2) (by omega) u4 u1 u2 u3 hb
      have q0 := held_sp (tv := LLE (mT 1 (r) ((runS r xs t b).2.1))) (bv := .empS) (m := 1) (r := r) (t := (runS r xs t b).2.1) (b := (runS r xs t b).2.2) (.inl rfl) (.inr (.inr ⟨rfl, by rw [hb]; rfl⟩)) (by omega) u4 u1 u2 u3
      simp -implicitDefEqProofs only [a0, fa g0, a1, fa g1, t1, t2, h1, e1, e2, BEq.rfl, beq_self_eq_true, k1, k2, fa k3, eq_self_iff_true, h2, v0, m0, q0, fa z0, e3, m1, q1, fa z6, go_sem]
    · have v0 := eq_sp (tv := LLE ((runS r xs t b).2.1)) (bv := LC ((runS r xs t b).2.2)) (r := r) (t := (runS r xs t b).2.1) (b := (runS r xs t b).2.2) (.inl rfl) (.inl rfl) u1 u2 u3
      have m0 := mark_s12 1 (r) ((runS r xs t b).2.1) ((runS r xs t b).2.2) (by omega) u4 u1 u2 u3
      have q0 := held_sp (tv := LLE (mT 1 (r) ((runS r xs t b).2.1))) (bv := LC (mB 1 (r) ((runS r xs t b).2.1) ((runS r xs t b).2.2))) (m := 1) (r := r) (t := (runS r xs t b).2.1) (b := (runS r xs t b).2.2) (.inl rfl) (.inl rfl) (by omega) u4 u1 u2 u3
      simp -implicitDefEqProofs only [a0, fa g0, a1, fa g1, t1, t2, h1, e1, e2, BEq.rfl, beq_self_eq_true, k1, k2, fa k3, eq_self_iff_true, h2, v0, m0, q0, fa z0, e3, m1, q1, fa z6, go_sem]
    · have v0 := eq_sp (tv := LLE ((runS r xs t b).2.1)) (bv := LC ((runS r xs t b).2.2)) (r := r) (t := (runS r xs t b).2.1) (b := (runS r xs t b).2.2) (.inl rfl) (.inl rfl) u1 u2 u3
      have m0 := mark_s12 1 (r) ((runS r xs t b).2.1) ((runS r xs t b).2.2) (by omega) u4 u1 u2 u3
      have q0 := held_sp (tv := LLE (mT 1 (r) ((runS r xs t b).2.1))) (bv := LC (mB 1 (r) ((runS r xs t b).2.1) ((runS r xs t b).2.2))) (m := 1) (r := r) (t := (runS r xs t b).2.1) (b := (runS r xs t b).2.2) (.inl rfl) (.inl rfl) (by omega) u4 u1 u2 u3
      simp -implicitDefEqProofs only [a0, fa g0, a1, fa g1, t1, t2, h1, e1, e2, BEq.rfl, beq_self_eq_true, k1, k2, fa k3, eq_self_iff_true, h2, v0, m0, q0, fa z0, e3, m1, q1, fa z6, go_sem]
end Go.Proofs.YtbapbghnageckaaGreat.PI
