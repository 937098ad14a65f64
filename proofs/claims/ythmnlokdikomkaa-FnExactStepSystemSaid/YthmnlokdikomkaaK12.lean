/- A write of the program's. -/
import Derived.Test.YthmnlokdikomkaaK9
namespace Go.Proofs.Ythmnlokdikomkaa.PI
open Go Go.Q
set_option maxRecDepth 100000
set_option maxHeartbeats 4000000
set_option linter.unusedSimpArgs false
set_option linter.unusedVariables false
theorem clear_all (fs : List Bool) : copyIn fs (List.replicate fs.length false) 0 fs.length = List.replicate fs.length false := by
  simp [copyIn]
theorem st_w (a b v d e : List Ru) (ha : a.length = 4) (hb : b.length = 4) (hv : v.length = 4) (hd : d.length = 4) (he : e.length = 4) (n : Nat) (cs : List Int) (fs : List Bool) (m : Bool) (hn : n < cs.length) (hcf : cs.length = fs.length) (hl : cs.length ≤ 3) (hx : ∀ x ∈ cs, 0 ≤ x ∧ x ≤ 3) : callOf pr 52 [.op 1000000 0, pA a b v d e, .agg [I 1, I n]] (HX cs fs m) = (fun r : Aft => (some (AV.tuple [B (flawB r), B r.2.2.2.2.1, I r.2.2.2.2.2], HX r.1 r.2.1 r.2.2.1) : Option (AV × Heap))) (aftW b n (cs.getD n 0) (decide (cs.getD n 0 = 0) || decide (cs.getD n 0 = 1)) (if (decide (cs.getD n 0 = 0) || decide (cs.getD n 0 = 1)) = true then seeL e n 0 cs fs m 0 else (cs, fs, m, 0))) := by
  obtain ⟨x0, x3⟩ : 0 ≤ cs.getD n 0 ∧ cs.getD n 0 ≤ 3 := by rw [getD_of_lt hn]; exact hx _ (List.getElem_mem hn)
  have g1 := getD_z hn 0
  generalize hX : cs.getD n 0 = x at *
  obtain ⟨r1, r2, r3, hg⟩ := ru_parts (show x.toNat < b.length by omega)
  have hse := call_se e n he cs fs m hcf (by omega) hx
  obtain ⟨l1, l2⟩ := see_len e n cs fs 0 m 0 hcf
  have k0 := see_bk e n cs fs 0 m 0 hcf
  have w1 : ((n : Int) < (cs.length : Int)) = True := tr (by omega)
  have w2 : (n < cs.length) = True := tr hn
  have y1 : (x < (b.length : Int)) = True := tr (by omega)
  have y2 : (x.toNat < b.length) = True := tr (by omega)
  have k1 : ((1 : Int) = 0) = False := fa (by decide)
  have kw : IntKind.i64.wrap 1 = 1 := by decide
  generalize seeL e n 0 cs fs m 0 = q at *
  obtain ⟨qc, qf, qm, qk⟩ := q
  simp only at *
  have kq : IntKind.i64.wrap (qk + 1) = qk + 1 := by rw [wrap_i] <;> omega
  rw [HX, HX] at hse
  by_cases h0 : x = 0
  · rw [decide_eq_true h0, Bool.true_or, if_pos rfl]
    have hm : aftW b n x true (qc, qf, qm, qk) = (qc.set n r1, (List.replicate qf.length false).set n (!decide (r1 = 0)), r3, false, true, if r3 then qk + 1 else qk) := by simp only [aftW, hg]
    rw [hm, call_eq pr 52 _ _ Try.f52 fn_52 _ rfl _ ann_52 rfl, HX]
    simp only [flawB]
    have hbc := call_bc n r1 true qm qc (List.replicate qf.length false) (by omega) (by simp; omega)
    have hco := call_cob ((List.replicate qf.length false).set n (!decide (r1 = 0))) (by simp; omega)
    rw [HX, HX, Bool.true_and] at hbc
    cases r3 with
    | true => simp -implicitDefEqProofs only [w1, w2, zero_le_cast, Int.toNat_natCast, tr x0, y1, y2, g1, hg, k1, kw, kq, clear_all, Int.zero_add, tr h0, hse, hbc, hco, go_sem, Nat.reduceAdd, Nat.reduceSub, Nat.reduceMul, Nat.reduceMod, Nat.reduceLT, Nat.reduceLeDiff, Nat.reduceEqDiff, Nat.reduceBEq, Nat.reduceDiv, Int.reduceLT, Int.reduceLE, Int.reduceToNat, Int.reduceNeg, Int.reduceEq, ↓reduceIte, reduceCtorEq, ↓reduceDIte]
    | false => simp -implicitDefEqProofs only [w1, w2, zero_le_cast, Int.toNat_natCast, tr x0, y1, y2, g1, hg, k1, kw, kq, clear_all, Int.zero_add, tr h0, hse, hbc, hco, go_sem, Nat.reduceAdd, Nat.reduceSub, Nat.reduceMul, Nat.reduceMod, Nat.reduceLT, Nat.reduceLeDiff, Nat.reduceEqDiff, Nat.reduceBEq, Nat.reduceDiv, Int.reduceLT, Int.reduceLE, Int.reduceToNat, Int.reduceNeg, Int.reduceEq, ↓reduceIte, reduceCtorEq, ↓reduceDIte]
  by_cases h1 : x = 1
  · rw [decide_eq_true h1, Bool.or_true, if_pos rfl]
    have hm : aftW b n x true (qc, qf, qm, qk) = (qc.set n r1, (List.replicate qf.length false).set n (!decide (r1 = 0)), r3, false, true, if r3 then qk + 1 else qk) := by simp only [aftW, hg]
    rw [hm, call_eq pr 52 _ _ Try.f52 fn_52 _ rfl _ ann_52 rfl, HX]
    simp only [flawB]
    have hbc := call_bc n r1 true qm qc (List.replicate qf.length false) (by omega) (by simp; omega)
    have hco := call_cob ((List.replicate qf.length false).set n (!decide (r1 = 0))) (by simp; omega)
    rw [HX, HX, Bool.true_and] at hbc
    cases r3 with
    | true => simp -implicitDefEqProofs only [w1, w2, zero_le_cast, Int.toNat_natCast, tr x0, y1, y2, g1, hg, k1, kw, kq, clear_all, Int.zero_add, fa h0, tr h1, hse, hbc, hco, go_sem, Nat.reduceAdd, Nat.reduceSub, Nat.reduceMul, Nat.reduceMod, Nat.reduceLT, Nat.reduceLeDiff, Nat.reduceEqDiff, Nat.reduceBEq, Nat.reduceDiv, Int.reduceLT, Int.reduceLE, Int.reduceToNat, Int.reduceNeg, Int.reduceEq, ↓reduceIte, reduceCtorEq, ↓reduceDIte]
    | false => simp -implicitDefEqProofs only [w1, w2, zero_le_cast, Int.toNat_natCast, tr x0, y1, y2, g1, hg, k1, kw, kq, clear_all, Int.zero_add, fa h0, tr h1, hse, hbc, hco, go_sem, Nat.reduceAdd, Nat.reduceSub, Nat.reduceMul, Nat.reduceMod, Nat.reduceLT, Nat.reduceLeDiff, Nat.reduceEqDiff, Nat.reduceBEq, Nat.reduceDiv, Int.reduceLT, Int.reduceLE, Int.reduceToNat, Int.reduceNeg, Int.reduceEq, ↓reduceIte, reduceCtorEq, ↓reduceDIte]
  · rw [decide_eq_false h0, decide_eq_false h1, Bool.or_false, if_neg (by simp)]
    have hm : aftW b n x false (cs, fs, m, 0) = (cs.set n r1, (List.replicate fs.length false).set n (!decide (r1 = 0)), r3, false, false, if r3 then 1 else 0) := by simp only [aftW, hg, Int.zero_add]
    rw [hm, call_eq pr 52 _ _ Try.f52 fn_52 _ rfl _ ann_52 rfl, HX]
    simp only [flawB]
    have hbc := call_bc n r1 true m cs (List.replicate fs.length false) (by omega) (by simp; omega)
    have hco := call_cob ((List.replicate fs.length false).set n (!decide (r1 = 0))) (by simp; omega)
    rw [HX, HX, Bool.true_and] at hbc
    cases r3 with
    | true => simp -implicitDefEqProofs only [w1, w2, zero_le_cast, Int.toNat_natCast, tr x0, y1, y2, g1, hg, k1, kw, kq, clear_all, Int.zero_add, fa h0, fa h1, hbc, hco, go_sem, Nat.reduceAdd, Nat.reduceSub, Nat.reduceMul, Nat.reduceMod, Nat.reduceLT, Nat.reduceLeDiff, Nat.reduceEqDiff, Nat.reduceBEq, Nat.reduceDiv, Int.reduceLT, Int.reduceLE, Int.reduceToNat, Int.reduceNeg, Int.reduceEq, ↓reduceIte, reduceCtorEq, ↓reduceDIte]
    | false => simp -implicitDefEqProofs only [w1, w2, zero_le_cast, Int.toNat_natCast, tr x0, y1, y2, g1, hg, k1, kw, kq, clear_all, Int.zero_add, fa h0, fa h1, hbc, hco, go_sem, Nat.reduceAdd, Nat.reduceSub, Nat.reduceMul, Nat.reduceMod, Nat.reduceLT, Nat.reduceLeDiff, Nat.reduceEqDiff, Nat.reduceBEq, Nat.reduceDiv, Int.reduceLT, Int.reduceLE, Int.reduceToNat, Int.reduceNeg, Int.reduceEq, ↓reduceIte, reduceCtorEq, ↓reduceDIte]
abbrev HS (u w : Bool) (cs : List Int) (fs : List Bool) (m : Bool) : Heap := [(384, .box [.nilS, .nilS, B false]), (1472, .arr u false (.int .i64) cs), (1536, .arr w false .bool fs), (640, .box [.os (.t 1472), .os (.t 1536), B m])]
/-- Looks at all. -/
theorem loop_some (u w : Bool) (cs : List Int) (fl sn m : Bool) (bk : Int) : ∀ (suf pre : List Bool) (s : Bool), pre.length + suf.length < 100 →
    loopOf pr 78 1 ⟨[(6, .op 384 0), (10, .op 640 0), (13, B fl), (14, B sn), (15, I bk), (17, B s), (18, I pre.length)], HS u w cs (pre ++ suf) m⟩ = some (.exit 3, ⟨[(6, .op 384 0), (10, .op 640 0), (13, B fl), (14, B sn), (15, I bk), (17, B (s || suf.any id)), (18, I ((pre.length + suf.length : Nat) : Int))], HS u w cs (pre ++ suf) m⟩)
  | [], pre, s, hb => by
    rw [loop_eq pr 78 1 _ Try.f78 fn_78 _ rfl _ ann_78 _ rfl, HS]
    simp -implicitDefEqProofs only [Int.lt_irrefl, List.append_nil, List.length_nil, Nat.add_zero, List.any_nil, go_sem, Nat.reduceAdd, Nat.reduceSub, Nat.reduceMul, Nat.reduceMod, Nat.reduceLT, Nat.reduceLeDiff, Nat.reduceEqDiff, Nat.reduceBEq, Nat.reduceDiv, Int.reduceLT, Int.reduceLE, Int.reduceToNat, Int.reduceNeg, Int.reduceEq, ↓reduceIte, reduceCtorEq, ↓reduceDIte]
  | f :: suf, pre, s, hb => by
    simp only [List.length_cons] at hb
    have hw : IntKind.i64.wrap ((pre.length : Int) + 1) = ((pre.length + 1 : Nat) : Int) := by rw [wrap_i] <;> omega
    have e1 : (pre ++ [f]).length = pre.length + 1 := by simp
    have e2 : pre.length + 1 + suf.length = pre.length + (suf.length + 1) := by omega
    have ih := loop_some u w cs fl sn m bk suf (pre ++ [f]) (s || f) (by simp; omega)
    rw [e1, e2, app_one, Bool.or_assoc] at ih
    rw [loop_eq pr 78 1 _ Try.f78 fn_78 _ rfl _ ann_78 _ rfl, List.any_cons, id, HS]
    cases s with
    | true =>
      simp -implicitDefEqProofs only [getD_app, lt_app, ltn_app, zero_le_cast, Int.toNat_natCast, hw, go_sem, Nat.reduceAdd, Nat.reduceSub, Nat.reduceMul, Nat.reduceMod, Nat.reduceLT, Nat.reduceLeDiff, Nat.reduceEqDiff, Nat.reduceBEq, Nat.reduceDiv, Int.reduceLT, Int.reduceLE, Int.reduceToNat, Int.reduceNeg, Int.reduceEq, ↓reduceIte, reduceCtorEq, ↓reduceDIte]
      exact ih
    | false =>
      simp -implicitDefEqProofs only [getD_app, lt_app, ltn_app, zero_le_cast, Int.toNat_natCast, hw, go_sem, Nat.reduceAdd, Nat.reduceSub, Nat.reduceMul, Nat.reduceMod, Nat.reduceLT, Nat.reduceLeDiff, Nat.reduceEqDiff, Nat.reduceBEq, Nat.reduceDiv, Int.reduceLT, Int.reduceLE, Int.reduceToNat, Int.reduceNeg, Int.reduceEq, ↓reduceIte, reduceCtorEq, ↓reduceDIte]
      exact ih
theorem own_of (cs : List Int) (n : Nat) (hn : n < cs.length) (hl : cs.length ≤ 3) : callOf pr 112 [cI cs] [] = some (.os (.t 192), [(192, .arr true false (.int .i64) cs)]) := by
  match cs, hn with
  | y :: ys, _ => exact call_own y ys (by simp only [List.length_cons] at hl; omega)
abbrev HO (u w : Bool) (cs : List Int) (fs : List Bool) : Heap := [(1472, .arr u false (.int .i64) cs), (1536, .arr w false .bool fs)]
def sR1 (a : List Ru) (n : Nat) (cs : List Int) (fs : List Bool) (m : Bool) : Aft := (cs.set n (a.getD (cs.getD n 0).toNat rZ).1, fs, m, !fs.getD n false, false, 0)
theorem sp_r1 (a b v d e : List Ru) (ha : a.length = 4) (hb : b.length = 4) (hv : v.length = 4) (hd : d.length = 4) (he : e.length = 4) (n : Nat) (cs : List Int) (fs : List Bool) (m : Bool) (hn : n < cs.length) (hcf : cs.length = fs.length) (hl : cs.length ≤ 3) (hx : ∀ x ∈ cs, 0 ≤ x ∧ x ≤ 3) (h0 : ¬ cs.getD n 0 = 0) : callOf pr 78 [pR a b v d e, pS cs fs m, .agg [I 0, I n]] [] = (fun (u w : Bool) (r : Aft) => (some (AV.tuple [.agg [.os (.t 1472), .os (.t 1536), B r.2.2.1], B (flawB r), B r.2.2.2.2.1, I r.2.2.2.2.2], HO u w r.1 r.2.1) : Option (AV × Heap))) true true (sR1 a n cs fs m) := by
  obtain ⟨x0, x3⟩ : 0 ≤ cs.getD n 0 ∧ cs.getD n 0 ≤ 3 := by rw [getD_of_lt hn]; exact hx _ (List.getElem_mem hn)
  have g1 := getD_z hn 0
  have g2 := getD_z (show n < fs.length by omega) false
  have hm : sR1 a n cs fs m = (cs.set n (a.getD (cs.getD n 0).toNat rZ).1, fs, m, !fs.getD n false, false, 0) := rfl
  rw [hm]
  have hown := own_of cs n hn hl
  have cap : (fs.length * 1 ≤ 140737488355328 ∧ fs.length ≤ 9223372036854775807) = True := tr ⟨by omega, by omega⟩
  generalize hX : cs.getD n 0 = x at *
  generalize hF : fs.getD n false = f at *
  obtain ⟨r1, r2, r3, hg⟩ := ru_parts (show x.toNat < a.length by omega)
  rw [hg]
  have hs := loop_some true true (cs.set n r1) (!f) false m 0 fs [] m (by simp; omega)
  simp only [List.nil_append, List.length_nil, Nat.zero_add] at hs
  have hs : loopOf pr 78 1 ⟨[(6, .op 384 0), (10, .op 640 0), (13, B (!f)), (14, B false), (15, I 0), (17, B m), (18, I 0)], HS true true (cs.set n r1) fs m⟩ = _ := hs
  rw [HS] at hs
  have w1 : ((n : Int) < (cs.length : Int)) = True := tr (by omega)
  have w2 : (n < cs.length) = True := tr hn
  have w3 : ((n : Int) < (fs.length : Int)) = True := tr (by omega)
  have w4 : (n < fs.length) = True := tr (by omega)
  have y1 : (x < (a.length : Int)) = True := tr (by omega)
  have y2 : (x.toNat < a.length) = True := tr (by omega)
  rw [call_eq pr 78 _ _ Try.f78 fn_78 _ rfl _ ann_78 rfl]
  simp only [flawB]
  cases f with
  | true =>
    simp only [Bool.not_true] at hs ⊢
    simp -implicitDefEqProofs only [w1, w2, w3, w4, zero_le_cast, Int.toNat_natCast, tr x0, y1, y2, g1, g2, hg, hown, cap, List.nil_append, Nat.zero_add, fa h0, hs, Bool.false_or, go_sem, Nat.reduceAdd, Nat.reduceSub, Nat.reduceMul, Nat.reduceMod, Nat.reduceLT, Nat.reduceLeDiff, Nat.reduceEqDiff, Nat.reduceBEq, Nat.reduceDiv, Int.reduceLT, Int.reduceLE, Int.reduceToNat, Int.reduceNeg, Int.reduceEq, ↓reduceIte, reduceCtorEq, ↓reduceDIte]
  | false =>
    simp only [Bool.not_false] at hs ⊢
    simp -implicitDefEqProofs only [w1, w2, w3, w4, zero_le_cast, Int.toNat_natCast, tr x0, y1, y2, g1, g2, hg, hown, cap, List.nil_append, Nat.zero_add, fa h0, hs, Bool.true_or, go_sem, Nat.reduceAdd, Nat.reduceSub, Nat.reduceMul, Nat.reduceMod, Nat.reduceLT, Nat.reduceLeDiff, Nat.reduceEqDiff, Nat.reduceBEq, Nat.reduceDiv, Int.reduceLT, Int.reduceLE, Int.reduceToNat, Int.reduceNeg, Int.reduceEq, ↓reduceIte, reduceCtorEq, ↓reduceDIte]
def sR0 (a d : List Ru) (n : Nat) (cs : List Int) (fs : List Bool) (m : Bool) : Aft :=
  let q := seeL d n 0 cs fs m 0
  (if othB n 0 (q.1.set n (a.getD 0 rZ).1) = true then (q.1.set n (a.getD 0 rZ).1).set n (a.getD 0 rZ).2.1 else q.1.set n (a.getD 0 rZ).1, q.2.1.set n q.2.2.1, q.2.2.1, !q.2.2.1, true, q.2.2.2)
theorem sp_r0 (a b v d e : List Ru) (ha : a.length = 4) (hb : b.length = 4) (hv : v.length = 4) (hd : d.length = 4) (he : e.length = 4) (n : Nat) (cs : List Int) (fs : List Bool) (m : Bool) (hn : n < cs.length) (hcf : cs.length = fs.length) (hl : cs.length ≤ 3) (hx : ∀ x ∈ cs, 0 ≤ x ∧ x ≤ 3) (h0 : cs.getD n 0 = 0) : callOf pr 78 [pR a b v d e, pS cs fs m, .agg [I 0, I n]] [] = (fun (u w : Bool) (r : Aft) => (some (AV.tuple [.agg [.os (.t 1472), .os (.t 1536), B r.2.2.1], B (flawB r), B r.2.2.2.2.1, I r.2.2.2.2.2], HO u w r.1 r.2.1) : Option (AV × Heap))) true true (sR0 a d n cs fs m) := by
  have g1 := getD_z hn 0
  rw [h0] at g1
  have hown := own_of cs n hn hl
  have cap : (fs.length * 1 ≤ 140737488355328 ∧ fs.length ≤ 9223372036854775807) = True := tr ⟨by omega, by omega⟩
  obtain ⟨r1, r2, r3, hg⟩ := ru_parts (show 0 < a.length by omega)
  have hse := call_s10 d n hd cs fs m hcf (by omega) hx
  obtain ⟨l1, l2⟩ := see_len d n cs fs 0 m 0 hcf
  have hm : sR0 a d n cs fs m = (if othB n 0 ((seeL d n 0 cs fs m 0).1.set n r1) = true then ((seeL d n 0 cs fs m 0).1.set n r1).set n r2 else (seeL d n 0 cs fs m 0).1.set n r1, (seeL d n 0 cs fs m 0).2.1.set n (seeL d n 0 cs fs m 0).2.2.1, (seeL d n 0 cs fs m 0).2.2.1, !(seeL d n 0 cs fs m 0).2.2.1, true, (seeL d n 0 cs fs m 0).2.2.2) := by simp only [sR0, hg]
  rw [hm]
  generalize seeL d n 0 cs fs m 0 = q at *
  obtain ⟨qc, qf, qm, qk⟩ := q
  simp only at *
  have hot := call_ot n (qc.set n r1) (qf.set n qm) qm (by simp; omega)
  have w1 : ((n : Int) < (cs.length : Int)) = True := tr (by omega)
  have w2 : (n < cs.length) = True := tr hn
  have w3 : ((n : Int) < (qf.length : Int)) = True := tr (by omega)
  have w4 : (n < qf.length) = True := tr (by omega)
  have w5 : ((n : Int) < (qc.length : Int)) = True := tr (by omega)
  have w6 : (n < qc.length) = True := tr (by omega)
  have y1 : ((0 : Int) < (a.length : Int)) = True := tr (by omega)
  have y2 : (0 < a.length) = True := tr (by omega)
  simp only [flawB]
  rw [call_eq pr 78 _ _ Try.f78 fn_78 _ rfl _ ann_78 rfl]
  rw [HX, HX] at hse
  have hs := fun cs' => loop_some true true cs' (!qm) true qm qk (qf.set n qm) [] qm (by simp; omega)
  simp only [List.nil_append, List.length_nil, Nat.zero_add] at hs
  have hs : ∀ cs', loopOf pr 78 1 ⟨[(6, .op 384 0), (10, .op 640 0), (13, B (!qm)), (14, B true), (15, I qk), (17, B qm), (18, I 0)], HS true true cs' (qf.set n qm) qm⟩ = _ := hs
  simp only [HS] at hs
  cases ho : othB n 0 (qc.set n r1) with
  | true =>
    rw [ho] at hot
    rw [if_pos rfl]
    have hs := hs ((qc.set n r1).set n r2)
    cases qm with
    | true =>
      simp only [Bool.not_true] at hs hot ⊢
      simp -implicitDefEqProofs only [w1, w2, w3, w4, w5, w6, zero_le_cast, Int.toNat_natCast, Int.toNat_zero, y1, y2, g1, hg, hse, hown, cap, List.nil_append, Nat.zero_add, List.length_set, hot, hs, Bool.false_or, go_sem, Nat.reduceAdd, Nat.reduceSub, Nat.reduceMul, Nat.reduceMod, Nat.reduceLT, Nat.reduceLeDiff, Nat.reduceEqDiff, Nat.reduceBEq, Nat.reduceDiv, Int.reduceLT, Int.reduceLE, Int.reduceToNat, Int.reduceNeg, Int.reduceEq, ↓reduceIte, reduceCtorEq, ↓reduceDIte]
    | false =>
      simp only [Bool.not_false] at hs hot ⊢
      simp -implicitDefEqProofs only [w1, w2, w3, w4, w5, w6, zero_le_cast, Int.toNat_natCast, Int.toNat_zero, y1, y2, g1, hg, hse, hown, cap, List.nil_append, Nat.zero_add, List.length_set, hot, hs, Bool.true_or, go_sem, Nat.reduceAdd, Nat.reduceSub, Nat.reduceMul, Nat.reduceMod, Nat.reduceLT, Nat.reduceLeDiff, Nat.reduceEqDiff, Nat.reduceBEq, Nat.reduceDiv, Int.reduceLT, Int.reduceLE, Int.reduceToNat, Int.reduceNeg, Int.reduceEq, ↓reduceIte, reduceCtorEq, ↓reduceDIte]
  | false =>
    rw [ho] at hot
    rw [if_neg (by simp)]
    have hs := hs (qc.set n r1)
    cases qm with
    | true =>
      simp only [Bool.not_true] at hs hot ⊢
      simp -implicitDefEqProofs only [w1, w2, w3, w4, w5, w6, zero_le_cast, Int.toNat_natCast, Int.toNat_zero, y1, y2, g1, hg, hse, hown, cap, List.nil_append, Nat.zero_add, List.length_set, hot, hs, Bool.false_or, go_sem, Nat.reduceAdd, Nat.reduceSub, Nat.reduceMul, Nat.reduceMod, Nat.reduceLT, Nat.reduceLeDiff, Nat.reduceEqDiff, Nat.reduceBEq, Nat.reduceDiv, Int.reduceLT, Int.reduceLE, Int.reduceToNat, Int.reduceNeg, Int.reduceEq, ↓reduceIte, reduceCtorEq, ↓reduceDIte]
    | false =>
      simp only [Bool.not_false] at hs hot ⊢
      simp -implicitDefEqProofs only [w1, w2, w3, w4, w5, w6, zero_le_cast, Int.toNat_natCast, Int.toNat_zero, y1, y2, g1, hg, hse, hown, cap, List.nil_append, Nat.zero_add, List.length_set, hot, hs, Bool.true_or, go_sem, Nat.reduceAdd, Nat.reduceSub, Nat.reduceMul, Nat.reduceMod, Nat.reduceLT, Nat.reduceLeDiff, Nat.reduceEqDiff, Nat.reduceBEq, Nat.reduceDiv, Int.reduceLT, Int.reduceLE, Int.reduceToNat, Int.reduceNeg, Int.reduceEq, ↓reduceIte, reduceCtorEq, ↓reduceDIte]
theorem sp_e (a b v d e : List Ru) (ha : a.length = 4) (hb : b.length = 4) (hv : v.length = 4) (hd : d.length = 4) (he : e.length = 4) (n : Nat) (cs : List Int) (fs : List Bool) (m : Bool) (hn : n < cs.length) (hcf : cs.length = fs.length) (hl : cs.length ≤ 3) (hx : ∀ x ∈ cs, 0 ≤ x ∧ x ≤ 3) : callOf pr 78 [pR a b v d e, pS cs fs m, .agg [I 2, I n]] [] = (fun (u w : Bool) (r : Aft) => (some (AV.tuple [.agg [.os (.t 1472), .os (.t 1536), B r.2.2.1], B (flawB r), B r.2.2.2.2.1, I r.2.2.2.2.2], HO u w r.1 r.2.1) : Option (AV × Heap))) true true (aftE v n cs fs m) := by
  obtain ⟨x0, x3⟩ : 0 ≤ cs.getD n 0 ∧ cs.getD n 0 ≤ 3 := by rw [getD_of_lt hn]; exact hx _ (List.getElem_mem hn)
  have g1 := getD_z hn 0
  have g2 := getD_z (show n < fs.length by omega) false
  have hown := own_of cs n hn hl
  have cap : (fs.length * 1 ≤ 140737488355328 ∧ fs.length ≤ 9223372036854775807) = True := tr ⟨by omega, by omega⟩
  generalize hX : cs.getD n 0 = x at *
  generalize hF : fs.getD n false = f at *
  obtain ⟨r1, r2, r3, hg⟩ := ru_parts (show x.toNat < v.length by omega)
  have hm : aftE v n cs fs m = (cs.set n 0, fs.set n false, if r3 then f else m, false, false, if r3 then 1 else 0) := by simp only [aftE, hX, hF, hg]
  have w1 : ((n : Int) < (cs.length : Int)) = True := tr (by omega)
  have w2 : (n < cs.length) = True := tr hn
  have w3 : ((n : Int) < (fs.length : Int)) = True := tr (by omega)
  have w4 : (n < fs.length) = True := tr (by omega)
  have y1 : (x < (v.length : Int)) = True := tr (by omega)
  have y2 : (x.toNat < v.length) = True := tr (by omega)
  have k1 : ((2 : Int) = 0) = False := fa (by decide)
  have k2 : ((2 : Int) = 1) = False := fa (by decide)
  have kw : IntKind.i64.wrap 1 = 1 := by decide
  rw [hm, call_eq pr 78 _ _ Try.f78 fn_78 _ rfl _ ann_78 rfl]
  simp only [flawB]
  have hs := fun (m' : Bool) (bk : Int) => loop_some true true (cs.set n 0) false false m' bk (fs.set n false) [] m' (by simp; omega)
  simp only [List.nil_append, List.length_nil, Nat.zero_add] at hs
  have hs : ∀ (m' : Bool) (bk : Int), loopOf pr 78 1 ⟨[(6, .op 384 0), (10, .op 640 0), (13, B false), (14, B false), (15, I bk), (17, B m'), (18, I 0)], HS true true (cs.set n 0) (fs.set n false) m'⟩ = _ := hs
  simp only [HS] at hs
  cases r3 with
  | true => simp -implicitDefEqProofs only [w1, w2, w3, w4, zero_le_cast, Int.toNat_natCast, tr x0, y1, y2, g1, g2, hg, k1, k2, kw, Int.zero_add, hown, cap, List.nil_append, Nat.zero_add, hs, Bool.false_or, go_sem, Nat.reduceAdd, Nat.reduceSub, Nat.reduceMul, Nat.reduceMod, Nat.reduceLT, Nat.reduceLeDiff, Nat.reduceEqDiff, Nat.reduceBEq, Nat.reduceDiv, Int.reduceLT, Int.reduceLE, Int.reduceToNat, Int.reduceNeg, Int.reduceEq, ↓reduceIte, reduceCtorEq, ↓reduceDIte]
  | false => simp -implicitDefEqProofs only [w1, w2, w3, w4, zero_le_cast, Int.toNat_natCast, tr x0, y1, y2, g1, g2, hg, k1, k2, kw, Int.zero_add, hown, cap, List.nil_append, Nat.zero_add, hs, Bool.false_or, go_sem, Nat.reduceAdd, Nat.reduceSub, Nat.reduceMul, Nat.reduceMod, Nat.reduceLT, Nat.reduceLeDiff, Nat.reduceEqDiff, Nat.reduceBEq, Nat.reduceDiv, Int.reduceLT, Int.reduceLE, Int.reduceToNat, Int.reduceNeg, Int.reduceEq, ↓reduceIte, reduceCtorEq, ↓reduceDIte]
theorem loop_clr (P : List (List Ru)) (a b v d e : List Ru) (u w : Bool) (cs : List Int) (n : Nat) (x bk : Int) (sn m : Bool) : ∀ (suf pre : List Bool), pre.length + suf.length < 100 →
    loopOf pr 78 0 ⟨[(0, pR a b v d e), (6, .op 384 0), (10, .op 640 0), (11, I n), (12, I x), (13, B false), (14, B sn), (15, I bk), (16, I pre.length)], HS u w cs (pre ++ suf) m⟩ = some (.exit 1, ⟨[(0, pR a b v d e), (6, .op 384 0), (10, .op 640 0), (11, I n), (12, I x), (13, B false), (14, B sn), (15, I bk), (16, I ((pre.length + suf.length : Nat) : Int))], HS u w cs (pre ++ List.replicate suf.length false) m⟩)
  | [], pre, hb => by
    rw [loop_eq pr 78 0 _ Try.f78 fn_78 _ rfl _ ann_78 _ rfl, HS]
    simp -implicitDefEqProofs only [Int.lt_irrefl, List.append_nil, List.length_nil, Nat.add_zero, List.replicate_zero, go_sem, Nat.reduceAdd, Nat.reduceSub, Nat.reduceMul, Nat.reduceMod, Nat.reduceLT, Nat.reduceLeDiff, Nat.reduceEqDiff, Nat.reduceBEq, Nat.reduceDiv, Int.reduceLT, Int.reduceLE, Int.reduceToNat, Int.reduceNeg, Int.reduceEq, ↓reduceIte, reduceCtorEq, ↓reduceDIte]
  | f :: suf, pre, hb => by
    simp only [List.length_cons] at hb
    have hw : IntKind.i64.wrap ((pre.length : Int) + 1) = ((pre.length + 1 : Nat) : Int) := by rw [wrap_i] <;> omega
    have e1 : (pre ++ [false]).length = pre.length + 1 := by simp
    have e2 : pre.length + 1 + suf.length = pre.length + (suf.length + 1) := by omega
    have ih := loop_clr P a b v d e u w cs n x bk sn m suf (pre ++ [false]) (by simp; omega)
    rw [e1, e2, app_one, app_one] at ih
    rw [loop_eq pr 78 0 _ Try.f78 fn_78 _ rfl _ ann_78 _ rfl, HS]
    simp -implicitDefEqProofs only [getD_app, set_app, lt_app, ltn_app, zero_le_cast, Int.toNat_natCast, hw, go_sem, Nat.reduceAdd, Nat.reduceSub, Nat.reduceMul, Nat.reduceMod, Nat.reduceLT, Nat.reduceLeDiff, Nat.reduceEqDiff, Nat.reduceBEq, Nat.reduceDiv, Int.reduceLT, Int.reduceLE, Int.reduceToNat, Int.reduceNeg, Int.reduceEq, ↓reduceIte, reduceCtorEq, ↓reduceDIte]
    exact ih
theorem sp_w (a b v d e : List Ru) (ha : a.length = 4) (hb : b.length = 4) (hv : v.length = 4) (hd : d.length = 4) (he : e.length = 4) (n : Nat) (cs : List Int) (fs : List Bool) (m : Bool) (hn : n < cs.length) (hcf : cs.length = fs.length) (hl : cs.length ≤ 3) (hx : ∀ x ∈ cs, 0 ≤ x ∧ x ≤ 3) : callOf pr 78 [pR a b v d e, pS cs fs m, .agg [I 1, I n]] [] = (fun (u w : Bool) (r : Aft) => (some (AV.tuple [.agg [.os (.t 1472), .os (.t 1536), B r.2.2.1], B (flawB r), B r.2.2.2.2.1, I r.2.2.2.2.2], HO u w r.1 r.2.1) : Option (AV × Heap))) true true (aftW b n (cs.getD n 0) (decide (cs.getD n 0 = 0) || decide (cs.getD n 0 = 1)) (if (decide (cs.getD n 0 = 0) || decide (cs.getD n 0 = 1)) = true then seeL e n 0 cs fs m 0 else (cs, fs, m, 0))) := by
  obtain ⟨x0, x3⟩ : 0 ≤ cs.getD n 0 ∧ cs.getD n 0 ≤ 3 := by rw [getD_of_lt hn]; exact hx _ (List.getElem_mem hn)
  have g1 := getD_z hn 0
  generalize hX : cs.getD n 0 = x at *
  have hown := own_of cs n hn hl
  have cap : (fs.length * 1 ≤ 140737488355328 ∧ fs.length ≤ 9223372036854775807) = True := tr ⟨by omega, by omega⟩
  obtain ⟨r1, r2, r3, hg⟩ := ru_parts (show x.toNat < b.length by omega)
  have hse := call_s10 e n he cs fs m hcf (by omega) hx
  obtain ⟨l1, l2⟩ := see_len e n cs fs 0 m 0 hcf
  have k0 := see_bk e n cs fs 0 m 0 hcf
  have w1 : ((n : Int) < (cs.length : Int)) = True := tr (by omega)
  have w2 : (n < cs.length) = True := tr hn
  have y1 : (x < (b.length : Int)) = True := tr (by omega)
  have y2 : (x.toNat < b.length) = True := tr (by omega)
  have k1 : ((1 : Int) = 0) = False := fa (by decide)
  have kw : IntKind.i64.wrap 1 = 1 := by decide
  generalize seeL e n 0 cs fs m 0 = q at *
  obtain ⟨qc, qf, qm, qk⟩ := q
  simp only at *
  have kq : IntKind.i64.wrap (qk + 1) = qk + 1 := by rw [wrap_i] <;> omega
  rw [HX, HX] at hse
  have hcl : ∀ (cs' : List Int) (fs' : List Bool) (bk : Int) (sn m' : Bool), fs'.length < 100 → loopOf pr 78 0 ⟨[(0, pR a b v d e), (6, .op 384 0), (10, .op 640 0), (11, I n), (12, I x), (13, B false), (14, B sn), (15, I bk), (16, I 0)], HS true true cs' fs' m'⟩ = some (.exit 1, ⟨[(0, pR a b v d e), (6, .op 384 0), (10, .op 640 0), (11, I n), (12, I x), (13, B false), (14, B sn), (15, I bk), (16, I (fs'.length : Int))], HS true true cs' (List.replicate fs'.length false) m'⟩) := by
    intro cs' fs' bk sn m' hf
    have := loop_clr [] a b v d e true true cs' n x bk sn m' fs' [] (by simpa using hf)
    simp only [List.nil_append, List.length_nil, Nat.zero_add] at this
    exact this
  have hso : ∀ (cs' : List Int) (fs' : List Bool) (bk : Int) (sn m' : Bool), fs'.length < 100 → loopOf pr 78 1 ⟨[(6, .op 384 0), (10, .op 640 0), (13, B false), (14, B sn), (15, I bk), (17, B m'), (18, I 0)], HS true true cs' fs' m'⟩ = some (.exit 3, ⟨[(6, .op 384 0), (10, .op 640 0), (13, B false), (14, B sn), (15, I bk), (17, B (m' || fs'.any id)), (18, I (fs'.length : Int))], HS true true cs' fs' m'⟩) := by
    intro cs' fs' bk sn m' hf
    have := loop_some true true cs' false sn m' bk fs' [] m' (by simpa using hf)
    simp only [List.nil_append, List.length_nil, Nat.zero_add] at this
    exact this
  simp only [HS] at hcl hso
  have v1 : ((n : Int) < (qc.length : Int)) = True := tr (by omega)
  have v2 : (n < qc.length) = True := tr (by omega)
  have v3 : ((n : Int) < (qf.length : Int)) = True := tr (by omega)
  have v4 : (n < qf.length) = True := tr (by omega)
  have v5 : ((n : Int) < (fs.length : Int)) = True := tr (by omega)
  have v6 : (n < fs.length) = True := tr (by omega)
  by_cases h0 : x = 0
  · rw [decide_eq_true h0, Bool.true_or, if_pos rfl]
    have hm : aftW b n x true (qc, qf, qm, qk) = (qc.set n r1, (List.replicate qf.length false).set n (!decide (r1 = 0)), r3, false, true, if r3 then qk + 1 else qk) := by simp only [aftW, hg]
    rw [hm, call_eq pr 78 _ _ Try.f78 fn_78 _ rfl _ ann_78 rfl]
    simp only [flawB]
    have hcl := hcl qc qf qk true qm (by omega)
    have hso := fun bk => hso (qc.set n r1) ((List.replicate qf.length false).set n (!decide (r1 = 0))) bk true r3 (by simp; omega)
    cases r3 with
    | true => simp -implicitDefEqProofs only [w1, w2, v1, v2, v3, v4, v5, v6, List.length_replicate, zero_le_cast, Int.toNat_natCast, tr x0, y1, y2, g1, hg, k1, kw, kq, hown, cap, List.nil_append, Nat.zero_add, Int.zero_add, Bool.false_or, tr h0, hse, hcl, hso, go_sem, Nat.reduceAdd, Nat.reduceSub, Nat.reduceMul, Nat.reduceMod, Nat.reduceLT, Nat.reduceLeDiff, Nat.reduceEqDiff, Nat.reduceBEq, Nat.reduceDiv, Int.reduceLT, Int.reduceLE, Int.reduceToNat, Int.reduceNeg, Int.reduceEq, ↓reduceIte, reduceCtorEq, ↓reduceDIte]
    | false => simp -implicitDefEqProofs only [w1, w2, v1, v2, v3, v4, v5, v6, List.length_replicate, zero_le_cast, Int.toNat_natCast, tr x0, y1, y2, g1, hg, k1, kw, kq, hown, cap, List.nil_append, Nat.zero_add, Int.zero_add, Bool.false_or, tr h0, hse, hcl, hso, go_sem, Nat.reduceAdd, Nat.reduceSub, Nat.reduceMul, Nat.reduceMod, Nat.reduceLT, Nat.reduceLeDiff, Nat.reduceEqDiff, Nat.reduceBEq, Nat.reduceDiv, Int.reduceLT, Int.reduceLE, Int.reduceToNat, Int.reduceNeg, Int.reduceEq, ↓reduceIte, reduceCtorEq, ↓reduceDIte]
  by_cases h1 : x = 1
  · rw [decide_eq_true h1, Bool.or_true, if_pos rfl]
    have hm : aftW b n x true (qc, qf, qm, qk) = (qc.set n r1, (List.replicate qf.length false).set n (!decide (r1 = 0)), r3, false, true, if r3 then qk + 1 else qk) := by simp only [aftW, hg]
    rw [hm, call_eq pr 78 _ _ Try.f78 fn_78 _ rfl _ ann_78 rfl]
    simp only [flawB]
    have hcl := hcl qc qf qk true qm (by omega)
    have hso := fun bk => hso (qc.set n r1) ((List.replicate qf.length false).set n (!decide (r1 = 0))) bk true r3 (by simp; omega)
    cases r3 with
    | true => simp -implicitDefEqProofs only [w1, w2, v1, v2, v3, v4, v5, v6, List.length_replicate, zero_le_cast, Int.toNat_natCast, tr x0, y1, y2, g1, hg, k1, kw, kq, hown, cap, List.nil_append, Nat.zero_add, Int.zero_add, Bool.false_or, fa h0, tr h1, hse, hcl, hso, go_sem, Nat.reduceAdd, Nat.reduceSub, Nat.reduceMul, Nat.reduceMod, Nat.reduceLT, Nat.reduceLeDiff, Nat.reduceEqDiff, Nat.reduceBEq, Nat.reduceDiv, Int.reduceLT, Int.reduceLE, Int.reduceToNat, Int.reduceNeg, Int.reduceEq, ↓reduceIte, reduceCtorEq, ↓reduceDIte]
    | false => simp -implicitDefEqProofs only [w1, w2, v1, v2, v3, v4, v5, v6, List.length_replicate, zero_le_cast, Int.toNat_natCast, tr x0, y1, y2, g1, hg, k1, kw, kq, hown, cap, List.nil_append, Nat.zero_add, Int.zero_add, Bool.false_or, fa h0, tr h1, hse, hcl, hso, go_sem, Nat.reduceAdd, Nat.reduceSub, Nat.reduceMul, Nat.reduceMod, Nat.reduceLT, Nat.reduceLeDiff, Nat.reduceEqDiff, Nat.reduceBEq, Nat.reduceDiv, Int.reduceLT, Int.reduceLE, Int.reduceToNat, Int.reduceNeg, Int.reduceEq, ↓reduceIte, reduceCtorEq, ↓reduceDIte]
  · rw [decide_eq_false h0, decide_eq_false h1, Bool.or_false, if_neg (by simp)]
    have hm : aftW b n x false (cs, fs, m, 0) = (cs.set n r1, (List.replicate fs.length false).set n (!decide (r1 = 0)), r3, false, false, if r3 then 1 else 0) := by simp only [aftW, hg, Int.zero_add]
    rw [hm, call_eq pr 78 _ _ Try.f78 fn_78 _ rfl _ ann_78 rfl]
    simp only [flawB]
    have hcl := hcl cs fs 0 false m (by omega)
    have hso := fun bk => hso (cs.set n r1) ((List.replicate fs.length false).set n (!decide (r1 = 0))) bk false r3 (by simp; omega)
    cases r3 with
    | true => simp -implicitDefEqProofs only [w1, w2, v1, v2, v3, v4, v5, v6, List.length_replicate, zero_le_cast, Int.toNat_natCast, tr x0, y1, y2, g1, hg, k1, kw, kq, hown, cap, List.nil_append, Nat.zero_add, Int.zero_add, Bool.false_or, fa h0, fa h1, hcl, hso, go_sem, Nat.reduceAdd, Nat.reduceSub, Nat.reduceMul, Nat.reduceMod, Nat.reduceLT, Nat.reduceLeDiff, Nat.reduceEqDiff, Nat.reduceBEq, Nat.reduceDiv, Int.reduceLT, Int.reduceLE, Int.reduceToNat, Int.reduceNeg, Int.reduceEq, ↓reduceIte, reduceCtorEq, ↓reduceDIte]
    | false => simp -implicitDefEqProofs only [w1, w2, v1, v2, v3, v4, v5, v6, List.length_replicate, zero_le_cast, Int.toNat_natCast, tr x0, y1, y2, g1, hg, k1, kw, kq, hown, cap, List.nil_append, Nat.zero_add, Int.zero_add, Bool.false_or, fa h0, fa h1, hcl, hso, go_sem, Nat.reduceAdd, Nat.reduceSub, Nat.reduceMul, Nat.reduceMod, Nat.reduceLT, Nat.reduceLeDiff, Nat.reduceEqDiff, Nat.reduceBEq, Nat.reduceDiv, Int.reduceLT, Int.reduceLE, Int.reduceToNat, Int.reduceNeg, Int.reduceEq, ↓reduceIte, reduceCtorEq, ↓reduceDIte]
end Go.Proofs.Ythmnlokdikomkaa.PI
