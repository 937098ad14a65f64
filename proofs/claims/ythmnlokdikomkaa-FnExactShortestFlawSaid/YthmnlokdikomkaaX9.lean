/- A step of the reference's, of a system that is the first part of a node. -/
import Derived.Test.YthmnlokdikomkaaX2
import Derived.Test.YthmnlokdikomkaaX5
namespace Go.Proofs.Ythmnlokdikomkaa.PI
open Go Go.Q
set_option maxRecDepth 100000
set_option maxHeartbeats 4000000
set_option linter.unusedSimpArgs false
set_option linter.unusedVariables false
set_option linter.unusedSectionVars false
set_option maxHeartbeats 8000000
abbrev pS6 (cs : List Int) (fs : List Bool) (m : Bool) (u1 u2 u3 : Int) : AV := .rp [cI cs, LB fs, B m, I u1, I u2, I u3]
theorem sp_r16 (u1 u2 u3 : Int) (a b v d e : List Ru) (ha : a.length = 4) (hb : b.length = 4) (hv : v.length = 4) (hd : d.length = 4) (he : e.length = 4) (n : Nat) (cs : List Int) (fs : List Bool) (m : Bool) (hn : n < cs.length) (hcf : cs.length = fs.length) (hl : cs.length ≤ 3) (hx : ∀ x ∈ cs, 0 ≤ x ∧ x ≤ 3) (h0 : ¬ cs.getD n 0 = 0) : callOf pr 78 [pR a b v d e, pS6 cs fs m u1 u2 u3, .agg [I 0, I n]] [] = (fun (u w : Bool) (r : Aft) => (some (AV.tuple [.agg [.os (.t 1472), .os (.t 1536), B r.2.2.1], B (flawB r), B r.2.2.2.2.1, I r.2.2.2.2.2], HO u w r.1 r.2.1) : Option (AV × Heap))) true true (sR1 a n cs fs m) := by
  obtain ⟨x0, x3⟩ : 0 ≤ cs.getD n 0 ∧ cs.getD n 0 ≤ 3 := by rw [getD_of_lt hn]; exact hx _ (List.getElem_mem hn)
  have g1 := getD_z hn 0
  have g2 := getD_z (show n < fs.length by omega) false
  have hm : sR1 a n cs fs m = (cs.set n (a.getD (cs.getD n 0).toNat rZ).1, fs, m, !fs.getD n false, false, 0) := rfl
  rw [hm]
  have hown := own_of cs n hn hl
  have cap : (fs.length * 1 ≤ 140737488355328 ∧ fs.length ≤ 9223372036854775807) = True := tr ⟨by omega, by omega⟩
  generalize hX : cs.getD n 0 = x at *
  generalize hF : fs.getD n false = f at *
  obtain ⟨r1, r2, r3, hg⟩ := ru_parts (show x.toNat < a.length by omega)
  rw [hg]
  have hs := loop_some true true (cs.set n r1) (!f) false m 0 fs [] m (by simp; omega)
  simp only [List.nil_append, List.length_nil, Nat.zero_add] at hs
  have hs : loopOf pr 78 1 ⟨[(6, .op 384 0), (10, .op 640 0), (13, B (!f)), (14, B false), (15, I 0), (17, B m), (18, I 0)], HS true true (cs.set n r1) fs m⟩ = _ := hs
  rw [HS] at hs
  have w1 : ((n : Int) < (cs.length : Int)) = True := tr (by omega)
  have w2 : (n < cs.length) = True := tr hn
  have w3 : ((n : Int) < (fs.length : Int)) = True := tr (by omega)
  have w4 : (n < fs.length) = True := tr (by omega)
  have y1 : (x < (a.length : Int)) = True := tr (by omega)
  have y2 : (x.toNat < a.length) = True := tr (by omega)
  rw [call_eq pr 78 _ _ Try.f78 fn_78 _ rfl _ ann_78 rfl]
  simp only [flawB]
  cases f with
  | true =>
    simp only [Bool.not_true] at hs ⊢
    simp -implicitDefEqProofs only [w1, w2, w3, w4, zero_le_cast, Int.toNat_natCast, tr x0, y1, y2, g1, g2, hg, hown, cap, List.nil_append, Nat.zero_add, fa h0, hs, Bool.false_or, go_sem, Nat.reduceAdd, Nat.reduceSub, Nat.reduceMul, Nat.reduceMod, Nat.reduceLT, Nat.reduceLeDiff, Nat.reduceEqDiff, Nat.reduceBEq, Nat.reduceDiv, Int.reduceLT, Int.reduceLE, Int.reduceToNat, Int.reduceNeg, Int.reduceEq, ↓reduceIte, reduceCtorEq, ↓reduceDIte]
  | false =>
    simp only [Bool.not_false] at hs ⊢
    simp -implicitDefEqProofs only [w1, w2, w3, w4, zero_le_cast, Int.toNat_natCast, tr x0, y1, y2, g1, g2, hg, hown, cap, List.nil_append, Nat.zero_add, fa h0, hs, Bool.true_or, go_sem, Nat.reduceAdd, Nat.reduceSub, Nat.reduceMul, Nat.reduceMod, Nat.reduceLT, Nat.reduceLeDiff, Nat.reduceEqDiff, Nat.reduceBEq, Nat.reduceDiv, Int.reduceLT, Int.reduceLE, Int.reduceToNat, Int.reduceNeg, Int.reduceEq, ↓reduceIte, reduceCtorEq, ↓reduceDIte]
theorem sp_r06 (u1 u2 u3 : Int) (a b v d e : List Ru) (ha : a.length = 4) (hb : b.length = 4) (hv : v.length = 4) (hd : d.length = 4) (he : e.length = 4) (n : Nat) (cs : List Int) (fs : List Bool) (m : Bool) (hn : n < cs.length) (hcf : cs.length = fs.length) (hl : cs.length ≤ 3) (hx : ∀ x ∈ cs, 0 ≤ x ∧ x ≤ 3) (h0 : cs.getD n 0 = 0) : callOf pr 78 [pR a b v d e, pS6 cs fs m u1 u2 u3, .agg [I 0, I n]] [] = (fun (u w : Bool) (r : Aft) => (some (AV.tuple [.agg [.os (.t 1472), .os (.t 1536), B r.2.2.1], B (flawB r), B r.2.2.2.2.1, I r.2.2.2.2.2], HO u w r.1 r.2.1) : Option (AV × Heap))) true true (sR0 a d n cs fs m) := by
  have g1 := getD_z hn 0
  rw [h0] at g1
  have hown := own_of cs n hn hl
  have cap : (fs.length * 1 ≤ 140737488355328 ∧ fs.length ≤ 9223372036854775807) = True := tr ⟨by omega, by omega⟩
  obtain ⟨r1, r2, r3, hg⟩ := ru_parts (show 0 < a.length by omega)
  have hse := call_s10 d n hd cs fs m hcf (by omega) hx
  obtain ⟨l1, l2⟩ := see_len d n cs fs 0 m 0 hcf
  have hm : sR0 a d n cs fs m = (if othB n 0 ((seeL d n 0 cs fs m 0).1.set n r1) = true then ((seeL d n 0 cs fs m 0).1.set n r1).set n r2 else (seeL d n 0 cs fs m 0).1.set n r1, (seeL d n 0 cs fs m 0).2.1.set n (seeL d n 0 cs fs m 0).2.2.1, (seeL d n 0 cs fs m 0).2.2.1, !(seeL d n 0 cs fs m 0).2.2.1, true, (seeL d n 0 cs fs m 0).2.2.2) := by simp only [sR0, hg]
  rw [hm]
  generalize seeL d n 0 cs fs m 0 = q at *
  obtain ⟨qc, qf, qm, qk⟩ := q
  simp only at *
  have hot := call_ot n (qc.set n r1) (qf.set n qm) qm (by simp; omega)
  have w1 : ((n : Int) < (cs.length : Int)) = True := tr (by omega)
  have w2 : (n < cs.length) = True := tr hn
  have w3 : ((n : Int) < (qf.length : Int)) = True := tr (by omega)
  have w4 : (n < qf.length) = True := tr (by omega)
  have w5 : ((n : Int) < (qc.length : Int)) = True := tr (by omega)
  have w6 : (n < qc.length) = True := tr (by omega)
  have y1 : ((0 : Int) < (a.length : Int)) = True := tr (by omega)
  have y2 : (0 < a.length) = True := tr (by omega)
  simp only [flawB]
  rw [call_eq pr 78 _ _ Try.f78 fn_78 _ rfl _ ann_78 rfl]
  rw [HX, HX] at hse
  have hs := fun cs' => loop_some true true cs' (!qm) true qm qk (qf.set n qm) [] qm (by simp; omega)
  simp only [List.nil_append, List.length_nil, Nat.zero_add] at hs
  have hs : ∀ cs', loopOf pr 78 1 ⟨[(6, .op 384 0), (10, .op 640 0), (13, B (!qm)), (14, B true), (15, I qk), (17, B qm), (18, I 0)], HS true true cs' (qf.set n qm) qm⟩ = _ := hs
  simp only [HS] at hs
  cases ho : othB n 0 (qc.set n r1) with
  | true =>
    rw [ho] at hot
    rw [if_pos rfl]
    have hs := hs ((qc.set n r1).set n r2)
    cases qm with
    | true =>
      simp only [Bool.not_true] at hs hot ⊢
      simp -implicitDefEqProofs only [w1, w2, w3, w4, w5, w6, zero_le_cast, Int.toNat_natCast, Int.toNat_zero, y1, y2, g1, hg, hse, hown, cap, List.nil_append, Nat.zero_add, List.length_set, hot, hs, Bool.false_or, go_sem, Nat.reduceAdd, Nat.reduceSub, Nat.reduceMul, Nat.reduceMod, Nat.reduceLT, Nat.reduceLeDiff, Nat.reduceEqDiff, Nat.reduceBEq, Nat.reduceDiv, Int.reduceLT, Int.reduceLE, Int.reduceToNat, Int.reduceNeg, Int.reduceEq, ↓reduceIte, reduceCtorEq, ↓reduceDIte]
    | false =>
      simp only [Bool.not_false] at hs hot ⊢
      simp -implicitDefEqProofs only [w1, w2, w3, w4, w5, w6, zero_le_cast, Int.toNat_natCast, Int.toNat_zero, y1, y2, g1, hg, hse, hown, cap, List.nil_append, Nat.zero_add, List.length_set, hot, hs, Bool.true_or, go_sem, Nat.reduceAdd, Nat.reduceSub, Nat.reduceMul, Nat.reduceMod, Nat.reduceLT, Nat.reduceLeDiff, Nat.reduceEqDiff, Nat.reduceBEq, Nat.reduceDiv, Int.reduceLT, Int.reduceLE, Int.reduceToNat, Int.reduceNeg, Int.reduceEq, ↓reduceIte, reduceCtorEq, ↓reduceDIte]
  | false =>
    rw [ho] at hot
    rw [if_neg (by simp)]
    have hs := hs (qc.set n r1)
    cases qm with
    | true =>
      simp only [Bool.not_true] at hs hot ⊢
      simp -implicitDefEqProofs only [w1, w2, w3, w4, w5, w6, zero_le_cast, Int.toNat_natCast, Int.toNat_zero, y1, y2, g1, hg, hse, hown, cap, List.nil_append, Nat.zero_add, List.length_set, hot, hs, Bool.false_or, go_sem, Nat.reduceAdd, Nat.reduceSub, Nat.reduceMul, Nat.reduceMod, Nat.reduceLT, Nat.reduceLeDiff, Nat.reduceEqDiff, Nat.reduceBEq, Nat.reduceDiv, Int.reduceLT, Int.reduceLE, Int.reduceToNat, Int.reduceNeg, Int.reduceEq, ↓reduceIte, reduceCtorEq, ↓reduceDIte]
    | false =>
      simp only [Bool.not_false] at hs hot ⊢
      simp -implicitDefEqProofs only [w1, w2, w3, w4, w5, w6, zero_le_cast, Int.toNat_natCast, Int.toNat_zero, y1, y2, g1, hg, hse, hown, cap, List.nil_append, Nat.zero_add, List.length_set, hot, hs, Bool.true_or, go_sem, Nat.reduceAdd, Nat.reduceSub, Nat.reduceMul, Nat.reduceMod, Nat.reduceLT, Nat.reduceLeDiff, Nat.reduceEqDiff, Nat.reduceBEq, Nat.reduceDiv, Int.reduceLT, Int.reduceLE, Int.reduceToNat, Int.reduceNeg, Int.reduceEq, ↓reduceIte, reduceCtorEq, ↓reduceDIte]
theorem sp_e6 (u1 u2 u3 : Int) (a b v d e : List Ru) (ha : a.length = 4) (hb : b.length = 4) (hv : v.length = 4) (hd : d.length = 4) (he : e.length = 4) (n : Nat) (cs : List Int) (fs : List Bool) (m : Bool) (hn : n < cs.length) (hcf : cs.length = fs.length) (hl : cs.length ≤ 3) (hx : ∀ x ∈ cs, 0 ≤ x ∧ x ≤ 3) : callOf pr 78 [pR a b v d e, pS6 cs fs m u1 u2 u3, .agg [I 2, I n]] [] = (fun (u w : Bool) (r : Aft) => (some (AV.tuple [.agg [.os (.t 1472), .os (.t 1536), B r.2.2.1], B (flawB r), B r.2.2.2.2.1, I r.2.2.2.2.2], HO u w r.1 r.2.1) : Option (AV × Heap))) true true (aftE v n cs fs m) := by
  obtain ⟨x0, x3⟩ : 0 ≤ cs.getD n 0 ∧ cs.getD n 0 ≤ 3 := by rw [getD_of_lt hn]; exact hx _ (List.getElem_mem hn)
  have g1 := getD_z hn 0
  have g2 := getD_z (show n < fs.length by omega) false
  have hown := own_of cs n hn hl
  have cap : (fs.length * 1 ≤ 140737488355328 ∧ fs.length ≤ 9223372036854775807) = True := tr ⟨by omega, by omega⟩
  generalize hX : cs.getD n 0 = x at *
  generalize hF : fs.getD n false = f at *
  obtain ⟨r1, r2, r3, hg⟩ := ru_parts (show x.toNat < v.length by omega)
  have hm : aftE v n cs fs m = (cs.set n 0, fs.set n false, if r3 then f else m, false, false, if r3 then 1 else 0) := by simp only [aftE, hX, hF, hg]
  have w1 : ((n : Int) < (cs.length : Int)) = True := tr (by omega)
  have w2 : (n < cs.length) = True := tr hn
  have w3 : ((n : Int) < (fs.length : Int)) = True := tr (by omega)
  have w4 : (n < fs.length) = True := tr (by omega)
  have y1 : (x < (v.length : Int)) = True := tr (by omega)
  have y2 : (x.toNat < v.length) = True := tr (by omega)
  have k1 : ((2 : Int) = 0) = False := fa (by decide)
  have k2 : ((2 : Int) = 1) = False := fa (by decide)
  have kw : IntKind.i64.wrap 1 = 1 := by decide
  rw [hm, call_eq pr 78 _ _ Try.f78 fn_78 _ rfl _ ann_78 rfl]
  simp only [flawB]
  have hs := fun (m' : Bool) (bk : Int) => loop_some true true (cs.set n 0) false false m' bk (fs.set n false) [] m' (by simp; omega)
  simp only [List.nil_append, List.length_nil, Nat.zero_add] at hs
  have hs : ∀ (m' : Bool) (bk : Int), loopOf pr 78 1 ⟨[(6, .op 384 0), (10, .op 640 0), (13, B false), (14, B false), (15, I bk), (17, B m'), (18, I 0)], HS true true (cs.set n 0) (fs.set n false) m'⟩ = _ := hs
  simp only [HS] at hs
  cases r3 with
  | true => simp -implicitDefEqProofs only [w1, w2, w3, w4, zero_le_cast, Int.toNat_natCast, tr x0, y1, y2, g1, g2, hg, k1, k2, kw, Int.zero_add, hown, cap, List.nil_append, Nat.zero_add, hs, Bool.false_or, go_sem, Nat.reduceAdd, Nat.reduceSub, Nat.reduceMul, Nat.reduceMod, Nat.reduceLT, Nat.reduceLeDiff, Nat.reduceEqDiff, Nat.reduceBEq, Nat.reduceDiv, Int.reduceLT, Int.reduceLE, Int.reduceToNat, Int.reduceNeg, Int.reduceEq, ↓reduceIte, reduceCtorEq, ↓reduceDIte]
  | false => simp -implicitDefEqProofs only [w1, w2, w3, w4, zero_le_cast, Int.toNat_natCast, tr x0, y1, y2, g1, g2, hg, k1, k2, kw, Int.zero_add, hown, cap, List.nil_append, Nat.zero_add, hs, Bool.false_or, go_sem, Nat.reduceAdd, Nat.reduceSub, Nat.reduceMul, Nat.reduceMod, Nat.reduceLT, Nat.reduceLeDiff, Nat.reduceEqDiff, Nat.reduceBEq, Nat.reduceDiv, Int.reduceLT, Int.reduceLE, Int.reduceToNat, Int.reduceNeg, Int.reduceEq, ↓reduceIte, reduceCtorEq, ↓reduceDIte]
theorem sp_w6 (u1 u2 u3 : Int) (a b v d e : List Ru) (ha : a.length = 4) (hb : b.length = 4) (hv : v.length = 4) (hd : d.length = 4) (he : e.length = 4) (n : Nat) (cs : List Int) (fs : List Bool) (m : Bool) (hn : n < cs.length) (hcf : cs.length = fs.length) (hl : cs.length ≤ 3) (hx : ∀ x ∈ cs, 0 ≤ x ∧ x ≤ 3) : callOf pr 78 [pR a b v d e, pS6 cs fs m u1 u2 u3, .agg [I 1, I n]] [] = (fun (u w : Bool) (r : Aft) => (some (AV.tuple [.agg [.os (.t 1472), .os (.t 1536), B r.2.2.1], B (flawB r), B r.2.2.2.2.1, I r.2.2.2.2.2], HO u w r.1 r.2.1) : Option (AV × Heap))) true true (aftW b n (cs.getD n 0) (decide (cs.getD n 0 = 0) || decide (cs.getD n 0 = 1)) (if (decide (cs.getD n 0 = 0) || decide (cs.getD n 0 = 1)) = true then seeL e n 0 cs fs m 0 else (cs, fs, m, 0))) := by
  obtain ⟨x0, x3⟩ : 0 ≤ cs.getD n 0 ∧ cs.getD n 0 ≤ 3 := by rw [getD_of_lt hn]; exact hx _ (List.getElem_mem hn)
  have g1 := getD_z hn 0
  generalize hX : cs.getD n 0 = x at *
  have hown := own_of cs n hn hl
  have cap : (fs.length * 1 ≤ 140737488355328 ∧ fs.length ≤ 9223372036854775807) = True := tr ⟨by omega, by omega⟩
  obtain ⟨r1, r2, r3, hg⟩ := ru_parts (show x.toNat < b.length by omega)
  have hse := call_s10 e n he cs fs m hcf (by omega) hx
  obtain ⟨l1, l2⟩ := see_len e n cs fs 0 m 0 hcf
  have k0 := see_bk e n cs fs 0 m 0 hcf
  have w1 : ((n : Int) < (cs.length : Int)) = True := tr (by omega)
  have w2 : (n < cs.length) = True := tr hn
  have y1 : (x < (b.length : Int)) = True := tr (by omega)
  have y2 : (x.toNat < b.length) = True := tr (by omega)
  have k1 : ((1 : Int) = 0) = False := fa (by decide)
  have kw : IntKind.i64.wrap 1 = 1 := by decide
  generalize seeL e n 0 cs fs m 0 = q at *
  obtain ⟨qc, qf, qm, qk⟩ := q
  simp only at *
  have kq : IntKind.i64.wrap (qk + 1) = qk + 1 := by rw [wrap_i] <;> omega
  rw [HX, HX] at hse
  have hcl : ∀ (cs' : List Int) (fs' : List Bool) (bk : Int) (sn m' : Bool), fs'.length < 100 → loopOf pr 78 0 ⟨[(0, pR a b v d e), (6, .op 384 0), (10, .op 640 0), (11, I n), (12, I x), (13, B false), (14, B sn), (15, I bk), (16, I 0)], HS true true cs' fs' m'⟩ = some (.exit 1, ⟨[(0, pR a b v d e), (6, .op 384 0), (10, .op 640 0), (11, I n), (12, I x), (13, B false), (14, B sn), (15, I bk), (16, I (fs'.length : Int))], HS true true cs' (List.replicate fs'.length false) m'⟩) := by
    intro cs' fs' bk sn m' hf
    have := loop_clr [] a b v d e true true cs' n x bk sn m' fs' [] (by simpa using hf)
    simp only [List.nil_append, List.length_nil, Nat.zero_add] at this
    exact this
  have hso : ∀ (cs' : List Int) (fs' : List Bool) (bk : Int) (sn m' : Bool), fs'.length < 100 → loopOf pr 78 1 ⟨[(6, .op 384 0), (10, .op 640 0), (13, B false), (14, B sn), (15, I bk), (17, B m'), (18, I 0)], HS true true cs' fs' m'⟩ = some (.exit 3, ⟨[(6, .op 384 0), (10, .op 640 0), (13, B false), (14, B sn), (15, I bk), (17, B (m' || fs'.any id)), (18, I (fs'.length : Int))], HS true true cs' fs' m'⟩) := by
    intro cs' fs' bk sn m' hf
    have := loop_some true true cs' false sn m' bk fs' [] m' (by simpa using hf)
    simp only [List.nil_append, List.length_nil, Nat.zero_add] at this
    exact this
  simp only [HS] at hcl hso
  have v1 : ((n : Int) < (qc.length : Int)) = True := tr (by omega)
  have v2 : (n < qc.length) = True := tr (by omega)
  have v3 : ((n : Int) < (qf.length : Int)) = True := tr (by omega)
  have v4 : (n < qf.length) = True := tr (by omega)
  have v5 : ((n : Int) < (fs.length : Int)) = True := tr (by omega)
  have v6 : (n < fs.length) = True := tr (by omega)
  by_cases h0 : x = 0
  · rw [decide_eq_true h0, Bool.true_or, if_pos rfl]
    have hm : aftW b n x true (qc, qf, qm, qk) = (qc.set n r1, (List.replicate qf.length false).set n (!decide (r1 = 0)), r3, false, true, if r3 then qk + 1 else qk) := by simp only [aftW, hg]
    rw [hm, call_eq pr 78 _ _ Try.f78 fn_78 _ rfl _ ann_78 rfl]
    simp only [flawB]
    have hcl := hcl qc qf qk true qm (by omega)
    have hso := fun bk => hso (qc.set n r1) ((List.replicate qf.length false).set n (!decide (r1 = 0))) bk true r3 (by simp; omega)
    cases r3 with
    | true => simp -implicitDefEqProofs only [w1, w2, v1, v2, v3, v4, v5, v6, List.length_replicate, zero_le_cast, Int.toNat_natCast, tr x0, y1, y2, g1, hg, k1, kw, kq, hown, cap, List.nil_append, Nat.zero_add, Int.zero_add, Bool.false_or, tr h0, hse, hcl, hso, go_sem, Nat.reduceAdd, Nat.reduceSub, Nat.reduceMul, Nat.reduceMod, Nat.reduceLT, Nat.reduceLeDiff, Nat.reduceEqDiff, Nat.reduceBEq, Nat.reduceDiv, Int.reduceLT, Int.reduceLE, Int.reduceToNat, Int.reduceNeg, Int.reduceEq, ↓reduceIte, reduceCtorEq, ↓reduceDIte]
    | false => simp -implicitDefEqProofs only [w1, w2, v1, v2, v3, v4, v5, v6, List.length_replicate, zero_le_cast, Int.toNat_natCast, tr x0, y1, y2, g1, hg, k1, kw, kq, hown, cap, List.nil_append, Nat.zero_add, Int.zero_add, Bool.false_or, tr h0, hse, hcl, hso, go_sem, Nat.reduceAdd, Nat.reduceSub, Nat.reduceMul, Nat.reduceMod, Nat.reduceLT, Nat.reduceLeDiff, Nat.reduceEqDiff, Nat.reduceBEq, Nat.reduceDiv, Int.reduceLT, Int.reduceLE, Int.reduceToNat, Int.reduceNeg, Int.reduceEq, ↓reduceIte, reduceCtorEq, ↓reduceDIte]
  by_cases h1 : x = 1
  · rw [decide_eq_true h1, Bool.or_true, if_pos rfl]
    have hm : aftW b n x true (qc, qf, qm, qk) = (qc.set n r1, (List.replicate qf.length false).set n (!decide (r1 = 0)), r3, false, true, if r3 then qk + 1 else qk) := by simp only [aftW, hg]
    rw [hm, call_eq pr 78 _ _ Try.f78 fn_78 _ rfl _ ann_78 rfl]
    simp only [flawB]
    have hcl := hcl qc qf qk true qm (by omega)
    have hso := fun bk => hso (qc.set n r1) ((List.replicate qf.length false).set n (!decide (r1 = 0))) bk true r3 (by simp; omega)
    cases r3 with
    | true => simp -implicitDefEqProofs only [w1, w2, v1, v2, v3, v4, v5, v6, List.length_replicate, zero_le_cast, Int.toNat_natCast, tr x0, y1, y2, g1, hg, k1, kw, kq, hown, cap, List.nil_append, Nat.zero_add, Int.zero_add, Bool.false_or, fa h0, tr h1, hse, hcl, hso, go_sem, Nat.reduceAdd, Nat.reduceSub, Nat.reduceMul, Nat.reduceMod, Nat.reduceLT, Nat.reduceLeDiff, Nat.reduceEqDiff, Nat.reduceBEq, Nat.reduceDiv, Int.reduceLT, Int.reduceLE, Int.reduceToNat, Int.reduceNeg, Int.reduceEq, ↓reduceIte, reduceCtorEq, ↓reduceDIte]
    | false => simp -implicitDefEqProofs only [w1, w2, v1, v2, v3, v4, v5, v6, List.length_replicate, zero_le_cast, Int.toNat_natCast, tr x0, y1, y2, g1, hg, k1, kw, kq, hown, cap, List.nil_append, Nat.zero_add, Int.zero_add, Bool.false_or, fa h0, tr h1, hse, hcl, hso, go_sem, Nat.reduceAdd, Nat.reduceSub, Nat.reduceMul, Nat.reduceMod, Nat.reduceLT, Nat.reduceLeDiff, Nat.reduceEqDiff, Nat.reduceBEq, Nat.reduceDiv, Int.reduceLT, Int.reduceLE, Int.reduceToNat, Int.reduceNeg, Int.reduceEq, ↓reduceIte, reduceCtorEq, ↓reduceDIte]
  · rw [decide_eq_false h0, decide_eq_false h1, Bool.or_false, if_neg (by simp)]
    have hm : aftW b n x false (cs, fs, m, 0) = (cs.set n r1, (List.replicate fs.length false).set n (!decide (r1 = 0)), r3, false, false, if r3 then 1 else 0) := by simp only [aftW, hg, Int.zero_add]
    rw [hm, call_eq pr 78 _ _ Try.f78 fn_78 _ rfl _ ann_78 rfl]
    simp only [flawB]
    have hcl := hcl cs fs 0 false m (by omega)
    have hso := fun bk => hso (cs.set n r1) ((List.replicate fs.length false).set n (!decide (r1 = 0))) bk false r3 (by simp; omega)
    cases r3 with
    | true => simp -implicitDefEqProofs only [w1, w2, v1, v2, v3, v4, v5, v6, List.length_replicate, zero_le_cast, Int.toNat_natCast, tr x0, y1, y2, g1, hg, k1, kw, kq, hown, cap, List.nil_append, Nat.zero_add, Int.zero_add, Bool.false_or, fa h0, fa h1, hcl, hso, go_sem, Nat.reduceAdd, Nat.reduceSub, Nat.reduceMul, Nat.reduceMod, Nat.reduceLT, Nat.reduceLeDiff, Nat.reduceEqDiff, Nat.reduceBEq, Nat.reduceDiv, Int.reduceLT, Int.reduceLE, Int.reduceToNat, Int.reduceNeg, Int.reduceEq, ↓reduceIte, reduceCtorEq, ↓reduceDIte]
    | false => simp -implicitDefEqProofs only [w1, w2, v1, v2, v3, v4, v5, v6, List.length_replicate, zero_le_cast, Int.toNat_natCast, tr x0, y1, y2, g1, hg, k1, kw, kq, hown, cap, List.nil_append, Nat.zero_add, Int.zero_add, Bool.false_or, fa h0, fa h1, hcl, hso, go_sem, Nat.reduceAdd, Nat.reduceSub, Nat.reduceMul, Nat.reduceMod, Nat.reduceLT, Nat.reduceLeDiff, Nat.reduceEqDiff, Nat.reduceBEq, Nat.reduceDiv, Int.reduceLT, Int.reduceLE, Int.reduceToNat, Int.reduceNeg, Int.reduceEq, ↓reduceIte, reduceCtorEq, ↓reduceDIte]
theorem sp_all6 (u1 u2 u3 : Int) (a b v d e : List Ru) (ha : a.length = 4) (hb : b.length = 4) (hv : v.length = 4) (hd : d.length = 4) (he : e.length = 4) (n : Nat) (cs : List Int) (fs : List Bool) (m : Bool) (hn : n < cs.length) (hcf : cs.length = fs.length) (hl : cs.length ≤ 3) (hx : ∀ x ∈ cs, 0 ≤ x ∧ x ≤ 3) (k : Int) (hk : 0 ≤ k ∧ k ≤ 2) : callOf pr 78 [pR a b v d e, pS6 cs fs m u1 u2 u3, .agg [I k, I n]] [] = some (AV.tuple [.agg [.os (.t 1472), .os (.t 1536), B (stepS a b v d e k n cs fs m).2.2.1], B (flawB (stepS a b v d e k n cs fs m)), B (stepS a b v d e k n cs fs m).2.2.2.2.1, I (stepS a b v d e k n cs fs m).2.2.2.2.2], HO true true (stepS a b v d e k n cs fs m).1 (stepS a b v d e k n cs fs m).2.1) := by
  unfold stepS
  by_cases k0 : k = 0
  · subst k0
    simp only [if_true]
    by_cases h0 : cs.getD n 0 = 0
    · simp only [if_pos h0]
      exact sp_r06 u1 u2 u3 a b v d e ha hb hv hd he n cs fs m hn hcf hl hx h0
    · simp only [if_neg h0]
      exact sp_r16 u1 u2 u3 a b v d e ha hb hv hd he n cs fs m hn hcf hl hx h0
  · simp only [if_neg k0]
    by_cases k1 : k = 1
    · subst k1
      simp only [if_true]
      exact sp_w6 u1 u2 u3 a b v d e ha hb hv hd he n cs fs m hn hcf hl hx
    · simp only [if_neg k1]
      have k2 : k = 2 := by omega
      subst k2
      exact sp_e6 u1 u2 u3 a b v d e ha hb hv hd he n cs fs m hn hcf hl hx
theorem loop_c06 (u1 u2 u3 : Int) (cs : List Int) (fs : List Bool) (m : Bool) (hl : cs.length ≤ 3) : ∀ (rest pre : List Int) (a : Nat), cs = pre ++ rest → (∀ x ∈ rest, 0 ≤ x ∧ x ≤ 3) → (a + 1) * 4 ^ rest.length ≤ 64 →
    loopOf pr 109 0 ⟨[(0, pS6 cs fs m u1 u2 u3), (3, I a), (4, I pre.length)], []⟩ = some (.exit 0, ⟨[(0, pS6 cs fs m u1 u2 u3), (3, I (goC a rest)), (4, I cs.length)], []⟩)
  | [], pre, a, h, _, _ => by
    have hlen : cs.length = pre.length := by rw [h]; simp
    rw [loop_eq pr 109 0 _ Try.f109 fn_109 _ rfl _ ann_109 _ rfl]
    simp -implicitDefEqProofs only [hlen, Int.lt_irrefl, go_sem, Nat.reduceAdd, Nat.reduceSub, Nat.reduceMul, Nat.reduceMod, Nat.reduceLT, Nat.reduceLeDiff, Nat.reduceEqDiff, Nat.reduceBEq, Nat.reduceDiv, Int.reduceLT, Int.reduceLE, Int.reduceToNat, Int.reduceNeg, Int.reduceEq, ↓reduceIte, reduceCtorEq, ↓reduceDIte]
    rfl
  | c :: rest, pre, a, h, hx, ha => by
    have hlen : cs.length = pre.length + (rest.length + 1) := by rw [h]; simp
    have hk : pre.length < cs.length := by omega
    have hg : ∀ z, cs.getD pre.length z = c := by intro z; rw [h]; simp
    have hc := hx c (by simp)
    have hp4 : 1 ≤ 4 ^ rest.length := Nat.pow_pos (by omega)
    have ha2 : (4 * a + c.toNat + 1) * 4 ^ rest.length ≤ 64 := by
      have h1 : (4 * a + c.toNat + 1) * 4 ^ rest.length ≤ (4 * (a + 1)) * 4 ^ rest.length := Nat.mul_le_mul_right _ (by omega)
      have h2 : (a + 1) * 4 ^ (c :: rest).length = 4 * (a + 1) * 4 ^ rest.length := by
        simp only [List.length_cons, Nat.pow_succ]
        rw [Nat.mul_comm (4 ^ rest.length) 4, ← Nat.mul_assoc, Nat.mul_comm (a + 1) 4]
      omega
    have ha3 : 4 * a + c.toNat + 1 ≤ 64 := Nat.le_trans (by have := Nat.mul_le_mul_left (4 * a + c.toNat + 1) hp4; omega) ha2
    have hw1 : IntKind.i64.wrap (4 * (a : Int)) = 4 * (a : Int) := by rw [wrap_i] <;> omega
    have hw2 : IntKind.i64.wrap (4 * (a : Int) + c) = ((4 * a + c.toNat : Nat) : Int) := by rw [wrap_i] <;> omega
    have hws := wrap_succ hk (show cs.length < 1000000000000000000 by omega)
    have ih := loop_c06 u1 u2 u3 cs fs m hl rest (pre ++ [c]) (4 * a + c.toNat) (by rw [h]; simp) (fun x hy => hx x (by simp [hy])) ha2
    have e1 : (pre ++ [c]).length = pre.length + 1 := by simp
    rw [e1] at ih
    rw [loop_eq pr 109 0 _ Try.f109 fn_109 _ rfl _ ann_109 _ rfl]
    simp -implicitDefEqProofs only [lt_cast hk, zero_le_cast, Int.toNat_natCast, hg, hw1, hw2, hws, go_sem, Nat.reduceAdd, Nat.reduceSub, Nat.reduceMul, Nat.reduceMod, Nat.reduceLT, Nat.reduceLeDiff, Nat.reduceEqDiff, Nat.reduceBEq, Nat.reduceDiv, Int.reduceLT, Int.reduceLE, Int.reduceToNat, Int.reduceNeg, Int.reduceEq, ↓reduceIte, reduceCtorEq, ↓reduceDIte]
    exact ih
theorem loop_c16 (u1 u2 u3 : Int) (cs : List Int) (fs : List Bool) (m : Bool) (hl : fs.length ≤ 3) : ∀ (rest pre : List Bool) (a : Nat), fs = pre ++ rest → (a + 1) * 2 ^ rest.length ≤ 512 →
    loopOf pr 109 1 ⟨[(0, pS6 cs fs m u1 u2 u3), (3, I a), (5, I pre.length)], []⟩ = some (.exit 2, ⟨[(0, pS6 cs fs m u1 u2 u3), (3, I (goF a rest)), (5, I fs.length)], []⟩)
  | [], pre, a, h, _ => by
    have hlen : fs.length = pre.length := by rw [h]; simp
    rw [loop_eq pr 109 1 _ Try.f109 fn_109 _ rfl _ ann_109 _ rfl]
    simp -implicitDefEqProofs only [hlen, Int.lt_irrefl, go_sem, Nat.reduceAdd, Nat.reduceSub, Nat.reduceMul, Nat.reduceMod, Nat.reduceLT, Nat.reduceLeDiff, Nat.reduceEqDiff, Nat.reduceBEq, Nat.reduceDiv, Int.reduceLT, Int.reduceLE, Int.reduceToNat, Int.reduceNeg, Int.reduceEq, ↓reduceIte, reduceCtorEq, ↓reduceDIte]
    rfl
  | f :: rest, pre, a, h, ha => by
    have hlen : fs.length = pre.length + (rest.length + 1) := by rw [h]; simp
    have hk : pre.length < fs.length := by omega
    have hg : ∀ z, fs.getD pre.length z = f := by intro z; rw [h]; simp
    have hf : f.toNat ≤ 1 := by cases f <;> simp
    have hp4 : 1 ≤ 2 ^ rest.length := Nat.one_le_two_pow
    have ha2 : (2 * a + f.toNat + 1) * 2 ^ rest.length ≤ 512 := by
      have h1 : (2 * a + f.toNat + 1) * 2 ^ rest.length ≤ (2 * (a + 1)) * 2 ^ rest.length := Nat.mul_le_mul_right _ (by omega)
      have h2 : (a + 1) * 2 ^ (f :: rest).length = 2 * (a + 1) * 2 ^ rest.length := by
        simp only [List.length_cons, Nat.pow_succ]
        rw [Nat.mul_comm (2 ^ rest.length) 2, ← Nat.mul_assoc, Nat.mul_comm (a + 1) 2]
      omega
    have ha3 : 2 * a + f.toNat + 1 ≤ 512 := Nat.le_trans (by have := Nat.mul_le_mul_left (2 * a + f.toNat + 1) hp4; omega) ha2
    have hw1 : IntKind.i64.wrap ((a : Int) * 2) = ((2 * a : Nat) : Int) := by rw [wrap_i] <;> omega
    have hw2 : IntKind.i64.wrap (((2 * a : Nat) : Int) + 1) = ((2 * a + 1 : Nat) : Int) := by rw [wrap_i] <;> omega
    have hws := wrap_succ hk (show fs.length < 1000000000000000000 by omega)
    have ih := loop_c16 u1 u2 u3 cs fs m hl rest (pre ++ [f]) (2 * a + f.toNat) (by rw [h]; simp) ha2
    have e1 : (pre ++ [f]).length = pre.length + 1 := by simp
    rw [e1] at ih
    rw [loop_eq pr 109 1 _ Try.f109 fn_109 _ rfl _ ann_109 _ rfl]
    cases f with
    | false =>
      simp -implicitDefEqProofs only [lt_cast hk, zero_le_cast, Int.toNat_natCast, hg, hw1, hws, go_sem, Nat.reduceAdd, Nat.reduceSub, Nat.reduceMul, Nat.reduceMod, Nat.reduceLT, Nat.reduceLeDiff, Nat.reduceEqDiff, Nat.reduceBEq, Nat.reduceDiv, Int.reduceLT, Int.reduceLE, Int.reduceToNat, Int.reduceNeg, Int.reduceEq, ↓reduceIte, reduceCtorEq, ↓reduceDIte]
      exact ih
    | true =>
      simp -implicitDefEqProofs only [lt_cast hk, zero_le_cast, Int.toNat_natCast, hg, hw1, hw2, hws, go_sem, Nat.reduceAdd, Nat.reduceSub, Nat.reduceMul, Nat.reduceMod, Nat.reduceLT, Nat.reduceLeDiff, Nat.reduceEqDiff, Nat.reduceBEq, Nat.reduceDiv, Int.reduceLT, Int.reduceLE, Int.reduceToNat, Int.reduceNeg, Int.reduceEq, ↓reduceIte, reduceCtorEq, ↓reduceDIte]
      exact ih
theorem call_code6 (u1 u2 u3 : Int) {n : Nat} (s : Sd) (hn : n ≤ 3) (h : okS n s) : callOf pr 109 [pS6 s.1 s.2.1 s.2.2.1 u1 u2 u3] [] = some (I (code s), []) := by
  obtain ⟨cs, fs, m, ⟨⟩⟩ := s
  obtain ⟨h1, h2, h3⟩ := h
  simp only at h1 h2 h3
  have c1 := goC_lt cs 0 h3
  have c2 := goF_lt fs (goC 0 cs)
  have c5 : 4 ^ n ≤ 64 ∧ 4 ^ n * 2 ^ n ≤ 512 := by
    match n, hn with
    | 0, _ => decide
    | 1, _ => decide
    | 2, _ => decide
    | 3, _ => decide
  rw [h1] at c1
  rw [h2] at c2
  have c4 : (goC 0 cs + 1) * 2 ^ n ≤ 4 ^ n * 2 ^ n := Nat.mul_le_mul_right _ (by omega)
  have l0 := loop_c06 u1 u2 u3 cs fs m (by omega) cs [] 0 rfl h3 (by rw [h1]; omega)
  have l1 := loop_c16 u1 u2 u3 cs fs m (by omega) fs [] (goC 0 cs) rfl (by rw [h2]; omega)
  have l0 : loopOf pr 109 0 ⟨[(0, pS6 cs fs m u1 u2 u3), (3, I 0), (4, I 0)], []⟩ = _ := l0
  have l1 : loopOf pr 109 1 ⟨[(0, pS6 cs fs m u1 u2 u3), (3, I (goC 0 cs)), (5, I 0)], []⟩ = _ := l1
  have hw1 : IntKind.i64.wrap ((goF (goC 0 cs) fs : Int) * 2) = ((2 * goF (goC 0 cs) fs : Nat) : Int) := by rw [wrap_i] <;> omega
  have hw2 : IntKind.i64.wrap (((2 * goF (goC 0 cs) fs : Nat) : Int) + 1) = ((2 * goF (goC 0 cs) fs + 1 : Nat) : Int) := by rw [wrap_i] <;> omega
  rw [call_eq pr 109 _ _ Try.f109 fn_109 _ rfl _ ann_109 rfl]
  cases m with
  | false =>
    simp -implicitDefEqProofs only [l0, l1, hw1, go_sem, Nat.reduceAdd, Nat.reduceSub, Nat.reduceMul, Nat.reduceMod, Nat.reduceLT, Nat.reduceLeDiff, Nat.reduceEqDiff, Nat.reduceBEq, Nat.reduceDiv, Int.reduceLT, Int.reduceLE, Int.reduceToNat, Int.reduceNeg, Int.reduceEq, ↓reduceIte, reduceCtorEq, ↓reduceDIte]
    rfl
  | true =>
    simp -implicitDefEqProofs only [l0, l1, hw1, hw2, go_sem, Nat.reduceAdd, Nat.reduceSub, Nat.reduceMul, Nat.reduceMod, Nat.reduceLT, Nat.reduceLeDiff, Nat.reduceEqDiff, Nat.reduceBEq, Nat.reduceDiv, Int.reduceLT, Int.reduceLE, Int.reduceToNat, Int.reduceNeg, Int.reduceEq, ↓reduceIte, reduceCtorEq, ↓reduceDIte]
    rfl
theorem loop_ot6 (u1 u2 u3 : Int) (c : Int) (fs : List Bool) (m : Bool) : ∀ (sc pc : List Int), pc.length + sc.length < 100 →
    loopOf pr 73 0 ⟨[(0, pS6 (pc ++ sc) fs m u1 u2 u3), (1, I c), (5, I pc.length)], []⟩ = if othB c pc.length sc = true then some (.ret, ⟨[(4, B true)], []⟩) else some (.exit 0, ⟨[(0, pS6 (pc ++ sc) fs m u1 u2 u3), (1, I c), (5, I ((pc.length + sc.length : Nat) : Int))], []⟩)
  | [], pc, hb => by
    rw [loop_eq pr 73 0 _ Try.f73 fn_73 _ rfl _ ann_73 _ rfl]
    simp -implicitDefEqProofs only [Int.lt_irrefl, List.append_nil, List.length_nil, Nat.add_zero, othB, go_sem, Nat.reduceAdd, Nat.reduceSub, Nat.reduceMul, Nat.reduceMod, Nat.reduceLT, Nat.reduceLeDiff, Nat.reduceEqDiff, Nat.reduceBEq, Nat.reduceDiv, Int.reduceLT, Int.reduceLE, Int.reduceToNat, Int.reduceNeg, Int.reduceEq, ↓reduceIte, reduceCtorEq, ↓reduceDIte]
  | x :: sc, pc, hb => by
    simp only [List.length_cons] at hb
    have hw : IntKind.i64.wrap ((pc.length : Int) + 1) = ((pc.length + 1 : Nat) : Int) := by rw [wrap_i] <;> omega
    have e1 : (pc ++ [x]).length = pc.length + 1 := by simp
    have e2 : pc.length + 1 + sc.length = pc.length + (sc.length + 1) := by omega
    have ih := loop_ot6 u1 u2 u3 c fs m sc (pc ++ [x]) (by simp; omega)
    rw [e1, e2, app_one] at ih
    have ec : othB c pc.length (x :: sc) = ((!decide ((pc.length : Int) = c) && !decide (x = 0)) || othB c ((pc.length + 1 : Nat) : Int) sc) := by rw [othB, Int.natCast_add]; rfl
    rw [ec, loop_eq pr 73 0 _ Try.f73 fn_73 _ rfl _ ann_73 _ rfl]
    by_cases hc : (pc.length : Int) = c
    · rw [decide_eq_true hc]
      simp -implicitDefEqProofs only [getD_app, lt_app, ltn_app, zero_le_cast, Int.toNat_natCast, hw, tr hc, go_sem, Nat.reduceAdd, Nat.reduceSub, Nat.reduceMul, Nat.reduceMod, Nat.reduceLT, Nat.reduceLeDiff, Nat.reduceEqDiff, Nat.reduceBEq, Nat.reduceDiv, Int.reduceLT, Int.reduceLE, Int.reduceToNat, Int.reduceNeg, Int.reduceEq, ↓reduceIte, reduceCtorEq, ↓reduceDIte]
      exact ih
    · rw [decide_eq_false hc]
      by_cases h0 : x = 0
      · rw [decide_eq_true h0]
        simp -implicitDefEqProofs only [getD_app, lt_app, ltn_app, zero_le_cast, Int.toNat_natCast, hw, fa hc, tr h0, go_sem, Nat.reduceAdd, Nat.reduceSub, Nat.reduceMul, Nat.reduceMod, Nat.reduceLT, Nat.reduceLeDiff, Nat.reduceEqDiff, Nat.reduceBEq, Nat.reduceDiv, Int.reduceLT, Int.reduceLE, Int.reduceToNat, Int.reduceNeg, Int.reduceEq, ↓reduceIte, reduceCtorEq, ↓reduceDIte]
        exact ih
      · rw [decide_eq_false h0]
        simp -implicitDefEqProofs only [getD_app, lt_app, ltn_app, zero_le_cast, Int.toNat_natCast, hw, fa hc, fa h0, go_sem, Nat.reduceAdd, Nat.reduceSub, Nat.reduceMul, Nat.reduceMod, Nat.reduceLT, Nat.reduceLeDiff, Nat.reduceEqDiff, Nat.reduceBEq, Nat.reduceDiv, Int.reduceLT, Int.reduceLE, Int.reduceToNat, Int.reduceNeg, Int.reduceEq, ↓reduceIte, reduceCtorEq, ↓reduceDIte]
theorem call_ot6 (u1 u2 u3 : Int) (c : Int) (cs : List Int) (fs : List Bool) (m : Bool) (hb : cs.length < 100) : callOf pr 73 [pS6 cs fs m u1 u2 u3, I c] [] = some (B (othB c 0 cs), []) := by
  have h1 := loop_ot6 u1 u2 u3 c fs m cs [] (by simpa using hb)
  simp only [List.nil_append, List.length_nil, Nat.zero_add] at h1
  have h1 : loopOf pr 73 0 ⟨[(0, pS6 cs fs m u1 u2 u3), (1, I c), (5, I 0)], []⟩ = if othB c 0 cs = true then some (.ret, ⟨[(4, B true)], []⟩) else some (.exit 0, ⟨[(0, pS6 cs fs m u1 u2 u3), (1, I c), (5, I cs.length)], []⟩) := h1
  rw [call_eq pr 73 _ _ Try.f73 fn_73 _ rfl _ ann_73 rfl]
  cases ho : othB c 0 cs with
  | true =>
    rw [ho, if_pos rfl] at h1
    simp -implicitDefEqProofs only [h1, go_sem, Nat.reduceAdd, Nat.reduceSub, Nat.reduceMul, Nat.reduceMod, Nat.reduceLT, Nat.reduceLeDiff, Nat.reduceEqDiff, Nat.reduceBEq, Nat.reduceDiv, Int.reduceLT, Int.reduceLE, Int.reduceToNat, Int.reduceNeg, Int.reduceEq, ↓reduceIte, reduceCtorEq, ↓reduceDIte]
  | false =>
    rw [ho, if_neg (by simp)] at h1
    simp -implicitDefEqProofs only [h1, go_sem, Nat.reduceAdd, Nat.reduceSub, Nat.reduceMul, Nat.reduceMod, Nat.reduceLT, Nat.reduceLeDiff, Nat.reduceEqDiff, Nat.reduceBEq, Nat.reduceDiv, Int.reduceLT, Int.reduceLE, Int.reduceToNat, Int.reduceNeg, Int.reduceEq, ↓reduceIte, reduceCtorEq, ↓reduceDIte]
def lastV : Option Nd → List AV
  | none => [.nilS, .nilS, B false, I 0, I 0, I 0]
  | some nd => [cI nd.1.1, LB nd.1.2.1, B nd.1.2.2.1, I nd.2.1, I nd.2.2.1.1, I nd.2.2.1.2.1]
abbrev HN (pa pb pv pd pe : List Ru) (d : Bool) (ns : List Nd) (bs : List Bool) (la : Option Nd) : Heap := [(1000000, .box [LR pa, LR pb, LR pv, LR pd, LR pe]), (1408, .arr true d tN ns), (1472, .arr true false .bool bs), (576, .box (lastV la))]
abbrev T2 (pa pb pv pd pe : List Ru) (n k c : Int) (i : Nat) (la : Option Nd) : Slots :=
  [(0, .op 1000000 0), (1, I n), (6, .os (.t 1408)), (7, .os (.t 1472)), (8, B la.isSome), (9, .op 576 0), (10, I i), (11, I k), (12, I c)]
theorem is_flaw (d : Bool) (pa pb pv pd pe : List Ru) (n k : Int) (c : Nat) (hc : (c : Int) < n) (hn : n ≤ 3) (i : Nat) (ns : List Nd) (hi : i < ns.length) (hns : ns.length < 5000) (cs : List Int) (fs : List Bool) (m : Bool) (fr ok oc : Int) (hg : ∀ z, ns.getD i z = ((cs, fs, m, ()), fr, (ok, oc, ()), ())) (bs : List Bool) (hbs : bs.length = 1024) (la : Option Nd) (cs' : List Int) (fs' : List Bool) (m' se : Bool) (bk : Int)
    (hst : callOf pr 78 [pR pa pb pv pd pe, pS6 cs fs m fr ok oc, .agg [I k, I c]] [] = some (AV.tuple [.agg [.os (.t 1472), .os (.t 1536), B m'], B true, B se, I bk], HO true true cs' fs')) :
    loopOf pr 70 2 ⟨T2 pa pb pv pd pe n k c i la, HN pa pb pv pd pe d ns bs la⟩ = loopOf pr 70 2 ⟨T2 pa pb pv pd pe n k ((c + 1 : Nat) : Int) i (some (la.getD ((cs', fs', m', ()), (i : Int), (k, (c : Int), ()), ()))), HN pa pb pv pd pe d ns bs (some (la.getD ((cs', fs', m', ()), (i : Int), (k, (c : Int), ()), ())))⟩ := by
  have hw : IntKind.i64.wrap ((c : Int) + 1) = ((c + 1 : Nat) : Int) := by rw [wrap_i] <;> omega
  rw [loop_eq pr 70 2 _ Try.f70 fn_70 _ rfl _ ann_70 _ rfl]
  cases la with
  | none => simp -implicitDefEqProofs only [lastV, Option.isSome_none, Option.isSome_some, Option.getD_none, tr hc, hst, lt_cast hi, tr hi, zero_le_cast, Int.toNat_natCast, hg, hw, go_sem, Nat.reduceAdd, Nat.reduceSub, Nat.reduceMul, Nat.reduceMod, Nat.reduceLT, Nat.reduceLeDiff, Nat.reduceEqDiff, Nat.reduceBEq, Nat.reduceDiv, Int.reduceLT, Int.reduceLE, Int.reduceToNat, Int.reduceNeg, Int.reduceEq, ↓reduceIte, reduceCtorEq, ↓reduceDIte] <;> rfl
  | some nd => simp -implicitDefEqProofs only [lastV, Option.isSome_none, Option.isSome_some, Option.getD_some, tr hc, hst, lt_cast hi, tr hi, zero_le_cast, Int.toNat_natCast, hg, hw, go_sem, Nat.reduceAdd, Nat.reduceSub, Nat.reduceMul, Nat.reduceMod, Nat.reduceLT, Nat.reduceLeDiff, Nat.reduceEqDiff, Nat.reduceBEq, Nat.reduceDiv, Int.reduceLT, Int.reduceLE, Int.reduceToNat, Int.reduceNeg, Int.reduceEq, ↓reduceIte, reduceCtorEq, ↓reduceDIte] <;> rfl
theorem is_seen (d : Bool) (pa pb pv pd pe : List Ru) (n k : Int) (c : Nat) (hc : (c : Int) < n) (hn : n ≤ 3) (i : Nat) (ns : List Nd) (hi : i < ns.length) (hns : ns.length < 5000) (cs : List Int) (fs : List Bool) (m : Bool) (fr ok oc : Int) (hg : ∀ z, ns.getD i z = ((cs, fs, m, ()), fr, (ok, oc, ()), ())) (bs : List Bool) (hbs : bs.length = 1024) (la : Option Nd) (cs' : List Int) (fs' : List Bool) (m' se : Bool) (bk : Int)
    (hst : callOf pr 78 [pR pa pb pv pd pe, pS6 cs fs m fr ok oc, .agg [I k, I c]] [] = some (AV.tuple [.agg [.os (.t 1472), .os (.t 1536), B m'], B false, B se, I bk], HO true true cs' fs'))
    (q : Nat) (hq : q < bs.length) (hcd : callOf pr 109 [pS cs' fs' m'] [] = some (I q, [])) (hb : ∀ z, bs.getD q z = true) :
    loopOf pr 70 2 ⟨T2 pa pb pv pd pe n k c i la, HN pa pb pv pd pe d ns bs la⟩ = loopOf pr 70 2 ⟨T2 pa pb pv pd pe n k ((c + 1 : Nat) : Int) i la, HN pa pb pv pd pe d ns bs la⟩ := by
  have hw : IntKind.i64.wrap ((c : Int) + 1) = ((c + 1 : Nat) : Int) := by rw [wrap_i] <;> omega
  rw [loop_eq pr 70 2 _ Try.f70 fn_70 _ rfl _ ann_70 _ rfl]
  cases la with
  | none => simp -implicitDefEqProofs only [lastV, Option.isSome_none, Option.isSome_some, tr hc, hst, lt_cast hi, tr hi, zero_le_cast, Int.toNat_natCast, hg, hw, hcd, hb, lt_cast hq, tr hq, go_sem, Nat.reduceAdd, Nat.reduceSub, Nat.reduceMul, Nat.reduceMod, Nat.reduceLT, Nat.reduceLeDiff, Nat.reduceEqDiff, Nat.reduceBEq, Nat.reduceDiv, Int.reduceLT, Int.reduceLE, Int.reduceToNat, Int.reduceNeg, Int.reduceEq, ↓reduceIte, reduceCtorEq, ↓reduceDIte] <;> rfl
  | some nd => simp -implicitDefEqProofs only [lastV, Option.isSome_none, Option.isSome_some, tr hc, hst, lt_cast hi, tr hi, zero_le_cast, Int.toNat_natCast, hg, hw, hcd, hb, lt_cast hq, tr hq, go_sem, Nat.reduceAdd, Nat.reduceSub, Nat.reduceMul, Nat.reduceMod, Nat.reduceLT, Nat.reduceLeDiff, Nat.reduceEqDiff, Nat.reduceBEq, Nat.reduceDiv, Int.reduceLT, Int.reduceLE, Int.reduceToNat, Int.reduceNeg, Int.reduceEq, ↓reduceIte, reduceCtorEq, ↓reduceDIte] <;> rfl
theorem is_new (d : Bool) (pa pb pv pd pe : List Ru) (n k : Int) (c : Nat) (hc : (c : Int) < n) (hn : n ≤ 3) (i : Nat) (ns : List Nd) (hi : i < ns.length) (hns : ns.length < 5000) (cs : List Int) (fs : List Bool) (m : Bool) (fr ok oc : Int) (hg : ∀ z, ns.getD i z = ((cs, fs, m, ()), fr, (ok, oc, ()), ())) (bs : List Bool) (hbs : bs.length = 1024) (la : Option Nd) (cs' : List Int) (fs' : List Bool) (m' se : Bool) (bk : Int)
    (hst : callOf pr 78 [pR pa pb pv pd pe, pS6 cs fs m fr ok oc, .agg [I k, I c]] [] = some (AV.tuple [.agg [.os (.t 1472), .os (.t 1536), B m'], B false, B se, I bk], HO true true cs' fs'))
    (q : Nat) (hq : q < bs.length) (hcd : callOf pr 109 [pS cs' fs' m'] [] = some (I q, [])) (hb : ∀ z, bs.getD q z = false) :
    loopOf pr 70 2 ⟨T2 pa pb pv pd pe n k c i la, HN pa pb pv pd pe d ns bs la⟩ = loopOf pr 70 2 ⟨T2 pa pb pv pd pe n k ((c + 1 : Nat) : Int) i la, HN pa pb pv pd pe false (ns ++ [((cs', fs', m', ()), (i : Int), (k, (c : Int), ()), ())]) (bs.set q true) la⟩ := by
  have hw : IntKind.i64.wrap ((c : Int) + 1) = ((c + 1 : Nat) : Int) := by rw [wrap_i] <;> omega
  have hr : ((ns.length + 1) * 80 ≤ 140737488355328 ∧ ns.length ≤ 9223372036854775806) = True := tr ⟨by omega, by omega⟩
  rw [loop_eq pr 70 2 _ Try.f70 fn_70 _ rfl _ ann_70 _ rfl]
  cases la with
  | none =>
    cases d with
    | false => simp -implicitDefEqProofs only [lastV, Option.isSome_none, Option.isSome_some, tr hc, hst, lt_cast hi, tr hi, zero_le_cast, Int.toNat_natCast, hg, hw, hcd, hb, lt_cast hq, tr hq, hr, go_sem, Nat.reduceAdd, Nat.reduceSub, Nat.reduceMul, Nat.reduceMod, Nat.reduceLT, Nat.reduceLeDiff, Nat.reduceEqDiff, Nat.reduceBEq, Nat.reduceDiv, Int.reduceLT, Int.reduceLE, Int.reduceToNat, Int.reduceNeg, Int.reduceEq, ↓reduceIte, reduceCtorEq, ↓reduceDIte] <;> rfl
    | true => simp -implicitDefEqProofs only [lastV, Option.isSome_none, Option.isSome_some, tr hc, hst, lt_cast hi, tr hi, zero_le_cast, Int.toNat_natCast, hg, hw, hcd, hb, lt_cast hq, tr hq, hr, go_sem, Nat.reduceAdd, Nat.reduceSub, Nat.reduceMul, Nat.reduceMod, Nat.reduceLT, Nat.reduceLeDiff, Nat.reduceEqDiff, Nat.reduceBEq, Nat.reduceDiv, Int.reduceLT, Int.reduceLE, Int.reduceToNat, Int.reduceNeg, Int.reduceEq, ↓reduceIte, reduceCtorEq, ↓reduceDIte] <;> rfl
  | some nd =>
    cases d with
    | false => simp -implicitDefEqProofs only [lastV, Option.isSome_none, Option.isSome_some, tr hc, hst, lt_cast hi, tr hi, zero_le_cast, Int.toNat_natCast, hg, hw, hcd, hb, lt_cast hq, tr hq, hr, go_sem, Nat.reduceAdd, Nat.reduceSub, Nat.reduceMul, Nat.reduceMod, Nat.reduceLT, Nat.reduceLeDiff, Nat.reduceEqDiff, Nat.reduceBEq, Nat.reduceDiv, Int.reduceLT, Int.reduceLE, Int.reduceToNat, Int.reduceNeg, Int.reduceEq, ↓reduceIte, reduceCtorEq, ↓reduceDIte] <;> rfl
    | true => simp -implicitDefEqProofs only [lastV, Option.isSome_none, Option.isSome_some, tr hc, hst, lt_cast hi, tr hi, zero_le_cast, Int.toNat_natCast, hg, hw, hcd, hb, lt_cast hq, tr hq, hr, go_sem, Nat.reduceAdd, Nat.reduceSub, Nat.reduceMul, Nat.reduceMod, Nat.reduceLT, Nat.reduceLeDiff, Nat.reduceEqDiff, Nat.reduceBEq, Nat.reduceDiv, Int.reduceLT, Int.reduceLE, Int.reduceToNat, Int.reduceNeg, Int.reduceEq, ↓reduceIte, reduceCtorEq, ↓reduceDIte] <;> rfl
abbrev T1 (pa pb pv pd pe : List Ru) (n k : Int) (i : Nat) (la : Option Nd) : Slots :=
  [(0, .op 1000000 0), (1, I n), (6, .os (.t 1408)), (7, .os (.t 1472)), (8, B la.isSome), (9, .op 576 0), (10, I i), (11, I k)]
abbrev T0 (pa pb pv pd pe : List Ru) (n : Int) (i : Nat) (la : Option Nd) : Slots :=
  [(0, .op 1000000 0), (1, I n), (6, .os (.t 1408)), (7, .os (.t 1472)), (8, B la.isSome), (9, .op 576 0), (10, I i)]
theorem ix_c_end (pa pb pv pd pe : List Ru) (n k : Int) (i : Nat) (d : Bool) (ns : List Nd) (bs : List Bool) (la : Option Nd) : loopOf pr 70 2 ⟨T2 pa pb pv pd pe n k n i la, HN pa pb pv pd pe d ns bs la⟩ = some (.exit 4, ⟨T2 pa pb pv pd pe n k n i la, HN pa pb pv pd pe d ns bs la⟩) := by
  rw [loop_eq pr 70 2 _ Try.f70 fn_70 _ rfl _ ann_70 _ rfl]
  cases la with
  | none => simp -implicitDefEqProofs only [lastV, Option.isSome_none, Int.lt_irrefl, go_sem, Nat.reduceAdd, Nat.reduceSub, Nat.reduceMul, Nat.reduceMod, Nat.reduceLT, Nat.reduceLeDiff, Nat.reduceEqDiff, Nat.reduceBEq, Nat.reduceDiv, Int.reduceLT, Int.reduceLE, Int.reduceToNat, Int.reduceNeg, Int.reduceEq, ↓reduceIte, reduceCtorEq, ↓reduceDIte] <;> rfl
  | some nd => simp -implicitDefEqProofs only [lastV, Option.isSome_some, Int.lt_irrefl, go_sem, Nat.reduceAdd, Nat.reduceSub, Nat.reduceMul, Nat.reduceMod, Nat.reduceLT, Nat.reduceLeDiff, Nat.reduceEqDiff, Nat.reduceBEq, Nat.reduceDiv, Int.reduceLT, Int.reduceLE, Int.reduceToNat, Int.reduceNeg, Int.reduceEq, ↓reduceIte, reduceCtorEq, ↓reduceDIte] <;> rfl
theorem ix_k_end (pa pb pv pd pe : List Ru) (n : Int) (i : Nat) (d : Bool) (ns : List Nd) (bs : List Bool) (la : Option Nd) : loopOf pr 70 1 ⟨T1 pa pb pv pd pe n 3 i la, HN pa pb pv pd pe d ns bs la⟩ = some (.exit 2, ⟨T1 pa pb pv pd pe n 3 i la, HN pa pb pv pd pe d ns bs la⟩) := by
  rw [loop_eq pr 70 1 _ Try.f70 fn_70 _ rfl _ ann_70 _ rfl]
  cases la with
  | none => simp -implicitDefEqProofs only [lastV, Option.isSome_none, Int.lt_irrefl, go_sem, Nat.reduceAdd, Nat.reduceSub, Nat.reduceMul, Nat.reduceMod, Nat.reduceLT, Nat.reduceLeDiff, Nat.reduceEqDiff, Nat.reduceBEq, Nat.reduceDiv, Int.reduceLT, Int.reduceLE, Int.reduceToNat, Int.reduceNeg, Int.reduceEq, ↓reduceIte, reduceCtorEq, ↓reduceDIte] <;> rfl
  | some nd => simp -implicitDefEqProofs only [lastV, Option.isSome_some, Int.lt_irrefl, go_sem, Nat.reduceAdd, Nat.reduceSub, Nat.reduceMul, Nat.reduceMod, Nat.reduceLT, Nat.reduceLeDiff, Nat.reduceEqDiff, Nat.reduceBEq, Nat.reduceDiv, Int.reduceLT, Int.reduceLE, Int.reduceToNat, Int.reduceNeg, Int.reduceEq, ↓reduceIte, reduceCtorEq, ↓reduceDIte] <;> rfl
theorem ix_k (pa pb pv pd pe : List Ru) (n : Int) (k : Nat) (hk : (k : Int) < 3) (i : Nat) (d : Bool) (ns : List Nd) (bs : List Bool) (la : Option Nd) (d' : Bool) (ns' : List Nd) (bs' : List Bool) (la' : Option Nd)
    (h : loopOf pr 70 2 ⟨T2 pa pb pv pd pe n k 0 i la, HN pa pb pv pd pe d ns bs la⟩ = some (.exit 4, ⟨T2 pa pb pv pd pe n k n i la', HN pa pb pv pd pe d' ns' bs' la'⟩)) :
    loopOf pr 70 1 ⟨T1 pa pb pv pd pe n k i la, HN pa pb pv pd pe d ns bs la⟩ = loopOf pr 70 1 ⟨T1 pa pb pv pd pe n ((k + 1 : Nat) : Int) i la', HN pa pb pv pd pe d' ns' bs' la'⟩ := by
  have hw : IntKind.i64.wrap ((k : Int) + 1) = ((k + 1 : Nat) : Int) := by rw [wrap_i] <;> omega
  rw [loop_eq pr 70 1 _ Try.f70 fn_70 _ rfl _ ann_70 _ rfl]
  simp only [T2, HN] at h
  cases la <;> cases la' <;> simp only [lastV, Option.isSome_none, Option.isSome_some] at h <;> (simp -implicitDefEqProofs only [lastV, Option.isSome_none, Option.isSome_some, tr (show (k : Int) ≤ 2 by omega), h, hw, go_sem, Nat.reduceAdd, Nat.reduceSub, Nat.reduceMul, Nat.reduceMod, Nat.reduceLT, Nat.reduceLeDiff, Nat.reduceEqDiff, Nat.reduceBEq, Nat.reduceDiv, Int.reduceLT, Int.reduceLE, Int.reduceToNat, Int.reduceNeg, Int.reduceEq, ↓reduceIte, reduceCtorEq, ↓reduceDIte] <;> rfl)
theorem ix_o_end (pa pb pv pd pe : List Ru) (n : Int) (d : Bool) (ns : List Nd) (bs : List Bool) (la : Option Nd) : loopOf pr 70 0 ⟨T0 pa pb pv pd pe n ns.length la, HN pa pb pv pd pe d ns bs la⟩ = some (.exit 0, ⟨T0 pa pb pv pd pe n ns.length la, HN pa pb pv pd pe d ns bs la⟩) := by
  rw [loop_eq pr 70 0 _ Try.f70 fn_70 _ rfl _ ann_70 _ rfl]
  cases la with
  | none => simp -implicitDefEqProofs only [lastV, Option.isSome_none, Int.lt_irrefl, go_sem, Nat.reduceAdd, Nat.reduceSub, Nat.reduceMul, Nat.reduceMod, Nat.reduceLT, Nat.reduceLeDiff, Nat.reduceEqDiff, Nat.reduceBEq, Nat.reduceDiv, Int.reduceLT, Int.reduceLE, Int.reduceToNat, Int.reduceNeg, Int.reduceEq, ↓reduceIte, reduceCtorEq, ↓reduceDIte] <;> rfl
  | some nd => simp -implicitDefEqProofs only [lastV, Option.isSome_some, Int.lt_irrefl, go_sem, Nat.reduceAdd, Nat.reduceSub, Nat.reduceMul, Nat.reduceMod, Nat.reduceLT, Nat.reduceLeDiff, Nat.reduceEqDiff, Nat.reduceBEq, Nat.reduceDiv, Int.reduceLT, Int.reduceLE, Int.reduceToNat, Int.reduceNeg, Int.reduceEq, ↓reduceIte, reduceCtorEq, ↓reduceDIte] <;> rfl
theorem ix_o (pa pb pv pd pe : List Ru) (n : Int) (i : Nat) (d : Bool) (ns : List Nd) (hi : i < ns.length) (hns : ns.length < 5000) (bs : List Bool) (la : Option Nd) (d' : Bool) (ns' : List Nd) (bs' : List Bool) (la' : Option Nd)
    (h : loopOf pr 70 1 ⟨T1 pa pb pv pd pe n 0 i la, HN pa pb pv pd pe d ns bs la⟩ = some (.exit 2, ⟨T1 pa pb pv pd pe n 3 i la', HN pa pb pv pd pe d' ns' bs' la'⟩)) :
    loopOf pr 70 0 ⟨T0 pa pb pv pd pe n i la, HN pa pb pv pd pe d ns bs la⟩ = loopOf pr 70 0 ⟨T0 pa pb pv pd pe n (i + 1) la', HN pa pb pv pd pe d' ns' bs' la'⟩ := by
  have hw : IntKind.i64.wrap ((i : Int) + 1) = ((i + 1 : Nat) : Int) := by rw [wrap_i] <;> omega
  rw [loop_eq pr 70 0 _ Try.f70 fn_70 _ rfl _ ann_70 _ rfl]
  simp only [T1, HN] at h
  cases la <;> cases la' <;> simp only [lastV, Option.isSome_none, Option.isSome_some] at h <;> (simp -implicitDefEqProofs only [lastV, Option.isSome_none, Option.isSome_some, lt_cast hi, h, hw, go_sem, Nat.reduceAdd, Nat.reduceSub, Nat.reduceMul, Nat.reduceMod, Nat.reduceLT, Nat.reduceLeDiff, Nat.reduceEqDiff, Nat.reduceBEq, Nat.reduceDiv, Int.reduceLT, Int.reduceLE, Int.reduceToNat, Int.reduceNeg, Int.reduceEq, ↓reduceIte, reduceCtorEq, ↓reduceDIte] <;> rfl)
section
variable (pa pb pv pd pe : List Ru) (hP : protB pa pb pv pd pe = true) (n : Nat) (hn : 1 ≤ n ∧ n ≤ 3)
include hP hn
theorem jt_all {st : St2} (h : Inv n st) {i : Nat} (hi : i < st.1.length) {k : Int} (hk : 0 ≤ k ∧ k ≤ 2) {c : Nat} (hc : c < n) (d : Bool) :
    ∃ d', loopOf pr 70 2 ⟨T2 pa pb pv pd pe n k c i st.2, HN pa pb pv pd pe d st.1 (seenL st.1) st.2⟩ = loopOf pr 70 2 ⟨T2 pa pb pv pd pe n k ((c + 1 : Nat) : Int) i (visit (nextF pa pb pv pd pe) i k c st).2, HN pa pb pv pd pe d' (visit (nextF pa pb pv pd pe) i k c st).1 (seenL (visit (nextF pa pb pv pd pe) i k c st).1) (visit (nextF pa pb pv pd pe) i k c st).2⟩ := by
  have hs : okS n (st.1.getD i dN).1 := h.ok _ (by rw [getD_of_lt hi]; exact List.getElem_mem hi)
  have hs2 := nx_ok pa pb pv pd pe hP n hn (st.1.getD i dN).1 k c hs hk.1 hk.2 hc
  obtain ⟨l1, l2, l3, l4, l5, _⟩ := prot_all pa pb pv pd pe hP n hn
  have hle := h.le hn.2
  have hg : ∀ z, st.1.getD i z = st.1.getD i dN := fun z => by rw [getD_of_lt hi, getD_of_lt hi]
  have hc' : (c : Int) < (n : Int) := by omega
  have hnn : (n : Int) ≤ 3 := by omega
  have hsl := seen_length st.1
  unfold visit
  generalize hX : st.1.getD i dN = X at *
  obtain ⟨⟨cs, fs, m, ⟨⟩⟩, fr, ⟨ok, oc, ⟨⟩⟩, ⟨⟩⟩ := X
  obtain ⟨g1, g2, g3⟩ := hs
  simp only at g1 g2 g3
  have hst := sp_all6 fr ok oc pa pb pv pd pe l1 l2 l3 l4 l5 c cs fs m (by omega) (by omega) (by omega) g3 k hk
  cases hfl : ((nextF pa pb pv pd pe) (cs, fs, m, ()) k c).2 with
  | true =>
    have hf2 : flawB (stepS pa pb pv pd pe k c cs fs m) = true := hfl
    rw [hf2] at hst
    rw [if_pos rfl]
    exact ⟨d, is_flaw d pa pb pv pd pe n k c hc' hnn i st.1 hi (by omega) cs fs m fr ok oc hg (seenL st.1) hsl st.2 _ _ _ _ _ hst⟩
  | false =>
    have hf2 : flawB (stepS pa pb pv pd pe k c cs fs m) = false := hfl
    rw [hf2] at hst
    rw [if_neg (by simp)]
    have hcd := call_code ((nextF pa pb pv pd pe) (cs, fs, m, ()) k c).1 hn.2 hs2
    have hlt : code ((nextF pa pb pv pd pe) (cs, fs, m, ()) k c).1 < (seenL st.1).length := by rw [hsl]; exact code_lt hn.2 hs2
    have hsg := fun z => seen_get hn.2 hs2 h.ok z
    cases hh : has st.1 ((nextF pa pb pv pd pe) (cs, fs, m, ()) k c).1 with
    | true =>
      rw [if_pos rfl]
      rw [hh] at hsg
      exact ⟨d, is_seen d pa pb pv pd pe n k c hc' hnn i st.1 hi (by omega) cs fs m fr ok oc hg (seenL st.1) hsl st.2 _ _ _ _ _ hst _ hlt hcd hsg⟩
    | false =>
      rw [if_neg (by simp)]
      rw [hh] at hsg
      refine ⟨false, ?_⟩
      have hr := is_new d pa pb pv pd pe n k c hc' hnn i st.1 hi (by omega) cs fs m fr ok oc hg (seenL st.1) hsl st.2 _ _ _ _ _ hst _ hlt hcd hsg
      have hset := seen_set hn.2 (ns := st.1) (nd := (((nextF pa pb pv pd pe) (cs, fs, m, ()) k c).1, (i : Int), (k, (c : Int), ()), ())) hs2
      simp only at hset
      rw [hset] at hr
      exact hr
theorem jloop_c {i : Nat} {k : Int} (hk : 0 ≤ k ∧ k ≤ 2) : ∀ (j : Nat) {st : St2} (d : Bool), j ≤ n → Inv n st → i < st.1.length →
    ∃ d', loopOf pr 70 2 ⟨T2 pa pb pv pd pe n k ((n - j : Nat) : Int) i st.2, HN pa pb pv pd pe d st.1 (seenL st.1) st.2⟩ =
      some (.exit 4, ⟨T2 pa pb pv pd pe n k n i (visC (nextF pa pb pv pd pe) i n k j st).2, HN pa pb pv pd pe d' (visC (nextF pa pb pv pd pe) i n k j st).1 (seenL (visC (nextF pa pb pv pd pe) i n k j st).1) (visC (nextF pa pb pv pd pe) i n k j st).2⟩)
  | 0, st, d, _, h, hi => ⟨d, ix_c_end pa pb pv pd pe n k i d st.1 (seenL st.1) st.2⟩
  | j + 1, st, d, hj, h, hi => by
    obtain ⟨d', e1⟩ := jt_all pa pb pv pd pe hP n hn h hi hk (c := n - (j + 1)) (by omega) d
    obtain ⟨h', more, hm⟩ := visit_inv (nx_ok pa pb pv pd pe hP n hn) h hi hk.1 hk.2 (c := n - (j + 1)) (by omega)
    obtain ⟨d'', e2⟩ := jloop_c (i := i) hk j (st := visit (nextF pa pb pv pd pe) i k (n - (j + 1)) st) d' (by omega) h' (by rw [hm]; simp; omega)
    refine ⟨d'', ?_⟩
    rw [e1, show n - (j + 1) + 1 = n - j from by omega]
    exact e2
theorem jloop_k {i : Nat} : ∀ (j : Nat) {st : St2} (d : Bool), j ≤ 3 → Inv n st → i < st.1.length →
    ∃ d', loopOf pr 70 1 ⟨T1 pa pb pv pd pe n ((3 - j : Nat) : Int) i st.2, HN pa pb pv pd pe d st.1 (seenL st.1) st.2⟩ =
      some (.exit 2, ⟨T1 pa pb pv pd pe n 3 i (visK (nextF pa pb pv pd pe) i n j st).2, HN pa pb pv pd pe d' (visK (nextF pa pb pv pd pe) i n j st).1 (seenL (visK (nextF pa pb pv pd pe) i n j st).1) (visK (nextF pa pb pv pd pe) i n j st).2⟩)
  | 0, st, d, _, h, hi => ⟨d, ix_k_end pa pb pv pd pe n i d st.1 (seenL st.1) st.2⟩
  | j + 1, st, d, hj, h, hi => by
    have hk : (0 : Int) ≤ ((3 - (j + 1) : Nat) : Int) ∧ ((3 - (j + 1) : Nat) : Int) ≤ 2 := by omega
    obtain ⟨d', e1⟩ := jloop_c pa pb pv pd pe hP n hn (i := i) hk n (st := st) d (Nat.le_refl _) h hi
    obtain ⟨h', more, hm⟩ := visC_inv (nx_ok pa pb pv pd pe hP n hn) (i := i) hk.1 hk.2 n (Nat.le_refl _) h hi
    obtain ⟨d'', e2⟩ := jloop_k (i := i) j (st := visC (nextF pa pb pv pd pe) i n ((3 - (j + 1) : Nat) : Int) n st) d' (by omega) h' (by rw [hm]; simp; omega)
    refine ⟨d'', ?_⟩
    rw [Nat.sub_self] at e1
    rw [ix_k pa pb pv pd pe n (3 - (j + 1)) (by omega) i d st.1 (seenL st.1) st.2 d' _ _ _ e1, show 3 - (j + 1) + 1 = 3 - j from by omega]
    exact e2
theorem jloop_o : ∀ (f i : Nat) {st : St2} (d : Bool), 1025 ≤ f + i → i ≤ st.1.length → Inv n st →
    ∃ d', loopOf pr 70 0 ⟨T0 pa pb pv pd pe n i st.2, HN pa pb pv pd pe d st.1 (seenL st.1) st.2⟩ =
      some (.exit 0, ⟨T0 pa pb pv pd pe n (bfs (nextF pa pb pv pd pe) n f i st).1.length (bfs (nextF pa pb pv pd pe) n f i st).2, HN pa pb pv pd pe d' (bfs (nextF pa pb pv pd pe) n f i st).1 (seenL (bfs (nextF pa pb pv pd pe) n f i st).1) (bfs (nextF pa pb pv pd pe) n f i st).2⟩)
  | 0, i, st, d, hf, hi, h => by
    have := h.le hn.2
    omega
  | f + 1, i, st, d, hf, hi, h => by
    have hle := h.le hn.2
    rw [bfs]
    by_cases hlt : i < st.1.length
    · rw [if_pos hlt]
      obtain ⟨d', e1⟩ := jloop_k pa pb pv pd pe hP n hn (i := i) 3 (st := st) d (Nat.le_refl _) h hlt
      obtain ⟨h', more, hm⟩ := visK_inv (nx_ok pa pb pv pd pe hP n hn) (i := i) 3 (Nat.le_refl _) h hlt
      obtain ⟨d'', e3⟩ := jloop_o f (i + 1) (st := visK (nextF pa pb pv pd pe) i n 3 st) d' (by omega) (by rw [hm]; simp; omega) h'
      refine ⟨d'', ?_⟩
      rw [ix_o pa pb pv pd pe n i d st.1 hlt (by omega) (seenL st.1) st.2 d' _ _ _ e1]
      exact e3
    · rw [if_neg hlt]
      have : i = st.1.length := by omega
      subst this
      exact ⟨d, ix_o_end pa pb pv pd pe n d st.1 (seenL st.1) st.2⟩
end
theorem sx_end (pa pb pv pd pe : List Ru) (n : Nat) (hn : 1 ≤ n ∧ n ≤ 3) (d : Bool) (ns : List Nd) (hns : ns.length < 5000) (bs : List Bool) (L : Nat) (la : Option Nd)
    (hlf : callOf pr 108 [I n] [] = some (.agg [.os (.t 256), .os (.t 384), B true], [(256, .arr true false (.int .i64) (List.replicate n 0)), (384, .arr true false .bool (List.replicate n false))]))
    (hcd : callOf pr 109 [pS6 (List.replicate n 0) (List.replicate n false) true (-1) 0 0] [] = some (I (code (first n)), []))
    (hq : code (first n) < 1024)
    (hb : (List.replicate 1024 false).set (code (first n)) true = seenL (start n).1)
    (hl : loopOf pr 70 0 ⟨T0 pa pb pv pd pe n 0 none, HN pa pb pv pd pe true [(first n, -1, (0, 0, ()), ())] (seenL (start n).1) none⟩ = some (.exit 0, ⟨T0 pa pb pv pd pe n L la, HN pa pb pv pd pe d ns bs la⟩)) :
    ∃ d', callOf pr 70 [.op 1000000 0, I n] [(1000000, .box [LR pa, LR pb, LR pv, LR pd, LR pe])] = some (.tuple [.os (.t 1408), B la.isSome], [(1000000, .box [LR pa, LR pb, LR pv, LR pd, LR pe]), (1408, .arr true d' tN (ns ++ la.toList))]) := by
  rw [show (first n : Sd) = (List.replicate n 0, List.replicate n false, true, ()) from rfl] at hl
  have hl : loopOf pr 70 0 ⟨[(0, .op 1000000 0), (1, I n), (6, .os (.t 1408)), (7, .os (.t 1472)), (8, B false), (9, .op 576 0), (10, I 0)], [(1000000, .box [LR pa, LR pb, LR pv, LR pd, LR pe]), (1408, .arr true true tN [((List.replicate n 0, List.replicate n false, true, ()), -1, (0, 0, ()), ())]), (1472, .arr true false .bool (seenL (start n).1)), (576, .box [.nilS, .nilS, B false, I 0, I 0, I 0])]⟩ = _ := hl
  simp only [T0, HN] at hl
  have hq1 : ((code (first n) : Int) < ((List.replicate 1024 false).length : Int)) = True := tr (by rw [List.length_replicate]; omega)
  have hq2 : (code (first n) < (List.replicate 1024 false).length) = True := tr (by rw [List.length_replicate]; omega)
  have hr : ((ns.length + 1) * 80 ≤ 140737488355328 ∧ ns.length ≤ 9223372036854775806) = True := tr ⟨by omega, by omega⟩
  cases la with
  | none =>
    refine ⟨d, ?_⟩
    simp only [lastV, Option.isSome_none] at hl
    rw [call_eq pr 70 _ _ Try.f70 fn_70 _ rfl _ ann_70 rfl]
    cases d <;> simp -implicitDefEqProofs only [show ((1 : Nat) : Int) = 1 from rfl, Int.one_mul, List.getD_cons_zero, hlf, hcd, hq1, hq2, zero_le_cast, Int.toNat_natCast, hb, hl, Option.isSome_none, Option.isSome_some, Option.toList_none, Option.toList_some, List.append_nil, lastV, hr, go_sem, Nat.reduceAdd, Nat.reduceSub, Nat.reduceMul, Nat.reduceMod, Nat.reduceLT, Nat.reduceLeDiff, Nat.reduceEqDiff, Nat.reduceBEq, Nat.reduceDiv, Int.reduceLT, Int.reduceLE, Int.reduceToNat, Int.reduceNeg, Int.reduceEq, ↓reduceIte, reduceCtorEq, ↓reduceDIte] <;> rfl
  | some nd =>
    refine ⟨false, ?_⟩
    simp only [lastV, Option.isSome_some] at hl
    rw [call_eq pr 70 _ _ Try.f70 fn_70 _ rfl _ ann_70 rfl]
    cases d <;> simp -implicitDefEqProofs only [show ((1 : Nat) : Int) = 1 from rfl, Int.one_mul, List.getD_cons_zero, hlf, hcd, hq1, hq2, zero_le_cast, Int.toNat_natCast, hb, hl, Option.isSome_none, Option.isSome_some, Option.toList_none, Option.toList_some, List.append_nil, lastV, hr, go_sem, Nat.reduceAdd, Nat.reduceSub, Nat.reduceMul, Nat.reduceMod, Nat.reduceLT, Nat.reduceLeDiff, Nat.reduceEqDiff, Nat.reduceBEq, Nat.reduceDiv, Int.reduceLT, Int.reduceLE, Int.reduceToNat, Int.reduceNeg, Int.reduceEq, ↓reduceIte, reduceCtorEq, ↓reduceDIte] <;> rfl
theorem sx_call (pa pb pv pd pe : List Ru) (hP : protB pa pb pv pd pe = true) (n : Nat) (hn : 1 ≤ n ∧ n ≤ 3) :
    ∃ d', callOf pr 70 [.op 1000000 0, I n] [(1000000, .box [LR pa, LR pb, LR pv, LR pd, LR pe])] = some (.tuple [.os (.t 1408), B (found (nextF pa pb pv pd pe) n).2.isSome], [(1000000, .box [LR pa, LR pb, LR pv, LR pd, LR pe]), (1408, .arr true d' tN ((found (nextF pa pb pv pd pe) n).1 ++ (found (nextF pa pb pv pd pe) n).2.toList))]) := by
  have h := start_inv (n := n) hn.1
  have hs0 : okS n (first n) := h.ok (first n, -1, (0, 0, ()), ()) (by simp [start])
  obtain ⟨d', hl⟩ := jloop_o pa pb pv pd pe hP n hn 1025 0 (st := start n) true (by omega) (by omega) h
  have hle := (bfs_inv (nx_ok pa pb pv pd pe hP n hn) 1025 0 h).le hn.2
  have hcd := call_code6 (-1) 0 0 (first n) hn.2 hs0
  refine sx_end pa pb pv pd pe n hn d' (found (nextF pa pb pv pd pe) n).1 (by unfold found; omega) _ _ (found (nextF pa pb pv pd pe) n).2 (call_lf n hn) hcd (code_lt hn.2 hs0) ?_ hl
  have h0 : List.replicate 1024 false = seenL [] := by
    apply List.ext_getElem
    · simp [seenL]
    · intro j h1 h2
      simp only [seenL, List.getElem_replicate, List.getElem_map, List.any_nil]
  rw [h0, seen_set hn.2 (ns := []) (nd := (first n, -1, (0, 0, ()), ())) hs0]
  rfl
def icB (pa pb pv pd pe : List Ru) (n : Int) : Bool := protB pa pb pv pd pe && decide (1 ≤ n ∧ n ≤ 3)
theorem call_ic (pa pb pv pd pe : List Ru) (n : Int) : callOf pr 45 [pA pa pb pv pd pe, I n] [] = some (B (icB pa pb pv pd pe n), []) := by
  have c1 := call_vp pa pb pv pd pe
  have c2 := call_iin n 1 3
  rw [call_eq pr 45 _ _ Try.f45 fn_45 _ rfl _ ann_45 rfl]
  unfold icB
  cases hp : protB pa pb pv pd pe with
  | false =>
    rw [hp] at c1
    simp -implicitDefEqProofs only [c1, Bool.false_and, go_sem, Nat.reduceAdd, Nat.reduceSub, Nat.reduceMul, Nat.reduceMod, Nat.reduceLT, Nat.reduceLeDiff, Nat.reduceEqDiff, Nat.reduceBEq, Nat.reduceDiv, Int.reduceLT, Int.reduceLE, Int.reduceToNat, Int.reduceNeg, Int.reduceEq, ↓reduceIte, reduceCtorEq, ↓reduceDIte]
  | true =>
    rw [hp] at c1
    simp -implicitDefEqProofs only [c1, c2, Bool.true_and, go_sem, Nat.reduceAdd, Nat.reduceSub, Nat.reduceMul, Nat.reduceMod, Nat.reduceLT, Nat.reduceLeDiff, Nat.reduceEqDiff, Nat.reduceBEq, Nat.reduceDiv, Int.reduceLT, Int.reduceLE, Int.reduceToNat, Int.reduceNeg, Int.reduceEq, ↓reduceIte, reduceCtorEq, ↓reduceDIte]
theorem call_lc (n : Int) : callOf pr 69 [I n] [] = some (B (decide (1 ≤ n ∧ n ≤ 3)), []) := by
  have c2 := call_sin n 1 3
  rw [call_eq pr 69 _ _ Try.f69 fn_69 _ rfl _ ann_69 rfl]
  simp -implicitDefEqProofs only [c2, go_sem, Nat.reduceAdd, Nat.reduceSub, Nat.reduceMul, Nat.reduceMod, Nat.reduceLT, Nat.reduceLeDiff, Nat.reduceEqDiff, Nat.reduceBEq, Nat.reduceDiv, Int.reduceLT, Int.reduceLE, Int.reduceToNat, Int.reduceNeg, Int.reduceEq, ↓reduceIte, reduceCtorEq, ↓reduceDIte]
theorem call_lens (xs : List Sd) : callOf pr 53 [.d (.slice tS) xs] [] = some (I xs.length, []) := by
  rw [call_eq pr 53 _ _ Try.f53 fn_53 _ rfl _ ann_53 rfl]
  simp -implicitDefEqProofs only [go_sem, Nat.reduceAdd, Nat.reduceSub, Nat.reduceMul, Nat.reduceMod, Nat.reduceLT, Nat.reduceLeDiff, Nat.reduceEqDiff, Nat.reduceBEq, Nat.reduceDiv, Int.reduceLT, Int.reduceLE, Int.reduceToNat, Int.reduceNeg, Int.reduceEq, ↓reduceIte, reduceCtorEq, ↓reduceDIte]
theorem icB_of {pa pb pv pd pe : List Ru} {n : Int} (h : icB pa pb pv pd pe n = true) : protB pa pb pv pd pe = true ∧ ∃ m : Nat, n = m ∧ 1 ≤ m ∧ m ≤ 3 := by
  simp only [icB, Bool.and_eq_true, decide_eq_true_eq] at h
  exact ⟨h.1, n.toNat, by omega, by omega, by omega⟩
theorem found_inv (pa pb pv pd pe : List Ru) (hP : protB pa pb pv pd pe = true) (n : Nat) (hn : 1 ≤ n ∧ n ≤ 3) : Inv n (found (nextF pa pb pv pd pe) n) :=
  bfs_inv (nx_ok pa pb pv pd pe hP n hn) 1025 0 (start_inv hn.1)
theorem call_rsi (pa pb pv pd pe : List Ru) (n : Int) : callOf pr 18 [pA pa pb pv pd pe, I n] [] = if icB pa pb pv pd pe n = true then some (.tuple [I (found (nextF pa pb pv pd pe) n.toNat).1.length, B true], []) else some (.tuple [I 0, B false], []) := by
  have c1 := call_ic pa pb pv pd pe n
  rw [call_eq pr 18 _ _ Try.f18 fn_18 _ rfl _ ann_18 rfl]
  cases hc : icB pa pb pv pd pe n with
  | false =>
    rw [hc] at c1
    simp -implicitDefEqProofs only [c1, go_sem, Nat.reduceAdd, Nat.reduceSub, Nat.reduceMul, Nat.reduceMod, Nat.reduceLT, Nat.reduceLeDiff, Nat.reduceEqDiff, Nat.reduceBEq, Nat.reduceDiv, Int.reduceLT, Int.reduceLE, Int.reduceToNat, Int.reduceNeg, Int.reduceEq, ↓reduceIte, reduceCtorEq, ↓reduceDIte]
  | true =>
    rw [hc] at c1
    obtain ⟨hP, m, rfl, hm⟩ := icB_of hc
    have h := call_ex pa pb pv pd pe hP m hm
    have hl := call_lens ((found (nextF pa pb pv pd pe) m).1.map (·.1))
    rw [List.length_map] at hl
    rw [Int.toNat_natCast]
    generalize flo (found (nextF pa pb pv pd pe) m) = fo at *
    cases fo with
    | none =>
      simp only [flV, flH] at h
      simp -implicitDefEqProofs only [c1, h, hl, go_sem, Nat.reduceAdd, Nat.reduceSub, Nat.reduceMul, Nat.reduceMod, Nat.reduceLT, Nat.reduceLeDiff, Nat.reduceEqDiff, Nat.reduceBEq, Nat.reduceDiv, Int.reduceLT, Int.reduceLE, Int.reduceToNat, Int.reduceNeg, Int.reduceEq, ↓reduceIte, reduceCtorEq, ↓reduceDIte] <;> rfl
    | some fp =>
      simp only [flV, flH] at h
      simp -implicitDefEqProofs only [c1, h, hl, go_sem, Nat.reduceAdd, Nat.reduceSub, Nat.reduceMul, Nat.reduceMod, Nat.reduceLT, Nat.reduceLeDiff, Nat.reduceEqDiff, Nat.reduceBEq, Nat.reduceDiv, Int.reduceLT, Int.reduceLE, Int.reduceToNat, Int.reduceNeg, Int.reduceEq, ↓reduceIte, reduceCtorEq, ↓reduceDIte] <;> rfl
theorem call_rss (pa pb pv pd pe : List Ru) (n : Int) : callOf pr 26 [pA pa pb pv pd pe, I n] [] = if icB pa pb pv pd pe n = true then some (.tuple [I (found (nextF pa pb pv pd pe) n.toNat).1.length, B true], []) else some (.tuple [I 0, B false], []) := by
  have c1 := call_si pa pb pv pd pe
  have c2 := call_lc n
  rw [call_eq pr 26 _ _ Try.f26 fn_26 _ rfl _ ann_26 rfl]
  cases hp : protB pa pb pv pd pe with
  | false =>
    rw [hp] at c1
    rw [icB, hp, Bool.false_and, if_neg (by simp)]
    simp -implicitDefEqProofs only [c1, go_sem, Nat.reduceAdd, Nat.reduceSub, Nat.reduceMul, Nat.reduceMod, Nat.reduceLT, Nat.reduceLeDiff, Nat.reduceEqDiff, Nat.reduceBEq, Nat.reduceDiv, Int.reduceLT, Int.reduceLE, Int.reduceToNat, Int.reduceNeg, Int.reduceEq, ↓reduceIte, reduceCtorEq, ↓reduceDIte]
  | true =>
  rw [hp] at c1
  by_cases hn : 1 ≤ n ∧ n ≤ 3
  · rw [decide_eq_true hn] at c2
    rw [icB, hp, decide_eq_true hn, Bool.true_and, if_pos rfl]
    obtain ⟨m, rfl⟩ : ∃ m : Nat, n = m := ⟨n.toNat, by omega⟩
    have hm : 1 ≤ m ∧ m ≤ 3 := by omega
    obtain ⟨d', h⟩ := sx_call pa pb pv pd pe hp m hm
    have hle := (found_inv pa pb pv pd pe hp m hm).le hm.2
    rw [Int.toNat_natCast]
    generalize found (nextF pa pb pv pd pe) m = st at *
    obtain ⟨ns, la⟩ := st
    simp only at h hle ⊢
    cases la with
    | none =>
      simp only [Option.isSome_none, Option.toList_none, List.append_nil] at h
      cases d' <;> (simp -implicitDefEqProofs only [c1, c2, h, go_sem, Nat.reduceAdd, Nat.reduceSub, Nat.reduceMul, Nat.reduceMod, Nat.reduceLT, Nat.reduceLeDiff, Nat.reduceEqDiff, Nat.reduceBEq, Nat.reduceDiv, Int.reduceLT, Int.reduceLE, Int.reduceToNat, Int.reduceNeg, Int.reduceEq, ↓reduceIte, reduceCtorEq, ↓reduceDIte] <;> rfl)
    | some nd =>
      have hw : IntKind.i64.wrap (((ns ++ [nd]).length : Int) - 1) = (ns.length : Int) := by
        rw [List.length_append, List.length_cons, List.length_nil, wrap_i] <;> omega
      simp only [Option.isSome_some, Option.toList_some] at h
      cases d' <;> (simp -implicitDefEqProofs only [c1, c2, h, hw, go_sem, Nat.reduceAdd, Nat.reduceSub, Nat.reduceMul, Nat.reduceMod, Nat.reduceLT, Nat.reduceLeDiff, Nat.reduceEqDiff, Nat.reduceBEq, Nat.reduceDiv, Int.reduceLT, Int.reduceLE, Int.reduceToNat, Int.reduceNeg, Int.reduceEq, ↓reduceIte, reduceCtorEq, ↓reduceDIte] <;> rfl)
  · rw [decide_eq_false hn] at c2
    rw [icB, hp, decide_eq_false hn, Bool.true_and, if_neg (by simp)]
    simp -implicitDefEqProofs only [c1, c2, go_sem, Nat.reduceAdd, Nat.reduceSub, Nat.reduceMul, Nat.reduceMod, Nat.reduceLT, Nat.reduceLeDiff, Nat.reduceEqDiff, Nat.reduceBEq, Nat.reduceDiv, Int.reduceLT, Int.reduceLE, Int.reduceToNat, Int.reduceNeg, Int.reduceEq, ↓reduceIte, reduceCtorEq, ↓reduceDIte]
theorem law_reached (a b v d e : List Ru) (n : Int) (hx : Bd wide (.agg (.cons (.slice tyR) (.cons (.slice tyR) (.cons (.slice tyR) (.cons (.slice tyR) (.cons (.slice tyR) .nil)))))) (a, b, v, d, e, ())) : callOf pr 6 [pA a b v d e, I n] [] = some (B true, []) := by
  obtain ⟨r0, a0, b0, c0⟩ := sz_Protocol (a, b, v, d, e, ()) hx 1048576 (by omega) (by omega)
  have a0 : callOf pr 25 [pA a b v d e, I 1048576] [] = some (I r0, []) := a0
  rw [call_eq pr 6 _ _ Try.f6 fn_6 _ rfl _ ann_6 rfl]
  by_cases g0 : r0 < 0
  · simp -implicitDefEqProofs only [a0, tr g0, go_sem, Nat.reduceAdd, Nat.reduceSub, Nat.reduceMul, Nat.reduceMod, Nat.reduceLT, Nat.reduceLeDiff, Nat.reduceEqDiff, Nat.reduceBEq, Nat.reduceDiv, Int.reduceLT, Int.reduceLE, Int.reduceToNat, Int.reduceNeg, Int.reduceEq, ↓reduceIte, reduceCtorEq, ↓reduceDIte]
  have hp : Bd small (.agg (.cons (.slice tyR) (.cons (.slice tyR) (.cons (.slice tyR) (.cons (.slice tyR) (.cons (.slice tyR) .nil)))))) (a, b, v, d, e, ()) := c0 (by omega)
  have t1 : callOf pr 27 [pA a b v d e] [] = some (.agg [.os (.t 384), .os (.t 640), .os (.t 896), .os (.t 1152), .os (.t 1408)], [(384, .arr true false tyR a), (640, .arr true false tyR b), (896, .arr true false tyR v), (1152, .arr true false tyR d), (1408, .arr true false tyR e)]) := to_Protocol (a, b, v, d, e, ()) hp
  have h1 := call_rss a b v d e n
  have h2 := call_rsi a b v d e n
  have e1 : callOf pr 28 [pA a b v d e, pA a b v d e] [] = some (B true, []) := eq_Protocol (a, b, v, d, e, ()) hx
  cases ho : icB a b v d e n with
  | false =>
    rw [ho, if_neg (by simp)] at h1 h2
    simp -implicitDefEqProofs only [a0, fa g0, t1, h1, h2, e1, BEq.rfl, beq_self_eq_true, eq_self_iff_true, go_sem, Nat.reduceAdd, Nat.reduceSub, Nat.reduceMul, Nat.reduceMod, Nat.reduceLT, Nat.reduceLeDiff, Nat.reduceEqDiff, Nat.reduceBEq, Nat.reduceDiv, Int.reduceLT, Int.reduceLE, Int.reduceToNat, Int.reduceNeg, Int.reduceEq, ↓reduceIte, reduceCtorEq, ↓reduceDIte]
  | true =>
    rw [ho, if_pos rfl] at h1 h2
    simp -implicitDefEqProofs only [a0, fa g0, t1, h1, h2, e1, BEq.rfl, beq_self_eq_true, eq_self_iff_true, go_sem, Nat.reduceAdd, Nat.reduceSub, Nat.reduceMul, Nat.reduceMod, Nat.reduceLT, Nat.reduceLeDiff, Nat.reduceEqDiff, Nat.reduceBEq, Nat.reduceDiv, Int.reduceLT, Int.reduceLE, Int.reduceToNat, Int.reduceNeg, Int.reduceEq, ↓reduceIte, reduceCtorEq, ↓reduceDIte]
end Go.Proofs.Ythmnlokdikomkaa.PI
