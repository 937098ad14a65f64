/- A write of the program's. -/
import Derived.Test.YthmnlokdikomkaaK9
namespace Go.Proofs.Ythmnlokdikomkaa.PI
open Go Go.Q
set_option maxRecDepth 100000
set_option maxHeartbeats 4000000
set_option linter.unusedSimpArgs false
set_option linter.unusedVariables false
theorem clear_all (fs : List Bool) : copyIn fs (List.replicate fs.length false) 0 fs.length = List.replicate fs.length false := by
  simp [copyIn]
theorem st_w (a b v d e : List Ru) (ha : a.length = 4) (hb : b.length = 4) (hv : v.length = 4) (hd : d.length = 4) (he : e.length = 4) (n : Nat) (cs : List Int) (fs : List Bool) (m : Bool) (hn : n < cs.length) (hcf : cs.length = fs.length) (hl : cs.length ≤ 3) (hx : ∀ x ∈ cs, 0 ≤ x ∧ x ≤ 3) : callOf pr 52 [.op 1000000 0, pA a b v d e, .agg [I 1, I n]] (HX cs fs m) = (fun r : Aft => (some (AV.tuple [B (flawB r), B r.2.2.2.2.1, I r.2.2.2.2.2], HX r.1 r.2.1 r.2.2.1) : Option (AV × Heap))) (aftW b n (cs.getD n 0) (decide (cs.getD n 0 = 0) || decide (cs.getD n 0 = 1)) (if (decide (cs.getD n 0 = 0) || decide (cs.getD n 0 = 1)) = true then seeL e n 0 cs fs m 0 else (cs, fs, m, 0))) := by
  obtain ⟨x0, x3⟩ : 0 ≤ cs.getD n 0 ∧ cs.getD n 0 ≤ 3 := by rw [getD_of_lt hn]; exact hx _ (List.getElem_mem hn)
  have g1 := getD_z hn 0
  generalize hX : cs.getD n 0 = x at *
  obtain ⟨r1, r2, r3, hg⟩ := ru_parts (show x.toNat < b.length by omega)
  have hse := call_se e n he cs fs m hcf (by omega) hx
  obtain ⟨l1, l2⟩ := see_len e n cs fs 0 m 0 hcf
  have k0 := see_bk e n cs fs 0 m 0 hcf
  have w1 : ((n : Int) < (cs.length : Int)) = True := tr (by omega)
  have w2 : (n < cs.length) = True := tr hn
  have y1 : (x < (b.length : Int)) = True := tr (by omega)
  have y2 : (x.toNat < b.length) = True := tr (by omega)
  have k1 : ((1 : Int) = 0) = False := fa (by decide)
  have kw : IntKind.i64.wrap 1 = 1 := by decide
  generalize seeL e n 0 cs fs m 0 = q at *
  obtain ⟨qc, qf, qm, qk⟩ := q
  simp only at *
  have kq : IntKind.i64.wrap (qk + 1) = qk + 1 := by rw [wrap_i] <;> omega
  rw [HX, HX] at hse
  by_cases h0 : x = 0
  · rw [decide_eq_true h0, Bool.true_or, if_pos rfl]
    have hm : aftW b n x true (qc, qf, qm, qk) = (qc.set n r1, (List.replicate qf.length false).set n (!decide (r1 = 0)), r3, false, true, if r3 then qk + 1 else qk) := by simp only [aftW, hg]
    rw [hm, call_eq pr 52 _ _ Try.f52 fn_52 _ rfl _ ann_52 rfl, HX]
    simp only [flawB]
    have hbc := call_bc n r1 true qm qc (List.replicate qf.length false) (by omega) (by simp; omega)
    have hco := call_cob ((List.replicate qf.length false).set n (!decide (r1 = 0))) (by simp; omega)
    rw [HX, HX, Bool.true_and] at hbc
    cases r3 with
    | true => simp -implicitDefEqProofs only [w1, w2, zero_le_cast, Int.toNat_natCast, tr x0, y1, y2, g1, hg, k1, kw, kq, clear_all, Int.zero_add, tr h0, hse, hbc, hco, go_sem, Nat.reduceAdd, Nat.reduceSub, Nat.reduceMul, Nat.reduceMod, Nat.reduceLT, Nat.reduceLeDiff, Nat.reduceEqDiff, Nat.reduceBEq, Nat.reduceDiv, Int.reduceLT, Int.reduceLE, Int.reduceToNat, Int.reduceNeg, Int.reduceEq, ↓reduceIte, reduceCtorEq, ↓reduceDIte]
    | false => simp -implicitDefEqProofs only [w1, w2, zero_le_cast, Int.toNat_natCast, tr x0, y1, y2, g1, hg, k1, kw, kq, clear_all, Int.zero_add, tr h0, hse, hbc, hco, go_sem, Nat.reduceAdd, Nat.reduceSub, Nat.reduceMul, Nat.reduceMod, Nat.reduceLT, Nat.reduceLeDiff, Nat.reduceEqDiff, Nat.reduceBEq, Nat.reduceDiv, Int.reduceLT, Int.reduceLE, Int.reduceToNat, Int.reduceNeg, Int.reduceEq, ↓reduceIte, reduceCtorEq, ↓reduceDIte]
  by_cases h1 : x = 1
  · rw [decide_eq_true h1, Bool.or_true, if_pos rfl]
    have hm : aftW b n x true (qc, qf, qm, qk) = (qc.set n r1, (List.replicate qf.length false).set n (!decide (r1 = 0)), r3, false, true, if r3 then qk + 1 else qk) := by simp only [aftW, hg]
    rw [hm, call_eq pr 52 _ _ Try.f52 fn_52 _ rfl _ ann_52 rfl, HX]
    simp only [flawB]
    have hbc := call_bc n r1 true qm qc (List.replicate qf.length false) (by omega) (by simp; omega)
    have hco := call_cob ((List.replicate qf.length false).set n (!decide (r1 = 0))) (by simp; omega)
    rw [HX, HX, Bool.true_and] at hbc
    cases r3 with
    | true => simp -implicitDefEqProofs only [w1, w2, zero_le_cast, Int.toNat_natCast, tr x0, y1, y2, g1, hg, k1, kw, kq, clear_all, Int.zero_add, fa h0, tr h1, hse, hbc, hco, go_sem, Nat.reduceAdd, Nat.reduceSub, Nat.reduceMul, Nat.reduceMod, Nat.reduceLT, Nat.reduceLeDiff, Nat.reduceEqDiff, Nat.reduceBEq, Nat.reduceDiv, Int.reduceLT, Int.reduceLE, Int.reduceToNat, Int.reduceNeg, Int.reduceEq, ↓reduceIte, reduceCtorEq, ↓reduceDIte]
    | false => simp -implicitDefEqProofs only [w1, w2, zero_le_cast, Int.toNat_natCast, tr x0, y1, y2, g1, hg, k1, kw, kq, clear_all, Int.zero_add, fa h0, tr h1, hse, hbc, hco, go_sem, Nat.reduceAdd, Nat.reduceSub, Nat.reduceMul, Nat.reduceMod, Nat.reduceLT, Nat.reduceLeDiff, Nat.reduceEqDiff, Nat.reduceBEq, Nat.reduceDiv, Int.reduceLT, Int.reduceLE, Int.reduceToNat, Int.reduceNeg, Int.reduceEq, ↓reduceIte, reduceCtorEq, ↓reduceDIte]
  · rw [decide_eq_false h0, decide_eq_false h1, Bool.or_false, if_neg (by simp)]
    have hm : aftW b n x false (cs, fs, m, 0) = (cs.set n r1, (List.replicate fs.length false).set n (!decide (r1 = 0)), r3, false, false, if r3 then 1 else 0) := by simp only [aftW, hg, Int.zero_add]
    rw [hm, call_eq pr 52 _ _ Try.f52 fn_52 _ rfl _ ann_52 rfl, HX]
    simp only [flawB]
    have hbc := call_bc n r1 true m cs (List.replicate fs.length false) (by omega) (by simp; omega)
    have hco := call_cob ((List.replicate fs.length false).set n (!decide (r1 = 0))) (by simp; omega)
    rw [HX, HX, Bool.true_and] at hbc
    cases r3 with
    | true => simp -implicitDefEqProofs only [w1, w2, zero_le_cast, Int.toNat_natCast, tr x0, y1, y2, g1, hg, k1, kw, kq, clear_all, Int.zero_add, fa h0, fa h1, hbc, hco, go_sem, Nat.reduceAdd, Nat.reduceSub, Nat.reduceMul, Nat.reduceMod, Nat.reduceLT, Nat.reduceLeDiff, Nat.reduceEqDiff, Nat.reduceBEq, Nat.reduceDiv, Int.reduceLT, Int.reduceLE, Int.reduceToNat, Int.reduceNeg, Int.reduceEq, ↓reduceIte, reduceCtorEq, ↓reduceDIte]
    | false => simp -implicitDefEqProofs only [w1, w2, zero_le_cast, Int.toNat_natCast, tr x0, y1, y2, g1, hg, k1, kw, kq, clear_all, Int.zero_add, fa h0, fa h1, hbc, hco, go_sem, Nat.reduceAdd, Nat.reduceSub, Nat.reduceMul, Nat.reduceMod, Nat.reduceLT, Nat.reduceLeDiff, Nat.reduceEqDiff, Nat.reduceBEq, Nat.reduceDiv, Int.reduceLT, Int.reduceLE, Int.reduceToNat, Int.reduceNeg, Int.reduceEq, ↓reduceIte, reduceCtorEq, ↓reduceDIte]
abbrev HS (u w : Bool) (cs : List Int) (fs : List Bool) (m : Bool) : Heap := [(384, .box [.nilS, .nilS, B false]), (1472, .arr u false (.int .i64) cs), (1536, .arr w false .bool fs), (640, .box [.os (.t 1472), .os (.t 1536), B m])]
/-- Looks at all. -/
theorem loop_some (u w : Bool) (cs : List Int) (fl sn m : Bool) (bk : Int) : ∀ (suf pre : List Bool) (s : Bool), pre.length + suf.length < 100 →
    loopOf pr 78 1 ⟨[(6, .op 384 0), (10, .op 640 0), (13, B fl), (14, B sn), (15, I bk), (17, B s), (18, I pre.length)], HS u w cs (pre ++ suf) m⟩ = some (.exit 3, ⟨[(6, .op 384 0), (10, .op 640 0), (13, B fl), (14, B sn), (15, I bk), (17, B (s || suf.any id)), (18, I ((pre.length + suf.length : Nat) : Int))], HS u w cs (pre ++ suf) m⟩)
  | [], pre, s, hb => by
    rw [loop_eq pr 78 1 _ Try.f78 fn_78 _ rfl _ ann_78 _ rfl, HS]
    simp -implicitDefEqProofs only [Int.lt_irrefl, List.append_nil, List.length_nil, Nat.add_zero, List.any_nil, go_sem, Nat.reduceAdd, Nat.reduceSub, Nat.reduceMul, Nat.reduceMod, Nat.reduceLT, Nat.reduceLeDiff, Nat.reduceEqDiff, Nat.reduceBEq, Nat.reduceDiv, Int.reduceLT, Int.reduceLE, Int.reduceToNat, Int.reduceNeg, Int.reduceEq, ↓reduceIte, reduceCtorEq, ↓reduceDIte]
  | f :: suf, pre, s, hb => by
    simp only [List.length_cons] at hb
    have hw : IntKind.i64.wrap ((pre.length : Int) + 1) = ((pre.length + 1 : Nat) : Int) := by rw [wrap_i] <;> omega
    have e1 : (pre ++ [f]).length = pre.length + 1 := by simp
    have e2 : pre.length + 1 + suf.length = pre.length + (suf.length + 1) := by omega
    have ih := loop_some u w cs fl sn m bk suf (pre ++ [f]) (s || f) (by simp; omega)
    rw [e1, e2, app_one, Bool.or_assoc] at ih
    rw [loop_eq pr 78 1 _ Try.f78 fn_78 _ rfl _ ann_78 _ rfl, List.any_cons, id, HS]
    cases s with
    | true =>
      simp -implicitDefEqProofs only [getD_app, lt_app, ltn_app, zero_le_cast, Int.toNat_natCast, hw, go_sem, Nat.reduceAdd, Nat.reduceSub, Nat.reduceMul, Nat.reduceMod, Nat.reduceLT, Nat.reduceLeDiff, Nat.reduceEqDiff, Nat.reduceBEq, Nat.reduceDiv, Int.reduceLT, Int.reduceLE, Int.reduceToNat, Int.reduceNeg, Int.reduceEq, ↓reduceIte, reduceCtorEq, ↓reduceDIte]
      exact ih
    | false =>
      simp -implicitDefEqProofs only [getD_app, lt_app, ltn_app, zero_le_cast, Int.toNat_natCast, hw, go_sem, Nat.reduceAdd, Nat.reduceSub, Nat.reduceMul, Nat.reduceMod, Nat.reduceLT, Nat.reduceLeDiff, Nat.reduceEqDiff, Nat.reduceBEq, Nat.reduceDiv, Int.reduceLT, Int.reduceLE, Int.reduceToNat, Int.reduceNeg, Int.reduceEq, ↓reduceIte, reduceCtorEq, ↓reduceDIte]
      exact ih
theorem own_of (cs : List Int) (n : Nat) (hn : n < cs.length) (hl : cs.length ≤ 3) : callOf pr 112 [cI cs] [] = some (.os (.t 192), [(192, .arr true false (.int .i64) cs)]) := by
  match cs, hn with
  | y :: ys, _ => exact call_own y ys (by simp only [List.length_cons] at hl; omega)
abbrev HO (u w : Bool) (cs : List Int) (fs : List Bool) : Heap := [(1472, .arr u false (.int .i64) cs), (1536, .arr w false .bool fs)]
def sR1 (a : List Ru) (n : Nat) (cs : List Int) (fs : List Bool) (m : Bool) : Aft := (cs.set n (a.getD (cs.getD n 0).toNat rZ).1, fs, m, !fs.getD n false, false, 0)
def sR0 (a d : List Ru) (n : Nat) (cs : List Int) (fs : List Bool) (m : Bool) : Aft :=
  let q := seeL d n 0 cs fs m 0
  (if othB n 0 (q.1.set n (a.getD 0 rZ).1) = true then (q.1.set n (a.getD 0 rZ).1).set n (a.getD 0 rZ).2.1 else q.1.set n (a.getD 0 rZ).1, q.2.1.set n q.2.2.1, q.2.2.1, !q.2.2.1, true, q.2.2.2)
theorem loop_clr (P : List (List Ru)) (a b v d e : List Ru) (u w : Bool) (cs : List Int) (n : Nat) (x bk : Int) (sn m : Bool) : ∀ (suf pre : List Bool), pre.length + suf.length < 100 →
    loopOf pr 78 0 ⟨[(0, pR a b v d e), (6, .op 384 0), (10, .op 640 0), (11, I n), (12, I x), (13, B false), (14, B sn), (15, I bk), (16, I pre.length)], HS u w cs (pre ++ suf) m⟩ = some (.exit 1, ⟨[(0, pR a b v d e), (6, .op 384 0), (10, .op 640 0), (11, I n), (12, I x), (13, B false), (14, B sn), (15, I bk), (16, I ((pre.length + suf.length : Nat) : Int))], HS u w cs (pre ++ List.replicate suf.length false) m⟩)
  | [], pre, hb => by
    rw [loop_eq pr 78 0 _ Try.f78 fn_78 _ rfl _ ann_78 _ rfl, HS]
    simp -implicitDefEqProofs only [Int.lt_irrefl, List.append_nil, List.length_nil, Nat.add_zero, List.replicate_zero, go_sem, Nat.reduceAdd, Nat.reduceSub, Nat.reduceMul, Nat.reduceMod, Nat.reduceLT, Nat.reduceLeDiff, Nat.reduceEqDiff, Nat.reduceBEq, Nat.reduceDiv, Int.reduceLT, Int.reduceLE, Int.reduceToNat, Int.reduceNeg, Int.reduceEq, ↓reduceIte, reduceCtorEq, ↓reduceDIte]
  | f :: suf, pre, hb => by
    simp only [List.length_cons] at hb
    have hw : IntKind.i64.wrap ((pre.length : Int) + 1) = ((pre.length + 1 : Nat) : Int) := by rw [wrap_i] <;> omega
    have e1 : (pre ++ [false]).length = pre.length + 1 := by simp
    have e2 : pre.length + 1 + suf.length = pre.length + (suf.length + 1) := by omega
    have ih := loop_clr P a b v d e u w cs n x bk sn m suf (pre ++ [false]) (by simp; omega)
    rw [e1, e2, app_one, app_one] at ih
    rw [loop_eq pr 78 0 _ Try.f78 fn_78 _ rfl _ ann_78 _ rfl, HS]
    simp -implicitDefEqProofs only [getD_app, set_app, lt_app, ltn_app, zero_le_cast, Int.toNat_natCast, hw, go_sem, Nat.reduceAdd, Nat.reduceSub, Nat.reduceMul, Nat.reduceMod, Nat.reduceLT, Nat.reduceLeDiff, Nat.reduceEqDiff, Nat.reduceBEq, Nat.reduceDiv, Int.reduceLT, Int.reduceLE, Int.reduceToNat, Int.reduceNeg, Int.reduceEq, ↓reduceIte, reduceCtorEq, ↓reduceDIte]
    exact ih
def stepI (a b v d e : List Ru) (k : Int) (n : Nat) (cs : List Int) (fs : List Bool) (m : Bool) : Aft :=
  if k = 0 then if cs.getD n 0 = 0 then aftR0 a d n cs fs m else aftR1 a n cs fs m else if k = 1 then aftW b n (cs.getD n 0) (decide (cs.getD n 0 = 0) || decide (cs.getD n 0 = 1)) (if (decide (cs.getD n 0 = 0) || decide (cs.getD n 0 = 1)) = true then seeL e n 0 cs fs m 0 else (cs, fs, m, 0)) else aftE v n cs fs m
def stepS (a b v d e : List Ru) (k : Int) (n : Nat) (cs : List Int) (fs : List Bool) (m : Bool) : Aft :=
  if k = 0 then if cs.getD n 0 = 0 then sR0 a d n cs fs m else sR1 a n cs fs m else if k = 1 then aftW b n (cs.getD n 0) (decide (cs.getD n 0 = 0) || decide (cs.getD n 0 = 1)) (if (decide (cs.getD n 0 = 0) || decide (cs.getD n 0 = 1)) = true then seeL e n 0 cs fs m 0 else (cs, fs, m, 0)) else aftE v n cs fs m
theorem see_at (rules : List Ru) (c : Int) : ∀ (cs : List Int) (fs : List Bool) (i : Int) (n : Nat) (m : Bool) (k : Int), cs.length = fs.length → i + n = c → (seeL rules c i cs fs m k).1.getD n 0 = cs.getD n 0
  | [], [], _, _, _, _, _, _ => rfl
  | [], _ :: _, _, _, _, _, h, _ => by simp at h
  | _ :: _, [], _, _, _, _, h, _ => by simp at h
  | x :: cs, f :: fs, i, 0, m, k, h, hi => by
    rw [see_skip rules c i x cs f fs m k (.inl (by simpa using hi))]
    rfl
  | x :: cs, f :: fs, i, n + 1, m, k, h, hi => by
    have h : cs.length = fs.length := by simpa using h
    by_cases hk : i = c ∨ x = 0
    · rw [see_skip rules c i x cs f fs m k hk]
      exact see_at rules c cs fs (i + 1) n m k h (by omega)
    · obtain ⟨n', s, b, hb⟩ : ∃ n s b, rules.getD x.toNat rZ = (n, s, b, ()) := by
        obtain ⟨n, s, b, ⟨⟩⟩ : Ru := rules.getD x.toNat rZ
        exact ⟨n, s, b, rfl⟩
      rw [see_take rules c i x cs f fs m k n' s b (fun h => hk (.inl h)) (fun h => hk (.inr h)) hb]
      exact see_at rules c cs fs (i + 1) n _ _ h (by omega)
theorem oth_any (c : Int) (r : Int) : ∀ (cs : List Int) (i : Int) (n : Nat), i + n = c → cs.getD n 0 = 0 → othB c i (cs.set n r) = cs.any fun x => decide (x ≠ 0)
  | [], i, n, _, _ => rfl
  | x :: cs, i, 0, hi, h => by
    have h : x = 0 := h
    have hi : i = c := by simpa using hi
    subst h
    rw [List.set_cons_zero, othB, List.any_cons]
    have : ∀ (cs : List Int) (j : Int), c < j → othB c j cs = cs.any fun x => decide (x ≠ 0) := by
      intro cs
      induction cs with
      | nil => intro j _; rfl
      | cons y cs ih =>
        intro j hj
        rw [othB, List.any_cons, ih (j + 1) (by omega)]
        have : ¬ j = c := by omega
        by_cases hy : y = 0 <;> simp [this, hy]
    rw [this cs (i + 1) (by omega)]
    simp [hi]
  | x :: cs, i, n + 1, hi, h => by
    rw [List.set_cons_succ, othB, List.any_cons, oth_any c r cs (i + 1) n (by omega) h]
    have : ¬ i = c := by omega
    by_cases hy : x = 0 <;> simp [this, hy]
theorem set_self {α : Type} : ∀ (xs : List α) (n : Nat) (d : α), xs.set n (xs.getD n d) = xs
  | [], _, _ => rfl
  | x :: xs, 0, _ => rfl
  | x :: xs, n + 1, d => by
    rw [List.set_cons_succ]
    have := set_self xs n d
    rw [show (x :: xs).getD (n + 1) d = xs.getD n d from rfl, this]
theorem step_eq (a b v d e : List Ru) (ha : a.length = 4) (hb : b.length = 4) (hv : v.length = 4) (hd : d.length = 4) (he : e.length = 4) (n : Nat) (cs : List Int) (fs : List Bool) (m : Bool) (hn : n < cs.length) (hcf : cs.length = fs.length) (hl : cs.length ≤ 3) (hx : ∀ x ∈ cs, 0 ≤ x ∧ x ≤ 3) (hz : a.all nzB = true) (k : Int) : stepI a b v d e k n cs fs m = stepS a b v d e k n cs fs m := by
  have hnz : ∀ j : Nat, j < a.length → ¬ (a.getD j rZ).1 = 0 ∧ ¬ (a.getD j rZ).2.1 = 0 := by
    intro j hj
    rw [getD_of_lt hj]
    have := (List.all_eq_true.1 hz) a[j] (List.getElem_mem hj)
    simpa [nzB] using this
  unfold stepI stepS
  by_cases hk : k = 0
  case neg => rw [if_neg hk, if_neg hk]
  rw [if_pos hk, if_pos hk]
  by_cases h0 : cs.getD n 0 = 0
  · rw [if_pos h0, if_pos h0]
    obtain ⟨z1, z2⟩ := hnz 0 (by omega)
    have hat := see_at d n cs fs 0 n m 0 hcf (by omega)
    rw [h0] at hat
    unfold aftR0 sR0
    generalize seeL d n 0 cs fs m 0 = q at *
    simp only
    rw [oth_any n _ q.1 0 n (by omega) hat]
    cases q.1.any fun x => decide (x ≠ 0) with
    | true => simp only [if_true, List.set_set, decide_eq_false z2, Bool.not_false, Bool.and_true]
    | false => simp only [Bool.false_eq_true, if_false, decide_eq_false z1, Bool.not_false, Bool.and_true]
  · rw [if_neg h0, if_neg h0]
    obtain ⟨x0, x3⟩ : 0 ≤ cs.getD n 0 ∧ cs.getD n 0 ≤ 3 := by rw [getD_of_lt hn]; exact hx _ (List.getElem_mem hn)
    obtain ⟨z1, z2⟩ := hnz (cs.getD n 0).toNat (by omega)
    unfold aftR1 sR1
    rw [decide_eq_false z1, Bool.not_false, Bool.and_true, set_self]
theorem st_all (a b v d e : List Ru) (ha : a.length = 4) (hb : b.length = 4) (hv : v.length = 4) (hd : d.length = 4) (he : e.length = 4) (n : Nat) (cs : List Int) (fs : List Bool) (m : Bool) (hn : n < cs.length) (hcf : cs.length = fs.length) (hl : cs.length ≤ 3) (hx : ∀ x ∈ cs, 0 ≤ x ∧ x ≤ 3) (k : Int) (hk : 0 ≤ k ∧ k ≤ 2) : callOf pr 52 [.op 1000000 0, pA a b v d e, .agg [I k, I n]] (HX cs fs m) = some (AV.tuple [B (flawB (stepI a b v d e k n cs fs m)), B (stepI a b v d e k n cs fs m).2.2.2.2.1, I (stepI a b v d e k n cs fs m).2.2.2.2.2], HX (stepI a b v d e k n cs fs m).1 (stepI a b v d e k n cs fs m).2.1 (stepI a b v d e k n cs fs m).2.2.1) := by
  unfold stepI
  by_cases k0 : k = 0
  · subst k0
    simp only [if_true]
    by_cases h0 : cs.getD n 0 = 0
    · simp only [if_pos h0]
      exact st_r0 a b v d e ha hb hv hd he n cs fs m hn hcf hl hx h0
    · simp only [if_neg h0]
      exact st_r1 a b v d e ha hb hv hd he n cs fs m hn hcf hl hx h0
  · simp only [if_neg k0]
    by_cases k1 : k = 1
    · subst k1
      simp only [if_true]
      exact st_w a b v d e ha hb hv hd he n cs fs m hn hcf hl hx
    · simp only [if_neg k1]
      have k2 : k = 2 := by omega
      subst k2
      exact st_e a b v d e ha hb hv hd he n cs fs m hn hcf hl hx
/-- Plain data of a system, an op, a node of the reference's, an entry of the program's queue. -/
abbrev Sd : Type := List Int × List Bool × Bool × Unit
abbrev Od : Type := Int × Int × Unit
abbrev Nd : Type := Sd × Int × Od × Unit
abbrev Rd : Type := Sd × List Od × Unit

/-! keys -/
def ks : List Int → List Bool → Bool → List UInt8
  | c :: cs, f :: fs, m => UInt8.ofNat (48 + c).toNat :: (if f = true then 102 :: ks cs fs m else ks cs fs m)
  | _, _, m => if m = true then [109] else []
theorem ks_head : ∀ (cs : List Int) (fs : List Bool) (m : Bool) (r : List UInt8), (∀ x ∈ cs, 0 ≤ x ∧ x ≤ 3) → ks cs fs m ≠ 102 :: r
  | c :: cs, f :: fs, m, r, h, e => by
    simp only [ks, List.cons.injEq] at e
    have hc := h c (by simp)
    have := congrArg UInt8.toNat e.1
    rw [UInt8.toNat_ofNat_of_lt' (by show (48 + c).toNat < 256; omega)] at this
    have h102 : (102 : UInt8).toNat = 102 := rfl
    omega
  | [], fs, m, r, h, e => by
    simp only [ks] at e
    split at e
    · simp only [List.cons.injEq] at e; exact absurd e.1 (by decide)
    · cases e
  | _ :: _, [], m, r, h, e => by
    simp only [ks] at e
    split at e
    · simp only [List.cons.injEq] at e; exact absurd e.1 (by decide)
    · cases e
theorem ks_inj : ∀ (cs cs' : List Int) (fs fs' : List Bool) (m m' : Bool), cs.length = fs.length → cs'.length = fs'.length → cs.length = cs'.length → (∀ x ∈ cs, 0 ≤ x ∧ x ≤ 3) → (∀ x ∈ cs', 0 ≤ x ∧ x ≤ 3) → ks cs fs m = ks cs' fs' m' → cs = cs' ∧ fs = fs' ∧ m = m'
  | [], [], [], [], m, m', _, _, _, _, _, e => by
    simp only [ks] at e
    refine ⟨rfl, rfl, ?_⟩
    cases m <;> cases m' <;> simp_all
  | c :: cs, c' :: cs', f :: fs, f' :: fs', m, m', h1, h2, h3, h4, h5, e => by
    simp only [ks, List.cons.injEq] at e
    have hc := h4 c (by simp)
    have hc' := h5 c' (by simp)
    have hcc : c = c' := by
      have := congrArg UInt8.toNat e.1
      rw [UInt8.toNat_ofNat_of_lt' (by show (48 + c).toNat < 256; omega), UInt8.toNat_ofNat_of_lt' (by show (48 + c').toNat < 256; omega)] at this
      omega
    have g4 : ∀ x ∈ cs, 0 ≤ x ∧ x ≤ 3 := fun x hx => h4 x (by simp [hx])
    have g5 : ∀ x ∈ cs', 0 ≤ x ∧ x ≤ 3 := fun x hx => h5 x (by simp [hx])
    have ih := ks_inj cs cs' fs fs' m m' (by simpa using h1) (by simpa using h2) (by simpa using h3) g4 g5
    have e2 := e.2
    cases f <;> cases f'
    · simp only [Bool.false_eq_true, if_false] at e2
      obtain ⟨r1, r2, r3⟩ := ih e2
      exact ⟨by rw [hcc, r1], by rw [r2], r3⟩
    · simp only [Bool.false_eq_true, if_false, if_true] at e2
      exact absurd e2 (ks_head cs fs m _ g4)
    · simp only [Bool.false_eq_true, if_false, if_true] at e2
      exact absurd e2.symm (ks_head cs' fs' m' _ g5)
    · simp only [if_true, List.cons.injEq, true_and] at e2
      obtain ⟨r1, r2, r3⟩ := ih e2
      exact ⟨by rw [hcc, r1], by rw [r2], r3⟩
  | [], [], _ :: _, _, _, _, h1, _, _, _, _, _ => by simp at h1
  | [], [], [], _ :: _, _, _, _, h2, _, _, _, _ => by simp at h2
  | [], _ :: _, _, _, _, _, _, _, h3, _, _, _ => by simp at h3
  | _ :: _, [], _, _, _, _, _, _, h3, _, _, _ => by simp at h3
  | _ :: _, _ :: _, [], _, _, _, h1, _, _, _, _, _ => by simp at h1
  | _ :: _, _ :: _, _ :: _, [], _, _, _, h2, _, _, _, _ => by simp at h2

/-! codes -/
def goC : Nat → List Int → Nat
  | a, [] => a
  | a, c :: cs => goC (4 * a + c.toNat) cs
def goF : Nat → List Bool → Nat
  | a, [] => a
  | a, f :: fs => goF (2 * a + f.toNat) fs
def code (s : Sd) : Nat := 2 * goF (goC 0 s.1) s.2.1 + s.2.2.1.toNat
theorem goC_lt : ∀ (cs : List Int) (a : Nat), (∀ x ∈ cs, 0 ≤ x ∧ x ≤ 3) → goC a cs < (a + 1) * 4 ^ cs.length
  | [], a, _ => by simp [goC]
  | c :: cs, a, h => by
    have hc := h c (by simp)
    have ih := goC_lt cs (4 * a + c.toNat) (fun x hx => h x (by simp [hx]))
    have h1 : (4 * a + c.toNat + 1) * 4 ^ cs.length ≤ (4 * (a + 1)) * 4 ^ cs.length := Nat.mul_le_mul_right _ (by omega)
    have h2 : (a + 1) * 4 ^ (c :: cs).length = 4 * (a + 1) * 4 ^ cs.length := by
      simp only [List.length_cons, Nat.pow_succ]
      rw [Nat.mul_comm (4 ^ cs.length) 4, ← Nat.mul_assoc, Nat.mul_comm (a + 1) 4]
    simp only [goC]
    omega
theorem goF_lt : ∀ (fs : List Bool) (a : Nat), goF a fs < (a + 1) * 2 ^ fs.length
  | [], a => by simp [goF]
  | f :: fs, a => by
    have ih := goF_lt fs (2 * a + f.toNat)
    have hf : f.toNat ≤ 1 := by cases f <;> simp
    have h1 : (2 * a + f.toNat + 1) * 2 ^ fs.length ≤ (2 * (a + 1)) * 2 ^ fs.length := Nat.mul_le_mul_right _ (by omega)
    have h2 : (a + 1) * 2 ^ (f :: fs).length = 2 * (a + 1) * 2 ^ fs.length := by
      simp only [List.length_cons, Nat.pow_succ]
      rw [Nat.mul_comm (2 ^ fs.length) 2, ← Nat.mul_assoc, Nat.mul_comm (a + 1) 2]
    simp only [goF]
    omega
theorem goC_inj : ∀ (cs cs' : List Int) (a a' : Nat), cs.length = cs'.length → (∀ x ∈ cs, 0 ≤ x ∧ x ≤ 3) → (∀ x ∈ cs', 0 ≤ x ∧ x ≤ 3) → goC a cs = goC a' cs' → a = a' ∧ cs = cs'
  | [], [], a, a', _, _, _, e => ⟨e, rfl⟩
  | c :: cs, c' :: cs', a, a', h, h1, h2, e => by
    have hc := h1 c (by simp)
    have hc' := h2 c' (by simp)
    obtain ⟨k1, k2⟩ := goC_inj cs cs' _ _ (by simpa using h) (fun x hx => h1 x (by simp [hx])) (fun x hx => h2 x (by simp [hx])) e
    have : a = a' ∧ c = c' := by omega
    exact ⟨this.1, by rw [this.2, k2]⟩
  | [], _ :: _, _, _, h, _, _, _ => by simp at h
  | _ :: _, [], _, _, h, _, _, _ => by simp at h
theorem goF_inj : ∀ (fs fs' : List Bool) (a a' : Nat), fs.length = fs'.length → goF a fs = goF a' fs' → a = a' ∧ fs = fs'
  | [], [], a, a', _, e => ⟨e, rfl⟩
  | f :: fs, f' :: fs', a, a', h, e => by
    obtain ⟨k1, k2⟩ := goF_inj fs fs' _ _ (by simpa using h) e
    have : a = a' ∧ f = f' := by cases f <;> cases f' <;> simp at k1 ⊢ <;> omega
    exact ⟨this.1, by rw [this.2, k2]⟩
  | [], _ :: _, _, _, h, _ => by simp at h
  | _ :: _, [], _, _, h, _ => by simp at h
/-- A system of n caches. -/
def okS (n : Nat) (s : Sd) : Prop := s.1.length = n ∧ s.2.1.length = n ∧ ∀ x ∈ s.1, 0 ≤ x ∧ x ≤ 3
theorem code_lt {n : Nat} {s : Sd} (hn : n ≤ 3) (h : okS n s) : code s < 1024 := by
  obtain ⟨h1, h2, h3⟩ := h
  have c1 := goC_lt s.1 0 h3
  have c2 := goF_lt s.2.1 (goC 0 s.1)
  have c3 : s.2.2.1.toNat ≤ 1 := by cases s.2.2.1 <;> simp
  rw [h1] at c1
  rw [h2] at c2
  have c4 : (goC 0 s.1 + 1) * 2 ^ n ≤ 4 ^ n * 2 ^ n := Nat.mul_le_mul_right _ (by omega)
  have c5 : 4 ^ n * 2 ^ n ≤ 512 := by
    match n, hn with
    | 0, _ => decide
    | 1, _ => decide
    | 2, _ => decide
    | 3, _ => decide
  unfold code
  omega
theorem code_inj {n : Nat} {s s' : Sd} (h : okS n s) (h' : okS n s') (e : code s = code s') : s = s' := by
  obtain ⟨cs, fs, m, ⟨⟩⟩ := s
  obtain ⟨cs', fs', m', ⟨⟩⟩ := s'
  obtain ⟨h1, h2, h3⟩ := h
  obtain ⟨g1, g2, g3⟩ := h'
  simp only at h1 h2 h3 g1 g2 g3
  have e0 : 2 * goF (goC 0 cs) fs + m.toNat = 2 * goF (goC 0 cs') fs' + m'.toNat := e
  have e1 : goF (goC 0 cs) fs = goF (goC 0 cs') fs' ∧ m = m' := by cases m <;> cases m' <;> simp at e0 ⊢ <;> omega
  obtain ⟨e2, e3⟩ := goF_inj fs fs' _ _ (by omega) e1.1
  obtain ⟨_, e4⟩ := goC_inj cs cs' _ _ (by omega) h3 g3 e2
  rw [e4, e3, e1.2]
def key (s : Sd) : ByteArray := ⟨(ks s.1 s.2.1 s.2.2.1).toArray⟩
theorem key_inj {n : Nat} {s s' : Sd} (h : okS n s) (h' : okS n s') (e : key s = key s') : s = s' := by
  obtain ⟨cs, fs, m, ⟨⟩⟩ := s
  obtain ⟨cs', fs', m', ⟨⟩⟩ := s'
  obtain ⟨h1, h2, h3⟩ := h
  obtain ⟨g1, g2, g3⟩ := h'
  simp only at h1 h2 h3 g1 g2 g3
  have e0 : ks cs fs m = ks cs' fs' m' := by
    have := congrArg (fun b : ByteArray => b.data.toList) e
    simpa [key] using this
  obtain ⟨k1, k2, k3⟩ := ks_inj cs cs' fs fs' m m' (by omega) (by omega) (by omega) h3 g3 e0
  rw [k1, k2, k3]
def dN : Nd := (([], [], false, ()), 0, (0, 0, ()), ())
abbrev St2 : Type := List Nd × Option Nd
def has (ns : List Nd) (s : Sd) : Bool := ns.any fun nd => decide (nd.1 = s)
section
variable (nx : Sd → Int → Nat → Sd × Bool)
def visit (i : Nat) (k : Int) (c : Nat) (st : St2) : St2 :=
  if (nx (st.1.getD i dN).1 k c).2 = true then (st.1, some (st.2.getD ((nx (st.1.getD i dN).1 k c).1, (i : Int), (k, (c : Int), ()), ())))
  else if has st.1 (nx (st.1.getD i dN).1 k c).1 = true then st else (st.1 ++ [((nx (st.1.getD i dN).1 k c).1, (i : Int), (k, (c : Int), ()), ())], st.2)
def visC (i n : Nat) (k : Int) : Nat → St2 → St2
  | 0, st => st
  | j + 1, st => visC i n k j (visit nx i k (n - (j + 1)) st)
def visK (i n : Nat) : Nat → St2 → St2
  | 0, st => st
  | j + 1, st => visK i n j (visC nx i n ((3 - (j + 1) : Nat) : Int) n st)
def bfs (n : Nat) : Nat → Nat → St2 → St2
  | 0, _, st => st
  | f + 1, i, st => if i < st.1.length then bfs n f (i + 1) (visK nx i n 3 st) else st
/-- The first system. -/
def first (n : Nat) : Sd := (List.replicate n 0, List.replicate n false, true, ())
def start (n : Nat) : St2 := ([(first n, -1, (0, 0, ()), ())], none)
/-- All that is found. -/
def found (n : Nat) : St2 := bfs nx n 1025 0 (start n)
end
/-- What holds of what has been found. -/
structure Inv (n : Nat) (st : St2) : Prop where
  ok : ∀ nd ∈ st.1, okS n nd.1
  nodup : (st.1.map (fun nd => code nd.1)).Nodup
  par : ∀ j (h : j < st.1.length), (st.1[j]).2.1 < j
  last : ∀ nd, st.2 = some nd → 0 ≤ nd.2.1 ∧ nd.2.1 < st.1.length
theorem nodup_le : ∀ (N : Nat) (l : List Nat), l.Nodup → (∀ x ∈ l, x < N) → l.length ≤ N
  | 0, l, _, h => by
    cases l with
    | nil => simp
    | cons x l => exact absurd (h x (by simp)) (by omega)
  | N + 1, l, hn, h => by
    by_cases hN : N ∈ l
    · have h1 : (l.erase N).length + 1 = l.length := by
        rw [List.length_erase_of_mem hN]
        have := List.length_pos_of_mem hN
        omega
      have h2 := nodup_le N (l.erase N) (hn.erase N) (fun x hx => by
        have hx2 := h x (List.mem_of_mem_erase hx)
        have : x ≠ N := fun e => by
          subst e
          exact (List.Nodup.not_mem_erase hn) hx
        omega)
      omega
    · have := nodup_le N l hn (fun x hx => by
        have := h x hx
        have : x ≠ N := fun e => hN (e ▸ hx)
        omega)
      omega
theorem Inv.le {n : Nat} {st : St2} (hn : n ≤ 3) (h : Inv n st) : st.1.length ≤ 1024 := by
  have := nodup_le 1024 _ h.nodup (fun x hx => by
    obtain ⟨nd, h1, rfl⟩ := List.mem_map.1 hx
    exact code_lt hn (h.ok nd h1))
  simpa using this
theorem has_iff {ns : List Nd} {s : Sd} : has ns s = true ↔ ∃ nd ∈ ns, nd.1 = s := by
  simp [has, List.any_eq_true]
section
variable {nx : Sd → Int → Nat → Sd × Bool} {n : Nat}
/-- What a step must be like. -/
def StepOK (nx : Sd → Int → Nat → Sd × Bool) (n : Nat) : Prop := ∀ s k c, okS n s → 0 ≤ k → k ≤ 2 → c < n → okS n (nx s k c).1
theorem visit_inv (hx : StepOK nx n) {st : St2} (h : Inv n st) {i : Nat} (hi : i < st.1.length) {k : Int} (h0 : 0 ≤ k) (h2 : k ≤ 2) {c : Nat} (hc : c < n) : Inv n (visit nx i k c st) ∧ ∃ more, (visit nx i k c st).1 = st.1 ++ more := by
  have hs : okS n (st.1.getD i dN).1 := h.ok _ (by rw [getD_of_lt hi]; exact List.getElem_mem hi)
  have hs2 := hx _ k c hs h0 h2 hc
  unfold visit
  split
  · refine ⟨⟨h.ok, h.nodup, h.par, fun nd hnd => ?_⟩, [], by simp⟩
    simp only [Option.some.injEq] at hnd
    cases hl : st.2 with
    | some x => rw [hl] at hnd; cases hnd; exact h.last _ hl
    | none =>
      rw [hl] at hnd
      simp only [Option.getD_none] at hnd
      subst hnd
      exact ⟨by simp, by simp; omega⟩
  · split
    · exact ⟨h, [], by simp⟩
    · rename_i hh
      refine ⟨⟨fun nd hnd => ?_, ?_, fun j hj => ?_, fun nd hnd => ?_⟩, _, rfl⟩
      · rcases List.mem_append.1 hnd with hnd | hnd
        · exact h.ok nd hnd
        · simp only [List.mem_singleton] at hnd
          subst hnd
          exact hs2
      · simp only [List.map_append, List.map_cons, List.map_nil]
        rw [List.nodup_append]
        refine ⟨h.nodup, by simp, fun a ha b hb => ?_⟩
        simp only [List.mem_singleton] at hb
        subst hb
        obtain ⟨nd, h1, rfl⟩ := List.mem_map.1 ha
        intro e
        exact hh (has_iff.2 ⟨nd, h1, code_inj (h.ok nd h1) hs2 e⟩)
      · simp only [List.length_append, List.length_cons, List.length_nil] at hj
        rw [List.getElem_append]
        split
        · rename_i hj2; exact h.par j hj2
        · simp only [List.getElem_singleton]; omega
      · obtain ⟨a, b⟩ := h.last nd hnd
        exact ⟨a, by simp only [List.length_append, List.length_cons, List.length_nil]; omega⟩
theorem visC_inv (hx : StepOK nx n) {i : Nat} {k : Int} (h0 : 0 ≤ k) (h2 : k ≤ 2) : ∀ (j : Nat) {st : St2}, j ≤ n → Inv n st → i < st.1.length → Inv n (visC nx i n k j st) ∧ ∃ more, (visC nx i n k j st).1 = st.1 ++ more
  | 0, st, _, h, _ => ⟨h, [], by simp [visC]⟩
  | j + 1, st, hj, h, hi => by
    obtain ⟨h1, m1, e1⟩ := visit_inv hx h hi h0 h2 (c := n - (j + 1)) (by omega)
    obtain ⟨h3, m2, e2⟩ := visC_inv hx (i := i) h0 h2 j (by omega) h1 (by rw [e1]; simp; omega)
    exact ⟨h3, m1 ++ m2, by rw [visC, e2, e1, List.append_assoc]⟩
theorem visK_inv (hx : StepOK nx n) {i : Nat} : ∀ (j : Nat) {st : St2}, j ≤ 3 → Inv n st → i < st.1.length → Inv n (visK nx i n j st) ∧ ∃ more, (visK nx i n j st).1 = st.1 ++ more
  | 0, st, _, h, _ => ⟨h, [], by simp [visK]⟩
  | j + 1, st, hj, h, hi => by
    obtain ⟨h1, m1, e1⟩ := visC_inv hx (i := i) (k := ((3 - (j + 1) : Nat) : Int)) (by omega) (by omega) n (Nat.le_refl _) h hi
    obtain ⟨h3, m2, e2⟩ := visK_inv hx (i := i) j (by omega) h1 (by rw [e1]; simp; omega)
    exact ⟨h3, m1 ++ m2, by rw [visK, e2, e1, List.append_assoc]⟩
theorem start_inv (hn : 1 ≤ n) : Inv n (start n) := by
  refine ⟨fun nd hnd => ?_, by simp [start], fun j hj => ?_, fun nd hnd => by cases hnd⟩
  · simp only [start, List.mem_singleton] at hnd
    subst hnd
    refine ⟨by simp [first], by simp [first], fun x hx => ?_⟩
    simp only [first, List.mem_replicate] at hx
    omega
  · have : j = 0 := by simp [start] at hj; exact hj
    subst this
    simp [start]
theorem bfs_inv (hx : StepOK nx n) : ∀ (f i : Nat) {st : St2}, Inv n st → Inv n (bfs nx n f i st)
  | 0, _, _, h => h
  | f + 1, i, st, h => by
    rw [bfs]
    split
    · rename_i hi
      exact bfs_inv hx f (i + 1) (visK_inv hx 3 (Nat.le_refl _) h hi).1
    · exact h
end

/-! paths -/
def pth (ps : List (List Od)) (nd : Nd) : List Od := if nd.2.1 < 0 then [] else ps.getD nd.2.1.toNat [] ++ [nd.2.2.1]
def pathsOf (ns : List Nd) : List (List Od) := ns.foldl (fun ps nd => ps ++ [pth ps nd]) []
theorem pathsOf_snoc (ns : List Nd) (nd : Nd) : pathsOf (ns ++ [nd]) = pathsOf ns ++ [pth (pathsOf ns) nd] := by
  simp [pathsOf, List.foldl_append]
theorem snoc_ind {α : Type} {p : List α → Prop} (h0 : p []) (h1 : ∀ l x, p l → p (l ++ [x])) : ∀ l, p l := by
  intro l
  rw [← List.reverse_reverse l]
  induction l.reverse with
  | nil => exact h0
  | cons x l ih => rw [List.reverse_cons]; exact h1 _ _ ih
theorem pathsOf_length (ns : List Nd) : (pathsOf ns).length = ns.length := by
  induction ns using snoc_ind with
  | h0 => rfl
  | h1 l x ih => rw [pathsOf_snoc, List.length_append, List.length_append, ih]; rfl
/-- The program's queue, all of it. -/
def qAll (ns : List Nd) : List Rd := (ns.zip (pathsOf ns)).map fun p => (p.1.1, p.2, ())
theorem qAll_snoc (ns : List Nd) (nd : Nd) : qAll (ns ++ [nd]) = qAll ns ++ [(nd.1, pth (pathsOf ns) nd, ())] := by
  unfold qAll
  rw [pathsOf_snoc, List.zip_append (by rw [pathsOf_length]), List.map_append]
  rfl
theorem qAll_length (ns : List Nd) : (qAll ns).length = ns.length := by
  simp [qAll, pathsOf_length]
theorem qAll_get {ns : List Nd} {i : Nat} (hi : i < ns.length) : (qAll ns)[i]'(by rw [qAll_length]; exact hi) = ((ns[i]).1, (pathsOf ns)[i]'(by rw [pathsOf_length]; exact hi), ()) := by
  simp [qAll]
/-- The keys that are known. -/
def kvs (ns : List Nd) : List (ByteArray × Bool) := ns.map fun nd => (key nd.1, true)
theorem find_kvs {n : Nat} {s : Sd} (hs : okS n s) : ∀ {ns : List Nd}, (∀ nd ∈ ns, okS n nd.1) → findL (tk := .str) (tv := .bool) (key s) (kvs ns) = if has ns s = true then some true else none
  | [], _ => rfl
  | nd :: ns, h => by
    have ih := find_kvs hs (ns := ns) (fun x hx => h x (by simp [hx]))
    have hk : keyEq .str (key s) (key nd.1) = decide (nd.1 = s) := by
      simp only [keyEq]
      by_cases e : nd.1 = s
      · subst e; simp
      · have : ¬ key s = key nd.1 := fun e2 => e (key_inj hs (h nd (by simp)) e2).symm
        simp [e, this]
    show (if keyEq .str (key s) (key nd.1) = true then some true else findL (tk := .str) (tv := .bool) (key s) (kvs ns)) = _
    rw [ih, hk]
    have hh : has (nd :: ns) s = (decide (nd.1 = s) || has ns s) := rfl
    rw [hh]
    by_cases e : nd.1 = s <;> simp [e]
theorem upd_kvs {n : Nat} {s : Sd} (hs : okS n s) : ∀ {ns : List Nd}, (∀ nd ∈ ns, okS n nd.1) → has ns s = false → updL (tk := .str) (tv := .bool) (key s) true (kvs ns) = kvs ns ++ [(key s, true)]
  | [], _, _ => rfl
  | nd :: ns, h, hh => by
    have h1 : has (nd :: ns) s = (decide (nd.1 = s) || has ns s) := rfl
    rw [h1, Bool.or_eq_false_iff] at hh
    have ih := upd_kvs hs (ns := ns) (fun x hx => h x (by simp [hx])) hh.2
    have hk : keyEq .str (key s) (key nd.1) = false := by
      simp only [keyEq]
      have hne : ¬ nd.1 = s := by simpa using hh.1
      have : ¬ key s = key nd.1 := fun e2 => hne (key_inj hs (h nd (by simp)) e2).symm
      simp [this]
    show (if keyEq .str (key s) (key nd.1) = true then _ else (key nd.1, true) :: updL (tk := .str) (tv := .bool) (key s) true (kvs ns)) = _
    rw [ih, hk]
    rfl
/-- What the reference has marked. -/
def seenL (ns : List Nd) : List Bool := (List.range 1024).map fun j => ns.any fun nd => decide (code nd.1 = j)
theorem seen_length (ns : List Nd) : (seenL ns).length = 1024 := by simp [seenL]
theorem seen_get {n : Nat} {s : Sd} (hn : n ≤ 3) (hs : okS n s) {ns : List Nd} (h : ∀ nd ∈ ns, okS n nd.1) (d : Bool) : (seenL ns).getD (code s) d = has ns s := by
  have hlt := code_lt hn hs
  rw [getD_of_lt (by rw [seen_length]; exact hlt)]
  simp only [seenL, List.getElem_map, List.getElem_range, has]
  have : ∀ {l : List Nd}, (∀ nd ∈ l, okS n nd.1) → (l.any fun nd => decide (code nd.1 = code s)) = l.any fun nd => decide (nd.1 = s) := by
    intro l hl
    induction l with
    | nil => rfl
    | cons x l ih =>
      rw [List.any_cons, List.any_cons, ih (fun y hy => hl y (by simp [hy]))]
      congr 1
      by_cases e : x.1 = s
      · subst e; simp
      · have : ¬ code x.1 = code s := fun e2 => e (code_inj (hl x (by simp)) hs e2)
        simp [e, this]
  exact this h
theorem seen_set {n : Nat} (hn : n ≤ 3) {ns : List Nd} {nd : Nd} (hs : okS n nd.1) : (seenL ns).set (code nd.1) true = seenL (ns ++ [nd]) := by
  apply List.ext_getElem
  · simp [seenL]
  · intro j h1 h2
    simp only [seenL, List.length_set, List.length_map, List.length_range] at h1 h2
    rw [List.getElem_set]
    simp only [seenL, List.getElem_map, List.getElem_range, List.any_append, List.any_cons, List.any_nil, Bool.or_false]
    split
    · rename_i e; simp [e]
    · rename_i e; simp [e]
theorem call_fs (n : Nat) (h : 1 ≤ n ∧ n ≤ 3) : callOf pr 51 [I n] [] = some (.agg [.os (.t 256), .os (.t 384), B true], [(256, .arr true false (.int .i64) (List.replicate n 0)), (384, .arr true false .bool (List.replicate n false))]) := by
  have h1 : (((8 : Nat) : Int) * (n : Int) ≤ 140737488355328) = True := tr (by omega)
  have h2 : ((n : Int) ≤ 9223372036854775807) = True := tr (by omega)
  have h3 : (((1 : Nat) : Int) * (n : Int) ≤ 140737488355328) = True := tr (by omega)
  rw [call_eq pr 51 _ _ Try.f51 fn_51 _ rfl _ ann_51 rfl]
  simp -implicitDefEqProofs only [h1, h2, h3, zero_le_cast, Int.le_refl, Int.toNat_natCast, go_sem, Nat.reduceAdd, Nat.reduceSub, Nat.reduceMul, Nat.reduceMod, Nat.reduceLT, Nat.reduceLeDiff, Nat.reduceEqDiff, Nat.reduceBEq, Nat.reduceDiv, Int.reduceLT, Int.reduceLE, Int.reduceToNat, Int.reduceNeg, Int.reduceEq, ↓reduceIte, reduceCtorEq, ↓reduceDIte]
theorem call_lf (n : Nat) (h : 1 ≤ n ∧ n ≤ 3) : callOf pr 108 [I n] [] = some (.agg [.os (.t 256), .os (.t 384), B true], [(256, .arr true false (.int .i64) (List.replicate n 0)), (384, .arr true false .bool (List.replicate n false))]) := by
  have h1 : (((8 : Nat) : Int) * (n : Int) ≤ 140737488355328) = True := tr (by omega)
  have h2 : ((n : Int) ≤ 9223372036854775807) = True := tr (by omega)
  have h3 : (((1 : Nat) : Int) * (n : Int) ≤ 140737488355328) = True := tr (by omega)
  rw [call_eq pr 108 _ _ Try.f108 fn_108 _ rfl _ ann_108 rfl]
  simp -implicitDefEqProofs only [h1, h2, h3, zero_le_cast, Int.le_refl, Int.toNat_natCast, go_sem, Nat.reduceAdd, Nat.reduceSub, Nat.reduceMul, Nat.reduceMod, Nat.reduceLT, Nat.reduceLeDiff, Nat.reduceEqDiff, Nat.reduceBEq, Nat.reduceDiv, Int.reduceLT, Int.reduceLE, Int.reduceToNat, Int.reduceNeg, Int.reduceEq, ↓reduceIte, reduceCtorEq, ↓reduceDIte]
def mkB (l : List UInt8) : ByteArray := ⟨l.toArray⟩
theorem mkB_push (l : List UInt8) (b : UInt8) : (mkB l).push b = mkB (l ++ [b]) := by
  apply ByteArray.ext
  simp [mkB, ByteArray.push]
theorem mkB_size (l : List UInt8) : (mkB l).size = l.length := by simp [mkB, ByteArray.size]
def kg : List Int → List Bool → List UInt8
  | c :: cs, f :: fs => UInt8.ofNat (48 + c).toNat :: (if f = true then 102 :: kg cs fs else kg cs fs)
  | _, _ => []
theorem ks_kg : ∀ (cs : List Int) (fs : List Bool) (m : Bool), ks cs fs m = kg cs fs ++ (if m = true then [109] else [])
  | c :: cs, f :: fs, m => by
    simp only [ks, kg, ks_kg cs fs m]
    cases f <;> simp
  | [], _, m => by simp [ks, kg]
  | _ :: _, [], m => by simp [ks, kg]
theorem call_wbl (l : List UInt8) (c : Int) (h0 : 0 ≤ c) (h1 : c < 256) (hl : l.length < 1000000) : callOf pr 115 [.op 1000000 0, .d (.int .u8) c] [(1000000, .bld false 156 5 (mkB l))] = some (.d .err false, [(1000000, .bld false 156 5 (mkB (l ++ [UInt8.ofNat c.toNat])))]) := by
  rw [call_wb (mkB l) c h0 h1 (by rw [mkB_size]; omega), mkB_push]
theorem loop_key (cs : List Int) (fs : List Bool) (m : Bool) (hl : cs.length ≤ 3) (hcf : cs.length = fs.length) : ∀ (rest pre : List Int) (fr fp : List Bool) (acc : List UInt8), cs = pre ++ rest → fs = fp ++ fr → pre.length = fp.length → (∀ x ∈ rest, 0 ≤ x ∧ x ≤ 3) → acc.length + 2 * rest.length < 900 →
    loopOf pr 91 0 ⟨[(1, .op 64 0), (3, .op 192 0), (7, cI cs), (8, I cs.length), (9, I pre.length)], [(64, .box [cI cs, LB fs, B m]), (192, .bld false 156 5 (mkB acc))]⟩ =
      some (.exit 0, ⟨[(1, .op 64 0), (3, .op 192 0), (7, cI cs), (8, I cs.length), (9, I cs.length)], [(64, .box [cI cs, LB fs, B m]), (192, .bld false 156 5 (mkB (acc ++ kg rest fr)))]⟩)
  | [], pre, fr, fp, acc, h, hf, hp, _, _ => by
    have hlen : cs.length = pre.length := by rw [h]; simp
    rw [loop_eq pr 91 0 _ Try.f91 fn_91 _ rfl _ ann_91 _ rfl]
    simp -implicitDefEqProofs only [hlen, Int.lt_irrefl, go_sem, Nat.reduceAdd, Nat.reduceSub, Nat.reduceMul, Nat.reduceMod, Nat.reduceLT, Nat.reduceLeDiff, Nat.reduceEqDiff, Nat.reduceBEq, Nat.reduceDiv, Int.reduceLT, Int.reduceLE, Int.reduceToNat, Int.reduceNeg, Int.reduceEq, ↓reduceIte, reduceCtorEq, ↓reduceDIte]
    simp [kg]
  | c :: rest, pre, fr, fp, acc, h, hf, hp, hx, ha => by
    have hlen : cs.length = pre.length + (rest.length + 1) := by rw [h]; simp
    obtain ⟨f, fr, rfl⟩ : ∃ f fr', fr = f :: fr' := by
      cases fr with
      | nil => rw [hf] at hcf; simp at hcf; omega
      | cons f fr => exact ⟨f, fr, rfl⟩
    have hk : pre.length < cs.length := by omega
    have hkf : pre.length < fs.length := by omega
    have hg : ∀ z, cs.getD pre.length z = c := by intro z; rw [h]; simp
    have hgf : ∀ z, fs.getD pre.length z = f := by intro z; rw [hf, hp]; simp
    have hc := hx c (by simp)
    have hw1 : IntKind.i64.wrap (48 + c) = 48 + c := by rw [wrap_i] <;> omega
    have hw2 : IntKind.u8.wrap (48 + c) = 48 + c := by simp [IntKind.wrap, IntKind.signed, IntKind.bits]; omega
    have hws := wrap_succ hk (show cs.length < 1000000000000000000 by omega)
    simp only [List.length_cons] at ha
    have hb1 := call_wbl acc (48 + c) (by omega) (by omega) (by omega)
    have hb2 := call_wbl (acc ++ [UInt8.ofNat (48 + c).toNat]) 102 (by omega) (by omega) (by simp; omega)
    have e1 : (pre ++ [c]).length = pre.length + 1 := by simp
    cases f with
    | false =>
      have ih := loop_key cs fs m hl hcf rest (pre ++ [c]) fr (fp ++ [false]) (acc ++ [UInt8.ofNat (48 + c).toNat]) (by rw [h]; simp) (by rw [hf]; simp) (by simp [hp]) (fun x hy => hx x (by simp [hy])) (by simp; omega)
      rw [e1] at ih
      rw [loop_eq pr 91 0 _ Try.f91 fn_91 _ rfl _ ann_91 _ rfl]
      simp -implicitDefEqProofs only [lt_cast hk, lt_cast hkf, zero_le_cast, Int.toNat_natCast, hg, hgf, hw1, hw2, hws, hb1, go_sem, Nat.reduceAdd, Nat.reduceSub, Nat.reduceMul, Nat.reduceMod, Nat.reduceLT, Nat.reduceLeDiff, Nat.reduceEqDiff, Nat.reduceBEq, Nat.reduceDiv, Int.reduceLT, Int.reduceLE, Int.reduceToNat, Int.reduceNeg, Int.reduceEq, ↓reduceIte, reduceCtorEq, ↓reduceDIte]
      rw [ih]
      simp [kg]
    | true =>
      have ih := loop_key cs fs m hl hcf rest (pre ++ [c]) fr (fp ++ [true]) (acc ++ [UInt8.ofNat (48 + c).toNat] ++ [102]) (by rw [h]; simp) (by rw [hf]; simp) (by simp [hp]) (fun x hy => hx x (by simp [hy])) (by simp; omega)
      rw [e1] at ih
      rw [loop_eq pr 91 0 _ Try.f91 fn_91 _ rfl _ ann_91 _ rfl]
      simp -implicitDefEqProofs only [lt_cast hk, lt_cast hkf, zero_le_cast, Int.toNat_natCast, hg, hgf, hw1, hw2, hws, hb1, hb2, go_sem, Nat.reduceAdd, Nat.reduceSub, Nat.reduceMul, Nat.reduceMod, Nat.reduceLT, Nat.reduceLeDiff, Nat.reduceEqDiff, Nat.reduceBEq, Nat.reduceDiv, Int.reduceLT, Int.reduceLE, Int.reduceToNat, Int.reduceNeg, Int.reduceEq, ↓reduceIte, reduceCtorEq, ↓reduceDIte]
      rw [show UInt8.ofNat 102 = (102 : UInt8) from rfl, ih]
      simp [kg]
theorem kg_length : ∀ (cs : List Int) (fs : List Bool), (kg cs fs).length ≤ 2 * cs.length
  | c :: cs, f :: fs => by
    have := kg_length cs fs
    simp only [kg]
    split <;> simp only [List.length_cons] <;> omega
  | [], _ => by simp [kg]
  | _ :: _, [] => by simp [kg]
theorem call_key {n : Nat} (s : Sd) (hn : n ≤ 3) (h : okS n s) : callOf pr 91 [.agg [cI s.1, LB s.2.1, B s.2.2.1]] [] = some (S (key s), []) := by
  obtain ⟨cs, fs, m, ⟨⟩⟩ := s
  obtain ⟨h1, h2, h3⟩ := h
  simp only at h1 h2 h3
  have hl := loop_key cs fs m (by omega) (by omega) cs [] fs [] [] rfl rfl rfl h3 (by simp; omega)
  have hl : loopOf pr 91 0 ⟨[(1, .op 64 0), (3, .op 192 0), (7, cI cs), (8, I cs.length), (9, I 0)], [(64, .box [cI cs, LB fs, B m]), (192, .bld false 156 5 ByteArray.empty)]⟩ = _ := hl
  rw [List.nil_append] at hl
  have hk := kg_length cs fs
  have hb := call_wbl (kg cs fs) 109 (by omega) (by omega) (by omega)
  have hb : callOf pr 115 [.op 1000000 0, .d (.int .u8) (109 : Int)] _ = _ := hb
  have hs1 := call_bs (mkB (kg cs fs))
  have hs2 := call_bs (mkB (kg cs fs ++ [109]))
  have e : key (cs, fs, m, ()) = mkB (kg cs fs ++ (if m = true then [109] else [])) := by
    show (⟨(ks cs fs m).toArray⟩ : ByteArray) = _
    rw [ks_kg]; rfl
  rw [e, call_eq pr 91 _ _ Try.f91 fn_91 _ rfl _ ann_91 rfl]
  have h109 : UInt8.ofNat (Int.toNat 109) = 109 := rfl
  rw [h109] at hb
  cases m with
  | false =>
    simp -implicitDefEqProofs only [hl, hs1, List.append_nil, go_sem, Nat.reduceAdd, Nat.reduceSub, Nat.reduceMul, Nat.reduceMod, Nat.reduceLT, Nat.reduceLeDiff, Nat.reduceEqDiff, Nat.reduceBEq, Nat.reduceDiv, Int.reduceLT, Int.reduceLE, Int.reduceToNat, Int.reduceNeg, Int.reduceEq, ↓reduceIte, reduceCtorEq, ↓reduceDIte]
  | true =>
    simp -implicitDefEqProofs only [hl, hb, hs2, go_sem, Nat.reduceAdd, Nat.reduceSub, Nat.reduceMul, Nat.reduceMod, Nat.reduceLT, Nat.reduceLeDiff, Nat.reduceEqDiff, Nat.reduceBEq, Nat.reduceDiv, Int.reduceLT, Int.reduceLE, Int.reduceToNat, Int.reduceNeg, Int.reduceEq, ↓reduceIte, reduceCtorEq, ↓reduceDIte]
theorem loop_c0 (cs : List Int) (fs : List Bool) (m : Bool) (hl : cs.length ≤ 3) : ∀ (rest pre : List Int) (a : Nat), cs = pre ++ rest → (∀ x ∈ rest, 0 ≤ x ∧ x ≤ 3) → (a + 1) * 4 ^ rest.length ≤ 64 →
    loopOf pr 109 0 ⟨[(0, pS cs fs m), (3, I a), (4, I pre.length)], []⟩ = some (.exit 0, ⟨[(0, pS cs fs m), (3, I (goC a rest)), (4, I cs.length)], []⟩)
  | [], pre, a, h, _, _ => by
    have hlen : cs.length = pre.length := by rw [h]; simp
    rw [loop_eq pr 109 0 _ Try.f109 fn_109 _ rfl _ ann_109 _ rfl]
    simp -implicitDefEqProofs only [hlen, Int.lt_irrefl, go_sem, Nat.reduceAdd, Nat.reduceSub, Nat.reduceMul, Nat.reduceMod, Nat.reduceLT, Nat.reduceLeDiff, Nat.reduceEqDiff, Nat.reduceBEq, Nat.reduceDiv, Int.reduceLT, Int.reduceLE, Int.reduceToNat, Int.reduceNeg, Int.reduceEq, ↓reduceIte, reduceCtorEq, ↓reduceDIte]
    rfl
  | c :: rest, pre, a, h, hx, ha => by
    have hlen : cs.length = pre.length + (rest.length + 1) := by rw [h]; simp
    have hk : pre.length < cs.length := by omega
    have hg : ∀ z, cs.getD pre.length z = c := by intro z; rw [h]; simp
    have hc := hx c (by simp)
    have hp4 : 1 ≤ 4 ^ rest.length := Nat.pow_pos (by omega)
    have ha2 : (4 * a + c.toNat + 1) * 4 ^ rest.length ≤ 64 := by
      have h1 : (4 * a + c.toNat + 1) * 4 ^ rest.length ≤ (4 * (a + 1)) * 4 ^ rest.length := Nat.mul_le_mul_right _ (by omega)
      have h2 : (a + 1) * 4 ^ (c :: rest).length = 4 * (a + 1) * 4 ^ rest.length := by
        simp only [List.length_cons, Nat.pow_succ]
        rw [Nat.mul_comm (4 ^ rest.length) 4, ← Nat.mul_assoc, Nat.mul_comm (a + 1) 4]
      omega
    have ha3 : 4 * a + c.toNat + 1 ≤ 64 := Nat.le_trans (by have := Nat.mul_le_mul_left (4 * a + c.toNat + 1) hp4; omega) ha2
    have hw1 : IntKind.i64.wrap (4 * (a : Int)) = 4 * (a : Int) := by rw [wrap_i] <;> omega
    have hw2 : IntKind.i64.wrap (4 * (a : Int) + c) = ((4 * a + c.toNat : Nat) : Int) := by rw [wrap_i] <;> omega
    have hws := wrap_succ hk (show cs.length < 1000000000000000000 by omega)
    have ih := loop_c0 cs fs m hl rest (pre ++ [c]) (4 * a + c.toNat) (by rw [h]; simp) (fun x hy => hx x (by simp [hy])) ha2
    have e1 : (pre ++ [c]).length = pre.length + 1 := by simp
    rw [e1] at ih
    rw [loop_eq pr 109 0 _ Try.f109 fn_109 _ rfl _ ann_109 _ rfl]
    simp -implicitDefEqProofs only [lt_cast hk, zero_le_cast, Int.toNat_natCast, hg, hw1, hw2, hws, go_sem, Nat.reduceAdd, Nat.reduceSub, Nat.reduceMul, Nat.reduceMod, Nat.reduceLT, Nat.reduceLeDiff, Nat.reduceEqDiff, Nat.reduceBEq, Nat.reduceDiv, Int.reduceLT, Int.reduceLE, Int.reduceToNat, Int.reduceNeg, Int.reduceEq, ↓reduceIte, reduceCtorEq, ↓reduceDIte]
    exact ih
theorem loop_c1 (cs : List Int) (fs : List Bool) (m : Bool) (hl : fs.length ≤ 3) : ∀ (rest pre : List Bool) (a : Nat), fs = pre ++ rest → (a + 1) * 2 ^ rest.length ≤ 512 →
    loopOf pr 109 1 ⟨[(0, pS cs fs m), (3, I a), (5, I pre.length)], []⟩ = some (.exit 2, ⟨[(0, pS cs fs m), (3, I (goF a rest)), (5, I fs.length)], []⟩)
  | [], pre, a, h, _ => by
    have hlen : fs.length = pre.length := by rw [h]; simp
    rw [loop_eq pr 109 1 _ Try.f109 fn_109 _ rfl _ ann_109 _ rfl]
    simp -implicitDefEqProofs only [hlen, Int.lt_irrefl, go_sem, Nat.reduceAdd, Nat.reduceSub, Nat.reduceMul, Nat.reduceMod, Nat.reduceLT, Nat.reduceLeDiff, Nat.reduceEqDiff, Nat.reduceBEq, Nat.reduceDiv, Int.reduceLT, Int.reduceLE, Int.reduceToNat, Int.reduceNeg, Int.reduceEq, ↓reduceIte, reduceCtorEq, ↓reduceDIte]
    rfl
  | f :: rest, pre, a, h, ha => by
    have hlen : fs.length = pre.length + (rest.length + 1) := by rw [h]; simp
    have hk : pre.length < fs.length := by omega
    have hg : ∀ z, fs.getD pre.length z = f := by intro z; rw [h]; simp
    have hf : f.toNat ≤ 1 := by cases f <;> simp
    have hp4 : 1 ≤ 2 ^ rest.length := Nat.one_le_two_pow
    have ha2 : (2 * a + f.toNat + 1) * 2 ^ rest.length ≤ 512 := by
      have h1 : (2 * a + f.toNat + 1) * 2 ^ rest.length ≤ (2 * (a + 1)) * 2 ^ rest.length := Nat.mul_le_mul_right _ (by omega)
      have h2 : (a + 1) * 2 ^ (f :: rest).length = 2 * (a + 1) * 2 ^ rest.length := by
        simp only [List.length_cons, Nat.pow_succ]
        rw [Nat.mul_comm (2 ^ rest.length) 2, ← Nat.mul_assoc, Nat.mul_comm (a + 1) 2]
      omega
    have ha3 : 2 * a + f.toNat + 1 ≤ 512 := Nat.le_trans (by have := Nat.mul_le_mul_left (2 * a + f.toNat + 1) hp4; omega) ha2
    have hw1 : IntKind.i64.wrap ((a : Int) * 2) = ((2 * a : Nat) : Int) := by rw [wrap_i] <;> omega
    have hw2 : IntKind.i64.wrap (((2 * a : Nat) : Int) + 1) = ((2 * a + 1 : Nat) : Int) := by rw [wrap_i] <;> omega
    have hws := wrap_succ hk (show fs.length < 1000000000000000000 by omega)
    have ih := loop_c1 cs fs m hl rest (pre ++ [f]) (2 * a + f.toNat) (by rw [h]; simp) ha2
    have e1 : (pre ++ [f]).length = pre.length + 1 := by simp
    rw [e1] at ih
    rw [loop_eq pr 109 1 _ Try.f109 fn_109 _ rfl _ ann_109 _ rfl]
    cases f with
    | false =>
      simp -implicitDefEqProofs only [lt_cast hk, zero_le_cast, Int.toNat_natCast, hg, hw1, hws, go_sem, Nat.reduceAdd, Nat.reduceSub, Nat.reduceMul, Nat.reduceMod, Nat.reduceLT, Nat.reduceLeDiff, Nat.reduceEqDiff, Nat.reduceBEq, Nat.reduceDiv, Int.reduceLT, Int.reduceLE, Int.reduceToNat, Int.reduceNeg, Int.reduceEq, ↓reduceIte, reduceCtorEq, ↓reduceDIte]
      exact ih
    | true =>
      simp -implicitDefEqProofs only [lt_cast hk, zero_le_cast, Int.toNat_natCast, hg, hw1, hw2, hws, go_sem, Nat.reduceAdd, Nat.reduceSub, Nat.reduceMul, Nat.reduceMod, Nat.reduceLT, Nat.reduceLeDiff, Nat.reduceEqDiff, Nat.reduceBEq, Nat.reduceDiv, Int.reduceLT, Int.reduceLE, Int.reduceToNat, Int.reduceNeg, Int.reduceEq, ↓reduceIte, reduceCtorEq, ↓reduceDIte]
      exact ih
theorem call_code {n : Nat} (s : Sd) (hn : n ≤ 3) (h : okS n s) : callOf pr 109 [pS s.1 s.2.1 s.2.2.1] [] = some (I (code s), []) := by
  obtain ⟨cs, fs, m, ⟨⟩⟩ := s
  obtain ⟨h1, h2, h3⟩ := h
  simp only at h1 h2 h3
  have c1 := goC_lt cs 0 h3
  have c2 := goF_lt fs (goC 0 cs)
  have c5 : 4 ^ n ≤ 64 ∧ 4 ^ n * 2 ^ n ≤ 512 := by
    match n, hn with
    | 0, _ => decide
    | 1, _ => decide
    | 2, _ => decide
    | 3, _ => decide
  rw [h1] at c1
  rw [h2] at c2
  have c4 : (goC 0 cs + 1) * 2 ^ n ≤ 4 ^ n * 2 ^ n := Nat.mul_le_mul_right _ (by omega)
  have l0 := loop_c0 cs fs m (by omega) cs [] 0 rfl h3 (by rw [h1]; omega)
  have l1 := loop_c1 cs fs m (by omega) fs [] (goC 0 cs) rfl (by rw [h2]; omega)
  have l0 : loopOf pr 109 0 ⟨[(0, pS cs fs m), (3, I 0), (4, I 0)], []⟩ = _ := l0
  have l1 : loopOf pr 109 1 ⟨[(0, pS cs fs m), (3, I (goC 0 cs)), (5, I 0)], []⟩ = _ := l1
  have hw1 : IntKind.i64.wrap ((goF (goC 0 cs) fs : Int) * 2) = ((2 * goF (goC 0 cs) fs : Nat) : Int) := by rw [wrap_i] <;> omega
  have hw2 : IntKind.i64.wrap (((2 * goF (goC 0 cs) fs : Nat) : Int) + 1) = ((2 * goF (goC 0 cs) fs + 1 : Nat) : Int) := by rw [wrap_i] <;> omega
  rw [call_eq pr 109 _ _ Try.f109 fn_109 _ rfl _ ann_109 rfl]
  cases m with
  | false =>
    simp -implicitDefEqProofs only [l0, l1, hw1, go_sem, Nat.reduceAdd, Nat.reduceSub, Nat.reduceMul, Nat.reduceMod, Nat.reduceLT, Nat.reduceLeDiff, Nat.reduceEqDiff, Nat.reduceBEq, Nat.reduceDiv, Int.reduceLT, Int.reduceLE, Int.reduceToNat, Int.reduceNeg, Int.reduceEq, ↓reduceIte, reduceCtorEq, ↓reduceDIte]
    rfl
  | true =>
    simp -implicitDefEqProofs only [l0, l1, hw1, hw2, go_sem, Nat.reduceAdd, Nat.reduceSub, Nat.reduceMul, Nat.reduceMod, Nat.reduceLT, Nat.reduceLeDiff, Nat.reduceEqDiff, Nat.reduceBEq, Nat.reduceDiv, Int.reduceLT, Int.reduceLE, Int.reduceToNat, Int.reduceNeg, Int.reduceEq, ↓reduceIte, reduceCtorEq, ↓reduceDIte]
    rfl
def okR (t : List Ru) : Prop := ∀ r ∈ t, (0 ≤ r.1 ∧ r.1 ≤ 3) ∧ (0 ≤ r.2.1 ∧ r.2.1 ≤ 3)
theorem okR_get {t : List Ru} (h : okR t) (j : Nat) : (0 ≤ (t.getD j rZ).1 ∧ (t.getD j rZ).1 ≤ 3) ∧ (0 ≤ (t.getD j rZ).2.1 ∧ (t.getD j rZ).2.1 ≤ 3) := by
  by_cases hj : j < t.length
  · rw [getD_of_lt hj]; exact h _ (List.getElem_mem hj)
  · rw [show t.getD j rZ = rZ from by simp [List.getD, List.getElem?_eq_none (Nat.le_of_not_lt hj)]]
    exact ⟨⟨by decide, by decide⟩, ⟨by decide, by decide⟩⟩
abbrev rng (cs : List Int) : Prop := ∀ x ∈ cs, 0 ≤ x ∧ x ≤ 3
theorem rng_set {cs : List Int} (h : rng cs) (n : Nat) {v : Int} (hv : 0 ≤ v ∧ v ≤ 3) : rng (cs.set n v) := by
  intro x hx
  rcases List.mem_or_eq_of_mem_set hx with hx | rfl
  · exact h x hx
  · exact hv
theorem see_rng {rules : List Ru} (hr : okR rules) (c : Int) : ∀ (cs : List Int) (fs : List Bool) (i : Int) (m : Bool) (k : Int), rng cs → rng (seeL rules c i cs fs m k).1
  | [], [], _, _, _, h => h
  | [], _ :: _, _, _, _, h => h
  | _ :: _, [], _, _, _, h => h
  | x :: cs, f :: fs, i, m, k, h => by
    have g : rng cs := fun y hy => h y (by simp [hy])
    by_cases hk : i = c ∨ x = 0
    · rw [see_skip rules c i x cs f fs m k hk]
      have ih := see_rng hr c cs fs (i + 1) m k g
      intro y hy
      rcases List.mem_cons.1 hy with rfl | hy
      · exact h y (by simp)
      · exact ih y hy
    · rw [seeL, if_neg (by simpa using hk)]
      intro y hy
      rcases List.mem_cons.1 hy with rfl | hy
      · exact (okR_get hr _).1
      · exact see_rng hr c cs fs (i + 1) _ _ g y hy
/-- The next system, and whether there is a flaw. -/
def nextF (a b v d e : List Ru) (s : Sd) (k : Int) (c : Nat) : Sd × Bool :=
  (((stepS a b v d e k c s.1 s.2.1 s.2.2.1).1, (stepS a b v d e k c s.1 s.2.1 s.2.2.1).2.1, (stepS a b v d e k c s.1 s.2.1 s.2.2.1).2.2.1, ()), flawB (stepS a b v d e k c s.1 s.2.1 s.2.2.1))
theorem step_ok {a b v d e : List Ru} (ha : okR a) (hb : okR b) (hv : okR v) (hd : okR d) (he : okR e) (k : Int) (n : Nat) (cs : List Int) (fs : List Bool) (m : Bool) (hcf : cs.length = fs.length) (hx : rng cs) :
    (stepS a b v d e k n cs fs m).1.length = cs.length ∧ (stepS a b v d e k n cs fs m).2.1.length = fs.length ∧ rng (stepS a b v d e k n cs fs m).1 := by
  unfold stepS
  split
  · split
    · have h1 := see_len d n cs fs 0 m 0 hcf
      have h2 := see_rng hd n cs fs 0 m 0 hx
      unfold sR0
      refine ⟨?_, ?_, ?_⟩
      · simp only
        split <;> simp [h1.1]
      · simp [h1.2]
      · simp only
        split
        · exact rng_set (rng_set h2 _ (okR_get ha _).1) _ (okR_get ha _).2
        · exact rng_set h2 _ (okR_get ha _).1
    · unfold sR1
      exact ⟨by simp, rfl, rng_set hx _ (okR_get ha _).1⟩
  · split
    · have h1 := see_len e n cs fs 0 m 0 hcf
      have h2 := see_rng he n cs fs 0 m 0 hx
      unfold aftW
      split
      · exact ⟨by simp [h1.1], by simp [h1.2], rng_set h2 _ (okR_get hb _).1⟩
      · exact ⟨by simp, by simp, rng_set hx _ (okR_get hb _).1⟩
    · unfold aftE
      exact ⟨by simp, by simp, rng_set hx _ (by decide)⟩
theorem next_ok {a b v d e : List Ru} (ha : okR a) (hb : okR b) (hv : okR v) (hd : okR d) (he : okR e) (n : Nat) : StepOK (nextF a b v d e) n := by
  intro s k c hs h0 h2 hc
  obtain ⟨h1, h3, h4⟩ := hs
  obtain ⟨g1, g2, g3⟩ := step_ok ha hb hv hd he k c s.1 s.2.1 s.2.2.1 (by omega) h4
  exact ⟨by show _ = n; rw [← h1]; exact g1, by show _ = n; rw [← h3]; exact g2, g3⟩
theorem prot_okR {a b v d e : List Ru} (h : protB a b v d e = true) : okR a ∧ okR b ∧ okR v ∧ okR d ∧ okR e := by
  simp only [protB, Bool.and_eq_true, List.all_cons, List.all_nil, and_true] at h
  have key : ∀ {t : List Ru}, tabOk t = true → okR t := by
    intro t ht r hr
    simp only [tabOk, Bool.and_eq_true, List.all_eq_true] at ht
    have := ht.2 r hr
    simpa [ruleB, copyB] using this
  exact ⟨key h.1.1.1, key h.1.1.2.1, key h.1.1.2.2.1, key h.1.1.2.2.2.1, key h.1.1.2.2.2.2⟩
/-- Paths are no longer than their places. -/
theorem paths_le : ∀ (ns : List Nd), (∀ j (h : j < ns.length), (ns[j]).2.1 < j) → ∀ j (h : j < (pathsOf ns).length), ((pathsOf ns)[j]).length ≤ j := by
  intro ns
  induction ns using snoc_ind with
  | h0 => intro _ j h; simp [pathsOf] at h
  | h1 l x ih =>
    intro hp j h
    have hl := pathsOf_length l
    have ih := ih (fun j h => by
      have := hp j (by simp; omega)
      rw [List.getElem_append_left h] at this
      exact this)
    have e := pathsOf_snoc l x
    have hj : j < l.length + 1 := by rw [e] at h; simp [hl] at h; exact h
    have : (pathsOf (l ++ [x]))[j]'h = (pathsOf l ++ [pth (pathsOf l) x])[j]'(by rw [← e]; exact h) := by congr 1
    rw [this, List.getElem_append]
    split
    · rename_i h2; exact ih j h2
    · rename_i h2
      have hjl : j = l.length := by omega
      simp only [List.getElem_singleton]
      have hx := hp l.length (by simp)
      simp at hx
      unfold pth
      split
      · simp
      · rename_i h0
        have hlt : x.2.1.toNat < (pathsOf l).length := by omega
        rw [getD_of_lt hlt, List.length_append]
        have := ih _ hlt
        simp only [List.length_cons, List.length_nil]
        omega
end Go.Proofs.Ythmnlokdikomkaa.PI
