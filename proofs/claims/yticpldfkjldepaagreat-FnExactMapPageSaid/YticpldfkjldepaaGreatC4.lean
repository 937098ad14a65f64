/- Spaces, as the reference looks at them: all of it. -/
import Derived.Test.YticpldfkjldepaaGreatC3
namespace Go.Proofs.YticpldfkjldepaaGreat.PI
open Go Go.Q
set_option maxRecDepth 100000
set_option maxHeartbeats 4000000
set_option linter.unusedSimpArgs false
set_option linter.unusedVariables false
def badT : List Bool → List (List En) → List Bool × List AV
  | tk, [] => (tk, [])
  | tk, t :: ts => match walkE tk t with
    | some tk' => badT tk' ts
    | none => badE tk t
theorem loop_tabs (r : List Int) (b : List Ca) : ∀ (suf pre : List (List En)) (tk : List Bool), tk.length = 16 → (∀ t ∈ suf, t.length = 8) → pre.length + suf.length < 1000000 →
    loopOf pr 59 0 ⟨[(0, .rp [L r, LLE (pre ++ suf), LC b]), (3, .os (.t 1216)), (4, I pre.length)], [(1216, .arr true false .bool tk)]⟩ = match walkT tk suf with
      | some tk' => some (.exit 0, ⟨[(0, .rp [L r, LLE (pre ++ suf), LC b]), (3, .os (.t 1216)), (4, I ((pre.length + suf.length : Nat) : Int))], [(1216, .arr true false .bool tk')]⟩)
      | none => some (.ret, ⟨[(2, B false)], [(1216, .arr true false .bool (badT tk suf).1), (384, .box (badT tk suf).2)]⟩)
  | [], pre, tk, htk, hl, hb => by
    simp only [walkT]
    rw [loop_eq pr 59 0 _ Tryz.f59 fn_59 _ rfl _ ann_59 _ rfl]
    simp -implicitDefEqProofs only [Int.lt_irrefl, List.append_nil, Nat.add_zero, go_sem, Nat.reduceAdd, Nat.reduceSub, Nat.reduceMul, Nat.reduceMod, Nat.reduceLT, Nat.reduceLeDiff, Nat.reduceEqDiff, Nat.reduceBEq, Nat.reduceDiv, Int.reduceLT, Int.reduceLE, Int.reduceToNat, Int.reduceNeg, Int.reduceEq, ↓reduceIte, reduceCtorEq, ↓reduceDIte]
  | x :: suf, pre, tk, htk, hl, hb => by
    simp only [List.length_cons] at hb
    have hw : IntKind.i64.wrap ((pre.length : Int) + 1) = ((pre.length + 1 : Nat) : Int) := by rw [wrap_i] <;> omega
    have h := loop_ent r b pre suf x [] tk htk (by simp [hl x (by simp)]) (by omega)
    simp only [List.nil_append, List.length_nil] at h
    have h : loopOf pr 59 1 ⟨[(0, .rp [L r, LLE (pre ++ x :: suf), LC b]), (3, .os (.t 1216)), (4, I pre.length), (5, I 0)], [(1216, .arr true false .bool tk)]⟩ = _ := h
    simp only [walkT, badT]
    rw [loop_eq pr 59 0 _ Tryz.f59 fn_59 _ rfl _ ann_59 _ rfl]
    cases hx : walkE tk x with
    | none =>
      rw [hx] at h
      simp -implicitDefEqProofs only [getD_app, lt_app, ltn_app, zero_le_cast, Int.toNat_natCast, h, hw, go_sem, Nat.reduceAdd, Nat.reduceSub, Nat.reduceMul, Nat.reduceMod, Nat.reduceLT, Nat.reduceLeDiff, Nat.reduceEqDiff, Nat.reduceBEq, Nat.reduceDiv, Int.reduceLT, Int.reduceLE, Int.reduceToNat, Int.reduceNeg, Int.reduceEq, ↓reduceIte, reduceCtorEq, ↓reduceDIte]
    | some tk' =>
      rw [hx] at h
      have ih := loop_tabs r b suf (pre ++ [x]) tk' (by rw [walkE_length hx, htk]) (fun t ht => hl t (by simp [ht])) (by simp; omega)
      have e1 : (pre ++ [x]).length = pre.length + 1 := by simp
      have e2 : pre.length + 1 + suf.length = pre.length + (x :: suf).length := by simp; omega
      rw [app_one, e1, e2] at ih
      simp -implicitDefEqProofs only [getD_app, lt_app, ltn_app, zero_le_cast, Int.toNat_natCast, h, hw, go_sem, Nat.reduceAdd, Nat.reduceSub, Nat.reduceMul, Nat.reduceMod, Nat.reduceLT, Nat.reduceLeDiff, Nat.reduceEqDiff, Nat.reduceBEq, Nat.reduceDiv, Int.reduceLT, Int.reduceLE, Int.reduceToNat, Int.reduceNeg, Int.reduceEq, ↓reduceIte, reduceCtorEq, ↓reduceDIte]
      exact ih
theorem badE_box : ∀ {es : List En} {tk : List Bool}, walkE tk es = none → ∃ (f : Int) (w u d : Bool), (badE tk es).2 = [I f, B w, B u, B d]
  | [], tk, h => by simp [walkE] at h
  | e :: es, tk, h => by
    simp only [walkE] at h
    simp only [badE]
    cases hs : stepT tk e with
    | none => exact ⟨_, _, _, _, rfl⟩
    | some tk' => rw [hs] at h; exact badE_box h
theorem badT_box : ∀ {ts : List (List En)} {tk : List Bool}, walkT tk ts = none → ∃ (f : Int) (w u d : Bool), (badT tk ts).2 = [I f, B w, B u, B d]
  | [], tk, h => by simp [walkT] at h
  | t :: ts, tk, h => by
    simp only [walkT] at h
    simp only [badT]
    cases hs : walkE tk t with
    | none => exact badE_box hs
    | some tk' => rw [hs] at h; exact badT_box h
def bufB : List Ca → List Ca → Bool
  | _, [] => true
  | pre, c :: cs => addrB c.1 && frameB c.2.1 && !pre.any (pageAt c.1) && bufB (pre ++ [c]) cs
theorem loop_buf (r : List Int) (t : List (List En)) : ∀ (suf pre : List Ca), pre.length + suf.length < 1000000 →
    loopOf pr 59 2 ⟨[(0, .rp [L r, LLE t, LC (pre ++ suf)]), (7, I pre.length)], []⟩ = if bufB pre suf = true then some (.exit 4, ⟨[(0, .rp [L r, LLE t, LC (pre ++ suf)]), (7, I ((pre.length + suf.length : Nat) : Int))], []⟩) else some (.ret, ⟨[(2, B false)], []⟩)
  | [], pre, hb => by
    rw [if_pos (by simp [bufB]), loop_eq pr 59 2 _ Tryz.f59 fn_59 _ rfl _ ann_59 _ rfl]
    simp -implicitDefEqProofs only [Int.lt_irrefl, List.append_nil, Nat.add_zero, go_sem, Nat.reduceAdd, Nat.reduceSub, Nat.reduceMul, Nat.reduceMod, Nat.reduceLT, Nat.reduceLeDiff, Nat.reduceEqDiff, Nat.reduceBEq, Nat.reduceDiv, Int.reduceLT, Int.reduceLE, Int.reduceToNat, Int.reduceNeg, Int.reduceEq, ↓reduceIte, reduceCtorEq, ↓reduceDIte]
  | (p, f, w, ()) :: suf, pre, hb => by
    simp only [List.length_cons] at hb
    have hw : IntKind.i64.wrap ((pre.length : Int) + 1) = ((pre.length + 1 : Nat) : Int) := by rw [wrap_i] <;> omega
    have ih := loop_buf r t suf (pre ++ [(p, f, w, ())]) (by simp; omega)
    have e1 : (pre ++ [(p, f, w, ())]).length = pre.length + 1 := by simp
    have e2 : pre.length + 1 + suf.length = pre.length + ((p, f, w, ()) :: suf).length := by simp; omega
    rw [app_one, e1, e2] at ih
    have ha := call_ad p
    have hf := call_fr f
    have hd := call_fd pre p (by omega)
    have hle : ((pre.length : Int) ≤ ((pre ++ (p, f, w, ()) :: suf).length : Int)) = True := tr (by simp; omega)
    have hk : bufB pre ((p, f, w, ()) :: suf) = (addrB p && frameB f && !pre.any (pageAt p) && bufB (pre ++ [(p, f, w, ())]) suf) := rfl
    rw [hk, loop_eq pr 59 2 _ Tryz.f59 fn_59 _ rfl _ ann_59 _ rfl]
    cases h1 : addrB p with
    | false =>
      rw [h1] at ha
      rw [if_neg (by simp)]
      simp -implicitDefEqProofs only [getD_app, lt_app, ltn_app, zero_le_cast, Int.toNat_natCast, hw, hle, List.take_left, ha, go_sem, Nat.reduceAdd, Nat.reduceSub, Nat.reduceMul, Nat.reduceMod, Nat.reduceLT, Nat.reduceLeDiff, Nat.reduceEqDiff, Nat.reduceBEq, Nat.reduceDiv, Int.reduceLT, Int.reduceLE, Int.reduceToNat, Int.reduceNeg, Int.reduceEq, ↓reduceIte, reduceCtorEq, ↓reduceDIte]
    | true =>
      rw [h1] at ha
      cases h2 : frameB f with
      | false =>
        rw [h2] at hf
        rw [if_neg (by simp)]
        simp -implicitDefEqProofs only [getD_app, lt_app, ltn_app, zero_le_cast, Int.toNat_natCast, hw, hle, List.take_left, ha, hf, go_sem, Nat.reduceAdd, Nat.reduceSub, Nat.reduceMul, Nat.reduceMod, Nat.reduceLT, Nat.reduceLeDiff, Nat.reduceEqDiff, Nat.reduceBEq, Nat.reduceDiv, Int.reduceLT, Int.reduceLE, Int.reduceToNat, Int.reduceNeg, Int.reduceEq, ↓reduceIte, reduceCtorEq, ↓reduceDIte]
      | true =>
        rw [h2] at hf
        have h4 := find_any pre p
        cases h3 : pre.any (pageAt p) with
        | true =>
          rw [h3] at h4
          have h5 : (findP pre p ≥ 0) = True := tr (by simpa using h4)
          rw [if_neg (by simp)]
          simp -implicitDefEqProofs only [getD_app, lt_app, ltn_app, zero_le_cast, Int.toNat_natCast, hw, hle, List.take_left, ha, hf, hd, h5, go_sem, Nat.reduceAdd, Nat.reduceSub, Nat.reduceMul, Nat.reduceMod, Nat.reduceLT, Nat.reduceLeDiff, Nat.reduceEqDiff, Nat.reduceBEq, Nat.reduceDiv, Int.reduceLT, Int.reduceLE, Int.reduceToNat, Int.reduceNeg, Int.reduceEq, ↓reduceIte, reduceCtorEq, ↓reduceDIte]
        | false =>
          rw [h3] at h4
          have h5 : (findP pre p ≥ 0) = False := fa (by simpa using h4)
          simp -implicitDefEqProofs only [getD_app, lt_app, ltn_app, zero_le_cast, Int.toNat_natCast, hw, hle, List.take_left, ha, hf, hd, h5, go_sem, Nat.reduceAdd, Nat.reduceSub, Nat.reduceMul, Nat.reduceMod, Nat.reduceLT, Nat.reduceLeDiff, Nat.reduceEqDiff, Nat.reduceBEq, Nat.reduceDiv, Int.reduceLT, Int.reduceLE, Int.reduceToNat, Int.reduceNeg, Int.reduceEq, ↓reduceIte, reduceCtorEq, ↓reduceDIte]
          exact ih
def free16 : List Bool := List.replicate 16 false
def specS (r : List Int) (t : List (List En)) (b : List Ca) : Bool := tabB r t && decide (b.length ≤ 4) && (walkT free16 t).isSome && bufB [] b
theorem tabC_len {r : List Int} : ∀ {t : List (List En)} {k : Nat}, tabC r k t = true → ∀ x ∈ t, x.length = 8
  | [], k, h, x, hx => by cases hx
  | y :: t, k, h, x, hx => by
    simp only [tabC, Bool.and_eq_true, decide_eq_true_eq] at h
    rcases List.mem_cons.1 hx with rfl | hx
    · exact h.1.2
    · exact tabC_len h.2 x hx
theorem tabB_spec {r : List Int} {t : List (List En)} (h : tabB r t = true) : r.length = 8 ∧ t.length ≤ 8 ∧ (∀ x ∈ t, x.length = 8) ∧ ∀ x ∈ r, -1 ≤ x ∧ x ≤ (t.length : Int) - 1 := by
  simp only [tabB, Bool.and_eq_true, decide_eq_true_eq, List.all_eq_true] at h
  obtain ⟨⟨⟨h1, h2⟩, h3⟩, h4⟩ := h
  exact ⟨h1, h2, tabC_len h3, fun x hx => by simpa [rootB] using h4 x hx⟩
theorem call_si (r : List Int) (t : List (List En)) (b : List Ca) : callOf pr 59 [.rp [L r, LLE t, LC b]] [] = some (B (specS r t b), []) := by
  have h0 := call_tb r t b
  rw [call_eq pr 59 _ _ Tryz.f59 fn_59 _ rfl _ ann_59 rfl]
  cases ht : tabB r t with
  | false =>
    rw [ht] at h0
    have hk : specS r t b = false := by simp [specS, ht]
    simp -implicitDefEqProofs only [h0, hk, go_sem, Nat.reduceAdd, Nat.reduceSub, Nat.reduceMul, Nat.reduceMod, Nat.reduceLT, Nat.reduceLeDiff, Nat.reduceEqDiff, Nat.reduceBEq, Nat.reduceDiv, Int.reduceLT, Int.reduceLE, Int.reduceToNat, Int.reduceNeg, Int.reduceEq, ↓reduceIte, reduceCtorEq, ↓reduceDIte]
  | true =>
    rw [ht] at h0
    obtain ⟨s1, s2, s3, s4⟩ := tabB_spec ht
    by_cases hb : b.length ≤ 4
    · have g1 : ((b.length : Int) > 4) = False := fa (by omega)
      have h1 := loop_tabs r b t [] free16 (by simp [free16]) s3 (by simp; omega)
      simp only [List.nil_append, List.length_nil] at h1
      have h1 : loopOf pr 59 0 ⟨[(0, .rp [L r, LLE t, LC b]), (3, .os (.t 1216)), (4, I 0)], [(1216, .arr true false .bool (List.replicate 16 false))]⟩ = _ := h1
      have g0 : (((1 : Nat) : Int) * 16 ≤ 140737488355328) = True := tr (by omega)
      cases hw : walkT free16 t with
      | none =>
        obtain ⟨f, w, u, d, hbox⟩ := badT_box hw
        rw [hw] at h1
        simp only [hbox] at h1
        have hk : specS r t b = false := by simp [specS, hw]
        simp -implicitDefEqProofs only [h0, g0, g1, h1, hk, go_sem, Nat.reduceAdd, Nat.reduceSub, Nat.reduceMul, Nat.reduceMod, Nat.reduceLT, Nat.reduceLeDiff, Nat.reduceEqDiff, Nat.reduceBEq, Nat.reduceDiv, Int.reduceLT, Int.reduceLE, Int.reduceToNat, Int.reduceNeg, Int.reduceEq, ↓reduceIte, reduceCtorEq, ↓reduceDIte]
      | some tk =>
        rw [hw] at h1
        have h2 := loop_buf r t b [] (by simp; omega)
        simp only [List.nil_append, List.length_nil] at h2
        have h2 : loopOf pr 59 2 ⟨[(0, .rp [L r, LLE t, LC b]), (7, I 0)], []⟩ = _ := h2
        cases hd : bufB [] b with
        | false =>
          rw [hd, if_neg (by simp)] at h2
          have hk : specS r t b = false := by simp [specS, hd]
          simp -implicitDefEqProofs only [h0, g0, g1, h1, h2, hk, go_sem, Nat.reduceAdd, Nat.reduceSub, Nat.reduceMul, Nat.reduceMod, Nat.reduceLT, Nat.reduceLeDiff, Nat.reduceEqDiff, Nat.reduceBEq, Nat.reduceDiv, Int.reduceLT, Int.reduceLE, Int.reduceToNat, Int.reduceNeg, Int.reduceEq, ↓reduceIte, reduceCtorEq, ↓reduceDIte]
        | true =>
          rw [hd, if_pos rfl] at h2
          have hk : specS r t b = true := by simp [specS, ht, hb, hw, hd]
          simp -implicitDefEqProofs only [h0, g0, g1, h1, h2, hk, go_sem, Nat.reduceAdd, Nat.reduceSub, Nat.reduceMul, Nat.reduceMod, Nat.reduceLT, Nat.reduceLeDiff, Nat.reduceEqDiff, Nat.reduceBEq, Nat.reduceDiv, Int.reduceLT, Int.reduceLE, Int.reduceToNat, Int.reduceNeg, Int.reduceEq, ↓reduceIte, reduceCtorEq, ↓reduceDIte]
    · have g1 : ((b.length : Int) > 4) = True := tr (by omega)
      have hk : specS r t b = false := by simp only [specS, decide_eq_false hb, Bool.and_false, Bool.false_and]
      simp -implicitDefEqProofs only [h0, g1, hk, go_sem, Nat.reduceAdd, Nat.reduceSub, Nat.reduceMul, Nat.reduceMod, Nat.reduceLT, Nat.reduceLeDiff, Nat.reduceEqDiff, Nat.reduceBEq, Nat.reduceDiv, Int.reduceLT, Int.reduceLE, Int.reduceToNat, Int.reduceNeg, Int.reduceEq, ↓reduceIte, reduceCtorEq, ↓reduceDIte]
end Go.Proofs.YticpldfkjldepaaGreat.PI
