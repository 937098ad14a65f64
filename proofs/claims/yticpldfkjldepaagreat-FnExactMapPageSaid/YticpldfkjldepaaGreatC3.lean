/- Spaces, as the reference looks at them. -/
import Derived.Test.YticpldfkjldepaaGreatC2
namespace Go.Proofs.YticpldfkjldepaaGreat.PI
open Go Go.Q
set_option maxRecDepth 100000
set_option maxHeartbeats 4000000
set_option linter.unusedSimpArgs false
set_option linter.unusedVariables false
def pageAt (p : Int) (c : Ca) : Bool := decide (c.1 = p)
theorem loop_fd (p : Int) : ∀ (suf pre : List Ca), pre.length + suf.length < 1000000000000000000 →
    loopOf pr 99 0 ⟨[(0, LC (pre ++ suf)), (1, I p), (5, I pre.length)], []⟩ = match suf.findIdx? (pageAt p) with
      | some i => some (.ret, ⟨[(4, I ((pre.length + i : Nat) : Int))], []⟩)
      | none => some (.exit 0, ⟨[(0, LC (pre ++ suf)), (1, I p), (5, I ((pre.length + suf.length : Nat) : Int))], []⟩)
  | [], pre, hb => by
    rw [loop_eq pr 99 0 _ Tryz.f99 fn_99 _ rfl _ ann_99 _ rfl]
    simp -implicitDefEqProofs only [Int.lt_irrefl, List.append_nil, Nat.add_zero, List.findIdx?_nil, go_sem, Nat.reduceAdd, Nat.reduceSub, Nat.reduceMul, Nat.reduceMod, Nat.reduceLT, Nat.reduceLeDiff, Nat.reduceEqDiff, Nat.reduceBEq, Nat.reduceDiv, Int.reduceLT, Int.reduceLE, Int.reduceToNat, Int.reduceNeg, Int.reduceEq, ↓reduceIte, reduceCtorEq, ↓reduceDIte]
  | (q, f, w, ()) :: suf, pre, hb => by
    simp only [List.length_cons] at hb
    have hw : IntKind.i64.wrap ((pre.length : Int) + 1) = ((pre.length + 1 : Nat) : Int) := by rw [wrap_i] <;> omega
    have ih := loop_fd p suf (pre ++ [(q, f, w, ())]) (by simp; omega)
    have e1 : (pre ++ [(q, f, w, ())]).length = pre.length + 1 := by simp
    have e2 : pre.length + 1 + suf.length = pre.length + ((q, f, w, ()) :: suf).length := by simp; omega
    rw [app_one, e1, e2] at ih
    rw [List.findIdx?_cons, loop_eq pr 99 0 _ Tryz.f99 fn_99 _ rfl _ ann_99 _ rfl]
    by_cases hq : q = p
    · have hk : pageAt p (q, f, w, ()) = true := by simp [pageAt, hq]
      rw [hk]
      simp -implicitDefEqProofs only [getD_app, lt_app, ltn_app, zero_le_cast, Int.toNat_natCast, tr hq, Nat.add_zero, go_sem, Nat.reduceAdd, Nat.reduceSub, Nat.reduceMul, Nat.reduceMod, Nat.reduceLT, Nat.reduceLeDiff, Nat.reduceEqDiff, Nat.reduceBEq, Nat.reduceDiv, Int.reduceLT, Int.reduceLE, Int.reduceToNat, Int.reduceNeg, Int.reduceEq, ↓reduceIte, reduceCtorEq, ↓reduceDIte]
    · have hk : pageAt p (q, f, w, ()) = false := by simp [pageAt, hq]
      rw [hk]
      simp -implicitDefEqProofs only [getD_app, lt_app, ltn_app, zero_le_cast, Int.toNat_natCast, fa hq, hw, go_sem, Nat.reduceAdd, Nat.reduceSub, Nat.reduceMul, Nat.reduceMod, Nat.reduceLT, Nat.reduceLeDiff, Nat.reduceEqDiff, Nat.reduceBEq, Nat.reduceDiv, Int.reduceLT, Int.reduceLE, Int.reduceToNat, Int.reduceNeg, Int.reduceEq, ↓reduceIte, reduceCtorEq, ↓reduceDIte]
      rw [ih]
      cases List.findIdx? (pageAt p) suf with
      | none => rfl
      | some i => simp only [Option.map_some]; rw [show pre.length + 1 + i = pre.length + (i + 1) from by omega]
def findP (cs : List Ca) (p : Int) : Int := match cs.findIdx? (pageAt p) with
  | some i => (i : Int)
  | none => -1
theorem call_fd (cs : List Ca) (p : Int) (hb : cs.length < 1000000000000000000) : callOf pr 99 [LC cs, I p] [] = some (I (findP cs p), []) := by
  have h := loop_fd p cs [] (by simpa using hb)
  simp only [List.nil_append, List.length_nil, Nat.zero_add] at h
  have h : loopOf pr 99 0 ⟨[(0, LC cs), (1, I p), (5, I 0)], []⟩ = _ := h
  rw [call_eq pr 99 _ _ Tryz.f99 fn_99 _ rfl _ ann_99 rfl]
  unfold findP
  cases hf : cs.findIdx? (pageAt p) with
  | none =>
    rw [hf] at h
    simp -implicitDefEqProofs only [h, go_sem, Nat.reduceAdd, Nat.reduceSub, Nat.reduceMul, Nat.reduceMod, Nat.reduceLT, Nat.reduceLeDiff, Nat.reduceEqDiff, Nat.reduceBEq, Nat.reduceDiv, Int.reduceLT, Int.reduceLE, Int.reduceToNat, Int.reduceNeg, Int.reduceEq, ↓reduceIte, reduceCtorEq, ↓reduceDIte]
  | some i =>
    rw [hf] at h
    simp -implicitDefEqProofs only [h, go_sem, Nat.reduceAdd, Nat.reduceSub, Nat.reduceMul, Nat.reduceMod, Nat.reduceLT, Nat.reduceLeDiff, Nat.reduceEqDiff, Nat.reduceBEq, Nat.reduceDiv, Int.reduceLT, Int.reduceLE, Int.reduceToNat, Int.reduceNeg, Int.reduceEq, ↓reduceIte, reduceCtorEq, ↓reduceDIte]
theorem find_any (cs : List Ca) (p : Int) : decide (0 ≤ findP cs p) = cs.any (pageAt p) := by
  unfold findP
  cases h : cs.findIdx? (pageAt p) with
  | none =>
    rw [List.findIdx?_eq_none_iff] at h
    have : cs.any (pageAt p) = false := by simpa using h
    rw [this]; rfl
  | some i =>
    rw [List.findIdx?_eq_some_iff_getElem] at h
    obtain ⟨h1, h2, _⟩ := h
    have : cs.any (pageAt p) = true := List.any_eq_true.2 ⟨_, List.getElem_mem h1, h2⟩
    rw [this]
    simp
def emptyE (e : En) : Bool := decide (e.1 = -1) && !e.2.1 && !e.2.2.1 && !e.2.2.2.1
/-- An entry takes its frame. -/
def stepT (tk : List Bool) (e : En) : Option (List Bool) := if emptyE e = true then some tk else if (frameB e.1 && !tk.getD e.1.toNat false && !(e.2.2.2.1 && !e.2.2.1)) = true then some (tk.set e.1.toNat true) else none
def walkE : List Bool → List En → Option (List Bool)
  | tk, [] => some tk
  | tk, e :: es => match stepT tk e with
    | some tk' => walkE tk' es
    | none => none
def walkT : List Bool → List (List En) → Option (List Bool)
  | tk, [] => some tk
  | tk, t :: ts => match walkE tk t with
    | some tk' => walkT tk' ts
    | none => none
theorem stepT_length {tk tk' : List Bool} {e : En} (h : stepT tk e = some tk') : tk'.length = tk.length := by
  unfold stepT at h
  split at h
  · cases h; rfl
  · split at h
    · cases h; simp
    · cases h
theorem walkE_length : ∀ {es : List En} {tk tk' : List Bool}, walkE tk es = some tk' → tk'.length = tk.length
  | [], tk, tk', h => by simp only [walkE] at h; cases h; rfl
  | e :: es, tk, tk', h => by
    simp only [walkE] at h
    split at h
    · rename_i t1 h1
      rw [walkE_length h, stepT_length h1]
    · cases h
theorem frame_bound {f : Int} (h : frameB f = true) : 0 ≤ f ∧ f ≤ 15 := by simpa [frameB] using h
/-- Where it stops. -/
def badE : List Bool → List En → List Bool × List AV
  | tk, [] => (tk, [])
  | tk, e :: es => match stepT tk e with
    | some tk' => badE tk' es
    | none => (tk, [I e.1, B e.2.1, B e.2.2.1, B e.2.2.2.1])
theorem loop_ent (r : List Int) (b : List Ca) (tpre tsuf : List (List En)) : ∀ (suf pre : List En) (tk : List Bool), tk.length = 16 → pre.length + suf.length = 8 → tpre.length < 1000000 →
    loopOf pr 59 1 ⟨[(0, .rp [L r, LLE (tpre ++ (pre ++ suf) :: tsuf), LC b]), (3, .os (.t 1216)), (4, I tpre.length), (5, I pre.length)], [(1216, .arr true false .bool tk)]⟩ = match walkE tk suf with
      | some tk' => some (.exit 2, ⟨[(0, .rp [L r, LLE (tpre ++ (pre ++ suf) :: tsuf), LC b]), (3, .os (.t 1216)), (4, I tpre.length), (5, I 8)], [(1216, .arr true false .bool tk')]⟩)
      | none => some (.ret, ⟨[(2, B false)], [(1216, .arr true false .bool (badE tk suf).1), (384, .box (badE tk suf).2)]⟩)
  | [], pre, tk, htk, hl, hb => by
    have hp : ((pre.length : Int) < 8) = False := fa (by simp at hl; omega)
    have he : (pre.length : Int) = 8 := by simp at hl; omega
    simp only [walkE]
    rw [loop_eq pr 59 1 _ Tryz.f59 fn_59 _ rfl _ ann_59 _ rfl]
    simp -implicitDefEqProofs only [hp, List.append_nil, he, Int.lt_irrefl, go_sem, Nat.reduceAdd, Nat.reduceSub, Nat.reduceMul, Nat.reduceMod, Nat.reduceLT, Nat.reduceLeDiff, Nat.reduceEqDiff, Nat.reduceBEq, Nat.reduceDiv, Int.reduceLT, Int.reduceLE, Int.reduceToNat, Int.reduceNeg, Int.reduceEq, ↓reduceIte, reduceCtorEq, ↓reduceDIte]
  | (f, w, u, d, ()) :: suf, pre, tk, htk, hl, hb => by
    simp only [List.length_cons] at hl
    have hp : ((pre.length : Int) < 8) = True := tr (by omega)
    have hw : IntKind.i64.wrap ((pre.length : Int) + 1) = ((pre.length + 1 : Nat) : Int) := by rw [wrap_i] <;> omega
    have e1 : (pre ++ [(f, w, u, d, ())]).length = pre.length + 1 := by simp
    have ih := fun tk' (ht : tk'.length = 16) => loop_ent r b tpre tsuf suf (pre ++ [(f, w, u, d, ())]) tk' ht (by simp; omega) hb
    rw [e1] at ih
    simp only [app_one] at ih
    simp only [walkE, badE]
    rw [loop_eq pr 59 1 _ Tryz.f59 fn_59 _ rfl _ ann_59 _ rfl]
    have hf := call_fr f
    by_cases f1 : f = -1
    · subst f1
      have hn : frameB (-1) = false := rfl
      rw [hn] at hf
      cases w with
      | true =>
        have hs : stepT tk (-1, true, u, d, ()) = none := by simp [stepT, emptyE, hn]
        rw [hs]
        simp -implicitDefEqProofs only [getD_app, lt_app, ltn_app, zero_le_cast, Int.toNat_natCast, hp, hw, hf, go_sem, Nat.reduceAdd, Nat.reduceSub, Nat.reduceMul, Nat.reduceMod, Nat.reduceLT, Nat.reduceLeDiff, Nat.reduceEqDiff, Nat.reduceBEq, Nat.reduceDiv, Int.reduceLT, Int.reduceLE, Int.reduceToNat, Int.reduceNeg, Int.reduceEq, ↓reduceIte, reduceCtorEq, ↓reduceDIte]
      | false =>
        cases u with
        | true =>
          have hs : stepT tk (-1, false, true, d, ()) = none := by simp [stepT, emptyE, hn]
          rw [hs]
          simp -implicitDefEqProofs only [getD_app, lt_app, ltn_app, zero_le_cast, Int.toNat_natCast, hp, hw, hf, go_sem, Nat.reduceAdd, Nat.reduceSub, Nat.reduceMul, Nat.reduceMod, Nat.reduceLT, Nat.reduceLeDiff, Nat.reduceEqDiff, Nat.reduceBEq, Nat.reduceDiv, Int.reduceLT, Int.reduceLE, Int.reduceToNat, Int.reduceNeg, Int.reduceEq, ↓reduceIte, reduceCtorEq, ↓reduceDIte]
        | false =>
          cases d with
          | true =>
            have hs : stepT tk (-1, false, false, true, ()) = none := by simp [stepT, emptyE, hn]
            rw [hs]
            simp -implicitDefEqProofs only [getD_app, lt_app, ltn_app, zero_le_cast, Int.toNat_natCast, hp, hw, hf, go_sem, Nat.reduceAdd, Nat.reduceSub, Nat.reduceMul, Nat.reduceMod, Nat.reduceLT, Nat.reduceLeDiff, Nat.reduceEqDiff, Nat.reduceBEq, Nat.reduceDiv, Int.reduceLT, Int.reduceLE, Int.reduceToNat, Int.reduceNeg, Int.reduceEq, ↓reduceIte, reduceCtorEq, ↓reduceDIte]
          | false =>
            have hs : stepT tk (-1, false, false, false, ()) = some tk := by simp [stepT, emptyE]
            rw [hs]
            simp -implicitDefEqProofs only [getD_app, lt_app, ltn_app, zero_le_cast, Int.toNat_natCast, hp, hw, hf, go_sem, Nat.reduceAdd, Nat.reduceSub, Nat.reduceMul, Nat.reduceMod, Nat.reduceLT, Nat.reduceLeDiff, Nat.reduceEqDiff, Nat.reduceBEq, Nat.reduceDiv, Int.reduceLT, Int.reduceLE, Int.reduceToNat, Int.reduceNeg, Int.reduceEq, ↓reduceIte, reduceCtorEq, ↓reduceDIte]
            exact ih tk htk
    · have hne : emptyE (f, w, u, d, ()) = false := by simp [emptyE, f1]
      cases hfr : frameB f with
      | false =>
        rw [hfr] at hf
        have hs : stepT tk (f, w, u, d, ()) = none := by simp [stepT, hne, hfr]
        rw [hs]
        simp -implicitDefEqProofs only [getD_app, lt_app, ltn_app, zero_le_cast, Int.toNat_natCast, hp, hw, fa f1, hf, go_sem, Nat.reduceAdd, Nat.reduceSub, Nat.reduceMul, Nat.reduceMod, Nat.reduceLT, Nat.reduceLeDiff, Nat.reduceEqDiff, Nat.reduceBEq, Nat.reduceDiv, Int.reduceLT, Int.reduceLE, Int.reduceToNat, Int.reduceNeg, Int.reduceEq, ↓reduceIte, reduceCtorEq, ↓reduceDIte]
      | true =>
        rw [hfr] at hf
        obtain ⟨b1, b2⟩ := frame_bound hfr
        have g1 : (0 ≤ f) = True := tr b1
        have g2 : (f < (tk.length : Int)) = True := tr (by omega)
        have g3 : (f.toNat < tk.length) = True := tr (by omega)
        cases ht : tk.getD f.toNat false with
        | true =>
          have hs : stepT tk (f, w, u, d, ()) = none := by simp only [stepT, hne, hfr, ht]; rfl
          rw [hs]
          simp -implicitDefEqProofs only [getD_app, lt_app, ltn_app, zero_le_cast, Int.toNat_natCast, hp, hw, fa f1, hf, g1, g2, g3, ht, go_sem, Nat.reduceAdd, Nat.reduceSub, Nat.reduceMul, Nat.reduceMod, Nat.reduceLT, Nat.reduceLeDiff, Nat.reduceEqDiff, Nat.reduceBEq, Nat.reduceDiv, Int.reduceLT, Int.reduceLE, Int.reduceToNat, Int.reduceNeg, Int.reduceEq, ↓reduceIte, reduceCtorEq, ↓reduceDIte]
        | false =>
          cases d with
          | true =>
            cases u with
            | true =>
              have hs : stepT tk (f, w, true, true, ()) = some (tk.set f.toNat true) := by simp only [stepT, hne, hfr, ht]; rfl
              rw [hs]
              simp -implicitDefEqProofs only [getD_app, lt_app, ltn_app, zero_le_cast, Int.toNat_natCast, hp, hw, fa f1, hf, g1, g2, g3, ht, go_sem, Nat.reduceAdd, Nat.reduceSub, Nat.reduceMul, Nat.reduceMod, Nat.reduceLT, Nat.reduceLeDiff, Nat.reduceEqDiff, Nat.reduceBEq, Nat.reduceDiv, Int.reduceLT, Int.reduceLE, Int.reduceToNat, Int.reduceNeg, Int.reduceEq, ↓reduceIte, reduceCtorEq, ↓reduceDIte]
              exact ih _ (by simp [htk])
            | false =>
              have hs : stepT tk (f, w, false, true, ()) = none := by simp only [stepT, hne, hfr, ht]; rfl
              rw [hs]
              simp -implicitDefEqProofs only [getD_app, lt_app, ltn_app, zero_le_cast, Int.toNat_natCast, hp, hw, fa f1, hf, g1, g2, g3, ht, go_sem, Nat.reduceAdd, Nat.reduceSub, Nat.reduceMul, Nat.reduceMod, Nat.reduceLT, Nat.reduceLeDiff, Nat.reduceEqDiff, Nat.reduceBEq, Nat.reduceDiv, Int.reduceLT, Int.reduceLE, Int.reduceToNat, Int.reduceNeg, Int.reduceEq, ↓reduceIte, reduceCtorEq, ↓reduceDIte]
          | false =>
            have hs : stepT tk (f, w, u, false, ()) = some (tk.set f.toNat true) := by simp only [stepT, hne, hfr, ht]; rfl
            rw [hs]
            simp -implicitDefEqProofs only [getD_app, lt_app, ltn_app, zero_le_cast, Int.toNat_natCast, hp, hw, fa f1, hf, g1, g2, g3, ht, go_sem, Nat.reduceAdd, Nat.reduceSub, Nat.reduceMul, Nat.reduceMod, Nat.reduceLT, Nat.reduceLeDiff, Nat.reduceEqDiff, Nat.reduceBEq, Nat.reduceDiv, Int.reduceLT, Int.reduceLE, Int.reduceToNat, Int.reduceNeg, Int.reduceEq, ↓reduceIte, reduceCtorEq, ↓reduceDIte]
            exact ih _ (by simp [htk])
end Go.Proofs.YticpldfkjldepaaGreat.PI
