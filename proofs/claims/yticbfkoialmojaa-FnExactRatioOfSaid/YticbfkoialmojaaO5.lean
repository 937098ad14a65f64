/- The program's best run. -/
import Derived.Test.YticbfkoialmojaaO2
namespace Go.Proofs.Yticbfkoialmojaa.PI
open Go Go.Q
set_option maxRecDepth 100000
set_option maxHeartbeats 4000000
set_option linter.unusedSimpArgs false
set_option linter.unusedVariables false
theorem fold_last (uses : List Int) (k : Nat) : ∀ (suf : List Int) (m : Int), (m :: suf).Pairwise (· < ·) → suf.foldl (fun m y => if 0 < cmpV uses k y m then y else m) m = lastM (fun x => waitN uses x k) m suf
  | [], m, _ => rfl
  | y :: suf, m, h => by
    rw [List.pairwise_cons] at h
    have hy := h.1 y (by simp)
    have h2 := List.pairwise_cons.1 h.2
    have hc : (0 < cmpV uses k y m) ↔ waitN uses m k < waitN uses y k := by
      unfold cmpV
      split <;> constructor <;> intro h <;> omega
    simp only [List.foldl_cons]
    unfold lastM
    by_cases hp : waitN uses m k < waitN uses y k
    · rw [if_pos hp, if_pos (hc.2 hp)]
      exact fold_last uses k suf y h.2
    · rw [if_neg hp, if_neg (fun e => hp (hc.1 e))]
      exact fold_last uses k suf m (List.pairwise_cons.2 ⟨fun z hz => h.1 z (by simp [hz]), h2.2⟩)
theorem call_mx (uses : List Int) (k : Nat) (hk : k ≤ uses.length) (hb : uses.length ≤ 60) (x : Int) (l : List Int) (hl : (x :: l).length < 1000000) (hr : ∀ y ∈ x :: l, 0 ≤ y ∧ y ≤ 63) (hs : (x :: l).Pairwise (· < ·)) : callOf pr 71 [L (x :: l), .fn 72 [.rp [L uses], .rp [I k]]] [] = some (I (lastM (fun x => waitN uses x k) x l), []) := by
  obtain ⟨r, q1, q2⟩ := mx_l uses k hk hb (x :: l) hl hr l x 1 rfl (by simp) (hr x (by simp))
  rw [fold_last uses k l x hs] at q1
  rw [← q1]
  have q2 : loopOf pr 71 0 ⟨[(0, L (x :: l)), (1, .fn 72 [.rp [L uses], .rp [I k]]), (5, I x), (6, I 1)], []⟩ = _ := q2
  have h1 : (((x :: l).length : Int) < 1) = False := fa (by simp only [List.length_cons]; omega)
  have h2 : ((0 : Int) < ((x :: l).length : Int)) = True := tr (by simp only [List.length_cons]; omega)
  have h3 : ∀ z, (x :: l).getD 0 z = x := fun z => rfl
  rw [call_eq pr 71 _ _ Try.f71 fn_71 _ rfl _ ann_71 rfl]
  generalize x :: l = xs at *
  simp -implicitDefEqProofs only [q2, h1, h2, h3, go_sem, Nat.reduceAdd, Nat.reduceSub, Nat.reduceMul, Nat.reduceMod, Nat.reduceLT, Nat.reduceLeDiff, Nat.reduceEqDiff, Nat.reduceBEq, Nat.reduceDiv, Int.reduceLT, Int.reduceLE, Int.reduceToNat, Int.reduceNeg, Int.reduceEq, ↓reduceIte, reduceCtorEq, ↓reduceDIte]
theorem call_vi (uses in_ : List Int) (k : Nat) (hk : k ≤ uses.length) (hb : uses.length ≤ 60) (x : Int) (l : List Int) (hl : (x :: l).length < 10000) (hr : ∀ y ∈ x :: l, 0 ≤ y ∧ y ≤ 63) (hs : (x :: l).Pairwise (· < ·)) (hp : List.Perm (x :: l) in_) : callOf pr 44 [L uses, L in_, I k] [] = some (I (lastM (fun x => waitN uses x k) x l), []) := by
  have hlen : in_.length = (x :: l).length := hp.length_eq.symm
  have h1 := call_st in_ (by rw [hlen]; simp) (by omega)
  have hso := sortI_of_sorted hp hs
  have hco : comp (x :: l) = x :: l := by
    have : incr x l = true := by
      have hne : (x :: l).Pairwise (· ≠ ·) := hs.imp fun {a b} h e => by omega
      have : ∀ {c : Int} {l : List Int}, (c :: l).Pairwise (· ≠ ·) → incr c l = true := by
        intro c l
        induction l generalizing c with
        | nil => intro _; rfl
        | cons e r ih =>
          intro h
          rw [List.pairwise_cons] at h
          simp only [incr, Bool.and_eq_true, decide_eq_true_eq]
          exact ⟨fun q => h.1 e (by simp) q.symm, ih h.2⟩
      exact this hne
    simp only [comp, pushC_incr this]
  rw [hso, hco] at h1
  have h2 := call_mx uses k hk hb x l (by omega) hr hs
  rw [call_eq pr 44 _ _ Try.f44 fn_44 _ rfl _ ann_44 rfl]
  generalize x :: l = xs at *
  simp -implicitDefEqProofs only [h1, h2, go_sem, Nat.reduceAdd, Nat.reduceSub, Nat.reduceMul, Nat.reduceMod, Nat.reduceLT, Nat.reduceLeDiff, Nat.reduceEqDiff, Nat.reduceBEq, Nat.reduceDiv, Int.reduceLT, Int.reduceLE, Int.reduceToNat, Int.reduceNeg, Int.reduceEq, ↓reduceIte, reduceCtorEq, ↓reduceDIte]
theorem call_conI (xs : List Int) (a : Int) (hb : xs.length < 1000000) : callOf pr 42 [L xs, I a] [] = some (B (xs.contains a), []) := by
  have h := call_idx a xs (by omega)
  rw [call_eq pr 42 _ _ Try.f42 fn_42 _ rfl _ ann_42 rfl]
  have hm : (ageOf a xs).isSome = xs.contains a := by
    unfold ageOf
    rw [List.findIdx?_isSome, List.contains_eq_any_beq]
    congr 1
    funext x
    by_cases h : x = a
    · rw [h]; simp
    · have h2 : ¬ a = x := fun e => h e.symm
      simp [h, h2]
  rw [← hm]
  unfold ageI at h
  cases hg : ageOf a xs with
  | none =>
    rw [hg] at h
    simp -implicitDefEqProofs only [h, ge_iff_le, go_sem, Nat.reduceAdd, Nat.reduceSub, Nat.reduceMul, Nat.reduceMod, Nat.reduceLT, Nat.reduceLeDiff, Nat.reduceEqDiff, Nat.reduceBEq, Nat.reduceDiv, Int.reduceLT, Int.reduceLE, Int.reduceToNat, Int.reduceNeg, Int.reduceEq, ↓reduceIte, reduceCtorEq, ↓reduceDIte]
    rfl
  | some j =>
    rw [hg] at h
    have e3 : (0 ≤ (j : Int)) = True := tr (by omega)
    simp only at h
    simp -implicitDefEqProofs only [h, ge_iff_le, go_sem, Nat.reduceAdd, Nat.reduceSub, Nat.reduceMul, Nat.reduceMod, Nat.reduceLT, Nat.reduceLeDiff, Nat.reduceEqDiff, Nat.reduceBEq, Nat.reduceDiv, Int.reduceLT, Int.reduceLE, Int.reduceToNat, Int.reduceNeg, Int.reduceEq, ↓reduceIte, reduceCtorEq, ↓reduceDIte]
    simp
abbrev BT (uses : List Int) (w : Int) (k : Int) : Slots := [(0, L uses), (1, I w), (6, .os (.t 832)), (7, .os (.t 896)), (8, .os (.t 960)), (16, L uses), (17, I uses.length), (18, I k)]
abbrev BH (xs rs hs : List Int) : Heap := [(832, .arr true false (.int .i64) xs), (896, .arr true false (.int .i64) rs), (960, .arr true false (.int .i64) hs)]
theorem br_h (uses xs rs hs : List Int) (w k : Nat) (a : Int) (hk : k < uses.length) (hb : uses.length ≤ 60) (ha : ∀ z, uses.getD k z = a) (l1 : rs.length ≤ 60) (l2 : hs.length ≤ 60) (l3 : xs.length ≤ 60) (g : callOf pr 42 [L xs, I a] [] = some (B true, [])) : loopOf pr 66 0 ⟨BT uses w k, BH xs rs hs⟩ = loopOf pr 66 0 ⟨BT uses w ((k + 1 : Nat) : Int), BH xs (rs ++ [-1]) (hs ++ [1])⟩ := by
  have e1 : ((k : Int) < (uses.length : Int)) = True := tr (by omega)
  have hw : IntKind.i64.wrap ((k : Int) + 1) = ((k + 1 : Nat) : Int) := by rw [wrap_i] <;> omega
  have r1 : ((rs.length + 1) * 8 ≤ 140737488355328 ∧ rs.length ≤ 9223372036854775806) = True := tr ⟨by omega, by omega⟩
  have r2 : ((hs.length + 1) * 8 ≤ 140737488355328 ∧ hs.length ≤ 9223372036854775806) = True := tr ⟨by omega, by omega⟩
  rw [loop_eq pr 66 0 _ Try.f66 fn_66 _ rfl _ ann_66 _ rfl]
  simp -implicitDefEqProofs only [e1, hw, ha, g, zero_le_cast, Int.toNat_natCast, r1, r2, go_sem, Nat.reduceAdd, Nat.reduceSub, Nat.reduceMul, Nat.reduceMod, Nat.reduceLT, Nat.reduceLeDiff, Nat.reduceEqDiff, Nat.reduceBEq, Nat.reduceDiv, Int.reduceLT, Int.reduceLE, Int.reduceToNat, Int.reduceNeg, Int.reduceEq, ↓reduceIte, reduceCtorEq, ↓reduceDIte]
theorem br_a (uses xs rs hs : List Int) (w k : Nat) (a : Int) (hk : k < uses.length) (hb : uses.length ≤ 60) (ha : ∀ z, uses.getD k z = a) (l1 : rs.length ≤ 60) (l2 : hs.length ≤ 60) (l3 : xs.length ≤ 60) (g : callOf pr 42 [L xs, I a] [] = some (B false, [])) (hlt : xs.length < w) : loopOf pr 66 0 ⟨BT uses w k, BH xs rs hs⟩ = loopOf pr 66 0 ⟨BT uses w ((k + 1 : Nat) : Int), BH (xs ++ [a]) (rs ++ [-1]) (hs ++ [0])⟩ := by
  have g2 := call_43 xs
  have e1 : ((k : Int) < (uses.length : Int)) = True := tr (by omega)
  have hw : IntKind.i64.wrap ((k : Int) + 1) = ((k + 1 : Nat) : Int) := by rw [wrap_i] <;> omega
  have r1 : ((rs.length + 1) * 8 ≤ 140737488355328 ∧ rs.length ≤ 9223372036854775806) = True := tr ⟨by omega, by omega⟩
  have r2 : ((hs.length + 1) * 8 ≤ 140737488355328 ∧ hs.length ≤ 9223372036854775806) = True := tr ⟨by omega, by omega⟩
  have r3 : ((xs.length + 1) * 8 ≤ 140737488355328 ∧ xs.length ≤ 9223372036854775806) = True := tr ⟨by omega, by omega⟩
  rw [loop_eq pr 66 0 _ Try.f66 fn_66 _ rfl _ ann_66 _ rfl]
  simp -implicitDefEqProofs only [e1, hw, ha, g, g2, lt_cast hlt, zero_le_cast, Int.toNat_natCast, r1, r2, r3, go_sem, Nat.reduceAdd, Nat.reduceSub, Nat.reduceMul, Nat.reduceMod, Nat.reduceLT, Nat.reduceLeDiff, Nat.reduceEqDiff, Nat.reduceBEq, Nat.reduceDiv, Int.reduceLT, Int.reduceLE, Int.reduceToNat, Int.reduceNeg, Int.reduceEq, ↓reduceIte, reduceCtorEq, ↓reduceDIte]
theorem br_v (uses xs rs hs : List Int) (w k : Nat) (a : Int) (hk : k < uses.length) (hb : uses.length ≤ 60) (ha : ∀ z, uses.getD k z = a) (l1 : rs.length ≤ 60) (l2 : hs.length ≤ 60) (l3 : xs.length ≤ 60) (v : Int) (j : Nat) (hj : j < xs.length) (g : callOf pr 42 [L xs, I a] [] = some (B false, [])) (hge : ¬ xs.length < w) (g3 : callOf pr 44 [L uses, L xs, I ((k + 1 : Nat) : Int)] [] = some (I v, [])) (g4 : callOf pr 70 [L xs, I v] [] = some (I j, [])) : loopOf pr 66 0 ⟨BT uses w k, BH xs rs hs⟩ = loopOf pr 66 0 ⟨BT uses w ((k + 1 : Nat) : Int), BH (xs.set j a) (rs ++ [v]) (hs ++ [0])⟩ := by
  have g2 := call_43 xs
  have e1 : ((k : Int) < (uses.length : Int)) = True := tr (by omega)
  have hw : IntKind.i64.wrap ((k : Int) + 1) = ((k + 1 : Nat) : Int) := by rw [wrap_i] <;> omega
  have r1 : ((rs.length + 1) * 8 ≤ 140737488355328 ∧ rs.length ≤ 9223372036854775806) = True := tr ⟨by omega, by omega⟩
  have r2 : ((hs.length + 1) * 8 ≤ 140737488355328 ∧ hs.length ≤ 9223372036854775806) = True := tr ⟨by omega, by omega⟩
  have r3 : ((xs.length + 1) * 8 ≤ 140737488355328 ∧ xs.length ≤ 9223372036854775806) = True := tr ⟨by omega, by omega⟩
  have h4 : ((xs.length : Int) < (w : Int)) = False := fa (by omega)
  rw [loop_eq pr 66 0 _ Try.f66 fn_66 _ rfl _ ann_66 _ rfl]
  simp -implicitDefEqProofs only [e1, hw, ha, g, g2, g3, g4, h4, lt_cast hj, zero_le_cast, Int.toNat_natCast, r1, r2, r3, go_sem, Nat.reduceAdd, Nat.reduceSub, Nat.reduceMul, Nat.reduceMod, Nat.reduceLT, Nat.reduceLeDiff, Nat.reduceEqDiff, Nat.reduceBEq, Nat.reduceDiv, Int.reduceLT, Int.reduceLE, Int.reduceToNat, Int.reduceNeg, Int.reduceEq, ↓reduceIte, reduceCtorEq, ↓reduceDIte]
def oneI (b : Bool) : Int := if b = true then 1 else 0
theorem erase_perm : ∀ (l : List Int) (i : Nat) (h : i < l.length), List.Perm (l[i] :: l.eraseIdx i) l
  | x :: l, 0, _ => List.Perm.refl _
  | x :: l, i + 1, h => by
    have ih := erase_perm l i (by simpa using h)
    simp only [List.getElem_cons_succ, List.eraseIdx_cons_succ]
    exact (List.Perm.swap x _ _).trans (ih.cons x)
theorem set_perm {xs : List Int} {j : Nat} (hj : j < xs.length) (a : Int) : List.Perm (xs.set j a) (a :: xs.eraseIdx j) := by
  have h1 := erase_perm (xs.set j a) j (by simpa using hj)
  rw [List.getElem_set_self, List.eraseIdx_set_eq] at h1
  exact h1.symm
theorem swap_perm {now xs : List Int} (h : List.Perm now xs) {b j : Nat} (hb : b < now.length) (hj : j < xs.length) (hv : now[b] = xs[j]) {a : Int} (ha : a ∉ now) : List.Perm (putL (now.eraseIdx b) a) (xs.set j a) := by
  have h1 := erase_perm now b hb
  have h2 := erase_perm xs j hj
  rw [hv] at h1
  have h3 : List.Perm (now.eraseIdx b) (xs.eraseIdx j) := List.Perm.cons_inv (h1.trans (h.trans h2.symm))
  have hne : a ∉ now.eraseIdx b := fun h => ha (List.mem_of_mem_eraseIdx h)
  exact (putL_perm _ a hne).trans ((h3.cons a).trans (set_perm hj a).symm)
theorem stepB_mem {uses : List Int} {w i : Nat} {now : List Int} {a : Int} : ∀ x ∈ (stepB uses w i now a).1, x = a ∨ x ∈ now := by
  intro x hx
  unfold stepB at hx
  by_cases hc : now.contains a = true
  · rw [if_pos hc] at hx; exact .inr hx
  · have hn : a ∉ now := by simpa using hc
    rw [if_neg hc] at hx
    by_cases hw : now.length = w
    · rw [if_pos hw] at hx
      simp only at hx
      have hne : a ∉ now.eraseIdx (lastB (fun x => waitN uses x (i + 1)) 0 (now.getD 0 0) 1 (now.drop 1)) := fun h => hn (List.mem_of_mem_eraseIdx h)
      rcases List.mem_cons.1 ((putL_perm _ a hne).mem_iff.1 hx) with h | h
      · exact .inl h
      · exact .inr (List.mem_of_mem_eraseIdx h)
    · rw [if_neg hw] at hx
      rcases List.mem_cons.1 ((putL_perm _ a hn).mem_iff.1 hx) with h | h
      · exact .inl h
      · exact .inr h
theorem br_e (uses xs rs hs : List Int) (w : Nat) : loopOf pr 66 0 ⟨BT uses w uses.length, BH xs rs hs⟩ = some (.exit 0, ⟨BT uses w uses.length, BH xs rs hs⟩) := by
  rw [loop_eq pr 66 0 _ Try.f66 fn_66 _ rfl _ ann_66 _ rfl]
  simp -implicitDefEqProofs only [Int.lt_irrefl, go_sem, Nat.reduceAdd, Nat.reduceSub, Nat.reduceMul, Nat.reduceMod, Nat.reduceLT, Nat.reduceLeDiff, Nat.reduceEqDiff, Nat.reduceBEq, Nat.reduceDiv, Int.reduceLT, Int.reduceLE, Int.reduceToNat, Int.reduceNeg, Int.reduceEq, ↓reduceIte, reduceCtorEq, ↓reduceDIte]
theorem br_l (uses : List Int) (hb : uses.length ≤ 60) (hu : ∀ x ∈ uses, 0 ≤ x ∧ x ≤ 63) (w : Nat) (hw : 1 ≤ w ∧ w ≤ 60) : ∀ (suf : List Int) (k : Nat) (now xs rs hs : List Int), uses.drop k = suf → k ≤ uses.length → List.Perm now xs → now.Pairwise (· < ·) → now.length ≤ w → (∀ x ∈ now, 0 ≤ x ∧ x ≤ 63) → rs.length = k → hs.length = k →
    ∃ xs' rs', loopOf pr 66 0 ⟨BT uses w k, BH xs rs hs⟩ = some (.exit 0, ⟨BT uses w uses.length, BH xs' rs' (hs ++ (runB uses w k now suf).map oneI)⟩)
  | [], k, now, xs, rs, hs, e, hk, hp, hso, hl, hr, q1, q2 => by
    have hk2 : k = uses.length := by
      have := congrArg List.length e
      simp only [List.length_drop, List.length_nil] at this
      omega
    subst hk2
    exact ⟨xs, rs, by simp only [runB, List.map_nil, List.append_nil]; exact br_e uses xs rs hs w⟩
  | a :: suf, k, now, xs, rs, hs, e, hk, hp, hso, hl, hr, q1, q2 => by
    have hlt : k < uses.length := by
      have := congrArg List.length e
      simp only [List.length_drop, List.length_cons] at this
      omega
    have ha0 : uses[k]? = some a := by
      have := congrArg (·[0]?) e
      simpa using this
    have ha : ∀ z, uses.getD k z = a := fun z => by simp [List.getD, ha0]
    have har := hu a (List.mem_of_getElem? ha0)
    have e' : uses.drop (k + 1) = suf := by
      have := congrArg (·.drop 1) e
      simpa using this
    have hxl := hp.length_eq
    have hc := call_conI xs a (by omega)
    have hcc : xs.contains a = now.contains a := by
      rw [Bool.eq_iff_iff]
      simp only [List.contains_iff_mem]
      exact (hp.mem_iff).symm
    rw [hcc] at hc
    obtain ⟨t1, t2⟩ := stepB_ok uses hw.1 k a hso hl
    have t3 : ∀ x ∈ (stepB uses w k now a).1, 0 ≤ x ∧ x ≤ 63 := fun x hx => by
      rcases stepB_mem x hx with rfl | h
      · exact har
      · exact hr x h
    have next : ∀ (xs2 rs2 : List Int) (h : Bool), (stepB uses w k now a).2.1 = h → List.Perm (stepB uses w k now a).1 xs2 → rs2.length = k + 1 → loopOf pr 66 0 ⟨BT uses w k, BH xs rs hs⟩ = loopOf pr 66 0 ⟨BT uses w ((k + 1 : Nat) : Int), BH xs2 rs2 (hs ++ [oneI h])⟩ →
        ∃ xs' rs', loopOf pr 66 0 ⟨BT uses w k, BH xs rs hs⟩ = some (.exit 0, ⟨BT uses w uses.length, BH xs' rs' (hs ++ (runB uses w k now (a :: suf)).map oneI)⟩) := by
      intro xs2 rs2 h he hpp hrl hst
      obtain ⟨xs', rs', hh⟩ := br_l uses hb hu w hw suf (k + 1) _ xs2 rs2 (hs ++ [oneI h]) e' (by omega) hpp t1 t2 t3 hrl (by simp; omega)
      refine ⟨xs', rs', ?_⟩
      rw [hst, hh]
      simp only [runB, List.map_cons, he, List.append_assoc, List.singleton_append]
    cases hcn : now.contains a with
    | true =>
      rw [hcn] at hc
      have hsb : stepB uses w k now a = (now, true, -1) := by unfold stepB; rw [if_pos hcn]
      exact next xs (rs ++ [-1]) true (by rw [hsb]) (by rw [hsb]; exact hp) (by simp; omega) (br_h uses xs rs hs w k a hlt hb ha (by omega) (by omega) (by omega) hc)
    | false =>
      rw [hcn] at hc
      have hn : a ∉ now := by simpa using hcn
      by_cases hlw : xs.length < w
      · have hsb : stepB uses w k now a = (putL now a, false, -1) := by unfold stepB; rw [if_neg (by simp [hn]), if_neg (by omega)]
        exact next (xs ++ [a]) (rs ++ [-1]) false (by rw [hsb]) (by rw [hsb]; exact (putL_perm now a hn).trans ((hp.cons a).trans (List.perm_append_singleton a xs).symm)) (by simp; omega) (br_a uses xs rs hs w k a hlt hb ha (by omega) (by omega) (by omega) hc hlw)
      · have hnw : now.length = w := by omega
        cases hnow : now with
        | nil => rw [hnow] at hnw; simp at hnw; omega
        | cons x l =>
          have g3 := call_vi uses xs (k + 1) (by omega) hb x l (by rw [← hnow]; omega) (by rw [← hnow]; exact hr) (by rw [← hnow]; exact hso) (by rw [← hnow]; exact hp)
          have hM := lastB_M (fun x => waitN uses x (k + 1)) now l 0 x 1 (by rw [hnow]; rfl) (by rw [hnow]; rfl)
          have hbl := lastB_lt (fun x => waitN uses x (k + 1)) l 0 x 1 now.length (by rw [hnow]; simp) (by rw [hnow]; simp; omega)
          have hsb : stepB uses w k now a = (putL (now.eraseIdx (lastB (fun x => waitN uses x (k + 1)) 0 x 1 l)) a, false, now.getD (lastB (fun x => waitN uses x (k + 1)) 0 x 1 l) 0) := by
            unfold stepB
            rw [if_neg (by simp [hn]), if_pos hnw]
            simp only [hnow, List.getD_cons_zero, List.drop_succ_cons, List.drop_zero]
          generalize lastM (fun x => waitN uses x (k + 1)) x l = v at *
          generalize lastB (fun x => waitN uses x (k + 1)) 0 x 1 l = b at *
          have hvm : v ∈ xs := hp.mem_iff.1 (List.mem_of_getElem? hM)
          have g4 := call_idx v xs (by omega)
          obtain ⟨j, hj⟩ : ∃ j, ageOf v xs = some j := by
            have : (ageOf v xs).isSome = true := by
              unfold ageOf
              rw [List.findIdx?_isSome, List.any_eq_true]
              exact ⟨v, hvm, by simp⟩
            exact Option.isSome_iff_exists.1 this
          have hjl := ageOf_lt hj
          have hjv : xs[j] = v := by
            unfold ageOf at hj
            rw [List.findIdx?_eq_some_iff_getElem] at hj
            obtain ⟨_, h2, _⟩ := hj
            simpa using h2
          unfold ageI at g4
          rw [hj] at g4
          simp only at g4
          have hbv : now[b] = v := by
            have := List.getElem?_eq_getElem hbl
            rw [this] at hM
            exact Option.some.inj hM
          rw [← hnow]
          exact next (xs.set j a) (rs ++ [v]) false (by rw [hsb]) (by rw [hsb]; exact swap_perm hp hbl hjl (by rw [hbv, hjv]) hn) (by simp; omega) (br_v uses xs rs hs w k a hlt hb ha (by omega) (by omega) (by omega) v j hjl hc hlw g3 g4)
theorem call_br (uses : List Int) (hb : uses.length ≤ 60) (hu : ∀ x ∈ uses, 0 ≤ x ∧ x ≤ 63) (w : Nat) (hw : 1 ≤ w ∧ w ≤ 60) : ∃ rs, callOf pr 66 [L uses, I w] [] = some (.tuple [.os (.t 896), .os (.t 960)], [(896, .arr true false (.int .i64) rs), (960, .arr true false (.int .i64) ((runB uses w 0 [] uses).map oneI))]) := by
  obtain ⟨xs', rs', h⟩ := br_l uses hb hu w hw uses 0 [] [] [] [] rfl (by omega) (List.Perm.refl _) List.Pairwise.nil (by simp) (fun x hx => by cases hx) rfl rfl
  have h : loopOf pr 66 0 ⟨[(0, L uses), (1, I w), (6, .os (.t 832)), (7, .os (.t 896)), (8, .os (.t 960)), (16, L uses), (17, I uses.length), (18, I 0)], [(832, .arr true false (.int .i64) []), (896, .arr true false (.int .i64) []), (960, .arr true false (.int .i64) [])]⟩ = some (.exit 0, ⟨BT uses w uses.length, BH xs' rs' ((runB uses w 0 [] uses).map oneI)⟩) := h
  refine ⟨rs', ?_⟩
  rw [call_eq pr 66 _ _ Try.f66 fn_66 _ rfl _ ann_66 rfl]
  simp -implicitDefEqProofs only [h, go_sem, Nat.reduceAdd, Nat.reduceSub, Nat.reduceMul, Nat.reduceMod, Nat.reduceLT, Nat.reduceLeDiff, Nat.reduceEqDiff, Nat.reduceBEq, Nat.reduceDiv, Int.reduceLT, Int.reduceLE, Int.reduceToNat, Int.reduceNeg, Int.reduceEq, ↓reduceIte, reduceCtorEq, ↓reduceDIte]
theorem bm_s (hs : List Int) (m k : Nat) (b : Bool) (hk : k < hs.length) (hb : hs.length ≤ 60) (hm : 1 ≤ m ∧ m ≤ 60) (hx : ∀ z, hs.getD k z = oneI b) : loopOf pr 35 0 ⟨[(7, I m), (18, .os (.t 833)), (19, I hs.length), (20, I k)], [(833, .arr true false (.int .i64) hs)]⟩ = loopOf pr 35 0 ⟨[(7, I ((if b = true then m - 1 else m : Nat) : Int)), (18, .os (.t 833)), (19, I hs.length), (20, I ((k + 1 : Nat) : Int))], [(833, .arr true false (.int .i64) hs)]⟩ := by
  have hw : IntKind.i64.wrap ((k : Int) + 1) = ((k + 1 : Nat) : Int) := by rw [wrap_i] <;> omega
  have hw2 : IntKind.i64.wrap ((m : Int) - oneI b) = ((if b = true then m - 1 else m : Nat) : Int) := by
    unfold oneI
    cases b <;> simp <;> rw [wrap_i] <;> omega
  generalize (if b = true then m - 1 else m : Nat) = m' at *
  rw [loop_eq pr 35 0 _ Try.f35 fn_35 _ rfl _ ann_35 _ rfl]
  simp -implicitDefEqProofs only [lt_cast hk, zero_le_cast, Int.toNat_natCast, hx, hw, hw2, go_sem, Nat.reduceAdd, Nat.reduceSub, Nat.reduceMul, Nat.reduceMod, Nat.reduceLT, Nat.reduceLeDiff, Nat.reduceEqDiff, Nat.reduceBEq, Nat.reduceDiv, Int.reduceLT, Int.reduceLE, Int.reduceToNat, Int.reduceNeg, Int.reduceEq, ↓reduceIte, reduceCtorEq, ↓reduceDIte]
theorem bm_e (hs : List Int) (m : Nat) : loopOf pr 35 0 ⟨[(7, I m), (18, .os (.t 833)), (19, I hs.length), (20, I hs.length)], [(833, .arr true false (.int .i64) hs)]⟩ = some (.exit 0, ⟨[(7, I m), (18, .os (.t 833)), (19, I hs.length), (20, I hs.length)], [(833, .arr true false (.int .i64) hs)]⟩) := by
  rw [loop_eq pr 35 0 _ Try.f35 fn_35 _ rfl _ ann_35 _ rfl]
  simp -implicitDefEqProofs only [Int.lt_irrefl, go_sem, Nat.reduceAdd, Nat.reduceSub, Nat.reduceMul, Nat.reduceMod, Nat.reduceLT, Nat.reduceLeDiff, Nat.reduceEqDiff, Nat.reduceBEq, Nat.reduceDiv, Int.reduceLT, Int.reduceLE, Int.reduceToNat, Int.reduceNeg, Int.reduceEq, ↓reduceIte, reduceCtorEq, ↓reduceDIte]
theorem missB_cons (b : Bool) (l : List Bool) : missB (b :: l) = if b = true then missB l else missB l + 1 := by
  unfold missB
  cases b <;> simp
theorem missB_le (l : List Bool) : missB l ≤ l.length := List.length_filter_le _ _
theorem bm_l (bs : List Bool) (hb : bs.length ≤ 60) : ∀ (suf : List Bool) (k p : Nat), bs.drop k = suf → k ≤ bs.length → p + suf.length ≤ 60 → loopOf pr 35 0 ⟨[(7, I ((p + suf.length : Nat) : Int)), (18, .os (.t 833)), (19, I (bs.map oneI).length), (20, I k)], [(833, .arr true false (.int .i64) (bs.map oneI))]⟩ = some (.exit 0, ⟨[(7, I ((p + missB suf : Nat) : Int)), (18, .os (.t 833)), (19, I (bs.map oneI).length), (20, I (bs.map oneI).length)], [(833, .arr true false (.int .i64) (bs.map oneI))]⟩)
  | [], k, p, e, hk, hp => by
    have hk2 : k = (bs.map oneI).length := by
      have := congrArg List.length e
      simp only [List.length_drop, List.length_nil] at this
      rw [List.length_map]
      omega
    rw [hk2]
    exact bm_e (bs.map oneI) _
  | b :: suf, k, p, e, hk, hp => by
    simp only [List.length_cons] at hp
    have hlt : k < bs.length := by
      have := congrArg List.length e
      simp only [List.length_drop, List.length_cons] at this
      omega
    have hx0 : bs[k]? = some b := by
      have := congrArg (·[0]?) e
      simpa using this
    have hx : ∀ z, (bs.map oneI).getD k z = oneI b := fun z => by simp [List.getD, hx0]
    have e' : bs.drop (k + 1) = suf := by
      have := congrArg (·.drop 1) e
      simpa using this
    rw [List.length_cons, bm_s (bs.map oneI) (p + (suf.length + 1)) k b (by simpa using hlt) (by simpa using hb) (by omega) hx, missB_cons]
    cases b with
    | true =>
      have ih := bm_l bs hb suf (k + 1) p e' (by omega) (by omega)
      simp only [if_true]
      rw [show p + (suf.length + 1) - 1 = p + suf.length by omega]
      exact ih
    | false =>
      have ih := bm_l bs hb suf (k + 1) (p + 1) e' (by omega) (by omega)
      simp only [Bool.false_eq_true, if_false]
      rw [show p + (suf.length + 1) = p + 1 + suf.length by omega, show p + (missB suf + 1) = p + 1 + missB suf by omega]
      exact ih
theorem call_bm (uses : List Int) (hb : uses.length ≤ 60) (hu : ∀ x ∈ uses, 0 ≤ x ∧ x ≤ 63) (w : Nat) (hw : 1 ≤ w ∧ w ≤ 60) : callOf pr 35 [L uses, I w] [] = some (I (missB (runB uses w 0 [] uses)), []) := by
  obtain ⟨rs, h⟩ := call_br uses hb hu w hw
  have hl := runB_length uses w uses 0 []
  have h2 := bm_l (runB uses w 0 [] uses) (by omega) (runB uses w 0 [] uses) 0 0 rfl (by omega) (by omega)
  rw [Nat.zero_add, Nat.zero_add, hl] at h2
  have h2 : loopOf pr 35 0 ⟨[(7, I uses.length), (18, .os (.t 833)), (19, I ((runB uses w 0 [] uses).map oneI).length), (20, I 0)], [(833, .arr true false (.int .i64) ((runB uses w 0 [] uses).map oneI))]⟩ = _ := h2
  have h1 := call_43 uses
  generalize (runB uses w 0 [] uses).map oneI = hs at *
  rw [call_eq pr 35 _ _ Try.f35 fn_35 _ rfl _ ann_35 rfl]
  simp -implicitDefEqProofs only [h, h1, h2, go_sem, Nat.reduceAdd, Nat.reduceSub, Nat.reduceMul, Nat.reduceMod, Nat.reduceLT, Nat.reduceLeDiff, Nat.reduceEqDiff, Nat.reduceBEq, Nat.reduceDiv, Int.reduceLT, Int.reduceLE, Int.reduceToNat, Int.reduceNeg, Int.reduceEq, ↓reduceIte, reduceCtorEq, ↓reduceDIte]
/-- What the reference's way of putting does, ahead of the end. -/
def putP (a : Int) : List Int → List Int × Bool
  | [] => ([], false)
  | x :: l => if x < a then (x :: (putP a l).1, (putP a l).2) else if a < x then (a :: x :: l, true) else (x :: l, true)
theorem putP_L (a : Int) : ∀ l : List Int, putL l a = if (putP a l).2 = true then (putP a l).1 else (putP a l).1 ++ [a]
  | [] => rfl
  | x :: l => by
    unfold putL putP
    by_cases h1 : x < a
    · rw [if_pos h1, if_pos h1, putP_L a l]
      simp only
      split <;> simp
    · rw [if_neg h1, if_neg h1]
      by_cases h2 : a < x
      · rw [if_pos h2, if_pos h2]; simp
      · rw [if_neg h2, if_neg h2]; simp
theorem putP_length (a : Int) : ∀ l : List Int, (putP a l).1.length ≤ l.length + 1
  | [] => by simp [putP]
  | x :: l => by
    have := putP_length a l
    unfold putP
    split
    · simp; omega
    · split <;> simp
abbrev PT (xs : List Int) (a : Int) (d : Bool) (k : Int) : Slots := [(0, L xs), (1, I a), (5, .os (.t 512)), (6, B d), (7, I k)]
theorem put_d (xs out : List Int) (a x : Int) (k : Nat) (hk : k < xs.length) (hb : xs.length ≤ 60) (hl : out.length ≤ 100) (hx : ∀ z, xs.getD k z = x) : loopOf pr 86 0 ⟨PT xs a true k, [(512, .arr true false (.int .i64) out)]⟩ = loopOf pr 86 0 ⟨PT xs a true ((k + 1 : Nat) : Int), [(512, .arr true false (.int .i64) (out ++ [x]))]⟩ := by
  have hw : IntKind.i64.wrap ((k : Int) + 1) = ((k + 1 : Nat) : Int) := by rw [wrap_i] <;> omega
  have r1 : ((out.length + 1) * 8 ≤ 140737488355328 ∧ out.length ≤ 9223372036854775806) = True := tr ⟨by omega, by omega⟩
  rw [loop_eq pr 86 0 _ Try.f86 fn_86 _ rfl _ ann_86 _ rfl]
  simp -implicitDefEqProofs only [lt_cast hk, hx, hw, r1, zero_le_cast, Int.toNat_natCast, go_sem, Nat.reduceAdd, Nat.reduceSub, Nat.reduceMul, Nat.reduceMod, Nat.reduceLT, Nat.reduceLeDiff, Nat.reduceEqDiff, Nat.reduceBEq, Nat.reduceDiv, Int.reduceLT, Int.reduceLE, Int.reduceToNat, Int.reduceNeg, Int.reduceEq, ↓reduceIte, reduceCtorEq, ↓reduceDIte]
theorem put_l (xs out : List Int) (a x : Int) (k : Nat) (hk : k < xs.length) (hb : xs.length ≤ 60) (hl : out.length ≤ 100) (hx : ∀ z, xs.getD k z = x) (h : x < a) : loopOf pr 86 0 ⟨PT xs a false k, [(512, .arr true false (.int .i64) out)]⟩ = loopOf pr 86 0 ⟨PT xs a false ((k + 1 : Nat) : Int), [(512, .arr true false (.int .i64) (out ++ [x]))]⟩ := by
  have hw : IntKind.i64.wrap ((k : Int) + 1) = ((k + 1 : Nat) : Int) := by rw [wrap_i] <;> omega
  have r1 : ((out.length + 1) * 8 ≤ 140737488355328 ∧ out.length ≤ 9223372036854775806) = True := tr ⟨by omega, by omega⟩
  have h1 : (a ≤ x) = False := fa (by omega)
  rw [loop_eq pr 86 0 _ Try.f86 fn_86 _ rfl _ ann_86 _ rfl]
  simp -implicitDefEqProofs only [lt_cast hk, hx, hw, r1, zero_le_cast, Int.toNat_natCast, h1, ge_iff_le, go_sem, Nat.reduceAdd, Nat.reduceSub, Nat.reduceMul, Nat.reduceMod, Nat.reduceLT, Nat.reduceLeDiff, Nat.reduceEqDiff, Nat.reduceBEq, Nat.reduceDiv, Int.reduceLT, Int.reduceLE, Int.reduceToNat, Int.reduceNeg, Int.reduceEq, ↓reduceIte, reduceCtorEq, ↓reduceDIte]
theorem put_e (xs out : List Int) (a x : Int) (k : Nat) (hk : k < xs.length) (hb : xs.length ≤ 60) (hl : out.length ≤ 100) (hx : ∀ z, xs.getD k z = x) (h : x = a) : loopOf pr 86 0 ⟨PT xs a false k, [(512, .arr true false (.int .i64) out)]⟩ = loopOf pr 86 0 ⟨PT xs a true ((k + 1 : Nat) : Int), [(512, .arr true false (.int .i64) (out ++ [x]))]⟩ := by
  have hw : IntKind.i64.wrap ((k : Int) + 1) = ((k + 1 : Nat) : Int) := by rw [wrap_i] <;> omega
  have r1 : ((out.length + 1) * 8 ≤ 140737488355328 ∧ out.length ≤ 9223372036854775806) = True := tr ⟨by omega, by omega⟩
  have h1 : (a ≤ x) = True := tr (by omega)
  have h2 : (a < x) = False := fa (by omega)
  rw [loop_eq pr 86 0 _ Try.f86 fn_86 _ rfl _ ann_86 _ rfl]
  simp -implicitDefEqProofs only [lt_cast hk, hx, hw, r1, zero_le_cast, Int.toNat_natCast, h1, h2, ge_iff_le, gt_iff_lt, go_sem, Nat.reduceAdd, Nat.reduceSub, Nat.reduceMul, Nat.reduceMod, Nat.reduceLT, Nat.reduceLeDiff, Nat.reduceEqDiff, Nat.reduceBEq, Nat.reduceDiv, Int.reduceLT, Int.reduceLE, Int.reduceToNat, Int.reduceNeg, Int.reduceEq, ↓reduceIte, reduceCtorEq, ↓reduceDIte]
theorem put_g (xs out : List Int) (a x : Int) (k : Nat) (hk : k < xs.length) (hb : xs.length ≤ 60) (hl : out.length ≤ 100) (hx : ∀ z, xs.getD k z = x) (h : a < x) : loopOf pr 86 0 ⟨PT xs a false k, [(512, .arr true false (.int .i64) out)]⟩ = loopOf pr 86 0 ⟨PT xs a true ((k + 1 : Nat) : Int), [(512, .arr true false (.int .i64) (out ++ [a] ++ [x]))]⟩ := by
  have hw : IntKind.i64.wrap ((k : Int) + 1) = ((k + 1 : Nat) : Int) := by rw [wrap_i] <;> omega
  have r1 : ((out.length + 1) * 8 ≤ 140737488355328 ∧ out.length ≤ 9223372036854775806) = True := tr ⟨by omega, by omega⟩
  have r2 : (((out ++ [a]).length + 1) * 8 ≤ 140737488355328 ∧ (out ++ [a]).length ≤ 9223372036854775806) = True := tr (by simp only [List.length_append, List.length_cons, List.length_nil]; omega)
  have h1 : (a ≤ x) = True := tr (by omega)
  rw [loop_eq pr 86 0 _ Try.f86 fn_86 _ rfl _ ann_86 _ rfl]
  simp -implicitDefEqProofs only [lt_cast hk, hx, hw, r1, r2, zero_le_cast, Int.toNat_natCast, h1, tr h, ge_iff_le, gt_iff_lt, go_sem, Nat.reduceAdd, Nat.reduceSub, Nat.reduceMul, Nat.reduceMod, Nat.reduceLT, Nat.reduceLeDiff, Nat.reduceEqDiff, Nat.reduceBEq, Nat.reduceDiv, Int.reduceLT, Int.reduceLE, Int.reduceToNat, Int.reduceNeg, Int.reduceEq, ↓reduceIte, reduceCtorEq, ↓reduceDIte]
theorem put_z (xs out : List Int) (a : Int) (d : Bool) : loopOf pr 86 0 ⟨PT xs a d xs.length, [(512, .arr true false (.int .i64) out)]⟩ = some (.exit 0, ⟨PT xs a d xs.length, [(512, .arr true false (.int .i64) out)]⟩) := by
  rw [loop_eq pr 86 0 _ Try.f86 fn_86 _ rfl _ ann_86 _ rfl]
  simp -implicitDefEqProofs only [Int.lt_irrefl, go_sem, Nat.reduceAdd, Nat.reduceSub, Nat.reduceMul, Nat.reduceMod, Nat.reduceLT, Nat.reduceLeDiff, Nat.reduceEqDiff, Nat.reduceBEq, Nat.reduceDiv, Int.reduceLT, Int.reduceLE, Int.reduceToNat, Int.reduceNeg, Int.reduceEq, ↓reduceIte, reduceCtorEq, ↓reduceDIte]
theorem put_loop (xs : List Int) (hb : xs.length ≤ 60) (a : Int) : ∀ (suf : List Int) (k : Nat) (out : List Int) (d : Bool), xs.drop k = suf → k ≤ xs.length → out.length ≤ k + (if d = true then 1 else 0) →
    loopOf pr 86 0 ⟨PT xs a d k, [(512, .arr true false (.int .i64) out)]⟩ = some (.exit 0, ⟨PT xs a (if d = true then true else (putP a suf).2) xs.length, [(512, .arr true false (.int .i64) (out ++ if d = true then suf else (putP a suf).1))]⟩)
  | [], k, out, d, e, hk, ho => by
    have hk2 : k = xs.length := by
      have := congrArg List.length e
      simp only [List.length_drop, List.length_nil] at this
      omega
    subst hk2
    cases d
    · simp only [putP, Bool.false_eq_true, if_false, List.append_nil]; exact put_z xs out a false
    · simp only [if_true, List.append_nil]; exact put_z xs out a true
  | x :: suf, k, out, d, e, hk, ho => by
    have hlt : k < xs.length := by
      have := congrArg List.length e
      simp only [List.length_drop, List.length_cons] at this
      omega
    have hx0 : xs[k]? = some x := by
      have := congrArg (·[0]?) e
      simpa using this
    have hx : ∀ z, xs.getD k z = x := fun z => by simp [List.getD, hx0]
    have e' : xs.drop (k + 1) = suf := by
      have := congrArg (·.drop 1) e
      simpa using this
    cases d with
    | true =>
      have ih := put_loop xs hb a suf (k + 1) (out ++ [x]) true e' (by omega) (by simp at ho ⊢; omega)
      rw [put_d xs out a x k hlt hb (by simp at ho; omega) hx, ih]
      simp only [if_true, List.append_assoc, List.singleton_append]
    | false =>
      simp only [Bool.false_eq_true, if_false]
      by_cases h1 : x < a
      · have ih := put_loop xs hb a suf (k + 1) (out ++ [x]) false e' (by omega) (by simp at ho ⊢; omega)
        rw [put_l xs out a x k hlt hb (by simp at ho; omega) hx h1, ih]
        simp only [Bool.false_eq_true, if_false, putP, if_pos h1, List.append_assoc, List.singleton_append]
      · by_cases h2 : a < x
        · have hs : loopOf pr 86 0 ⟨PT xs a true ((k + 1 : Nat) : Int), [(512, .arr true false (.int .i64) (out ++ [a] ++ [x]))]⟩ = some (.exit 0, ⟨PT xs a true xs.length, [(512, .arr true false (.int .i64) (out ++ [a] ++ [x] ++ suf))]⟩) := by
            have := put_loop xs hb a suf (k + 1) (out ++ [a] ++ [x]) true e' (by omega) (by simp at ho ⊢; omega)
            simpa only [if_true] using this
          rw [put_g xs out a x k hlt hb (by simp at ho; omega) hx h2, hs]
          simp only [putP, if_neg h1, if_pos h2, List.append_assoc, List.singleton_append, List.cons_append, List.nil_append]
        · have ih := put_loop xs hb a suf (k + 1) (out ++ [x]) true e' (by omega) (by simp at ho ⊢; omega)
          rw [put_e xs out a x k hlt hb (by simp at ho; omega) hx (by omega), ih]
          simp only [if_true, putP, if_neg h1, if_neg h2, List.append_assoc, List.singleton_append]
end Go.Proofs.Yticbfkoialmojaa.PI
