/- The law's lists of uses. -/
import Derived.Test.YtfooniikopekoaaD4
namespace Go.Proofs.Ytfooniikopekoaa.PI
open Go Go.Q
set_option maxRecDepth 100000
set_option maxHeartbeats 8000000
set_option linter.unusedSimpArgs false
set_option linter.unusedVariables false
theorem take_rev {α : Type} [Inhabited α] (l : List α) (j : Nat) (h : j < l.length) (x : α) (hx : l[j]? = some x) : (l.take (j + 1)).reverse = x :: (l.take j).reverse := by
  rw [List.take_add_one, hx]
  simp
theorem lastL_len (w : Nat) : ∀ (rv acc : List Int), acc.length ≤ w → (lastL w rv acc).length ≤ w
  | [], acc, h => h
  | u :: rv, acc, h => by
    unfold lastL
    refine lastL_len w rv _ ?_
    split
    · rename_i hc; simp; omega
    · exact h
theorem cameL_len (w : Nat) : ∀ (rv : List (Int × Int)) (acc : List Int), acc.length ≤ w → (cameL w rv acc).length ≤ w
  | [], acc, h => h
  | u :: rv, acc, h => by
    unfold cameL
    refine cameL_len w rv _ ?_
    split
    · rename_i hc; simp; omega
    · exact h
abbrev KTaa (n : Nat) (i : Int) : Slots := [(5, .os (.t 1536)), (6, I n), (12, .os (.t 2624)), (14, .os (.t 3073)), (15, .os (.t 3072)), (17, .os (.t 5440)), (18, .os (.t 5504)), (19, I i)]
abbrev KHaa (us c1 c2 hs a1 a2 : List Int) : Heap := [(1536, .arr true false (.int .i64) us), (2624, .arr true false (.int .i64) c1), (3072, .arr true false (.int .i64) c2), (3073, .arr true false (.int .i64) hs), (5440, .arr true false (.int .i64) a1), (5504, .arr true false (.int .i64) a2)]
theorem staa (n : Nat) (hn : n ≤ 6) (us c1 c2 hs : List Int) (hl : us.length < 100) (hh : hs.length = us.length) (a1 a2 b1 b2 : List Int) (j : Nat) (hj : j < us.length) (x h : Int) (hx : ∀ z, us.getD j z = x) (hhx : ∀ z, hs.getD j z = h) (ha : a1.length ≤ 6) (hb : a2.length ≤ 6)
    (hA : (a1.contains x = true ∧ b1 = a1) ∨ (a1.contains x = false ∧ a1.length < n ∧ b1 = a1 ++ [x]) ∨ (a1.contains x = false ∧ ¬ a1.length < n ∧ b1 = a1))
    (hB : (h ≠ 0 ∧ b2 = a2) ∨ (h = 0 ∧ a2.length < n ∧ b2 = a2 ++ [x]) ∨ (h = 0 ∧ ¬ a2.length < n ∧ b2 = a2)) :
    loopOf pr 7 0 ⟨KTaa n j, KHaa us c1 c2 hs a1 a2⟩ = loopOf pr 7 0 ⟨KTaa n ((j : Int) - 1), KHaa us c1 c2 hs b1 b2⟩ := by
  have hc := call_bhas a1 x (by omega)
  have e1 : ((j : Int) < (us.length : Int)) = True := tr (by omega)
  have e2 : ((j : Int) < (hs.length : Int)) = True := tr (by omega)
  have e3 : (0 ≤ (j : Int)) = True := tr (by omega)
  have hw : IntKind.i64.wrap ((j : Int) - 1) = (j : Int) - 1 := by rw [wrap_i] <;> omega
  have r1 : ((a1.length + 1) * 8 ≤ 140737488355328 ∧ a1.length ≤ 9223372036854775806) = True := tr ⟨by omega, by omega⟩
  have r2 : ((a2.length + 1) * 8 ≤ 140737488355328 ∧ a2.length ≤ 9223372036854775806) = True := tr ⟨by omega, by omega⟩
  have n1 : (¬ a1.length < n) → (((a1.length : Nat) : Int) < (n : Int)) = False := fun h => fa (by omega)
  have n2 : (¬ a2.length < n) → (((a2.length : Nat) : Int) < (n : Int)) = False := fun h => fa (by omega)
  rw [loop_eq pr 7 0 _ Try.f7 fn_7 _ rfl _ ann_7 _ rfl]
  rcases hA with ⟨q1, rfl⟩ | ⟨q1, q2, rfl⟩ | ⟨q1, q2, rfl⟩ <;> rcases hB with ⟨p1, rfl⟩ | ⟨p1, p2, rfl⟩ | ⟨p1, p2, rfl⟩ <;> rw [q1] at hc
  · simp -implicitDefEqProofs only [e1, e2, e3, hx, hhx, hc, fa p1, r1, r2, Int.toNat_natCast, hw, go_sem, Nat.reduceAdd, Nat.reduceSub, Nat.reduceMul, Nat.reduceMod, Nat.reduceLT, Nat.reduceLeDiff, Nat.reduceEqDiff, Nat.reduceBEq, Nat.reduceDiv, Int.reduceLT, Int.reduceLE, Int.reduceToNat, Int.reduceNeg, Int.reduceEq, ↓reduceIte, reduceCtorEq, ↓reduceDIte]
  · simp -implicitDefEqProofs only [e1, e2, e3, hx, hhx, hc, tr p1, lt_cast p2, r1, r2, Int.toNat_natCast, hw, go_sem, Nat.reduceAdd, Nat.reduceSub, Nat.reduceMul, Nat.reduceMod, Nat.reduceLT, Nat.reduceLeDiff, Nat.reduceEqDiff, Nat.reduceBEq, Nat.reduceDiv, Int.reduceLT, Int.reduceLE, Int.reduceToNat, Int.reduceNeg, Int.reduceEq, ↓reduceIte, reduceCtorEq, ↓reduceDIte]
  · simp -implicitDefEqProofs only [e1, e2, e3, hx, hhx, hc, tr p1, n2 p2, r1, r2, Int.toNat_natCast, hw, go_sem, Nat.reduceAdd, Nat.reduceSub, Nat.reduceMul, Nat.reduceMod, Nat.reduceLT, Nat.reduceLeDiff, Nat.reduceEqDiff, Nat.reduceBEq, Nat.reduceDiv, Int.reduceLT, Int.reduceLE, Int.reduceToNat, Int.reduceNeg, Int.reduceEq, ↓reduceIte, reduceCtorEq, ↓reduceDIte]
  · simp -implicitDefEqProofs only [e1, e2, e3, hx, hhx, hc, lt_cast q2, fa p1, r1, r2, Int.toNat_natCast, hw, go_sem, Nat.reduceAdd, Nat.reduceSub, Nat.reduceMul, Nat.reduceMod, Nat.reduceLT, Nat.reduceLeDiff, Nat.reduceEqDiff, Nat.reduceBEq, Nat.reduceDiv, Int.reduceLT, Int.reduceLE, Int.reduceToNat, Int.reduceNeg, Int.reduceEq, ↓reduceIte, reduceCtorEq, ↓reduceDIte]
  · simp -implicitDefEqProofs only [e1, e2, e3, hx, hhx, hc, lt_cast q2, tr p1, lt_cast p2, r1, r2, Int.toNat_natCast, hw, go_sem, Nat.reduceAdd, Nat.reduceSub, Nat.reduceMul, Nat.reduceMod, Nat.reduceLT, Nat.reduceLeDiff, Nat.reduceEqDiff, Nat.reduceBEq, Nat.reduceDiv, Int.reduceLT, Int.reduceLE, Int.reduceToNat, Int.reduceNeg, Int.reduceEq, ↓reduceIte, reduceCtorEq, ↓reduceDIte]
  · simp -implicitDefEqProofs only [e1, e2, e3, hx, hhx, hc, lt_cast q2, tr p1, n2 p2, r1, r2, Int.toNat_natCast, hw, go_sem, Nat.reduceAdd, Nat.reduceSub, Nat.reduceMul, Nat.reduceMod, Nat.reduceLT, Nat.reduceLeDiff, Nat.reduceEqDiff, Nat.reduceBEq, Nat.reduceDiv, Int.reduceLT, Int.reduceLE, Int.reduceToNat, Int.reduceNeg, Int.reduceEq, ↓reduceIte, reduceCtorEq, ↓reduceDIte]
  · simp -implicitDefEqProofs only [e1, e2, e3, hx, hhx, hc, n1 q2, fa p1, r1, r2, Int.toNat_natCast, hw, go_sem, Nat.reduceAdd, Nat.reduceSub, Nat.reduceMul, Nat.reduceMod, Nat.reduceLT, Nat.reduceLeDiff, Nat.reduceEqDiff, Nat.reduceBEq, Nat.reduceDiv, Int.reduceLT, Int.reduceLE, Int.reduceToNat, Int.reduceNeg, Int.reduceEq, ↓reduceIte, reduceCtorEq, ↓reduceDIte]
  · simp -implicitDefEqProofs only [e1, e2, e3, hx, hhx, hc, n1 q2, tr p1, lt_cast p2, r1, r2, Int.toNat_natCast, hw, go_sem, Nat.reduceAdd, Nat.reduceSub, Nat.reduceMul, Nat.reduceMod, Nat.reduceLT, Nat.reduceLeDiff, Nat.reduceEqDiff, Nat.reduceBEq, Nat.reduceDiv, Int.reduceLT, Int.reduceLE, Int.reduceToNat, Int.reduceNeg, Int.reduceEq, ↓reduceIte, reduceCtorEq, ↓reduceDIte]
  · simp -implicitDefEqProofs only [e1, e2, e3, hx, hhx, hc, n1 q2, tr p1, n2 p2, r1, r2, Int.toNat_natCast, hw, go_sem, Nat.reduceAdd, Nat.reduceSub, Nat.reduceMul, Nat.reduceMod, Nat.reduceLT, Nat.reduceLeDiff, Nat.reduceEqDiff, Nat.reduceBEq, Nat.reduceDiv, Int.reduceLT, Int.reduceLE, Int.reduceToNat, Int.reduceNeg, Int.reduceEq, ↓reduceIte, reduceCtorEq, ↓reduceDIte]
theorem enaa (n : Nat) (us c1 c2 hs a1 a2 : List Int) : loopOf pr 7 0 ⟨KTaa n (-1), KHaa us c1 c2 hs a1 a2⟩ = some (.exit 0, ⟨KTaa n (-1), KHaa us c1 c2 hs a1 a2⟩) := by
  rw [loop_eq pr 7 0 _ Try.f7 fn_7 _ rfl _ ann_7 _ rfl]
  simp -implicitDefEqProofs only [go_sem, Nat.reduceAdd, Nat.reduceSub, Nat.reduceMul, Nat.reduceMod, Nat.reduceLT, Nat.reduceLeDiff, Nat.reduceEqDiff, Nat.reduceBEq, Nat.reduceDiv, Int.reduceLT, Int.reduceLE, Int.reduceToNat, Int.reduceNeg, Int.reduceEq, ↓reduceIte, reduceCtorEq, ↓reduceDIte]
theorem loaa (n : Nat) (hn : n ≤ 6) (us c1 c2 hs : List Int) (hl : us.length < 100) (hh : hs.length = us.length) : ∀ (j : Nat) (a1 a2 : List Int), j ≤ us.length → a1.length ≤ n → a2.length ≤ n →
    loopOf pr 7 0 ⟨KTaa n ((j : Int) - 1), KHaa us c1 c2 hs a1 a2⟩ = some (.exit 0, ⟨KTaa n (-1), KHaa us c1 c2 hs (lastL n (us.take j).reverse a1) (cameL n ((us.zip hs).take j).reverse a2)⟩)
  | 0, a1, a2, _, _, _ => by
    rw [show ((0 : Nat) : Int) - 1 = -1 from rfl]
    simp only [List.take_zero, List.reverse_nil]
    exact enaa n us c1 c2 hs a1 a2
  | j + 1, a1, a2, hj, h1, h2 => by
    have hj1 : j < us.length := by omega
    have hj2 : j < hs.length := by omega
    have hu : us[j]? = some us[j] := List.getElem?_eq_getElem hj1
    have hz : (us.zip hs)[j]? = some (us[j], hs[j]) := by
      rw [List.getElem?_eq_getElem (by simp; omega)]; simp
    rw [take_rev us j hj1 _ hu, take_rev (us.zip hs) j (by simp; omega) _ hz]
    rw [show (((j + 1 : Nat) : Int) - 1) = (j : Int) by omega]
    have hs1 := staa n hn us c1 c2 hs hl hh a1 a2 (if a1.contains us[j] = false ∧ a1.length < n then a1 ++ [us[j]] else a1) (if hs[j] = 0 ∧ a2.length < n then a2 ++ [us[j]] else a2) j hj1 us[j] hs[j] (fun z => by simp [List.getD, hu]) (fun z => by simp [List.getD, List.getElem?_eq_getElem hj2]) (by omega) (by omega)
      (by
        cases hc : a1.contains us[j] with
        | true => left; exact ⟨rfl, if_neg (by simp)⟩
        | false =>
          right
          by_cases hq : a1.length < n
          · left; exact ⟨rfl, hq, if_pos ⟨rfl, hq⟩⟩
          · right; exact ⟨rfl, hq, if_neg (fun e => hq e.2)⟩)
      (by
        by_cases hc : hs[j] = 0
        · right
          by_cases hq : a2.length < n
          · left; exact ⟨hc, hq, if_pos ⟨hc, hq⟩⟩
          · right; exact ⟨hc, hq, if_neg (fun e => hq e.2)⟩
        · left; exact ⟨hc, if_neg (fun e => hc e.1)⟩)
    rw [hs1]
    exact loaa n hn us c1 c2 hs hl hh j _ _ (by omega) (by split <;> (try simp only [List.length_append, List.length_cons, List.length_nil]) <;> omega) (by split <;> (try simp only [List.length_append, List.length_cons, List.length_nil]) <;> omega)
abbrev KTab (n : Nat) (i : Int) : Slots := [(5, .os (.t 1536)), (6, I n), (12, .os (.t 2624)), (14, .os (.t 3072)), (15, .os (.t 3073)), (17, .os (.t 5440)), (18, .os (.t 5504)), (19, I i)]
abbrev KHab (us c1 c2 hs a1 a2 : List Int) : Heap := [(1536, .arr true false (.int .i64) us), (2624, .arr true false (.int .i64) c1), (3072, .arr true false (.int .i64) hs), (3073, .arr true false (.int .i64) c2), (5440, .arr true false (.int .i64) a1), (5504, .arr true false (.int .i64) a2)]
theorem stab (n : Nat) (hn : n ≤ 6) (us c1 c2 hs : List Int) (hl : us.length < 100) (hh : hs.length = us.length) (a1 a2 b1 b2 : List Int) (j : Nat) (hj : j < us.length) (x h : Int) (hx : ∀ z, us.getD j z = x) (hhx : ∀ z, hs.getD j z = h) (ha : a1.length ≤ 6) (hb : a2.length ≤ 6)
    (hA : (a1.contains x = true ∧ b1 = a1) ∨ (a1.contains x = false ∧ a1.length < n ∧ b1 = a1 ++ [x]) ∨ (a1.contains x = false ∧ ¬ a1.length < n ∧ b1 = a1))
    (hB : (h ≠ 0 ∧ b2 = a2) ∨ (h = 0 ∧ a2.length < n ∧ b2 = a2 ++ [x]) ∨ (h = 0 ∧ ¬ a2.length < n ∧ b2 = a2)) :
    loopOf pr 7 0 ⟨KTab n j, KHab us c1 c2 hs a1 a2⟩ = loopOf pr 7 0 ⟨KTab n ((j : Int) - 1), KHab us c1 c2 hs b1 b2⟩ := by
  have hc := call_bhas a1 x (by omega)
  have e1 : ((j : Int) < (us.length : Int)) = True := tr (by omega)
  have e2 : ((j : Int) < (hs.length : Int)) = True := tr (by omega)
  have e3 : (0 ≤ (j : Int)) = True := tr (by omega)
  have hw : IntKind.i64.wrap ((j : Int) - 1) = (j : Int) - 1 := by rw [wrap_i] <;> omega
  have r1 : ((a1.length + 1) * 8 ≤ 140737488355328 ∧ a1.length ≤ 9223372036854775806) = True := tr ⟨by omega, by omega⟩
  have r2 : ((a2.length + 1) * 8 ≤ 140737488355328 ∧ a2.length ≤ 9223372036854775806) = True := tr ⟨by omega, by omega⟩
  have n1 : (¬ a1.length < n) → (((a1.length : Nat) : Int) < (n : Int)) = False := fun h => fa (by omega)
  have n2 : (¬ a2.length < n) → (((a2.length : Nat) : Int) < (n : Int)) = False := fun h => fa (by omega)
  rw [loop_eq pr 7 0 _ Try.f7 fn_7 _ rfl _ ann_7 _ rfl]
  rcases hA with ⟨q1, rfl⟩ | ⟨q1, q2, rfl⟩ | ⟨q1, q2, rfl⟩ <;> rcases hB with ⟨p1, rfl⟩ | ⟨p1, p2, rfl⟩ | ⟨p1, p2, rfl⟩ <;> rw [q1] at hc
  · simp -implicitDefEqProofs only [e1, e2, e3, hx, hhx, hc, fa p1, r1, r2, Int.toNat_natCast, hw, go_sem, Nat.reduceAdd, Nat.reduceSub, Nat.reduceMul, Nat.reduceMod, Nat.reduceLT, Nat.reduceLeDiff, Nat.reduceEqDiff, Nat.reduceBEq, Nat.reduceDiv, Int.reduceLT, Int.reduceLE, Int.reduceToNat, Int.reduceNeg, Int.reduceEq, ↓reduceIte, reduceCtorEq, ↓reduceDIte]
  · simp -implicitDefEqProofs only [e1, e2, e3, hx, hhx, hc, tr p1, lt_cast p2, r1, r2, Int.toNat_natCast, hw, go_sem, Nat.reduceAdd, Nat.reduceSub, Nat.reduceMul, Nat.reduceMod, Nat.reduceLT, Nat.reduceLeDiff, Nat.reduceEqDiff, Nat.reduceBEq, Nat.reduceDiv, Int.reduceLT, Int.reduceLE, Int.reduceToNat, Int.reduceNeg, Int.reduceEq, ↓reduceIte, reduceCtorEq, ↓reduceDIte]
  · simp -implicitDefEqProofs only [e1, e2, e3, hx, hhx, hc, tr p1, n2 p2, r1, r2, Int.toNat_natCast, hw, go_sem, Nat.reduceAdd, Nat.reduceSub, Nat.reduceMul, Nat.reduceMod, Nat.reduceLT, Nat.reduceLeDiff, Nat.reduceEqDiff, Nat.reduceBEq, Nat.reduceDiv, Int.reduceLT, Int.reduceLE, Int.reduceToNat, Int.reduceNeg, Int.reduceEq, ↓reduceIte, reduceCtorEq, ↓reduceDIte]
  · simp -implicitDefEqProofs only [e1, e2, e3, hx, hhx, hc, lt_cast q2, fa p1, r1, r2, Int.toNat_natCast, hw, go_sem, Nat.reduceAdd, Nat.reduceSub, Nat.reduceMul, Nat.reduceMod, Nat.reduceLT, Nat.reduceLeDiff, Nat.reduceEqDiff, Nat.reduceBEq, Nat.reduceDiv, Int.reduceLT, Int.reduceLE, Int.reduceToNat, Int.reduceNeg, Int.reduceEq, ↓reduceIte, reduceCtorEq, ↓reduceDIte]
  · simp -implicitDefEqProofs only [e1, e2, e3, hx, hhx, hc, lt_cast q2, tr p1, lt_cast p2, r1, r2, Int.toNat_natCast, hw, go_sem, Nat.reduceAdd, Nat.reduceSub, Nat.reduceMul, Nat.reduceMod, Nat.reduceLT, Nat.reduceLeDiff, Nat.reduceEqDiff, Nat.reduceBEq, Nat.reduceDiv, Int.reduceLT, Int.reduceLE, Int.reduceToNat, Int.reduceNeg, Int.reduceEq, ↓reduceIte, reduceCtorEq, ↓reduceDIte]
  · simp -implicitDefEqProofs only [e1, e2, e3, hx, hhx, hc, lt_cast q2, tr p1, n2 p2, r1, r2, Int.toNat_natCast, hw, go_sem, Nat.reduceAdd, Nat.reduceSub, Nat.reduceMul, Nat.reduceMod, Nat.reduceLT, Nat.reduceLeDiff, Nat.reduceEqDiff, Nat.reduceBEq, Nat.reduceDiv, Int.reduceLT, Int.reduceLE, Int.reduceToNat, Int.reduceNeg, Int.reduceEq, ↓reduceIte, reduceCtorEq, ↓reduceDIte]
  · simp -implicitDefEqProofs only [e1, e2, e3, hx, hhx, hc, n1 q2, fa p1, r1, r2, Int.toNat_natCast, hw, go_sem, Nat.reduceAdd, Nat.reduceSub, Nat.reduceMul, Nat.reduceMod, Nat.reduceLT, Nat.reduceLeDiff, Nat.reduceEqDiff, Nat.reduceBEq, Nat.reduceDiv, Int.reduceLT, Int.reduceLE, Int.reduceToNat, Int.reduceNeg, Int.reduceEq, ↓reduceIte, reduceCtorEq, ↓reduceDIte]
  · simp -implicitDefEqProofs only [e1, e2, e3, hx, hhx, hc, n1 q2, tr p1, lt_cast p2, r1, r2, Int.toNat_natCast, hw, go_sem, Nat.reduceAdd, Nat.reduceSub, Nat.reduceMul, Nat.reduceMod, Nat.reduceLT, Nat.reduceLeDiff, Nat.reduceEqDiff, Nat.reduceBEq, Nat.reduceDiv, Int.reduceLT, Int.reduceLE, Int.reduceToNat, Int.reduceNeg, Int.reduceEq, ↓reduceIte, reduceCtorEq, ↓reduceDIte]
  · simp -implicitDefEqProofs only [e1, e2, e3, hx, hhx, hc, n1 q2, tr p1, n2 p2, r1, r2, Int.toNat_natCast, hw, go_sem, Nat.reduceAdd, Nat.reduceSub, Nat.reduceMul, Nat.reduceMod, Nat.reduceLT, Nat.reduceLeDiff, Nat.reduceEqDiff, Nat.reduceBEq, Nat.reduceDiv, Int.reduceLT, Int.reduceLE, Int.reduceToNat, Int.reduceNeg, Int.reduceEq, ↓reduceIte, reduceCtorEq, ↓reduceDIte]
theorem enab (n : Nat) (us c1 c2 hs a1 a2 : List Int) : loopOf pr 7 0 ⟨KTab n (-1), KHab us c1 c2 hs a1 a2⟩ = some (.exit 0, ⟨KTab n (-1), KHab us c1 c2 hs a1 a2⟩) := by
  rw [loop_eq pr 7 0 _ Try.f7 fn_7 _ rfl _ ann_7 _ rfl]
  simp -implicitDefEqProofs only [go_sem, Nat.reduceAdd, Nat.reduceSub, Nat.reduceMul, Nat.reduceMod, Nat.reduceLT, Nat.reduceLeDiff, Nat.reduceEqDiff, Nat.reduceBEq, Nat.reduceDiv, Int.reduceLT, Int.reduceLE, Int.reduceToNat, Int.reduceNeg, Int.reduceEq, ↓reduceIte, reduceCtorEq, ↓reduceDIte]
theorem loab (n : Nat) (hn : n ≤ 6) (us c1 c2 hs : List Int) (hl : us.length < 100) (hh : hs.length = us.length) : ∀ (j : Nat) (a1 a2 : List Int), j ≤ us.length → a1.length ≤ n → a2.length ≤ n →
    loopOf pr 7 0 ⟨KTab n ((j : Int) - 1), KHab us c1 c2 hs a1 a2⟩ = some (.exit 0, ⟨KTab n (-1), KHab us c1 c2 hs (lastL n (us.take j).reverse a1) (cameL n ((us.zip hs).take j).reverse a2)⟩)
  | 0, a1, a2, _, _, _ => by
    rw [show ((0 : Nat) : Int) - 1 = -1 from rfl]
    simp only [List.take_zero, List.reverse_nil]
    exact enab n us c1 c2 hs a1 a2
  | j + 1, a1, a2, hj, h1, h2 => by
    have hj1 : j < us.length := by omega
    have hj2 : j < hs.length := by omega
    have hu : us[j]? = some us[j] := List.getElem?_eq_getElem hj1
    have hz : (us.zip hs)[j]? = some (us[j], hs[j]) := by
      rw [List.getElem?_eq_getElem (by simp; omega)]; simp
    rw [take_rev us j hj1 _ hu, take_rev (us.zip hs) j (by simp; omega) _ hz]
    rw [show (((j + 1 : Nat) : Int) - 1) = (j : Int) by omega]
    have hs1 := stab n hn us c1 c2 hs hl hh a1 a2 (if a1.contains us[j] = false ∧ a1.length < n then a1 ++ [us[j]] else a1) (if hs[j] = 0 ∧ a2.length < n then a2 ++ [us[j]] else a2) j hj1 us[j] hs[j] (fun z => by simp [List.getD, hu]) (fun z => by simp [List.getD, List.getElem?_eq_getElem hj2]) (by omega) (by omega)
      (by
        cases hc : a1.contains us[j] with
        | true => left; exact ⟨rfl, if_neg (by simp)⟩
        | false =>
          right
          by_cases hq : a1.length < n
          · left; exact ⟨rfl, hq, if_pos ⟨rfl, hq⟩⟩
          · right; exact ⟨rfl, hq, if_neg (fun e => hq e.2)⟩)
      (by
        by_cases hc : hs[j] = 0
        · right
          by_cases hq : a2.length < n
          · left; exact ⟨hc, hq, if_pos ⟨hc, hq⟩⟩
          · right; exact ⟨hc, hq, if_neg (fun e => hq e.2)⟩
        · left; exact ⟨hc, if_neg (fun e => hc e.1)⟩)
    rw [hs1]
    exact loab n hn us c1 c2 hs hl hh j _ _ (by omega) (by split <;> (try simp only [List.length_append, List.length_cons, List.length_nil]) <;> omega) (by split <;> (try simp only [List.length_append, List.length_cons, List.length_nil]) <;> omega)
abbrev KTba (n : Nat) (i : Int) : Slots := [(5, .os (.t 1536)), (6, I n), (12, .os (.t 2625)), (14, .os (.t 3073)), (15, .os (.t 3072)), (17, .os (.t 5440)), (18, .os (.t 5504)), (19, I i)]
abbrev KHba (us c1 c2 hs a1 a2 : List Int) : Heap := [(1536, .arr true false (.int .i64) us), (2625, .arr true false (.int .i64) c1), (3072, .arr true false (.int .i64) c2), (3073, .arr true false (.int .i64) hs), (5440, .arr true false (.int .i64) a1), (5504, .arr true false (.int .i64) a2)]
theorem stba (n : Nat) (hn : n ≤ 6) (us c1 c2 hs : List Int) (hl : us.length < 100) (hh : hs.length = us.length) (a1 a2 b1 b2 : List Int) (j : Nat) (hj : j < us.length) (x h : Int) (hx : ∀ z, us.getD j z = x) (hhx : ∀ z, hs.getD j z = h) (ha : a1.length ≤ 6) (hb : a2.length ≤ 6)
    (hA : (a1.contains x = true ∧ b1 = a1) ∨ (a1.contains x = false ∧ a1.length < n ∧ b1 = a1 ++ [x]) ∨ (a1.contains x = false ∧ ¬ a1.length < n ∧ b1 = a1))
    (hB : (h ≠ 0 ∧ b2 = a2) ∨ (h = 0 ∧ a2.length < n ∧ b2 = a2 ++ [x]) ∨ (h = 0 ∧ ¬ a2.length < n ∧ b2 = a2)) :
    loopOf pr 7 0 ⟨KTba n j, KHba us c1 c2 hs a1 a2⟩ = loopOf pr 7 0 ⟨KTba n ((j : Int) - 1), KHba us c1 c2 hs b1 b2⟩ := by
  have hc := call_bhas a1 x (by omega)
  have e1 : ((j : Int) < (us.length : Int)) = True := tr (by omega)
  have e2 : ((j : Int) < (hs.length : Int)) = True := tr (by omega)
  have e3 : (0 ≤ (j : Int)) = True := tr (by omega)
  have hw : IntKind.i64.wrap ((j : Int) - 1) = (j : Int) - 1 := by rw [wrap_i] <;> omega
  have r1 : ((a1.length + 1) * 8 ≤ 140737488355328 ∧ a1.length ≤ 9223372036854775806) = True := tr ⟨by omega, by omega⟩
  have r2 : ((a2.length + 1) * 8 ≤ 140737488355328 ∧ a2.length ≤ 9223372036854775806) = True := tr ⟨by omega, by omega⟩
  have n1 : (¬ a1.length < n) → (((a1.length : Nat) : Int) < (n : Int)) = False := fun h => fa (by omega)
  have n2 : (¬ a2.length < n) → (((a2.length : Nat) : Int) < (n : Int)) = False := fun h => fa (by omega)
  rw [loop_eq pr 7 0 _ Try.f7 fn_7 _ rfl _ ann_7 _ rfl]
  rcases hA with ⟨q1, rfl⟩ | ⟨q1, q2, rfl⟩ | ⟨q1, q2, rfl⟩ <;> rcases hB with ⟨p1, rfl⟩ | ⟨p1, p2, rfl⟩ | ⟨p1, p2, rfl⟩ <;> rw [q1] at hc
  · simp -implicitDefEqProofs only [e1, e2, e3, hx, hhx, hc, fa p1, r1, r2, Int.toNat_natCast, hw, go_sem, Nat.reduceAdd, Nat.reduceSub, Nat.reduceMul, Nat.reduceMod, Nat.reduceLT, Nat.reduceLeDiff, Nat.reduceEqDiff, Nat.reduceBEq, Nat.reduceDiv, Int.reduceLT, Int.reduceLE, Int.reduceToNat, Int.reduceNeg, Int.reduceEq, ↓reduceIte, reduceCtorEq, ↓reduceDIte]
  · simp -implicitDefEqProofs only [e1, e2, e3, hx, hhx, hc, tr p1, lt_cast p2, r1, r2, Int.toNat_natCast, hw, go_sem, Nat.reduceAdd, Nat.reduceSub, Nat.reduceMul, Nat.reduceMod, Nat.reduceLT, Nat.reduceLeDiff, Nat.reduceEqDiff, Nat.reduceBEq, Nat.reduceDiv, Int.reduceLT, Int.reduceLE, Int.reduceToNat, Int.reduceNeg, Int.reduceEq, ↓reduceIte, reduceCtorEq, ↓reduceDIte]
  · simp -implicitDefEqProofs only [e1, e2, e3, hx, hhx, hc, tr p1, n2 p2, r1, r2, Int.toNat_natCast, hw, go_sem, Nat.reduceAdd, Nat.reduceSub, Nat.reduceMul, Nat.reduceMod, Nat.reduceLT, Nat.reduceLeDiff, Nat.reduceEqDiff, Nat.reduceBEq, Nat.reduceDiv, Int.reduceLT, Int.reduceLE, Int.reduceToNat, Int.reduceNeg, Int.reduceEq, ↓reduceIte, reduceCtorEq, ↓reduceDIte]
  · simp -implicitDefEqProofs only [e1, e2, e3, hx, hhx, hc, lt_cast q2, fa p1, r1, r2, Int.toNat_natCast, hw, go_sem, Nat.reduceAdd, Nat.reduceSub, Nat.reduceMul, Nat.reduceMod, Nat.reduceLT, Nat.reduceLeDiff, Nat.reduceEqDiff, Nat.reduceBEq, Nat.reduceDiv, Int.reduceLT, Int.reduceLE, Int.reduceToNat, Int.reduceNeg, Int.reduceEq, ↓reduceIte, reduceCtorEq, ↓reduceDIte]
  · simp -implicitDefEqProofs only [e1, e2, e3, hx, hhx, hc, lt_cast q2, tr p1, lt_cast p2, r1, r2, Int.toNat_natCast, hw, go_sem, Nat.reduceAdd, Nat.reduceSub, Nat.reduceMul, Nat.reduceMod, Nat.reduceLT, Nat.reduceLeDiff, Nat.reduceEqDiff, Nat.reduceBEq, Nat.reduceDiv, Int.reduceLT, Int.reduceLE, Int.reduceToNat, Int.reduceNeg, Int.reduceEq, ↓reduceIte, reduceCtorEq, ↓reduceDIte]
  · simp -implicitDefEqProofs only [e1, e2, e3, hx, hhx, hc, lt_cast q2, tr p1, n2 p2, r1, r2, Int.toNat_natCast, hw, go_sem, Nat.reduceAdd, Nat.reduceSub, Nat.reduceMul, Nat.reduceMod, Nat.reduceLT, Nat.reduceLeDiff, Nat.reduceEqDiff, Nat.reduceBEq, Nat.reduceDiv, Int.reduceLT, Int.reduceLE, Int.reduceToNat, Int.reduceNeg, Int.reduceEq, ↓reduceIte, reduceCtorEq, ↓reduceDIte]
  · simp -implicitDefEqProofs only [e1, e2, e3, hx, hhx, hc, n1 q2, fa p1, r1, r2, Int.toNat_natCast, hw, go_sem, Nat.reduceAdd, Nat.reduceSub, Nat.reduceMul, Nat.reduceMod, Nat.reduceLT, Nat.reduceLeDiff, Nat.reduceEqDiff, Nat.reduceBEq, Nat.reduceDiv, Int.reduceLT, Int.reduceLE, Int.reduceToNat, Int.reduceNeg, Int.reduceEq, ↓reduceIte, reduceCtorEq, ↓reduceDIte]
  · simp -implicitDefEqProofs only [e1, e2, e3, hx, hhx, hc, n1 q2, tr p1, lt_cast p2, r1, r2, Int.toNat_natCast, hw, go_sem, Nat.reduceAdd, Nat.reduceSub, Nat.reduceMul, Nat.reduceMod, Nat.reduceLT, Nat.reduceLeDiff, Nat.reduceEqDiff, Nat.reduceBEq, Nat.reduceDiv, Int.reduceLT, Int.reduceLE, Int.reduceToNat, Int.reduceNeg, Int.reduceEq, ↓reduceIte, reduceCtorEq, ↓reduceDIte]
  · simp -implicitDefEqProofs only [e1, e2, e3, hx, hhx, hc, n1 q2, tr p1, n2 p2, r1, r2, Int.toNat_natCast, hw, go_sem, Nat.reduceAdd, Nat.reduceSub, Nat.reduceMul, Nat.reduceMod, Nat.reduceLT, Nat.reduceLeDiff, Nat.reduceEqDiff, Nat.reduceBEq, Nat.reduceDiv, Int.reduceLT, Int.reduceLE, Int.reduceToNat, Int.reduceNeg, Int.reduceEq, ↓reduceIte, reduceCtorEq, ↓reduceDIte]
theorem enba (n : Nat) (us c1 c2 hs a1 a2 : List Int) : loopOf pr 7 0 ⟨KTba n (-1), KHba us c1 c2 hs a1 a2⟩ = some (.exit 0, ⟨KTba n (-1), KHba us c1 c2 hs a1 a2⟩) := by
  rw [loop_eq pr 7 0 _ Try.f7 fn_7 _ rfl _ ann_7 _ rfl]
  simp -implicitDefEqProofs only [go_sem, Nat.reduceAdd, Nat.reduceSub, Nat.reduceMul, Nat.reduceMod, Nat.reduceLT, Nat.reduceLeDiff, Nat.reduceEqDiff, Nat.reduceBEq, Nat.reduceDiv, Int.reduceLT, Int.reduceLE, Int.reduceToNat, Int.reduceNeg, Int.reduceEq, ↓reduceIte, reduceCtorEq, ↓reduceDIte]
theorem loba (n : Nat) (hn : n ≤ 6) (us c1 c2 hs : List Int) (hl : us.length < 100) (hh : hs.length = us.length) : ∀ (j : Nat) (a1 a2 : List Int), j ≤ us.length → a1.length ≤ n → a2.length ≤ n →
    loopOf pr 7 0 ⟨KTba n ((j : Int) - 1), KHba us c1 c2 hs a1 a2⟩ = some (.exit 0, ⟨KTba n (-1), KHba us c1 c2 hs (lastL n (us.take j).reverse a1) (cameL n ((us.zip hs).take j).reverse a2)⟩)
  | 0, a1, a2, _, _, _ => by
    rw [show ((0 : Nat) : Int) - 1 = -1 from rfl]
    simp only [List.take_zero, List.reverse_nil]
    exact enba n us c1 c2 hs a1 a2
  | j + 1, a1, a2, hj, h1, h2 => by
    have hj1 : j < us.length := by omega
    have hj2 : j < hs.length := by omega
    have hu : us[j]? = some us[j] := List.getElem?_eq_getElem hj1
    have hz : (us.zip hs)[j]? = some (us[j], hs[j]) := by
      rw [List.getElem?_eq_getElem (by simp; omega)]; simp
    rw [take_rev us j hj1 _ hu, take_rev (us.zip hs) j (by simp; omega) _ hz]
    rw [show (((j + 1 : Nat) : Int) - 1) = (j : Int) by omega]
    have hs1 := stba n hn us c1 c2 hs hl hh a1 a2 (if a1.contains us[j] = false ∧ a1.length < n then a1 ++ [us[j]] else a1) (if hs[j] = 0 ∧ a2.length < n then a2 ++ [us[j]] else a2) j hj1 us[j] hs[j] (fun z => by simp [List.getD, hu]) (fun z => by simp [List.getD, List.getElem?_eq_getElem hj2]) (by omega) (by omega)
      (by
        cases hc : a1.contains us[j] with
        | true => left; exact ⟨rfl, if_neg (by simp)⟩
        | false =>
          right
          by_cases hq : a1.length < n
          · left; exact ⟨rfl, hq, if_pos ⟨rfl, hq⟩⟩
          · right; exact ⟨rfl, hq, if_neg (fun e => hq e.2)⟩)
      (by
        by_cases hc : hs[j] = 0
        · right
          by_cases hq : a2.length < n
          · left; exact ⟨hc, hq, if_pos ⟨hc, hq⟩⟩
          · right; exact ⟨hc, hq, if_neg (fun e => hq e.2)⟩
        · left; exact ⟨hc, if_neg (fun e => hc e.1)⟩)
    rw [hs1]
    exact loba n hn us c1 c2 hs hl hh j _ _ (by omega) (by split <;> (try simp only [List.length_append, List.length_cons, List.length_nil]) <;> omega) (by split <;> (try simp only [List.length_append, List.length_cons, List.length_nil]) <;> omega)
abbrev KTbb (n : Nat) (i : Int) : Slots := [(5, .os (.t 1536)), (6, I n), (12, .os (.t 2625)), (14, .os (.t 3072)), (15, .os (.t 3073)), (17, .os (.t 5440)), (18, .os (.t 5504)), (19, I i)]
abbrev KHbb (us c1 c2 hs a1 a2 : List Int) : Heap := [(1536, .arr true false (.int .i64) us), (2625, .arr true false (.int .i64) c1), (3072, .arr true false (.int .i64) hs), (3073, .arr true false (.int .i64) c2), (5440, .arr true false (.int .i64) a1), (5504, .arr true false (.int .i64) a2)]
theorem stbb (n : Nat) (hn : n ≤ 6) (us c1 c2 hs : List Int) (hl : us.length < 100) (hh : hs.length = us.length) (a1 a2 b1 b2 : List Int) (j : Nat) (hj : j < us.length) (x h : Int) (hx : ∀ z, us.getD j z = x) (hhx : ∀ z, hs.getD j z = h) (ha : a1.length ≤ 6) (hb : a2.length ≤ 6)
    (hA : (a1.contains x = true ∧ b1 = a1) ∨ (a1.contains x = false ∧ a1.length < n ∧ b1 = a1 ++ [x]) ∨ (a1.contains x = false ∧ ¬ a1.length < n ∧ b1 = a1))
    (hB : (h ≠ 0 ∧ b2 = a2) ∨ (h = 0 ∧ a2.length < n ∧ b2 = a2 ++ [x]) ∨ (h = 0 ∧ ¬ a2.length < n ∧ b2 = a2)) :
    loopOf pr 7 0 ⟨KTbb n j, KHbb us c1 c2 hs a1 a2⟩ = loopOf pr 7 0 ⟨KTbb n ((j : Int) - 1), KHbb us c1 c2 hs b1 b2⟩ := by
  have hc := call_bhas a1 x (by omega)
  have e1 : ((j : Int) < (us.length : Int)) = True := tr (by omega)
  have e2 : ((j : Int) < (hs.length : Int)) = True := tr (by omega)
  have e3 : (0 ≤ (j : Int)) = True := tr (by omega)
  have hw : IntKind.i64.wrap ((j : Int) - 1) = (j : Int) - 1 := by rw [wrap_i] <;> omega
  have r1 : ((a1.length + 1) * 8 ≤ 140737488355328 ∧ a1.length ≤ 9223372036854775806) = True := tr ⟨by omega, by omega⟩
  have r2 : ((a2.length + 1) * 8 ≤ 140737488355328 ∧ a2.length ≤ 9223372036854775806) = True := tr ⟨by omega, by omega⟩
  have n1 : (¬ a1.length < n) → (((a1.length : Nat) : Int) < (n : Int)) = False := fun h => fa (by omega)
  have n2 : (¬ a2.length < n) → (((a2.length : Nat) : Int) < (n : Int)) = False := fun h => fa (by omega)
  rw [loop_eq pr 7 0 _ Try.f7 fn_7 _ rfl _ ann_7 _ rfl]
  rcases hA with ⟨q1, rfl⟩ | ⟨q1, q2, rfl⟩ | ⟨q1, q2, rfl⟩ <;> rcases hB with ⟨p1, rfl⟩ | ⟨p1, p2, rfl⟩ | ⟨p1, p2, rfl⟩ <;> rw [q1] at hc
  · simp -implicitDefEqProofs only [e1, e2, e3, hx, hhx, hc, fa p1, r1, r2, Int.toNat_natCast, hw, go_sem, Nat.reduceAdd, Nat.reduceSub, Nat.reduceMul, Nat.reduceMod, Nat.reduceLT, Nat.reduceLeDiff, Nat.reduceEqDiff, Nat.reduceBEq, Nat.reduceDiv, Int.reduceLT, Int.reduceLE, Int.reduceToNat, Int.reduceNeg, Int.reduceEq, ↓reduceIte, reduceCtorEq, ↓reduceDIte]
  · simp -implicitDefEqProofs only [e1, e2, e3, hx, hhx, hc, tr p1, lt_cast p2, r1, r2, Int.toNat_natCast, hw, go_sem, Nat.reduceAdd, Nat.reduceSub, Nat.reduceMul, Nat.reduceMod, Nat.reduceLT, Nat.reduceLeDiff, Nat.reduceEqDiff, Nat.reduceBEq, Nat.reduceDiv, Int.reduceLT, Int.reduceLE, Int.reduceToNat, Int.reduceNeg, Int.reduceEq, ↓reduceIte, reduceCtorEq, ↓reduceDIte]
  · simp -implicitDefEqProofs only [e1, e2, e3, hx, hhx, hc, tr p1, n2 p2, r1, r2, Int.toNat_natCast, hw, go_sem, Nat.reduceAdd, Nat.reduceSub, Nat.reduceMul, Nat.reduceMod, Nat.reduceLT, Nat.reduceLeDiff, Nat.reduceEqDiff, Nat.reduceBEq, Nat.reduceDiv, Int.reduceLT, Int.reduceLE, Int.reduceToNat, Int.reduceNeg, Int.reduceEq, ↓reduceIte, reduceCtorEq, ↓reduceDIte]
  · simp -implicitDefEqProofs only [e1, e2, e3, hx, hhx, hc, lt_cast q2, fa p1, r1, r2, Int.toNat_natCast, hw, go_sem, Nat.reduceAdd, Nat.reduceSub, Nat.reduceMul, Nat.reduceMod, Nat.reduceLT, Nat.reduceLeDiff, Nat.reduceEqDiff, Nat.reduceBEq, Nat.reduceDiv, Int.reduceLT, Int.reduceLE, Int.reduceToNat, Int.reduceNeg, Int.reduceEq, ↓reduceIte, reduceCtorEq, ↓reduceDIte]
  · simp -implicitDefEqProofs only [e1, e2, e3, hx, hhx, hc, lt_cast q2, tr p1, lt_cast p2, r1, r2, Int.toNat_natCast, hw, go_sem, Nat.reduceAdd, Nat.reduceSub, Nat.reduceMul, Nat.reduceMod, Nat.reduceLT, Nat.reduceLeDiff, Nat.reduceEqDiff, Nat.reduceBEq, Nat.reduceDiv, Int.reduceLT, Int.reduceLE, Int.reduceToNat, Int.reduceNeg, Int.reduceEq, ↓reduceIte, reduceCtorEq, ↓reduceDIte]
  · simp -implicitDefEqProofs only [e1, e2, e3, hx, hhx, hc, lt_cast q2, tr p1, n2 p2, r1, r2, Int.toNat_natCast, hw, go_sem, Nat.reduceAdd, Nat.reduceSub, Nat.reduceMul, Nat.reduceMod, Nat.reduceLT, Nat.reduceLeDiff, Nat.reduceEqDiff, Nat.reduceBEq, Nat.reduceDiv, Int.reduceLT, Int.reduceLE, Int.reduceToNat, Int.reduceNeg, Int.reduceEq, ↓reduceIte, reduceCtorEq, ↓reduceDIte]
  · simp -implicitDefEqProofs only [e1, e2, e3, hx, hhx, hc, n1 q2, fa p1, r1, r2, Int.toNat_natCast, hw, go_sem, Nat.reduceAdd, Nat.reduceSub, Nat.reduceMul, Nat.reduceMod, Nat.reduceLT, Nat.reduceLeDiff, Nat.reduceEqDiff, Nat.reduceBEq, Nat.reduceDiv, Int.reduceLT, Int.reduceLE, Int.reduceToNat, Int.reduceNeg, Int.reduceEq, ↓reduceIte, reduceCtorEq, ↓reduceDIte]
  · simp -implicitDefEqProofs only [e1, e2, e3, hx, hhx, hc, n1 q2, tr p1, lt_cast p2, r1, r2, Int.toNat_natCast, hw, go_sem, Nat.reduceAdd, Nat.reduceSub, Nat.reduceMul, Nat.reduceMod, Nat.reduceLT, Nat.reduceLeDiff, Nat.reduceEqDiff, Nat.reduceBEq, Nat.reduceDiv, Int.reduceLT, Int.reduceLE, Int.reduceToNat, Int.reduceNeg, Int.reduceEq, ↓reduceIte, reduceCtorEq, ↓reduceDIte]
  · simp -implicitDefEqProofs only [e1, e2, e3, hx, hhx, hc, n1 q2, tr p1, n2 p2, r1, r2, Int.toNat_natCast, hw, go_sem, Nat.reduceAdd, Nat.reduceSub, Nat.reduceMul, Nat.reduceMod, Nat.reduceLT, Nat.reduceLeDiff, Nat.reduceEqDiff, Nat.reduceBEq, Nat.reduceDiv, Int.reduceLT, Int.reduceLE, Int.reduceToNat, Int.reduceNeg, Int.reduceEq, ↓reduceIte, reduceCtorEq, ↓reduceDIte]
theorem enbb (n : Nat) (us c1 c2 hs a1 a2 : List Int) : loopOf pr 7 0 ⟨KTbb n (-1), KHbb us c1 c2 hs a1 a2⟩ = some (.exit 0, ⟨KTbb n (-1), KHbb us c1 c2 hs a1 a2⟩) := by
  rw [loop_eq pr 7 0 _ Try.f7 fn_7 _ rfl _ ann_7 _ rfl]
  simp -implicitDefEqProofs only [go_sem, Nat.reduceAdd, Nat.reduceSub, Nat.reduceMul, Nat.reduceMod, Nat.reduceLT, Nat.reduceLeDiff, Nat.reduceEqDiff, Nat.reduceBEq, Nat.reduceDiv, Int.reduceLT, Int.reduceLE, Int.reduceToNat, Int.reduceNeg, Int.reduceEq, ↓reduceIte, reduceCtorEq, ↓reduceDIte]
theorem lobb (n : Nat) (hn : n ≤ 6) (us c1 c2 hs : List Int) (hl : us.length < 100) (hh : hs.length = us.length) : ∀ (j : Nat) (a1 a2 : List Int), j ≤ us.length → a1.length ≤ n → a2.length ≤ n →
    loopOf pr 7 0 ⟨KTbb n ((j : Int) - 1), KHbb us c1 c2 hs a1 a2⟩ = some (.exit 0, ⟨KTbb n (-1), KHbb us c1 c2 hs (lastL n (us.take j).reverse a1) (cameL n ((us.zip hs).take j).reverse a2)⟩)
  | 0, a1, a2, _, _, _ => by
    rw [show ((0 : Nat) : Int) - 1 = -1 from rfl]
    simp only [List.take_zero, List.reverse_nil]
    exact enbb n us c1 c2 hs a1 a2
  | j + 1, a1, a2, hj, h1, h2 => by
    have hj1 : j < us.length := by omega
    have hj2 : j < hs.length := by omega
    have hu : us[j]? = some us[j] := List.getElem?_eq_getElem hj1
    have hz : (us.zip hs)[j]? = some (us[j], hs[j]) := by
      rw [List.getElem?_eq_getElem (by simp; omega)]; simp
    rw [take_rev us j hj1 _ hu, take_rev (us.zip hs) j (by simp; omega) _ hz]
    rw [show (((j + 1 : Nat) : Int) - 1) = (j : Int) by omega]
    have hs1 := stbb n hn us c1 c2 hs hl hh a1 a2 (if a1.contains us[j] = false ∧ a1.length < n then a1 ++ [us[j]] else a1) (if hs[j] = 0 ∧ a2.length < n then a2 ++ [us[j]] else a2) j hj1 us[j] hs[j] (fun z => by simp [List.getD, hu]) (fun z => by simp [List.getD, List.getElem?_eq_getElem hj2]) (by omega) (by omega)
      (by
        cases hc : a1.contains us[j] with
        | true => left; exact ⟨rfl, if_neg (by simp)⟩
        | false =>
          right
          by_cases hq : a1.length < n
          · left; exact ⟨rfl, hq, if_pos ⟨rfl, hq⟩⟩
          · right; exact ⟨rfl, hq, if_neg (fun e => hq e.2)⟩)
      (by
        by_cases hc : hs[j] = 0
        · right
          by_cases hq : a2.length < n
          · left; exact ⟨hc, hq, if_pos ⟨hc, hq⟩⟩
          · right; exact ⟨hc, hq, if_neg (fun e => hq e.2)⟩
        · left; exact ⟨hc, if_neg (fun e => hc e.1)⟩)
    rw [hs1]
    exact lobb n hn us c1 c2 hs hl hh j _ _ (by omega) (by split <;> (try simp only [List.length_append, List.length_cons, List.length_nil]) <;> omega) (by split <;> (try simp only [List.length_append, List.length_cons, List.length_nil]) <;> omega)
abbrev KUaa (n : Nat) : Slots := [(6, I n), (12, .os (.t 2624)), (15, .os (.t 3072)), (17, .os (.t 5440)), (18, .os (.t 5504))]
abbrev KGaa (c1 c2 a1 a2 : List Int) : Heap := [(2624, .arr true false (.int .i64) c1), (3072, .arr true false (.int .i64) c2), (5440, .arr true false (.int .i64) a1), (5504, .arr true false (.int .i64) a2)]
theorem paaa_f (n : Nat) (hn : n ≤ 6) (us c1 c2 hs a1 a2 : List Int) (h : a1.length < n) : loopOf pr 7 1 ⟨KTaa n (-1), KHaa us c1 c2 hs a1 a2⟩ = loopOf pr 7 1 ⟨KUaa n, KGaa c1 c2 (a1 ++ [-1]) a2⟩ := by
  have r1 : ((a1.length + 1) * 8 ≤ 140737488355328 ∧ a1.length ≤ 9223372036854775806) = True := tr ⟨by omega, by omega⟩
  rw [loop_eq pr 7 1 _ Try.f7 fn_7 _ rfl _ ann_7 _ rfl]
  simp -implicitDefEqProofs only [lt_cast h, r1, go_sem, Nat.reduceAdd, Nat.reduceSub, Nat.reduceMul, Nat.reduceMod, Nat.reduceLT, Nat.reduceLeDiff, Nat.reduceEqDiff, Nat.reduceBEq, Nat.reduceDiv, Int.reduceLT, Int.reduceLE, Int.reduceToNat, Int.reduceNeg, Int.reduceEq, ↓reduceIte, reduceCtorEq, ↓reduceDIte]
theorem paaa_g (n : Nat) (us c1 c2 hs a1 a2 : List Int) (h : a1.length = n) : loopOf pr 7 1 ⟨KTaa n (-1), KHaa us c1 c2 hs a1 a2⟩ = some (.exit 2, ⟨KUaa n, KHaa us c1 c2 hs a1 a2⟩) := by
  rw [loop_eq pr 7 1 _ Try.f7 fn_7 _ rfl _ ann_7 _ rfl]
  simp -implicitDefEqProofs only [h, Int.lt_irrefl, go_sem, Nat.reduceAdd, Nat.reduceSub, Nat.reduceMul, Nat.reduceMod, Nat.reduceLT, Nat.reduceLeDiff, Nat.reduceEqDiff, Nat.reduceBEq, Nat.reduceDiv, Int.reduceLT, Int.reduceLE, Int.reduceToNat, Int.reduceNeg, Int.reduceEq, ↓reduceIte, reduceCtorEq, ↓reduceDIte]
theorem paaa_s (n : Nat) (hn : n ≤ 6) (c1 c2 a1 a2 : List Int) (h : a1.length < n) : loopOf pr 7 1 ⟨KUaa n, KGaa c1 c2 a1 a2⟩ = loopOf pr 7 1 ⟨KUaa n, KGaa c1 c2 (a1 ++ [-1]) a2⟩ := by
  have r1 : ((a1.length + 1) * 8 ≤ 140737488355328 ∧ a1.length ≤ 9223372036854775806) = True := tr ⟨by omega, by omega⟩
  rw [loop_eq pr 7 1 _ Try.f7 fn_7 _ rfl _ ann_7 _ rfl]
  simp -implicitDefEqProofs only [lt_cast h, r1, go_sem, Nat.reduceAdd, Nat.reduceSub, Nat.reduceMul, Nat.reduceMod, Nat.reduceLT, Nat.reduceLeDiff, Nat.reduceEqDiff, Nat.reduceBEq, Nat.reduceDiv, Int.reduceLT, Int.reduceLE, Int.reduceToNat, Int.reduceNeg, Int.reduceEq, ↓reduceIte, reduceCtorEq, ↓reduceDIte]
theorem paaa_e (n : Nat) (c1 c2 a1 a2 : List Int) (h : a1.length = n) : loopOf pr 7 1 ⟨KUaa n, KGaa c1 c2 a1 a2⟩ = some (.exit 2, ⟨KUaa n, KGaa c1 c2 a1 a2⟩) := by
  rw [loop_eq pr 7 1 _ Try.f7 fn_7 _ rfl _ ann_7 _ rfl]
  simp -implicitDefEqProofs only [h, Int.lt_irrefl, go_sem, Nat.reduceAdd, Nat.reduceSub, Nat.reduceMul, Nat.reduceMod, Nat.reduceLT, Nat.reduceLeDiff, Nat.reduceEqDiff, Nat.reduceBEq, Nat.reduceDiv, Int.reduceLT, Int.reduceLE, Int.reduceToNat, Int.reduceNeg, Int.reduceEq, ↓reduceIte, reduceCtorEq, ↓reduceDIte]
theorem paaa (n : Nat) (hn : n ≤ 6) (c1 c2 a2 : List Int) : ∀ (d : Nat) (a1 : List Int), a1.length + d = n → loopOf pr 7 1 ⟨KUaa n, KGaa c1 c2 a1 a2⟩ = some (.exit 2, ⟨KUaa n, KGaa c1 c2 (a1 ++ List.replicate d (-1)) a2⟩)
  | 0, a1, h => by rw [List.replicate_zero, List.append_nil]; exact paaa_e n c1 c2 a1 a2 h
  | d + 1, a1, h => by
    rw [paaa_s n hn c1 c2 a1 a2 (by omega), paaa n hn c1 c2 a2 d (a1 ++ [-1]) (by simp; omega), List.append_assoc, List.replicate_succ, List.singleton_append]
theorem pbaa_s (n : Nat) (hn : n ≤ 6) (c1 c2 a1 a2 : List Int) (h : a2.length < n) : loopOf pr 7 2 ⟨KUaa n, KGaa c1 c2 a1 a2⟩ = loopOf pr 7 2 ⟨KUaa n, KGaa c1 c2 a1 (a2 ++ [-1])⟩ := by
  have r1 : ((a2.length + 1) * 8 ≤ 140737488355328 ∧ a2.length ≤ 9223372036854775806) = True := tr ⟨by omega, by omega⟩
  rw [loop_eq pr 7 2 _ Try.f7 fn_7 _ rfl _ ann_7 _ rfl]
  simp -implicitDefEqProofs only [lt_cast h, r1, go_sem, Nat.reduceAdd, Nat.reduceSub, Nat.reduceMul, Nat.reduceMod, Nat.reduceLT, Nat.reduceLeDiff, Nat.reduceEqDiff, Nat.reduceBEq, Nat.reduceDiv, Int.reduceLT, Int.reduceLE, Int.reduceToNat, Int.reduceNeg, Int.reduceEq, ↓reduceIte, reduceCtorEq, ↓reduceDIte]
theorem pbaa_e (n : Nat) (c1 c2 a1 a2 : List Int) (h : a2.length = n) : loopOf pr 7 2 ⟨KUaa n, KGaa c1 c2 a1 a2⟩ = some (.exit 4, ⟨KUaa n, KGaa c1 c2 a1 a2⟩) := by
  rw [loop_eq pr 7 2 _ Try.f7 fn_7 _ rfl _ ann_7 _ rfl]
  simp -implicitDefEqProofs only [h, Int.lt_irrefl, go_sem, Nat.reduceAdd, Nat.reduceSub, Nat.reduceMul, Nat.reduceMod, Nat.reduceLT, Nat.reduceLeDiff, Nat.reduceEqDiff, Nat.reduceBEq, Nat.reduceDiv, Int.reduceLT, Int.reduceLE, Int.reduceToNat, Int.reduceNeg, Int.reduceEq, ↓reduceIte, reduceCtorEq, ↓reduceDIte]
theorem pbaa (n : Nat) (hn : n ≤ 6) (c1 c2 a1 : List Int) : ∀ (d : Nat) (a2 : List Int), a2.length + d = n → loopOf pr 7 2 ⟨KUaa n, KGaa c1 c2 a1 a2⟩ = some (.exit 4, ⟨KUaa n, KGaa c1 c2 a1 (a2 ++ List.replicate d (-1))⟩)
  | 0, a2, h => by rw [List.replicate_zero, List.append_nil]; exact pbaa_e n c1 c2 a1 a2 h
  | d + 1, a2, h => by
    rw [pbaa_s n hn c1 c2 a1 a2 (by omega), pbaa n hn c1 c2 a1 d (a2 ++ [-1]) (by simp; omega), List.append_assoc, List.replicate_succ, List.singleton_append]
theorem knaa (a b us ms hs1 hs2 c1 c2 A1 A2 : List Int) (hit1 hit2 : List (List Int)) (v : Int) (n : Nat) (hn : 1 ≤ n ∧ n ≤ 6)
    (g0 : callOf pr 28 [BY a, BY b] [] = some (B false, []))
    (g1 : callOf pr 29 [BY a] [] = some (.os (.t 576), [(576, .arr true false (.int .i64) us)]))
    (g2 : callOf pr 30 [BY b, I 0, I 6] [] = some (I v, []))
    (hw : IntKind.i64.wrap (1 + v) = (n : Int)) (hw2 : IntKind.i64.wrap ((us.length : Int) - 1) = (us.length : Int) - 1)
    (g3 : callOf pr 31 [I n] [] = some (.tuple [.agg [.os (.t 448), .os (.t 449)], B true], [(448, .arr true true (.slice (.int .i64)) hit1), (449, .arr true false (.int .i64) ms)]))
    (g4 : callOf pr 32 [I n] [] = some (.tuple [.agg [.os (.t 448), .os (.t 449)], B true], [(448, .arr true true (.slice (.int .i64)) hit2), (449, .arr true false (.int .i64) ms)]))
    (g5 : callOf pr 27 [.agg [LL hit1, L ms], L us] [] = some (.tuple [.os (.t 1345), .os (.t 1344), B true], [(1344, .arr true false (.int .i64) c1), (1345, .arr true false (.int .i64) hs1)]))
    (g6 : callOf pr 27 [.agg [LL hit2, L ms], L us] [] = some (.tuple [.os (.t 1345), .os (.t 1344), B true], [(1344, .arr true false (.int .i64) c2), (1345, .arr true false (.int .i64) hs2)]))
    (l1 : c1.length = n) (l2 : c2.length = n) (l3 : hs2.length = us.length) (k1 : A1.length ≤ n) (k2 : A2.length ≤ n)
    (h : loopOf pr 7 0 ⟨KTaa n ((us.length : Int) - 1), KHaa us c1 c2 hs2 [] []⟩ = some (.exit 0, ⟨KTaa n (-1), KHaa us c1 c2 hs2 A1 A2⟩))
    (e1 : A1 ++ List.replicate (n - A1.length) (-1) = c1) (e2 : A2 ++ List.replicate (n - A2.length) (-1) = c2) :
    callOf pr 7 [BY a, BY b] [] = some (B true, []) := by
  have n1 := call_nums c1 (by omega)
  have n2 := call_nums c2 (by omega)
  have h3 := pbaa n hn.2 c1 c2 c1 (n - A2.length) A2 (by omega)
  rw [e2] at h3
  by_cases hA : A1.length = n
  · have h2 := paaa_g n us c1 c2 hs2 A1 A2 hA
    have ea : A1 = c1 := by rw [hA, Nat.sub_self, List.replicate_zero, List.append_nil] at e1; exact e1
    subst ea
    rw [call_eq pr 7 _ _ Try.f7 fn_7 _ rfl _ ann_7 rfl]
    simp -implicitDefEqProofs only [g0, g1, g2, hw, hw2, g3, g4, g5, g6, hA, l2, l3, h, h2, h3, n1, n2, go_sem, Nat.reduceAdd, Nat.reduceSub, Nat.reduceMul, Nat.reduceMod, Nat.reduceLT, Nat.reduceLeDiff, Nat.reduceEqDiff, Nat.reduceBEq, Nat.reduceDiv, Int.reduceLT, Int.reduceLE, Int.reduceToNat, Int.reduceNeg, Int.reduceEq, ↓reduceIte, reduceCtorEq, ↓reduceDIte]
  · have h2 := paaa n hn.2 c1 c2 A2 (n - A1.length - 1) (A1 ++ [-1]) (by simp; omega)
    rw [← paaa_f n hn.2 us c1 c2 hs2 A1 A2 (by omega), List.append_assoc, List.singleton_append, ← List.replicate_succ, show n - A1.length - 1 + 1 = n - A1.length by omega, e1] at h2
    rw [call_eq pr 7 _ _ Try.f7 fn_7 _ rfl _ ann_7 rfl]
    simp -implicitDefEqProofs only [g0, g1, g2, hw, hw2, g3, g4, g5, g6, l1, l2, l3, h, h2, h3, n1, n2, go_sem, Nat.reduceAdd, Nat.reduceSub, Nat.reduceMul, Nat.reduceMod, Nat.reduceLT, Nat.reduceLeDiff, Nat.reduceEqDiff, Nat.reduceBEq, Nat.reduceDiv, Int.reduceLT, Int.reduceLE, Int.reduceToNat, Int.reduceNeg, Int.reduceEq, ↓reduceIte, reduceCtorEq, ↓reduceDIte]
abbrev KUab (n : Nat) : Slots := [(6, I n), (12, .os (.t 2624)), (15, .os (.t 3073)), (17, .os (.t 5440)), (18, .os (.t 5504))]
abbrev KGab (c1 c2 a1 a2 : List Int) : Heap := [(2624, .arr true false (.int .i64) c1), (3073, .arr true false (.int .i64) c2), (5440, .arr true false (.int .i64) a1), (5504, .arr true false (.int .i64) a2)]
theorem paab_f (n : Nat) (hn : n ≤ 6) (us c1 c2 hs a1 a2 : List Int) (h : a1.length < n) : loopOf pr 7 1 ⟨KTab n (-1), KHab us c1 c2 hs a1 a2⟩ = loopOf pr 7 1 ⟨KUab n, KGab c1 c2 (a1 ++ [-1]) a2⟩ := by
  have r1 : ((a1.length + 1) * 8 ≤ 140737488355328 ∧ a1.length ≤ 9223372036854775806) = True := tr ⟨by omega, by omega⟩
  rw [loop_eq pr 7 1 _ Try.f7 fn_7 _ rfl _ ann_7 _ rfl]
  simp -implicitDefEqProofs only [lt_cast h, r1, go_sem, Nat.reduceAdd, Nat.reduceSub, Nat.reduceMul, Nat.reduceMod, Nat.reduceLT, Nat.reduceLeDiff, Nat.reduceEqDiff, Nat.reduceBEq, Nat.reduceDiv, Int.reduceLT, Int.reduceLE, Int.reduceToNat, Int.reduceNeg, Int.reduceEq, ↓reduceIte, reduceCtorEq, ↓reduceDIte]
theorem paab_g (n : Nat) (us c1 c2 hs a1 a2 : List Int) (h : a1.length = n) : loopOf pr 7 1 ⟨KTab n (-1), KHab us c1 c2 hs a1 a2⟩ = some (.exit 2, ⟨KUab n, KHab us c1 c2 hs a1 a2⟩) := by
  rw [loop_eq pr 7 1 _ Try.f7 fn_7 _ rfl _ ann_7 _ rfl]
  simp -implicitDefEqProofs only [h, Int.lt_irrefl, go_sem, Nat.reduceAdd, Nat.reduceSub, Nat.reduceMul, Nat.reduceMod, Nat.reduceLT, Nat.reduceLeDiff, Nat.reduceEqDiff, Nat.reduceBEq, Nat.reduceDiv, Int.reduceLT, Int.reduceLE, Int.reduceToNat, Int.reduceNeg, Int.reduceEq, ↓reduceIte, reduceCtorEq, ↓reduceDIte]
theorem paab_s (n : Nat) (hn : n ≤ 6) (c1 c2 a1 a2 : List Int) (h : a1.length < n) : loopOf pr 7 1 ⟨KUab n, KGab c1 c2 a1 a2⟩ = loopOf pr 7 1 ⟨KUab n, KGab c1 c2 (a1 ++ [-1]) a2⟩ := by
  have r1 : ((a1.length + 1) * 8 ≤ 140737488355328 ∧ a1.length ≤ 9223372036854775806) = True := tr ⟨by omega, by omega⟩
  rw [loop_eq pr 7 1 _ Try.f7 fn_7 _ rfl _ ann_7 _ rfl]
  simp -implicitDefEqProofs only [lt_cast h, r1, go_sem, Nat.reduceAdd, Nat.reduceSub, Nat.reduceMul, Nat.reduceMod, Nat.reduceLT, Nat.reduceLeDiff, Nat.reduceEqDiff, Nat.reduceBEq, Nat.reduceDiv, Int.reduceLT, Int.reduceLE, Int.reduceToNat, Int.reduceNeg, Int.reduceEq, ↓reduceIte, reduceCtorEq, ↓reduceDIte]
theorem paab_e (n : Nat) (c1 c2 a1 a2 : List Int) (h : a1.length = n) : loopOf pr 7 1 ⟨KUab n, KGab c1 c2 a1 a2⟩ = some (.exit 2, ⟨KUab n, KGab c1 c2 a1 a2⟩) := by
  rw [loop_eq pr 7 1 _ Try.f7 fn_7 _ rfl _ ann_7 _ rfl]
  simp -implicitDefEqProofs only [h, Int.lt_irrefl, go_sem, Nat.reduceAdd, Nat.reduceSub, Nat.reduceMul, Nat.reduceMod, Nat.reduceLT, Nat.reduceLeDiff, Nat.reduceEqDiff, Nat.reduceBEq, Nat.reduceDiv, Int.reduceLT, Int.reduceLE, Int.reduceToNat, Int.reduceNeg, Int.reduceEq, ↓reduceIte, reduceCtorEq, ↓reduceDIte]
theorem paab (n : Nat) (hn : n ≤ 6) (c1 c2 a2 : List Int) : ∀ (d : Nat) (a1 : List Int), a1.length + d = n → loopOf pr 7 1 ⟨KUab n, KGab c1 c2 a1 a2⟩ = some (.exit 2, ⟨KUab n, KGab c1 c2 (a1 ++ List.replicate d (-1)) a2⟩)
  | 0, a1, h => by rw [List.replicate_zero, List.append_nil]; exact paab_e n c1 c2 a1 a2 h
  | d + 1, a1, h => by
    rw [paab_s n hn c1 c2 a1 a2 (by omega), paab n hn c1 c2 a2 d (a1 ++ [-1]) (by simp; omega), List.append_assoc, List.replicate_succ, List.singleton_append]
theorem pbab_s (n : Nat) (hn : n ≤ 6) (c1 c2 a1 a2 : List Int) (h : a2.length < n) : loopOf pr 7 2 ⟨KUab n, KGab c1 c2 a1 a2⟩ = loopOf pr 7 2 ⟨KUab n, KGab c1 c2 a1 (a2 ++ [-1])⟩ := by
  have r1 : ((a2.length + 1) * 8 ≤ 140737488355328 ∧ a2.length ≤ 9223372036854775806) = True := tr ⟨by omega, by omega⟩
  rw [loop_eq pr 7 2 _ Try.f7 fn_7 _ rfl _ ann_7 _ rfl]
  simp -implicitDefEqProofs only [lt_cast h, r1, go_sem, Nat.reduceAdd, Nat.reduceSub, Nat.reduceMul, Nat.reduceMod, Nat.reduceLT, Nat.reduceLeDiff, Nat.reduceEqDiff, Nat.reduceBEq, Nat.reduceDiv, Int.reduceLT, Int.reduceLE, Int.reduceToNat, Int.reduceNeg, Int.reduceEq, ↓reduceIte, reduceCtorEq, ↓reduceDIte]
theorem pbab_e (n : Nat) (c1 c2 a1 a2 : List Int) (h : a2.length = n) : loopOf pr 7 2 ⟨KUab n, KGab c1 c2 a1 a2⟩ = some (.exit 4, ⟨KUab n, KGab c1 c2 a1 a2⟩) := by
  rw [loop_eq pr 7 2 _ Try.f7 fn_7 _ rfl _ ann_7 _ rfl]
  simp -implicitDefEqProofs only [h, Int.lt_irrefl, go_sem, Nat.reduceAdd, Nat.reduceSub, Nat.reduceMul, Nat.reduceMod, Nat.reduceLT, Nat.reduceLeDiff, Nat.reduceEqDiff, Nat.reduceBEq, Nat.reduceDiv, Int.reduceLT, Int.reduceLE, Int.reduceToNat, Int.reduceNeg, Int.reduceEq, ↓reduceIte, reduceCtorEq, ↓reduceDIte]
theorem pbab (n : Nat) (hn : n ≤ 6) (c1 c2 a1 : List Int) : ∀ (d : Nat) (a2 : List Int), a2.length + d = n → loopOf pr 7 2 ⟨KUab n, KGab c1 c2 a1 a2⟩ = some (.exit 4, ⟨KUab n, KGab c1 c2 a1 (a2 ++ List.replicate d (-1))⟩)
  | 0, a2, h => by rw [List.replicate_zero, List.append_nil]; exact pbab_e n c1 c2 a1 a2 h
  | d + 1, a2, h => by
    rw [pbab_s n hn c1 c2 a1 a2 (by omega), pbab n hn c1 c2 a1 d (a2 ++ [-1]) (by simp; omega), List.append_assoc, List.replicate_succ, List.singleton_append]
theorem knab (a b us ms hs1 hs2 c1 c2 A1 A2 : List Int) (hit1 hit2 : List (List Int)) (v : Int) (n : Nat) (hn : 1 ≤ n ∧ n ≤ 6)
    (g0 : callOf pr 28 [BY a, BY b] [] = some (B false, []))
    (g1 : callOf pr 29 [BY a] [] = some (.os (.t 576), [(576, .arr true false (.int .i64) us)]))
    (g2 : callOf pr 30 [BY b, I 0, I 6] [] = some (I v, []))
    (hw : IntKind.i64.wrap (1 + v) = (n : Int)) (hw2 : IntKind.i64.wrap ((us.length : Int) - 1) = (us.length : Int) - 1)
    (g3 : callOf pr 31 [I n] [] = some (.tuple [.agg [.os (.t 448), .os (.t 449)], B true], [(448, .arr true true (.slice (.int .i64)) hit1), (449, .arr true false (.int .i64) ms)]))
    (g4 : callOf pr 32 [I n] [] = some (.tuple [.agg [.os (.t 448), .os (.t 449)], B true], [(448, .arr true true (.slice (.int .i64)) hit2), (449, .arr true false (.int .i64) ms)]))
    (g5 : callOf pr 27 [.agg [LL hit1, L ms], L us] [] = some (.tuple [.os (.t 1345), .os (.t 1344), B true], [(1344, .arr true false (.int .i64) c1), (1345, .arr true false (.int .i64) hs1)]))
    (g6 : callOf pr 27 [.agg [LL hit2, L ms], L us] [] = some (.tuple [.os (.t 1344), .os (.t 1346), B true], [(1344, .arr true false (.int .i64) hs2), (1346, .arr true false (.int .i64) c2)]))
    (l1 : c1.length = n) (l2 : c2.length = n) (l3 : hs2.length = us.length) (k1 : A1.length ≤ n) (k2 : A2.length ≤ n)
    (h : loopOf pr 7 0 ⟨KTab n ((us.length : Int) - 1), KHab us c1 c2 hs2 [] []⟩ = some (.exit 0, ⟨KTab n (-1), KHab us c1 c2 hs2 A1 A2⟩))
    (e1 : A1 ++ List.replicate (n - A1.length) (-1) = c1) (e2 : A2 ++ List.replicate (n - A2.length) (-1) = c2) :
    callOf pr 7 [BY a, BY b] [] = some (B true, []) := by
  have n1 := call_nums c1 (by omega)
  have n2 := call_nums c2 (by omega)
  have h3 := pbab n hn.2 c1 c2 c1 (n - A2.length) A2 (by omega)
  rw [e2] at h3
  by_cases hA : A1.length = n
  · have h2 := paab_g n us c1 c2 hs2 A1 A2 hA
    have ea : A1 = c1 := by rw [hA, Nat.sub_self, List.replicate_zero, List.append_nil] at e1; exact e1
    subst ea
    rw [call_eq pr 7 _ _ Try.f7 fn_7 _ rfl _ ann_7 rfl]
    simp -implicitDefEqProofs only [g0, g1, g2, hw, hw2, g3, g4, g5, g6, hA, l2, l3, h, h2, h3, n1, n2, go_sem, Nat.reduceAdd, Nat.reduceSub, Nat.reduceMul, Nat.reduceMod, Nat.reduceLT, Nat.reduceLeDiff, Nat.reduceEqDiff, Nat.reduceBEq, Nat.reduceDiv, Int.reduceLT, Int.reduceLE, Int.reduceToNat, Int.reduceNeg, Int.reduceEq, ↓reduceIte, reduceCtorEq, ↓reduceDIte]
  · have h2 := paab n hn.2 c1 c2 A2 (n - A1.length - 1) (A1 ++ [-1]) (by simp; omega)
    rw [← paab_f n hn.2 us c1 c2 hs2 A1 A2 (by omega), List.append_assoc, List.singleton_append, ← List.replicate_succ, show n - A1.length - 1 + 1 = n - A1.length by omega, e1] at h2
    rw [call_eq pr 7 _ _ Try.f7 fn_7 _ rfl _ ann_7 rfl]
    simp -implicitDefEqProofs only [g0, g1, g2, hw, hw2, g3, g4, g5, g6, l1, l2, l3, h, h2, h3, n1, n2, go_sem, Nat.reduceAdd, Nat.reduceSub, Nat.reduceMul, Nat.reduceMod, Nat.reduceLT, Nat.reduceLeDiff, Nat.reduceEqDiff, Nat.reduceBEq, Nat.reduceDiv, Int.reduceLT, Int.reduceLE, Int.reduceToNat, Int.reduceNeg, Int.reduceEq, ↓reduceIte, reduceCtorEq, ↓reduceDIte]
abbrev KUba (n : Nat) : Slots := [(6, I n), (12, .os (.t 2625)), (15, .os (.t 3072)), (17, .os (.t 5440)), (18, .os (.t 5504))]
abbrev KGba (c1 c2 a1 a2 : List Int) : Heap := [(2625, .arr true false (.int .i64) c1), (3072, .arr true false (.int .i64) c2), (5440, .arr true false (.int .i64) a1), (5504, .arr true false (.int .i64) a2)]
theorem paba_f (n : Nat) (hn : n ≤ 6) (us c1 c2 hs a1 a2 : List Int) (h : a1.length < n) : loopOf pr 7 1 ⟨KTba n (-1), KHba us c1 c2 hs a1 a2⟩ = loopOf pr 7 1 ⟨KUba n, KGba c1 c2 (a1 ++ [-1]) a2⟩ := by
  have r1 : ((a1.length + 1) * 8 ≤ 140737488355328 ∧ a1.length ≤ 9223372036854775806) = True := tr ⟨by omega, by omega⟩
  rw [loop_eq pr 7 1 _ Try.f7 fn_7 _ rfl _ ann_7 _ rfl]
  simp -implicitDefEqProofs only [lt_cast h, r1, go_sem, Nat.reduceAdd, Nat.reduceSub, Nat.reduceMul, Nat.reduceMod, Nat.reduceLT, Nat.reduceLeDiff, Nat.reduceEqDiff, Nat.reduceBEq, Nat.reduceDiv, Int.reduceLT, Int.reduceLE, Int.reduceToNat, Int.reduceNeg, Int.reduceEq, ↓reduceIte, reduceCtorEq, ↓reduceDIte]
theorem paba_g (n : Nat) (us c1 c2 hs a1 a2 : List Int) (h : a1.length = n) : loopOf pr 7 1 ⟨KTba n (-1), KHba us c1 c2 hs a1 a2⟩ = some (.exit 2, ⟨KUba n, KHba us c1 c2 hs a1 a2⟩) := by
  rw [loop_eq pr 7 1 _ Try.f7 fn_7 _ rfl _ ann_7 _ rfl]
  simp -implicitDefEqProofs only [h, Int.lt_irrefl, go_sem, Nat.reduceAdd, Nat.reduceSub, Nat.reduceMul, Nat.reduceMod, Nat.reduceLT, Nat.reduceLeDiff, Nat.reduceEqDiff, Nat.reduceBEq, Nat.reduceDiv, Int.reduceLT, Int.reduceLE, Int.reduceToNat, Int.reduceNeg, Int.reduceEq, ↓reduceIte, reduceCtorEq, ↓reduceDIte]
theorem paba_s (n : Nat) (hn : n ≤ 6) (c1 c2 a1 a2 : List Int) (h : a1.length < n) : loopOf pr 7 1 ⟨KUba n, KGba c1 c2 a1 a2⟩ = loopOf pr 7 1 ⟨KUba n, KGba c1 c2 (a1 ++ [-1]) a2⟩ := by
  have r1 : ((a1.length + 1) * 8 ≤ 140737488355328 ∧ a1.length ≤ 9223372036854775806) = True := tr ⟨by omega, by omega⟩
  rw [loop_eq pr 7 1 _ Try.f7 fn_7 _ rfl _ ann_7 _ rfl]
  simp -implicitDefEqProofs only [lt_cast h, r1, go_sem, Nat.reduceAdd, Nat.reduceSub, Nat.reduceMul, Nat.reduceMod, Nat.reduceLT, Nat.reduceLeDiff, Nat.reduceEqDiff, Nat.reduceBEq, Nat.reduceDiv, Int.reduceLT, Int.reduceLE, Int.reduceToNat, Int.reduceNeg, Int.reduceEq, ↓reduceIte, reduceCtorEq, ↓reduceDIte]
theorem paba_e (n : Nat) (c1 c2 a1 a2 : List Int) (h : a1.length = n) : loopOf pr 7 1 ⟨KUba n, KGba c1 c2 a1 a2⟩ = some (.exit 2, ⟨KUba n, KGba c1 c2 a1 a2⟩) := by
  rw [loop_eq pr 7 1 _ Try.f7 fn_7 _ rfl _ ann_7 _ rfl]
  simp -implicitDefEqProofs only [h, Int.lt_irrefl, go_sem, Nat.reduceAdd, Nat.reduceSub, Nat.reduceMul, Nat.reduceMod, Nat.reduceLT, Nat.reduceLeDiff, Nat.reduceEqDiff, Nat.reduceBEq, Nat.reduceDiv, Int.reduceLT, Int.reduceLE, Int.reduceToNat, Int.reduceNeg, Int.reduceEq, ↓reduceIte, reduceCtorEq, ↓reduceDIte]
theorem paba (n : Nat) (hn : n ≤ 6) (c1 c2 a2 : List Int) : ∀ (d : Nat) (a1 : List Int), a1.length + d = n → loopOf pr 7 1 ⟨KUba n, KGba c1 c2 a1 a2⟩ = some (.exit 2, ⟨KUba n, KGba c1 c2 (a1 ++ List.replicate d (-1)) a2⟩)
  | 0, a1, h => by rw [List.replicate_zero, List.append_nil]; exact paba_e n c1 c2 a1 a2 h
  | d + 1, a1, h => by
    rw [paba_s n hn c1 c2 a1 a2 (by omega), paba n hn c1 c2 a2 d (a1 ++ [-1]) (by simp; omega), List.append_assoc, List.replicate_succ, List.singleton_append]
theorem pbba_s (n : Nat) (hn : n ≤ 6) (c1 c2 a1 a2 : List Int) (h : a2.length < n) : loopOf pr 7 2 ⟨KUba n, KGba c1 c2 a1 a2⟩ = loopOf pr 7 2 ⟨KUba n, KGba c1 c2 a1 (a2 ++ [-1])⟩ := by
  have r1 : ((a2.length + 1) * 8 ≤ 140737488355328 ∧ a2.length ≤ 9223372036854775806) = True := tr ⟨by omega, by omega⟩
  rw [loop_eq pr 7 2 _ Try.f7 fn_7 _ rfl _ ann_7 _ rfl]
  simp -implicitDefEqProofs only [lt_cast h, r1, go_sem, Nat.reduceAdd, Nat.reduceSub, Nat.reduceMul, Nat.reduceMod, Nat.reduceLT, Nat.reduceLeDiff, Nat.reduceEqDiff, Nat.reduceBEq, Nat.reduceDiv, Int.reduceLT, Int.reduceLE, Int.reduceToNat, Int.reduceNeg, Int.reduceEq, ↓reduceIte, reduceCtorEq, ↓reduceDIte]
theorem pbba_e (n : Nat) (c1 c2 a1 a2 : List Int) (h : a2.length = n) : loopOf pr 7 2 ⟨KUba n, KGba c1 c2 a1 a2⟩ = some (.exit 4, ⟨KUba n, KGba c1 c2 a1 a2⟩) := by
  rw [loop_eq pr 7 2 _ Try.f7 fn_7 _ rfl _ ann_7 _ rfl]
  simp -implicitDefEqProofs only [h, Int.lt_irrefl, go_sem, Nat.reduceAdd, Nat.reduceSub, Nat.reduceMul, Nat.reduceMod, Nat.reduceLT, Nat.reduceLeDiff, Nat.reduceEqDiff, Nat.reduceBEq, Nat.reduceDiv, Int.reduceLT, Int.reduceLE, Int.reduceToNat, Int.reduceNeg, Int.reduceEq, ↓reduceIte, reduceCtorEq, ↓reduceDIte]
theorem pbba (n : Nat) (hn : n ≤ 6) (c1 c2 a1 : List Int) : ∀ (d : Nat) (a2 : List Int), a2.length + d = n → loopOf pr 7 2 ⟨KUba n, KGba c1 c2 a1 a2⟩ = some (.exit 4, ⟨KUba n, KGba c1 c2 a1 (a2 ++ List.replicate d (-1))⟩)
  | 0, a2, h => by rw [List.replicate_zero, List.append_nil]; exact pbba_e n c1 c2 a1 a2 h
  | d + 1, a2, h => by
    rw [pbba_s n hn c1 c2 a1 a2 (by omega), pbba n hn c1 c2 a1 d (a2 ++ [-1]) (by simp; omega), List.append_assoc, List.replicate_succ, List.singleton_append]
theorem knba (a b us ms hs1 hs2 c1 c2 A1 A2 : List Int) (hit1 hit2 : List (List Int)) (v : Int) (n : Nat) (hn : 1 ≤ n ∧ n ≤ 6)
    (g0 : callOf pr 28 [BY a, BY b] [] = some (B false, []))
    (g1 : callOf pr 29 [BY a] [] = some (.os (.t 576), [(576, .arr true false (.int .i64) us)]))
    (g2 : callOf pr 30 [BY b, I 0, I 6] [] = some (I v, []))
    (hw : IntKind.i64.wrap (1 + v) = (n : Int)) (hw2 : IntKind.i64.wrap ((us.length : Int) - 1) = (us.length : Int) - 1)
    (g3 : callOf pr 31 [I n] [] = some (.tuple [.agg [.os (.t 448), .os (.t 449)], B true], [(448, .arr true true (.slice (.int .i64)) hit1), (449, .arr true false (.int .i64) ms)]))
    (g4 : callOf pr 32 [I n] [] = some (.tuple [.agg [.os (.t 448), .os (.t 449)], B true], [(448, .arr true true (.slice (.int .i64)) hit2), (449, .arr true false (.int .i64) ms)]))
    (g5 : callOf pr 27 [.agg [LL hit1, L ms], L us] [] = some (.tuple [.os (.t 1344), .os (.t 1346), B true], [(1344, .arr true false (.int .i64) hs1), (1346, .arr true false (.int .i64) c1)]))
    (g6 : callOf pr 27 [.agg [LL hit2, L ms], L us] [] = some (.tuple [.os (.t 1345), .os (.t 1344), B true], [(1344, .arr true false (.int .i64) c2), (1345, .arr true false (.int .i64) hs2)]))
    (l1 : c1.length = n) (l2 : c2.length = n) (l3 : hs2.length = us.length) (k1 : A1.length ≤ n) (k2 : A2.length ≤ n)
    (h : loopOf pr 7 0 ⟨KTba n ((us.length : Int) - 1), KHba us c1 c2 hs2 [] []⟩ = some (.exit 0, ⟨KTba n (-1), KHba us c1 c2 hs2 A1 A2⟩))
    (e1 : A1 ++ List.replicate (n - A1.length) (-1) = c1) (e2 : A2 ++ List.replicate (n - A2.length) (-1) = c2) :
    callOf pr 7 [BY a, BY b] [] = some (B true, []) := by
  have n1 := call_nums c1 (by omega)
  have n2 := call_nums c2 (by omega)
  have h3 := pbba n hn.2 c1 c2 c1 (n - A2.length) A2 (by omega)
  rw [e2] at h3
  by_cases hA : A1.length = n
  · have h2 := paba_g n us c1 c2 hs2 A1 A2 hA
    have ea : A1 = c1 := by rw [hA, Nat.sub_self, List.replicate_zero, List.append_nil] at e1; exact e1
    subst ea
    rw [call_eq pr 7 _ _ Try.f7 fn_7 _ rfl _ ann_7 rfl]
    simp -implicitDefEqProofs only [g0, g1, g2, hw, hw2, g3, g4, g5, g6, hA, l2, l3, h, h2, h3, n1, n2, go_sem, Nat.reduceAdd, Nat.reduceSub, Nat.reduceMul, Nat.reduceMod, Nat.reduceLT, Nat.reduceLeDiff, Nat.reduceEqDiff, Nat.reduceBEq, Nat.reduceDiv, Int.reduceLT, Int.reduceLE, Int.reduceToNat, Int.reduceNeg, Int.reduceEq, ↓reduceIte, reduceCtorEq, ↓reduceDIte]
  · have h2 := paba n hn.2 c1 c2 A2 (n - A1.length - 1) (A1 ++ [-1]) (by simp; omega)
    rw [← paba_f n hn.2 us c1 c2 hs2 A1 A2 (by omega), List.append_assoc, List.singleton_append, ← List.replicate_succ, show n - A1.length - 1 + 1 = n - A1.length by omega, e1] at h2
    rw [call_eq pr 7 _ _ Try.f7 fn_7 _ rfl _ ann_7 rfl]
    simp -implicitDefEqProofs only [g0, g1, g2, hw, hw2, g3, g4, g5, g6, l1, l2, l3, h, h2, h3, n1, n2, go_sem, Nat.reduceAdd, Nat.reduceSub, Nat.reduceMul, Nat.reduceMod, Nat.reduceLT, Nat.reduceLeDiff, Nat.reduceEqDiff, Nat.reduceBEq, Nat.reduceDiv, Int.reduceLT, Int.reduceLE, Int.reduceToNat, Int.reduceNeg, Int.reduceEq, ↓reduceIte, reduceCtorEq, ↓reduceDIte]
abbrev KUbb (n : Nat) : Slots := [(6, I n), (12, .os (.t 2625)), (15, .os (.t 3073)), (17, .os (.t 5440)), (18, .os (.t 5504))]
abbrev KGbb (c1 c2 a1 a2 : List Int) : Heap := [(2625, .arr true false (.int .i64) c1), (3073, .arr true false (.int .i64) c2), (5440, .arr true false (.int .i64) a1), (5504, .arr true false (.int .i64) a2)]
theorem pabb_f (n : Nat) (hn : n ≤ 6) (us c1 c2 hs a1 a2 : List Int) (h : a1.length < n) : loopOf pr 7 1 ⟨KTbb n (-1), KHbb us c1 c2 hs a1 a2⟩ = loopOf pr 7 1 ⟨KUbb n, KGbb c1 c2 (a1 ++ [-1]) a2⟩ := by
  have r1 : ((a1.length + 1) * 8 ≤ 140737488355328 ∧ a1.length ≤ 9223372036854775806) = True := tr ⟨by omega, by omega⟩
  rw [loop_eq pr 7 1 _ Try.f7 fn_7 _ rfl _ ann_7 _ rfl]
  simp -implicitDefEqProofs only [lt_cast h, r1, go_sem, Nat.reduceAdd, Nat.reduceSub, Nat.reduceMul, Nat.reduceMod, Nat.reduceLT, Nat.reduceLeDiff, Nat.reduceEqDiff, Nat.reduceBEq, Nat.reduceDiv, Int.reduceLT, Int.reduceLE, Int.reduceToNat, Int.reduceNeg, Int.reduceEq, ↓reduceIte, reduceCtorEq, ↓reduceDIte]
theorem pabb_g (n : Nat) (us c1 c2 hs a1 a2 : List Int) (h : a1.length = n) : loopOf pr 7 1 ⟨KTbb n (-1), KHbb us c1 c2 hs a1 a2⟩ = some (.exit 2, ⟨KUbb n, KHbb us c1 c2 hs a1 a2⟩) := by
  rw [loop_eq pr 7 1 _ Try.f7 fn_7 _ rfl _ ann_7 _ rfl]
  simp -implicitDefEqProofs only [h, Int.lt_irrefl, go_sem, Nat.reduceAdd, Nat.reduceSub, Nat.reduceMul, Nat.reduceMod, Nat.reduceLT, Nat.reduceLeDiff, Nat.reduceEqDiff, Nat.reduceBEq, Nat.reduceDiv, Int.reduceLT, Int.reduceLE, Int.reduceToNat, Int.reduceNeg, Int.reduceEq, ↓reduceIte, reduceCtorEq, ↓reduceDIte]
theorem pabb_s (n : Nat) (hn : n ≤ 6) (c1 c2 a1 a2 : List Int) (h : a1.length < n) : loopOf pr 7 1 ⟨KUbb n, KGbb c1 c2 a1 a2⟩ = loopOf pr 7 1 ⟨KUbb n, KGbb c1 c2 (a1 ++ [-1]) a2⟩ := by
  have r1 : ((a1.length + 1) * 8 ≤ 140737488355328 ∧ a1.length ≤ 9223372036854775806) = True := tr ⟨by omega, by omega⟩
  rw [loop_eq pr 7 1 _ Try.f7 fn_7 _ rfl _ ann_7 _ rfl]
  simp -implicitDefEqProofs only [lt_cast h, r1, go_sem, Nat.reduceAdd, Nat.reduceSub, Nat.reduceMul, Nat.reduceMod, Nat.reduceLT, Nat.reduceLeDiff, Nat.reduceEqDiff, Nat.reduceBEq, Nat.reduceDiv, Int.reduceLT, Int.reduceLE, Int.reduceToNat, Int.reduceNeg, Int.reduceEq, ↓reduceIte, reduceCtorEq, ↓reduceDIte]
theorem pabb_e (n : Nat) (c1 c2 a1 a2 : List Int) (h : a1.length = n) : loopOf pr 7 1 ⟨KUbb n, KGbb c1 c2 a1 a2⟩ = some (.exit 2, ⟨KUbb n, KGbb c1 c2 a1 a2⟩) := by
  rw [loop_eq pr 7 1 _ Try.f7 fn_7 _ rfl _ ann_7 _ rfl]
  simp -implicitDefEqProofs only [h, Int.lt_irrefl, go_sem, Nat.reduceAdd, Nat.reduceSub, Nat.reduceMul, Nat.reduceMod, Nat.reduceLT, Nat.reduceLeDiff, Nat.reduceEqDiff, Nat.reduceBEq, Nat.reduceDiv, Int.reduceLT, Int.reduceLE, Int.reduceToNat, Int.reduceNeg, Int.reduceEq, ↓reduceIte, reduceCtorEq, ↓reduceDIte]
theorem pabb (n : Nat) (hn : n ≤ 6) (c1 c2 a2 : List Int) : ∀ (d : Nat) (a1 : List Int), a1.length + d = n → loopOf pr 7 1 ⟨KUbb n, KGbb c1 c2 a1 a2⟩ = some (.exit 2, ⟨KUbb n, KGbb c1 c2 (a1 ++ List.replicate d (-1)) a2⟩)
  | 0, a1, h => by rw [List.replicate_zero, List.append_nil]; exact pabb_e n c1 c2 a1 a2 h
  | d + 1, a1, h => by
    rw [pabb_s n hn c1 c2 a1 a2 (by omega), pabb n hn c1 c2 a2 d (a1 ++ [-1]) (by simp; omega), List.append_assoc, List.replicate_succ, List.singleton_append]
theorem pbbb_s (n : Nat) (hn : n ≤ 6) (c1 c2 a1 a2 : List Int) (h : a2.length < n) : loopOf pr 7 2 ⟨KUbb n, KGbb c1 c2 a1 a2⟩ = loopOf pr 7 2 ⟨KUbb n, KGbb c1 c2 a1 (a2 ++ [-1])⟩ := by
  have r1 : ((a2.length + 1) * 8 ≤ 140737488355328 ∧ a2.length ≤ 9223372036854775806) = True := tr ⟨by omega, by omega⟩
  rw [loop_eq pr 7 2 _ Try.f7 fn_7 _ rfl _ ann_7 _ rfl]
  simp -implicitDefEqProofs only [lt_cast h, r1, go_sem, Nat.reduceAdd, Nat.reduceSub, Nat.reduceMul, Nat.reduceMod, Nat.reduceLT, Nat.reduceLeDiff, Nat.reduceEqDiff, Nat.reduceBEq, Nat.reduceDiv, Int.reduceLT, Int.reduceLE, Int.reduceToNat, Int.reduceNeg, Int.reduceEq, ↓reduceIte, reduceCtorEq, ↓reduceDIte]
theorem pbbb_e (n : Nat) (c1 c2 a1 a2 : List Int) (h : a2.length = n) : loopOf pr 7 2 ⟨KUbb n, KGbb c1 c2 a1 a2⟩ = some (.exit 4, ⟨KUbb n, KGbb c1 c2 a1 a2⟩) := by
  rw [loop_eq pr 7 2 _ Try.f7 fn_7 _ rfl _ ann_7 _ rfl]
  simp -implicitDefEqProofs only [h, Int.lt_irrefl, go_sem, Nat.reduceAdd, Nat.reduceSub, Nat.reduceMul, Nat.reduceMod, Nat.reduceLT, Nat.reduceLeDiff, Nat.reduceEqDiff, Nat.reduceBEq, Nat.reduceDiv, Int.reduceLT, Int.reduceLE, Int.reduceToNat, Int.reduceNeg, Int.reduceEq, ↓reduceIte, reduceCtorEq, ↓reduceDIte]
theorem pbbb (n : Nat) (hn : n ≤ 6) (c1 c2 a1 : List Int) : ∀ (d : Nat) (a2 : List Int), a2.length + d = n → loopOf pr 7 2 ⟨KUbb n, KGbb c1 c2 a1 a2⟩ = some (.exit 4, ⟨KUbb n, KGbb c1 c2 a1 (a2 ++ List.replicate d (-1))⟩)
  | 0, a2, h => by rw [List.replicate_zero, List.append_nil]; exact pbbb_e n c1 c2 a1 a2 h
  | d + 1, a2, h => by
    rw [pbbb_s n hn c1 c2 a1 a2 (by omega), pbbb n hn c1 c2 a1 d (a2 ++ [-1]) (by simp; omega), List.append_assoc, List.replicate_succ, List.singleton_append]
theorem knbb (a b us ms hs1 hs2 c1 c2 A1 A2 : List Int) (hit1 hit2 : List (List Int)) (v : Int) (n : Nat) (hn : 1 ≤ n ∧ n ≤ 6)
    (g0 : callOf pr 28 [BY a, BY b] [] = some (B false, []))
    (g1 : callOf pr 29 [BY a] [] = some (.os (.t 576), [(576, .arr true false (.int .i64) us)]))
    (g2 : callOf pr 30 [BY b, I 0, I 6] [] = some (I v, []))
    (hw : IntKind.i64.wrap (1 + v) = (n : Int)) (hw2 : IntKind.i64.wrap ((us.length : Int) - 1) = (us.length : Int) - 1)
    (g3 : callOf pr 31 [I n] [] = some (.tuple [.agg [.os (.t 448), .os (.t 449)], B true], [(448, .arr true true (.slice (.int .i64)) hit1), (449, .arr true false (.int .i64) ms)]))
    (g4 : callOf pr 32 [I n] [] = some (.tuple [.agg [.os (.t 448), .os (.t 449)], B true], [(448, .arr true true (.slice (.int .i64)) hit2), (449, .arr true false (.int .i64) ms)]))
    (g5 : callOf pr 27 [.agg [LL hit1, L ms], L us] [] = some (.tuple [.os (.t 1344), .os (.t 1346), B true], [(1344, .arr true false (.int .i64) hs1), (1346, .arr true false (.int .i64) c1)]))
    (g6 : callOf pr 27 [.agg [LL hit2, L ms], L us] [] = some (.tuple [.os (.t 1344), .os (.t 1346), B true], [(1344, .arr true false (.int .i64) hs2), (1346, .arr true false (.int .i64) c2)]))
    (l1 : c1.length = n) (l2 : c2.length = n) (l3 : hs2.length = us.length) (k1 : A1.length ≤ n) (k2 : A2.length ≤ n)
    (h : loopOf pr 7 0 ⟨KTbb n ((us.length : Int) - 1), KHbb us c1 c2 hs2 [] []⟩ = some (.exit 0, ⟨KTbb n (-1), KHbb us c1 c2 hs2 A1 A2⟩))
    (e1 : A1 ++ List.replicate (n - A1.length) (-1) = c1) (e2 : A2 ++ List.replicate (n - A2.length) (-1) = c2) :
    callOf pr 7 [BY a, BY b] [] = some (B true, []) := by
  have n1 := call_nums c1 (by omega)
  have n2 := call_nums c2 (by omega)
  have h3 := pbbb n hn.2 c1 c2 c1 (n - A2.length) A2 (by omega)
  rw [e2] at h3
  by_cases hA : A1.length = n
  · have h2 := pabb_g n us c1 c2 hs2 A1 A2 hA
    have ea : A1 = c1 := by rw [hA, Nat.sub_self, List.replicate_zero, List.append_nil] at e1; exact e1
    subst ea
    rw [call_eq pr 7 _ _ Try.f7 fn_7 _ rfl _ ann_7 rfl]
    simp -implicitDefEqProofs only [g0, g1, g2, hw, hw2, g3, g4, g5, g6, hA, l2, l3, h, h2, h3, n1, n2, go_sem, Nat.reduceAdd, Nat.reduceSub, Nat.reduceMul, Nat.reduceMod, Nat.reduceLT, Nat.reduceLeDiff, Nat.reduceEqDiff, Nat.reduceBEq, Nat.reduceDiv, Int.reduceLT, Int.reduceLE, Int.reduceToNat, Int.reduceNeg, Int.reduceEq, ↓reduceIte, reduceCtorEq, ↓reduceDIte]
  · have h2 := pabb n hn.2 c1 c2 A2 (n - A1.length - 1) (A1 ++ [-1]) (by simp; omega)
    rw [← pabb_f n hn.2 us c1 c2 hs2 A1 A2 (by omega), List.append_assoc, List.singleton_append, ← List.replicate_succ, show n - A1.length - 1 + 1 = n - A1.length by omega, e1] at h2
    rw [call_eq pr 7 _ _ Try.f7 fn_7 _ rfl _ ann_7 rfl]
    simp -implicitDefEqProofs only [g0, g1, g2, hw, hw2, g3, g4, g5, g6, l1, l2, l3, h, h2, h3, n1, n2, go_sem, Nat.reduceAdd, Nat.reduceSub, Nat.reduceMul, Nat.reduceMod, Nat.reduceLT, Nat.reduceLeDiff, Nat.reduceEqDiff, Nat.reduceBEq, Nat.reduceDiv, Int.reduceLT, Int.reduceLE, Int.reduceToNat, Int.reduceNeg, Int.reduceEq, ↓reduceIte, reduceCtorEq, ↓reduceDIte]
theorem okBy_of {a : List Int} (hw : Ty.WF (.slice (.int .u8)) a) (hl : ¬ 1048576 < (a.length : Int)) : okBy a := by
  refine ⟨by omega, fun x hx => ?_⟩
  have h1 := hw.2 x hx
  have h2 : IntKind.u8.min ≤ x ∧ x ≤ IntKind.u8.max := h1
  have h3 : IntKind.u8.min = 0 ∧ IntKind.u8.max = 255 := by decide
  omega
def validS (hit : List (List Int)) (miss : List Int) : Bool := decide (1 ≤ miss.length ∧ miss.length ≤ 6 ∧ hit.length = miss.length) && (sorderB miss miss.length && hit.all fun l => sorderB l miss.length)
theorem validS_eq (hit : List (List Int)) (miss : List Int) : validP hit miss = validS hit miss := by simp only [validP, validS, order_eq]
theorem lru_valid0 : ∀ n : Fin 6, validS (lruH (n.1 + 1)) (mvF (n.1 + 1) n.1) = true := by
  decide +kernel
theorem fifo_valid0 : ∀ n : Fin 6, validS (fifoH (n.1 + 1)) (mvF (n.1 + 1) n.1) = true := by
  decide +kernel
theorem lru_valid {n : Nat} (hn : 1 ≤ n ∧ n ≤ 6) : validP (lruH n) (mvF n (n - 1)) = true := by
  have := lru_valid0 ⟨n - 1, by omega⟩
  rw [validS_eq]
  simp only [Nat.sub_add_cancel hn.1] at this
  exact this
theorem fifo_valid {n : Nat} (hn : 1 ≤ n ∧ n ≤ 6) : validP (fifoH n) (mvF n (n - 1)) = true := by
  have := fifo_valid0 ⟨n - 1, by omega⟩
  rw [validS_eq]
  simp only [Nat.sub_add_cancel hn.1] at this
  exact this
theorem table_len {n : Nat} (hn : 1 ≤ n ∧ n ≤ 6) : (∀ l ∈ lruH n, l.length < 1000000000000000000) ∧ (∀ l ∈ fifoH n, l.length < 1000000000000000000) := by
  constructor
  · intro l hl
    obtain ⟨i, hi, rfl⟩ := List.mem_map.1 hl
    rw [mvF_len (List.mem_range.1 hi) hn.2]; omega
  · intro l hl
    obtain ⟨i, hi, rfl⟩ := List.mem_map.1 hl
    rw [ascL_length]; omega
theorem law_known (a b : List Int) (wa : Ty.WF (.slice (.int .u8)) a) (wb : Ty.WF (.slice (.int .u8)) b) : callOf pr 7 [BY a, BY b] [] = some (B true, []) := by
  have g0 := call_long a b
  by_cases h1 : 1048576 < (a.length : Int)
  · rw [decide_eq_true h1, Bool.true_or] at g0
    rw [call_eq pr 7 _ _ Try.f7 fn_7 _ rfl _ ann_7 rfl]
    simp -implicitDefEqProofs only [g0, go_sem, Nat.reduceAdd, Nat.reduceSub, Nat.reduceMul, Nat.reduceMod, Nat.reduceLT, Nat.reduceLeDiff, Nat.reduceEqDiff, Nat.reduceBEq, Nat.reduceDiv, Int.reduceLT, Int.reduceLE, Int.reduceToNat, Int.reduceNeg, Int.reduceEq, ↓reduceIte, reduceCtorEq, ↓reduceDIte]
  by_cases h2 : 1048576 < (b.length : Int)
  · rw [decide_eq_true h2, Bool.or_true] at g0
    rw [call_eq pr 7 _ _ Try.f7 fn_7 _ rfl _ ann_7 rfl]
    simp -implicitDefEqProofs only [g0, go_sem, Nat.reduceAdd, Nat.reduceSub, Nat.reduceMul, Nat.reduceMod, Nat.reduceLT, Nat.reduceLeDiff, Nat.reduceEqDiff, Nat.reduceBEq, Nat.reduceDiv, Int.reduceLT, Int.reduceLE, Int.reduceToNat, Int.reduceNeg, Int.reduceEq, ↓reduceIte, reduceCtorEq, ↓reduceDIte]
  rw [decide_eq_false h1, decide_eq_false h2, Bool.or_false] at g0
  obtain ⟨us, hus, hul, g1⟩ := call_uses a (okBy_of wa h1)
  obtain ⟨v, hv, g2⟩ := call_at b (okBy_of wb h2)
  obtain ⟨n, hvn⟩ : ∃ n : Nat, 1 + v = n := ⟨(1 + v).toNat, by omega⟩
  have hn : 1 ≤ n ∧ n ≤ 6 := by omega
  have hw : IntKind.i64.wrap (1 + v) = (n : Int) := by rw [hvn, wrap_i] <;> omega
  have hw2 : IntKind.i64.wrap ((us.length : Int) - 1) = (us.length : Int) - 1 := by rw [wrap_i] <;> omega
  have g3 := pol n hn.1 hn.2
  have g4 := pof n hn.1 hn.2
  have hm : (mvF n (n - 1)).length = n := mvF_len (by omega) hn.2
  have hu : validU us = true := by
    simp only [validU, Bool.and_eq_true, List.all_eq_true, addrB, decide_eq_true_eq]
    exact ⟨fun x hx => by have := hus x hx; omega, by omega⟩
  have f1 : fair (lruH n) (mvF n (n - 1)) us = true := by simp only [fair, lru_valid hn, hu, Bool.and_self]
  have f2 : fair (fifoH n) (mvF n (n - 1)) us = true := by simp only [fair, fifo_valid hn, hu, Bool.and_self]
  have g5 := call_irp (lruH n) (mvF n (n - 1)) (by simp [lruH]; omega) (by omega) (table_len hn).1 us (by omega)
  have g6 := call_irp (fifoH n) (mvF n (n - 1)) (by simp [fifoH]; omega) (by omega) (table_len hn).2 us (by omega)
  rw [if_pos f1] at g5
  rw [if_pos f2] at g6
  have he : emptyC (mvF n (n - 1)) = List.replicate n (-1) := by rw [emptyC, hm]
  have l1 : (runC (lruH n) (mvF n (n - 1)) (emptyC (mvF n (n - 1))) us).2.2.length = n := (runC_final (lru_valid hn) us _ (by simp [emptyC])).trans hm
  have l2 : (runC (fifoH n) (mvF n (n - 1)) (emptyC (mvF n (n - 1))) us).2.2.length = n := (runC_final (fifo_valid hn) us _ (by simp [emptyC])).trans hm
  have l3 : (runC (fifoH n) (mvF n (n - 1)) (emptyC (mvF n (n - 1))) us).1.length = us.length := (runC_length _ _ us _).1
  have e1 := lru_is hn.1 us (fun x hx => (hus x hx).1)
  have e2 := fifo_is hn.1 us
  rw [← he] at e1 e2
  generalize (runC (lruH n) (mvF n (n - 1)) (emptyC (mvF n (n - 1))) us).2.2 = c1 at *
  generalize (runC (lruH n) (mvF n (n - 1)) (emptyC (mvF n (n - 1))) us).1 = hs1 at *
  generalize (runC (fifoH n) (mvF n (n - 1)) (emptyC (mvF n (n - 1))) us).2.2 = c2 at *
  generalize (runC (fifoH n) (mvF n (n - 1)) (emptyC (mvF n (n - 1))) us).1 = hs2 at *
  have k1 := lastL_len n us.reverse [] (by simp)
  have k2 := cameL_len n (us.zip hs2).reverse [] (by simp)
  have tk : us.take us.length = us := List.take_length
  have tz : (us.zip hs2).take us.length = us.zip hs2 := List.take_of_length_le (by simp; omega)
  generalize lruH n = hit1 at *
  generalize fifoH n = hit2 at *
  generalize mvF n (n - 1) = ms at *
  rcases g5 with g5 | g5 <;> rcases g6 with g6 | g6
  · have h := loaa n hn.2 us c1 c2 hs2 (by omega) l3 us.length [] [] (by omega) (by simp) (by simp)
    rw [tk, tz] at h
    exact knaa a b us ms hs1 hs2 c1 c2 _ _ hit1 hit2 v n hn g0 g1 g2 hw hw2 g3 g4 g5 g6 l1 l2 l3 k1 k2 h e1.symm e2.symm
  · have h := loab n hn.2 us c1 c2 hs2 (by omega) l3 us.length [] [] (by omega) (by simp) (by simp)
    rw [tk, tz] at h
    exact knab a b us ms hs1 hs2 c1 c2 _ _ hit1 hit2 v n hn g0 g1 g2 hw hw2 g3 g4 g5 g6 l1 l2 l3 k1 k2 h e1.symm e2.symm
  · have h := loba n hn.2 us c1 c2 hs2 (by omega) l3 us.length [] [] (by omega) (by simp) (by simp)
    rw [tk, tz] at h
    exact knba a b us ms hs1 hs2 c1 c2 _ _ hit1 hit2 v n hn g0 g1 g2 hw hw2 g3 g4 g5 g6 l1 l2 l3 k1 k2 h e1.symm e2.symm
  · have h := lobb n hn.2 us c1 c2 hs2 (by omega) l3 us.length [] [] (by omega) (by simp) (by simp)
    rw [tk, tz] at h
    exact knbb a b us ms hs1 hs2 c1 c2 _ _ hit1 hit2 v n hn g0 g1 g2 hw hw2 g3 g4 g5 g6 l1 l2 l3 k1 k2 h e1.symm e2.symm
end Go.Proofs.Ytfooniikopekoaa.PI
