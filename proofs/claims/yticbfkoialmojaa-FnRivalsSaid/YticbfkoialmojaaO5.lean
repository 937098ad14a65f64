/- The best replacement, in plain lists. -/
import Derived.Test.YticbfkoialmojaaN3
namespace Go.Proofs.Yticbfkoialmojaa.PI
open Go Go.Q
set_option maxRecDepth 100000
set_option linter.unusedSimpArgs false
set_option linter.unusedVariables false
set_option maxHeartbeats 4000000
/-- When an address is used next. -/
def waitN (uses : List Int) (a : Int) (from_ : Nat) : Int := match (uses.drop from_).findIdx? (fun x => decide (x = a)) with
  | some k => ((from_ + k : Nat) : Int)
  | none => 60
/-- The first one with the greatest wait: the one in hand, its index, the index of the next one. -/
def lastB (w : Int → Int) : Nat → Int → Nat → List Int → Nat
  | b, _, _, [] => b
  | b, m, k, y :: l => if w m < w y then lastB w k y (k + 1) l else lastB w b m (k + 1) l
def lastM (w : Int → Int) : Int → List Int → Int
  | m, [] => m
  | m, y :: l => if w m < w y then lastM w y l else lastM w m l
theorem lastB_M (w : Int → Int) (xs : List Int) : ∀ (l : List Int) (b : Nat) (m : Int) (k : Nat), xs[b]? = some m → xs.drop k = l → xs[lastB w b m k l]? = some (lastM w m l)
  | [], b, m, k, hb, _ => hb
  | y :: l, b, m, k, hb, hk => by
    have hy : xs[k]? = some y := by
      have := congrArg (·[0]?) hk
      simpa using this
    have hk' : xs.drop (k + 1) = l := by
      have := congrArg (·.drop 1) hk
      simpa using this
    unfold lastB lastM
    split
    · exact lastB_M w xs l k y (k + 1) hy hk'
    · exact lastB_M w xs l b m (k + 1) hb hk'
theorem lastB_lt (w : Int → Int) : ∀ (l : List Int) (b : Nat) (m : Int) (k n : Nat), b < n → k + l.length ≤ n → lastB w b m k l < n
  | [], b, m, k, n, hb, _ => hb
  | y :: l, b, m, k, n, hb, hk => by
    simp only [List.length_cons] at hk
    unfold lastB
    split
    · exact lastB_lt w l k y (k + 1) n (by omega) (by omega)
    · exact lastB_lt w l b m (k + 1) n hb (by omega)
/-- A number is put into an ascending list. -/
def putL : List Int → Int → List Int
  | [], a => [a]
  | x :: l, a => if x < a then x :: putL l a else if a < x then a :: x :: l else x :: l
theorem putL_perm : ∀ (l : List Int) (a : Int), a ∉ l → List.Perm (putL l a) (a :: l)
  | [], a, _ => List.Perm.refl _
  | x :: l, a, h => by
    have h1 : a ≠ x := fun e => h (by rw [e]; simp)
    have h2 : a ∉ l := fun e => h (by simp [e])
    unfold putL
    split
    · exact ((putL_perm l a h2).cons x).trans (List.Perm.swap a x l)
    · rw [if_pos (by omega)]
theorem putL_sorted : ∀ (l : List Int) (a : Int), l.Pairwise (· < ·) → (putL l a).Pairwise (· < ·)
  | [], a, _ => by simp [putL]
  | x :: l, a, h => by
    have h' := List.pairwise_cons.1 h
    unfold putL
    split
    · rename_i hxa
      rw [List.pairwise_cons]
      refine ⟨fun y hy => ?_, putL_sorted l a h'.2⟩
      by_cases ha : a ∈ l
      · have hmem : ∀ (l : List Int) (a y : Int), y ∈ putL l a → y = a ∨ y ∈ l := by
          intro l
          induction l with
          | nil => intro a y hy; simp [putL] at hy; exact .inl hy
          | cons z l ih =>
            intro a y hy
            unfold putL at hy
            split at hy
            · rcases List.mem_cons.1 hy with rfl | hy
              · right; simp
              · rcases ih a y hy with e | e
                · exact .inl e
                · right; simp [e]
            · split at hy
              · rcases List.mem_cons.1 hy with e | hy
                · exact .inl e
                · exact .inr hy
              · exact .inr hy
        rcases hmem l a y hy with rfl | hy
        · exact hxa
        · exact h'.1 y hy
      · rcases List.mem_cons.1 ((putL_perm l a ha).mem_iff.1 hy) with rfl | hy
        · exact hxa
        · exact h'.1 y hy
    · split
      · rename_i hax
        rw [List.pairwise_cons]
        refine ⟨fun y hy => ?_, h⟩
        rcases List.mem_cons.1 hy with rfl | hy
        · exact hax
        · have := h'.1 y hy; omega
      · exact h
/-- One use: what is kept, in order; whether it was a hit; what was replaced. -/
def stepB (uses : List Int) (w : Nat) (i : Nat) (now : List Int) (a : Int) : List Int × Bool × Int :=
  if now.contains a = true then (now, true, -1)
  else if now.length = w then
    let b := lastB (fun x => waitN uses x (i + 1)) 0 (now.getD 0 0) 1 (now.drop 1)
    (putL (now.eraseIdx b) a, false, now.getD b 0)
  else (putL now a, false, -1)
def runB (uses : List Int) (w : Nat) : Nat → List Int → List Int → List Bool
  | _, _, [] => []
  | i, now, a :: rest => (stepB uses w i now a).2.1 :: runB uses w (i + 1) (stepB uses w i now a).1 rest
theorem runB_length (uses : List Int) (w : Nat) : ∀ (rest : List Int) (i : Nat) (now : List Int), (runB uses w i now rest).length = rest.length
  | [], _, _ => rfl
  | a :: rest, i, now => by simp [runB, runB_length uses w rest]
/-- Misses. -/
def missB (hs : List Bool) : Nat := (hs.filter fun h => !h).length
theorem putL_length {l : List Int} {a : Int} (h : a ∉ l) : (putL l a).length = l.length + 1 := by
  rw [(putL_perm l a h).length_eq]; rfl
theorem stepB_ok (uses : List Int) {w : Nat} (hw : 1 ≤ w) (i : Nat) {now : List Int} (a : Int) (hs : now.Pairwise (· < ·)) (hl : now.length ≤ w) : (stepB uses w i now a).1.Pairwise (· < ·) ∧ (stepB uses w i now a).1.length ≤ w := by
  unfold stepB
  by_cases hc : now.contains a = true
  · rw [if_pos hc]; exact ⟨hs, hl⟩
  · rw [if_neg hc]
    have hn : a ∉ now := by simpa using hc
    by_cases hw2 : now.length = w
    · rw [if_pos hw2]
      have hb : lastB (fun x => waitN uses x (i + 1)) 0 (now.getD 0 0) 1 (now.drop 1) < now.length := lastB_lt _ _ _ _ _ _ (by omega) (by rw [List.length_drop]; omega)
      have hne : a ∉ now.eraseIdx (lastB (fun x => waitN uses x (i + 1)) 0 (now.getD 0 0) 1 (now.drop 1)) := fun h => hn (List.mem_of_mem_eraseIdx h)
      refine ⟨putL_sorted _ a (hs.sublist (List.eraseIdx_sublist _ _)), ?_⟩
      simp only
      rw [putL_length hne, List.length_eraseIdx, if_pos hb]
      omega
    · rw [if_neg hw2]
      exact ⟨putL_sorted _ a hs, by simp only; rw [putL_length hn]; omega⟩
/-- A sorted list is its own order. -/
theorem sortI_of_sorted {xs now : List Int} (h : List.Perm now xs) (hs : now.Pairwise (· < ·)) : sortI xs = now := by
  have hp : List.Perm (sortI xs) now := (sortI_perm xs).trans h.symm
  have h1 := sortI_le xs
  have h2 : now.Pairwise (· ≤ ·) := hs.imp fun {a b} h => by omega
  exact hp.eq_of_pairwise (fun a b _ _ h1 h2 => by omega) h1 h2
def nextI (uses : List Int) (a : Int) (k : Nat) : Int := match ageOf a (uses.drop k) with
  | some j => ((k + j : Nat) : Int)
  | none => -1
theorem waitN_eq (uses : List Int) (a : Int) (k : Nat) : waitN uses a k = if nextI uses a k < 0 then 60 else nextI uses a k := by
  unfold waitN nextI ageOf
  cases (uses.drop k).findIdx? (fun x => decide (x = a)) with
  | none => simp
  | some j => simp only; rw [if_neg (by omega)]
theorem nextI_lt {uses : List Int} {a : Int} {k : Nat} : -1 ≤ nextI uses a k ∧ nextI uses a k < uses.length := by
  unfold nextI
  cases h : ageOf a (uses.drop k) with
  | none => simp only; omega
  | some j =>
    have := ageOf_lt h
    simp only [List.length_drop] at this
    simp only; omega
theorem waitN_lt {uses : List Int} (hb : uses.length ≤ 60) {a : Int} {k : Nat} : 0 ≤ waitN uses a k ∧ waitN uses a k ≤ 60 := by
  have := nextI_lt (uses := uses) (a := a) (k := k)
  rw [waitN_eq]
  split <;> omega
theorem call_nx (uses : List Int) (a : Int) (k : Nat) (hk : k ≤ uses.length) (hb : uses.length < 1000000) : callOf pr 100 [L uses, I a, I k] [] = some (I (nextI uses a k), []) := by
  have h := call_idx a (uses.drop k) (by simp; omega)
  have h1 : ((k : Int) ≤ (uses.length : Int)) = True := tr (by omega)
  have hn := nextI_lt (uses := uses) (a := a) (k := k)
  rw [call_eq pr 100 _ _ Try.f100 fn_100 _ rfl _ ann_100 rfl]
  cases hg : ageOf a (uses.drop k) with
  | none =>
    have e1 : ageI a (uses.drop k) = -1 := by rw [ageI, hg]
    have e2 : nextI uses a k = -1 := by rw [nextI, hg]
    rw [e1] at h
    rw [e2]
    simp -implicitDefEqProofs only [h, h1, zero_le_cast, Int.toNat_natCast, go_sem, Nat.reduceAdd, Nat.reduceSub, Nat.reduceMul, Nat.reduceMod, Nat.reduceLT, Nat.reduceLeDiff, Nat.reduceEqDiff, Nat.reduceBEq, Nat.reduceDiv, Int.reduceLT, Int.reduceLE, Int.reduceToNat, Int.reduceNeg, Int.reduceEq, ↓reduceIte, reduceCtorEq, ↓reduceDIte]
  | some j =>
    have e1 : ageI a (uses.drop k) = (j : Int) := by rw [ageI, hg]
    have e2 : nextI uses a k = ((k + j : Nat) : Int) := by rw [nextI, hg]
    have e3 : ((j : Int) < 0) = False := fa (by omega)
    rw [e1] at h
    rw [e2] at hn ⊢
    have hw : IntKind.i64.wrap ((k : Int) + (j : Int)) = ((k + j : Nat) : Int) := by rw [wrap_i] <;> omega
    simp -implicitDefEqProofs only [h, h1, e3, hw, zero_le_cast, Int.toNat_natCast, go_sem, Nat.reduceAdd, Nat.reduceSub, Nat.reduceMul, Nat.reduceMod, Nat.reduceLT, Nat.reduceLeDiff, Nat.reduceEqDiff, Nat.reduceBEq, Nat.reduceDiv, Int.reduceLT, Int.reduceLE, Int.reduceToNat, Int.reduceNeg, Int.reduceEq, ↓reduceIte, reduceCtorEq, ↓reduceDIte]
theorem call_wt (uses : List Int) (a : Int) (k : Nat) (hk : k ≤ uses.length) (hb : uses.length < 1000000) : callOf pr 73 [L uses, I a, I k] [] = some (I (waitN uses a k), []) := by
  have h := call_nx uses a k hk hb
  rw [waitN_eq]
  generalize nextI uses a k = v at *
  rw [call_eq pr 73 _ _ Try.f73 fn_73 _ rfl _ ann_73 rfl]
  by_cases hv : v < 0
  · have h1 : (0 ≤ v) = False := fa (by omega)
    rw [if_pos hv]
    simp -implicitDefEqProofs only [h, h1, ge_iff_le, go_sem, Nat.reduceAdd, Nat.reduceSub, Nat.reduceMul, Nat.reduceMod, Nat.reduceLT, Nat.reduceLeDiff, Nat.reduceEqDiff, Nat.reduceBEq, Nat.reduceDiv, Int.reduceLT, Int.reduceLE, Int.reduceToNat, Int.reduceNeg, Int.reduceEq, ↓reduceIte, reduceCtorEq, ↓reduceDIte]
  · have h1 : (0 ≤ v) = True := tr (by omega)
    rw [if_neg hv]
    simp -implicitDefEqProofs only [h, h1, ge_iff_le, go_sem, Nat.reduceAdd, Nat.reduceSub, Nat.reduceMul, Nat.reduceMod, Nat.reduceLT, Nat.reduceLeDiff, Nat.reduceEqDiff, Nat.reduceBEq, Nat.reduceDiv, Int.reduceLT, Int.reduceLE, Int.reduceToNat, Int.reduceNeg, Int.reduceEq, ↓reduceIte, reduceCtorEq, ↓reduceDIte]
def cmpV (uses : List Int) (k : Nat) (a b : Int) : Int := if waitN uses a k - waitN uses b k ≠ 0 then waitN uses a k - waitN uses b k else b - a
theorem call_v1 (uses : List Int) (k : Nat) (hk : k ≤ uses.length) (hb : uses.length ≤ 60) (a b : Int) (ha : 0 ≤ a ∧ a ≤ 63) (hbb : 0 ≤ b ∧ b ≤ 63) : callOf pr 72 [I a, I b, .rp [L uses], .rp [I k]] [] = some (I (cmpV uses k a b), []) := by
  have h1 := call_wt uses a k hk (by omega)
  have h2 := call_wt uses b k hk (by omega)
  have r1 := waitN_lt hb (a := a) (k := k)
  have r2 := waitN_lt hb (a := b) (k := k)
  unfold cmpV
  generalize waitN uses a k = u at *
  generalize waitN uses b k = v at *
  have hw : IntKind.i64.wrap (u - v) = u - v := by rw [wrap_i] <;> omega
  have hw2 : IntKind.i64.wrap (b - a) = b - a := by rw [wrap_i] <;> omega
  rw [call_eq pr 72 _ _ Try.f72 fn_72 _ rfl _ ann_72 rfl]
  by_cases hz : u - v = 0
  · rw [if_neg (by simpa using hz)]
    simp -implicitDefEqProofs only [h1, h2, hw, hw2, tr hz, go_sem, Nat.reduceAdd, Nat.reduceSub, Nat.reduceMul, Nat.reduceMod, Nat.reduceLT, Nat.reduceLeDiff, Nat.reduceEqDiff, Nat.reduceBEq, Nat.reduceDiv, Int.reduceLT, Int.reduceLE, Int.reduceToNat, Int.reduceNeg, Int.reduceEq, ↓reduceIte, reduceCtorEq, ↓reduceDIte]
  · rw [if_pos hz]
    simp -implicitDefEqProofs only [h1, h2, hw, hw2, fa hz, go_sem, Nat.reduceAdd, Nat.reduceSub, Nat.reduceMul, Nat.reduceMod, Nat.reduceLT, Nat.reduceLeDiff, Nat.reduceEqDiff, Nat.reduceBEq, Nat.reduceDiv, Int.reduceLT, Int.reduceLE, Int.reduceToNat, Int.reduceNeg, Int.reduceEq, ↓reduceIte, reduceCtorEq, ↓reduceDIte]
theorem mx_l (uses : List Int) (k : Nat) (hk : k ≤ uses.length) (hb : uses.length ≤ 60) (xs : List Int) (hl : xs.length < 1000000) (hr : ∀ x ∈ xs, 0 ≤ x ∧ x ≤ 63) : ∀ (suf : List Int) (m : Int) (j : Nat), xs.drop j = suf → j ≤ xs.length → (0 ≤ m ∧ m ≤ 63) →
    ∃ r, r = (suf.foldl (fun m y => if 0 < cmpV uses k y m then y else m) m) ∧ loopOf pr 71 0 ⟨[(0, L xs), (1, .fn 72 [.rp [L uses], .rp [I k]]), (5, I m), (6, I j)], []⟩ = some (.exit 0, ⟨[(0, L xs), (1, .fn 72 [.rp [L uses], .rp [I k]]), (5, I r), (6, I xs.length)], []⟩)
  | [], m, j, e, hj, hm => by
    have hj2 : j = xs.length := by
      have := congrArg List.length e
      simp only [List.length_drop, List.length_nil] at this
      omega
    subst hj2
    refine ⟨m, rfl, ?_⟩
    rw [loop_eq pr 71 0 _ Try.f71 fn_71 _ rfl _ ann_71 _ rfl]
    simp -implicitDefEqProofs only [Int.lt_irrefl, go_sem, Nat.reduceAdd, Nat.reduceSub, Nat.reduceMul, Nat.reduceMod, Nat.reduceLT, Nat.reduceLeDiff, Nat.reduceEqDiff, Nat.reduceBEq, Nat.reduceDiv, Int.reduceLT, Int.reduceLE, Int.reduceToNat, Int.reduceNeg, Int.reduceEq, ↓reduceIte, reduceCtorEq, ↓reduceDIte]
  | y :: suf, m, j, e, hj, hm => by
    have hlt : j < xs.length := by
      have := congrArg List.length e
      simp only [List.length_drop, List.length_cons] at this
      omega
    have hy0 : xs[j]? = some y := by
      have := congrArg (·[0]?) e
      simpa using this
    have hy : ∀ z, xs.getD j z = y := fun z => by simp [List.getD, hy0]
    have hyr := hr y (List.mem_of_getElem? hy0)
    have hw : IntKind.i64.wrap ((j : Int) + 1) = ((j + 1 : Nat) : Int) := by rw [wrap_i] <;> omega
    have e' : xs.drop (j + 1) = suf := by
      have := congrArg (·.drop 1) e
      simpa using this
    have hc := call_v1 uses k hk hb y m hyr hm
    obtain ⟨r, q1, q2⟩ := mx_l uses k hk hb xs hl hr suf (if 0 < cmpV uses k y m then y else m) (j + 1) e' (by omega) (by split <;> assumption)
    refine ⟨r, q1, ?_⟩
    rw [← q2]
    rw [loop_eq pr 71 0 _ Try.f71 fn_71 _ rfl _ ann_71 _ rfl]
    by_cases hp : 0 < cmpV uses k y m
    · rw [if_pos hp]
      simp -implicitDefEqProofs only [lt_cast hlt, zero_le_cast, Int.toNat_natCast, hy, hw, hc, tr hp, gt_iff_lt, go_sem, Nat.reduceAdd, Nat.reduceSub, Nat.reduceMul, Nat.reduceMod, Nat.reduceLT, Nat.reduceLeDiff, Nat.reduceEqDiff, Nat.reduceBEq, Nat.reduceDiv, Int.reduceLT, Int.reduceLE, Int.reduceToNat, Int.reduceNeg, Int.reduceEq, ↓reduceIte, reduceCtorEq, ↓reduceDIte]
    · rw [if_neg hp]
      simp -implicitDefEqProofs only [lt_cast hlt, zero_le_cast, Int.toNat_natCast, hy, hw, hc, fa hp, gt_iff_lt, go_sem, Nat.reduceAdd, Nat.reduceSub, Nat.reduceMul, Nat.reduceMod, Nat.reduceLT, Nat.reduceLeDiff, Nat.reduceEqDiff, Nat.reduceBEq, Nat.reduceDiv, Int.reduceLT, Int.reduceLE, Int.reduceToNat, Int.reduceNeg, Int.reduceEq, ↓reduceIte, reduceCtorEq, ↓reduceDIte]
theorem fold_last (uses : List Int) (k : Nat) : ∀ (suf : List Int) (m : Int), (m :: suf).Pairwise (· < ·) → suf.foldl (fun m y => if 0 < cmpV uses k y m then y else m) m = lastM (fun x => waitN uses x k) m suf
  | [], m, _ => rfl
  | y :: suf, m, h => by
    rw [List.pairwise_cons] at h
    have hy := h.1 y (by simp)
    have h2 := List.pairwise_cons.1 h.2
    have hc : (0 < cmpV uses k y m) ↔ waitN uses m k < waitN uses y k := by
      unfold cmpV
      split <;> constructor <;> intro h <;> omega
    simp only [List.foldl_cons]
    unfold lastM
    by_cases hp : waitN uses m k < waitN uses y k
    · rw [if_pos hp, if_pos (hc.2 hp)]
      exact fold_last uses k suf y h.2
    · rw [if_neg hp, if_neg (fun e => hp (hc.1 e))]
      exact fold_last uses k suf m (List.pairwise_cons.2 ⟨fun z hz => h.1 z (by simp [hz]), h2.2⟩)
theorem call_mx (uses : List Int) (k : Nat) (hk : k ≤ uses.length) (hb : uses.length ≤ 60) (x : Int) (l : List Int) (hl : (x :: l).length < 1000000) (hr : ∀ y ∈ x :: l, 0 ≤ y ∧ y ≤ 63) (hs : (x :: l).Pairwise (· < ·)) : callOf pr 71 [L (x :: l), .fn 72 [.rp [L uses], .rp [I k]]] [] = some (I (lastM (fun x => waitN uses x k) x l), []) := by
  obtain ⟨r, q1, q2⟩ := mx_l uses k hk hb (x :: l) hl hr l x 1 rfl (by simp) (hr x (by simp))
  rw [fold_last uses k l x hs] at q1
  rw [← q1]
  have q2 : loopOf pr 71 0 ⟨[(0, L (x :: l)), (1, .fn 72 [.rp [L uses], .rp [I k]]), (5, I x), (6, I 1)], []⟩ = _ := q2
  have h1 : (((x :: l).length : Int) < 1) = False := fa (by simp only [List.length_cons]; omega)
  have h2 : ((0 : Int) < ((x :: l).length : Int)) = True := tr (by simp only [List.length_cons]; omega)
  have h3 : ∀ z, (x :: l).getD 0 z = x := fun z => rfl
  rw [call_eq pr 71 _ _ Try.f71 fn_71 _ rfl _ ann_71 rfl]
  generalize x :: l = xs at *
  simp -implicitDefEqProofs only [q2, h1, h2, h3, go_sem, Nat.reduceAdd, Nat.reduceSub, Nat.reduceMul, Nat.reduceMod, Nat.reduceLT, Nat.reduceLeDiff, Nat.reduceEqDiff, Nat.reduceBEq, Nat.reduceDiv, Int.reduceLT, Int.reduceLE, Int.reduceToNat, Int.reduceNeg, Int.reduceEq, ↓reduceIte, reduceCtorEq, ↓reduceDIte]
theorem call_vi (uses in_ : List Int) (k : Nat) (hk : k ≤ uses.length) (hb : uses.length ≤ 60) (x : Int) (l : List Int) (hl : (x :: l).length < 10000) (hr : ∀ y ∈ x :: l, 0 ≤ y ∧ y ≤ 63) (hs : (x :: l).Pairwise (· < ·)) (hp : List.Perm (x :: l) in_) : callOf pr 44 [L uses, L in_, I k] [] = some (I (lastM (fun x => waitN uses x k) x l), []) := by
  have hlen : in_.length = (x :: l).length := hp.length_eq.symm
  have h1 := call_st in_ (by rw [hlen]; simp) (by omega)
  have hso := sortI_of_sorted hp hs
  have hco : comp (x :: l) = x :: l := by
    have : incr x l = true := by
      have hne : (x :: l).Pairwise (· ≠ ·) := hs.imp fun {a b} h e => by omega
      have : ∀ {c : Int} {l : List Int}, (c :: l).Pairwise (· ≠ ·) → incr c l = true := by
        intro c l
        induction l generalizing c with
        | nil => intro _; rfl
        | cons e r ih =>
          intro h
          rw [List.pairwise_cons] at h
          simp only [incr, Bool.and_eq_true, decide_eq_true_eq]
          exact ⟨fun q => h.1 e (by simp) q.symm, ih h.2⟩
      exact this hne
    simp only [comp, pushC_incr this]
  rw [hso, hco] at h1
  have h2 := call_mx uses k hk hb x l (by omega) hr hs
  rw [call_eq pr 44 _ _ Try.f44 fn_44 _ rfl _ ann_44 rfl]
  generalize x :: l = xs at *
  simp -implicitDefEqProofs only [h1, h2, go_sem, Nat.reduceAdd, Nat.reduceSub, Nat.reduceMul, Nat.reduceMod, Nat.reduceLT, Nat.reduceLeDiff, Nat.reduceEqDiff, Nat.reduceBEq, Nat.reduceDiv, Int.reduceLT, Int.reduceLE, Int.reduceToNat, Int.reduceNeg, Int.reduceEq, ↓reduceIte, reduceCtorEq, ↓reduceDIte]
theorem call_conI (xs : List Int) (a : Int) (hb : xs.length < 1000000) : callOf pr 42 [L xs, I a] [] = some (B (xs.contains a), []) := by
  have h := call_idx a xs (by omega)
  rw [call_eq pr 42 _ _ Try.f42 fn_42 _ rfl _ ann_42 rfl]
  have hm : (ageOf a xs).isSome = xs.contains a := by
    unfold ageOf
    rw [List.findIdx?_isSome, List.contains_eq_any_beq]
    congr 1
    funext x
    by_cases h : x = a
    · rw [h]; simp
    · have h2 : ¬ a = x := fun e => h e.symm
      simp [h, h2]
  rw [← hm]
  unfold ageI at h
  cases hg : ageOf a xs with
  | none =>
    rw [hg] at h
    simp -implicitDefEqProofs only [h, ge_iff_le, go_sem, Nat.reduceAdd, Nat.reduceSub, Nat.reduceMul, Nat.reduceMod, Nat.reduceLT, Nat.reduceLeDiff, Nat.reduceEqDiff, Nat.reduceBEq, Nat.reduceDiv, Int.reduceLT, Int.reduceLE, Int.reduceToNat, Int.reduceNeg, Int.reduceEq, ↓reduceIte, reduceCtorEq, ↓reduceDIte]
    rfl
  | some j =>
    rw [hg] at h
    have e3 : (0 ≤ (j : Int)) = True := tr (by omega)
    simp only at h
    simp -implicitDefEqProofs only [h, ge_iff_le, go_sem, Nat.reduceAdd, Nat.reduceSub, Nat.reduceMul, Nat.reduceMod, Nat.reduceLT, Nat.reduceLeDiff, Nat.reduceEqDiff, Nat.reduceBEq, Nat.reduceDiv, Int.reduceLT, Int.reduceLE, Int.reduceToNat, Int.reduceNeg, Int.reduceEq, ↓reduceIte, reduceCtorEq, ↓reduceDIte]
    simp
abbrev BT (uses : List Int) (w : Int) (k : Int) : Slots := [(0, L uses), (1, I w), (6, .os (.t 832)), (7, .os (.t 896)), (8, .os (.t 960)), (16, L uses), (17, I uses.length), (18, I k)]
abbrev BH (xs rs hs : List Int) : Heap := [(832, .arr true false (.int .i64) xs), (896, .arr true false (.int .i64) rs), (960, .arr true false (.int .i64) hs)]
theorem br_h (uses xs rs hs : List Int) (w k : Nat) (a : Int) (hk : k < uses.length) (hb : uses.length ≤ 60) (ha : ∀ z, uses.getD k z = a) (l1 : rs.length ≤ 60) (l2 : hs.length ≤ 60) (l3 : xs.length ≤ 60) (g : callOf pr 42 [L xs, I a] [] = some (B true, [])) : loopOf pr 66 0 ⟨BT uses w k, BH xs rs hs⟩ = loopOf pr 66 0 ⟨BT uses w ((k + 1 : Nat) : Int), BH xs (rs ++ [-1]) (hs ++ [1])⟩ := by
  have e1 : ((k : Int) < (uses.length : Int)) = True := tr (by omega)
  have hw : IntKind.i64.wrap ((k : Int) + 1) = ((k + 1 : Nat) : Int) := by rw [wrap_i] <;> omega
  have r1 : ((rs.length + 1) * 8 ≤ 140737488355328 ∧ rs.length ≤ 9223372036854775806) = True := tr ⟨by omega, by omega⟩
  have r2 : ((hs.length + 1) * 8 ≤ 140737488355328 ∧ hs.length ≤ 9223372036854775806) = True := tr ⟨by omega, by omega⟩
  rw [loop_eq pr 66 0 _ Try.f66 fn_66 _ rfl _ ann_66 _ rfl]
  simp -implicitDefEqProofs only [e1, hw, ha, g, zero_le_cast, Int.toNat_natCast, r1, r2, go_sem, Nat.reduceAdd, Nat.reduceSub, Nat.reduceMul, Nat.reduceMod, Nat.reduceLT, Nat.reduceLeDiff, Nat.reduceEqDiff, Nat.reduceBEq, Nat.reduceDiv, Int.reduceLT, Int.reduceLE, Int.reduceToNat, Int.reduceNeg, Int.reduceEq, ↓reduceIte, reduceCtorEq, ↓reduceDIte]
theorem br_a (uses xs rs hs : List Int) (w k : Nat) (a : Int) (hk : k < uses.length) (hb : uses.length ≤ 60) (ha : ∀ z, uses.getD k z = a) (l1 : rs.length ≤ 60) (l2 : hs.length ≤ 60) (l3 : xs.length ≤ 60) (g : callOf pr 42 [L xs, I a] [] = some (B false, [])) (hlt : xs.length < w) : loopOf pr 66 0 ⟨BT uses w k, BH xs rs hs⟩ = loopOf pr 66 0 ⟨BT uses w ((k + 1 : Nat) : Int), BH (xs ++ [a]) (rs ++ [-1]) (hs ++ [0])⟩ := by
  have g2 := call_43 xs
  have e1 : ((k : Int) < (uses.length : Int)) = True := tr (by omega)
  have hw : IntKind.i64.wrap ((k : Int) + 1) = ((k + 1 : Nat) : Int) := by rw [wrap_i] <;> omega
  have r1 : ((rs.length + 1) * 8 ≤ 140737488355328 ∧ rs.length ≤ 9223372036854775806) = True := tr ⟨by omega, by omega⟩
  have r2 : ((hs.length + 1) * 8 ≤ 140737488355328 ∧ hs.length ≤ 9223372036854775806) = True := tr ⟨by omega, by omega⟩
  have r3 : ((xs.length + 1) * 8 ≤ 140737488355328 ∧ xs.length ≤ 9223372036854775806) = True := tr ⟨by omega, by omega⟩
  rw [loop_eq pr 66 0 _ Try.f66 fn_66 _ rfl _ ann_66 _ rfl]
  simp -implicitDefEqProofs only [e1, hw, ha, g, g2, lt_cast hlt, zero_le_cast, Int.toNat_natCast, r1, r2, r3, go_sem, Nat.reduceAdd, Nat.reduceSub, Nat.reduceMul, Nat.reduceMod, Nat.reduceLT, Nat.reduceLeDiff, Nat.reduceEqDiff, Nat.reduceBEq, Nat.reduceDiv, Int.reduceLT, Int.reduceLE, Int.reduceToNat, Int.reduceNeg, Int.reduceEq, ↓reduceIte, reduceCtorEq, ↓reduceDIte]
theorem br_v (uses xs rs hs : List Int) (w k : Nat) (a : Int) (hk : k < uses.length) (hb : uses.length ≤ 60) (ha : ∀ z, uses.getD k z = a) (l1 : rs.length ≤ 60) (l2 : hs.length ≤ 60) (l3 : xs.length ≤ 60) (v : Int) (j : Nat) (hj : j < xs.length) (g : callOf pr 42 [L xs, I a] [] = some (B false, [])) (hge : ¬ xs.length < w) (g3 : callOf pr 44 [L uses, L xs, I ((k + 1 : Nat) : Int)] [] = some (I v, [])) (g4 : callOf pr 70 [L xs, I v] [] = some (I j, [])) : loopOf pr 66 0 ⟨BT uses w k, BH xs rs hs⟩ = loopOf pr 66 0 ⟨BT uses w ((k + 1 : Nat) : Int), BH (xs.set j a) (rs ++ [v]) (hs ++ [0])⟩ := by
  have g2 := call_43 xs
  have e1 : ((k : Int) < (uses.length : Int)) = True := tr (by omega)
  have hw : IntKind.i64.wrap ((k : Int) + 1) = ((k + 1 : Nat) : Int) := by rw [wrap_i] <;> omega
  have r1 : ((rs.length + 1) * 8 ≤ 140737488355328 ∧ rs.length ≤ 9223372036854775806) = True := tr ⟨by omega, by omega⟩
  have r2 : ((hs.length + 1) * 8 ≤ 140737488355328 ∧ hs.length ≤ 9223372036854775806) = True := tr ⟨by omega, by omega⟩
  have r3 : ((xs.length + 1) * 8 ≤ 140737488355328 ∧ xs.length ≤ 9223372036854775806) = True := tr ⟨by omega, by omega⟩
  have h4 : ((xs.length : Int) < (w : Int)) = False := fa (by omega)
  rw [loop_eq pr 66 0 _ Try.f66 fn_66 _ rfl _ ann_66 _ rfl]
  simp -implicitDefEqProofs only [e1, hw, ha, g, g2, g3, g4, h4, lt_cast hj, zero_le_cast, Int.toNat_natCast, r1, r2, r3, go_sem, Nat.reduceAdd, Nat.reduceSub, Nat.reduceMul, Nat.reduceMod, Nat.reduceLT, Nat.reduceLeDiff, Nat.reduceEqDiff, Nat.reduceBEq, Nat.reduceDiv, Int.reduceLT, Int.reduceLE, Int.reduceToNat, Int.reduceNeg, Int.reduceEq, ↓reduceIte, reduceCtorEq, ↓reduceDIte]
def oneI (b : Bool) : Int := if b = true then 1 else 0
theorem erase_perm : ∀ (l : List Int) (i : Nat) (h : i < l.length), List.Perm (l[i] :: l.eraseIdx i) l
  | x :: l, 0, _ => List.Perm.refl _
  | x :: l, i + 1, h => by
    have ih := erase_perm l i (by simpa using h)
    simp only [List.getElem_cons_succ, List.eraseIdx_cons_succ]
    exact (List.Perm.swap x _ _).trans (ih.cons x)
theorem set_perm {xs : List Int} {j : Nat} (hj : j < xs.length) (a : Int) : List.Perm (xs.set j a) (a :: xs.eraseIdx j) := by
  have h1 := erase_perm (xs.set j a) j (by simpa using hj)
  rw [List.getElem_set_self, List.eraseIdx_set_eq] at h1
  exact h1.symm
theorem swap_perm {now xs : List Int} (h : List.Perm now xs) {b j : Nat} (hb : b < now.length) (hj : j < xs.length) (hv : now[b] = xs[j]) {a : Int} (ha : a ∉ now) : List.Perm (putL (now.eraseIdx b) a) (xs.set j a) := by
  have h1 := erase_perm now b hb
  have h2 := erase_perm xs j hj
  rw [hv] at h1
  have h3 : List.Perm (now.eraseIdx b) (xs.eraseIdx j) := List.Perm.cons_inv (h1.trans (h.trans h2.symm))
  have hne : a ∉ now.eraseIdx b := fun h => ha (List.mem_of_mem_eraseIdx h)
  exact (putL_perm _ a hne).trans ((h3.cons a).trans (set_perm hj a).symm)
theorem stepB_mem {uses : List Int} {w i : Nat} {now : List Int} {a : Int} : ∀ x ∈ (stepB uses w i now a).1, x = a ∨ x ∈ now := by
  intro x hx
  unfold stepB at hx
  by_cases hc : now.contains a = true
  · rw [if_pos hc] at hx; exact .inr hx
  · have hn : a ∉ now := by simpa using hc
    rw [if_neg hc] at hx
    by_cases hw : now.length = w
    · rw [if_pos hw] at hx
      simp only at hx
      have hne : a ∉ now.eraseIdx (lastB (fun x => waitN uses x (i + 1)) 0 (now.getD 0 0) 1 (now.drop 1)) := fun h => hn (List.mem_of_mem_eraseIdx h)
      rcases List.mem_cons.1 ((putL_perm _ a hne).mem_iff.1 hx) with h | h
      · exact .inl h
      · exact .inr (List.mem_of_mem_eraseIdx h)
    · rw [if_neg hw] at hx
      rcases List.mem_cons.1 ((putL_perm _ a hn).mem_iff.1 hx) with h | h
      · exact .inl h
      · exact .inr h
theorem br_e (uses xs rs hs : List Int) (w : Nat) : loopOf pr 66 0 ⟨BT uses w uses.length, BH xs rs hs⟩ = some (.exit 0, ⟨BT uses w uses.length, BH xs rs hs⟩) := by
  rw [loop_eq pr 66 0 _ Try.f66 fn_66 _ rfl _ ann_66 _ rfl]
  simp -implicitDefEqProofs only [Int.lt_irrefl, go_sem, Nat.reduceAdd, Nat.reduceSub, Nat.reduceMul, Nat.reduceMod, Nat.reduceLT, Nat.reduceLeDiff, Nat.reduceEqDiff, Nat.reduceBEq, Nat.reduceDiv, Int.reduceLT, Int.reduceLE, Int.reduceToNat, Int.reduceNeg, Int.reduceEq, ↓reduceIte, reduceCtorEq, ↓reduceDIte]
theorem br_l (uses : List Int) (hb : uses.length ≤ 60) (hu : ∀ x ∈ uses, 0 ≤ x ∧ x ≤ 63) (w : Nat) (hw : 1 ≤ w ∧ w ≤ 60) : ∀ (suf : List Int) (k : Nat) (now xs rs hs : List Int), uses.drop k = suf → k ≤ uses.length → List.Perm now xs → now.Pairwise (· < ·) → now.length ≤ w → (∀ x ∈ now, 0 ≤ x ∧ x ≤ 63) → rs.length = k → hs.length = k →
    ∃ xs' rs', loopOf pr 66 0 ⟨BT uses w k, BH xs rs hs⟩ = some (.exit 0, ⟨BT uses w uses.length, BH xs' rs' (hs ++ (runB uses w k now suf).map oneI)⟩)
  | [], k, now, xs, rs, hs, e, hk, hp, hso, hl, hr, q1, q2 => by
    have hk2 : k = uses.length := by
      have := congrArg List.length e
      simp only [List.length_drop, List.length_nil] at this
      omega
    subst hk2
    exact ⟨xs, rs, by simp only [runB, List.map_nil, List.append_nil]; exact br_e uses xs rs hs w⟩
  | a :: suf, k, now, xs, rs, hs, e, hk, hp, hso, hl, hr, q1, q2 => by
    have hlt : k < uses.length := by
      have := congrArg List.length e
      simp only [List.length_drop, List.length_cons] at this
      omega
    have ha0 : uses[k]? = some a := by
      have := congrArg (·[0]?) e
      simpa using this
    have ha : ∀ z, uses.getD k z = a := fun z => by simp [List.getD, ha0]
    have har := hu a (List.mem_of_getElem? ha0)
    have e' : uses.drop (k + 1) = suf := by
      have := congrArg (·.drop 1) e
      simpa using this
    have hxl := hp.length_eq
    have hc := call_conI xs a (by omega)
    have hcc : xs.contains a = now.contains a := by
      rw [Bool.eq_iff_iff]
      simp only [List.contains_iff_mem]
      exact (hp.mem_iff).symm
    rw [hcc] at hc
    obtain ⟨t1, t2⟩ := stepB_ok uses hw.1 k a hso hl
    have t3 : ∀ x ∈ (stepB uses w k now a).1, 0 ≤ x ∧ x ≤ 63 := fun x hx => by
      rcases stepB_mem x hx with rfl | h
      · exact har
      · exact hr x h
    have next : ∀ (xs2 rs2 : List Int) (h : Bool), (stepB uses w k now a).2.1 = h → List.Perm (stepB uses w k now a).1 xs2 → rs2.length = k + 1 → loopOf pr 66 0 ⟨BT uses w k, BH xs rs hs⟩ = loopOf pr 66 0 ⟨BT uses w ((k + 1 : Nat) : Int), BH xs2 rs2 (hs ++ [oneI h])⟩ →
        ∃ xs' rs', loopOf pr 66 0 ⟨BT uses w k, BH xs rs hs⟩ = some (.exit 0, ⟨BT uses w uses.length, BH xs' rs' (hs ++ (runB uses w k now (a :: suf)).map oneI)⟩) := by
      intro xs2 rs2 h he hpp hrl hst
      obtain ⟨xs', rs', hh⟩ := br_l uses hb hu w hw suf (k + 1) _ xs2 rs2 (hs ++ [oneI h]) e' (by omega) hpp t1 t2 t3 hrl (by simp; omega)
      refine ⟨xs', rs', ?_⟩
      rw [hst, hh]
      simp only [runB, List.map_cons, he, List.append_assoc, List.singleton_append]
    cases hcn : now.contains a with
    | true =>
      rw [hcn] at hc
      have hsb : stepB uses w k now a = (now, true, -1) := by unfold stepB; rw [if_pos hcn]
      exact next xs (rs ++ [-1]) true (by rw [hsb]) (by rw [hsb]; exact hp) (by simp; omega) (br_h uses xs rs hs w k a hlt hb ha (by omega) (by omega) (by omega) hc)
    | false =>
      rw [hcn] at hc
      have hn : a ∉ now := by simpa using hcn
      by_cases hlw : xs.length < w
      · have hsb : stepB uses w k now a = (putL now a, false, -1) := by unfold stepB; rw [if_neg (by simp [hn]), if_neg (by omega)]
        exact next (xs ++ [a]) (rs ++ [-1]) false (by rw [hsb]) (by rw [hsb]; exact (putL_perm now a hn).trans ((hp.cons a).trans (List.perm_append_singleton a xs).symm)) (by simp; omega) (br_a uses xs rs hs w k a hlt hb ha (by omega) (by omega) (by omega) hc hlw)
      · have hnw : now.length = w := by omega
        cases hnow : now with
        | nil => rw [hnow] at hnw; simp at hnw; omega
        | cons x l =>
          have g3 := call_vi uses xs (k + 1) (by omega) hb x l (by rw [← hnow]; omega) (by rw [← hnow]; exact hr) (by rw [← hnow]; exact hso) (by rw [← hnow]; exact hp)
          have hM := lastB_M (fun x => waitN uses x (k + 1)) now l 0 x 1 (by rw [hnow]; rfl) (by rw [hnow]; rfl)
          have hbl := lastB_lt (fun x => waitN uses x (k + 1)) l 0 x 1 now.length (by rw [hnow]; simp) (by rw [hnow]; simp; omega)
          have hsb : stepB uses w k now a = (putL (now.eraseIdx (lastB (fun x => waitN uses x (k + 1)) 0 x 1 l)) a, false, now.getD (lastB (fun x => waitN uses x (k + 1)) 0 x 1 l) 0) := by
            unfold stepB
            rw [if_neg (by simp [hn]), if_pos hnw]
            simp only [hnow, List.getD_cons_zero, List.drop_succ_cons, List.drop_zero]
          generalize lastM (fun x => waitN uses x (k + 1)) x l = v at *
          generalize lastB (fun x => waitN uses x (k + 1)) 0 x 1 l = b at *
          have hvm : v ∈ xs := hp.mem_iff.1 (List.mem_of_getElem? hM)
          have g4 := call_idx v xs (by omega)
          obtain ⟨j, hj⟩ : ∃ j, ageOf v xs = some j := by
            have : (ageOf v xs).isSome = true := by
              unfold ageOf
              rw [List.findIdx?_isSome, List.any_eq_true]
              exact ⟨v, hvm, by simp⟩
            exact Option.isSome_iff_exists.1 this
          have hjl := ageOf_lt hj
          have hjv : xs[j] = v := by
            unfold ageOf at hj
            rw [List.findIdx?_eq_some_iff_getElem] at hj
            obtain ⟨_, h2, _⟩ := hj
            simpa using h2
          unfold ageI at g4
          rw [hj] at g4
          simp only at g4
          have hbv : now[b] = v := by
            have := List.getElem?_eq_getElem hbl
            rw [this] at hM
            exact Option.some.inj hM
          rw [← hnow]
          exact next (xs.set j a) (rs ++ [v]) false (by rw [hsb]) (by rw [hsb]; exact swap_perm hp hbl hjl (by rw [hbv, hjv]) hn) (by simp; omega) (br_v uses xs rs hs w k a hlt hb ha (by omega) (by omega) (by omega) v j hjl hc hlw g3 g4)
theorem call_br (uses : List Int) (hb : uses.length ≤ 60) (hu : ∀ x ∈ uses, 0 ≤ x ∧ x ≤ 63) (w : Nat) (hw : 1 ≤ w ∧ w ≤ 60) : ∃ rs, callOf pr 66 [L uses, I w] [] = some (.tuple [.os (.t 896), .os (.t 960)], [(896, .arr true false (.int .i64) rs), (960, .arr true false (.int .i64) ((runB uses w 0 [] uses).map oneI))]) := by
  obtain ⟨xs', rs', h⟩ := br_l uses hb hu w hw uses 0 [] [] [] [] rfl (by omega) (List.Perm.refl _) List.Pairwise.nil (by simp) (fun x hx => by cases hx) rfl rfl
  have h : loopOf pr 66 0 ⟨[(0, L uses), (1, I w), (6, .os (.t 832)), (7, .os (.t 896)), (8, .os (.t 960)), (16, L uses), (17, I uses.length), (18, I 0)], [(832, .arr true false (.int .i64) []), (896, .arr true false (.int .i64) []), (960, .arr true false (.int .i64) [])]⟩ = some (.exit 0, ⟨BT uses w uses.length, BH xs' rs' ((runB uses w 0 [] uses).map oneI)⟩) := h
  refine ⟨rs', ?_⟩
  rw [call_eq pr 66 _ _ Try.f66 fn_66 _ rfl _ ann_66 rfl]
  simp -implicitDefEqProofs only [h, go_sem, Nat.reduceAdd, Nat.reduceSub, Nat.reduceMul, Nat.reduceMod, Nat.reduceLT, Nat.reduceLeDiff, Nat.reduceEqDiff, Nat.reduceBEq, Nat.reduceDiv, Int.reduceLT, Int.reduceLE, Int.reduceToNat, Int.reduceNeg, Int.reduceEq, ↓reduceIte, reduceCtorEq, ↓reduceDIte]
theorem bm_s (hs : List Int) (m k : Nat) (b : Bool) (hk : k < hs.length) (hb : hs.length ≤ 60) (hm : 1 ≤ m ∧ m ≤ 60) (hx : ∀ z, hs.getD k z = oneI b) : loopOf pr 35 0 ⟨[(7, I m), (18, .os (.t 833)), (19, I hs.length), (20, I k)], [(833, .arr true false (.int .i64) hs)]⟩ = loopOf pr 35 0 ⟨[(7, I ((if b = true then m - 1 else m : Nat) : Int)), (18, .os (.t 833)), (19, I hs.length), (20, I ((k + 1 : Nat) : Int))], [(833, .arr true false (.int .i64) hs)]⟩ := by
  have hw : IntKind.i64.wrap ((k : Int) + 1) = ((k + 1 : Nat) : Int) := by rw [wrap_i] <;> omega
  have hw2 : IntKind.i64.wrap ((m : Int) - oneI b) = ((if b = true then m - 1 else m : Nat) : Int) := by
    unfold oneI
    cases b <;> simp <;> rw [wrap_i] <;> omega
  generalize (if b = true then m - 1 else m : Nat) = m' at *
  rw [loop_eq pr 35 0 _ Try.f35 fn_35 _ rfl _ ann_35 _ rfl]
  simp -implicitDefEqProofs only [lt_cast hk, zero_le_cast, Int.toNat_natCast, hx, hw, hw2, go_sem, Nat.reduceAdd, Nat.reduceSub, Nat.reduceMul, Nat.reduceMod, Nat.reduceLT, Nat.reduceLeDiff, Nat.reduceEqDiff, Nat.reduceBEq, Nat.reduceDiv, Int.reduceLT, Int.reduceLE, Int.reduceToNat, Int.reduceNeg, Int.reduceEq, ↓reduceIte, reduceCtorEq, ↓reduceDIte]
theorem bm_e (hs : List Int) (m : Nat) : loopOf pr 35 0 ⟨[(7, I m), (18, .os (.t 833)), (19, I hs.length), (20, I hs.length)], [(833, .arr true false (.int .i64) hs)]⟩ = some (.exit 0, ⟨[(7, I m), (18, .os (.t 833)), (19, I hs.length), (20, I hs.length)], [(833, .arr true false (.int .i64) hs)]⟩) := by
  rw [loop_eq pr 35 0 _ Try.f35 fn_35 _ rfl _ ann_35 _ rfl]
  simp -implicitDefEqProofs only [Int.lt_irrefl, go_sem, Nat.reduceAdd, Nat.reduceSub, Nat.reduceMul, Nat.reduceMod, Nat.reduceLT, Nat.reduceLeDiff, Nat.reduceEqDiff, Nat.reduceBEq, Nat.reduceDiv, Int.reduceLT, Int.reduceLE, Int.reduceToNat, Int.reduceNeg, Int.reduceEq, ↓reduceIte, reduceCtorEq, ↓reduceDIte]
theorem missB_cons (b : Bool) (l : List Bool) : missB (b :: l) = if b = true then missB l else missB l + 1 := by
  unfold missB
  cases b <;> simp
theorem missB_le (l : List Bool) : missB l ≤ l.length := List.length_filter_le _ _
theorem bm_l (bs : List Bool) (hb : bs.length ≤ 60) : ∀ (suf : List Bool) (k p : Nat), bs.drop k = suf → k ≤ bs.length → p + suf.length ≤ 60 → loopOf pr 35 0 ⟨[(7, I ((p + suf.length : Nat) : Int)), (18, .os (.t 833)), (19, I (bs.map oneI).length), (20, I k)], [(833, .arr true false (.int .i64) (bs.map oneI))]⟩ = some (.exit 0, ⟨[(7, I ((p + missB suf : Nat) : Int)), (18, .os (.t 833)), (19, I (bs.map oneI).length), (20, I (bs.map oneI).length)], [(833, .arr true false (.int .i64) (bs.map oneI))]⟩)
  | [], k, p, e, hk, hp => by
    have hk2 : k = (bs.map oneI).length := by
      have := congrArg List.length e
      simp only [List.length_drop, List.length_nil] at this
      rw [List.length_map]
      omega
    rw [hk2]
    exact bm_e (bs.map oneI) _
  | b :: suf, k, p, e, hk, hp => by
    simp only [List.length_cons] at hp
    have hlt : k < bs.length := by
      have := congrArg List.length e
      simp only [List.length_drop, List.length_cons] at this
      omega
    have hx0 : bs[k]? = some b := by
      have := congrArg (·[0]?) e
      simpa using this
    have hx : ∀ z, (bs.map oneI).getD k z = oneI b := fun z => by simp [List.getD, hx0]
    have e' : bs.drop (k + 1) = suf := by
      have := congrArg (·.drop 1) e
      simpa using this
    rw [List.length_cons, bm_s (bs.map oneI) (p + (suf.length + 1)) k b (by simpa using hlt) (by simpa using hb) (by omega) hx, missB_cons]
    cases b with
    | true =>
      have ih := bm_l bs hb suf (k + 1) p e' (by omega) (by omega)
      simp only [if_true]
      rw [show p + (suf.length + 1) - 1 = p + suf.length by omega]
      exact ih
    | false =>
      have ih := bm_l bs hb suf (k + 1) (p + 1) e' (by omega) (by omega)
      simp only [Bool.false_eq_true, if_false]
      rw [show p + (suf.length + 1) = p + 1 + suf.length by omega, show p + (missB suf + 1) = p + 1 + missB suf by omega]
      exact ih
theorem call_bm (uses : List Int) (hb : uses.length ≤ 60) (hu : ∀ x ∈ uses, 0 ≤ x ∧ x ≤ 63) (w : Nat) (hw : 1 ≤ w ∧ w ≤ 60) : callOf pr 35 [L uses, I w] [] = some (I (missB (runB uses w 0 [] uses)), []) := by
  obtain ⟨rs, h⟩ := call_br uses hb hu w hw
  have hl := runB_length uses w uses 0 []
  have h2 := bm_l (runB uses w 0 [] uses) (by omega) (runB uses w 0 [] uses) 0 0 rfl (by omega) (by omega)
  rw [Nat.zero_add, Nat.zero_add, hl] at h2
  have h2 : loopOf pr 35 0 ⟨[(7, I uses.length), (18, .os (.t 833)), (19, I ((runB uses w 0 [] uses).map oneI).length), (20, I 0)], [(833, .arr true false (.int .i64) ((runB uses w 0 [] uses).map oneI))]⟩ = _ := h2
  have h1 := call_43 uses
  generalize (runB uses w 0 [] uses).map oneI = hs at *
  rw [call_eq pr 35 _ _ Try.f35 fn_35 _ rfl _ ann_35 rfl]
  simp -implicitDefEqProofs only [h, h1, h2, go_sem, Nat.reduceAdd, Nat.reduceSub, Nat.reduceMul, Nat.reduceMod, Nat.reduceLT, Nat.reduceLeDiff, Nat.reduceEqDiff, Nat.reduceBEq, Nat.reduceDiv, Int.reduceLT, Int.reduceLE, Int.reduceToNat, Int.reduceNeg, Int.reduceEq, ↓reduceIte, reduceCtorEq, ↓reduceDIte]
end Go.Proofs.Yticbfkoialmojaa.PI
