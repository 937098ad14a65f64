/- What the two known policies keep: plain lists. -/
import Derived.Test.YtfooniikopekoaaP7
namespace Go.Proofs.Ytfooniikopekoaa.PI
open Go Go.Q
set_option linter.unusedSimpArgs false
set_option linter.unusedVariables false
/-- Uses, the last one first, each once. -/
def dedL : List Int → List Int
  | [] => []
  | a :: rv => a :: (dedL rv).filter (fun x => decide (x ≠ a))
theorem filter_take (p : Int → Bool) : ∀ (l : List Int) (w : Nat), (l.filter fun x => !p x).length ≤ 1 → (l.filter p).take (w - 1) = ((l.take w).filter p).take (w - 1)
  | [], w, _ => by simp
  | x :: l, 0, _ => by simp
  | x :: l, w + 1, h => by
    by_cases hx : p x = true
    · have h' : (l.filter fun x => !p x).length ≤ 1 := by simpa [List.filter_cons, hx] using h
      cases w with
      | zero => simp
      | succ v =>
        have ih := filter_take p l (v + 1) h'
        simp only [Nat.add_sub_cancel] at ih ⊢
        rw [List.filter_cons_of_pos hx, List.take_succ_cons, List.take_succ_cons, List.filter_cons_of_pos hx, List.take_succ_cons, ih]
    · have h' : (l.filter fun x => !p x).length = 0 := by
        rw [List.filter_cons_of_pos (by simpa using hx), List.length_cons] at h
        omega
      have hl : ∀ y ∈ l, p y = true := by
        intro y hy
        have h2 := List.length_eq_zero_iff.1 h'
        rw [List.filter_eq_nil_iff] at h2
        simpa using h2 y hy
      have e1 : l.filter p = l := List.filter_eq_self.2 hl
      have e2 : (l.take w).filter p = l.take w := List.filter_eq_self.2 (fun y hy => hl y (List.mem_of_mem_take hy))
      rw [List.filter_cons_of_neg hx, List.take_succ_cons, List.filter_cons_of_neg hx, e1, e2, Nat.add_sub_cancel, List.take_take, Nat.min_self]
theorem ded_once (a : Int) : ∀ rv : List Int, ((dedL rv).filter fun x => decide (x = a)).length ≤ 1
  | [] => by simp [dedL]
  | b :: rv => by
    have ih := ded_once a rv
    rw [dedL]
    by_cases h : b = a
    · subst h
      rw [List.filter_cons_of_pos (by simp), List.filter_filter]
      have : ((dedL rv).filter fun x => decide (x = b) && decide (x ≠ b)) = [] := by
        rw [List.filter_eq_nil_iff]
        intro x _
        by_cases hx : x = b <;> simp [hx]
      rw [this]
      simp
    · rw [List.filter_cons_of_neg (by simpa using h), List.filter_filter]
      refine Nat.le_trans ?_ ih
      refine List.Sublist.length_le ?_
      have : (fun x => decide (x = a) && decide (x ≠ b)) = fun x => decide (x = a) := by
        funext x
        by_cases hx : x = a
        · subst hx; simp; omega
        · simp [hx]
      rw [this]
      exact List.Sublist.refl _
/-- Most recent ones, as many as there is room for; free room at the end. -/
def keepL (w : Nat) (l : List Int) : List Int := (l ++ List.replicate w (-1)).take w
theorem keepL_length (w : Nat) (l : List Int) : (keepL w l).length = w := by simp [keepL]
theorem keep_step {a : Int} (ha : 0 ≤ a) (rv : List Int) {w : Nat} (hw : 1 ≤ w) : keepL w (dedL (a :: rv)) = a :: ((keepL w (dedL rv)).filter fun x => decide (x ≠ a)).take (w - 1) := by
  obtain ⟨v, rfl⟩ : ∃ v, w = v + 1 := ⟨w - 1, by omega⟩
  have hp : (List.replicate (v + 1) (-1 : Int)).filter (fun x => decide (x ≠ a)) = List.replicate (v + 1) (-1) := by
    rw [List.filter_eq_self]
    intro x hx
    have := (List.mem_replicate.1 hx).2
    simp; omega
  have hq : (List.replicate (v + 1) (-1 : Int)).filter (fun x => decide (x = a)) = [] := by
    rw [List.filter_eq_nil_iff]
    intro x hx
    have := (List.mem_replicate.1 hx).2
    simp; omega
  have h1 := filter_take (fun x => decide (x ≠ a)) (dedL rv ++ List.replicate (v + 1) (-1)) (v + 1) (by
    have : (fun x : Int => !decide (x ≠ a)) = fun x => decide (x = a) := by funext x; simp
    rw [this, List.filter_append, hq, List.append_nil]
    exact ded_once a rv)
  rw [List.filter_append, hp] at h1
  unfold keepL
  rw [dedL, List.cons_append, List.take_succ_cons, ← h1, Nat.add_sub_cancel]
/-- The law's own list of what was used last. -/
def lastL (w : Nat) : List Int → List Int → List Int
  | [], acc => acc
  | u :: rv, acc => lastL w rv (if acc.contains u = false ∧ acc.length < w then acc ++ [u] else acc)
theorem lastL_eq (w : Nat) : ∀ (rv acc : List Int), acc.length ≤ w → lastL w rv acc = acc ++ ((dedL rv).filter fun x => !acc.contains x).take (w - acc.length)
  | [], acc, _ => by simp [lastL, dedL]
  | u :: rv, acc, h => by
    rw [lastL, dedL]
    by_cases h1 : acc.contains u = true
    · rw [if_neg (by rw [h1]; simp), lastL_eq w rv acc h, List.filter_cons_of_neg (by simpa using h1), List.filter_filter]
      have : (fun x => !acc.contains x && decide (x ≠ u)) = fun x => !acc.contains x := by
        funext x
        by_cases hx : x = u
        · subst hx; rw [h1]; rfl
        · simp [hx]
      rw [this]
    · have h1 : acc.contains u = false := by simpa using h1
      by_cases h2 : acc.length < w
      · rw [if_pos ⟨h1, h2⟩, lastL_eq w rv _ (by simp; omega), List.filter_cons_of_pos (by rw [h1]; rfl), List.filter_filter]
        have e : w - acc.length = (w - (acc ++ [u]).length) + 1 := by simp; omega
        rw [e, List.take_succ_cons, List.append_assoc]
        have : (fun x => !(acc ++ [u]).contains x) = fun x => !acc.contains x && decide (x ≠ u) := by
          funext x
          by_cases hx : x = u
          · subst hx; simp
          · by_cases hc : x ∈ acc <;> simp [hx, hc]
        rw [this]
        rfl
      · rw [if_neg (by simp [h2]), lastL_eq w rv acc h]
        have : w - acc.length = 0 := by omega
        rw [this, List.take_zero, List.take_zero]
theorem last_all (w : Nat) (rv : List Int) : lastL w rv [] = (dedL rv).take w := by
  rw [lastL_eq w rv [] (by simp)]
  have : ((dedL rv).filter fun x => !([] : List Int).contains x) = dedL rv := by
    rw [List.filter_eq_self]
    intro x _
    simp
  rw [this]
  simp
theorem keep_pad (w : Nat) (l : List Int) : keepL w l = l.take w ++ List.replicate (w - (l.take w).length) (-1) := by
  unfold keepL
  rw [List.take_append, List.take_replicate, List.length_take]
  congr 2
  omega
/-- All ages in order, and with one of them moved to the front. -/
def ascL (w : Nat) : List Int := (List.range w).map fun (k : Nat) => (k : Int)
def mvF (w i : Nat) : List Int := (i : Int) :: ((List.range w).filter fun k => decide (k ≠ i)).map fun (k : Nat) => (k : Int)
theorem drop_at : ∀ (now : List Int) (i : Nat), ((List.range now.length).filter fun k => decide (k ≠ i)).map (fun k => now.getD k 0) = now.eraseIdx i
  | [], i => by simp
  | x :: xs, 0 => by
    have h0 : ((List.range xs.length).map Nat.succ).filter (fun k => decide (k ≠ 0)) = (List.range xs.length).map Nat.succ := by
      rw [List.filter_eq_self]
      intro k hk
      obtain ⟨j, _, rfl⟩ := List.mem_map.1 hk
      simp
    rw [List.length_cons, List.range_succ_eq_map, List.filter_cons_of_neg (by simp), h0, List.map_map]
    simp only [List.eraseIdx_cons_zero]
    apply List.ext_getElem
    · simp
    · intro k h1 h2
      simp [List.getElem?_eq_getElem h2]
  | x :: xs, i + 1 => by
    have ih := drop_at xs i
    rw [List.length_cons, List.range_succ_eq_map, List.filter_cons_of_pos (by simp), List.filter_map, List.map_cons, List.map_map, List.eraseIdx_cons_succ, ← ih]
    congr 1
    have : ((fun k => decide (k ≠ i + 1)) ∘ Nat.succ) = fun k => decide (k ≠ i) := by funext k; simp
    rw [this]
    rfl
theorem perm_mv {now : List Int} {w : Nat} (h : now.length = w) (i : Nat) : perm now (mvF w i) = now.getD i 0 :: now.eraseIdx i := by
  subst h
  rw [← drop_at, perm, mvF, List.map_cons, List.map_map, Int.toNat_natCast]
  rfl
theorem perm_asc {now : List Int} {w : Nat} (h : now.length = w) : perm now (ascL w) = now := by
  subst h
  rw [perm, ascL, List.map_map]
  apply List.ext_getElem
  · simp
  · intro k h1 h2
    simp [List.getElem?_eq_getElem h2]
theorem erase_filter {a : Int} : ∀ (now : List Int) (i : Nat), now[i]? = some a → (now.filter fun x => decide (x = a)).length ≤ 1 → now.eraseIdx i = now.filter fun x => decide (x ≠ a)
  | [], i, h, _ => by simp at h
  | x :: xs, 0, h, h1 => by
    have hx : x = a := by simpa using h
    rw [List.filter_cons_of_pos (by simpa using hx), List.length_cons] at h1
    have h0 := List.length_eq_zero_iff.1 (Nat.le_zero.1 (Nat.le_of_succ_le_succ h1))
    rw [List.filter_eq_nil_iff] at h0
    rw [List.eraseIdx_cons_zero, List.filter_cons_of_neg (by simpa using hx), eq_comm, List.filter_eq_self]
    intro y hy
    have := h0 y hy
    simpa using this
  | x :: xs, i + 1, h, h1 => by
    have h : xs[i]? = some a := by simpa using h
    have hm : a ∈ xs := List.mem_of_getElem? h
    have hx : x ≠ a := by
      intro e
      rw [List.filter_cons_of_pos (by simpa using e), List.length_cons] at h1
      have h0 := List.length_eq_zero_iff.1 (Nat.le_zero.1 (Nat.le_of_succ_le_succ h1))
      rw [List.filter_eq_nil_iff] at h0
      exact absurd (h0 a hm) (by simp)
    rw [List.filter_cons_of_neg (by simpa using hx)] at h1
    rw [List.eraseIdx_cons_succ, erase_filter xs i h h1, List.filter_cons_of_pos (by simpa using hx)]
theorem last_out {now : List Int} {w : Nat} (h : now.length = w) (hw : 1 ≤ w) (a : Int) : perm (now.set (w - 1) a) (mvF w (w - 1)) = a :: now.take (w - 1) := by
  rw [perm_mv (by rw [List.length_set]; exact h)]
  congr 1
  · have : w - 1 < (now.set (w - 1) a).length := by rw [List.length_set]; omega
    rw [List.getD, List.getElem?_eq_getElem this]
    simp
  · apply List.ext_getElem
    · rw [List.length_eraseIdx, List.length_set, List.length_take]
      split <;> omega
    · intro k h1 h2
      rw [List.length_take] at h2
      rw [List.getElem_eraseIdx]
      have hk : k < w - 1 := by omega
      simp only [dif_pos hk, List.getElem_take]
      rw [List.getElem_set_ne (by omega)]
def lruH (w : Nat) : List (List Int) := (List.range w).map fun i => mvF w i
def fifoH (w : Nat) : List (List Int) := (List.range w).map fun _ => ascL w
theorem lru_step {now : List Int} {w : Nat} (h : now.length = w) (hw : 1 ≤ w) (a : Int) (h1 : (now.filter fun x => decide (x = a)).length ≤ 1) : (stepC (lruH w) (mvF w (w - 1)) now a).1 = a :: (now.filter fun x => decide (x ≠ a)).take (w - 1) := by
  unfold stepC
  cases hg : ageOf a now with
  | some i =>
    simp only
    unfold ageOf at hg
    rw [List.findIdx?_eq_some_iff_getElem] at hg
    obtain ⟨hi, h2, _⟩ := hg
    have h2 : now[i] = a := by simpa using h2
    have e : (lruH w).getD i [] = mvF w i := by
      unfold lruH
      rw [List.getD, List.getElem?_map, List.getElem?_range (by omega)]
      rfl
    have hl := List.length_eraseIdx_of_lt hi
    have e2 := erase_filter now i (by rw [List.getElem?_eq_getElem hi, h2]) h1
    have e3 : now.getD i 0 = a := by rw [List.getD, List.getElem?_eq_getElem hi]; exact h2
    rw [e, perm_mv h, e3, ← e2, List.take_of_length_le (by omega)]
  | none =>
    simp only
    unfold ageOf at hg
    rw [List.findIdx?_eq_none_iff] at hg
    have e : now.filter (fun x => decide (x ≠ a)) = now := by
      rw [List.filter_eq_self]
      intro x hx
      have := hg x hx
      simpa using this
    rw [e, h, last_out h hw]
theorem fifo_step {now : List Int} {w : Nat} (h : now.length = w) (hw : 1 ≤ w) (a : Int) : (stepC (fifoH w) (mvF w (w - 1)) now a).1 = if (stepC (fifoH w) (mvF w (w - 1)) now a).2.2 = true then now else a :: now.take (w - 1) := by
  unfold stepC
  cases hg : ageOf a now with
  | some i =>
    simp only [if_true]
    unfold ageOf at hg
    rw [List.findIdx?_eq_some_iff_getElem] at hg
    obtain ⟨hi, _, _⟩ := hg
    have e : (fifoH w).getD i [] = ascL w := by
      unfold fifoH
      rw [List.getD, List.getElem?_map, List.getElem?_range (by omega)]
      rfl
    rw [e, perm_asc h]
  | none =>
    simp only [Bool.false_eq_true, if_false]
    rw [h, last_out h hw]
theorem keep_once {a : Int} (ha : 0 ≤ a) (w : Nat) (rv : List Int) : ((keepL w (dedL rv)).filter fun x => decide (x = a)).length ≤ 1 := by
  have h1 : ((dedL rv ++ List.replicate w (-1)).filter fun x => decide (x = a)).length ≤ 1 := by
    have hq : (List.replicate w (-1 : Int)).filter (fun x => decide (x = a)) = [] := by
      rw [List.filter_eq_nil_iff]
      intro x hx
      have := (List.mem_replicate.1 hx).2
      simp; omega
    rw [List.filter_append, hq, List.append_nil]
    exact ded_once a rv
  exact Nat.le_trans (List.Sublist.length_le (List.Sublist.filter _ (List.take_sublist _ _))) h1
theorem runC_lru {w : Nat} (hw : 1 ≤ w) : ∀ (uses rv : List Int), (∀ a ∈ uses, 0 ≤ a) → (runC (lruH w) (mvF w (w - 1)) (keepL w (dedL rv)) uses).2.2 = keepL w (dedL (uses.reverse ++ rv))
  | [], rv, _ => rfl
  | a :: uses, rv, h => by
    have ha := h a (by simp)
    have h1 := lru_step (keepL_length w (dedL rv)) hw a (keep_once ha w rv)
    rw [← keep_step ha rv hw] at h1
    simp only [runC]
    rw [h1, runC_lru hw uses (a :: rv) (fun x hx => h x (by simp [hx]))]
    congr 2
    simp
theorem keep_empty (w : Nat) : keepL w (dedL []) = List.replicate w (-1) := by simp [keepL, dedL]
/-- The uses that were no hits. -/
def missed (uses hs : List Int) : List Int := ((uses.zip hs).filter fun p => decide (p.2 = 0)).map (·.1)
theorem keep_cons (w : Nat) (hw : 1 ≤ w) (a : Int) (M : List Int) : keepL w (a :: M) = a :: (keepL w M).take (w - 1) := by
  obtain ⟨v, rfl⟩ : ∃ v, w = v + 1 := ⟨w - 1, by omega⟩
  unfold keepL
  rw [List.cons_append, List.take_succ_cons, Nat.add_sub_cancel, List.take_take]
  congr 2
  omega
theorem runC_fifo {w : Nat} (hw : 1 ≤ w) : ∀ (uses M : List Int), (runC (fifoH w) (mvF w (w - 1)) (keepL w M) uses).2.2 = keepL w ((missed uses (runC (fifoH w) (mvF w (w - 1)) (keepL w M) uses).1).reverse ++ M)
  | [], M => rfl
  | a :: uses, M => by
    have h1 := fifo_step (keepL_length w M) hw a
    simp only [runC]
    cases hh : (stepC (fifoH w) (mvF w (w - 1)) (keepL w M) a).2.2 with
    | true =>
      rw [hh, if_pos rfl] at h1
      rw [h1, runC_fifo hw uses M]
      simp [missed]
    | false =>
      rw [hh, if_neg (by simp), ← keep_cons w hw a M] at h1
      rw [h1, runC_fifo hw uses (a :: M)]
      simp [missed]
/-- The law's own list of what came in last. -/
def cameL (w : Nat) : List (Int × Int) → List Int → List Int
  | [], acc => acc
  | p :: ps, acc => cameL w ps (if p.2 = 0 ∧ acc.length < w then acc ++ [p.1] else acc)
theorem cameL_eq (w : Nat) : ∀ (ps : List (Int × Int)) (acc : List Int), acc.length ≤ w → cameL w ps acc = acc ++ ((ps.filter fun p => decide (p.2 = 0)).map (·.1)).take (w - acc.length)
  | [], acc, _ => by simp [cameL]
  | p :: ps, acc, h => by
    rw [cameL]
    by_cases h0 : p.2 = 0
    · rw [List.filter_cons_of_pos (by simpa using h0), List.map_cons]
      by_cases h2 : acc.length < w
      · rw [if_pos ⟨h0, h2⟩, cameL_eq w ps _ (by simp; omega)]
        have e : w - acc.length = (w - (acc ++ [p.1]).length) + 1 := by simp; omega
        rw [e, List.take_succ_cons, List.append_assoc]
        rfl
      · rw [if_neg (by simp [h2]), cameL_eq w ps acc h]
        have : w - acc.length = 0 := by omega
        rw [this, List.take_zero, List.take_zero]
    · rw [if_neg (by simp [h0]), cameL_eq w ps acc h, List.filter_cons_of_neg (by simpa using h0)]
theorem came_all (w : Nat) (uses hs : List Int) : cameL w (uses.zip hs).reverse [] = (missed uses hs).reverse.take w := by
  rw [cameL_eq w _ [] (by simp), List.filter_reverse, List.map_reverse]
  simp [missed]
/-- What the law builds is what the policies keep. -/
theorem lru_is {w : Nat} (hw : 1 ≤ w) (uses : List Int) (h : ∀ a ∈ uses, 0 ≤ a) : (runC (lruH w) (mvF w (w - 1)) (List.replicate w (-1)) uses).2.2 = lastL w uses.reverse [] ++ List.replicate (w - (lastL w uses.reverse []).length) (-1) := by
  rw [← keep_empty, runC_lru hw uses [] h, List.append_nil, keep_pad, last_all]
theorem fifo_is {w : Nat} (hw : 1 ≤ w) (uses : List Int) : (runC (fifoH w) (mvF w (w - 1)) (List.replicate w (-1)) uses).2.2 = cameL w (uses.zip (runC (fifoH w) (mvF w (w - 1)) (List.replicate w (-1)) uses).1).reverse [] ++ List.replicate (w - (cameL w (uses.zip (runC (fifoH w) (mvF w (w - 1)) (List.replicate w (-1)) uses).1).reverse []).length) (-1) := by
  have e : List.replicate w (-1 : Int) = keepL w [] := by simp [keepL]
  rw [e]
  have h := runC_fifo hw uses []
  rw [List.append_nil] at h
  rw [h, keep_pad, came_all]
end Go.Proofs.Ytfooniikopekoaa.PI
