/- Orders: the program's way and the reference's are one. -/
import Derived.Test.YtfooniikopekoaaP1
namespace Go.Proofs.Ytfooniikopekoaa.PI
open Go Go.Q
set_option maxRecDepth 100000
set_option linter.unusedSimpArgs false
set_option linter.unusedVariables false
theorem ordC_iff (n : Nat) : ∀ (suf pre : List Int), ordC n pre suf = true ↔ (∀ x ∈ suf, 0 ≤ x ∧ x ≤ (n : Int) - 1) ∧ suf.Pairwise (· ≠ ·) ∧ ∀ x ∈ suf, ∀ y ∈ pre, y ≠ x
  | [], pre => by simp [ordC]
  | x :: suf, pre => by
    simp only [ordC, Bool.and_eq_true, decide_eq_true_eq, ordC_iff n suf, Bool.not_eq_true', List.pairwise_cons, List.mem_cons, List.mem_append, List.mem_singleton]
    have ha : (pre.any fun y => decide (y = x)) = false ↔ ∀ y ∈ pre, y ≠ x := by simp
    rw [ha]
    constructor
    · rintro ⟨h1, h2, h3, h4, h5⟩
      refine ⟨?_, ⟨?_, h4⟩, ?_⟩
      · rintro y (rfl | hy)
        · exact h1
        · exact h3 y hy
      · intro y hy
        exact h5 y hy x (.inr (.inl rfl)) 
      · rintro y (rfl | hy) z hz
        · exact h2 z hz
        · exact h5 y hy z (.inl hz)
    · rintro ⟨h1, ⟨h2, h3⟩, h4⟩
      refine ⟨h1 x (.inl rfl), fun y hy => h4 x (.inl rfl) y hy, fun y hy => h1 y (.inr hy), h3, ?_⟩
      rintro y hy z (hz | hz)
      · exact h4 y (.inr hy) z hz
      · rcases hz with rfl | hz
        · exact h2 y hy
        · cases hz
theorem sortI_perm (xs : List Int) : (sortI xs).Perm xs := List.mergeSort_perm xs _
theorem sortI_le (xs : List Int) : (sortI xs).Pairwise (· ≤ ·) := by
  have := List.pairwise_mergeSort (le := fun x y : Int => decide (x ≤ y)) (fun a b c h1 h2 => by simp only [decide_eq_true_eq] at *; omega) (fun a b => by simp only [Bool.or_eq_true, decide_eq_true_eq]; omega) xs
  exact this.imp fun {a b} h => by simpa using h
theorem those_true (n : Nat) : those (fun _ => true) n = (List.range n).map Int.ofNat := by
  unfold those
  rw [List.filter_eq_self.2 (fun _ _ => rfl)]
theorem inc_ge {s : List Int} (h : s.Pairwise (· < ·)) : ∀ (d i : Nat) (hj : i + d < s.length), s[i]'(by omega) + (d : Int) ≤ s[i + d]
  | 0, i, hj => by simp
  | d + 1, i, hj => by
    have h1 := inc_ge h d i (by omega)
    have h2 := (List.pairwise_iff_getElem.1 h) (i + d) (i + (d + 1)) (by omega) hj (by omega)
    omega
theorem order_eq (xs : List Int) (n : Nat) : orderB xs n = sorderB xs n := by
  rw [Bool.eq_iff_iff]
  simp only [orderB, sorderB, decide_eq_true_eq, Bool.and_eq_true, ordC_iff]
  constructor
  · rintro ⟨hl, hs⟩
    rw [those_true] at hs
    have hp : ((List.range n).map Int.ofNat).Perm xs := hs ▸ sortI_perm xs
    refine ⟨⟨fun x hx => ?_, ?_, fun _ _ _ hy => by cases hy⟩, hl⟩
    · have := hp.mem_iff.2 hx
      rw [List.mem_map] at this
      obtain ⟨k, hk, rfl⟩ := this
      rw [List.mem_range] at hk
      constructor
      · exact Int.natCast_nonneg k
      · show (k : Int) ≤ _
        omega
    · have hn : ((List.range n).map Int.ofNat).Pairwise (· ≠ ·) := by
        rw [List.pairwise_map]
        exact List.pairwise_lt_range.imp fun {a b} h e => by
          have : a = b := Int.ofNat.inj e
          omega
      exact (hp.pairwise_iff (fun {a b} h => Ne.symm h)).1 hn
  · rintro ⟨⟨h1, h2, _⟩, hl⟩
    refine ⟨hl, ?_⟩
    have hp := sortI_perm xs
    have hne : (sortI xs).Pairwise (· ≠ ·) := (hp.pairwise_iff (fun {a b} h => Ne.symm h)).2 h2
    have hlt : (sortI xs).Pairwise (· < ·) := by
      rw [List.pairwise_iff_getElem] at hne ⊢
      intro i j hi hj hij
      have a := hne i j hi hj hij
      have b := (List.pairwise_iff_getElem.1 (sortI_le xs)) i j hi hj hij
      omega
    have hlen : (sortI xs).length = n := by rw [sortI_length, hl]
    rw [those_true]
    apply List.ext_getElem
    · simp [hlen]
    · intro i hi hj
      have hin : i < n := by omega
      simp only [List.getElem_map, List.getElem_range]
      have r : ∀ k (hk : k < (sortI xs).length), 0 ≤ (sortI xs)[k] ∧ (sortI xs)[k] ≤ (n : Int) - 1 := fun k hk => h1 _ (hp.mem_iff.1 (List.getElem_mem hk))
      have r0 := r 0 (by omega)
      have rn := r (n - 1) (by omega)
      have a := inc_ge hlt i 0 (by omega)
      have b := inc_ge hlt (n - 1 - i) i (by omega)
      have e1 : 0 + i = i := by omega
      have e2 : i + (n - 1 - i) = n - 1 := by omega
      simp only [e1] at a
      simp only [e2] at b
      show (sortI xs)[i] = (i : Int)
      omega
/-- What an order holds. -/
theorem order_bound {xs : List Int} {n : Nat} (h : orderB xs n = true) : xs.length = n ∧ ∀ x ∈ xs, 0 ≤ x ∧ x < (n : Int) := by
  rw [order_eq] at h
  simp only [sorderB, Bool.and_eq_true, decide_eq_true_eq, ordC_iff] at h
  exact ⟨h.2, fun x hx => by have := h.1.1 x hx; omega⟩
end Go.Proofs.Ytfooniikopekoaa.PI
