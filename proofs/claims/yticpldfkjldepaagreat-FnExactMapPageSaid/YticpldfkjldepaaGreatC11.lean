/- Both say the same of a space: roots. -/
import Derived.Test.YticpldfkjldepaaGreatC9
namespace Go.Proofs.YticpldfkjldepaaGreat.PI
open Go Go.Q
set_option maxRecDepth 100000
set_option linter.unusedSimpArgs false
set_option linter.unusedVariables false
theorem inc_ge {s : List Int} (h : s.Pairwise (· < ·)) : ∀ (d i : Nat) (hj : i + d < s.length), s[i]'(by omega) + (d : Int) ≤ s[i + d]
  | 0, i, hj => by simp
  | d + 1, i, hj => by
    have h1 := inc_ge h d i (by omega)
    have h2 := (List.pairwise_iff_getElem.1 h) (i + d) (i + (d + 1)) (by omega) hj (by omega)
    omega
theorem order_of {xs : List Int} {n : Nat} (h1 : ∀ x ∈ xs, 0 ≤ x ∧ x ≤ (n : Int) - 1) (h2 : xs.Pairwise (· ≠ ·)) (hl : xs.length = n) : orderB xs n = true := by
  simp only [orderB, decide_eq_true_eq]
  refine ⟨hl, ?_⟩
  have hp := sortI_perm xs
  have hne : (sortI xs).Pairwise (· ≠ ·) := (hp.pairwise_iff (fun {a b} h => Ne.symm h)).2 h2
  have hlt : (sortI xs).Pairwise (· < ·) := by
    rw [List.pairwise_iff_getElem] at hne ⊢
    intro i j hi hj hij
    have a := hne i j hi hj hij
    have b := (List.pairwise_iff_getElem.1 (sortI_le xs)) i j hi hj hij
    omega
  have hlen : (sortI xs).length = n := by rw [sortI_length, hl]
  rw [those_true]
  apply List.ext_getElem
  · simp [hlen]
  · intro i hi hj
    have hin : i < n := by omega
    simp only [List.getElem_map, List.getElem_range]
    have r : ∀ k (hk : k < (sortI xs).length), 0 ≤ (sortI xs)[k] ∧ (sortI xs)[k] ≤ (n : Int) - 1 := fun k hk => h1 _ (hp.mem_iff.1 (List.getElem_mem hk))
    have r0 := r 0 (by omega)
    have rn := r (n - 1) (by omega)
    have a := inc_ge hlt i 0 (by omega)
    have b := inc_ge hlt (n - 1 - i) i (by omega)
    have e1 : 0 + i = i := by omega
    have e2 : i + (n - 1 - i) = n - 1 := by omega
    simp only [e1] at a
    simp only [e2] at b
    show (sortI xs)[i] = (i : Int)
    omega
theorem upto_nodup (n : Nat) : (those (fun _ => true) n).Nodup := by
  rw [those_true, List.nodup_iff_pairwise_ne, List.pairwise_map]
  exact List.pairwise_lt_range.imp fun {a b} h e => by
    have : a = b := Int.ofNat.inj e
    omega
theorem upto_mem (n : Nat) (x : Int) : x ∈ those (fun _ => true) n ↔ 0 ≤ x ∧ x < (n : Int) := by
  rw [those_true, List.mem_map]
  constructor
  · rintro ⟨k, hk, rfl⟩
    rw [List.mem_range] at hk
    exact ⟨Int.natCast_nonneg k, by show (k : Int) < n; omega⟩
  · rintro ⟨h1, h2⟩
    exact ⟨x.toNat, by rw [List.mem_range]; omega, by show ((x.toNat : Nat) : Int) = x; omega⟩
theorem order_perm {xs : List Int} {n : Nat} (h : orderB xs n = true) : xs.Perm (those (fun _ => true) n) := by
  simp only [orderB, decide_eq_true_eq] at h
  rw [← h.2]
  exact (sortI_perm xs).symm
theorem used_mem (r : List Int) (x : Int) : x ∈ usedOf r ↔ x ∈ r ∧ x ≠ -1 := by
  simp [usedOf]
theorem used_count (r : List Int) (x : Int) (h : x ≠ -1) : (usedOf r).count x = r.count x := List.count_filter (by simpa using h)
theorem tabC_iff (r : List Int) : ∀ (t : List (List En)) (k : Nat), tabC r k t = true ↔ (∀ i, k ≤ i → i < k + t.length → r.count (i : Int) = 1) ∧ ∀ x ∈ t, x.length = 8
  | [], k => by
    simp only [tabC, List.length_nil, Nat.add_zero, true_iff]
    exact ⟨fun i h1 h2 => by omega, fun x hx => by cases hx⟩
  | x :: t, k => by
    simp only [tabC, Bool.and_eq_true, decide_eq_true_eq, tabC_iff r t (k + 1), List.length_cons, List.forall_mem_cons]
    constructor
    · rintro ⟨⟨h1, h2⟩, h3, h4⟩
      refine ⟨fun i g1 g2 => ?_, h2, h4⟩
      by_cases hi : i = k
      · subst hi; exact h1
      · exact h3 i (by omega) (by omega)
    · rintro ⟨h1, h2, h3⟩
      exact ⟨⟨h1 k (Nat.le_refl _) (by omega), h2⟩, fun i g1 g2 => h1 i (by omega) (by omega), h3⟩
theorem roots_eq (r : List Int) (t : List (List En)) : (tabC r 0 t && r.all (rootB t.length)) = (orderB (usedOf r) t.length && t.all fun x => decide (x.length = 8)) := by
  rw [Bool.eq_iff_iff]
  simp only [Bool.and_eq_true, tabC_iff, List.all_eq_true, decide_eq_true_eq, rootB, Nat.zero_add, Nat.zero_le, true_implies]
  constructor
  · rintro ⟨⟨h1, h2⟩, h3⟩
    refine ⟨?_, h2⟩
    have hmem : ∀ x ∈ usedOf r, 0 ≤ x ∧ x ≤ (t.length : Int) - 1 := fun x hx => by
      rw [used_mem] at hx
      have := h3 x hx.1
      omega
    have hnd : (usedOf r).Nodup := by
      rw [List.nodup_iff_count]
      intro a
      by_cases ha : a ∈ usedOf r
      · have hb := hmem a ha
        rw [used_count r a (by omega)]
        have := h1 a.toNat (by omega)
        rw [show ((a.toNat : Nat) : Int) = a from by omega] at this
        omega
      · rw [List.count_eq_zero.2 ha]; omega
    have hp : (usedOf r).Perm (those (fun _ => true) t.length) := by
      rw [List.perm_ext_iff_of_nodup hnd (upto_nodup _)]
      intro a
      rw [upto_mem]
      constructor
      · intro ha
        have := hmem a ha
        omega
      · rintro ⟨g1, g2⟩
        have := h1 a.toNat (by omega)
        rw [show ((a.toNat : Nat) : Int) = a from by omega] at this
        rw [used_mem]
        exact ⟨List.count_pos_iff.1 (by omega), by omega⟩
    refine order_of hmem (List.nodup_iff_pairwise_ne.1 hnd) ?_
    rw [hp.length_eq, those_full_length]
  · rintro ⟨h1, h2⟩
    have hp := order_perm h1
    refine ⟨⟨fun i hi => ?_, h2⟩, fun x hx => ?_⟩
    · rw [← used_count r (i : Int) (by omega), hp.count_eq, (upto_nodup _).count, if_pos]
      rw [upto_mem]; omega
    · by_cases h0 : x = -1
      · omega
      · have : x ∈ usedOf r := by rw [used_mem]; exact ⟨hx, h0⟩
        have := (upto_mem _ _).1 (hp.mem_iff.1 this)
        omega
theorem walkE_append : ∀ (a b : List En) (tk : List Bool), walkE tk (a ++ b) = (walkE tk a).bind fun tk' => walkE tk' b
  | [], b, tk => rfl
  | e :: a, b, tk => by
    simp only [List.cons_append, walkE]
    cases stepT tk e with
    | none => rfl
    | some tk' => exact walkE_append a b tk'
theorem walkT_flat : ∀ (t : List (List En)) (tk : List Bool), walkT tk t = walkE tk t.flatten
  | [], tk => rfl
  | x :: t, tk => by
    simp only [walkT, List.flatten_cons, walkE_append]
    cases walkE tk x with
    | none => rfl
    | some tk' => exact walkT_flat t tk'
theorem frE_append (a b : List En) : frE (a ++ b) = frE a ++ frE b := by simp [frE]
theorem frT_flat (t : List (List En)) : frT t = frE t.flatten := by
  induction t with
  | nil => rfl
  | cons x t ih =>
    rw [List.flatten_cons, frE_append, ← ih]
    simp [frT]
theorem frE_pos {es : List En} {x : Int} (h : x ∈ frE es) : 0 ≤ x := by
  simp only [frE, List.mem_filter, decide_eq_true_eq] at h
  exact h.2
theorem getD_set_bool (tk : List Bool) (i j : Nat) (hi : i < tk.length) : (tk.set i true).getD j false = (decide (i = j) || tk.getD j false) := by
  rw [List.getD_eq_getElem?_getD, List.getElem?_set, List.getD_eq_getElem?_getD]
  by_cases h : i = j
  · subst h
    simp [hi]
  · simp [h]
theorem walk_iff : ∀ (es : List En) (tk : List Bool), tk.length = 16 → ((walkE tk es).isSome = true ↔ (∀ e ∈ es, entB e = true) ∧ (frE es).Nodup ∧ ∀ f ∈ frE es, tk.getD f.toNat false = false)
  | [], tk, h => by simp [walkE, frE]
  | e :: es, tk, h => by
    simp only [walkE]
    obtain ⟨f, w, u, d, ⟨⟩⟩ := e
    by_cases he : emptyE (f, w, u, d, ()) = true
    · have hs : stepT tk (f, w, u, d, ()) = some tk := by simp only [stepT, if_pos he]
      have hf : f = -1 := by
        simp only [emptyE, Bool.and_eq_true, decide_eq_true_eq] at he
        exact he.1.1.1
      have hfr : frE ((f, w, u, d, ()) :: es) = frE es := by subst hf; simp [frE]
      have hen : entB (f, w, u, d, ()) = true := by simp only [entB, he, Bool.true_or]
      rw [hs, hfr]
      simp only [walk_iff es tk h, List.forall_mem_cons, hen, true_and]
    · have he' : emptyE (f, w, u, d, ()) = false := by simpa using he
      have hen : entB (f, w, u, d, ()) = (frameB f && (u || !d)) := by simp only [entB, he', Bool.false_or]
      by_cases hb : (frameB f && (u || !d)) = true
      · have hfr0 : frameB f = true := by
          rw [Bool.and_eq_true] at hb; exact hb.1
        have hud : (!(d && !u)) = true := by
          rw [Bool.and_eq_true] at hb
          cases u <;> cases d <;> simp_all
        obtain ⟨b1, b2⟩ := frame_bound hfr0
        have hfr : frE ((f, w, u, d, ()) :: es) = f :: frE es := by simp [frE, b1]
        rw [hfr]
        cases ht : tk.getD f.toNat false with
        | true =>
          have hs : stepT tk (f, w, u, d, ()) = none := by simp only [stepT, he', hfr0, ht]; rfl
          rw [hs]
          simp only [Option.isSome_none, Bool.false_eq_true, false_iff]
          rintro ⟨_, _, h3⟩
          have := h3 f (List.mem_cons_self ..)
          rw [ht] at this; cases this
        | false =>
          have hs : stepT tk (f, w, u, d, ()) = some (tk.set f.toNat true) := by
            have : (!(d && !u)) = true := hud
            simp only [stepT, he', hfr0, ht, this]; rfl
          rw [hs]
          simp only [walk_iff es (tk.set f.toNat true) (by simp [h]), List.forall_mem_cons, hen, hb, true_and, List.nodup_cons, ht]
          have hset : ∀ g ∈ frE es, ((tk.set f.toNat true).getD g.toNat false = false ↔ g ≠ f ∧ tk.getD g.toNat false = false) := fun g hg => by
            have hg0 := frE_pos hg
            rw [getD_set_bool tk f.toNat g.toNat (by omega)]
            by_cases hgf : g = f
            · subst hgf; simp
            · have : ¬ f.toNat = g.toNat := by omega
              simp [this, hgf]
          constructor
          · rintro ⟨k1, k2, k3⟩
            exact ⟨k1, ⟨fun hm => ((hset f hm).1 (k3 f hm)).1 rfl, k2⟩, fun g hg => ((hset g hg).1 (k3 g hg)).2⟩
          · rintro ⟨k1, ⟨k2, k3⟩, k4⟩
            exact ⟨k1, k3, fun g hg => (hset g hg).2 ⟨fun e => k2 (e ▸ hg), k4 g hg⟩⟩
      · have hb' : (frameB f && (u || !d)) = false := by simpa using hb
        have hs : stepT tk (f, w, u, d, ()) = none := by
          simp only [stepT, he']
          rw [if_neg (by simp), if_neg]
          intro hc
          simp only [Bool.and_eq_true] at hc
          rw [hc.1.1] at hb'
          have := hc.2
          cases u <;> cases d <;> simp_all
        rw [hs]
        simp only [Option.isSome_none, Bool.false_eq_true, false_iff, List.forall_mem_cons, hen, hb']
        rintro ⟨⟨h1, _⟩, _⟩
        cases h1
theorem incr_iff : ∀ (c : Int) (l : List Int), (c :: l).Pairwise (· ≤ ·) → (incr c l = true ↔ (c :: l).Nodup)
  | c, [], h => by simp [incr]
  | c, e :: r, h => by
    have h' := List.pairwise_cons.1 h
    have ih := incr_iff e r h'.2
    simp only [incr, Bool.and_eq_true, decide_eq_true_eq, ih, List.nodup_cons (a := c), List.mem_cons, not_or]
    have hce := h'.1 e (by simp)
    constructor
    · rintro ⟨h1, h2⟩
      refine ⟨⟨fun e => h1 e.symm, fun hm => ?_⟩, h2⟩
      have := (List.pairwise_cons.1 h'.2).1 c hm
      exact h1 (by omega)
    · rintro ⟨⟨h1, _⟩, h2⟩
      exact ⟨fun e => h1 e.symm, h2⟩
theorem comp_iff (fr : List Int) : (comp (sortI fr)).length = fr.length ↔ fr.Nodup := by
  have hp := sortI_perm fr
  have hle := sortI_le fr
  rw [← hp.nodup_iff, ← hp.length_eq]
  cases hs : sortI fr with
  | nil => simp [comp]
  | cons x l =>
    rw [hs] at hle
    rw [← incr_iff x l hle]
    simp only [comp, List.length_cons]
    cases hi : incr x l with
    | true => simp [pushC_incr hi]
    | false =>
      have := pushC_less hi
      simp only [Bool.false_eq_true, iff_false]
      omega
/-- The reference and the program say the same of a space. -/
theorem space_eq (r : List Int) (t : List (List En)) (b : List Ca) : specS r t b = implS r t b := by
  have h1 := roots_eq r t
  have h2 : (walkT free16 t).isSome = (t.all (fun x => x.all entB) && decide ((comp (sortI (frT t))).length = (frT t).length)) := by
    rw [Bool.eq_iff_iff, walkT_flat, walk_iff _ _ (by simp [free16])]
    simp only [Bool.and_eq_true, decide_eq_true_eq, comp_iff, List.all_eq_true, frT_flat]
    constructor
    · rintro ⟨k1, k2, _⟩
      exact ⟨fun x hx e he => k1 e (List.mem_flatten.2 ⟨x, hx, he⟩), k2⟩
    · rintro ⟨k1, k2⟩
      refine ⟨fun e he => ?_, k2, fun f _ => ?_⟩
      · obtain ⟨x, hx, hex⟩ := List.mem_flatten.1 he
        exact k1 x hx e hex
      · unfold free16
        rw [List.getD_eq_getElem?_getD, List.getElem?_replicate]
        split <;> rfl
  have h3 : t.all tabE = ((t.all fun x => decide (x.length = 8)) && t.all fun x => x.all entB) := by
    rw [Bool.eq_iff_iff]
    simp only [Bool.and_eq_true, List.all_eq_true, tabE, decide_eq_true_eq]
    constructor
    · intro h
      exact ⟨fun x hx => (h x hx).1, fun x hx => (h x hx).2⟩
    · rintro ⟨k1, k2⟩ x hx
      exact ⟨k1 x hx, k2 x hx⟩
  simp only [specS, implS, tabB, h2, h3]
  rw [Bool.and_assoc (decide (r.length = 8) && decide (t.length ≤ 8)), h1]
  generalize decide (r.length = 8) = a1
  generalize decide (t.length ≤ 8) = a2
  generalize orderB (usedOf r) t.length = a3
  generalize (t.all fun x => decide (x.length = 8)) = a4
  generalize decide (b.length ≤ 4) = a5
  generalize (t.all fun x => x.all entB) = a6
  generalize decide ((comp (sortI (frT t))).length = (frT t).length) = a7
  generalize bufB [] b = a8
  cases a1 <;> cases a2 <;> cases a3 <;> cases a4 <;> cases a5 <;> cases a6 <;> cases a7 <;> cases a8 <;> rfl
end Go.Proofs.YticpldfkjldepaaGreat.PI
