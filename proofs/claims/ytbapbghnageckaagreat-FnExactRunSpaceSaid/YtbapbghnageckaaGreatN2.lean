/- Both say the same of a space: roots. -/
import Derived.Test.YtbapbghnageckaaGreatC9
namespace Go.Proofs.YtbapbghnageckaaGreat.PI
open Go Go.Q
set_option maxRecDepth 100000
set_option linter.unusedSimpArgs false
set_option linter.unusedVariables false
set_option maxHeartbeats 4000000
theorem inc_ge {s : List Int} (h : s.Pairwise (· < ·)) : ∀ (d i : Nat) (hj : i + d < s.length), s[i]'(by omega) + (d : Int) ≤ s[i + d]
  | 0, i, hj => by simp
  | d + 1, i, hj => by
    have h1 := inc_ge h d i (by omega)
    have h2 := (List.pairwise_iff_getElem.1 h) (i + d) (i + (d + 1)) (by omega) hj (by omega)
    omega
theorem order_of {xs : List Int} {n : Nat} (h1 : ∀ x ∈ xs, 0 ≤ x ∧ x ≤ (n : Int) - 1) (h2 : xs.Pairwise (· ≠ ·)) (hl : xs.length = n) : orderB xs n = true := by
  simp only [orderB, decide_eq_true_eq]
  refine ⟨hl, ?_⟩
  have hp := sortI_perm xs
  have hne : (sortI xs).Pairwise (· ≠ ·) := (hp.pairwise_iff (fun {a b} h => Ne.symm h)).2 h2
  have hlt : (sortI xs).Pairwise (· < ·) := by
    rw [List.pairwise_iff_getElem] at hne ⊢
    intro i j hi hj hij
    have a := hne i j hi hj hij
    have b := (List.pairwise_iff_getElem.1 (sortI_le xs)) i j hi hj hij
    omega
  have hlen : (sortI xs).length = n := by rw [sortI_length, hl]
  rw [those_true]
  apply List.ext_getElem
  · simp [hlen]
  · intro i hi hj
    have hin : i < n := by omega
    simp only [List.getElem_map, List.getElem_range]
    have r : ∀ k (hk : k < (sortI xs).length), 0 ≤ (sortI xs)[k] ∧ (sortI xs)[k] ≤ (n : Int) - 1 := fun k hk => h1 _ (hp.mem_iff.1 (List.getElem_mem hk))
    have r0 := r 0 (by omega)
    have rn := r (n - 1) (by omega)
    have a := inc_ge hlt i 0 (by omega)
    have b := inc_ge hlt (n - 1 - i) i (by omega)
    have e1 : 0 + i = i := by omega
    have e2 : i + (n - 1 - i) = n - 1 := by omega
    simp only [e1] at a
    simp only [e2] at b
    show (sortI xs)[i] = (i : Int)
    omega
theorem upto_nodup (n : Nat) : (those (fun _ => true) n).Nodup := by
  rw [those_true, List.nodup_iff_pairwise_ne, List.pairwise_map]
  exact List.pairwise_lt_range.imp fun {a b} h e => by
    have : a = b := Int.ofNat.inj e
    omega
theorem upto_mem (n : Nat) (x : Int) : x ∈ those (fun _ => true) n ↔ 0 ≤ x ∧ x < (n : Int) := by
  rw [those_true, List.mem_map]
  constructor
  · rintro ⟨k, hk, rfl⟩
    rw [List.mem_range] at hk
    exact ⟨Int.natCast_nonneg k, by show (k : Int) < n; omega⟩
  · rintro ⟨h1, h2⟩
    exact ⟨x.toNat, by rw [List.mem_range]; omega, by show ((x.toNat : Nat) : Int) = x; omega⟩
theorem order_perm {xs : List Int} {n : Nat} (h : orderB xs n = true) : xs.Perm (those (fun _ => true) n) := by
  simp only [orderB, decide_eq_true_eq] at h
  rw [← h.2]
  exact (sortI_perm xs).symm
theorem used_mem (r : List Int) (x : Int) : x ∈ usedOf r ↔ x ∈ r ∧ x ≠ -1 := by
  simp [usedOf]
theorem used_count (r : List Int) (x : Int) (h : x ≠ -1) : (usedOf r).count x = r.count x := List.count_filter (by simpa using h)
theorem tabC_iff (r : List Int) : ∀ (t : List (List En)) (k : Nat), tabC r k t = true ↔ (∀ i, k ≤ i → i < k + t.length → r.count (i : Int) = 1) ∧ ∀ x ∈ t, x.length = 8
  | [], k => by
    simp only [tabC, List.length_nil, Nat.add_zero, true_iff]
    exact ⟨fun i h1 h2 => by omega, fun x hx => by cases hx⟩
  | x :: t, k => by
    simp only [tabC, Bool.and_eq_true, decide_eq_true_eq, tabC_iff r t (k + 1), List.length_cons, List.forall_mem_cons]
    constructor
    · rintro ⟨⟨h1, h2⟩, h3, h4⟩
      refine ⟨fun i g1 g2 => ?_, h2, h4⟩
      by_cases hi : i = k
      · subst hi; exact h1
      · exact h3 i (by omega) (by omega)
    · rintro ⟨h1, h2, h3⟩
      exact ⟨⟨h1 k (Nat.le_refl _) (by omega), h2⟩, fun i g1 g2 => h1 i (by omega) (by omega), h3⟩
theorem roots_eq (r : List Int) (t : List (List En)) : (tabC r 0 t && r.all (rootB t.length)) = (orderB (usedOf r) t.length && t.all fun x => decide (x.length = 8)) := by
  rw [Bool.eq_iff_iff]
  simp only [Bool.and_eq_true, tabC_iff, List.all_eq_true, decide_eq_true_eq, rootB, Nat.zero_add, Nat.zero_le, true_implies]
  constructor
  · rintro ⟨⟨h1, h2⟩, h3⟩
    refine ⟨?_, h2⟩
    have hmem : ∀ x ∈ usedOf r, 0 ≤ x ∧ x ≤ (t.length : Int) - 1 := fun x hx => by
      rw [used_mem] at hx
      have := h3 x hx.1
      omega
    have hnd : (usedOf r).Nodup := by
      rw [List.nodup_iff_count]
      intro a
      by_cases ha : a ∈ usedOf r
      · have hb := hmem a ha
        rw [used_count r a (by omega)]
        have := h1 a.toNat (by omega)
        rw [show ((a.toNat : Nat) : Int) = a from by omega] at this
        omega
      · rw [List.count_eq_zero.2 ha]; omega
    have hp : (usedOf r).Perm (those (fun _ => true) t.length) := by
      rw [List.perm_ext_iff_of_nodup hnd (upto_nodup _)]
      intro a
      rw [upto_mem]
      constructor
      · intro ha
        have := hmem a ha
        omega
      · rintro ⟨g1, g2⟩
        have := h1 a.toNat (by omega)
        rw [show ((a.toNat : Nat) : Int) = a from by omega] at this
        rw [used_mem]
        exact ⟨List.count_pos_iff.1 (by omega), by omega⟩
    refine order_of hmem (List.nodup_iff_pairwise_ne.1 hnd) ?_
    rw [hp.length_eq, those_full_length]
  · rintro ⟨h1, h2⟩
    have hp := order_perm h1
    refine ⟨⟨fun i hi => ?_, h2⟩, fun x hx => ?_⟩
    · rw [← used_count r (i : Int) (by omega), hp.count_eq, (upto_nodup _).count, if_pos]
      rw [upto_mem]; omega
    · by_cases h0 : x = -1
      · omega
      · have : x ∈ usedOf r := by rw [used_mem]; exact ⟨hx, h0⟩
        have := (upto_mem _ _).1 (hp.mem_iff.1 this)
        omega
theorem walkE_append : ∀ (a b : List En) (tk : List Bool), walkE tk (a ++ b) = (walkE tk a).bind fun tk' => walkE tk' b
  | [], b, tk => rfl
  | e :: a, b, tk => by
    simp only [List.cons_append, walkE]
    cases stepT tk e with
    | none => rfl
    | some tk' => exact walkE_append a b tk'
theorem walkT_flat : ∀ (t : List (List En)) (tk : List Bool), walkT tk t = walkE tk t.flatten
  | [], tk => rfl
  | x :: t, tk => by
    simp only [walkT, List.flatten_cons, walkE_append]
    cases walkE tk x with
    | none => rfl
    | some tk' => exact walkT_flat t tk'
theorem frE_append (a b : List En) : frE (a ++ b) = frE a ++ frE b := by simp [frE]
theorem frT_flat (t : List (List En)) : frT t = frE t.flatten := by
  induction t with
  | nil => rfl
  | cons x t ih =>
    rw [List.flatten_cons, frE_append, ← ih]
    simp [frT]
theorem frE_pos {es : List En} {x : Int} (h : x ∈ frE es) : 0 ≤ x := by
  simp only [frE, List.mem_filter, decide_eq_true_eq] at h
  exact h.2
theorem getD_set_bool (tk : List Bool) (i j : Nat) (hi : i < tk.length) : (tk.set i true).getD j false = (decide (i = j) || tk.getD j false) := by
  rw [List.getD_eq_getElem?_getD, List.getElem?_set, List.getD_eq_getElem?_getD]
  by_cases h : i = j
  · subst h
    simp [hi]
  · simp [h]
theorem walk_iff : ∀ (es : List En) (tk : List Bool), tk.length = 16 → ((walkE tk es).isSome = true ↔ (∀ e ∈ es, entB e = true) ∧ (frE es).Nodup ∧ ∀ f ∈ frE es, tk.getD f.toNat false = false)
  | [], tk, h => by simp [walkE, frE]
  | e :: es, tk, h => by
    simp only [walkE]
    obtain ⟨f, w, u, d, ⟨⟩⟩ := e
    by_cases he : emptyE (f, w, u, d, ()) = true
    · have hs : stepT tk (f, w, u, d, ()) = some tk := by simp only [stepT, if_pos he]
      have hf : f = -1 := by
        simp only [emptyE, Bool.and_eq_true, decide_eq_true_eq] at he
        exact he.1.1.1
      have hfr : frE ((f, w, u, d, ()) :: es) = frE es := by subst hf; simp [frE]
      have hen : entB (f, w, u, d, ()) = true := by simp only [entB, he, Bool.true_or]
      rw [hs, hfr]
      simp only [walk_iff es tk h, List.forall_mem_cons, hen, true_and]
    · have he' : emptyE (f, w, u, d, ()) = false := by simpa using he
      have hen : entB (f, w, u, d, ()) = (frameB f && (u || !d)) := by simp only [entB, he', Bool.false_or]
      by_cases hb : (frameB f && (u || !d)) = true
      · have hfr0 : frameB f = true := by
          rw [Bool.and_eq_true] at hb; exact hb.1
        have hud : (!(d && !u)) = true := by
          rw [Bool.and_eq_true] at hb
          cases u <;> cases d <;> simp_all
        obtain ⟨b1, b2⟩ := frame_bound hfr0
        have hfr : frE ((f, w, u, d, ()) :: es) = f :: frE es := by simp [frE, b1]
        rw [hfr]
        cases ht : tk.getD f.toNat false with
        | true =>
          have hs : stepT tk (f, w, u, d, ()) = none := by simp only [stepT, he', hfr0, ht]; rfl
          rw [hs]
          simp only [Option.isSome_none, Bool.false_eq_true, false_iff]
          rintro ⟨_, _, h3⟩
          have := h3 f (List.mem_cons_self ..)
          rw [ht] at this; cases this
        | false =>
          have hs : stepT tk (f, w, u, d, ()) = some (tk.set f.toNat true) := by
            have : (!(d && !u)) = true := hud
            simp only [stepT, he', hfr0, ht, this]; rfl
          rw [hs]
          simp only [walk_iff es (tk.set f.toNat true) (by simp [h]), List.forall_mem_cons, hen, hb, true_and, List.nodup_cons, ht]
          have hset : ∀ g ∈ frE es, ((tk.set f.toNat true).getD g.toNat false = false ↔ g ≠ f ∧ tk.getD g.toNat false = false) := fun g hg => by
            have hg0 := frE_pos hg
            rw [getD_set_bool tk f.toNat g.toNat (by omega)]
            by_cases hgf : g = f
            · subst hgf; simp
            · have : ¬ f.toNat = g.toNat := by omega
              simp [this, hgf]
          constructor
          · rintro ⟨k1, k2, k3⟩
            exact ⟨k1, ⟨fun hm => ((hset f hm).1 (k3 f hm)).1 rfl, k2⟩, fun g hg => ((hset g hg).1 (k3 g hg)).2⟩
          · rintro ⟨k1, ⟨k2, k3⟩, k4⟩
            exact ⟨k1, k3, fun g hg => (hset g hg).2 ⟨fun e => k2 (e ▸ hg), k4 g hg⟩⟩
      · have hb' : (frameB f && (u || !d)) = false := by simpa using hb
        have hs : stepT tk (f, w, u, d, ()) = none := by
          simp only [stepT, he']
          rw [if_neg (by simp), if_neg]
          intro hc
          simp only [Bool.and_eq_true] at hc
          rw [hc.1.1] at hb'
          have := hc.2
          cases u <;> cases d <;> simp_all
        rw [hs]
        simp only [Option.isSome_none, Bool.false_eq_true, false_iff, List.forall_mem_cons, hen, hb']
        rintro ⟨⟨h1, _⟩, _⟩
        cases h1
theorem incr_iff : ∀ (c : Int) (l : List Int), (c :: l).Pairwise (· ≤ ·) → (incr c l = true ↔ (c :: l).Nodup)
  | c, [], h => by simp [incr]
  | c, e :: r, h => by
    have h' := List.pairwise_cons.1 h
    have ih := incr_iff e r h'.2
    simp only [incr, Bool.and_eq_true, decide_eq_true_eq, ih, List.nodup_cons (a := c), List.mem_cons, not_or]
    have hce := h'.1 e (by simp)
    constructor
    · rintro ⟨h1, h2⟩
      refine ⟨⟨fun e => h1 e.symm, fun hm => ?_⟩, h2⟩
      have := (List.pairwise_cons.1 h'.2).1 c hm
      exact h1 (by omega)
    · rintro ⟨⟨h1, _⟩, h2⟩
      exact ⟨fun e => h1 e.symm, h2⟩
theorem comp_iff (fr : List Int) : (comp (sortI fr)).length = fr.length ↔ fr.Nodup := by
  have hp := sortI_perm fr
  have hle := sortI_le fr
  rw [← hp.nodup_iff, ← hp.length_eq]
  cases hs : sortI fr with
  | nil => simp [comp]
  | cons x l =>
    rw [hs] at hle
    rw [← incr_iff x l hle]
    simp only [comp, List.length_cons]
    cases hi : incr x l with
    | true => simp [pushC_incr hi]
    | false =>
      have := pushC_less hi
      simp only [Bool.false_eq_true, iff_false]
      omega
theorem space_eq (r : List Int) (t : List (List En)) (b : List Ca) : specS r t b = implS r t b := by
  have h1 := roots_eq r t
  have h2 : (walkT free16 t).isSome = (t.all (fun x => x.all entB) && decide ((comp (sortI (frT t))).length = (frT t).length)) := by
    rw [Bool.eq_iff_iff, walkT_flat, walk_iff _ _ (by simp [free16])]
    simp only [Bool.and_eq_true, decide_eq_true_eq, comp_iff, List.all_eq_true, frT_flat]
    constructor
    · rintro ⟨k1, k2, _⟩
      exact ⟨fun x hx e he => k1 e (List.mem_flatten.2 ⟨x, hx, he⟩), k2⟩
    · rintro ⟨k1, k2⟩
      refine ⟨fun e he => ?_, k2, fun f _ => ?_⟩
      · obtain ⟨x, hx, hex⟩ := List.mem_flatten.1 he
        exact k1 x hx e hex
      · unfold free16
        rw [List.getD_eq_getElem?_getD, List.getElem?_replicate]
        split <;> rfl
  have h3 : t.all tabE = ((t.all fun x => decide (x.length = 8)) && t.all fun x => x.all entB) := by
    rw [Bool.eq_iff_iff]
    simp only [Bool.and_eq_true, List.all_eq_true, tabE, decide_eq_true_eq]
    constructor
    · intro h
      exact ⟨fun x hx => (h x hx).1, fun x hx => (h x hx).2⟩
    · rintro ⟨k1, k2⟩ x hx
      exact ⟨k1 x hx, k2 x hx⟩
  simp only [specS, implS, tabB, h2, h3]
  rw [Bool.and_assoc (decide (r.length = 8) && decide (t.length ≤ 8)), h1]
  generalize decide (r.length = 8) = a1
  generalize decide (t.length ≤ 8) = a2
  generalize orderB (usedOf r) t.length = a3
  generalize (t.all fun x => decide (x.length = 8)) = a4
  generalize decide (b.length ≤ 4) = a5
  generalize (t.all fun x => x.all entB) = a6
  generalize decide ((comp (sortI (frT t))).length = (frT t).length) = a7
  generalize bufB [] b = a8
  cases a1 <;> cases a2 <;> cases a3 <;> cases a4 <;> cases a5 <;> cases a6 <;> cases a7 <;> cases a8 <;> rfl
attribute [local go_sem] Nat.reduceAdd Nat.reduceSub Nat.reduceMul Nat.reduceMod Nat.reduceLT Nat.reduceLeDiff Nat.reduceEqDiff Nat.reduceBEq Nat.reduceDiv Int.reduceLT Int.reduceLE Int.reduceToNat Int.reduceNeg Int.reduceEq reduceCtorEq
attribute [local go_sem ↓] reduceIte reduceDIte
theorem call_own (xs : List Int) (hl : xs.length < 2000000) : callOf pr 117 [L xs] [] = some (.os (.t 192), [(192, .arr true false (.int .i64) xs)]) := by
  have hroom : ((0 + xs.length) * 8 ≤ 140737488355328 ∧ 0 + xs.length ≤ 9223372036854775807) = True := tr (by omega)
  rw [call_eq pr 117 _ _ Tryz.f117 fn_117 _ rfl _ ann_117 rfl]
  simp -implicitDefEqProofs only [hroom, go_sem]
theorem loop_so (r : List Int) (b : List Ca) : ∀ (suf pre : List (List En)), pre.length + suf.length < 1000 → (∀ x ∈ suf, x.length < 2000000) →
    loopOf pr 60 0 ⟨[(0, .rp [L r, LLE (pre ++ suf), LC b]), (2, .op 128 0), (3, .op 192 0), (4, I pre.length)], [(128, .box [.nilS, .nilS, .nilS]), (576, .arr true false (.int .i64) r), (704, .arr true false tyC b), (640, .arr true true (.slice tyE) pre), (192, .box [.os (.t 576), .os (.t 640), .os (.t 704)])]⟩ = some (.exit 0, ⟨[(0, .rp [L r, LLE (pre ++ suf), LC b]), (2, .op 128 0), (3, .op 192 0), (4, I ((pre.length + suf.length : Nat) : Int))], [(128, .box [.nilS, .nilS, .nilS]), (576, .arr true false (.int .i64) r), (704, .arr true false tyC b), (640, .arr true true (.slice tyE) (pre ++ suf)), (192, .box [.os (.t 576), .os (.t 640), .os (.t 704)])]⟩)
  | [], pre, hb, hx => by
    rw [loop_eq pr 60 0 _ Tryz.f60 fn_60 _ rfl _ ann_60 _ rfl]
    simp -implicitDefEqProofs only [Int.lt_irrefl, List.append_nil, Nat.add_zero, go_sem]
  | x :: suf, pre, hb, hx => by
    simp only [List.length_cons] at hb
    have hx0 := hx x (by simp)
    have hw : IntKind.i64.wrap ((pre.length : Int) + 1) = ((pre.length + 1 : Nat) : Int) := by rw [wrap_i] <;> omega
    have hr1 : ((0 + x.length) * 16 ≤ 140737488355328 ∧ 0 + x.length ≤ 9223372036854775807) = True := tr (by omega)
    have hr2 : ((pre.length + 1) * 24 ≤ 140737488355328 ∧ pre.length ≤ 9223372036854775806) = True := tr (by omega)
    have ih := loop_so r b suf (pre ++ [x]) (by simp; omega) (fun y hy => hx y (by simp [hy]))
    have e1 : (pre ++ [x]).length = pre.length + 1 := by simp
    have e2 : pre.length + 1 + suf.length = pre.length + (x :: suf).length := by simp; omega
    rw [app_one, e1, e2] at ih
    rw [loop_eq pr 60 0 _ Tryz.f60 fn_60 _ rfl _ ann_60 _ rfl]
    simp -implicitDefEqProofs only [getD_app, lt_app, ltn_app, zero_le_cast, Int.toNat_natCast, hw, hr1, hr2, go_sem]
    exact ih
theorem call_so (r : List Int) (t : List (List En)) (b : List Ca) (hr : r.length < 2000000) (ht : t.length < 1000) (hx : ∀ x ∈ t, x.length < 2000000) (hb : b.length < 2000000) : callOf pr 60 [.rp [L r, LLE t, LC b]] [] = some (.agg [.os (.t 576), .os (.t 640), .os (.t 704)], [(576, .arr true false (.int .i64) r), (704, .arr true false tyC b), (640, .arr true true (.slice tyE) t)]) := by
  have h := call_own r hr
  have hroom : ((0 + b.length) * 24 ≤ 140737488355328 ∧ 0 + b.length ≤ 9223372036854775807) = True := tr (by omega)
  have h2 := loop_so r b t [] (by simp; omega) hx
  simp only [List.nil_append, List.length_nil] at h2
  have h2 : loopOf pr 60 0 ⟨[(0, .rp [L r, LLE t, LC b]), (2, .op 128 0), (3, .op 192 0), (4, I 0)], [(128, .box [.nilS, .nilS, .nilS]), (576, .arr true false (.int .i64) r), (704, .arr true false tyC b), (640, .arr true true (.slice tyE) []), (192, .box [.os (.t 576), .os (.t 640), .os (.t 704)])]⟩ = _ := h2
  rw [call_eq pr 60 _ _ Tryz.f60 fn_60 _ rfl _ ann_60 rfl]
  simp -implicitDefEqProofs only [h, hroom, h2, go_sem]
theorem clone_tab (x : List En) (h8 : x.length = 8) : callOf pr 110 [LE x] [] = some (.os (.t 64), [(64, .arr true false tyE x)]) := by
  rw [call_cle x (by omega)]
  simp only [cloneV, if_neg (show ¬ x.length = 0 by omega)]
theorem loop_cn02 (r : List Int) : ∀ (suf pre : List (List En)), pre.length + suf.length < 1000 → (∀ x ∈ suf, x.length = 8) →
    loopOf pr 51 0 ⟨[(2, .op 128 0), (3, .op 192 0), (14, LLE (pre ++ suf)), (15, I ((pre.length + suf.length : Nat) : Int)), (16, I pre.length)], [(128, .box [.nilS, .nilS, .nilS]), (512, .arr true false (.int .i64) r), (192, .box [.os (.t 512), .os (.t 1600), .empS]), (1600, .arr true true (.slice tyE) pre)]⟩ = some (.exit 0, ⟨[(2, .op 128 0), (3, .op 192 0), (14, LLE (pre ++ suf)), (15, I ((pre.length + suf.length : Nat) : Int)), (16, I ((pre.length + suf.length : Nat) : Int))], [(128, .box [.nilS, .nilS, .nilS]), (512, .arr true false (.int .i64) r), (192, .box [.os (.t 512), .os (.t 1600), .empS]), (1600, .arr true true (.slice tyE) (pre ++ suf))]⟩)
  | [], pre, hb, hx => by
    rw [loop_eq pr 51 0 _ Tryz.f51 fn_51 _ rfl _ ann_51 _ rfl]
    simp -implicitDefEqProofs only [Int.lt_irrefl, List.append_nil, Nat.add_zero, List.length_nil, go_sem]
  | x :: suf, pre, hb, hx => by
    simp only [List.length_cons] at hb ⊢
    have hw : IntKind.i64.wrap ((pre.length : Int) + 1) = ((pre.length + 1 : Nat) : Int) := by rw [wrap_i] <;> omega
    have hlt : ((pre.length : Int) < ((pre.length + (suf.length + 1) : Nat) : Int)) = True := tr (by omega)
    have hr2 : ((pre.length + 1) * 24 ≤ 140737488355328 ∧ pre.length ≤ 9223372036854775806) = True := tr (by omega)
    have h := clone_tab x (hx x (by simp))
    have ih := loop_cn02 r suf (pre ++ [x]) (by simp; omega) (fun y hy => hx y (by simp [hy]))
    have e1 : (pre ++ [x]).length = pre.length + 1 := by simp
    have e2 : pre.length + 1 + suf.length = pre.length + (suf.length + 1) := by omega
    rw [app_one, e1, e2] at ih
    rw [loop_eq pr 51 0 _ Tryz.f51 fn_51 _ rfl _ ann_51 _ rfl]
    simp -implicitDefEqProofs only [getD_app, lt_app, ltn_app, zero_le_cast, Int.toNat_natCast, hw, hlt, hr2, h, go_sem]
    exact ih
theorem loop_cn12 (r : List Int) (b : List Ca) : ∀ (suf pre : List (List En)), pre.length + suf.length < 1000 → (∀ x ∈ suf, x.length = 8) →
    loopOf pr 51 0 ⟨[(2, .op 128 0), (3, .op 192 0), (14, LLE (pre ++ suf)), (15, I ((pre.length + suf.length : Nat) : Int)), (16, I pre.length)], [(128, .box [.nilS, .nilS, .nilS]), (512, .arr true false (.int .i64) r), (704, .arr true false tyC b), (192, .box [.os (.t 512), .os (.t 1600), .os (.t 704)]), (1600, .arr true true (.slice tyE) pre)]⟩ = some (.exit 0, ⟨[(2, .op 128 0), (3, .op 192 0), (14, LLE (pre ++ suf)), (15, I ((pre.length + suf.length : Nat) : Int)), (16, I ((pre.length + suf.length : Nat) : Int))], [(128, .box [.nilS, .nilS, .nilS]), (512, .arr true false (.int .i64) r), (704, .arr true false tyC b), (192, .box [.os (.t 512), .os (.t 1600), .os (.t 704)]), (1600, .arr true true (.slice tyE) (pre ++ suf))]⟩)
  | [], pre, hb, hx => by
    rw [loop_eq pr 51 0 _ Tryz.f51 fn_51 _ rfl _ ann_51 _ rfl]
    simp -implicitDefEqProofs only [Int.lt_irrefl, List.append_nil, Nat.add_zero, List.length_nil, go_sem]
  | x :: suf, pre, hb, hx => by
    simp only [List.length_cons] at hb ⊢
    have hw : IntKind.i64.wrap ((pre.length : Int) + 1) = ((pre.length + 1 : Nat) : Int) := by rw [wrap_i] <;> omega
    have hlt : ((pre.length : Int) < ((pre.length + (suf.length + 1) : Nat) : Int)) = True := tr (by omega)
    have hr2 : ((pre.length + 1) * 24 ≤ 140737488355328 ∧ pre.length ≤ 9223372036854775806) = True := tr (by omega)
    have h := clone_tab x (hx x (by simp))
    have ih := loop_cn12 r b suf (pre ++ [x]) (by simp; omega) (fun y hy => hx y (by simp [hy]))
    have e1 : (pre ++ [x]).length = pre.length + 1 := by simp
    have e2 : pre.length + 1 + suf.length = pre.length + (suf.length + 1) := by omega
    rw [app_one, e1, e2] at ih
    rw [loop_eq pr 51 0 _ Tryz.f51 fn_51 _ rfl _ ann_51 _ rfl]
    simp -implicitDefEqProofs only [getD_app, lt_app, ltn_app, zero_le_cast, Int.toNat_natCast, hw, hlt, hr2, h, go_sem]
    exact ih
theorem clone_root (r : List Int) (h8 : r.length = 8) : callOf pr 97 [L r] [] = some (.os (.t 64), [(64, .arr true false (.int .i64) r)]) := by
  rw [call_cli r (by omega)]
  simp only [cloneV, if_neg (show ¬ r.length = 0 by omega)]
theorem clone_buf (b : List Ca) (h0 : ¬ b.length = 0) (h : b.length < 2000000) : callOf pr 109 [LC b] [] = some (.os (.t 64), [(64, .arr true false tyC b)]) := by
  rw [call_clc b (by omega)]
  simp only [cloneV, if_neg h0]
theorem clone_buf0 : callOf pr 109 [LC []] [] = some (.empS, []) := by
  rw [call_clc [] (by simp)]
  rfl
theorem call_cn0_nil (r : List Int) (h8 : r.length = 8) : callOf pr 51 [.agg [L r, LLE [], LC []]] [] = some (.agg [.os (.t 512), .nilS, .empS], [(512, .arr true false (.int .i64) r)]) := by
  have h1 := clone_root r h8
  have h2 := clone_buf0
  have h : loopOf pr 51 0 ⟨[(2, .op 128 0), (3, .op 192 0), (14, LLE []), (15, I 0), (16, I 0)], [(128, .box [.nilS, .nilS, .nilS]), (512, .arr true false (.int .i64) r), (192, .box [.os (.t 512), .nilS, .empS])]⟩ = some (.exit 0, ⟨[(2, .op 128 0), (3, .op 192 0), (14, LLE []), (15, I 0), (16, I 0)], [(128, .box [.nilS, .nilS, .nilS]), (512, .arr true false (.int .i64) r), (192, .box [.os (.t 512), .nilS, .empS])]⟩) := by
    rw [loop_eq pr 51 0 _ Tryz.f51 fn_51 _ rfl _ ann_51 _ rfl]
    simp -implicitDefEqProofs only [Int.lt_irrefl, go_sem]
  rw [call_eq pr 51 _ _ Tryz.f51 fn_51 _ rfl _ ann_51 rfl]
  simp -implicitDefEqProofs only [h1, h2, Int.natCast_zero, h, go_sem]
theorem call_cn0_cons (r : List Int) (h8 : r.length = 8) (x : List En) (t : List (List En)) (ht : t.length < 900) (hx : ∀ y ∈ x :: t, y.length = 8) : callOf pr 51 [.agg [L r, LLE (x :: t), LC []]] [] = some (.agg [.os (.t 512), .os (.t 1600), .empS], [(512, .arr true false (.int .i64) r), (1600, .arr true true (.slice tyE) (x :: t))]) := by
  have h1 := clone_root r h8
  have h2 := clone_buf0
  have h3 := clone_tab x (hx x (by simp))
  have ih := loop_cn02 r t [x] (by simp; omega) (fun y hy => hx y (by simp [hy]))
  simp only [List.cons_append, List.nil_append, List.length_cons, List.length_nil, Nat.zero_add] at ih
  have hc : (1 : Nat) + t.length = t.length + 1 := by omega
  rw [hc] at ih
  have hlt : ((0 : Int) < ((t.length + 1 : Nat) : Int)) = True := tr (by omega)
  have hlt2 : (0 < t.length + 1) = True := tr (by omega)
  have h : loopOf pr 51 0 ⟨[(2, .op 128 0), (3, .op 192 0), (14, LLE (x :: t)), (15, I ((t.length + 1 : Nat) : Int)), (16, I 0)], [(128, .box [.nilS, .nilS, .nilS]), (512, .arr true false (.int .i64) r), (192, .box [.os (.t 512), .nilS, .empS])]⟩ = some (.exit 0, ⟨[(2, .op 128 0), (3, .op 192 0), (14, LLE (x :: t)), (15, I ((t.length + 1 : Nat) : Int)), (16, I ((t.length + 1 : Nat) : Int))], [(128, .box [.nilS, .nilS, .nilS]), (512, .arr true false (.int .i64) r), (192, .box [.os (.t 512), .os (.t 1600), .empS]), (1600, .arr true true (.slice tyE) (x :: t))]⟩) := by
    have w1 : IntKind.i64.wrap (0 + 1) = ((1 : Nat) : Int) := by rw [wrap_i] <;> omega
    rw [loop_eq pr 51 0 _ Tryz.f51 fn_51 _ rfl _ ann_51 _ rfl]
    simp -implicitDefEqProofs only [hlt, hlt2, h3, w1, List.getD_cons_zero, Int.le_refl, go_sem]
    exact ih
  rw [call_eq pr 51 _ _ Tryz.f51 fn_51 _ rfl _ ann_51 rfl]
  simp -implicitDefEqProofs only [h1, h2, h, go_sem]
theorem call_cn1_nil (r : List Int) (h8 : r.length = 8) (b : List Ca) (h0 : ¬ b.length = 0) (hb : b.length < 2000000) : callOf pr 51 [.agg [L r, LLE [], LC b]] [] = some (.agg [.os (.t 512), .nilS, .os (.t 704)], [(512, .arr true false (.int .i64) r), (704, .arr true false tyC b)]) := by
  have h1 := clone_root r h8
  have h2 := clone_buf b h0 hb
  have h : loopOf pr 51 0 ⟨[(2, .op 128 0), (3, .op 192 0), (14, LLE []), (15, I 0), (16, I 0)], [(128, .box [.nilS, .nilS, .nilS]), (512, .arr true false (.int .i64) r), (704, .arr true false tyC b), (192, .box [.os (.t 512), .nilS, .os (.t 704)])]⟩ = some (.exit 0, ⟨[(2, .op 128 0), (3, .op 192 0), (14, LLE []), (15, I 0), (16, I 0)], [(128, .box [.nilS, .nilS, .nilS]), (512, .arr true false (.int .i64) r), (704, .arr true false tyC b), (192, .box [.os (.t 512), .nilS, .os (.t 704)])]⟩) := by
    rw [loop_eq pr 51 0 _ Tryz.f51 fn_51 _ rfl _ ann_51 _ rfl]
    simp -implicitDefEqProofs only [Int.lt_irrefl, go_sem]
  rw [call_eq pr 51 _ _ Tryz.f51 fn_51 _ rfl _ ann_51 rfl]
  simp -implicitDefEqProofs only [h1, h2, Int.natCast_zero, h, go_sem]
theorem call_cn1_cons (r : List Int) (h8 : r.length = 8) (b : List Ca) (h0 : ¬ b.length = 0) (hb : b.length < 2000000) (x : List En) (t : List (List En)) (ht : t.length < 900) (hx : ∀ y ∈ x :: t, y.length = 8) : callOf pr 51 [.agg [L r, LLE (x :: t), LC b]] [] = some (.agg [.os (.t 512), .os (.t 1600), .os (.t 704)], [(512, .arr true false (.int .i64) r), (704, .arr true false tyC b), (1600, .arr true true (.slice tyE) (x :: t))]) := by
  have h1 := clone_root r h8
  have h2 := clone_buf b h0 hb
  have h3 := clone_tab x (hx x (by simp))
  have ih := loop_cn12 r b t [x] (by simp; omega) (fun y hy => hx y (by simp [hy]))
  simp only [List.cons_append, List.nil_append, List.length_cons, List.length_nil, Nat.zero_add] at ih
  have hc : (1 : Nat) + t.length = t.length + 1 := by omega
  rw [hc] at ih
  have hlt : ((0 : Int) < ((t.length + 1 : Nat) : Int)) = True := tr (by omega)
  have hlt2 : (0 < t.length + 1) = True := tr (by omega)
  have h : loopOf pr 51 0 ⟨[(2, .op 128 0), (3, .op 192 0), (14, LLE (x :: t)), (15, I ((t.length + 1 : Nat) : Int)), (16, I 0)], [(128, .box [.nilS, .nilS, .nilS]), (512, .arr true false (.int .i64) r), (704, .arr true false tyC b), (192, .box [.os (.t 512), .nilS, .os (.t 704)])]⟩ = some (.exit 0, ⟨[(2, .op 128 0), (3, .op 192 0), (14, LLE (x :: t)), (15, I ((t.length + 1 : Nat) : Int)), (16, I ((t.length + 1 : Nat) : Int))], [(128, .box [.nilS, .nilS, .nilS]), (512, .arr true false (.int .i64) r), (704, .arr true false tyC b), (192, .box [.os (.t 512), .os (.t 1600), .os (.t 704)]), (1600, .arr true true (.slice tyE) (x :: t))]⟩) := by
    have w1 : IntKind.i64.wrap (0 + 1) = ((1 : Nat) : Int) := by rw [wrap_i] <;> omega
    rw [loop_eq pr 51 0 _ Tryz.f51 fn_51 _ rfl _ ann_51 _ rfl]
    simp -implicitDefEqProofs only [hlt, hlt2, h3, w1, List.getD_cons_zero, Int.le_refl, go_sem]
    exact ih
  rw [call_eq pr 51 _ _ Tryz.f51 fn_51 _ rfl _ ann_51 rfl]
  simp -implicitDefEqProofs only [h1, h2, h, go_sem]
attribute [local go_sem] Nat.reduceAdd Nat.reduceSub Nat.reduceMul Nat.reduceMod Nat.reduceLT Nat.reduceLeDiff Nat.reduceEqDiff Nat.reduceBEq Nat.reduceDiv Int.reduceLT Int.reduceLE Int.reduceToNat Int.reduceNeg Int.reduceEq reduceCtorEq
attribute [local go_sem ↓] reduceIte reduceDIte
def TV (v : AV) (t : List (List En)) : Prop := v = LLE t ∨ (v = .nilS ∧ t = [])
def BV (v : AV) (b : List Ca) : Prop := v = LC b ∨ (v = .nilS ∧ b = []) ∨ (v = .empS ∧ b = [])
theorem eqm_CachedS : callOf pr 54 [.empS, LC []] [] = some (B true, []) := by
  have h : loopOf pr 54 0 ⟨[(0, .empS), (1, LC []), (5, I 0)], []⟩ = some (.exit 0, ⟨[(0, .empS), (1, LC []), (5, I 0)], []⟩) := by
    rw [loop_eq pr 54 0 _ Tryz.f54 fn_54 _ rfl _ ann_54 _ rfl]
    simp -implicitDefEqProofs only [Int.lt_irrefl, Int.natCast_zero, go_sem]
  rw [call_eq pr 54 _ _ Tryz.f54 fn_54 _ rfl _ ann_54 rfl]
  simp -implicitDefEqProofs only [h, Int.natCast_zero, go_sem]
theorem heldm_CachedS (m : Int) : callOf pr 58 [.empS, I m] [] = some (I m, []) := by
  have h : loopOf pr 58 0 ⟨[(0, .empS), (1, I m), (5, I 0)], []⟩ = some (.exit 0, ⟨[(0, .empS), (1, I m), (5, I 0)], []⟩) := by
    rw [loop_eq pr 58 0 _ Tryz.f58 fn_58 _ rfl _ ann_58 _ rfl]
    simp -implicitDefEqProofs only [Int.lt_irrefl, Int.natCast_zero, go_sem]
  rw [call_eq pr 58 _ _ Tryz.f58 fn_58 _ rfl _ ann_58 rfl]
  simp -implicitDefEqProofs only [h, go_sem]
theorem eq_sp {tv bv : AV} {r : List Int} {t : List (List En)} {b : List Ca} (h1 : TV tv t) (h2 : BV bv b) (hr : Bd wide (.slice (.int .i64)) r) (ht : Bd wide (.slice (.slice tyE)) t) (hb : Bd wide (.slice tyC) b) : callOf pr 12 [.agg [L r, tv, bv], .agg [L r, LLE t, LC b]] [] = some (B true, []) := by
  have g1 : callOf pr 53 [LLE t, LLE t] [] = some (B true, []) := eq_EntrySS t ht
  have g2 : callOf pr 54 [LC b, LC b] [] = some (B true, []) := eq_CachedS b hb
  have g3 : callOf pr 54 [.nilS, LC []] [] = some (B true, []) := eqe_CachedS
  have g4 : callOf pr 53 [.nilS, LLE []] [] = some (B true, []) := eqe_EntrySS
  rcases h1 with rfl | ⟨rfl, rfl⟩
  · rcases h2 with rfl | ⟨rfl, rfl⟩ | ⟨rfl, rfl⟩
    · rw [call_eq pr 12 _ _ Tryz.f12 fn_12 _ rfl _ ann_12 rfl]
      simp -implicitDefEqProofs only [BEq.rfl, beq_self_eq_true, decide_true, eq_Int64S r hr, g1, g2, go_sem]
    · rw [call_eq pr 12 _ _ Tryz.f12 fn_12 _ rfl _ ann_12 rfl]
      simp -implicitDefEqProofs only [BEq.rfl, beq_self_eq_true, decide_true, eq_Int64S r hr, g1, g3, go_sem]
    · rw [call_eq pr 12 _ _ Tryz.f12 fn_12 _ rfl _ ann_12 rfl]
      simp -implicitDefEqProofs only [BEq.rfl, beq_self_eq_true, decide_true, eq_Int64S r hr, g1, eqm_CachedS, go_sem]
  · rcases h2 with rfl | ⟨rfl, rfl⟩ | ⟨rfl, rfl⟩
    · rw [call_eq pr 12 _ _ Tryz.f12 fn_12 _ rfl _ ann_12 rfl]
      simp -implicitDefEqProofs only [BEq.rfl, beq_self_eq_true, decide_true, eq_Int64S r hr, g4, g2, go_sem]
    · rw [call_eq pr 12 _ _ Tryz.f12 fn_12 _ rfl _ ann_12 rfl]
      simp -implicitDefEqProofs only [BEq.rfl, beq_self_eq_true, decide_true, eq_Int64S r hr, g4, g3, go_sem]
    · rw [call_eq pr 12 _ _ Tryz.f12 fn_12 _ rfl _ ann_12 rfl]
      simp -implicitDefEqProofs only [BEq.rfl, beq_self_eq_true, decide_true, eq_Int64S r hr, g4, eqm_CachedS, go_sem]
def endS (m : Int) (r : List Int) (t : List (List En)) (b : List Ca) : Int := m + ((cnt (.slice (.int .i64)) r + cnt (.slice (.slice tyE)) t + cnt (.slice tyC) b : Nat) : Int)
def mR (m : Int) (r : List Int) : List Int := (markD (.slice (.int .i64)) m r).1
def mT (m : Int) (r : List Int) (t : List (List En)) : List (List En) := (markD (.slice (.slice tyE)) (markD (.slice (.int .i64)) m r).2 t).1
def mB (m : Int) (r : List Int) (t : List (List En)) (b : List Ca) : List Ca := (markD (.slice tyC) (markD (.slice (.slice tyE)) (markD (.slice (.int .i64)) m r).2 t).2 b).1
theorem end_eq (m : Int) (r : List Int) (t : List (List En)) (b : List Ca) : (markD (.slice tyC) (markD (.slice (.slice tyE)) (markD (.slice (.int .i64)) m r).2 t).2 b).2 = endS m r t b := by
  rw [markD_end, markD_end, markD_end]; simp only [endS]; omega
theorem held_sp {tv bv : AV} {m : Int} {r : List Int} {t : List (List En)} {b : List Ca} (h1 : TV tv (mT m r t)) (h2 : BV bv (mB m r t b)) (h0 : 0 ≤ m) (hm : endS m r t b ≤ 900000000000000000) (hr : Bd wide (.slice (.int .i64)) r) (ht : Bd wide (.slice (.slice tyE)) t) (hb : Bd wide (.slice tyC) b) : callOf pr 14 [.agg [L (mR m r), tv, bv], I m] [] = some (I (endS m r t b), []) := by
  simp only [endS] at hm
  have q0 := markD_end (.slice (.int .i64)) m r
  have q1 := markD_end (.slice (.slice tyE)) (markD (.slice (.int .i64)) m r).2 t
  have q2 := markD_end (.slice tyC) (markD (.slice (.slice tyE)) (markD (.slice (.int .i64)) m r).2 t).2 b
  have f0 := held_Int64S r m h0 (by simp only [wide]; omega) hr.1
  have c1 : (markD (.slice (.int .i64)) m r).2 + cnt (.slice (.slice tyE)) t ≤ 900000000000000000 := by omega
  have c2 : (markD (.slice (.slice tyE)) (markD (.slice (.int .i64)) m r).2 t).2 + cnt (.slice tyC) b ≤ 900000000000000000 := by omega
  have f1 := held_EntrySS t (markD (.slice (.int .i64)) m r).2 (by omega) c1 ht.1 ht.2
  have f2 := held_CachedS b (markD (.slice (.slice tyE)) (markD (.slice (.int .i64)) m r).2 t).2 (by omega) c2 hb.1
  have n0 : ¬ (markD (.slice (.int .i64)) m r).2 < 0 := by omega
  have n1 : ¬ (markD (.slice (.slice tyE)) (markD (.slice (.int .i64)) m r).2 t).2 < 0 := by omega
  have n2 : ¬ endS m r t b < 0 := by simp only [endS]; omega
  rw [end_eq] at f2
  have f1 : callOf pr 57 [LLE (mT m r t), I (markD (.slice (.int .i64)) m r).2] [] = some (I (markD (.slice (.slice tyE)) (markD (.slice (.int .i64)) m r).2 t).2, []) := f1
  have f2 : callOf pr 58 [LC (mB m r t b), I (markD (.slice (.slice tyE)) (markD (.slice (.int .i64)) m r).2 t).2] [] = some (I (endS m r t b), []) := f2
  have f0 : callOf pr 23 [L (mR m r), I m] [] = some (I (markD (.slice (.int .i64)) m r).2, []) := f0
  have t0 : t = [] → (markD (.slice (.slice tyE)) (markD (.slice (.int .i64)) m r).2 t).2 = (markD (.slice (.int .i64)) m r).2 := by rintro rfl; rfl
  have b0 : b = [] → endS m r t b = (markD (.slice (.slice tyE)) (markD (.slice (.int .i64)) m r).2 t).2 := by rintro rfl; rw [← end_eq]; rfl
  have g1 : callOf pr 57 [tv, I (markD (.slice (.int .i64)) m r).2] [] = some (I (markD (.slice (.slice tyE)) (markD (.slice (.int .i64)) m r).2 t).2, []) := by
    rcases h1 with rfl | ⟨rfl, e⟩
    · exact f1
    · have : t = [] := List.eq_nil_of_length_eq_zero (by
        have : (mT m r t).length = t.length := markS_length _ _ _
        rw [e] at this; simpa using this.symm)
      rw [t0 this]; exact heldn_EntrySS _
  have g2 : callOf pr 58 [bv, I (markD (.slice (.slice tyE)) (markD (.slice (.int .i64)) m r).2 t).2] [] = some (I (endS m r t b), []) := by
    have hz : mB m r t b = [] → b = [] := fun e => List.eq_nil_of_length_eq_zero (by
      have : (mB m r t b).length = b.length := markS_length _ _ _
      rw [e] at this; simpa using this.symm)
    rcases h2 with rfl | ⟨rfl, e⟩ | ⟨rfl, e⟩
    · exact f2
    · rw [b0 (hz e)]; exact heldn_CachedS _
    · rw [b0 (hz e)]; exact heldm_CachedS _
  have hcase : (tv = LLE (mT m r t) ∨ tv = .nilS) ∧ (bv = LC (mB m r t b) ∨ bv = .nilS ∨ bv = .empS) := ⟨by rcases h1 with h | h; exact .inl h; exact .inr h.1, by rcases h2 with h | h | h; exact .inl h; exact .inr (.inl h.1); exact .inr (.inr h.1)⟩
  rcases hcase with ⟨rfl | rfl, rfl | rfl | rfl⟩ <;>
    (rw [call_eq pr 14 _ _ Tryz.f14 fn_14 _ rfl _ ann_14 rfl]
     simp -implicitDefEqProofs only [f0, fa n0, g1, fa n1, g2, fa n2, go_sem])
theorem marke_CachedS (m : Int) : callOf pr 56 [.empS, I m] [] = some (I m, []) := by
  have h : loopOf pr 56 0 ⟨[(0, .empS), (1, I m), (5, I 0)], []⟩ = some (.exit 0, ⟨[(0, .empS), (1, I m), (5, I 0)], []⟩) := by
    rw [loop_eq pr 56 0 _ Tryz.f56 fn_56 _ rfl _ ann_56 _ rfl]
    simp -implicitDefEqProofs only [Int.lt_irrefl, Int.natCast_zero, go_sem]
  rw [call_eq pr 56 _ _ Tryz.f56 fn_56 _ rfl _ ann_56 rfl]
  simp -implicitDefEqProofs only [h, go_sem]
theorem markl_CachedU (junk : List Ca) (n : Nat) (xs : List Ca) : ∀ (done : List Ca) (m : Int), done.length + xs.length = n → 0 ≤ m → m + cnt (.slice tyC) xs ≤ 900000000000000000 → done.length + xs.length ≤ 900000000000000000 →
    loopOf pr 56 0 ⟨[(0, .sub (.t 1000000) 0 n), (1, I m), (5, I done.length)], [(1000000, .arr false false tyC (done ++ xs ++ junk))]⟩ = some (.exit 0, ⟨[(0, .sub (.t 1000000) 0 n), (1, I (markD (.slice tyC) m xs).2), (5, I n)], [(1000000, .arr false false tyC (done ++ (markD (.slice tyC) m xs).1 ++ junk))]⟩) := by
  induction xs with
  | nil =>
    intro done m hn h0 h1 hb
    have hn : done.length = n := by simpa using hn
    subst hn
    rw [loop_eq pr 56 0 _ Tryz.f56 fn_56 _ rfl _ ann_56 _ rfl]
    simp only [markD_slice, markS_nil]
    simp -implicitDefEqProofs only [Int.lt_irrefl, List.append_nil, Nat.add_zero, go_sem]
  | cons x xs ih =>
    intro done m hl h0 h1 hb
    simp only [List.length_cons] at hb hl
    have hn : IntKind.i64.wrap ((done.length : Int) + 1) = ((done.length + 1 : Nat) : Int) := by rw [wrap_i] <;> omega
    have hc : cnt (.slice tyC) (x :: xs) = 3 + cnt (.slice tyC) xs := by simp [cnt, List.map_cons, List.sum_cons]
    rw [hc] at h1
    have hw0 : IntKind.i64.wrap (m + 1) = m + 1 := by rw [wrap_i] <;> omega
    have hw1 : IntKind.i64.wrap (m + 1 + 1) = m + 1 + 1 := by rw [wrap_i] <;> omega
    have hw2 : IntKind.i64.wrap (m + 1 + 1 + 1) = m + 1 + 1 + 1 := by rw [wrap_i] <;> omega
    obtain ⟨a0, a1, a2, ⟨⟩⟩ := x
    have ih := ih (done ++ [(m, m + 1, (decide (Int.tmod (m + 1 + 1) 3 = 0)), ())]) (m + 1 + 1 + 1) (by simp; omega) (by omega) (by omega) (by simp only [List.length_append, List.length_cons, List.length_nil]; omega)
    have e1 : (done ++ [(m, m + 1, (decide (Int.tmod (m + 1 + 1) 3 = 0)), ())]).length = done.length + 1 := by simp
    rw [e1] at ih
    simp only [List.append_assoc, List.cons_append, List.nil_append] at ih ⊢
    have hlt : ((done.length : Int) < (n : Int)) = True := tr (by omega)
    have hle : (done.length < n) = True := tr (by omega)
    rw [loop_eq pr 56 0 _ Tryz.f56 fn_56 _ rfl _ ann_56 _ rfl]
    simp -implicitDefEqProofs only [getD_app, set_app, lt_app, ltn_app, zero_le_cast, Int.toNat_natCast, hn, hw0, hw1, hw2, hlt, hle, Nat.zero_add, go_sem]
    exact ih
theorem mark_CachedU (junk xs : List Ca) (m : Int) (h0 : 0 ≤ m) (h1 : m + cnt (.slice tyC) xs ≤ 900000000000000000) (hb : xs.length ≤ 900000000000000000) : callOf pr 56 [.sub (.t 1000000) 0 xs.length, I m] [(1000000, .arr false false tyC (xs ++ junk))] = some (I (markD (.slice tyC) m xs).2, [(1000000, .arr false false tyC ((markD (.slice tyC) m xs).1 ++ junk))]) := by
  have h := markl_CachedU junk xs.length xs [] m (by simp) h0 h1 (by rw [List.length_nil, Nat.zero_add]; exact hb)
  simp only [List.nil_append, List.length_nil] at h
  have h : loopOf pr 56 0 ⟨[(0, .sub (.t 1000000) 0 xs.length), (1, I m), (5, I 0)], [(1000000, .arr false false tyC (xs ++ junk))]⟩ = _ := h
  rw [call_eq pr 56 _ _ Tryz.f56 fn_56 _ rfl _ ann_56 rfl]
  simp -implicitDefEqProofs only [h, go_sem]
theorem mark_parts (m : Int) (r : List Int) (t : List (List En)) (b : List Ca) (h0 : 0 ≤ m) (hm : endS m r t b ≤ 900000000000000000) (hr : Bd wide (.slice (.int .i64)) r) (ht : Bd wide (.slice (.slice tyE)) t) (hb : Bd wide (.slice tyC) b) : callOf pr 22 [.os (.t 1000000), I m] [(1000000, .arr false false (.int .i64) r)] = some (I (markD (.slice (.int .i64)) m r).2, [(1000000, .arr false false (.int .i64) (mR m r))]) ∧
    callOf pr 55 [.os (.t 1000000), I (markD (.slice (.int .i64)) m r).2] [(1000000, .arr false true (.slice tyE) t)] = some (I (markD (.slice (.slice tyE)) (markD (.slice (.int .i64)) m r).2 t).2, [(1000000, .arr false true (.slice tyE) (mT m r t))]) ∧
    callOf pr 56 [.os (.t 1000000), I (markD (.slice (.slice tyE)) (markD (.slice (.int .i64)) m r).2 t).2] [(1000000, .arr false false tyC b)] = some (I (endS m r t b), [(1000000, .arr false false tyC (mB m r t b))]) ∧
    ∀ junk, callOf pr 56 [.sub (.t 1000000) 0 b.length, I (markD (.slice (.slice tyE)) (markD (.slice (.int .i64)) m r).2 t).2] [(1000000, .arr false false tyC (b ++ junk))] = some (I (endS m r t b), [(1000000, .arr false false tyC (mB m r t b ++ junk))]) := by
  simp only [endS] at hm
  have q0 := markD_end (.slice (.int .i64)) m r
  have q1 := markD_end (.slice (.slice tyE)) (markD (.slice (.int .i64)) m r).2 t
  have q2 := markD_end (.slice tyC) (markD (.slice (.slice tyE)) (markD (.slice (.int .i64)) m r).2 t).2 b
  have c1 : (markD (.slice (.int .i64)) m r).2 + cnt (.slice (.slice tyE)) t ≤ 900000000000000000 := by omega
  have c2 : (markD (.slice (.slice tyE)) (markD (.slice (.int .i64)) m r).2 t).2 + cnt (.slice tyC) b ≤ 900000000000000000 := by omega
  refine ⟨mark_Int64S r m h0 (by simp only [wide]; omega) hr.1, mark_EntrySS t (markD (.slice (.int .i64)) m r).2 (by omega) c1 ht.1 ht.2, ?_, fun junk => ?_⟩
  · rw [← end_eq]; exact mark_CachedS b _ (by omega) c2 hb.1
  · rw [← end_eq]; exact mark_CachedU junk b _ (by omega) c2 (by have := hb.1; simp only [wide] at this; exact this)
theorem mark_s01 (m : Int) (r : List Int) (t : List (List En)) (b : List Ca) (h0 : 0 ≤ m) (hm : endS m r t b ≤ 900000000000000000) (hr : Bd wide (.slice (.int .i64)) r) (ht : Bd wide (.slice (.slice tyE)) t) (hb : Bd wide (.slice tyC) b) (hc : t = [] ∧ b = []) : callOf pr 13 [.agg [.os (.t 1000000), .nilS, .empS], I m] [(1000000, .arr false false (.int .i64) r)] = some (I (endS m r t b), [(1000000, .arr false false (.int .i64) (mR m r))]) := by
  obtain ⟨rfl, rfl⟩ := hc
  obtain ⟨f0, f1, f2, f3⟩ := mark_parts m r _ _ h0 hm hr ht hb
  have e3 : endS m r [] [] = (markD (.slice (.slice tyE)) (markD (.slice (.int .i64)) m r).2 []).2 := (end_eq m r [] []).symm; have e2 : (markD (.slice (.slice tyE)) (markD (.slice (.int .i64)) m r).2 []).2 = (markD (.slice (.int .i64)) m r).2 := rfl; rw [e3, e2]
  rw [call_eq pr 13 _ _ Tryz.f13 fn_13 _ rfl _ ann_13 rfl]
  simp -implicitDefEqProofs only [f0, markn_EntrySS, marke_CachedS, go_sem]
theorem mark_s02 (m : Int) (r : List Int) (t : List (List En)) (b : List Ca) (h0 : 0 ≤ m) (hm : endS m r t b ≤ 900000000000000000) (hr : Bd wide (.slice (.int .i64)) r) (ht : Bd wide (.slice (.slice tyE)) t) (hb : Bd wide (.slice tyC) b) (hc : t = []) : callOf pr 13 [.agg [.os (.t 1000000), .nilS, .os (.t 1000001)], I m] [(1000000, .arr false false (.int .i64) r), (1000001, .arr false false tyC b)] = some (I (endS m r t b), [(1000000, .arr false false (.int .i64) (mR m r)), (1000001, .arr false false tyC (mB m r t b))]) := by
  subst hc
  obtain ⟨f0, f1, f2, f3⟩ := mark_parts m r _ _ h0 hm hr ht hb
  have e2 : (markD (.slice (.slice tyE)) (markD (.slice (.int .i64)) m r).2 []).2 = (markD (.slice (.int .i64)) m r).2 := rfl; rw [e2] at f2 f3
  rw [call_eq pr 13 _ _ Tryz.f13 fn_13 _ rfl _ ann_13 rfl]
  simp -implicitDefEqProofs only [f0, markn_EntrySS, f2, go_sem]
theorem mark_s11 (m : Int) (r : List Int) (t : List (List En)) (b : List Ca) (h0 : 0 ≤ m) (hm : endS m r t b ≤ 900000000000000000) (hr : Bd wide (.slice (.int .i64)) r) (ht : Bd wide (.slice (.slice tyE)) t) (hb : Bd wide (.slice tyC) b) (hc : b = []) : callOf pr 13 [.agg [.os (.t 1000000), .os (.t 1000001), .empS], I m] [(1000000, .arr false false (.int .i64) r), (1000001, .arr false true (.slice tyE) t)] = some (I (endS m r t b), [(1000000, .arr false false (.int .i64) (mR m r)), (1000001, .arr false true (.slice tyE) (mT m r t))]) := by
  subst hc
  obtain ⟨f0, f1, f2, f3⟩ := mark_parts m r _ _ h0 hm hr ht hb
  have e3 : endS m r t [] = (markD (.slice (.slice tyE)) (markD (.slice (.int .i64)) m r).2 t).2 := (end_eq m r t []).symm; rw [e3]
  rw [call_eq pr 13 _ _ Tryz.f13 fn_13 _ rfl _ ann_13 rfl]
  simp -implicitDefEqProofs only [f0, f1, marke_CachedS, go_sem]
theorem mark_s12 (m : Int) (r : List Int) (t : List (List En)) (b : List Ca) (h0 : 0 ≤ m) (hm : endS m r t b ≤ 900000000000000000) (hr : Bd wide (.slice (.int .i64)) r) (ht : Bd wide (.slice (.slice tyE)) t) (hb : Bd wide (.slice tyC) b)  : callOf pr 13 [.agg [.os (.t 1000000), .os (.t 1000001), .os (.t 1000002)], I m] [(1000000, .arr false false (.int .i64) r), (1000001, .arr false true (.slice tyE) t), (1000002, .arr false false tyC b)] = some (I (endS m r t b), [(1000000, .arr false false (.int .i64) (mR m r)), (1000001, .arr false true (.slice tyE) (mT m r t)), (1000002, .arr false false tyC (mB m r t b))]) := by
  skip
  obtain ⟨f0, f1, f2, f3⟩ := mark_parts m r _ _ h0 hm hr ht hb
  skip
  rw [call_eq pr 13 _ _ Tryz.f13 fn_13 _ rfl _ ann_13 rfl]
  simp -implicitDefEqProofs only [f0, f1, f2, go_sem]
attribute [local go_sem] Nat.reduceAdd Nat.reduceSub Nat.reduceMul Nat.reduceMod Nat.reduceLT Nat.reduceLeDiff Nat.reduceEqDiff Nat.reduceBEq Nat.reduceDiv Int.reduceLT Int.reduceLE Int.reduceToNat Int.reduceNeg Int.reduceEq reduceCtorEq
attribute [local go_sem ↓] reduceIte reduceDIte
theorem clone4 (r : List Int) (t : List (List En)) (b : List Ca) (h8 : r.length = 8) (hb : b.length < 2000000) (ht : t.length < 900) (hx : ∀ y ∈ t, y.length = 8) :
    (t = [] ∧ b = [] ∧ callOf pr 51 [.agg [L r, LLE t, LC b]] [] = some (.agg [.os (.t 512), .nilS, .empS], [(512, .arr true false (.int .i64) r)])) ∨
    (t = [] ∧ callOf pr 51 [.agg [L r, LLE t, LC b]] [] = some (.agg [.os (.t 512), .nilS, .os (.t 704)], [(512, .arr true false (.int .i64) r), (704, .arr true false tyC b)])) ∨
    (b = [] ∧ t ≠ [] ∧ callOf pr 51 [.agg [L r, LLE t, LC b]] [] = some (.agg [.os (.t 512), .os (.t 1600), .empS], [(512, .arr true false (.int .i64) r), (1600, .arr true true (.slice tyE) t)])) ∨
    (t ≠ [] ∧ callOf pr 51 [.agg [L r, LLE t, LC b]] [] = some (.agg [.os (.t 512), .os (.t 1600), .os (.t 704)], [(512, .arr true false (.int .i64) r), (704, .arr true false tyC b), (1600, .arr true true (.slice tyE) t)])) := by
  by_cases h0 : b.length = 0
  · have hb0 : b = [] := List.eq_nil_of_length_eq_zero h0
    subst hb0
    cases t with
    | nil => exact .inl ⟨rfl, rfl, call_cn0_nil r h8⟩
    | cons x t => exact .inr (.inr (.inl ⟨rfl, by simp, call_cn0_cons r h8 x t (by simp at ht; omega) hx⟩))
  · cases t with
    | nil => exact .inr (.inl ⟨rfl, call_cn1_nil r h8 b h0 hb⟩)
    | cons x t => exact .inr (.inr (.inr ⟨by simp, call_cn1_cons r h8 b h0 hb x t (by simp at ht; omega) hx⟩))
theorem spec_tab {r : List Int} {t : List (List En)} {b : List Ca} (hs : specS r t b = true) : r.length = 8 ∧ t.length ≤ 8 ∧ (∀ x ∈ t, x.length = 8) ∧ (∀ x ∈ r, -1 ≤ x ∧ x ≤ (t.length : Int) - 1) ∧ b.length ≤ 4 := by
  simp only [specS, Bool.and_eq_true, decide_eq_true_eq] at hs
  obtain ⟨s1, s2, s3, s4⟩ := tabB_spec hs.1.1.1
  exact ⟨s1, s2, s3, s4, hs.1.1.2⟩
theorem end_pos (m : Int) (r : List Int) (t : List (List En)) (b : List Ca) (h : 0 ≤ m) : ¬ endS m r t b < 0 := by simp only [endS]; omega
theorem Bd_ints {n : Nat} {r : List Int} (h : r.length ≤ n) : Bd n (.slice (.int .i64)) r := ⟨h, fun _ _ => trivial⟩
theorem Bd_tabs {n : Nat} {t : List (List En)} (h : t.length ≤ n) (hx : ∀ x ∈ t, x.length ≤ n) : Bd n (.slice (.slice tyE)) t := ⟨h, fun y hy => ⟨hx y hy, fun _ _ => Bd.scalar _ rfl _⟩⟩
theorem Bd_buf {n : Nat} {b : List Ca} (h : b.length ≤ n) : Bd n (.slice tyC) b := ⟨h, fun _ _ => Bd.scalar _ rfl _⟩
theorem bd_small {r : List Int} {t : List (List En)} {b : List Ca} (z1 : r.length ≤ 100) (z2 : t.length ≤ 100) (z3 : ∀ x ∈ t, x.length ≤ 100) (z4 : b.length ≤ 100) : Bd wide (.slice (.int .i64)) r ∧ Bd wide (.slice (.slice tyE)) t ∧ Bd wide (.slice tyC) b :=
  ⟨Bd.mono (by decide) _ _ (Bd_ints z1), Bd.mono (by decide) _ _ (Bd_tabs z2 z3), Bd.mono (by decide) _ _ (Bd_buf z4)⟩
theorem end_small {r : List Int} {t : List (List En)} {b : List Ca} (z1 : r.length ≤ 100) (z2 : t.length ≤ 100) (z3 : ∀ x ∈ t, x.length ≤ 100) (z4 : b.length ≤ 100) : endS 1 r t b ≤ 900000000000000000 := by
  have c1 := cnt_le (n := 100) (.slice (.int .i64)) r (Bd_ints z1)
  have c2 := cnt_le (n := 100) (.slice (.slice tyE)) t (Bd_tabs z2 z3)
  have c3 := cnt_le (n := 100) (.slice tyC) b (Bd_buf z4)
  simp only [top] at c1 c2 c3
  simp only [endS]
  omega
theorem first_small {r : List Int} {t : List (List En)} {b : List Ca} (hs : Bd small (.agg (.cons (.slice (.int .i64)) (.cons (.slice (.slice tyE)) (.cons (.slice tyC) .nil)))) (r, t, b, ())) : (1 : Int) + ((cnt (.slice (.int .i64)) r + cnt (.slice (.slice tyE)) t + cnt (.slice tyC) b : Nat) : Int) ≤ wide := by
  have c1 := cnt_le (n := small) (.slice (.int .i64)) r hs.1
  have c2 := cnt_le (n := small) (.slice (.slice tyE)) t hs.2.1
  have c3 := cnt_le (n := small) (.slice tyC) b hs.2.2.1
  simp only [top, small] at c1 c2 c3
  simp only [wide]
  omega
attribute [local go_sem] Nat.reduceAdd Nat.reduceSub Nat.reduceMul Nat.reduceMod Nat.reduceLT Nat.reduceLeDiff Nat.reduceEqDiff Nat.reduceBEq Nat.reduceDiv Int.reduceLT Int.reduceLE Int.reduceToNat Int.reduceNeg Int.reduceEq reduceCtorEq
attribute [local go_sem ↓] reduceIte reduceDIte
def pgI (p : Int) : Nat := (p / 8).toNat
def pgJ (p : Int) : Nat := (p % 8).toNat
def emptyEn : En := (-1, false, false, false, ())
abbrev agE (e : En) : AV := .agg [I e.1, B e.2.1, B e.2.2.1, B e.2.2.2.1]
def rootAt (r : List Int) (p : Int) : Int := r.getD (pgI p) 0
def rowAt (r : List Int) (t : List (List En)) (p : Int) : List En := t.getD (rootAt r p).toNat []
def walkS (r : List Int) (t : List (List En)) (p : Int) : En := if rootAt r p < 0 then emptyEn else (rowAt r t p).getD (pgJ p) (0, false, false, false, ())
def putT (r : List Int) (t : List (List En)) (p : Int) (e : En) : List (List En) := t.set (rootAt r p).toNat ((rowAt r t p).set (pgJ p) e)
theorem page_facts {p : Int} (ha : addrB p = true) : IntKind.i64.wrap (p.tdiv 8) = ((pgI p : Nat) : Int) ∧ p.tmod 8 = ((pgJ p : Nat) : Int) ∧ pgI p < 8 ∧ pgJ p < 8 := by
  simp only [addrB, decide_eq_true_eq] at ha
  have h1 : p.tdiv 8 = p / 8 := Int.tdiv_eq_ediv_of_nonneg ha.1
  have h2 : p.tmod 8 = p % 8 := Int.tmod_eq_emod_of_nonneg ha.1
  rw [h1, h2]
  simp only [pgI, pgJ]
  refine ⟨?_, ?_, ?_, ?_⟩
  · rw [wrap_i] <;> omega
  · omega
  · omega
  · omega
theorem root_facts {r : List Int} {t : List (List En)} {p : Int} (h8 : r.length = 8) (hp : pgI p < 8) (hr : ∀ x ∈ r, -1 ≤ x ∧ x ≤ (t.length : Int) - 1) (hx : ∀ x ∈ t, x.length = 8) (h0 : ¬ rootAt r p < 0) : (rootAt r p).toNat < t.length ∧ rootAt r p = (((rootAt r p).toNat : Nat) : Int) ∧ (rowAt r t p).length = 8 := by
  have hm : rootAt r p ∈ r := by
    have : rootAt r p = r[pgI p]'(by omega) := by simp [rootAt, List.getD, List.getElem?_eq_getElem (show pgI p < r.length by omega)]
    rw [this]; exact List.getElem_mem _
  have hb := hr _ hm
  have h1 : (rootAt r p).toNat < t.length := by omega
  refine ⟨h1, by omega, hx _ ?_⟩
  have : rowAt r t p = t[(rootAt r p).toNat] := by simp [rowAt, List.getD, List.getElem?_eq_getElem h1]
  rw [this]; exact List.getElem_mem _
theorem call_em : callOf pr 121 [] [] = some (agE emptyEn, []) := by
  rw [call_eq pr 121 _ _ Tryz.f121 fn_121 _ rfl _ ann_121 rfl]
  simp -implicitDefEqProofs only [go_sem]
  rfl
theorem call_wk (r : List Int) (t : List (List En)) (b : List Ca) (p : Int) (ha : addrB p = true) (h8 : r.length = 8) (hr : ∀ x ∈ r, -1 ≤ x ∧ x ≤ (t.length : Int) - 1) (hx : ∀ x ∈ t, x.length = 8) : callOf pr 92 [.rp [L r, LLE t, LC b], I p] [] = some (agE (walkS r t p), []) := by
  obtain ⟨hq, hm, hi, hj⟩ := page_facts ha
  have i1 : (((pgI p : Nat) : Int) < (r.length : Int)) = True := tr (by omega)
  have i2 : (pgI p < r.length) = True := tr (by omega)
  have hroot : r.getD (pgI p) 0 = rootAt r p := rfl
  rw [call_eq pr 92 _ _ Tryz.f92 fn_92 _ rfl _ ann_92 rfl]
  by_cases h0 : rootAt r p < 0
  · have e : walkS r t p = emptyEn := if_pos h0
    rw [e]
    simp -implicitDefEqProofs only [hq, hm, zero_le_cast, Int.toNat_natCast, i1, i2, hroot, tr h0, call_em, go_sem]
  · obtain ⟨g1, g2, g3⟩ := root_facts h8 hi hr hx h0
    have e : walkS r t p = (rowAt r t p).getD (pgJ p) (0, false, false, false, ()) := if_neg h0
    have j0 : (0 ≤ rootAt r p) = True := tr (by omega)
    have j1 : (rootAt r p < (t.length : Int)) = True := tr (by omega)
    have j2 : (((pgJ p : Nat) : Int) < ((rowAt r t p).length : Int)) = True := tr (by omega)
    have hrow : t.getD (rootAt r p).toNat [] = rowAt r t p := rfl
    rw [e]
    simp -implicitDefEqProofs only [hq, hm, zero_le_cast, Int.toNat_natCast, i1, i2, hroot, fa h0, j0, j1, j2, hrow, go_sem]
theorem call_pu (r : List Int) (t : List (List En)) (b : List Ca) (p : Int) (ha : addrB p = true) (h8 : r.length = 8) (hr : ∀ x ∈ r, -1 ≤ x ∧ x ≤ (t.length : Int) - 1) (hx : ∀ x ∈ t, x.length = 8) (hb : b.length < 2000000) (ht : t.length < 1000) (h0 : ¬ rootAt r p < 0) (f : Int) (w u d : Bool) : callOf pr 94 [.rp [L r, LLE t, LC b], I p, .agg [I f, B w, B u, B d]] [] = some (.agg [.os (.t 576), .os (.t 578), .os (.t 577)], [(576, .arr true false (.int .i64) r), (577, .arr true false tyC b), (578, .arr true true (.slice tyE) (putT r t p (f, w, u, d, ())))]) := by
  obtain ⟨hq, hm, hi, hj⟩ := page_facts ha
  have i1 : (((pgI p : Nat) : Int) < (r.length : Int)) = True := tr (by omega)
  have i2 : (pgI p < r.length) = True := tr (by omega)
  have hroot : r.getD (pgI p) 0 = rootAt r p := rfl
  have h1 := call_so r t b (by omega) ht (fun x hx' => by rw [hx x hx']; omega) hb
  obtain ⟨g1, g2, g3⟩ := root_facts h8 hi hr hx h0
  have j0 : (0 ≤ rootAt r p) = True := tr (by omega)
  have j1 : (rootAt r p < (t.length : Int)) = True := tr (by omega)
  have j2 : (((pgJ p : Nat) : Int) < ((rowAt r t p).length : Int)) = True := tr (by omega)
  have j3 : ((rootAt r p).toNat < t.length) = True := tr g1
  have j4 : (pgJ p < (rowAt r t p).length) = True := tr (by omega)
  have hrow : t.getD (rootAt r p).toNat [] = rowAt r t p := rfl
  rw [call_eq pr 94 _ _ Tryz.f94 fn_94 _ rfl _ ann_94 rfl]
  simp -implicitDefEqProofs only [h1, hq, hm, zero_le_cast, Int.toNat_natCast, i1, i2, hroot, fa h0, j0, j1, j2, j3, j4, hrow, go_sem]
  rfl
theorem putT_length (r : List Int) (t : List (List En)) (p : Int) (e : En) : (putT r t p e).length = t.length := by simp [putT]
theorem putT_rows {r : List Int} {t : List (List En)} {p : Int} {e : En} (hx : ∀ x ∈ t, x.length = 8) (h : (rowAt r t p).length = 8) : ∀ x ∈ putT r t p e, x.length = 8 := by
  intro x hx'
  rcases List.mem_or_eq_of_mem_set hx' with h1 | h1
  · exact hx x h1
  · rw [h1, List.length_set]; exact h
theorem walk_row {r : List Int} {t : List (List En)} {p : Int} (h0 : ¬ rootAt r p < 0) : (rowAt r t p).getD (pgJ p) (0, false, false, false, ()) = walkS r t p := (if_neg h0).symm
end Go.Proofs.YtbapbghnageckaaGreat.PI
