/- Both say the same of a space: roots. -/
import Derived.Test.YtbapbghnageckaaGreatC9
namespace Go.Proofs.YtbapbghnageckaaGreat.PI
open Go Go.Q
set_option maxRecDepth 100000
set_option linter.unusedSimpArgs false
set_option linter.unusedVariables false
set_option maxHeartbeats 4000000
theorem inc_ge {s : List Int} (h : s.Pairwise (· < ·)) : ∀ (d i : Nat) (hj : i + d < s.length), s[i]'(by omega) + (d : Int) ≤ s[i + d]
 | 0, i, hj => by simp
 | d + 1, i, hj => by
  have h1 := inc_ge h d i (by omega)
  have h2 := (List.pairwise_iff_getElem.1 h) (i + d) (i + (d + 1)) (by omega) hj (by omega)
  omega
theorem order_of {xs : List Int} {n : Nat} (h1 : ∀ x ∈ xs, 0 ≤ x ∧ x ≤ (n : Int) - 1) (h2 : xs.Pairwise (· ≠ ·)) (hl : xs.length = n) : orderB xs n = true := by
 simp only [orderB, decide_eq_true_eq]
 refine ⟨hl, ?_⟩
 have hp := sortI_perm xs
 have hne : (sortI xs).Pairwise (· ≠ ·) := (hp.pairwise_iff (fun {a b} h => Ne.symm h)).2 h2
 have hlt : (sortI xs).Pairwise (· < ·) := by
  rw [List.pairwise_iff_getElem] at hne ⊢
  intro i j hi hj hij
  have a := hne i j hi hj hij
  have b := (List.pairwise_iff_getElem.1 (sortI_le xs)) i j hi hj hij
  omega
 have hlen : (sortI xs).length = n := by rw [sortI_length, hl]
 rw [those_true]
 apply List.ext_getElem
 ·simp [hlen]
 ·intro i hi hj
  have hin : i < n := by omega
  simp only [List.getElem_map, List.getElem_range]
  have r : ∀ k (hk : k < (sortI xs).length), 0 ≤ (sortI xs)[k] ∧ (sortI xs)[k] ≤ (n : Int) - 1 := fun k hk => h1 _ (hp.mem_iff.1 (List.getElem_mem hk))
  have r0 := r 0 (by omega)
  have rn := r (n - 1) (by omega)
  have a := inc_ge hlt i 0 (by omega)
  have b := inc_ge hlt (n - 1 - i) i (by omega)
  have e1 : 0 + i = i := by omega
  have e2 : i + (n - 1 - i) = n - 1 := by omega
  simp only [e1] at a
  simp only [e2] at b
  show (sortI xs)[i] = (i : Int)
  omega
theorem upto_nodup (n : Nat) : (those (fun _ => true) n).Nodup := by
 rw [those_true, List.nodup_iff_pairwise_ne, List.pairwise_map]
 exact List.pairwise_lt_range.imp fun {a b} h e => by
  have : a = b := Int.ofNat.inj e
  omega
theorem upto_mem (n : Nat) (x : Int) : x ∈ those (fun _ => true) n ↔ 0 ≤ x ∧ x < (n : Int) := by
 rw [those_true, List.mem_map]
 constructor
 ·rintro ⟨k, hk, rfl⟩
  rw [List.mem_range] at hk
  exact ⟨Int.natCast_nonneg k, by show (k : Int) < n; omega⟩
 ·rintro ⟨h1, h2⟩
  exact ⟨x.toNat, by rw [List.mem_range]; omega, by show ((x.toNat : Nat) : Int) = x; omega⟩
theorem order_perm {xs : List Int} {n : Nat} (h : orderB xs n = true) : xs.Perm (those (fun _ => true) n) := by
 simp only [orderB, decide_eq_true_eq] at h
 rw [← h.2]
 exact (sortI_perm xs).symm
theorem used_mem (r : List Int) (x : Int) : x ∈ usedOf r ↔ x ∈ r ∧ x ≠ -1 := by
 simp [usedOf]
theorem used_count (r : List Int) (x : Int) (h : x ≠ -1) : (usedOf r).count x = r.count x := List.count_filter (by simpa using h)
theorem tabC_iff (r : List Int) : ∀ (t : List (List En)) (k : Nat), tabC r k t = true ↔ (∀ i, k ≤ i → i < k + t.length → r.count (i : Int) = 1) ∧ ∀ x ∈ t, x.length = 8
 | [], k => by
  simp only [tabC, List.length_nil, Nat.add_zero, true_iff]
  exact ⟨fun i h1 h2 => by omega, fun x hx => by cases hx⟩
 | x :: t, k => by
  simp only [tabC, Bool.and_eq_true, decide_eq_true_eq, tabC_iff r t (k + 1), List.length_cons, List.forall_mem_cons]
  constructor
  ·rintro ⟨⟨h1, h2⟩, h3, h4⟩
   refine ⟨fun i g1 g2 => ?_, h2, h4⟩
   by_cases hi : i = k
   ·subst hi; exact h1
   ·exact h3 i (by omega) (by omega)
  ·rintro ⟨h1, h2, h3⟩
   exact ⟨⟨h1 k (Nat.le_refl _) (by omega), h2⟩, fun i g1 g2 => h1 i (by omega) (by omega), h3⟩
theorem roots_eq (r : List Int) (t : List (List En)) : (tabC r 0 t && r.all (rootB t.length)) = (orderB (usedOf r) t.length && t.all fun x => decide (x.length = 8)) := by
 rw [Bool.eq_iff_iff]
 simp only [Bool.and_eq_true, tabC_iff, List.all_eq_true, decide_eq_true_eq, rootB, Nat.zero_add, Nat.zero_le, true_implies]
 constructor
 ·rintro ⟨⟨h1, h2⟩, h3⟩
  refine ⟨?_, h2⟩
  have hmem : ∀ x ∈ usedOf r, 0 ≤ x ∧ x ≤ (t.length : Int) - 1 := fun x hx => by
   rw [used_mem] at hx
   have := h3 x hx.1
   omega
  have hnd : (usedOf r).Nodup := by
   rw [List.nodup_iff_count]
   intro a
   by_cases ha : a ∈ usedOf r
   ·have hb := hmem a ha
    rw [used_count r a (by omega)]
    have := h1 a.toNat (by omega)
    rw [show ((a.toNat : Nat) : Int) = a from by omega] at this
    omega
   ·rw [List.count_eq_zero.2 ha]; omega
  have hp : (usedOf r).Perm (those (fun _ => true) t.length) := by
   rw [List.perm_ext_iff_of_nodup hnd (upto_nodup _)]
   intro a
   rw [upto_mem]
   constructor
   ·intro ha
    have := hmem a ha
    omega
   ·rintro ⟨g1, g2⟩
    have := h1 a.toNat (by omega)
    rw [show ((a.toNat : Nat) : Int) = a from by omega] at this
    rw [used_mem]
    exact ⟨List.count_pos_iff.1 (by omega), by omega⟩
  refine order_of hmem (List.nodup_iff_pairwise_ne.1 hnd) ?_
  rw [hp.length_eq, those_full_length]
 ·rintro ⟨h1, h2⟩
  have hp := order_perm h1
  refine ⟨⟨fun i hi => ?_, h2⟩, fun x hx => ?_⟩
  ·rw [← used_count r (i : Int) (by omega), hp.count_eq, (upto_nodup _).count, if_pos]
   rw [upto_mem]; omega
  ·by_cases h0 : x = -1
   ·omega
   ·have : x ∈ usedOf r := by rw [used_mem]; exact ⟨hx, h0⟩
    have := (upto_mem _ _).1 (hp.mem_iff.1 this)
    omega
theorem walkE_append : ∀ (a b : List En) (tk : List Bool), walkE tk (a ++ b) = (walkE tk a).bind fun tk' => walkE tk' b
 | [], b, tk => rfl
 | e :: a, b, tk => by
  simp only [List.cons_append, walkE]
  cases stepT tk e with
  | none => rfl
  | some tk' => exact walkE_append a b tk'
theorem walkT_flat : ∀ (t : List (List En)) (tk : List Bool), walkT tk t = walkE tk t.flatten
 | [], tk => rfl
 | x :: t, tk => by
  simp only [walkT, List.flatten_cons, walkE_append]
  cases walkE tk x with
  | none => rfl
  | some tk' => exact walkT_flat t tk'
theorem frE_append (a b : List En) : frE (a ++ b) = frE a ++ frE b := by simp [frE]
theorem frT_flat (t : List (List En)) : frT t = frE t.flatten := by
 induction t with
 | nil => rfl
 | cons x t ih =>
  rw [List.flatten_cons, frE_append, ← ih]
  simp [frT]
theorem frE_pos {es : List En} {x : Int} (h : x ∈ frE es) : 0 ≤ x := by
 simp only [frE, List.mem_filter, decide_eq_true_eq] at h
 exact h.2
theorem getD_set_bool (tk : List Bool) (i j : Nat) (hi : i < tk.length) : (tk.set i true).getD j false = (decide (i = j) || tk.getD j false) := by
 rw [List.getD_eq_getElem?_getD, List.getElem?_set, List.getD_eq_getElem?_getD]
 by_cases h : i = j
 ·subst h
  simp [hi]
 ·simp [h]
theorem walk_iff : ∀ (es : List En) (tk : List Bool), tk.length = 16 → ((walkE tk es).isSome = true ↔ (∀ e ∈ es, entB e = true) ∧ (frE es).Nodup ∧ ∀ f ∈ frE es, tk.getD f.toNat false = false)
 | [], tk, h => by simp [walkE, frE]
 | e :: es, tk, h => by
  simp only [walkE]
  obtain ⟨f, w, u, d, ⟨⟩⟩ := e
  by_cases he : emptyE (f, w, u, d, ()) = true
  ·have hs : stepT tk (f, w, u, d, ()) = some tk := by simp only [stepT, if_pos he]
   have hf : f = -1 := by
    simp only [emptyE, Bool.and_eq_true, decide_eq_true_eq] at he
    exact he.1.1.1
   have hfr : frE ((f, w, u, d, ()) :: es) = frE es := by subst hf; simp [frE]
   have hen : entB (f, w, u, d, ()) = true := by simp only [entB, he, Bool.true_or]
   rw [hs, hfr]
   simp only [walk_iff es tk h, List.forall_mem_cons, hen, true_and]
  ·have he' : emptyE (f, w, u, d, ()) = false := by simpa using he
   have hen : entB (f, w, u, d, ()) = (frameB f && (u || !d)) := by simp only [entB, he', Bool.false_or]
   by_cases hb : (frameB f && (u || !d)) = true
   ·have hfr0 : frameB f = true := by
     rw [Bool.and_eq_true] at hb; exact hb.1
    have hud : (!(d && !u)) = true := by
     rw [Bool.and_eq_true] at hb
     cases u <;> cases d <;> simp_all
    obtain ⟨b1, b2⟩ := frame_bound hfr0
    have hfr : frE ((f, w, u, d, ()) :: es) = f :: frE es := by simp [frE, b1]
    rw [hfr]
    cases ht : tk.getD f.toNat false with
    | true =>
     have hs : stepT tk (f, w, u, d, ()) = none := by simp only [stepT, he', hfr0, ht]; rfl
     rw [hs]
     simp only [Option.isSome_none, Bool.false_eq_true, false_iff]
     rintro ⟨_, _, h3⟩
     have := h3 f (List.mem_cons_self ..)
     rw [ht] at this; cases this
    | false =>
     have hs : stepT tk (f, w, u, d, ()) = some (tk.set f.toNat true) := by
      have : (!(d && !u)) = true := hud
      simp only [stepT, he', hfr0, ht, this]; rfl
     rw [hs]
     simp only [walk_iff es (tk.set f.toNat true) (by simp [h]), List.forall_mem_cons, hen, hb, true_and, List.nodup_cons, ht]
     have hset : ∀ g ∈ frE es, ((tk.set f.toNat true).getD g.toNat false = false ↔ g ≠ f ∧ tk.getD g.toNat false = false) := fun g hg => by
      have hg0 := frE_pos hg
      rw [getD_set_bool tk f.toNat g.toNat (by omega)]
      by_cases hgf : g = f
      ·subst hgf; simp
      ·have : ¬ f.toNat = g.toNat := by omega
       simp [this, hgf]
     constructor
     ·rintro ⟨k1, k2, k3⟩
      exact ⟨k1, ⟨fun hm => ((hset f hm).1 (k3 f hm)).1 rfl, k2⟩, fun g hg => ((hset g hg).1 (k3 g hg)).2⟩
     ·rintro ⟨k1, ⟨k2, k3⟩, k4⟩
      exact ⟨k1, k3, fun g hg => (hset g hg).2 ⟨fun e => k2 (e ▸ hg), k4 g hg⟩⟩
   ·have hb' : (frameB f && (u || !d)) = false := by simpa using hb
    have hs : stepT tk (f, w, u, d, ()) = none := by
     simp only [stepT, he']
     rw [if_neg (by simp), if_neg]
     intro hc
     simp only [Bool.and_eq_true] at hc
     rw [hc.1.1] at hb'
     have := hc.2
     cases u <;> cases d <;> simp_all
    rw [hs]
    simp only [Option.isSome_none, Bool.false_eq_true, false_iff, List.forall_mem_cons, hen, hb']
    rintro ⟨⟨h1, _⟩, _⟩
    cases h1
theorem incr_iff : ∀ (c : Int) (l : List Int), (c :: l).Pairwise (· ≤ ·) → (incr c l = true ↔ (c :: l).Nodup)
 | c, [], h => by simp [incr]
 | c, e :: r, h => by
  have h' := List.pairwise_cons.1 h
  have ih := incr_iff e r h'.2
  simp only [incr, Bool.and_eq_true, decide_eq_true_eq, ih, List.nodup_cons (a := c), List.mem_cons, not_or]
  have hce := h'.1 e (by simp)
  constructor
  ·rintro ⟨h1, h2⟩
   refine ⟨⟨fun e => h1 e.symm, fun hm => ?_⟩, h2⟩
   have := (List.pairwise_cons.1 h'.2).1 c hm
   exact h1 (by omega)
  ·rintro ⟨⟨h1, _⟩, h2⟩
   exact ⟨fun e => h1 e.symm, h2⟩
theorem comp_iff (fr : List Int) : (comp (sortI fr)).length = fr.length ↔ fr.Nodup := by
 have hp := sortI_perm fr
 have hle := sortI_le fr
 rw [← hp.nodup_iff, ← hp.length_eq]
 cases hs : sortI fr with
 | nil => simp [comp]
 | cons x l =>
  rw [hs] at hle
  rw [← incr_iff x l hle]
  simp only [comp, List.length_cons]
  cases hi : incr x l with
  | true => simp [pushC_incr hi]
  | false =>
   have := pushC_less hi
   simp only [Bool.false_eq_true, iff_false]
   omega
theorem space_eq (r : List Int) (t : List (List En)) (b : List Ca) : specS r t b = implS r t b := by
 have h1 := roots_eq r t
 have h2 : (walkT free16 t).isSome = (t.all (fun x => x.all entB) && decide ((comp (sortI (frT t))).length = (frT t).length)) := by
  rw [Bool.eq_iff_iff, walkT_flat, walk_iff _ _ (by simp [free16])]
  simp only [Bool.and_eq_true, decide_eq_true_eq, comp_iff, List.all_eq_true, frT_flat]
  constructor
  ·rintro ⟨k1, k2, _⟩
   exact ⟨fun x hx e he => k1 e (List.mem_flatten.2 ⟨x, hx, he⟩), k2⟩
  ·rintro ⟨k1, k2⟩
   refine ⟨fun e he => ?_, k2, fun f _ => ?_⟩
   ·obtain ⟨x, hx, hex⟩ := List.mem_flatten.1 he
    exact k1 x hx e hex
   ·unfold free16
    rw [List.getD_eq_getElem?_getD, List.getElem?_replicate]
    split <;> rfl
 have h3 : t.all tabE = ((t.all fun x => decide (x.length = 8)) && t.all fun x => x.all entB) := by
  rw [Bool.eq_iff_iff]
  simp only [Bool.and_eq_true, List.all_eq_true, tabE, decide_eq_true_eq]
  constructor
  ·intro h
   exact ⟨fun x hx => (h x hx).1, fun x hx => (h x hx).2⟩
  ·rintro ⟨k1, k2⟩ x hx
   exact ⟨k1 x hx, k2 x hx⟩
 simp only [specS, implS, tabB, h2, h3]
 rw [Bool.and_assoc (decide (r.length = 8) && decide (t.length ≤ 8)), h1]
 generalize decide (r.length = 8) = a1
 generalize decide (t.length ≤ 8) = a2
 generalize orderB (usedOf r) t.length = a3
 generalize (t.all fun x => decide (x.length = 8)) = a4
 generalize decide (b.length ≤ 4) = a5
 generalize (t.all fun x => x.all entB) = a6
 generalize decide ((comp (sortI (frT t))).length = (frT t).length) = a7
 generalize bufB [] b = a8
 cases a1 <;> cases a2 <;> cases a3 <;> cases a4 <;> cases a5 <;> cases a6 <;> cases a7 <;> cases a8 <;> rfl
attribute [local go_sem] Nat.reduceAdd Nat.reduceSub Nat.reduceMul Nat.reduceMod Nat.reduceLT Nat.reduceLeDiff Nat.reduceEqDiff Nat.reduceBEq Nat.reduceDiv Int.reduceLT Int.reduceLE Int.reduceToNat Int.reduceNeg Int.reduceEq reduceCtorEq
attribute [local go_sem ↓] reduceIte reduceDIte
theorem call_own (xs : List Int) (hl : xs.length < 2000000) : callOf pr 117 [L xs] [] = some (.os (.t 192), [(192, .arr true false (.int .i64) xs)]) := by
 have hroom : ((0 + xs.length) * 8 ≤ 140737488355328 ∧ 0 + xs.length ≤ 9223372036854775807) = True := tr (by omega)
 rw [call_eq pr 117 _ _ Tryz.f117 fn_117 _ rfl _ ann_117 rfl]
 simp -implicitDefEqProofs only [hroom, go_sem]
theorem loop_so (r : List Int) (b : List Ca) : ∀ (suf pre : List (List En)), pre.length + suf.length < 1000 → (∀ x ∈ suf, x.length < 2000000) →
  loopOf pr 60 0 ⟨[(0, .rp [L r, LLE (pre ++ suf), LC b]), (2, .op 128 0), (3, .op 192 0), (4, I pre.length)], [(128, .box [.nilS, .nilS, .nilS]), (576, .arr true false (.int .i64) r), (704, .arr true false tyC b), (640, .arr true true (.slice tyE) pre), (192, .box [.os (.t 576), .os (.t 640), .os (.t 704)])]⟩ = some (.exit 0, ⟨[(0, .rp [L r, LLE (pre ++ suf), LC b]), (2, .op 128 0), (3, .op 192 0), (4, I ((pre.length + suf.length : Nat) : Int))], [(128, .box [.nilS, .nilS, .nilS]), (576, .arr true false (.int .i64) r), (704, .arr true false tyC b), (640, .arr true true (.slice tyE) (pre ++ suf)), (192, .box [.os (.t 576), .os (.t 640), .os (.t 704)])]⟩)
 | [], pre, hb, hx => by
  rw [loop_eq pr 60 0 _ Tryz.f60 fn_60 _ rfl _ ann_60 _ rfl]
  simp -implicitDefEqProofs only [Int.lt_irrefl, List.append_nil, Nat.add_zero, go_sem]
 | x :: suf, pre, hb, hx => by
  simp only [List.length_cons] at hb
  have hx0 := hx x (by simp)
  have hw : IntKind.i64.wrap ((pre.length : Int) + 1) = ((pre.length + 1 : Nat) : Int) := by rw [wrap_i] <;> omega
  have hr1 : ((0 + x.length) * 16 ≤ 140737488355328 ∧ 0 + x.length ≤ 9223372036854775807) = True := tr (by omega)
  have hr2 : ((pre.length + 1) * 24 ≤ 140737488355328 ∧ pre.length ≤ 9223372036854775806) = True := tr (by omega)
  have ih := loop_so r b suf (pre ++ [x]) (by simp; omega) (fun y hy => hx y (by simp [hy]))
  have e1 : (pre ++ [x]).length = pre.length + 1 := by simp
  have e2 : pre.length + 1 + suf.length = pre.length + (x :: suf).length := by simp; omega
  rw [app_one, e1, e2] at ih
  rw [loop_eq pr 60 0 _ Tryz.f60 fn_60 _ rfl _ ann_60 _ rfl]
  simp -implicitDefEqProofs only [getD_app, lt_app, ltn_app, zero_le_cast, Int.toNat_natCast, hw, hr1, hr2, go_sem]
  exact ih
theorem call_so (r : List Int) (t : List (List En)) (b : List Ca) (hr : r.length < 2000000) (ht : t.length < 1000) (hx : ∀ x ∈ t, x.length < 2000000) (hb : b.length < 2000000) : callOf pr 60 [.rp [L r, LLE t, LC b]] [] = some (.agg [.os (.t 576), .os (.t 640), .os (.t 704)], [(576, .arr true false (.int .i64) r), (704, .arr true false tyC b), (640, .arr true true (.slice tyE) t)]) := by
 have h := call_own r hr
 have hroom : ((0 + b.length) * 24 ≤ 140737488355328 ∧ 0 + b.length ≤ 9223372036854775807) = True := tr (by omega)
 have h2 := loop_so r b t [] (by simp; omega) hx
 simp only [List.nil_append, List.length_nil] at h2
 have h2 : loopOf pr 60 0 ⟨[(0, .rp [L r, LLE t, LC b]), (2, .op 128 0), (3, .op 192 0), (4, I 0)], [(128, .box [.nilS, .nilS, .nilS]), (576, .arr true false (.int .i64) r), (704, .arr true false tyC b), (640, .arr true true (.slice tyE) []), (192, .box [.os (.t 576), .os (.t 640), .os (.t 704)])]⟩ = _ := h2
 rw [call_eq pr 60 _ _ Tryz.f60 fn_60 _ rfl _ ann_60 rfl]
 simp -implicitDefEqProofs only [h, hroom, h2, go_sem]
theorem clone_tab (x : List En) (h8 : x.length = 8) : callOf pr 110 [LE x] [] = some (.os (.t 64), [(64, .arr true false tyE x)]) := by
 rw [call_cle x (by omega)]
 simp only [cloneV, if_neg (show ¬ x.length = 0 by omega)]
theorem loop_cn02 (r : List Int) : ∀ (suf pre : List (List En)), pre.length + suf.length < 1000 → (∀ x ∈ suf, x.length = 8) →
  loopOf pr 51 0 ⟨[(2, .op 128 0), (3, .op 192 0), (14, LLE (pre ++ suf)), (15, I ((pre.length + suf.length : Nat) : Int)), (16, I pre.length)], [(128, .box [.nilS, .nilS, .nilS]), (512, .arr true false (.int .i64) r), (192, .box [.os (.t 512), .os (.t 1600), .empS]), (1600, .arr true true (.slice tyE) pre)]⟩ = some (.exit 0, ⟨[(2, .op 128 0), (3, .op 192 0), (14, LLE (pre ++ suf)), (15, I ((pre.length + suf.length : Nat) : Int)), (16, I ((pre.length + suf.length : Nat) : Int))], [(128, .box [.nilS, .nilS, .nilS]), (512, .arr true false (.int .i64) r), (192, .box [.os (.t 512), .os (.t 1600), .empS]), (1600, .arr true true (.slice tyE) (pre ++ suf))]⟩)
 | [], pre, hb, hx => by
  rw [loop_eq pr 51 0 _ Tryz.f51 fn_51 _ rfl _ ann_51 _ rfl]
  simp -implicitDefEqProofs only [Int.lt_irrefl, List.append_nil, Nat.add_zero, List.length_nil, go_sem]
 | x :: suf, pre, hb, hx => by
  simp only [List.length_cons] at hb ⊢
  have hw : IntKind.i64.wrap ((pre.length : Int) + 1) = ((pre.length + 1 : Nat) : Int) := by rw [wrap_i] <;> omega
  have hlt : ((pre.length : Int) < ((pre.length + (suf.length + 1) : Nat) : Int)) = True := tr (by omega)
  have hr2 : ((pre.length + 1) * 24 ≤ 140737488355328 ∧ pre.length ≤ 9223372036854775806) = True := tr (by omega)
  have h := clone_tab x (hx x (by simp))
  have ih := loop_cn02 r suf (pre ++ [x]) (by simp; omega) (fun y hy => hx y (by simp [hy]))
  have e1 : (pre ++ [x]).length = pre.length + 1 := by simp
  have e2 : pre.length + 1 + suf.length = pre.length + (suf.length + 1) := by omega
  rw [app_one, e1, e2] at ih
  rw [loop_eq pr 51 0 _ Tryz.f51 fn_51 _ rfl _ ann_51 _ rfl]
  simp -implicitDefEqProofs only [getD_app, lt_app, ltn_app, zero_le_cast, Int.toNat_natCast, hw, hlt, hr2, h, go_sem]
  exact ih
theorem loop_cn12 (r : List Int) (b : List Ca) : ∀ (suf pre : List (List En)), pre.length + suf.length < 1000 → (∀ x ∈ suf, x.length = 8) →
  loopOf pr 51 0 ⟨[(2, .op 128 0), (3, .op 192 0), (14, LLE (pre ++ suf)), (15, I ((pre.length + suf.length : Nat) : Int)), (16, I pre.length)], [(128, .box [.nilS, .nilS, .nilS]), (512, .arr true false (.int .i64) r), (704, .arr true false tyC b), (192, .box [.os (.t 512), .os (.t 1600), .os (.t 704)]), (1600, .arr true true (.slice tyE) pre)]⟩ = some (.exit 0, ⟨[(2, .op 128 0), (3, .op 192 0), (14, LLE (pre ++ suf)), (15, I ((pre.length + suf.length : Nat) : Int)), (16, I ((pre.length + suf.length : Nat) : Int))], [(128, .box [.nilS, .nilS, .nilS]), (512, .arr true false (.int .i64) r), (704, .arr true false tyC b), (192, .box [.os (.t 512), .os (.t 1600), .os (.t 704)]), (1600, .arr true true (.slice tyE) (pre ++ suf))]⟩)
 | [], pre, hb, hx => by
  rw [loop_eq pr 51 0 _ Tryz.f51 fn_51 _ rfl _ ann_51 _ rfl]
  simp -implicitDefEqProofs only [Int.lt_irrefl, List.append_nil, Nat.add_zero, List.length_nil, go_sem]
 | x :: suf, pre, hb, hx => by
  simp only [List.length_cons] at hb ⊢
  have hw : IntKind.i64.wrap ((pre.length : Int) + 1) = ((pre.length + 1 : Nat) : Int) := by rw [wrap_i] <;> omega
  have hlt : ((pre.length : Int) < ((pre.length + (suf.length + 1) : Nat) : Int)) = True := tr (by omega)
  have hr2 : ((pre.length + 1) * 24 ≤ 140737488355328 ∧ pre.length ≤ 9223372036854775806) = True := tr (by omega)
  have h := clone_tab x (hx x (by simp))
  have ih := loop_cn12 r b suf (pre ++ [x]) (by simp; omega) (fun y hy => hx y (by simp [hy]))
  have e1 : (pre ++ [x]).length = pre.length + 1 := by simp
  have e2 : pre.length + 1 + suf.length = pre.length + (suf.length + 1) := by omega
  rw [app_one, e1, e2] at ih
  rw [loop_eq pr 51 0 _ Tryz.f51 fn_51 _ rfl _ ann_51 _ rfl]
  simp -implicitDefEqProofs only [getD_app, lt_app, ltn_app, zero_le_cast, Int.toNat_natCast, hw, hlt, hr2, h, go_sem]
  exact ih
theorem clone_root (r : List Int) (h8 : r.length = 8) : callOf pr 97 [L r] [] = some (.os (.t 64), [(64, .arr true false (.int .i64) r)]) := by
 rw [call_cli r (by omega)]
 simp only [cloneV, if_neg (show ¬ r.length = 0 by omega)]
theorem clone_buf (b : List Ca) (h0 : ¬ b.length = 0) (h : b.length < 2000000) : callOf pr 109 [LC b] [] = some (.os (.t 64), [(64, .arr true false tyC b)]) := by
 rw [call_clc b (by omega)]
 simp only [cloneV, if_neg h0]
theorem clone_buf0 : callOf pr 109 [LC []] [] = some (.empS, []) := by
 rw [call_clc [] (by simp)]
 rfl
theorem call_cn0_nil (r : List Int) (h8 : r.length = 8) : callOf pr 51 [.agg [L r, LLE [], LC []]] [] = some (.agg [.os (.t 512), .nilS, .empS], [(512, .arr true false (.int .i64) r)]) := by
 have h1 := clone_root r h8
 have h2 := clone_buf0
 have h : loopOf pr 51 0 ⟨[(2, .op 128 0), (3, .op 192 0), (14, LLE []), (15, I 0), (16, I 0)], [(128, .box [.nilS, .nilS, .nilS]), (512, .arr true false (.int .i64) r), (192, .box [.os (.t 512), .nilS, .empS])]⟩ = some (.exit 0, ⟨[(2, .op 128 0), (3, .op 192 0), (14, LLE []), (15, I 0), (16, I 0)], [(128, .box [.nilS, .nilS, .nilS]), (512, .arr true false (.int .i64) r), (192, .box [.os (.t 512), .nilS, .empS])]⟩) := by
  rw [loop_eq pr 51 0 _ Tryz.f51 fn_51 _ rfl _ ann_51 _ rfl]
  simp -implicitDefEqProofs only [Int.lt_irrefl, go_sem]
 rw [call_eq pr 51 _ _ Tryz.f51 fn_51 _ rfl _ ann_51 rfl]
 simp -implicitDefEqProofs only [h1, h2, Int.natCast_zero, h, go_sem]
theorem call_cn0_cons (r : List Int) (h8 : r.length = 8) (x : List En) (t : List (List En)) (ht : t.length < 900) (hx : ∀ y ∈ x :: t, y.length = 8) : callOf pr 51 [.agg [L r, LLE (x :: t), LC []]] [] = some (.agg [.os (.t 512), .os (.t 1600), .empS], [(512, .arr true false (.int .i64) r), (1600, .arr true true (.slice tyE) (x :: t))]) := by
 have h1 := clone_root r h8
 have h2 := clone_buf0
 have h3 := clone_tab x (hx x (by simp))
 have ih := loop_cn02 r t [x] (by simp; omega) (fun y hy => hx y (by simp [hy]))
 simp only [List.cons_append, List.nil_append, List.length_cons, List.length_nil, Nat.zero_add] at ih
 have hc : (1 : Nat) + t.length = t.length + 1 := by omega
 rw [hc] at ih
 have hlt : ((0 : Int) < ((t.length + 1 : Nat) : Int)) = True := tr (by omega)
 have hlt2 : (0 < t.length + 1) = True := tr (by omega)
 have h : loopOf pr 51 0 ⟨[(2, .op 128 0), (3, .op 192 0), (14, LLE (x :: t)), (15, I ((t.length + 1 : Nat) : Int)), (16, I 0)], [(128, .box [.nilS, .nilS, .nilS]), (512, .arr true false (.int .i64) r), (192, .box [.os (.t 512), .nilS, .empS])]⟩ = some (.exit 0, ⟨[(2, .op 128 0), (3, .op 192 0), (14, LLE (x :: t)), (15, I ((t.length + 1 : Nat) : Int)), (16, I ((t.length + 1 : Nat) : Int))], [(128, .box [.nilS, .nilS, .nilS]), (512, .arr true false (.int .i64) r), (192, .box [.os (.t 512), .os (.t 1600), .empS]), (1600, .arr true true (.slice tyE) (x :: t))]⟩) := by
  have w1 : IntKind.i64.wrap (0 + 1) = ((1 : Nat) : Int) := by rw [wrap_i] <;> omega
  rw [loop_eq pr 51 0 _ Tryz.f51 fn_51 _ rfl _ ann_51 _ rfl]
  simp -implicitDefEqProofs only [hlt, hlt2, h3, w1, List.getD_cons_zero, Int.le_refl, go_sem]
  exact ih
 rw [call_eq pr 51 _ _ Tryz.f51 fn_51 _ rfl _ ann_51 rfl]
 simp -implicitDefEqProofs only [h1, h2, h, go_sem]
theorem call_cn1_nil (r : List Int) (h8 : r.length = 8) (b : List Ca) (h0 : ¬ b.length = 0) (hb : b.length < 2000000) : callOf pr 51 [.agg [L r, LLE [], LC b]] [] = some (.agg [.os (.t 512), .nilS, .os (.t 704)], [(512, .arr true false (.int .i64) r), (704, .arr true false tyC b)]) := by
 have h1 := clone_root r h8
 have h2 := clone_buf b h0 hb
 have h : loopOf pr 51 0 ⟨[(2, .op 128 0), (3, .op 192 0), (14, LLE []), (15, I 0), (16, I 0)], [(128, .box [.nilS, .nilS, .nilS]), (512, .arr true false (.int .i64) r), (704, .arr true false tyC b), (192, .box [.os (.t 512), .nilS, .os (.t 704)])]⟩ = some (.exit 0, ⟨[(2, .op 128 0), (3, .op 192 0), (14, LLE []), (15, I 0), (16, I 0)], [(128, .box [.nilS, .nilS, .nilS]), (512, .arr true false (.int .i64) r), (704, .arr true false tyC b), (192, .box [.os (.t 512), .nilS, .os (.t 704)])]⟩) := by
  rw [loop_eq pr 51 0 _ Tryz.f51 fn_51 _ rfl _ ann_51 _ rfl]
  simp -implicitDefEqProofs only [Int.lt_irrefl, go_sem]
 rw [call_eq pr 51 _ _ Tryz.f51 fn_51 _ rfl _ ann_51 rfl]
 simp -implicitDefEqProofs only [h1, h2, Int.natCast_zero, h, go_sem]
theorem call_cn1_cons (r : List Int) (h8 : r.length = 8) (b : List Ca) (h0 : ¬ b.length = 0) (hb : b.length < 2000000) (x : List En) (t : List (List En)) (ht : t.length < 900) (hx : ∀ y ∈ x :: t, y.length = 8) : callOf pr 51 [.agg [L r, LLE (x :: t), LC b]] [] = some (.agg [.os (.t 512), .os (.t 1600), .os (.t 704)], [(512, .arr true false (.int .i64) r), (704, .arr true false tyC b), (1600, .arr true true (.slice tyE) (x :: t))]) := by
 have h1 := clone_root r h8
 have h2 := clone_buf b h0 hb
 have h3 := clone_tab x (hx x (by simp))
 have ih := loop_cn12 r b t [x] (by simp; omega) (fun y hy => hx y (by simp [hy]))
 simp only [List.cons_append, List.nil_append, List.length_cons, List.length_nil, Nat.zero_add] at ih
 have hc : (1 : Nat) + t.length = t.length + 1 := by omega
 rw [hc] at ih
 have hlt : ((0 : Int) < ((t.length + 1 : Nat) : Int)) = True := tr (by omega)
 have hlt2 : (0 < t.length + 1) = True := tr (by omega)
 have h : loopOf pr 51 0 ⟨[(2, .op 128 0), (3, .op 192 0), (14, LLE (x :: t)), (15, I ((t.length + 1 : Nat) : Int)), (16, I 0)], [(128, .box [.nilS, .nilS, .nilS]), (512, .arr true false (.int .i64) r), (704, .arr true false tyC b), (192, .box [.os (.t 512), .nilS, .os (.t 704)])]⟩ = some (.exit 0, ⟨[(2, .op 128 0), (3, .op 192 0), (14, LLE (x :: t)), (15, I ((t.length + 1 : Nat) : Int)), (16, I ((t.length + 1 : Nat) : Int))], [(128, .box [.nilS, .nilS, .nilS]), (512, .arr true false (.int .i64) r), (704, .arr true false tyC b), (192, .box [.os (.t 512), .os (.t 1600), .os (.t 704)]), (1600, .arr true true (.slice tyE) (x :: t))]⟩) := by
  have w1 : IntKind.i64.wrap (0 + 1) = ((1 : Nat) : Int) := by rw [wrap_i] <;> omega
  rw [loop_eq pr 51 0 _ Tryz.f51 fn_51 _ rfl _ ann_51 _ rfl]
  simp -implicitDefEqProofs only [hlt, hlt2, h3, w1, List.getD_cons_zero, Int.le_refl, go_sem]
  exact ih
 rw [call_eq pr 51 _ _ Tryz.f51 fn_51 _ rfl _ ann_51 rfl]
 simp -implicitDefEqProofs only [h1, h2, h, go_sem]
theorem clone4 (r : List Int) (t : List (List En)) (b : List Ca) (h8 : r.length = 8) (hb : b.length < 2000000) (ht : t.length < 900) (hx : ∀ y ∈ t, y.length = 8) :
  (t = [] ∧ b = [] ∧ callOf pr 51 [.agg [L r, LLE t, LC b]] [] = some (.agg [.os (.t 512), .nilS, .empS], [(512, .arr true false (.int .i64) r)])) ∨
  (t = [] ∧ callOf pr 51 [.agg [L r, LLE t, LC b]] [] = some (.agg [.os (.t 512), .nilS, .os (.t 704)], [(512, .arr true false (.int .i64) r), (704, .arr true false tyC b)])) ∨
  (b = [] ∧ t ≠ [] ∧ callOf pr 51 [.agg [L r, LLE t, LC b]] [] = some (.agg [.os (.t 512), .os (.t 1600), .empS], [(512, .arr true false (.int .i64) r), (1600, .arr true true (.slice tyE) t)])) ∨
  (t ≠ [] ∧ callOf pr 51 [.agg [L r, LLE t, LC b]] [] = some (.agg [.os (.t 512), .os (.t 1600), .os (.t 704)], [(512, .arr true false (.int .i64) r), (704, .arr true false tyC b), (1600, .arr true true (.slice tyE) t)])) := by
 by_cases h0 : b.length = 0
 ·have hb0 : b = [] := List.eq_nil_of_length_eq_zero h0
  subst hb0
  cases t with
  | nil => exact .inl ⟨rfl, rfl, call_cn0_nil r h8⟩
  | cons x t => exact .inr (.inr (.inl ⟨rfl, by simp, call_cn0_cons r h8 x t (by simp at ht; omega) hx⟩))
 ·cases t with
  | nil => exact .inr (.inl ⟨rfl, call_cn1_nil r h8 b h0 hb⟩)
  | cons x t => exact .inr (.inr (.inr ⟨by simp, call_cn1_cons r h8 b h0 hb x t (by simp at ht; omega) hx⟩))
theorem spec_tab {r : List Int} {t : List (List En)} {b : List Ca} (hs : specS r t b = true) : r.length = 8 ∧ t.length ≤ 8 ∧ (∀ x ∈ t, x.length = 8) ∧ (∀ x ∈ r, -1 ≤ x ∧ x ≤ (t.length : Int) - 1) ∧ b.length ≤ 4 := by
 simp only [specS, Bool.and_eq_true, decide_eq_true_eq] at hs
 obtain ⟨s1, s2, s3, s4⟩ := tabB_spec hs.1.1.1
 exact ⟨s1, s2, s3, s4, hs.1.1.2⟩
theorem call_ip (r : List Int) (t : List (List En)) (b : List Ca) (p : Int) (hr : r.length < 2000000) (ht : t.length < 2000000) (hx : ∀ x ∈ t, x.length < 2000000) (hb : b.length < 2000000) : callOf pr 70 [.agg [L r, LLE t, LC b], I p] [] = some (B (specS r t b && addrB p), []) := by
 have h1 := call_vs r t b hr ht hx hb
 rw [← space_eq] at h1
 have h2 := call_ia p
 rw [call_eq pr 70 _ _ Tryz.f70 fn_70 _ rfl _ ann_70 rfl]
 cases hs : specS r t b with
 | false =>
  rw [hs] at h1
  simp -implicitDefEqProofs only [h1, go_sem]
 | true =>
  rw [hs] at h1
  simp -implicitDefEqProofs only [h1, h2, go_sem]
def pgI (p : Int) : Nat := (p / 8).toNat
def pgJ (p : Int) : Nat := (p % 8).toNat
def emptyEn : En := (-1, false, false, false, ())
abbrev agE (e : En) : AV := .agg [I e.1, B e.2.1, B e.2.2.1, B e.2.2.2.1]
abbrev rpE (e : En) : AV := .rp [I e.1, B e.2.1, B e.2.2.1, B e.2.2.2.1]
def rootAt (r : List Int) (p : Int) : Int := r.getD (pgI p) 0
def rowAt (r : List Int) (t : List (List En)) (p : Int) : List En := t.getD (rootAt r p).toNat []
def walkS (r : List Int) (t : List (List En)) (p : Int) : En := if rootAt r p < 0 then emptyEn else (rowAt r t p).getD (pgJ p) (0, false, false, false, ())
def putT (r : List Int) (t : List (List En)) (p : Int) (e : En) : List (List En) := t.set (rootAt r p).toNat ((rowAt r t p).set (pgJ p) e)
theorem page_facts {p : Int} (ha : addrB p = true) : IntKind.i64.wrap (p.tdiv 8) = ((pgI p : Nat) : Int) ∧ p.tmod 8 = ((pgJ p : Nat) : Int) ∧ pgI p < 8 ∧ pgJ p < 8 := by
 simp only [addrB, decide_eq_true_eq] at ha
 have h1 : p.tdiv 8 = p / 8 := Int.tdiv_eq_ediv_of_nonneg ha.1
 have h2 : p.tmod 8 = p % 8 := Int.tmod_eq_emod_of_nonneg ha.1
 rw [h1, h2]
 simp only [pgI, pgJ]
 refine ⟨?_, ?_, ?_, ?_⟩
 ·rw [wrap_i] <;> omega
 ·omega
 ·omega
 ·omega
theorem root_facts {r : List Int} {t : List (List En)} {p : Int} (h8 : r.length = 8) (hp : pgI p < 8) (hr : ∀ x ∈ r, -1 ≤ x ∧ x ≤ (t.length : Int) - 1) (hx : ∀ x ∈ t, x.length = 8) (h0 : ¬ rootAt r p < 0) : (rootAt r p).toNat < t.length ∧ rootAt r p = (((rootAt r p).toNat : Nat) : Int) ∧ (rowAt r t p).length = 8 := by
 have hm : rootAt r p ∈ r := by
  have : rootAt r p = r[pgI p]'(by omega) := by simp [rootAt, List.getD, List.getElem?_eq_getElem (show pgI p < r.length by omega)]
  rw [this]; exact List.getElem_mem _
 have hb := hr _ hm
 have h1 : (rootAt r p).toNat < t.length := by omega
 refine ⟨h1, by omega, hx _ ?_⟩
 have : rowAt r t p = t[(rootAt r p).toNat] := by simp [rowAt, List.getD, List.getElem?_eq_getElem h1]
 rw [this]; exact List.getElem_mem _
theorem call_em : callOf pr 121 [] [] = some (agE emptyEn, []) := by
 rw [call_eq pr 121 _ _ Tryz.f121 fn_121 _ rfl _ ann_121 rfl]
 simp -implicitDefEqProofs only [go_sem]
 rfl
theorem call_wk (r : List Int) (t : List (List En)) (b : List Ca) (p : Int) (ha : addrB p = true) (h8 : r.length = 8) (hr : ∀ x ∈ r, -1 ≤ x ∧ x ≤ (t.length : Int) - 1) (hx : ∀ x ∈ t, x.length = 8) : callOf pr 92 [.rp [L r, LLE t, LC b], I p] [] = some (agE (walkS r t p), []) := by
 obtain ⟨hq, hm, hi, hj⟩ := page_facts ha
 have i1 : (((pgI p : Nat) : Int) < (r.length : Int)) = True := tr (by omega)
 have i2 : (pgI p < r.length) = True := tr (by omega)
 have hroot : r.getD (pgI p) 0 = rootAt r p := rfl
 rw [call_eq pr 92 _ _ Tryz.f92 fn_92 _ rfl _ ann_92 rfl]
 by_cases h0 : rootAt r p < 0
 ·have e : walkS r t p = emptyEn := if_pos h0
  rw [e]
  simp -implicitDefEqProofs only [hq, hm, zero_le_cast, Int.toNat_natCast, i1, i2, hroot, tr h0, call_em, go_sem]
 ·obtain ⟨g1, g2, g3⟩ := root_facts h8 hi hr hx h0
  have e : walkS r t p = (rowAt r t p).getD (pgJ p) (0, false, false, false, ()) := if_neg h0
  have j0 : (0 ≤ rootAt r p) = True := tr (by omega)
  have j1 : (rootAt r p < (t.length : Int)) = True := tr (by omega)
  have j2 : (((pgJ p : Nat) : Int) < ((rowAt r t p).length : Int)) = True := tr (by omega)
  have hrow : t.getD (rootAt r p).toNat [] = rowAt r t p := rfl
  rw [e]
  simp -implicitDefEqProofs only [hq, hm, zero_le_cast, Int.toNat_natCast, i1, i2, hroot, fa h0, j0, j1, j2, hrow, go_sem]
theorem call_en (r : List Int) (t : List (List En)) (b : List Ca) (p : Int) (ha : addrB p = true) (h8 : r.length = 8) (hr : ∀ x ∈ r, -1 ≤ x ∧ x ≤ (t.length : Int) - 1) (hx : ∀ x ∈ t, x.length = 8) : callOf pr 78 [.agg [L r, LLE t, LC b], I p] [] = some (if rootAt r p < 0 then .nilP else rpE (walkS r t p), []) := by
 obtain ⟨hq, hm, hi, hj⟩ := page_facts ha
 have i1 : (((pgI p : Nat) : Int) < (r.length : Int)) = True := tr (by omega)
 have i2 : (pgI p < r.length) = True := tr (by omega)
 have hroot : r.getD (pgI p) 0 = rootAt r p := rfl
 rw [call_eq pr 78 _ _ Tryz.f78 fn_78 _ rfl _ ann_78 rfl]
 by_cases h0 : rootAt r p < 0
 ·rw [if_pos h0]
  simp -implicitDefEqProofs only [hq, hm, zero_le_cast, Int.toNat_natCast, i1, i2, hroot, tr h0, go_sem]
 ·obtain ⟨g1, g2, g3⟩ := root_facts h8 hi hr hx h0
  have e : walkS r t p = (rowAt r t p).getD (pgJ p) (0, false, false, false, ()) := if_neg h0
  have j0 : (0 ≤ rootAt r p) = True := tr (by omega)
  have j1 : (rootAt r p < (t.length : Int)) = True := tr (by omega)
  have j2 : (((pgJ p : Nat) : Int) < ((rowAt r t p).length : Int)) = True := tr (by omega)
  have hrow : t.getD (rootAt r p).toNat [] = rowAt r t p := rfl
  rw [if_neg h0, e]
  simp -implicitDefEqProofs only [hq, hm, zero_le_cast, Int.toNat_natCast, i1, i2, hroot, fa h0, j0, j1, j2, hrow, go_sem]
theorem call_mp (r : List Int) (t : List (List En)) (b : List Ca) (p : Int) (ha : addrB p = true) (h8 : r.length = 8) (hr : ∀ x ∈ r, -1 ≤ x ∧ x ≤ (t.length : Int) - 1) (hx : ∀ x ∈ t, x.length = 8) : callOf pr 71 [.agg [L r, LLE t, LC b], I p] [] = some (if (walkS r t p).1 < 0 then .nilP else rpE (walkS r t p), []) := by
 have h1 := call_en r t b p ha h8 hr hx
 rw [call_eq pr 71 _ _ Tryz.f71 fn_71 _ rfl _ ann_71 rfl]
 by_cases h0 : rootAt r p < 0
 ·have e : walkS r t p = emptyEn := if_pos h0
  rw [if_pos h0] at h1
  rw [if_pos (by rw [e]; decide)]
  simp -implicitDefEqProofs only [h1, go_sem]
 ·rw [if_neg h0] at h1
  by_cases h2 : (walkS r t p).1 < 0
  ·rw [if_pos h2]
   simp -implicitDefEqProofs only [h1, tr h2, go_sem]
  ·rw [if_neg h2]
   simp -implicitDefEqProofs only [h1, fa h2, go_sem]
theorem call_pu (r : List Int) (t : List (List En)) (b : List Ca) (p : Int) (ha : addrB p = true) (h8 : r.length = 8) (hr : ∀ x ∈ r, -1 ≤ x ∧ x ≤ (t.length : Int) - 1) (hx : ∀ x ∈ t, x.length = 8) (hb : b.length < 2000000) (ht : t.length < 1000) (h0 : ¬ rootAt r p < 0) (f : Int) (w u d : Bool) : callOf pr 94 [.rp [L r, LLE t, LC b], I p, .agg [I f, B w, B u, B d]] [] = some (.agg [.os (.t 576), .os (.t 578), .os (.t 577)], [(576, .arr true false (.int .i64) r), (577, .arr true false tyC b), (578, .arr true true (.slice tyE) (putT r t p (f, w, u, d, ())))]) := by
 obtain ⟨hq, hm, hi, hj⟩ := page_facts ha
 have i1 : (((pgI p : Nat) : Int) < (r.length : Int)) = True := tr (by omega)
 have i2 : (pgI p < r.length) = True := tr (by omega)
 have hroot : r.getD (pgI p) 0 = rootAt r p := rfl
 have h1 := call_so r t b (by omega) ht (fun x hx' => by rw [hx x hx']; omega) hb
 obtain ⟨g1, g2, g3⟩ := root_facts h8 hi hr hx h0
 have j0 : (0 ≤ rootAt r p) = True := tr (by omega)
 have j1 : (rootAt r p < (t.length : Int)) = True := tr (by omega)
 have j2 : (((pgJ p : Nat) : Int) < ((rowAt r t p).length : Int)) = True := tr (by omega)
 have j3 : ((rootAt r p).toNat < t.length) = True := tr g1
 have j4 : (pgJ p < (rowAt r t p).length) = True := tr (by omega)
 have hrow : t.getD (rootAt r p).toNat [] = rowAt r t p := rfl
 rw [call_eq pr 94 _ _ Tryz.f94 fn_94 _ rfl _ ann_94 rfl]
 simp -implicitDefEqProofs only [h1, hq, hm, zero_le_cast, Int.toNat_natCast, i1, i2, hroot, fa h0, j0, j1, j2, j3, j4, hrow, go_sem]
 rfl
theorem putT_length (r : List Int) (t : List (List En)) (p : Int) (e : En) : (putT r t p e).length = t.length := by simp [putT]
theorem putT_rows {r : List Int} {t : List (List En)} {p : Int} {e : En} (hx : ∀ x ∈ t, x.length = 8) (h : (rowAt r t p).length = 8) : ∀ x ∈ putT r t p e, x.length = 8 := by
 intro x hx'
 rcases List.mem_or_eq_of_mem_set hx' with h1 | h1
 ·exact hx x h1
 ·rw [h1, List.length_set]; exact h
theorem walk_row {r : List Int} {t : List (List En)} {p : Int} (h0 : ¬ rootAt r p < 0) : (rowAt r t p).getD (pgJ p) (0, false, false, false, ()) = walkS r t p := (if_neg h0).symm
def tab8 : List En := [emptyEn, emptyEn, emptyEn, emptyEn, emptyEn, emptyEn, emptyEn, emptyEn]
theorem loop_st : ∀ (n k : Nat), k + n = 8 → loopOf pr 142 0 ⟨[(1, .os (.t 192)), (2, I k)], [(192, .arr true false tyE (List.replicate k emptyEn))]⟩ = some (.exit 0, ⟨[(1, .os (.t 192)), (2, I 8)], [(192, .arr true false tyE (List.replicate 8 emptyEn))]⟩)
 | 0, k, h => by
  have hk : k = 8 := by omega
  subst hk
  rw [loop_eq pr 142 0 _ Tryz.f142 fn_142 _ rfl _ ann_142 _ rfl]
  simp -implicitDefEqProofs only [Int.cast_ofNat_Int, go_sem]
 | n + 1, k, h => by
  have ih := loop_st n (k + 1) (by omega)
  have hk : ((k : Int) < 8) = True := tr (by omega)
  have hw : IntKind.i64.wrap ((k : Int) + 1) = ((k + 1 : Nat) : Int) := by rw [wrap_i] <;> omega
  have hroom : ((k + 1) * 16 ≤ 140737488355328 ∧ k ≤ 9223372036854775806) = True := tr (by omega)
  have hl : (List.replicate k emptyEn).length = k := by simp
  have hr : List.replicate k emptyEn ++ [emptyEn] = List.replicate (k + 1) emptyEn := (List.replicate_succ').symm
  have he : callOf pr 121 [] [] = some (agE emptyEn, []) := call_em
  rw [loop_eq pr 142 0 _ Tryz.f142 fn_142 _ rfl _ ann_142 _ rfl]
  simp -implicitDefEqProofs only [hk, he, hl, hroom, hw, go_sem]
  exact (congrArg (fun z => loopOf pr 142 0 ⟨[(1, .os (.t 192)), (2, I ((k + 1 : Nat) : Int))], [(192, .arr true false tyE z)]⟩) hr).trans ih
theorem call_st8 : callOf pr 142 [] [] = some (.os (.t 192), [(192, .arr true false tyE tab8)]) := by
 have h := loop_st 8 0 rfl
 have h : loopOf pr 142 0 ⟨[(1, .os (.t 192)), (2, I 0)], [(192, .arr true false tyE [])]⟩ = some (.exit 0, ⟨[(1, .os (.t 192)), (2, I 8)], [(192, .arr true false tyE tab8)]⟩) := h
 rw [call_eq pr 142 _ _ Tryz.f142 fn_142 _ rfl _ ann_142 rfl]
 simp -implicitDefEqProofs only [h, go_sem]
theorem loop_has (x : Int) : ∀ (suf pre : List Int), pre.length + suf.length < 1000000000000000000 →
  loopOf pr 140 0 ⟨[(0, L (pre ++ suf)), (1, I x), (5, I pre.length)], []⟩ = if (suf.any fun y => decide (x = y)) = true then some (.ret, ⟨[(4, B true)], []⟩) else some (.exit 0, ⟨[(0, L (pre ++ suf)), (1, I x), (5, I ((pre.length + suf.length : Nat) : Int))], []⟩)
 | [], pre, hb => by
  rw [loop_eq pr 140 0 _ Tryz.f140 fn_140 _ rfl _ ann_140 _ rfl]
  simp -implicitDefEqProofs only [Int.lt_irrefl, List.append_nil, Nat.add_zero, List.any_nil, List.length_nil, go_sem]
 | y :: suf, pre, hb => by
  simp only [List.length_cons] at hb
  have hw : IntKind.i64.wrap ((pre.length : Int) + 1) = ((pre.length + 1 : Nat) : Int) := by rw [wrap_i] <;> omega
  have e1 : (pre ++ [y]).length = pre.length + 1 := by simp
  have e2 : pre.length + 1 + suf.length = pre.length + (suf.length + 1) := by omega
  have ih := loop_has x suf (pre ++ [y]) (by simp; omega)
  rw [e1, e2, app_one] at ih
  rw [loop_eq pr 140 0 _ Tryz.f140 fn_140 _ rfl _ ann_140 _ rfl]
  by_cases hy : x = y
  ·have hq : (y = x) = True := tr hy.symm
   rw [if_pos (by simp [hy])]
   simp -implicitDefEqProofs only [getD_app, lt_app, ltn_app, zero_le_cast, Int.toNat_natCast, hw, hq, go_sem]
  ·have hq : (y = x) = False := fa (fun e => hy e.symm)
   have ha : ((y :: suf).any fun z => decide (x = z)) = suf.any fun z => decide (x = z) := by simp [hy]
   rw [ha]
   simp -implicitDefEqProofs only [getD_app, lt_app, ltn_app, zero_le_cast, Int.toNat_natCast, hw, hq, List.length_cons, go_sem]
   exact ih
theorem call_has (x : Int) (xs : List Int) (hb : xs.length < 1000000000000000000) : callOf pr 140 [L xs, I x] [] = some (B (xs.any fun y => decide (x = y)), []) := by
 have h := loop_has x xs [] (by simpa using hb)
 simp only [List.nil_append, List.length_nil, Nat.zero_add] at h
 have h : loopOf pr 140 0 ⟨[(0, L xs), (1, I x), (5, I 0)], []⟩ = _ := h
 rw [call_eq pr 140 _ _ Tryz.f140 fn_140 _ rfl _ ann_140 rfl]
 cases ha : (xs.any fun y => decide (x = y)) with
 | true =>
  rw [ha, if_pos rfl] at h
  simp -implicitDefEqProofs only [h, go_sem]
 | false =>
  rw [ha, if_neg (by simp)] at h
  simp -implicitDefEqProofs only [h, go_sem]
def mapsB (r : List Int) (t : List (List En)) (k : Nat) : Bool := decide (0 ≤ (walkS r t k).1)
theorem addr_nat {k : Nat} (h : k < 64) : addrB (k : Int) = true := by simp only [addrB, decide_eq_true_eq]; omega
theorem loop_mpd (r : List Int) (t : List (List En)) (b : List Ca) (h8 : r.length = 8) (hr : ∀ x ∈ r, -1 ≤ x ∧ x ≤ (t.length : Int) - 1) (hx : ∀ x ∈ t, x.length = 8) : ∀ (n k : Nat), k + n = 64 →
  loopOf pr 64 0 ⟨[(0, .rp [L r, LLE t, LC b]), (3, .os (.t 320)), (4, I k)], [(320, .arr true false (.int .i64) (those (mapsB r t) k))]⟩ = some (.exit 0, ⟨[(0, .rp [L r, LLE t, LC b]), (3, .os (.t 320)), (4, I 64)], [(320, .arr true false (.int .i64) (those (mapsB r t) 64))]⟩)
 | 0, k, h => by
  have hk : k = 64 := by omega
  subst hk
  rw [loop_eq pr 64 0 _ Tryz.f64 fn_64 _ rfl _ ann_64 _ rfl]
  simp -implicitDefEqProofs only [Int.cast_ofNat_Int, go_sem]
 | n + 1, k, h => by
  have ih := loop_mpd r t b h8 hr hx n (k + 1) (by omega)
  have hk : ((k : Int) < 64) = True := tr (by omega)
  have hw : IntKind.i64.wrap ((k : Int) + 1) = ((k + 1 : Nat) : Int) := by rw [wrap_i] <;> omega
  have hl := those_length (mapsB r t) k
  have hroom : (((those (mapsB r t) k).length + 1) * 8 ≤ 140737488355328 ∧ (those (mapsB r t) k).length ≤ 9223372036854775806) = True := tr (by omega)
  have h1 := call_wk r t b k (addr_nat (by omega)) h8 hr hx
  rw [those_succ] at ih
  rw [loop_eq pr 64 0 _ Tryz.f64 fn_64 _ rfl _ ann_64 _ rfl]
  by_cases hm : 0 ≤ (walkS r t k).1
  ·rw [if_pos (by simp only [mapsB, decide_eq_true_eq]; exact hm)] at ih
   simp -implicitDefEqProofs only [hk, h1, tr hm, ge_iff_le, hroom, hw, go_sem]
   exact ih
  ·rw [if_neg (by simp only [mapsB, decide_eq_true_eq]; exact hm)] at ih
   simp -implicitDefEqProofs only [hk, h1, fa hm, ge_iff_le, hw, go_sem]
   exact ih
theorem call_mpd (r : List Int) (t : List (List En)) (b : List Ca) (h8 : r.length = 8) (hr : ∀ x ∈ r, -1 ≤ x ∧ x ≤ (t.length : Int) - 1) (hx : ∀ x ∈ t, x.length = 8) : callOf pr 64 [.rp [L r, LLE t, LC b]] [] = some (.os (.t 320), [(320, .arr true false (.int .i64) (those (mapsB r t) 64))]) := by
 have h := loop_mpd r t b h8 hr hx 64 0 rfl
 have h : loopOf pr 64 0 ⟨[(0, .rp [L r, LLE t, LC b]), (3, .os (.t 320)), (4, I 0)], [(320, .arr true false (.int .i64) [])]⟩ = _ := h
 rw [call_eq pr 64 _ _ Tryz.f64 fn_64 _ rfl _ ann_64 rfl]
 simp -implicitDefEqProofs only [h, go_sem]
theorem those_in {f : Nat → Bool} {n : Nat} {x : Int} (h : x ∈ those f n) : ∃ k : Nat, x = k ∧ k < n ∧ f k = true := by
 simp only [those, List.mem_map, List.mem_filter, List.mem_range] at h
 obtain ⟨k, ⟨h1, h2⟩, rfl⟩ := h
 exact ⟨k, rfl, h1, h2⟩
theorem mem_those {f : Nat → Bool} {n k : Nat} (h1 : k < n) (h2 : f k = true) : ((k : Nat) : Int) ∈ those f n := by
 simp only [those, List.mem_map, List.mem_filter, List.mem_range]
 exact ⟨k, ⟨h1, h2⟩, rfl⟩
def frameOf (r : List Int) (t : List (List En)) (p : Int) : Int := (walkS r t p).1
theorem loop_fr0 (r : List Int) (t : List (List En)) (b : List Ca) (h8 : r.length = 8) (hr : ∀ x ∈ r, -1 ≤ x ∧ x ≤ (t.length : Int) - 1) (hx : ∀ x ∈ t, x.length = 8) : ∀ (suf pre : List Int), pre.length + suf.length ≤ 64 → (∀ x ∈ suf, addrB x = true) →
  loopOf pr 141 0 ⟨[(0, .rp [L r, LLE t, LC b]), (3, .os (.t 512)), (4, .os (.t 640)), (5, I pre.length)], [(512, .arr true false (.int .i64) (pre.map (frameOf r t))), (640, .arr true false (.int .i64) (pre ++ suf))]⟩ = some (.exit 0, ⟨[(0, .rp [L r, LLE t, LC b]), (3, .os (.t 512)), (4, .os (.t 640)), (5, I ((pre.length + suf.length : Nat) : Int))], [(512, .arr true false (.int .i64) ((pre ++ suf).map (frameOf r t))), (640, .arr true false (.int .i64) (pre ++ suf))]⟩)
 | [], pre, hl, ha => by
  rw [loop_eq pr 141 0 _ Tryz.f141 fn_141 _ rfl _ ann_141 _ rfl]
  simp -implicitDefEqProofs only [Int.lt_irrefl, List.append_nil, Nat.add_zero, List.length_nil, go_sem]
 | x :: suf, pre, hl, ha => by
  simp only [List.length_cons] at hl
  have hw : IntKind.i64.wrap ((pre.length : Int) + 1) = ((pre.length + 1 : Nat) : Int) := by rw [wrap_i] <;> omega
  have e1 : (pre ++ [x]).length = pre.length + 1 := by simp
  have e2 : pre.length + 1 + suf.length = pre.length + (suf.length + 1) := by omega
  have ih := loop_fr0 r t b h8 hr hx suf (pre ++ [x]) (by simp; omega) (fun y hy => ha y (by simp [hy]))
  rw [e1, e2, app_one] at ih
  have h1 := call_wk r t b x (ha x (by simp)) h8 hr hx
  have hroom : ((pre.length + 1) * 8 ≤ 140737488355328 ∧ pre.length ≤ 9223372036854775806) = True := tr (by omega)
  have hml : (pre.map (frameOf r t)).length = pre.length := by simp
  rw [loop_eq pr 141 0 _ Tryz.f141 fn_141 _ rfl _ ann_141 _ rfl]
  simp -implicitDefEqProofs only [getD_app, lt_app, ltn_app, zero_le_cast, Int.toNat_natCast, hw, h1, hml, hroom, List.length_cons, go_sem]
  rw [List.map_append] at ih
  exact ih
theorem loop_fr1 (tk : List Int) (htk : tk.length < 100) : ∀ (n k : Nat), k + n = 16 →
  loopOf pr 141 1 ⟨[(3, .os (.t 512)), (6, .os (.t 1728)), (7, I k)], [(512, .arr true false (.int .i64) tk), (1728, .arr true false (.int .i64) (those (fun i => !tk.any fun y => decide ((i : Int) = y)) k))]⟩ = some (.exit 2, ⟨[(3, .os (.t 512)), (6, .os (.t 1728)), (7, I 16)], [(512, .arr true false (.int .i64) tk), (1728, .arr true false (.int .i64) (those (fun i => !tk.any fun y => decide ((i : Int) = y)) 16))]⟩)
 | 0, k, h => by
  have hk : k = 16 := by omega
  subst hk
  rw [loop_eq pr 141 1 _ Tryz.f141 fn_141 _ rfl _ ann_141 _ rfl]
  simp -implicitDefEqProofs only [Int.cast_ofNat_Int, go_sem]
 | n + 1, k, h => by
  have ih := loop_fr1 tk htk n (k + 1) (by omega)
  have hk : ((k : Int) < 16) = True := tr (by omega)
  have hw : IntKind.i64.wrap ((k : Int) + 1) = ((k + 1 : Nat) : Int) := by rw [wrap_i] <;> omega
  have hl := those_length (fun i => !tk.any fun y => decide ((i : Int) = y)) k
  have h1 := call_has k tk (by omega)
  rw [those_succ] at ih
  generalize hth : those (fun i => !tk.any fun y => decide ((i : Int) = y)) k = T at hl ih ⊢
  have hroom : ((T.length + 1) * 8 ≤ 140737488355328 ∧ T.length ≤ 9223372036854775806) = True := tr (by omega)
  rw [loop_eq pr 141 1 _ Tryz.f141 fn_141 _ rfl _ ann_141 _ rfl]
  cases hm : (tk.any fun y => decide ((k : Int) = y)) with
  | false =>
   rw [hm] at h1
   rw [hm, show (!false) = true from rfl, if_pos rfl] at ih
   simp -implicitDefEqProofs only [hk, h1, hroom, hw, go_sem]
   exact ih
  | true =>
   rw [hm] at h1
   rw [hm, show (!true) = false from rfl, if_neg (by simp)] at ih
   simp -implicitDefEqProofs only [hk, h1, hw, go_sem]
   exact ih
def takenS (r : List Int) (t : List (List En)) : List Int := (those (mapsB r t) 64).map (frameOf r t)
def freeS (r : List Int) (t : List (List En)) : List Int := those (fun i => !(takenS r t).any fun y => decide ((i : Int) = y)) 16
theorem call_fre (r : List Int) (t : List (List En)) (b : List Ca) (h8 : r.length = 8) (hr : ∀ x ∈ r, -1 ≤ x ∧ x ≤ (t.length : Int) - 1) (hx : ∀ x ∈ t, x.length = 8) : callOf pr 141 [.rp [L r, LLE t, LC b]] [] = some (.os (.t 1728), [(1728, .arr true false (.int .i64) (freeS r t))]) := by
 have h1 := call_mpd r t b h8 hr hx
 have hl := those_length (mapsB r t) 64
 have h2 := loop_fr0 r t b h8 hr hx (those (mapsB r t) 64) [] (by simpa using hl) (fun x hx' => by obtain ⟨k, rfl, hk, _⟩ := those_in hx'; exact addr_nat hk)
 simp only [List.map_nil, List.nil_append, List.length_nil, Nat.zero_add] at h2
 have h2 : loopOf pr 141 0 ⟨[(0, .rp [L r, LLE t, LC b]), (3, .os (.t 512)), (4, .os (.t 640)), (5, I 0)], [(512, .arr true false (.int .i64) []), (640, .arr true false (.int .i64) (those (mapsB r t) 64))]⟩ = some (.exit 0, ⟨[(0, .rp [L r, LLE t, LC b]), (3, .os (.t 512)), (4, .os (.t 640)), (5, I ((those (mapsB r t) 64).length))], [(512, .arr true false (.int .i64) (takenS r t)), (640, .arr true false (.int .i64) (those (mapsB r t) 64))]⟩) := h2
 have h3 := loop_fr1 (takenS r t) (by simp only [takenS, List.length_map]; omega) 16 0 rfl
 have h3 : loopOf pr 141 1 ⟨[(3, .os (.t 512)), (6, .os (.t 1728)), (7, I 0)], [(512, .arr true false (.int .i64) (takenS r t)), (1728, .arr true false (.int .i64) [])]⟩ = some (.exit 2, ⟨[(3, .os (.t 512)), (6, .os (.t 1728)), (7, I 16)], [(512, .arr true false (.int .i64) (takenS r t)), (1728, .arr true false (.int .i64) (freeS r t))]⟩) := h3
 rw [call_eq pr 141 _ _ Tryz.f141 fn_141 _ rfl _ ann_141 rfl]
 simp -implicitDefEqProofs only [h1, h2, h3, go_sem]
theorem mem_taken {r : List Int} {t : List (List En)} {f : Int} : f ∈ takenS r t ↔ ∃ k : Nat, k < 64 ∧ 0 ≤ (walkS r t k).1 ∧ (walkS r t k).1 = f := by
 simp only [takenS, List.mem_map]
 constructor
 ·rintro ⟨x, hx, rfl⟩
  obtain ⟨k, rfl, h1, h2⟩ := those_in hx
  exact ⟨k, h1, by simpa [mapsB] using h2, rfl⟩
 ·rintro ⟨k, h1, h2, rfl⟩
  exact ⟨k, mem_those h1 (by simpa [mapsB] using h2), rfl⟩
theorem mem_frT {t : List (List En)} {f : Int} : f ∈ frT t ↔ ∃ row ∈ t, ∃ e ∈ row, e.1 = f ∧ 0 ≤ f := by
 simp only [frT, List.mem_flatMap, frE, List.mem_filter, List.mem_map, decide_eq_true_eq]
 constructor
 ·rintro ⟨row, h1, ⟨e, h2, h3⟩, h4⟩; exact ⟨row, h1, e, h2, h3, h4⟩
 ·rintro ⟨row, h1, e, h2, h3, h4⟩; exact ⟨row, h1, ⟨e, h2, h3⟩, h4⟩
theorem taken_iff {r : List Int} {t : List (List En)} {b : List Ca} (hs : specS r t b = true) (f : Int) : f ∈ takenS r t ↔ f ∈ frT t := by
 obtain ⟨s1, s2, s3, s4, s5⟩ := spec_tab hs
 rw [mem_taken, mem_frT]
 constructor
 ·rintro ⟨k, h1, h2, rfl⟩
  obtain ⟨_, _, hi, hj⟩ := page_facts (addr_nat h1)
  have h0 : ¬ rootAt r k < 0 := by
   intro hc
   have e : walkS r t k = emptyEn := if_pos hc
   rw [e] at h2
   simp [emptyEn] at h2
  obtain ⟨g1, g2, g3⟩ := root_facts s1 hi s4 s3 h0
  have hw : walkS r t k = (rowAt r t k)[pgJ k]'(by omega) := by
   rw [← walk_row h0, getD_of_lt (by omega)]
  have hrow : rowAt r t k ∈ t := by
   have : rowAt r t k = t[(rootAt r k).toNat] := by simp [rowAt, List.getD, List.getElem?_eq_getElem g1]
   rw [this]; exact List.getElem_mem _
  exact ⟨_, hrow, walkS r t k, by rw [hw]; exact List.getElem_mem _, rfl, h2⟩
 ·rintro ⟨row, h1, e, h2, rfl, h3⟩
  obtain ⟨i, hi, rfl⟩ := List.getElem_of_mem h1
  obtain ⟨j, hj, rfl⟩ := List.getElem_of_mem h2
  have h8 := s3 _ h1
  have htab : tabC r 0 t = true := by
   simp only [specS, tabB, Bool.and_eq_true] at hs
   exact hs.1.1.1.1.2
  have hc := ((tabC_iff r t 0).1 htab).1 i (by omega) (by omega)
  have hm : (i : Int) ∈ r := List.count_pos_iff.1 (by omega)
  obtain ⟨m, hm1, hm2⟩ := List.getElem_of_mem hm
  have e1 : pgI ((8 * m + j : Nat) : Int) = m := by simp only [pgI]; omega
  have e2 : pgJ ((8 * m + j : Nat) : Int) = j := by simp only [pgJ]; omega
  have hroot : rootAt r ((8 * m + j : Nat) : Int) = i := by
   simp only [rootAt, e1]
   rw [getD_of_lt hm1, hm2]
  have hrow : rowAt r t ((8 * m + j : Nat) : Int) = t[i] := by
   simp only [rowAt, hroot, Int.toNat_natCast]
   rw [getD_of_lt hi]
  have hw : walkS r t ((8 * m + j : Nat) : Int) = t[i][j] := by
   rw [← walk_row (by rw [hroot]; omega), hrow, e2, getD_of_lt hj]
  exact ⟨8 * m + j, by omega, by rw [hw]; exact h3, by rw [hw]⟩
theorem free_eq {r : List Int} {t : List (List En)} {b : List Ca} (hs : specS r t b = true) {f : Int} (hf : frameB f = true) : (freeS r t).any (fun y => decide (f = y)) = !((frT t).any fun y => decide (f = y)) := by
 obtain ⟨f1, f2⟩ := frame_bound hf
 have ha : ∀ (xs : List Int), (xs.any fun y => decide (f = y)) = decide (f ∈ xs) := by
  intro xs
  rw [Bool.eq_iff_iff]
  simp only [List.any_eq_true, decide_eq_true_eq]
  constructor
  ·rintro ⟨y, hy, rfl⟩; exact hy
  ·intro h; exact ⟨f, h, rfl⟩
 rw [ha, ha, ← decide_not]
 congr 1
 rw [← taken_iff hs, eq_iff_iff]
 constructor
 ·intro h hc
  obtain ⟨k, rfl, h1, h2⟩ := those_in h
  simp only [Bool.not_eq_true', List.any_eq_false, decide_eq_true_eq] at h2
  exact h2 _ hc rfl
 ·intro h
  have e : f = ((f.toNat : Nat) : Int) := by omega
  rw [e]
  refine mem_those (by omega) ?_
  simp only [Bool.not_eq_true', List.any_eq_false, decide_eq_true_eq]
  intro y hy he
  rw [← e] at he
  exact h (he ▸ hy)
def root2 (r : List Int) (t : List (List En)) (p : Int) : List Int := if rootAt r p < 0 then r.set (pgI p) t.length else r
def tabs2 (r : List Int) (t : List (List En)) (p : Int) : List (List En) := if rootAt r p < 0 then t ++ [tab8] else t
theorem map_facts {r : List Int} {t : List (List En)} {b : List Ca} {p : Int} (hs : specS r t b = true) (ha : addrB p = true) : (root2 r t p).length = 8 ∧ (∀ x ∈ root2 r t p, -1 ≤ x ∧ x ≤ ((tabs2 r t p).length : Int) - 1) ∧ (∀ x ∈ tabs2 r t p, x.length = 8) ∧ ¬ rootAt (root2 r t p) p < 0 ∧ (tabs2 r t p).length ≤ 9 := by
 obtain ⟨s1, s2, s3, s4, s5⟩ := spec_tab hs
 obtain ⟨_, _, hi, hj⟩ := page_facts ha
 by_cases h0 : rootAt r p < 0
 ·simp only [root2, tabs2, if_pos h0]
  refine ⟨by simp [s1], fun x hx => ?_, fun x hx => ?_, ?_, by simp; omega⟩
  ·rcases List.mem_or_eq_of_mem_set hx with h | h
   ·have := s4 x h; simp only [List.length_append, List.length_cons, List.length_nil]; omega
   ·subst h; simp only [List.length_append, List.length_cons, List.length_nil]; omega
  ·rcases List.mem_append.1 hx with h | h
   ·exact s3 x h
   ·simp only [List.mem_singleton] at h; subst h; rfl
  ·simp only [rootAt]
   rw [getD_of_lt (by simp; omega)]
   simp
 ·simp only [root2, tabs2, if_neg h0]
  exact ⟨s1, s4, s3, h0, by omega⟩
def mapC (r : List Int) (t : List (List En)) (b : List Ca) (p f : Int) : Bool := specS r t b && addrB p && frameB f && decide ((walkS r t p).1 < 0) && !((frT t).any fun y => decide (f = y))
def mapT (r : List Int) (t : List (List En)) (p f : Int) (w : Bool) : List (List En) := putT (root2 r t p) (tabs2 r t p) p (f, w, false, false, ())
theorem call_sm (r : List Int) (t : List (List En)) (b : List Ca) (p f : Int) (w : Bool) (hb : b.length < 2000000) : callOf pr 119 [.agg [L r, LLE t, LC b], I p, I f, B w] [] = if mapC r t b p f = true then some (.tuple [.agg [.os (.t 3968), .os (.t 3970), .os (.t 3969)], B true], [(3968, .arr true false (.int .i64) (root2 r t p)), (3969, .arr true false tyC b), (3970, .arr true true (.slice tyE) (mapT r t p f w))]) else some (.tuple [.agg [.nilS, .nilS, .nilS], B false], []) := by
 have h1 := call_si r t b
 have h3 := call_ad p
 have h4 := call_fr f
 rw [call_eq pr 119 _ _ Tryz.f119 fn_119 _ rfl _ ann_119 rfl]
 cases hs : specS r t b with
 | false =>
  rw [hs] at h1
  rw [if_neg (by simp [mapC, hs])]
  simp -implicitDefEqProofs only [h1, go_sem]
 | true =>
  rw [hs] at h1
  obtain ⟨s1, s2, s3, s4, s5⟩ := spec_tab hs
  cases ha : addrB p with
  | false =>
   rw [ha] at h3
   rw [if_neg (by simp [mapC, ha])]
   simp -implicitDefEqProofs only [h1, h3, go_sem]
  | true =>
   rw [ha] at h3
   cases hf : frameB f with
   | false =>
    rw [hf] at h4
    rw [if_neg (by simp [mapC, hf])]
    simp -implicitDefEqProofs only [h1, h3, h4, go_sem]
   | true =>
    rw [hf] at h4
    have h5 := call_wk r t b p ha s1 s4 s3
    by_cases hw : 0 ≤ (walkS r t p).1
    ·rw [if_neg (by simp only [mapC, hs, ha, hf, Bool.true_and, Bool.and_eq_true, decide_eq_true_eq]; omega)]
     simp -implicitDefEqProofs only [h1, h3, h4, h5, tr hw, ge_iff_le, go_sem]
    ·have h6 := call_fre r t b s1 s4 s3
     have hfl : (freeS r t).length ≤ 16 := those_length _ _
     have h7 := call_has f (freeS r t) (by omega)
     rw [free_eq hs hf] at h7
     cases hc : ((frT t).any fun y => decide (f = y)) with
     | true =>
      rw [hc] at h7
      rw [if_neg (by simp [mapC, hc])]
      simp -implicitDefEqProofs only [h1, h3, h4, h5, fa hw, ge_iff_le, h6, h7, go_sem]
     | false =>
      rw [hc] at h7
      have hh : mapC r t b p f = true := by simp only [mapC, hs, ha, hf, hc, Bool.true_and, Bool.not_false, Bool.and_true, decide_eq_true_eq]; omega
      rw [if_pos hh]
      obtain ⟨m1, m2, m3, m4, m5⟩ := map_facts hs ha
      obtain ⟨hq, hm, hi, hj⟩ := page_facts ha
      have i1 : (((pgI p : Nat) : Int) < (r.length : Int)) = True := tr (by omega)
      have i2 : (pgI p < r.length) = True := tr (by omega)
      have hroot : r.getD (pgI p) 0 = rootAt r p := rfl
      have h8 := call_so r t b (by omega) (by omega) (fun x hx' => by rw [s3 x hx']; omega) hb
      have h9 := call_pu (root2 r t p) (tabs2 r t p) b p ha m1 m2 m3 hb (by omega) m4 f w false false
      by_cases h0 : rootAt r p < 0
      ·have e1 : root2 r t p = r.set (pgI p) t.length := if_pos h0
       have e2 : tabs2 r t p = t ++ [tab8] := if_pos h0
       simp only [mapT]
       rw [e1, e2] at h9
       rw [e1, e2]
       have h10 := call_st8
       have hroom : ((t.length + 1) * 24 ≤ 140737488355328 ∧ t.length ≤ 9223372036854775806) = True := tr (by omega)
       simp -implicitDefEqProofs only [h1, h3, h4, h5, fa hw, ge_iff_le, h6, h7, h8, hq, hm, zero_le_cast, Int.toNat_natCast, i1, i2, hroot, tr h0, h10, hroom, h9, go_sem]
      ·have e1 : root2 r t p = r := if_neg h0
       have e2 : tabs2 r t p = t := if_neg h0
       simp only [mapT]
       rw [e1, e2] at h9
       rw [e1, e2]
       simp -implicitDefEqProofs only [h1, h3, h4, h5, fa hw, ge_iff_le, h6, h7, h8, hq, hm, zero_le_cast, Int.toNat_natCast, i1, i2, hroot, fa h0, h9, go_sem]
end Go.Proofs.YtbapbghnageckaaGreat.PI
