/- Spaces in plain lists: what is valid, and what changes keep. -/
import Derived.Test.YtbapbghnageckaaGreatM4
import Derived.Test.YtbapbghnageckaaGreatU7
namespace Go.Proofs.YtbapbghnageckaaGreat.PI
open Go Go.Q
set_option maxRecDepth 100000
set_option maxHeartbeats 4000000
set_option linter.unusedSimpArgs false
set_option linter.unusedVariables false
structure Vs (r : List Int) (t : List (List En)) (b : List Ca) : Prop where
 root : r.length = 8
 few : t.length ≤ 8
 refs : ∀ x ∈ r, -1 ≤ x ∧ x ≤ (t.length : Int) - 1
 cnt : ∀ i : Nat, i < t.length → r.count (i : Int) = 1
 rows : ∀ x ∈ t, x.length = 8
 ents : ∀ x ∈ t, ∀ e ∈ x, entB e = true
 nod : (frT t).Nodup
 buf : b.length ≤ 4
 bok : bufB [] b = true
theorem vs_iff {r : List Int} {t : List (List En)} {b : List Ca} : specS r t b = true ↔ Vs r t b := by
 have hw := walk_iff t.flatten free16 rfl
 have hfree : ∀ f ∈ frE t.flatten, free16.getD f.toNat false = false := by
  intro f _
  simp only [free16, List.getD, List.getElem?_replicate]
  split <;> rfl
 rw [← walkT_flat, ← frT_flat] at hw
 constructor
 ·intro h
  simp only [specS, tabB, Bool.and_eq_true, decide_eq_true_eq, tabC_iff, List.all_eq_true, rootB] at h
  obtain ⟨⟨⟨⟨⟨⟨h1, h2⟩, h3, h4⟩, h5⟩, h6⟩, h7⟩, h8⟩ := h
  obtain ⟨w1, w2, w3⟩ := hw.1 h7
  exact ⟨h1, h2, h5, fun i hi => h3 i (by omega) (by omega), h4, fun x hx e he => w1 e (List.mem_flatten.2 ⟨x, hx, he⟩), w2, h6, h8⟩
 ·intro h
  simp only [specS, tabB, Bool.and_eq_true, decide_eq_true_eq, tabC_iff, List.all_eq_true, rootB]
  refine ⟨⟨⟨⟨⟨⟨h.root, h.few⟩, fun i _ hi => h.cnt i (by omega), h.rows⟩, h.refs⟩, h.buf⟩, hw.2 ⟨fun e he => ?_, h.nod, ?_⟩⟩, h.bok⟩
  ·obtain ⟨x, hx, hxe⟩ := List.mem_flatten.1 he
   exact h.ents x hx e hxe
  ·rw [frT_flat]; exact hfree
theorem Vs.fit {r : List Int} {t : List (List En)} {b : List Ca} (h : Vs r t b) : Fit r t b := ⟨h.root, h.refs, h.rows, by have := h.few; omega, h.buf, (bufB_once b [] h.bok).2⟩
def fr1 (e : En) : List Int := if 0 ≤ e.1 then [e.1] else []
theorem frE_cons (e : En) (es : List En) : frE (e :: es) = fr1 e ++ frE es := by
 unfold frE fr1
 by_cases h : 0 ≤ e.1
 ·simp [h]
 ·simp [h]
theorem frE_parts : ∀ (es : List En) (j : Nat) (z : En), j < es.length → ∃ A B, frE es = A ++ fr1 (es.getD j z) ++ B ∧ ∀ e, frE (es.set j e) = A ++ fr1 e ++ B
 | [], j, z, h => by simp at h
 | x :: es, 0, z, h => ⟨[], frE es, by simp [frE_cons], fun e => by simp [frE_cons]⟩
 | x :: es, j + 1, z, h => by
  obtain ⟨A, B, h1, h2⟩ := frE_parts es j z (by simpa using h)
  exact ⟨fr1 x ++ A, B, by simp only [frE_cons, List.getD_cons_succ, h1, List.append_assoc], fun e => by simp only [List.set_cons_succ, frE_cons, h2, List.append_assoc]⟩
theorem frT_parts : ∀ (t : List (List En)) (i : Nat), i < t.length → ∃ A B, frT t = A ++ frE (t.getD i []) ++ B ∧ ∀ row, frT (t.set i row) = A ++ frE row ++ B
 | [], i, h => by simp at h
 | x :: t, 0, h => ⟨[], frT t, by simp [frT], fun row => by simp [frT]⟩
 | x :: t, i + 1, h => by
  obtain ⟨A, B, h1, h2⟩ := frT_parts t i (by simpa using h)
  have e : ∀ y l, frT (y :: l) = frE y ++ frT l := fun y l => rfl
  exact ⟨frE x ++ A, B, by simp only [e, List.getD_cons_succ, h1, List.append_assoc], fun row => by simp only [List.set_cons_succ, e, h2, List.append_assoc]⟩
theorem put_parts {r : List Int} {t : List (List En)} {b : List Ca} {p : Int} (ha : addrB p = true) (hF : Fit r t b) (h0 : ¬ rootAt r p < 0) : ∃ A B, frT t = A ++ fr1 (walkS r t p) ++ B ∧ ∀ e, frT (putT r t p e) = A ++ fr1 e ++ B := by
 obtain ⟨hq, hm, hi, hj⟩ := page_facts ha
 obtain ⟨g1, g2, g3⟩ := root_facts hF.root hi hF.refs hF.rows h0
 obtain ⟨A, B, h1, h2⟩ := frT_parts t _ g1
 obtain ⟨C, D, h3, h4⟩ := frE_parts (rowAt r t p) (pgJ p) (0, false, false, false, ()) (by omega)
 rw [walk_row h0] at h3
 refine ⟨A ++ C, D ++ B, ?_, fun e => ?_⟩
 ·rw [h1]; unfold rowAt at h3; rw [h3]; simp only [List.append_assoc]
 ·unfold putT; rw [h2, h4]; simp only [List.append_assoc]
theorem walk_mem {r : List Int} {t : List (List En)} {b : List Ca} {p : Int} (ha : addrB p = true) (hF : Fit r t b) (h0 : ¬ rootAt r p < 0) : ∃ row ∈ t, walkS r t p ∈ row := by
 obtain ⟨hq, hm, hi, hj⟩ := page_facts ha
 obtain ⟨g1, g2, g3⟩ := root_facts hF.root hi hF.refs hF.rows h0
 refine ⟨rowAt r t p, ?_, ?_⟩
 ·unfold rowAt; rw [List.getD_eq_getElem?_getD, List.getElem?_eq_getElem g1]; exact List.getElem_mem g1
 ·rw [← walk_row h0, List.getD_eq_getElem?_getD, List.getElem?_eq_getElem (by omega)]; exact List.getElem_mem _
theorem Vs.put {r : List Int} {t : List (List En)} {b : List Ca} {p : Int} (ha : addrB p = true) (h : Vs r t b) (h0 : ¬ rootAt r p < 0) {e : En} (he : entB e = true) (hn : (frT (putT r t p e)).Nodup) : Vs r (putT r t p e) b := by
 obtain ⟨hq, hm, hi, hj⟩ := page_facts ha
 obtain ⟨g1, g2, g3⟩ := root_facts h.root hi h.refs h.rows h0
 refine ⟨h.root, by rw [putT_length]; exact h.few, by rw [putT_length]; exact h.refs, by rw [putT_length]; exact h.cnt, putT_rows h.rows g3, fun x hx y hy => ?_, hn, h.buf, h.bok⟩
 rcases List.mem_or_eq_of_mem_set hx with h1 | h1
 ·exact h.ents x h1 y hy
 ·subst h1
  rcases List.mem_or_eq_of_mem_set hy with h2 | h2
  ·refine h.ents (rowAt r t p) ?_ y h2
   unfold rowAt; rw [List.getD_eq_getElem?_getD, List.getElem?_eq_getElem g1]; exact List.getElem_mem g1
  ·subst h2; exact he
theorem Vs.same {r : List Int} {t : List (List En)} {b : List Ca} {p : Int} (ha : addrB p = true) (h : Vs r t b) (h0 : ¬ rootAt r p < 0) {e : En} (he : entB e = true) (hf : e.1 = (walkS r t p).1) : Vs r (putT r t p e) b := by
 refine h.put ha h0 he ?_
 obtain ⟨A, B, h1, h2⟩ := put_parts ha h.fit h0
 have : fr1 e = fr1 (walkS r t p) := by unfold fr1; rw [hf]
 rw [h2, this, ← h1]; exact h.nod
theorem Vs.none {r : List Int} {t : List (List En)} {b : List Ca} {p : Int} (ha : addrB p = true) (h : Vs r t b) (h0 : ¬ rootAt r p < 0) : Vs r (putT r t p emptyEn) b := by
 refine h.put ha h0 rfl ?_
 obtain ⟨A, B, h1, h2⟩ := put_parts ha h.fit h0
 have hn := h.nod
 rw [h1] at hn
 rw [h2]
 refine List.Nodup.sublist ?_ hn
 simp only [show fr1 emptyEn = [] from rfl, List.append_nil]
 exact List.Sublist.append (List.sublist_append_left _ _) (List.Sublist.refl _)
theorem ent_used {e : En} {w : Bool} (h : entB e = true) (h0 : ¬ e.1 < 0) : entB (usedE e w) = true := by
 obtain ⟨f, w1, u, d, ⟨⟩⟩ := e
 simp only [entB, emptyE, usedE] at h ⊢
 have hf : frameB f = true := by
  simp only [Bool.or_eq_true, Bool.and_eq_true, decide_eq_true_eq] at h
  rcases h with h | h
  ·exact absurd h.1.1.1 (by simp only at h0; omega)
  ·exact h.1
 simp [hf]
theorem Vs.use {r : List Int} {t : List (List En)} {b : List Ca} (k : Int) {p : Int} (ha : addrB p = true) (h : Vs r t b) : Vs r (useR r t b k p).2.2.1 (useR r t b k p).2.2.2 := by
 have F := h.fit.use k ha
 have hT : Vs r (usedT r t p (decide (k = 1))) b := by
  unfold usedT
  split
  ·exact h
  ·rename_i he
   have h0 := walk_pos he
   obtain ⟨row, h1, h2⟩ := walk_mem ha h.fit h0
   exact h.same ha h0 (ent_used (h.ents row h1 _ h2) he) rfl
 have hB : ∀ b', (∀ c ∈ b', addrB c.1 = true ∧ frameB c.2.1 = true) → once b' → b'.length ≤ 4 → ∀ t', Vs r t' b → Vs r t' b' := fun b' h1 h2 h3 t' h' => ⟨h'.root, h'.few, h'.refs, h'.cnt, h'.rows, h'.ents, h'.nod, h3, by
  have key : ∀ (c pre : List Ca), (∀ x ∈ c, addrB x.1 = true ∧ frameB x.2.1 = true) → (∀ x ∈ pre, ∀ y ∈ c, x.1 ≠ y.1) → once c → bufB pre c = true := by
   intro c
   induction c with
   | nil => intro pre _ _ _; rfl
   | cons x c ih =>
    intro pre g1 g2 g3
    have g3' := g3
    unfold once at g3'
    rw [List.pairwise_cons] at g3'
    show (addrB x.1 && frameB x.2.1 && !pre.any (pageAt x.1) && bufB (pre ++ [x]) c) = true
    rw [ih (pre ++ [x]) (fun y hy => g1 y (by simp [hy])) (fun y hy z hz => by
     rcases List.mem_append.1 hy with hy | hy
     ·exact g2 y hy z (by simp [hz])
     ·rw [List.mem_singleton] at hy; subst hy; exact g3'.1 z hz) g3'.2]
    have g4 : pre.any (pageAt x.1) = false := by
     rw [List.any_eq_false]
     intro y hy
     have := g2 y hy x (by simp)
     simpa [pageAt] using this
    rw [g4, (g1 x (by simp)).1, (g1 x (by simp)).2]; rfl
  exact key b' [] h1 (by simp) h2⟩
 have hmem : ∀ (c pre : List Ca), bufB pre c = true → ∀ x ∈ c, addrB x.1 = true ∧ frameB x.2.1 = true := by
  intro c
  induction c with
  | nil => intro pre _ x hx; cases hx
  | cons y c ih =>
   intro pre g x hx
   have g : (addrB y.1 && frameB y.2.1 && !pre.any (pageAt y.1) && bufB (pre ++ [y]) c) = true := g
   simp only [Bool.and_eq_true] at g
   rcases List.mem_cons.1 hx with rfl | hx
   ·exact g.1.1
   ·exact ih _ g.2 x hx
 have hbm := hmem b [] h.bok
 have mk : ∀ t' b', (∀ c ∈ b', c ∈ b ∨ (addrB c.1 = true ∧ frameB c.2.1 = true)) → Vs r t' b → Fit r t' b' → Vs r t' b' := fun t' b' h1 h2 h3 => hB b' (fun c hc => (h1 c hc).elim (hbm c) id) h3.one h3.buf t' h2
 revert F
 unfold useR
 split
 ·split
  ·intro _; exact h
  ·rename_i he
   split
   ·intro _; exact h
   ·intro F
    refine mk _ _ (fun c hc => ?_) hT F
    rcases List.mem_cons.1 (List.mem_of_mem_take hc) with rfl | hc
    ·refine .inr ⟨ha, ?_⟩
     obtain ⟨row, h1, h2⟩ := walk_mem ha h.fit (walk_pos he)
     have := h.ents row h1 _ h2
     simp only [entB, emptyE, Bool.or_eq_true, Bool.and_eq_true, decide_eq_true_eq] at this
     rcases this with h3 | h3
     ·exact absurd h3.1.1.1 (by omega)
     ·exact h3.1
    ·exact .inl hc
 ·rename_i i hf
  obtain ⟨f1, f2, f3⟩ := flush_some h.fit.one hf
  have hc0 : ∀ c ∈ b.getD i zC :: b.eraseIdx i, c ∈ b := by
   intro c hc
   rcases List.mem_cons.1 hc with rfl | hc
   ·rw [List.getD_eq_getElem?_getD, List.getElem?_eq_getElem f2]; exact List.getElem_mem f2
   ·exact List.mem_of_mem_eraseIdx hc
  split
  ·intro F; exact mk _ _ (fun c hc => .inl (hc0 c hc)) h F
  ·intro F; exact mk _ _ (fun c hc => .inl (hc0 c hc)) hT F
theorem count_two : ∀ (r : List Int) (i j : Nat) (hi : i < j) (hj : j < r.length), r[i]'(by omega) = r[j] → 2 ≤ r.count r[j]
 | [], i, j, hi, hj, _ => by simp at hj
 | a :: r, 0, j + 1, hi, hj, h => by
  simp only [List.getElem_cons_zero, List.getElem_cons_succ] at h ⊢
  have hm : 1 ≤ r.count (r[j]'(by simpa using hj)) := List.count_pos_iff.2 (List.getElem_mem _)
  rw [List.count_cons, h]
  simp only [beq_self_eq_true, if_true]
  omega
 | a :: r, i + 1, j + 1, hi, hj, h => by
  simp only [List.getElem_cons_succ] at h ⊢
  have := count_two r i j (by omega) (by simpa using hj) h
  rw [List.count_cons]
  omega
theorem root_inj {r : List Int} {t : List (List En)} {b : List Ca} (h : Vs r t b) {p q : Int} (ha : addrB p = true) (hb : addrB q = true) (h0 : ¬ rootAt r p < 0) (he : rootAt r q = rootAt r p) : pgI q = pgI p := by
 obtain ⟨_, _, hi, _⟩ := page_facts ha
 obtain ⟨_, _, hj, _⟩ := page_facts hb
 obtain ⟨g1, g2, _⟩ := root_facts h.root hi h.refs h.rows h0
 have e1 : rootAt r p = r[pgI p]'(by have := h.root; omega) := by simp [rootAt, List.getD, List.getElem?_eq_getElem (show pgI p < r.length by have := h.root; omega)]
 have e2 : rootAt r q = r[pgI q]'(by have := h.root; omega) := by simp [rootAt, List.getD, List.getElem?_eq_getElem (show pgI q < r.length by have := h.root; omega)]
 have hc := h.cnt _ g1
 rw [← g2] at hc
 rcases Nat.lt_trichotomy (pgI p) (pgI q) with hl | hl | hl
 ·have := count_two r _ _ hl (by have := h.root; omega) (by rw [← e1, ← e2, he])
  rw [← e2, he] at this; omega
 ·exact hl.symm
 ·have := count_two r _ _ hl (by have := h.root; omega) (by rw [← e1, ← e2, he])
  rw [← e1] at this; omega
theorem page_eq {p q : Int} (ha : addrB p = true) (hb : addrB q = true) (h1 : pgI q = pgI p) (h2 : pgJ q = pgJ p) : q = p := by
 simp only [addrB, decide_eq_true_eq] at ha hb
 unfold pgI at h1
 unfold pgJ at h2
 omega
theorem walk_put {r : List Int} {t : List (List En)} {b : List Ca} (h : Vs r t b) {p q : Int} (ha : addrB p = true) (hb : addrB q = true) (h0 : ¬ rootAt r p < 0) (e : En) : walkS r (putT r t p e) q = if q = p then e else walkS r t q := by
 obtain ⟨_, _, hi, hj⟩ := page_facts ha
 obtain ⟨_, _, hi', hj'⟩ := page_facts hb
 obtain ⟨g1, g2, g3⟩ := root_facts h.root hi h.refs h.rows h0
 by_cases hq : rootAt r q < 0
 ·have : q ≠ p := by rintro rfl; exact h0 hq
  rw [if_neg this]
  simp only [walkS, if_pos hq]
 ·obtain ⟨k1, k2, k3⟩ := root_facts h.root hi' h.refs h.rows hq
  simp only [walkS, if_neg hq]
  by_cases hr : rootAt r q = rootAt r p
  ·have e1 := root_inj h ha hb h0 hr
   have e2 : rowAt r (putT r t p e) q = (rowAt r t p).set (pgJ p) e := by
    unfold rowAt putT
    rw [hr]
    exact getD_set_self t _ g1 _ []
   rw [e2]
   by_cases hj2 : pgJ q = pgJ p
   ·rw [if_pos (page_eq ha hb e1 hj2), hj2]
    exact getD_set_self _ _ (by omega) e _
   ·rw [if_neg (by rintro rfl; exact hj2 rfl)]
    have e3 : rowAt r t q = rowAt r t p := by unfold rowAt; rw [hr]
    rw [e3]
    simp only [List.getD, List.getElem?_set_ne (show pgJ p ≠ pgJ q from fun x => hj2 x.symm)]
  ·rw [if_neg (by rintro rfl; exact hr rfl)]
   have e2 : rowAt r (putT r t p e) q = rowAt r t q := by
    unfold rowAt putT
    simp only [List.getD]
    rw [List.getElem?_set_ne (by omega)]
   rw [e2]
theorem walk_used {r : List Int} {t : List (List En)} {b : List Ca} (h : Vs r t b) {p q : Int} (ha : addrB p = true) (hb : addrB q = true) (w : Bool) : walkS r (usedT r t p w) q = if q = p ∧ ¬ (walkS r t p).1 < 0 then usedE (walkS r t p) w else walkS r t q := by
 unfold usedT
 by_cases he : (walkS r t p).1 < 0
 ·rw [if_pos he, if_neg (by simp [he])]
 ·rw [if_neg he, walk_put h ha hb (walk_pos he)]
  by_cases hq : q = p
  ·rw [if_pos hq, if_pos ⟨hq, he⟩]
  ·rw [if_neg hq, if_neg (by simp [hq])]
theorem walk_used_same {r : List Int} {t : List (List En)} {b : List Ca} (h : Vs r t b) {p q : Int} (ha : addrB p = true) (hb : addrB q = true) (w : Bool) : (walkS r (usedT r t p w) q).1 = (walkS r t q).1 ∧ (walkS r (usedT r t p w) q).2.1 = (walkS r t q).2.1 := by
 rw [walk_used h ha hb]
 split
 ·rename_i hh; obtain ⟨rfl, _⟩ := hh; exact ⟨rfl, rfl⟩
 ·exact ⟨rfl, rfl⟩
def Agr (r : List Int) (t : List (List En)) (b : List Ca) : Prop := ∀ c ∈ b, 0 ≤ (walkS r t c.1).1 ∧ (walkS r t c.1).1 = c.2.1 ∧ (walkS r t c.1).2.1 = c.2.2.1
theorem buf_addr {r : List Int} {t : List (List En)} {b : List Ca} (h : Vs r t b) : ∀ c ∈ b, addrB c.1 = true := by
 have hmem : ∀ (c pre : List Ca), bufB pre c = true → ∀ x ∈ c, addrB x.1 = true := by
  intro c
  induction c with
  | nil => intro pre _ x hx; cases hx
  | cons y c ih =>
   intro pre g x hx
   have g : (addrB y.1 && frameB y.2.1 && !pre.any (pageAt y.1) && bufB (pre ++ [y]) c) = true := g
   simp only [Bool.and_eq_true] at g
   rcases List.mem_cons.1 hx with rfl | hx
   ·exact g.1.1.1
   ·exact ih _ g.2 x hx
 exact hmem b [] h.bok
theorem use_same {r : List Int} {t : List (List En)} {b : List Ca} (h : Vs r t b) (k : Int) {p q : Int} (ha : addrB p = true) (hb : addrB q = true) : (walkS r (useR r t b k p).2.2.1 q).1 = (walkS r t q).1 ∧ (walkS r (useR r t b k p).2.2.1 q).2.1 = (walkS r t q).2.1 := by
 have hu := walk_used_same h ha hb (decide (k = 1))
 unfold useR
 split
 ·split
  ·exact ⟨rfl, rfl⟩
  ·split
   ·exact ⟨rfl, rfl⟩
   ·exact hu
 ·split
  ·exact ⟨rfl, rfl⟩
  ·exact hu
theorem Agr.use {r : List Int} {t : List (List En)} {b : List Ca} (h : Vs r t b) (hA : Agr r t b) (k : Int) {p : Int} (ha : addrB p = true) : Agr r (useR r t b k p).2.2.1 (useR r t b k p).2.2.2 := by
 have key : ∀ c : Ca, (c ∈ b ∨ (addrB c.1 = true ∧ 0 ≤ (walkS r t c.1).1 ∧ (walkS r t c.1).1 = c.2.1 ∧ (walkS r t c.1).2.1 = c.2.2.1)) → 0 ≤ (walkS r (useR r t b k p).2.2.1 c.1).1 ∧ (walkS r (useR r t b k p).2.2.1 c.1).1 = c.2.1 ∧ (walkS r (useR r t b k p).2.2.1 c.1).2.1 = c.2.2.1 := by
  intro c hc
  have hca : addrB c.1 = true := hc.elim (fun h' => buf_addr h c h') (fun h' => h'.1)
  have hcc : 0 ≤ (walkS r t c.1).1 ∧ (walkS r t c.1).1 = c.2.1 ∧ (walkS r t c.1).2.1 = c.2.2.1 := hc.elim (hA c) (fun h' => h'.2)
  obtain ⟨s1, s2⟩ := use_same h k ha hca
  rw [s1, s2]; exact hcc
 intro c hc
 refine key c ?_
 revert hc
 unfold useR
 split
 ·split
  ·exact fun hc => .inl hc
  ·rename_i he
   split
   ·exact fun hc => .inl hc
   ·intro hc
    rcases List.mem_cons.1 (List.mem_of_mem_take hc) with rfl | hc
    ·exact .inr ⟨ha, by simp only; omega, rfl, rfl⟩
    ·exact .inl hc
 ·rename_i i hf
  obtain ⟨f1, f2, f3⟩ := flush_some h.fit.one hf
  have hc0 : ∀ c ∈ b.getD i zC :: b.eraseIdx i, c ∈ b := by
   intro c hc
   rcases List.mem_cons.1 hc with rfl | hc
   ·rw [List.getD_eq_getElem?_getD, List.getElem?_eq_getElem f2]; exact List.getElem_mem f2
   ·exact List.mem_of_mem_eraseIdx hc
  split
  ·exact fun hc => .inl (hc0 c hc)
  ·exact fun hc => .inl (hc0 c hc)
theorem Vs.grow {r : List Int} {t : List (List En)} {b : List Ca} (h : Vs r t b) {p : Int} (ha : addrB p = true) : Vs (root2 r t p) (tabs2 r t p) b ∧ (∀ q, addrB q = true → walkS (root2 r t p) (tabs2 r t p) q = walkS r t q) ∧ ¬ rootAt (root2 r t p) p < 0 ∧ frT (tabs2 r t p) = frT t := by
 obtain ⟨m1, m2, m3, m4, m5⟩ := map_facts (vs_iff.2 h) ha
 obtain ⟨_, _, hi, _⟩ := page_facts ha
 by_cases h0 : rootAt r p < 0
 case neg =>
  have e1 : root2 r t p = r := if_neg h0
  have e2 : tabs2 r t p = t := if_neg h0
  rw [e1, e2]
  exact ⟨h, fun _ _ => rfl, h0, rfl⟩
 have e1 : root2 r t p = r.set (pgI p) t.length := if_pos h0
 have e2 : tabs2 r t p = t ++ [tab8] := if_pos h0
 have hp8 : pgI p < r.length := by have := h.root; omega
 have hrp : r[pgI p] = -1 := by
  have e3 : rootAt r p = r[pgI p] := by simp [rootAt, List.getD, List.getElem?_eq_getElem hp8]
  have := h.refs _ (List.getElem_mem hp8)
  omega
 have hcs : ∀ x : Int, x ≠ -1 → (r.set (pgI p) (t.length : Int)).count x = r.count x + if (t.length : Int) = x then 1 else 0 := by
  intro x hx
  rw [List.count_set hp8, hrp]
  simp only [beq_iff_eq]
  rw [if_neg (fun h => hx h.symm)]; omega
 have hlen : t.length ≤ 7 := by
  have hs := vs_iff.2 h
  rw [space_eq] at hs
  simp only [implS, Bool.and_eq_true] at hs
  have ho := hs.1.1.1.1.2
  simp only [orderB, decide_eq_true_eq] at ho
  have h1 : (usedOf r).length < r.length := by
   unfold usedOf
   refine List.length_filter_lt_length_iff_exists.2 ⟨-1, ?_, by simp⟩
   rw [← hrp]; exact List.getElem_mem hp8
  have := h.root
  omega
 have hz : r.count (t.length : Int) = 0 := by
  rw [List.count_eq_zero]
  intro hm
  have := h.refs _ hm
  omega
 have hf : frT (t ++ [tab8]) = frT t := by
  simp only [frT, List.flatMap_append, List.flatMap_cons, List.flatMap_nil, List.append_nil]
  rw [show frE tab8 = [] from rfl, List.append_nil]
 have hv : Vs (root2 r t p) (tabs2 r t p) b := by
  refine ⟨m1, ?_, m2, ?_, m3, ?_, ?_, h.buf, h.bok⟩
  ·rw [e2]; simp; omega
  ·intro i hi2
   rw [e1, hcs _ (by omega)]
   rw [e2] at hi2
   simp only [List.length_append, List.length_cons, List.length_nil] at hi2
   by_cases he : i = t.length
   ·subst he; rw [hz, if_pos rfl]
   ·rw [if_neg (by omega), h.cnt i (by omega)]
  ·intro x hx e he
   rw [e2] at hx
   rcases List.mem_append.1 hx with hx | hx
   ·exact h.ents x hx e he
   ·rw [List.mem_singleton] at hx; subst hx
    have : e = emptyEn := by
     have : ∀ y ∈ tab8, y = emptyEn := by
      intro y hy
      simp only [tab8, List.mem_cons, List.not_mem_nil, or_false, or_self] at hy
      exact hy
     exact this e he
    subst this; rfl
  ·rw [e2, hf]; exact h.nod
 refine ⟨hv, fun q hq => ?_, m4, by rw [e2, hf]⟩
 rw [e1, e2]
 obtain ⟨_, _, hqi, hqj⟩ := page_facts hq
 have hq8 : pgI q < r.length := by have := h.root; omega
 by_cases hpq : pgI q = pgI p
 ·have a1 : rootAt (r.set (pgI p) (t.length : Int)) q = (t.length : Int) := by
   unfold rootAt; rw [hpq]; exact getD_set_self r _ hp8 _ 0
  have a2 : rootAt r q = rootAt r p := by unfold rootAt; rw [hpq]
  have a3 : ¬ (t.length : Int) < 0 := by omega
  simp only [walkS, a1, if_neg a3, a2, if_pos h0]
  unfold rowAt
  rw [a1]
  simp only [Int.toNat_natCast, List.getD, List.getElem?_append_right (Nat.le_refl _), Nat.sub_self, List.getElem?_cons_zero, Option.getD_some]
  have : ∀ j, j < 8 → tab8[j]?.getD (0, false, false, false, ()) = emptyEn := by decide
  exact this _ hqj
 ·have a1 : rootAt (r.set (pgI p) (t.length : Int)) q = rootAt r q := by
   unfold rootAt
   simp only [List.getD, List.getElem?_set_ne (show pgI p ≠ pgI q from fun x => hpq x.symm)]
  simp only [walkS, a1]
  by_cases hq0 : rootAt r q < 0
  ·rw [if_pos hq0, if_pos hq0]
  ·rw [if_neg hq0, if_neg hq0]
   obtain ⟨k1, k2, k3⟩ := root_facts h.root hqi h.refs h.rows hq0
   unfold rowAt
   rw [a1]
   simp only [List.getD]
   rw [List.getElem?_append_left k1]
theorem Vs.map {r : List Int} {t : List (List En)} {b : List Ca} {p f : Int} {w : Bool} (h : mapC r t b p f = true) : Vs (root2 r t p) (mapT r t p f w) b ∧ ∀ q, addrB q = true → walkS (root2 r t p) (mapT r t p f w) q = if q = p then (f, w, false, false, ()) else walkS r t q := by
 simp only [mapC, Bool.and_eq_true, decide_eq_true_eq, Bool.not_eq_true', List.any_eq_false] at h
 obtain ⟨⟨⟨⟨h1, ha⟩, hfr⟩, hw⟩, hn⟩ := h
 obtain ⟨g1, g2, g3, g4⟩ := (vs_iff.1 h1).grow ha
 have hv : Vs (root2 r t p) (mapT r t p f w) b := by
  refine g1.put ha g3 (by simp [entB, hfr]) ?_
  obtain ⟨A, B, k1, k2⟩ := put_parts ha g1.fit g3
  have k0 : fr1 (walkS (root2 r t p) (tabs2 r t p) p) = [] := by rw [g2 p ha]; unfold fr1; rw [if_neg (by omega)]
  rw [k0, List.append_nil, g4] at k1
  have hnod := (vs_iff.1 h1).nod
  rw [k2]
  have hf0 : 0 ≤ f := by simp only [frameB, decide_eq_true_eq] at hfr; exact hfr.1
  have k3 : fr1 (f, w, false, false, ()) = [f] := by unfold fr1; rw [if_pos hf0]
  rw [k3]
  have hm : f ∉ A ++ B := by rw [← k1]; intro hm; exact hn f hm rfl
  rw [k1] at hnod
  have hp : (A ++ [f] ++ B).Perm (f :: (A ++ B)) := by
   rw [List.append_assoc]; exact List.perm_middle
  exact hp.nodup_iff.2 (List.nodup_cons.2 ⟨hm, hnod⟩)
 refine ⟨hv, fun q hq => ?_⟩
 unfold mapT
 rw [walk_put g1 ha hq g3]
 split
 ·rfl
 ·exact g2 q hq
attribute [local go_sem] Nat.reduceAdd Nat.reduceSub Nat.reduceMul Nat.reduceMod Nat.reduceLT Nat.reduceLeDiff Nat.reduceEqDiff Nat.reduceBEq Nat.reduceDiv Int.reduceLT Int.reduceLE Int.reduceToNat Int.reduceNeg Int.reduceEq reduceCtorEq
attribute [local go_sem ↓] reduceIte reduceDIte
abbrev BY (bs : List Int) : AV := .d (.slice (.int .u8)) bs
abbrev SRC (bs : List Int) (at_ : Nat) (seed : Int) : Heap := [(1000000, .box [BY bs, I at_, .d (.int .u64) seed])]
def okBy (bs : List Int) : Prop := bs.length ≤ 1000000000 ∧ ∀ x ∈ bs, 0 ≤ x ∧ x ≤ 255
theorem and_byte (y : Int) : 0 ≤ bitsOf .and .u64 y 255 ∧ bitsOf .and .u64 y 255 ≤ 255 := by
 have h : bitsOf .and .u64 y 255 = IntKind.u64.wrap ((BitVec.ofInt 64 y &&& BitVec.ofInt 64 255).toNat : Int) := rfl
 have h1 : (BitVec.ofInt 64 y &&& BitVec.ofInt 64 255).toNat ≤ 255 := by
  rw [BitVec.toNat_and]
  exact Nat.and_le_right
 rw [h, wrap_u64] <;> omega
theorem call_next (bs : List Int) (hb : okBy bs) (at_ : Nat) (ha : at_ ≤ 1000000) (seed : Int) : ∃ v seed', (0 ≤ v ∧ v ≤ 255) ∧ callOf pr 122 [.op 1000000 0] (SRC bs at_ seed) = some (I v, SRC bs (at_ + 1) seed') := by
 rw [call_eq pr 122 _ _ Tryz.f122 fn_122 _ rfl _ ann_122 rfl]
 have hw1 : IntKind.i64.wrap ((at_ : Int) + 1) = ((at_ + 1 : Nat) : Int) := by rw [wrap_i] <;> omega
 by_cases h : at_ < bs.length
 ·have hx : ∀ z, bs.getD at_ z = bs[at_] := fun z => getD_of_lt h z
  have hr := hb.2 _ (List.getElem_mem h)
  generalize bs[at_] = x at *
  have hw2 : IntKind.i64.wrap x = x := by rw [wrap_i] <;> omega
  have hle : (((at_ + 1 : Nat) : Int) ≤ (bs.length : Int)) = True := tr (by omega)
  refine ⟨x, IntKind.u64.wrap (IntKind.u64.wrap (IntKind.u64.wrap (seed * 6364136223846793005) + IntKind.u64.wrap x) + 1442695040888963407), hr, ?_⟩
  simp -implicitDefEqProofs only [lt_cast h, tr h, zero_le_cast, Int.toNat_natCast, hx, hw1, hw2, hle, go_sem]
 ·have h1 : ((at_ : Int) < (bs.length : Int)) = False := fa (by omega)
  have hle : (((at_ + 1 : Nat) : Int) ≤ (bs.length : Int)) = False := fa (by omega)
  have hr := and_byte ((IntKind.u64.wrap (IntKind.u64.wrap (IntKind.u64.wrap (seed * 6364136223846793005) + IntKind.u64.wrap 0) + 1442695040888963407)).fdiv (2 ^ min 40 64))
  generalize hB : bitsOf .and .u64 ((IntKind.u64.wrap (IntKind.u64.wrap (IntKind.u64.wrap (seed * 6364136223846793005) + IntKind.u64.wrap 0) + 1442695040888963407)).fdiv (2 ^ min 40 64)) 255 = bv at hr
  have hw2 : IntKind.i64.wrap bv = bv := by rw [wrap_i] <;> omega
  refine ⟨bv, IntKind.u64.wrap (IntKind.u64.wrap (IntKind.u64.wrap (seed * 6364136223846793005) + IntKind.u64.wrap 0) + 1442695040888963407), hr, ?_⟩
  simp -implicitDefEqProofs only [h1, zero_le_cast, Int.toNat_natCast, hw1, hle, go_sem]
  rw [hB, hw2]
theorem call_pick (bs : List Int) (hb : okBy bs) (at_ : Nat) (ha : at_ ≤ 1000000) (seed : Int) (m : Int) (hm : 1 ≤ m ∧ m ≤ 200) : ∃ (v : Int) (at' : Nat) (seed' : Int), (0 ≤ v ∧ v < m) ∧ at' ≤ at_ + 1 ∧ callOf pr 65 [.op 1000000 0, I m] (SRC bs at_ seed) = some (I v, SRC bs at' seed') := by
 rw [call_eq pr 65 _ _ Tryz.f65 fn_65 _ rfl _ ann_65 rfl]
 by_cases h1 : m ≤ 1
 ·refine ⟨0, at_, seed, by omega, by omega, ?_⟩
  simp -implicitDefEqProofs only [tr h1, go_sem]
 ·obtain ⟨v, seed', hv, hn⟩ := call_next bs hb at_ ha seed
  have h0 : ¬ m = 0 := by omega
  have h2 : ¬ 200 < m := by omega
  have ht : v.tmod m = v % m := Int.tmod_eq_emod_of_nonneg (by omega)
  have r1 := Int.emod_nonneg v h0
  have r2 := Int.emod_lt_of_pos v (show 0 < m by omega)
  have hw : IntKind.i64.wrap (v % m) = v % m := by rw [wrap_i] <;> omega
  refine ⟨v % m, at_ + 1, seed', ⟨r1, r2⟩, by omega, ?_⟩
  simp -implicitDefEqProofs only [fa h1, hn, fa h0, fa h2, gt_iff_lt, ht, hw, go_sem]
theorem call_one (bs : List Int) (hb : okBy bs) (at_ : Nat) (ha : at_ ≤ 900000) (seed : Int) (m : Int) (hm : 1 ≤ m ∧ m ≤ 200) : ∃ (q : Bool) (at' : Nat) (seed' : Int), at' ≤ at_ + 1 ∧ callOf pr 120 [.op 1000000 0, I m] (SRC bs at_ seed) = some (B q, SRC bs at' seed') := by
 obtain ⟨v, a1, s1, hv, ha1, h1⟩ := call_pick bs hb at_ (by omega) seed m hm
 refine ⟨decide (v = 0), a1, s1, ha1, ?_⟩
 rw [call_eq pr 120 _ _ Tryz.f120 fn_120 _ rfl _ ann_120 rfl]
 simp -implicitDefEqProofs only [h1, go_sem]
theorem call_am (bs : List Int) (hb : okBy bs) (at_ : Nat) (ha : at_ ≤ 900000) (seed : Int) (xs : List Int) (hx : 1 ≤ xs.length ∧ xs.length ≤ 200) : ∃ (x : Int) (at' : Nat) (seed' : Int), x ∈ xs ∧ at' ≤ at_ + 1 ∧ callOf pr 66 [.op 1000000 0, L xs] (SRC bs at_ seed) = some (I x, SRC bs at' seed') := by
 obtain ⟨v, a1, s1, hv, ha1, h1⟩ := call_pick bs hb at_ (by omega) seed (xs.length : Int) (by omega)
 have hlt : v.toNat < xs.length := by omega
 have k1 : (0 ≤ v) = True := tr hv.1
 have k2 : (v < (xs.length : Int)) = True := tr hv.2
 have k3 : (v.toNat < xs.length) = True := tr hlt
 have hg : ∀ z, xs.getD v.toNat z = xs[v.toNat] := fun z => by rw [List.getD_eq_getElem?_getD, List.getElem?_eq_getElem hlt]; rfl
 refine ⟨xs[v.toNat], a1, s1, List.getElem_mem hlt, ha1, ?_⟩
 rw [call_eq pr 66 _ _ Tryz.f66 fn_66 _ rfl _ ann_66 rfl]
 simp -implicitDefEqProofs only [h1, k1, k2, k3, hg, go_sem]
theorem loop_new : ∀ (n k : Nat), k + n = 8 → loopOf pr 118 0 ⟨[(0, .op 0 0), (1, .op 64 0), (2, I k)], [(0, .box [.nilS, .nilS, .nilS]), (192, .arr true false (.int .i64) (List.replicate k (-1))), (256, .arr true true (.slice tyE) []), (320, .arr true false tyC []), (64, .box [.os (.t 192), .os (.t 256), .os (.t 320)])]⟩ = some (.exit 0, ⟨[(0, .op 0 0), (1, .op 64 0), (2, I 8)], [(0, .box [.nilS, .nilS, .nilS]), (192, .arr true false (.int .i64) (List.replicate 8 (-1))), (256, .arr true true (.slice tyE) []), (320, .arr true false tyC []), (64, .box [.os (.t 192), .os (.t 256), .os (.t 320)])]⟩)
 | 0, k, h => by
  obtain rfl : k = 8 := by omega
  rw [loop_eq pr 118 0 _ Tryz.f118 fn_118 _ rfl _ ann_118 _ rfl]
  simp -implicitDefEqProofs only [show (((8 : Nat) : Int) < 8) = False from fa (by omega), go_sem]
  rfl
 | n + 1, k, h => by
  have hlt : ((k : Int) < 8) = True := tr (by omega)
  have hw : IntKind.i64.wrap ((k : Int) + 1) = ((k + 1 : Nat) : Int) := by rw [wrap_i] <;> omega
  have hr : ((k + 1) * 8 ≤ 140737488355328 ∧ k ≤ 9223372036854775806) = True := tr ⟨by omega, by omega⟩
  have e : List.replicate k (-1 : Int) ++ [-1] = List.replicate (k + 1) (-1) := by rw [List.replicate_succ']
  have ih := loop_new n (k + 1) (by omega)
  rw [loop_eq pr 118 0 _ Tryz.f118 fn_118 _ rfl _ ann_118 _ rfl]
  simp -implicitDefEqProofs only [hlt, hw, hr, List.length_replicate, e, go_sem]
  exact ih
abbrev r0 : List Int := List.replicate 8 (-1)
theorem call_new : callOf pr 118 [] [] = some (.agg [.os (.t 192), .os (.t 256), .os (.t 320)], [(192, .arr true false (.int .i64) r0), (256, .arr true true (.slice tyE) []), (320, .arr true false tyC [])]) := by
 have h := loop_new 8 0 rfl
 have h : loopOf pr 118 0 ⟨[(0, .op 0 0), (1, .op 64 0), (2, I 0)], [(0, .box [.nilS, .nilS, .nilS]), (192, .arr true false (.int .i64) []), (256, .arr true true (.slice tyE) []), (320, .arr true false tyC []), (64, .box [.os (.t 192), .os (.t 256), .os (.t 320)])]⟩ = _ := h
 rw [call_eq pr 118 _ _ Tryz.f118 fn_118 _ rfl _ ann_118 rfl]
 simp -implicitDefEqProofs only [h, go_sem]
theorem vs_new : Vs r0 [] [] := vs_iff.1 (by decide)
theorem call_wp (r : List Int) (t : List (List En)) (b : List Ca) (h : Vs r t b) (p : Int) (ha : addrB p = true) : callOf pr 31 [.agg [L r, LLE t, LC b], I p] [] = some (if (walkS r t p).1 < 0 then .tuple [agE (0, false, false, false, ()), B false] else .tuple [agE (walkS r t p), B true], []) := by
 have h1 := call_ip r t b p (by have := h.root; omega) (by have := h.few; omega) (fun x hx => by rw [h.rows x hx]; omega) (by have := h.buf; omega)
 rw [vs_iff.2 h, ha] at h1
 have h2 := call_mp r t b p ha h.root h.refs h.rows
 rw [call_eq pr 31 _ _ Tryz.f31 fn_31 _ rfl _ ann_31 rfl]
 by_cases he : (walkS r t p).1 < 0
 ·rw [if_pos he] at h2 ⊢
  simp -implicitDefEqProofs only [h1, h2, Bool.true_and, go_sem]
 ·rw [if_neg he] at h2 ⊢
  simp -implicitDefEqProofs only [h1, h2, Bool.true_and, go_sem]
theorem call_long (a b : List Int) : callOf pr 24 [BY a, BY b] [] = some (B (decide (48 < (a.length : Int)) || decide (48 < (b.length : Int))), []) := by
 rw [call_eq pr 24 _ _ Tryz.f24 fn_24 _ rfl _ ann_24 rfl]
 by_cases h : 48 < (a.length : Int)
 ·rw [decide_eq_true h, Bool.true_or]
  simp -implicitDefEqProofs only [gt_iff_lt, tr h, go_sem]
 ·rw [decide_eq_false h, Bool.false_or]
  simp -implicitDefEqProofs only [gt_iff_lt, fa h, go_sem]
theorem call_at (bs : List Int) (hb : okBy bs) (i : Int) (hi : 0 ≤ i) (m : Int) (hm : 1 ≤ m ∧ m ≤ 1000) : ∃ v : Int, (0 ≤ v ∧ v < m) ∧ callOf pr 26 [BY bs, I i, I m] [] = some (I v, []) := by
 rw [call_eq pr 26 _ _ Tryz.f26 fn_26 _ rfl _ ann_26 rfl]
 by_cases h1 : m ≤ 1
 ·refine ⟨0, by omega, ?_⟩
  simp -implicitDefEqProofs only [tr h1, go_sem]
 ·by_cases h2 : (bs.length : Int) ≤ i
  ·refine ⟨0, by omega, ?_⟩
   simp -implicitDefEqProofs only [fa h1, tr h2, ge_iff_le, go_sem]
  ·have hlt : i.toNat < bs.length := by omega
   have hr := hb.2 _ (List.getElem_mem hlt)
   have hg : bs.getD i.toNat 0 = bs[i.toNat] := getD_of_lt hlt 0
   generalize bs[i.toNat] = x at *
   have h0 : ¬ m = 0 := by omega
   have hw2 : IntKind.i64.wrap x = x := by rw [wrap_i] <;> omega
   have ht : x.tmod m = x % m := Int.tmod_eq_emod_of_nonneg (by omega)
   have r1 := Int.emod_nonneg x h0
   have r2 := Int.emod_lt_of_pos x (show 0 < m by omega)
   have h3 : (i < (bs.length : Int)) = True := tr (by omega)
   refine ⟨x % m, ⟨r1, r2⟩, ?_⟩
   have hw3 : IntKind.i64.wrap (x % m) = x % m := by rw [wrap_i] <;> omega
   simp -implicitDefEqProofs only [fa h1, fa h2, ge_iff_le, tr hi, h3, fa h0, hg, hw2, ht, hw3, go_sem]
theorem call_from (bs : List Int) : callOf pr 62 [BY bs] [] = some (.op 320 0, [(320, .box [BY bs, I 0, .d (.int .u64) 0])]) := by
 rw [call_eq pr 62 _ _ Tryz.f62 fn_62 _ rfl _ ann_62 rfl]
 simp -implicitDefEqProofs only [go_sem]
abbrev SB (bs : List Int) (at_ : Nat) (seed : Int) : Go.Q.Obj := .box [BY bs, I at_, .d (.int .u64) seed]
abbrev DT (kinds n : Int) : Slots := [(0, .op 1000000 0), (2, .op 128 0), (3, .op 192 0), (4, I kinds), (5, I n)]
abbrev DH (bs : List Int) (at_ : Nat) (seed : Int) (r : List Int) (t : List (List En)) (b : List Ca) : Heap := [(1000000, SB bs at_ seed), (128, .box [.nilS, .nilS, .nilS]), (192, .box [.os (.t 193), .os (.t 194), .os (.t 195)]), (193, .arr true false (.int .i64) r), (194, .arr true true (.slice tyE) t), (195, .arr true false tyC b)]
theorem loop_d0 (bs : List Int) (hb : okBy bs) (kinds : Int) (hk : 1 ≤ kinds ∧ kinds ≤ 3) : ∀ (n at_ : Nat) (seed : Int) (r : List Int) (t : List (List En)) (b : List Ca), n ≤ 20 → at_ + 3 * n ≤ 1000 → Vs r t b →
  ∃ (at' : Nat) (seed' : Int) (r' : List Int) (t' : List (List En)), at' ≤ at_ + 3 * n ∧ Vs r' t' b ∧ loopOf pr 63 0 ⟨DT kinds n, DH bs at_ seed r t b⟩ = some (.exit 0, ⟨DT kinds 0, DH bs at' seed' r' t' b⟩)
 | 0, at_, seed, r, t, b, hn, ha, hv => by
  refine ⟨at_, seed, r, t, by omega, hv, ?_⟩
  rw [loop_eq pr 63 0 _ Tryz.f63 fn_63 _ rfl _ ann_63 _ rfl]
  simp -implicitDefEqProofs only [Int.natCast_zero, gt_iff_lt, Int.lt_irrefl, go_sem]
 | n + 1, at_, seed, r, t, b, hn, ha, hv => by
  have hp : (((n + 1 : Nat) : Int) > 0) = True := tr (by omega)
  have hw1 : IntKind.i64.wrap (((n + 1 : Nat) : Int) - 1) = (n : Int) := by rw [wrap_i] <;> omega
  have hw2 : IntKind.i64.wrap (kinds * 8) = kinds * 8 := by rw [wrap_i] <;> omega
  have hw3 : IntKind.i64.wrap (kinds * 8 + 2) = kinds * 8 + 2 := by rw [wrap_i] <;> omega
  obtain ⟨p, a1, s1, hp1, ha1, h1⟩ := call_pick bs hb at_ (by omega) seed (kinds * 8 + 2) (by omega)
  obtain ⟨f, a2, s2, hf, ha2, h2⟩ := call_pick bs hb a1 (by omega) s1 16 (by omega)
  obtain ⟨w, a3, s3, ha3, h3⟩ := call_one bs hb a2 (by omega) s2 2 (by omega)
  have hm : p.tmod 64 = p := by rw [Int.tmod_eq_emod_of_nonneg hp1.1]; exact Int.emod_eq_of_lt hp1.1 (by omega)
  have hw4 : IntKind.i64.wrap p = p := by rw [wrap_i] <;> omega
  have h4 := call_sm r t b p f w (by have := hv.buf; omega)
  cases hc : mapC r t b p f with
  | false =>
   rw [hc, if_neg (by simp)] at h4
   obtain ⟨at', seed', r', t', k1, k2, k3⟩ := loop_d0 bs hb kinds hk n a3 s3 r t b (by omega) (by omega) hv
   refine ⟨at', seed', r', t', by omega, k2, ?_⟩
   rw [loop_eq pr 63 0 _ Tryz.f63 fn_63 _ rfl _ ann_63 _ rfl]
   simp -implicitDefEqProofs only [hp, hw1, hw2, hw3, hw4, hm, h1, h2, h3, h4, go_sem]
   exact k3
  | true =>
   rw [hc, if_pos rfl] at h4
   obtain ⟨at', seed', r', t', k1, k2, k3⟩ := loop_d0 bs hb kinds hk n a3 s3 (root2 r t p) (mapT r t p f w) b (by omega) (by omega) (Vs.map hc).1
   refine ⟨at', seed', r', t', by omega, k2, ?_⟩
   rw [loop_eq pr 63 0 _ Tryz.f63 fn_63 _ rfl _ ann_63 _ rfl]
   simp -implicitDefEqProofs only [hp, hw1, hw2, hw3, hw4, hm, h1, h2, h3, h4, go_sem]
   exact k3
def Pgs (r : List Int) (t : List (List En)) (ps : List Int) : Prop := ∀ x ∈ ps, addrB x = true ∧ 0 ≤ (walkS r t x).1
theorem pgs_those (r : List Int) (t : List (List En)) : Pgs r t (those (mapsB r t) 64) ∧ (those (mapsB r t) 64).length ≤ 64 := by
 refine ⟨fun x hx => ?_, those_length _ _⟩
 obtain ⟨k, rfl, h1, h2⟩ := those_in hx
 exact ⟨addr_nat h1, by simpa [mapsB] using h2⟩
theorem Pgs.use {r : List Int} {t : List (List En)} {b : List Ca} {ps : List Int} (h : Vs r t b) (hp : Pgs r t ps) (k : Int) {p : Int} (ha : addrB p = true) : Pgs r (useR r t b k p).2.2.1 ps := fun x hx => by
 obtain ⟨h1, h2⟩ := hp x hx
 rw [(use_same h k ha h1).1]; exact ⟨h1, h2⟩
abbrev DT2 (ps : List Int) (n : Int) : Slots := [(0, .op 1000000 0), (2, .op 128 0), (3, .op 192 0), (10, L ps), (11, I n)]
abbrev DH2 (bs : List Int) (at_ : Nat) (seed : Int) (r : List Int) (t : List (List En)) (b : List Ca) : Heap := [(1000000, SB bs at_ seed), (128, .box [.nilS, .nilS, .nilS]), (192, .box [.os (.t 193), .os (.t 194), .os (.t 195)]), (193, .arr true false (.int .i64) r), (194, .arr true true (.slice tyE) t), (195, .arr true false tyC b)]
theorem loop_d2 (bs : List Int) (hb : okBy bs) (ps : List Int) (hps : ps.length ≤ 64) (r : List Int) : ∀ (n at_ : Nat) (seed : Int) (t : List (List En)) (b : List Ca), n ≤ 20 → at_ + 2 * n ≤ 1000 → Vs r t b → Pgs r t ps →
  ∃ (m at' : Nat) (seed' : Int) (t' : List (List En)) (b' : List Ca), at' ≤ at_ + 2 * n ∧ Vs r t' b' ∧ Pgs r t' ps ∧ loopOf pr 63 1 ⟨DT2 ps n, DH2 bs at_ seed r t b⟩ = some (.exit 2, ⟨DT2 ps m, DH2 bs at' seed' r t' b'⟩)
 | 0, at_, seed, t, b, hn, ha, hv, hp => by
  refine ⟨0, at_, seed, t, b, by omega, hv, hp, ?_⟩
  rw [loop_eq pr 63 1 _ Tryz.f63 fn_63 _ rfl _ ann_63 _ rfl]
  simp -implicitDefEqProofs only [Int.natCast_zero, gt_iff_lt, Int.lt_irrefl, go_sem]
 | n + 1, at_, seed, t, b, hn, ha, hv, hp => by
  have hq : (((n + 1 : Nat) : Int) > 0) = True := tr (by omega)
  have hw1 : IntKind.i64.wrap (((n + 1 : Nat) : Int) - 1) = (n : Int) := by rw [wrap_i] <;> omega
  by_cases h0 : ps.length = 0
  ·have h0' : ((ps.length : Int) > 0) = False := fa (by omega)
   refine ⟨n + 1, at_, seed, t, b, by omega, hv, hp, ?_⟩
   rw [loop_eq pr 63 1 _ Tryz.f63 fn_63 _ rfl _ ann_63 _ rfl]
   simp -implicitDefEqProofs only [hq, h0', go_sem]
  ·have h0' : ((ps.length : Int) > 0) = True := tr (by omega)
   obtain ⟨k, a1, s1, hk, ha1, h1⟩ := call_pick bs hb at_ (by omega) seed 2 (by omega)
   obtain ⟨x, a2, s2, hx, ha2, h2⟩ := call_am bs hb a1 (by omega) s1 ps (by omega)
   have hxa := (hp x hx).1
   obtain ⟨m, at', seed', t', b', k1, k2, k3, k4⟩ := loop_d2 bs hb ps hps r n a2 s2 (useR r t b k x).2.2.1 (useR r t b k x).2.2.2 (by omega) (by omega) (hv.use k hxa) (Pgs.use hv hp k hxa)
   refine ⟨m, at', seed', t', b', by omega, k2, k3, ?_⟩
   rw [loop_eq pr 63 1 _ Tryz.f63 fn_63 _ rfl _ ann_63 _ rfl]
   rcases call_lu r t b k x hxa hv.fit with h4 | h4 | h4
   ·simp -implicitDefEqProofs only [hq, h0', h1, h2, h4, hw1, go_sem]
    exact k4
   ·simp -implicitDefEqProofs only [hq, h0', h1, h2, h4, hw1, go_sem]
    exact k4
   ·simp -implicitDefEqProofs only [hq, h0', h1, h2, h4, hw1, go_sem]
    exact k4
theorem ent_toggle {f : Int} {w u d : Bool} (h : entB (f, w, u, d, ()) = true) (h0 : 0 ≤ f) : entB (f, !w, u, d, ()) = true := by
 simp only [entB, emptyE, Bool.or_eq_true, Bool.and_eq_true, decide_eq_true_eq] at h ⊢
 rcases h with h | h
 ·exact absurd h.1.1.1 (by omega)
 ·exact .inr h
theorem call_do (bs : List Int) (hb : okBy bs) (at_ : Nat) (ha : at_ ≤ 100) (seed : Int) : ∃ (at' : Nat) (seed' : Int) (r : List Int) (t : List (List En)) (b : List Ca), at' ≤ 200 ∧ Vs r t b ∧
  callOf pr 63 [.op 1000000 0] (SRC bs at_ seed) = some (.agg [.os (.t 193), .os (.t 194), .os (.t 195)], [(1000000, SB bs at' seed'), (193, .arr true false (.int .i64) r), (194, .arr true true (.slice tyE) t), (195, .arr true false tyC b)]) := by
 obtain ⟨v1, a1, s1, hv1, ha1, h1⟩ := call_pick bs hb at_ (by omega) seed 3 (by omega)
 obtain ⟨v2, a2, s2, hv2, ha2, h2⟩ := call_pick bs hb a1 (by omega) s1 9 (by omega)
 obtain ⟨n2, rfl⟩ : ∃ n : Nat, v2 = n := ⟨v2.toNat, by omega⟩
 have hw : IntKind.i64.wrap (1 + v1) = 1 + v1 := by rw [wrap_i] <;> omega
 obtain ⟨a3, s3, r, t, ha3, hV, h3⟩ := loop_d0 bs hb (1 + v1) (by omega) n2 a2 s2 r0 [] [] (by omega) (by omega) vs_new
 have h4 := call_mpd r t [] hV.root hV.refs hV.rows
 obtain ⟨hP, hPl⟩ := pgs_those r t
 obtain ⟨v3, a4, s4, hv3, ha4, h5⟩ := call_pick bs hb a3 (by omega) s3 5 (by omega)
 obtain ⟨n3, rfl⟩ : ∃ n : Nat, v3 = n := ⟨v3.toNat, by omega⟩
 obtain ⟨m, a5, s5, t', b', ha5, hV2, hP2, h6⟩ := loop_d2 bs hb _ hPl r n3 a4 s4 t [] (by omega) (by omega) hV hP
 by_cases h0 : (those (mapsB r t) 64).length = 0
 ·have h0' : (((those (mapsB r t) 64).length : Int) > 0) = False := fa (by omega)
  refine ⟨a5, s5, r, t', b', by omega, hV2, ?_⟩
  rw [call_eq pr 63 _ _ Tryz.f63 fn_63 _ rfl _ ann_63 rfl]
  simp -implicitDefEqProofs only [h1, h2, call_new, hw, h3, h4, h5, h6, h0', go_sem]
 ·have h0' : (((those (mapsB r t) 64).length : Int) > 0) = True := tr (by omega)
  obtain ⟨q, a6, s6, ha6, h7⟩ := call_one bs hb a5 (by omega) s5 5 (by omega)
  cases q with
  | false =>
   refine ⟨a6, s6, r, t', b', by omega, hV2, ?_⟩
   rw [call_eq pr 63 _ _ Tryz.f63 fn_63 _ rfl _ ann_63 rfl]
   simp -implicitDefEqProofs only [h1, h2, call_new, hw, h3, h4, h5, h6, h0', h7, go_sem]
  | true =>
   obtain ⟨x, a7, s7, hx, ha7, h8⟩ := call_am bs hb a6 (by omega) s6 (those (mapsB r t) 64) (by omega)
   obtain ⟨q2, a8, s8, ha8, h9⟩ := call_one bs hb a7 (by omega) s7 2 (by omega)
   obtain ⟨hxa, hx0⟩ := hP2 x hx
   have hroot := walk_pos (show ¬ (walkS r t' x).1 < 0 by omega)
   have hput := call_pu r t' b' x hxa hV2.root hV2.refs hV2.rows (by have := hV2.buf; omega) (by have := hV2.few; omega) hroot
   cases q2 with
   | true =>
    refine ⟨a8, s8, r, putT r t' x emptyEn, b', by omega, hV2.none hxa hroot, ?_⟩
    rw [call_eq pr 63 _ _ Tryz.f63 fn_63 _ rfl _ ann_63 rfl]
    simp -implicitDefEqProofs only [h1, h2, call_new, hw, h3, h4, h5, h6, h0', h7, h8, h9, call_em, hput, go_sem]
   | false =>
    have h10 := call_wk r t' b' x hxa hV2.root hV2.refs hV2.rows
    obtain ⟨⟨ef, ew, eu, ed, ⟨⟩⟩, hE⟩ : ∃ e, walkS r t' x = e := ⟨_, rfl⟩
    obtain ⟨row, hr1, hr2⟩ := walk_mem hxa hV2.fit hroot
    have hent := hV2.ents row hr1 _ hr2
    rw [hE] at h10 hent hx0
    refine ⟨a8, s8, r, putT r t' x (ef, !ew, eu, ed, ()), b', by omega, hV2.same hxa hroot (ent_toggle hent hx0) (by rw [hE]), ?_⟩
    rw [call_eq pr 63 _ _ Tryz.f63 fn_63 _ rfl _ ann_63 rfl]
    simp -implicitDefEqProofs only [h1, h2, call_new, hw, h3, h4, h5, h6, h0', h7, h8, h9, h10, hput, go_sem]
abbrev RT8 (ps : List Int) (n : Int) : Slots := [(2, .op 128 0), (3, .op 768 0), (4, .op 256 0), (5, L ps), (6, I n)]
abbrev RH8 (bs : List Int) (at_ : Nat) (seed : Int) (r : List Int) (t : List (List En)) (b : List Ca) : Heap := [(128, .box [.nilS, .nilS, .nilS]), (768, SB bs at_ seed), (256, .box [.os (.t 257), .os (.t 258), .os (.t 259)]), (257, .arr true false (.int .i64) r), (258, .arr true true (.slice tyE) t), (259, .arr true false tyC b)]
theorem loop_r8s (bs : List Int) (hb : okBy bs) (ps : List Int) (hps : ps.length ≤ 64) (r : List Int) : ∀ (n at_ : Nat) (seed : Int) (t : List (List En)) (b : List Ca), n ≤ 20 → at_ + 2 * n ≤ 1000 → Vs r t b → Pgs r t ps → Agr r t b →
  ∃ (m at' : Nat) (seed' : Int) (t' : List (List En)) (b' : List Ca), Vs r t' b' ∧ Agr r t' b' ∧ loopOf pr 25 0 ⟨RT8 ps n, RH8 bs at_ seed r t b⟩ = some (.exit 0, ⟨RT8 ps m, RH8 bs at' seed' r t' b'⟩)
 | 0, at_, seed, t, b, hn, ha, hv, hp, hA => by
  refine ⟨0, at_, seed, t, b, hv, hA, ?_⟩
  rw [loop_eq pr 25 0 _ Tryz.f25 fn_25 _ rfl _ ann_25 _ rfl]
  simp -implicitDefEqProofs only [Int.natCast_zero, gt_iff_lt, Int.lt_irrefl, go_sem]
 | n + 1, at_, seed, t, b, hn, ha, hv, hp, hA => by
  have hq : (((n + 1 : Nat) : Int) > 0) = True := tr (by omega)
  have hw1 : IntKind.i64.wrap (((n + 1 : Nat) : Int) - 1) = (n : Int) := by rw [wrap_i] <;> omega
  by_cases h0 : ps.length = 0
  ·have h0' : ((ps.length : Int) > 0) = False := fa (by omega)
   refine ⟨n + 1, at_, seed, t, b, hv, hA, ?_⟩
   rw [loop_eq pr 25 0 _ Tryz.f25 fn_25 _ rfl _ ann_25 _ rfl]
   simp -implicitDefEqProofs only [hq, h0', go_sem]
  ·have h0' : ((ps.length : Int) > 0) = True := tr (by omega)
   obtain ⟨k, a1, s1, hk, ha1, h1⟩ := call_pick bs hb at_ (by omega) seed 2 (by omega)
   obtain ⟨x, a2, s2, hx, ha2, h2⟩ := call_am bs hb a1 (by omega) s1 ps (by omega)
   have hxa := (hp x hx).1
   obtain ⟨m, at', seed', t', b', k2, k3, k4⟩ := loop_r8s bs hb ps hps r n a2 s2 (useR r t b k x).2.2.1 (useR r t b k x).2.2.2 (by omega) (by omega) (hv.use k hxa) (Pgs.use hv hp k hxa) (hA.use hv k hxa)
   refine ⟨m, at', seed', t', b', k2, k3, ?_⟩
   rw [loop_eq pr 25 0 _ Tryz.f25 fn_25 _ rfl _ ann_25 _ rfl]
   rcases call_lu r t b k x hxa hv.fit with h4 | h4 | h4
   ·simp -implicitDefEqProofs only [hq, h0', h1, h2, h4, hw1, go_sem]
    exact k4
   ·simp -implicitDefEqProofs only [hq, h0', h1, h2, h4, hw1, go_sem]
    exact k4
   ·simp -implicitDefEqProofs only [hq, h0', h1, h2, h4, hw1, go_sem]
    exact k4
theorem Vs.empty {r : List Int} {t : List (List En)} {b : List Ca} (h : Vs r t b) : Vs r t [] := ⟨h.root, h.few, h.refs, h.cnt, h.rows, h.ents, h.nod, by simp, rfl⟩
theorem call_r8s (bs : List Int) (hb : okBy bs) : ∃ (r : List Int) (t : List (List En)) (b : List Ca), Vs r t b ∧ Agr r t b ∧
  callOf pr 25 [BY bs] [] = some (.agg [.os (.t 257), .os (.t 258), .os (.t 259)], [(257, .arr true false (.int .i64) r), (258, .arr true true (.slice tyE) t), (259, .arr true false tyC b)]) := by
 have h1 := call_from bs
 obtain ⟨a1, s1, r, t, b, ha1, hV, h2⟩ := call_do bs hb 0 (by omega) 0
 have h2 : callOf pr 63 [.op 1000000 0] [(1000000, .box [BY bs, I 0, .d (.int .u64) 0])] = _ := h2
 have h4 := call_mpd r t [] hV.root hV.refs hV.rows
 obtain ⟨hP, hPl⟩ := pgs_those r t
 obtain ⟨v, a2, s2, hv, ha2, h5⟩ := call_pick bs hb a1 (by omega) s1 5 (by omega)
 obtain ⟨n, rfl⟩ : ∃ n : Nat, v = n := ⟨v.toNat, by omega⟩
 obtain ⟨m, a3, s3, t', b', hV2, hA, h6⟩ := loop_r8s bs hb _ hPl r n a2 s2 t [] (by omega) (by omega) hV.empty hP (fun c hc => by cases hc)
 refine ⟨r, t', b', hV2, hA, ?_⟩
 rw [call_eq pr 25 _ _ Tryz.f25 fn_25 _ rfl _ ann_25 rfl]
 simp -implicitDefEqProofs only [h1, h2, h4, h5, h6, go_sem]
theorem kept_iff {b : List Ca} {p : Int} : (b.findIdx? (pageAt p)).isSome = b.any (pageAt p) := by
 rw [Bool.eq_iff_iff, List.findIdx?_isSome]
theorem use_nopage {r : List Int} {t : List (List En)} {b : List Ca} {k p : Int} (h : Vs r t b) (hA : Agr r t b) (he : (walkS r t p).1 < 0) : useR r t b k p = (2, -1, t, b) := by
 unfold useR
 split
 ·rw [if_pos he]
 ·rename_i i hf
  obtain ⟨f1, f2, f3⟩ := flush_some h.fit.one hf
  have hm : b.getD i zC ∈ b := by rw [List.getD_eq_getElem?_getD, List.getElem?_eq_getElem f2]; exact List.getElem_mem f2
  have := (hA _ hm).1
  rw [f3] at this; omega
theorem use_denied {r : List Int} {t : List (List En)} {b : List Ca} {k p : Int} (h : Vs r t b) (hA : Agr r t b) (he : ¬ (walkS r t p).1 < 0) (hw : (decide (k = 1) && !(walkS r t p).2.1) = true) : (useR r t b k p).1 = 3 ∧ (useR r t b k p).2.1 = -1 := by
 unfold useR
 split
 ·rw [if_neg he, if_pos hw]; exact ⟨rfl, rfl⟩
 ·rename_i i hf
  obtain ⟨f1, f2, f3⟩ := flush_some h.fit.one hf
  have hm : b.getD i zC ∈ b := by rw [List.getD_eq_getElem?_getD, List.getElem?_eq_getElem f2]; exact List.getElem_mem f2
  have hc := (hA _ hm).2.2
  rw [f3] at hc
  rw [← hc, if_pos hw]; exact ⟨rfl, rfl⟩
theorem use_made {r : List Int} {t : List (List En)} {b : List Ca} {k p : Int} (h : Vs r t b) (hA : Agr r t b) (ha : addrB p = true) (he : ¬ (walkS r t p).1 < 0) (hw : (decide (k = 1) && !(walkS r t p).2.1) = false) :
  (useR r t b k p).1 = (if b.any (pageAt p) = true then 0 else 1) ∧ (useR r t b k p).2.1 = (walkS r t p).1 ∧ walkS r (useR r t b k p).2.2.1 p = usedE (walkS r t p) (decide (k = 1)) ∧ ∃ c l, (useR r t b k p).2.2.2 = c :: l ∧ c.1 = p := by
 have hu : walkS r (usedT r t p (decide (k = 1))) p = usedE (walkS r t p) (decide (k = 1)) := by
  rw [walk_used h ha ha, if_pos ⟨rfl, he⟩]
 have hk := kept_iff (b := b) (p := p)
 unfold useR
 split
 ·rename_i hf
  rw [hf] at hk
  have hk : b.any (pageAt p) = false := hk.symm
  rw [if_neg he, if_neg (by rw [hw]; simp), hk, if_neg (by simp)]
  exact ⟨rfl, rfl, hu, _, _, rfl, rfl⟩
 ·rename_i i hf
  rw [hf] at hk
  have hk : b.any (pageAt p) = true := hk.symm
  obtain ⟨f1, f2, f3⟩ := flush_some h.fit.one hf
  have hm : b.getD i zC ∈ b := by rw [List.getD_eq_getElem?_getD, List.getElem?_eq_getElem f2]; exact List.getElem_mem f2
  obtain ⟨c1, c2, c3⟩ := hA _ hm
  rw [f3] at c1 c2 c3
  rw [← c3, if_neg (by rw [hw]; simp), hk, if_pos rfl]
  exact ⟨rfl, c2.symm, hu, _, _, rfl, f3⟩
end Go.Proofs.YtbapbghnageckaaGreat.PI
