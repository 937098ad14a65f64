/- An abstract interpreter of the translated code: how an abstract state changes with its world. -/
import Derived.Test.YtbapbghnageckaaGreatGQRel
namespace Go.Q
set_option linter.unusedVariables false
set_option linter.unusedSimpArgs false
set_option linter.unusedSectionVars false
open Go

theorem Slots.get_set (s : Slots) (t i : Nat) (v : AV) : (s.set t v).get i = if i = t then v else s.get i := by
 induction s with
 | nil => simp only [Slots.set, Slots.get, eq_comm]
 | cons p s ih =>
  obtain ⟨j, u⟩ := p
  simp only [Slots.set]
  split
  ·rename_i h; subst h
   by_cases e : i = j
   ·simp [Slots.get, e]
   ·have : ¬ j = i := fun h => e h.symm
    simp [Slots.get, e, this]
  ·split
   ·by_cases e : i = t
    ·simp [Slots.get, e]
    ·have : ¬ t = i := fun h => e h.symm
     simp [Slots.get, e, this]
   ·simp only [Slots.get, ih]
    by_cases h1 : j = i
    ·subst h1; simp_all
    ·simp [h1]

theorem Slots.get_drop (s : Slots) (t i : Nat) : (s.drop t).get i = if i = t then .undef else s.get i := by
 induction s with
 | nil => simp [Slots.drop, Slots.get]
 | cons p s ih =>
  obtain ⟨j, u⟩ := p
  simp only [Slots.drop]
  split
  ·rename_i h; subst h; rw [ih]
   by_cases e : i = j
   ·simp [e]
   ·have : ¬ j = i := fun h => e h.symm
    simp [Slots.get, e, this]
  ·simp only [Slots.get, ih]
   by_cases h1 : j = i
   ·subst h1; simp_all
   ·simp [h1]

theorem Slots.get_mapR (f : AV → AV) (s : Slots) (i : Nat) : (Slots.mapR f s).get i = (s.get i).mapR f := by
 induction s with
 | nil => simp [Slots.mapR, Slots.get, AV.mapR]
 | cons p s ih => obtain ⟨j, u⟩ := p; simp only [Slots.mapR, Slots.get, ih]; split <;> rfl

theorem Slots.mapR_id (s : Slots) : Slots.mapR (fun v => v) s = s := by
 induction s with
 | nil => rfl
 | cons p s ih => obtain ⟨j, u⟩ := p; simp only [Slots.mapR, ih, AV.mapR_id]

theorem Obj.mapR_id (o : Obj) : o.mapR (fun v => v) = o := by
 cases o <;> simp only [Obj.mapR, AV.mapRs_id]

theorem Heap.mapR_id (h : Heap) : Heap.mapR (fun v => v) h = h := by
 induction h with
 | nil => rfl
 | cons p h ih => obtain ⟨j, u⟩ := p; simp only [Heap.mapR, ih, Obj.mapR_id]

theorem Heap.get_put (h : Heap) (id i : Nat) (o : Obj) : (h.put id o).get i = if i = id then some o else h.get i := by
 induction h with
 | nil => simp only [Heap.put, Heap.get, eq_comm]
 | cons p h ih =>
  obtain ⟨j, u⟩ := p
  simp only [Heap.put]
  split
  ·rename_i h; subst h
   by_cases e : i = j
   ·simp [Heap.get, e]
   ·have : ¬ j = i := fun h => e h.symm
    simp [Heap.get, e, this]
  ·simp only [Heap.get, ih]
   by_cases h1 : j = i
   ·subst h1; simp_all
   ·simp [h1]

theorem Heap.get_mapR (f : AV → AV) (h : Heap) (i : Nat) : (Heap.mapR f h).get i = (h.get i).map (Obj.mapR f) := by
 induction h with
 | nil => rfl
 | cons p h ih => obtain ⟨j, u⟩ := p; simp only [Heap.mapR, Heap.get, ih]; split <;> rfl

theorem Obj.live_mapR (f : AV → AV) (o : Obj) : (o.mapR f).live = o.live := by cases o <;> rfl
theorem Obj.still_mapR (f : AV → AV) (o : Obj) : (o.mapR f).still = o.still := by cases o <;> rfl
structure Moved (S : Nat → Prop) (w w' : World) : Prop where
 os : w'.os = w.os
 tape : w'.tape = w.tape
 output : w'.output = w.output
 size : w.heap.size ≤ w'.heap.size
 block : ∀ b, b < w.heap.size → ¬ S b → w'.heap[b]? = w.heap[b]?

theorem Moved.refl (S : Nat → Prop) (w : World) : Moved S w w := ⟨rfl, rfl, rfl, Nat.le_refl _, fun _ _ _ => rfl⟩
theorem Moved.trans {S : Nat → Prop} {w w' w'' : World} (h : Moved S w w') (h' : Moved S w' w'') : Moved S w w'' :=
 ⟨h'.os.trans h.os, h'.tape.trans h.tape, h'.output.trans h.output, Nat.le_trans h.size h'.size, fun b hb hS => (h'.block b (Nat.lt_of_lt_of_le hb h.size) hS).trans (h.block b hb hS)⟩
theorem Moved.imp {S S' : Nat → Prop} {w w' : World} (h : Moved S w w') (hS : ∀ b, S b → S' b) : Moved S' w w' :=
 ⟨h.os, h.tape, h.output, h.size, fun b hb hn => h.block b hb (fun hs => hn (hS b hs))⟩
theorem Moved.drew (S : Nat → Prop) (w : World) : Moved S w { w with drawn := w.drawn + 1 } := ⟨rfl, rfl, rfl, Nat.le_refl _, fun _ _ _ => rfl⟩

def upd (σ : Nat → Option Own) (id : Nat) (ow : Own) : Nat → Option Own := fun i => if i = id then some ow else σ i
theorem upd_same (σ : Nat → Option Own) (id : Nat) (ow : Own) : upd σ id ow id = some ow := by simp [upd]
theorem upd_other {σ : Nat → Option Own} {id i : Nat} (ow : Own) (h : i ≠ id) : upd σ id ow i = σ i := by simp [upd, h]
theorem upd_self {σ : Nat → Option Own} {id : Nat} {ow : Own} (h : σ id = some ow) : upd σ id ow = σ := by
 funext i; simp only [upd]; split
 ·rename_i e; rw [e, h]
 ·rfl
theorem upd_knows {σ : Nat → Option Own} {id : Nat} (h : σ id = none) (ow : Own) : Knows σ (upd σ id ow) := by
 intro i o hi
 by_cases e : i = id
 ·subst e; rw [h] at hi; cases hi
 ·rw [upd_other ow e]; exact hi

theorem Arr.mono {w w' : World} {v : Value} {n sz : Nat} {cs : List Value} (hb : ∀ b, blockOf v = some b → w'.heap[b]? = w.heap[b]?) (h : Arr w v n sz cs) : Arr w' v n sz cs := by
 obtain ⟨hl, h⟩ := h
 refine ⟨hl, ?_⟩
 rcases h with h | ⟨b, o, cap, cells, e, rfl, h2, h3, h4, h5⟩
 ·exact .inl h
 ·by_cases hc : cap = 0
  ·subst hc
   obtain rfl : n = 0 := by omega
   exact .inl ⟨_, rfl, rfl⟩
  ·exact .inr ⟨b, o, cap, cells, e, rfl, by rw [hb b (by simp [blockOf, hc])]; exact h2, h3, h4, h5⟩

section
variable {I I' : Nat → Prop} {σ σ' : Nat → Option Own} {w w' : World}

theorem PlainArr.mono (hI : ∀ b, I b → I' b) (hw : ∀ b, I b → w'.heap[b]? = w.heap[b]?) {t : Ty} {xs : List t.Den} {v : Value} (hb : ∀ b, blockOf v = some b → w'.heap[b]? = w.heap[b]?) (h : PlainArr I w t xs v) : PlainArr I' w' t xs v := by
 obtain ⟨cs, h1, h2⟩ := h
 exact ⟨cs, h1.mono hb, fun i hi => DR.mono hI hw t _ _ (h2 i hi)⟩

theorem ER.mono (hI : ∀ b, I b → I' b) (hw : ∀ b, I b → w'.heap[b]? = w.heap[b]?) {inn : Nat → Option Hdr} (hb : ∀ off H b, inn off = some H → blockOf H.v = some b → w'.heap[b]? = w.heap[b]?) :
  ∀ (t : Ty) (off : Nat) (x : t.Den) (cs : List Value), ER I w inn t off x cs → ER I' w' inn t off x cs
 | .slice t, off, xs, cs, h => by
  obtain ⟨v, h1, h2, h3⟩ := h
  exact ⟨v, h1, h2, h3.mono hI hw (fun b hv => hb off _ b h2 hv)⟩
 | .cons a b, off, x, cs, h => by
  obtain ⟨c1, c2, e, h1, h2⟩ := h
  exact ⟨c1, c2, e, ER.mono hI hw hb a _ _ _ h1, ER.mono hI hw hb b _ _ _ h2⟩
 | .agg l, off, x, cs, h => ER.mono hI hw hb l off x cs h
 | .int k, _, x, cs, h => DR.mono hI hw (.int k) x cs h
 | .bool, _, x, cs, h => DR.mono hI hw .bool x cs h
 | .str, _, x, cs, h => DR.mono hI hw .str x cs h
 | .err, _, x, cs, h => DR.mono hI hw .err x cs h
 | .ptr t, _, x, cs, h => DR.mono hI hw (.ptr t) x cs h
 | .nil, _, x, cs, h => DR.mono hI hw .nil x cs h

theorem EltR.mono (hI : ∀ b, I b → I' b) (hw : ∀ b, I b → w'.heap[b]? = w.heap[b]?) {d : Bool} {inn : Nat → Option Hdr} (hb : d = true → ∀ off H b, inn off = some H → blockOf H.v = some b → w'.heap[b]? = w.heap[b]?) {t : Ty} {x : t.Den} {cs : List Value}
  (h : EltR I w d inn t x cs) : EltR I' w' d inn t x cs := by
 unfold EltR at h ⊢
 split at h
 ·rename_i hd; rw [if_pos hd]; exact ER.mono hI hw (hb hd) t 0 x cs h
 ·rename_i hd; rw [if_neg hd]; exact DR.mono hI hw t x cs h

theorem ArrOf.mono (hI : ∀ b, I b → I' b) (hw : ∀ b, I b → w'.heap[b]? = w.heap[b]?) {d : Bool} {inn : Nat → Nat → Option Hdr} {t : Ty} {xs : List t.Den} {v : Value} (hb : ∀ b, blockOf v = some b → w'.heap[b]? = w.heap[b]?)
  (hi : d = true → ∀ i off H b, inn i off = some H → blockOf H.v = some b → w'.heap[b]? = w.heap[b]?) (h : ArrOf I w d inn t xs v) : ArrOf I' w' d inn t xs v := by
 obtain ⟨cs, h1, h2⟩ := h
 exact ⟨cs, h1.mono hb, fun i hx => (h2 i hx).mono hI hw (fun hd => hi hd i)⟩

theorem KR.mono (hI : ∀ b, I b → I' b) (hw : ∀ b, I b → w'.heap[b]? = w.heap[b]?) {t : Ty} {x : t.Den} {v : Value} (h : KR I w t x v) : KR I' w' t x v := by
 unfold KR at h ⊢
 split
 ·rename_i ha
  rw [if_pos ha] at h
  obtain ⟨cs, h1, h2⟩ := h
  exact ⟨cs, h1, DR.mono hI hw t _ _ h2⟩
 ·rename_i ha
  rw [if_neg ha] at h
  exact DR.mono hI hw t _ _ h
theorem MapR.mono (hI : ∀ b, I b → I' b) (hw : ∀ b, I b → w'.heap[b]? = w.heap[b]?) {tk tv : Ty} : ∀ {kvs : List (tk.Den × tv.Den)} {es : List MapEntry}, MapR I w tk tv kvs es → MapR I' w' tk tv kvs es
 | [], _, h => h
 | (_, _) :: _, _, h => by
  obtain ⟨e, es', h1, h2, h3, h4⟩ := h
  exact ⟨e, es', h1, KR.mono hI hw h2, KR.mono hI hw h3, MapR.mono hI hw h4⟩

theorem ObjR.map (hI : ∀ b, I b → I' b) (hw : ∀ b, I b → w'.heap[b]? = w.heap[b]?) {ow : Own} {o : Obj} (hb : o.live = true → ∀ b, ow.has b → w'.heap[b]? = w.heap[b]?) (f : AV → AV)
  (hv : ∀ vs es, VRs I σ w vs es → VRs I' σ' w' (AV.mapRs f vs) es) (h : ObjR I σ w ow o) : ObjR I' σ' w' ow (o.mapR f) := by
 cases o with
 | dead => trivial
 | arr m d t xs =>
  obtain ⟨h1, h2, h3, h4⟩ := h
  exact ⟨h1, h2, h3, h4.mono hI hw (fun b hbl => hb rfl b (.inl hbl)) (fun _ i off H b h5 h6 => hb rfl b (.inr ⟨i, off, H, h5, h6⟩))⟩
 | box vs =>
  obtain ⟨h1, b, es, T, h2, h3, h4⟩ := h
  exact ⟨h1, b, es, T, h2, by rw [hb rfl b (.inl (by rw [h2]; rfl))]; exact h3, hv vs es h4⟩
 | mp tk tv kvs =>
  obtain ⟨h1, b, es, c, h2, h3, h4⟩ := h
  exact ⟨h1, b, es, c, h2, by rw [hb rfl b (.inl (by rw [h2]; rfl))]; exact h3, MapR.mono hI hw h4⟩
 | bld d T e s => exact BldR.moved h (hb rfl)

theorem ObjR.mono (hI : ∀ b, I b → I' b) (hw : ∀ b, I b → w'.heap[b]? = w.heap[b]?) {ow : Own} {o : Obj} (hb : o.live = true → ∀ b, ow.has b → w'.heap[b]? = w.heap[b]?) (hσ : Knows σ σ') (h : ObjR I σ w ow o) : ObjR I' σ' w' ow o := by
 have := ObjR.map hI hw hb (fun v => v) (fun vs es hv => by rw [AV.mapRs_id]; exact VRs.mono hI hw hσ vs es hv) h
 rwa [Obj.mapR_id] at this

theorem Live.put {h : Heap} {id b : Nat} {o : Obj} (hb : Live σ (h.put id o) b) : (∃ ow, o.live = true ∧ σ id = some ow ∧ ow.has b) ∨ ∃ i o' ow, i ≠ id ∧ h.get i = some o' ∧ o'.live = true ∧ σ i = some ow ∧ ow.has b := by
 obtain ⟨i, o', ow, h1, h2, h3, h4⟩ := hb
 rw [Heap.get_put] at h1
 split at h1
 ·rename_i e; cases h1; subst e; exact .inl ⟨ow, h2, h3, h4⟩
 ·rename_i e; exact .inr ⟨i, o', ow, e, h1, h2, h3, h4⟩
theorem Live.bury {h : Heap} {id b : Nat} (hb : Live σ (h.put id .dead) b) : ∃ i o' ow, i ≠ id ∧ h.get i = some o' ∧ o'.live = true ∧ σ i = some ow ∧ ow.has b := by
 rcases hb.put with ⟨ow, h1, _⟩ | h
 ·cases h1
 ·exact h
theorem Live.mapR {h : Heap} {b : Nat} {f : AV → AV} (hσ : ∀ id o, h.get id = some o → o.live = true → σ' id = σ id) (hb : Live σ' (h.mapR f) b) : Live σ h b := by
 obtain ⟨i, o', ow, h1, h2, h3, h4⟩ := hb
 rw [Heap.get_mapR, Option.map_eq_some_iff] at h1
 obtain ⟨o, k1, rfl⟩ := h1
 rw [Obj.live_mapR] at h2
 exact ⟨i, o, ow, k1, h2, by rw [← hσ i o k1 h2]; exact h3, h4⟩

variable {hp : Heap}
theorem HR.moved (h : HR I σ w hp) {S : Nat → Prop} (hm : Moved S w w') (hI : ∀ b, S b → ¬ I b) (hL : ∀ b, S b → ¬ Live σ hp b) : HR I σ w' hp := by
 have hw : ∀ b, I b → w'.heap[b]? = w.heap[b]? := fun b hb => hm.block b (h.lt b hb) (fun hs => hI b hs hb)
 refine ⟨fun id o hg => ?_, h.dom, fun b hb => ⟨(h.own b hb).1, Nat.lt_of_lt_of_le (h.own b hb).2 hm.size⟩, h.dist, fun b hb => Nat.lt_of_lt_of_le (h.lt b hb) hm.size⟩
 obtain ⟨ow, h1, h2⟩ := h.objs id o hg
 refine ⟨ow, h1, ObjR.mono (fun _ h => h) hw (fun hl b hb => ?_) (fun _ _ h => h) h2⟩
 have hlive : Live σ hp b := ⟨id, o, ow, hg, hl, h1, hb⟩
 exact hm.block b (h.own b hlive).2 (fun hs => hL b hs hlive)

theorem HR.bury (h : HR I σ w hp) {id : Nat} {o : Obj} (hg : hp.get id = some o) : HR I σ w (hp.put id .dead) := by
 have hget : ∀ i o', (hp.put id .dead).get i = some o' → (i = id ∧ o' = .dead) ∨ (i ≠ id ∧ hp.get i = some o') := by
  intro i o' hi
  rw [Heap.get_put] at hi
  split at hi
  ·rename_i e; cases hi; exact .inl ⟨e, rfl⟩
  ·rename_i e; exact .inr ⟨e, hi⟩
 refine ⟨fun i o' hi => ?_, fun i hi => ?_, fun b hb => ?_, fun i j oi oj owi owj b hij hi hj hli hlj hsi hsj hb => ?_, h.lt⟩
 ·rcases hget i o' hi with ⟨rfl, rfl⟩ | ⟨_, hi⟩
  ·obtain ⟨ow, k1, _⟩ := h.objs _ _ hg; exact ⟨ow, k1, trivial⟩
  ·exact h.objs i o' hi
 ·simp only [Heap.get_put] at hi
  split at hi
  ·cases hi
  ·exact h.dom i hi
 ·obtain ⟨i, o', ow, _, k1, k2, k3, k4⟩ := hb.bury
  exact h.own b ⟨i, o', ow, k1, k2, k3, k4⟩
 ·rcases hget i oi hi with ⟨rfl, rfl⟩ | ⟨_, hi⟩
  ·cases hli
  ·rcases hget j oj hj with ⟨rfl, rfl⟩ | ⟨_, hj⟩
   ·cases hlj
   ·exact h.dist i j oi oj owi owj b hij hi hj hli hlj hsi hsj hb

theorem HR.not_other (h : HR I σ w hp) {id : Nat} {o : Obj} {ow : Own} (hg : hp.get id = some o) (hl : o.live = true) (hs : σ id = some ow) {b : Nat} (hb : ow.has b) : ¬ Live σ (hp.put id .dead) b := by
 intro hx
 obtain ⟨i, o', ow', e, k1, k2, k3, k4⟩ := hx.bury
 exact h.dist i id o' o ow' ow b e k1 hg k2 hl k3 hs k4 hb

theorem HR.widen (h : HR I σ w hp) (hI : ∀ b, I b → I' b) (h2 : ∀ b, I' b → I b ∨ (b < w.heap.size ∧ ¬ Live σ hp b)) : HR I' σ w hp := by
 refine ⟨fun id o hg => ?_, h.dom, fun b hb => ⟨fun hi => ?_, (h.own b hb).2⟩, h.dist, fun b hb => ?_⟩
 ·obtain ⟨ow, k1, k2⟩ := h.objs id o hg
  exact ⟨ow, k1, ObjR.mono hI (fun _ _ => rfl) (fun _ _ _ => rfl) (fun _ _ h => h) k2⟩
 ·rcases h2 b hi with k | ⟨_, k⟩
  ·exact (h.own b hb).1 k
  ·exact k hb
 ·rcases h2 b hb with k | ⟨k, _⟩
  ·exact h.lt b k
  ·exact k

theorem HR.remap (h : HR I σ w hp) (f : AV → AV) (hf : ∀ v u, LR σ v u → VR I σ' w (f v) u) (hlive : ∀ id o, hp.get id = some o → o.live = true → σ' id = σ id)
  (hdead : ∀ id, hp.get id = some .dead → ∃ ow, σ' id = some ow) (hdom : ∀ id, hp.get id = none → σ' id = none) : HR I σ' w (hp.mapR f) := by
 have hget : ∀ i o', (hp.mapR f).get i = some o' → ∃ o, hp.get i = some o ∧ o' = o.mapR f := by
  intro i o' hi
  rw [Heap.get_mapR, Option.map_eq_some_iff] at hi
  obtain ⟨o, k1, k2⟩ := hi; exact ⟨o, k1, k2.symm⟩
 refine ⟨fun i o' hi => ?_, fun i hi => ?_, fun b hb => h.own b (hb.mapR hlive), fun i j oi oj owi owj b hij hi hj hli hlj hsi hsj hb => ?_, h.lt⟩
 ·obtain ⟨o, k1, rfl⟩ := hget i o' hi
  by_cases hl : o.live = true
  ·obtain ⟨ow, k2, k3⟩ := h.objs i o k1
   exact ⟨ow, by rw [hlive i o k1 hl]; exact k2, ObjR.map (fun _ h => h) (fun _ _ => rfl) (fun _ _ _ => rfl) f (fun vs es hv => VRs.map (fun _ h => h) (fun _ _ => rfl) f hf vs es hv) k3⟩
  ·have : o = .dead := by cases o <;> first | rfl | exact absurd rfl hl
   subst this
   obtain ⟨ow, k2⟩ := hdead i k1
   exact ⟨ow, k2, trivial⟩
 ·rw [Heap.get_mapR, Option.map_eq_none_iff] at hi; exact hdom i hi
 ·obtain ⟨o1, k1, rfl⟩ := hget i oi hi
  obtain ⟨o2, k2, rfl⟩ := hget j oj hj
  rw [Obj.live_mapR] at hli hlj
  rw [hlive i o1 k1 hli] at hsi
  rw [hlive j o2 k2 hlj] at hsj
  exact h.dist i j o1 o2 owi owj b hij k1 k2 hli hlj hsi hsj hb

theorem HR.addDead (h : HR I σ w hp) {id : Nat} (hg : hp.get id = none) (ow : Own) : HR I (upd σ id ow) w (hp.put id .dead) := by
 have hk := upd_knows (h.dom id hg) ow
 have hget : ∀ i o', (hp.put id .dead).get i = some o' → (i = id ∧ o' = .dead) ∨ (i ≠ id ∧ hp.get i = some o') := by
  intro i o' hi
  rw [Heap.get_put] at hi
  split at hi
  ·rename_i e; cases hi; exact .inl ⟨e, rfl⟩
  ·rename_i e; exact .inr ⟨e, hi⟩
 refine ⟨fun i o' hi => ?_, fun i hi => ?_, fun b hb => ?_, fun i j oi oj owi owj b hij hi hj hli hlj hsi hsj hb => ?_, h.lt⟩
 ·rcases hget i o' hi with ⟨rfl, rfl⟩ | ⟨e, hi⟩
  ·exact ⟨ow, upd_same _ _ _, trivial⟩
  ·obtain ⟨owi, k1, k2⟩ := h.objs i o' hi
   exact ⟨owi, hk _ _ k1, ObjR.mono (fun _ h => h) (fun _ _ => rfl) (fun _ _ _ => rfl) hk k2⟩
 ·rw [Heap.get_put] at hi
  split at hi
  ·cases hi
  ·rename_i e; rw [upd_other ow e]; exact h.dom i hi
 ·obtain ⟨i, o', owi, e, k1, k2, k3, k4⟩ := hb.bury
  rw [upd_other ow e] at k3
  exact h.own b ⟨i, o', owi, k1, k2, k3, k4⟩
 ·rcases hget i oi hi with ⟨rfl, rfl⟩ | ⟨ei, hi⟩
  ·cases hli
  ·rcases hget j oj hj with ⟨rfl, rfl⟩ | ⟨ej, hj⟩
   ·cases hlj
   ·rw [upd_other ow ei] at hsi
    rw [upd_other ow ej] at hsj
    exact h.dist i j oi oj owi owj b hij hi hj hli hlj hsi hsj hb

theorem HR.revive (h : HR I σ w hp) {id : Nat} {o : Obj} {ow : Own} (hg : hp.get id = some .dead) (hs : σ id = some ow) (ho : ObjR I σ w ow o) (hb : o.live = true → ∀ b, ow.has b → ¬ I b ∧ b < w.heap.size ∧ ¬ Live σ hp b) : HR I σ w (hp.put id o) := by
 have hget : ∀ i o', (hp.put id o).get i = some o' → (i = id ∧ o' = o) ∨ (i ≠ id ∧ hp.get i = some o') := by
  intro i o' hi
  rw [Heap.get_put] at hi
  split at hi
  ·rename_i e; cases hi; exact .inl ⟨e, rfl⟩
  ·rename_i e; exact .inr ⟨e, hi⟩
 refine ⟨fun i o' hi => ?_, fun i hi => ?_, fun b hx => ?_, fun i j oi oj owi owj b hij hi hj hli hlj hsi hsj hx hy => ?_, h.lt⟩
 ·rcases hget i o' hi with ⟨rfl, rfl⟩ | ⟨_, hi⟩
  ·exact ⟨ow, hs, ho⟩
  ·exact h.objs i o' hi
 ·rw [Heap.get_put] at hi
  split at hi
  ·cases hi
  ·exact h.dom i hi
 ·rcases hx.put with ⟨ow', k1, k2, k3⟩ | ⟨i, o', owi, _, k1, k2, k3, k4⟩
  ·rw [hs] at k2; cases k2; exact ⟨(hb k1 b k3).1, (hb k1 b k3).2.1⟩
  ·exact h.own b ⟨i, o', owi, k1, k2, k3, k4⟩
 ·rcases hget i oi hi with ⟨e1, e2⟩ | ⟨_, hi'⟩
  ·rcases hget j oj hj with ⟨e3, e4⟩ | ⟨_, hj'⟩
   ·exact hij (e1.trans e3.symm)
   ·rw [e1, hs] at hsi; cases hsi
    exact (hb (by rw [← e2]; exact hli) b hx).2.2 ⟨j, oj, owj, hj', hlj, hsj, hy⟩
  ·rcases hget j oj hj with ⟨e3, e4⟩ | ⟨_, hj'⟩
   ·rw [e3, hs] at hsj; cases hsj
    exact (hb (by rw [← e4]; exact hlj) b hy).2.2 ⟨i, oi, owi, hi', hli, hsi, hx⟩
   ·exact h.dist i j oi oj owi owj b hij hi' hj' hli hlj hsi hsj hx hy

end

structure Tr (L : Nat → Prop) (I : Nat → Prop) (σ : Nat → Option Own) (st : St) (w : World) (I' : Nat → Prop) (σ' : Nat → Option Own) (st' : St) (w' : World) : Prop where
 slots : ∀ i u, VR I σ w (st.tmps.get i) u → VR I' σ' w' (st'.tmps.get i) u
 hr : HR I' σ' w' st'.heap
 live : ∀ b, Live σ' st'.heap b → L b
 sub : ∀ b, I b → I' b
 src : ∀ b, I' b → I b ∨ L b
 mv : Moved L w w'
 still : ∀ id, lentFrom ≤ id → ∀ o', st'.heap.get id = some o' → o'.still = true → ∃ o, st.heap.get id = some o ∧ o.still = true ∧ ∀ ow, σ id = some ow → ∃ ow', σ' id = some ow' ∧ ow'.h = ow.h

section
variable {L : Nat → Prop} {I I' I'' : Nat → Prop} {σ σ' σ'' : Nat → Option Own} {st st' st'' : St} {w w' w'' : World}

theorem Tr.refl (h : HR I σ w st.heap) (hl : ∀ b, Live σ st.heap b → L b) : Tr L I σ st w I σ st w :=
 ⟨fun _ _ h => h, h, hl, fun _ h => h, fun _ h => .inl h, Moved.refl _ _, fun id _ o' ho hs => ⟨o', ho, hs, fun ow h => ⟨ow, h, rfl⟩⟩⟩

theorem Tr.trans (t : Tr L I σ st w I' σ' st' w') (t' : Tr L I' σ' st' w' I'' σ'' st'' w'') : Tr L I σ st w I'' σ'' st'' w'' := by
 refine ⟨fun i u h => t'.slots i u (t.slots i u h), t'.hr, t'.live, fun b h => t'.sub b (t.sub b h), fun b h => ?_, t.mv.trans t'.mv, fun id hid o'' ho hs => ?_⟩
 ·rcases t'.src b h with h | h
  ·exact t.src b h
  ·exact .inr h
 ·obtain ⟨o', k1, k2, k3⟩ := t'.still id hid o'' ho hs
  obtain ⟨o, m1, m2, m3⟩ := t.still id hid o' k1 k2
  refine ⟨o, m1, m2, fun ow how => ?_⟩
  obtain ⟨ow', n1, n2⟩ := m3 ow how
  obtain ⟨ow'', n3, n4⟩ := k3 ow' n1
  exact ⟨ow'', n3, n4.trans n2⟩

theorem Rel.tr {B : Base} {a : Act} (h : Rel B I σ st a w) (t : Tr (fun b => B.w0.heap.size ≤ b ∨ B.M b) I σ st w I' σ' st' w') : Rel B I' σ' st' a w' := by
 obtain ⟨f1, f2, f3, f4, f5⟩ := h.frame
 refine ⟨fun i => t.slots i _ (h.slots i), t.hr, t.live, fun b hb => ?_, fun b hb => t.sub b (h.keep b hb), fun id hid o' ho hs ow how => ?_, ⟨t.mv.os.trans f1, t.mv.tape.trans f2, t.mv.output.trans f3, Nat.le_trans f4 t.mv.size, fun k hk hM => ?_⟩, h.defers⟩
 ·rcases t.src b hb with hb | hb
  ·exact h.src b hb
  ·exact .inr hb
 ·obtain ⟨o, k1, k2, k3⟩ := t.still id hid o' ho hs
  obtain ⟨ow', m1, m2⟩ := h.still id hid o k1 k2 ow how
  obtain ⟨ow'', m3, m4⟩ := k3 ow' m1
  exact ⟨ow'', m3, m4.trans m2⟩
 ·rw [t.mv.block k (by omega) (fun hs => by rcases hs with hs | hs; omega; exact hM hs)]
  exact f5 k hk hM

theorem Heap.mapR_put (f : AV → AV) (id : Nat) (o : Obj) : ∀ (hp : Heap), Heap.mapR f (hp.put id o) = (Heap.mapR f hp).put id (o.mapR f)
 | [] => rfl
 | (i, o1) :: hp => by
  simp only [Heap.put]
  split
  ·rename_i e; subst e; simp [Heap.mapR, Heap.put]
  ·rename_i e; simp only [Heap.mapR, Heap.put, if_neg e, Heap.mapR_put f id o hp]
theorem Heap.put_put (id : Nat) (o o' : Obj) : ∀ (hp : Heap), (hp.put id o).put id o' = hp.put id o'
 | [] => by simp [Heap.put]
 | (i, o1) :: hp => by
  simp only [Heap.put]
  split
  ·rename_i e; subst e; simp [Heap.put]
  ·rename_i e; simp only [Heap.put, if_neg e, Heap.put_put id o o' hp]

theorem Tr.change (h : HR I σ w st.heap) (hl : ∀ b, Live σ st.heap b → L b) {id : Nat} {o o' : Obj} {ow' : Own} (f : AV → AV) {S : Nat → Prop} (hg : st.heap.get id = some o)
  (hI : ∀ b, I b → I' b) (hI' : ∀ b, I' b → I b ∨ (L b ∧ b < w.heap.size ∧ ¬ Live σ (st.heap.put id .dead) b))
  (hf : ∀ v u, LR σ v u → VR I' (upd σ id ow') w (f v) u) (hm : Moved S w w') (hS : ∀ b, S b → L b ∧ ¬ I' b ∧ ¬ Live σ (st.heap.put id .dead) b)
  (hb : o'.live = true → ∀ b, ow'.has b → L b ∧ ¬ I' b ∧ b < w'.heap.size ∧ ¬ Live σ (st.heap.put id .dead) b) (ho : ObjR I' (upd σ id ow') w' ow' o')
  (hst : lentFrom ≤ id → o'.still = true → o.still = true ∧ ∀ ow, σ id = some ow → ow'.h = ow.h) :
  Tr L I σ st w I' (upd σ id ow') ⟨Slots.mapR f st.tmps, (Heap.mapR f st.heap).put id o'⟩ w' := by
 have h1 := (h.bury hg).widen hI (fun b hb => (hI' b hb).imp_right fun h => h.2)
 have h2 := h1.moved hm (fun b hs => (hS b hs).2.1) (fun b hs => (hS b hs).2.2)
 have hw' : ∀ b, I' b → w'.heap[b]? = w.heap[b]? := fun b hi => hm.block b (h1.lt b hi) (fun hs => (hS b hs).2.1 hi)
 have hw : ∀ b, I b → w'.heap[b]? = w.heap[b]? := fun b hi => hw' b (hI b hi)
 have hf' : ∀ v u, LR σ v u → VR I' (upd σ id ow') w' (f v) u := fun v u hv => VR.mono (fun _ h => h) hw' (fun _ _ h => h) _ _ (hf v u hv)
 have hlive : ∀ i o1, (st.heap.put id .dead).get i = some o1 → o1.live = true → upd σ id ow' i = σ i := by
  intro i o1 h1 h2
  rw [Heap.get_put] at h1
  split at h1
  ·cases h1; cases h2
  ·rename_i e; rw [upd_other ow' e]
 have h3 := h2.remap (σ' := upd σ id ow') f hf' hlive (fun i hi => by
   by_cases e : i = id
   ·subst e; exact ⟨ow', upd_same _ _ _⟩
   ·obtain ⟨ow1, k1, _⟩ := h2.objs i _ hi; exact ⟨ow1, by rw [upd_other ow' e]; exact k1⟩) (fun i hi => by
   by_cases e : i = id
   ·subst e; rw [Heap.get_put] at hi; simp at hi
   ·rw [upd_other ow' e]; exact h2.dom i hi)
 have hput : (Heap.mapR f (st.heap.put id .dead)).put id o' = (Heap.mapR f st.heap).put id o' := by rw [Heap.mapR_put, Heap.put_put]
 have h4 := h3.revive (id := id) (o := o') (ow := ow') (by rw [Heap.get_mapR, Heap.get_put]; simp [Obj.mapR]) (upd_same _ _ _) ho (fun hlv b hx => by
  obtain ⟨_, k1, k2, k3⟩ := hb hlv b hx
  exact ⟨k1, k2, fun hx => k3 (hx.mapR hlive)⟩)
 rw [hput] at h4
 refine ⟨fun i u hu => by rw [Slots.get_mapR]; exact VR.map hI hw f hf' _ _ hu, h4, fun b hx => ?_, hI, fun b h => (hI' b h).imp_right fun h => h.1, hm.imp fun b hs => (hS b hs).1, fun i hi o1 ho1 hs => ?_⟩
 ·rw [← hput] at hx
  rcases hx.put with ⟨ow1, k1, k2, k3⟩ | ⟨i, o1, ow1, e, k1, k2, k3, k4⟩
  ·rw [upd_same] at k2; cases k2; exact (hb k1 b k3).1
  ·have : Live (upd σ id ow') (Heap.mapR f (st.heap.put id .dead)) b := ⟨i, o1, ow1, k1, k2, k3, k4⟩
   obtain ⟨j, oj, owj, ej, m1, m2, m3, m4⟩ := (this.mapR hlive).bury
   exact hl b ⟨j, oj, owj, m1, m2, m3, m4⟩
 ·rw [Heap.get_put] at ho1
  split at ho1
  ·rename_i e; cases ho1; subst e
   obtain ⟨k1, k2⟩ := hst hi hs
   exact ⟨o, hg, k1, fun ow how => ⟨ow', upd_same _ _ _, k2 ow how⟩⟩
  ·rename_i e
   rw [Heap.get_mapR, Option.map_eq_some_iff] at ho1
   obtain ⟨o2, k1, rfl⟩ := ho1
   rw [Obj.still_mapR] at hs
   exact ⟨o2, k1, hs, fun ow how => ⟨ow, by rw [upd_other ow' e]; exact how, rfl⟩⟩

theorem Tr.fresh (h : HR I σ w st.heap) (hl : ∀ b, Live σ st.heap b → L b) {id : Nat} {o : Obj} {ow : Own} (hid : id < lentFrom) (hg : st.heap.get id = none) (hm : Moved (fun _ => False) w w')
  (hb : ∀ b, ow.has b → L b ∧ ¬ I b ∧ b < w'.heap.size ∧ ¬ Live σ st.heap b) (ho : ObjR I σ w' ow o) :
  Tr L I σ st w I (upd σ id ow) ⟨st.tmps, st.heap.put id o⟩ w' := by
 have hk := upd_knows (h.dom id hg) ow
 have h1 := (h.moved hm (fun _ h => h.elim) (fun _ h => h.elim)).addDead hg ow
 have hw : ∀ b, I b → w'.heap[b]? = w.heap[b]? := fun b hi => hm.block b (h.lt b hi) (fun h => h)
 have hlive : ∀ b, Live (upd σ id ow) (st.heap.put id .dead) b → Live σ st.heap b := by
  intro b hx
  obtain ⟨i, o1, ow1, e, k1, k2, k3, k4⟩ := hx.bury
  rw [upd_other ow e] at k3
  exact ⟨i, o1, ow1, k1, k2, k3, k4⟩
 have h2 := h1.revive (id := id) (o := o) (ow := ow) (by rw [Heap.get_put]; simp) (upd_same _ _ _) (ObjR.mono (fun _ h => h) (fun _ _ => rfl) (fun _ _ _ => rfl) hk ho) (fun _ b hx => ⟨(hb b hx).2.1, (hb b hx).2.2.1, fun hy => (hb b hx).2.2.2 (hlive b hy)⟩)
 have hput : (st.heap.put id .dead).put id o = st.heap.put id o := Heap.put_put _ _ _ _
 rw [hput] at h2
 refine ⟨fun i u hu => VR.mono (fun _ h => h) hw hk _ _ hu, h2, fun b hx => ?_, fun _ h => h, fun _ h => .inl h, hm.imp fun _ h => h.elim, fun i hi o1 ho1 hs => ?_⟩
 ·rcases hx.put with ⟨ow1, k1, k2, k3⟩ | ⟨i, o1, ow1, e, k1, k2, k3, k4⟩
  ·rw [upd_same] at k2; cases k2; exact (hb b k3).1
  ·rw [upd_other ow e] at k3; exact hl b ⟨i, o1, ow1, k1, k2, k3, k4⟩
 ·have e : i ≠ id := by omega
  simp only [Heap.get_put, if_neg e] at ho1
  exact ⟨o1, ho1, hs, fun ow1 how => ⟨ow1, hk _ _ how, rfl⟩⟩

theorem Tr.alloc (h : HR I σ w st.heap) (hl : ∀ b, Live σ st.heap b → L b) {id : Nat} {o : Obj} {ow : Own} (hid : id < lentFrom) (hm : Moved (fun _ => False) w w')
  (hb : ∀ b, ow.has b → L b ∧ ¬ I b ∧ b < w'.heap.size ∧ ¬ Live σ st.heap b) (ho : ObjR I σ w' ow o) :
  Tr L I σ st w I (upd σ id ow) (st.alloc id o) w' := by
 unfold St.alloc
 split
 ·rename_i hg; exact Tr.fresh h hl hid hg hm hb ho
 ·rename_i o1 hg
  have hk : ∀ v u, LR σ v u → VR I (upd σ id ow) w (killF id v) u := fun v u hv => killF_ok id (fun i hi => upd_other ow hi) v u hv
  have hw : ∀ b, I b → w'.heap[b]? = w.heap[b]? := fun b hi => hm.block b (h.lt b hi) (fun h => h)
  refine Tr.change h hl (killF id) hg (fun _ h => h) (fun _ h => .inl h) hk hm (fun _ h => h.elim) (fun _ b hx => ?_) ?_ (fun hi => by omega)
  ·obtain ⟨k1, k2, k3, k4⟩ := hb b hx
   refine ⟨k1, k2, k3, fun hy => k4 ?_⟩
   obtain ⟨i, o2, ow2, _, m1, m2, m3, m4⟩ := hy.bury
   exact ⟨i, o2, ow2, m1, m2, m3, m4⟩
  ·exact ObjR.map (fun _ h => h) (fun _ _ => rfl) (fun _ _ _ => rfl) (killF id) (fun vs es hv => VRs.map (fun _ h => h) (fun _ _ => rfl) (killF id) (fun v u hv => VR.mono (fun _ h => h) hw (fun _ _ h => h) _ _ (hk v u hv)) vs es hv) ho

theorem Tr.store (h : HR I σ w st.heap) (hl : ∀ b, Live σ st.heap b → L b) {id : Nat} {o o' : Obj} {ow : Own} {S : Nat → Prop} (hg : st.heap.get id = some o) (hlv : o.live = true) (hs : σ id = some ow)
  (hm : Moved S w w') (hS : ∀ b, S b → ow.has b) (ho : ObjR I σ w' ow o') (hst : o'.still = true → o.still = true) :
  Tr L I σ st w I σ ⟨st.tmps, st.heap.put id o'⟩ w' := by
 have hblk : ∀ b, ow.has b → L b ∧ ¬ I b ∧ ¬ Live σ (st.heap.put id .dead) b := fun b hb =>
  ⟨hl b ⟨id, o, ow, hg, hlv, hs, hb⟩, (h.own b ⟨id, o, ow, hg, hlv, hs, hb⟩).1, h.not_other hg hlv hs hb⟩
 have := Tr.change h hl (fun v => v) (ow' := ow) (o' := o') hg (fun _ h => h) (fun _ h => .inl h) (fun v u hv => by rw [upd_self hs]; exact LR.toVR v u hv) hm (fun b hb => hblk b (hS b hb))
  (fun _ b hb => ⟨(hblk b hb).1, (hblk b hb).2.1, Nat.lt_of_lt_of_le (h.own b ⟨id, o, ow, hg, hlv, hs, hb⟩).2 hm.size, (hblk b hb).2.2⟩) (by rw [upd_self hs]; exact ho)
  (fun _ h1 => ⟨hst h1, fun ow1 how => by rw [hs] at how; cases how; rfl⟩)
 rw [upd_self hs, Slots.mapR_id, Heap.mapR_id] at this
 exact this

theorem Tr.world (h : HR I σ w st.heap) (hl : ∀ b, Live σ st.heap b → L b) (hm : Moved (fun _ => False) w w') : Tr L I σ st w I σ st w' :=
 ⟨fun i u hu => VR.mono (fun _ h => h) (fun b hi => hm.block b (h.lt b hi) (fun h => h)) (fun _ _ h => h) _ _ hu, h.moved hm (fun _ h => h.elim) (fun _ h => h.elim), hl, fun _ h => h, fun _ h => .inl h, hm.imp fun _ h => h.elim, fun _ _ o' ho hs => ⟨o', ho, hs, fun ow h => ⟨ow, h, rfl⟩⟩⟩

end

section
variable {B : Base} {I : Nat → Prop} {σ : Nat → Option Own} {st : St} {a : Act} {w : World}

theorem Rel.get (h : Rel B I σ st a w) (i : Nat) : VR I σ w (st.get i) (a.tmps.getD i Go.undef) := h.slots i

theorem Rel.slots' (h : Rel B I σ st a w) {s : Slots} {a' : Act} (hd : a'.defers = []) (hs : ∀ i, VR I σ w (s.get i) (a'.tmps.getD i Go.undef)) : Rel B I σ ⟨s, st.heap⟩ a' w :=
 ⟨hs, h.hr, h.from_, h.src, h.keep, h.still, h.frame, hd⟩

theorem getD_put (a : Act) (t i : Nat) (v : Value) (ht : t < a.tmps.size) : (a.put (some t) v).tmps.getD i Go.undef = if i = t then v else a.tmps.getD i Go.undef := by
 simp only [Act.put, Array.getD_eq_getD_getElem?, Array.getElem?_setIfInBounds]
 by_cases e : i = t
 ·subst e; simp [ht]
 ·have : ¬ t = i := fun h => e h.symm
  simp [e, this]

theorem Rel.put (h : Rel B I σ st a w) {dst : Option Nat} {v : AV} {u : Value} (hd : ∀ t, dst = some t → t < a.tmps.size) (hv : VR I σ w v u) : Rel B I σ (st.put dst v) (a.put dst u) w := by
 cases dst with
 | none => exact h
 | some t =>
  refine h.slots' h.defers fun i => ?_
  rw [getD_put a t i u (hd t rfl)]
  simp only [Slots.get_set]
  split
  ·exact hv
  ·exact h.slots i

theorem Rel.drop (h : Rel B I σ st a w) (t : Nat) : Rel B I σ ⟨st.tmps.drop t, st.heap⟩ a w := by
 refine h.slots' h.defers fun i => ?_
 rw [Slots.get_drop]
 split
 ·trivial
 ·exact h.slots i

theorem Rel.set_same (h : Rel B I σ st a w) (t : Nat) {v : AV} (hv : VR I σ w v (a.tmps.getD t Go.undef)) : Rel B I σ (st.set t v) a w := by
 refine h.slots' h.defers fun i => ?_
 rw [Slots.get_set]
 split
 ·rename_i e; subst e; exact hv
 ·exact h.slots i

abbrev Base.L (B : Base) : Nat → Prop := fun b => B.w0.heap.size ≤ b ∨ B.M b
theorem Rel.new (h : Rel B I σ st a w) {b : Nat} (hb : w.heap.size ≤ b) : B.L b := .inl (Nat.le_trans h.frame.2.2.2.1 hb)

end

theorem Heap.get_keepIf (f : Nat → Bool) (h : Heap) (i : Nat) : (h.keepIf f).get i = if f i = true then h.get i else none := by
 induction h with
 | nil => simp [Heap.keepIf, Heap.get]
 | cons p h ih =>
  obtain ⟨j, u⟩ := p
  simp only [Heap.keepIf]
  by_cases hf : f j = true
  ·rw [if_pos hf]; simp only [Heap.get, ih]
   by_cases e : j = i
   ·subst e; simp [hf]
   ·simp [e]
  ·rw [if_neg hf, ih]; simp only [Heap.get]
   by_cases e : j = i
   ·subst e; simp [hf]
   ·simp [e]

theorem Slots.leads_get (id : Nat) (s : Slots) (i : Nat) (h : (s.get i).leads id = true) : Slots.leads id s = true := by
 induction s with
 | nil => simp [Slots.get, AV.leads] at h
 | cons p s ih =>
  obtain ⟨j, u⟩ := p
  simp only [Slots.get] at h
  simp only [Slots.leads, Bool.or_eq_true]
  split at h
  ·exact .inl h
  ·exact .inr (ih h)

theorem Heap.leads_get (id : Nat) (h : Heap) (i : Nat) (vs : List AV) (hg : h.get i = some (.box vs)) (hv : AV.leadss id vs = true) : Heap.leads id h = true := by
 induction h with
 | nil => simp [Heap.get] at hg
 | cons p h ih =>
  obtain ⟨j, u⟩ := p
  simp only [Heap.get] at hg
  split at hg
  ·cases hg; simp [Heap.leads, hv]
  ·have := ih hg
   cases u <;> simp [Heap.leads, this]

section
variable {L : Nat → Prop} {I : Nat → Prop} {σ : Nat → Option Own} {s : Slots} {h : Heap} {w : World}
theorem Tr.gc1 (hr : HR I σ w h) (hl : ∀ b, Live σ h b → L b) : ∃ σ', Tr L I σ ⟨s, h⟩ w I σ' ⟨s, Go.Q.gc1 s h⟩ w := by
 let f : Nat → Bool := fun i => decide (lentFrom ≤ i) || Slots.leads i s || Heap.leads i h
 have hget : ∀ i, (Go.Q.gc1 s h).get i = if f i = true then h.get i else none := fun i => Heap.get_keepIf f h i
 have hlive : ∀ b, Live (fun i => if f i = true then σ i else none) (Go.Q.gc1 s h) b → Live σ h b := by
  rintro b ⟨i, o, ow, k1, k2, k3, k4⟩
  rw [hget] at k1
  by_cases e : f i = true
  ·simp only [e, if_true] at k1 k3; exact ⟨i, o, ow, k1, k2, k3, k4⟩
  ·simp [e] at k1
 refine ⟨fun i => if f i = true then σ i else none, ⟨fun i u hu => ?_, ⟨fun i oi hi => ?_, fun i hi => ?_, fun b hb => hr.own b (hlive b hb), fun i j oi oj owi owj b hij g1 g2 g3 g4 g5 g6 g7 => ?_, hr.lt⟩, fun b hb => hl b (hlive b hb), fun _ h => h, fun _ h => .inl h, Moved.refl _ _, fun i hi o' ho hs => ?_⟩⟩
 ·refine VR.restrict _ _ (fun id hi => ?_) hu
  have : f id = true := by simp [f, Slots.leads_get id s i hi]
  simp [this]
 ·simp only [hget] at hi
  by_cases e : f i = true
  ·simp only [e, if_true] at hi ⊢
   obtain ⟨owi, k1, k2⟩ := hr.objs i oi hi
   refine ⟨owi, k1, ?_⟩
   cases oi with
   | box vs =>
    obtain ⟨m1, b, es, T, m2, m3, m4⟩ := k2
    exact ⟨m1, b, es, T, m2, m3, VRs.restrict vs es (fun id hid => by
     have : f id = true := by simp [f, Heap.leads_get id h i vs hi hid]
     simp [this]) m4⟩
   | _ => exact k2
  ·simp [e] at hi
 ·simp only [hget] at hi
  by_cases e : f i = true
  ·simp only [e, if_true] at hi ⊢; exact hr.dom i hi
  ·simp [e]
 ·simp only [hget] at g1 g2
  by_cases e : f i = true
  ·by_cases e' : f j = true
   ·simp only [e, e', if_true] at g1 g2 g5 g6; exact hr.dist i j oi oj owi owj b hij g1 g2 g3 g4 g5 g6 g7
   ·simp [e'] at g2
  ·simp [e] at g1
 ·simp only [hget] at ho
  have e : f i = true := by simp [f, hi]
  simp only [e, if_true] at ho ⊢
  exact ⟨o', ho, hs, fun ow how => ⟨ow, how, rfl⟩⟩

theorem Tr.gc {st : St} (hr : HR I σ w st.heap) (hl : ∀ b, Live σ st.heap b → L b) : ∃ σ', Tr L I σ st w I σ' st.gc w := by
 obtain ⟨s, h⟩ := st
 cases h with
 | nil => exact ⟨σ, Tr.refl hr hl⟩
 | cons x h =>
  obtain ⟨σ1, t1⟩ := Tr.gc1 (s := s) hr hl
  obtain ⟨σ2, t2⟩ := Tr.gc1 (s := s) t1.hr t1.live
  exact ⟨σ2, t1.trans t2⟩
end

end Go.Q
