/- An abstract interpreter of the translated code: how an abstract state changes with its world. -/
import Derived.Test.YtlbommlpkdcmnaaGPIRel
namespace Go.PI
open Go

/-! ### Slots and objects -/
theorem Slots.get_set (s : Slots) (t i : Nat) (v : AV) : (s.set t v).get i = if i = t then v else s.get i := by
  induction s with
  | nil => simp only [Slots.set, Slots.get, eq_comm]
  | cons p s ih =>
    obtain ⟨j, u⟩ := p
    simp only [Slots.set]
    split
    · rename_i h; subst h
      by_cases e : i = j
      · simp [Slots.get, e]
      · have : ¬ j = i := fun h => e h.symm
        simp [Slots.get, e, this]
    · split
      · by_cases e : i = t
        · simp [Slots.get, e]
        · have : ¬ t = i := fun h => e h.symm
          simp [Slots.get, e, this]
      · simp only [Slots.get, ih]
        by_cases h1 : j = i
        · subst h1; simp_all
        · simp [h1]

theorem Slots.get_drop (s : Slots) (t i : Nat) : (s.drop t).get i = if i = t then .undef else s.get i := by
  induction s with
  | nil => simp [Slots.drop, Slots.get]
  | cons p s ih =>
    obtain ⟨j, u⟩ := p
    simp only [Slots.drop]
    split
    · rename_i h; subst h; rw [ih]
      by_cases e : i = j
      · simp [e]
      · have : ¬ j = i := fun h => e h.symm
        simp [Slots.get, e, this]
    · simp only [Slots.get, ih]
      by_cases h1 : j = i
      · subst h1; simp_all
      · simp [h1]

theorem Slots.get_subst (id : Nat) (r : AV → AV) (s : Slots) (i : Nat) : (Slots.subst id r s).get i = (s.get i).subst id r := by
  induction s with
  | nil => simp [Slots.subst, Slots.get, AV.subst]
  | cons p s ih => obtain ⟨j, u⟩ := p; simp only [Slots.subst, Slots.get, ih]; split <;> rfl

theorem Heap.get_put (h : Heap) (id i : Nat) (o : Obj) : (h.put id o).get i = if i = id then some o else h.get i := by
  induction h with
  | nil => simp only [Heap.put, Heap.get, eq_comm]
  | cons p h ih =>
    obtain ⟨j, u⟩ := p
    simp only [Heap.put]
    split
    · rename_i h; subst h
      by_cases e : i = j
      · simp [Heap.get, e]
      · have : ¬ j = i := fun h => e h.symm
        simp [Heap.get, e, this]
    · simp only [Heap.get, ih]
      by_cases h1 : j = i
      · subst h1; simp_all
      · simp [h1]

theorem Heap.get_subst (id : Nat) (r : AV → AV) (h : Heap) (i : Nat) : (Heap.subst id r h).get i = (h.get i).map (Obj.subst id r) := by
  induction h with
  | nil => rfl
  | cons p h ih => obtain ⟨j, u⟩ := p; simp only [Heap.subst, Heap.get, ih]; split <;> rfl

theorem Obj.live_subst (id : Nat) (r : AV → AV) (o : Obj) : (o.subst id r).live = o.live := by cases o <;> rfl

/-! ### Worlds -/
/-- The world has grown, and of the old blocks only those of S may have changed. -/
structure Moved (S : Nat → Prop) (w w' : World) : Prop where
  os : w'.os = w.os
  tape : w'.tape = w.tape
  output : w'.output = w.output
  size : w.heap.size ≤ w'.heap.size
  block : ∀ b, b < w.heap.size → ¬ S b → w'.heap[b]? = w.heap[b]?

theorem Moved.refl (S : Nat → Prop) (w : World) : Moved S w w := ⟨rfl, rfl, rfl, Nat.le_refl _, fun _ _ _ => rfl⟩
theorem Moved.trans {S : Nat → Prop} {w w' w'' : World} (h : Moved S w w') (h' : Moved S w' w'') : Moved S w w'' :=
  ⟨h'.os.trans h.os, h'.tape.trans h.tape, h'.output.trans h.output, Nat.le_trans h.size h'.size, fun b hb hs => (h'.block b (Nat.lt_of_lt_of_le hb h.size) hs).trans (h.block b hb hs)⟩
theorem Moved.imp {S S' : Nat → Prop} {w w' : World} (h : Moved S w w') (hs : ∀ b, S b → S' b) : Moved S' w w' := ⟨h.os, h.tape, h.output, h.size, fun b hb hn => h.block b hb fun hb' => hn (hs b hb')⟩
theorem Moved.drew (S : Nat → Prop) (w : World) : Moved S w { w with drawn := w.drawn + 1 } := ⟨rfl, rfl, rfl, Nat.le_refl _, fun _ _ _ => rfl⟩

section
variable {M : Nat → Prop} {w0 : World} {I0 : Nat → Prop} {I : Nat → Prop} {σ : Nat → Option Own} {st : St} {a : Act} {w : World}

theorem Rel.knows_fresh {σ : Nat → Option Own} {id : Nat} (h : σ id = none) (ow : Own) : Knows σ (fun i => if i = id then some ow else σ i) := by
  intro i o hi
  by_cases e : i = id
  · subst e; rw [h] at hi; cases hi
  · simpa [e] using hi

theorem Rel.get (h : Rel M w0 I0 I σ st a w) (i : Nat) : VR I σ w (st.get i) (a.tmps.getD i Go.undef) := h.slots i

theorem frame_moved {M S : Nat → Prop} {w0 w w' : World} (h : w.os = w0.os ∧ w.tape = w0.tape ∧ w.output = w0.output ∧ w0.heap.size ≤ w.heap.size ∧ ∀ k, k < w0.heap.size → ¬ M k → w.heap[k]? = w0.heap[k]?)
    (hm : Moved S w w') (hS : ∀ b, S b → w0.heap.size ≤ b ∨ M b) : w'.os = w0.os ∧ w'.tape = w0.tape ∧ w'.output = w0.output ∧ w0.heap.size ≤ w'.heap.size ∧ ∀ k, k < w0.heap.size → ¬ M k → w'.heap[k]? = w0.heap[k]? := by
  obtain ⟨h1, h2, h3, h4, h5⟩ := h
  refine ⟨hm.os.trans h1, hm.tape.trans h2, hm.output.trans h3, Nat.le_trans h4 hm.size, fun k hk hM => ?_⟩
  rw [hm.block k (by omega) (fun hs => by rcases hS k hs with h | h; omega; exact hM h)]
  exact h5 k hk hM

/-- Objects whose block stands. -/
theorem ObjR.mono {I I' : Nat → Prop} {σ σ' : Nat → Option Own} {w w' : World} (hI : ∀ b, I b → I' b) (hw : ∀ b, I b → w'.heap[b]? = w.heap[b]?) {ow : Own} {o o' : Obj}
    (hb : o.live = true → ∀ b, blockOf ow.v = some b → w'.heap[b]? = w.heap[b]?)
    (ho : match o with | .box T vs => ∃ vs', o' = .box T vs' ∧ ∀ es, VRs I σ w vs es → VRs I' σ' w' vs' es | o => o' = o) (h : ObjR I σ w ow o) : ObjR I' σ' w' ow o' := by
  cases o with
  | dead => simp only at ho; subst ho; trivial
  | arr e t xs =>
    simp only at ho; subst ho
    obtain ⟨h1, h2⟩ := h
    refine ⟨h1, ?_⟩
    rcases h2 with h2 | ⟨b, o, cap, cells, g1, g2, g3, g4, g5⟩
    · exact .inl h2
    by_cases hc : cap = 0
    · have : xs = [] := List.eq_nil_of_length_eq_zero (by omega)
      subst this; subst hc
      exact .inl ⟨_, g1, rfl⟩
    · refine .inr ⟨b, o, cap, cells, g1, ?_, g3, g4, fun i hi => ?_⟩
      · rw [hb rfl b (by rw [g1]; simp [blockOf, hc])]; exact g2
      · obtain ⟨es, k1, k2⟩ := g5 i hi; exact ⟨es, DR.mono hI hw t _ _ k1, k2⟩
  | box T vs =>
    obtain ⟨vs', rfl, hv⟩ := ho
    obtain ⟨b, es, g1, g2, g3⟩ := h
    exact ⟨b, es, g1, by rw [hb rfl b (by rw [g1]; rfl)]; exact g2, hv es g3⟩

/-- A world that has moved where nothing of ours lies. -/
theorem Rel.moved (h : Rel M w0 I0 I σ st a w) {S : Nat → Prop} {w' : World} (hm : Moved S w w') (hS : ∀ b, S b → w0.heap.size ≤ b ∨ M b) (hI : ∀ b, S b → ¬ I b)
    (ho : ∀ id o ow b, st.heap.get id = some o → o.live = true → σ id = some ow → blockOf ow.v = some b → ¬ S b) : Rel M w0 I0 I σ st a w' := by
  have hw : ∀ b, I b → w'.heap[b]? = w.heap[b]? := fun b hb => hm.block b (h.lt b hb) (fun hs => hI b hs hb)
  refine ⟨fun i => VR.mono (fun _ h => h) hw (fun _ _ h => h) _ _ (h.slots i), fun id o hg => ?_, h.dom, fun id o ow b g1 g2 g3 g4 => ?_, h.dist, fun b hb => Nat.lt_of_lt_of_le (h.lt b hb) hm.size, h.src, h.keep, frame_moved h.frame hm hS, h.defers⟩
  · obtain ⟨ow, h1, h2⟩ := h.objs id o hg
    refine ⟨ow, h1, ObjR.mono (fun _ h => h) hw (fun hl b hb => ?_) ?_ h2⟩
    · obtain ⟨_, k2, _⟩ := h.own id o ow b hg hl h1 hb
      exact hm.block b k2 (ho id o ow b hg hl h1 hb)
    · cases o with
      | box T vs => exact ⟨vs, rfl, fun es he => VRs.mono (fun _ h => h) hw (fun _ _ h => h) vs es he⟩
      | _ => rfl
  · obtain ⟨k1, k2, k3⟩ := h.own id o ow b g1 g2 g3 g4; exact ⟨k1, Nat.lt_of_lt_of_le k2 hm.size, k3⟩

/-- The state's own changes: slots. -/
theorem Rel.slots' (h : Rel M w0 I0 I σ st a w) {s : Slots} {a' : Act} (hd : a'.defers = []) (hs : ∀ i, VR I σ w (s.get i) (a'.tmps.getD i Go.undef)) : Rel M w0 I0 I σ ⟨s, st.heap⟩ a' w :=
  ⟨hs, h.objs, h.dom, h.own, h.dist, h.lt, h.src, h.keep, h.frame, hd⟩

theorem getD_put (a : Act) (t i : Nat) (v : Value) (ht : t < a.tmps.size) : (a.put (some t) v).tmps.getD i Go.undef = if i = t then v else a.tmps.getD i Go.undef := by
  simp only [Act.put, Array.getD_eq_getD_getElem?, Array.getElem?_setIfInBounds]
  by_cases e : i = t
  · subst e; simp [ht]
  · have : ¬ t = i := fun h => e h.symm
    simp [e, this]

/-- A value is put into a slot. -/
theorem Rel.put (h : Rel M w0 I0 I σ st a w) {dst : Option Nat} {v : AV} {u : Value} (hd : ∀ t, dst = some t → t < a.tmps.size) (hv : VR I σ w v u) : Rel M w0 I0 I σ (st.put dst v) (a.put dst u) w := by
  cases dst with
  | none => exact h
  | some t =>
    refine h.slots' h.defers fun i => ?_
    rw [getD_put a t i u (hd t rfl)]
    simp only [Slots.get_set]
    split
    · exact hv
    · exact h.slots i

theorem Rel.drop (h : Rel M w0 I0 I σ st a w) (t : Nat) : Rel M w0 I0 I σ ⟨st.tmps.drop t, st.heap⟩ a w := by
  refine h.slots' h.defers fun i => ?_
  rw [Slots.get_drop]
  split
  · trivial
  · exact h.slots i

theorem Rel.set_same (h : Rel M w0 I0 I σ st a w) (t : Nat) {v : AV} (hv : VR I σ w v (a.tmps.getD t Go.undef)) : Rel M w0 I0 I σ (st.set t v) a w := by
  refine h.slots' h.defers fun i => ?_
  rw [Slots.get_set]
  split
  · rename_i e; subst e; exact hv
  · exact h.slots i

/-- A block that an object with this number may have. -/
structure Free (M : Nat → Prop) (w0 : World) (I : Nat → Prop) (σ : Nat → Option Own) (st : St) (id b : Nat) : Prop where
  out : ¬ I b
  from_ : w0.heap.size ≤ b ∨ M b
  none : ∀ j oj owj, j ≠ id → st.heap.get j = some oj → oj.live = true → σ j = some owj → blockOf owj.v ≠ some b

theorem Rel.free_new (h : Rel M w0 I0 I σ st a w) (id : Nat) {b : Nat} (hb : w.heap.size ≤ b) : Free M w0 I σ st id b :=
  ⟨fun hI => by have := h.lt b hI; omega, .inl (by have := h.frame.2.2.2.1; omega), fun j oj owj _ g1 g2 g3 g4 => by have := (h.own j oj owj b g1 g2 g3 g4).2.1; omega⟩

theorem Rel.free_old (h : Rel M w0 I0 I σ st a w) {id : Nat} {b : Nat} {o1 : Obj} {ow1 : Own} (m1 : st.heap.get id = some o1) (m2 : o1.live = true) (m3 : σ id = some ow1) (m4 : blockOf ow1.v = some b) : Free M w0 I σ st id b :=
  have n := h.own id o1 ow1 b m1 m2 m3 m4
  ⟨n.1, n.2.2, fun j oj owj ej g1 g2 g3 g4 => h.dist j id oj o1 owj ow1 b ej g1 m1 g2 m2 g3 m3 g4 m4⟩

/-- A new object, at a number to which nothing leads. -/
theorem Rel.fresh (h : Rel M w0 I0 I σ st a w) {id : Nat} {o : Obj} {ow : Own} {w' : World} (hn : st.heap.get id = none) (hm : Moved (fun _ => False) w w')
    (hb : ∀ b, blockOf ow.v = some b → b < w'.heap.size ∧ Free M w0 I σ st id b) (ho : ObjR I (fun i => if i = id then some ow else σ i) w' ow o) :
    Rel M w0 I0 I (fun i => if i = id then some ow else σ i) ⟨st.tmps, st.heap.put id o⟩ a w' := by
  have h' := h.moved hm (fun _ h => h.elim) (fun _ h => h.elim) (fun _ _ _ _ _ _ _ _ h => h)
  have hk := Rel.knows_fresh (h.dom id hn) ow
  refine ⟨fun i => VR.mono (fun _ h => h) (fun _ _ => rfl) hk _ _ (h'.slots i), fun i oi hg => ?_, fun i hg => ?_, fun i oi owi b g1 g2 g3 g4 => ?_, fun i j oi oj owi owj b hij g1 g2 g3 g4 g5 g6 g7 => ?_, h'.lt, h'.src, h'.keep, h'.frame, h'.defers⟩
  · rw [Heap.get_put] at hg
    by_cases e : i = id
    · subst e; simp only [eq_self, if_true, Option.some.injEq] at hg ⊢; subst hg; exact ⟨ow, rfl, ho⟩
    · simp only [if_neg e] at hg ⊢
      obtain ⟨owi, k1, k2⟩ := h'.objs i oi hg
      refine ⟨owi, k1, ObjR.mono (fun _ h => h) (fun _ _ => rfl) (fun _ _ _ => rfl) ?_ k2⟩
      cases oi with
      | box T vs => exact ⟨vs, rfl, fun es he => VRs.mono (fun _ h => h) (fun _ _ => rfl) hk vs es he⟩
      | _ => rfl
  · rw [Heap.get_put] at hg
    by_cases e : i = id
    · simp [e] at hg
    · simp only [if_neg e] at hg ⊢; exact h'.dom i hg
  · rw [Heap.get_put] at g1
    by_cases e : i = id
    · subst e
      simp only [eq_self, if_true, Option.some.injEq] at g3; subst g3
      obtain ⟨k1, k2⟩ := hb b g4
      exact ⟨k2.out, k1, k2.from_⟩
    · simp only [if_neg e] at g1 g3; exact h'.own i oi owi b g1 g2 g3 g4
  · rw [Heap.get_put] at g1 g2
    by_cases e : i = id
    · subst e
      have ej : ¬ j = i := fun e => hij e.symm
      simp only [eq_self, if_true, if_neg ej, Option.some.injEq] at g5 g6 g2; subst g5
      exact (hb b g7).2.none j oj owj ej g2 g4 g6
    · by_cases ej : j = id
      · subst ej
        simp only [eq_self, if_true, if_neg e, Option.some.injEq] at g5 g6 g1; subst g6
        exact fun hj => (hb b hj).2.none i oi owi e g1 g3 g5 g7
      · simp only [if_neg e, if_neg ej] at g1 g2 g5 g6
        exact h'.dist i j oi oj owi owj b hij g1 g2 g3 g4 g5 g6 g7

/-- What else led to an object leads there no more; the object is a new one, in its old block or in a new one. -/
theorem Rel.replace (h : Rel M w0 I0 I σ st a w) {id : Nat} {o : Obj} {ow : Own} {w' : World}
    (hm : Moved (fun b => ∃ o1 ow1, st.heap.get id = some o1 ∧ o1.live = true ∧ σ id = some ow1 ∧ blockOf ow1.v = some b) w w')
    (hb : ∀ b, blockOf ow.v = some b → b < w'.heap.size ∧ Free M w0 I σ st id b)
    (ho : ObjR I (fun i => if i = id then some ow else σ i) w' ow o) :
    Rel M w0 I0 I (fun i => if i = id then some ow else σ i) ⟨(st.kill id).tmps, (st.kill id).heap.put id o⟩ a w' := by
  have hI : ∀ b, I b → w'.heap[b]? = w.heap[b]? := fun b hb => hm.block b (h.lt b hb) (fun ⟨o1, ow1, k1, k2, k3, k4⟩ => (h.own id o1 ow1 b k1 k2 k3 k4).1 hb)
  have hσ : ∀ i o, i ≠ id → σ i = some o → (fun i => if i = id then some ow else σ i) i = some o := fun i o e k => by simpa [e] using k
  have hsub : ∀ (v : AV) (u : Value), VR I σ w v u → VR I (fun i => if i = id then some ow else σ i) w' (v.subst id fun _ => .undef) u := fun v u hv =>
    VR.mono (fun _ h => h) hI (fun _ _ h => h) _ _ (VR.kill id hσ v u hv)
  have hsubs : ∀ (v : List AV) (u : List Value), VRs I σ w v u → VRs I (fun i => if i = id then some ow else σ i) w' (AV.substs id (fun _ => .undef) v) u := fun v u hv =>
    VRs.mono (fun _ h => h) hI (fun _ _ h => h) _ _ (VRs.kill id hσ v u hv)
  have hget : ∀ i, ((st.kill id).heap.put id o).get i = if i = id then some o else (st.heap.get i).map (Obj.subst id fun _ => .undef) := fun i => by
    rw [Heap.get_put]; simp only [St.kill, St.subst, Heap.get_subst]
  have hpre : ∀ i oi, i ≠ id → (st.heap.get i).map (Obj.subst id fun _ => AV.undef) = some oi → ∃ oj, st.heap.get i = some oj ∧ oi = oj.subst id (fun _ => .undef) := fun i oi _ hg => by
    obtain ⟨oj, k1, k2⟩ := Option.map_eq_some_iff.1 hg; exact ⟨oj, k1, k2.symm⟩
  refine ⟨fun i => ?_, fun i oi hg => ?_, fun i hg => ?_, fun i oi owi b g1 g2 g3 g4 => ?_, fun i j oi oj owi owj b hij g1 g2 g3 g4 g5 g6 g7 => ?_, fun b hb => Nat.lt_of_lt_of_le (h.lt b hb) hm.size, h.src, h.keep, ?_, h.defers⟩
  · simp only [St.kill, St.subst, Slots.get_subst]; exact hsub _ _ (h.slots i)
  · rw [hget] at hg
    by_cases e : i = id
    · subst e; simp only [eq_self, if_true, Option.some.injEq] at hg ⊢; subst hg; exact ⟨ow, rfl, ho⟩
    · simp only [if_neg e] at hg ⊢
      obtain ⟨oj, k, rfl⟩ := hpre i oi e hg
      obtain ⟨owi, k1, k2⟩ := h.objs i oj k
      refine ⟨owi, k1, ObjR.mono (fun _ h => h) hI (fun hl b hb => ?_) ?_ k2⟩
      · exact hm.block b (h.own i oj owi b k hl k1 hb).2.1 (fun ⟨o1, ow1, m1, m2, m3, m4⟩ => h.dist i id oj o1 owi ow1 b e k m1 hl m2 k1 m3 hb m4)
      · cases oj with
        | box T vs => exact ⟨_, rfl, fun es he => hsubs vs es he⟩
        | _ => rfl
  · rw [hget] at hg
    by_cases e : i = id
    · simp [e] at hg
    · simp only [if_neg e, Option.map_eq_none_iff] at hg ⊢; exact h.dom i hg
  · rw [hget] at g1
    by_cases e : i = id
    · subst e
      simp only [eq_self, if_true, Option.some.injEq] at g3; subst g3
      obtain ⟨k1, k2⟩ := hb b g4
      exact ⟨k2.out, k1, k2.from_⟩
    · simp only [if_neg e] at g1 g3
      obtain ⟨oj, k, rfl⟩ := hpre i oi e g1
      rw [Obj.live_subst] at g2
      obtain ⟨n1, n2, n3⟩ := h.own i oj owi b k g2 g3 g4; exact ⟨n1, Nat.lt_of_lt_of_le n2 hm.size, n3⟩
  · rw [hget] at g1 g2
    have key : ∀ (j : Nat) (oj : Obj) (owj : Own), j ≠ id → st.heap.get j = some oj → oj.live = true → σ j = some owj → ∀ b, blockOf ow.v = some b → blockOf owj.v ≠ some b := by
      intro j oj owj ej k1 k2 k3 b k4
      exact (hb b k4).2.none j oj owj ej k1 k2 k3
    by_cases e : i = id
    · subst e
      have ej : ¬ j = i := fun e => hij e.symm
      simp only [eq_self, if_true, if_neg ej, Option.some.injEq] at g5 g6 g2; subst g5
      obtain ⟨oj', k, rfl⟩ := hpre j oj ej g2
      rw [Obj.live_subst] at g4
      exact key j oj' owj ej k g4 g6 b g7
    · by_cases ej : j = id
      · subst ej
        simp only [eq_self, if_true, if_neg e, Option.some.injEq] at g5 g6 g1; subst g6
        obtain ⟨oi', k, rfl⟩ := hpre i oi e g1
        rw [Obj.live_subst] at g3
        exact fun hj => key i oi' owi e k g3 g5 b hj g7
      · simp only [if_neg e, if_neg ej] at g1 g2 g5 g6
        obtain ⟨oi', k, rfl⟩ := hpre i oi e g1
        obtain ⟨oj', k', rfl⟩ := hpre j oj ej g2
        rw [Obj.live_subst] at g3 g4
        exact h.dist i j oi' oj' owi owj b hij k k' g3 g4 g5 g6 g7
  · exact frame_moved h.frame hm (fun b ⟨o1, ow1, m1, m2, m3, m4⟩ => (h.own id o1 ow1 b m1 m2 m3 m4).2.2)

/-- A new object at a number, whatever led there. -/
theorem Rel.alloc (h : Rel M w0 I0 I σ st a w) {id : Nat} {o : Obj} {ow : Own} {w' : World} (hm : Moved (fun _ => False) w w')
    (hb : ∀ b, blockOf ow.v = some b → b < w'.heap.size ∧ Free M w0 I σ st id b)
    (ho : ∀ σ' : Nat → Option Own, Knows σ σ' → ObjR I σ' w' ow o)
    (ho' : ∀ σ' : Nat → Option Own, (∀ i o, i ≠ id → σ i = some o → σ' i = some o) → ObjR I σ' w' ow (o.subst id fun _ => .undef)) :
    Rel M w0 I0 I (fun i => if i = id then some ow else σ i) (st.alloc id o) a w' := by
  unfold St.alloc
  split
  · rename_i hn; exact h.fresh hn hm hb (ho _ (Rel.knows_fresh (h.dom id hn) ow))
  · exact h.replace (hm.imp fun _ h => h.elim) hb (ho' _ fun i o e k => by simpa [e] using k)

/-- An object's own content has changed, in its block. -/
theorem Rel.store (h : Rel M w0 I0 I σ st a w) {id : Nat} {o o' : Obj} {ow : Own} {w' : World} {b : Nat} (hg : st.heap.get id = some o) (hl : o.live = true) (hs : σ id = some ow) (hbl : blockOf ow.v = some b)
    (hm : Moved (fun k => k = b) w w') (ho : ObjR I σ w' ow o') : Rel M w0 I0 I σ ⟨st.tmps, st.heap.put id o'⟩ a w' := by
  have hI : ∀ k, I k → w'.heap[k]? = w.heap[k]? := fun k hk => hm.block k (h.lt k hk) (fun e => by subst e; exact (h.own id o ow k hg hl hs hbl).1 hk)
  have hget : ∀ i, (st.heap.put id o').get i = if i = id then some o' else st.heap.get i := fun i => Heap.get_put _ _ _ _
  refine ⟨fun i => VR.mono (fun _ h => h) hI (fun _ _ h => h) _ _ (h.slots i), fun i oi hi => ?_, fun i hi => ?_, fun i oi owi k g1 g2 g3 g4 => ?_, fun i j oi oj owi owj k hij g1 g2 g3 g4 g5 g6 g7 => ?_, fun k hk => Nat.lt_of_lt_of_le (h.lt k hk) hm.size, h.src, h.keep, ?_, h.defers⟩
  · rw [hget] at hi
    by_cases e : i = id
    · subst e; simp only [eq_self, if_true, Option.some.injEq] at hi; subst hi; exact ⟨ow, hs, ho⟩
    · simp only [if_neg e] at hi
      obtain ⟨owi, k1, k2⟩ := h.objs i oi hi
      refine ⟨owi, k1, ObjR.mono (fun _ h => h) hI (fun hl2 k hk => ?_) ?_ k2⟩
      · exact hm.block k (h.own i oi owi k hi hl2 k1 hk).2.1 (fun e2 => by subst e2; exact h.dist i id oi o owi ow k e hi hg hl2 hl k1 hs hk hbl)
      · cases oi with
        | box T vs => exact ⟨vs, rfl, fun es he => VRs.mono (fun _ h => h) hI (fun _ _ h => h) vs es he⟩
        | _ => rfl
  · rw [hget] at hi
    by_cases e : i = id
    · simp [e] at hi
    · simp only [if_neg e] at hi; exact h.dom i hi
  · rw [hget] at g1
    by_cases e : i = id
    · subst e
      obtain ⟨n1, n2, n3⟩ := h.own i o owi k hg hl g3 g4; exact ⟨n1, Nat.lt_of_lt_of_le n2 hm.size, n3⟩
    · simp only [if_neg e] at g1
      obtain ⟨n1, n2, n3⟩ := h.own i oi owi k g1 g2 g3 g4; exact ⟨n1, Nat.lt_of_lt_of_le n2 hm.size, n3⟩
  · rw [hget] at g1 g2
    have l1 : ∃ o1, st.heap.get i = some o1 ∧ o1.live = true := by
      by_cases e : i = id
      · subst e; exact ⟨o, hg, hl⟩
      · simp only [if_neg e] at g1; exact ⟨oi, g1, g3⟩
    have l2 : ∃ o1, st.heap.get j = some o1 ∧ o1.live = true := by
      by_cases e : j = id
      · subst e; exact ⟨o, hg, hl⟩
      · simp only [if_neg e] at g2; exact ⟨oj, g2, g4⟩
    obtain ⟨o1, m1, m2⟩ := l1
    obtain ⟨o2, m3, m4⟩ := l2
    exact h.dist i j o1 o2 owi owj k hij m1 m3 m2 m4 g5 g6 g7
  · exact frame_moved h.frame hm (fun k e => by subst e; exact (h.own id o ow k hg hl hs hbl).2.2)

/-- An own array becomes plain data: its block is written no more. -/
theorem Rel.freeze (h : Rel M w0 I0 I σ st a w) {id : Nat} {e : Nat} {t : Ty} {xs : List t.Den} (hg : st.heap.get id = some (.arr e t xs)) :
    ∃ I' : Nat → Prop, (∀ b, I b → I' b) ∧ Rel M w0 I0 I' σ ⟨(st.subst id (frozenAs t xs)).tmps, (st.subst id (frozenAs t xs)).heap.put id .dead⟩ a w ∧
      (∀ u, VR I σ w (.os id) u → VR I' σ w (.d (.slice t) xs) u) ∧ (∀ p n u, VR I σ w (.sub id p n) u → VR I' σ w (.d (.slice t) ((xs.drop p).take n)) u) ∧
      (∀ (v : AV) (u : Value), VR I σ w v u → VR I' σ w (v.subst id (frozenAs t xs)) u) := by
  obtain ⟨ow, hs, hsz, harr⟩ := h.objs id _ hg
  have I'def : ∃ I' : Nat → Prop, ∀ b, I' b ↔ (I b ∨ blockOf ow.v = some b) := ⟨fun b => I b ∨ blockOf ow.v = some b, fun _ => Iff.rfl⟩
  obtain ⟨I', hI'⟩ := I'def
  have hII : ∀ b, I b → I' b := fun b hb => (hI' b).2 (.inl hb)
  -- the elements, read as plain data
  have hel : ∀ (i : Nat) (hi : i < xs.length), ∃ b o cap, ow.v = .slice (some ⟨b, o, none⟩) xs.length cap ∧ I' b ∧ ∃ es, DR I' w t (xs.get ⟨i, hi⟩) es ∧ CellsAt w ⟨b, o + i * t.size, none⟩ es := by
    intro i hi
    rcases harr with ⟨_, _, rfl⟩ | ⟨b, o, cap, cells, g1, g2, g3, g4, g5⟩
    · exact absurd hi (by simp)
    · obtain ⟨es, k1, k2⟩ := g5 i hi
      have hc : ¬ cap = 0 := by omega
      refine ⟨b, o, cap, g1, (hI' b).2 (.inr (by rw [g1]; simp [blockOf, hc])), es, DR.mono hII (fun _ _ => rfl) t _ _ k1, fun j u hj => ?_⟩
      have := k2 j u hj
      simp only [World.cell?, g2]
      exact this
  have hlen : ∃ A cap, ow.v = .slice A xs.length cap ∧ xs.length ≤ cap := by
    rcases harr with ⟨A, g, rfl⟩ | ⟨b, o, cap, cells, g1, g2, g3, g4, g5⟩
    · exact ⟨A, 0, g, Nat.le_refl _⟩
    · exact ⟨_, cap, g1, g4⟩
  have hos : ∀ u, VR I σ w (.os id) u → VR I' σ w (.d (.slice t) xs) u := by
    rintro u ⟨A1, n1, cap1, z1, k1, rfl⟩
    rw [hs] at k1; cases k1
    obtain ⟨A, cap, k2, k3⟩ := hlen
    simp only at k2 hel; cases k2
    refine ⟨A1, cap1, rfl, k3, fun i hi => ?_⟩
    obtain ⟨b, o, cap', m1, m2, m3⟩ := hel i hi
    cases m1
    exact ⟨b, o, rfl, m2, m3⟩
  have hsub : ∀ p n u, VR I σ w (.sub id p n) u → VR I' σ w (.d (.slice t) ((xs.drop p).take n)) u := by
    rintro p n u ⟨A, len, cap, z, k1, k2, A', rfl, k3, k3', k4⟩
    rw [hs] at k1; cases k1
    obtain ⟨A2, cap2, m2, m3⟩ := hlen
    simp only at m2 hsz hel; cases m2
    have hn : ((xs.drop p).take n).length = n := by simp only [List.length_take, List.length_drop]; omega
    refine ⟨A', cap - p, by rw [hn], by rw [hn]; omega, fun i hi => ?_⟩
    rw [hn] at hi
    have hi2 : p + i < xs.length := by omega
    obtain ⟨b, o, cap', n1, n2, es, n3, n4⟩ := hel (p + i) hi2
    cases n1
    refine ⟨b, o + p * t.size, by rw [← hsz]; exact k3 b o rfl (by omega), n2, es, ?_, ?_⟩
    · have : ((xs.drop p).take n).get ⟨i, by omega⟩ = xs.get ⟨p + i, hi2⟩ := by simp
      rw [this]; exact n3
    · rw [show o + p * t.size + i * t.size = o + (p + i) * t.size from by rw [Nat.add_mul]; omega]; exact n4
  have hv : ∀ (v : AV) (u : Value), VR I σ w v u → VR I' σ w (v.subst id (frozenAs t xs)) u := fun v u k =>
    VR.subst hII (fun _ _ => rfl) id (frozenAs t xs) (fun _ _ _ h => h) (fun u k => hos u k) (fun p n u k => hsub p n u k) (fun _ _ _ _ => trivial) (fun _ _ _ => trivial) v u k
  have hvs : ∀ (v : List AV) (u : List Value), VRs I σ w v u → VRs I' σ w (AV.substs id (frozenAs t xs) v) u := fun v u k =>
    VRs.subst hII (fun _ _ => rfl) id (frozenAs t xs) (fun _ _ _ h => h) (fun u k => hos u k) (fun p n u k => hsub p n u k) (fun _ _ _ _ => trivial) (fun _ _ _ => trivial) v u k
  have hget : ∀ i, ((st.subst id (frozenAs t xs)).heap.put id .dead).get i = if i = id then some .dead else (st.heap.get i).map (Obj.subst id (frozenAs t xs)) := fun i => by
    rw [Heap.get_put]; simp only [St.subst, Heap.get_subst]
  have hpre : ∀ i oi, (st.heap.get i).map (Obj.subst id (frozenAs t xs)) = some oi → ∃ oj, st.heap.get i = some oj ∧ oi = oj.subst id (frozenAs t xs) := fun i oi hg => by
    obtain ⟨oj, k1, k2⟩ := Option.map_eq_some_iff.1 hg; exact ⟨oj, k1, k2.symm⟩
  refine ⟨I', hII, ⟨fun i => ?_, fun i oi hi => ?_, fun i hi => ?_, fun i oi owi b g1 g2 g3 g4 => ?_, fun i j oi oj owi owj b hij g1 g2 g3 g4 g5 g6 g7 => ?_, fun b hb => ?_, fun b hb => ?_, fun b hb => hII b (h.keep b hb), h.frame, h.defers⟩, hos, hsub, hv⟩
  · simp only [St.subst, Slots.get_subst]; exact hv _ _ (h.slots i)
  · rw [hget] at hi
    by_cases e : i = id
    · subst e; simp only [eq_self, if_true, Option.some.injEq] at hi; subst hi; exact ⟨ow, hs, trivial⟩
    · simp only [if_neg e] at hi
      obtain ⟨oj, k, rfl⟩ := hpre i oi hi
      obtain ⟨owi, k1, k2⟩ := h.objs i oj k
      refine ⟨owi, k1, ObjR.mono hII (fun _ _ => rfl) (fun _ _ _ => rfl) ?_ k2⟩
      cases oj with
      | box T vs => exact ⟨_, rfl, fun es he => hvs vs es he⟩
      | _ => rfl
  · rw [hget] at hi
    by_cases e : i = id
    · simp [e] at hi
    · simp only [if_neg e, Option.map_eq_none_iff] at hi; exact h.dom i hi
  · rw [hget] at g1
    by_cases e : i = id
    · subst e; simp only [eq_self, if_true, Option.some.injEq] at g1; subst g1; cases g2
    · simp only [if_neg e] at g1
      obtain ⟨oj, k, rfl⟩ := hpre i oi g1
      rw [Obj.live_subst] at g2
      obtain ⟨n1, n2, n3⟩ := h.own i oj owi b k g2 g3 g4
      refine ⟨fun hb => ?_, n2, n3⟩
      rcases (hI' b).1 hb with hb | hb
      · exact n1 hb
      · exact h.dist i id oj _ owi ow b e k hg g2 rfl g3 hs g4 hb
  · rw [hget] at g1 g2
    by_cases e : i = id
    · subst e; simp only [eq_self, if_true, Option.some.injEq] at g1; subst g1; cases g3
    · by_cases ej : j = id
      · subst ej; simp only [eq_self, if_true, Option.some.injEq] at g2; subst g2; cases g4
      · simp only [if_neg e, if_neg ej] at g1 g2
        obtain ⟨oi', k, rfl⟩ := hpre i oi g1
        obtain ⟨oj', k', rfl⟩ := hpre j oj g2
        rw [Obj.live_subst] at g3 g4
        exact h.dist i j oi' oj' owi owj b hij k k' g3 g4 g5 g6 g7
  · rcases (hI' b).1 hb with hb | hb
    · exact h.lt b hb
    · exact (h.own id _ ow b hg rfl hs hb).2.1
  · rcases (hI' b).1 hb with hb | hb
    · exact h.src b hb
    · exact .inr (h.own id _ ow b hg rfl hs hb).2.2

end

/-! ### Objects to which nothing leads -/
theorem Heap.get_keepIf (f : Nat → Bool) (h : Heap) (i : Nat) : (h.keepIf f).get i = if f i = true then h.get i else none := by
  induction h with
  | nil => simp [Heap.keepIf, Heap.get]
  | cons p h ih =>
    obtain ⟨j, u⟩ := p
    simp only [Heap.keepIf]
    by_cases hf : f j = true
    · rw [if_pos hf]; simp only [Heap.get, ih]
      by_cases e : j = i
      · subst e; simp [hf]
      · simp [e]
    · rw [if_neg hf, ih]; simp only [Heap.get]
      by_cases e : j = i
      · subst e; simp [hf]
      · simp [e]

mutual
theorem VR.restrict {I : Nat → Prop} {σ σ' : Nat → Option Own} {w : World} : ∀ (v : AV) (u : Value), (∀ id, v.leads id = true → σ' id = σ id) → VR I σ w v u → VR I σ' w v u
  | .undef, _, _, _ => trivial
  | .skip, _, _, h => h
  | .d _ _, _, _, h => h
  | .nilS, _, _, h => h
  | .empS, _, _, h => h
  | .nilF, _, _, h => h
  | .nilP, _, _, h => h
  | .os i, _, k, h => by obtain ⟨A, n, cap, z, h1, h2⟩ := h; exact ⟨A, n, cap, z, by rw [k i (by simp [AV.leads])]; exact h1, h2⟩
  | .sub i _ _, _, k, h => by obtain ⟨A, len, cap, z, h1, h2⟩ := h; exact ⟨A, len, cap, z, by rw [k i (by simp [AV.leads])]; exact h1, h2⟩
  | .el i _ _, _, k, h => by obtain ⟨b, o, len, cap, z, h1, h2⟩ := h; exact ⟨b, o, len, cap, z, by rw [k i (by simp [AV.leads])]; exact h1, h2⟩
  | .op i _, _, k, h => by obtain ⟨b, z, h1, h2⟩ := h; exact ⟨b, z, by rw [k i (by simp [AV.leads])]; exact h1, h2⟩
  | .rp vs, _, k, h => by obtain ⟨b, o, es, h1, h2, h3, h4⟩ := h; exact ⟨b, o, es, h1, h2, VRs.restrict vs es (fun id hi => k id (by simpa [AV.leads] using hi)) h3, h4⟩
  | .agg vs, _, k, h => by obtain ⟨es, h1, h2⟩ := h; exact ⟨es, h1, VRs.restrict vs es (fun id hi => k id (by simpa [AV.leads] using hi)) h2⟩
  | .tuple vs, _, k, h => by obtain ⟨es, h1, h2⟩ := h; exact ⟨es, h1, VRs.restrict vs es (fun id hi => k id (by simpa [AV.leads] using hi)) h2⟩
  | .fn _ vs, _, k, h => by obtain ⟨es, h1, h2⟩ := h; exact ⟨es, h1, VRs.restrict vs es (fun id hi => k id (by simpa [AV.leads] using hi)) h2⟩
  | .own _ _ _, _, _, h => h.elim
theorem VRs.restrict {I : Nat → Prop} {σ σ' : Nat → Option Own} {w : World} : ∀ (vs : List AV) (us : List Value), (∀ id, AV.leadss id vs = true → σ' id = σ id) → VRs I σ w vs us → VRs I σ' w vs us
  | [], _, _, h => h
  | v :: vs, _, k, h => by
    obtain ⟨e, es', h1, h2, h3⟩ := h
    exact ⟨e, es', h1, VR.restrict v e (fun id hi => k id (by simp [AV.leadss, hi])) h2, VRs.restrict vs es' (fun id hi => k id (by simp [AV.leadss, hi])) h3⟩
end

theorem Slots.leads_get (id : Nat) (s : Slots) (i : Nat) (h : (s.get i).leads id = true) : Slots.leads id s = true := by
  induction s with
  | nil => simp [Slots.get, AV.leads] at h
  | cons p s ih =>
    obtain ⟨j, u⟩ := p
    simp only [Slots.get] at h
    simp only [Slots.leads, Bool.or_eq_true]
    split at h
    · exact .inl h
    · exact .inr (ih h)

theorem Heap.leads_get (id : Nat) (h : Heap) (i : Nat) (T : Nat) (vs : List AV) (hg : h.get i = some (.box T vs)) (hv : AV.leadss id vs = true) : Heap.leads id h = true := by
  induction h with
  | nil => simp [Heap.get] at hg
  | cons p h ih =>
    obtain ⟨j, u⟩ := p
    simp only [Heap.get] at hg
    split at hg
    · cases hg; simp [Heap.leads, hv]
    · have := ih hg
      cases u <;> simp [Heap.leads, this]

theorem Rel.gc1 {M : Nat → Prop} {w0 : World} {I0 : Nat → Prop} {I : Nat → Prop} {σ : Nat → Option Own} {s : Slots} {h : Heap} {a : Act} {w : World} (hr : Rel M w0 I0 I σ ⟨s, h⟩ a w) :
    ∃ σ', Rel M w0 I0 I σ' ⟨s, Go.PI.gc1 s h⟩ a w := by
  let f : Nat → Bool := fun i => Slots.leads i s || Heap.leads i h
  have hget : ∀ i, (Go.PI.gc1 s h).get i = if f i = true then h.get i else none := fun i => Heap.get_keepIf f h i
  refine ⟨fun i => if f i = true then σ i else none, fun i => ?_, fun i oi hi => ?_, fun i hi => ?_, fun i oi owi b g1 g2 g3 g4 => ?_, fun i j oi oj owi owj b hij g1 g2 g3 g4 g5 g6 g7 => ?_, hr.lt, hr.src, hr.keep, hr.frame, hr.defers⟩
  · refine VR.restrict _ _ (fun id hi => ?_) (hr.slots i)
    have : f id = true := by simp [f, Slots.leads_get id s i hi]
    simp [this]
  · simp only [hget] at hi
    by_cases e : f i = true
    · simp only [e, if_true] at hi ⊢
      obtain ⟨owi, k1, k2⟩ := hr.objs i oi hi
      refine ⟨owi, k1, ObjR.mono (fun _ h => h) (fun _ _ => rfl) (fun _ _ _ => rfl) ?_ k2⟩
      cases oi with
      | box T vs => exact ⟨vs, rfl, fun es he => VRs.restrict vs es (fun id hid => by
          have : f id = true := by simp [f, Heap.leads_get id h i T vs hi hid]
          simp [this]) he⟩
      | _ => rfl
    · simp [e] at hi
  · simp only [hget] at hi
    by_cases e : f i = true
    · simp only [e, if_true] at hi ⊢; exact hr.dom i hi
    · simp [e]
  · simp only [hget] at g1
    by_cases e : f i = true
    · simp only [e, if_true] at g1 g3; exact hr.own i oi owi b g1 g2 g3 g4
    · simp [e] at g1
  · simp only [hget] at g1 g2
    by_cases e : f i = true
    · by_cases e' : f j = true
      · simp only [e, e', if_true] at g1 g2 g5 g6; exact hr.dist i j oi oj owi owj b hij g1 g2 g3 g4 g5 g6 g7
      · simp [e'] at g2
    · simp [e] at g1

theorem Rel.gc {M : Nat → Prop} {w0 : World} {I0 : Nat → Prop} {I : Nat → Prop} {σ : Nat → Option Own} {st : St} {a : Act} {w : World} (hr : Rel M w0 I0 I σ st a w) : ∃ σ', Rel M w0 I0 I σ' st.gc a w := by
  obtain ⟨s, h⟩ := st
  cases h with
  | nil => exact ⟨σ, hr⟩
  | cons x h => obtain ⟨σ1, h1⟩ := hr.gc1; exact h1.gc1

end Go.PI
