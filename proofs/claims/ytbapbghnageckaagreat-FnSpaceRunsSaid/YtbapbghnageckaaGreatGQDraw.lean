/- An abstract interpreter of the translated code: regions with a draw. -/
import Derived.Test.YtbapbghnageckaaGreatGQRun
import Derived.Test.YtbapbghnageckaaGreatGQEarly
import Derived.Test.YtbapbghnageckaaGreatGQKeeps
namespace Go.Q
set_option linter.unusedVariables false
set_option linter.unusedSimpArgs false
set_option linter.unusedSectionVars false
open Go
section
variable {P : Program} {E : Env} {B : Base} {I : Nat → Prop} {σ : Nat → Option Own} {st st1 : St} {a : Act} {w : World} {ops : Array Oper} {Q : Exit → Act → World → Prop}

theorem step_cases3 {o : Oper} {os : List Oper} {st' : St} (h : Rel B I σ st a w) (hd : ∀ t, o.dst = some t → t < a.tmps.size) (hr : runOps E ops.toList (o :: os) st = some st') :
  (Region.wanted o (yielded ops a.tmps) = true ∧ ∃ st0 st1, Rel B I σ st0 a w ∧ st0.heap = st.heap ∧ (∀ t, Und t st → Und t st0) ∧ Go.Q.exOp E o st0 = some st1 ∧ ∀ os st', runOps E ops.toList (o :: os) st = some st' → runOps E ops.toList os st1 = some st') ∨
  (Region.wanted o (yielded ops a.tmps) = false ∧ ∃ st1, Rel B I σ st1 (a.put o.dst Go.undef) w ∧ st1.heap = st.heap ∧ (∀ t, o.dst ≠ some t → Und t st → Und t st1) ∧ ∀ os st', runOps E ops.toList (o :: os) st = some st' → runOps E ops.toList os st1 = some st') := by
 have hh : ∀ (s : St) (d : Option Nat) (v : AV), (s.put d v).heap = s.heap := fun s d v => by cases d <;> rfl
 unfold runOps at hr
 split at hr
 ·rename_i hg
  rw [Option.bind_eq_some_iff] at hr
  obtain ⟨st1, h1, h2⟩ := hr
  refine .inl ⟨by simp [Region.wanted, hg], st, st1, h, rfl, fun _ h => h, h1, fun os st' hq => ?_⟩
  unfold runOps at hq
  simp only [hg, h1, Option.bind_some] at hq
  exact hq
 ·rename_i j b hg
  rw [Option.bind_eq_some_iff] at hr
  obtain ⟨g, h1, hr⟩ := hr
  have hslot := h.slots g
  split at hr
  ·rename_i x hx
   have hx' : st.tmps.get g = .d .bool x := hx
   rw [hx'] at hslot
   have hv := VR.bool hslot
   have hy := yielded_bool h1 hv
   split at hr
   ·rename_i hxb
    subst hxb
    rw [Option.bind_eq_some_iff] at hr
    obtain ⟨st1, k1, k2⟩ := hr
    refine .inl ⟨by simp [Region.wanted, hg, hy], _, st1, h.set_same g hslot, rfl, fun t hu => hu.set_bool hx' _, k1, fun os st' hq => ?_⟩
    unfold runOps at hq
    simp only [hg, h1, Option.bind_some, hx, if_true, k1] at hq
    exact hq
   ·rename_i hxb
    have hxb' : x = !b := by cases x <;> cases b <;> simp_all
    subst hxb'
    refine .inr ⟨by simp [Region.wanted, hg, hy], _, (h.set_same g hslot).put (v := .skip) hd rfl, hh _ _ _, fun t ht hu => (hu.set_bool hx' _).put ht _, fun os st' hq => ?_⟩
    unfold runOps at hq
    simp only [hg, h1, Option.bind_some, hx, hxb, if_false] at hq
    exact hq
  ·rename_i hx
   have hx' : st.tmps.get g = .skip := hx
   rw [hx'] at hslot
   have hy := yielded_undef h1 hslot
   refine .inr ⟨by simp [Region.wanted, hg, hy], _, h.put (v := .skip) hd rfl, hh _ _ _, fun t ht hu => hu.put ht _, fun os st' hq => ?_⟩
   unfold runOps at hq
   simp only [hg, h1, Option.bind_some, hx] at hq
   exact hq
  ·cases hr
def Alike (s1 s2 : St) : Prop := s1.tmps = s2.tmps ∧ ∀ i, s1.heap.get i = s2.heap.get i
theorem Rel.swap (h : Rel B I σ st a w) (he : Alike st st1) : Rel B I σ st1 a w := by
 obtain ⟨e1, e2⟩ := he
 have hl : ∀ b, Live σ st1.heap b → Live σ st.heap b := fun b ⟨id, o, ow, k1, k2⟩ => ⟨id, o, ow, by rw [e2]; exact k1, k2⟩
 refine ⟨by rw [← e1]; exact h.slots, ⟨fun id o k => h.hr.objs id o (by rw [e2]; exact k), fun id k => h.hr.dom id (by rw [e2]; exact k), fun b k => h.hr.own b (hl b k), fun id id' o o' ow ow' b hne k1 k2 => h.hr.dist id id' o o' ow ow' b hne (by rw [e2]; exact k1) (by rw [e2]; exact k2), h.hr.lt⟩, fun b k => h.from_ b (hl b k), h.src, h.keep, fun id hid o k => h.still id hid o (by rw [e2]; exact k), h.frame, h.defers⟩
theorem Rel.rebase (h : Rel B I σ st a w) {st0 : St} (hs : st0.heap = st.heap) (h0 : Rel B I σ st0 a w) : Rel ⟨w, I, Live σ st.heap, B.σ0⟩ I σ st0 a w :=
 ⟨h0.slots, h0.hr, fun b hb => .inr (by rw [hs] at hb; exact hb), fun b hb => .inl hb, fun b hb => hb, h0.still, ⟨rfl, rfl, rfl, Nat.le_refl _, fun _ _ _ => rfl⟩, h0.defers⟩
theorem Rel.compose (h : Rel B I σ st a w) {I' : Nat → Prop} {σ' : Nat → Option Own} {st' : St} {a' : Act} {w' : World} (h' : Rel ⟨w, I, Live σ st.heap, B.σ0⟩ I' σ' st' a' w') : Rel B I' σ' st' a' w' := by
 obtain ⟨f1, f2, f3, f4, f5⟩ := h.frame
 obtain ⟨g1, g2, g3, g4, g5⟩ := h'.frame
 have hM : ∀ b, w.heap.size ≤ b ∨ Live σ st.heap b → B.w0.heap.size ≤ b ∨ B.M b := fun b hb => by
  rcases hb with hb | hb
  ·exact .inl (Nat.le_trans f4 hb)
  ·exact h.from_ b hb
 refine ⟨h'.slots, h'.hr, fun b hb => hM b (h'.from_ b hb), fun b hb => ?_, fun b hb => h'.keep b (h.keep b hb), h'.still, ⟨g1.trans f1, g2.trans f2, g3.trans f3, Nat.le_trans f4 g4, fun k hk hm => ?_⟩, h'.defers⟩
 ·rcases h'.src b hb with hb | hb
  ·exact h.src b hb
  ·exact .inr (hM b hb)
 ·have : ¬ Live σ st.heap k := fun hl => by
   rcases h.from_ k hl with h1 | h1
   ·omega
   ·exact hm h1
  exact (g5 k (Nat.lt_of_lt_of_le hk f4) this).trans (f5 k hk hm)

def Ghost (ops : Array Oper) (E : Env) (B : Base) (I : Nat → Prop) (σ : Nat → Option Own) (st : St) (a : Act) (w : World) (g b : Nat) : Prop := b < w.heap.size ∧ ∃ o t, ops[g]? = some o ∧ o.dst = some t ∧ t < a.tmps.size ∧ match o.op with
 | .alloc T => a.tmps.getD t Go.undef = .pointer (some ⟨b, 0, none⟩) ∧ ¬ I b ∧ ¬ Live σ st.heap b ∧ (B.w0.heap.size ≤ b ∨ B.M b) ∧ ∃ es, w.heap[b]? = some (.cells (List.toArray es) T (0, 0)) ∧ ∀ z, zeros E.tab 8 T = some z → ∀ I σ w, VRs I σ w z es
 | .buildSlice _ _ _ => ∃ A, a.tmps.getD t Go.undef = .slice A 0 0
 | _ => False
theorem Ghost.later {I' : Nat → Prop} {σ' : Nat → Option Own} {a' : Act} {w' : World} {g b : Nat} (h : Ghost ops E B I σ st a w g b) (hs : w.heap.size ≤ w'.heap.size) (ha : a'.tmps.size = a.tmps.size)
  (hslot : ∀ o t, ops[g]? = some o → o.dst = some t → a'.tmps.getD t Go.undef = a.tmps.getD t Go.undef) (hI : ¬ I b → ¬ Live σ st.heap b → ¬ I' b ∧ ¬ Live σ' st1.heap b ∧ w'.heap[b]? = w.heap[b]?) : Ghost ops E B I' σ' st1 a' w' g b := by
 obtain ⟨h0, o, t, h1, h2, h3, h4⟩ := h
 refine ⟨Nat.lt_of_lt_of_le h0 hs, o, t, h1, h2, by rw [ha]; exact h3, ?_⟩
 cases hT : o.op <;> rw [hT] at h4 <;> try exact h4.elim
 case alloc T =>
  obtain ⟨k1, k2, k3, k4, es, k5, k6⟩ := h4
  obtain ⟨m1, m2, m3⟩ := hI k2 k3
  exact ⟨(hslot o t h1 h2).trans k1, m1, m2, k4, es, m3.trans k5, k6⟩
 case buildSlice T n ps =>
  obtain ⟨A, k1⟩ := h4
  exact ⟨A, (hslot o t h1 h2).trans k1⟩
theorem pure_early {o : Oper} (h : earlyOp o = true) : pureOp o.op = false := by
 unfold earlyOp at h
 cases ho : o.op <;> rw [ho] at h <;> simp at h <;> rfl
theorem guard_early {o : Oper} (h : earlyOp o = true) : o.guard = none ∧ o.after = #[] := by
 unfold earlyOp at h
 simp only [Bool.and_eq_true] at h
 exact ⟨by simpa using h.1.2, by simpa using h.1.1⟩
theorem Ghost.adopt {g b : Nat} (h : Rel B I σ st a w) {o : Oper} (ho : ops[g]? = some o) (he : earlyOp o = true) (hg : Ghost ops E B I σ st a w g b) (hx : Go.Q.exOp E o st = some st1) :
  ∃ σ', Rel B I σ' st1 a w ∧ ∀ b', b' ≠ b → ¬ Live σ st.heap b' → ¬ Live σ' st1.heap b' := by
 obtain ⟨hlt, o', t, h1, h2, h3, h4⟩ := hg
 rw [ho] at h1; cases h1
 unfold Go.Q.exOp at hx
 rw [if_neg (by rw [pure_early he]; simp)] at hx
 simp only [Option.map_eq_some_iff] at hx
 obtain ⟨⟨v, s1⟩, hx, rfl⟩ := hx
 have hid := newId_lt o.dst
 generalize newId o.dst = id at hx hid
 have key : ∀ {ob : Obj} {ow : Own}, s1 = st.alloc id ob → (∀ b1, ow.has b1 → b1 = b ∧ (B.w0.heap.size ≤ b1 ∨ B.M b1) ∧ ¬ I b1 ∧ b1 < w.heap.size ∧ ¬ Live σ st.heap b1) → ObjR I σ w ow ob → VR I (upd σ id ow) w v (a.tmps.getD t Go.undef) →
   ∃ σ', Rel B I σ' (s1.put o.dst v) a w ∧ ∀ b', b' ≠ b → ¬ Live σ st.heap b' → ¬ Live σ' (s1.put o.dst v).heap b' := by
  intro ob ow hs hb hobj hv
  subst hs
  have t1 := Tr.alloc (L := fun b => B.w0.heap.size ≤ b ∨ B.M b) h.hr h.from_ hid (Moved.refl _ w) (fun b1 h1 => (hb b1 h1).2) hobj
  have t2 := Tr.alloc (L := fun b1 => b1 = b ∨ Live σ st.heap b1) h.hr (fun b1 h1 => .inr h1) hid (Moved.refl _ w) (fun b1 h1 => ⟨.inl (hb b1 h1).1, (hb b1 h1).2.2⟩) hobj
  refine ⟨upd σ id ow, ?_, fun b' hne hnl hl => ?_⟩
  ·rw [h2]
   exact (h.tr t1).set_same t hv
  ·rw [h2] at hl
   rcases t2.live b' hl with h1 | h1
   ·exact hne h1
   ·exact hnl h1
 cases hT : o.op <;> rw [hT] at h4 <;> try exact h4.elim
 case alloc T =>
  obtain ⟨k1, k2, k3, k4, es, k5, k6⟩ := h4
  rw [hT] at hx
  simp only [Go.Q.exWrite, Option.bind_eq_some_iff, Option.some.injEq, Prod.mk.injEq] at hx
  obtain ⟨ti, _, z, hz, rfl, rfl⟩ := hx
  rcases varOf_cases T z (bldOf E.tab T ti) with hvo | ⟨e, rfl, hvo⟩
  ·refine key (ob := .box z) (ow := ⟨⟨.pointer (some ⟨b, 0, none⟩), 0⟩, fun _ _ => none⟩) (congrArg (st.alloc id) (show varObj E.tab T ti z = .box z from hvo)) (fun b1 hb1 => ?_) ⟨fun _ _ => rfl, b, es, T, rfl, k5, k6 z hz _ _ _⟩ ?_
   ·rcases hb1 with hb1 | ⟨_, _, _, hb1, _⟩
    ·simp only [blockOf, Option.some.injEq] at hb1
     subst hb1
     exact ⟨rfl, k4, k2, hlt, k3⟩
    ·cases hb1
   ·rw [k1]
    exact ⟨_, b, upd_same _ _ _, rfl, rfl⟩
  ·refine key (ob := .bld false T e .empty) (ow := bldOwn b) (congrArg (st.alloc id) (show varObj E.tab T ti [.nilP, .nilS] = .bld false T e .empty from hvo)) (fun b1 hb1 => ?_) (bld_new (k6 _ hz I σ w) k5) ?_
   ·rw [bldOwn_has hb1]
    exact ⟨rfl, k4, k2, hlt, k3⟩
   ·rw [k1]
    exact ⟨_, b, upd_same _ _ _, rfl, rfl⟩
 case buildSlice T n ps =>
  obtain ⟨A, k1⟩ := h4
  have hn : n = 0 ∧ ps = #[] := by
   unfold earlyOp at he
   rw [hT] at he
   simp at he
   exact he.2
  obtain ⟨rfl, rfl⟩ := hn
  rw [hT] at hx
  simp only [Go.Q.exWrite, Go.Q.buildSlice, Option.bind_eq_some_iff] at hx
  obtain ⟨ti, _, hx⟩ := hx
  split at hx
  ·rename_i e _
   simp only [Option.bind_eq_some_iff] at hx
   obtain ⟨ty, _, hx⟩ := hx
   split at hx
   ·have hnew : ∃ d, v = .os (.t id) ∧ s1 = st.alloc id (.arr true d ty []) := by
     unfold Go.Q.newArr at hx
     cases hrf : ty.refs with
     | true =>
      simp [hrf, Go.Q.absorbs, flatCells, nodupN, groups, elems, St.gone] at hx
      exact ⟨true, hx.1.symm, hx.2.symm⟩
     | false =>
      simp [hrf, flatCells, Go.Q.freezes, groups, elems] at hx
      exact ⟨false, hx.1.symm, hx.2.symm⟩
    obtain ⟨d, rfl, hs⟩ := hnew
    have hno : ∀ b1, ¬ (Own.has ⟨⟨.slice A 0 0, ty.size⟩, fun _ _ => none⟩ b1) := by
     rintro b1 (hb1 | ⟨_, _, _, hb1, _⟩)
     ·cases A <;> simp [blockOf] at hb1
     ·cases hb1
    refine key (ow := ⟨⟨.slice A 0 0, ty.size⟩, fun _ _ => none⟩) hs (fun b1 hb1 => (hno b1 hb1).elim) ⟨rfl, fun _ _ _ => rfl, ⟨fun i off H b h _ => (by cases h), fun i off H i' off' H' b h _ _ _ => (by cases h)⟩, [], ⟨by simp, .inl ⟨A, rfl, rfl⟩⟩, fun i hi => absurd hi (by simp)⟩ ?_
    rw [k1]
    exact ⟨_, A, 0, 0, by simp only [hdrOf, upd_same]; rfl, rfl, rfl⟩
   ·cases hx
  ·cases hx
theorem Ghost.make {g : Nat} (h : Rel B I σ st a w) (hE : TabOK P E) {o : Oper} {t : Nat} (ho : ops[g]? = some o) (he : earlyOp o = true) (ht : o.dst = some t) (hts : t < a.tmps.size) (hu : Und t st) (hx : ∃ s s', Go.Q.exOp E o s = some s') :
  ∃ u w', (execOp a.eval o).run P w = .ok (.value u) w' ∧ Moved (fun _ => False) w w' ∧ Rel B I σ st (a.put o.dst u) w' ∧ Ghost ops E B I σ st (a.put o.dst u) w' g w.heap.size := by
 obtain ⟨s, s', hx⟩ := hx
 unfold Go.Q.exOp at hx
 rw [if_neg (by rw [pure_early he]; simp)] at hx
 simp only [Option.map_eq_some_iff] at hx
 obtain ⟨⟨v, s1⟩, hx, rfl⟩ := hx
 have hslot : ∀ u, (a.put o.dst u).tmps.getD t Go.undef = u := fun u => by rw [ht, getD_put a t t u hts, if_pos rfl]
 have hrel : ∀ {u : Value} {w' : World}, Moved (fun _ => False) w w' → Rel B I σ st (a.put o.dst u) w' := fun {u w'} hm => by
  have h1 := h.tr (Tr.world h.hr h.from_ hm)
  have := h1.slots' (s := st.tmps) (a' := a.put o.dst u) (by rw [ht]; exact h1.defers) (fun i => by
   rw [ht, getD_put a t i u hts]
   split
   ·rename_i hi
    subst hi
    have : st.tmps.get i = .undef := hu
    rw [this]; trivial
   ·exact h1.slots i)
  exact this
 have hsz : ∀ u, t < (a.put o.dst u).tmps.size := fun u => by rw [size_put]; exact hts
 unfold earlyOp at he
 cases hop : o.op <;> rw [hop] at he hx <;> simp at he
 case alloc T =>
  simp only [Go.Q.exWrite, Option.bind_eq_some_iff, Option.some.injEq, Prod.mk.injEq] at hx
  obtain ⟨ti, q1, z, q2, _⟩ := hx
  obtain ⟨info, i1, i2, i3, i4⟩ := (hE.tab T ti q1).info
  obtain ⟨zv, j1, j2⟩ := i4 z q2
  refine ⟨.pointer (some ⟨w.heap.size, 0, none⟩), w.alloc (.cells zv.cells T), ?_, moved_alloc w _, hrel (moved_alloc w _), by simp, o, t, ho, ht, hsz _, ?_⟩
  ·simp [execOp, hop, Instr.alloc, zeroValue, typeInfo, i1, j1, newVar, newRow]
  ·simp only [hop]
   refine ⟨hslot _, fun hi => ?_, fun hl => ?_, h.new (Nat.le_refl _), zv.cells.toList, by simpa using alloc_new w (.cells zv.cells T), fun z' hz' I σ w => ?_⟩
   ·have := h.hr.lt _ hi; omega
   ·have := (h.hr.own _ hl).2; omega
   ·rw [q2] at hz'; cases hz'; exact j2 I σ w
 case buildSlice T n ps =>
  obtain ⟨_, rfl, rfl⟩ := he
  simp only [Go.Q.exWrite, Go.Q.buildSlice, Option.bind_eq_some_iff] at hx
  obtain ⟨ti, q1, hx⟩ := hx
  have hd := (hE.tab T ti q1).desc
  cases hdd : ti.desc <;> simp only [hdd] at hx hd
  case slice e =>
   simp only [Option.bind_eq_some_iff] at hx
   obtain ⟨ty, q2, _⟩ := hx
   obtain ⟨ie, z, i1, _⟩ := elTy_ok hE q2
   refine ⟨.slice (some ⟨w.heap.size, 0, none⟩) 0 0, w.alloc (.cells #[] e), ?_, moved_alloc w _, hrel (moved_alloc w _), by simp, o, t, ho, ht, hsz _, ?_⟩
   ·simp [execOp, hop, Instr.buildSlice, run_under hd, sizeOf, typeInfo, i1, newRow, Instr.fill, Array.range_zero']
   ·simp only [hop]
    exact ⟨_, hslot _⟩
  all_goals cases hx

theorem set_set (x : Array Bool) (i j : Nat) : (x.setIfInBounds i true).setIfInBounds j true = (x.setIfInBounds j true).setIfInBounds i true := by
 by_cases h : i = j
 ·rw [h]
 ·exact Array.setIfInBounds_comm _ _ h
theorem markAll_set (x : Array Bool) (i : Nat) : ∀ (G : List Nat), markAll (x.setIfInBounds i true) G = (markAll x G).setIfInBounds i true
 | [] => rfl
 | g :: G => by simp only [markAll, markAll_set x i G]; exact set_set _ _ _
theorem set_true (x : Array Bool) (i : Nat) (h : x.getD i true = true) : x.setIfInBounds i true = x := by
 apply Array.ext_getElem?
 intro k
 rw [Array.getElem?_setIfInBounds]
 split
 ·rename_i hk
  subst hk
  split
  ·rename_i hlt
   rw [Array.getElem?_eq_getElem hlt]
   simp [hlt] at h
   rw [h]
  ·rename_i hlt
   rw [Array.getElem?_eq_none (by omega)]
 ·rfl
theorem markAll_in (x : Array Bool) {i : Nat} : ∀ {G : List Nat}, i ∈ G → (markAll x G).setIfInBounds i true = markAll x G
 | g :: G, h => by
  simp only [markAll]
  rcases List.mem_cons.1 h with rfl | h
  ·exact set_true _ _ (by
    rw [Array.getD_eq_getD_getElem?, Array.getElem?_setIfInBounds_self]
    split <;> rfl)
  ·rw [set_set, markAll_in x h]
theorem markAll_full (x : Array Bool) : ∀ (G : List Nat), (∀ g ∈ G, x.getD g true = true) → markAll x G = x
 | [], _ => rfl
 | g :: G, h => by
  simp only [markAll]
  rw [markAll_full x G (fun k hk => h k (by simp [hk]))]
  exact set_true _ _ (h g (by simp))
theorem markAll_out (x : Array Bool) {i : Nat} (d : Bool) : ∀ {G : List Nat}, i ∉ G → (markAll x G).getD i d = x.getD i d
 | [], _ => rfl
 | g :: G, h => by
  simp only [List.mem_cons, not_or] at h
  simp only [markAll]
  rw [getD_set_ne d (fun e => h.1 e.symm), markAll_out x d h.2]
theorem markAll_false (x : Array Bool) {i : Nat} {G : List Nat} (h : (markAll x G).getD i true = false) : i ∉ G ∧ x.getD i true = false := by
 have hn : i ∉ G := fun hi => by
  have := markAll_in x hi
  rw [← this, Array.getD_eq_getD_getElem?, Array.getElem?_setIfInBounds_self] at h
  split at h <;> simp at h
 exact ⟨hn, by rw [markAll_out x true hn] at h; exact h⟩
theorem markAll_true (x : Array Bool) {i : Nat} : ∀ {G : List Nat}, x.getD i false = true → (markAll x G).getD i false = true
 | [], h => h
 | g :: G, h => getD_set_true (markAll_true x h)
theorem ready_mark {x : Array Bool} {i : Nat} {G : List Nat} (h : i ∈ Region.ready .any ops x) (hi : i ∉ G) : i ∈ Region.ready .any ops (markAll x G) := by
 rw [mem_ready] at *
 obtain ⟨h0, o, ho, hall⟩ := h
 exact ⟨by rw [markAll_out x true hi]; exact h0, o, ho, fun e he hb => markAll_true x (hall e he hb)⟩
theorem getD_mark_sub {x : Array Bool} {i : Nat} : ∀ {G F : List Nat}, (∀ g ∈ G, g ∈ F) → (markAll x G).getD i false = true → (markAll x F).getD i false = true := by
 intro G F hs h
 by_cases hi : i ∈ G
 ·have h1 := markAll_in x (hs i hi)
  have hlt : i < (markAll x F).size := by
   have : ∀ (L : List Nat), (markAll x L).size = x.size := fun L => by induction L with
    | nil => rfl
    | cons k L ih => simp only [markAll, Array.size_setIfInBounds, ih]
   rw [this]
   have h2 := this G
   rcases Nat.lt_or_ge i x.size with h' | h'
   ·exact h'
   ·rw [Array.getD_eq_getD_getElem?, Array.getElem?_eq_none (by omega)] at h
    cases h
  rw [← h1, Array.getD_eq_getD_getElem?, Array.getElem?_setIfInBounds_self]
  simp [hlt]
 ·rw [markAll_out x false hi] at h
  exact markAll_true x h
theorem ready_mark_sub {x : Array Bool} {j : Nat} {G F : List Nat} (h : j ∈ Region.ready .any ops (markAll x G)) (hs : ∀ g ∈ G, g ∈ F) (hj : j ∉ F) : j ∈ Region.ready .any ops (markAll x F) := by
 rw [mem_ready] at *
 obtain ⟨h0, o, ho, hall⟩ := h
 exact ⟨by rw [markAll_out x true hj]; exact (markAll_false x h0).2, o, ho, fun e he hb => getD_mark_sub hs (hall e he hb)⟩

def EarlyOK (ops : Array Oper) (D : List Nat) : Prop := ∀ e ∈ D, ∃ o t, ops[e]? = some o ∧ earlyOp o = true ∧ o.dst = some t ∧ ∀ j oj, ops[j]? = some oj → j ≠ e → oj.dst ≠ some t
theorem earlyIn_ok (ops : Array Oper) (ts : List Nat) : EarlyOK ops (earlyIn ops ts) ∧ ∀ e ∈ earlyIn ops ts, ∀ o t, ops[e]? = some o → o.dst = some t → t ∈ ts := by
 constructor
 ·intro e he
  simp only [earlyIn, List.mem_filter] at he
  obtain ⟨_, he⟩ := he
  split at he
  ·rename_i o ho
   simp only [Bool.and_eq_true] at he
   obtain ⟨h1, h2⟩ := he
   split at h2
   ·rename_i t ht
    simp only [Bool.and_eq_true, List.all_eq_true, List.mem_range] at h2
    refine ⟨o, t, ho, h1, ht, fun j oj hj hne => ?_⟩
    have := h2.2 j (Array.getElem?_eq_some_iff.1 hj).1
    rw [hj] at this
    simp only [beq_eq_false_iff_ne.2 hne, Bool.false_or, bne_iff_ne, ne_eq] at this
    exact this
   ·cases h2
  ·cases he
 ·intro e he o t ho ht
  simp only [earlyIn, List.mem_filter] at he
  obtain ⟨_, he⟩ := he
  rw [ho] at he
  simp only [ht, Bool.and_eq_true] at he
  simpa using he.2.1
theorem runOps_mem {o : Oper} (hg : o.guard = none) : ∀ {os : List Oper} {st st' : St}, o ∈ os → runOps E ops.toList os st = some st' → ∃ s s', Go.Q.exOp E o s = some s'
 | o1 :: os, st, st', hm, hr => by
  unfold runOps at hr
  by_cases ho : o1 = o
  ·subst ho
   rw [hg] at hr
   simp only [Option.bind_eq_some_iff] at hr
   obtain ⟨s, h, _⟩ := hr
   exact ⟨_, _, h⟩
  ·have hm' : o ∈ os := (List.mem_cons.1 hm).resolve_left (fun e => ho e.symm)
   split at hr
   ·simp only [Option.bind_eq_some_iff] at hr
    obtain ⟨s, _, h⟩ := hr
    exact runOps_mem hg hm' h
   ·simp only [Option.bind_eq_some_iff] at hr
    obtain ⟨g, _, hr⟩ := hr
    split at hr
    ·split at hr
     ·simp only [Option.bind_eq_some_iff] at hr
      obtain ⟨s, _, h⟩ := hr
      exact runOps_mem hg hm' h
     ·exact runOps_mem hg hm' hr
    ·exact runOps_mem hg hm' hr
    ·cases hr
theorem filter_more (j : Nat) (G : List Nat) : ∀ (l : List Nat), (l.filter fun k => !(j :: G).contains k).length ≤ (l.filter fun k => !G.contains k).length
 | [] => Nat.le_refl _
 | y :: l => by
  have ih := filter_more j G l
  simp only [List.filter_cons]
  by_cases h1 : G.contains y = true
  ·rw [if_neg (by simp only [List.contains_cons, h1, Bool.or_true, Bool.not_true, Bool.false_eq_true, not_false_eq_true]), if_neg (by simp only [h1, Bool.not_true, Bool.false_eq_true, not_false_eq_true])]
   exact ih
  ·rw [if_pos (c := (!G.contains y) = true) (by simpa using h1)]
   split
   ·simp only [List.length_cons]; omega
   ·simp only [List.length_cons]; omega
theorem filter_less {j : Nat} {G : List Nat} (hj : j ∉ G) : ∀ {l : List Nat}, j ∈ l → (l.filter fun k => !(j :: G).contains k).length + 1 ≤ (l.filter fun k => !G.contains k).length
 | x :: l, h => by
  simp only [List.filter_cons]
  by_cases hx : x = j
  ·subst hx
   have := filter_more x G l
   rw [if_neg (by simp), if_pos (c := (!G.contains x) = true) (by simpa using hj)]
   simp only [List.length_cons]; omega
  ·have ih := filter_less hj ((List.mem_cons.1 h).resolve_left (fun e => hx e.symm))
   by_cases h1 : G.contains x = true
   ·rw [if_neg (by simp only [List.contains_cons, h1, Bool.or_true, Bool.not_true, Bool.false_eq_true, not_false_eq_true]), if_neg (by simp only [h1, Bool.not_true, Bool.false_eq_true, not_false_eq_true])]
    exact ih
   ·rw [if_pos (c := (!G.contains x) = true) (by simpa using h1), if_pos (by simp only [List.contains_cons, beq_eq_false_iff_ne.2 hx, Bool.false_or]; simpa using h1)]
    simp only [List.length_cons]; omega
theorem getD_put_ne (a : Act) (d : Option Nat) (v : Value) (t : Nat) (h : d ≠ some t) : (a.put d v).tmps.getD t Go.undef = a.tmps.getD t Go.undef := by
 cases d with
 | none => rfl
 | some i =>
  have hne : i ≠ t := fun e => h (by rw [e])
  simp only [Act.put, Array.getD_eq_getD_getElem?]
  rw [Array.getElem?_setIfInBounds_ne hne]
theorem wp_append_keeps {o : Oper} {x : Nat} {y : Operand} {T T2 : Nat} {K : Act → World → Prop} {A : Option Addr} (ho : o.op = .call ⟨.builtin .append, #[.tmp x, y], #[T, T2]⟩) (hx : a.tmps.getD x Go.undef = .slice A 0 0) (h : o.wp P a w K Q) : o.wp P a w (fun a' w' => Keeps w w' ∧ K a' w') Q := by
 have hrun : (execOp a.eval o).run P w = ((Builtin.append_ #[T, T2] o.type #[.slice A 0 0, a.eval y]).run P w).andThen fun u w' => .ok (.value u) w' := by
  have he : a.eval (.tmp x) = .slice A 0 0 := hx
  simp [execOp, ho, resolve, invoke, builtin, he]
 unfold Oper.wp at *
 rw [hrun] at h ⊢
 cases hr : (Builtin.append_ #[T, T2] o.type #[.slice A 0 0, a.eval y]).run P w with
 | ok u w' =>
  rw [hr] at h
  simp only [Result.andThen_ok, Oper.upon] at h ⊢
  exact ⟨append_keeps hr, h⟩
 | halt v w' =>
  rw [hr] at h
  simp only [Result.andThen_halt] at h ⊢
  cases v <;> simp only [Oper.upon] at h ⊢ <;> first | exact h | trivial
theorem appE_spec {D : List Nat} {o : Oper} (h : appE ops D o = true) : ∃ x y T T2 e oe T' n ps, o.op = .call ⟨.builtin .append, #[.tmp x, y], #[T, T2]⟩ ∧ e ∈ D ∧ (∃ ed ∈ o.after, Region.binds .any ed = true ∧ ed.on = e) ∧ ops[e]? = some oe ∧ oe.dst = some x ∧ oe.op = .buildSlice T' n ps := by
 unfold appE at h
 cases ho : o.op <;> rw [ho] at h <;> try cases h
 rename_i c
 obtain ⟨callee, cargs, argTypes⟩ := c
 simp only at h
 split at h
 ·rename_i x y T T2 h2 h3
  have e1 : cargs = #[.tmp x, y] := by apply Array.ext'; simpa using h2
  have e2 : argTypes = #[T, T2] := by apply Array.ext'; simpa using h3
  subst e1; subst e2
  rw [List.any_eq_true] at h
  obtain ⟨e, he, h⟩ := h
  rw [Bool.and_eq_true] at h
  obtain ⟨ha, h⟩ := h
  split at h
  ·rename_i oe hoe
   simp only [Bool.and_eq_true, beq_iff_eq] at h
   obtain ⟨hd, hb⟩ := h
   split at hb
   ·rename_i T' n ps hop
    obtain ⟨ed, hed, hb2⟩ := Array.any_eq_true'.1 ha
    simp only [Bool.and_eq_true, beq_iff_eq] at hb2
    exact ⟨x, y, T, T2, e, oe, T', n, ps, rfl, he, ⟨ed, hed, hb2.1, hb2.2⟩, hoe, hd, hop⟩
   ·cases hb
  ·cases h
 ·cases h
theorem heads_mem {i : Nat} : ∀ {L : List (List Nat)}, i ∈ headsOf L ↔ ∃ l, i :: l ∈ L
 | [] => by simp [headsOf]
 | [] :: L => by
  rw [headsOf, heads_mem]
  exact ⟨fun ⟨l, h⟩ => ⟨l, List.mem_cons_of_mem _ h⟩, fun ⟨l, h⟩ => ⟨l, by simpa using h⟩⟩
 | (j :: m) :: L => by
  have ih := heads_mem (i := i) (L := L)
  rw [headsOf]
  constructor
  ·intro h
   split at h
   ·obtain ⟨l, h⟩ := ih.1 h
    exact ⟨l, List.mem_cons_of_mem _ h⟩
   ·rcases List.mem_cons.1 h with rfl | h
    ·exact ⟨m, List.mem_cons_self ..⟩
    ·obtain ⟨l, h⟩ := ih.1 h
     exact ⟨l, List.mem_cons_of_mem _ h⟩
  ·rintro ⟨l, h⟩
   rcases List.mem_cons.1 h with h | h
   ·cases h
    split
    ·rename_i hc; simpa using hc
    ·exact List.mem_cons_self ..
   ·have := ih.2 ⟨l, h⟩
    split
    ·exact this
    ·exact List.mem_cons_of_mem _ this
theorem tails_mem {i : Nat} {l : List Nat} : ∀ {L : List (List Nat)}, l ∈ tailsOf i L ↔ i :: l ∈ L
 | [] => by simp [tailsOf]
 | [] :: L => by rw [tailsOf, tails_mem]; simp
 | (j :: m) :: L => by
  have ih := tails_mem (i := i) (l := l) (L := L)
  rw [tailsOf]
  split
  ·rename_i h
   subst h
   rw [List.mem_cons, List.mem_cons, ih]
   simp
  ·rename_i h
   rw [ih, List.mem_cons]
   exact ⟨.inr, fun h2 => h2.resolve_left (fun e => h (by cases e; rfl))⟩
def RunsTo (E : Env) (ops : Array Oper) (st st' : St) (l : List Nat) : Prop := ∃ os sl, l.map (ops[·]?) = os.map some ∧ runOps E ops.toList os st = some sl ∧ Alike sl st'
theorem draw_sound (hE : TabOK P E) (hC : CallOK P E.call) (hsel : ∀ (j : Nat) (o : Oper) cs b, ops[j]? = some o → o.op ≠ .select cs b) (hQ : ∀ c a a' w, Q (.panic c) a' w → Q (.panic c) a w) {D : List Nat} (hD : EarlyOK ops D) {st' : St} :
  ∀ (n k : Nat) (L : List (List Nat)) (fuel : Nat) (listed : Array Bool) (G : List Nat) (β : Nat → Nat) {I : Nat → Prop} {σ : Nat → Option Own} {st : St} {a : Act} {w : World}, k + fuel ≤ n → L ≠ [] →
  (∀ l ∈ L, RunsTo E ops st st' l) → (∀ l ∈ L, (l.filter fun k => !G.contains k).length ≤ fuel) → (∀ (i : Nat) (o : Oper), ops[i]? = some o → ∀ t, o.dst = some t → t < a.tmps.size) → treeOk E.byref ops D k L listed = true →
  (∀ g ∈ G, g ∈ D) → (∀ e ∈ D, listed.getD e true = false → ∀ o t, ops[e]? = some o → o.dst = some t → Und t st) →
  (∀ g ∈ G, listed.getD g true = false → Ghost ops E B I σ st a w g (β g)) → (∀ g ∈ G, ∀ g' ∈ G, g ≠ g' → listed.getD g true = false → listed.getD g' true = false → β g ≠ β g') →
  (∀ e ∈ D, (markAll listed G).getD e false = true → ∀ o t T n ps, ops[e]? = some o → o.dst = some t → o.op = .buildSlice T n ps → ∃ A, a.tmps.getD t Go.undef = .slice A 0 0) →
  Rel B I σ st a w →
  (∀ I' σ' a' w', a'.tmps.size = a.tmps.size → Rel B I' σ' st' a' w' → Q .normal a' w') → wpAnyV P E ops D Q fuel (markAll listed G) a w := by
 have hfull : ∀ {listed : Array Bool} {G : List Nat}, (∀ g ∈ G, g ∈ D) → Region.ready .any ops listed = [] → markAll listed G = listed := fun {listed G} hG hnil => markAll_full listed G fun g hg => by
  cases hb : listed.getD g true with
  | true => rfl
  | false =>
   obtain ⟨o, t, h1, h2, _⟩ := hD g (hG g hg)
   have : g ∈ Region.ready .any ops listed := mem_ready.2 ⟨hb, o, h1, fun e he => by rw [(guard_early h2).2] at he; simp at he⟩
   rw [hnil] at this; cases this
 intro n
 induction n with
 | zero =>
  intro k L fuel listed G β I σ st a w hn hL hl hf hd hok hG _ _ _ _ h hQn
  obtain rfl : k = 0 := by omega
  obtain rfl : fuel = 0 := by omega
  simp only [treeOk, Bool.and_eq_true, List.isEmpty_iff, List.all_eq_true] at hok
  obtain ⟨l, hm⟩ : ∃ l, l ∈ L := List.exists_mem_of_ne_nil L hL
  have hl0 : l = [] := hok.2 l hm
  subst hl0
  obtain ⟨os, sl, h1, h2, h3⟩ := hl _ hm
  have : os = [] := by simpa using h1
  subst this
  simp only [runOps, Option.some.injEq] at h2
  subst h2
  rw [hfull hG hok.1]
  exact wpAnyV_done hok.1 (hQn I σ a w rfl (h.swap h3)) 0
 | succ n ih =>
  intro k L fuel listed G β I σ st a w hn hL hl hf hd hok hG hU hGh hβ hS h hQn
  match k, hok with
  | 0, hok =>
   simp only [treeOk, Bool.and_eq_true, List.isEmpty_iff, List.all_eq_true] at hok
   obtain ⟨l, hm⟩ : ∃ l, l ∈ L := List.exists_mem_of_ne_nil L hL
   have hl0 : l = [] := hok.2 l hm
   subst hl0
   obtain ⟨os, sl, h1, h2, h3⟩ := hl _ hm
   have : os = [] := by simpa using h1
   subst this
   simp only [runOps, Option.some.injEq] at h2
   subst h2
   rw [hfull hG hok.1]
   exact wpAnyV_done hok.1 (hQn I σ a w rfl (h.swap h3)) fuel
  | k + 1, hok =>
   simp only [treeOk, Bool.and_eq_true, Bool.or_eq_true, List.all_eq_true] at hok
   obtain ⟨⟨⟨hne, hsome⟩, hstep⟩, hrec⟩ := hok
   have hready : ∀ i ∈ headsOf L, i ∈ Region.ready .any ops listed := by
    rcases hstep with hp | hfk
    ·intro i hm
     unfold pureOk at hp
     split at hp
     ·rename_i i' hh
      rw [hh] at hm
      obtain rfl : i = i' := by simpa using hm
      split at hp
      ·simp only [Bool.and_eq_true] at hp
       simpa using hp.1.2
      ·cases hp
     ·cases hp
    ·intro i hm
     simp only [forkOk, Bool.and_eq_true, List.all_eq_true] at hfk
     simpa using hfk.1.1 i hm
   have htail : ∀ i ∈ headsOf L, tailsOf i L ≠ [] := fun i hm e => by
    obtain ⟨l, hl⟩ := heads_mem.1 hm
    have := tails_mem.2 hl
    rw [e] at this
    cases this
   have hto : ∀ {i : Nat} {o : Oper} {st1 : St}, ops[i]? = some o → (∀ os sl, runOps E ops.toList (o :: os) st = some sl → runOps E ops.toList os st1 = some sl) → ∀ l' ∈ tailsOf i L, RunsTo E ops st1 st' l' := by
    intro i o st1 ho hs l' hm
    obtain ⟨os, sl, h1, h2, h3⟩ := hl _ (tails_mem.1 hm)
    cases os with
    | nil => simp at h1
    | cons o' os =>
     simp only [List.map_cons, List.cons.injEq, ho, Option.some.injEq] at h1
     obtain ⟨rfl, h1⟩ := h1
     exact ⟨os, sl, h1, hs _ _ h2, h3⟩
   have hrun : ∀ {i : Nat} {o : Oper}, i ∈ headsOf L → ops[i]? = some o → ∃ os sl, runOps E ops.toList (o :: os) st = some sl := by
    intro i o hm ho
    obtain ⟨l', hm'⟩ := heads_mem.1 hm
    obtain ⟨os, sl, h1, h2, _⟩ := hl _ hm'
    cases os with
    | nil => simp at h1
    | cons o' os =>
     simp only [List.map_cons, List.cons.injEq, ho, Option.some.injEq] at h1
     obtain ⟨rfl, _⟩ := h1
     exact ⟨_, _, h2⟩
   have hhead : ∀ l ∈ L, ∃ i l', l = i :: l' ∧ i ∈ headsOf L := fun l hm => by
    have h1 := hne l hm
    cases l with
    | nil => simp at h1
    | cons i l' => exact ⟨i, l', rfl, heads_mem.2 ⟨l', hm⟩⟩
   have hlist : ∀ {i e : Nat}, (listed.setIfInBounds i true).getD e true = false → e ≠ i ∧ listed.getD e true = false := fun {i e} he => by
    by_cases hie : i = e
    ·subst hie
     rw [Array.getD_eq_getD_getElem?, Array.getElem?_setIfInBounds_self] at he
     split at he <;> simp at he
    ·exact ⟨fun h => hie h.symm, by rw [getD_set_ne true hie] at he; exact he⟩
   have hdne : ∀ {i : Nat} {o : Oper}, ops[i]? = some o → ∀ e ∈ D, e ≠ i → ∀ oe t, ops[e]? = some oe → oe.dst = some t → o.dst ≠ some t := fun {i o} hi e he hne oe t h1 h2 => by
    obtain ⟨oe', t', k1, _, k3, k4⟩ := hD e he
    rw [h1] at k1; cases k1
    rw [h2] at k3; cases k3
    exact k4 i o hi (fun h => hne h.symm)
   by_cases hadopt : ∃ i ∈ headsOf L, i ∈ G
   ·-- one came up before its turn
    obtain ⟨i, him, hiG⟩ := hadopt
    have hiun : listed.getD i true = false := (mem_ready.1 (hready i him)).1
    obtain ⟨o, t, hi, k2, k3, _⟩ := hD i (hG i hiG)
    obtain ⟨os0, sl0, hr0⟩ := hrun him hi
    unfold runOps at hr0
    rw [(guard_early k2).1] at hr0
    simp only [Option.bind_eq_some_iff] at hr0
    obtain ⟨st1, hx, _⟩ := hr0
    have hs : ∀ os sl, runOps E ops.toList (o :: os) st = some sl → runOps E ops.toList os st1 = some sl := fun os sl hq => by
     unfold runOps at hq
     rw [(guard_early k2).1] at hq
     simp only [hx, Option.bind_some] at hq
     exact hq
    obtain ⟨σ', r1, r2⟩ := Ghost.adopt h hi k2 (hGh i hiG hiun) hx
    have := ih k (tailsOf i L) fuel (listed.setIfInBounds i true) G β (by omega) (htail i him) (hto hi hs) (fun l' hm => by
      have hf := hf _ (tails_mem.1 hm)
      simp only [List.filter_cons] at hf
      rw [if_neg (by simpa using hiG)] at hf
      exact hf) hd (hrec i him) hG
     (fun e he hun oe t h1 h2 => by
      obtain ⟨hne, hun'⟩ := hlist hun
      exact (hU e he hun' oe t h1 h2).exOp (hdne hi e he hne oe t h1 h2) hx)
     (fun g hg hun => by
      obtain ⟨hne, hun'⟩ := hlist hun
      refine (hGh g hg hun').later (Nat.le_refl _) rfl (fun _ _ _ _ => rfl) (fun m1 m2 => ⟨m1, r2 _ (hβ g hg i hiG hne hun' hiun) m2, rfl⟩))
     (fun g hg g' hg' hne hun hun' => hβ g hg g' hg' hne (hlist hun).2 (hlist hun').2)
     (fun e he hm => hS e he (by rw [markAll_set, markAll_in listed hiG] at hm; exact hm))
     r1 hQn
    rw [markAll_set, markAll_in listed hiG] at this
    exact this
   ·have hnoG : ∀ i ∈ headsOf L, i ∉ G := fun i hm hg => hadopt ⟨i, hm, hg⟩
    obtain ⟨l0, hl0⟩ : ∃ l, l ∈ L := List.exists_mem_of_ne_nil L hL
    obtain ⟨i0, l0', rfl, him0⟩ := hhead l0 hl0
    obtain ⟨fuel, rfl⟩ : ∃ f, fuel = f + 1 := by
     have hf := hf _ hl0
     simp only [List.filter_cons] at hf
     rw [if_pos (by simpa using hnoG i0 him0)] at hf
     simp only [List.length_cons] at hf
     exact ⟨fuel - 1, by omega⟩
    have hf' : ∀ {i : Nat}, i ∈ headsOf L → ∀ l ∈ tailsOf i L, (l.filter fun k => !G.contains k).length ≤ fuel := fun {i} him l hm => by
     have hf := hf _ (tails_mem.1 hm)
     simp only [List.filter_cons] at hf
     rw [if_pos (by simpa using hnoG i him)] at hf
     simp only [List.length_cons] at hf
     omega
    have hrdR : i0 ∈ Region.ready .any ops (markAll listed G) := ready_mark (hready i0 him0) (hnoG i0 him0)
    have rest : ∀ {i : Nat} {o : Oper}, i ∈ headsOf L → ops[i]? = some o → i ∉ D → ∀ {I' : Nat → Prop} {σ' : Nat → Option Own} {st1 : St} {u : Value} {w' : World}, (∀ e ∈ D, e ≠ i → listed.getD e true = false → ∀ oe t, ops[e]? = some oe → oe.dst = some t → Und t st1) →
      w.heap.size ≤ w'.heap.size → (∀ b, b < w.heap.size → ¬ I b → ¬ Live σ st.heap b → ¬ I' b ∧ ¬ Live σ' st1.heap b ∧ w'.heap[b]? = w.heap[b]?) → Rel B I' σ' st1 (a.put o.dst u) w' → (∀ os sl, runOps E ops.toList (o :: os) st = some sl → runOps E ops.toList os st1 = some sl) → wpAnyV P E ops D Q fuel ((markAll listed G).setIfInBounds i true) (a.put o.dst u) w' := by
     intro i o him hi hiD I' σ' st1 u w' hU1 hws hI1 g1 g2
     have := ih k (tailsOf i L) fuel (listed.setIfInBounds i true) G β (by omega) (htail i him) (hto hi g2) (hf' him) (fun i o' ho' t ht => by rw [size_put]; exact hd i o' ho' t ht) (hrec i him) hG
      (fun e he hun oe t h1 h2 => by
       obtain ⟨hne, hun'⟩ := hlist hun
       exact hU1 e he hne hun' oe t h1 h2)
      (fun g hg hun => by
       obtain ⟨hne, hun'⟩ := hlist hun
       refine (hGh g hg hun').later hws (size_put _ _ _) (fun og t h1 h2 => getD_put_ne a o.dst u t (hdne hi g (hG g hg) hne og t h1 h2)) (fun m1 m2 => hI1 _ (hGh g hg hun').1 m1 m2))
      (fun g hg g' hg' hne hun hun' => hβ g hg g' hg' hne (hlist hun).2 (hlist hun').2)
      (fun e he hm oe t T n ps h1 h2 h3 => by
       have hne : e ≠ i := fun h => hiD (h ▸ he)
       rw [markAll_set, getD_set_ne false (fun h => hne h.symm)] at hm
       rw [getD_put_ne a o.dst u t (hdne hi e he hne oe t h1 h2)]
       exact hS e he hm oe t T n ps h1 h2 h3)
      g1 (fun I2 σ2 a2 w2 hs => hQn I2 σ2 a2 w2 (by rw [hs, size_put]))
     rw [markAll_set] at this
     exact this
    rcases hstep with hp | hfk
    ·-- it yields a value
     unfold pureOk at hp
     split at hp
     case h_2 => cases hp
     rename_i i hh
     have him : i ∈ headsOf L := by rw [hh]; simp
     split at hp
     case h_2 => cases hp
     rename_i o hi
     simp only [Bool.and_eq_true] at hp
     obtain ⟨⟨hp, _⟩, hfr⟩ := hp
     have hdo := hd i o hi
     obtain ⟨os0, sl0, hr⟩ := hrun him hi
     have hy : ∃ v st1, YieldsK P ops o v a w ∧ Rel B I σ st1 (a.put o.dst v) w ∧ st1.heap = st.heap ∧ (∀ t, o.dst ≠ some t → Und t st → Und t st1) ∧ ∀ os sl, runOps E ops.toList (o :: os) st = some sl → runOps E ops.toList os st1 = some sl := by
      rcases step_cases3 h hdo hr with ⟨hw, st0, st1, g1, gh, gu, g2, g3⟩ | ⟨hw, st1, g1, gh, gu, g2⟩
      ·have g2' := g2
       unfold Go.Q.exOp at g2
       rw [if_pos hp, Option.map_eq_some_iff] at g2
       obtain ⟨v, g2, rfl⟩ := g2
       obtain ⟨u, k1, k2⟩ := g1.exValB hE g2
       exact ⟨u, _, .inl ⟨hw, k1⟩, g1.put hdo k2, by rw [← gh]; cases o.dst <;> rfl, fun t ht hu => (gu t hu).exOp ht g2', g3⟩
      ·exact ⟨_, st1, .inr ⟨hw, rfl⟩, g1, gh, gu, g2⟩
     obtain ⟨v, st1, hy, g1, gh, gu, g2⟩ := hy
     obtain ⟨f1, f2⟩ := freeOn_spec hi hfr
     have hiD : i ∉ D := fun h => by
      obtain ⟨o', t, k1, k2, _⟩ := hD i h
      rw [hi] at k1; cases k1
      rw [pure_early k2] at hp; cases hp
     refine wpAnyV_first (· ∈ depOn ops i (firstOf (tailsOf i L)) []) hi hsel (fun c a w => hQ c a _ w) fuel (markAll listed G) a w (fun j hj => ?_) (fun j oj hoj hne hun => f2 j oj hoj hne (markAll_false listed hun).2) (ready_mark (hready i him) (hnoG i him)) hy
      (rest him hi hiD (fun e he hne hun oe t h1 h2 => gu t (hdne hi e he hne oe t h1 h2) (hU e he hun oe t h1 h2)) (Nat.le_refl _) (fun b _ m1 m2 => ⟨m1, by rw [gh]; exact m2, rfl⟩) g1 g2)
     obtain ⟨k1, k2, oj, k3, e, k4, k5⟩ := f1 j hj
     refine ⟨k1, ?_, oj, k3, e, k4, k5⟩
     rw [markAll_out listed true (fun hjG => ?_)]
     ·exact k2
     ·obtain ⟨oj', _, m1, m2, _⟩ := hD j (hG j hjG)
      rw [k3] at m1; cases m1
      rw [(guard_early m2).2] at k4
      simp at k4
    ·have hfk' := hfk
     simp only [forkOk, Bool.and_eq_true, List.all_eq_true] at hfk
     obtain ⟨⟨_, hall⟩, hDl⟩ := hfk
     refine ⟨fun h0 => (by rw [h0] at hrdR; cases hrdR), fun j hj => ?_⟩
     have hjun := markAll_false listed (mem_ready.1 hj).1
     by_cases hjD : j ∈ D
     case neg =>
      have him : j ∈ headsOf L := by
       refine Classical.byContradiction fun hji => ?_
       have := hall j (ready_mark_sub hj (F := D.filter (fun e => !(headsOf L).contains e)) (fun g hg => by
        rw [List.mem_filter]
        exact ⟨hG g hg, by simpa using fun e => hnoG g e hg⟩) (fun hm => hjD (List.mem_filter.1 hm).1))
       simp [hji, hjD] at this
      obtain ⟨_, o, hi, _⟩ := mem_ready.1 hj
      have hdo := hd j o hi
      obtain ⟨os0, sl0, hr⟩ := hrun him hi
      unfold wpOp
      simp only [hi]
      rcases step_cases3 h hdo hr with ⟨hw, st0, st1, g1, gh, gu, g2, g3⟩ | ⟨hw, st1, g1, gh, gu, g2⟩
      ·rw [if_pos hw]
       have hwp : o.wp P a w (fun a' w' => (keepsOp E.byref o.op = true → Keeps w w') ∧ wpAnyV P E ops D Q fuel ((markAll listed G).setIfInBounds j true) a' w') Q := by
        refine (h.rebase gh g1).exOp hE hC hdo g2 fun I' σ' u w' hk k1 => ?_
        have k2 := h.compose k1
        refine ⟨hk, rest him hi hjD (fun e he hne hun oe t h1 h2 => (gu t (hU e he hun oe t h1 h2)).exOp (hdne hi e he hne oe t h1 h2) g2) k1.frame.2.2.2.1 (fun b hb m1 m2 => ⟨fun hI => ?_, fun hL => ?_, k1.frame.2.2.2.2 b hb m2⟩) k2 g3⟩
        ·rcases k1.src b hI with h1 | h1 | h1
         ·exact m1 h1
         ·exact absurd hb (Nat.not_lt.2 h1)
         ·exact m2 h1
        ·rcases k1.from_ b hL with h1 | h1
         ·exact absurd hb (Nat.not_lt.2 h1)
         ·exact m2 h1
       refine .inl ?_
       cases happ : appE ops D o with
       | false => exact Oper.wp_mono (fun a' w' hk => ⟨fun o' ho' hk' => by rw [hi] at ho'; cases ho'; rw [happ, Bool.or_false] at hk'; exact hk.1 hk', hk.2⟩) hwp
       | true =>
        obtain ⟨x, y, T, T2, e, oe, T', n', ps, q1, q2, ⟨ed, q3, q4, q5⟩, q6, q7, q8⟩ := appE_spec happ
        obtain ⟨_, o', ho', hall'⟩ := mem_ready.1 hj
        rw [hi] at ho'; cases ho'
        have hm := hall' ed q3 q4
        rw [q5] at hm
        obtain ⟨A, hA⟩ := hS e q2 hm oe x T' n' ps q6 q7 q8
        exact Oper.wp_mono (fun a' w' hk => ⟨fun _ _ _ => hk.1, hk.2.2⟩) (wp_append_keeps q1 hA hwp)
      ·rw [hw, if_neg (by simp)]
       exact ⟨fun _ _ _ => Keeps.refl w, rest him hi hjD (fun e he hne hun oe t h1 h2 => gu t (hdne hi e he hne oe t h1 h2) (hU e he hun oe t h1 h2)) (Nat.le_refl _) (fun b _ m1 m2 => ⟨m1, by rw [gh]; exact m2, rfl⟩) g1 g2⟩
     case pos =>
      obtain ⟨oj, t, k1, k2, k3, k4⟩ := hD j hjD
      have hjl : ∀ l ∈ L, j ∈ l := fun l hm => by
       have := hDl j hjD
       rw [Bool.or_eq_true, hjun.2, List.all_eq_true] at this
       simpa using this.resolve_left (by simp) l hm
      have hts : t < a.tmps.size := hd j oj k1 t k3
      have hx0 : ∃ s s', Go.Q.exOp E oj s = some s' := by
       obtain ⟨os, sl, h1, h2, _⟩ := hl _ hl0
       have hjos : oj ∈ os := by
        have h3 : ops[j]? ∈ (i0 :: l0').map (ops[·]?) := List.mem_map.2 ⟨j, hjl _ hl0, rfl⟩
        rw [h1, k1] at h3
        simpa using h3
       exact runOps_mem (guard_early k2).1 hjos h2
      obtain ⟨u, w', m1, m2, m3, m4⟩ := Ghost.make h hE k1 k2 k3 hts (hU j hjD hjun.2 oj t k1 k3) hx0
      have hwant : Region.wanted oj (yielded ops a.tmps) = true := by simp [Region.wanted, (guard_early k2).1]
      unfold wpOp
      simp only [k1]
      rw [if_pos hwant]
      refine .inl (wp_value m1 ⟨fun _ _ _ => m2.keeps, ?_⟩)
      have hdj : ∀ g ∈ G, ∀ og tg, ops[g]? = some og → og.dst = some tg → oj.dst ≠ some tg := fun g hg og tg h1 h2 => by
       obtain ⟨og', tg', n1, _, n3, n4⟩ := hD g (hG g hg)
       rw [h1] at n1; cases n1
       rw [h2] at n3; cases n3
       exact n4 j oj k1 (fun e => hjun.1 (e ▸ hg))
      have := ih (k + 1) L fuel listed (j :: G) (fun k => if k = j then w.heap.size else β k) (by omega) hL hl (fun l hm => by have := filter_less hjun.1 (hjl l hm); have := hf l hm; omega) (fun i o' ho' t ht => by rw [size_put]; exact hd i o' ho' t ht)
       (by simp only [treeOk, Bool.and_eq_true, Bool.or_eq_true, List.all_eq_true]; exact ⟨⟨⟨hne, hsome⟩, .inr hfk'⟩, hrec⟩)
       (fun g hg => by rcases List.mem_cons.1 hg with rfl | hg; exact hjD; exact hG g hg) hU
       (fun g hg hun => by
        by_cases hgj : g = j
        ·subst hgj
         simp only [if_true]
         exact m4
        ·simp only [if_neg hgj]
         have hg' := (List.mem_cons.1 hg).resolve_left hgj
         exact (hGh g hg' hun).later m2.size (size_put _ _ _) (fun og tg h1 h2 => getD_put_ne a oj.dst u tg (hdj g hg' og tg h1 h2)) (fun n1 n2 => ⟨n1, n2, m2.block _ (hGh g hg' hun).1 id⟩))
       (fun g hg g' hg' hne hun hun' => by
        by_cases hgj : g = j
        ·have hgj' : g' ≠ j := fun e => hne (hgj.trans e.symm)
         simp only [if_pos hgj, if_neg hgj']
         have := (hGh g' ((List.mem_cons.1 hg').resolve_left hgj') hun').1
         omega
        ·by_cases hgj' : g' = j
         ·simp only [if_neg hgj, if_pos hgj']
          have := (hGh g ((List.mem_cons.1 hg).resolve_left hgj) hun).1
          omega
         ·simp only [if_neg hgj, if_neg hgj']
          exact hβ g ((List.mem_cons.1 hg).resolve_left hgj) g' ((List.mem_cons.1 hg').resolve_left hgj') hne hun hun')
       (fun e he hm oe te T n' ps h1 h2 h3 => by
        by_cases hej : e = j
        ·subst hej
         obtain ⟨_, og, tg, n1, n2, _, n4⟩ := m4
         rw [h1] at n1; cases n1
         rw [h2] at n2; cases n2
         rw [h3] at n4
         exact n4
        ·simp only [markAll] at hm
         rw [getD_set_ne false (fun h => hej h.symm)] at hm
         obtain ⟨oe', te', p1, _, p3, p4⟩ := hD e he
         rw [h1] at p1; cases p1
         rw [h2] at p3; cases p3
         rw [getD_put_ne a oj.dst u te (p4 j oj k1 (fun h => hej h.symm))]
         exact hS e he hm oe te T n' ps h1 h2 h3)
       m3 (fun I2 σ2 a2 w2 hs => hQn I2 σ2 a2 w2 (by rw [hs, size_put]))
      exact this
end
end Go.Q
