/- An abstract interpreter of the translated code: functions. -/
import Derived.Test.YtbapbghnageckaaGreatGQDraw
import Derived.Test.YtbapbghnageckaaGreatGQHome
import Derived.LoopN
import Derived.Scope
namespace Go.Q
set_option linter.unusedVariables false
set_option linter.unusedSimpArgs false
set_option linter.unusedSectionVars false
open Go
section
variable {P : Program} {E : Env} {B : Base} {I : Nat → Prop} {σ : Nat → Option Own} {st : St} {a : Act} {w : World} {Q : Exit → Act → World → Prop}

def exitOf : Ex → Exit
 | .normal => .normal
 | .exit i => .exit i
 | .ret => .ret

theorem loopIn_lt : ∀ {c : Code} {j : Nat} {b : Code}, loopIn c j = some b → j < nLoops c
 | .seq x y, j, b, h => by
  simp only [loopIn] at h
  simp only [nLoops]
  split at h
  ·omega
  ·have := loopIn_lt h; omega
 | .cond c x y, j, b, h => by
  simp only [loopIn] at h
  simp only [nLoops]
  split at h
  ·omega
  ·have := loopIn_lt h; omega
 | .block i x, j, b, h => by simp only [loopIn] at h; simp only [nLoops]; exact loopIn_lt h
 | .scope x, j, b, h => by simp only [loopIn] at h; simp only [nLoops]; exact loopIn_lt h
 | .loop x, j, b, h => by
  simp only [loopIn] at h
  simp only [nLoops]
  split at h
  ·omega
  ·have := loopIn_lt h; omega
 | .skip, _, _, h => by simp [loopIn] at h
 | .region _ _ _, _, _, h => by simp [loopIn] at h
 | .exit _, _, _, h => by simp [loopIn] at h
 | .goto _, _, _, h => by simp [loopIn] at h
 | .ret, _, _, h => by simp [loopIn] at h
 | .label _, _, _, h => by simp [loopIn] at h

theorem loopIn_in : ∀ {c b d : Code} {k j : Nat}, loopIn c k = some b → loopIn b j = some d → loopIn c (k + 1 + j) = some d
 | .seq x y, b, d, k, j, h, h2 => by
  simp only [loopIn] at h ⊢
  split at h
  ·rename_i hk
   have h3 := loopIn_in h h2
   rw [if_pos (loopIn_lt h3)]; exact h3
  ·rename_i hk
   have h3 := loopIn_in h h2
   rw [if_neg (by omega), show k + 1 + j - nLoops x = k - nLoops x + 1 + j from by omega]; exact h3
 | .cond c x y, b, d, k, j, h, h2 => by
  simp only [loopIn] at h ⊢
  split at h
  ·rename_i hk
   have h3 := loopIn_in h h2
   rw [if_pos (loopIn_lt h3)]; exact h3
  ·rename_i hk
   have h3 := loopIn_in h h2
   rw [if_neg (by omega), show k + 1 + j - nLoops x = k - nLoops x + 1 + j from by omega]; exact h3
 | .block i x, b, d, k, j, h, h2 => by simp only [loopIn] at h ⊢; exact loopIn_in h h2
 | .scope x, b, d, k, j, h, h2 => by simp only [loopIn] at h ⊢; exact loopIn_in h h2
 | .loop x, b, d, k, j, h, h2 => by
  simp only [loopIn] at h ⊢
  split at h
  ·rename_i hk
   cases h
   subst hk
   rw [if_neg (by omega), show 0 + 1 + j - 1 = j from by omega]; exact h2
  ·rename_i hk
   have h3 := loopIn_in h h2
   rw [if_neg (by omega), show k + 1 + j - 1 = k - 1 + 1 + j from by omega]; exact h3
 | .skip, _, _, _, _, h, _ => by simp [loopIn] at h
 | .region _ _ _, _, _, _, _, h, _ => by simp [loopIn] at h
 | .exit _, _, _, _, _, h, _ => by simp [loopIn] at h
 | .goto _, _, _, _, _, h, _ => by simp [loopIn] at h
 | .ret, _, _, _, _, h, _ => by simp [loopIn] at h
 | .label _, _, _, _, _, h, _ => by simp [loopIn] at h

theorem codeOk_in {by_ : Nat → List Nat} {A : Ann} {n : Nat} : ∀ {c b : Code} {k : Nat}, loopIn c k = some b → codeOk by_ A n c = true → codeOk by_ A n b = true
 | .seq x y, b, k, h, ho => by
  simp only [loopIn] at h
  simp only [codeOk, Bool.and_eq_true] at ho
  split at h
  ·exact codeOk_in h ho.1
  ·exact codeOk_in h ho.2
 | .cond c x y, b, k, h, ho => by
  simp only [loopIn] at h
  simp only [codeOk, Bool.and_eq_true] at ho
  split at h
  ·exact codeOk_in h ho.1
  ·exact codeOk_in h ho.2
 | .block i x, b, k, h, ho => by simp only [loopIn] at h; exact codeOk_in h ho
 | .scope x, b, k, h, ho => by simp only [loopIn] at h; exact codeOk_in h ho
 | .loop x, b, k, h, ho => by
  simp only [loopIn] at h
  split at h
  ·cases h; exact ho
  ·exact codeOk_in h ho
 | .skip, _, _, h, _ => by simp [loopIn] at h
 | .region _ _ _, _, _, h, _ => by simp [loopIn] at h
 | .exit _, _, _, h, _ => by simp [loopIn] at h
 | .goto _, _, _, h, _ => by simp [loopIn] at h
 | .ret, _, _, h, _ => by simp [loopIn] at h
 | .label _, _, _, h, _ => by simp [loopIn] at h

def Passes (Q : Exit → Act → World → Prop) : Prop := ∀ c a a' w, Q (.panic c) a' w → Q (.panic c) a w

def LoopOK (P : Program) (B : Base) (N : Nat) (l : St → Option (Ex × St)) (body : Code) : Prop :=
 ∀ (Q : Exit → Act → World → Prop) (I : Nat → Prop) (σ : Nat → Option Own) (st : St) (a : Act) (w : World) (ex : Ex) (st' : St), Passes Q → a.tmps.size = N → Rel B I σ st a w → l st = some (ex, st') →
  (∀ I' σ' a' w', a'.tmps.size = N → Rel B I' σ' st' a' w' → Q (exitOf ex) a' w') → (Code.loop body).wp P Q a w

theorem Rel.dropAll (h : Rel B I σ st a w) (ts : List Nat) : Rel B I σ ⟨Go.Q.dropAll ts st.tmps, st.heap⟩ a w := by
 obtain ⟨s, hp⟩ := st
 induction ts generalizing s with
 | nil => exact h
 | cons t ts ih => exact ih _ (h.drop t)

theorem getL_some {vs : List AV} {c : Nat} {v : AV} (h : getL vs c = some v) : vs[c]? = some v := by rw [← getL_eq]; exact h

theorem VRs.setL {σ : Nat → Option Own} {w : World} {v : AV} : ∀ {c : Nat} {vs : List AV} {us : List Value}, VRs I σ w vs us → (∀ u, us[c]? = some u → VR I σ w v u) → VRs I σ w (Go.Q.setL c v vs) us
 | _, [], _, h, _ => by simpa [Go.Q.setL] using h
 | 0, x :: vs, _, h, hu => by obtain ⟨e, es', rfl, h2, h3⟩ := h; exact ⟨e, es', rfl, hu e rfl, h3⟩
 | c + 1, x :: vs, _, h, hu => by obtain ⟨e, es', rfl, h2, h3⟩ := h; exact ⟨e, es', rfl, h2, VRs.setL h3 (fun u hc => hu u (by simpa using hc))⟩

theorem Tr.emptyArr {L : Nat → Prop} (h : HR I σ w st.heap) (hl : ∀ b, Live σ st.heap b → L b) {id : Nat} (hid : id < lentFrom) (t : Ty) :
  Tr L I σ st w I (upd σ id ⟨⟨.slice none 0 0, t.size⟩, fun _ _ => none⟩) (Go.Q.emptyArr id t st) w :=
 Tr.alloc h hl hid (Moved.refl _ w) (fun b hb => by
  rcases hb with hb | ⟨_, _, _, hb, _⟩
  ·simp [blockOf] at hb
  ·cases hb) ⟨rfl, fun _ _ _ => rfl, ⟨fun _ _ _ _ h => (by cases h), fun _ _ _ _ _ _ _ h => (by cases h)⟩, [], ⟨by simp, .inl ⟨none, rfl, rfl⟩⟩, fun i hi => by simp at hi⟩

theorem Tr.unnil1 {L : Nat → Prop} (h : HR I σ w st.heap) (hl : ∀ b, Live σ st.heap b → L b) (n : NilAt) : ∃ σ', Tr L I σ st w I σ' (Go.Q.unnil1 n st) w := by
 have os : ∀ (id : Nat) (t : Ty), VR I (upd σ id ⟨⟨.slice none 0 0, t.size⟩, fun _ _ => none⟩) w (.os (.t id)) (.slice none 0 0) := fun id t => ⟨_, none, 0, 0, by simp only [hdrOf, upd_same, Option.map_some]; rfl, rfl, rfl⟩
 have kill : ∀ (id : Nat) (ow : Own) (vs : List AV) (us : List Value), VRs I σ w vs us → VRs I (upd σ id ow) w (AV.mapRs (killF id) vs) us := fun id ow vs us hv => VRs.map (fun _ h => h) (fun _ _ => rfl) _ (fun v u hv => killF_ok id (fun j hj => upd_other _ hj) v u hv) vs us hv
 cases n with
 | slot s id t =>
  simp only [Go.Q.unnil1]
  split
  ·rename_i hs
   split
   ·rename_i hid
    have t1 := Tr.emptyArr h hl hid t
    refine ⟨_, fun i u hu => ?_, t1.hr, t1.live, t1.sub, t1.src, t1.mv, t1.still⟩
    simp only [St.set, Slots.get_set]
    split
    ·rename_i e; subst e
     have hs' : st.tmps.get i = .nilS := hs
     rw [hs'] at hu
     obtain rfl := hu
     exact os id t
    ·exact t1.slots i u hu
   ·exact ⟨σ, Tr.refl h hl⟩
  ·exact ⟨σ, Tr.refl h hl⟩
 | cell s c id t =>
  simp only [Go.Q.unnil1]
  split
  ·rename_i vs hs
   split
   ·rename_i hc
    split
    ·rename_i hid
     have t1 := Tr.emptyArr h hl hid t
     refine ⟨_, fun i u hu => ?_, t1.hr, t1.live, t1.sub, t1.src, t1.mv, t1.still⟩
     simp only [St.set, Slots.get_set]
     split
     ·rename_i e; subst e
      have hs' : st.tmps.get i = .agg vs := hs
      rw [hs'] at hu
      obtain ⟨es, rfl, hv⟩ := hu
      refine ⟨es, rfl, VRs.setL (kill id _ vs es hv) (fun u hce => ?_)⟩
      obtain ⟨u', q1, q2⟩ := VRs.get hv (getL_some hc)
      rw [hce] at q1; cases q1
      obtain rfl := q2
      exact os id t
     ·exact t1.slots i u hu
    ·exact ⟨σ, Tr.refl h hl⟩
   ·exact ⟨σ, Tr.refl h hl⟩
  ·exact ⟨σ, Tr.refl h hl⟩
 | box b c id t =>
  simp only [Go.Q.unnil1]
  split
  ·rename_i vs hg
   split
   ·rename_i hc
    split
    ·rename_i hid
     obtain ⟨hid, hne⟩ := hid
     have t1 := Tr.emptyArr h hl hid t
     obtain ⟨ow, k1, k2, bb, es, T, k3, k4, k5⟩ := h.objs b _ hg
     have hg1 : ∃ vs', (Go.Q.emptyArr id t st).heap.get b = some (.box vs') := by
      unfold Go.Q.emptyArr St.alloc
      split
      ·exact ⟨vs, by simp only [Heap.get_put, if_neg hne]; exact hg⟩
      ·exact ⟨AV.mapRs (killF id) vs, by simp only [Heap.get_put, if_neg hne, Heap.get_mapR, hg]; rfl⟩
     obtain ⟨vs', hg1⟩ := hg1
     have hs1 : upd σ id ⟨⟨.slice none 0 0, t.size⟩, fun _ _ => none⟩ b = some ow := by rw [upd_other _ hne]; exact k1
     refine ⟨_, t1.trans (Tr.store t1.hr t1.live (S := fun _ => False) hg1 rfl hs1 (Moved.refl _ w) (fun _ h => h.elim) ⟨k2, bb, es, T, k3, k4, VRs.setL (kill id _ vs es k5) (fun u hce => ?_)⟩ (fun h => h))⟩
     obtain ⟨u', q1, q2⟩ := VRs.get k5 (getL_some hc)
     rw [hce] at q1; cases q1
     obtain rfl := q2
     exact os id t
    ·exact ⟨σ, Tr.refl h hl⟩
   ·exact ⟨σ, Tr.refl h hl⟩
  ·exact ⟨σ, Tr.refl h hl⟩

theorem Tr.unnil {L : Nat → Prop} : ∀ (ns : List NilAt) {σ : Nat → Option Own} {st : St}, HR I σ w st.heap → (∀ b, Live σ st.heap b → L b) → ∃ σ', Tr L I σ st w I σ' (Go.Q.unnil ns st) w
 | [], σ, st, h, hl => ⟨σ, Tr.refl h hl⟩
 | n :: ns, σ, st, h, hl => by
  obtain ⟨σ1, t1⟩ := Tr.unnil1 h hl n
  obtain ⟨σ2, t2⟩ := Tr.unnil ns t1.hr t1.live
  exact ⟨σ2, t1.trans t2⟩

theorem Rel.enter (h : Rel B I σ st a w) (A : Ann) (k : Nat) : ∃ I' σ', Rel B I' σ' (A.enter k st) a w := by
 unfold Ann.enter
 split
 ·rename_i ns _
  obtain ⟨σ1, t1⟩ := Tr.unnil (L := B.L) ns h.hr h.from_
  obtain ⟨σ2, t2⟩ := Tr.gc (L := B.L) t1.hr t1.live
  exact ⟨I, σ2, h.tr (t1.trans t2)⟩
 ·obtain ⟨σ2, t2⟩ := Tr.gc (L := B.L) h.hr h.from_
  exact ⟨I, σ2, h.tr t2⟩

theorem Tr.plainB {L : Nat → Prop} {I : Nat → Prop} {σ : Nat → Option Own} {st : St} (h : HR I σ w st.heap) (hl : ∀ b, Live σ st.heap b → L b) (id : Nat) : ∃ I', Tr L I σ st w I' σ (Go.Q.plainB st.tmps st.heap id (st.heap.get id)) w := by
 unfold Go.Q.plainB
 split
 ·rename_i hg
  split
  ·rename_i ho; exact Tr.freezeB h hl hg ho
  ·exact ⟨I, Tr.refl h hl⟩
 ·exact ⟨I, Tr.refl h hl⟩
theorem Tr.plain1 {L : Nat → Prop} {I : Nat → Prop} {σ : Nat → Option Own} {st : St} (h : HR I σ w st.heap) (hl : ∀ b, Live σ st.heap b → L b) (t : Nat) {u : Value} (hv : VR I σ w (st.get t) u) : ∃ I', Tr L I σ st w I' σ (Go.Q.plain1 st t) w := by
 unfold Go.Q.plain1
 cases hg : st.get t
 case undef =>
  simp only [plainA, plainG, AV.cells, freezes]
  simp only [List.findSome?, AV.top]
  exact ⟨I, Tr.refl h hl⟩
 case op id off =>
  cases off with
  | zero =>
   simp only [plainA, plainO]
   split
   ·rename_i vs hb
    unfold plainF
    split
    ·rename_i r _ hf
     obtain ⟨ow, hs, _, b', es, T, k3, k4, k5⟩ := h.objs id _ hb
     obtain ⟨I1, t1, _⟩ := freezes_ok (L := L) 8 h hl k5 hf
     obtain ⟨I2, t2⟩ := Tr.plainB (L := L) t1.hr t1.live id
     exact ⟨I2, t1.trans t2⟩
    ·exact ⟨I, Tr.refl h hl⟩
   ·exact ⟨I, Tr.refl h hl⟩
  | succ n =>
   simp only [plainA, plainG, AV.cells, freezes]
   simp only [List.findSome?, AV.top]
   exact ⟨I, Tr.refl h hl⟩
 all_goals
  rw [hg] at hv
  simp only [plainA]
  unfold plainG
  split
  ·rename_i r _ hf
   obtain ⟨I1, t1, _⟩ := freezes_ok (L := L) 8 h hl (VR.cells hv (by simp)).1 hf
   exact ⟨I1, t1⟩
  ·exact ⟨I, Tr.refl h hl⟩
theorem Rel.plains : ∀ (ts : List Nat) {I : Nat → Prop} {st : St}, Rel B I σ st a w → ∃ I', Rel B I' σ (Go.Q.plains ts st) a w
 | [], I, st, h => ⟨I, h⟩
 | t :: ts, I, st, h => by
  obtain ⟨I1, t1⟩ := Tr.plain1 (L := B.L) h.hr h.from_ t (h.slots t)
  exact Rel.plains ts (h.tr t1)

theorem range_getElem (ops : Array Oper) : (List.range ops.size).map (ops[·]?) = ops.toList.map some := by
 apply List.ext_getElem?
 intro i
 simp only [List.getElem?_map, List.getElem?_range]
 by_cases h : i < ops.size
 ·simp [h]
 ·simp [h]

theorem filterMap_getElem (ops : Array Oper) : ∀ (l : List Nat), (∀ i ∈ l, ops[i]?.isSome) → l.map (ops[·]?) = (l.filterMap (ops.toList[·]?)).map some
 | [], _ => rfl
 | i :: l, h => by
  have hi := h i (by simp)
  obtain ⟨o, ho⟩ := Option.isSome_iff_exists.1 hi
  simp only [List.map_cons, List.filterMap_cons]
  have : ops.toList[i]? = some o := by simpa using ho
  rw [this, ho]
  simp only [List.map_cons]
  rw [filterMap_getElem ops l fun j hj => h j (by simp [hj])]

theorem treeOk_some {by_ : Nat → List Nat} {ops : Array Oper} {D : List Nat} : ∀ (k : Nat) (L : List (List Nat)) (listed : Array Bool), treeOk by_ ops D k L listed = true → ∀ l ∈ L, l.length = k ∧ ∀ i ∈ l, (ops[i]?).isSome = true
 | 0, L, listed, h, l, hm => by
  simp only [treeOk, Bool.and_eq_true, List.all_eq_true, List.isEmpty_iff] at h
  have := h.2 l hm
  subst this
  exact ⟨rfl, fun i hi => by cases hi⟩
 | k + 1, L, listed, h, l, hm => by
  simp only [treeOk, Bool.and_eq_true, List.all_eq_true] at h
  obtain ⟨⟨⟨h1, h2⟩, _⟩, h3⟩ := h
  cases l with
  | nil => have := h1 _ hm; simp at this
  | cons i l =>
   have hi : i ∈ headsOf L := heads_mem.2 ⟨l, hm⟩
   obtain ⟨k1, k2⟩ := treeOk_some k _ _ (h3 i hi) l (tails_mem.2 hm)
   refine ⟨by simp [k1], fun j hj => ?_⟩
   rcases List.mem_cons.1 hj with rfl | hj
   ·exact h2 j hi
   ·exact k2 j hj
theorem Heap.get_key {h : Heap} {i : Nat} (hi : i ∉ h.map (·.1)) : h.get i = none := by
 induction h with
 | nil => rfl
 | cons x h ih =>
  obtain ⟨j, o⟩ := x
  simp only [List.map_cons, List.mem_cons, not_or] at hi
  rw [Heap.get, if_neg (fun e => hi.1 e.symm)]
  exact ih hi.2
theorem sameL_mem {h1 h2 : Heap} : ∀ {l : List Nat} {i : Nat}, sameL h1 h2 l → i ∈ l → h1.get i = h2.get i
 | j :: l, i, h, hi => by
  rcases List.mem_cons.1 hi with rfl | hi
  ·exact h.1
  ·exact sameL_mem h.2 hi
theorem agree.alike {s1 s2 : St} (h : agree s1 s2) : Alike s2 s1 := by
 refine ⟨h.1.symm, fun i => ?_⟩
 by_cases hi : i ∈ s1.heap.map (·.1) ++ s2.heap.map (·.1)
 ·exact (sameL_mem h.2 hi).symm
 ·rw [List.mem_append, not_or] at hi
  rw [Heap.get_key hi.1, Heap.get_key hi.2]
theorem before_und (A : Ann) (id : Nat) (st : St) : ∀ t, t ∈ (lookT A.early id).getD [] → Und t (A.before id true st) := by
 intro t ht
 simp only [Ann.before, if_true]
 cases hl : lookT A.early id with
 | none => rw [hl] at ht; cases ht
 | some ts =>
  rw [hl] at ht
  have key : ∀ (ts : List Nat) (s : Slots), (t ∈ ts ∨ s.get t = .undef) → (dropAll ts s).get t = .undef := by
   intro ts
   induction ts with
   | nil => intro s h; exact h.resolve_left (by simp)
   | cons x ts ih =>
    intro s h
    refine ih (s.drop x) ?_
    by_cases hx : t = x
    ·exact .inr (by rw [Slots.get_drop, if_pos hx])
    ·rcases h with h | h
     ·exact .inl ((List.mem_cons.1 h).resolve_left hx)
     ·exact .inr (by rw [Slots.get_drop, if_neg hx]; exact h)
  exact key ts st.tmps (.inl ht)
theorem Rel.before {B : Base} {I : Nat → Prop} {σ : Nat → Option Own} {st : St} {a : Act} {w : World} (h : Rel B I σ st a w) (A : Ann) (id : Nat) (d : Bool) : Rel B I σ (A.before id d st) a w := by
 unfold Ann.before
 split
 ·split
  ·exact h.dropAll _
  ·exact h
 ·exact h

theorem prun_sound (hm : P.follows .mixedOrders = true) (hE : TabOK P E) (hC : CallOK P E.call) {loop : LoopF} {A : Ann} {N : Nat} :
  ∀ (c : Code) (k : Nat) {Q : Exit → Act → World → Prop} {I : Nat → Prop} {σ : Nat → Option Own} {st : St} {a : Act} {w : World} {ex : Ex} {st' : St},
  codeOk E.byref A N c = true → (∀ j body, loopIn c j = some body → LoopOK P B N (loop (k + j)) body) → Passes Q → a.tmps.size = N → Rel B I σ st a w → prun E loop A k c st = some (ex, st') →
  (∀ I' σ' a' w', a'.tmps.size = N → Rel B I' σ' st' a' w' → Q (exitOf ex) a' w') → c.wp P Q a w := by
 intro c
 induction c with
 | skip =>
  intro k Q I σ st a w ex st' _ _ _ hs h hr hQ
  simp only [prun, Option.some.injEq, Prod.mk.injEq] at hr
  obtain ⟨rfl, rfl⟩ := hr
  exact wp_skip (hQ I σ a w hs h)
 | region id ops draw =>
  intro k Q I σ st a w ex st' hok _ hP hs h hr hQ
  simp only [prun, Option.map_eq_some_iff, Prod.mk.injEq] at hr
  obtain ⟨s, hr, rfl, rfl⟩ := hr
  simp only [codeOk, Bool.and_eq_true, List.all_eq_true] at hok
  obtain ⟨hdst, hdraw⟩ := hok
  have hd : ∀ o ∈ ops.toList, ∀ t, o.dst = some t → t < a.tmps.size := by
   intro o ho t ht
   have := hdst o ho
   simp only [dstOk, ht, decide_eq_true_eq] at this
   rw [hs]; exact this
  have hQ' : ∀ I' σ' a' w', a'.tmps.size = a.tmps.size → Rel B I' σ' s a' w' → Q .normal a' w' := fun I' σ' a' w' hs' hr' => by
   obtain ⟨I2, h2⟩ := Rel.plains ((lookT A.plain id).getD []) (hr'.dropAll ((lookT A.drops id).getD []))
   obtain ⟨σ2, h3⟩ := Rel.homes ((lookT A.homes id).getD []) h2
   exact hQ I2 σ2 a' w' (by omega) ((h3.subs _).softs _)
  cases draw with
  | false =>
   simp only [orderOf, otherOrders, forksOf, Ann.before, Bool.false_eq_true, if_false] at hr
   exact wp_region (runOps_sound hE hC ops.toList _ (range_getElem ops) hd h hr hQ')
  | true =>
   simp only [Bool.not_true, Bool.false_or, Bool.and_eq_true, decide_eq_true_eq] at hdraw
   obtain ⟨⟨hlen, hsel⟩, hdr⟩ := hdraw
   have hmoved0 : Rel B I σ st a { w with drawn := w.drawn + 1 } := h.tr (Tr.world h.hr h.from_ (Moved.drew (fun _ => False) w))
   have hmoved := hmoved0.before A id true
   have hea := earlyIn_ok ops ((lookT A.early id).getD [])
   rw [forksOf_some] at hr
   obtain ⟨hr1, hr2⟩ := hr
   have hsome := treeOk_some _ _ _ hdr
   have hL : ∀ l ∈ (lookT A.ord id).getD (List.range ops.size) :: (lookT A.forks id).getD [], RunsTo E ops (A.before id true st) s l := by
    intro l hm
    rcases List.mem_cons.1 hm with rfl | hm
    ·refine ⟨orderOf A id ops true, s, ?_, hr1, rfl, fun _ => rfl⟩
     simp only [orderOf, if_true]
     cases hl : lookT A.ord id with
     | none => simpa using range_getElem ops
     | some l =>
      rw [hl] at hsome
      exact filterMap_getElem ops l (hsome l (List.mem_cons_self ..)).2
    ·obtain ⟨s2, k1, k2⟩ := hr2 (l.filterMap (ops.toList[·]?)) (by
      simp only [otherOrders, if_true, List.mem_map]
      exact ⟨l, hm, rfl⟩)
     exact ⟨_, s2, filterMap_getElem ops l (hsome l (List.mem_cons_of_mem _ hm)).2, k1, k2.alike⟩
   exact wp_region_any hm (wpAny_of_V _ _ _ _ (draw_sound hE hC (Region.noSelect_spec hsel) hP hea.1 _ _ _ _ _ [] (fun _ => 0) (Nat.le_refl _) (by simp) hL (fun l hl => Nat.le_trans (List.length_filter_le _ _) (by rw [(hsome l hl).1]; exact hlen)) (fun i o ho => hd o (Array.mem_toList_iff.2 (Array.mem_of_getElem? ho))) hdr (fun g hg => by cases hg) (fun e he _ o t h1 h2 => before_und A id st t (hea.2 e he o t h1 h2)) (fun g hg => by cases hg) (fun g hg => by cases hg) (fun e _ hm => by
    have hm : (Array.replicate ops.size false).getD e false = true := hm
    simp [Array.getElem?_replicate] at hm
    split at hm <;> simp at hm) hmoved hQ'))
 | seq x y ihx ihy =>
  intro k Q I σ st a w ex st' hok hL hP hs h hr hQ
  simp only [codeOk, Bool.and_eq_true] at hok
  simp only [prun, Option.bind_eq_some_iff] at hr
  obtain ⟨⟨e1, s1⟩, h1, h2⟩ := hr
  have hLx : ∀ j body, loopIn x j = some body → LoopOK P B N (loop (k + j)) body := fun j body hj => hL j body (by simp only [loopIn, if_pos (loopIn_lt hj)]; exact hj)
  have hLy : ∀ j body, loopIn y j = some body → LoopOK P B N (loop (k + nLoops x + j)) body := fun j body hj => by
   have h3 : loopIn (.seq x y) (nLoops x + j) = some body := by
    simp only [loopIn]; rw [if_neg (by omega), Nat.add_sub_cancel_left]; exact hj
   have h4 := hL _ _ h3
   rw [Nat.add_assoc]; exact h4
  refine wp_seq (ihx k hok.1 hLx (Q := Exit.then (y.wp P Q) Q) (fun c a a' w hq => hP c a a' w hq) hs h h1 fun I1 σ1 a1 w1 hs1 hr1 => ?_)
  cases e1 with
  | normal => exact ihy (k + nLoops x) hok.2 hLy hP hs1 hr1 h2 hQ
  | exit i => simp only [Option.some.injEq, Prod.mk.injEq] at h2; obtain ⟨rfl, rfl⟩ := h2; exact hQ I1 σ1 a1 w1 hs1 hr1
  | ret => simp only [Option.some.injEq, Prod.mk.injEq] at h2; obtain ⟨rfl, rfl⟩ := h2; exact hQ I1 σ1 a1 w1 hs1 hr1
 | cond c0 x y ihx ihy =>
  intro k Q I σ st a w ex st' hok hL hP hs h hr hQ
  simp only [codeOk, Bool.and_eq_true] at hok
  have hLx : ∀ j body, loopIn x j = some body → LoopOK P B N (loop (k + j)) body := fun j body hj => hL j body (by simp only [loopIn, if_pos (loopIn_lt hj)]; exact hj)
  have hLy : ∀ j body, loopIn y j = some body → LoopOK P B N (loop (k + nLoops x + j)) body := fun j body hj => by
   have h3 : loopIn (.cond c0 x y) (nLoops x + j) = some body := by
    simp only [loopIn]; rw [if_neg (by omega), Nat.add_sub_cancel_left]; exact hj
   have h4 := hL _ _ h3
   rw [Nat.add_assoc]; exact h4
  simp only [prun] at hr
  split at hr
  ·rename_i b hb
   have hv0 := h.eval c0
   rw [hb] at hv0
   refine wp_cond_split (VR.bool hv0) (fun hbt => ?_) (fun hbf => ?_)
   ·subst hbt
    clear hv0 hb
    split at hr
    ·rename_i t
     rw [if_pos rfl] at hr
     exact ihx k hok.1 hLx hP hs (h.drop t) hr hQ
    ·rw [if_pos rfl] at hr
     exact ihx k hok.1 hLx hP hs h hr hQ
   ·subst hbf
    clear hv0 hb
    split at hr
    ·rename_i t
     rw [if_neg (by simp)] at hr
     exact ihy (k + nLoops x) hok.2 hLy hP hs (h.drop t) hr hQ
    ·rw [if_neg (by simp)] at hr
     exact ihy (k + nLoops x) hok.2 hLy hP hs h hr hQ
  ·cases hr
 | block id x ih =>
  intro k Q I σ st a w ex st' hok hL hP hs h hr hQ
  simp only [prun, Option.map_eq_some_iff] at hr
  obtain ⟨⟨e1, s1⟩, h1, h2⟩ := hr
  refine wp_block (ih k hok hL (Q := Exit.inBlock id Q) (fun c a a' w hq => hP c a a' w hq) hs h h1 fun I1 σ1 a1 w1 hs1 hr1 => ?_)
  cases e1 with
  | normal => simp only [Prod.mk.injEq] at h2; obtain ⟨rfl, rfl⟩ := h2; exact hQ I1 σ1 a1 w1 hs1 hr1
  | ret => simp only [Prod.mk.injEq] at h2; obtain ⟨rfl, rfl⟩ := h2; exact hQ I1 σ1 a1 w1 hs1 hr1
  | exit i =>
   simp only [exitOf, Exit.inBlock]
   simp only at h2
   split at h2
   ·rename_i hi
    rw [if_pos hi]
    simp only [Prod.mk.injEq] at h2; obtain ⟨rfl, rfl⟩ := h2; exact hQ I1 σ1 a1 w1 hs1 hr1
   ·rename_i hi
    rw [if_neg hi]
    simp only [Prod.mk.injEq] at h2; obtain ⟨rfl, rfl⟩ := h2; exact hQ I1 σ1 a1 w1 hs1 hr1
 | loop x ih =>
  intro k Q I σ st a w ex st' hok hL hP hs h hr hQ
  simp only [prun] at hr
  obtain ⟨I', σ', hg⟩ := h.enter A k
  exact hL 0 x (by simp [loopIn]) _ _ _ _ _ _ _ _ hP hs hg hr hQ
 | exit id =>
  intro k Q I σ st a w ex st' _ _ _ hs h hr hQ
  simp only [prun, Option.some.injEq, Prod.mk.injEq] at hr
  obtain ⟨rfl, rfl⟩ := hr
  exact wp_exit (hQ I σ a w hs h)
 | ret =>
  intro k Q I σ st a w ex st' _ _ _ hs h hr hQ
  simp only [prun, Option.some.injEq, Prod.mk.injEq] at hr
  obtain ⟨rfl, rfl⟩ := hr
  exact wp_ret (hQ I σ a w hs h)
 | label l =>
  intro k Q I σ st a w ex st' _ _ _ hs h hr hQ
  simp only [prun, Option.some.injEq, Prod.mk.injEq] at hr
  obtain ⟨rfl, rfl⟩ := hr
  exact wp_label (hQ I σ a w hs h)
 | scope x ih =>
  intro k Q I σ st a w ex st' hok hL hP hs h hr hQ
  simp only [prun] at hr
  refine wp_scope_straight (ih k hok hL (Q := Exit.noGoto Q) (fun c a a' w hq => hP c a a' w hq) hs h hr fun I1 σ1 a1 w1 hs1 hr1 => ?_)
  have := hQ I1 σ1 a1 w1 hs1 hr1
  cases ex <;> exact this
 | goto l =>
  intro k Q I σ st a w ex st' _ _ _ hs h hr hQ
  simp [prun] at hr
 | rangeFunc =>
  intro k Q I σ st a w ex st' _ _ _ hs h hr hQ
  simp [prun] at hr
 | refuse =>
  intro k Q I σ st a w ex st' _ _ _ hs h hr hQ
  simp [prun] at hr

theorem shrinkF_ok {id a0 n : Nat} {A : Option Addr} {len cap sz b o : Nat} {ow : Own} (hs : σ id = some ow) (hv : ow.h = ⟨.slice (some ⟨b, o, none⟩) len cap, sz⟩) (ha : a0 < cap) (v : AV) (u : Value) (h : LR σ v u) :
  VR I (upd σ id ⟨⟨.slice (some ⟨b, o + a0 * sz, none⟩) n (cap - a0), sz⟩, fun _ _ => none⟩) w (shrinkF id a0 n v) u := by
 have hh : ∀ (p : Pl) (ow' : Own), p.id ≠ id → hdrOf (upd σ id ow') p = hdrOf σ p := fun p ow' hp => by
  cases p with
  | t i => simp only [hdrOf, upd_other ow' (show i ≠ id from hp)]
  | n i j off => simp only [hdrOf, upd_other ow' (show i ≠ id from hp)]
 cases v <;> first | exact h.elim | skip
 case os p => simp only [shrinkF]; split; trivial; rename_i hp; exact LR.toVR (.os p) u (by simpa only [LR, hh p _ hp] using h)
 case el p i off => simp only [shrinkF]; split; trivial; rename_i hp; exact LR.toVR (.el p i off) u (by simpa only [LR, hh p _ hp] using h)
 case op i off => simp only [shrinkF]; split; trivial; rename_i hp; exact LR.toVR (.op i off) u (by simpa only [LR, upd_other _ hp] using h)
 case mp i => simp only [shrinkF]; split; trivial; rename_i hp; exact LR.toVR (.mp i) u (by simpa only [LR, upd_other _ hp] using h)
 case sub p a' n' =>
  simp only [shrinkF]
  split
  ·rename_i hp
   split
   ·rename_i hc
    obtain ⟨h1, rfl, rfl⟩ := hc
    cases p with
    | n _ _ _ => cases h1
    | t i =>
     simp only [Pl.id] at hp
     subst hp
     obtain ⟨H, A', len', cap', g1, g2, g3, A2, rfl, g4, _, _⟩ := h
     simp only [hdrOf, hs, Option.map_some, Option.some.injEq] at g1
     subst g1
     rw [hv] at g2 g4
     simp only [Value.slice.injEq] at g2
     obtain ⟨rfl, rfl, rfl⟩ := g2
     have := g4 b o rfl ha
     subst this
     exact ⟨_, _, n', cap - a', by simp only [hdrOf, upd_same, Option.map_some]; rfl, rfl, rfl⟩
   ·trivial
  ·rename_i hp
   exact LR.toVR (.sub p a' n') u (by simpa only [LR, hh p _ hp] using h)

theorem shrinks_ok {L : Nat → Prop} : ∀ (l : List (Nat × Nat × Nat)) {σ : Nat → Option Own} {vs vs' : List AV} {h h' : Heap} {us : List Value}, HR I σ w h → (∀ b, Live σ h b → L b) → VRs I σ w vs us → shrinks l vs h = (vs', h') →
  ∃ σ', Tr L I σ ⟨[], h⟩ w I σ' ⟨[], h'⟩ w ∧ VRs I σ' w vs' us
 | [], σ, vs, vs', h, h', us, hr, hl, hv, he => by
  simp only [shrinks, Prod.mk.injEq] at he
  obtain ⟨rfl, rfl⟩ := he
  exact ⟨σ, Tr.refl (st := ⟨[], h⟩) hr hl, hv⟩
 | (id, a0, n) :: l, σ, vs, vs', h, h', us, hr, hl, hv, he => by
  simp only [shrinks] at he
  split at he
  ·rename_i t xs hg
   split at he
   ·rename_i hc
    obtain ⟨_, han, hax⟩ := hc
    obtain ⟨ow, k1, k2, k3, k4, cs, k5, k6⟩ := hr.objs id _ hg
    obtain ⟨b, o, cap, cells, e, e1, e2, e3, e4, e5, e6⟩ := k5.at (show 0 < xs.length by omega)
    have hlive : ∀ b, ow.has b → Live σ h b := fun b hb => ⟨id, _, ow, hg, rfl, k1, hb⟩
    have hh : ow.h = ⟨.slice (some ⟨b, o, none⟩) xs.length cap, t.size⟩ := by rw [← e1, ← k2]
    have hpart := k5.part (A := some ⟨b, o, none⟩) (cap := cap) (p := a0) (m := n) e1 han (A' := some ⟨b, o + a0 * t.size, none⟩) (fun b' o' hb' _ => by cases hb'; rfl)
    have hl2 := part_length han
    have t1 := Tr.change (st := ⟨[], h⟩) (w' := w) hr hl (o' := .arr true false t ((xs.drop a0).take n)) (ow' := ⟨⟨.slice (some ⟨b, o + a0 * t.size, none⟩) n (cap - a0), t.size⟩, fun _ _ => none⟩) (shrinkF id a0 n) (S := fun _ => False) hg (fun _ h => h) (fun _ h => .inl h)
     (fun v u hv => shrinkF_ok (A := none) k1 hh (by omega) v u hv) (Moved.refl _ w) (fun _ h => h.elim) (fun _ b' hb' => by
      have : b' = b := by
       rcases hb' with hb' | ⟨_, _, _, hb', _⟩
       ·obtain ⟨ad, q1, q2, _⟩ := blockOf_slice hb'
        cases q1; exact q2.symm
       ·cases hb'
      subst this
      exact ⟨hl b' (hlive b' (.inl e2)), (hr.own b' (hlive b' (.inl e2))).1, (hr.own b' (hlive b' (.inl e2))).2, hr.not_other hg rfl k1 (.inl e2)⟩)
     ⟨rfl, fun _ _ _ => rfl, ⟨fun _ _ _ _ h => (by cases h), fun _ _ _ _ _ _ _ h => (by cases h)⟩, _, by rw [hl2]; exact hpart, fun i hi => by
      rw [part_get han hi, chunk_part (by rw [hl2] at hi; exact hi)]
      exact EltR.of_flat (.inl rfl) ((k6 (a0 + i) (by rw [hl2] at hi; omega)).ex.2.2.1 (.inl rfl))⟩
     (fun _ h => by cases h)
    obtain ⟨σ2, t2, hv2⟩ := shrinks_ok l t1.hr t1.live (VRs.map (fun _ h => h) (fun _ _ => rfl) _ (fun v u hv => shrinkF_ok (A := none) k1 hh (by omega) v u hv) vs us hv) he
    exact ⟨σ2, t1.trans t2, hv2⟩
   ·exact shrinks_ok l hr hl hv he
  ·exact shrinks_ok l hr hl hv he

end
end Go.Q
