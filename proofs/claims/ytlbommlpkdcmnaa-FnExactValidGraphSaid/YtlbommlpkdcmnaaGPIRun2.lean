/- An abstract interpreter of the translated code: functions. -/
import Derived.Test.YtlbommlpkdcmnaaGPIRun
import Derived.LoopN
import Derived.Scope
namespace Go.PI
open Go
section
variable {P : Program} {E : Env} {M : Nat → Prop} {w0 : World} {I0 I : Nat → Prop} {σ : Nat → Option Own} {st : St} {a : Act} {w : World} {Q : Exit → Act → World → Prop}

def exitOf : Ex → Exit
  | .normal => .normal
  | .exit i => .exit i
  | .ret => .ret

theorem loopIn_lt : ∀ {c : Code} {j : Nat} {b : Code}, loopIn c j = some b → j < nLoops c
  | .seq x y, j, b, h => by
    simp only [loopIn] at h
    simp only [nLoops]
    split at h
    · omega
    · have := loopIn_lt h; omega
  | .cond c x y, j, b, h => by
    simp only [loopIn] at h
    simp only [nLoops]
    split at h
    · omega
    · have := loopIn_lt h; omega
  | .block i x, j, b, h => by simp only [loopIn] at h; simp only [nLoops]; exact loopIn_lt h
  | .scope x, j, b, h => by simp only [loopIn] at h; simp only [nLoops]; exact loopIn_lt h
  | .loop x, j, b, h => by
    simp only [loopIn] at h
    simp only [nLoops]
    split at h
    · omega
    · have := loopIn_lt h; omega
  | .skip, _, _, h => by simp [loopIn] at h
  | .region _ _ _, _, _, h => by simp [loopIn] at h
  | .exit _, _, _, h => by simp [loopIn] at h
  | .goto _, _, _, h => by simp [loopIn] at h
  | .ret, _, _, h => by simp [loopIn] at h
  | .label _, _, _, h => by simp [loopIn] at h

theorem loopIn_in : ∀ {c b d : Code} {k j : Nat}, loopIn c k = some b → loopIn b j = some d → loopIn c (k + 1 + j) = some d
  | .seq x y, b, d, k, j, h, h2 => by
    simp only [loopIn] at h ⊢
    split at h
    · rename_i hk
      have h3 := loopIn_in h h2
      rw [if_pos (loopIn_lt h3)]; exact h3
    · rename_i hk
      have h3 := loopIn_in h h2
      rw [if_neg (by omega), show k + 1 + j - nLoops x = k - nLoops x + 1 + j from by omega]; exact h3
  | .cond c x y, b, d, k, j, h, h2 => by
    simp only [loopIn] at h ⊢
    split at h
    · rename_i hk
      have h3 := loopIn_in h h2
      rw [if_pos (loopIn_lt h3)]; exact h3
    · rename_i hk
      have h3 := loopIn_in h h2
      rw [if_neg (by omega), show k + 1 + j - nLoops x = k - nLoops x + 1 + j from by omega]; exact h3
  | .block i x, b, d, k, j, h, h2 => by simp only [loopIn] at h ⊢; exact loopIn_in h h2
  | .scope x, b, d, k, j, h, h2 => by simp only [loopIn] at h ⊢; exact loopIn_in h h2
  | .loop x, b, d, k, j, h, h2 => by
    simp only [loopIn] at h ⊢
    split at h
    · rename_i hk
      cases h
      subst hk
      rw [if_neg (by omega), show 0 + 1 + j - 1 = j from by omega]; exact h2
    · rename_i hk
      have h3 := loopIn_in h h2
      rw [if_neg (by omega), show k + 1 + j - 1 = k - 1 + 1 + j from by omega]; exact h3
  | .skip, _, _, _, _, h, _ => by simp [loopIn] at h
  | .region _ _ _, _, _, _, _, h, _ => by simp [loopIn] at h
  | .exit _, _, _, _, _, h, _ => by simp [loopIn] at h
  | .goto _, _, _, _, _, h, _ => by simp [loopIn] at h
  | .ret, _, _, _, _, h, _ => by simp [loopIn] at h
  | .label _, _, _, _, _, h, _ => by simp [loopIn] at h

theorem codeOk_in {A : Ann} {n : Nat} : ∀ {c b : Code} {k : Nat}, loopIn c k = some b → codeOk A n c = true → codeOk A n b = true
  | .seq x y, b, k, h, ho => by
    simp only [loopIn] at h
    simp only [codeOk, Bool.and_eq_true] at ho
    split at h
    · exact codeOk_in h ho.1
    · exact codeOk_in h ho.2
  | .cond c x y, b, k, h, ho => by
    simp only [loopIn] at h
    simp only [codeOk, Bool.and_eq_true] at ho
    split at h
    · exact codeOk_in h ho.1
    · exact codeOk_in h ho.2
  | .block i x, b, k, h, ho => by simp only [loopIn] at h; exact codeOk_in h ho
  | .scope x, b, k, h, ho => by simp only [loopIn] at h; exact codeOk_in h ho
  | .loop x, b, k, h, ho => by
    simp only [loopIn] at h
    split at h
    · cases h; exact ho
    · exact codeOk_in h ho
  | .skip, _, _, h, _ => by simp [loopIn] at h
  | .region _ _ _, _, _, h, _ => by simp [loopIn] at h
  | .exit _, _, _, h, _ => by simp [loopIn] at h
  | .goto _, _, _, h, _ => by simp [loopIn] at h
  | .ret, _, _, h, _ => by simp [loopIn] at h
  | .label _, _, _, h, _ => by simp [loopIn] at h

/-- Panics pass, whatever the slots hold. -/
def Passes (Q : Exit → Act → World → Prop) : Prop := ∀ c a a' w, Q (.panic c) a' w → Q (.panic c) a w

/-- What stands for a loop says what it does. -/
def LoopOK (P : Program) (M : Nat → Prop) (w0 : World) (I0 : Nat → Prop) (N : Nat) (l : St → Option (Ex × St)) (body : Code) : Prop :=
  ∀ (Q : Exit → Act → World → Prop) (I : Nat → Prop) (σ : Nat → Option Own) (st : St) (a : Act) (w : World) (ex : Ex) (st' : St), Passes Q → a.tmps.size = N → Rel M w0 I0 I σ st a w → l st = some (ex, st') →
    (∀ I' σ' a' w', a'.tmps.size = N → Rel M w0 I0 I' σ' st' a' w' → Q (exitOf ex) a' w') → (Code.loop body).wp P Q a w

theorem Rel.dropAll (h : Rel M w0 I0 I σ st a w) (ts : List Nat) : Rel M w0 I0 I σ ⟨Go.PI.dropAll ts st.tmps, st.heap⟩ a w := by
  obtain ⟨s, hp⟩ := st
  induction ts generalizing s with
  | nil => exact h
  | cons t ts ih => exact ih _ (h.drop t)

theorem range_getElem (ops : Array Oper) : (List.range ops.size).map (ops[·]?) = ops.toList.map some := by
  apply List.ext_getElem?
  intro i
  simp only [List.getElem?_map, List.getElem?_range]
  by_cases h : i < ops.size
  · simp [h]
  · simp [h]

theorem filterMap_getElem (ops : Array Oper) : ∀ (l : List Nat), (∀ i ∈ l, ops[i]?.isSome) → l.map (ops[·]?) = (l.filterMap (ops.toList[·]?)).map some
  | [], _ => rfl
  | i :: l, h => by
    have hi := h i (by simp)
    obtain ⟨o, ho⟩ := Option.isSome_iff_exists.1 hi
    simp only [List.map_cons, List.filterMap_cons]
    have : ops.toList[i]? = some o := by simpa using ho
    rw [this, ho]
    simp only [List.map_cons]
    rw [filterMap_getElem ops l fun j hj => h j (by simp [hj])]

theorem drawOk_some {ops : Array Oper} : ∀ {l : List Nat} {listed : Array Bool}, drawOk ops l listed = true → ∀ i ∈ l, ops[i]?.isSome
  | [], _, _, _, h => by simp at h
  | j :: l, listed, h, i, hi => by
    simp only [drawOk, Bool.and_eq_true] at h
    rcases List.mem_cons.1 hi with rfl | hi
    · cases ho : ops[i]? with
      | some o => rfl
      | none =>
        have h1 : Region.ready .any ops listed = [i] := by
          rw [ho] at h; simpa using h.1
        have : i ∈ Region.ready .any ops listed := by rw [h1]; simp
        obtain ⟨_, o, h2, _⟩ := mem_ready.1 this
        rw [ho] at h2; cases h2
    · exact drawOk_some h.2 i hi

theorem prun_sound (hm : P.follows .mixedOrders = true) (hE : TabOK P E) (hC : CallOK P E.call) {loop : LoopF} {A : Ann} {N : Nat} :
    ∀ (c : Code) (k : Nat) {Q : Exit → Act → World → Prop} {I : Nat → Prop} {σ : Nat → Option Own} {st : St} {a : Act} {w : World} {ex : Ex} {st' : St},
    codeOk A N c = true → (∀ j body, loopIn c j = some body → LoopOK P M w0 I0 N (loop (k + j)) body) → Passes Q → a.tmps.size = N → Rel M w0 I0 I σ st a w → prun E loop A k c st = some (ex, st') →
    (∀ I' σ' a' w', a'.tmps.size = N → Rel M w0 I0 I' σ' st' a' w' → Q (exitOf ex) a' w') → c.wp P Q a w := by
  intro c
  induction c with
  | skip =>
    intro k Q I σ st a w ex st' _ _ _ hs h hr hQ
    simp only [prun, Option.some.injEq, Prod.mk.injEq] at hr
    obtain ⟨rfl, rfl⟩ := hr
    exact wp_skip (hQ I σ a w hs h)
  | region id ops draw =>
    intro k Q I σ st a w ex st' hok _ hP hs h hr hQ
    simp only [prun, Option.map_eq_some_iff, Prod.mk.injEq] at hr
    obtain ⟨s, hr, rfl, rfl⟩ := hr
    simp only [codeOk, Bool.and_eq_true, List.all_eq_true] at hok
    obtain ⟨hdst, hdraw⟩ := hok
    have hd : ∀ o ∈ ops.toList, ∀ t, o.dst = some t → t < a.tmps.size := by
      intro o ho t ht
      have := hdst o ho
      simp only [dstOk, ht, decide_eq_true_eq] at this
      rw [hs]; exact this
    have hQ' : ∀ I' σ' a' w', a'.tmps.size = a.tmps.size → Rel M w0 I0 I' σ' s a' w' → Q .normal a' w' := fun I' σ' a' w' hs' hr' => hQ I' σ' a' w' (by omega) (hr'.dropAll _)
    cases draw with
    | false =>
      simp only [orderOf, Bool.false_eq_true, if_false] at hr
      exact wp_region (runOps_sound hE hC ops.toList _ (range_getElem ops) hd h hr hQ')
    | true =>
      simp only [Bool.not_true, Bool.false_or, Bool.and_eq_true, decide_eq_true_eq] at hdraw
      obtain ⟨⟨hlen, hsel⟩, hdr⟩ := hdraw
      have hmoved : Rel M w0 I0 I σ st a { w with drawn := w.drawn + 1 } := h.moved (Moved.drew (fun _ => False) w) (fun _ h => h.elim) (fun _ h => h.elim) (fun _ _ _ _ _ _ _ _ h => h)
      have hos : ((lookT A.ord id).getD (List.range ops.size)).map (ops[·]?) = (orderOf A id ops true).map some ∧ ∀ o ∈ orderOf A id ops true, o ∈ ops.toList := by
        simp only [orderOf, if_true]
        cases hl : lookT A.ord id with
        | none => exact ⟨by simpa using range_getElem ops, fun o ho => ho⟩
        | some l =>
          rw [hl] at hdr
          refine ⟨filterMap_getElem ops l (drawOk_some hdr), fun o ho => ?_⟩
          simp only [List.mem_filterMap] at ho
          obtain ⟨i, _, hi⟩ := ho
          exact List.mem_of_getElem? hi
      exact wp_region_any hm (wpAny_of_V _ _ _ _ (draw_sound hE hC (Region.noSelect_spec hsel) hP _ _ _ _ hos.1 hlen (fun o ho => hd o (hos.2 o ho)) hdr hmoved hr hQ'))
  | seq x y ihx ihy =>
    intro k Q I σ st a w ex st' hok hL hP hs h hr hQ
    simp only [codeOk, Bool.and_eq_true] at hok
    simp only [prun, Option.bind_eq_some_iff] at hr
    obtain ⟨⟨e1, s1⟩, h1, h2⟩ := hr
    have hLx : ∀ j body, loopIn x j = some body → LoopOK P M w0 I0 N (loop (k + j)) body := fun j body hj => hL j body (by simp only [loopIn, if_pos (loopIn_lt hj)]; exact hj)
    have hLy : ∀ j body, loopIn y j = some body → LoopOK P M w0 I0 N (loop (k + nLoops x + j)) body := fun j body hj => by
      have h3 : loopIn (.seq x y) (nLoops x + j) = some body := by
        simp only [loopIn]; rw [if_neg (by omega), Nat.add_sub_cancel_left]; exact hj
      have h4 := hL _ _ h3
      rw [Nat.add_assoc]; exact h4
    refine wp_seq (ihx k hok.1 hLx (Q := Exit.then (y.wp P Q) Q) (fun c a a' w hq => hP c a a' w hq) hs h h1 fun I1 σ1 a1 w1 hs1 hr1 => ?_)
    cases e1 with
    | normal => exact ihy (k + nLoops x) hok.2 hLy hP hs1 hr1 h2 hQ
    | exit i => simp only [Option.some.injEq, Prod.mk.injEq] at h2; obtain ⟨rfl, rfl⟩ := h2; exact hQ I1 σ1 a1 w1 hs1 hr1
    | ret => simp only [Option.some.injEq, Prod.mk.injEq] at h2; obtain ⟨rfl, rfl⟩ := h2; exact hQ I1 σ1 a1 w1 hs1 hr1
  | cond c0 x y ihx ihy =>
    intro k Q I σ st a w ex st' hok hL hP hs h hr hQ
    simp only [codeOk, Bool.and_eq_true] at hok
    have hLx : ∀ j body, loopIn x j = some body → LoopOK P M w0 I0 N (loop (k + j)) body := fun j body hj => hL j body (by simp only [loopIn, if_pos (loopIn_lt hj)]; exact hj)
    have hLy : ∀ j body, loopIn y j = some body → LoopOK P M w0 I0 N (loop (k + nLoops x + j)) body := fun j body hj => by
      have h3 : loopIn (.cond c0 x y) (nLoops x + j) = some body := by
        simp only [loopIn]; rw [if_neg (by omega), Nat.add_sub_cancel_left]; exact hj
      have h4 := hL _ _ h3
      rw [Nat.add_assoc]; exact h4
    simp only [prun] at hr
    split at hr
    · rename_i b hb
      have hv0 := h.eval c0
      rw [hb] at hv0
      refine wp_cond_split (VR.bool hv0) (fun hbt => ?_) (fun hbf => ?_)
      · subst hbt
        clear hv0 hb
        split at hr
        · rename_i t
          rw [if_pos rfl] at hr
          exact ihx k hok.1 hLx hP hs (h.drop t) hr hQ
        · rw [if_pos rfl] at hr
          exact ihx k hok.1 hLx hP hs h hr hQ
      · subst hbf
        clear hv0 hb
        split at hr
        · rename_i t
          rw [if_neg (by simp)] at hr
          exact ihy (k + nLoops x) hok.2 hLy hP hs (h.drop t) hr hQ
        · rw [if_neg (by simp)] at hr
          exact ihy (k + nLoops x) hok.2 hLy hP hs h hr hQ
    · cases hr
  | block id x ih =>
    intro k Q I σ st a w ex st' hok hL hP hs h hr hQ
    simp only [prun, Option.map_eq_some_iff] at hr
    obtain ⟨⟨e1, s1⟩, h1, h2⟩ := hr
    refine wp_block (ih k hok hL (Q := Exit.inBlock id Q) (fun c a a' w hq => hP c a a' w hq) hs h h1 fun I1 σ1 a1 w1 hs1 hr1 => ?_)
    cases e1 with
    | normal => simp only [Prod.mk.injEq] at h2; obtain ⟨rfl, rfl⟩ := h2; exact hQ I1 σ1 a1 w1 hs1 hr1
    | ret => simp only [Prod.mk.injEq] at h2; obtain ⟨rfl, rfl⟩ := h2; exact hQ I1 σ1 a1 w1 hs1 hr1
    | exit i =>
      simp only [exitOf, Exit.inBlock]
      simp only at h2
      split at h2
      · rename_i hi
        rw [if_pos hi]
        simp only [Prod.mk.injEq] at h2; obtain ⟨rfl, rfl⟩ := h2; exact hQ I1 σ1 a1 w1 hs1 hr1
      · rename_i hi
        rw [if_neg hi]
        simp only [Prod.mk.injEq] at h2; obtain ⟨rfl, rfl⟩ := h2; exact hQ I1 σ1 a1 w1 hs1 hr1
  | loop x ih =>
    intro k Q I σ st a w ex st' hok hL hP hs h hr hQ
    simp only [prun] at hr
    obtain ⟨σ', hg⟩ := h.gc
    exact hL 0 x (by simp [loopIn]) _ _ _ _ _ _ _ _ hP hs hg hr hQ
  | exit id =>
    intro k Q I σ st a w ex st' _ _ _ hs h hr hQ
    simp only [prun, Option.some.injEq, Prod.mk.injEq] at hr
    obtain ⟨rfl, rfl⟩ := hr
    exact wp_exit (hQ I σ a w hs h)
  | ret =>
    intro k Q I σ st a w ex st' _ _ _ hs h hr hQ
    simp only [prun, Option.some.injEq, Prod.mk.injEq] at hr
    obtain ⟨rfl, rfl⟩ := hr
    exact wp_ret (hQ I σ a w hs h)
  | label l =>
    intro k Q I σ st a w ex st' _ _ _ hs h hr hQ
    simp only [prun, Option.some.injEq, Prod.mk.injEq] at hr
    obtain ⟨rfl, rfl⟩ := hr
    exact wp_label (hQ I σ a w hs h)
  | scope x ih =>
    intro k Q I σ st a w ex st' hok hL hP hs h hr hQ
    simp only [prun] at hr
    refine wp_scope_straight (ih k hok hL (Q := Exit.noGoto Q) (fun c a a' w hq => hP c a a' w hq) hs h hr fun I1 σ1 a1 w1 hs1 hr1 => ?_)
    have := hQ I1 σ1 a1 w1 hs1 hr1
    cases ex <;> exact this
  | goto l =>
    intro k Q I σ st a w ex st' _ _ _ hs h hr hQ
    simp [prun] at hr
  | rangeFunc =>
    intro k Q I σ st a w ex st' _ _ _ hs h hr hQ
    simp [prun] at hr
  | refuse =>
    intro k Q I σ st a w ex st' _ _ _ hs h hr hQ
    simp [prun] at hr


/-! ### Results -/
/-- A block of a live object. -/
def Live (σ : Nat → Option Own) (h : Heap) (b : Nat) : Prop := ∃ id o ow, h.get id = some o ∧ o.live = true ∧ σ id = some ow ∧ blockOf ow.v = some b

theorem Rel.dead {s : Slots} {h : Heap} (hr : Rel M w0 I0 I σ ⟨s, h⟩ a w) (id : Nat) {o : Obj} (hg : h.get id = some o) : Rel M w0 I0 I σ ⟨s, h.put id .dead⟩ a w := by
  have hget : ∀ i o', (h.put id .dead).get i = some o' → (i = id ∧ o' = .dead) ∨ (i ≠ id ∧ h.get i = some o') := by
    intro i o' hi
    rw [Heap.get_put] at hi
    split at hi
    · rename_i e; cases hi; exact .inl ⟨e, rfl⟩
    · rename_i e; exact .inr ⟨e, hi⟩
  refine ⟨hr.slots, fun i o' hi => ?_, fun i hi => ?_, fun i o' ow b hi hl hs hb => ?_, fun i j oi oj owi owj b hij hi hj hli hlj hsi hsj hb => ?_, hr.lt, hr.src, hr.keep, hr.frame, hr.defers⟩
  · rcases hget i o' hi with ⟨rfl, rfl⟩ | ⟨_, hi⟩
    · obtain ⟨ow, k1, _⟩ := hr.objs _ _ hg; exact ⟨ow, k1, trivial⟩
    · exact hr.objs i o' hi
  · simp only [Heap.get_put] at hi
    split at hi
    · cases hi
    · exact hr.dom i hi
  · rcases hget i o' hi with ⟨rfl, rfl⟩ | ⟨_, hi⟩
    · cases hl
    · exact hr.own i o' ow b hi hl hs hb
  · rcases hget i oi hi with ⟨rfl, rfl⟩ | ⟨_, hi⟩
    · cases hli
    · rcases hget j oj hj with ⟨rfl, rfl⟩ | ⟨_, hj⟩
      · cases hlj
      · exact hr.dist i j oi oj owi owj b hij hi hj hli hlj hsi hsj hb

theorem Live.of_dead {h : Heap} {id : Nat} {b : Nat} (hb : Live σ (h.put id .dead) b) : ∃ i o ow, i ≠ id ∧ h.get i = some o ∧ o.live = true ∧ σ i = some ow ∧ blockOf ow.v = some b := by
  obtain ⟨i, o, ow, h1, h2, h3, h4⟩ := hb
  rw [Heap.get_put] at h1
  split at h1
  · cases h1; cases h2
  · rename_i e; exact ⟨i, o, ow, e, h1, h2, h3, h4⟩

theorem R1.mono2 {J J' : Nat → Prop} {lo : Nat} {v : AV} {u : Value} {cl : List Nat} (h1 : ∀ b, J b → J' b) (h2 : ∀ b ∈ cl, ¬ J' b) (h : R1 J lo w v u cl) : R1 J' lo w v u cl := by
  cases v with
  | own e t xs =>
    obtain ⟨k1, k2⟩ := h
    refine ⟨ArrR.imp h1 k1, ?_⟩
    rcases k2 with k2 | ⟨b, k1, k2, k3, k4, k5⟩
    · exact .inl k2
    · exact .inr ⟨b, k1, k2, k3, h2 b (by rw [k5]; simp), k5⟩
  | _ => exact ⟨VR.mono h1 (fun _ _ => rfl) (fun _ _ h => h) _ _ h.1, h.2⟩

theorem RC.mono2 {J J' : Nat → Prop} {lo : Nat} (h1 : ∀ b, J b → J' b) : ∀ {vs : List AV} {us : List Value} {cl : List Nat}, (∀ b ∈ cl, ¬ J' b) → RC J lo w vs us cl → RC J' lo w vs us cl
  | [], _, _, _, h => h
  | v :: vs, _, _, h2, h => by
    obtain ⟨u, us', c1, c2, e, k1, k2, rfl, k3⟩ := h
    exact ⟨u, us', c1, c2, e, R1.mono2 h1 (fun b hb => h2 b (List.mem_append_left _ hb)) k1, RC.mono2 h1 (fun b hb => h2 b (List.mem_append_right _ hb)) k2, rfl, k3⟩

theorem RV.mono2 {J J' : Nat → Prop} {lo : Nat} (h1 : ∀ b, J b → J' b) {v : AV} {u : Value} {cl : List Nat} (h2 : ∀ b ∈ cl, ¬ J' b) (h : RV J lo w v u cl) : RV J' lo w v u cl := by
  cases v with
  | agg vs => obtain ⟨es, e, k1⟩ := h; exact ⟨es, e, RC.mono2 h1 h2 k1⟩
  | own e t xs => exact R1.mono2 (v := .own e t xs) h1 h2 h
  | _ => exact ⟨VR.mono h1 (fun _ _ => rfl) (fun _ _ h => h) _ _ h.1, h.2⟩

/-- What is known when results have left, one after another. -/
structure Left (M : Nat → Prop) (w0 : World) (I0 I : Nat → Prop) (σ : Nat → Option Own) (s : Slots) (h : Heap) (a : Act) (w : World) (I' : Nat → Prop) (h' : Heap) (cl : List Nat) : Prop where
  rel : Rel M w0 I0 I' σ ⟨s, h'⟩ a w
  sub : ∀ b, I b → I' b
  from_ : ∀ b, I' b → I b ∨ Live σ h b
  live : ∀ b, Live σ h' b → Live σ h b
  was : ∀ b ∈ cl, Live σ h b ∧ ¬ Live σ h' b ∧ ¬ I' b

theorem Left.nil {s : Slots} {h : Heap} (hr : Rel M w0 I0 I σ ⟨s, h⟩ a w) : Left M w0 I0 I σ s h a w I h [] :=
  ⟨hr, fun _ h => h, fun _ h => .inl h, fun _ h => h, fun _ h => by simp at h⟩

theorem Left.cons {s : Slots} {h h1 h2 : Heap} {I1 I2 : Nat → Prop} {c1 c2 : List Nat} (a1 : Left M w0 I0 I σ s h a w I1 h1 c1) (a2 : Left M w0 I0 I1 σ s h1 a w I2 h2 c2) :
    Left M w0 I0 I σ s h a w I2 h2 (c1 ++ c2) ∧ (∀ b ∈ c1, b ∉ c2) ∧ ∀ b ∈ c1, ¬ I2 b := by
  have hno : ∀ b ∈ c1, ¬ I2 b := fun b hb hI => by
    obtain ⟨_, k2, k3⟩ := a1.was b hb
    rcases a2.from_ b hI with h | h
    · exact k3 h
    · exact k2 h
  refine ⟨⟨a2.rel, fun b hb => a2.sub b (a1.sub b hb), fun b hb => ?_, fun b hb => a1.live b (a2.live b hb), fun b hb => ?_⟩, fun b hb hb2 => (a1.was b hb).2.1 (a2.was b hb2).1, hno⟩
  · rcases a2.from_ b hb with h | h
    · exact a1.from_ b h
    · exact .inr (a1.live b h)
  · rcases List.mem_append.1 hb with hb | hb
    · obtain ⟨k1, k2, _⟩ := a1.was b hb
      exact ⟨k1, fun h => k2 (a2.live b h), hno b hb⟩
    · obtain ⟨k1, k2, k3⟩ := a2.was b hb
      exact ⟨a1.live b k1, k2, k3⟩

theorem res1_ok {s : Slots} {h : Heap} (hr : Rel (fun _ => False) w0 I0 I σ ⟨s, h⟩ a w) {v r : AV} {h' : Heap} {u : Value} (hv : VR I σ w v u) (he : res1 h v = some (r, h')) :
    ∃ I' cl, Left (fun _ => False) w0 I0 I σ s h a w I' h' cl ∧ R1 I' w0.heap.size w r u cl := by
  have plain : VR I noOwn w r u → h' = h → (∀ e t xs, r ≠ .own e t xs) → ∃ I' cl, Left (fun _ => False) w0 I0 I σ s h a w I' h' cl ∧ R1 I' w0.heap.size w r u cl := by
    rintro k1 rfl k2
    refine ⟨I, [], Left.nil hr, ?_⟩
    cases r with
    | own e t xs => exact absurd rfl (k2 e t xs)
    | _ => exact ⟨k1, rfl⟩
  unfold res1 at he
  split at he
  · rename_i id
    split at he
    · rename_i e t xs hg
      simp only [Option.some.injEq, Prod.mk.injEq] at he
      obtain ⟨rfl, rfl⟩ := he
      obtain ⟨A, cap, e1, e2, e3, e4, e5⟩ := hr.arr hg hv
      have hd := hr.dead id hg
      cases hbu : blockOf u with
      | none => exact ⟨I, [], ⟨hd, fun _ h => h, fun _ h => .inl h, fun b hb => by obtain ⟨i, o, ow, _, k1, k2, k3, k4⟩ := hb.of_dead; exact ⟨i, o, ow, k1, k2, k3, k4⟩, fun _ h => by simp at h⟩, e5, .inl ⟨hbu, rfl⟩⟩
      | some b =>
        obtain ⟨o1, o2, o3⟩ := hr.own id _ _ b hg rfl e3 hbu
        refine ⟨I, [b], ⟨hd, fun _ h => h, fun _ h => .inl h, fun b hb => by obtain ⟨i, o, ow, _, k1, k2, k3, k4⟩ := hb.of_dead; exact ⟨i, o, ow, k1, k2, k3, k4⟩, fun b' hb' => ?_⟩, e5, .inr ⟨b, hbu, o3.resolve_right (fun h => h), o2, o1, rfl⟩⟩
        simp only [List.mem_singleton] at hb'
        subst hb'
        refine ⟨⟨id, _, _, hg, rfl, e3, hbu⟩, fun hb => ?_, o1⟩
        obtain ⟨i, o, ow, k0, k1, k2, k3, k4⟩ := hb.of_dead
        exact hr.dist i id o _ ow _ b' k0 k1 hg k2 rfl k3 e3 k4 hbu
    · cases he
  · rename_i id p n
    split at he
    · rename_i e t xs hg
      simp only [Option.some.injEq, Prod.mk.injEq] at he
      obtain ⟨rfl, rfl⟩ := he
      have hd := hr.dead id hg
      obtain ⟨ow, ho1, ho2⟩ := hr.objs id _ hg
      have hI2 : ∀ b, (I b ∨ blockOf ow.v = some b) → I b ∨ Live σ h b := fun b hb => hb.imp_right fun hb => ⟨id, _, ow, hg, rfl, ho1, hb⟩
      have hw : Rel (fun _ => False) w0 I0 (fun b => I b ∨ blockOf ow.v = some b) σ ⟨s, h.put id .dead⟩ a w := by
        refine hd.widen (fun b hb => .inl hb) fun b hb => ?_
        rcases hb with hb | hb
        · exact .inl hb
        · obtain ⟨o1, o2, o3⟩ := hr.own id _ ow b hg rfl ho1 hb
          refine .inr ⟨o2, o3, fun i o owi k1 k2 k3 k4 => ?_⟩
          obtain ⟨i, o, owi, k0, k1, k2, k3, k4⟩ := (show Live σ (h.put id .dead) b from ⟨i, o, owi, k1, k2, k3, k4⟩).of_dead
          exact hr.dist i id o _ owi ow b k0 k1 hg k2 rfl k3 ho1 k4 hb
      refine ⟨_, [], ⟨hw, fun b hb => .inl hb, hI2, fun b hb => by obtain ⟨i, o, ow, _, k1, k2, k3, k4⟩ := hb.of_dead; exact ⟨i, o, ow, k1, k2, k3, k4⟩, fun _ h => by simp at h⟩, ?_, rfl⟩
      exact (hr.arrData hg (J := fun b => I b ∨ blockOf ow.v = some b) (fun b hb => .inl hb) (fun ow' b k1 k2 => by rw [ho1] at k1; cases k1; exact .inr k2)).2 p n u hv
    · cases he
  all_goals first
    | (simp only [Option.some.injEq, Prod.mk.injEq] at he
       obtain ⟨rfl, rfl⟩ := he
       exact plain (VR.noOwn _ _ rfl hv) rfl (by intros; simp))
    | (split at he
       · cases he
       · rename_i hno
         simp only [Option.some.injEq, Prod.mk.injEq] at he
         obtain ⟨rfl, rfl⟩ := he
         exact plain (VR.noOwn _ _ (by simpa [AV.owned] using hno) hv) rfl (by intros; simp))
    | cases he

theorem resCells_ok : ∀ {vs rs : List AV} {us : List Value} {s : Slots} {h h' : Heap} {I : Nat → Prop}, Rel (fun _ => False) w0 I0 I σ ⟨s, h⟩ a w → VRs I σ w vs us → resCells h vs = some (rs, h') →
    ∃ I' cl, Left (fun _ => False) w0 I0 I σ s h a w I' h' cl ∧ RC I' w0.heap.size w rs us cl
  | [], rs, us, s, h, h', I, hr, hv, he => by
    simp only [resCells, Option.some.injEq, Prod.mk.injEq] at he
    obtain ⟨rfl, rfl⟩ := he
    exact ⟨I, [], Left.nil hr, hv, rfl⟩
  | v :: vs, rs, us, s, h, h', I, hr, hv, he => by
    obtain ⟨u, us', rfl, hv1, hv2⟩ := hv
    simp only [resCells, Option.bind_eq_some_iff, Option.map_eq_some_iff, Prod.mk.injEq] at he
    obtain ⟨⟨r, h1⟩, k1, ⟨rs', h2⟩, k2, rfl, rfl⟩ := he
    obtain ⟨I1, c1, l1, m1⟩ := res1_ok hr hv1 k1
    obtain ⟨I2, c2, l2, m2⟩ := resCells_ok l1.rel (VRs.mono l1.sub (fun _ _ => rfl) (fun _ _ h => h) vs us' hv2) k2
    obtain ⟨l3, d1, d2⟩ := l1.cons l2
    exact ⟨I2, c1 ++ c2, l3, u, us', c1, c2, rfl, R1.mono2 l2.sub d2 m1, m2, rfl, d1⟩

theorem resVal_ok {s : Slots} {h : Heap} (hr : Rel (fun _ => False) w0 I0 I σ ⟨s, h⟩ a w) {v r : AV} {h' : Heap} {u : Value} (hv : VR I σ w v u) (he : resVal h v = some (r, h')) :
    ∃ I' cl, Left (fun _ => False) w0 I0 I σ s h a w I' h' cl ∧ RV I' w0.heap.size w r u cl := by
  have one : res1 h v = some (r, h') → ∃ I' cl, Left (fun _ => False) w0 I0 I σ s h a w I' h' cl ∧ RV I' w0.heap.size w r u cl := by
    intro he
    obtain ⟨I', cl, k1, k2⟩ := res1_ok hr hv he
    refine ⟨I', cl, k1, ?_⟩
    cases r with
    | agg vs =>
      exfalso
      unfold res1 at he
      split at he <;> first | (split at he <;> simp at he) | simp at he
    | _ => exact k2
  cases v with
  | agg vs =>
    simp only [resVal, Option.map_eq_some_iff, Prod.mk.injEq] at he
    obtain ⟨⟨rs, h1⟩, k1, rfl, rfl⟩ := he
    obtain ⟨es, rfl, hv⟩ := hv
    obtain ⟨I', cl, k2, k3⟩ := resCells_ok hr hv k1
    exact ⟨I', cl, k2, es, rfl, k3⟩
  | _ => exact one he

theorem resVals_ok : ∀ {vs rs : List AV} {us : List Value} {s : Slots} {h : Heap} {I : Nat → Prop}, Rel (fun _ => False) w0 I0 I σ ⟨s, h⟩ a w → VRs I σ w vs us → resVals h vs = some rs →
    ∃ I' h' cl, Left (fun _ => False) w0 I0 I σ s h a w I' h' cl ∧ RL I' w0.heap.size w rs us cl
  | [], rs, us, s, h, I, hr, hv, he => by
    simp only [resVals, Option.some.injEq] at he
    subst he
    exact ⟨I, h, [], Left.nil hr, hv, rfl⟩
  | v :: vs, rs, us, s, h, I, hr, hv, he => by
    obtain ⟨u, us', rfl, hv1, hv2⟩ := hv
    simp only [resVals, Option.bind_eq_some_iff, Option.map_eq_some_iff] at he
    obtain ⟨⟨r, h1⟩, k1, rs', k2, rfl⟩ := he
    obtain ⟨I1, c1, l1, m1⟩ := resVal_ok hr hv1 k1
    obtain ⟨I2, h2, c2, l2, m2⟩ := resVals_ok l1.rel (VRs.mono l1.sub (fun _ _ => rfl) (fun _ _ h => h) vs us' hv2) k2
    obtain ⟨l3, d1, d2⟩ := l1.cons l2
    exact ⟨I2, h2, c1 ++ c2, l3, u, us', c1, c2, rfl, RV.mono2 l2.sub d2 m1, m2, rfl, d1⟩

end
end Go.PI
