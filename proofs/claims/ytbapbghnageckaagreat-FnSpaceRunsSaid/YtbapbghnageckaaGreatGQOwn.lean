/- An abstract interpreter of the translated code: own arrays that become plain data, or go over into others. -/
import Derived.Test.YtbapbghnageckaaGreatGQPlace
namespace Go.Q
set_option linter.unusedVariables false
set_option linter.unusedSimpArgs false
set_option linter.unusedSectionVars false
open Go

section
variable {L : Nat → Prop} {I I' J : Nat → Prop} {σ σ' : Nat → Option Own} {st st' : St} {w w' : World}

theorem hdr_same {id : Nat} (hσ : ∀ i, i ≠ id → σ' i = σ i) {ow ow' : Own} (hs : σ id = some ow) (hs' : σ' id = some ow') (hh : ow'.h = ow.h) (p : Pl) (hp : ¬ (p.isIn = true ∧ p.id = id)) : hdrOf σ' p = hdrOf σ p := by
 cases p with
 | t i =>
  by_cases e : i = id
  ·subst e; simp [hdrOf, hs, hs', hh]
  ·simp only [hdrOf, hσ i e]
 | n i j off =>
  have : i ≠ id := fun e => hp ⟨rfl, e⟩
  simp only [hdrOf, hσ i this]

theorem LR.same {id : Nat} (hσ : ∀ i, i ≠ id → σ' i = σ i) {ow ow' : Own} (hs : σ id = some ow) (hs' : σ' id = some ow') (hh : ow'.h = ow.h) {v : AV} {u : Value}
  (hv : ∀ p, (v = .os p ∨ (∃ a n, v = .sub p a n) ∨ ∃ i off, v = .el p i off) → ¬ (p.isIn = true ∧ p.id = id)) (h : LR σ v u) : LR σ' v u := by
 refine LR.of_hdr v u (fun p H hp hH => by rw [hdr_same hσ hs hs' hh p (hv p hp)]; exact hH) (fun i ow1 _ hi => ?_) h
 by_cases e : i = id
 ·subst e; rw [hs] at hi; cases hi; exact ⟨ow', hs', hh⟩
 ·exact ⟨ow1, by rw [hσ i e]; exact hi, rfl⟩

theorem killInF_ok {id : Nat} (hσ : ∀ i, i ≠ id → σ' i = σ i) {ow ow' : Own} (hs : σ id = some ow) (hs' : σ' id = some ow') (hh : ow'.h = ow.h) (v : AV) (u : Value) (h : LR σ v u) : VR I σ' w (killInF id v) u := by
 have key : (∀ p, (v = .os p ∨ (∃ a n, v = .sub p a n) ∨ ∃ i off, v = .el p i off) → ¬ (p.isIn = true ∧ p.id = id)) → VR I σ' w v u := fun hv => LR.toVR v u (LR.same hσ hs hs' hh hv h)
 cases v <;> first | exact h.elim | skip
 case os p => simp only [killInF]; split; trivial; rename_i hp; exact key (fun q hq => by rcases hq with hq | ⟨_, _, hq⟩ | ⟨_, _, hq⟩ <;> cases hq; exact hp)
 case sub p a n => simp only [killInF]; split; trivial; rename_i hp; exact key (fun q hq => by rcases hq with hq | ⟨_, _, hq⟩ | ⟨_, _, hq⟩ <;> cases hq; exact hp)
 case el p i off => simp only [killInF]; split; trivial; rename_i hp; exact key (fun q hq => by rcases hq with hq | ⟨_, _, hq⟩ | ⟨_, _, hq⟩ <;> cases hq; exact hp)
 case op i off => exact key (fun q hq => by rcases hq with hq | ⟨_, _, hq⟩ | ⟨_, _, hq⟩ <;> cases hq)
 case mp i => exact key (fun q hq => by rcases hq with hq | ⟨_, _, hq⟩ | ⟨_, _, hq⟩ <;> cases hq)

theorem Tr.freeze (h : HR I σ w st.heap) (hl : ∀ b, Live σ st.heap b → L b) {id : Nat} {m d : Bool} {t : Ty} {xs : List t.Den} (hg : st.heap.get id = some (.arr m d t xs)) :
  ∃ I', Tr L I σ st w I' σ (st.freeze id) w ∧ ∀ v u, LR σ v u → VR I' σ w (frozenF st.heap id v) u := by
 obtain ⟨ow, hs, hobj⟩ := h.objs id _ hg
 have hII : ∀ b, I b → (I b ∨ ow.has b) := fun b hb => .inl hb
 have hJ : ∀ (p : Pl), p.id = id → ∀ b o ow1, st.heap.get p.id = some o → o.live = true → σ p.id = some ow1 → ow1.has b → I b ∨ ow.has b := fun p hp b o ow1 _ _ k3 k4 => by
  rw [hp, hs] at k3; cases k3; exact .inr k4
 have hf : ∀ v u, LR σ v u → VR (fun b => I b ∨ ow.has b) σ w (frozenF st.heap id v) u := by
  intro v u hv
  cases v <;> first | exact hv.elim | skip
  case os p =>
   simp only [frozenF]
   split
   ·rename_i hp
    cases ha : st.heap.arrAt p with
    | none => trivial
    | some v =>
     obtain ⟨t', ys, H, cs, rfl, hpl⟩ := h.place ha
     have := hpl.os hv
     subst this
     exact hpl.data hII (hJ p hp)
   ·exact hv
  case sub p a n =>
   simp only [frozenF]
   split
   ·rename_i hp
    cases ha : st.heap.arrAt p with
    | none => trivial
    | some v =>
     obtain ⟨t', ys, H, cs, rfl, hpl⟩ := h.place ha
     exact hpl.dataSub hII (hJ p hp) hv
   ·exact hv
  case el p i off => simp only [frozenF]; split; trivial; exact hv
  case op i off => simp only [frozenF]; split; trivial; exact hv
  case mp i => simp only [frozenF]; split; trivial; exact hv
 refine ⟨fun b => I b ∨ ow.has b, ?_, hf⟩
 have := Tr.change h hl (I' := fun b => I b ∨ ow.has b) (o' := .dead) (ow' := ow) (frozenF st.heap id) (S := fun _ => False) hg hII (fun b hb => hb.imp_right fun hb => ?_) (fun v u hv => by rw [upd_self hs]; exact hf v u hv) (Moved.refl _ w) (fun _ h => h.elim) (fun h => by cases h) trivial (fun _ h => by cases h)
 ·rw [upd_self hs] at this; exact this
 ·have hlive : Live σ st.heap b := ⟨id, _, ow, hg, rfl, hs, hb⟩
  exact ⟨hl b hlive, (h.own b hlive).2, h.not_other hg rfl hs hb⟩

theorem Tr.freezeB (h : HR I σ w st.heap) (hl : ∀ b, Live σ st.heap b → L b) {id : Nat} {vs : List AV} (hg : st.heap.get id = some (.box vs)) (ho : AV.owneds vs = false) :
  ∃ I', Tr L I σ st w I' σ (st.freezeB id vs) w := by
 obtain ⟨ow, hs, hobj⟩ := h.objs id _ hg
 have hII : ∀ b, I b → (I b ∨ ow.has b) := fun b hb => .inl hb
 have hf : ∀ v u, LR σ v u → VR (fun b => I b ∨ ow.has b) σ w (boxedF id vs v) u := by
  intro v u hv
  cases v <;> first | exact hv.elim | skip
  case os p => simp only [boxedF]; split; trivial; exact hv
  case sub p a n => simp only [boxedF]; split; trivial; exact hv
  case el p i off => simp only [boxedF]; split; trivial; exact hv
  case mp i => simp only [boxedF]; split; trivial; exact hv
  case op i off =>
   simp only [boxedF]
   split
   ·rename_i hi
    subst hi
    obtain ⟨ow', b, k1, k2, rfl⟩ := hv
    rw [hs] at k1; cases k1
    obtain ⟨_, b', es, T, k3, k4, k5⟩ := hobj
    rw [k2] at k3; cases k3
    refine ⟨b, off, es.drop off, rfl, .inr (.inl (by rw [k2]; rfl)), VRs.mono hII (fun _ _ => rfl) (fun _ _ h => h) _ _ (VRs.drop off k5), fun j v hj => ?_⟩
    rw [List.getElem?_drop] at hj
    simp only [World.cell?, k4]
    simpa using hj
   ·exact hv
 refine ⟨fun b => I b ∨ ow.has b, ?_⟩
 have := Tr.change h hl (I' := fun b => I b ∨ ow.has b) (o' := .dead) (ow' := ow) (boxedF id vs) (S := fun _ => False) hg hII (fun b hb => hb.imp_right fun hb => ?_) (fun v u hv => by rw [upd_self hs]; exact hf v u hv) (Moved.refl _ w) (fun _ h => h.elim) (fun h => by cases h) trivial (fun _ h => by cases h)
 ·rw [upd_self hs] at this; exact this
 ·have hlive : Live σ st.heap b := ⟨id, _, ow, hg, rfl, hs, hb⟩
  exact ⟨hl b hlive, (h.own b hlive).2, h.not_other hg rfl hs hb⟩

theorem Tr.freezeIn (h : HR I σ w st.heap) (hl : ∀ b, Live σ st.heap b → L b) (id : Nat) : ∃ I' σ', Tr L I σ st w I' σ' (st.freezeIn id) w ∧ (∀ v u, LR σ v u → VR I' σ' w (frozenInF st.heap id v) u) ∧ (∀ i, i ≠ id → σ' i = σ i) := by
 unfold St.freezeIn
 split
 ·rename_i m t xs hg
  obtain ⟨ow, hs, hobj⟩ := h.objs id _ hg
  obtain ⟨h1, h2, h3, cs, h4, h5⟩ := hobj
  have hII : ∀ b, I b → (I b ∨ ∃ i off H, ow.inn i off = some H ∧ blockOf H.v = some b) := fun b hb => .inl hb
  have hσ : ∀ i, i ≠ id → upd σ id ⟨ow.h, fun _ _ => none⟩ i = σ i := fun i hi => upd_other _ hi
  have same : ∀ v u, (∀ p, (v = .os p ∨ (∃ a n, v = .sub p a n) ∨ ∃ i off, v = .el p i off) → ¬ (p.isIn = true ∧ p.id = id)) → LR σ v u → VR (fun b => I b ∨ ∃ i off H, ow.inn i off = some H ∧ blockOf H.v = some b) (upd σ id ⟨ow.h, fun _ _ => none⟩) w v u :=
   fun v u hv hu => LR.toVR v u (LR.same hσ hs (upd_same _ _ _) rfl hv hu)
  have hB : ∀ (p : Pl) {t : Ty} {xs : List t.Den} {H : Hdr} {cs : List Value}, PlR I σ w st.heap p t xs H cs → p.isIn = true → p.id = id → ∀ b, blockOf H.v = some b → I b ∨ ∃ i off H, ow.inn i off = some H ∧ blockOf H.v = some b := by
   intro p t' ys H cs' hp hin hpid b hb
   cases p with
   | t i => cases hin
   | n i j off =>
    simp only [Pl.id] at hpid
    subst hpid
    have := hp.hdr
    simp only [hdrOf, hs, Option.bind_some] at this
    exact .inr ⟨j, off, H, this, hb⟩
  have hf : ∀ v u, LR σ v u → VR (fun b => I b ∨ ∃ i off H, ow.inn i off = some H ∧ blockOf H.v = some b) (upd σ id ⟨ow.h, fun _ _ => none⟩) w (frozenInF st.heap id v) u := by
   intro v u hv
   cases v <;> first | exact hv.elim | skip
   case os p =>
    simp only [frozenInF]
    split
    ·rename_i hp
     cases ha : st.heap.arrAt p with
     | none => trivial
     | some v =>
      obtain ⟨t', ys, H, cs, rfl, hpl⟩ := h.place ha
      have := hpl.os hv
      subst this
      exact hpl.data' hII (hB p hpl hp.1 hp.2) (fun i off H' b hi hb => by cases p with | t _ => cases hp.1 | n _ _ _ => simp [innAt] at hi)
    ·rename_i hp; exact same _ u (fun q hq => by rcases hq with hq | ⟨_, _, hq⟩ | ⟨_, _, hq⟩ <;> cases hq; exact hp) hv
   case sub p a n =>
    simp only [frozenInF]
    split
    ·rename_i hp
     cases ha : st.heap.arrAt p with
     | none => trivial
     | some v =>
      obtain ⟨t', ys, H, cs, rfl, hpl⟩ := h.place ha
      exact hpl.dataSub' hII (hB p hpl hp.1 hp.2) (fun i off H' b hi hb => by cases p with | t _ => cases hp.1 | n _ _ _ => simp [innAt] at hi) hv
    ·rename_i hp; exact same _ u (fun q hq => by rcases hq with hq | ⟨_, _, hq⟩ | ⟨_, _, hq⟩ <;> cases hq; exact hp) hv
   case el p i off => simp only [frozenInF]; split; trivial; rename_i hp; exact same _ u (fun q hq => by rcases hq with hq | ⟨_, _, hq⟩ | ⟨_, _, hq⟩ <;> cases hq; exact hp) hv
   case op i off => exact same _ u (fun q hq => by rcases hq with hq | ⟨_, _, hq⟩ | ⟨_, _, hq⟩ <;> cases hq) hv
   case mp i => exact same _ u (fun q hq => by rcases hq with hq | ⟨_, _, hq⟩ | ⟨_, _, hq⟩ <;> cases hq) hv
  refine ⟨_, _, Tr.change h hl (o' := .arr m false t xs) (frozenInF st.heap id) (S := fun _ => False) hg hII (fun b hb => hb.imp_right fun hb => ?_) hf (Moved.refl _ w) (fun _ h => h.elim) (fun _ b hb => ?_) ⟨h1, fun _ _ _ => rfl, ⟨fun _ _ _ _ h => (by cases h), fun _ _ _ _ _ _ _ h => (by cases h)⟩, cs, h4, fun i hi => ?_⟩ (fun _ hst => ⟨hst, fun ow1 how => by rw [hs] at how; cases how; rfl⟩), hf, hσ⟩
  ·have hh : ow.has b := .inr hb
   have hlive : Live σ st.heap b := ⟨id, _, ow, hg, rfl, hs, hh⟩
   exact ⟨hl b hlive, (h.own b hlive).2, h.not_other hg rfl hs hh⟩
  ·have hb' : blockOf ow.h.v = some b := by
    rcases hb with hb | ⟨_, _, _, hb, _⟩
    ·exact hb
    ·cases hb
   have hh : ow.has b := .inl hb'
   have hlive : Live σ st.heap b := ⟨id, _, ow, hg, rfl, hs, hh⟩
   refine ⟨hl b hlive, ?_, (h.own b hlive).2, h.not_other hg rfl hs hh⟩
   rintro (hI | ⟨i, off, H, k1, k2⟩)
   ·exact (h.own b hlive).1 hI
   ·exact h3.out i off H b k1 k2 hb'
  ·have := (h5 i hi).toDR hII (fun _ k H b hk hb => .inr ⟨i, k, H, hk, hb⟩)
   simpa [EltR] using this
 ·rename_i hno
  refine ⟨I, σ, Tr.refl h hl, fun v u hv => ?_, fun _ _ => rfl⟩
  have hnone : ∀ (p : Pl), p.isIn = true → p.id = id → st.heap.arrAt p = none := by
   intro p hin hpid
   cases p with
   | t _ => cases hin
   | n i j off =>
    simp only [Pl.id] at hpid
    subst hpid
    simp only [Heap.arrAt]
  cases v <;> first | exact hv.elim | skip
  case os p =>
   simp only [frozenInF]; split
   ·rename_i hp; rw [hnone p hp.1 hp.2]; trivial
   ·exact hv
  case sub p a n =>
   simp only [frozenInF]; split
   ·rename_i hp; rw [hnone p hp.1 hp.2]; trivial
   ·exact hv
  case el p i off => simp only [frozenInF]; split; trivial; exact hv
  case op i off => exact hv
  case mp i => exact hv

theorem freezes_ok : ∀ (n : Nat) {I : Nat → Prop} {st st' : St} {vs vs' : List AV} {us : List Value}, HR I σ w st.heap → (∀ b, Live σ st.heap b → L b) → VRs I σ w vs us → freezes n st vs = some (vs', st') →
  ∃ I', Tr L I σ st w I' σ st' w ∧ VRs I' σ w vs' us
 | 0, I, st, st', vs, vs', us, h, hl, hv, hf => by
  simp only [freezes] at hf
  split at hf
  ·cases hf; exact ⟨I, Tr.refl h hl, hv⟩
  ·cases hf
 | n + 1, I, st, st', vs, vs', us, h, hl, hv, hf => by
  simp only [freezes] at hf
  split at hf
  ·cases hf; exact ⟨I, Tr.refl h hl, hv⟩
  ·rename_i id _
   split at hf
   ·rename_i m d t xs hg
    obtain ⟨I1, t1, hf1⟩ := Tr.freeze (L := L) h hl hg
    obtain ⟨I2, t2, hv2⟩ := freezes_ok n t1.hr t1.live (VRs.map t1.sub (fun _ _ => rfl) _ hf1 vs us hv) hf
    exact ⟨I2, t1.trans t2, hv2⟩
   ·cases hf

theorem Tr.gone : ∀ (ids : List Nat) {st : St}, HR I σ w st.heap → (∀ b, Live σ st.heap b → L b) → (∀ id ∈ ids, ∃ o, st.heap.get id = some o) → Tr L I σ st w I σ (St.gone st ids) w
 | [], st, h, hl, _ => Tr.refl h hl
 | id :: ids, st, h, hl, hi => by
  obtain ⟨o, hg⟩ := hi id (by simp)
  obtain ⟨ow, hs, _⟩ := h.objs id o hg
  have t1 := Tr.change h hl (o' := .dead) (ow' := ow) (killF id) (S := fun _ => False) hg (fun _ h => h) (fun _ h => .inl h) (fun v u hv => by rw [upd_self hs]; exact killF_ok id (fun _ _ => rfl) v u hv) (Moved.refl _ w) (fun _ h => h.elim) (fun h => by cases h) trivial (fun _ h => by cases h)
  rw [upd_self hs] at t1
  refine t1.trans (Tr.gone ids t1.hr t1.live (fun i hi' => ?_))
  rw [Heap.get_put]
  split
  ·exact ⟨_, rfl⟩
  ·obtain ⟨o', ho'⟩ := hi i (by simp [hi'])
   rw [Heap.get_mapR, ho']; exact ⟨_, rfl⟩

theorem gone_arr : ∀ (ids : List Nat) {st : St} {i : Nat} {m d : Bool} {t : Ty} {xs : List t.Den}, i ∉ ids → st.heap.get i = some (.arr m d t xs) → (St.gone st ids).heap.get i = some (.arr m d t xs)
 | [], _, _, _, _, _, _, _, h => h
 | id :: ids, st, i, m, d, t, xs, hi, h => by
  simp only [List.mem_cons, not_or] at hi
  refine gone_arr ids hi.2 ?_
  simp only [Heap.get_put, if_neg hi.1, Heap.get_mapR, h]
  rfl

theorem gone_live : ∀ (ids : List Nat) {st : St} {b : Nat}, Live σ (St.gone st ids).heap b → ∃ i o ow, i ∉ ids ∧ st.heap.get i = some o ∧ o.live = true ∧ σ i = some ow ∧ ow.has b
 | [], st, b, ⟨i, o, ow, h⟩ => ⟨i, o, ow, by simp, h⟩
 | id :: ids, st, b, h => by
  obtain ⟨i, o, ow, h0, h1, h2, h3, h4⟩ := gone_live ids h
  simp only [Heap.get_put] at h1
  split at h1
  ·cases h1; cases h2
  ·rename_i e
   rw [Heap.get_mapR, Option.map_eq_some_iff] at h1
   obtain ⟨o1, k1, rfl⟩ := h1
   rw [Obj.live_mapR] at h2
   exact ⟨i, o1, ow, by simp [e, h0], k1, h2, h3, h4⟩

def X1 (I : Nat → Prop) (w : World) : AV → Value → Prop
 | .d t x, u => EX I w t x [u]
 | .nilS, u => u = .slice none 0 0
 | .empS, u => ∃ A, u = .slice A 0 0
 | .rp vs, u => VR I (fun _ => none) w (.rp vs) u
 | _, _ => False
def CX (I : Nat → Prop) (w : World) : List AV → List Value → Prop
 | [], us => us = []
 | v :: vs, us => ∃ u us', us = u :: us' ∧ X1 I w v u ∧ CX I w vs us'

theorem CX.length : ∀ {vs : List AV} {us : List Value}, CX I w vs us → us.length = vs.length
 | [], _, h => by rw [h]; rfl
 | _ :: _, _, h => by obtain ⟨u, us', rfl, _, h⟩ := h; simp [CX.length h]
theorem CX.append : ∀ {vs vs' : List AV} {us us' : List Value}, CX I w vs us → CX I w vs' us' → CX I w (vs ++ vs') (us ++ us')
 | [], _, _, _, h, h' => by rw [h]; exact h'
 | _ :: _, _, _, _, h, h' => by obtain ⟨e, es', rfl, h2, h3⟩ := h; exact ⟨e, es' ++ _, rfl, h2, CX.append h3 h'⟩
theorem CX.drop : ∀ {vs : List AV} {us : List Value} (n : Nat), CX I w vs us → CX I w (vs.drop n) (us.drop n)
 | [], _, n, h => by rw [h]; cases n <;> rfl
 | _ :: _, _, 0, h => h
 | _ :: _, _, n + 1, h => by obtain ⟨e, es', rfl, _, h3⟩ := h; simpa using CX.drop n h3
theorem CX.take : ∀ {vs : List AV} {us : List Value} (n : Nat), CX I w vs us → CX I w (vs.take n) (us.take n)
 | [], _, n, h => by rw [h]; cases n <;> rfl
 | _ :: _, _, 0, _ => rfl
 | _ :: _, _, n + 1, h => by obtain ⟨e, es', rfl, h2, h3⟩ := h; exact ⟨e, es'.take n, rfl, h2, CX.take n h3⟩

theorem EX.cx : ∀ (t : Ty) (x : t.Den) (cs : List Value), EX I w t x cs → CX I w (flat t x) cs
 | .slice t, _, _, h => by obtain ⟨v, rfl, h⟩ := h; exact ⟨v, [], rfl, ⟨v, rfl, h⟩, rfl⟩
 | .cons a b, x, _, h => by obtain ⟨c1, c2, rfl, h1, h2⟩ := h; exact CX.append (EX.cx a _ _ h1) (EX.cx b _ _ h2)
 | .agg l, x, cs, h => EX.cx l x cs h
 | .int k, x, cs, h => ⟨_, [], h, rfl, rfl⟩
 | .bool, x, cs, h => ⟨_, [], h, rfl, rfl⟩
 | .str, x, cs, h => ⟨_, [], h, rfl, rfl⟩
 | .err, x, cs, h => by
  rcases h with ⟨h1, rfl⟩ | ⟨h1, t, v, rfl⟩
  ·exact ⟨_, [], rfl, .inl ⟨h1, rfl⟩, rfl⟩
  ·exact ⟨_, [], rfl, .inr ⟨h1, t, v, rfl⟩, rfl⟩
 | .ptr t, x, cs, h => by obtain ⟨b, o, rfl, h1, es, h2, h3⟩ := h; exact ⟨_, [], rfl, ⟨b, o, es, rfl, h1, VRs.flat t x es h2, h3⟩, rfl⟩
 | .nil, x, cs, h => h

theorem PlainArr.empty (t : Ty) (A : Option Addr) : PlainArr I w t [] (.slice A 0 0) :=
 ⟨[], ⟨by simp, .inl ⟨A, rfl, rfl⟩⟩, fun i hi => absurd hi (by simp)⟩

theorem CX.unflat : ∀ (t : Ty) {vs vs' : List AV} {us : List Value} {x : t.Den}, CX I w vs us → Go.Q.unflat t vs = some (x, vs') → ∃ c1 c2, us = c1 ++ c2 ∧ EX I w t x c1 ∧ CX I w vs' c2
 | .nil, vs, vs', us, x, hv, h => by simp only [Go.Q.unflat, Option.some.injEq, Prod.mk.injEq] at h; obtain ⟨_, rfl⟩ := h; exact ⟨[], us, rfl, rfl, hv⟩
 | .agg l, vs, vs', us, x, hv, h => CX.unflat l hv h
 | .cons a b, vs, vs', us, x, hv, h => by
  simp only [Go.Q.unflat, Option.bind_eq_some_iff, Option.map_eq_some_iff] at h
  obtain ⟨⟨y, r⟩, h1, ⟨z, r'⟩, h2, h3⟩ := h
  simp only [Prod.mk.injEq] at h3
  obtain ⟨rfl, rfl⟩ := h3
  obtain ⟨c1, c2, rfl, k1, k2⟩ := CX.unflat a hv h1
  obtain ⟨c3, c4, rfl, k3, k4⟩ := CX.unflat b k2 h2
  exact ⟨c1 ++ c3, c4, by simp, ⟨c1, c3, rfl, k1, k3⟩, k4⟩
 | .int k, [], _, _, _, _, h => by simp [Go.Q.unflat] at h
 | .bool, [], _, _, _, _, h => by simp [Go.Q.unflat] at h
 | .str, [], _, _, _, _, h => by simp [Go.Q.unflat] at h
 | .err, [], _, _, _, _, h => by simp [Go.Q.unflat] at h
 | .slice _, [], _, _, _, _, h => by simp [Go.Q.unflat] at h
 | .ptr _, [], _, _, _, _, h => by simp [Go.Q.unflat] at h
 | .int k, v :: vs, vs', us, x, hv, h => by
  obtain ⟨e, es', rfl, h2, h3⟩ := hv
  simp only [Go.Q.unflat, Option.map_eq_some_iff, Prod.mk.injEq] at h
  obtain ⟨y, k1, rfl, rfl⟩ := h
  have := asDen_some k1; subst this
  exact ⟨[e], es', rfl, h2, h3⟩
 | .bool, v :: vs, vs', us, x, hv, h => by
  obtain ⟨e, es', rfl, h2, h3⟩ := hv
  simp only [Go.Q.unflat, Option.map_eq_some_iff, Prod.mk.injEq] at h
  obtain ⟨y, k1, rfl, rfl⟩ := h
  have := asDen_some k1; subst this
  exact ⟨[e], es', rfl, h2, h3⟩
 | .str, v :: vs, vs', us, x, hv, h => by
  obtain ⟨e, es', rfl, h2, h3⟩ := hv
  simp only [Go.Q.unflat, Option.map_eq_some_iff, Prod.mk.injEq] at h
  obtain ⟨y, k1, rfl, rfl⟩ := h
  have := asDen_some k1; subst this
  exact ⟨[e], es', rfl, h2, h3⟩
 | .err, v :: vs, vs', us, x, hv, h => by
  obtain ⟨e, es', rfl, h2, h3⟩ := hv
  simp only [Go.Q.unflat, Option.map_eq_some_iff, Prod.mk.injEq] at h
  obtain ⟨y, k1, rfl, rfl⟩ := h
  have := asDen_some k1; subst this
  exact ⟨[e], es', rfl, h2, h3⟩
 | .slice t, v :: vs, vs', us, x, hv, h => by
  obtain ⟨e, es', rfl, h2, h3⟩ := hv
  simp only [Go.Q.unflat, Option.map_eq_some_iff, Prod.mk.injEq] at h
  obtain ⟨y, k1, rfl, rfl⟩ := h
  refine ⟨[e], es', rfl, ?_, h3⟩
  unfold Go.Q.asList at k1
  split at k1
  ·cases k1; obtain rfl := h2; exact ⟨_, rfl, PlainArr.empty t _⟩
  ·cases k1; obtain ⟨A, rfl⟩ := h2; exact ⟨_, rfl, PlainArr.empty t _⟩
  ·have := asDen_some k1; subst this; exact h2
 | .ptr t, v :: vs, vs', us, x, hv, h => by
  obtain ⟨e, es', rfl, h2, h3⟩ := hv
  simp only [Go.Q.unflat] at h
  split at h
  ·rename_i us'
   simp only [Option.map_eq_some_iff, Prod.mk.injEq] at h
   obtain ⟨⟨y, r⟩, k1, rfl, rfl⟩ := h
   obtain ⟨b, o, es, rfl, g1, g2, g3⟩ := h2
   obtain ⟨c1, c2, rfl, k2, _⟩ := VRs.unflat t g2 k1
   exact ⟨_, es', rfl, ⟨b, o, rfl, g1, c1, k2, fun j v hj => g3 j v (by
    have := (List.getElem?_eq_some_iff.1 hj).1
    rw [List.getElem?_append_left this]; exact hj)⟩, h3⟩
  ·cases h

theorem DR.ex : ∀ (t : Ty) (x : t.Den) (cs : List Value), t.refs = false → DR I w t x cs → EX I w t x cs ∧ ∀ c ∈ cs, blockOf c = none
 | .int _, _, _, _, h => ⟨h, fun c hc => by rw [h] at hc; simp at hc; subst hc; rfl⟩
 | .bool, _, _, _, h => ⟨h, fun c hc => by rw [h] at hc; simp at hc; subst hc; rfl⟩
 | .str, _, _, _, h => ⟨h, fun c hc => by rw [h] at hc; simp at hc; subst hc; rfl⟩
 | .err, _, _, _, h => ⟨h, fun c hc => by rcases h with ⟨_, rfl⟩ | ⟨_, _, _, rfl⟩ <;> simp at hc <;> subst hc <;> rfl⟩
 | .nil, _, _, _, h => ⟨h, fun c hc => by rw [h] at hc; simp at hc⟩
 | .slice _, _, _, k, _ => by simp [Ty.refs] at k
 | .ptr _, _, _, k, _ => by simp [Ty.refs] at k
 | .cons a b, x, _, k, h => by
  simp only [Ty.refs, Bool.or_eq_false_iff] at k
  obtain ⟨c1, c2, rfl, h1, h2⟩ := h
  obtain ⟨k1, k2⟩ := DR.ex a _ _ k.1 h1
  obtain ⟨k3, k4⟩ := DR.ex b _ _ k.2 h2
  exact ⟨⟨c1, c2, rfl, k1, k3⟩, fun c hc => (List.mem_append.1 hc).elim (k2 c) (k4 c)⟩
 | .agg l, x, cs, k, h => DR.ex l x cs k h

theorem nodupN_iff : ∀ {l : List Nat}, nodupN l = true ↔ l.Nodup
 | [] => by simp [nodupN]
 | x :: xs => by simp [nodupN, nodupN_iff]

theorem absorb1_ok {hp : Heap} (h : HR I σ w hp) {v v' : AV} {u : Value} {ids : List Nat} (hv : VR I σ w v u) (ha : absorb1 hp v = some (v', ids)) :
  X1 I w v' u ∧ (∀ id ∈ ids, ∃ m t xs, hp.get id = some (.arr m false t xs)) ∧ ∀ b, blockOf u = some b → ∃ id ow, ids = [id] ∧ σ id = some ow ∧ blockOf ow.h.v = some b := by
 unfold absorb1 at ha
 split at ha
 ·rename_i id
  split at ha
  ·rename_i m t xs hg
   cases ha
   obtain ⟨ow, h1, h2, h3, h4, cs, h5, h6⟩ := h.objs id _ hg
   obtain ⟨H, A, n, cap, k1, k2, rfl⟩ := hv
   simp only [hdrOf, h1, Option.map_some, Option.some.injEq] at k1
   subst k1
   refine ⟨⟨_, rfl, cs, by rw [← k2]; exact h5, fun i hi => by have := h6 i hi; simpa [EltR] using this⟩, fun i hi => ?_, fun b hb => ⟨id, ow, rfl, h1, by rw [k2]; exact hb⟩⟩
   simp only [List.mem_singleton] at hi; subst hi; exact ⟨m, t, xs, hg⟩
  ·cases ha
 ·cases ha
 ·cases ha
 ·rename_i t x
  split at ha
  ·cases ha
  ·rename_i ht
   cases ha
   obtain ⟨k1, k2⟩ := DR.ex t x [u] (by simpa using ht) hv
   exact ⟨k1, fun _ h => by simp at h, fun b hb => by rw [k2 u (by simp)] at hb; cases hb⟩
 ·cases ha
  obtain rfl := hv
  exact ⟨rfl, fun _ h => by simp at h, fun b hb => by simp [blockOf] at hb⟩
 ·cases ha
  obtain ⟨A, rfl⟩ := hv
  exact ⟨⟨A, rfl⟩, fun _ h => by simp at h, fun b hb => by cases A <;> simp [blockOf] at hb⟩
 ·cases ha

theorem absorbs_ok {hp : Heap} (h : HR I σ w hp) : ∀ {vs vs' : List AV} {us : List Value} {ids : List Nat}, VRs I σ w vs us → absorbs hp vs = some (vs', ids) →
  CX I w vs' us ∧ (∀ id ∈ ids, ∃ m t xs, hp.get id = some (.arr m false t xs)) ∧ (∀ (j : Nat) (u : Value) b, us[j]? = some u → blockOf u = some b → ∃ id ow, id ∈ ids ∧ σ id = some ow ∧ blockOf ow.h.v = some b) ∧
   (ids.Nodup → ∀ (j j' : Nat) (u u' : Value) b, us[j]? = some u → us[j']? = some u' → blockOf u = some b → blockOf u' = some b → j = j')
 | [], vs', us, ids, hv, ha => by
  simp only [absorbs, Option.some.injEq, Prod.mk.injEq] at ha
  obtain ⟨rfl, rfl⟩ := ha
  obtain rfl : us = [] := hv
  exact ⟨rfl, fun _ h => by simp at h, fun j u b hj => by simp at hj, fun _ j j' u u' b hj => by simp at hj⟩
 | v :: vs, vs', us, ids, hv, ha => by
  obtain ⟨u, us', rfl, hv1, hv2⟩ := hv
  simp only [absorbs, Option.bind_eq_some_iff, Option.map_eq_some_iff, Prod.mk.injEq] at ha
  obtain ⟨⟨v1, i1⟩, k1, ⟨vs1, i2⟩, k2, rfl, rfl⟩ := ha
  obtain ⟨m1, m2, m3⟩ := absorb1_ok h hv1 k1
  obtain ⟨n1, n2, n3, n4⟩ := absorbs_ok h hv2 k2
  refine ⟨⟨u, us', rfl, m1, n1⟩, fun id hid => ?_, fun j u' b hj hb => ?_, fun hnd j j' a a' b hj hj' ha ha' => ?_⟩
  ·rcases List.mem_append.1 hid with hid | hid
   ·exact m2 id hid
   ·exact n2 id hid
  ·cases j with
   | zero =>
    simp at hj; subst hj
    obtain ⟨id, ow, e, p1, p2⟩ := m3 b hb
    exact ⟨id, ow, by simp [e], p1, p2⟩
   | succ j =>
    obtain ⟨id, ow, e, p1, p2⟩ := n3 j u' b (by simpa using hj) hb
    exact ⟨id, ow, by simp [e], p1, p2⟩
  ·have cross : ∀ (j : Nat) (x : Value), us'[j]? = some x → blockOf x = some b → blockOf u = some b → False := by
    intro j x hx hbx hbu
    obtain ⟨id, ow, e, p1, p2⟩ := m3 b hbu
    obtain ⟨id', ow', e', p1', p2'⟩ := n3 j x b hx hbx
    have hne : id ≠ id' := by
     rintro rfl
     have := (List.nodup_append.1 hnd).2.2 id (by rw [e]; simp) id e'
     exact this rfl
    obtain ⟨q1, q2, q3, q4⟩ := m2 id (by rw [e]; simp)
    obtain ⟨r1, r2, r3, r4⟩ := n2 id' e'
    exact h.dist id id' _ _ ow ow' b hne q4 r4 rfl rfl p1 p1' (.inl p2) (.inl p2')
   cases j with
   | zero =>
    cases j' with
    | zero => rfl
    | succ j' => simp at hj; subst hj; exact (cross j' a' (by simpa using hj') ha' ha).elim
   | succ j =>
    cases j' with
    | zero => simp at hj'; subst hj'; exact (cross j a (by simpa using hj) ha ha').elim
    | succ j' => rw [n4 (List.nodup_append.1 hnd).2.1 j j' a a' b (by simpa using hj) (by simpa using hj') ha ha']

end
end Go.Q
