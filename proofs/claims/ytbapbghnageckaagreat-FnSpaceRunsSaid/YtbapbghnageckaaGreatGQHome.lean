/- An object gets another number. -/
import Derived.Test.YtbapbghnageckaaGreatGQPlace
namespace Go.Q
set_option linter.unusedVariables false
set_option linter.unusedSimpArgs false
set_option linter.unusedSectionVars false
open Go
theorem Heap.get_sans (a b : Nat) (h : Heap) (i : Nat) : (h.sans a b).get i = if i = a ∨ i = b then none else h.get i := by
 induction h with
 | nil => simp [Heap.sans, Heap.get]
 | cons x h ih =>
  obtain ⟨j, o⟩ := x
  simp only [Heap.sans]
  split
  ·rename_i hj
   rw [ih, Heap.get]
   split
   ·rfl
   ·rename_i hi
    rw [if_neg (fun e : j = i => hi (e ▸ hj))]
  ·rename_i hj
   rw [Heap.get, Heap.get, ih]
   by_cases hji : j = i
   ·subst hji; rw [if_pos rfl, if_neg hj, if_pos rfl]
   ·rw [if_neg hji, if_neg hji]
section
variable {L : Nat → Prop} {I : Nat → Prop} {σ : Nat → Option Own} {st : St} {w : World}
def reSig (σ : Nat → Option Own) (id home : Nat) (i : Nat) : Option Own := if i = home then σ id else if i = id then none else σ i
theorem reSig_to {id home : Nat} (p : Pl) (hp : p.id ≠ home) : hdrOf (reSig σ id home) (p.to id home) = hdrOf σ p := by
 cases p with
 | t i =>
  have hi : i ≠ home := hp
  simp only [Pl.to, hdrOf, reSig]
  by_cases h : i = id
  ·subst h; simp
  ·simp [h, hi]
 | n i j off =>
  have hi : i ≠ home := hp
  simp only [Pl.to, hdrOf, reSig]
  by_cases h : i = id
  ·subst h; simp
  ·simp [h, hi]
theorem reSig_at {id home : Nat} (i : Nat) (hi : i ≠ home) : reSig σ id home (if i = id then home else i) = σ i := by
 unfold reSig
 by_cases h : i = id
 ·subst h; simp
 ·simp [h, hi]
theorem homeF_ok {id home : Nat} (v : AV) (u : Value) (h : LR σ v u) : VR I (reSig σ id home) w (homeF id home v) u := by
 cases v <;> first | exact h.elim | skip
 case os p => simp only [homeF]; split; trivial; rename_i hp; obtain ⟨H, A, n, cap, h1, h2⟩ := h; exact ⟨H, A, n, cap, by rw [reSig_to p hp]; exact h1, h2⟩
 case sub p a n => simp only [homeF]; split; trivial; rename_i hp; obtain ⟨H, A, len, cap, h1, h2⟩ := h; exact ⟨H, A, len, cap, by rw [reSig_to p hp]; exact h1, h2⟩
 case el p i off => simp only [homeF]; split; trivial; rename_i hp; obtain ⟨H, b, o, len, cap, h1, h2⟩ := h; exact ⟨H, b, o, len, cap, by rw [reSig_to p hp]; exact h1, h2⟩
 case op i off => simp only [homeF]; split; trivial; rename_i hp; obtain ⟨ow, b, h1, h2⟩ := h; exact ⟨ow, b, by rw [reSig_at i hp]; exact h1, h2⟩
 case mp i => simp only [homeF]; split; trivial; rename_i hp; obtain ⟨ow, b, h1, h2⟩ := h; exact ⟨ow, b, by rw [reSig_at i hp]; exact h1, h2⟩
theorem Tr.moveTo (hr : HR I σ w st.heap) (hl : ∀ b, Live σ st.heap b → L b) {id home : Nat} {o : Obj} (hg : st.heap.get id = some o) (hne : id ≠ home) (h1 : id < lentFrom) (h2 : home < lentFrom) : Tr L I σ st w I (reSig σ id home) (st.moveTo id home o) w := by
 have hget : ∀ i, (st.moveTo id home o).heap.get i = if i = home then some (o.mapR (homeF id home)) else if i = id then none else (st.heap.get i).map (Obj.mapR (homeF id home)) := by
  intro i
  simp only [St.moveTo]
  rw [Heap.get_put, Heap.get_sans, Heap.get_mapR]
  by_cases hi : i = home
  ·subst hi; simp
  ·have hi' : ¬ home = i := fun e => hi e.symm
   by_cases hi2 : i = id
   ·subst hi2; simp [hi, hi']
   ·simp [hi, hi', hi2]
 have hold : ∀ i o', (st.moveTo id home o).heap.get i = some o' → ∃ j o0, st.heap.get j = some o0 ∧ o' = o0.mapR (homeF id home) ∧ reSig σ id home i = σ j ∧ j ≠ home ∧ i = (if j = id then home else j) ∨ ∃ o0, j = id ∧ i = home ∧ st.heap.get j = some o0 ∧ o' = o0.mapR (homeF id home) ∧ reSig σ id home i = σ j := by
  intro i o' h
  rw [hget] at h
  split at h
  ·rename_i hi
   cases h
   subst hi
   exact ⟨id, o, .inr ⟨o, rfl, rfl, hg, rfl, by simp [reSig]⟩⟩
  ·rename_i hi
   split at h
   ·cases h
   ·rename_i hi2
    rw [Option.map_eq_some_iff] at h
    obtain ⟨o0, k1, rfl⟩ := h
    exact ⟨i, o0, .inl ⟨k1, rfl, by simp [reSig, hi, hi2], hi, by simp [hi2]⟩⟩
 have hvm : ∀ vs es, VRs I σ w vs es → VRs I (reSig σ id home) w (AV.mapRs (homeF id home) vs) es := fun vs es hv => VRs.map (fun _ h => h) (fun _ _ => rfl) _ (fun v u hv => homeF_ok v u hv) vs es hv
 have hobj : ∀ i o', (st.moveTo id home o).heap.get i = some o' → ∃ j o0, st.heap.get j = some o0 ∧ o' = o0.mapR (homeF id home) ∧ reSig σ id home i = σ j ∧ i = (if j = id then home else j) ∧ j ≠ home ∨ (j = id ∧ st.heap.get j = some o0 ∧ o' = o0.mapR (homeF id home) ∧ reSig σ id home i = σ j ∧ i = home) := by
  intro i o' h
  obtain ⟨j, o0, h⟩ := hold i o' h
  rcases h with ⟨a1, a2, a3, a4, a5⟩ | ⟨o1, a1, a2, a3, a4, a5⟩
  ·exact ⟨j, o0, .inl ⟨a1, a2, a3, a5, a4⟩⟩
  ·exact ⟨j, o1, .inr ⟨a1, a3, a4, a5, a2⟩⟩
 have key : ∀ i o', (st.moveTo id home o).heap.get i = some o' → ∃ j o0, st.heap.get j = some o0 ∧ o' = o0.mapR (homeF id home) ∧ reSig σ id home i = σ j ∧ i = (if j = id then home else j) := by
  intro i o' h
  obtain ⟨j, o0, h⟩ := hobj i o' h
  rcases h with ⟨a1, a2, a3, a4, _⟩ | ⟨a1, a2, a3, a4, a5⟩
  ·exact ⟨j, o0, a1, a2, a3, a4⟩
  ·exact ⟨j, o0, a2, a3, a4, by rw [a5, if_pos a1]⟩
 have hlive : ∀ b, Live (reSig σ id home) (st.moveTo id home o).heap b → Live σ st.heap b := by
  rintro b ⟨i, o', ow, k1, k2, k3, k4⟩
  obtain ⟨j, o0, a1, rfl, a3, _⟩ := key i o' k1
  rw [Obj.live_mapR] at k2
  exact ⟨j, o0, ow, a1, k2, by rw [← a3]; exact k3, k4⟩
 refine ⟨fun i u hu => ?_, ⟨fun i o' h => ?_, fun i h => ?_, fun b hb => hr.own b (hlive b hb), fun i i' o1 o2 ow1 ow2 b hii k1 k2 l1 l2 s1 s2 hb => ?_, hr.lt⟩, fun b hb => hl b (hlive b hb), fun _ h => h, fun _ h => .inl h, Moved.refl _ _, fun i hi o' h hst => ?_⟩
 ·show VR I (reSig σ id home) w ((Slots.mapR (homeF id home) st.tmps).get i) u
  rw [Slots.get_mapR]
  exact VR.map (fun _ h => h) (fun _ _ => rfl) _ (fun v u hv => homeF_ok v u hv) _ u hu
 ·obtain ⟨j, o0, a1, rfl, a3, _⟩ := key i o' h
  obtain ⟨ow, b1, b2⟩ := hr.objs j o0 a1
  exact ⟨ow, by rw [a3]; exact b1, ObjR.map (fun _ h => h) (fun _ _ => rfl) (fun _ _ _ => rfl) _ hvm b2⟩
 ·rw [hget] at h
  split at h
  ·cases h
  ·rename_i hi
   split at h
   ·rename_i hi2
    simp [reSig, hi, hi2, hne]
   ·rename_i hi2
    rw [Option.map_eq_none_iff] at h
    simp only [reSig, hi, hi2, if_false]
    exact hr.dom i h
 ·obtain ⟨j, p1, a1, rfl, a3, a4⟩ := key i o1 k1
  obtain ⟨j', p2, b1, rfl, b3, b4⟩ := key i' o2 k2
  rw [Obj.live_mapR] at l1 l2
  refine hr.dist j j' p1 p2 ow1 ow2 b (fun e => ?_) a1 b1 l1 l2 (by rw [← a3]; exact s1) (by rw [← b3]; exact s2) hb
  subst e
  exact hii (a4.trans b4.symm)
 ·have hi1 : i ≠ home := by omega
  have hi2 : i ≠ id := by omega
  rw [hget, if_neg hi1, if_neg hi2, Option.map_eq_some_iff] at h
  obtain ⟨o0, k1, rfl⟩ := h
  refine ⟨o0, k1, by cases o0 <;> exact hst, fun ow how => ⟨ow, by simp [reSig, hi1, hi2, how], rfl⟩⟩
theorem Tr.homeO (hr : HR I σ w st.heap) (hl : ∀ b, Live σ st.heap b → L b) (id home : Nat) : ∃ σ', Tr L I σ st w I σ' (homeO st id home (st.heap.get id)) w := by
 cases hg : st.heap.get id with
 | none => exact ⟨σ, Tr.refl hr hl⟩
 | some o =>
  simp only [Go.Q.homeO]
  split
  ·rename_i h
   exact ⟨_, Tr.moveTo hr hl hg h.1 h.2.1 h.2.2⟩
  ·exact ⟨σ, Tr.refl hr hl⟩
theorem Tr.homeV (hr : HR I σ w st.heap) (hl : ∀ b, Live σ st.heap b → L b) (home : Nat) (v : AV) : ∃ σ', Tr L I σ st w I σ' (homeV st home v) w := by
 unfold Go.Q.homeV
 split
 ·exact Tr.homeO hr hl _ _
 ·exact Tr.homeO hr hl _ _
 ·exact Tr.homeO hr hl _ _
 ·exact ⟨σ, Tr.refl hr hl⟩
theorem Tr.homeAt (hr : HR I σ w st.heap) (hl : ∀ b, Live σ st.heap b → L b) (home : Nat) (v : Option AV) : ∃ σ', Tr L I σ st w I σ' (homeAt st home v) w := by
 unfold Go.Q.homeAt
 split
 ·exact Tr.homeO hr hl _ _
 ·exact Tr.homeO hr hl _ _
 ·exact ⟨σ, Tr.refl hr hl⟩
theorem Tr.homeT (hr : HR I σ w st.heap) (hl : ∀ b, Live σ st.heap b → L b) (t : Nat) : ∃ σ', Tr L I σ st w I σ' (homeT st t) w := by
 unfold Go.Q.homeT
 split
 ·exact Tr.homeV hr hl _ _
 ·unfold Go.Q.homeCell
  split
  ·unfold Go.Q.homeBox
   split
   ·exact Tr.homeAt hr hl _ _
   ·exact ⟨σ, Tr.refl hr hl⟩
  ·exact ⟨σ, Tr.refl hr hl⟩
end
section
variable {B : Base} {I : Nat → Prop} {a : Act} {w : World}
theorem Rel.homes : ∀ (ts : List Nat) {σ : Nat → Option Own} {st : St}, Rel B I σ st a w → ∃ σ', Rel B I σ' (Go.Q.homes ts st) a w
 | [], σ, st, h => ⟨σ, h⟩
 | t :: ts, σ, st, h => by
  obtain ⟨σ1, t1⟩ := Tr.homeT (L := fun b => B.w0.heap.size ≤ b ∨ B.M b) h.hr h.from_ t
  exact Rel.homes ts (h.tr t1)
theorem Rel.subV {σ : Nat → Option Own} {st : St} (h : Rel B I σ st a w) (t : Nat) : Rel B I σ (Go.Q.subV st t (st.get t)) a w := by
 unfold Go.Q.subV
 split
 ·rename_i p hp
  split
  ·rename_i t0 xs ha
   refine h.set_same t ?_
   have hv := h.slots t
   have hp' : st.tmps.get t = .os p := hp
   rw [hp'] at hv
   obtain ⟨t1, xs1, H, cs, e1, hpl⟩ := h.hr.place ha
   cases e1
   obtain ⟨H', A, n, cap, h1, h2, h3⟩ := hv
   have hu := hpl.os ⟨H', A, n, cap, h1, h2, h3⟩
   obtain ⟨A1, cap1, e2, _⟩ := hpl.arr.slice
   have hn : n = xs.length ∧ H = H' := by
    have e3 : H.v = .slice A n cap := by rw [← hu]; exact h3
    rw [e2] at e3
    cases e3
    refine ⟨rfl, ?_⟩
    have := hpl.hdr
    rw [h1] at this
    cases this; rfl
   obtain ⟨rfl, rfl⟩ := hn
   exact ⟨H, A, _, cap, h1, h2, by omega, A, by rw [h3]; simp, fun b o hA _ => by rw [hA]; simp, fun b o hA => ⟨o, hA⟩, fun hA => hA⟩
  ·exact h
 ·exact h
theorem Rel.subs {σ : Nat → Option Own} : ∀ (ts : List Nat) {st : St}, Rel B I σ st a w → Rel B I σ (Go.Q.subs ts st) a w
 | [], st, h => h
 | t :: ts, st, h => Rel.subs ts (h.subV t)
theorem VR.soft {σ : Nat → Option Own} {w : World} {I : Nat → Prop} (t : Ty) {v : AV} {u : Value} (h : VR I σ w v u) : VR I σ w (softA t v) u := by
 unfold softA
 split
 ·exact VR.asList (t := t) (v := .nilS) h rfl
 ·exact VR.asList (t := t) (v := .empS) h rfl
 ·exact h
theorem VRs.soft {σ : Nat → Option Own} {w : World} {I : Nat → Prop} (t : Ty) : ∀ (c : Nat) {vs : List AV} {us : List Value}, VRs I σ w vs us → VRs I σ w (softAt t c vs) us
 | _, [], _, h => by unfold softAt; exact h
 | 0, v :: vs, us, h => by obtain ⟨e, es, h1, h2, h3⟩ := h; exact ⟨e, es, h1, VR.soft t h2, h3⟩
 | c + 1, v :: vs, us, h => by obtain ⟨e, es, h1, h2, h3⟩ := h; exact ⟨e, es, h1, h2, VRs.soft t c h3⟩
theorem VR.softV {σ : Nat → Option Own} {w : World} {I : Nat → Prop} (c : Nat) (t : Ty) {v : AV} {u : Value} (h : VR I σ w v u) : VR I σ w (softV c t v) u := by
 unfold Go.Q.softV
 split
 ·obtain ⟨b, o, es, h1, h2, h3, h4⟩ := h
  exact ⟨b, o, es, h1, h2, VRs.soft t c h3, h4⟩
 ·obtain ⟨es, h1, h2⟩ := h
  exact ⟨es, h1, VRs.soft t c h2⟩
 ·split
  ·exact VR.soft t h
  ·exact h
theorem Rel.softs {σ : Nat → Option Own} : ∀ (l : List (Nat × Nat × Ty)) {st : St}, Rel B I σ st a w → Rel B I σ (Go.Q.softs l st) a w
 | [], st, h => h
 | (s, c, t) :: l, st, h => Rel.softs l (h.set_same s (VR.softV c t (h.slots s)))
end
end Go.Q
