/- An abstract interpreter of the translated code: append to arrays with slices of their own, copy, clear. -/
import Derived.Test.YtbapbghnageckaaGreatGQAppend
namespace Go.Q
set_option linter.unusedVariables false
set_option linter.unusedSimpArgs false
set_option linter.unusedSectionVars false
open Go
section
variable {P : Program} {E : Env} {L : Nat → Prop} {I I' J : Nat → Prop} {σ σ' : Nat → Option Own} {st st' : St} {w w' : World}

structure DeepR (I : Nat → Prop) (w : World) (ow : Own) (t : Ty) (xs : List t.Den) (cs : List Value) : Prop where
 arr : Arr w ow.h.v xs.length t.size cs
 ex : ∀ (i : Nat) (hi : i < xs.length), EX I w t (xs.get ⟨i, hi⟩) (chunk t.size cs i)
 inn : ∀ (i : Nat), i < xs.length → ∀ k H, innOf t (chunk t.size cs i) k = some H → ow.inn i k = some H

theorem HR.deep {hp : Heap} (h : HR I σ w hp) {id : Nat} {m : Bool} {t : Ty} {xs : List t.Den} (hg : hp.get id = some (.arr m true t xs)) : ∃ ow cs, σ id = some ow ∧ InnOK ow ∧ DeepR I w ow t xs cs := by
 obtain ⟨ow, h1, h2, h3, h4, cs, h5, h6⟩ := h.objs id _ hg
 exact ⟨ow, cs, h1, h4, h5, fun i hi => ((h6 i hi).ex.2.2.2 rfl).1, fun i hi k H hk => ((h6 i hi).ex.2.2.2 rfl).2 k H hk⟩

theorem DeepR.pos {ow : Own} {t : Ty} {xs : List t.Den} {cs : List Value} (h : DeepR I w ow t xs cs) {p : Nat} {u : Value} {b : Nat} (hp : cs[p]? = some u) (hb : blockOf u = some b) (hI : ¬ I b) : ∃ i k H, i < xs.length ∧ k < t.size ∧ p = i * t.size + k ∧ ow.inn i k = some H ∧ H.v = u := by
 have hlt := (List.getElem?_eq_some_iff.1 hp).1
 have hcl := h.arr.1
 have hsz : 0 < t.size := by
  rcases Nat.eq_zero_or_pos t.size with hz | hz
  ·rw [hz, Nat.mul_zero] at hcl; omega
  ·exact hz
 have h1 := Nat.div_add_mod p t.size
 have h2 := Nat.mod_lt p hsz
 rw [Nat.mul_comm] at h1
 have hi : p / t.size < xs.length := by
  rcases Nat.lt_or_ge (p / t.size) xs.length with h | h
  ·exact h
  ·have := Nat.mul_le_mul_right t.size h; omega
 have hc : (chunk t.size cs (p / t.size))[p % t.size]? = some u := by
  simp only [chunk, List.getElem?_take, if_pos h2, List.getElem?_drop, h1]; exact hp
 rcases EX.blocks t _ _ (h.ex _ hi) _ u b hc hb with ⟨H, q1, q2⟩ | q
 ·exact ⟨_, _, H, hi, h2, h1.symm, h.inn _ hi _ H q1, q2⟩
 ·exact absurd q hI

theorem Tr.deepen (h : HR I σ w st.heap) (hl : ∀ b, Live σ st.heap b → L b) (hnew : ∀ b, w.heap.size ≤ b → L b) {i : Nat} {m0 d0 : Bool} {t0 : Ty} {xs0 : List t0.Den} (hg : st.heap.get i = some (.arr m0 d0 t0 xs0)) {ow : Own} (hs : σ i = some ow) {t : Ty} (zs : List t.Den) {S : Nat → Prop} {w2 : World} {A : Option Addr} {c : Nat} {cs : List Value}
  (hm : Moved S w w2) (hS : ∀ b, S b → blockOf ow.h.v = some b) (hbk : ∀ b, blockOf (.slice A zs.length c) = some b → blockOf ow.h.v = some b ∨ (w.heap.size ≤ b ∧ b < w2.heap.size)) (harr : Arr w2 (.slice A zs.length c) zs.length t.size cs)
  (hr : ∀ (i : Nat) (hi : i < zs.length), EX I w t (zs.get ⟨i, hi⟩) (chunk t.size cs i))
  (hb1 : ∀ (p k : Nat) (H : Hdr) (b : Nat), innFrom t cs zs.length p k = some H → blockOf H.v = some b → L b ∧ ¬ I b ∧ b < w.heap.size ∧ ¬ Live σ (st.heap.put i .dead) b ∧ blockOf ow.h.v ≠ some b)
  (hb2 : ∀ (j j' : Nat) (u u' : Value) (b : Nat), cs[j]? = some u → cs[j']? = some u' → blockOf u = some b → blockOf u' = some b → ¬ I b → j = j') :
  Tr L I σ st w I (upd σ i ⟨⟨.slice A zs.length c, t.size⟩, innFrom t cs zs.length⟩) ⟨(st.kill i).tmps, (st.kill i).heap.put i (.arr true true t zs)⟩ w2 := by
 have hlive : ∀ b, ow.has b → Live σ st.heap b := fun b hb => ⟨i, _, ow, hg, rfl, hs, hb⟩
 have hI : ∀ b, I b → w2.heap[b]? = w.heap[b]? := fun b hb => hm.block b (h.lt b hb) (fun hx => (h.own b (hlive b (.inl (hS b hx)))).1 hb)
 have hin : ∀ p k H b, innFrom t cs zs.length p k = some H → blockOf H.v = some b → w2.heap[b]? = w.heap[b]? := fun p k H b h1 h2 => by
  obtain ⟨_, _, q3, _, q5⟩ := hb1 p k H b h1 h2
  exact hm.block b q3 (fun hx => q5 (hS b hx))
 refine Tr.change h hl (killF i) hg (fun _ h => h) (fun _ h => .inl h) (fun v u hv => killF_ok i (fun j hj => upd_other _ hj) v u hv) hm (fun b hb => ⟨hl b (hlive b (.inl (hS b hb))), (h.own b (hlive b (.inl (hS b hb)))).1, h.not_other hg rfl hs (.inl (hS b hb))⟩) (fun _ b hb => ?_)
  ⟨rfl, fun h => (by cases h), ⟨fun p k H b hpk hbk' ho => ?_, fun p k H p' k' H' b hp hp' hb hb' => ?_⟩, cs, harr, fun p hp => ?_⟩ (fun _ h => by cases h)
 ·rcases hb with hb | ⟨p, k, H, hp, hb⟩
  ·rcases hbk b hb with q | ⟨q1, q2⟩
   ·exact ⟨hl b (hlive b (.inl q)), (h.own b (hlive b (.inl q))).1, Nat.lt_of_lt_of_le (h.own b (hlive b (.inl q))).2 hm.size, h.not_other hg rfl hs (.inl q)⟩
   ·refine ⟨hnew b q1, fun hi => by have := h.lt b hi; omega, q2, fun hx => ?_⟩
    obtain ⟨_, o', ow', _, k1, k2, k3, k4⟩ := hx.bury
    have := (h.own b ⟨_, o', ow', k1, k2, k3, k4⟩).2
    omega
  ·obtain ⟨q1, q2, q3, q4, _⟩ := hb1 p k H b hp hb
   exact ⟨q1, q2, Nat.lt_of_lt_of_le q3 hm.size, q4⟩
 ·obtain ⟨_, _, q3, _, q5⟩ := hb1 p k H b hpk hbk'
  rcases hbk b ho with q | ⟨q, _⟩
  ·exact q5 q
  ·omega
 ·obtain ⟨p1, p2, p3⟩ := innFrom_val harr.1 hp
  obtain ⟨p1', p2', p3'⟩ := innFrom_val harr.1 hp'
  exact pos_inj p2 p2' (hb2 _ _ _ _ b p3 p3' hb hb' (hb1 p k H b hp hb).2.1)
 ·simp only [EltR, if_true]
  have hx' : EX I w2 t (zs.get ⟨p, hp⟩) (chunk t.size cs p) := EX.mono (fun _ h => h) hI (fun k H b hk hbk => hin p k H b (by simp only [innFrom, if_pos hp]; exact hk) hbk) (hr p hp)
  exact EX.er t 0 _ _ (fun k H hk => by rw [Nat.zero_add]; simp only [innFrom, if_pos hp]; exact hk) hx'

theorem Tr.appendDeep (h : HR I σ w st.heap) (hl : ∀ b, Live σ st.heap b → L b) (hnew : ∀ b, w.heap.size ≤ b → L b) {T T2 e : Nat} {ti : TypeInfo} {z : Value} {t : Ty} (hA : AppT P T T2 e ti z t.size) (hzs : z.cells.size = t.size) {ty : Nat} {id : Nat} (hid : id < lentFrom)
  {s y v : AV} {us uy : Value} (hs : VR I σ w s us) (hy : VR I σ w y uy) (ha : appendDeep st id t ti.bytes s y = some (v, st')) :
  ∃ u w' σ', (Builtin.append_ #[T, T2] ty #[us, uy]).run P w = .ok u w' ∧ Tr L I σ st w I σ' st' w' ∧ VR I σ' w' v u := by
 unfold Go.Q.appendDeep at ha
 split at ha
 ·rename_i j
  split at ha
  ·rename_i mj tj ysj hgj
   simp only [Option.bind_eq_some_iff] at ha
   obtain ⟨ys, k1, ha⟩ := ha
   have e1 := asDen_some k1
   cases e1
   obtain ⟨owj, csj, hsj, hij, hDj⟩ := h.deep hgj
   have huy : uy = owj.h.v := by
    obtain ⟨H, A, n, cap, q1, q2, rfl⟩ := hy
    simp only [hdrOf, hsj, Option.map_some, Option.some.injEq] at q1
    subst q1; exact q2.symm
   subst huy
   have hgot := hDj.arr.src.got (P := P)
   have t1 := Tr.gone (L := L) [j] h hl (fun id' hid => by simp only [List.mem_singleton] at hid; subst hid; exact ⟨_, hgj⟩)
   have hlj : ∀ b, owj.has b → Live σ st.heap b := fun b hb => ⟨j, _, owj, hgj, rfl, hsj, hb⟩
   have hnj : ∀ b, owj.has b → ¬ Live σ (St.gone st [j]).heap b := fun b hb hx => by
    obtain ⟨i3, o3, ow3, s0, s1, s2, s3, s4⟩ := gone_live [j] hx
    exact h.dist i3 j o3 _ ow3 owj b (fun e => s0 (by rw [e]; simp)) s1 hgj s2 rfl s3 hsj s4 hb
   have hinj : ∀ p k H b, innFrom t csj ys.length p k = some H → blockOf H.v = some b → owj.has b ∧ owj.inn p k = some H := fun p k H b hp hb => by
    simp only [innFrom] at hp
    split at hp
    ·rename_i hpl
     have := hDj.inn p hpl k H hp
     exact ⟨.inr ⟨p, k, H, this, hb⟩, this⟩
    ·cases hp
   have hposj : ∀ (p p' : Nat) (u u' : Value) (b : Nat), csj[p]? = some u → csj[p']? = some u' → blockOf u = some b → blockOf u' = some b → ¬ I b → p = p' := fun p p' u u' b hp hp' hb hb' hI => by
    obtain ⟨i1, k1, H1, _, _, e1, q1, q1'⟩ := hDj.pos hp hb hI
    obtain ⟨i2, k2, H2, _, _, e2, q2, q2'⟩ := hDj.pos hp' hb' hI
    subst q1'; subst q2'
    obtain ⟨r1, r2⟩ := hij.one i1 k1 H1 i2 k2 H2 b q1 q2 hb hb'
    rw [e1, e2, r1, r2]
   have fromNothing : ∀ (A : Option Addr), us = .slice A 0 0 → roomFor ys.length ti.bytes = true → ∃ u w' σ', (Builtin.append_ #[T, T2] ty #[us, owj.h.v]).run P w = .ok u w' ∧ Tr L I σ st w I σ' ((St.gone st [j]).alloc id (.arr true true t ys)) w' ∧ VR I σ' w' (.os (.t id)) u := by
    rintro A rfl hb
    by_cases h0 : ys = []
    ·subst h0
     have hrun := mach_append_in (w' := w) (ty := ty) hA hgot (base := A) (n := 0) (c := 0) (by simp) (by
      have : csj = [] := List.eq_nil_of_length_eq_zero (by rw [hDj.arr.1]; simp)
      subst this; cases A <;> simp [StoredAt, storeCells])
     refine ⟨_, w, _, hrun, t1.trans (Tr.alloc t1.hr t1.live (ow := ⟨⟨.slice A 0 0, t.size⟩, fun _ _ => none⟩) hid (Moved.refl _ w) (fun b hb => ?_) ⟨rfl, fun _ _ _ => rfl, ⟨fun _ _ _ _ h => (by cases h), fun _ _ _ _ _ _ _ h => (by cases h)⟩, [], ⟨by simp, .inl ⟨A, rfl, rfl⟩⟩, fun i hi => by simp at hi⟩), _, A, 0, 0, by simp only [hdrOf, upd_same, Option.map_some]; rfl, rfl, rfl⟩
     rcases hb with hb | ⟨_, _, _, hb, _⟩
     ·cases A <;> simp [blockOf] at hb
     ·cases hb
    ·have hpos : 0 < ys.length := List.length_pos_iff.2 h0
     have hO : Got P w (.slice A 0 0) 0 t.size [] := Src.got ⟨A, 0, rfl, Nat.le_refl _, by simp, .inl rfl⟩
     obtain ⟨cap, rest, q1, q2, q3⟩ := mach_append_out (ty := ty) hA hzs hO hgot (A := A) (c := 0) rfl (by omega) (by rw [Nat.zero_add]; exact hb)
     simp only [Nat.zero_add, List.nil_append] at q1 q2 q3
     obtain ⟨σ', k1, k2⟩ := Tr.allocDeep t1.hr t1.live hnew hid (t := t) (xs := ys) (cs := csj) (rest := rest) (cap := cap) (e := e) (moved_grown w _) (alloc_new w.drew _) hDj.arr.1 hDj.ex q2 (by omega) true
      (fun p k H b hp hb => by obtain ⟨r1, _⟩ := hinj p k H b hp hb; exact ⟨hl b (hlj b r1), (h.own b (hlj b r1)).1, (h.own b (hlj b r1)).2, hnj b r1⟩) hposj
     exact ⟨_, _, σ', q1, t1.trans k1, k2⟩
   split at ha
   ·split at ha
    ·rename_i hb; cases ha; exact fromNothing none hs hb
    ·cases ha
   ·split at ha
    ·rename_i hb; cases ha; obtain ⟨A, hA'⟩ := hs; exact fromNothing A hA' hb
    ·cases ha
   ·rename_i i
    split at ha
    ·rename_i mi ti' xsi hgi
     split at ha
     ·cases ha
     ·rename_i hne
      simp only [Option.bind_eq_some_iff] at ha
      obtain ⟨xs, k2, ha⟩ := ha
      have e2 := asDen_some k2
      cases e2
      split at ha
      ·rename_i hb
       cases ha
       obtain ⟨owi, csi, hsi, hii, hDi⟩ := h.deep hgi
       have hus : us = owi.h.v := by
        obtain ⟨H, A, n, cap, q1, q2, rfl⟩ := hs
        simp only [hdrOf, hsi, Option.map_some, Option.some.injEq] at q1
        subst q1; exact q2.symm
       subst hus
       have hg1 := gone_arr [j] (by simpa using hne) hgi
       have hli : ∀ b, owi.has b → Live σ st.heap b := fun b hb => ⟨i, _, owi, hgi, rfl, hsi, hb⟩
       have hni : ∀ b, owi.has b → ¬ Live σ ((St.gone st [j]).heap.put i .dead) b := fun b hb => t1.hr.not_other hg1 rfl hsi hb
       have hnj' : ∀ b, owj.has b → ¬ Live σ ((St.gone st [j]).heap.put i .dead) b := fun b hb hx => by
        obtain ⟨i3, o3, ow3, _, s1, s2, s3, s4⟩ := hx.bury
        exact hnj b hb ⟨i3, o3, ow3, s1, s2, s3, s4⟩
       have hcross : ∀ b, owi.has b → owj.has b → False := fun b hb hb' => h.dist i j _ _ owi owj b hne hgi hgj rfl rfl hsi hsj hb hb'
       have hlen : (xs ++ ys).length = xs.length + ys.length := List.length_append
       have hex : ∀ (p : Nat) (hp : p < (xs ++ ys).length), EX I w t ((xs ++ ys).get ⟨p, hp⟩) (chunk t.size (csi ++ csj) p) := by
        intro p hp
        by_cases hx : p < xs.length
        ·rw [chunk_left hDi.arr.1 hx]
         have : (xs ++ ys).get ⟨p, hp⟩ = xs.get ⟨p, hx⟩ := by simp [List.getElem_append_left hx]
         rw [this]; exact hDi.ex p hx
        ·have hyp : p - xs.length < ys.length := by rw [hlen] at hp; omega
         have := chunk_right (sz := t.size) (cs := csi) (ds := csj) (n := xs.length) hDi.arr.1 (p - xs.length)
         rw [show xs.length + (p - xs.length) = p from by omega] at this
         rw [this]
         have : (xs ++ ys).get ⟨p, hp⟩ = ys.get ⟨p - xs.length, hyp⟩ := by simp [List.getElem_append_right (show xs.length ≤ p by omega)]
         rw [this]; exact hDj.ex _ hyp
       have hin : ∀ p k H b, innFrom t (csi ++ csj) (xs ++ ys).length p k = some H → blockOf H.v = some b → (owi.inn p k = some H ∧ owi.has b) ∨ owj.has b := by
        intro p k H b hp hbk
        simp only [innFrom] at hp
        split at hp
        ·rename_i hpl
         by_cases hx : p < xs.length
         ·rw [chunk_left hDi.arr.1 hx] at hp
          have := hDi.inn p hx k H hp
          exact .inl ⟨this, .inr ⟨p, k, H, this, hbk⟩⟩
         ·have hyp : p - xs.length < ys.length := by rw [hlen] at hpl; omega
          have h3 := chunk_right (sz := t.size) (cs := csi) (ds := csj) (n := xs.length) hDi.arr.1 (p - xs.length)
          rw [show xs.length + (p - xs.length) = p from by omega] at h3
          rw [h3] at hp
          have := hDj.inn _ hyp k H hp
          exact .inr (.inr ⟨_, k, H, this, hbk⟩)
        ·cases hp
       have hb1 : ∀ (p k : Nat) (H : Hdr) (b : Nat), innFrom t (csi ++ csj) (xs ++ ys).length p k = some H → blockOf H.v = some b → L b ∧ ¬ I b ∧ b < w.heap.size ∧ ¬ Live σ ((St.gone st [j]).heap.put i .dead) b ∧ blockOf owi.h.v ≠ some b := by
        intro p k H b hp hbk
        rcases hin p k H b hp hbk with ⟨q1, q2⟩ | q
        ·exact ⟨hl b (hli b q2), (h.own b (hli b q2)).1, (h.own b (hli b q2)).2, hni b q2, hii.out p k H b q1 hbk⟩
        ·exact ⟨hl b (hlj b q), (h.own b (hlj b q)).1, (h.own b (hlj b q)).2, hnj' b q, fun hx => hcross b (.inl hx) q⟩
       have hb2 : ∀ (p p' : Nat) (u u' : Value) (b : Nat), (csi ++ csj)[p]? = some u → (csi ++ csj)[p']? = some u' → blockOf u = some b → blockOf u' = some b → ¬ I b → p = p' := by
        have cls : ∀ (p : Nat) (u : Value) (b : Nat), (csi ++ csj)[p]? = some u → blockOf u = some b → ¬ I b → (owi.has b ∧ csi[p]? = some u) ∨ (owj.has b ∧ csi.length ≤ p ∧ csj[p - csi.length]? = some u) := by
         intro p u b hp hbk hI
         by_cases hx : p < csi.length
         ·rw [List.getElem?_append_left hx] at hp
          obtain ⟨i1, k1, H1, _, _, _, q1, q1'⟩ := hDi.pos hp hbk hI
          subst q1'
          exact .inl ⟨.inr ⟨i1, k1, H1, q1, hbk⟩, hp⟩
         ·rw [List.getElem?_append_right (by omega)] at hp
          obtain ⟨i1, k1, H1, _, _, _, q1, q1'⟩ := hDj.pos hp hbk hI
          subst q1'
          exact .inr ⟨.inr ⟨i1, k1, H1, q1, hbk⟩, by omega, hp⟩
        intro p p' u u' b hp hp' hbk hbk' hI
        rcases cls p u b hp hbk hI with ⟨a1, a2⟩ | ⟨a1, a0, a2⟩
        ·rcases cls p' u' b hp' hbk' hI with ⟨b1, b2⟩ | ⟨b1, b0, b2⟩
         ·obtain ⟨i1, k1, H1, _, _, e1, q1, q1'⟩ := hDi.pos a2 hbk hI
          obtain ⟨i2, k2, H2, _, _, e2, q2, q2'⟩ := hDi.pos b2 hbk' hI
          subst q1'; subst q2'
          obtain ⟨r1, r2⟩ := hii.one i1 k1 H1 i2 k2 H2 b q1 q2 hbk hbk'
          rw [e1, e2, r1, r2]
         ·exact (hcross b a1 b1).elim
        ·rcases cls p' u' b hp' hbk' hI with ⟨b1, b2⟩ | ⟨b1, b0, b2⟩
         ·exact (hcross b b1 a1).elim
         ·have := hposj _ _ u u' b a2 b2 hbk hbk' hI
          omega
       have hone : ∀ u ∈ csj, u.oneCell' = true := fun u hu => by
        obtain ⟨p, hp, hc⟩ := mem_chunk hDj.arr.1 hu
        exact EX.one t _ _ (hDj.ex p hp) u hc
       have mkVR : ∀ (w2 : World) (A : Option Addr) (n c : Nat) (inn : Nat → Nat → Option Hdr), VR I (upd σ i ⟨⟨.slice A n c, t.size⟩, inn⟩) w2 (.os (.t i)) (.slice A n c) := fun w2 A n c inn => ⟨_, A, n, c, by simp only [hdrOf, upd_same, Option.map_some]; rfl, rfl, rfl⟩
       obtain ⟨A, c, hus, hc⟩ := hDi.arr.slice
       have hcl : csi.length + csj.length = (xs.length + ys.length) * t.size := by rw [hDi.arr.1, hDj.arr.1, Nat.add_mul]
       by_cases hroom : xs.length + ys.length ≤ c
       ·rcases hDi.arr.2 with ⟨A1, e1, h0⟩ | ⟨b, o, cap, cells, eb, e1, h2, h3, h4, h5⟩
        ·rw [hus] at e1
         simp only [Value.slice.injEq] at e1
         obtain ⟨rfl, _, rfl⟩ := e1
         have hy0 : ys = [] := List.eq_nil_of_length_eq_zero (by omega)
         have hx0 : xs = [] := List.eq_nil_of_length_eq_zero (by omega)
         subst hy0; subst hx0
         have hn0 : csj = [] := List.eq_nil_of_length_eq_zero (by rw [hDj.arr.1]; simp)
         have ho0 : csi = [] := List.eq_nil_of_length_eq_zero (by rw [hDi.arr.1]; simp)
         subst hn0; subst ho0
         rw [hus]
         have hrun := mach_append_in (w' := w) (ty := ty) hA hgot (base := A) (n := 0) (c := 0) (by simp) (by cases A <;> simp [StoredAt, storeCells])
         refine ⟨_, w, _, hrun, t1.trans (Tr.deepen t1.hr t1.live hnew hg1 hsi ([] : List t.Den) (cs := []) (A := A) (c := 0) (S := fun _ => False) (Moved.refl _ w) (fun _ h => h.elim) (fun b hb => by cases A <;> simp [blockOf] at hb) ⟨by simp, .inl ⟨A, rfl, rfl⟩⟩ (fun p hp => by simp at hp) (fun p k H b hp _ => by simp [innFrom] at hp) (fun p p' u u' b hp => by simp at hp)), mkVR _ _ _ _ _⟩
        ·rw [hus] at e1
         simp only [Value.slice.injEq] at e1
         obtain ⟨rfl, _, rfl⟩ := e1
         by_cases hc0 : c = 0
         ·subst hc0
          have hy0 : ys = [] := List.eq_nil_of_length_eq_zero (by omega)
          have hx0 : xs = [] := List.eq_nil_of_length_eq_zero (by omega)
          subst hy0; subst hx0
          have hn0 : csj = [] := List.eq_nil_of_length_eq_zero (by rw [hDj.arr.1]; simp)
          have ho0 : csi = [] := List.eq_nil_of_length_eq_zero (by rw [hDi.arr.1]; simp)
          subst hn0; subst ho0
          rw [hus]
          have hrun := mach_append_in (w' := w) (ty := ty) hA hgot (base := some ⟨b, o, none⟩) (n := 0) (c := 0) (by simp) (by simp [StoredAt, storeCells])
          refine ⟨_, w, _, hrun, t1.trans (Tr.deepen t1.hr t1.live hnew hg1 hsi ([] : List t.Den) (cs := []) (A := some ⟨b, o, none⟩) (c := 0) (S := fun _ => False) (Moved.refl _ w) (fun _ h => h.elim) (fun b hb => by simp [blockOf] at hb) ⟨by simp, .inl ⟨_, rfl, rfl⟩⟩ (fun p hp => by simp at hp) (fun p k H b hp _ => by simp [innFrom] at hp) (fun p p' u u' b hp => by simp at hp)), mkVR _ _ _ _ _⟩
         ·obtain ⟨w2, q1, q2, q3⟩ := Arr.grow (P := P) h2 h3 h5 hDi.arr.1 hroom (by omega) hDj.arr.1 hone
          have hrun := mach_append_in (w' := w2) (ty := ty) hA hgot (base := some ⟨b, o, none⟩) (n := xs.length) (c := c) hroom (by simp only [StoredAt, add_none]; exact q1)
          have hbk : blockOf owi.h.v = some b := by rw [hus]; simp [blockOf, hc0]
          rw [hus]
          have q3' : Arr w2 (.slice (some ⟨b, o, none⟩) (xs ++ ys).length c) (xs ++ ys).length t.size (csi ++ csj) := by rw [hlen]; exact q3
          have t2 := Tr.deepen t1.hr t1.live hnew hg1 hsi (xs ++ ys) (S := fun k => k = b) q2 (fun k hk => by subst hk; exact hbk) (fun k hk => .inl (by obtain ⟨a, e, e2, _⟩ := blockOf_slice hk; cases e; subst e2; exact hbk)) q3' hex hb1 hb2
          rw [hlen] at t2
          exact ⟨_, w2, _, hrun, t1.trans t2, mkVR _ _ _ _ _⟩
       ·obtain ⟨cap, rest, q1, q2, q3⟩ := mach_append_out (ty := ty) hA hzs hDi.arr.src.got hgot (A := A) (c := c) hus (by omega) hb
        have harr : Arr (w.drew.alloc (.cells ((csi ++ csj) ++ rest).toArray e)) (.slice (some ⟨w.heap.size, 0, none⟩) (xs ++ ys).length cap) (xs ++ ys).length t.size (csi ++ csj) := by
         rw [hlen]
         exact Arr.new (rest := rest) (alloc_new w.drew _) (by rw [List.length_append]; exact hcl) q2 (by omega)
        have t2 := Tr.deepen t1.hr t1.live hnew hg1 hsi (xs ++ ys) (S := fun _ => False) (moved_grown w _) (fun _ h => h.elim) (fun k hk => .inr (by
         obtain ⟨a, e, e2, _⟩ := blockOf_slice hk
         cases e; subst e2
         exact ⟨Nat.le_refl _, (Array.getElem?_eq_some_iff.1 (alloc_new w.drew _)).1⟩)) harr hex hb1 hb2
        rw [hlen] at t2
        exact ⟨_, _, _, q1, t1.trans t2, mkVR _ _ _ _ _⟩
      ·cases ha
    ·cases ha
   ·cases ha
  ·cases ha
 ·cases ha

theorem freezeInOf_ok (h : HR I σ w st.heap) (hl : ∀ b, Live σ st.heap b → L b) (v : AV) : ∃ I' σ', Tr L I σ st w I' σ' (freezeInOf st v) w ∧ ∀ x u, VR I σ w x u → VR I' σ' w (frozenInOf st v x) u := by
 have key : ∀ id, ∃ I' σ', Tr L I σ st w I' σ' (st.freezeIn id) w ∧ ∀ x u, VR I σ w x u → VR I' σ' w (x.mapR (frozenInF st.heap id)) u := fun id => by
  obtain ⟨I', σ', t, hf, _⟩ := Tr.freezeIn (L := L) h hl id
  exact ⟨I', σ', t, fun x u hx => VR.map t.sub (fun _ _ => rfl) _ hf x u hx⟩
 cases v with
 | os p => exact key p.id
 | sub p a n => exact key p.id
 | _ => exact ⟨I, σ, Tr.refl h hl, fun _ _ h => h⟩

theorem Tr.append (h : HR I σ w st.heap) (hl : ∀ b, Live σ st.heap b → L b) (hnew : ∀ b, w.heap.size ≤ b → L b) (hE : TabOK P E) {id T T2 ty : Nat} (hid : id < lentFrom) {s y v : AV} {us uy : Value} (hs : VR I σ w s us) (hy : VR I σ w y uy) (ha : Go.Q.append E st id T T2 s y = some (v, st')) :
  ∃ u w' I' σ', (Builtin.append_ #[T, T2] ty #[us, uy]).run P w = .ok u w' ∧ Tr L I σ st w I' σ' st' w' ∧ VR I' σ' w' v u := by
 simp only [Go.Q.append, Option.bind_eq_some_iff] at ha
 obtain ⟨ti, h1, ti2, h2, ha⟩ := ha
 have hd := (hE.tab T ti h1).desc
 have hd2 := (hE.tab T2 ti2 h2).desc
 cases hdd : ti.desc <;> simp only [hdd] at ha hd
 case slice e =>
  cases hdd2 : ti2.desc <;> simp only [hdd2] at ha hd2
  case slice e2 =>
   simp only [Option.bind_eq_some_iff] at ha
   obtain ⟨te, h3, t, h4, ha⟩ := ha
   obtain ⟨ie, z, i1, i2, i3, i4, i5, _⟩ := hE.ty e t h4
   obtain ⟨ie', j1, j2, j3, _⟩ := (hE.tab e te h3).info
   rw [i1] at j1; cases j1
   have hA : AppT P T T2 e ie z t.size := ⟨hd, .inl ⟨e2, hd2⟩, i1, i2, i3⟩
   rw [← j3] at ha
   split at ha
   ·split at ha
    ·rename_i r hr
     cases ha
     obtain ⟨u, w', σ', k1, k2, k3⟩ := Tr.appendDeep h hl hnew hA i4 (ty := ty) hid hs hy hr
     exact ⟨u, w', I, σ', k1, k2, k3⟩
    ·obtain ⟨I1, σ1, t1, f1⟩ := freezeInOf_ok (L := L) h hl s
     obtain ⟨I2, σ2, t2, f2⟩ := freezeInOf_ok (L := L) t1.hr t1.live (frozenInOf st s y)
     simp only [Option.bind_eq_some_iff] at ha
     obtain ⟨ys, k1, k2⟩ := ha
     obtain ⟨news, m1, m2⟩ := t2.hr.listOf (f2 _ _ (f1 _ _ hy)) k1
     obtain ⟨u, w', σ', q1, q2, q3⟩ := Tr.appendTo t2.hr t2.live hnew hA i4 (ty := ty) hid (f2 _ _ (f1 _ _ hs)) m1.got m2 k2
     exact ⟨u, w', I2, σ', q1, (t1.trans t2).trans q2, q3⟩
   ·simp only [Option.bind_eq_some_iff] at ha
    obtain ⟨ys, k1, k2⟩ := ha
    obtain ⟨news, m1, m2⟩ := h.listOf hy k1
    obtain ⟨u, w', σ', q1, q2, q3⟩ := Tr.appendTo h hl hnew hA i4 (ty := ty) hid hs m1.got m2 k2
    exact ⟨u, w', I, σ', q1, q2, q3⟩
  case str =>
   simp only [Option.bind_eq_some_iff] at ha
   obtain ⟨te, h3, t, h4, ha⟩ := ha
   split at ha
   ·rename_i b
    obtain ⟨ie, z, i1, i2, i3, i4, i5, _⟩ := hE.ty e _ h4
    obtain ⟨ie', j1, j2, j3, _⟩ := (hE.tab e te h3).info
    rw [i1] at j1; cases j1
    have hA : AppT P T T2 e ie z (Ty.int .u8).size := ⟨hd, .inr hd2, i1, i2, i3⟩
    rw [← j3] at ha
    have e1 := VR.str hy
    subst e1
    obtain ⟨u, w', σ', q1, q2, q3⟩ := Tr.appendTo h hl hnew hA i4 (ty := ty) hid hs (bytes_got b) (fun j hj => by
     show chunk 1 ((bytesL b).map (Value.int .u8)) j = [Value.int .u8 ((bytesL b).get ⟨j, hj⟩)]
     simp only [chunk, Nat.mul_one]
     rw [List.drop_eq_getElem_cons (by simpa using hj)]
     simp) ha
    exact ⟨u, w', I, σ', q1, q2, q3⟩
   ·cases ha
  all_goals cases ha
 all_goals cases ha

theorem Tr.copyWin (h : HR I σ w st.heap) (hl : ∀ b, Live σ st.heap b → L b) {p : Pl} {t : Ty} {xs : List t.Den} (hd : st.heap.deepAt p = false ∨ t.refs = false) (hpla : st.heap.arrAt p = some (.d (.slice t) xs)) {a n : Nat} {base : Option Addr} {c : Nat} (hu : VR I σ w (.sub p a n) (.slice base n c))
  {ys : List t.Den} {news : List Value} (hnl : news.length = ys.length * t.size) (hyr : ∀ (j : Nat) (hj : j < ys.length), DR I w t (ys.get ⟨j, hj⟩) (chunk t.size news j)) {h' : Heap} (hset : st.heap.setAt t (copyIn xs ys a n) p = some h') :
  ∃ w2, StoredAt P base 0 (news.take (min ys.length n * t.size)) w w2 ∧ Tr L I σ st w I σ ⟨st.tmps, h'⟩ w2 := by
 obtain ⟨t', xs', H, cs, e0, hpl⟩ := h.place hpla
 cases e0
 obtain ⟨H', A, len, cap, g1, g2, g3, A', e1, g4, g5, g6⟩ := hu
 rw [hpl.hdr] at g1; cases g1
 cases e1
 obtain ⟨A1, cap1, e3, hcap⟩ := hpl.arr.slice
 rw [g2] at e3; cases e3
 have hyl : (ys.take n).length = min ys.length n := by rw [List.length_take, Nat.min_comm]
 have hmul : min ys.length n * t.size ≤ ys.length * t.size := Nat.mul_le_mul_right _ (Nat.min_le_left _ _)
 have hfit : a + (ys.take n).length ≤ xs.length := by rw [hyl]; omega
 have hnl' : (news.take (min ys.length n * t.size)).length = (ys.take n).length * t.size := by rw [List.length_take, hyl]; omega
 obtain ⟨w2, q1, q2, q3⟩ := Tr.putRows (P := P) h hl hpla hpl hd hfit hnl' (fun j hj => by
  rw [hyl] at hj
  have hj1 : j < ys.length := by omega
  have e : (ys.take n).get ⟨j, by rw [hyl]; exact hj⟩ = ys.get ⟨j, hj1⟩ := by simp
  rw [e]
  have := chunk_part (sz := t.size) (cs := news) (p := 0) (m := min ys.length n) hj
  rw [Nat.zero_mul, List.drop_zero, Nat.zero_add] at this
  rw [this]; exact hyr j hj1) hset
 refine ⟨w2, ?_, q3⟩
 rcases q1 with ⟨q1, rfl⟩ | ⟨b, ob, cap', e4, q1⟩
 ·rw [q1]; cases base <;> simp [StoredAt, storeCells]
 ·rw [g2] at e4; cases e4
  by_cases h0 : news.take (min ys.length n * t.size) = []
  ·rw [h0] at q1 ⊢
   simp only [storeCells, Sem.run_pure] at q1
   cases q1
   cases base <;> simp [StoredAt, storeCells]
  ·have hlt : a < cap := by
    have : (ys.take n).length ≠ 0 := fun hz => h0 (List.eq_nil_of_length_eq_zero (by rw [hnl', hz]; simp))
    omega
   have := g4 b ob rfl hlt
   subst this
   simp only [StoredAt, add_none, Nat.add_zero]
   rw [hpl.sz]
   exact q1

theorem listOf_os {hp : Heap} {t : Ty} {p : Pl} {xs : List t.Den} (h : Go.Q.listOf hp t (.os p) = some xs) : hp.arrAt p = some (.d (.slice t) xs) ∧ (hp.deepAt p = false ∨ t.refs = false) := by
 simp only [Go.Q.listOf] at h
 split at h
 ·cases h
 ·rename_i hd
  rw [Option.bind_eq_some_iff] at h
  obtain ⟨v, ha, hl⟩ := h
  have := asDen_some hl
  subst this
  exact ⟨ha, by cases hdd : hp.deepAt p <;> simp_all⟩

theorem LR.whole (h : HR I σ w st.heap) {p : Pl} {t : Ty} {xs : List t.Den} (hpla : st.heap.arrAt p = some (.d (.slice t) xs)) {u : Value} (hu : VR I σ w (.os p) u) : ∃ A c, u = .slice A xs.length c ∧ VR I σ w (.sub p 0 xs.length) (.slice A xs.length c) := by
 obtain ⟨t', xs', H, cs, e0, hpl⟩ := h.place hpla
 cases e0
 have := hpl.os hu
 subst this
 obtain ⟨A, cap, e, hc⟩ := hpl.arr.slice
 refine ⟨A, cap, e, H, A, xs.length, cap, hpl.hdr, e, by omega, A, by simp, fun b o hb _ => by rw [hb]; simp, fun b o hb => ⟨o, hb⟩, fun hA => hA⟩

theorem Tr.copyTo (h : HR I σ w st.heap) (hl : ∀ b, Live σ st.heap b → L b) {T T2 e : Nat} {t : Ty} {ie : TypeInfo} (hT : P.underlying T = some (.slice e)) (hi : P.info? e = some ie) (hsz : ie.size = t.size) {ty : Nat}
  {x v : AV} {ux uy : Value} (hx : VR I σ w x ux) {ys : List t.Den} {news : List Value} (hy : Got P w uy ys.length t.size news) (hyr : ∀ (j : Nat) (hj : j < ys.length), DR I w t (ys.get ⟨j, hj⟩) (chunk t.size news j)) (ha : copyTo st t ys x = some (v, st')) :
  ∃ u w', (Builtin.copy_ #[T, T2] ty #[ux, uy]).run P w = .ok u w' ∧ Tr L I σ st w I σ st' w' ∧ VR I σ w' v u := by
 have win : ∀ {p : Pl} {xs : List t.Den} {a n : Nat} {base : Option Addr} {c : Nat} {h' : Heap}, st.heap.arrAt p = some (.d (.slice t) xs) → (st.heap.deepAt p = false ∨ t.refs = false) → VR I σ w (.sub p a n) (.slice base n c) → ux = .slice base n c → st.heap.setAt t (copyIn xs ys a n) p = some h' →
   ∃ u w', (Builtin.copy_ #[T, T2] ty #[ux, uy]).run P w = .ok u w' ∧ Tr L I σ st w I σ ⟨st.tmps, h'⟩ w' ∧ VR I σ w' (.d (.int .i64) ((min ys.length n : Nat) : Int)) u := by
  rintro p xs a n base c h' hpla hd hu rfl hset
  obtain ⟨w2, q1, q2⟩ := Tr.copyWin (P := P) h hl hd hpla hu hy.hl hyr hset
  have hf := hy.run w rfl (min ys.length n) (Nat.min_le_left _ _)
  have hlen := hy.len
  have hmin : Nat.min ys.length n = min ys.length n := rfl
  rw [← hsz] at hf q1
  refine ⟨_, w2, ?_, q2, rfl⟩
  cases base with
  | none => simp only [StoredAt] at q1; subst q1; simp [Builtin.copy_, run_under hT, sizeOf, typeInfo, hi, hlen, hmin, hf, goInt]
  | some ad => simp only [StoredAt, Addr.add, if_true] at q1; simp [Builtin.copy_, run_under hT, sizeOf, typeInfo, hi, hlen, hmin, hf, q1, goInt]
 have nothing : ∀ A, ux = .slice A 0 0 → ∃ u w', (Builtin.copy_ #[T, T2] ty #[ux, uy]).run P w = .ok u w' ∧ Tr L I σ st w I σ st w' ∧ VR I σ w' (.d (.int .i64) (0 : Int)) u := by
  rintro A rfl
  have hf := hy.run w rfl 0 (Nat.zero_le _)
  have hlen := hy.len
  have hmin : Nat.min ys.length 0 = 0 := Nat.min_zero _
  rw [← hsz] at hf
  simp only [Nat.zero_mul, List.take_zero] at hf
  refine ⟨_, w, ?_, Tr.refl h hl, rfl⟩
  cases A <;> simp [Builtin.copy_, run_under hT, sizeOf, typeInfo, hi, hlen, hmin, hf, goInt, storeCells]
 unfold Go.Q.copyTo at ha
 split at ha
 ·cases ha; exact nothing none hx
 ·cases ha; obtain ⟨A, hA⟩ := hx; exact nothing A hA
 ·rename_i p
  split at ha
  ·cases ha
  ·simp only [Option.bind_eq_some_iff, Option.map_eq_some_iff, Prod.mk.injEq] at ha
   obtain ⟨xs, k1, h', k2, rfl, rfl⟩ := ha
   obtain ⟨m1, m2⟩ := listOf_os k1
   obtain ⟨A, c, e, hv⟩ := LR.whole h m1 hx
   exact win m1 m2 hv e k2
 ·rename_i p a n
  split at ha
  ·cases ha
  ·simp only [Option.bind_eq_some_iff, Option.map_eq_some_iff, Prod.mk.injEq] at ha
   obtain ⟨xs, k1, h', k2, rfl, rfl⟩ := ha
   obtain ⟨m1, m2⟩ := listOf_os k1
   obtain ⟨A', e⟩ : ∃ A' , ∃ c, ux = .slice A' n c := by obtain ⟨H, A, len, cap, _, _, _, A', e, _⟩ := hx; exact ⟨A', _, e⟩
   obtain ⟨c, e⟩ := e
   subst e
   exact win m1 m2 hx rfl k2
 ·cases ha

theorem Tr.copy (h : HR I σ w st.heap) (hl : ∀ b, Live σ st.heap b → L b) (hE : TabOK P E) {T T2 ty : Nat} {x y v : AV} {ux uy : Value} (hx : VR I σ w x ux) (hy : VR I σ w y uy) (ha : Go.Q.copy E st T T2 x y = some (v, st')) :
  ∃ u w', (Builtin.copy_ #[T, T2] ty #[ux, uy]).run P w = .ok u w' ∧ Tr L I σ st w I σ st' w' ∧ VR I σ w' v u := by
 simp only [Go.Q.copy, Option.bind_eq_some_iff] at ha
 obtain ⟨ti, h1, ti2, h2, ha⟩ := ha
 have hd := (hE.tab T ti h1).desc
 cases hdd : ti.desc <;> simp only [hdd] at ha hd
 case slice e =>
  cases hdd2 : ti2.desc <;> simp only [hdd2] at ha
  case slice e2 =>
   simp only [Option.bind_eq_some_iff] at ha
   obtain ⟨t, h4, ha⟩ := ha
   obtain ⟨ie, z, i1, i2, _⟩ := hE.ty e t h4
   split at ha
   ·cases ha
   ·simp only [Option.bind_eq_some_iff] at ha
    obtain ⟨ys, k1, k2⟩ := ha
    obtain ⟨news, m1, m2⟩ := h.listOf hy k1
    exact Tr.copyTo h hl hd i1 i2 hx m1.got m2 k2
  case str =>
   simp only [Option.bind_eq_some_iff] at ha
   obtain ⟨t, h4, ha⟩ := ha
   split at ha
   ·rename_i b
    obtain ⟨ie, z, i1, i2, _⟩ := hE.ty e _ h4
    have e1 := VR.str hy
    subst e1
    exact Tr.copyTo h hl hd i1 i2 hx (bytes_got b) (fun j hj => by
     show chunk 1 ((bytesL b).map (Value.int .u8)) j = [Value.int .u8 ((bytesL b).get ⟨j, hj⟩)]
     simp only [chunk, Nat.mul_one]
     rw [List.drop_eq_getElem_cons (by simpa using hj)]
     simp) ha
   ·cases ha
  all_goals cases ha
 all_goals cases ha

theorem zeroCells_eq (z : Array Value) (n : Nat) {sz : Nat} (hz : z.size = sz) : Builtin.zeroCells z n = madeCells z (n * sz) := by
 subst hz; rfl

theorem Tr.clear (h : HR I σ w st.heap) (hl : ∀ b, Live σ st.heap b → L b) (hE : TabOK P E) {T ty : Nat} {x v : AV} {ux : Value} (hx : VR I σ w x ux) (ha : Go.Q.clear E st T x = some (v, st')) :
  ∃ u w', (Builtin.clear_ #[T] ty #[ux]).run P w = .ok u w' ∧ Tr L I σ st w I σ st' w' ∧ VR I σ w' v u := by
 simp only [Go.Q.clear, Option.bind_eq_some_iff] at ha
 obtain ⟨ti, h1, ha⟩ := ha
 have hd := (hE.tab T ti h1).desc
 cases hdd : ti.desc <;> simp only [hdd] at ha hd
 case slice e =>
  simp only [Option.bind_eq_some_iff] at ha
  obtain ⟨t, h4, ha⟩ := ha
  obtain ⟨ie, z, i1, i2, i3, i4, i5, _⟩ := hE.ty e t h4
  have hv : ∀ w', VR I σ w' (.tuple []) (.tuple #[]) := fun w' => ⟨[], rfl, rfl⟩
  have win : ∀ {p : Pl} {xs : List t.Den} {a n : Nat} {base : Option Addr} {c : Nat} {h' : Heap}, st.heap.arrAt p = some (.d (.slice t) xs) → (st.heap.deepAt p = false ∨ t.refs = false) → VR I σ w (.sub p a n) (.slice base n c) → ux = .slice base n c → st.heap.setAt t (copyIn xs (List.replicate n t.zero) a n) p = some h' →
    ∃ u w', (Builtin.clear_ #[T] ty #[ux]).run P w = .ok u w' ∧ Tr L I σ st w I σ ⟨st.tmps, h'⟩ w' ∧ VR I σ w' (.tuple []) u := by
   rintro p xs a n base c h' hpla hd' hu rfl hset
   have hnl : ((madeCells z.cells (n * t.size)).toList).length = (List.replicate n t.zero).length * t.size := by simp [size_madeCells]
   obtain ⟨w2, q1, q2⟩ := Tr.copyWin (P := P) h hl hd' hpla hu (ys := List.replicate n t.zero) (news := (madeCells z.cells (n * t.size)).toList) hnl (fun j hj => by
    have hj' : j < n := by simpa using hj
    have hc := madeCells_chunk (n := n) (m := n) i4 hj' (Nat.le_refl _)
    rw [List.take_of_length_le (by simp [size_madeCells])] at hc
    rw [hc]
    have e : (List.replicate n t.zero).get ⟨j, hj⟩ = t.zero := by simp
    rw [e]; exact i5 I w) hset
   rw [List.length_replicate, Nat.min_self, List.take_of_length_le (by simp [size_madeCells])] at q1
   by_cases hn : n = 0
   ·subst hn
    have hw2 : w2 = w := by
     have : (madeCells z.cells (0 * t.size)).toList = [] := List.eq_nil_of_length_eq_zero (by simp [size_madeCells])
     rw [this] at q1
     cases base with
     | none => exact q1
     | some ad => simp only [StoredAt, storeCells, Sem.run_pure] at q1; cases q1; rfl
    subst hw2
    refine ⟨_, w2, ?_, q2, hv _⟩
    cases base <;> simp [Builtin.clear_, run_under hd]
   ·refine ⟨_, w2, ?_, q2, hv _⟩
    obtain ⟨m, rfl⟩ : ∃ m, n = m + 1 := ⟨n - 1, by omega⟩
    cases base with
    | none => simp only [StoredAt] at q1; subst q1; simp [Builtin.clear_, run_under hd]
    | some ad =>
     simp only [StoredAt, Addr.add, if_true] at q1
     simp [Builtin.clear_, run_under hd, zeroValue, typeInfo, i1, i3, zeroCells_eq z.cells (m + 1) i4, q1]
  have nothing : ∀ A, ux = .slice A 0 0 → ∃ u w', (Builtin.clear_ #[T] ty #[ux]).run P w = .ok u w' ∧ Tr L I σ st w I σ st w' ∧ VR I σ w' (.tuple []) u := by
   rintro A rfl
   refine ⟨_, w, ?_, Tr.refl h hl, hv _⟩
   cases A <;> simp [Builtin.clear_, run_under hd]
  split at ha
  ·cases ha; exact nothing none hx
  ·cases ha; obtain ⟨A, hA⟩ := hx; exact nothing A hA
  ·rename_i p
   split at ha
   ·cases ha
   ·simp only [Option.bind_eq_some_iff, Option.map_eq_some_iff, Prod.mk.injEq] at ha
    obtain ⟨xs, k1, h', k2, rfl, rfl⟩ := ha
    obtain ⟨m1, m2⟩ := listOf_os k1
    obtain ⟨A, c, e, hv⟩ := LR.whole h m1 hx
    exact win m1 m2 hv e k2
  ·rename_i p a n
   split at ha
   ·cases ha
   ·simp only [Option.bind_eq_some_iff, Option.map_eq_some_iff, Prod.mk.injEq] at ha
    obtain ⟨xs, k1, h', k2, rfl, rfl⟩ := ha
    obtain ⟨m1, m2⟩ := listOf_os k1
    obtain ⟨A', c, e⟩ : ∃ A' c, ux = .slice A' n c := by obtain ⟨H, A, len, cap, _, _, _, A', e, _⟩ := hx; exact ⟨A', _, e⟩
    subst e
    exact win m1 m2 hx rfl k2
  ·cases ha
 all_goals cases ha

end
end Go.Q
