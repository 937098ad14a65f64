/- An abstract interpreter of the translated code: new arrays. -/
import Derived.Test.YtbapbghnageckaaGreatGQStore
namespace Go.Q
set_option linter.unusedVariables false
set_option linter.unusedSimpArgs false
set_option linter.unusedSectionVars false
open Go
section
variable {P : Program} {E : Env} {L : Nat → Prop} {I I' J : Nat → Prop} {σ σ' : Nat → Option Own} {st st' : St} {w w' : World}

theorem chunk_succ (sz : Nat) (cs : List Value) (i : Nat) : chunk sz cs (i + 1) = chunk sz (cs.drop sz) i := by
 simp only [chunk, List.drop_drop]
 rw [Nat.add_mul, Nat.one_mul, Nat.add_comm]

theorem elems_DR {t : Ty} : ∀ (n : Nat) {cs : List AV} {us : List Value} {xs : List t.Den}, VRs I σ w cs us → us.length = n * t.size → elems t (groups t.size n cs) = some xs →
  xs.length = n ∧ ∀ (i : Nat) (h : i < xs.length), DR I w t (xs.get ⟨i, h⟩) (chunk t.size us i)
 | 0, cs, us, xs, _, _, h => by
  simp only [groups, elems, Option.some.injEq] at h
  subst h
  exact ⟨rfl, fun i hi => by simp at hi⟩
 | n + 1, cs, us, xs, hv, hl, h => by
  have hl' : us.length = n * t.size + t.size := by rw [hl, Nat.add_mul, Nat.one_mul]
  simp only [groups, elems, Option.bind_eq_some_iff] at h
  obtain ⟨⟨x, r⟩, h1, h2⟩ := h
  split at h2
  ·rename_i hr0
   have hr0 := isEmpty_nil hr0
   simp only at hr0
   subst hr0
   simp only [Option.map_eq_some_iff] at h2
   obtain ⟨xs', h3, rfl⟩ := h2
   obtain ⟨c1, c2, q1, q2, q3⟩ := VRs.unflat t (VRs.take t.size hv) h1
   have hc2 : c2 = [] := q3
   subst hc2
   rw [List.append_nil] at q1
   obtain ⟨k1, k2⟩ := elems_DR n (VRs.drop t.size hv) (by rw [List.length_drop]; omega) h3
   refine ⟨by simp [k1], fun i hi => ?_⟩
   cases i with
   | zero => simp only [chunk, Nat.zero_mul, List.drop_zero]; rw [q1]; exact q2
   | succ i => rw [chunk_succ]; exact k2 i (by simpa using hi)
  ·cases h2

theorem elems_EX {t : Ty} : ∀ (n : Nat) {cs : List AV} {us : List Value} {xs : List t.Den}, CX I w cs us → us.length = n * t.size → elems t (groups t.size n cs) = some xs →
  xs.length = n ∧ ∀ (i : Nat) (h : i < xs.length), EX I w t (xs.get ⟨i, h⟩) (chunk t.size us i)
 | 0, cs, us, xs, _, _, h => by
  simp only [groups, elems, Option.some.injEq] at h
  subst h
  exact ⟨rfl, fun i hi => by simp at hi⟩
 | n + 1, cs, us, xs, hv, hl, h => by
  have hl' : us.length = n * t.size + t.size := by rw [hl, Nat.add_mul, Nat.one_mul]
  simp only [groups, elems, Option.bind_eq_some_iff] at h
  obtain ⟨⟨x, r⟩, h1, h2⟩ := h
  split at h2
  ·rename_i hr0
   have hr0 := isEmpty_nil hr0
   simp only at hr0
   subst hr0
   simp only [Option.map_eq_some_iff] at h2
   obtain ⟨xs', h3, rfl⟩ := h2
   obtain ⟨c1, c2, q1, q2, q3⟩ := CX.unflat t (CX.take t.size hv) h1
   have hc2 : c2 = [] := q3
   subst hc2
   rw [List.append_nil] at q1
   obtain ⟨k1, k2⟩ := elems_EX n (CX.drop t.size hv) (by rw [List.length_drop]; omega) h3
   refine ⟨by simp [k1], fun i hi => ?_⟩
   cases i with
   | zero => simp only [chunk, Nat.zero_mul, List.drop_zero]; rw [q1]; exact q2
   | succ i => rw [chunk_succ]; exact k2 i (by simpa using hi)
  ·cases h2

theorem mem_chunk {sz n : Nat} {cs : List Value} (hl : cs.length = n * sz) {c : Value} (hc : c ∈ cs) : ∃ i, i < n ∧ c ∈ chunk sz cs i := by
 obtain ⟨k, hk, rfl⟩ := List.getElem_of_mem hc
 by_cases hz : sz = 0
 ·subst hz; rw [Nat.mul_zero] at hl; omega
 have h1 := Nat.div_add_mod k sz
 have h2 := Nat.mod_lt k (Nat.pos_of_ne_zero hz)
 rw [Nat.mul_comm] at h1
 have hi : k / sz < n := by
  rcases Nat.lt_or_ge (k / sz) n with h | h
  ·exact h
  ·have := Nat.mul_le_mul_right sz h; omega
 refine ⟨k / sz, hi, ?_⟩
 have h3 := mul_lt_succ (sz := sz) hi
 rw [List.mem_iff_getElem?]
 refine ⟨k % sz, ?_⟩
 simp only [chunk, List.getElem?_take, if_pos h2, List.getElem?_drop]
 rw [show k / sz * sz + k % sz = k from h1]
 simp [hk]

def innFrom (t : Ty) (cs : List Value) (n i : Nat) : Nat → Option Hdr := fun k => if i < n then innOf t (chunk t.size cs i) k else none

theorem innFrom_val {t : Ty} {cs : List Value} {n i k : Nat} {H : Hdr} (hl : cs.length = n * t.size) (h : innFrom t cs n i k = some H) : i < n ∧ k < t.size ∧ cs[i * t.size + k]? = some H.v := by
 simp only [innFrom] at h
 split at h
 ·rename_i hi
  obtain ⟨h1, _⟩ := innOf_val h
  have hk := (List.getElem?_eq_some_iff.1 h1).1
  rw [chunk_length hl hi] at hk
  simp only [chunk, List.getElem?_take, if_pos hk, List.getElem?_drop] at h1
  exact ⟨hi, hk, h1⟩
 ·cases h

theorem pos_inj {sz i j k l : Nat} (hk : k < sz) (hl : l < sz) (h : i * sz + k = j * sz + l) : i = j ∧ k = l := by
 have : i = j := by
  rcases Nat.lt_trichotomy i j with h1 | h1 | h1
  ·have := mul_lt_succ (sz := sz) h1; omega
  ·exact h1
  ·have := mul_lt_succ (sz := sz) h1; omega
 subst this; exact ⟨rfl, by omega⟩

theorem Arr.new {w' : World} {b e n cap sz : Nat} {cs rest : List Value} (hn : w'.heap[b]? = some (.cells (cs ++ rest).toArray e (0, 0))) (hl : cs.length = n * sz) (hc : n ≤ cap ∧ cap ≤ 9223372036854775807) (hs : cap * sz ≤ cs.length + rest.length) : Arr w' (.slice (some ⟨b, 0, none⟩) n cap) n sz cs :=
 ⟨hl, .inr ⟨b, 0, cap, _, e, rfl, hn, by simpa using hs, hc, by rw [← hl]; simp⟩⟩

theorem Tr.allocFlat (h : HR I σ w st.heap) (hl : ∀ b, Live σ st.heap b → L b) (hnew : ∀ b, w.heap.size ≤ b → L b) {id : Nat} (hid : id < lentFrom) {t : Ty} {xs : List t.Den} {cs rest : List Value} {cap e : Nat} (hm : Moved (fun _ => False) w w')
  (hn : w'.heap[w.heap.size]? = some (.cells (cs ++ rest).toArray e (0, 0))) (hlen : cs.length = xs.length * t.size) (hr : ∀ (i : Nat) (hi : i < xs.length), DR I w t (xs.get ⟨i, hi⟩) (chunk t.size cs i)) (hc : xs.length ≤ cap ∧ cap ≤ 9223372036854775807) (hs : cap * t.size ≤ cs.length + rest.length) (m d : Bool) (hd : d = false ∨ t.refs = false) :
  ∃ σ', Tr L I σ st w I σ' (st.alloc id (.arr m d t xs)) w' ∧ VR I σ' w' (.os (.t id)) (.slice (some ⟨w.heap.size, 0, none⟩) xs.length cap) := by
 have hI : ∀ b, I b → w'.heap[b]? = w.heap[b]? := fun b hb => hm.block b (h.lt b hb) (fun h => h)
 have hb : ∀ b, blockOf (.slice (some ⟨w.heap.size, 0, none⟩) xs.length cap) = some b → b = w.heap.size := fun b hb => by
  simp only [blockOf] at hb; split at hb
  ·cases hb
  ·simpa using hb.symm
 refine ⟨_, Tr.alloc h hl (ow := ⟨⟨.slice (some ⟨w.heap.size, 0, none⟩) xs.length cap, t.size⟩, fun _ _ => none⟩) hid hm (fun b hx => ?_)
  ⟨rfl, fun _ _ _ => rfl, ⟨fun _ _ _ _ h => (by cases h), fun _ _ _ _ _ _ _ h => (by cases h)⟩, cs, Arr.new hn hlen hc hs, fun i hi => EltR.of_flat hd (DR.mono (fun _ h => h) hI t _ _ (hr i hi))⟩, ⟨_, _, xs.length, cap, by simp only [hdrOf, upd_same, Option.map_some]; rfl, rfl, rfl⟩⟩
 rcases hx with hx | ⟨_, _, _, hx, _⟩
 ·have := hb b hx; subst this
  refine ⟨hnew _ (Nat.le_refl _), fun hi => ?_, (Array.getElem?_eq_some_iff.1 hn).1, fun hx => ?_⟩
  ·have := h.lt _ hi; omega
  ·have := (h.own _ hx).2; omega
 ·cases hx

theorem Tr.allocDeep (h : HR I σ w st.heap) (hl : ∀ b, Live σ st.heap b → L b) (hnew : ∀ b, w.heap.size ≤ b → L b) {id : Nat} (hid : id < lentFrom) {t : Ty} {xs : List t.Den} {cs rest : List Value} {cap e : Nat} (hm : Moved (fun _ => False) w w')
  (hn : w'.heap[w.heap.size]? = some (.cells (cs ++ rest).toArray e (0, 0))) (hlen : cs.length = xs.length * t.size) (hr : ∀ (i : Nat) (hi : i < xs.length), EX I w t (xs.get ⟨i, hi⟩) (chunk t.size cs i)) (hc : xs.length ≤ cap ∧ cap ≤ 9223372036854775807) (hs : cap * t.size ≤ cs.length + rest.length) (m : Bool)
  (hb1 : ∀ (i k : Nat) (H : Hdr) (b : Nat), innFrom t cs xs.length i k = some H → blockOf H.v = some b → L b ∧ ¬ I b ∧ b < w.heap.size ∧ ¬ Live σ st.heap b)
  (hb2 : ∀ (j j' : Nat) (u u' : Value) (b : Nat), cs[j]? = some u → cs[j']? = some u' → blockOf u = some b → blockOf u' = some b → ¬ I b → j = j') :
  ∃ σ', Tr L I σ st w I σ' (st.alloc id (.arr m true t xs)) w' ∧ VR I σ' w' (.os (.t id)) (.slice (some ⟨w.heap.size, 0, none⟩) xs.length cap) := by
 have hI : ∀ b, I b → w'.heap[b]? = w.heap[b]? := fun b hb => hm.block b (h.lt b hb) (fun h => h)
 have hb : ∀ b, blockOf (.slice (some ⟨w.heap.size, 0, none⟩) xs.length cap) = some b → b = w.heap.size := fun b hb => by
  simp only [blockOf] at hb; split at hb
  ·cases hb
  ·simpa using hb.symm
 refine ⟨_, Tr.alloc h hl (ow := ⟨⟨.slice (some ⟨w.heap.size, 0, none⟩) xs.length cap, t.size⟩, innFrom t cs xs.length⟩) hid hm (fun b hx => ?_)
  ⟨rfl, fun h => (by cases h), ⟨fun i k H b hi hbk ho => ?_, fun i k H i' k' H' b hi hi' hbk hbk' => ?_⟩, cs, Arr.new hn hlen hc hs, fun i hi => ?_⟩, ⟨_, _, xs.length, cap, by simp only [hdrOf, upd_same, Option.map_some]; rfl, rfl, rfl⟩⟩
 ·rcases hx with hx | ⟨i, k, H, hi, hx⟩
  ·have := hb b hx; subst this
   refine ⟨hnew _ (Nat.le_refl _), fun hi => ?_, (Array.getElem?_eq_some_iff.1 hn).1, fun hx => ?_⟩
   ·have := h.lt _ hi; omega
   ·have := (h.own _ hx).2; omega
  ·obtain ⟨q1, q2, q3, q4⟩ := hb1 i k H b hi hx
   exact ⟨q1, q2, Nat.lt_of_lt_of_le q3 hm.size, q4⟩
 ·have := hb b ho
  have := (hb1 i k H b hi hbk).2.2.1
  omega
 ·obtain ⟨p1, p2, p3⟩ := innFrom_val hlen hi
  obtain ⟨p1', p2', p3'⟩ := innFrom_val hlen hi'
  exact pos_inj p2 p2' (hb2 _ _ _ _ b p3 p3' hbk hbk' (hb1 i k H b hi hbk).2.1)
 ·simp only [EltR, if_true]
  have hx := hr i hi
  have hx' : EX I w' t (xs.get ⟨i, hi⟩) (chunk t.size cs i) := EX.mono (fun _ h => h) hI (fun k H b hk hbk => by
   have := (hb1 i k H b (by simp only [innFrom, if_pos hi]; exact hk) hbk).2.2.1
   exact hm.block b this (fun h => h)) hx
  exact EX.er t 0 _ _ (fun k H hk => by rw [Nat.zero_add]; simp only [innFrom, if_pos hi]; exact hk) hx'

theorem Tr.newArr (h : HR I σ w st.heap) (hl : ∀ b, Live σ st.heap b → L b) (hnew : ∀ b, w.heap.size ≤ b → L b) {id : Nat} (hid : id < lentFrom) {t : Ty} {cells : List AV} {len : Nat} {us : List Value} {v : AV} (hv : VRs I σ w cells us) (hlen : us.length = len * t.size) (hs : newArr st id t cells len = some (v, st')) :
  (∀ c ∈ us, c.oneCell' = true) ∧ ∀ (e cap : Nat) (rest : List Value) (w' : World), Moved (fun _ => False) w w' → w'.heap[w.heap.size]? = some (.cells (us ++ rest).toArray e (0, 0)) → (len ≤ cap ∧ cap ≤ 9223372036854775807) → cap * t.size ≤ us.length + rest.length →
   ∃ I' σ', Tr L I σ st w I' σ' st' w' ∧ VR I' σ' w' v (.slice (some ⟨w.heap.size, 0, none⟩) len cap) := by
 unfold Go.Q.newArr at hs
 split at hs
 ·rename_i r hr
  obtain ⟨ds, ids⟩ := r
  split at hr
  ·simp only [Option.bind_eq_some_iff] at hr
   obtain ⟨⟨ds', ids'⟩, ha, hr⟩ := hr
   split at hr
   ·rename_i hnd
    simp only [Option.some.injEq, Prod.mk.injEq] at hr
    obtain ⟨rfl, rfl⟩ := hr
    simp only [Option.bind_eq_some_iff, Option.some.injEq, Prod.mk.injEq] at hs
    obtain ⟨xs, hx, rfl, rfl⟩ := hs
    rw [nodupN_iff] at hnd
    obtain ⟨a1, a2, a3, a4⟩ := absorbs_ok h hv ha
    have a4 := a4 hnd
    obtain ⟨q1, q2⟩ := elems_EX len a1 hlen hx
    refine ⟨fun c hc => ?_, fun e cap rest w' hm hn hc hs => ?_⟩
    ·obtain ⟨i, hi, hci⟩ := mem_chunk hlen hc
     exact EX.one t _ _ (q2 i (by omega)) c hci
    ·have t1 := Tr.gone (L := L) ids' h hl (fun id' hid => by obtain ⟨m', t', x', hx⟩ := a2 id' hid; exact ⟨_, hx⟩)
     have habs : ∀ (j : Nat) (u : Value) (b : Nat), us[j]? = some u → blockOf u = some b → L b ∧ ¬ I b ∧ b < w.heap.size ∧ ¬ Live σ (St.gone st ids').heap b := by
      intro j u b2 hj hb2
      obtain ⟨id', ow', p1, p2, p3⟩ := a3 j u b2 hj hb2
      obtain ⟨m', t', x', p4⟩ := a2 id' p1
      have hlv : Live σ st.heap b2 := ⟨id', _, ow', p4, rfl, p2, .inl p3⟩
      refine ⟨hl b2 hlv, (h.own b2 hlv).1, (h.own b2 hlv).2, fun hh => ?_⟩
      obtain ⟨i3, o3, ow3, s0, s1, s2, s3, s4⟩ := gone_live ids' hh
      exact h.dist i3 id' o3 _ ow3 ow' b2 (fun e => s0 (by rw [e]; exact p1)) s1 p4 s2 rfl s3 p2 s4 (.inl p3)
     obtain ⟨σ', t2, hv2⟩ := Tr.allocDeep t1.hr t1.live hnew hid (t := t) (xs := xs) (cs := us) (rest := rest) (cap := cap) (e := e) hm hn (by rw [q1]; exact hlen) q2 (by omega) hs true
      (fun i k H b hi hb => by obtain ⟨_, _, p⟩ := innFrom_val (by rw [q1]; exact hlen) hi; exact habs _ _ b p hb) (fun j j' u u' b hj hj' hb hb' _ => a4 j j' u u' b hj hj' hb hb')
     rw [q1] at hv2
     exact ⟨I, σ', t1.trans t2, hv2⟩
   ·cases hr
  ·cases hr
 ·simp only [Option.bind_eq_some_iff, Option.some.injEq, Prod.mk.injEq] at hs
  obtain ⟨⟨ds, st1⟩, hf, xs, hx, rfl, rfl⟩ := hs
  obtain ⟨I1, t1, hv1⟩ := freezes_ok (L := L) 4 h hl hv hf
  obtain ⟨q1, q2⟩ := elems_DR len hv1 hlen hx
  refine ⟨fun c hc => ?_, fun e cap rest w' hm hn hc hs => ?_⟩
  ·obtain ⟨i, hi, hci⟩ := mem_chunk hlen hc
   exact DR.one t _ _ (q2 i (by omega)) c hci
  ·obtain ⟨σ', t2, hv2⟩ := Tr.allocFlat t1.hr t1.live hnew hid (t := t) (xs := xs) (cs := us) (rest := rest) (cap := cap) (e := e) hm hn (by rw [q1]; exact hlen) q2 (by omega) hs true false (.inl rfl)
   rw [q1] at hv2
   exact ⟨I1, σ', t1.trans t2, hv2⟩

theorem flatCells_ok : ∀ {vs : List AV} {us : List Value}, VRs I σ w vs us → vs.all (fun v => !v.isUndef) = true → VRs I σ w (flatCells vs) (us.flatMap fun u => u.cells.toList)
 | [], us, h, _ => by obtain rfl : us = [] := h; rfl
 | v :: vs, us, h, hu => by
  obtain ⟨e, es', rfl, h2, h3⟩ := h
  simp only [List.all_cons, Bool.and_eq_true, Bool.not_eq_true'] at hu
  rw [flatCells, List.flatMap_cons]
  exact VRs.append (VR.cells h2 (by rintro rfl; simp [AV.isUndef] at hu)).1 (flatCells_ok h3 hu.2)

theorem cells_sizes {sz : Nat} : ∀ {vs : List AV} {us : List Value}, VRs I σ w vs us → vs.all (fun v => v.cells.length == sz && !v.isUndef) = true → (∀ u ∈ us, u.cells.size = sz) ∧ (us.flatMap fun u => u.cells.toList).length = vs.length * sz
 | [], us, h, _ => by obtain rfl : us = [] := h; simp
 | v :: vs, us, h, hu => by
  obtain ⟨e, es', rfl, h2, h3⟩ := h
  simp only [List.all_cons, Bool.and_eq_true, beq_iff_eq, Bool.not_eq_true'] at hu
  obtain ⟨⟨hu1, hu2⟩, hu3⟩ := hu
  have hc := (VR.cells h2 (by rintro rfl; simp [AV.isUndef] at hu2)).1
  have hcl : e.cells.size = sz := by rw [← hu1, ← VRs.length hc]; simp
  obtain ⟨k1, k2⟩ := cells_sizes h3 (by simpa using hu3)
  refine ⟨fun u hm => ?_, ?_⟩
  ·rcases List.mem_cons.1 hm with rfl | hm
   ·exact hcl
   ·exact k1 u hm
  ·rw [List.flatMap_cons, List.length_append, k2, List.length_cons, Nat.add_mul]
   simp [hcl]; omega

theorem elTy_ok (hE : TabOK P E) {e : Nat} {t : Ty} (h : elTy E e = some t) : ∃ i z, P.info? e = some i ∧ i.size = t.size ∧ i.zero = some z := by
 unfold elTy at h
 cases ht : E.ty e with
 | some t' =>
  rw [ht] at h
  cases h
  obtain ⟨i, z, h1, h2, h3, _⟩ := hE.ty e _ ht
  exact ⟨i, z, h1, h2, h3⟩
 | none =>
  rw [ht] at h
  simp only [elT, Option.bind_eq_some_iff] at h
  obtain ⟨te, h1, h⟩ := h
  unfold elP at h
  cases hd : te.desc <;> rw [hd] at h <;> simp only at h <;> try (cases h)
  split at h
  ·rename_i hs
   simp only [Option.map_eq_some_iff] at h
   obtain ⟨t2, _, rfl⟩ := h
   obtain ⟨i, k1, k2, _, k4⟩ := (hE.tab e te h1).info
   obtain ⟨z, k5, _⟩ := k4 [.nilP] (by simp only [zeros, h1, Option.bind_some, hd])
   exact ⟨i, z, k1, by rw [k2, hs]; rfl, k5⟩
  ·cases h
theorem Tr.buildSlice (h : HR I σ w st.heap) (hl : ∀ b, Live σ st.heap b → L b) (hnew : ∀ b, w.heap.size ≤ b → L b) (hE : TabOK P E) {id T len : Nat} (hid : id < lentFrom) {parts : List (Nat × AV)} {us : List Value} {v : AV}
  (hp : VRs I σ w (parts.map (·.2)) us) (hb : Go.Q.buildSlice E st id T len parts = some (v, st')) :
  ∃ u w' I' σ', (Instr.buildSlice T len ((us.zipIdx 0).map fun x => (x.2, x.1)).toArray).run P w = .ok u w' ∧ Moved (fun _ => False) w w' ∧ Tr L I σ st w I' σ' st' w' ∧ VR I' σ' w' v u := by
 simp only [Go.Q.buildSlice, Option.bind_eq_some_iff] at hb
 obtain ⟨ti, h1, hb⟩ := hb
 have hd := (hE.tab T ti h1).desc
 cases hdd : ti.desc <;> simp only [hdd] at hb hd
 case slice e =>
  simp only [Option.bind_eq_some_iff] at hb
  obtain ⟨t, h2, hb⟩ := hb
  split at hb
  ·rename_i hc
   obtain ⟨hlen, hord, hsmall, hsz, hcells⟩ := hc
   obtain ⟨ie, z, i1, i2, i3⟩ := elTy_ok hE h2
   have hus : us.length = len := by rw [VRs.length hp, List.length_map, hlen]
   obtain ⟨r3, hfl⟩ := cells_sizes hp hcells
   rw [List.length_map, ← hlen] at hfl
   have hcv := flatCells_ok hp (by rw [List.all_eq_true] at hcells ⊢; intro x hx; have := hcells x hx; simp only [Bool.and_eq_true] at this; exact this.2)
   obtain ⟨_, hmk⟩ := Tr.newArr h hl hnew hid hcv hfl hb
   by_cases h0 : len = 0
   ·have hus0 : us = [] := List.eq_nil_of_length_eq_zero (by omega)
    subst hus0; subst h0
    obtain ⟨I', σ', q1, q2⟩ := hmk e 0 [] (w.alloc (.cells #[] e)) (moved_alloc w (.cells #[] e)) (alloc_new w _) ⟨Nat.le_refl _, by omega⟩ (by simp)
    refine ⟨.slice (some ⟨w.heap.size, 0, none⟩) 0 0, w.alloc (.cells #[] e), I', σ', ?_, moved_alloc w _, q1, q2⟩
    simp [Instr.buildSlice, run_under hd, sizeOf, typeInfo, i1, newRow, Instr.fill, Array.range_zero']
   ·have hlenm : len ≤ 9223372036854775807 := by
     have := Nat.mul_le_mul_left len (show 1 ≤ t.size by omega)
     rw [Nat.mul_one] at this
     omega
    have hpos : ¬ len * ie.size = 0 := by rw [i2]; exact Nat.mul_ne_zero h0 hsz
    have hz : ((Array.range (len * ie.size)).map (z.cells[· % z.cells.size]!)).size = len * ie.size := by simp
    have hfill := Go.Great.fill_whole (s := ie.size) (by omega) us _ (fun u hu => by rw [r3 u hu, i2]) (by rw [hz, hus])
    obtain ⟨I', σ', q1, q2⟩ := hmk e len [] (w.alloc (.cells (us.flatMap fun v => v.cells.toList).toArray e)) (moved_alloc w _) (by rw [List.append_nil]; exact alloc_new w _) ⟨Nat.le_refl _, hlenm⟩ (by rw [hfl]; simp)
    refine ⟨.slice (some ⟨w.heap.size, 0, none⟩) len len, w.alloc (.cells (us.flatMap fun v => v.cells.toList).toArray e), I', σ', ?_, moved_alloc w _, q1, q2⟩
    exact run_buildSlice w T e len _ _ ie z hd i1 i3 (by rw [i2]; omega) hpos (by simpa using hfill)
  ·cases hb
 all_goals cases hb

theorem madeCells_at {z : Array Value} {n i j : Nat} {t : Ty} (hz : z.size = t.size) (hi : i < n) {u : Value} (hj : z[j]? = some u) : (madeCells z (n * t.size))[i * t.size + j]? = some u := by
 have hj' : j < z.size := (Array.getElem?_eq_some_iff.1 hj).1
 have hu : z[j] = u := (Array.getElem?_eq_some_iff.1 hj).2
 have hlt : i * t.size + j < n * t.size := by
  have : (i + 1) * t.size ≤ n * t.size := Nat.mul_le_mul_right _ hi
  rw [Nat.add_mul] at this; omega
 have hm : (i * t.size + j) % z.size = j := by rw [hz, Nat.mul_comm, Nat.mul_add_mod]; exact Nat.mod_eq_of_lt (by omega)
 simp only [madeCells, Array.getElem?_map, Array.getElem?_range, hlt, if_true, Option.map_some, hm]
 rw [getElem!_pos z j hj', hu]

theorem madeCells_chunk {z : Array Value} {n m i : Nat} {t : Ty} (hz : z.size = t.size) (hi : i < n) (hn : n ≤ m) : chunk t.size ((madeCells z (m * t.size)).toList.take (n * t.size)) i = z.toList := by
 have h1 := mul_lt_succ (sz := t.size) hi
 have h2 : n * t.size ≤ m * t.size := Nat.mul_le_mul_right _ hn
 apply List.ext_getElem?
 intro j
 simp only [chunk, List.getElem?_take, List.getElem?_drop]
 by_cases hj : j < t.size
 ·rw [if_pos hj, if_pos (by omega)]
  have hj' : j < z.size := by omega
  have := madeCells_at (n := m) (i := i) hz (Nat.lt_of_lt_of_le hi hn) (show z[j]? = some z[j] from by simp [hj'])
  rw [show (madeCells z (m * t.size)).toList[i * t.size + j]? = (madeCells z (m * t.size))[i * t.size + j]? from by simp, this]
  simp [hj']
 ·rw [if_neg hj, List.getElem?_eq_none (by simp; omega)]

theorem Tr.makeSlice (h : HR I σ w st.heap) (hl : ∀ b, Live σ st.heap b → L b) (hnew : ∀ b, w.heap.size ≤ b → L b) (hE : TabOK P E) {id T : Nat} (hid : id < lentFrom) {n m : Int} {kn km : IntKind} {v : AV} (hb : Go.Q.makeSlice E st id T n m = some (v, st')) :
  ∃ u w' σ', (Instr.makeSlice T (.int kn n) (.int km m)).run P w = .ok u w' ∧ Tr L I σ st w I σ' st' w' ∧ VR I σ' w' v u ∧ Keeps w w' := by
 simp only [Go.Q.makeSlice, Option.bind_eq_some_iff] at hb
 obtain ⟨ti, h1, hb⟩ := hb
 have hd := (hE.tab T ti h1).desc
 cases hdd : ti.desc <;> simp only [hdd] at hb hd
 case slice e =>
  simp only [Option.bind_eq_some_iff] at hb
  obtain ⟨te, h2, t, h3, hb⟩ := hb
  split at hb
  ·rename_i hc
   obtain ⟨hn, hnm, hbytes, hm63⟩ := hc
   simp only [Option.some.injEq, Prod.mk.injEq] at hb
   obtain ⟨rfl, rfl⟩ := hb
   obtain ⟨ie, z, i1, i2, i3, i4, i5, i6, i7⟩ := hE.ty e t h3
   obtain ⟨ie', j1, j2, j3, _⟩ := (hE.tab e te h2).info
   rw [i1] at j1; cases j1
   have hrun := run_make (P := P) w T e ie z hd i1 i3 kn km n m hn hnm (by rw [j3]; omega) hm63
   have hlen : (List.replicate n.toNat t.zero).length = n.toNat := by simp
   have hnm' : n.toNat ≤ m.toNat := Int.toNat_le_toNat hnm
   have hnm2 : n.toNat ≤ m.toNat ∧ m.toNat ≤ 9223372036854775807 := ⟨hnm', by omega⟩
   have hle : n.toNat * t.size ≤ m.toNat * t.size := Nat.mul_le_mul_right _ hnm'
   rw [i2] at hrun
   have hcl : ((madeCells z.cells (m.toNat * t.size)).toList.take (n.toNat * t.size)).length = (List.replicate n.toNat t.zero).length * t.size := by
    rw [List.length_take, Array.length_toList, size_madeCells, hlen]; omega
   have hck : ∀ (i : Nat) (hi : i < (List.replicate n.toNat t.zero).length), chunk t.size ((madeCells z.cells (m.toNat * t.size)).toList.take (n.toNat * t.size)) i = z.cells.toList ∧ (List.replicate n.toNat t.zero).get ⟨i, hi⟩ = t.zero := fun i hi =>
    ⟨madeCells_chunk i4 (by simpa using hi) hnm', by simp⟩
   have hnb : ∀ (u : Value) (b : Nat), u ∈ (madeCells z.cells (m.toNat * t.size)).toList.take (n.toNat * t.size) → blockOf u = some b → False := by
    intro u b hu hb
    obtain ⟨i, hi, hu⟩ := mem_chunk (by rw [hcl]) hu
    rw [(hck i hi).1] at hu
    rw [i7 u hu] at hb; cases hb
   have hnw : (w.alloc (.cells (madeCells z.cells (m.toNat * t.size)) e)).heap[w.heap.size]? = some (.cells (((madeCells z.cells (m.toNat * t.size)).toList.take (n.toNat * t.size)) ++ ((madeCells z.cells (m.toNat * t.size)).toList.drop (n.toNat * t.size))).toArray e (0, 0)) := by
    rw [List.take_append_drop]; exact alloc_new w (.cells (madeCells z.cells (m.toNat * t.size)) e)
   have hcap : m.toNat * t.size ≤ ((madeCells z.cells (m.toNat * t.size)).toList.take (n.toNat * t.size)).length + ((madeCells z.cells (m.toNat * t.size)).toList.drop (n.toNat * t.size)).length := by
    rw [← List.length_append, List.take_append_drop]; simp [size_madeCells]
   by_cases hr : t.refs = true
   ·rw [hr]
    obtain ⟨σ', q1, q2⟩ := Tr.allocDeep h hl hnew hid (t := t) (xs := List.replicate n.toNat t.zero) (m := true) (moved_alloc w _) hnw hcl (fun i hi => by rw [(hck i hi).1, (hck i hi).2]; exact i6 I w) (by rw [hlen]; exact hnm2) hcap
     (fun i k H b hi hb => by obtain ⟨_, _, p⟩ := innFrom_val hcl hi; exact (hnb _ b (List.mem_of_getElem? p) hb).elim) (fun j j' u u' b hj _ hb _ _ => (hnb _ b (List.mem_of_getElem? hj) hb).elim)
    rw [hlen] at q2
    exact ⟨_, _, σ', hrun, q1, q2, (moved_alloc w _).keeps⟩
   ·have hr' : t.refs = false := by simpa using hr
    rw [hr']
    obtain ⟨σ', q1, q2⟩ := Tr.allocFlat h hl hnew hid (t := t) (xs := List.replicate n.toNat t.zero) (m := true) (d := false) (moved_alloc w _) hnw hcl (fun i hi => by rw [(hck i hi).1, (hck i hi).2]; exact i5 I w) (by rw [hlen]; exact hnm2) hcap (.inl rfl)
    rw [hlen] at q2
    exact ⟨_, _, σ', hrun, q1, q2, (moved_alloc w _).keeps⟩
  ·cases hb
 all_goals cases hb

end
end Go.Q
