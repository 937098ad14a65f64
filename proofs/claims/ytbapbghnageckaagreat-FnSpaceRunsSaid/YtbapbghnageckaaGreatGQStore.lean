/- An abstract interpreter of the translated code: stores and new arrays. -/
import Derived.Test.YtbapbghnageckaaGreatGQOps
namespace Go.Q
set_option linter.unusedVariables false
set_option linter.unusedSimpArgs false
set_option linter.unusedSectionVars false
open Go
section
variable {P : Program} {E : Env} {L : Nat → Prop} {I I' J : Nat → Prop} {σ σ' : Nat → Option Own} {st st' : St} {w w' : World}

theorem EX.mono (hI : ∀ b, I b → I' b) (hw : ∀ b, I b → w'.heap[b]? = w.heap[b]?) {t : Ty} {x : t.Den} {cs : List Value} (hb : ∀ k H b, innOf t cs k = some H → blockOf H.v = some b → w'.heap[b]? = w.heap[b]?) (h : EX I w t x cs) : EX I' w' t x cs :=
 (ER.ex t 0 x cs (ER.mono hI hw (inn := innOf t cs) hb t 0 x cs (EX.er t 0 x cs (fun k H hk => by simpa using hk) h))).1

theorem innOf_append_left {a b : Ty} {c1 c2 : List Value} (hl : c1.length = a.size) {k : Nat} (hk : k < a.size) : innOf (.cons a b) (c1 ++ c2) k = innOf a c1 k := by
 simp only [innOf, slSz, if_pos hk]
 rw [List.getElem?_append_left (by omega)]
theorem innOf_append_right {a b : Ty} {c1 c2 : List Value} (hl : c1.length = a.size) (k : Nat) : innOf (.cons a b) (c1 ++ c2) (a.size + k) = innOf b c2 k := by
 simp only [innOf, slSz, if_neg (show ¬ a.size + k < a.size by omega)]
 rw [List.getElem?_append_right (by omega), hl, Nat.add_sub_cancel_left]

theorem EX.blocks : ∀ (t : Ty) (x : t.Den) (cs : List Value), EX I w t x cs → ∀ (k : Nat) (u : Value) (b : Nat), cs[k]? = some u → blockOf u = some b → (∃ H, innOf t cs k = some H ∧ H.v = u) ∨ I b
 | .slice t, _, _, h, k, u, b, hk, _ => by
  obtain ⟨v, rfl, _⟩ := h
  cases k with
  | zero => simp at hk; subst hk; exact .inl ⟨⟨v, t.size⟩, by simp [innOf, slSz], rfl⟩
  | succ k => simp at hk
 | .cons a c, x, _, h, k, u, b, hk, hb => by
  obtain ⟨c1, c2, rfl, h1, h2⟩ := h
  have hl := EX.length a _ _ h1
  by_cases hlt : k < a.size
  ·rw [List.getElem?_append_left (by omega)] at hk
   rcases EX.blocks a _ _ h1 k u b hk hb with ⟨H, q1, q2⟩ | q
   ·exact .inl ⟨H, by rw [innOf_append_left hl hlt]; exact q1, q2⟩
   ·exact .inr q
  ·rw [List.getElem?_append_right (by omega), hl] at hk
   rcases EX.blocks c _ _ h2 _ u b hk hb with ⟨H, q1, q2⟩ | q
   ·refine .inl ⟨H, ?_, q2⟩
    have := innOf_append_right (a := a) (b := c) (c1 := c1) (c2 := c2) hl (k - a.size)
    rw [show a.size + (k - a.size) = k from by omega] at this
    rw [this]; exact q1
   ·exact .inr q
 | .agg l, x, cs, h, k, u, b, hk, hb => EX.blocks l x cs h k u b hk hb
 | .ptr t, x, _, h, k, u, b, hk, hb => by
  obtain ⟨b', o, rfl, hI, _⟩ := h
  cases k with
  | zero => simp at hk; subst hk; simp only [blockOf, Option.some.injEq] at hb; subst hb; exact .inr hI
  | succ k => simp at hk
 | .int _, x, cs, h, k, u, b, hk, hb => by rw [(DR.ex (I := I) (w := w) (.int _) x cs rfl h).2 u (List.mem_of_getElem? hk)] at hb; cases hb
 | .bool, x, cs, h, k, u, b, hk, hb => by rw [(DR.ex (I := I) (w := w) .bool x cs rfl h).2 u (List.mem_of_getElem? hk)] at hb; cases hb
 | .str, x, cs, h, k, u, b, hk, hb => by rw [(DR.ex (I := I) (w := w) .str x cs rfl h).2 u (List.mem_of_getElem? hk)] at hb; cases hb
 | .err, x, cs, h, k, u, b, hk, hb => by rw [(DR.ex (I := I) (w := w) .err x cs rfl h).2 u (List.mem_of_getElem? hk)] at hb; cases hb
 | .nil, x, cs, h, k, u, b, hk, hb => by rw [(DR.ex (I := I) (w := w) .nil x cs rfl h).2 u (List.mem_of_getElem? hk)] at hb; cases hb

theorem X1.mono (hI : ∀ b, I b → I' b) (hw : ∀ b, I b → w'.heap[b]? = w.heap[b]?) {v : AV} {u : Value} (hb : ∀ b, blockOf u = some b → w'.heap[b]? = w.heap[b]?) (h : X1 I w v u) : X1 I' w' v u := by
 cases v <;> simp only [X1] at h ⊢ <;> first | exact h | skip
 case d t x =>
  refine EX.mono hI hw (fun k H b hk hH => ?_) h
  simp only [innOf, Option.bind_eq_some_iff, Option.map_eq_some_iff] at hk
  obtain ⟨z, _, v, hv, rfl⟩ := hk
  cases k with
  | zero => simp at hv; subst hv; exact hb b hH
  | succ k => simp at hv
 case rp vs => exact VR.mono hI hw (fun _ _ h => h) _ _ h

theorem CX.setMono (hI : ∀ b, I b → I' b) (hw : ∀ b, I b → w'.heap[b]? = w.heap[b]?) : ∀ {vs : List AV} {us : List Value}, CX I w vs us → ∀ (k : Nat) (v : AV) (u : Value), (∀ (j : Nat) (u : Value) (b : Nat), j ≠ k → us[j]? = some u → blockOf u = some b → w'.heap[b]? = w.heap[b]?) → us[k]? = some u → X1 I' w' v u → CX I' w' (vs.set k v) us
 | [], _, h, k, v, u, _, hu, _ => by obtain rfl := h; simp at hu
 | x :: vs, _, h, k, v, u, hb, hu, hx => by
  obtain ⟨e, es', rfl, h2, h3⟩ := h
  cases k with
  | zero =>
   simp at hu; subst hu
   refine ⟨e, es', rfl, hx, ?_⟩
   have rest : ∀ {vs : List AV} {us : List Value}, CX I w vs us → (∀ (j : Nat) (u : Value) (b : Nat), us[j]? = some u → blockOf u = some b → w'.heap[b]? = w.heap[b]?) → CX I' w' vs us := by
    intro vs
    induction vs with
    | nil => intro us h _; exact h
    | cons y vs ih =>
     rintro us ⟨e, es, rfl, g1, g2⟩ hb
     exact ⟨e, es, rfl, g1.mono hI hw (fun b hbb => hb 0 e b rfl hbb), ih g2 (fun j u b hj => hb (j + 1) u b (by simpa using hj))⟩
   exact rest h3 (fun j u b hj => hb (j + 1) u b (by omega) (by simpa using hj))
  | succ k =>
   exact ⟨e, es', rfl, h2.mono hI hw (fun b hbb => hb 0 e b (by omega) rfl hbb), CX.setMono hI hw h3 k v u (fun j u b hj hu => hb (j + 1) u b (by omega) (by simpa using hu)) (by simpa using hu) hx⟩

theorem EltR.of_flat {d : Bool} {inn : Nat → Option Hdr} {t : Ty} {x : t.Den} {cs : List Value} (hd : d = false ∨ t.refs = false) (h : DR I w t x cs) : EltR I w d inn t x cs := by
 unfold EltR
 split
 ·rename_i hd'
  rcases hd with hd | hd
  ·rw [hd'] at hd; cases hd
  ·exact EX.er t 0 x cs (fun k H hk => by simp [innOf, slSz_refs t k hd] at hk) (DR.ex t x cs hd h).1
 ·exact h

theorem ObjR.setIn (h : HR I σ w st.heap) {id i off : Nat} {o o' : Obj} (hg : st.heap.get id = some o) {t : Ty} {xs ys : List t.Den} (hk : st.heap.arrAt (.n id i off) = some (.d (.slice t) xs)) {H : Hdr} (hH : hdrOf σ (.n id i off) = some H) (hy : PlainArr I' w' t ys H.v)
  (hII : ∀ b, I b → I' b) (hI : ∀ b, I b → w'.heap[b]? = w.heap[b]?) (hm : ∀ ow b, σ id = some ow → ow.has b → blockOf H.v ≠ some b → w'.heap[b]? = w.heap[b]?) (ho' : o.setIn i off t ys = some o') : ∃ ow, σ id = some ow ∧ ObjR I' σ' w' ow o' ∧ o.live = true ∧ o'.still = o.still ∧ ∀ b, blockOf H.v = some b → ow.has b := by
 unfold Obj.setIn at ho'
 split at ho'
 ·rename_i m t0 xs0
  split at ho'
  ·rename_i hi
   simp only [Option.bind_eq_some_iff] at ho'
   obtain ⟨⟨y, r⟩, q1, ho'⟩ := ho'
   split at ho'
   ·rename_i hr0
    have hr0 := isEmpty_nil hr0
    simp only at hr0
    subst hr0
    have ho' : Obj.arr m true t0 (xs0.set i y) = o' := by simpa using ho'
    subst ho'
    obtain ⟨ow, k1, k2, k3, k4, cs0, k5, k6⟩ := h.objs id _ hg
    have hin : ow.inn i off = some H := by simpa [hdrOf, k1] using hH
    have hout : ∀ b, blockOf ow.h.v = some b → w'.heap[b]? = w.heap[b]? := fun b hb => hm ow b k1 (.inl hb) (fun e => k4.out i off H b hin e hb)
    have hinn : ∀ i' off' H' b, ow.inn i' off' = some H' → (i', off') ≠ (i, off) → blockOf H'.v = some b → w'.heap[b]? = w.heap[b]? := fun i' off' H' b h1 h2 h3 =>
     hm ow b k1 (.inr ⟨i', off', H', h1, h3⟩) (fun e => h2 (by obtain ⟨e1, e2⟩ := k4.one i' off' H' i off H b h1 hin h3 e; rw [e1, e2]))
    have hget : xs0.getD i t0.zero = xs0.get ⟨i, hi⟩ := by simp [List.getD, hi]
    simp only [Heap.arrAt, hg, if_pos hi] at hk
    have hk' : (flat t0 (xs0.getD i t0.zero))[off]? = some (.d (.slice t) xs) := by
     split at hk
     ·rename_i t' ys' hk'; cases hk; exact hk'
     ·cases hk
    rw [hget] at hk' q1
    obtain ⟨hxl, _, _, hx⟩ := (k6 i hi).ex
    obtain ⟨hx, hxi⟩ := hx rfl
    obtain ⟨v, m1, m2, _⟩ := EX.at t0 _ _ hx off t xs hk'
    have hHv : H = ⟨v, t.size⟩ := by
     have := hxi off ⟨v, t.size⟩ (by simp only [innOf, m2, Option.bind_some, m1, Option.map_some])
     rw [hin] at this; cases this; rfl
    subst hHv
    have hcx := CX.setMono hII hI (EX.cx t0 _ _ hx) off (.d (.slice t) ys) v (fun j u b hj hu hb => by
     rcases EX.blocks t0 _ _ hx j u b hu hb with ⟨H', p1, p2⟩ | p
     ·subst p2; exact hinn i j H' b (hxi j H' p1) (by simp [hj]) hb
     ·exact hI b p) m1 ⟨v, rfl, hy⟩
    obtain ⟨c1, c2, r1, r2, r3⟩ := CX.unflat t0 hcx q1
    have hc2 : c2 = [] := r3
    subst hc2
    rw [List.append_nil] at r1
    subst r1
    refine ⟨ow, k1, ⟨k2, k3, k4, cs0, by rw [List.length_set]; exact k5.mono hout, fun j hj => ?_⟩, rfl, rfl, fun b hb => .inr ⟨i, off, _, hin, hb⟩⟩
    have hj' : j < xs0.length := by rw [List.length_set] at hj; exact hj
    by_cases e : j = i
    ·subst e
     have : (xs0.set j y).get ⟨j, by rw [List.length_set]; exact hj'⟩ = y := by simp
     rw [this]
     simp only [EltR, if_true]
     exact EX.er t0 0 _ _ (fun k H hk => by rw [Nat.zero_add]; exact hxi k H hk) r2
    ·have : (xs0.set i y).get ⟨j, by rw [List.length_set]; exact hj'⟩ = xs0.get ⟨j, hj'⟩ := by simp [Ne.symm e]
     rw [this]
     exact (k6 j hj').mono hII hI (fun _ off' H' b h1 h2 => hinn j off' H' b h1 (by simp [e]) h2)
   ·cases ho'
  ·cases ho'
 ·cases ho'

theorem Tr.setAt (h : HR I σ w st.heap) (hl : ∀ b, Live σ st.heap b → L b) {p : Pl} {t : Ty} {xs ys : List t.Den} {H : Hdr} {cs cs' : List Value} (hk : st.heap.arrAt p = some (.d (.slice t) xs)) (hp : PlR I σ w st.heap p t xs H cs) (hd : st.heap.deepAt p = false ∨ t.refs = false)
  (hm : Moved (fun k => blockOf H.v = some k) w w') (ha : Arr w' H.v ys.length t.size cs') (hr : ∀ (i : Nat) (hi : i < ys.length), DR I w' t (ys.get ⟨i, hi⟩) (chunk t.size cs' i)) {h' : Heap} (hs : st.heap.setAt t ys p = some h') :
  Tr L I σ st w I σ ⟨st.tmps, h'⟩ w' := by
 cases p with
 | t id =>
  simp only [Heap.setAt] at hs
  split at hs
  ·rename_i m d t' xs' hg
   split at hs
   ·rename_i e
    subst e
    cases hs
    obtain ⟨ow, k1, k2, k3, k4, cs0, k5, k6⟩ := h.objs id _ hg
    have hH : ow.h = H := by have := hp.hdr; simp [hdrOf, k1] at this; exact this
    subst hH
    simp only [Heap.deepAt, hg] at hd
    refine Tr.store h hl hg rfl k1 hm (fun b hb => .inl hb) ⟨k2, k3, k4, cs', ha, fun i hi => EltR.of_flat hd (hr i hi)⟩ (fun hst => hst)
   ·cases hs
  ·cases hs
 | n id i off =>
  simp only [Heap.setAt, Option.bind_eq_some_iff, Option.map_eq_some_iff] at hs
  obtain ⟨o, hg, o', ho', rfl⟩ := hs
  have hH : ∃ ow, σ id = some ow ∧ ow.inn i off = some H := by have := hp.hdr; simpa only [hdrOf, Option.bind_eq_some_iff] using this
  obtain ⟨ow0, hs0, hin0⟩ := hH
  have hlv : ∀ b, blockOf H.v = some b → Live σ st.heap b := fun b hb => hp.isLive hb
  have hol : o.live = true := by cases o <;> first | rfl | simp [Obj.setIn] at ho'
  obtain ⟨ow, k1, k2, k3, k4, k5⟩ := ObjR.setIn (I' := I) (σ' := σ) h hg hk hp.hdr ⟨cs', ha, hr⟩ (fun _ h => h) (fun b hb => hm.block b (h.lt b hb) (fun e => (h.own b (hlv b e)).1 hb))
   (fun ow1 b h1 h2 h3 => hm.block b (h.own b ⟨id, o, ow1, hg, hol, h1, h2⟩).2 h3) ho'
  exact Tr.store h hl hg k3 k1 hm k5 k2 (fun hst => by rw [← k4]; exact hst)

theorem run_storeAt {T : Nat} {ti : TI} (hT : TIok P E T ti) {b o : Nat} {u : Value} (hl : u.cells.size = ti.size) (hr : (storeCells ⟨b, o, none⟩ u.cells.toList 0).run P w = .ok () w') :
  (Instr.storeAt T (.pointer (some ⟨b, o, none⟩)) u).run P w = .ok () w' := by
 simp [Instr.storeAt, Instr.sureAddr, storeVar, run_size hT, hl, hr]

theorem getD_get {α : Type} {xs : List α} {i : Nat} (hi : i < xs.length) (d : α) : xs.getD i d = xs.get ⟨i, hi⟩ := by simp [List.getD, hi]

theorem Tr.storeFlat (h : HR I σ w st.heap) (hl : ∀ b, Live σ st.heap b → L b) {p : Pl} {i off : Nat} {cs : List AV} {v : AV} {up : Value} {us : List Value} (hd : st.heap.deepAt p = false) (ha : st.heap.arrAt p = some v) (hp : LR σ (.el p i off) up) (hv : VRs I σ w cs us)
  (hs : storeFlat st p i off cs v = some st') : ∃ b o w', up = .pointer (some ⟨b, o, none⟩) ∧ (storeCells ⟨b, o, none⟩ us 0).run P w = .ok () w' ∧ Tr L I σ st w I σ st' w' := by
 obtain ⟨t, xs, H, ce, rfl, hpl⟩ := h.place ha
 simp only [Go.Q.storeFlat, Option.bind_eq_some_iff, Option.map_eq_some_iff] at hs
 obtain ⟨y, hy, h', hs, rfl⟩ := hs
 obtain ⟨hi, b, o, cap, e1, rfl⟩ := hpl.el hp
 unfold spliceEl at hy
 split at hy
 ·rename_i hle
  simp only [Option.bind_eq_some_iff] at hy
  obtain ⟨⟨y', r⟩, hy1, hy⟩ := hy
  split at hy
  ·rename_i hr0
   have hr0 := isEmpty_nil hr0
   simp only at hr0
   subst hr0
   have hy : y' = y := by simpa using hy
   subst hy
   have hul := VRs.length hv
   have hm1 := mul_lt_succ (sz := t.size) hi
   rw [getD_get hi] at hy1
   have hx := hpl.elt i hi
   simp only [hd, EltR, Bool.false_eq_true, if_false] at hx
   have hfl := VRs.flat (σ := σ) t _ _ hx
   have hall := VRs.append (VRs.append (VRs.take off hfl) hv) (VRs.drop (off + us.length) hfl)
   rw [← hul] at hy1 hle
   obtain ⟨c1, c2, r1, r2, r3⟩ := VRs.unflat t hall hy1
   have hc2 : c2 = [] := r3
   subst hc2
   rw [List.append_nil] at r1
   have hone : ∀ u ∈ us, u.oneCell' = true := fun u hu => DR.one t y' c1 r2 u (by rw [← r1]; simp [hu])
   obtain ⟨b', ob, cap', w', g1, g2, g3, g4, g5⟩ := hpl.arr.put (o := i * t.size + off) (us := us) (by omega) (by omega) hone P
   rw [e1] at g1; cases g1
   have hI : ∀ k, I k → w'.heap[k]? = w.heap[k]? := fun k hk => g4.block k (h.lt k hk) (fun e => by subst e; exact (h.own k (hpl.isLive g2)).1 hk)
   refine ⟨b, _, w', rfl, by rw [Nat.add_assoc]; exact g3, ?_⟩
   refine Tr.setAt h hl (cs' := ce.take (i * t.size + off) ++ us ++ ce.drop (i * t.size + off + us.length)) ha hpl (.inl hd) (g4.imp fun k hk => by subst hk; exact g2) (by rw [List.length_set]; exact g5) (fun j hj => ?_) hs
   have hj' : j < xs.length := by rw [List.length_set] at hj; exact hj
   by_cases e : j = i
   ·subst e
    have : (xs.set j y').get ⟨j, by rw [List.length_set]; exact hj'⟩ = y' := by simp
    rw [this, splice_same hpl.arr.1 hi hle, r1]
    exact DR.mono (fun _ h => h) hI t y' c1 r2
   ·have : (xs.set i y').get ⟨j, by rw [List.length_set]; exact hj'⟩ = xs.get ⟨j, hj'⟩ := by simp [Ne.symm e]
    rw [this, splice_other hpl.arr.1 hi hj' e hle]
    have hxj := hpl.elt j hj'
    simp only [hd, EltR, Bool.false_eq_true, if_false] at hxj
    exact DR.mono (fun _ h => h) hI t _ _ hxj
  ·cases hy
 ·cases hy

theorem innOf_val {t : Ty} {cs : List Value} {k : Nat} {H : Hdr} (h : innOf t cs k = some H) : cs[k]? = some H.v ∧ slSz t k = some H.sz := by
 simp only [innOf, Option.bind_eq_some_iff, Option.map_eq_some_iff] at h
 obtain ⟨z, h1, v, h2, rfl⟩ := h
 exact ⟨h2, h1⟩
theorem innOf_of {t : Ty} {cs : List Value} {k : Nat} {H : Hdr} (h1 : cs[k]? = some H.v) (h2 : slSz t k = some H.sz) : innOf t cs k = some H := by
 simp only [innOf, h2, Option.bind_some, h1, Option.map_some]

theorem spliced_get {α : Type} {old us : List α} {off : Nat} (h : off + us.length ≤ old.length) (k : Nat) : (old.take off ++ us ++ old.drop (off + us.length))[k]? = if k < off then old[k]? else if k < off + us.length then us[k - off]? else old[k]? := by
 simp only [List.getElem?_append, List.length_append, List.length_take, List.getElem?_take, List.getElem?_drop]
 by_cases a1 : k < off
 ·rw [if_pos (by omega), if_pos (by omega), if_pos a1, if_pos a1]
 ·by_cases a2 : k < off + us.length
  ·rw [if_pos (by omega), if_neg (by omega), if_neg a1, if_pos a2]; congr 1; omega
  ·rw [if_neg (by omega), if_neg a1, if_neg a2]; congr 1; omega

theorem Tr.storeDeep (h : HR I σ w st.heap) (hl : ∀ b, Live σ st.heap b → L b) {id : Nat} {t : Ty} {m : Bool} {xs : List t.Den} (hg : st.heap.get id = some (.arr m true t xs)) {i off : Nat} {cs : List AV} {up : Value} {us : List Value} (hp : LR σ (.el (.t id) i off) up) (hv : VRs I σ w cs us)
  (hs : storeDeep st id t m xs i off cs = some st') : ∃ b o w' σ', up = .pointer (some ⟨b, o, none⟩) ∧ (storeCells ⟨b, o, none⟩ us 0).run P w = .ok () w' ∧ Tr L I σ st w I σ' st' w' := by
 simp only [Go.Q.storeDeep, Option.bind_eq_some_iff] at hs
 obtain ⟨⟨ds, ids⟩, ha, hs⟩ := hs
 split at hs
 ·rename_i hnd
  simp only [Option.bind_eq_some_iff, Option.some.injEq] at hs
  obtain ⟨y, hy, rfl⟩ := hs
  rw [nodupN_iff, List.nodup_cons] at hnd
  obtain ⟨hnid, hnd⟩ := hnd
  obtain ⟨a1, a2, a3, a4⟩ := absorbs_ok h hv ha
  have a4 := a4 hnd
  have hplace : st.heap.arrAt (.t id) = some (.d (.slice t) xs) := by simp [Heap.arrAt, hg]
  obtain ⟨t', xs', H, ce, e0, hpl⟩ := h.place hplace
  cases e0
  obtain ⟨ow, k1, k2, k3, k4, ce', k5, k6⟩ := h.objs id _ hg
  have hH : H = ow.h := by have := hpl.hdr; simp [hdrOf, k1] at this; exact this.symm
  subst hH
  obtain ⟨hi, b, o, cap, e1, rfl⟩ := hpl.el hp
  have hul := VRs.length hv
  have hdl : ds.length = cs.length := by rw [← CX.length a1, hul]
  have hm1 := mul_lt_succ (sz := t.size) hi
  have hx := (hpl.elt i hi).ex
  obtain ⟨hxl, _, _, hx⟩ := hx
  obtain ⟨hx, hxi⟩ := hx (by simp [Heap.deepAt, hg])
  have hinnAt : ∀ j k, innAt σ (.t id) j k = ow.inn j k := fun j k => by simp [innAt, k1]
  unfold spliceEl at hy
  split at hy
  ·rename_i hle
   simp only [Option.bind_eq_some_iff] at hy
   obtain ⟨⟨y', r⟩, hy1, hy⟩ := hy
   split at hy
   ·rename_i hr0
    have hr0 := isEmpty_nil hr0
    simp only at hr0
    subst hr0
    have hy : y' = y := by simpa using hy
    subst hy
    rw [hdl, ← hul] at hle hy1
    rw [getD_get hi] at hy1
    have hcx := CX.append (CX.append (CX.take off (EX.cx t _ _ hx)) a1) (CX.drop (off + us.length) (EX.cx t _ _ hx))
    obtain ⟨c1, c2, r1, r2, r3⟩ := CX.unflat t hcx hy1
    have hc2 : c2 = [] := r3
    subst hc2
    rw [List.append_nil] at r1
    have hone : ∀ u ∈ us, u.oneCell' = true := fun u hu => EX.one t y' c1 r2 u (by rw [← r1]; simp [hu])
    obtain ⟨b', ob, cap', w', g1, g2, g3, g4, g5⟩ := hpl.arr.put (o := i * t.size + off) (us := us) (by omega) (by omega) hone P
    rw [e1] at g1; cases g1
    have hlive : ∀ b, ow.has b → Live σ st.heap b := fun b hb => ⟨id, _, ow, hg, rfl, k1, hb⟩
    have hI : ∀ k, I k → w'.heap[k]? = w.heap[k]? := fun k hk => g4.block k (h.lt k hk) (fun e => by subst e; exact (h.own k (hpl.isLive g2)).1 hk)
    have t1 := Tr.gone (L := L) ids h hl (fun id' hid => by obtain ⟨m', t', x', hx⟩ := a2 id' hid; exact ⟨_, hx⟩)
    have hg1 := gone_arr ids hnid hg
    have habs : ∀ (j : Nat) (u : Value) (b : Nat), us[j]? = some u → blockOf u = some b → Live σ st.heap b ∧ ¬ ow.has b ∧ ¬ Live σ ((St.gone st ids).heap.put id .dead) b := by
     intro j u b2 hj hb2
     obtain ⟨id', ow', q1, q2, q3⟩ := a3 j u b2 hj hb2
     obtain ⟨m', t', x', q4⟩ := a2 id' q1
     have hne : id ≠ id' := fun e => hnid (by rw [e]; exact q1)
     refine ⟨⟨id', _, ow', q4, rfl, q2, .inl q3⟩, fun hh => h.dist id id' _ _ ow ow' b2 hne hg q4 rfl rfl k1 q2 hh (.inl q3), fun hh => ?_⟩
     obtain ⟨i2, o2, ow2, _, p1, p2, p3, p4⟩ := hh.bury
     obtain ⟨i3, o3, ow3, s0, s1, s2, s3, s4⟩ := gone_live ids (⟨i2, o2, ow2, p1, p2, p3, p4⟩ : Live σ _ b2)
     exact h.dist i3 id' o3 _ ow3 ow' b2 (fun e => s0 (by rw [e]; exact q1)) s1 q4 s2 rfl s3 q2 s4 (.inl q3)
    have hold : ∀ b, ow.has b → ¬ Live σ ((St.gone st ids).heap.put id .dead) b := by
     intro b2 hb2 hh
     obtain ⟨i2, o2, ow2, e2, p1, p2, p3, p4⟩ := hh.bury
     exact t1.hr.dist i2 id o2 _ ow2 ow b2 e2 p1 hg1 p2 rfl p3 k1 p4 hb2
    have hnew : ∀ k H, innOf t c1 k = some H → (ow.inn i k = some H ∧ (k < off ∨ off + us.length ≤ k)) ∨ (off ≤ k ∧ us[k - off]? = some H.v) := by
     intro k H hk
     obtain ⟨q1, q2⟩ := innOf_val hk
     rw [← r1, spliced_get (by rw [hxl]; exact hle)] at q1
     split at q1
     ·rename_i hlt; exact .inl ⟨by rw [← hinnAt]; exact hxi k H (innOf_of q1 q2), .inl hlt⟩
     ·split at q1
      ·exact .inr ⟨by omega, q1⟩
      ·exact .inl ⟨by rw [← hinnAt]; exact hxi k H (innOf_of q1 q2), .inr (by omega)⟩
    let inn' : Nat → Nat → Option Hdr := fun j k => if j = i then innOf t c1 k else ow.inn j k
    have hinn' : ∀ j k H b, inn' j k = some H → blockOf H.v = some b → (ow.has b ∧ ow.inn j k = some H ∧ (j = i → k < off ∨ off + us.length ≤ k)) ∨ (j = i ∧ off ≤ k ∧ us[k - off]? = some H.v) := by
     intro j k H b2 hjk hb2
     simp only [inn'] at hjk
     split at hjk
     ·rename_i e; subst e
      rcases hnew k H hjk with ⟨q, q'⟩ | ⟨q1, q2⟩
      ·exact .inl ⟨.inr ⟨j, k, H, q, hb2⟩, q, fun _ => q'⟩
      ·exact .inr ⟨rfl, q1, q2⟩
     ·rename_i e; exact .inl ⟨.inr ⟨j, k, H, hjk, hb2⟩, hjk, fun e' => absurd e' e⟩
    have hInn : InnOK ⟨ow.h, inn'⟩ := by
     constructor
     ·intro j k H b2 hjk hb2 hout
      rcases hinn' j k H b2 hjk hb2 with ⟨_, q, _⟩ | ⟨_, _, q⟩
      ·exact k4.out j k H b2 q hb2 hout
      ·exact (habs _ _ b2 q hb2).2.1 (.inl hout)
     ·intro j k H j' k' H' b2 hjk hjk' hb2 hb2'
      rcases hinn' j k H b2 hjk hb2 with ⟨q0, q, _⟩ | ⟨p1, p2, p3⟩
      ·rcases hinn' j' k' H' b2 hjk' hb2' with ⟨_, q', _⟩ | ⟨p1', p2', p3'⟩
       ·exact k4.one j k H j' k' H' b2 q q' hb2 hb2'
       ·exact absurd q0 (habs _ _ b2 p3' hb2').2.1
      ·rcases hinn' j' k' H' b2 hjk' hb2' with ⟨q0', q', _⟩ | ⟨p1', p2', p3'⟩
       ·exact absurd q0' (habs _ _ b2 p3 hb2).2.1
       ·have := a4 _ _ _ _ b2 p3 p3' hb2 hb2'
        exact ⟨by rw [p1, p1'], by omega⟩
    have hhas : ∀ b, (⟨ow.h, inn'⟩ : Own).has b → ow.has b ∨ ∃ (j : Nat) (u : Value), us[j]? = some u ∧ blockOf u = some b := by
     rintro b2 (hb2 | ⟨j, k, H, hjk, hb2⟩)
     ·exact .inl (.inl hb2)
     ·rcases hinn' j k H b2 hjk hb2 with ⟨q, _⟩ | ⟨_, _, q⟩
      ·exact .inl q
      ·exact .inr ⟨_, _, q, hb2⟩
    have hbne : ∀ b2, b2 < w.heap.size → b2 ≠ b → w'.heap[b2]? = w.heap[b2]? := fun b2 h1 h2 => g4.block b2 h1 h2
    have hbout : blockOf ow.h.v = some b := g2
    have hobj : ObjR I (upd σ id ⟨ow.h, inn'⟩) w' ⟨ow.h, inn'⟩ (.arr m true t (xs.set i y')) := by
     refine ⟨k2, fun h => (by cases h), hInn, ce.take (i * t.size + off) ++ us ++ ce.drop (i * t.size + off + us.length), by rw [List.length_set]; exact g5, fun j hj => ?_⟩
     have hj' : j < xs.length := by rw [List.length_set] at hj; exact hj
     by_cases e : j = i
     ·subst e
      have : (xs.set j y').get ⟨j, by rw [List.length_set]; exact hj'⟩ = y' := by simp
      rw [this, splice_same hpl.arr.1 hi hle, r1]
      simp only [EltR, if_true]
      have hyx : EX I w' t y' c1 := by
       refine EX.mono (fun _ h => h) hI (fun k H b2 hk hb2 => ?_) r2
       rcases hnew k H hk with ⟨q, _⟩ | ⟨_, q⟩
       ·exact hbne b2 (h.own b2 (hlive b2 (.inr ⟨j, k, H, q, hb2⟩))).2 (fun e => by subst e; exact k4.out j k H b2 q hb2 hbout)
       ·obtain ⟨s1, s2, _⟩ := habs _ _ b2 q hb2
        exact hbne b2 (h.own b2 s1).2 (fun e => by subst e; exact s2 (.inl hbout))
      exact EX.er t 0 _ _ (fun k H hk => by rw [Nat.zero_add]; simp only [inn', if_true]; exact hk) hyx
     ·have : (xs.set i y').get ⟨j, by rw [List.length_set]; exact hj'⟩ = xs.get ⟨j, hj'⟩ := by simp [Ne.symm e]
      rw [this, splice_other hpl.arr.1 hi hj' e hle]
      have hxj := hpl.elt j hj'
      have e2 : innAt σ (.t id) j = inn' j := by funext k; rw [hinnAt]; simp [inn', e]
      have e3 : st.heap.deepAt (.t id) = true := by simp [Heap.deepAt, hg]
      rw [e2, e3] at hxj
      refine hxj.mono (fun _ h => h) hI (fun _ k H b2 hk hb2 => ?_)
      have hk' : ow.inn j k = some H := by simpa [inn', e] using hk
      exact hbne b2 (h.own b2 (hlive b2 (.inr ⟨j, k, H, hk', hb2⟩))).2 (fun e => by subst e; exact k4.out j k H b2 hk' hb2 hbout)
    have t2 := Tr.change t1.hr t1.live (o' := .arr m true t (xs.set i y')) (ow' := ⟨ow.h, inn'⟩) (killInF id) (S := fun k => k = b) hg1 (fun _ h => h) (fun _ h => .inl h)
     (fun v u hv => killInF_ok (σ' := upd σ id ⟨ow.h, inn'⟩) (ow' := ⟨ow.h, inn'⟩) (fun i hi => upd_other _ hi) k1 (upd_same _ _ _) rfl v u hv) g4
     (fun b2 e => by subst e; exact ⟨hl b2 (hlive b2 (.inl hbout)), (h.own b2 (hlive b2 (.inl hbout))).1, hold b2 (.inl hbout)⟩)
     (fun _ b2 hb2 => by
      rcases hhas b2 hb2 with q | ⟨j, u, q1, q2⟩
      ·exact ⟨hl b2 (hlive b2 q), (h.own b2 (hlive b2 q)).1, Nat.lt_of_lt_of_le (h.own b2 (hlive b2 q)).2 g4.size, hold b2 q⟩
      ·obtain ⟨s1, _, s3⟩ := habs j u b2 q1 q2
       exact ⟨hl b2 s1, (h.own b2 s1).1, Nat.lt_of_lt_of_le (h.own b2 s1).2 g4.size, s3⟩) hobj
     (fun _ hst => ⟨hst, fun ow1 how => by rw [k1] at how; cases how; rfl⟩)
    exact ⟨b, _, w', _, rfl, by rw [Nat.add_assoc]; exact g3, t1.trans t2⟩
   ·cases hy
  ·cases hy
 ·cases hs

theorem frozenInF_el (h : Heap) (id : Nat) (i off : Nat) : frozenInF h id (.el (.t id) i off) = .el (.t id) i off := by simp [frozenInF, Pl.isIn]

theorem freezeIn_deep (st : St) (id : Nat) : (st.freezeIn id).heap.deepAt (.t id) = false := by
 unfold St.freezeIn
 split
 ·simp [Heap.deepAt, Heap.get_put]
 ·rename_i hno
  simp only [Heap.deepAt]
  split
  ·rename_i m d t xs hg
   cases d with
   | false => rfl
   | true => exact absurd hg (hno m t xs)
  ·rfl

theorem deepAt_freeze {st : St} {id i : Nat} (h : st.heap.deepAt (.t i) = false) : (st.freeze id).heap.deepAt (.t i) = false := by
 simp only [St.freeze, Heap.deepAt, Heap.get_put] at h ⊢
 by_cases e : i = id
 ·simp [e]
 ·simp only [if_neg e, Heap.get_mapR]
  cases hg : st.heap.get i with
  | none => rfl
  | some o => rw [hg] at h; cases o <;> simp_all [Obj.mapR]

theorem deepAt_freezes : ∀ (n : Nat) {st st' : St} {vs vs' : List AV} {i : Nat}, st.heap.deepAt (.t i) = false → freezes n st vs = some (vs', st') → st'.heap.deepAt (.t i) = false
 | 0, st, st', vs, vs', i, h, hf => by
  simp only [freezes] at hf
  split at hf
  ·cases hf; exact h
  ·cases hf
 | n + 1, st, st', vs, vs', i, h, hf => by
  simp only [freezes] at hf
  split at hf
  ·cases hf; exact h
  ·split at hf
   ·exact deepAt_freezes n (deepAt_freeze h) hf
   ·cases hf

theorem Tr.storeEl (h : HR I σ w st.heap) (hl : ∀ b, Live σ st.heap b → L b) {p : Pl} {i off : Nat} {cs : List AV} {up : Value} {us : List Value} (hp : LR σ (.el p i off) up) (hv : VRs I σ w cs us) (hs : storeEl st p i off cs = some st') :
  ∃ b o w' I' σ', up = .pointer (some ⟨b, o, none⟩) ∧ (storeCells ⟨b, o, none⟩ us 0).run P w = .ok () w' ∧ Tr L I σ st w I' σ' st' w' := by
 have flat : ∀ {I1 : Nat → Prop} {σ1 : Nat → Option Own} {st1 : St} {id : Nat} {cs1 : List AV}, Tr L I σ st w I1 σ1 st1 w → st1.heap.deepAt (.t id) = false → LR σ1 (.el (.t id) i off) up → VRs I1 σ1 w cs1 us →
   ((freezes 4 st1 cs1).bind fun r => (r.2.heap.arrAt (.t id)).bind (Go.Q.storeFlat r.2 (.t id) i off r.1)) = some st' → ∃ b o w' I' σ', up = .pointer (some ⟨b, o, none⟩) ∧ (storeCells ⟨b, o, none⟩ us 0).run P w = .ok () w' ∧ Tr L I σ st w I' σ' st' w' := by
  intro I1 σ1 st1 id cs1 t1 hd hp hv hs
  simp only [Option.bind_eq_some_iff] at hs
  obtain ⟨⟨cs2, st2⟩, hf, v, ha, hs⟩ := hs
  obtain ⟨I2, t2, hv2⟩ := freezes_ok 4 t1.hr t1.live hv hf
  obtain ⟨b, o, w', q1, q2, q3⟩ := Tr.storeFlat (P := P) t2.hr t2.live (deepAt_freezes 4 hd hf) ha hp hv2 hs
  exact ⟨b, o, w', I2, σ1, q1, q2, (t1.trans t2).trans q3⟩
 cases p with
 | t id =>
  simp only [Go.Q.storeEl] at hs
  split at hs
  ·rename_i m t xs hg
   split at hs
   ·rename_i s hsd
    cases hs
    obtain ⟨b, o, w', σ', q1, q2, q3⟩ := Tr.storeDeep (P := P) h hl hg hp hv hsd
    exact ⟨b, o, w', I, σ', q1, q2, q3⟩
   ·obtain ⟨I1, σ1, t1, hf1, _⟩ := Tr.freezeIn (L := L) h hl id
    refine flat t1 (freezeIn_deep st id) ?_ (VRs.map t1.sub (fun _ _ => rfl) _ hf1 cs us hv) hs
    have := hf1 _ _ hp
    rw [frozenInF_el] at this
    exact VR.toLR this rfl
  ·rename_i hno
   refine flat (Tr.refl h hl) ?_ hp hv hs
   simp only [Heap.deepAt]
   split
   ·rename_i m d t xs hg
    cases d with
    | false => rfl
    | true => exact absurd hg (hno m t xs)
   ·rfl
 | n id j o =>
  simp only [Go.Q.storeEl] at hs
  split at hs
  ·cases hs
  ·simp only [Option.bind_eq_some_iff] at hs
   obtain ⟨v, ha, hs⟩ := hs
   obtain ⟨b, o, w', q1, q2, q3⟩ := Tr.storeFlat (P := P) h hl rfl ha hp hv hs
   exact ⟨b, o, w', I, σ, q1, q2, q3⟩

theorem Tr.storeAt (h : HR I σ w st.heap) (hl : ∀ b, Live σ st.heap b → L b) (hE : TabOK P E) {T : Nat} {p v : AV} {up uv : Value} (hp : VR I σ w p up) (hv : VR I σ w v uv) (hs : Go.Q.storeAt E st T p v = some st') :
  ∃ w' I' σ', (Instr.storeAt T up uv).run P w = .ok () w' ∧ Tr L I σ st w I' σ' st' w' := by
 simp only [Go.Q.storeAt, Option.bind_eq_some_iff] at hs
 obtain ⟨ti, h1, hs⟩ := hs
 have hT := hE.tab T ti h1
 split at hs
 ·cases hs
 ·rename_i hc
  simp only [not_or, ne_eq, Decidable.not_not] at hc
  obtain ⟨hlen, hund⟩ := hc
  have hvu : v ≠ .undef := by rintro rfl; exact hund rfl
  have hcs := (VR.cells hv hvu).1
  have hcl : uv.cells.size = ti.size := by rw [← hlen, ← VRs.length hcs]; simp
  split at hs
  ·rename_i id off
   obtain ⟨ow, b, g1, g2, rfl⟩ := hp
   split at hs
   ·rename_i vs hg
    split at hs
    ·rename_i hcond
     obtain ⟨hoff, hone⟩ := hcond
     cases hs
     obtain ⟨ow', k1, k2, b', es, T', k3, k4, k5⟩ := h.objs id _ hg
     rw [g1] at k1; cases k1
     rw [g2] at k3; cases k3
     have hes := VRs.length k5
     have hrun := run_storeCells_at P b off T' uv.cells.toList 0 es.toArray w k4 (by simp; omega) (VRs.isOne hcs hone)
     simp only [Nat.add_zero, Array.length_toList] at hrun
     refine ⟨_, I, σ, run_storeAt hT hcl hrun, ?_⟩
     have hbl : blockOf ow.h.v = some b := by rw [g2]; rfl
     refine Tr.store h hl hg rfl g1 (moved_setRow w b _) (fun k hk => by subst hk; exact .inl hbl) ?_ (fun h => h)
     have hw : ∀ k, I k → (w.setRow b (es.toArray.toList.take off ++ uv.cells.toList ++ es.toArray.toList.drop (off + uv.cells.size)).toArray).heap[k]? = w.heap[k]? := fun k hk => setRow_other w b k _ (fun e => by subst e; exact (h.own k ⟨id, _, ow, hg, rfl, g1, .inl hbl⟩).1 hk)
     refine ⟨k2, b, es.take off ++ uv.cells.toList ++ es.drop (off + uv.cells.size), T', g2, by simpa using setRow_heap w b _ _ _ _ k4, ?_⟩
     refine VRs.mono (fun _ h => h) hw (fun _ _ h => h) _ _ ?_
     have := VRs.append (VRs.append (VRs.take off k5) hcs) (VRs.drop (off + ti.size) k5)
     rw [hcl]; exact this
    ·cases hs
   ·cases hs
  ·rename_i p i off
   obtain ⟨b, o, w', I', σ', rfl, q2, q3⟩ := Tr.storeEl (P := P) h hl hp hcs hs
   exact ⟨w', I', σ', run_storeAt hT hcl q2, q3⟩
  ·cases hs

end
end Go.Q
