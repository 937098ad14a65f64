/- An abstract interpreter of the translated code: variables, stores, own arrays. -/
import Derived.Test.YtlbommlpkdcmnaaGPIOps2
import Derived.Great.BuildSlice
import Derived.Great.FillDense
import Derived.Laws.MakeOwn
namespace Go.PI
open Go
section
variable {P : Program} {E : Env} {M : Nat → Prop} {w0 : World} {I0 I : Nat → Prop} {σ : Nat → Option Own} {st : St} {a : Act} {w : World}

theorem moved_alloc (w : World) (o : Go.Obj) : Moved (fun _ => False) w (w.alloc o) :=
  ⟨rfl, rfl, rfl, by simp, fun b hb _ => heap_alloc_old w o hb⟩

theorem alloc_new (w : World) (o : Go.Obj) : (w.alloc o).heap[w.heap.size]? = some o := heap_alloc_new w o

theorem moved_setRow (w : World) (b : Nat) (cs : Array Value) : Moved (fun k => k = b) w (w.setRow b cs) :=
  ⟨rfl, rfl, rfl, by simp, fun k _ hk => setRow_other w b k cs hk⟩

theorem VR.isOne {v : AV} {u : Value} (h : VR I σ w v u) (h1 : v.isOne = true) : u.oneCell' = true := by
  cases v with
  | undef => cases h1
  | skip => cases h1
  | agg vs => cases h1
  | tuple vs => cases h1
  | own e t xs => cases h1
  | d t x => exact DR.one t x _ h u (by simp)
  | nilS => obtain rfl := h; rfl
  | empS => obtain ⟨A, rfl⟩ := h; rfl
  | nilF => obtain rfl := h; rfl
  | nilP => obtain rfl := h; rfl
  | os id => obtain ⟨A, n, cap, z, _, rfl⟩ := h; rfl
  | sub id p n => obtain ⟨A, len, cap, z, _, _, A', rfl, _⟩ := h; rfl
  | el id i off => obtain ⟨b, o, len, cap, z, _, _, rfl⟩ := h; rfl
  | op id off => obtain ⟨b, z, _, rfl⟩ := h; rfl
  | rp vs => obtain ⟨b, o, es, rfl, _⟩ := h; rfl
  | fn f vs => obtain ⟨es, rfl, _⟩ := h; rfl

theorem VRs.isOne : ∀ {vs : List AV} {us : List Value}, VRs I σ w vs us → vs.all AV.isOne = true → ∀ u ∈ us, u.oneCell' = true
  | [], _, h, _, u, hu => by rw [h] at hu; simp at hu
  | v :: vs, _, h, h1, u, hu => by
    obtain ⟨e, es', rfl, h2, h3⟩ := h
    simp only [List.all_cons, Bool.and_eq_true] at h1
    rcases List.mem_cons.1 hu with rfl | hu
    · exact VR.isOne h2 h1.1
    · exact VRs.isOne h3 h1.2 u hu

/-- A new variable. -/
theorem Rel.allocBox (h : Rel M w0 I0 I σ st a w) (id T : Nat) {vs : List AV} {es : List Value} (hv : VRs I σ w vs es) :
    ∃ σ', Rel M w0 I0 I σ' (st.alloc id (.box T vs)) a (w.alloc (.cells es.toArray T)) ∧ VR I σ' (w.alloc (.cells es.toArray T)) (.op id 0) (.pointer (some ⟨w.heap.size, 0, none⟩)) := by
  have hI : ∀ b, I b → (w.alloc (.cells es.toArray T)).heap[b]? = w.heap[b]? := fun b hb => (moved_alloc w _).block b (h.lt b hb) (fun h => h)
  refine ⟨_, h.alloc (ow := ⟨.pointer (some ⟨w.heap.size, 0, none⟩), 0⟩) (moved_alloc w _) (fun b hb => ?_) (fun σ' hk => ?_) (fun σ' hk => ?_), w.heap.size, 0, by simp, rfl⟩
  · simp only [blockOf, Option.some.injEq] at hb; subst hb; exact ⟨by simp, h.free_new _ (Nat.le_refl _)⟩
  · exact ⟨w.heap.size, es, rfl, alloc_new w _, VRs.mono (fun _ h => h) hI hk vs es hv⟩
  · exact ⟨w.heap.size, es, rfl, alloc_new w _, VRs.mono (fun _ h => h) hI (fun _ _ h => h) _ es (VRs.kill id hk vs es hv)⟩

/-- Elements, one behind the other. -/
def RowR (I : Nat → Prop) (w : World) (t : Ty) : List t.Den → List Value → Prop
  | [], cs => cs = []
  | x :: xs, cs => ∃ es rest, cs = es ++ rest ∧ DR I w t x es ∧ RowR I w t xs rest

theorem RowR.length {t : Ty} : ∀ {xs : List t.Den} {cs : List Value}, RowR I w t xs cs → cs.length = xs.length * t.size
  | [], _, h => by rw [h]; simp
  | x :: xs, _, h => by obtain ⟨es, rest, rfl, h1, h2⟩ := h; simp [DR.length t x es h1, RowR.length h2, Nat.add_mul, Nat.add_comm]

theorem RowR.one {t : Ty} : ∀ {xs : List t.Den} {cs : List Value}, RowR I w t xs cs → ∀ u ∈ cs, u.oneCell' = true
  | [], _, h, u, hu => by rw [h] at hu; simp at hu
  | x :: xs, _, h, u, hu => by
    obtain ⟨es, rest, rfl, h1, h2⟩ := h
    rcases List.mem_append.1 hu with hu | hu
    · exact DR.one t x es h1 u hu
    · exact RowR.one h2 u hu

theorem RowR.append {t : Ty} : ∀ {xs ys : List t.Den} {cs ds : List Value}, RowR I w t xs cs → RowR I w t ys ds → RowR I w t (xs ++ ys) (cs ++ ds)
  | [], _, _, _, h, h' => by rw [h]; exact h'
  | x :: xs, _, _, _, h, h' => by obtain ⟨es, rest, rfl, h1, h2⟩ := h; exact ⟨es, rest ++ _, by simp, h1, RowR.append h2 h'⟩

theorem RowR.mono {I' : Nat → Prop} {w' : World} {t : Ty} (hI : ∀ b, I b → I' b) (hw : ∀ b, I b → w'.heap[b]? = w.heap[b]?) : ∀ {xs : List t.Den} {cs : List Value}, RowR I w t xs cs → RowR I' w' t xs cs
  | [], _, h => h
  | x :: xs, _, h => by obtain ⟨es, rest, rfl, h1, h2⟩ := h; exact ⟨es, rest, rfl, DR.mono hI hw t x es h1, RowR.mono hI hw h2⟩

/-- The elements of a row, by their numbers. -/
theorem RowR.at {t : Ty} : ∀ {xs : List t.Den} {cs : List Value}, RowR I w t xs cs → ∀ (i : Nat) (h : i < xs.length), ∃ es, DR I w t (xs.get ⟨i, h⟩) es ∧ ∀ j u, es[j]? = some u → cs[i * t.size + j]? = some u
  | x :: xs, _, h, 0, _ => by
    obtain ⟨es, rest, rfl, h1, h2⟩ := h
    refine ⟨es, h1, fun j u hj => ?_⟩
    have := (List.getElem?_eq_some_iff.1 hj).1
    rw [Nat.zero_mul, Nat.zero_add, List.getElem?_append_left this]; exact hj
  | x :: xs, _, h, i + 1, hi => by
    obtain ⟨es, rest, rfl, h1, h2⟩ := h
    obtain ⟨es', k1, k2⟩ := RowR.at h2 i (by simpa using hi)
    refine ⟨es', k1, fun j u hj => ?_⟩
    have hl := DR.length t x es h1
    rw [List.getElem?_append_right (by rw [hl, Nat.add_mul]; omega), show (i + 1) * t.size + j - es.length = i * t.size + j from by rw [hl, Nat.add_mul]; omega]
    exact k2 j u hj

/-- A row out of what its elements' cells are. -/
theorem RowR.of {t : Ty} : ∀ {xs : List t.Den} {cs : List Value}, cs.length = xs.length * t.size → (∀ (i : Nat) (h : i < xs.length), ∃ es, DR I w t (xs.get ⟨i, h⟩) es ∧ ∀ j u, es[j]? = some u → cs[i * t.size + j]? = some u) → RowR I w t xs cs
  | [], cs, hl, _ => List.eq_nil_of_length_eq_zero (by simpa using hl)
  | x :: xs, cs, hl, h => by
    obtain ⟨es, h1, h2⟩ := h 0 (by simp)
    have hes := DR.length t _ es h1
    have hl' : cs.length = xs.length * t.size + t.size := by rw [hl, List.length_cons, Nat.add_mul]; omega
    have he : cs.take t.size = es := by
      apply List.ext_getElem?
      intro j
      rw [List.getElem?_take]
      split
      · rename_i hj
        have : es[j]? = some es[j] := List.getElem?_eq_getElem (by omega)
        rw [this]
        simpa using h2 j _ this
      · rename_i hj; rw [List.getElem?_eq_none (by omega)]
    refine ⟨es, cs.drop t.size, by rw [← he, List.take_append_drop], h1, RowR.of (by rw [List.length_drop]; omega) fun i hi => ?_⟩
    obtain ⟨es', k1, k2⟩ := h (i + 1) (by simpa using hi)
    refine ⟨es', k1, fun j u hj => ?_⟩
    rw [List.getElem?_drop, show t.size + (i * t.size + j) = (i + 1) * t.size + j from by rw [Nat.add_mul]; omega]
    exact k2 j u hj

/-- The cells of an own array's elements. -/
theorem ArrR.row {t : Ty} {xs : List t.Den} {o cap : Nat} {cells : Array Value} (hs : o + cap * t.size ≤ cells.size) (hc : xs.length ≤ cap)
    (hx : ∀ (i : Nat) (h : i < xs.length), ∃ es, DR I w t (xs.get ⟨i, h⟩) es ∧ ∀ j u, es[j]? = some u → cells[o + i * t.size + j]? = some u) :
    RowR I w t xs ((cells.toList.drop o).take (xs.length * t.size)) := by
  have hm : xs.length * t.size ≤ cap * t.size := Nat.mul_le_mul_right _ hc
  refine RowR.of (by simp; omega) fun i hi => ?_
  obtain ⟨es, h1, h2⟩ := hx i hi
  refine ⟨es, h1, fun j u hj => ?_⟩
  have hes := DR.length t _ es h1
  have hj' := (List.getElem?_eq_some_iff.1 hj).1
  have : i * t.size + j < xs.length * t.size := by
    have : (i + 1) * t.size ≤ xs.length * t.size := Nat.mul_le_mul_right _ hi
    rw [Nat.add_mul] at this; omega
  rw [List.getElem?_take, if_pos this, List.getElem?_drop, ← Nat.add_assoc]
  simpa using h2 j u hj

/-- A new own array in a new block. -/
theorem Rel.allocArr (h : Rel M w0 I0 I σ st a w) (id e : Nat) {t : Ty} {xs : List t.Den} {cs rest : List Value} {cap : Nat} {w' : World} (hm : Moved (fun _ => False) w w')
    (hn : w'.heap[w.heap.size]? = some (.cells (cs ++ rest).toArray e (0, 0))) (hr : RowR I w t xs cs) (hc : xs.length ≤ cap) (hs : cap * t.size ≤ cs.length + rest.length) :
    ∃ σ', Rel M w0 I0 I σ' (st.alloc id (.arr e t xs)) a w' ∧ VR I σ' w' (.os id) (.slice (some ⟨w.heap.size, 0, none⟩) xs.length cap) := by
  have hI : ∀ b, I b → w'.heap[b]? = w.heap[b]? := fun b hb => hm.block b (h.lt b hb) (fun h => h)
  have ho : ObjR I σ w' ⟨.slice (some ⟨w.heap.size, 0, none⟩) xs.length cap, t.size⟩ (.arr e t xs) := by
    refine ⟨rfl, .inr ⟨w.heap.size, 0, cap, _, rfl, hn, by simpa using hs, hc, fun i hi => ?_⟩⟩
    obtain ⟨es, k1, k2⟩ := (RowR.mono (fun _ h => h) hI hr).at i hi
    refine ⟨es, k1, fun j u hj => ?_⟩
    have := k2 j u hj
    have h3 := (List.getElem?_eq_some_iff.1 this).1
    simp only [Nat.zero_add, List.getElem?_toArray]
    rw [List.getElem?_append_left h3]; exact this
  refine ⟨_, h.alloc (ow := ⟨.slice (some ⟨w.heap.size, 0, none⟩) xs.length cap, t.size⟩) hm (fun b hb => ?_) (fun _ _ => ho) (fun _ _ => ho), some ⟨w.heap.size, 0, none⟩, xs.length, cap, t.size, by simp, rfl⟩
  have hb : w.heap.size = b := by
    simp only [blockOf] at hb
    split at hb
    · cases hb
    · simpa using hb
  subst hb
  exact ⟨(Array.getElem?_eq_some_iff.1 hn).1, h.free_new _ (Nat.le_refl _)⟩

/-- Own arrays that become elements. -/
theorem Rel.freeze1 (h : Rel M w0 I0 I σ st a w) {v v' : AV} {st' : St} {u : Value} (hv : VR I σ w v u) (hf : st.freeze1 v = some (v', st')) :
    ∃ I' : Nat → Prop, (∀ b, I b → I' b) ∧ Rel M w0 I0 I' σ st' a w ∧ VR I' σ w v' u := by
  unfold St.freeze1 at hf
  split at hf
  · rename_i id
    split at hf
    · rename_i e t xs hg
      cases hf
      obtain ⟨I', h1, h2, h3, _⟩ := h.freeze hg
      exact ⟨I', h1, h2, h3 u hv⟩
    · cases hf
  · rename_i id p n
    split at hf
    · rename_i e t xs hg
      cases hf
      obtain ⟨I', h1, h2, _, h3, _⟩ := h.freeze hg
      exact ⟨I', h1, h2, h3 p n u hv⟩
    · cases hf
  · cases hf; exact ⟨I, fun _ h => h, h, hv⟩

theorem Rel.freezes : ∀ (vs : List AV) {I : Nat → Prop} {st st' : St} {vs' : List AV} {us : List Value}, Rel M w0 I0 I σ st a w → VRs I σ w vs us → st.freezes vs = some (vs', st') →
    ∃ I' : Nat → Prop, (∀ b, I b → I' b) ∧ Rel M w0 I0 I' σ st' a w ∧ VRs I' σ w vs' us
  | [], I, st, st', vs', us, h, hv, hf => by simp only [St.freezes, Option.some.injEq, Prod.mk.injEq] at hf; obtain ⟨rfl, rfl⟩ := hf; exact ⟨I, fun _ h => h, h, hv⟩
  | v :: vs, I, st, st', vs', us, h, hv, hf => by
    obtain ⟨e, es', rfl, h2, h3⟩ := hv
    simp only [St.freezes, Option.bind_eq_some_iff, Option.map_eq_some_iff, Prod.mk.injEq] at hf
    obtain ⟨⟨v1, st1⟩, k1, ⟨vs2, st2⟩, k2, rfl, rfl⟩ := hf
    obtain ⟨I1, m1, m2, m3⟩ := h.freeze1 h2 k1
    obtain ⟨I2, n1, n2, n3⟩ := Rel.freezes vs m2 (VRs.mono m1 (fun _ _ => rfl) (fun _ _ h => h) vs es' h3) k2
    exact ⟨I2, fun b hb => n1 b (m1 b hb), n2, e, es', rfl, VR.mono n1 (fun _ _ => rfl) (fun _ _ h => h) _ _ m3, n3⟩


theorem Rel.freezeV (h : Rel M w0 I0 I σ st a w) {v v' : AV} {st' : St} {u : Value} (hv : VR I σ w v u) (hf : st.freezeV v = some (v', st')) :
    ∃ I' : Nat → Prop, (∀ b, I b → I' b) ∧ Rel M w0 I0 I' σ st' a w ∧ VR I' σ w v' u := by
  unfold St.freezeV at hf
  split at hf
  · simp only [Option.map_eq_some_iff, Prod.mk.injEq] at hf
    obtain ⟨⟨vs', st1⟩, k1, rfl, rfl⟩ := hf
    obtain ⟨es, rfl, h2⟩ := hv
    obtain ⟨I', m1, m2, m3⟩ := Rel.freezes _ h h2 k1
    exact ⟨I', m1, m2, es, rfl, m3⟩
  · exact h.freeze1 hv hf

theorem Rel.freezeVs : ∀ (vs : List AV) {I : Nat → Prop} {st st' : St} {vs' : List AV} {us : List Value}, Rel M w0 I0 I σ st a w → VRs I σ w vs us → st.freezeVs vs = some (vs', st') →
    ∃ I' : Nat → Prop, (∀ b, I b → I' b) ∧ Rel M w0 I0 I' σ st' a w ∧ VRs I' σ w vs' us
  | [], I, st, st', vs', us, h, hv, hf => by simp only [St.freezeVs, Option.some.injEq, Prod.mk.injEq] at hf; obtain ⟨rfl, rfl⟩ := hf; exact ⟨I, fun _ h => h, h, hv⟩
  | v :: vs, I, st, st', vs', us, h, hv, hf => by
    obtain ⟨e, es', rfl, h2, h3⟩ := hv
    simp only [St.freezeVs, Option.bind_eq_some_iff, Option.map_eq_some_iff, Prod.mk.injEq] at hf
    obtain ⟨⟨v1, st1⟩, k1, ⟨vs2, st2⟩, k2, rfl, rfl⟩ := hf
    obtain ⟨I1, m1, m2, m3⟩ := h.freezeV h2 k1
    obtain ⟨I2, n1, n2, n3⟩ := Rel.freezeVs vs m2 (VRs.mono m1 (fun _ _ => rfl) (fun _ _ h => h) vs es' h3) k2
    exact ⟨I2, fun b hb => n1 b (m1 b hb), n2, e, es', rfl, VR.mono n1 (fun _ _ => rfl) (fun _ _ h => h) _ _ m3, n3⟩

theorem isEmpty_nil {α : Type} {l : List α} (h : l.isEmpty = true) : l = [] := by cases l <;> simp_all

/-- Values that are elements: their cells. -/
theorem elems_ok {t : Ty} : ∀ {vs : List AV} {us : List Value} {xs : List t.Den}, VRs I σ w vs us → elems t vs = some xs →
    RowR I w t xs (us.flatMap fun u => u.cells.toList) ∧ xs.length = vs.length ∧ ∀ u ∈ us, u.cells.size = t.size
  | [], us, xs, h, he => by simp only [elems, Option.some.injEq] at he; subst he; rw [h]; exact ⟨rfl, rfl, by simp⟩
  | v :: vs, us, xs, h, he => by
    obtain ⟨e, es', rfl, h2, h3⟩ := h
    simp only [elems] at he
    split at he
    · cases he
    · rename_i hu
      simp only [Option.bind_eq_some_iff] at he
      obtain ⟨⟨x, r⟩, k1, he⟩ := he
      split at he
      · rename_i hr
        simp only [Option.map_eq_some_iff] at he
        obtain ⟨xs', k2, rfl⟩ := he
        obtain ⟨m1, m2, m3⟩ := elems_ok h3 k2
        have hr' : r = [] := isEmpty_nil hr
        subst hr'
        have hv : v ≠ .undef := by rintro rfl; exact hu rfl
        obtain ⟨c1, c2, q1, q2, q3⟩ := VRs.unflat t (VR.cells h2 hv).1 k1
        have hc2 : c2 = [] := q3
        subst hc2
        rw [List.append_nil] at q1
        refine ⟨⟨c1, _, by rw [List.flatMap_cons, q1], q2, m1⟩, by simp [m2], fun u hu => ?_⟩
        rcases List.mem_cons.1 hu with rfl | hu
        · have := DR.length t x c1 q2; rw [← q1] at this; simpa using this
        · exact m3 u hu
      · cases he

theorem zipIdx_inOrder : ∀ (k : Nat) (ps : List (Nat × AV)), inOrder k ps = true → ps = ((ps.map (·.2)).zipIdx k).map fun x => (x.2, x.1)
  | _, [], _ => rfl
  | k, p :: ps, h => by
    simp only [inOrder, Bool.and_eq_true, beq_iff_eq] at h
    have := zipIdx_inOrder (k + 1) ps h.2
    simp only [List.map_cons, List.zipIdx_cons]
    rw [← this, ← h.1]

/-- An array's literal. -/
theorem Rel.buildSlice (h : Rel M w0 I0 I σ st a w) (hE : TabOK P E) {id T len : Nat} {parts : List (Nat × AV)} {us : List Value} {v : AV} {st' : St}
    (hp : VRs I σ w (parts.map (·.2)) us) (hb : Go.PI.buildSlice E st id T len parts = some (v, st')) :
    ∃ u w' I' σ', (Instr.buildSlice T len ((us.zipIdx 0).map fun x => (x.2, x.1)).toArray).run P w = .ok u w' ∧ Rel M w0 I0 I' σ' st' a w' ∧ VR I' σ' w' v u := by
  simp only [Go.PI.buildSlice, Option.bind_eq_some_iff] at hb
  obtain ⟨ti, h1, hb⟩ := hb
  have hd := (hE.tab T ti h1).desc
  cases hdd : ti.desc <;> simp only [hdd] at hb hd
  case slice e =>
    simp only [Option.bind_eq_some_iff] at hb
    obtain ⟨t, h2, hb⟩ := hb
    split at hb
    · rename_i hc
      obtain ⟨hlen, hord, hsmall, hsz, hcells⟩ := hc
      simp only [Option.bind_eq_some_iff, Option.some.injEq, Prod.mk.injEq] at hb
      obtain ⟨⟨vs, st1⟩, k1, xs, k2, rfl, rfl⟩ := hb
      obtain ⟨I1, m1, m2, m3⟩ := Rel.freezeVs _ h hp k1
      obtain ⟨r1, r2, r3⟩ := elems_ok m3 k2
      obtain ⟨ie, z, i1, i2, i3, i4, i5⟩ := hE.ty e t h2
      have hus : us.length = len := by rw [VRs.length hp, List.length_map, hlen]
      have hxs : xs.length = len := by rw [r2, ← VRs.length m3, hus]
      have hrl := RowR.length r1
      by_cases h0 : len = 0
      · have hus0 : us = [] := List.eq_nil_of_length_eq_zero (by omega)
        have hxs0 : xs = [] := List.eq_nil_of_length_eq_zero (by omega)
        subst hus0; subst hxs0; subst h0
        refine ⟨.slice (some ⟨w.heap.size, 0, none⟩) 0 0, w.alloc (.cells #[] e), I1, ?_⟩
        obtain ⟨σ', q1, q2⟩ := m2.allocArr id e (t := t) (xs := []) (cs := []) (rest := []) (cap := 0) (moved_alloc w (.cells #[] e)) (alloc_new w _) rfl (Nat.le_refl _) (by simp)
        refine ⟨σ', ?_, q1, q2⟩
        simp [Instr.buildSlice, run_under hd, sizeOf, typeInfo, i1, newRow, Instr.fill, Array.range_zero']
      · have hpos : ¬ len * ie.size = 0 := by rw [i2]; exact Nat.mul_ne_zero h0 hsz
        have hz : ((Array.range (len * ie.size)).map (z.cells[· % z.cells.size]!)).size = len * ie.size := by simp
        have hfill := Go.Great.fill_whole (s := ie.size) (by omega) us _ (fun u hu => by rw [r3 u hu, i2]) (by rw [hz, hus])
        refine ⟨.slice (some ⟨w.heap.size, 0, none⟩) len len, w.alloc (.cells (us.flatMap fun v => v.cells.toList).toArray e), I1, ?_⟩
        obtain ⟨σ', q1, q2⟩ := m2.allocArr id e (t := t) (xs := xs) (cs := us.flatMap fun u => u.cells.toList) (rest := []) (cap := len) (moved_alloc w (.cells (us.flatMap fun v => v.cells.toList).toArray e)) (by rw [List.append_nil]; exact alloc_new w _) r1 (by omega) (by rw [hrl, hxs]; simp)
        refine ⟨σ', ?_, q1, by rw [hxs] at q2; exact q2⟩
        exact run_buildSlice w T e len _ _ ie z hd i1 i3 (by rw [i2]; omega) hpos (by simpa using hfill)
    · cases hb
  all_goals cases hb

theorem madeCells_at {z : Array Value} {n i j : Nat} {t : Ty} (hz : z.size = t.size) (hi : i < n) {u : Value} (hj : z[j]? = some u) : (madeCells z (n * t.size))[i * t.size + j]? = some u := by
  have hj' : j < z.size := (Array.getElem?_eq_some_iff.1 hj).1
  have hu : z[j] = u := (Array.getElem?_eq_some_iff.1 hj).2
  have hlt : i * t.size + j < n * t.size := by
    have : (i + 1) * t.size ≤ n * t.size := Nat.mul_le_mul_right _ hi
    rw [Nat.add_mul] at this; omega
  have hm : (i * t.size + j) % z.size = j := by rw [hz, Nat.mul_comm, Nat.mul_add_mod]; exact Nat.mod_eq_of_lt (by omega)
  simp only [madeCells, Array.getElem?_map, Array.getElem?_range, hlt, if_true, Option.map_some, hm]
  rw [getElem!_pos z j hj', hu]

/-- make -/
theorem Rel.makeSlice (h : Rel M w0 I0 I σ st a w) (hE : TabOK P E) {id T : Nat} {n m : Int} {kn km : IntKind} {v : AV} {st' : St} (hb : Go.PI.makeSlice E st id T n m = some (v, st')) :
    ∃ u w' σ', (Instr.makeSlice T (.int kn n) (.int km m)).run P w = .ok u w' ∧ Rel M w0 I0 I σ' st' a w' ∧ VR I σ' w' v u := by
  simp only [Go.PI.makeSlice, Option.bind_eq_some_iff] at hb
  obtain ⟨ti, h1, hb⟩ := hb
  have hd := (hE.tab T ti h1).desc
  cases hdd : ti.desc <;> simp only [hdd] at hb hd
  case slice e =>
    simp only [Option.bind_eq_some_iff] at hb
    obtain ⟨te, h2, t, h3, hb⟩ := hb
    split at hb
    · rename_i hc
      obtain ⟨hn, hnm, hbytes, hm63⟩ := hc
      cases hb
      obtain ⟨ie, z, i1, i2, i3, i4, i5⟩ := hE.ty e t h3
      obtain ⟨ie', j1, j2, j3, _⟩ := (hE.tab e te h2).info
      rw [i1] at j1; cases j1
      have hrun := run_make (P := P) w T e ie z hd i1 i3 kn km n m hn hnm (by rw [j3]; omega) hm63
      have hlen : (List.replicate n.toNat t.zero).length = n.toNat := by simp
      have hnm' : n.toNat ≤ m.toNat := Int.toNat_le_toNat hnm
      have hrow : RowR I w t (List.replicate n.toNat t.zero) ((madeCells z.cells (m.toNat * ie.size)).toList.take (n.toNat * t.size)) := by
        have hle : n.toNat * t.size ≤ m.toNat * t.size := Nat.mul_le_mul_right _ (by omega)
        refine RowR.of (by rw [List.length_take, Array.length_toList, size_madeCells, i2, hlen]; omega) fun i hi => ?_
        refine ⟨z.cells.toList, by simpa using i5 I w, fun j u hj => ?_⟩
        have hj' : z.cells[j]? = some u := by simpa using hj
        have hjs : j < t.size := by have := (Array.getElem?_eq_some_iff.1 hj').1; omega
        have hi' : i < n.toNat := by simpa using hi
        have hlt : i * t.size + j < n.toNat * t.size := by
          have : (i + 1) * t.size ≤ n.toNat * t.size := Nat.mul_le_mul_right _ hi'
          rw [Nat.add_mul] at this; omega
        rw [List.getElem?_take, if_pos hlt]
        have := madeCells_at (n := m.toNat) (i := i) i4 (Nat.lt_of_lt_of_le hi' hnm') hj'
        rw [i2]; simpa using this
      obtain ⟨σ', q1, q2⟩ := h.allocArr id e (t := t) (xs := List.replicate n.toNat t.zero) (cs := (madeCells z.cells (m.toNat * ie.size)).toList.take (n.toNat * t.size)) (rest := (madeCells z.cells (m.toNat * ie.size)).toList.drop (n.toNat * t.size)) (cap := m.toNat)
        (moved_alloc w _) (by rw [List.take_append_drop]; exact alloc_new w (.cells (madeCells z.cells (m.toNat * ie.size)) e)) hrow (by rw [hlen]; omega) (by
          rw [← List.length_append, List.take_append_drop]; simp [size_madeCells, i2])
      rw [hlen] at q2
      exact ⟨_, _, σ', hrun, q1, q2⟩
    · cases hb
  all_goals cases hb


theorem run_store {T : Nat} {ti : TI} (hT : TIok P E T ti) {b o e : Nat} {cur : Array Value} (hg : w.heap[b]? = some (.cells cur e (0, 0))) {u : Value} (hl : u.cells.size = ti.size) (ho : o + u.cells.size ≤ cur.size) (h1 : ∀ v ∈ u.cells.toList, v.oneCell' = true) :
    (Instr.storeAt T (.pointer (some ⟨b, o, none⟩)) u).run P w = .ok () (w.setRow b (cur.toList.take o ++ u.cells.toList ++ cur.toList.drop (o + u.cells.size)).toArray) := by
  have := run_storeCells_at P b o e u.cells.toList 0 cur w hg (by simpa using ho) h1
  simp only [Nat.add_zero, Array.length_toList] at this
  simp [Instr.storeAt, Instr.sureAddr, storeVar, run_size hT, hl, this]

theorem splice_get {α : Type} (xs us : List α) (o : Nat) (k : Nat) (ho : o + us.length ≤ xs.length) : (xs.take o ++ us ++ xs.drop (o + us.length))[k]? = if k < o then xs[k]? else if k < o + us.length then us[k - o]? else xs[k]? := by
  have htl : (xs.take o).length = o := by rw [List.length_take]; omega
  by_cases h1 : k < o
  · rw [if_pos h1, List.append_assoc, List.getElem?_append_left (by omega), List.getElem?_take, if_pos h1]
  · rw [if_neg h1]
    by_cases h2 : k < o + us.length
    · rw [if_pos h2, List.append_assoc, List.getElem?_append_right (by omega), List.getElem?_append_left (by omega), htl]
    · rw [if_neg h2, List.getElem?_append_right (by rw [List.length_append]; omega), List.getElem?_drop, List.length_append, htl]
      congr 1; omega

/-- A store. -/
theorem Rel.storeAt (h : Rel M w0 I0 I σ st a w) (hE : TabOK P E) {T : Nat} {p v : AV} {up uv : Value} {st' : St} (hp : VR I σ w p up) (hv : VR I σ w v uv) (hs : Go.PI.storeAt E st T p v = some st') :
    ∃ w' I', (Instr.storeAt T up uv).run P w = .ok () w' ∧ Rel M w0 I0 I' σ st' a w' := by
  simp only [Go.PI.storeAt, Option.bind_eq_some_iff] at hs
  obtain ⟨ti, h1, hs⟩ := hs
  have hT := hE.tab T ti h1
  split at hs
  · cases hs
  · rename_i hc
    simp only [not_or, ne_eq, Decidable.not_not] at hc
    obtain ⟨hlen, hund⟩ := hc
    have hvu : v ≠ .undef := by rintro rfl; exact hund rfl
    have hcs := (VR.cells hv hvu).1
    have hcl : uv.cells.size = ti.size := by rw [← hlen, ← VRs.length hcs]; simp
    split at hs
    · rename_i id off
      obtain ⟨b, z, g1, rfl⟩ := hp
      split at hs
      · rename_i B vs hg
        split at hs
        · rename_i hcond
          obtain ⟨hoff, hone⟩ := hcond
          cases hs
          obtain ⟨ow, k1, b', es, k2, k3, k4⟩ := h.objs id _ hg
          rw [g1] at k1; cases k1; cases k2
          have hes := VRs.length k4
          have hrun := run_store hT (o := off) k3 hcl (by simp; omega) (VRs.isOne hcs hone)
          refine ⟨_, I, hrun, ?_⟩
          refine h.store hg rfl g1 rfl (moved_setRow w b _) ?_
          have hw : ∀ k, I k → (w.setRow b (es.take off ++ uv.cells.toList ++ es.drop (off + uv.cells.size)).toArray).heap[k]? = w.heap[k]? := fun k hk => setRow_other w b k _ (fun e => by subst e; exact (h.own id _ _ k hg rfl g1 rfl).1 hk)
          refine ⟨b, es.take off ++ uv.cells.toList ++ es.drop (off + uv.cells.size), rfl, by simpa using setRow_heap w b _ _ _ _ k3, ?_⟩
          refine VRs.mono (fun _ h => h) hw (fun _ _ h => h) _ _ ?_
          have := VRs.append (VRs.append (VRs.take off k4) hcs) (VRs.drop (off + ti.size) k4)
          rw [hcl]; exact this
        · cases hs
      · cases hs
    · rename_i id i off
      simp only [Option.bind_eq_some_iff] at hs
      obtain ⟨⟨ds, st2⟩, k1, hs⟩ := hs
      obtain ⟨I1, m1, m2, m3⟩ := Rel.freezes _ h hcs k1
      obtain ⟨b, o, len, cap, z, g1, g2, rfl⟩ := VR.mono m1 (fun _ _ => rfl) (fun _ _ h => h) _ _ hp
      simp only at hs
      split at hs
      · rename_i e t xs hg
        split at hs
        · rename_i hoff
          simp only [Option.bind_eq_some_iff, Option.some.injEq] at hs
          obtain ⟨⟨y, r⟩, k2, rfl⟩ := hs
          obtain ⟨ow, n1, n2, n3⟩ := m2.objs id _ hg
          rw [g1] at n1; cases n1
          simp only at n2 n3
          subst n2
          rcases n3 with ⟨A', n3, _⟩ | ⟨b', o', cap', cells, n3, n4, n5, n6, n7⟩
          · cases n3; exact absurd g2 (by simp)
          · cases n3
            have hds := VRs.length m3
            obtain ⟨es, q1, q2⟩ := n7 i g2
            have hes := DR.length t _ es q1
            have hget : xs.getD i t.zero = xs.get ⟨i, g2⟩ := by simp [List.getD, g2]
            have hfl : VRs I1 σ w (flat t (xs.getD i t.zero)) es := by rw [hget]; exact VRs.flat t _ _ q1
            have hall := VRs.append (VRs.append (VRs.take off hfl) m3) (VRs.drop (off + ti.size) hfl)
            have hlu : uv.cells.toList.length = ti.size := by simp [hcl]
            have hal : (es.take off ++ uv.cells.toList ++ es.drop (off + ti.size)).length = t.size := by simp only [List.length_append, List.length_take, List.length_drop, hes, hlu]; omega
            obtain ⟨c1, c2, r1, r2, r3⟩ := VRs.unflat t hall k2
            have hc1 := DR.length t y c1 r2
            have hc2 : c2 = [] := List.eq_nil_of_length_eq_zero (by have := congrArg List.length r1; rw [hal, List.length_append] at this; omega)
            subst hc2
            rw [List.append_nil] at r1
            have hmul : (i + 1) * t.size ≤ cap * t.size := Nat.mul_le_mul_right _ (by omega)
            have hmul' : i * t.size + t.size ≤ cap * t.size := by rw [Nat.add_mul] at hmul; omega
            have hone : ∀ u ∈ uv.cells.toList, u.oneCell' = true := fun u hu => DR.one t y c1 r2 u (by rw [← r1]; simp [hu])
            have hrun := run_store hT (o := o + i * t.size + off) n4 hcl (by omega) hone
            refine ⟨_, I1, hrun, ?_⟩
            have hcap : ¬ cap = 0 := by omega
            have hbl : blockOf (.slice (some ⟨b, o, none⟩) xs.length cap) = some b := by simp [blockOf, hcap]
            refine m2.store hg rfl g1 hbl (moved_setRow w b _) ?_
            have hw : ∀ k, I1 k → (w.setRow b (cells.toList.take (o + i * t.size + off) ++ uv.cells.toList ++ cells.toList.drop (o + i * t.size + off + uv.cells.size)).toArray).heap[k]? = w.heap[k]? := fun k hk => setRow_other w b k _ (fun e => by subst e; exact (m2.own id _ _ k hg rfl g1 hbl).1 hk)
            refine ⟨rfl, .inr ⟨b, o, cap, _, by rw [List.length_set], setRow_heap w b _ _ _ _ n4, ?_, by rw [List.length_set]; exact n6, fun k hk => ?_⟩⟩
            · simp only [List.size_toArray, List.length_append, List.length_take, List.length_drop, Array.length_toList]; omega
            · rw [List.length_set] at hk
              by_cases e : k = i
              · subst e
                refine ⟨c1, ?_, fun j u hj => ?_⟩
                · have : ∀ hh, (xs.set k y).get ⟨k, hh⟩ = y := fun hh => by simp
                  rw [this]; exact DR.mono (fun _ h => h) hw t y c1 r2
                · have hjl : j < t.size := by have := (List.getElem?_eq_some_iff.1 hj).1; omega
                  rw [List.getElem?_toArray, hcl, ← hlu, splice_get _ _ _ _ (by rw [hlu]; simp; omega)]
                  rw [← r1, ← hlu, splice_get _ _ _ _ (by rw [hlu, hes]; exact hoff)] at hj
                  rw [hlu] at hj ⊢
                  by_cases e1 : j < off
                  · rw [if_pos (by omega)]; rw [if_pos e1] at hj
                    simpa using q2 j u hj
                  · rw [if_neg (by omega)]; rw [if_neg e1] at hj
                    by_cases e2 : j < off + ti.size
                    · rw [if_pos (by omega)]; rw [if_pos e2] at hj
                      rw [show o + k * t.size + j - (o + k * t.size + off) = j - off from by omega]; exact hj
                    · rw [if_neg (by omega)]; rw [if_neg e2] at hj
                      simpa using q2 j u hj
              · obtain ⟨es', p1, p2⟩ := n7 k hk
                refine ⟨es', ?_, fun j u hj => ?_⟩
                · have : (xs.set i y).get ⟨k, by rw [List.length_set]; exact hk⟩ = xs.get ⟨k, hk⟩ := by simp [Ne.symm e]
                  rw [this]; exact DR.mono (fun _ h => h) hw t _ _ p1
                · have hes' := DR.length t _ es' p1
                  have hjl : j < t.size := by have := (List.getElem?_eq_some_iff.1 hj).1; omega
                  rw [List.getElem?_toArray, hcl, ← hlu, splice_get _ _ _ _ (by rw [hlu]; simp; omega), hlu]
                  have hsep : k * t.size + t.size ≤ i * t.size ∨ i * t.size + t.size ≤ k * t.size := by
                    rcases Nat.lt_or_ge k i with hlt | hge
                    · left; have := Nat.mul_le_mul_right t.size (show k + 1 ≤ i from hlt); rw [Nat.add_mul] at this; omega
                    · right; have := Nat.mul_le_mul_right t.size (show i + 1 ≤ k from by omega); rw [Nat.add_mul] at this; omega
                  have hold : cells.toList[o + k * t.size + j]? = some u := by simpa using p2 j u hj
                  rcases hsep with hs | hs
                  · rw [if_pos (by omega)]; exact hold
                  · rw [if_neg (by omega), if_neg (by omega)]; exact hold
        · cases hs
      · cases hs
    · cases hs

end
end Go.PI
