/- An abstract interpreter of the translated code: operations that yield values. -/
import Derived.Test.YtbapbghnageckaaGreatGQCall3
import Derived.Test.YtbapbghnageckaaGreatGQMap
import Derived.Laws.BytesString
namespace Go.Q
set_option linter.unusedVariables false
set_option linter.unusedSimpArgs false
set_option linter.unusedSectionVars false
open Go
section
variable {P : Program} {E : Env} {B : Base} {I : Nat → Prop} {σ : Nat → Option Own} {st : St} {a : Act} {w : World}

theorem TIok.under {T : Nat} {ti : TI} (h : TIok P E T ti) : ∃ d, P.underlying T = some d := by
  have hd := h.desc
  cases hdd : ti.desc <;> simp only [hdd] at hd
  case struct fs => obtain ⟨fds, hd, _⟩ := hd; exact ⟨_, hd⟩
  case err => obtain ⟨ms, hd⟩ := hd; exact ⟨_, hd⟩
  all_goals first | exact ⟨_, hd⟩ | (obtain ⟨d, hd, _⟩ := hd; exact ⟨d, hd⟩)

theorem run_mapM {α β : Type} (f : α → Sem β) (g : α → β) (xs : Array α) (h : ∀ x ∈ xs.toList, ∀ w, (f x).run P w = .ok (g x) w) (w : World) : (xs.mapM f).run P w = .ok (xs.map g) w := by
  have key : ∀ (l : List α), (∀ x ∈ l, ∀ w, (f x).run P w = .ok (g x) w) → ∀ w, (l.mapM f).run P w = .ok (l.map g) w := by
    intro l
    induction l with
    | nil => intro _ w; simp
    | cons x l ih =>
      intro h w
      rw [List.mapM_cons]
      simp [h x (by simp) w, ih (fun y hy => h y (by simp [hy])) w]
  rw [Array.mapM_eq_mapM_toList]
  simp [key xs.toList h w]
  rw [← Array.toList_map]

theorem AV.isUndef_ne {v : AV} (h : v.isUndef = false) : v ≠ .undef := by rintro rfl; cases h

theorem setsFrom (off : Nat) : ∀ (us : List Value) (k : Nat) (cells : Array Value), off + k + us.length ≤ cells.size →
    ((us.zipIdx k).foldl (fun (cs : Array Value) (x : Value × Nat) => cs.setIfInBounds (off + x.2) x.1) cells).toList = cells.toList.take (off + k) ++ us ++ cells.toList.drop (off + k + us.length)
  | [], k, cells, _ => by simp
  | u :: us, k, cells, h => by
    simp only [List.length_cons] at h
    rw [List.zipIdx_cons, List.foldl_cons, setsFrom off us (k + 1) _ (by simp; omega)]
    simp only [Array.toList_setIfInBounds, List.length_cons]
    have hlt : off + k < cells.toList.length := by simp; omega
    rw [show off + (k + 1) = off + k + 1 from by omega, show off + k + 1 + us.length = off + k + (us.length + 1) from by omega]
    rw [List.take_set, List.drop_set_of_lt (by omega), List.set_take_succ hlt]
    simp
where
  List.set_take_succ {α : Type} {l : List α} {n : Nat} {x : α} (h : n < l.length) : (l.take (n + 1)).set n x = l.take n ++ [x] := by
    induction l generalizing n with
    | nil => simp at h
    | cons y l ih =>
      cases n with
      | zero => simp
      | succ n => simp only [List.take_succ_cons, List.set_cons_succ, List.cons_append]; rw [ih (by simpa using h)]

theorem fill_ok (place : Nat → Option (Nat × Nat)) (f : List AV → Nat × AV → Option (List AV))
    (hf : ∀ acc p r, f acc p = some r → ∃ off sz, place p.1 = some (off, sz) ∧ p.2.isUndef = false ∧ p.2.cells.length = sz ∧ fillAt acc off p.2.cells = some r) :
    ∀ (ps : List (Nat × AV)) (us : List (Nat × Value)) (acc r : List AV) (cells : Array Value), us.map (·.1) = ps.map (·.1) → VRs I σ w (ps.map (·.2)) (us.map (·.2)) → VRs I σ w acc cells.toList →
      ps.foldlM f acc = some r → ∃ cells', Instr.fill place cells us = some cells' ∧ VRs I σ w r cells'.toList
  | [], us, acc, r, cells, h1, h2, h3, h4 => by
    have : us = [] := by simpa using h1
    subst this
    simp only [List.foldlM_nil] at h4
    cases h4
    exact ⟨cells, rfl, h3⟩
  | (i, v) :: ps, [], acc, r, cells, h1, h2, h3, h4 => by simp at h1
  | (i, v) :: ps, (i', u) :: us, acc, r, cells, h1, h2, h3, h4 => by
    simp only [List.map_cons, List.cons.injEq] at h1
    obtain ⟨rfl, h1⟩ := h1
    obtain ⟨e, es', k1, k2, k3⟩ := h2
    simp only [List.map_cons, List.cons.injEq] at k1
    obtain ⟨rfl, rfl⟩ := k1
    simp only [List.foldlM_cons, Option.bind_eq_bind, Option.bind_eq_some_iff] at h4
    obtain ⟨acc', h4, h5⟩ := h4
    obtain ⟨off, sz, g1, g2, g3, g4⟩ := hf _ _ _ h4
    unfold fillAt at g4
    split at g4
    · rename_i hle
      cases g4
      have hc := (VR.cells k2 (AV.isUndef_ne g2)).1
      have hlu : u.cells.toList.length = sz := by rw [VRs.length hc, g3]
      have hla := VRs.length h3
      have hsz : u.cells.size = sz := by simpa using hlu
      have hcs : cells.size = acc.length := by simpa using hla
      have hfold := setsFrom off u.cells.toList 0 cells (by rw [hlu]; omega)
      have hstep : (u.cells.zipIdx.foldl (fun (cs : Array Value) (x : Value × Nat) => cs.setIfInBounds (off + x.2) x.1) cells).toList = cells.toList.take off ++ u.cells.toList ++ cells.toList.drop (off + sz) := by
        rw [← Array.foldl_toList, Array.toList_zipIdx, hfold, hlu]
        simp
      obtain ⟨cells', m1, m2⟩ := fill_ok place f hf ps us _ r (u.cells.zipIdx.foldl (fun (cs : Array Value) (x : Value × Nat) => cs.setIfInBounds (off + x.2) x.1) cells) h1 k3 (by
        rw [hstep, ← g3]
        exact VRs.append (VRs.append (VRs.take off h3) hc) (VRs.drop _ h3)) h5
      refine ⟨cells', ?_, m2⟩
      have hcond : (decide (u.cells.size ≠ sz) || decide (off + u.cells.size > cells.size)) = false := by
        simp only [hsz, ne_eq, not_true_eq_false, decide_false, Bool.false_or, decide_eq_false_iff_not, gt_iff_lt, Nat.not_lt]
        omega
      simp only [Instr.fill, g1]
      rw [if_neg (by rw [hcond]; simp)]
      exact m1
    · cases g4

theorem Rel.build (h : Rel B I σ st a w) (hE : TabOK P E) {T : Nat} {ps : List (Nat × AV)} {us : List (Nat × Value)} {v : AV} (h1 : us.map (·.1) = ps.map (·.1)) (h2 : VRs I σ w (ps.map (·.2)) (us.map (·.2)))
    (hb : Go.Q.build E T ps = some v) : ∃ u, (∀ w', (Instr.build T us.toArray).run P w' = .ok u w') ∧ VR I σ w v u := by
  simp only [Go.Q.build, Option.bind_eq_some_iff] at hb
  obtain ⟨ti, g1, hb⟩ := hb
  have hT := hE.tab T ti g1
  obtain ⟨info, i1, i2, i3, i4⟩ := hT.info
  have hd := hT.desc
  cases hdd : ti.desc <;> simp only [hdd] at hb hd
  case struct fs =>
    simp only [Option.bind_eq_some_iff, Option.map_eq_some_iff] at hb
    obtain ⟨z, g2, r, g3, rfl⟩ := hb
    obtain ⟨zv, j1, j2⟩ := i4 z g2
    obtain ⟨fds, hd, rfl⟩ := hd
    have hsz : ∀ f ∈ fds.toList, ∀ w', (Prod.mk f.offset <$> sizeOf f.type : Sem (Nat × Nat)).run P w' = .ok (f.offset, ((P.info? f.type).map (·.size)).getD 0) w' := by
      intro f hf w'
      obtain ⟨i, hi⟩ := hT.flds fds f hd hf
      simp [sizeOf, typeInfo, hi]
    obtain ⟨cells', m1, m2⟩ := fill_ok (I := I) (σ := σ) (w := w) ((fds.map fun f => (f.offset, ((P.info? f.type).map (·.size)).getD 0))[·]?) _ (fun acc p r hr => by
      simp only [Option.bind_eq_some_iff] at hr
      obtain ⟨⟨off, ft⟩, q1, tf, q2, hr⟩ := hr
      split at hr
      · rename_i hc
        rw [List.getElem?_map, Option.map_eq_some_iff] at q1
        obtain ⟨f, q3, q4⟩ := q1
        simp only [Prod.mk.injEq] at q4
        obtain ⟨rfl, rfl⟩ := q4
        obtain ⟨i, hi, hi2, _⟩ := (hE.tab _ tf q2).info
        refine ⟨f.offset, tf.size, ?_, hc.1, hc.2, hr⟩
        rw [Array.getElem?_map, show fds[p.1]? = some f by simpa using q3]
        simp [hi, hi2]
      · cases hr) ps us z r zv.cells h1 h2 (j2 I σ w) g3
    refine ⟨.agg cells', fun w' => ?_, cells'.toList, rfl, m2⟩
    have hm := run_mapM (P := P) _ _ fds hsz w'
    have m1' : Instr.fill (fun x => Option.map (fun x => (x.offset, (Option.map (fun x => x.size) (P.info? x.type)).getD 0)) fds[x]?) zv.cells us = some cells' := by simpa using m1
    simp [Instr.build, zeroValue, typeInfo, i1, j1, run_under hd, hm, m1']
  case arr n e =>
    simp only [Option.bind_eq_some_iff, Option.map_eq_some_iff] at hb
    obtain ⟨te, g4, z, g2, r, g3, rfl⟩ := hb
    obtain ⟨zv, j1, j2⟩ := i4 z g2
    have hTe := hE.tab e te g4
    obtain ⟨cells', m1, m2⟩ := fill_ok (I := I) (σ := σ) (w := w) (fun i => some (i * te.size, te.size)) _ (fun acc p r hr => by
      split at hr
      · rename_i hc; exact ⟨_, _, rfl, hc.1, hc.2, hr⟩
      · cases hr) ps us z r zv.cells h1 h2 (j2 I σ w) g3
    refine ⟨.agg cells', fun w' => ?_, cells'.toList, rfl, m2⟩
    simp [Instr.build, zeroValue, typeInfo, i1, j1, run_under hd, run_size hTe, m1]
  all_goals cases hb


theorem Rel.index (hE : TabOK P E) {T : Nat} {x v : AV} {n : Int} {k : IntKind} {u : Value} (hx : VR I σ w x u) (hl : Go.Q.index E T x n = some v) :
    ∃ u', (∀ w', (Instr.index T u (.int k n)).run P w' = .ok u' w') ∧ VR I σ w v u' := by
  simp only [Go.Q.index, Option.bind_eq_some_iff] at hl
  obtain ⟨ti, h1, hl⟩ := hl
  have hd := (hE.tab T ti h1).desc
  split at hl
  · rename_i hdd
    rw [hdd] at hd
    simp only at hd
    split at hl
    · rename_i hn
      cases hl
      have e1 := VR.str hx
      subst e1
      refine ⟨_, fun w' => ?_, rfl⟩
      rename_i b
      have hlt : n.toNat < b.size := by omega
      simp [Instr.index, asIntOf, run_under hd, hn.1, strAt, hlt]
    · cases hl
  · rename_i m e vs hdd
    rw [hdd] at hd
    simp only at hd
    simp only [Option.bind_eq_some_iff] at hl
    obtain ⟨te, h2, hl⟩ := hl
    have hTe := hE.tab e te h2
    split at hl
    · rename_i hn
      obtain ⟨es, rfl, hv⟩ := hx
      have hv2 := VRs.take te.size (VRs.drop (n.toNat * te.size) hv)
      rcases mkV_ok hl hv2 with ⟨m1, m2⟩ | ⟨m1, u', m2, m3⟩
      · refine ⟨_, fun w' => ?_, m2⟩
        simp [Instr.index, asIntOf, run_under hd, hn.1, hn.2.1, part, run_isAgg hTe, run_size hTe, m1]
      · refine ⟨u', fun w' => ?_, m3⟩
        have : es[n.toNat * te.size]? = some u' := by
          have : ((es.drop (n.toNat * te.size)).take te.size)[0]? = some u' := by rw [m2]; rfl
          rw [List.getElem?_take, List.getElem?_drop] at this
          split at this
          · simpa using this
          · cases this
        simp [Instr.index, asIntOf, run_under hd, hn.1, hn.2.1, part, run_isAgg hTe, run_size hTe, m1, this]
    · cases hl
  · cases hl

theorem Src.keeps {w' : World} {u : Value} {n sz : Nat} {cs : List Value} (h : Src w u n sz cs) (hw : Keeps w w') : Src w' u n sz cs := by
  obtain ⟨A, c, h1, h2, h3, h4⟩ := h
  exact ⟨A, c, h1, h2, h3, h4.imp_right fun ⟨b, o, k1, k2⟩ => ⟨b, o, k1, fun j v hj => hw.cell (k2 j v hj)⟩⟩

theorem foldl_push : ∀ (ns : List Int) (s : ByteArray), ns.foldl (fun r n => r.push (UInt8.ofNat n.toNat)) s = ⟨s.data ++ (ns.map fun n => UInt8.ofNat n.toNat).toArray⟩
  | [], s => by cases s; simp
  | n :: ns, s => by
    rw [List.foldl_cons, foldl_push ns]
    simp [ByteArray.push]

theorem Src.bytes {u : Value} {xs : List Int} {cs : List Value} (h : Src w u xs.length 1 cs) (hr : ∀ (i : Nat) (hi : i < xs.length), DR I w (.int .u8) (xs.get ⟨i, hi⟩) (chunk 1 cs i)) : (Conv.bytesToString u).run P w = .ok (.string (bytesS xs)) w := by
  obtain ⟨A, c, rfl, h1, h2, h3⟩ := h
  have hcs : cs = xs.map (Value.int .u8) := by
    apply List.ext_getElem?
    intro i
    by_cases hi : i < xs.length
    · have := hr i hi
      have h4 : chunk 1 cs i = [Value.int .u8 xs[i]] := this
      simp only [chunk, Nat.mul_one] at h4
      have h5 : (List.take 1 (List.drop i cs))[0]? = some (Value.int .u8 xs[i]) := by rw [h4]; rfl
      simp only [List.getElem?_take, List.getElem?_drop, Nat.add_zero] at h5
      simp [hi] at h5 ⊢
      exact h5
    · rw [List.getElem?_eq_none (by omega), List.getElem?_eq_none (by simp; omega)]
  subst hcs
  rcases h3 with h0 | ⟨b, o, rfl, h3⟩
  · have hx : xs = [] := List.eq_nil_of_length_eq_zero h0
    subst hx
    cases A with
    | none => simp [Conv.bytesToString, bytesS]; rfl
    | some a => rw [run_bytesToString w a ([] : List Int).length c [] (by simp [loadCells, loadCellsFrom]), foldl_push]; rfl
  · have hld := run_loadCells_list (P := P) w ⟨b, o, none⟩ (xs.map (Value.int .u8)) (fun j v hj => by rw [add_none]; exact h3 j v hj)
    rw [List.length_map] at hld
    rw [run_bytesToString w ⟨b, o, none⟩ xs.length c xs hld, foldl_push]
    simp [bytesS]

theorem Rel.convert {hp : Heap} (h : HR I σ w hp) (hE : TabOK P E) {S T : Nat} {x v : AV} {u : Value} (hx : VR I σ w x u) (hl : convertT E hp S T x = some v) :
    ∃ u', (∀ w', Keeps w w' → (Go.convert S T u).run P w' = .ok u' w') ∧ VR I σ w v u' := by
  simp only [convertT, Option.bind_eq_some_iff] at hl
  obtain ⟨ts, h1, tt, h2, hl⟩ := hl
  obtain ⟨ds, hds⟩ := (hE.tab S ts h1).under
  have hd := (hE.tab T tt h2).desc
  split at hl
  · rename_i hdd
    rw [hdd] at hd
    simp only at hd
    cases hl
    have e1 := VR.int hx
    subst e1
    exact ⟨_, fun w' _ => by simp [Go.convert, run_under hds, run_under hd, Conv.intToInt], rfl⟩
  · rename_i hdd
    rw [hdd] at hd
    simp only at hd
    cases hl
    have e1 := VR.str hx
    subst e1
    exact ⟨_, fun w' _ => by simp [Go.convert, run_under hds, run_under hd], rfl⟩
  · rename_i y hdd _
    rw [hdd] at hd
    simp only at hd
    have hds' := (hE.tab S ts h1).desc
    split at hl
    · rename_i e hse
      rw [hse] at hds'
      simp only at hds'
      simp only [Option.bind_eq_some_iff] at hl
      obtain ⟨te, h3, hl⟩ := hl
      split at hl
      · rename_i hte
        have hde := (hE.tab e te h3).desc
        rw [hte] at hde
        simp only at hde
        simp only [Option.map_eq_some_iff] at hl
        obtain ⟨xs, h4, rfl⟩ := hl
        obtain ⟨news, m1, m2⟩ := h.listOf hx h4
        refine ⟨_, fun w' hw => ?_, rfl⟩
        have hb := (m1.keeps hw).bytes (P := P) (I := fun _ => True) (fun i hi => DR.noRefs (.int .u8) _ _ rfl (m2 i hi))
        obtain ⟨A, c, rfl, _⟩ := m1
        simp [Go.convert, run_under hds', run_under hd, run_under hde, hb]
      · cases hl
    · cases hl
  · cases hl

theorem equal_ptr {X e : Nat} (hd : P.underlying X = some (.pointer e)) (p q : Option Addr) (h : p = none ∨ q = none) (w' : World) : (Op.equal X (.pointer p) (.pointer q)).run P w' = .ok (p.isNone && q.isNone) w' := by
  show (Op.equalIn (9999 + 1) X (.pointer p) (.pointer q)).run P w' = _
  unfold Op.equalIn
  cases p <;> cases q <;> simp [run_under hd] at h ⊢
theorem equal_slice {X e : Nat} (hd : P.underlying X = some (.slice e)) (p q : Option Addr) (n c n' c' : Nat) (h : p = none ∨ q = none) (w' : World) : (Op.equal X (.slice p n c) (.slice q n' c')).run P w' = .ok (p.isNone && q.isNone) w' := by
  show (Op.equalIn (9999 + 1) X (.slice p n c) (.slice q n' c')).run P w' = _
  unfold Op.equalIn
  cases p <;> cases q <;> simp [run_under hd] at h ⊢
theorem cmpNil_ok (hE : TabOK P E) {X : Nat} {ti : TI} (hX : E.tab X = some ti) {x y : AV} {b : Bool} {ux uy : Value} (hx : VR I σ w x ux) (hy : VR I σ w y uy) (h : cmpNil ti.desc x y = some b) :
    (∀ w', (Op.equal X ux uy).run P w' = .ok b w') ∧ ((∃ p, ux = .pointer p) ∨ ∃ a n c, ux = .slice a n c) ∧ ((∃ p, uy = .pointer p) ∨ ∃ a n c, uy = .slice a n c) := by
  have hd := (hE.tab X ti hX).desc
  unfold cmpNil at h
  split at h
  case h_1 hdd => rw [hdd] at hd; cases h; cases hx; cases hy; exact ⟨fun w' => equal_ptr hd _ _ (.inl rfl) w', .inl ⟨_, rfl⟩, .inl ⟨_, rfl⟩⟩
  case h_2 hdd => rw [hdd] at hd; cases h; cases hx; obtain ⟨_, _, _, _, rfl⟩ := hy; exact ⟨fun w' => equal_ptr hd _ _ (.inl rfl) w', .inl ⟨_, rfl⟩, .inl ⟨_, rfl⟩⟩
  case h_3 hdd => rw [hdd] at hd; cases h; cases hx; obtain ⟨_, _, _, _, _, _, _, _, rfl⟩ := hy; exact ⟨fun w' => equal_ptr hd _ _ (.inl rfl) w', .inl ⟨_, rfl⟩, .inl ⟨_, rfl⟩⟩
  case h_4 hdd => rw [hdd] at hd; cases h; cases hx; obtain ⟨_, _, _, rfl, _⟩ := hy; exact ⟨fun w' => equal_ptr hd _ _ (.inl rfl) w', .inl ⟨_, rfl⟩, .inl ⟨_, rfl⟩⟩
  case h_5 hdd => rw [hdd] at hd; cases h; cases hy; obtain ⟨_, _, _, _, rfl⟩ := hx; exact ⟨fun w' => equal_ptr hd _ _ (.inr rfl) w', .inl ⟨_, rfl⟩, .inl ⟨_, rfl⟩⟩
  case h_6 hdd => rw [hdd] at hd; cases h; cases hy; obtain ⟨_, _, _, _, _, _, _, _, rfl⟩ := hx; exact ⟨fun w' => equal_ptr hd _ _ (.inr rfl) w', .inl ⟨_, rfl⟩, .inl ⟨_, rfl⟩⟩
  case h_7 hdd => rw [hdd] at hd; cases h; cases hy; obtain ⟨_, _, _, rfl, _⟩ := hx; exact ⟨fun w' => equal_ptr hd _ _ (.inr rfl) w', .inl ⟨_, rfl⟩, .inl ⟨_, rfl⟩⟩
  case h_8 hdd => rw [hdd] at hd; cases h; cases hx; cases hy; exact ⟨fun w' => equal_slice hd _ _ _ _ _ _ (.inl rfl) w', .inr ⟨_, _, _, rfl⟩, .inr ⟨_, _, _, rfl⟩⟩
  case h_9 hdd =>
    rw [hdd] at hd
    split at h
    · cases h
    · rename_i xs _ _ hne
      cases h
      cases hy
      obtain ⟨A, cap, hx, _, hall⟩ := hx
      obtain ⟨b, o, rfl, _⟩ := hall 0 (by omega)
      simp only [List.cons.injEq, and_true] at hx
      subst hx
      exact ⟨fun w' => equal_slice hd _ _ _ _ _ _ (.inr rfl) w', .inr ⟨_, _, _, rfl⟩, .inr ⟨_, _, _, rfl⟩⟩
  case h_10 => cases h

theorem eqCell_ok (hE : TabOK P E) {T : Nat} {ti : TI} (hT : E.tab T = some ti) {xs ys : List AV} {es gs : Array Value} (hx : VRs I σ w xs es.toList) (hy : VRs I σ w ys gs.toList) {off : Nat} {b : Bool} (h : eqCell ti.desc xs[off]? ys[off]? = some b) (d : Nat) (w' : World) :
    (do Op.equalIn (d + 1) T (← part T es off) (← part T gs off) : Sem Bool).run P w' = .ok b w' := by
  have hd := (hE.tab T ti hT).desc
  have hagg := run_isAgg (hE.tab T ti hT)
  unfold eqCell at h
  split at h
  · rename_i k k1 a k2 b' e1 e2 e3
    rw [e1] at hd
    obtain ⟨u, m1, m2⟩ := hx.get e2
    obtain ⟨v, n1, n2⟩ := hy.get e3
    have m2 := VR.int m2
    have n2 := VR.int n2
    subst m2; subst n2
    have m1 : es[off]? = some (.int k1 a) := by simpa using m1
    have n1 : gs[off]? = some (.int k2 b') := by simpa using n1
    have hag : ti.isAgg = false := by simp [TI.isAgg, e1]
    split at h
    · rename_i hk; subst hk; cases h
      have hq : (a == b') = decide (a = b') := by by_cases h : a = b' <;> simp [h]
      simp [part, hagg, hag, m1, n1, Op.equalIn, run_under hd, hq]
    · cases h
  · rename_i a b' e1 e2 e3
    rw [e1] at hd
    obtain ⟨u, m1, m2⟩ := hx.get e2
    obtain ⟨v, n1, n2⟩ := hy.get e3
    have m2 := VR.bool m2
    have n2 := VR.bool n2
    subst m2; subst n2
    have m1 : es[off]? = some (.bool a) := by simpa using m1
    have n1 : gs[off]? = some (.bool b') := by simpa using n1
    have hag : ti.isAgg = false := by simp [TI.isAgg, e1]
    cases h
    simp [part, hagg, hag, m1, n1, Op.equalIn, run_under hd]
  · rename_i a b' e1 e2 e3
    rw [e1] at hd
    obtain ⟨u, m1, m2⟩ := hx.get e2
    obtain ⟨v, n1, n2⟩ := hy.get e3
    have m2 := VR.str m2
    have n2 := VR.str n2
    subst m2; subst n2
    have m1 : es[off]? = some (.string a) := by simpa using m1
    have n1 : gs[off]? = some (.string b') := by simpa using n1
    have hag : ti.isAgg = false := by simp [TI.isAgg, e1]
    cases h
    have hq : ∀ a b : ByteArray, (a == b) = (a.toList == b.toList) := by
      intro a b
      rw [ByteArray.toList_eq, ByteArray.toList_eq]
      have e : (a == b) = (a.data == b.data) := by cases a; cases b; rfl
      rw [e]
      by_cases h : a.data = b.data
      · rw [h]; simp
      · have h2 : ¬ a.data.toList = b.data.toList := fun e => h (Array.ext' e)
        simp [h, h2]
    simp [part, hagg, hag, m1, n1, Op.equalIn, run_under hd, hq]
  · cases h
def eqBody (d : Nat) (es gs : Array Value) (f : Field) (_ : Option Bool × Unit) : Sem (ForInStep (Option Bool × Unit)) :=
  if f.name = "_" then pure (.yield (none, ())) else do
    let x ← part f.type es f.offset
    let y ← part f.type gs f.offset
    let c ← Op.equalIn (d + 1) f.type x y
    if c = false then pure (.done (some false, ())) else pure (.yield (none, ()))
theorem eqFields_ok (hE : TabOK P E) {xs ys : List AV} {es gs : Array Value} (hx : VRs I σ w xs es.toList) (hy : VRs I σ w ys gs.toList) (d : Nat) (w' : World) : ∀ (fds : List Field) {b : Bool}, eqFields E.tab xs ys (fds.map fun f => (f.offset, f.type)) = some b → (∀ f ∈ fds, f.name ≠ "_") →
    (forIn fds ((none, ()) : Option Bool × Unit) (eqBody d es gs) : Sem (Option Bool × Unit)).run P w' = .ok (if b = true then none else some false, ()) w'
  | [], b, h, _ => by cases h; simp
  | f :: fds, b, h, hn => by
    simp only [List.map_cons, eqFields, Option.bind_eq_some_iff, Option.map_eq_some_iff] at h
    obtain ⟨tf, h1, b1, h2, b2, h3, rfl⟩ := h
    have hc := eqCell_ok hE h1 hx hy h2 d w'
    have ih := eqFields_ok hE hx hy d w' fds h3 (fun g hg => hn g (by simp [hg]))
    have hf := hn f (by simp)
    have hbody : ∀ r, eqBody d es gs f r = (do Op.equalIn (d + 1) f.type (← part f.type es f.offset) (← part f.type gs f.offset) : Sem Bool) >>= fun c => if c = false then pure (.done (some false, ())) else pure (.yield (none, ())) := by
      intro r
      simp only [eqBody, if_neg hf, bind_assoc]
    rw [List.forIn_cons, hbody, bind_assoc, Sem.run_bind, hc]
    cases b1
    · simp
    · simp [ih]
theorem equal_struct (hE : TabOK P E) {X : Nat} {ti : TI} (hX : E.tab X = some ti) {fs : List (Nat × Nat)} (hdd : ti.desc = .struct fs) {t : Ty} (ht : E.ty X = some t) (hq : t.eqb = true) {xs ys : List AV} {es gs : List Value} (hx : VRs I σ w xs es) (hy : VRs I σ w ys gs) {b : Bool} (h : eqFields E.tab xs ys fs = some b) :
    (∀ w', (Op.equal X (.agg es.toArray) (.agg gs.toArray)).run P w' = .ok b w') ∧ P.eqGuardType P.depth X = false := by
  have hd := (hE.tab X ti hX).desc
  rw [hdd] at hd
  obtain ⟨fds, hd, rfl⟩ := hd
  obtain ⟨q1, q2, q3⟩ := (hE.tab X ti hX).eqs fds t hd ht hq
  refine ⟨fun w' => ?_, q3⟩
  have := eqFields_ok (es := es.toArray) (gs := gs.toArray) hE (by simpa using hx) (by simpa using hy) 9998 w' fds.toList h q2
  show (Op.equalIn (9998 + 1 + 1) X (.agg es.toArray) (.agg gs.toArray)).run P w' = _
  unfold Op.equalIn
  have hb : (forIn fds ((none, ()) : Option Bool × Unit) (eqBody 9998 es.toArray gs.toArray) : Sem (Option Bool × Unit)).run P w' = .ok (if b = true then none else some false, ()) w' := by
    rw [← Array.forIn_toList]; exact this
  unfold eqBody at hb
  simp [run_under hd, q1, hb]
  cases b <;> simp

theorem Rel.binOpT (hE : TabOK P E) {op : BinOp} {X : Nat} {x y v : AV} {ux uy : Value} (hx : VR I σ w x ux) (hy : VR I σ w y uy) (h : Go.Q.binOpT E op X x y = some v) (c d : Operand) (Y : Nat) :
    ∃ u, (∀ w', (do eqGuard op X c d ux uy; Go.binOp op X ux uy : Sem Value).run P w' = .ok u w') ∧ VR I σ w v u := by
  have hb : ∃ u, (∀ w', (Go.binOp op X ux uy).run P w' = .ok u w') ∧ VR I σ w v u ∧ ((∃ k n, ux = .int k n) ∨ (∃ b, ux = .bool b) ∨ (∃ s, ux = .string s) ∨ (∃ p, ux = .pointer p) ∨ (∃ a n c, ux = .slice a n c) ∨ ∃ es gs, ux = .agg es ∧ uy = .agg gs ∧ P.eqGuardType P.depth X = false) := by
    unfold Go.Q.binOpT at h
    split at h
    · simp only [Option.bind_eq_some_iff] at h
      obtain ⟨ti, h1, h⟩ := h
      split at h
      · rename_i hdd
        have hd := (hE.tab X ti h1).desc
        rw [hdd] at hd
        obtain ⟨u, k1, k2⟩ := binOp_ok hx hy h (fun _ _ _ _ => hd)
        exact ⟨u, k1, k2, .inr (.inl ⟨_, VR.bool hx⟩)⟩
      · cases h
    · obtain ⟨u, k1, k2⟩ := binOp_ok (P := P) (X := X) hx hy h (fun a b e _ => by cases e)
      exact ⟨u, k1, k2, .inl ⟨_, _, VR.int hx⟩⟩
    · obtain ⟨u, k1, k2⟩ := binOp_ok (P := P) (X := X) hx hy h (fun a b e _ => by cases e)
      exact ⟨u, k1, k2, .inr (.inr (.inl ⟨_, VR.str hx⟩))⟩
    · simp only [Option.bind_eq_some_iff] at h
      obtain ⟨ti, h1, t, h2, h⟩ := h
      split at h
      · rename_i hq
        split at h
        · rename_i fs ys hdd
          obtain ⟨es, rfl, hx⟩ := hx
          obtain ⟨gs, rfl, hy⟩ := hy
          simp only [Option.bind_eq_some_iff] at h
          obtain ⟨b, h3, h4⟩ := h
          obtain ⟨k1, k2⟩ := equal_struct hE h1 hdd h2 hq hx hy h3
          have hsh : (∃ k n, Value.agg es.toArray = .int k n) ∨ (∃ b, Value.agg es.toArray = .bool b) ∨ (∃ s, Value.agg es.toArray = .string s) ∨ (∃ p, Value.agg es.toArray = .pointer p) ∨ (∃ a n c, Value.agg es.toArray = .slice a n c) ∨ ∃ es' gs', Value.agg es.toArray = .agg es' ∧ Value.agg gs.toArray = .agg gs' ∧ P.eqGuardType P.depth X = false := .inr (.inr (.inr (.inr (.inr ⟨_, _, rfl, rfl, k2⟩))))
          unfold boolOf at h4
          split at h4
          · cases h4; exact ⟨.bool b, fun w' => by simp [Go.binOp, k1 w'], rfl, hsh⟩
          · cases h4; exact ⟨.bool (!b), fun w' => by simp [Go.binOp, k1 w'], rfl, hsh⟩
          · cases h4
        · cases h
      · cases h
    · simp only [Option.bind_eq_some_iff] at h
      obtain ⟨ti, h1, b, h2, h3⟩ := h
      obtain ⟨k1, k2, k3⟩ := cmpNil_ok hE h1 hx hy h2
      have hshape : (∃ k n, ux = .int k n) ∨ (∃ b, ux = .bool b) ∨ (∃ s, ux = .string s) ∨ (∃ p, ux = .pointer p) ∨ (∃ a n c, ux = .slice a n c) ∨ ∃ es gs, ux = .agg es ∧ uy = .agg gs ∧ P.eqGuardType P.depth X = false := by
        rcases k2 with k2 | k2
        · exact .inr (.inr (.inr (.inl k2)))
        · exact .inr (.inr (.inr (.inr (.inl k2))))
      unfold boolOf at h3
      split at h3
      · cases h3
        refine ⟨.bool b, fun w' => ?_, rfl, hshape⟩
        rcases k2 with ⟨p, rfl⟩ | ⟨a, n, c, rfl⟩ <;> rcases k3 with ⟨p', rfl⟩ | ⟨a', n', c', rfl⟩ <;> simp [Go.binOp, k1 w']
      · cases h3
        refine ⟨.bool (!b), fun w' => ?_, rfl, hshape⟩
        rcases k2 with ⟨p, rfl⟩ | ⟨a, n, c, rfl⟩ <;> rcases k3 with ⟨p', rfl⟩ | ⟨a', n', c', rfl⟩ <;> simp [Go.binOp, k1 w']
      · cases h3
  obtain ⟨u, h1, h2, hh⟩ := hb
  have hg : ∀ w', (eqGuard op X c d ux uy).run P w' = .ok () w' := by
    intro w'
    rcases hh with ⟨k, n, rfl⟩ | ⟨b, rfl⟩ | ⟨s, rfl⟩ | ⟨p, rfl⟩ | ⟨a, n, c, rfl⟩ | ⟨es, gs, rfl, rfl, hgt⟩ <;> cases op <;> simp_all [eqGuard]
  exact ⟨u, fun w' => by rw [Sem.run_bind, hg w']; simp [h1 w'], h2⟩

theorem Rel.binOpH (hE : TabOK P E) {hh : Heap} (hr : HR I σ w hh) {op : BinOp} {X : Nat} {x y v : AV} {ux uy : Value} (hx : VR I σ w x ux) (hy : VR I σ w y uy) (h : Go.Q.binOpH E hh op X x y = some v) (c d : Operand) (Y : Nat) :
    ∃ u, (∀ w', (do eqGuard op X c d ux uy; Go.binOp op X ux uy : Sem Value).run P w' = .ok u w') ∧ VR I σ w v u := by
  unfold Go.Q.binOpH at h
  split at h
  · rename_i p
    split at h
    · simp only [Option.bind_eq_some_iff] at h
      obtain ⟨ti, h1, h⟩ := h
      have hd := (hE.tab X ti h1).desc
      unfold osNil at h
      split at h
      · rename_i e hdd
        rw [hdd] at hd
        split at h
        · rename_i t0 xs ha
          split at h
          · cases h
          · rename_i hne
            obtain ⟨t, xs', H, cs, hv, hpl⟩ := hr.place ha
            cases hv
            have hu := hpl.os hx
            subst hu
            cases hy
            obtain ⟨A, cap, e1, _⟩ := hpl.arr.slice
            have hA : ∃ b, A = some b := by
              rcases hpl.arr.2 with ⟨A', _, h0⟩ | ⟨b, o, cap', cells, e', hv, _⟩
              · exact absurd h0 hne
              · rw [e1] at hv; cases hv; exact ⟨_, rfl⟩
            obtain ⟨b, rfl⟩ := hA
            have k1 : ∀ w', (Op.equal X H.v (.slice none 0 0)).run P w' = .ok false w' := fun w' => by
              rw [e1]; exact equal_slice hd _ _ _ _ _ _ (.inr rfl) w'
            have hg : ∀ w', (eqGuard op X c d H.v (.slice none 0 0)).run P w' = .ok () w' := by
              intro w'
              rw [e1]
              cases op <;> simp [eqGuard]
            unfold boolOf at h
            split at h
            · cases h
              exact ⟨.bool false, fun w' => by rw [Sem.run_bind, hg w', e1]; rw [e1] at k1; simp [Go.binOp, k1 w'], rfl⟩
            · cases h
              exact ⟨.bool true, fun w' => by rw [Sem.run_bind, hg w', e1]; rw [e1] at k1; simp [Go.binOp, k1 w'], rfl⟩
            · cases h
        · cases h
      · cases h
    · exact Rel.binOpT hE hx hy h c d Y
  · exact Rel.binOpT hE hx hy h c d Y

theorem evals (h : Rel B I σ st a w) : ∀ (xs : List Operand), VRs I σ w (xs.map (Go.Q.eval st)) (xs.map a.eval)
  | [] => rfl
  | x :: xs => ⟨_, _, rfl, h.eval x, evals h xs⟩

theorem Rel.exVal (h : Rel B I σ st a w) (hE : TabOK P E) {o : Oper} {v : AV} (he : Go.Q.exVal E st o.op = some v) :
    ∃ u, (∀ w', Keeps w w' → (execOp a.eval o).run P w' = .ok (.value u) w') ∧ VR I σ w v u := by
  obtain ⟨dst, op, ty, pos, after, guard⟩ := o
  simp only at he
  have lift : ∀ {s : Sem Value} {u : Value} {w' : World}, s.run P w' = .ok u w' → (do pure (Next.value (← s)) : Sem Next).run P w' = .ok (.value u) w' := by
    intro s u w' hs; simp [hs]
  cases op <;> simp only [Go.Q.exVal] at he
  case move x => cases he; exact ⟨_, fun w' _ => by simp [execOp], h.eval x⟩
  case assign x => cases he; exact ⟨_, fun w' _ => by simp [execOp], h.eval x⟩
  case pick c x y =>
    split at he
    · rename_i b hc
      cases he
      have hcv := h.eval c
      rw [hc] at hcv
      have hcv := VR.bool hcv
      refine ⟨if b = true then a.eval x else a.eval y, fun w' _ => ?_, ?_⟩
      · simp [execOp, hcv, asBool]
      · split
        · exact h.eval x
        · exact h.eval y
    · cases he
  case build T parts =>
    obtain ⟨u, h1, h2⟩ := h.build (P := P) hE (us := parts.toList.map fun p => (p.1, a.eval p.2)) (ps := parts.toList.map fun p => (p.1, Go.Q.eval st p.2)) (by simp) (by
      have := evals h (parts.toList.map (·.2))
      simpa [List.map_map, Function.comp_def] using this) he
    refine ⟨u, fun w' _ => ?_, h2⟩
    have e1 : (parts.map fun (p : Nat × Operand) => (p.1, a.eval p.2)) = (parts.toList.map fun p => (p.1, a.eval p.2)).toArray := by
      apply Array.ext'; simp
    exact lift (by rw [e1]; exact h1 w')
  case load T p =>
    obtain ⟨u, h1, h2⟩ := h.hr.loadAt (P := P) hE (h.eval p) he
    exact ⟨u, fun w' hw => lift (h1 w' hw), h2⟩
  case nilCheck x =>
    have hx := h.eval x
    split at he <;> rename_i hv <;> first
      | (cases he
         rw [hv] at hx
         obtain ⟨ad, hu⟩ := VR.nilCheck hx (by simp)
         rw [hu] at hx
         exact ⟨_, fun w' _ => by simp [execOp, hu], hx⟩)
      | cases he
  case binOp op T x y Y =>
    obtain ⟨u, h1, h2⟩ := Rel.binOpH (P := P) hE h.hr (h.eval x) (h.eval y) he x y Y
    exact ⟨u, fun w' _ => lift (h1 w'), h2⟩
  case unOp op T x =>
    obtain ⟨u, h1, h2⟩ := unOp_ok (P := P) (h.eval x) he
    exact ⟨u, fun w' _ => lift (h1 w'), h2⟩
  case convert S T x =>
    obtain ⟨u, h1, h2⟩ := Rel.convert (P := P) h.hr hE (h.eval x) he
    exact ⟨u, fun w' hw => lift (h1 w' hw), h2⟩
  case makeFunc f first caps =>
    cases f <;> simp only at he
    case func f =>
      split at he
      · rename_i hf
        cases he
        have hf0 : first = #[] := by
          have := isEmpty_nil hf
          simpa using this
        subst hf0
        refine ⟨.func (.func f) #[] (caps.map a.eval), fun w' _ => by simp [execOp, Instr.makeFunc], (caps.toList.map a.eval), by rw [← Array.toList_map], evals h _⟩
      · cases he
    all_goals cases he
  case slice T x lo hi mx =>
    simp only [Option.bind_eq_some_iff] at he
    obtain ⟨l, h1, hh, h2, m, h3, he⟩ := he
    obtain ⟨k1, e1⟩ := optInt_ok h h1
    obtain ⟨k2, e2⟩ := optInt_ok h h2
    obtain ⟨k3, e3⟩ := optInt_ok h h3
    obtain ⟨u, g1, g2⟩ := h.hr.sliceT (P := P) hE (h.eval x) (k := k1) (k' := k2) (k'' := k3) he
    exact ⟨u, fun w' _ => lift (by rw [e1, e2, e3]; exact g1 w'), g2⟩
  case fieldAddr T x j =>
    obtain ⟨u, h1, h2⟩ := Rel.fieldAddr (P := P) hE (h.eval x) he
    exact ⟨u, fun w' _ => lift (h1 w'), h2⟩
  case field T x j =>
    obtain ⟨u, h1, h2⟩ := Rel.field (P := P) hE (h.eval x) he
    exact ⟨u, fun w' _ => lift (h1 w'), h2⟩
  case indexAddr T x i =>
    split at he
    · rename_i k n hi
      have hiv := h.eval i
      rw [hi] at hiv
      obtain ⟨u, h1, h2⟩ := h.hr.indexAddr (P := P) hE (h.eval x) (k := k) he
      exact ⟨u, fun w' _ => lift (by rw [VR.int hiv]; exact h1 w'), h2⟩
    · cases he
  case index T x i =>
    split at he
    · rename_i k n hi
      have hiv := h.eval i
      rw [hi] at hiv
      obtain ⟨u, h1, h2⟩ := Rel.index (P := P) hE (h.eval x) (k := k) he
      exact ⟨u, fun w' _ => lift (by rw [VR.int hiv]; exact h1 w'), h2⟩
    · cases he
  case lookup T x k ok =>
    obtain ⟨u, h1, h2⟩ := h.hr.lookupT (P := P) hE (h.eval x) (h.eval k) he
    exact ⟨u, fun w' hw => lift (h1 w' hw), h2⟩
  case extract x j =>
    split at he
    · rename_i vs hx
      have hxv := h.eval x
      rw [hx] at hxv
      obtain ⟨es, e1, e2⟩ := hxv
      obtain ⟨u, h1, h2⟩ := VRs.get e2 he
      exact ⟨u, fun w' _ => by simp [execOp, e1, Instr.extract, h1], h2⟩
    · cases he
  case call c =>
    obtain ⟨callee, args, argTypes⟩ := c
    cases callee <;> simp only at he
    case builtin b =>
      cases b <;> simp only at he
      case len =>
        split at he
        · rename_i x T hx hT
          simp only [Option.map_eq_some_iff] at he
          obtain ⟨n, he, rfl⟩ := he
          have hargs : args = #[x] := by apply Array.ext'; simpa using hx
          have hT' : argTypes = #[T] := by apply Array.ext'; simpa using hT
          subst hargs; subst hT'
          have hl := h.hr.lenT (P := P) hE (h.eval x) he (ty := ty)
          exact ⟨_, fun w' hw => by simp [execOp, resolve, invoke, builtin, hl w' hw], rfl⟩
        · cases he
      case min =>
        split at he
        · rename_i x y hx
          have hargs : args = #[x, y] := by apply Array.ext'; simpa using hx
          subst hargs
          unfold extreme at he
          split at he
          · rename_i k m k' n h1 h2
            split at he
            · rename_i hk
              subst hk
              cases he
              have hxv := h.eval x
              have hyv := h.eval y
              rw [h1] at hxv
              rw [h2] at hyv
              have ex := VR.int hxv
              have ey := VR.int hyv
              have e : ∀ (m n : Int), (if n < m then n else m) = min m n := fun m n => by split <;> omega
              refine ⟨.int k (min m n), fun w' hw => ?_, rfl⟩
              simp [execOp, resolve, invoke, builtin, ex, ey, Builtin.min_, Builtin.min2, e]
            · cases he
          · cases he
        · cases he
      all_goals cases he
    all_goals cases he
  all_goals cases he

theorem Rel.exValB (h : Rel B I σ st a w) (hE : TabOK P E) {o : Oper} {v : AV} (he : Go.Q.exVal E st o.op = some v) :
    ∃ u, (∀ w', (stackOp o.op = true ∨ Keeps w w') → (execOp a.eval o).run P w' = .ok (.value u) w') ∧ VR I σ w v u := by
  by_cases hs : stackOp o.op = true
  · obtain ⟨dst, op, ty, pos, after, guard⟩ := o
    simp only at he hs
    have lift : ∀ {s : Sem Value} {u : Value} {w' : World}, s.run P w' = .ok u w' → (do pure (Next.value (← s)) : Sem Next).run P w' = .ok (.value u) w' := by
      intro s u w' hs; simp [hs]
    cases op <;> simp only [stackOp, Bool.false_eq_true] at hs <;> simp only [Go.Q.exVal] at he
    case move x => cases he; exact ⟨_, fun w' _ => by simp [execOp], h.eval x⟩
    case assign x => cases he; exact ⟨_, fun w' _ => by simp [execOp], h.eval x⟩
    case pick c x y =>
      split at he
      · rename_i b hc
        cases he
        have hcv := h.eval c
        rw [hc] at hcv
        have hcv := VR.bool hcv
        refine ⟨if b = true then a.eval x else a.eval y, fun w' _ => ?_, ?_⟩
        · simp [execOp, hcv, asBool]
        · split
          · exact h.eval x
          · exact h.eval y
      · cases he
    case binOp op T x y Y =>
      obtain ⟨u, h1, h2⟩ := Rel.binOpH (P := P) hE h.hr (h.eval x) (h.eval y) he x y Y
      exact ⟨u, fun w' _ => lift (h1 w'), h2⟩
    case unOp op T x =>
      obtain ⟨u, h1, h2⟩ := unOp_ok (P := P) (h.eval x) he
      exact ⟨u, fun w' _ => lift (h1 w'), h2⟩
    case field T x j =>
      obtain ⟨u, h1, h2⟩ := Rel.field (P := P) hE (h.eval x) he
      exact ⟨u, fun w' _ => lift (h1 w'), h2⟩
    case build T parts =>
      obtain ⟨u, h1, h2⟩ := h.build (P := P) hE (us := parts.toList.map fun p => (p.1, a.eval p.2)) (ps := parts.toList.map fun p => (p.1, Go.Q.eval st p.2)) (by simp) (by
        have := evals h (parts.toList.map (·.2))
        simpa [List.map_map, Function.comp_def] using this) he
      refine ⟨u, fun w' _ => ?_, h2⟩
      have e1 : (parts.map fun (p : Nat × Operand) => (p.1, a.eval p.2)) = (parts.toList.map fun p => (p.1, a.eval p.2)).toArray := by
        apply Array.ext'; simp
      exact lift (by rw [e1]; exact h1 w')
    case extract x j =>
      split at he
      · rename_i vs hx
        have hxv := h.eval x
        rw [hx] at hxv
        obtain ⟨es, e1, e2⟩ := hxv
        obtain ⟨u, h1, h2⟩ := VRs.get e2 he
        exact ⟨u, fun w' _ => by simp [execOp, e1, Instr.extract, h1], h2⟩
      · cases he
  · obtain ⟨u, h1, h2⟩ := h.exVal hE he
    exact ⟨u, fun w' hw => h1 w' (hw.elim (fun h => absurd h hs) id), h2⟩
end
end Go.Q
