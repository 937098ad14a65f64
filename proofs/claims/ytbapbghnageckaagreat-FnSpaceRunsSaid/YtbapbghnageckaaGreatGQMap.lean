/- An abstract interpreter of the translated code: maps. -/
import Derived.Test.YtbapbghnageckaaGreatGQMake
import Derived.MapKept
namespace Go.Q
set_option linter.unusedVariables false
set_option linter.unusedSimpArgs false
set_option linter.unusedSectionVars false
open Go
section
variable {P : Program} {E : Env} {L : Nat → Prop} {I : Nat → Prop} {σ : Nat → Option Own} {st : St} {w : World}
def keyVal : (t : Ty) → t.Den → Value
 | .str, s => .string s
 | .bool, b => .bool b
 | .int k, n => .int k n
 | _, _ => .nilIface
def tdDesc : TD → TypeDesc
 | .bool => .bool
 | .int k => .int k
 | _ => .string
theorem key_kind {d : TD} {tk : Ty} (h : keyD d tk = true) : tk.isAggT = false := by
 cases tk <;> first | rfl | (cases d <;> simp [keyD] at h)
theorem key_desc {T : Nat} {ti : TI} {tk : Ty} (hT : TIok P E T ti) (h : keyD ti.desc tk = true) : P.underlying T = some (tdDesc ti.desc) := by
 have hd := hT.desc
 cases hdd : ti.desc <;> rw [hdd] at h hd <;> first | exact hd | (cases tk <;> simp [keyD] at h)
theorem key_is {d : TD} {tk : Ty} (h : keyD d tk = true) {k : tk.Den} {v : Value} (hv : DR I w tk k [v]) : v = keyVal tk k ∧ Go.MapKept.IsKey (tdDesc d) v := by
 cases tk <;> cases d <;> simp only [keyD, decide_eq_true_eq, Bool.false_eq_true] at h
 case int.int k1 k2 =>
  have hv : [v] = [Value.int k1 k] := hv
  simp only [List.cons.injEq, and_true] at hv
  subst hv; exact ⟨rfl, h.symm⟩
 case bool.bool =>
  have hv : [v] = [Value.bool k] := hv
  simp only [List.cons.injEq, and_true] at hv
  subst hv; exact ⟨rfl, trivial⟩
 case str.str =>
  have hv : [v] = [Value.string k] := hv
  simp only [List.cons.injEq, and_true] at hv
  subst hv; exact ⟨rfl, trivial⟩
theorem key_same {d : TD} {tk : Ty} (h : keyD d tk = true) (a b : tk.Den) : Instr.sameNow (tdDesc d) (keyVal tk a) (keyVal tk b) = some (keyEq tk a b) := by
 cases tk <;> cases d <;> simp only [keyD, decide_eq_true_eq, Bool.false_eq_true] at h
 case int.int k1 k2 =>
  simp only [tdDesc, keyVal, Instr.sameNow, if_pos, keyEq]
  rfl
 case bool.bool => rfl
 case str.str =>
  simp only [tdDesc, keyVal, Instr.sameNow, keyEq]
  congr 1
  rw [Bool.eq_iff_iff, Go.MapKept.bytes_beq]; simp
theorem key_eq {d : TD} {tk : Ty} (h : keyD d tk = true) {a b : tk.Den} (he : keyEq tk a b = true) : a = b := by
 cases tk <;> cases d <;> simp only [keyD, decide_eq_true_eq, Bool.false_eq_true] at h
 case int.int k1 k2 => simpa [keyEq] using he
 case bool.bool => simpa [keyEq] using he
 case str.str => simpa [keyEq] using he
theorem MapR.key {d : TD} {tk tv : Ty} (h : keyD d tk = true) {k : tk.Den} {v : Value} (hv : KR I w tk k v) : v = keyVal tk k ∧ Go.MapKept.IsKey (tdDesc d) v := by
 unfold KR at hv
 rw [if_neg (by rw [key_kind h]; simp)] at hv
 exact key_is h hv
theorem find_ok {d : TD} {tk tv : Ty} (h : keyD d tk = true) (k : tk.Den) : ∀ {kvs : List (tk.Den × tv.Den)} {es : List MapEntry} (i : Nat), MapR I w tk tv kvs es →
  match findL k kvs with
  | none => Instr.findNow (tdDesc d) (keyVal tk k) es i = some none
  | some x => ∃ j u, Instr.findNow (tdDesc d) (keyVal tk k) es i = some (some (j, u)) ∧ KR I w tv x u
 | [], es, i, hm => by
  have hm : es = [] := hm
  subst hm; rfl
 | p :: kvs, es, i, hm => by
  obtain ⟨e, es', rfl, h1, h2, h3⟩ := hm
  obtain ⟨e1, _⟩ := MapR.key (tv := tv) h h1
  have hs := key_same h k p.1
  rw [← e1] at hs
  simp only [findL]
  by_cases hq : keyEq tk k p.1 = true
  ·rw [if_pos hq]
   rw [hq] at hs
   exact ⟨i, e.val, by simp [Instr.findNow, hs], h2⟩
  ·rw [if_neg hq]
   have hq : keyEq tk k p.1 = false := by simpa using hq
   rw [hq] at hs
   have ih := find_ok h k (i + 1) h3
   cases hf : findL k kvs with
   | none => rw [hf] at ih; simp [Instr.findNow, hs, ih]
   | some x =>
    rw [hf] at ih
    obtain ⟨j, u, g1, g2⟩ := ih
    exact ⟨j, u, by simp [Instr.findNow, hs, g1], g2⟩
theorem upd_ok {d : TD} {tk tv : Ty} (h : keyD d tk = true) (k : tk.Den) (x : tv.Den) {v : Value} (hv : KR I w tv x v) : ∀ {kvs : List (tk.Den × tv.Den)} {es : List MapEntry} (i : Nat), MapR I w tk tv kvs es →
  (∃ j e, Instr.findNow (tdDesc d) (keyVal tk k) es i = some (some (i + j, e.val)) ∧ es[j]? = some e ∧ e.key = keyVal tk k ∧ MapR I w tk tv (updL k x kvs) (es.modify j fun e => { e with key := keyVal tk k, val := v })) ∨
  (Instr.findNow (tdDesc d) (keyVal tk k) es i = some none ∧ ∀ born, MapR I w tk tv (updL k x kvs) (es ++ [⟨keyVal tk k, v, born⟩]))
 | [], es, i, hm => by
  have hm : es = [] := hm
  subst hm
  refine .inr ⟨rfl, fun born => ⟨_, [], rfl, ?_, hv, rfl⟩⟩
  unfold KR
  rw [if_neg (by rw [key_kind h]; simp)]
  cases tk <;> cases d <;> simp only [keyD, decide_eq_true_eq, Bool.false_eq_true] at h <;> rfl
 | p :: kvs, es, i, hm => by
  obtain ⟨e, es', rfl, h1, h2, h3⟩ := hm
  obtain ⟨e1, _⟩ := MapR.key (tv := tv) h h1
  have hs := key_same h k p.1
  rw [← e1] at hs
  simp only [updL]
  by_cases hq : keyEq tk k p.1 = true
  ·rw [if_pos hq]
   rw [hq] at hs
   have hk := key_eq h hq
   refine .inl ⟨0, e, by simp [Instr.findNow, hs], rfl, by rw [e1, hk], ?_⟩
   exact ⟨_, es', rfl, by show KR I w tk p.1 (keyVal tk k); rw [hk, ← e1]; exact h1, hv, h3⟩
  ·rw [if_neg hq]
   have hq : keyEq tk k p.1 = false := by simpa using hq
   rw [hq] at hs
   rcases upd_ok h k x hv (i + 1) h3 with ⟨j, e2, g1, g2, g3, g4⟩ | ⟨g1, g2⟩
   ·refine .inl ⟨j + 1, e2, by simp only [Instr.findNow, hs, g1]; congr 3; omega, g2, g3, ?_⟩
    exact ⟨e, _, rfl, h1, h2, g4⟩
   ·refine .inr ⟨by simp only [Instr.findNow, hs, g1], fun born => ?_⟩
    exact ⟨e, _, rfl, h1, h2, g2 born⟩
theorem isUndef_ne' {v : AV} (h : v.isUndef = false) : v ≠ .undef := by rintro rfl; cases h
theorem VR.oneCells {v : AV} {u : Value} (h : VR I σ w v u) (ha : v.isAggV = false) (hu : v ≠ .undef) : u.cells = #[u] := by
 cases v with
 | agg vs => simp [AV.isAggV] at ha
 | undef => exact absurd rfl hu
 | d t x =>
  have := DR.one t x [u] h u (by simp)
  cases u <;> first | rfl | cases this
 | skip => obtain rfl := h; rfl
 | nilS => obtain rfl := h; rfl
 | empS => obtain ⟨A, rfl⟩ := h; rfl
 | nilF => obtain rfl := h; rfl
 | nilP => obtain rfl := h; rfl
 | nilM => obtain rfl := h; rfl
 | os p => obtain ⟨H, A, n, cap, h1, h2, rfl⟩ := h; rfl
 | sub p a n => obtain ⟨H, A, len, cap, h1, h2, h3, A', rfl, h4⟩ := h; rfl
 | el p i off => obtain ⟨H, b, o, len, cap, h1, h2, h3, rfl⟩ := h; rfl
 | op id off => obtain ⟨ow, b, h1, h2, rfl⟩ := h; rfl
 | mp id => obtain ⟨ow, b, h1, h2, rfl⟩ := h; rfl
 | rp vs => obtain ⟨b, o, es, rfl, _⟩ := h; rfl
 | tuple vs => obtain ⟨es, rfl, _⟩ := h; rfl
 | fn f vs => obtain ⟨es, rfl, _⟩ := h; rfl
theorem map_at (h : HR I σ w st.heap) {id : Nat} {tk tv : Ty} {kvs : List (tk.Den × tv.Den)} (hg : st.heap.get id = some (.mp tk tv kvs)) {u : Value} (hu : VR I σ w (.mp id) u) :
  ∃ b es clock ow, u = .map (some b) ∧ w.heap[b]? = some (.map (List.toArray es) clock) ∧ MapR I w tk tv kvs es ∧ σ id = some ow ∧ ow.h.v = .map (some b) ∧ ∀ i off, ow.inn i off = none := by
 obtain ⟨ow, b, h1, h2, rfl⟩ := hu
 obtain ⟨ow', k1, k2, b', es, clock, k3, k4, k5⟩ := h.objs id _ hg
 rw [h1] at k1; cases k1
 rw [h2] at k3; cases k3
 exact ⟨b, es, clock, ow, rfl, k4, k5, h1, h2, k2⟩
theorem KR.values {t : Ty} {x : t.Den} {v : Value} {te : TI} (h : KR I w t x v) (ha : te.isAgg = t.isAggT) {u : AV} (hm : mkV te (flat t x) = some u) : VR I σ w u v := by
 unfold KR at h
 split at h
 ·rename_i hq
  obtain ⟨cs, rfl, hd⟩ := h
  rcases mkV_ok hm (VRs.flat (σ := σ) t x _ hd) with ⟨_, m2⟩ | ⟨m1, _⟩
  ·simpa using m2
  ·rw [ha, hq] at m1; cases m1
 ·rename_i hq
  rcases mkV_ok hm (VRs.flat (σ := σ) t x _ h) with ⟨m1, _⟩ | ⟨_, u', m2, m3⟩
  ·rw [ha] at m1; exact absurd m1 hq
  ·cases m2; exact m3
theorem KR.of_value {t : Ty} {x : t.Den} {v : AV} {u : Value} (hv : VR I σ w v u) (hu : v.isUndef = false) (ha : v.isAggV = t.isAggT) {r : List AV} (hr : r.isEmpty = true) (hx : unflat t v.cells = some (x, r)) : KR I w t x u := by
 have hc := VR.cells hv (isUndef_ne' hu)
 obtain ⟨c1, c2, k1, k2, k3⟩ := VRs.unflat t hc.1 hx
 have hr : r = [] := by simpa using hr
 subst hr
 have k3 : c2 = [] := k3
 subst k3
 rw [List.append_nil] at k1
 unfold KR
 split
 ·rename_i hq
  rw [hq] at ha
  cases v <;> simp only [AV.isAggV, Bool.false_eq_true] at ha
  rename_i vs
  obtain ⟨cs, rfl⟩ := hc.2 vs rfl
  exact ⟨cs, rfl, by simp only [Value.cells] at k1; rw [k1]; exact k2⟩
 ·rename_i hq
  have hu1 : u.cells = #[u] := VR.oneCells hv (by rw [ha]; simpa using hq) (isUndef_ne' hu)
  rw [hu1] at k1
  have k1 : [u] = c1 := k1
  rw [k1]; exact k2
theorem HR.lookupT (h : HR I σ w st.heap) (hE : TabOK P E) {T : Nat} {m k v : AV} {um uk : Value} (hm : VR I σ w m um) (hk : VR I σ w k uk) {ok : Bool} (hl : Go.Q.lookupT E st.heap T m k ok = some v) :
  ∃ u', (∀ w', Keeps w w' → (Instr.lookup T um uk ok).run P w' = .ok u' w') ∧ VR I σ w v u' := by
 simp only [Go.Q.lookupT, Option.bind_eq_some_iff] at hl
 obtain ⟨ti, h1, hl⟩ := hl
 have hd := (hE.tab T ti h1).desc
 split at hl
 ·rename_i kid eid id hdd
  rw [hdd] at hd
  unfold lookupO at hl
  split at hl
  ·rename_i tk tv kvs hg
   simp only [Option.bind_eq_some_iff] at hl
   obtain ⟨ki, h2, te, h3, hl⟩ := hl
   split at hl
   ·rename_i hc
    obtain ⟨hc1, hc2⟩ := hc
    simp only [Option.bind_eq_some_iff] at hl
    obtain ⟨key, hkey, hl⟩ := hl
    obtain ⟨b, es, clock, ow, rfl, hb, hM, _⟩ := map_at h hg hm
    have hkd := key_desc (hE.tab kid ki h2) hc1
    have hkv : k = .d tk key := by
     cases k <;> simp only [asDen] at hkey
     case d t y =>
      split at hkey
      ·rename_i e; subst e; cases hkey; rfl
      ·cases hkey
     all_goals cases hkey
    subst hkv
    obtain ⟨e1, e2⟩ := key_is hc1 hk
    subst e1
    have hf := find_ok hc1 key 0 hM
    have hrun : ∀ w', Keeps w w' → w'.heap[b]? = some (.map (List.toArray es) clock) := fun w' hw => hw.heap b _ hb
    cases hx : findL key kvs with
    | some x =>
     rw [hx] at hl hf
     obtain ⟨j, u, g1, g2⟩ := hf
     simp only [Option.map_eq_some_iff] at hl
     obtain ⟨v0, hv0, rfl⟩ := hl
     have hv := KR.values (σ := σ) g2 hc2 hv0
     refine ⟨if ok = true then .tuple #[u, .bool true] else u, fun w' hw => ?_, ?_⟩
     ·simp [Instr.lookup, run_under hd, run_getMap (hrun w' hw), Go.MapKept.run_checkKey hkd e2, Go.MapKept.run_findKey hkd g1]
     ·unfold okV
      split
      ·exact ⟨[u, .bool true], rfl, _, _, rfl, hv, _, _, rfl, rfl, rfl⟩
      ·exact hv
    | none =>
     rw [hx] at hl hf
     simp only [Option.bind_eq_some_iff, Option.map_eq_some_iff] at hl
     obtain ⟨z, hz, v0, hv0, rfl⟩ := hl
     obtain ⟨info, i1, i2, i3, i4⟩ := (hE.tab eid te h3).info
     obtain ⟨zv, j1, j2⟩ := i4 z hz
     obtain ⟨s1, s2⟩ := (hE.tab eid te h3).shape info zv i1 j1
     have hv : VR I σ w v0 zv := by
      rcases mkV_ok hv0 (j2 I σ w) with ⟨m1, m2⟩ | ⟨m1, u', m2, m3⟩
      ·obtain ⟨cs, rfl⟩ := s1 m1
       simpa [Value.cells] using m2
      ·rw [s2 m1] at m2
       simp only [List.cons.injEq, and_true] at m2
       rw [m2]; exact m3
     refine ⟨if ok = true then .tuple #[zv, .bool false] else zv, fun w' hw => ?_, ?_⟩
     ·simp [Instr.lookup, run_under hd, run_getMap (hrun w' hw), Go.MapKept.run_checkKey hkd e2, Go.MapKept.run_findKey hkd hf, zeroValue, typeInfo, i1, j1]
     ·unfold okV
      split
      ·exact ⟨[zv, .bool false], rfl, _, _, rfl, hv, _, _, rfl, rfl, rfl⟩
      ·exact hv
   ·cases hl
  ·cases hl
 ·cases hl
theorem moved_setObj (w : World) {b : Nat} {o : Go.Obj} (o' : Go.Obj) (hb : w.heap[b]? = some o) : Moved (fun x => x = b) w { w with heap := w.heap.setIfInBounds b o' } := by
 refine ⟨rfl, rfl, rfl, by simp, fun k hk hn => ?_⟩
 exact (Go.MapKept.heap_set hb).2 k hn
theorem Tr.mapUpdate (h : HR I σ w st.heap) (hl : ∀ b, Live σ st.heap b → L b) (hE : TabOK P E) {T : Nat} {m k v : AV} {um uk uv : Value} (hm : VR I σ w m um) (hk : VR I σ w k uk) (hv : VR I σ w v uv) {st' : St} (hu : Go.Q.mapUpdate E st T m k v = some st') :
  ∃ w', (Instr.mapUpdate T um uk uv).run P w = .ok () w' ∧ Tr L I σ st w I σ st' w' := by
 simp only [Go.Q.mapUpdate, Option.bind_eq_some_iff] at hu
 obtain ⟨ti, h1, hu⟩ := hu
 have hd := (hE.tab T ti h1).desc
 split at hu
 ·rename_i kid eid id hdd
  rw [hdd] at hd
  simp only [Option.map_eq_some_iff] at hu
  obtain ⟨o', hu, rfl⟩ := hu
  unfold updO at hu
  split at hu
  ·rename_i tk tv kvs hg
   simp only [Option.bind_eq_some_iff] at hu
   obtain ⟨ki, h2, hu⟩ := hu
   split at hu
   ·rename_i hc
    obtain ⟨hc1, hc2, hc3⟩ := hc
    simp only [Option.bind_eq_some_iff] at hu
    obtain ⟨key, hkey, x, hx, hu⟩ := hu
    split at hu
    ·rename_i hr
     cases hu
     obtain ⟨x, r⟩ := x
     obtain ⟨b, es, clock, ow, rfl, hb, hM, hs, hh, hi⟩ := map_at h hg hm
     have hkd := key_desc (hE.tab kid ki h2) hc1
     have hkv : k = .d tk key := by
      cases k <;> simp only [asDen] at hkey
      case d t y =>
       split at hkey
       ·rename_i e; subst e; cases hkey; rfl
       ·cases hkey
      all_goals cases hkey
     subst hkv
     obtain ⟨e1, e2⟩ := key_is hc1 hk
     subst e1
     have hval := KR.of_value hv hc3 hc2 hr hx
     have hhas : ow.has b := .inl (by rw [hh]; rfl)
     have hIw : ∀ (o' : Go.Obj), ∀ x, I x → ({ w with heap := w.heap.setIfInBounds b o' } : World).heap[x]? = w.heap[x]? := fun o' x hx => by
      refine (Go.MapKept.heap_set hb).2 x (fun e => ?_)
      subst e
      exact (h.own x ⟨id, _, ow, hg, rfl, hs, hhas⟩).1 hx
     rcases upd_ok hc1 key x hval 0 hM with ⟨j, e, g1, g2, g3, g4⟩ | ⟨g1, g2⟩
     ·refine ⟨_, ?_, Tr.store h hl hg rfl hs (moved_setObj w (.map ((List.toArray es).modify j fun e => { e with key := keyVal tk key, val := uv }) clock) hb) (fun x hx => by rw [hx]; exact hhas) ⟨hi, b, _, clock, hh, by rw [(Go.MapKept.heap_set hb).1], ?_⟩ (fun h => h)⟩
      ·have g1' : Instr.findNow (tdDesc ki.desc) (keyVal tk key) es 0 = some (some (j, e.val)) := by rw [g1, Nat.zero_add]
       have g2' : (List.toArray es)[j]? = some e := by simpa using g2
       simp [Instr.mapUpdate, run_under hd, run_getMap hb, Go.MapKept.run_checkKey hkd e2, Go.MapKept.run_findKey hkd g1', g2, g2', g3, Go.MapKept.run_keyThatStays e2, run_setMap _ hb]
      ·refine MapR.mono (fun _ h => h) (hIw _) ?_
       have : ((List.toArray es).modify j fun e => { e with key := keyVal tk key, val := uv }).toList = es.modify j fun e => { e with key := keyVal tk key, val := uv } := by simp
       rw [this]; exact g4
     ·refine ⟨_, ?_, Tr.store h hl hg rfl hs (moved_setObj w (.map ((List.toArray es).push ⟨keyVal tk key, uv, clock⟩) (clock + 1)) hb) (fun x hx => by rw [hx]; exact hhas) ⟨hi, b, _, clock + 1, hh, by rw [(Go.MapKept.heap_set hb).1], ?_⟩ (fun h => h)⟩
      ·simp [Instr.mapUpdate, run_under hd, run_getMap hb, Go.MapKept.run_checkKey hkd e2, Go.MapKept.run_findKey hkd g1, run_setMap _ hb]
      ·refine MapR.mono (fun _ h => h) (hIw _) ?_
       have : ((List.toArray es).push ⟨keyVal tk key, uv, clock⟩).toList = es ++ [⟨keyVal tk key, uv, clock⟩] := by simp
       rw [this]; exact g2 clock
    ·cases hu
   ·cases hu
  ·cases hu
 ·cases hu
theorem Tr.makeMap (h : HR I σ w st.heap) (hl : ∀ b, Live σ st.heap b → L b) (hnew : ∀ b, w.heap.size ≤ b → L b) (hE : TabOK P E) {id : Nat} (hid : id < lentFrom) {T k e : Nat} {ti : TI} (h1 : E.tab T = some ti) (hdd : ti.desc = .map k e) {tk tv : Ty} {r : Option Value} (hr : ∀ x, r = some x → ∃ kk n, x = .int kk n) :
  ∃ σ', (Instr.makeMap T r).run P w = .ok (.map (some w.heap.size)) (w.alloc (.map #[] 0)) ∧ Tr L I σ st w I σ' (st.alloc id (.mp tk tv [])) (w.alloc (.map #[] 0)) ∧ VR I σ' (w.alloc (.map #[] 0)) (.mp id) (.map (some w.heap.size)) := by
 have hd := (hE.tab T ti h1).desc
 rw [hdd] at hd
 have hnw := alloc_new w (.map #[] 0)
 refine ⟨_, ?_, Tr.alloc h hl (ow := ⟨⟨.map (some w.heap.size), 0⟩, fun _ _ => none⟩) hid (moved_alloc w _) (fun b hb => ?_) ⟨fun _ _ => rfl, w.heap.size, [], 0, rfl, hnw, rfl⟩, ⟨_, w.heap.size, upd_same _ _ _, rfl, rfl⟩⟩
 ·cases r with
  | none => simp [Instr.makeMap]
  | some x =>
   obtain ⟨kk, n, rfl⟩ := hr x rfl
   simp [Instr.makeMap, run_under hd, asInt, asIntOf]
 ·rcases hb with hb | ⟨_, _, _, hb, _⟩
  ·simp only [blockOf, Option.some.injEq] at hb
   subst hb
   refine ⟨hnew _ (Nat.le_refl _), fun hi => ?_, (Array.getElem?_eq_some_iff.1 hnw).1, fun hx => ?_⟩
   ·have := h.lt _ hi; omega
   ·have := (h.own _ hx).2; omega
  ·cases hb
end
end Go.Q
