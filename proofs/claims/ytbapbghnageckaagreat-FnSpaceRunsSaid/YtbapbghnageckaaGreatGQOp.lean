/- An abstract interpreter of the translated code: operations. -/
import Derived.Test.YtbapbghnageckaaGreatGQVal
namespace Go.Q
set_option linter.unusedVariables false
set_option linter.unusedSimpArgs false
set_option linter.unusedSectionVars false
open Go
section
variable {P : Program} {E : Env} {B : Base} {I : Nat → Prop} {σ : Nat → Option Own} {st : St} {a : Act} {w : World}

theorem newId_lt (d : Option Nat) : newId d < lentFrom := by
 unfold newId lentFrom
 have : d.getD 9999 % 10000 < 10000 := Nat.mod_lt _ (by omega)
 omega

theorem Tr.allocBox {L : Nat → Prop} (h : HR I σ w st.heap) (hl : ∀ b, Live σ st.heap b → L b) (hnew : ∀ b, w.heap.size ≤ b → L b) {id : Nat} (hid : id < lentFrom) (T : Nat) {vs : List AV} {es : List Value} (hv : VRs I σ w vs es) :
  ∃ σ', Tr L I σ st w I σ' (st.alloc id (.box vs)) (w.alloc (.cells es.toArray T)) ∧ VR I σ' (w.alloc (.cells es.toArray T)) (.op id 0) (.pointer (some ⟨w.heap.size, 0, none⟩)) := by
 have hI : ∀ b, I b → (w.alloc (.cells es.toArray T)).heap[b]? = w.heap[b]? := fun b hb => (moved_alloc w _).block b (h.lt b hb) (fun h => h)
 refine ⟨_, Tr.alloc h hl (ow := ⟨⟨.pointer (some ⟨w.heap.size, 0, none⟩), 0⟩, fun _ _ => none⟩) hid (moved_alloc w _) (fun b hb => ?_) ⟨fun _ _ => rfl, w.heap.size, es, T, rfl, alloc_new w _, VRs.mono (fun _ h => h) hI (fun _ _ h => h) vs es hv⟩, ⟨_, w.heap.size, upd_same _ _ _, rfl, rfl⟩⟩
 rcases hb with hb | ⟨_, _, _, hb, _⟩
 ·simp only [blockOf, Option.some.injEq] at hb
  subst hb
  refine ⟨hnew _ (Nat.le_refl _), fun hi => ?_, (Array.getElem?_eq_some_iff.1 (alloc_new w _)).1, fun hx => ?_⟩
  ·have := h.lt _ hi; omega
  ·have := (h.own _ hx).2; omega
 ·cases hb

theorem varOf_cases (T : Nat) (z : List AV) (x : Option Nat) : varOf T z x = .box z ∨ ∃ e, z = [.nilP, .nilS] ∧ varOf T z x = .bld false T e .empty := by
 unfold varOf
 split
 ·split
  ·exact .inr ⟨_, rfl, rfl⟩
  ·exact .inl rfl
 ·exact .inl rfl
abbrev bldOwn (b : Nat) : Own := ⟨⟨.pointer (some ⟨b, 0, none⟩), 0⟩, fun i off => if i = 0 ∧ off = 1 then some ⟨.slice none 0 0, 1⟩ else none⟩
theorem bldOwn_has {b x : Nat} (h : (bldOwn b).has x) : x = b := by
 rcases h with h | ⟨i, off, H, h, hb⟩
 ·simp only [blockOf, Option.some.injEq] at h
  exact h.symm
 ·simp only at h
  split at h
  ·cases h; cases hb
  ·cases h
theorem bld_new {b e T : Nat} {es : List Value} {w' : World} (hv : VRs I σ w [.nilP, .nilS] es) (hw : w'.heap[b]? = some (.cells es.toArray T (0, 0))) : BldR w' (bldOwn b) false T e .empty := by
 obtain ⟨e1, es1, rfl, h1, e2, es2, rfl, h2, h3⟩ := hv
 have h1' : e1 = .pointer none := h1
 have h2' : e2 = .slice none 0 0 := h2
 have h3' : es2 = [] := h3
 subst h1'; subst h2'; subst h3'
 exact ⟨b, .slice none 0 0, rfl, rfl, by simp [blockOf], fun _ => ⟨⟨_, .inl rfl, hw⟩, .inl ⟨rfl, rfl⟩⟩⟩
theorem Tr.allocVar {L : Nat → Prop} (h : HR I σ w st.heap) (hl : ∀ b, Live σ st.heap b → L b) (hnew : ∀ b, w.heap.size ≤ b → L b) {id : Nat} (hid : id < lentFrom) (T : Nat) {vs : List AV} {es : List Value} (hv : VRs I σ w vs es) (x : Option Nat) :
  ∃ σ', Tr L I σ st w I σ' (st.alloc id (varOf T vs x)) (w.alloc (.cells es.toArray T)) ∧ VR I σ' (w.alloc (.cells es.toArray T)) (.op id 0) (.pointer (some ⟨w.heap.size, 0, none⟩)) := by
 rcases varOf_cases T vs x with hx | ⟨e, rfl, hx⟩
 ·rw [hx]; exact Tr.allocBox h hl hnew hid T hv
 ·rw [hx]
  refine ⟨_, Tr.alloc h hl (ow := bldOwn w.heap.size) hid (moved_alloc w _) (fun b hb => ?_) (bld_new hv (alloc_new w _)), ⟨_, w.heap.size, upd_same _ _ _, rfl, rfl⟩⟩
  rw [bldOwn_has hb]
  refine ⟨hnew _ (Nat.le_refl _), fun hi => ?_, (Array.getElem?_eq_some_iff.1 (alloc_new w _)).1, fun hx => ?_⟩
  ·have := h.lt _ hi; omega
  ·have := (h.own _ hx).2; omega

theorem Rel.exOp (h : Rel B I σ st a w) (hE : TabOK P E) (hC : CallOK P E.call) {o : Oper} {st' : St} (hd : ∀ t, o.dst = some t → t < a.tmps.size) (he : Go.Q.exOp E o st = some st') {K : Act → World → Prop} {Q : Exit → Act → World → Prop}
  (hK : ∀ I' σ' u w', (keepsOp E.byref o.op = true → Keeps w w') → Rel B I' σ' st' (a.put o.dst u) w' → K (a.put o.dst u) w') : o.wp P a w K Q := by
 unfold Go.Q.exOp at he
 split at he
 ·simp only [Option.map_eq_some_iff] at he
  obtain ⟨v, he, rfl⟩ := he
  obtain ⟨u, h1, h2⟩ := h.exVal hE he
  exact wp_value (h1 w (Keeps.refl w)) (hK I σ u w (fun _ => Keeps.refl w) (h.put hd h2))
 ·rename_i hnp
  clear hnp
  simp only [Option.map_eq_some_iff] at he
  obtain ⟨⟨v, st1⟩, he, rfl⟩ := he
  have hid := newId_lt o.dst
  generalize newId o.dst = id at he hid
  have hl : ∀ b, Live σ st.heap b → B.L b := h.from_
  have hnew : ∀ b, w.heap.size ≤ b → B.L b := fun b hb => h.new hb
  have fin : ∀ {I' : Nat → Prop} {σ' : Nat → Option Own} {u : Value} {w' : World}, (execOp a.eval o).run P w = .ok (.value u) w' → (keepsOp E.byref o.op = true → Keeps w w') → Tr B.L I σ st w I' σ' st1 w' → VR I' σ' w' v u → o.wp P a w K Q :=
   fun hr hk g1 g2 => wp_value hr (hK _ _ _ _ hk ((h.tr g1).put hd g2))
  obtain ⟨dst, op, ty, pos, after, guard⟩ := o
  simp only at he hd
  have lift : ∀ {s : Sem Value} {u : Value} {w' : World}, s.run P w = .ok u w' → (do pure (Next.value (← s)) : Sem Next).run P w = .ok (.value u) w' := by
   intro s u w' hs; simp [hs]
  cases op <;> simp only [Go.Q.exWrite] at he
  case alloc T =>
   simp only [Option.bind_eq_some_iff, Option.some.injEq, Prod.mk.injEq] at he
   obtain ⟨ti, h1, z, h2, rfl, rfl⟩ := he
   obtain ⟨info, i1, i2, i3, i4⟩ := (hE.tab T ti h1).info
   obtain ⟨zv, j1, j2⟩ := i4 z h2
   obtain ⟨σ', k1, k2⟩ := Tr.allocVar h.hr hl hnew hid T (j2 I σ w) (bldOf E.tab T ti)
   refine fin ?_ (fun _ => (moved_alloc w _).keeps) k1 k2
   refine lift ?_
   simp [Instr.alloc, zeroValue, typeInfo, i1, j1, newVar, newRow]
  case box T x =>
   simp only [Option.bind_eq_some_iff] at he
   obtain ⟨ti, h1, he⟩ := he
   split at he
   ·rename_i hc
    simp only [Option.some.injEq, Prod.mk.injEq] at he
    obtain ⟨rfl, rfl⟩ := he
    have hx := (VR.cells (h.eval x) (AV.isUndef_ne hc.1)).1
    obtain ⟨σ', k1, k2⟩ := Tr.allocBox h.hr hl hnew hid T hx
    refine fin ?_ (fun _ => (moved_alloc w _).keeps) k1 k2
    refine lift ?_
    simp [Instr.box, newVar, newRow]
   ·cases he
  case buildSlice T len parts =>
   obtain ⟨u, w', I', σ', k1, k0, k2, k3⟩ := Tr.buildSlice (P := P) h.hr hl hnew hE hid (us := (parts.toList.map (·.2)).map a.eval) (by
    have := evals h (parts.toList.map (·.2))
    simpa [List.map_map, Function.comp_def] using this) he
   refine fin ?_ (fun _ => k0.keeps) k2 k3
   refine lift ?_
   have hord : inOrder 0 (parts.toList.map fun p => (p.1, Go.Q.eval st p.2)) = true := by
    simp only [Go.Q.buildSlice, Option.bind_eq_some_iff] at he
    obtain ⟨ti, h1, he⟩ := he
    split at he
    ·simp only [Option.bind_eq_some_iff] at he
     obtain ⟨t, h2, he⟩ := he
     split at he
     ·rename_i hc; exact hc.2.1
     ·cases he
    ·cases he
   have hparts : (parts.map fun (p : Nat × Operand) => (p.1, a.eval p.2)) = ((((parts.toList.map (·.2)).map a.eval).zipIdx 0).map fun x => (x.2, x.1)).toArray := by
    apply Array.ext'
    have key : ∀ (k : Nat) (l : List (Nat × Operand)), inOrder k (l.map fun p => (p.1, Go.Q.eval st p.2)) = true → l.map (fun p => (p.1, a.eval p.2)) = ((((l.map (·.2)).map a.eval).zipIdx k).map fun x => (x.2, x.1)) := by
     intro k l
     induction l generalizing k with
     | nil => intro _; rfl
     | cons p l ih =>
      intro hh
      simp only [List.map_cons, inOrder, Bool.and_eq_true, beq_iff_eq] at hh
      simp only [List.map_cons, List.zipIdx_cons, ih (k + 1) hh.2, hh.1]
    simpa using key 0 parts.toList hord
   rw [hparts]; exact k1
  case store T p x =>
   simp only [Option.map_eq_some_iff, Prod.mk.injEq] at he
   obtain ⟨s, he, rfl, rfl⟩ := he
   obtain ⟨w', I', σ', k1, k2⟩ := Tr.storeAt (P := P) h.hr hl hE (h.eval p) (h.eval x) he
   refine wp_skipped (w' := w') ?_ (hK I' σ' Go.undef w' (fun hk => by simp [keepsOp, pureOp] at hk) ((h.tr k2).put hd trivial))
   simp [execOp, k1]
  case makeMap T r =>
   simp only [Go.Q.makeMap] at he
   split at he
   ·rename_i hh
    simp only [Option.bind_eq_some_iff] at he
    obtain ⟨ti, h1, he⟩ := he
    split at he
    ·rename_i kk ee hdd
     simp only [Option.bind_eq_some_iff, Option.map_eq_some_iff, Prod.mk.injEq] at he
     obtain ⟨tk, _, tv, _, rfl, rfl⟩ := he
     have hr : ∀ x, r.map a.eval = some x → ∃ k n, x = .int k n := by
      intro x hx
      cases r with
      | none => cases hx
      | some y =>
       simp only [Option.map_some, Option.some.injEq] at hx
       subst hx
       simp only [hintOk] at hh
       have hyv := h.eval y
       cases hy : Go.Q.eval st y <;> rw [hy] at hh hyv <;> try (cases hh)
       rename_i t z
       cases t <;> try (cases hh)
       exact ⟨_, _, VR.int hyv⟩
     obtain ⟨σ', k1, k2, k3⟩ := Tr.makeMap (P := P) (tk := tk) (tv := tv) h.hr hl hnew hE hid h1 hdd hr
     refine fin ?_ (fun _ => (moved_alloc w _).keeps) k2 k3
     exact lift k1
    ·cases he
   ·cases he
  case mapUpdate T m k x =>
   simp only [Option.map_eq_some_iff, Prod.mk.injEq] at he
   obtain ⟨s, he, rfl, rfl⟩ := he
   obtain ⟨w', k1, k2⟩ := Tr.mapUpdate (P := P) h.hr hl hE (h.eval m) (h.eval k) (h.eval x) he
   refine wp_skipped (w' := w') ?_ (hK I σ Go.undef w' (fun hk => by simp [keepsOp, pureOp] at hk) ((h.tr k2).put hd trivial))
   simp [execOp, k1]
  case insert T m k x =>
   simp only [Option.map_eq_some_iff, Prod.mk.injEq] at he
   obtain ⟨s, he, rfl, rfl⟩ := he
   obtain ⟨w', k1, k2⟩ := Tr.mapUpdate (P := P) h.hr hl hE (h.eval m) (h.eval k) (h.eval x) he
   refine wp_skipped (w' := w') ?_ (hK I σ Go.undef w' (fun hk => by simp [keepsOp, pureOp] at hk) ((h.tr k2).put hd trivial))
   simp [execOp, k1]
  case makeSlice T l c =>
   split at he
   ·rename_i kn n km m hl' hc
    have hlv := h.eval l
    have hcv := h.eval c
    rw [hl'] at hlv
    rw [hc] at hcv
    obtain ⟨u, w', σ', k1, k2, k3, k4⟩ := Tr.makeSlice (P := P) h.hr hl hnew hE hid (kn := kn) (km := km) he
    refine fin ?_ (fun _ => k4) k2 k3
    exact lift (by rw [VR.int hlv, VR.int hcv]; exact k1)
   ·cases he
  case call c =>
   obtain ⟨callee, cargs, argTypes⟩ := c
   cases callee <;> simp only at he
   case builtin b =>
    cases b <;> simp only at he
    case append =>
     split at he
     ·rename_i x y T T2 hx hT
      have hargs : cargs = #[x, y] := by apply Array.ext'; simpa using hx
      have hT' : argTypes = #[T, T2] := by apply Array.ext'; simpa using hT
      subst hargs; subst hT'
      obtain ⟨u, w', I', σ', k1, k2, k3⟩ := Tr.append (P := P) h.hr hl hnew hE hid (h.eval x) (h.eval y) (ty := ty) he
      refine fin ?_ (fun hk => by simp [keepsOp, pureOp] at hk) k2 k3
      simp [execOp, resolve, invoke, builtin, k1]
     ·cases he
    case copy =>
     split at he
     ·rename_i x y T T2 hx hT
      have hargs : cargs = #[x, y] := by apply Array.ext'; simpa using hx
      have hT' : argTypes = #[T, T2] := by apply Array.ext'; simpa using hT
      subst hargs; subst hT'
      obtain ⟨u, w', k1, k2, k3⟩ := Tr.copy (P := P) h.hr hl hE (h.eval x) (h.eval y) (ty := ty) he
      refine fin ?_ (fun hk => by simp [keepsOp, pureOp] at hk) k2 k3
      simp [execOp, resolve, invoke, builtin, k1]
     ·cases he
    case clear =>
     split at he
     ·rename_i x T hx hT
      have hargs : cargs = #[x] := by apply Array.ext'; simpa using hx
      have hT' : argTypes = #[T] := by apply Array.ext'; simpa using hT
      subst hargs; subst hT'
      obtain ⟨u, w', k1, k2, k3⟩ := Tr.clear (P := P) h.hr hl hE (h.eval x) (ty := ty) he
      refine fin ?_ (fun hk => by simp [keepsOp, pureOp] at hk) k2 k3
      simp [execOp, resolve, invoke, builtin, k1]
     ·cases he
    all_goals cases he
   case value f =>
    split at he
    ·rename_i g caps hf
     have hfv := h.eval f
     rw [hf] at hfv
     obtain ⟨es, e1, e2⟩ := hfv
     have hv : VRs I σ w (cargs.toList.map (Go.Q.eval st) ++ caps) (cargs.toList.map a.eval ++ es) := VRs.append (evals h _) e2
     have hcv := Tr.callG (P := P) h.hr hl hnew hC hv he
     have harr : (cargs.toList.map a.eval ++ es).toArray = cargs.map a.eval ++ es.toArray := by
      apply Array.ext'; simp
     rw [harr] at hcv
     unfold Oper.wp
     have hkp : keepsOp E.byref (.call ⟨.value f, cargs, argTypes⟩) = true → (E.byref g).isEmpty = true := fun hkeep => by
      cases f with
      | func g' =>
       simp only [Go.Q.eval, AV.fn.injEq] at hf
       obtain ⟨rfl, _⟩ := hf
       simpa [keepsOp] using hkeep
      | _ => simp [keepsOp, pureOp] at hkeep
     rcases hcv with ⟨k1, k2⟩ | ⟨u, w', k1, u', I', σ', e3, hk, q1, q2⟩
     ·have hrun : (execOp a.eval ⟨dst, .call ⟨.value f, cargs, argTypes⟩, ty, pos, after, guard⟩).run P w = .ok (.enter g (cargs.map a.eval ++ es.toArray)) w := by
       simp [execOp, resolve, e1, Deferred.ofValue, invoke, k1]
      rw [hrun, Oper.upon_enter]
      refine Calls.mono k2 ?_
      rintro e w' ⟨u, I', σ', rfl, hk, q1, q2⟩
      exact hK I' σ' u w' (fun hkeep => hk (hkp hkeep)) ((h.tr q1).put hd q2)
     ·cases e3
      have hrun : (execOp a.eval ⟨dst, .call ⟨.value f, cargs, argTypes⟩, ty, pos, after, guard⟩).run P w = .ok (.value u) w' := by
       simp [execOp, resolve, e1, Deferred.ofValue, invoke, k1]
      rw [hrun, Oper.upon_value]
      exact hK I' σ' u w' (fun hkeep => hk (hkp hkeep)) ((h.tr q1).put hd q2)
    ·cases he
   all_goals cases he
  all_goals cases he

end
end Go.Q
