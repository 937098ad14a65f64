/- An abstract interpreter of the translated code: operations. -/
import Derived.Test.YtlbommlpkdcmnaaGPIOps6
namespace Go.PI
open Go
section
variable {P : Program} {E : Env} {M : Nat → Prop} {w0 : World} {I0 I : Nat → Prop} {σ : Nat → Option Own} {st : St} {a : Act} {w : World}

theorem ArrR.imp {J J' : Nat → Prop} (h1 : ∀ b, J b → J' b) {e : Nat} {t : Ty} {xs : List t.Den} {u : Value} (h : ArrR J w e t xs u) : ArrR J' w e t xs u := by
  rcases h with h | ⟨b, o, cap, cells, g1, g2, g3, g4, g5⟩
  · exact .inl h
  · refine .inr ⟨b, o, cap, cells, g1, g2, g3, g4, fun i hi => ?_⟩
    obtain ⟨es, k1, k2⟩ := g5 i hi
    exact ⟨es, DR.mono h1 (fun _ _ => rfl) t _ _ k1, k2⟩

theorem R1.imp {J J' : Nat → Prop} {lo : Nat} (h1 : ∀ b, J b → J' b) (h2 : ∀ b, lo ≤ b → J' b → J b) {v : AV} {u : Value} {cl : List Nat} (h : R1 J lo w v u cl) : R1 J' lo w v u cl := by
  cases v with
  | own e t xs =>
    obtain ⟨k1, k2⟩ := h
    refine ⟨ArrR.imp h1 k1, ?_⟩
    rcases k2 with k2 | ⟨b, k1, k2, k3, k4, k5⟩
    · exact .inl k2
    · exact .inr ⟨b, k1, k2, k3, fun hb => k4 (h2 b k2 hb), k5⟩
  | _ => exact ⟨VR.mono h1 (fun _ _ => rfl) (fun _ _ h => h) _ _ h.1, h.2⟩

theorem RC.imp {J J' : Nat → Prop} {lo : Nat} (h1 : ∀ b, J b → J' b) (h2 : ∀ b, lo ≤ b → J' b → J b) : ∀ {vs : List AV} {us : List Value} {cl : List Nat}, RC J lo w vs us cl → RC J' lo w vs us cl
  | [], _, _, h => h
  | v :: vs, _, _, h => by
    obtain ⟨u, us', c1, c2, e, k1, k2, k3⟩ := h
    exact ⟨u, us', c1, c2, e, R1.imp h1 h2 k1, RC.imp h1 h2 k2, k3⟩

theorem RV.imp {J J' : Nat → Prop} {lo : Nat} (h1 : ∀ b, J b → J' b) (h2 : ∀ b, lo ≤ b → J' b → J b) {v : AV} {u : Value} {cl : List Nat} (h : RV J lo w v u cl) : RV J' lo w v u cl := by
  cases v with
  | agg vs => obtain ⟨es, e, k1⟩ := h; exact ⟨es, e, RC.imp h1 h2 k1⟩
  | own e t xs => exact R1.imp (v := .own e t xs) h1 h2 h
  | _ => exact ⟨VR.mono h1 (fun _ _ => rfl) (fun _ _ h => h) _ _ h.1, h.2⟩

theorem RL.imp {J J' : Nat → Prop} {lo : Nat} (h1 : ∀ b, J b → J' b) (h2 : ∀ b, lo ≤ b → J' b → J b) : ∀ {vs : List AV} {us : List Value} {cl : List Nat}, RL J lo w vs us cl → RL J' lo w vs us cl
  | [], _, _, h => h
  | v :: vs, _, _, h => by
    obtain ⟨u, us', c1, c2, e, k1, k2, k3⟩ := h
    exact ⟨u, us', c1, c2, e, RV.imp h1 h2 k1, RL.imp h1 h2 k2, k3⟩

theorem RR.imp {J J' : Nat → Prop} {lo : Nat} (h1 : ∀ b, J b → J' b) (h2 : ∀ b, lo ≤ b → J' b → J b) {v : AV} {u : Value} (h : RR J lo w v u) : RR J' lo w v u := by
  cases v with
  | tuple vs => obtain ⟨es, cl, e, k1⟩ := h; exact ⟨es, cl, e, RL.imp h1 h2 k1⟩
  | agg vs => obtain ⟨cl, h⟩ := h; exact ⟨cl, RV.imp (v := .agg vs) h1 h2 h⟩
  | own e t xs => obtain ⟨cl, h⟩ := h; exact ⟨cl, RV.imp (v := .own e t xs) h1 h2 h⟩
  | _ => obtain ⟨cl, h⟩ := h; exact ⟨cl, VR.mono h1 (fun _ _ => rfl) (fun _ _ h => h) _ _ h.1, h.2⟩

theorem mapO_same {f : AV → Option AV} (hf : ∀ v v', v.owned = false → f v = some v' → v' = v) : ∀ {vs ws : List AV}, AV.owneds vs = false → mapO f vs = some ws → ws = vs
  | [], ws, _, h => by simp only [mapO, Option.some.injEq] at h; exact h.symm
  | v :: vs, ws, hv, h => by
    simp only [AV.owneds, Bool.or_eq_false_iff] at hv
    simp only [mapO, Option.bind_eq_some_iff, Option.map_eq_some_iff] at h
    obtain ⟨y, k1, ys, k2, rfl⟩ := h
    rw [hf v y hv.1 k1, mapO_same hf hv.2 k2]

theorem argOf_same (h : Heap) : ∀ (m : Nat) (v v' : AV), v.owned = false → Go.PI.argOf h m v = some v' → v' = v
  | 0, _, _, _, h => by simp [Go.PI.argOf] at h
  | m + 1, v, v', hv, ha => by
    cases v <;> simp only [AV.owned] at hv <;> simp only [Go.PI.argOf] at ha
    case rp vs => simp only [Option.map_eq_some_iff] at ha; obtain ⟨ws, k1, rfl⟩ := ha; rw [mapO_same (argOf_same h m) hv k1]
    case agg vs => simp only [Option.map_eq_some_iff] at ha; obtain ⟨ws, k1, rfl⟩ := ha; rw [mapO_same (argOf_same h m) hv k1]
    case fn f vs => simp only [Option.map_eq_some_iff] at ha; obtain ⟨ws, k1, rfl⟩ := ha; rw [mapO_same (argOf_same h m) hv k1]
    all_goals first | (cases ha; rfl) | cases ha | cases hv

/-- A call. -/
theorem Rel.call (h : Rel M w0 I0 I σ st a w) (hC : CallOK P E.call) {g : Nat} {vs us : List AV} {r : AV} {xs : List Value} (hv : VRs I σ w vs xs) (ha : Go.PI.args st.heap vs = some us) (hr : E.call g us = some r)
    (hs : (AV.shares r && AV.owneds vs) ≠ true) (id : Nat) :
    (callFunc g xs.toArray).run P w = .ok (.enter g xs.toArray) w ∧ Calls P g xs.toArray w fun e w' => ∃ u I' σ', e = .returned u ∧ Keeps w w' ∧ Rel M w0 I0 I' σ' (Go.PI.adopt st id r).2 a w' ∧ VR I' σ' w' (Go.PI.adopt st id r).1 u := by
  obtain ⟨hc1, hc2⟩ := hC g us r hr
  refine ⟨hc1 _ _, ?_⟩
  have hmoved : ∀ {w' : World}, Moved (fun _ => False) w w' → Rel M w0 I0 I σ st a w' := fun hm => h.moved hm (fun _ h => h.elim) (fun _ h => h.elim) (fun _ _ _ _ _ _ _ _ h => h)
  have hfree : ∀ b, w.heap.size ≤ b → ∀ id o ow, st.heap.get id = some o → o.live = true → σ id = some ow → blockOf ow.v ≠ some b := fun b hb i o ow g1 g2 g3 g4 => by
    have := (h.own i o ow b g1 g2 g3 g4).2.1; omega
  have hlo : w0.heap.size ≤ w.heap.size := h.frame.2.2.2.1
  by_cases ho : AV.owneds vs = true
  · have hsh : r.shares = false := by
      rw [ho, Bool.and_true] at hs; simpa using hs
    refine Calls.mono (hc2 (withOwn I σ st) w xs (fun b hb => ?_) (mapO_args (fun v v' u => Rel.argOf h 8 v v' u) hv ha)) ?_
    · rcases hb with hb | ⟨i, o, ow, g1, g2, g3, g4⟩
      · exact h.lt b hb
      · exact (h.own i o ow b g1 g2 g3 g4).2.1
    · rintro e w' ⟨u, J', rfl, hm, hJ', hrr⟩
      have h1 := hmoved hm
      obtain ⟨σ', k1, k2⟩ := h1.adopt hlo (RR.noShares (fun b hb => h.lt b hb) hsh hrr) hfree id
      exact ⟨u, I, σ', rfl, hm.keeps, k1, k2⟩
  · have hno : AV.owneds vs = false := by simpa using ho
    have hus : us = vs := mapO_same (argOf_same st.heap 8) hno ha
    subst hus
    refine Calls.mono (hc2 I w xs h.lt (VRs.noOwn us xs hno hv)) ?_
    rintro e w' ⟨u, J', rfl, hm, hJ', hrr⟩
    have h1 := hmoved hm
    have h2 : Rel M w0 I0 (fun b => I b ∨ (J' b ∧ w.heap.size ≤ b)) σ st a w' := by
      refine h1.widen (fun b hb => .inl hb) fun b hb => ?_
      rcases hb with hb | ⟨hb, hlb⟩
      · exact .inl hb
      · refine .inr ⟨?_, .inl (by omega), hfree b hlb⟩
        rcases hJ' b hb with hb' | hb'
        · exact Nat.lt_of_lt_of_le (h.lt b hb') hm.size
        · exact hb'.2
    have h3 : RR (fun b => I b ∨ (J' b ∧ w.heap.size ≤ b)) w.heap.size w' r u := by
      refine RR.imp (fun b hb => ?_) (fun b hlb hb => ?_) hrr
      · rcases hJ' b hb with hb' | hb'
        · exact .inl hb'
        · exact .inr ⟨hb, hb'.1⟩
      · rcases hb with hb | hb
        · have := h.lt b hb; omega
        · exact hb.1
    obtain ⟨σ', k1, k2⟩ := h2.adopt hlo h3 hfree id
    exact ⟨u, _, σ', rfl, hm.keeps, k1, k2⟩

/-- What one operation does. -/
theorem Rel.exOp (h : Rel M w0 I0 I σ st a w) (hE : TabOK P E) (hC : CallOK P E.call) {o : Oper} {st' : St} (hd : ∀ t, o.dst = some t → t < a.tmps.size) (he : Go.PI.exOp E o st = some st') {K : Act → World → Prop} {Q : Exit → Act → World → Prop}
    (hK : ∀ I' σ' u w', (keepsOp o.op = true → Keeps w w') → Rel M w0 I0 I' σ' st' (a.put o.dst u) w' → K (a.put o.dst u) w') : o.wp P a w K Q := by
  unfold Go.PI.exOp at he
  split at he
  · simp only [Option.map_eq_some_iff] at he
    obtain ⟨v, he, rfl⟩ := he
    obtain ⟨u, h1, h2⟩ := h.exVal hE he
    exact wp_value (h1 w (Keeps.refl w)) (hK I σ u w (fun _ => Keeps.refl w) (h.put hd h2))
  · rename_i hnp
    clear hnp
    simp only [Option.map_eq_some_iff] at he
    obtain ⟨⟨v, st1⟩, he, rfl⟩ := he
    generalize 8 * o.dst.getD 1000 = id at he
    have fin : ∀ {I' : Nat → Prop} {σ' : Nat → Option Own} {u : Value} {w' : World}, (execOp a.eval o).run P w = .ok (.value u) w' → (keepsOp o.op = true → Keeps w w') → Rel M w0 I0 I' σ' st1 a w' → VR I' σ' w' v u → o.wp P a w K Q :=
      fun hr hk g1 g2 => wp_value hr (hK _ _ _ _ hk (g1.put hd g2))
    obtain ⟨dst, op, ty, pos, after, guard⟩ := o
    simp only at he hd
    have lift : ∀ {s : Sem Value} {u : Value} {w' : World}, s.run P w = .ok u w' → (do pure (Next.value (← s)) : Sem Next).run P w = .ok (.value u) w' := by
      intro s u w' hs; simp [hs]
    cases op <;> simp only [Go.PI.exWrite] at he
    case alloc T =>
      simp only [Option.bind_eq_some_iff, Option.some.injEq, Prod.mk.injEq] at he
      obtain ⟨ti, h1, z, h2, rfl, rfl⟩ := he
      obtain ⟨info, i1, i2, i3, i4⟩ := (hE.tab T ti h1).info
      obtain ⟨zv, j1, j2⟩ := i4 z h2
      obtain ⟨σ', k1, k2⟩ := h.allocBox id T (j2 I σ w)
      refine fin ?_ (fun _ => (moved_alloc w _).keeps) k1 k2
      refine lift ?_
      simp [Instr.alloc, zeroValue, typeInfo, i1, j1, newVar, newRow]
    case box T x =>
      simp only [Option.bind_eq_some_iff] at he
      obtain ⟨ti, h1, he⟩ := he
      split at he
      · rename_i hc
        simp only [Option.some.injEq, Prod.mk.injEq] at he
        obtain ⟨rfl, rfl⟩ := he
        have hx := (VR.cells (h.eval x) (AV.isUndef_ne hc.1)).1
        obtain ⟨σ', k1, k2⟩ := h.allocBox id T hx
        refine fin ?_ (fun _ => (moved_alloc w _).keeps) k1 k2
        refine lift ?_
        simp [Instr.box, newVar, newRow]
      · cases he
    case buildSlice T len parts =>
      obtain ⟨u, w', I', σ', k1, k2, k3⟩ := h.buildSlice (P := P) hE (us := (parts.toList.map (·.2)).map a.eval) (by
        have := evals h (parts.toList.map (·.2))
        simpa [List.map_map, Function.comp_def] using this) he
      refine fin ?_ (fun hk => by simp [keepsOp, pureOp] at hk) k2 k3
      refine lift ?_
      have hord : inOrder 0 (parts.toList.map fun p => (p.1, Go.PI.eval st p.2)) = true := by
        simp only [Go.PI.buildSlice, Option.bind_eq_some_iff] at he
        obtain ⟨ti, h1, he⟩ := he
        split at he
        · simp only [Option.bind_eq_some_iff] at he
          obtain ⟨t, h2, he⟩ := he
          split at he
          · rename_i hc; exact hc.2.1
          · cases he
        · cases he
      have hparts : (parts.map fun (p : Nat × Operand) => (p.1, a.eval p.2)) = ((((parts.toList.map (·.2)).map a.eval).zipIdx 0).map fun x => (x.2, x.1)).toArray := by
        apply Array.ext'
        have key : ∀ (k : Nat) (l : List (Nat × Operand)), inOrder k (l.map fun p => (p.1, Go.PI.eval st p.2)) = true → l.map (fun p => (p.1, a.eval p.2)) = ((((l.map (·.2)).map a.eval).zipIdx k).map fun x => (x.2, x.1)) := by
          intro k l
          induction l generalizing k with
          | nil => intro _; rfl
          | cons p l ih =>
            intro hh
            simp only [List.map_cons, inOrder, Bool.and_eq_true, beq_iff_eq] at hh
            simp only [List.map_cons, List.zipIdx_cons, ih (k + 1) hh.2, hh.1]
        simpa using key 0 parts.toList hord
      rw [hparts]; exact k1
    case store T p x =>
      simp only [Option.map_eq_some_iff, Prod.mk.injEq] at he
      obtain ⟨s, he, rfl, rfl⟩ := he
      obtain ⟨w', I', k1, k2⟩ := h.storeAt (P := P) hE (h.eval p) (h.eval x) he
      refine wp_skipped (w' := w') ?_ (hK I' σ Go.undef w' (fun hk => by simp [keepsOp, pureOp] at hk) (k2.put hd trivial))
      simp [execOp, k1]
    case makeSlice T l c =>
      split at he
      · rename_i kn n km m hl hc
        have hlv := h.eval l
        have hcv := h.eval c
        rw [hl] at hlv
        rw [hc] at hcv
        obtain ⟨u, w', σ', k1, k2, k3⟩ := h.makeSlice (P := P) hE (kn := kn) (km := km) he
        refine fin ?_ (fun hk => by simp [keepsOp, pureOp] at hk) k2 k3
        exact lift (by rw [VR.int hlv, VR.int hcv]; exact k1)
      · cases he
    case call c =>
      obtain ⟨callee, cargs, argTypes⟩ := c
      cases callee <;> simp only at he
      case builtin b =>
        cases b <;> simp only at he
        case append =>
          split at he
          · rename_i x y T T2 hx hT
            have hargs : cargs = #[x, y] := by apply Array.ext'; simpa using hx
            have hT' : argTypes = #[T, T2] := by apply Array.ext'; simpa using hT
            subst hargs; subst hT'
            obtain ⟨u, w', σ', k1, k2, k3⟩ := h.append (P := P) hE (h.eval x) (h.eval y) (ty := ty) he
            refine fin ?_ (fun hk => by simp [keepsOp, pureOp] at hk) k2 k3
            simp [execOp, resolve, invoke, builtin, k1]
          · cases he
        all_goals cases he
      case value f =>
        split at he
        · rename_i g caps hf
          simp only [Option.bind_eq_some_iff] at he
          obtain ⟨us, h1, r, h2, he⟩ := he
          split at he
          · cases he
          · rename_i hs
            simp only [Option.some.injEq] at he
            have hfv := h.eval f
            rw [hf] at hfv
            obtain ⟨es, e1, e2⟩ := hfv
            have hv : VRs I σ w (cargs.toList.map (Go.PI.eval st) ++ caps) (cargs.toList.map a.eval ++ es) := VRs.append (evals h _) e2
            obtain ⟨k1, k2⟩ := h.call hC hv h1 h2 (by simpa using hs) id
            have harr : (cargs.toList.map a.eval ++ es).toArray = cargs.map a.eval ++ es.toArray := by
              apply Array.ext'; simp
            rw [harr] at k1 k2
            unfold Oper.wp
            have hrun : (execOp a.eval ⟨dst, .call ⟨.value f, cargs, argTypes⟩, ty, pos, after, guard⟩).run P w = .ok (.enter g (cargs.map a.eval ++ es.toArray)) w := by
              simp [execOp, resolve, e1, Deferred.ofValue, invoke, k1]
            rw [hrun, Oper.upon_enter]
            refine Calls.mono k2 ?_
            rintro e w' ⟨u, I', σ', rfl, hk, q1, q2⟩
            rw [he] at q1 q2
            exact hK I' σ' u w' (fun _ => hk) (q1.put hd q2)
        · cases he
      all_goals cases he
    all_goals cases he

end
end Go.PI
