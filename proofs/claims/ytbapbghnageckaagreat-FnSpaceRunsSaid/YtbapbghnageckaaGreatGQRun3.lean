/- An abstract interpreter of the translated code: calls. -/
import Derived.Test.YtbapbghnageckaaGreatGQRun2
namespace Go.Q
set_option linter.unusedVariables false
set_option linter.unusedSimpArgs false
set_option linter.unusedSectionVars false
open Go
section
variable {P : Program} {E : Env} {B : Base} {I : Nat → Prop} {σ : Nat → Option Own} {st : St} {a : Act} {w : World} {Q : Exit → Act → World → Prop}

theorem Rel.loadVar (h : Rel B I σ st a w) (hE : TabOK P E) {T : Nat} {p v : AV} {u : Value} (hp : VR I σ w p u) (hl : Go.Q.loadAt E st.heap T p = some v) :
  ∃ u', (do Go.loadVar T (← asAddr u) : Sem Value).run P w = .ok u' w ∧ VR I σ w v u' := by
 obtain ⟨u', h1, h2⟩ := h.hr.loadAt hE hp hl
 have h1 := h1 w (Keeps.refl w)
 refine ⟨u', ?_, h2⟩
 simp only [Go.Q.loadAt, Option.bind_eq_some_iff] at hl
 obtain ⟨ti, _, vs, k2, _⟩ := hl
 obtain ⟨b, o, es, rfl, _⟩ := h.hr.cellsAt hp k2
 simpa [Instr.loadAt, Instr.sureAddr, asAddr] using h1

theorem Rel.resultVar (h : Rel B I σ st a w) (hE : TabOK P E) {r : ResultVar} {v : AV} (he : Go.Q.resultVar E st r = some v) :
  ∃ u, (match r with
   | .tmp t => pure (a.tmps.getD t Go.undef)
   | .cell c t => do Go.loadVar t (← asAddr (a.tmps.getD c Go.undef)) : Sem Value).run P w = .ok u w ∧ VR I σ w v u := by
 cases r with
 | tmp t =>
  simp only [Go.Q.resultVar, Option.some.injEq] at he
  subst he
  exact ⟨_, by simp, h.get t⟩
 | cell c t => exact h.loadVar hE (h.get c) he

theorem run_mapM_list {α : Type} {f : α → Sem Value} {g : α → Option AV} (hf : ∀ x v, g x = some v → ∃ u, (f x).run P w = .ok u w ∧ VR I σ w v u) :
  ∀ {l : List α} {vs : List AV}, mapO g l = some vs → ∃ us, (l.mapM f).run P w = .ok us w ∧ VRs I σ w vs us
 | [], vs, h => by
  simp only [mapO, Option.some.injEq] at h
  subst h
  exact ⟨[], by simp, rfl⟩
 | x :: l, vs, h => by
  simp only [mapO, Option.bind_eq_some_iff, Option.map_eq_some_iff] at h
  obtain ⟨v, h1, vs', h2, rfl⟩ := h
  obtain ⟨u, k1, k2⟩ := hf x v h1
  obtain ⟨us, k3, k4⟩ := run_mapM_list hf h2
  exact ⟨u :: us, by rw [List.mapM_cons]; simp [k1, k3], u, us, rfl, k2, k4⟩

theorem finish_ok (h : Rel B I σ st a w) (hE : TabOK P E) {F : Func} {r : AV × Heap} (he : finish E F st = some r) :
  ∃ u σ', (results F a.tmps).run P w = .ok u w ∧ Tr B.L I σ ⟨[], st.heap⟩ w I σ' ⟨[], r.2⟩ w ∧ VR I σ' w r.1 u := by
 simp only [finish, Option.map_eq_some_iff] at he
 obtain ⟨vs, h1, rfl⟩ := he
 obtain ⟨us, k1, k2⟩ := run_mapM_list (fun x v hx => h.resultVar hE hx) h1
 obtain ⟨σ1, t1, hv1⟩ := shrinks_ok (L := B.L) (subsOf vs) h.hr h.from_ k2 rfl
 obtain ⟨σ2, t2⟩ := Tr.gc (L := B.L) (st := ⟨[(0, .tuple (shrinks (subsOf vs) vs st.heap).1)], (shrinks (subsOf vs) vs st.heap).2⟩) t1.hr t1.live
 have hv2 := t2.slots 0 (.tuple us.toArray) ⟨us, rfl, hv1⟩
 have hslot : (St.gc ⟨[(0, .tuple (shrinks (subsOf vs) vs st.heap).1)], (shrinks (subsOf vs) vs st.heap).2⟩).tmps = [(0, .tuple (shrinks (subsOf vs) vs st.heap).1)] := by
  cases (shrinks (subsOf vs) vs st.heap).2 <;> rfl
 rw [hslot] at hv2
 have hv3 : VRs I σ2 w (shrinks (subsOf vs) vs st.heap).1 us := by
  simp only [Slots.get, if_true] at hv2
  obtain ⟨es, e, hv⟩ := hv2
  simp only [Value.tuple.injEq] at e
  have : us = es := by simpa using congrArg Array.toList e
  subst this; exact hv
 have t3 : Tr B.L I σ ⟨[], st.heap⟩ w I σ2 ⟨[], (leave (shrinks (subsOf vs) vs st.heap)).2⟩ w :=
  t1.trans ⟨fun i u hu => by simp [Slots.get] at hu ⊢; trivial, t2.hr, t2.live, t2.sub, t2.src, t2.mv, t2.still⟩
 have hrun : ∀ (v : Value), (if h : us.toArray.size = 1 then us.toArray[0] else .tuple us.toArray) = v → (results F a.tmps).run P w = .ok v w := by
  intro v hv
  unfold results
  rw [Array.mapM_eq_mapM_toList]
  simp only [Sem.run_bind, Sem.run_map]
  erw [k1]
  simp only [Result.andThen, Sem.run_pure]
  rw [← hv]
 generalize hsh : (shrinks (subsOf vs) vs st.heap) = sh at *
 obtain ⟨rs, h'⟩ := sh
 simp only at hv3
 refine ⟨_, σ2, hrun _ rfl, t3, ?_⟩
 simp only [leave]
 cases rs with
 | nil =>
  obtain rfl : us = [] := hv3
  exact ⟨[], by simp, rfl⟩
 | cons r0 rs =>
  cases rs with
  | nil =>
   obtain ⟨u0, rfl, hu0⟩ := VRs.single hv3
   simpa [tupleOf] using hu0
  | cons r1 rs =>
   obtain ⟨u0, us', rfl, q1, u1, us'', rfl, q2, q3⟩ := hv3
   exact ⟨u0 :: u1 :: us'', by simp, u0, _, rfl, q1, u1, us'', rfl, q2, q3⟩

theorem bind0_get : ∀ (i : Nat) (vs : List AV) (j : Nat), Slots.get (bind0 i vs) j = if i ≤ j then (vs[j - i]?).getD .undef else .undef
 | i, [], j => by simp [bind0, Slots.get]
 | i, v :: vs, j => by
  simp only [bind0, Slots.get]
  by_cases h : i = j
  ·subst h; simp
  ·rw [if_neg h, bind0_get (i + 1) vs j]
   by_cases h2 : i + 1 ≤ j
   ·rw [if_pos h2, if_pos (by omega), show j - i = (j - (i + 1)) + 1 from by omega]
    simp
   ·rw [if_neg h2, if_neg (by omega)]

theorem startRel {J : Nat → Prop} {h : Heap} (hr : HR J σ w h) {vs : List AV} {us : List Value} (hv : VRs J σ w vs us) (n : Nat) :
  Rel ⟨w, J, Live σ h, σ⟩ J σ ⟨bind0 0 vs, h⟩ { tmps := us.toArray ++ Array.replicate n Go.undef, defers := [] } w := by
 refine ⟨fun i => ?_, hr, fun b hb => .inr hb, fun b hb => .inl hb, fun b hb => hb, fun id _ o _ _ ow how => ⟨ow, how, rfl⟩, ⟨rfl, rfl, rfl, Nat.le_refl _, fun _ _ _ => rfl⟩, rfl⟩
 simp only [bind0_get, Nat.zero_le, if_true, Nat.sub_zero]
 cases hi : vs[i]? with
 | none => trivial
 | some v =>
  obtain ⟨u, h1, h2⟩ := VRs.get hv hi
  simp only [Option.getD_some]
  have : (us.toArray ++ Array.replicate n Go.undef).getD i Go.undef = u := by
   have hlt : i < us.length := (List.getElem?_eq_some_iff.1 h1).1
   rw [Array.getD_eq_getD_getElem?, Array.getElem?_append_left (by simpa using hlt)]
   simp [h1]
  rw [this]; exact h2

def FnOK (P : Program) (p : Prog) : Prop := ∀ f F, p.fn f = some F → P.funcs[f]? = some F ∧ F.name ≠ "runtime.NumGoroutine" ∧ ∃ b, F.body = some b ∧ codeOk p.byref (p.ann f) F.ntmps b = true

theorem TabOK.call {p : Prog} {c c' : CallF} (h : TabOK P (p.env c)) : TabOK P (p.env c') := by
 refine ⟨fun T ti hT => ?_, h.ty⟩
 obtain ⟨h1, h2, h3, h4, h5⟩ := h.tab T ti hT
 exact ⟨h1, h2, h3, h4, h5⟩

theorem sem_sound {p : Prog} (hm : P.follows .mixedOrders = true) (hT : TabOK P (p.env p.given)) (hG : CallOK P p.given) (hF : FnOK P p) : ∀ n, CallOK P (sem p n).1 ∧
  ∀ f F b, p.fn f = some F → F.body = some b → ∀ k body, loopIn b k = some body → ∀ (B : Base), LoopOK P B F.ntmps ((sem p n).2 f k) body
 | 0 => ⟨fun _ _ _ _ h => by simp [sem] at h, fun _ _ _ _ _ _ _ _ _ _ _ _ _ _ _ _ _ _ _ _ h => by simp [sem] at h⟩
 | n + 1 => by
  obtain ⟨ihC, ihL⟩ := sem_sound hm hT hG hF n
  have hT' : TabOK P (p.env (sem p n).1) := hT.call
  constructor
  ·intro f vs hp r hr
   simp only [sem] at hr
   cases hf : p.fn f with
   | none => rw [hf] at hr; exact hG f vs hp r hr
   | some F =>
    rw [hf] at hr
    simp only at hr
    obtain ⟨hfun, hname, b, hb, hok⟩ := hF f F hf
    intro J σ w us hJ hv
    refine .inl ⟨?_, ?_⟩
    ·simp [callFunc, hfun, hname, hb]
    ·unfold runFn at hr
     split at hr
     ·rename_i hlen
      simp only [Option.bind_eq_some_iff, hb, Option.some.injEq] at hr
      obtain ⟨_, rfl, ⟨ex, st'⟩, h1, h2⟩ := hr
      refine calls_of_wp hfun hb ?_
      have hul := VRs.length hv
      have hstart := startRel hJ hv (F.ntmps - us.toArray.size)
      refine prun_sound (P := P) (Q := bodyPost P F _) hm hT' ihC b 0 hok (fun j body hj => by rw [Nat.zero_add]; exact ihL f F b hf hb j body hj _) ?_ ?_ hstart h1 ?_
      ·rintro c a a' w' ⟨_, u, J', σ', h, _⟩; cases h
      ·simp; omega
      ·intro I' σ' a' w' _ hrel
       have hfin : finish (p.env (sem p n).1) F st' = some r ∧ (ex = .normal ∨ ex = .ret) := by
        cases ex with
        | normal => exact ⟨h2, .inl rfl⟩
        | ret => exact ⟨h2, .inr rfl⟩
        | exit i => cases h2
       obtain ⟨u, σ2, k1, k2, k3⟩ := finish_ok hrel hT' hfin.1
       have hmv : Moved (Live σ hp) w w' := ⟨hrel.frame.1, hrel.frame.2.1, hrel.frame.2.2.1, hrel.frame.2.2.2.1, hrel.frame.2.2.2.2⟩
       have hout : Out J σ w hp I' σ2 w' r.2 := by
        refine ⟨k2.hr, k2.live, hrel.keep, hrel.src, hmv, fun id hid o ho hs ow how => ?_⟩
        obtain ⟨o1, q1, q2, q3⟩ := k2.still id hid o ho hs
        obtain ⟨ow1, m1, m2⟩ := hrel.still id hid o1 q1 q2 ow how
        obtain ⟨ow2, m3, m4⟩ := q3 ow1 m1
        exact ⟨ow2, m3, m4.trans m2⟩
       have hres : bodyPost P F (fun e w' => ∃ u J' σ', e = .returned u ∧ Out J σ w hp J' σ' w' r.2 ∧ VR J' σ' w' r.1 u) .ret a' w' :=
        ⟨hrel.defers, u, k1, u, I', σ2, rfl, hout, k3⟩
       rcases hfin.2 with rfl | rfl <;> exact hres
     ·cases hr
  ·intro f F b hf hb k body hk B Q I σ st a w ex st' hP hs hrel hr hQ
   obtain ⟨hfun, hname, b', hb', hok⟩ := hF f F hf
   rw [hb] at hb'; cases hb'
   have hokb := codeOk_in hk hok
   have key : ∀ m, m ≤ n + 1 → ∀ (I : Nat → Prop) (σ : Nat → Option Own) (st : St) (a : Act) (w : World), a.tmps.size = F.ntmps → Rel B I σ st a w → (sem p m).2 f k st = some (ex, st') → Code.rounds P body Q m a w := by
    intro m
    induction m with
    | zero => intro _ I σ st a w _ _ h; simp [sem] at h
    | succ m ih =>
     intro hmn I σ st a w hs hrel hr
     simp only [sem, hf, runLoop, hb, Option.bind_some, hk, Option.bind_eq_some_iff] at hr
     obtain ⟨⟨e1, s1⟩, h1, h2⟩ := hr
     rw [rounds_succ]
     have hT'' : TabOK P (p.env (sem p m).1) := hT.call
     have hCm : CallOK P (sem p m).1 := fun g vs hp r h => ihC g vs hp r ((sem_mono p (show m ≤ n by omega)).1 g vs hp r h)
     have hLm : ∀ j body', loopIn body j = some body' → LoopOK P B F.ntmps ((sem p m).2 f (k + 1 + j)) body' := by
      intro j body' hj Q I σ st a w ex st' g1 g2 g3 g4 g5
      exact ihL f F b hf hb (k + 1 + j) body' (loopIn_in hk hj) B Q I σ st a w ex st' g1 g2 g3 ((sem_mono p (show m ≤ n by omega)).2 f _ _ _ g4) g5
     refine prun_sound (P := P) (Q := Exit.then (Code.rounds P body Q m) Q) hm hT'' hCm body (k + 1) hokb hLm (fun c a a' w hq => hP c a a' w hq) hs hrel h1 ?_
     intro I1 σ1 a1 w1 hs1 hr1
     cases e1 with
     | normal =>
      obtain ⟨I2, σ2, hg⟩ := hr1.enter (p.ann f) k
      exact ih (by omega) I2 σ2 _ a1 w1 hs1 hg h2
     | exit i => simp only [Option.some.injEq, Prod.mk.injEq] at h2; obtain ⟨rfl, rfl⟩ := h2; exact hQ I1 σ1 a1 w1 hs1 hr1
     | ret => simp only [Option.some.injEq, Prod.mk.injEq] at h2; obtain ⟨rfl, rfl⟩ := h2; exact hQ I1 σ1 a1 w1 hs1 hr1
   exact wp_loop_rounds (n + 1) (key (n + 1) (Nat.le_refl _) I σ st a w hs hrel hr)

theorem Call_sound {p : Prog} (hm : P.follows .mixedOrders = true) (hT : TabOK P (p.env p.given)) (hG : CallOK P p.given) (hF : FnOK P p) : CallOK P (callOf p) := by
 intro f vs hp r hr
 obtain ⟨n, hn⟩ := (Call_eq p f vs hp r).1 hr
 exact (sem_sound hm hT hG hF n).1 f vs hp r hn

end
end Go.Q
