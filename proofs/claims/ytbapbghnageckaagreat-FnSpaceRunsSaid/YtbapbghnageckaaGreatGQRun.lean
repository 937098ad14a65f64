/- An abstract interpreter of the translated code: regions. -/
import Derived.Test.YtbapbghnageckaaGreatGQOp
import Derived.Test.YtbapbghnageckaaGreatGQMono
namespace Go.Q
set_option linter.unusedVariables false
set_option linter.unusedSimpArgs false
set_option linter.unusedSectionVars false
open Go
section
variable {P : Program} {E : Env} {B : Base} {I : Nat → Prop} {σ : Nat → Option Own} {st : St} {a : Act} {w : World} {ops : Array Oper} {Q : Exit → Act → World → Prop} {Ea : List Nat}

theorem getD_bool {tmps : Array Value} {g : Nat} {x : Bool} (h : tmps.getD g Go.undef = .bool x) : tmps[g]? = some (.bool x) := by
 rw [Array.getD_eq_getD_getElem?] at h
 cases hg : tmps[g]? with
 | none => rw [hg] at h; cases h
 | some v => rw [hg] at h; simpa using h

theorem yielded_bool {j g : Nat} (hj : guardSlot ops.toList j = some g) {x : Bool} (h : a.tmps.getD g Go.undef = .bool x) : yielded ops a.tmps j = some x := by
 have hj' : (ops[j]?).bind (·.dst) = some g := by simpa [guardSlot] using hj
 simp only [yielded, hj', Option.bind_some, getD_bool h]

theorem yielded_undef {j g : Nat} (hj : guardSlot ops.toList j = some g) (h : a.tmps.getD g Go.undef = Go.undef) : yielded ops a.tmps j = none := by
 have hj' : (ops[j]?).bind (·.dst) = some g := by simpa [guardSlot] using hj
 simp only [yielded, hj', Option.bind_some]
 rw [Array.getD_eq_getD_getElem?] at h
 cases hg : a.tmps[g]? with
 | none => rfl
 | some v => rw [hg] at h; simp only [Option.getD_some] at h; subst h; rfl

theorem step_cases {o : Oper} {os : List Oper} {st' : St} (h : Rel B I σ st a w) (hd : ∀ t, o.dst = some t → t < a.tmps.size) (hr : runOps E ops.toList (o :: os) st = some st') :
  (Region.wanted o (yielded ops a.tmps) = true ∧ ∃ st0 st1, Rel B I σ st0 a w ∧ Go.Q.exOp E o st0 = some st1 ∧ runOps E ops.toList os st1 = some st') ∨
  (Region.wanted o (yielded ops a.tmps) = false ∧ ∃ st1, Rel B I σ st1 (a.put o.dst Go.undef) w ∧ runOps E ops.toList os st1 = some st') := by
 unfold runOps at hr
 split at hr
 ·rename_i hg
  rw [Option.bind_eq_some_iff] at hr
  obtain ⟨st1, h1, h2⟩ := hr
  exact .inl ⟨by simp [Region.wanted, hg], st, st1, h, h1, h2⟩
 ·rename_i j b hg
  rw [Option.bind_eq_some_iff] at hr
  obtain ⟨g, h1, hr⟩ := hr
  have hslot := h.slots g
  split at hr
  ·rename_i x hx
   have hx' : st.tmps.get g = .d .bool x := hx
   rw [hx'] at hslot
   have hv := VR.bool hslot
   have hy := yielded_bool h1 hv
   split at hr
   ·rename_i hxb
    subst hxb
    rw [Option.bind_eq_some_iff] at hr
    obtain ⟨st1, k1, k2⟩ := hr
    exact .inl ⟨by simp [Region.wanted, hg, hy], _, st1, h.set_same g hslot, k1, k2⟩
   ·rename_i hxb
    have hxb' : x = !b := by cases x <;> cases b <;> simp_all
    subst hxb'
    exact .inr ⟨by simp [Region.wanted, hg, hy], _, (h.set_same g hslot).put (v := .skip) hd rfl, hr⟩
  ·rename_i hx
   have hx' : st.tmps.get g = .skip := hx
   rw [hx'] at hslot
   have hy := yielded_undef h1 hslot
   exact .inr ⟨by simp [Region.wanted, hg, hy], _, h.put (v := .skip) hd rfl, hr⟩
  ·cases hr

theorem size_put (a : Act) (dst : Option Tmp) (u : Value) : (a.put dst u).tmps.size = a.tmps.size := by
 cases dst <;> simp [Act.put]

theorem runOps_sound (hE : TabOK P E) (hC : CallOK P E.call) {st' : St} : ∀ (os : List Oper) (l : List Nat) {I : Nat → Prop} {σ : Nat → Option Own} {st : St} {a : Act} {w : World},
  l.map (ops[·]?) = os.map some → (∀ o ∈ os, ∀ t, o.dst = some t → t < a.tmps.size) → Rel B I σ st a w → runOps E ops.toList os st = some st' →
  (∀ I' σ' a' w', a'.tmps.size = a.tmps.size → Rel B I' σ' st' a' w' → Q .normal a' w') → wpOps P ops Q l a w
 | [], l, I, σ, st, a, w, hl, _, h, hr, hQ => by
  have : l = [] := by simpa using hl
  subst this
  simp only [runOps, Option.some.injEq] at hr
  subst hr
  exact hQ I σ a w rfl h
 | o :: os, [], _, _, _, _, _, hl, _, _, _, _ => by simp at hl
 | o :: os, i :: l, I, σ, st, a, w, hl, hd, h, hr, hQ => by
  simp only [List.map_cons, List.cons.injEq] at hl
  obtain ⟨hi, hl⟩ := hl
  have hdo := hd o (by simp)
  simp only [wpOps, hi]
  rcases step_cases h hdo hr with ⟨hw, st0, st1, g1, g2, g3⟩ | ⟨hw, st1, g1, g2⟩
  ·rw [if_pos hw]
   refine .inl (g1.exOp hE hC hdo g2 fun I' σ' u w' _ k1 => ?_)
   exact runOps_sound hE hC os l hl (fun o' ho' t ht => by rw [size_put]; exact hd o' (by simp [ho']) t ht) k1 g3 (fun I2 σ2 a2 w2 hs => hQ I2 σ2 a2 w2 (by rw [hs, size_put]))
  ·rw [hw, if_neg (by simp)]
   exact runOps_sound hE hC os l hl (fun o' ho' t ht => by rw [size_put]; exact hd o' (by simp [ho']) t ht) g1 g2 (fun I2 σ2 a2 w2 hs => hQ I2 σ2 a2 w2 (by rw [hs, size_put]))


def YieldsK (P : Program) (ops : Array Oper) (o : Oper) (v : Value) (a : Act) (w : World) : Prop :=
 (Region.wanted o (yielded ops a.tmps) = true ∧ ∀ w', (stackOp o.op = true ∨ Keeps w w') → (execOp a.eval o).run P w' = .ok (.value v) w') ∨
 (Region.wanted o (yielded ops a.tmps) = false ∧ v = Go.undef)

theorem YieldsK.later {o : Oper} {v : Value} {w' : World} (h : YieldsK P ops o v a w) (hk : stackOp o.op = true ∨ Keeps w w') : YieldsK P ops o v a w' :=
 h.imp (fun ⟨h1, h2⟩ => ⟨h1, fun w'' h3 => h2 w'' (hk.elim .inl fun hk => h3.elim .inl fun h3 => .inr (hk.trans h3))⟩) id

theorem YieldsK.wpOp {i : Nat} {o : Oper} {v : Value} (hi : ops[i]? = some o) (hy : YieldsK P ops o v a w) {K : Act → World → Prop} (h : K (a.put o.dst v) w) : wpOp P ops Q i K a w := by
 unfold Go.wpOp
 simp only [hi]
 rcases hy with ⟨hw, hv⟩ | ⟨hw, rfl⟩
 ·rw [if_pos hw]; exact .inl (wp_value (hv w (.inr (Keeps.refl w))) h)
 ·rw [if_neg (by simp [hw])]; exact h

theorem YieldsK.same {o : Oper} {v : Value} {a' : Act} (hy : YieldsK P ops o v a w) (he : execOp a'.eval o = execOp a.eval o) (hw : Region.wanted o (yielded ops a'.tmps) = Region.wanted o (yielded ops a.tmps)) : YieldsK P ops o v a' w := by
 unfold YieldsK at *
 rw [he, hw]
 exact hy

def KeepsAt (E : Env) (ops : Array Oper) (Ea : List Nat) (i : Nat) (w w' : World) : Prop := ∀ o, ops[i]? = some o → (keepsOp E.byref o.op || appE ops Ea o) = true → Keeps w w'

def wpAnyV (P : Program) (E : Env) (ops : Array Oper) (Ea : List Nat) (Q : Exit → Act → World → Prop) : Nat → Array Bool → Act → World → Prop
 | 0, listed, a, w => Region.ready .any ops listed = [] ∧ Q .normal a w
 | fuel + 1, listed, a, w =>
  (Region.ready .any ops listed = [] → Q .normal a w) ∧
  ∀ i ∈ Region.ready .any ops listed, wpOp P ops Q i (fun a' w' => KeepsAt E ops Ea i w w' ∧ wpAnyV P E ops Ea Q fuel (listed.setIfInBounds i true) a' w') a w

theorem wpAny_of_V : ∀ (fuel : Nat) (listed : Array Bool) (a : Act) (w : World), wpAnyV P E ops Ea Q fuel listed a w → wpAny P .any ops Q fuel listed a w
 | 0, _, _, _, h => h
 | fuel + 1, _, _, _, h => ⟨h.1, fun i hi => wpOp_mono (fun a' w' h' => wpAny_of_V fuel _ a' w' h'.2) (h.2 i hi)⟩

theorem wpOp_putK {j : Nat} {oi oj : Oper} {v : Value} (hj : ops[j]? = some oj) (hap : oi.apart ops oj = true) (hkj : (keepsOp E.byref oj.op || appE ops Ea oj || stackOp oi.op) = true) (hsi : ∀ cs b, oi.op ≠ .select cs b) (hsj : ∀ cs b, oj.op ≠ .select cs b)
  (hQ : ∀ c a w, Q (.panic c) (a.put oi.dst v) w → Q (.panic c) a w) {K : Act → World → Prop} (hy : YieldsK P ops oi v a w) (h : wpOp P ops Q j (fun a' w' => KeepsAt E ops Ea j w w' ∧ K a' w') (a.put oi.dst v) w) :
  wpOp P ops Q j (fun a' w' => KeepsAt E ops Ea j w w' ∧ YieldsK P ops oi v a' w' ∧ K (a'.put oi.dst v) w') a w := by
 obtain ⟨h1, h2, h3⟩ := Oper.apart_spec hap
 have keep : ∀ (a : Act) (w' : World), YieldsK P ops oi v a w' → ∀ u, YieldsK P ops oi v (a.put oj.dst u) w' := fun a w' hy u =>
  hy.same (execOp_put oi hsi a oj.dst u h3) (wanted_put oi a oj.dst u h3)
 have hk0 : ∀ {w w' : World}, KeepsAt E ops Ea j w w' → stackOp oi.op = true ∨ Keeps w w' := fun h => by
  rw [Bool.or_eq_true] at hkj
  exact hkj.elim (fun hk => .inr (h oj hj hk)) .inl
 unfold wpOp at *
 simp only [hj] at *
 rw [wanted_put oj a oi.dst v h1] at h
 split
 ·rename_i hw
  simp only [hw, if_true] at h
  rcases h with h | ⟨hasks, hlets⟩
  case inr => exact .inr ⟨by unfold Oper.asks at *; rw [execOp_put oj hsj a oi.dst v h1] at hasks; exact hasks, hlets⟩
  refine .inl ?_
  unfold Oper.wp at *
  rw [execOp_put oj hsj a oi.dst v h1] at h
  generalize (execOp a.eval oj).run P w = r at *
  cases r with
  | ok n w' =>
   cases n <;> simp only [Oper.upon] at h ⊢
   case value u => exact ⟨h.1, keep a _ (hy.later (hk0 h.1)) u, by rw [← Act.put_comm a v u h2]; exact h.2⟩
   case skip => exact ⟨h.1, keep a _ (hy.later (hk0 h.1)) _, by rw [← Act.put_comm a v undef h2]; exact h.2⟩
   case defer d =>
    refine ⟨h.1, keep { a with defers := d :: a.defers } _ ((hy.later (hk0 h.1)).same rfl rfl) _, ?_⟩
    rw [← Act.put_comm _ v undef h2, ← Act.put_defers]
    exact h.2
   case enter f args =>
    refine Calls.mono h fun e w'' he => ?_
    cases e with
    | returned u => exact ⟨he.1, keep a _ (hy.later (hk0 he.1)) u, by rw [← Act.put_comm a v u h2]; exact he.2⟩
    | panicked c => exact hQ _ _ _ he
    | outgrown => exact he
   case row row args => exact Rows.mono h fun u w'' he => ⟨he.1, keep a _ (hy.later (hk0 he.1)) u, by rw [← Act.put_comm a v u h2]; exact he.2⟩
  | halt x w' =>
   cases x <;> simp only [Oper.upon] at h ⊢
   case panic u => exact hQ _ _ _ h
 ·rename_i hw
  simp only [hw] at h
  exact ⟨h.1, keep a _ hy _, by rw [← Act.put_comm a v undef h2]; exact h.2⟩

theorem wpAnyV_first {i : Nat} {oi : Oper} {v : Value} (D : Nat → Prop) (hi : ops[i]? = some oi) (hsel : ∀ (j : Nat) (o : Oper) cs b, ops[j]? = some o → o.op ≠ .select cs b) (hQ : ∀ c a w, Q (.panic c) (a.put oi.dst v) w → Q (.panic c) a w) :
  ∀ (fuel : Nat) (listed : Array Bool) (a : Act) (w : World),
   (∀ j, D j → j ≠ i ∧ listed.getD j true = false ∧ ∃ oj, ops[j]? = some oj ∧ ∃ e ∈ oj.after, Region.binds .any e = true ∧ (e.on = i ∨ D e.on)) →
   (∀ j oj, ops[j]? = some oj → j ≠ i → listed.getD j true = false → D j ∨ (oi.apart ops oj = true ∧ (keepsOp E.byref oj.op || appE ops Ea oj || stackOp oi.op) = true)) →
   i ∈ Region.ready .any ops listed → YieldsK P ops oi v a w → wpAnyV P E ops Ea Q fuel (listed.setIfInBounds i true) (a.put oi.dst v) w → wpAnyV P E ops Ea Q (fuel + 1) listed a w := by
 intro fuel
 induction fuel with
 | zero =>
  intro listed a w _ _ hr hy H
  refine ⟨fun h => (by rw [h] at hr; cases hr), fun j hj => ?_⟩
  by_cases hji : j = i
  ·subst hji; exact hy.wpOp hi ⟨fun _ _ _ => Keeps.refl w, H⟩
  ·have := ready_mono hj hji
   rw [H.1] at this
   cases this
 | succ fuel ih =>
  intro listed a w hD hfree hr hy H
  refine ⟨fun h => (by rw [h] at hr; cases hr), fun j hj => ?_⟩
  by_cases hji : j = i
  ·subst hji; exact hy.wpOp hi ⟨fun _ _ _ => Keeps.refl w, H⟩
  ·have h1 := H.2 j (ready_mono hj hji)
   obtain ⟨hjun, oj, hoj, hall⟩ := mem_ready.1 hj
   have hset : ∀ k, listed.getD k true = false → listed[k]?.getD false = true → False := fun k h0 h1 => by
    rcases Nat.lt_or_ge k listed.size with h' | h'
    ·simp [h'] at h0 h1; rw [h0] at h1; cases h1
    ·simp [Array.getElem?_eq_none h'] at h1
   have hnD : ¬ D j := fun hd => by
    obtain ⟨_, _, oj', hoj', e, he, hb, hor⟩ := hD j hd
    rw [hoj] at hoj'
    cases hoj'
    have h1 := hall e he hb
    rcases hor with heq | hd'
    ·have h0 := (mem_ready.1 hr).1
     rw [heq] at h1
     exact hset _ h0 (by simpa using h1)
    ·exact hset _ (hD _ hd').2.1 (by simpa using h1)
   obtain ⟨hap, hkj⟩ := (hfree j oj hoj hji hjun).resolve_left hnD
   have h2 := wpOp_putK hoj hap hkj (fun cs b => hsel i oi cs b hi) (fun cs b => hsel j oj cs b hoj) hQ hy h1
   have hD' : ∀ k, D k → k ≠ i ∧ (listed.setIfInBounds j true).getD k true = false ∧ ∃ ok, ops[k]? = some ok ∧ ∃ e ∈ ok.after, Region.binds .any e = true ∧ (e.on = i ∨ D e.on) := fun k hk => by
    obtain ⟨k1, k2, k3⟩ := hD k hk
    refine ⟨k1, ?_, k3⟩
    have hjk : j ≠ k := fun h => hnD (h ▸ hk)
    rw [getD_set_ne true hjk]; exact k2
   have hfree' : ∀ k ok, ops[k]? = some ok → k ≠ i → (listed.setIfInBounds j true).getD k true = false → D k ∨ (oi.apart ops ok = true ∧ (keepsOp E.byref ok.op || appE ops Ea ok || stackOp oi.op) = true) := fun k ok hk hki hun => by
    refine hfree k ok hk hki ?_
    by_cases hjk : j = k
    ·subst hjk; exact hjun
    ·rw [getD_set_ne true hjk] at hun; exact hun
   refine wpOp_mono (fun a' w' h3 => ⟨h3.1, ih (listed.setIfInBounds j true) a' w' hD' hfree' (ready_mono hr (Ne.symm hji)) h3.2.1 ?_⟩) h2
   rw [Array.setIfInBounds_comm _ _ hji]
   exact h3.2.2

theorem freeOn_spec {i : Nat} {oi : Oper} {listed : Array Bool} {D : List Nat} (hi : ops[i]? = some oi) (h : freeOn E.byref ops Ea listed D i = true) :
  (∀ j, j ∈ D → j ≠ i ∧ listed.getD j true = false ∧ ∃ oj, ops[j]? = some oj ∧ ∃ e ∈ oj.after, Region.binds .any e = true ∧ (e.on = i ∨ e.on ∈ D)) ∧
  ∀ j oj, ops[j]? = some oj → j ≠ i → listed.getD j true = false → j ∈ D ∨ (oi.apart ops oj = true ∧ (keepsOp E.byref oj.op || appE ops Ea oj || stackOp oi.op) = true) := by
 simp only [freeOn, hi, Bool.and_eq_true, List.all_eq_true, List.mem_range] at h
 obtain ⟨h1, h2⟩ := h
 constructor
 ·intro j hj
  have := h1 j hj
  obtain ⟨⟨k1, k2⟩, k3⟩ := this
  refine ⟨by simpa using k1, by simpa using k2, ?_⟩
  unfold waitsOn at k3
  split at k3
  ·rename_i oj hoj
   obtain ⟨e, he, hb⟩ := Array.any_eq_true'.1 k3
   rw [Bool.and_eq_true, Bool.or_eq_true] at hb
   exact ⟨oj, hoj, e, he, hb.1, hb.2.imp (fun h => by simpa using h) (fun h => by simpa using h)⟩
  ·cases k3
 ·intro j oj hj hne hun
  have := h2 j (Array.getElem?_eq_some_iff.1 hj).1
  rw [hj] at this
  simp only [hun, beq_eq_false_iff_ne.2 hne, Bool.false_or] at this
  rw [Bool.or_eq_true, Bool.and_eq_true (a := oi.apart ops oj)] at this
  exact this.imp (fun h => by simpa using h) id

theorem wpAnyV_done {listed : Array Bool} (hr : Region.ready .any ops listed = []) (h : Q .normal a w) : ∀ fuel, wpAnyV P E ops Ea Q fuel listed a w
 | 0 => ⟨hr, h⟩
 | _ + 1 => ⟨fun _ => h, by rw [hr]; simp⟩

end
end Go.Q
