/- An abstract interpreter of the translated code: calls. -/
import Derived.Test.YtlbommlpkdcmnaaGPIOps4
namespace Go.PI
open Go
section
variable {P : Program} {E : Env} {M : Nat → Prop} {w0 : World} {I0 I : Nat → Prop} {σ : Nat → Option Own} {st : St} {a : Act} {w : World}

/-- Nothing is known of any object. -/
abbrev noOwn : Nat → Option Own := fun _ => none

/-- An own array, read as plain data. -/
theorem Rel.arrData (h : Rel M w0 I0 I σ st a w) {id e : Nat} {t : Ty} {xs : List t.Den} (hg : st.heap.get id = some (.arr e t xs)) {J : Nat → Prop} (hJ : ∀ b, I b → J b) (hown : ∀ ow b, σ id = some ow → blockOf ow.v = some b → J b) :
    (∀ u, VR I σ w (.os id) u → DR J w (.slice t) xs [u]) ∧ (∀ p n u, VR I σ w (.sub id p n) u → DR J w (.slice t) ((xs.drop p).take n) [u]) := by
  have hel : ∀ (ow : Own), σ id = some ow → ∀ (i : Nat) (hi : i < xs.length), ∃ b o cap, ow.v = .slice (some ⟨b, o, none⟩) xs.length cap ∧ J b ∧ ∃ es, DR J w t (xs.get ⟨i, hi⟩) es ∧ CellsAt w ⟨b, o + i * t.size, none⟩ es := by
    intro ow hs i hi
    obtain ⟨ow', hs', _, harr⟩ := h.objs id _ hg
    rw [hs] at hs'; cases hs'
    rcases harr with ⟨_, _, rfl⟩ | ⟨b, o, cap, cells, g1, g2, g3, g4, g5⟩
    · exact absurd hi (by simp)
    · obtain ⟨es, k1, k2⟩ := g5 i hi
      have hc : ¬ cap = 0 := by omega
      refine ⟨b, o, cap, g1, hown ow b hs (by rw [g1]; simp [blockOf, hc]), es, DR.mono hJ (fun _ _ => rfl) t _ _ k1, fun j u hj => ?_⟩
      have := k2 j u hj
      simp only [World.cell?, g2]
      exact this
  constructor
  · rintro u hu
    obtain ⟨A, cap, rfl, k1, k2, _⟩ := h.arr hg hu
    refine ⟨A, cap, rfl, k1, fun i hi => ?_⟩
    obtain ⟨b, o, cap', m1, m2, m3⟩ := hel _ k2 i hi
    cases m1
    exact ⟨b, o, rfl, m2, m3⟩
  · rintro p n u ⟨A, len, cap, z, k1, k2, A', rfl, k3, k3', k4⟩
    obtain ⟨A2, cap2, e1, e2, e3, _⟩ := h.arr hg ⟨A, len, cap, z, k1, rfl⟩
    cases e1
    rw [k1] at e3; cases e3
    have hn : ((xs.drop p).take n).length = n := by simp only [List.length_take, List.length_drop]; omega
    refine ⟨A', cap - p, by rw [hn], by rw [hn]; omega, fun i hi => ?_⟩
    rw [hn] at hi
    have hi2 : p + i < xs.length := by omega
    obtain ⟨b, o, cap', n1, n2, es, n3, n4⟩ := hel _ k1 (p + i) hi2
    cases n1
    refine ⟨b, o + p * t.size, k3 b o rfl (by omega), n2, es, ?_, ?_⟩
    · have : ((xs.drop p).take n).get ⟨i, by omega⟩ = xs.get ⟨p + i, hi2⟩ := by simp
      rw [this]; exact n3
    · rw [show o + p * t.size + i * t.size = o + (p + i) * t.size from by rw [Nat.add_mul]; omega]; exact n4

/-- What is plain data for a callee: what was it for the caller, and what the caller owns. -/
def withOwn (I : Nat → Prop) (σ : Nat → Option Own) (st : St) : Nat → Prop := fun b => I b ∨ ∃ id o ow, st.heap.get id = some o ∧ o.live = true ∧ σ id = some ow ∧ blockOf ow.v = some b

theorem withOwn_own {id : Nat} {o : Obj} (hg : st.heap.get id = some o) (hl : o.live = true) : ∀ (ow : Own) (b : Nat), σ id = some ow → blockOf ow.v = some b → withOwn I σ st b := fun ow _ h1 h2 => .inr ⟨id, o, ow, hg, hl, h1, h2⟩

theorem flat_noOwn (J : Nat → Prop) {t : Ty} {x : t.Den} {es : List Value} (h : DR J w t x es) : VRs J noOwn w (flat t x) es := VRs.flat t x es h

theorem mapO_args {J : Nat → Prop} {f : AV → Option AV} (hf : ∀ v v' u, VR I σ w v u → f v = some v' → VR J noOwn w v' u) : ∀ {vs vs' : List AV} {us : List Value}, VRs I σ w vs us → mapO f vs = some vs' → VRs J noOwn w vs' us
  | [], vs', us, h, hm => by simp only [mapO, Option.some.injEq] at hm; subst hm; exact h
  | v :: vs, vs', us, h, hm => by
    obtain ⟨e, es', rfl, h2, h3⟩ := h
    simp only [mapO, Option.bind_eq_some_iff, Option.map_eq_some_iff] at hm
    obtain ⟨y, k1, ys, k2, rfl⟩ := hm
    exact ⟨e, es', rfl, hf v y e h2 k1, mapO_args hf h3 k2⟩

/-- What is handed to a call. -/
theorem Rel.argOf (h : Rel M w0 I0 I σ st a w) : ∀ (m : Nat) (v v' : AV) (u : Value), VR I σ w v u → Go.PI.argOf st.heap m v = some v' → VR (withOwn I σ st) noOwn w v' u
  | 0, _, _, _, _, h => by simp [Go.PI.argOf] at h
  | m + 1, v, v', u, hv, ha => by
    have hJ : ∀ b, I b → withOwn I σ st b := fun b hb => .inl hb
    cases v with
    | undef => simp [Go.PI.argOf] at ha
    | own e t xs => simp [Go.PI.argOf] at ha
    | tuple vs => simp [Go.PI.argOf] at ha
    | os id =>
      simp only [Go.PI.argOf] at ha
      split at ha
      · rename_i e t xs hg; cases ha; exact (h.arrData hg hJ (withOwn_own hg rfl)).1 u hv
      · cases ha
    | sub id p n =>
      simp only [Go.PI.argOf] at ha
      split at ha
      · rename_i e t xs hg; cases ha; exact (h.arrData hg hJ (withOwn_own hg rfl)).2 p n u hv
      · cases ha
    | el id i off =>
      simp only [Go.PI.argOf] at ha
      split at ha
      · rename_i e t xs hg
        cases ha
        obtain ⟨b, o, len, cap, z, g1, g2, rfl⟩ := hv
        obtain ⟨A2, cap2, e1, e2, e3, e4, e5⟩ := h.arr hg ⟨_, len, cap, z, g1, rfl⟩
        cases e1
        rw [g1] at e3; cases e3
        have hd := (h.arrData hg hJ (withOwn_own hg rfl)).1 _ ⟨_, xs.length, cap, t.size, g1, rfl⟩
        obtain ⟨A3, cap3, q1, q2, q3⟩ := hd
        simp only [List.cons.injEq, Value.slice.injEq, and_true] at q1
        obtain ⟨rfl, _, rfl⟩ := q1
        obtain ⟨b', o', q4, q5, es, q6, q7⟩ := q3 i g2
        cases q4
        have hget : xs.getD i t.zero = List.get xs ⟨i, g2⟩ := by simp [List.getD, g2]
        refine ⟨b, o + i * t.size + off, es.drop off, rfl, q5, ?_, q7.drop off⟩
        rw [hget]; exact VRs.drop off (flat_noOwn _ q6)
      · cases ha
    | op id off =>
      simp only [Go.PI.argOf] at ha
      split at ha
      · rename_i T vs hg
        simp only [Option.map_eq_some_iff] at ha
        obtain ⟨ws, k1, rfl⟩ := ha
        obtain ⟨b, z, g1, rfl⟩ := hv
        obtain ⟨ow, m1, b', es, m2, m3, m4⟩ := h.objs id _ hg
        rw [g1] at m1; cases m1; cases m2
        refine ⟨b, off, es.drop off, rfl, withOwn_own hg rfl _ b g1 rfl, mapO_args (fun v v' u => Rel.argOf h m v v' u) (VRs.drop off m4) k1, ?_⟩
        have : CellsAt w ⟨b, 0, none⟩ es := fun j v hj => by simp only [World.cell?, m3]; simpa using hj
        simpa using this.drop off
      · cases ha
    | rp vs =>
      simp only [Go.PI.argOf, Option.map_eq_some_iff] at ha
      obtain ⟨ws, k1, rfl⟩ := ha
      obtain ⟨b, o, es, g1, g2, g3, g4⟩ := hv
      exact ⟨b, o, es, g1, hJ b g2, mapO_args (fun v v' u => Rel.argOf h m v v' u) g3 k1, g4⟩
    | agg vs =>
      simp only [Go.PI.argOf, Option.map_eq_some_iff] at ha
      obtain ⟨ws, k1, rfl⟩ := ha
      obtain ⟨es, g1, g2⟩ := hv
      exact ⟨es, g1, mapO_args (fun v v' u => Rel.argOf h m v v' u) g2 k1⟩
    | fn f vs =>
      simp only [Go.PI.argOf, Option.map_eq_some_iff] at ha
      obtain ⟨ws, k1, rfl⟩ := ha
      obtain ⟨es, g1, g2⟩ := hv
      exact ⟨es, g1, mapO_args (fun v v' u => Rel.argOf h m v v' u) g2 k1⟩
    | d t x => simp only [Go.PI.argOf, Option.some.injEq] at ha; subst ha; exact DR.mono hJ (fun _ _ => rfl) t x _ hv
    | skip => simp only [Go.PI.argOf, Option.some.injEq] at ha; subst ha; exact hv
    | nilS => simp only [Go.PI.argOf, Option.some.injEq] at ha; subst ha; exact hv
    | empS => simp only [Go.PI.argOf, Option.some.injEq] at ha; subst ha; exact hv
    | nilF => simp only [Go.PI.argOf, Option.some.injEq] at ha; subst ha; exact hv
    | nilP => simp only [Go.PI.argOf, Option.some.injEq] at ha; subst ha; exact hv

mutual
/-- A value that leads to no own object. -/
theorem VR.noOwn {I : Nat → Prop} {w : World} : ∀ (v : AV) (u : Value), v.owned = false → VR I σ w v u → VR I Go.PI.noOwn w v u
  | .undef, _, _, _ => trivial
  | .skip, _, _, h => h
  | .d _ _, _, _, h => h
  | .nilS, _, _, h => h
  | .empS, _, _, h => h
  | .nilF, _, _, h => h
  | .nilP, _, _, h => h
  | .os _, _, k, _ => by simp [AV.owned] at k
  | .sub _ _ _, _, k, _ => by simp [AV.owned] at k
  | .el _ _ _, _, k, _ => by simp [AV.owned] at k
  | .op _ _, _, k, _ => by simp [AV.owned] at k
  | .rp vs, _, k, h => by obtain ⟨b, o, es, h1, h2, h3, h4⟩ := h; exact ⟨b, o, es, h1, h2, VRs.noOwn vs es (by simpa [AV.owned] using k) h3, h4⟩
  | .agg vs, _, k, h => by obtain ⟨es, h1, h2⟩ := h; exact ⟨es, h1, VRs.noOwn vs es (by simpa [AV.owned] using k) h2⟩
  | .tuple vs, _, k, h => by obtain ⟨es, h1, h2⟩ := h; exact ⟨es, h1, VRs.noOwn vs es (by simpa [AV.owned] using k) h2⟩
  | .fn _ vs, _, k, h => by obtain ⟨es, h1, h2⟩ := h; exact ⟨es, h1, VRs.noOwn vs es (by simpa [AV.owned] using k) h2⟩
  | .own _ _ _, _, _, h => h.elim
theorem VRs.noOwn {I : Nat → Prop} {w : World} : ∀ (vs : List AV) (us : List Value), AV.owneds vs = false → VRs I σ w vs us → VRs I Go.PI.noOwn w vs us
  | [], _, _, h => h
  | v :: vs, _, k, h => by
    simp only [AV.owneds, Bool.or_eq_false_iff] at k
    obtain ⟨e, es', h1, h2, h3⟩ := h
    exact ⟨e, es', h1, VR.noOwn v e k.1 h2, VRs.noOwn vs es' k.2 h3⟩
end

/-- Plain data without references is read from no memory. -/
theorem DR.noRefs {J J' : Nat → Prop} {w : World} : ∀ (t : Ty) (x : t.Den) (cs : List Value), t.refs = false → DR J w t x cs → DR J' w t x cs
  | .int _, _, _, _, h => h
  | .bool, _, _, _, h => h
  | .str, _, _, _, h => h
  | .err, _, _, _, h => h
  | .nil, _, _, _, h => h
  | .slice _, _, _, k, _ => by simp [Ty.refs] at k
  | .ptr _, _, _, k, _ => by simp [Ty.refs] at k
  | .cons a b, _, _, k, h => by
    simp only [Ty.refs, Bool.or_eq_false_iff] at k
    obtain ⟨c1, c2, e, h1, h2⟩ := h
    exact ⟨c1, c2, e, DR.noRefs a _ _ k.1 h1, DR.noRefs b _ _ k.2 h2⟩
  | .agg l, x, cs, k, h => DR.noRefs l x cs k h

mutual
theorem VR.noShares {J J' : Nat → Prop} {w : World} : ∀ (v : AV) (u : Value), v.shares = false → VR J σ w v u → VR J' σ w v u
  | .undef, _, _, _ => trivial
  | .skip, _, _, h => h
  | .d t x, _, k, h => DR.noRefs t x _ k h
  | .nilS, _, _, h => h
  | .empS, _, _, h => h
  | .nilF, _, _, h => h
  | .nilP, _, _, h => h
  | .os _, _, _, h => h
  | .sub _ _ _, _, _, h => h
  | .el _ _ _, _, _, h => h
  | .op _ _, _, _, h => h
  | .rp vs, _, k, _ => by simp [AV.shares] at k
  | .agg vs, _, k, h => by obtain ⟨es, h1, h2⟩ := h; exact ⟨es, h1, VRs.noShares vs es (by simpa [AV.shares] using k) h2⟩
  | .tuple vs, _, k, h => by obtain ⟨es, h1, h2⟩ := h; exact ⟨es, h1, VRs.noShares vs es (by simpa [AV.shares] using k) h2⟩
  | .fn _ vs, _, k, h => by obtain ⟨es, h1, h2⟩ := h; exact ⟨es, h1, VRs.noShares vs es (by simpa [AV.shares] using k) h2⟩
  | .own _ _ _, _, _, h => h.elim
theorem VRs.noShares {J J' : Nat → Prop} {w : World} : ∀ (vs : List AV) (us : List Value), AV.sharess vs = false → VRs J σ w vs us → VRs J' σ w vs us
  | [], _, _, h => h
  | v :: vs, _, k, h => by
    simp only [AV.sharess, Bool.or_eq_false_iff] at k
    obtain ⟨e, es', h1, h2, h3⟩ := h
    exact ⟨e, es', h1, VR.noShares v e k.1 h2, VRs.noShares vs es' k.2 h3⟩
end

/-! ### Results -/
/-- One cell of a result; its own arrays' blocks. -/
def R1 (J : Nat → Prop) (lo : Nat) (w : World) : AV → Value → List Nat → Prop
  | .own e t xs, u, cl => ArrR J w e t xs u ∧ ((blockOf u = none ∧ cl = []) ∨ ∃ b, blockOf u = some b ∧ lo ≤ b ∧ b < w.heap.size ∧ ¬ J b ∧ cl = [b])
  | v, u, cl => VR J noOwn w v u ∧ cl = []
def RC (J : Nat → Prop) (lo : Nat) (w : World) : List AV → List Value → List Nat → Prop
  | [], us, cl => us = [] ∧ cl = []
  | v :: vs, us, cl => ∃ u us' c1 c2, us = u :: us' ∧ R1 J lo w v u c1 ∧ RC J lo w vs us' c2 ∧ cl = c1 ++ c2 ∧ ∀ b ∈ c1, b ∉ c2
/-- A result, one cell or several. -/
def RV (J : Nat → Prop) (lo : Nat) (w : World) : AV → Value → List Nat → Prop
  | .agg vs, u, cl => ∃ es, u = .agg (List.toArray es) ∧ RC J lo w vs es cl
  | v, u, cl => R1 J lo w v u cl
def RL (J : Nat → Prop) (lo : Nat) (w : World) : List AV → List Value → List Nat → Prop
  | [], us, cl => us = [] ∧ cl = []
  | v :: vs, us, cl => ∃ u us' c1 c2, us = u :: us' ∧ RV J lo w v u c1 ∧ RL J lo w vs us' c2 ∧ cl = c1 ++ c2 ∧ ∀ b ∈ c1, b ∉ c2
/-- What a call hands back. -/
def RR (J : Nat → Prop) (lo : Nat) (w : World) : AV → Value → Prop
  | .tuple vs, u => ∃ es cl, u = .tuple (List.toArray es) ∧ RL J lo w vs es cl
  | v, u => ∃ cl, RV J lo w v u cl

/-- What calls do: for plain data, whatever it is read from. -/
def CallOK (P : Program) (call : Nat → List AV → Option AV) : Prop :=
  ∀ f vs r, call f vs = some r → (∀ args w, (callFunc f args).run P w = .ok (.enter f args) w) ∧
    ∀ (J : Nat → Prop) (w : World) (us : List Value), (∀ b, J b → b < w.heap.size) → VRs J noOwn w vs us →
      Calls P f us.toArray w fun e w' => ∃ u J', e = .returned u ∧ Moved (fun _ => False) w w' ∧ (∀ b, J' b → J b ∨ (w.heap.size ≤ b ∧ b < w'.heap.size)) ∧ RR J' w.heap.size w' r u


theorem ArrR.noRefs {J J' : Nat → Prop} {e : Nat} {t : Ty} {xs : List t.Den} {u : Value} (ht : t.refs = false) (h : ArrR J w e t xs u) : ArrR J' w e t xs u := by
  rcases h with h | ⟨b, o, cap, cells, g1, g2, g3, g4, g5⟩
  · exact .inl h
  · refine .inr ⟨b, o, cap, cells, g1, g2, g3, g4, fun i hi => ?_⟩
    obtain ⟨es, k1, k2⟩ := g5 i hi
    exact ⟨es, DR.noRefs t _ _ ht k1, k2⟩

theorem R1.noShares {J J' : Nat → Prop} {lo : Nat} (hJ : ∀ b, J' b → b < lo) {v : AV} {u : Value} {cl : List Nat} (hs : v.shares = false) (h : R1 J lo w v u cl) : R1 J' lo w v u cl := by
  cases v with
  | own e t xs =>
    obtain ⟨h1, h2⟩ := h
    refine ⟨ArrR.noRefs hs h1, ?_⟩
    rcases h2 with h2 | ⟨b, k1, k2, k3, k4, k5⟩
    · exact .inl h2
    · exact .inr ⟨b, k1, k2, k3, fun hb => by have := hJ b hb; omega, k5⟩
  | _ => exact ⟨VR.noShares _ _ hs h.1, h.2⟩

theorem RC.noShares {J J' : Nat → Prop} {lo : Nat} (hJ : ∀ b, J' b → b < lo) : ∀ {vs : List AV} {us : List Value} {cl : List Nat}, AV.sharess vs = false → RC J lo w vs us cl → RC J' lo w vs us cl
  | [], _, _, _, h => h
  | v :: vs, _, _, k, h => by
    simp only [AV.sharess, Bool.or_eq_false_iff] at k
    obtain ⟨u, us', c1, c2, e, h1, h2, h3⟩ := h
    exact ⟨u, us', c1, c2, e, R1.noShares hJ k.1 h1, RC.noShares hJ k.2 h2, h3⟩

theorem RV.noShares {J J' : Nat → Prop} {lo : Nat} (hJ : ∀ b, J' b → b < lo) {v : AV} {u : Value} {cl : List Nat} (hs : v.shares = false) (h : RV J lo w v u cl) : RV J' lo w v u cl := by
  cases v with
  | agg vs => obtain ⟨es, e, h1⟩ := h; exact ⟨es, e, RC.noShares hJ (by simpa [AV.shares] using hs) h1⟩
  | _ => exact R1.noShares hJ hs h

theorem RL.noShares {J J' : Nat → Prop} {lo : Nat} (hJ : ∀ b, J' b → b < lo) : ∀ {vs : List AV} {us : List Value} {cl : List Nat}, AV.sharess vs = false → RL J lo w vs us cl → RL J' lo w vs us cl
  | [], _, _, _, h => h
  | v :: vs, _, _, k, h => by
    simp only [AV.sharess, Bool.or_eq_false_iff] at k
    obtain ⟨u, us', c1, c2, e, h1, h2, h3⟩ := h
    exact ⟨u, us', c1, c2, e, RV.noShares hJ k.1 h1, RL.noShares hJ k.2 h2, h3⟩

theorem RR.noShares {J J' : Nat → Prop} {lo : Nat} (hJ : ∀ b, J' b → b < lo) {v : AV} {u : Value} (hs : v.shares = false) (h : RR J lo w v u) : RR J' lo w v u := by
  cases v with
  | tuple vs => obtain ⟨es, cl, e, h1⟩ := h; exact ⟨es, cl, e, RL.noShares hJ (by simpa [AV.shares] using hs) h1⟩
  | _ => obtain ⟨cl, h⟩ := h; exact ⟨cl, RV.noShares hJ hs h⟩

/-- More memory is plain data. -/
theorem Rel.widen (h : Rel M w0 I0 I σ st a w) {I2 : Nat → Prop} (hI : ∀ b, I b → I2 b) (h2 : ∀ b, I2 b → I b ∨ (b < w.heap.size ∧ (w0.heap.size ≤ b ∨ M b) ∧ ∀ id o ow, st.heap.get id = some o → o.live = true → σ id = some ow → blockOf ow.v ≠ some b)) : Rel M w0 I0 I2 σ st a w := by
  refine ⟨fun i => VR.mono hI (fun _ _ => rfl) (fun _ _ h => h) _ _ (h.slots i), fun id o hg => ?_, h.dom, fun id o ow b g1 g2 g3 g4 => ?_, h.dist, fun b hb => ?_, fun b hb => ?_, fun b hb => hI b (h.keep b hb), h.frame, h.defers⟩
  · obtain ⟨ow, k1, k2⟩ := h.objs id o hg
    refine ⟨ow, k1, ObjR.mono hI (fun _ _ => rfl) (fun _ _ _ => rfl) ?_ k2⟩
    cases o with
    | box T vs => exact ⟨vs, rfl, fun es he => VRs.mono hI (fun _ _ => rfl) (fun _ _ h => h) vs es he⟩
    | _ => rfl
  · obtain ⟨k1, k2, k3⟩ := h.own id o ow b g1 g2 g3 g4
    exact ⟨fun hb => by rcases h2 b hb with hb | ⟨_, _, hb⟩; exact k1 hb; exact hb id o ow g1 g2 g3 g4, k2, k3⟩
  · rcases h2 b hb with hb | ⟨hb, _⟩; exact h.lt b hb; exact hb
  · rcases h2 b hb with hb | ⟨_, hb, _⟩; exact h.src b hb; exact .inr hb

/-- Blocks that are nobody's. -/
def Unowned (σ : Nat → Option Own) (st : St) (cl : List Nat) : Prop := ∀ b ∈ cl, ∀ id o ow, st.heap.get id = some o → o.live = true → σ id = some ow → blockOf ow.v ≠ some b

/-- The state has changed at numbers from n on; what was below is as it was. -/
def SameBelow (n : Nat) (σ σ' : Nat → Option Own) : Prop := ∀ i, i < n → σ' i = σ i

theorem alloc_get (st : St) (id : Nat) (o : Obj) (i : Nat) (o' : Obj) (h : (st.alloc id o).heap.get i = some o') : (i = id ∧ o'.live = o.live) ∨ ∃ o1, st.heap.get i = some o1 ∧ o1.live = o'.live := by
  unfold St.alloc at h
  split at h
  · simp only [Heap.get_put] at h
    split at h
    · cases h; exact .inl ⟨by assumption, rfl⟩
    · exact .inr ⟨o', h, rfl⟩
  · simp only [Heap.get_put, St.kill, St.subst, Heap.get_subst] at h
    split at h
    · cases h; exact .inl ⟨by assumption, Obj.live_subst _ _ _⟩
    · obtain ⟨o1, k1, rfl⟩ := Option.map_eq_some_iff.1 h; exact .inr ⟨o1, k1, (Obj.live_subst _ _ _).symm⟩

theorem Rel.adopt1 (h : Rel M w0 I0 I σ st a w) {lo : Nat} (hlo : w0.heap.size ≤ lo) {v : AV} {u : Value} {cl rest : List Nat} (hv : R1 I lo w v u cl) (hc : Unowned σ st (cl ++ rest)) (hd : ∀ b ∈ cl, b ∉ rest) (id : Nat) :
    ∃ σ', Rel M w0 I0 I σ' (Go.PI.adopt1 st id v).2.1 a w ∧ Unowned σ' (Go.PI.adopt1 st id v).2.1 rest ∧ SameBelow id σ σ' ∧ id ≤ (Go.PI.adopt1 st id v).2.2 ∧ ∀ σ'', SameBelow (Go.PI.adopt1 st id v).2.2 σ' σ'' → VR I σ'' w (Go.PI.adopt1 st id v).1 u := by
  have plain : VR I noOwn w v u → Go.PI.adopt1 st id v = (v, st, id) → ∃ σ', Rel M w0 I0 I σ' (Go.PI.adopt1 st id v).2.1 a w ∧ Unowned σ' (Go.PI.adopt1 st id v).2.1 rest ∧ SameBelow id σ σ' ∧ id ≤ (Go.PI.adopt1 st id v).2.2 ∧ ∀ σ'', SameBelow (Go.PI.adopt1 st id v).2.2 σ' σ'' → VR I σ'' w (Go.PI.adopt1 st id v).1 u := by
    intro hv e
    rw [e]
    exact ⟨σ, h, fun b hb => hc b (List.mem_append_right _ hb), fun _ _ => rfl, Nat.le_refl _, fun σ'' _ => VR.mono (fun _ h => h) (fun _ _ => rfl) (fun _ _ h => by cases h) v u hv⟩
  cases v with
  | own e t xs =>
    obtain ⟨h1, h2⟩ := hv
    have hhdr : ∃ A n cap, u = .slice A n cap := by
      rcases h1 with ⟨A, e, _⟩ | ⟨b, o, cap, cells, e, _⟩
      · exact ⟨A, 0, 0, e⟩
      · exact ⟨_, _, cap, e⟩
    obtain ⟨A, n, cap, rfl⟩ := hhdr
    have hfree : ∀ b, blockOf (.slice A n cap) = some b → b < w.heap.size ∧ Free M w0 I σ st id b := by
      intro b hb
      rcases h2 with ⟨h2, _⟩ | ⟨b', k1, k2, k3, k4, k5⟩
      · rw [h2] at hb; cases hb
      · rw [k1] at hb; cases hb
        exact ⟨k3, k4, .inl (by omega), fun j oj owj _ g1 g2 g3 g4 => hc b (by rw [k5]; simp) j oj owj g1 g2 g3 g4⟩
    refine ⟨_, h.alloc (ow := ⟨.slice A n cap, t.size⟩) (Moved.refl _ w) hfree (fun _ _ => ⟨rfl, h1⟩) (fun _ _ => ⟨rfl, h1⟩), fun b hb i oi owi g1 g2 g3 => ?_, fun i hi => by simp [Nat.ne_of_lt hi], Nat.le_succ id, fun σ'' hσ => ⟨A, n, cap, t.size, by rw [hσ id (Nat.lt_succ_self id)]; simp, rfl⟩⟩
    simp only [Go.PI.adopt1] at g1
    rcases alloc_get _ _ _ _ _ g1 with ⟨rfl, _⟩ | ⟨o1, m1, m2⟩
    · simp only [if_true, Option.some.injEq] at g3; subst g3
      intro hbb
      rcases h2 with ⟨h2, _⟩ | ⟨b', k1, k2, k3, k4, k5⟩
      · rw [h2] at hbb; cases hbb
      · rw [k1] at hbb; cases hbb
        exact hd b (by rw [k5]; simp) hb
    · by_cases e : i = id
      · subst e
        simp only [if_true, Option.some.injEq] at g3; subst g3
        intro hbb
        rcases h2 with ⟨h2, _⟩ | ⟨b', k1, k2, k3, k4, k5⟩
        · rw [h2] at hbb; cases hbb
        · rw [k1] at hbb; cases hbb
          exact hd b (by rw [k5]; simp) hb
      · simp only [if_neg e] at g3
        exact hc b (List.mem_append_right _ hb) i o1 owi m1 (by rw [m2]; exact g2) g3
  | _ => exact plain hv.1 rfl

theorem SameBelow.trans {n m : Nat} {σ σ' σ'' : Nat → Option Own} (h : SameBelow n σ σ') (h' : SameBelow m σ' σ'') (hnm : n ≤ m) : SameBelow n σ σ'' := fun i hi => (h' i (by omega)).trans (h i hi)

theorem Rel.adopt0 : ∀ {vs : List AV} {us : List Value} {cl rest : List Nat} {σ : Nat → Option Own} {st : St}, Rel M w0 I0 I σ st a w → ∀ {lo : Nat}, w0.heap.size ≤ lo → RC I lo w vs us cl → Unowned σ st (cl ++ rest) → (∀ b ∈ cl, b ∉ rest) → ∀ (id : Nat),
    ∃ σ', Rel M w0 I0 I σ' (adopts.adopt0 st id vs).2.1 a w ∧ Unowned σ' (adopts.adopt0 st id vs).2.1 rest ∧ SameBelow id σ σ' ∧ id ≤ (adopts.adopt0 st id vs).2.2 ∧ ∀ σ'', SameBelow (adopts.adopt0 st id vs).2.2 σ' σ'' → VRs I σ'' w (adopts.adopt0 st id vs).1 us
  | [], us, cl, rest, σ, st, h, lo, hlo, hv, hc, hd, id => by
    obtain ⟨rfl, rfl⟩ := hv
    exact ⟨σ, h, hc, fun _ _ => rfl, Nat.le_refl _, fun _ _ => rfl⟩
  | v :: vs, us, cl, rest, σ, st, h, lo, hlo, hv, hc, hd, id => by
    obtain ⟨u, us', c1, c2, rfl, h1, h2, rfl, h3⟩ := hv
    obtain ⟨σ1, k1, k2, k3, k4, k5⟩ := h.adopt1 hlo h1 (rest := c2 ++ rest) (by rw [← List.append_assoc]; exact hc) (fun b hb => by rw [List.mem_append]; exact fun hb' => hb'.elim (h3 b hb) (hd b (List.mem_append_left _ hb))) id
    obtain ⟨σ2, m1, m2, m3, m4, m5⟩ := Rel.adopt0 k1 hlo h2 k2 (fun b hb => hd b (List.mem_append_right _ hb)) (Go.PI.adopt1 st id v).2.2
    refine ⟨σ2, m1, m2, k3.trans m3 k4, Nat.le_trans k4 m4, fun σ'' hσ => ⟨u, us', rfl, k5 σ'' (fun i hi => ?_), m5 σ'' hσ⟩⟩
    rw [hσ i (Nat.lt_of_lt_of_le hi m4)]; exact m3 i hi

theorem adopts_cons (st : St) (id : Nat) (v : AV) (vs : List AV) (hv : ∀ us, v ≠ .agg us) : adopts st id (v :: vs) = ((Go.PI.adopt1 st id v).1 :: (adopts (Go.PI.adopt1 st id v).2.1 (Go.PI.adopt1 st id v).2.2 vs).1, (adopts (Go.PI.adopt1 st id v).2.1 (Go.PI.adopt1 st id v).2.2 vs).2) := by
  cases v with
  | agg us => exact absurd rfl (hv us)
  | _ => rfl

theorem Rel.adopts : ∀ {vs : List AV} {us : List Value} {cl rest : List Nat} {σ : Nat → Option Own} {st : St}, Rel M w0 I0 I σ st a w → ∀ {lo : Nat}, w0.heap.size ≤ lo → RL I lo w vs us cl → Unowned σ st (cl ++ rest) → (∀ b ∈ cl, b ∉ rest) → ∀ (id : Nat),
    ∃ σ', Rel M w0 I0 I σ' (Go.PI.adopts st id vs).2.1 a w ∧ SameBelow id σ σ' ∧ id ≤ (Go.PI.adopts st id vs).2.2 ∧ ∀ σ'', SameBelow (Go.PI.adopts st id vs).2.2 σ' σ'' → VRs I σ'' w (Go.PI.adopts st id vs).1 us
  | [], us, cl, rest, σ, st, h, lo, hlo, hv, hc, hd, id => by
    obtain ⟨rfl, rfl⟩ := hv
    exact ⟨σ, h, fun _ _ => rfl, Nat.le_refl _, fun _ _ => rfl⟩
  | v :: vs, us, cl, rest, σ, st, h, lo, hlo, hv, hc, hd, id => by
    obtain ⟨u, us', c1, c2, rfl, h1, h2, rfl, h3⟩ := hv
    have hc' : Unowned σ st (c1 ++ (c2 ++ rest)) := by rw [← List.append_assoc]; exact hc
    have hd' : ∀ b ∈ c1, b ∉ c2 ++ rest := fun b hb => by rw [List.mem_append]; exact fun hb' => hb'.elim (h3 b hb) (hd b (List.mem_append_left _ hb))
    by_cases hagg : ∃ ws, v = .agg ws
    · obtain ⟨ws, rfl⟩ := hagg
      obtain ⟨es, rfl, h1⟩ := h1
      obtain ⟨σ1, k1, k2, k3, k4, k5⟩ := Rel.adopt0 h hlo h1 hc' hd' id
      obtain ⟨σ2, m1, m3, m4, m5⟩ := Rel.adopts k1 hlo h2 k2 (fun b hb => hd b (List.mem_append_right _ hb)) (Go.PI.adopts.adopt0 st id ws).2.2
      refine ⟨σ2, m1, k3.trans m3 k4, Nat.le_trans k4 m4, fun σ'' hσ => ⟨_, us', rfl, ⟨es, rfl, k5 σ'' (fun i hi => ?_)⟩, m5 σ'' hσ⟩⟩
      rw [hσ i (Nat.lt_of_lt_of_le hi m4)]; exact m3 i hi
    · have hna : ∀ ws, v ≠ .agg ws := fun ws e => hagg ⟨ws, e⟩
      have h1 : R1 I lo w v u c1 := by
        cases v with
        | agg ws => exact absurd rfl (hna ws)
        | _ => exact h1
      obtain ⟨σ1, k1, k2, k3, k4, k5⟩ := h.adopt1 hlo h1 hc' hd' id
      obtain ⟨σ2, m1, m3, m4, m5⟩ := Rel.adopts k1 hlo h2 k2 (fun b hb => hd b (List.mem_append_right _ hb)) (Go.PI.adopt1 st id v).2.2
      rw [adopts_cons st id v vs hna]
      refine ⟨σ2, m1, k3.trans m3 k4, Nat.le_trans k4 m4, fun σ'' hσ => ⟨u, us', rfl, k5 σ'' (fun i hi => ?_), m5 σ'' hσ⟩⟩
      rw [hσ i (Nat.lt_of_lt_of_le hi m4)]; exact m3 i hi

theorem Rel.adopt (h : Rel M w0 I0 I σ st a w) {lo : Nat} (hlo : w0.heap.size ≤ lo) {v : AV} {u : Value} (hv : RR I lo w v u) (hc : ∀ b, lo ≤ b → ∀ id o ow, st.heap.get id = some o → o.live = true → σ id = some ow → blockOf ow.v ≠ some b) (id : Nat) :
    ∃ σ', Rel M w0 I0 I σ' (Go.PI.adopt st id v).2 a w ∧ VR I σ' w (Go.PI.adopt st id v).1 u := by
  have clR1 : ∀ {v : AV} {u : Value} {cl : List Nat}, R1 I lo w v u cl → ∀ b ∈ cl, lo ≤ b := by
    intro v u cl h b hb
    cases v with
    | own e t xs =>
      rcases h.2 with ⟨_, rfl⟩ | ⟨b', _, k, _, _, rfl⟩
      · simp at hb
      · simp at hb; subst hb; exact k
    | _ => rw [h.2] at hb; simp at hb
  have clRC : ∀ {vs : List AV} {us : List Value} {cl : List Nat}, RC I lo w vs us cl → ∀ b ∈ cl, lo ≤ b := by
    intro vs
    induction vs with
    | nil => rintro us cl ⟨_, rfl⟩ b hb; simp at hb
    | cons v vs ih =>
      rintro us cl ⟨u, us', c1, c2, _, h1, h2, rfl, _⟩ b hb
      exact (List.mem_append.1 hb).elim (clR1 h1 b) (ih h2 b)
  have clRV : ∀ {v : AV} {u : Value} {cl : List Nat}, RV I lo w v u cl → ∀ b ∈ cl, lo ≤ b := by
    intro v u cl h
    cases v with
    | agg vs => obtain ⟨es, _, h⟩ := h; exact clRC h
    | own e t xs => exact clR1 (v := .own e t xs) h
    | _ => intro b hb; rw [h.2] at hb; simp at hb
  have clRL : ∀ {vs : List AV} {us : List Value} {cl : List Nat}, RL I lo w vs us cl → ∀ b ∈ cl, lo ≤ b := by
    intro vs
    induction vs with
    | nil => rintro us cl ⟨_, rfl⟩ b hb; simp at hb
    | cons v vs ih =>
      rintro us cl ⟨u, us', c1, c2, _, h1, h2, rfl, _⟩ b hb
      exact (List.mem_append.1 hb).elim (clRV h1 b) (ih h2 b)
  by_cases ht : ∃ vs, v = .tuple vs
  · obtain ⟨vs, rfl⟩ := ht
    obtain ⟨es, cl, rfl, h1⟩ := hv
    obtain ⟨σ', k1, k2, k3, k4⟩ := Rel.adopts h hlo h1 (rest := []) (fun b hb => hc b (clRL h1 b (by simpa using hb))) (fun _ _ h => by simp at h) id
    exact ⟨σ', k1, es, rfl, k4 σ' (fun _ _ => rfl)⟩
  · have hnt : ∀ vs, v ≠ .tuple vs := fun vs e => ht ⟨vs, e⟩
    have e : Go.PI.adopt st id v = ((Go.PI.adopts st id [v]).1.headD .undef, (Go.PI.adopts st id [v]).2.1) := by
      cases v with
      | tuple vs => exact absurd rfl (hnt vs)
      | _ => rfl
    have hv' : ∃ cl, RV I lo w v u cl := by
      cases v with
      | tuple vs => exact absurd rfl (hnt vs)
      | _ => exact hv
    obtain ⟨cl, hv'⟩ := hv'
    have h1 : RL I lo w [v] [u] cl := ⟨u, [], cl, [], rfl, hv', ⟨rfl, rfl⟩, by simp, fun _ _ h => by simp at h⟩
    obtain ⟨σ', k1, k2, k3, k4⟩ := Rel.adopts h hlo h1 (rest := []) (fun b hb => hc b (clRL h1 b (by simpa using hb))) (fun _ _ h => by simp at h) id
    have k5 := k4 σ' (fun _ _ => rfl)
    rw [e]
    refine ⟨σ', k1, ?_⟩
    generalize hr : (Go.PI.adopts st id [v]).1 = r at k5
    cases r with
    | nil => cases k5
    | cons x r => obtain ⟨e1, es', h1, h2, h3⟩ := k5; cases h1; exact h2

end
end Go.PI
