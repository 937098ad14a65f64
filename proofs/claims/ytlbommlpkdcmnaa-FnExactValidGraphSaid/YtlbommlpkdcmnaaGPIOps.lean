/- An abstract interpreter of the translated code: its operations are those of the machine. -/
import Derived.Test.YtlbommlpkdcmnaaGPIState
namespace Go.PI
open Go

/-- What a type's row says of the program. -/
structure TIok (P : Program) (E : Env) (T : Nat) (ti : TI) : Prop where
  info : ∃ i, P.info? T = some i ∧ i.size = ti.size ∧ i.bytes = ti.bytes ∧ (∀ vs, zeros E 8 T = some vs → ∃ z, i.zero = some z ∧ ∀ I σ w, VRs I σ w vs z.cells.toList)
  desc : match ti.desc with
    | .bool => P.underlying T = some .bool
    | .int k => P.underlying T = some (.int k)
    | .str => P.underlying T = some .string
    | .slice e => P.underlying T = some (.slice e)
    | .struct fs => ∃ fds : Array Field, P.underlying T = some (.struct fds) ∧ fs = fds.toList.map fun f => (f.offset, f.type)
    | .arr n e => P.underlying T = some (.array n e)
    | .ptr e => P.underlying T = some (.pointer e)
    | _ => ∃ d, P.underlying T = some d ∧ (∀ fs, d ≠ .struct fs) ∧ ∀ n e, d ≠ .array n e
  flds : ∀ fds f, P.underlying T = some (.struct fds) → f ∈ fds.toList → ∃ i, P.info? f.type = some i

structure TabOK (P : Program) (E : Env) : Prop where
  tab : ∀ T ti, E.tab T = some ti → TIok P E T ti
  ty : ∀ T t, E.ty T = some t → ∃ i z, P.info? T = some i ∧ i.size = t.size ∧ i.zero = some z ∧ z.cells.size = t.size ∧ ∀ I w, DR I w t t.zero z.cells.toList

section
variable {P : Program} {o : Oper} {a : Act} {w w' : World} {K : Act → World → Prop} {Q : Exit → Act → World → Prop}
theorem wp_value {u : Value} (hrun : (execOp a.eval o).run P w = .ok (.value u) w') (hK : K (a.put o.dst u) w') : o.wp P a w K Q := by
  simp only [Oper.wp, hrun, Oper.upon]; exact hK
theorem wp_skipped (hrun : (execOp a.eval o).run P w = .ok .skip w') (hK : K (a.put o.dst Go.undef) w') : o.wp P a w K Q := by
  simp only [Oper.wp, hrun, Oper.upon]; exact hK
end

/-! ### Values -/
section
variable {I : Nat → Prop} {σ : Nat → Option Own} {w : World}

theorem VRs.length : ∀ {vs : List AV} {us : List Value}, VRs I σ w vs us → us.length = vs.length
  | [], _, h => by rw [h]; rfl
  | _ :: vs, _, h => by obtain ⟨e, es', rfl, _, h3⟩ := h; simp [VRs.length h3]

theorem VRs.get : ∀ {vs : List AV} {us : List Value}, VRs I σ w vs us → ∀ {i : Nat} {v : AV}, vs[i]? = some v → ∃ u, us[i]? = some u ∧ VR I σ w v u
  | [], _, _, i, v, hv => by simp at hv
  | x :: vs, _, h, i, v, hv => by
    obtain ⟨e, es', rfl, h2, h3⟩ := h
    cases i with
    | zero => simp at hv; subst hv; exact ⟨e, rfl, h2⟩
    | succ i => simpa using VRs.get h3 (i := i) (by simpa using hv)

theorem VRs.append : ∀ {vs vs' : List AV} {us us' : List Value}, VRs I σ w vs us → VRs I σ w vs' us' → VRs I σ w (vs ++ vs') (us ++ us')
  | [], _, _, _, h, h' => by rw [h]; exact h'
  | _ :: vs, _, _, _, h, h' => by obtain ⟨e, es', rfl, h2, h3⟩ := h; exact ⟨e, es' ++ _, rfl, h2, VRs.append h3 h'⟩

theorem VRs.drop : ∀ {vs : List AV} {us : List Value} (n : Nat), VRs I σ w vs us → VRs I σ w (vs.drop n) (us.drop n)
  | [], _, n, h => by rw [h]; cases n <;> rfl
  | _ :: _, _, 0, h => h
  | _ :: vs, _, n + 1, h => by obtain ⟨e, es', rfl, _, h3⟩ := h; simpa using VRs.drop n h3

theorem VRs.take : ∀ {vs : List AV} {us : List Value} (n : Nat), VRs I σ w vs us → VRs I σ w (vs.take n) (us.take n)
  | [], _, n, h => by rw [h]; cases n <;> rfl
  | _ :: _, _, 0, _ => rfl
  | _ :: vs, _, n + 1, h => by obtain ⟨e, es', rfl, h2, h3⟩ := h; exact ⟨e, es'.take n, rfl, h2, VRs.take n h3⟩

theorem VRs.single {v : AV} {us : List Value} (h : VRs I σ w [v] us) : ∃ u, us = [u] ∧ VR I σ w v u := by
  obtain ⟨e, es', rfl, h2, h3⟩ := h; exact ⟨e, by rw [show es' = [] from h3], h2⟩

/-- A value's cells. -/
theorem VR.cells {v : AV} {u : Value} (h : VR I σ w v u) (hu : v ≠ .undef) : VRs I σ w v.cells u.cells.toList ∧ ∀ vs, v = .agg vs → ∃ cs, u = .agg cs := by
  have one : ∀ (v : AV), VR I σ w v u → u.cells = #[u] → v.cells = [v] → VRs I σ w v.cells u.cells.toList := fun v h e1 e2 => by rw [e1, e2]; exact ⟨u, [], rfl, h, rfl⟩
  cases v with
  | agg vs => obtain ⟨es, rfl, h2⟩ := h; exact ⟨by simpa [AV.cells, Value.cells] using h2, fun _ _ => ⟨_, rfl⟩⟩
  | undef => exact absurd rfl hu
  | d t x =>
    refine ⟨one _ h ?_ rfl, fun _ e => by cases e⟩
    have : ∀ (t : Ty) (x : t.Den) (cs : List Value), DR I w t x cs → ∀ c ∈ cs, c.cells = #[c] := by
      intro t
      induction t with
      | int k => rintro x cs rfl c hc; simp at hc; subst hc; rfl
      | bool => rintro x cs rfl c hc; simp at hc; subst hc; rfl
      | str => rintro x cs rfl c hc; simp at hc; subst hc; rfl
      | err => rintro x cs (⟨_, rfl⟩ | ⟨_, t, v, rfl⟩) c hc <;> simp at hc <;> subst hc <;> rfl
      | slice t _ => rintro x cs ⟨A, cap, rfl, _⟩ c hc; simp at hc; subst hc; rfl
      | ptr t _ => rintro x cs ⟨b, o, rfl, _⟩ c hc; simp at hc; subst hc; rfl
      | nil => rintro x cs rfl c hc; simp at hc
      | cons a b iha ihb =>
        rintro x cs ⟨c1, c2, rfl, h1, h2⟩ c hc
        rcases List.mem_append.1 hc with hc | hc
        · exact iha _ _ h1 c hc
        · exact ihb _ _ h2 c hc
      | agg l ih => intro x cs h; exact ih x cs h
    exact this t x _ h u (by simp)
  | skip => obtain rfl := h; exact ⟨one _ rfl rfl rfl, fun _ e => by cases e⟩
  | nilS => obtain rfl := h; exact ⟨one _ rfl rfl rfl, fun _ e => by cases e⟩
  | empS => obtain ⟨A, rfl⟩ := h; exact ⟨one .empS ⟨A, rfl⟩ rfl rfl, fun _ e => by cases e⟩
  | nilF => obtain rfl := h; exact ⟨one _ rfl rfl rfl, fun _ e => by cases e⟩
  | nilP => obtain rfl := h; exact ⟨one _ rfl rfl rfl, fun _ e => by cases e⟩
  | os id => obtain ⟨A, n, cap, z, h1, rfl⟩ := h; exact ⟨one (.os id) ⟨A, n, cap, z, h1, rfl⟩ rfl rfl, fun _ e => by cases e⟩
  | sub id a n => obtain ⟨A, len, cap, z, h1, h2, A', rfl, h3⟩ := h; exact ⟨one (.sub id a n) ⟨A, len, cap, z, h1, h2, A', rfl, h3⟩ rfl rfl, fun _ e => by cases e⟩
  | el id i off => obtain ⟨b, o, len, cap, z, h1, h2, rfl⟩ := h; exact ⟨one (.el id i off) ⟨b, o, len, cap, z, h1, h2, rfl⟩ rfl rfl, fun _ e => by cases e⟩
  | op id off => obtain ⟨b, z, h1, rfl⟩ := h; exact ⟨one (.op id off) ⟨b, z, h1, rfl⟩ rfl rfl, fun _ e => by cases e⟩
  | rp vs => obtain ⟨b, o, es, rfl, h2⟩ := h; exact ⟨one (.rp vs) ⟨b, o, es, rfl, h2⟩ rfl rfl, fun _ e => by cases e⟩
  | tuple vs => obtain ⟨es, rfl, h2⟩ := h; exact ⟨one (.tuple vs) ⟨es, rfl, h2⟩ rfl rfl, fun _ e => by cases e⟩
  | fn f vs => obtain ⟨es, rfl, h2⟩ := h; exact ⟨one (.fn f vs) ⟨es, rfl, h2⟩ rfl rfl, fun _ e => by cases e⟩
  | own e t xs => exact h.elim

theorem DR.length : ∀ (t : Ty) (x : t.Den) (cs : List Value), DR I w t x cs → cs.length = t.size
  | .int _, _, _, h => by rw [h]; rfl
  | .bool, _, _, h => by rw [h]; rfl
  | .str, _, _, h => by rw [h]; rfl
  | .err, _, _, h => by rcases h with ⟨_, rfl⟩ | ⟨_, _, _, rfl⟩ <;> rfl
  | .slice _, _, _, h => by obtain ⟨A, cap, rfl, _⟩ := h; rfl
  | .ptr _, _, _, h => by obtain ⟨b, o, rfl, _⟩ := h; rfl
  | .nil, _, _, h => by rw [h]; rfl
  | .cons a b, x, _, h => by obtain ⟨c1, c2, rfl, h1, h2⟩ := h; simp [Ty.size, DR.length a _ _ h1, DR.length b _ _ h2]
  | .agg l, x, cs, h => DR.length l x cs h

theorem DR.one : ∀ (t : Ty) (x : t.Den) (cs : List Value), DR I w t x cs → ∀ c ∈ cs, c.oneCell' = true
  | .int _, _, _, h, c, hc => by rw [h] at hc; simp at hc; subst hc; rfl
  | .bool, _, _, h, c, hc => by rw [h] at hc; simp at hc; subst hc; rfl
  | .str, _, _, h, c, hc => by rw [h] at hc; simp at hc; subst hc; rfl
  | .err, _, _, h, c, hc => by rcases h with ⟨_, rfl⟩ | ⟨_, _, _, rfl⟩ <;> simp at hc <;> subst hc <;> rfl
  | .slice _, _, _, h, c, hc => by obtain ⟨A, cap, rfl, _⟩ := h; simp at hc; subst hc; rfl
  | .ptr _, _, _, h, c, hc => by obtain ⟨b, o, rfl, _⟩ := h; simp at hc; subst hc; rfl
  | .nil, _, _, h, c, hc => by rw [h] at hc; simp at hc
  | .cons a b, x, _, h, c, hc => by
    obtain ⟨c1, c2, rfl, h1, h2⟩ := h
    rcases List.mem_append.1 hc with hc | hc
    · exact DR.one a _ _ h1 c hc
    · exact DR.one b _ _ h2 c hc
  | .agg l, x, cs, h, c, hc => DR.one l x cs h c hc

theorem VRs.flat : ∀ (t : Ty) (x : t.Den) (cs : List Value), DR I w t x cs → VRs I σ w (Go.PI.flat t x) cs
  | .int _, _, _, h => ⟨_, [], h, rfl, rfl⟩
  | .bool, _, _, h => ⟨_, [], h, rfl, rfl⟩
  | .str, _, _, h => ⟨_, [], h, rfl, rfl⟩
  | .err, x, cs, h => by
    rcases h with ⟨h1, rfl⟩ | ⟨h1, t, v, rfl⟩
    · exact ⟨_, [], rfl, .inl ⟨h1, rfl⟩, rfl⟩
    · exact ⟨_, [], rfl, .inr ⟨h1, t, v, rfl⟩, rfl⟩
  | .slice t, x, cs, h => by obtain ⟨A, cap, rfl, h1, h2⟩ := h; exact ⟨_, [], rfl, ⟨A, cap, rfl, h1, h2⟩, rfl⟩
  | .ptr t, x, cs, h => by obtain ⟨b, o, rfl, h1, es, h2, h3⟩ := h; exact ⟨_, [], rfl, ⟨b, o, es, rfl, h1, VRs.flat t x es h2, h3⟩, rfl⟩
  | .nil, _, _, h => h
  | .cons a b, x, _, h => by obtain ⟨c1, c2, rfl, h1, h2⟩ := h; exact VRs.append (VRs.flat a _ _ h1) (VRs.flat b _ _ h2)
  | .agg l, x, cs, h => VRs.flat l x cs h

theorem asDen_some {t : Ty} {v : AV} {x : t.Den} (h : asDen t v = some x) : v = .d t x := by
  unfold asDen at h
  split at h
  · rename_i t' y
    split at h
    · rename_i e; subst e; simp only [castDen, Option.some.injEq] at h; subst h; rfl
    · cases h
  · cases h

theorem asDen_self (t : Ty) (x : t.Den) : asDen t (.d t x) = some x := by simp [asDen, castDen]

theorem VR.asDen {t : Ty} {v : AV} {x : t.Den} {u : Value} (hv : VR I σ w v u) (h : asDen t v = some x) : DR I w t x [u] := by
  rw [asDen_some h] at hv; exact hv

theorem VR.asList {t : Ty} {v : AV} {xs : List t.Den} {u : Value} (hv : VR I σ w v u) (h : asList t v = some xs) : DR I w (.slice t) xs [u] := by
  unfold Go.PI.asList at h
  split at h
  · cases h; obtain rfl := hv; exact ⟨none, 0, rfl, Nat.le_refl _, fun i hi => absurd hi (by simp)⟩
  · cases h; obtain ⟨A, rfl⟩ := hv; exact ⟨A, 0, rfl, Nat.le_refl _, fun i hi => absurd hi (by simp)⟩
  · exact VR.asDen hv h

theorem VRs.unflat : ∀ (t : Ty) {vs vs' : List AV} {us : List Value} {x : t.Den}, VRs I σ w vs us → Go.PI.unflat t vs = some (x, vs') → ∃ c1 c2, us = c1 ++ c2 ∧ DR I w t x c1 ∧ VRs I σ w vs' c2
  | .nil, vs, vs', us, x, hv, h => by simp only [Go.PI.unflat, Option.some.injEq, Prod.mk.injEq] at h; obtain ⟨_, rfl⟩ := h; exact ⟨[], us, rfl, rfl, hv⟩
  | .agg l, vs, vs', us, x, hv, h => VRs.unflat l hv h
  | .cons a b, vs, vs', us, x, hv, h => by
    simp only [Go.PI.unflat, Option.bind_eq_some_iff, Option.map_eq_some_iff] at h
    obtain ⟨⟨y, r⟩, h1, ⟨z, r'⟩, h2, h3⟩ := h
    simp only [Prod.mk.injEq] at h3
    obtain ⟨rfl, rfl⟩ := h3
    obtain ⟨c1, c2, rfl, k1, k2⟩ := VRs.unflat a hv h1
    obtain ⟨c3, c4, rfl, k3, k4⟩ := VRs.unflat b k2 h2
    exact ⟨c1 ++ c3, c4, by simp, ⟨c1, c3, rfl, k1, k3⟩, k4⟩
  | .int k, [], _, _, _, _, h => by simp [Go.PI.unflat] at h
  | .bool, [], _, _, _, _, h => by simp [Go.PI.unflat] at h
  | .str, [], _, _, _, _, h => by simp [Go.PI.unflat] at h
  | .err, [], _, _, _, _, h => by simp [Go.PI.unflat] at h
  | .slice _, [], _, _, _, _, h => by simp [Go.PI.unflat] at h
  | .ptr _, [], _, _, _, _, h => by simp [Go.PI.unflat] at h
  | .int k, v :: vs, vs', us, x, hv, h => by
    obtain ⟨e, es', rfl, h2, h3⟩ := hv
    simp only [Go.PI.unflat, Option.map_eq_some_iff, Prod.mk.injEq] at h
    obtain ⟨y, k1, rfl, rfl⟩ := h
    exact ⟨[e], es', rfl, VR.asDen h2 k1, h3⟩
  | .bool, v :: vs, vs', us, x, hv, h => by
    obtain ⟨e, es', rfl, h2, h3⟩ := hv
    simp only [Go.PI.unflat, Option.map_eq_some_iff, Prod.mk.injEq] at h
    obtain ⟨y, k1, rfl, rfl⟩ := h
    exact ⟨[e], es', rfl, VR.asDen h2 k1, h3⟩
  | .str, v :: vs, vs', us, x, hv, h => by
    obtain ⟨e, es', rfl, h2, h3⟩ := hv
    simp only [Go.PI.unflat, Option.map_eq_some_iff, Prod.mk.injEq] at h
    obtain ⟨y, k1, rfl, rfl⟩ := h
    exact ⟨[e], es', rfl, VR.asDen h2 k1, h3⟩
  | .err, v :: vs, vs', us, x, hv, h => by
    obtain ⟨e, es', rfl, h2, h3⟩ := hv
    simp only [Go.PI.unflat, Option.map_eq_some_iff, Prod.mk.injEq] at h
    obtain ⟨y, k1, rfl, rfl⟩ := h
    exact ⟨[e], es', rfl, VR.asDen h2 k1, h3⟩
  | .slice t, v :: vs, vs', us, x, hv, h => by
    obtain ⟨e, es', rfl, h2, h3⟩ := hv
    simp only [Go.PI.unflat, Option.map_eq_some_iff, Prod.mk.injEq] at h
    obtain ⟨y, k1, rfl, rfl⟩ := h
    exact ⟨[e], es', rfl, VR.asList h2 k1, h3⟩
  | .ptr t, v :: vs, vs', us, x, hv, h => by
    obtain ⟨e, es', rfl, h2, h3⟩ := hv
    simp only [Go.PI.unflat] at h
    split at h
    · rename_i us'
      simp only [Option.map_eq_some_iff, Prod.mk.injEq] at h
      obtain ⟨⟨y, r⟩, k1, rfl, rfl⟩ := h
      obtain ⟨b, o, es, rfl, g1, g2, g3⟩ := h2
      obtain ⟨c1, c2, rfl, k2, _⟩ := VRs.unflat t g2 k1
      exact ⟨_, es', rfl, ⟨b, o, rfl, g1, c1, k2, fun j v hj => g3 j v (by
        have := (List.getElem?_eq_some_iff.1 hj).1
        rw [List.getElem?_append_left this]; exact hj)⟩, h3⟩
    · cases h

theorem VR.ofConst1 (v : Value) : VR I σ w (Go.PI.ofConst1 v) v := by
  unfold Go.PI.ofConst1
  split
  · rfl
  · rfl
  · rfl
  · rfl
  · exact .inl ⟨rfl, rfl⟩
  · rfl
  · rfl
  · trivial

theorem VRs.ofConst1 : ∀ (cs : List Value), VRs I σ w (cs.map Go.PI.ofConst1) cs
  | [] => rfl
  | c :: cs => ⟨c, cs, rfl, VR.ofConst1 c, VRs.ofConst1 cs⟩

theorem VR.ofConst (v : Value) : VR I σ w (Go.PI.ofConst v) v := by
  unfold Go.PI.ofConst
  split
  · rename_i cs; exact ⟨cs.toList, by simp, VRs.ofConst1 _⟩
  · exact VR.ofConst1 _

theorem Rel.eval {M : Nat → Prop} {w0 : World} {I0 : Nat → Prop} {st : St} {a : Act} (h : Rel M w0 I0 I σ st a w) (x : Operand) : VR I σ w (Go.PI.eval st x) (a.eval x) := by
  cases x with
  | tmp t => exact h.slots t
  | const v => exact VR.ofConst v
  | global g => trivial
  | func f => exact ⟨[], rfl, rfl⟩
end
end Go.PI
