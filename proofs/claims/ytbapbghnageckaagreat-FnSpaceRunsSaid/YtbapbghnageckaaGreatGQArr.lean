/- An abstract interpreter of the translated code: arrays, cell by cell. -/
import Derived.Test.YtbapbghnageckaaGreatGQState
import Derived.Great.BuildSlice
import Derived.Great.FillDense
import Derived.Laws.MakeOwn
import Derived.Laws.AppendOwn
namespace Go.Q
set_option linter.unusedVariables false
set_option linter.unusedSimpArgs false
set_option linter.unusedSectionVars false
open Go

section
variable {I : Nat → Prop} {σ : Nat → Option Own} {w : World}

theorem VRs.length : ∀ {vs : List AV} {us : List Value}, VRs I σ w vs us → us.length = vs.length
 | [], _, h => by rw [h]; rfl
 | _ :: vs, _, h => by obtain ⟨e, es', rfl, _, h3⟩ := h; simp [VRs.length h3]

theorem VRs.get : ∀ {vs : List AV} {us : List Value}, VRs I σ w vs us → ∀ {i : Nat} {v : AV}, vs[i]? = some v → ∃ u, us[i]? = some u ∧ VR I σ w v u
 | [], _, _, i, v, hv => by simp at hv
 | x :: vs, _, h, i, v, hv => by
  obtain ⟨e, es', rfl, h2, h3⟩ := h
  cases i with
  | zero => simp at hv; subst hv; exact ⟨e, rfl, h2⟩
  | succ i => simpa using VRs.get h3 (i := i) (by simpa using hv)

theorem VRs.append : ∀ {vs vs' : List AV} {us us' : List Value}, VRs I σ w vs us → VRs I σ w vs' us' → VRs I σ w (vs ++ vs') (us ++ us')
 | [], _, _, _, h, h' => by rw [h]; exact h'
 | _ :: vs, _, _, _, h, h' => by obtain ⟨e, es', rfl, h2, h3⟩ := h; exact ⟨e, es' ++ _, rfl, h2, VRs.append h3 h'⟩

theorem VRs.drop : ∀ {vs : List AV} {us : List Value} (n : Nat), VRs I σ w vs us → VRs I σ w (vs.drop n) (us.drop n)
 | [], _, n, h => by rw [h]; cases n <;> rfl
 | _ :: _, _, 0, h => h
 | _ :: vs, _, n + 1, h => by obtain ⟨e, es', rfl, _, h3⟩ := h; simpa using VRs.drop n h3

theorem VRs.take : ∀ {vs : List AV} {us : List Value} (n : Nat), VRs I σ w vs us → VRs I σ w (vs.take n) (us.take n)
 | [], _, n, h => by rw [h]; cases n <;> rfl
 | _ :: _, _, 0, _ => rfl
 | _ :: vs, _, n + 1, h => by obtain ⟨e, es', rfl, h2, h3⟩ := h; exact ⟨e, es'.take n, rfl, h2, VRs.take n h3⟩

theorem VRs.single {v : AV} {us : List Value} (h : VRs I σ w [v] us) : ∃ u, us = [u] ∧ VR I σ w v u := by
 obtain ⟨e, es', rfl, h2, h3⟩ := h; exact ⟨e, by rw [show es' = [] from h3], h2⟩

theorem DR.length : ∀ (t : Ty) (x : t.Den) (cs : List Value), DR I w t x cs → cs.length = t.size
 | .int _, _, _, h => by rw [h]; rfl
 | .bool, _, _, h => by rw [h]; rfl
 | .str, _, _, h => by rw [h]; rfl
 | .err, _, _, h => by rcases h with ⟨_, rfl⟩ | ⟨_, _, _, rfl⟩ <;> rfl
 | .slice _, _, _, h => by obtain ⟨A, cap, rfl, _⟩ := h; rfl
 | .ptr _, _, _, h => by obtain ⟨b, o, rfl, _⟩ := h; rfl
 | .nil, _, _, h => by rw [h]; rfl
 | .cons a b, x, _, h => by obtain ⟨c1, c2, rfl, h1, h2⟩ := h; simp [Ty.size, DR.length a _ _ h1, DR.length b _ _ h2]
 | .agg l, x, cs, h => DR.length l x cs h

theorem DR.one : ∀ (t : Ty) (x : t.Den) (cs : List Value), DR I w t x cs → ∀ c ∈ cs, c.oneCell' = true
 | .int _, _, _, h, c, hc => by rw [h] at hc; simp at hc; subst hc; rfl
 | .bool, _, _, h, c, hc => by rw [h] at hc; simp at hc; subst hc; rfl
 | .str, _, _, h, c, hc => by rw [h] at hc; simp at hc; subst hc; rfl
 | .err, _, _, h, c, hc => by rcases h with ⟨_, rfl⟩ | ⟨_, _, _, rfl⟩ <;> simp at hc <;> subst hc <;> rfl
 | .slice _, _, _, h, c, hc => by obtain ⟨A, cap, rfl, _⟩ := h; simp at hc; subst hc; rfl
 | .ptr _, _, _, h, c, hc => by obtain ⟨b, o, rfl, _⟩ := h; simp at hc; subst hc; rfl
 | .nil, _, _, h, c, hc => by rw [h] at hc; simp at hc
 | .cons a b, x, _, h, c, hc => by
  obtain ⟨c1, c2, rfl, h1, h2⟩ := h
  rcases List.mem_append.1 hc with hc | hc
  ·exact DR.one a _ _ h1 c hc
  ·exact DR.one b _ _ h2 c hc
 | .agg l, x, cs, h, c, hc => DR.one l x cs h c hc

theorem VRs.flat : ∀ (t : Ty) (x : t.Den) (cs : List Value), DR I w t x cs → VRs I σ w (Go.Q.flat t x) cs
 | .int _, _, _, h => ⟨_, [], h, rfl, rfl⟩
 | .bool, _, _, h => ⟨_, [], h, rfl, rfl⟩
 | .str, _, _, h => ⟨_, [], h, rfl, rfl⟩
 | .err, x, cs, h => by
  rcases h with ⟨h1, rfl⟩ | ⟨h1, t, v, rfl⟩
  ·exact ⟨_, [], rfl, .inl ⟨h1, rfl⟩, rfl⟩
  ·exact ⟨_, [], rfl, .inr ⟨h1, t, v, rfl⟩, rfl⟩
 | .slice t, x, cs, h => by obtain ⟨A, cap, rfl, h1, h2⟩ := h; exact ⟨_, [], rfl, ⟨A, cap, rfl, h1, h2⟩, rfl⟩
 | .ptr t, x, cs, h => by obtain ⟨b, o, rfl, h1, es, h2, h3⟩ := h; exact ⟨_, [], rfl, ⟨b, o, es, rfl, h1, VRs.flat t x es h2, h3⟩, rfl⟩
 | .nil, _, _, h => h
 | .cons a b, x, _, h => by obtain ⟨c1, c2, rfl, h1, h2⟩ := h; exact VRs.append (VRs.flat a _ _ h1) (VRs.flat b _ _ h2)
 | .agg l, x, cs, h => VRs.flat l x cs h

theorem asDen_some {t : Ty} {v : AV} {x : t.Den} (h : asDen t v = some x) : v = .d t x := by
 unfold asDen at h
 split at h
 ·rename_i t' y
  split at h
  ·rename_i e; subst e; simp only [castDen, Option.some.injEq] at h; subst h; rfl
  ·cases h
 ·cases h

theorem asDen_self (t : Ty) (x : t.Den) : asDen t (.d t x) = some x := by simp [asDen, castDen]

theorem VR.asDen {t : Ty} {v : AV} {x : t.Den} {u : Value} (hv : VR I σ w v u) (h : asDen t v = some x) : DR I w t x [u] := by
 rw [asDen_some h] at hv; exact hv

theorem VR.asList {t : Ty} {v : AV} {xs : List t.Den} {u : Value} (hv : VR I σ w v u) (h : asList t v = some xs) : DR I w (.slice t) xs [u] := by
 unfold Go.Q.asList at h
 split at h
 ·cases h; obtain rfl := hv; exact ⟨none, 0, rfl, Nat.le_refl _, fun i hi => absurd hi (by simp)⟩
 ·cases h; obtain ⟨A, rfl⟩ := hv; exact ⟨A, 0, rfl, Nat.le_refl _, fun i hi => absurd hi (by simp)⟩
 ·exact VR.asDen hv h

theorem VRs.unflat : ∀ (t : Ty) {vs vs' : List AV} {us : List Value} {x : t.Den}, VRs I σ w vs us → Go.Q.unflat t vs = some (x, vs') → ∃ c1 c2, us = c1 ++ c2 ∧ DR I w t x c1 ∧ VRs I σ w vs' c2
 | .nil, vs, vs', us, x, hv, h => by simp only [Go.Q.unflat, Option.some.injEq, Prod.mk.injEq] at h; obtain ⟨_, rfl⟩ := h; exact ⟨[], us, rfl, rfl, hv⟩
 | .agg l, vs, vs', us, x, hv, h => VRs.unflat l hv h
 | .cons a b, vs, vs', us, x, hv, h => by
  simp only [Go.Q.unflat, Option.bind_eq_some_iff, Option.map_eq_some_iff] at h
  obtain ⟨⟨y, r⟩, h1, ⟨z, r'⟩, h2, h3⟩ := h
  simp only [Prod.mk.injEq] at h3
  obtain ⟨rfl, rfl⟩ := h3
  obtain ⟨c1, c2, rfl, k1, k2⟩ := VRs.unflat a hv h1
  obtain ⟨c3, c4, rfl, k3, k4⟩ := VRs.unflat b k2 h2
  exact ⟨c1 ++ c3, c4, by simp, ⟨c1, c3, rfl, k1, k3⟩, k4⟩
 | .int k, [], _, _, _, _, h => by simp [Go.Q.unflat] at h
 | .bool, [], _, _, _, _, h => by simp [Go.Q.unflat] at h
 | .str, [], _, _, _, _, h => by simp [Go.Q.unflat] at h
 | .err, [], _, _, _, _, h => by simp [Go.Q.unflat] at h
 | .slice _, [], _, _, _, _, h => by simp [Go.Q.unflat] at h
 | .ptr _, [], _, _, _, _, h => by simp [Go.Q.unflat] at h
 | .int k, v :: vs, vs', us, x, hv, h => by
  obtain ⟨e, es', rfl, h2, h3⟩ := hv
  simp only [Go.Q.unflat, Option.map_eq_some_iff, Prod.mk.injEq] at h
  obtain ⟨y, k1, rfl, rfl⟩ := h
  exact ⟨[e], es', rfl, VR.asDen h2 k1, h3⟩
 | .bool, v :: vs, vs', us, x, hv, h => by
  obtain ⟨e, es', rfl, h2, h3⟩ := hv
  simp only [Go.Q.unflat, Option.map_eq_some_iff, Prod.mk.injEq] at h
  obtain ⟨y, k1, rfl, rfl⟩ := h
  exact ⟨[e], es', rfl, VR.asDen h2 k1, h3⟩
 | .str, v :: vs, vs', us, x, hv, h => by
  obtain ⟨e, es', rfl, h2, h3⟩ := hv
  simp only [Go.Q.unflat, Option.map_eq_some_iff, Prod.mk.injEq] at h
  obtain ⟨y, k1, rfl, rfl⟩ := h
  exact ⟨[e], es', rfl, VR.asDen h2 k1, h3⟩
 | .err, v :: vs, vs', us, x, hv, h => by
  obtain ⟨e, es', rfl, h2, h3⟩ := hv
  simp only [Go.Q.unflat, Option.map_eq_some_iff, Prod.mk.injEq] at h
  obtain ⟨y, k1, rfl, rfl⟩ := h
  exact ⟨[e], es', rfl, VR.asDen h2 k1, h3⟩
 | .slice t, v :: vs, vs', us, x, hv, h => by
  obtain ⟨e, es', rfl, h2, h3⟩ := hv
  simp only [Go.Q.unflat, Option.map_eq_some_iff, Prod.mk.injEq] at h
  obtain ⟨y, k1, rfl, rfl⟩ := h
  exact ⟨[e], es', rfl, VR.asList h2 k1, h3⟩
 | .ptr t, v :: vs, vs', us, x, hv, h => by
  obtain ⟨e, es', rfl, h2, h3⟩ := hv
  simp only [Go.Q.unflat] at h
  split at h
  ·rename_i us'
   simp only [Option.map_eq_some_iff, Prod.mk.injEq] at h
   obtain ⟨⟨y, r⟩, k1, rfl, rfl⟩ := h
   obtain ⟨b, o, es, rfl, g1, g2, g3⟩ := h2
   obtain ⟨c1, c2, rfl, k2, _⟩ := VRs.unflat t g2 k1
   exact ⟨_, es', rfl, ⟨b, o, rfl, g1, c1, k2, fun j v hj => g3 j v (by
    have := (List.getElem?_eq_some_iff.1 hj).1
    rw [List.getElem?_append_left this]; exact hj)⟩, h3⟩
  ·cases h

theorem isEmpty_nil {α : Type} {l : List α} (h : l.isEmpty = true) : l = [] := by cases l <;> simp_all

theorem DR.noRefs {J J' : Nat → Prop} {w w' : World} : ∀ (t : Ty) (x : t.Den) (cs : List Value), t.refs = false → DR J w t x cs → DR J' w' t x cs
 | .int _, _, _, _, h => h
 | .bool, _, _, _, h => h
 | .str, _, _, _, h => h
 | .err, _, _, _, h => h
 | .nil, _, _, _, h => h
 | .slice _, _, _, k, _ => by simp [Ty.refs] at k
 | .ptr _, _, _, k, _ => by simp [Ty.refs] at k
 | .cons a b, _, _, k, h => by
  simp only [Ty.refs, Bool.or_eq_false_iff] at k
  obtain ⟨c1, c2, e, h1, h2⟩ := h
  exact ⟨c1, c2, e, DR.noRefs a _ _ k.1 h1, DR.noRefs b _ _ k.2 h2⟩
 | .agg l, x, cs, k, h => DR.noRefs l x cs k h

theorem VR.ofConst1 (v : Value) : VR I σ w (Go.Q.ofConst1 v) v := by
 unfold Go.Q.ofConst1
 split
 ·rfl
 ·rfl
 ·rfl
 ·rfl
 ·exact .inl ⟨rfl, rfl⟩
 ·rfl
 ·rfl
 ·rfl
 ·trivial

theorem VRs.ofConst1 : ∀ (cs : List Value), VRs I σ w (cs.map Go.Q.ofConst1) cs
 | [] => rfl
 | c :: cs => ⟨c, cs, rfl, VR.ofConst1 c, VRs.ofConst1 cs⟩

theorem VR.ofConst (v : Value) : VR I σ w (Go.Q.ofConst v) v := by
 unfold Go.Q.ofConst
 split
 ·rename_i cs; exact ⟨cs.toList, by simp, VRs.ofConst1 _⟩
 ·exact VR.ofConst1 _

theorem Rel.eval {B : Base} {st : St} {a : Act} (h : Rel B I σ st a w) (x : Operand) : VR I σ w (Go.Q.eval st x) (a.eval x) := by
 cases x with
 | tmp t => exact h.slots t
 | const v => exact VR.ofConst v
 | global g => trivial
 | func f => exact ⟨[], rfl, rfl⟩

theorem VR.cells {v : AV} {u : Value} (h : VR I σ w v u) (hu : v ≠ .undef) : VRs I σ w v.cells u.cells.toList ∧ ∀ vs, v = .agg vs → ∃ cs, u = .agg cs := by
 have one : ∀ (v : AV), VR I σ w v u → u.cells = #[u] → v.cells = [v] → VRs I σ w v.cells u.cells.toList := fun v h e1 e2 => by rw [e1, e2]; exact ⟨u, [], rfl, h, rfl⟩
 cases v with
 | agg vs => obtain ⟨es, rfl, h2⟩ := h; exact ⟨by simpa [AV.cells, Value.cells] using h2, fun _ _ => ⟨_, rfl⟩⟩
 | undef => exact absurd rfl hu
 | d t x =>
  refine ⟨one _ h ?_ rfl, fun _ e => by cases e⟩
  have : ∀ (t : Ty) (x : t.Den) (cs : List Value), DR I w t x cs → ∀ c ∈ cs, c.cells = #[c] := by
   intro t x cs h c hc
   have := DR.one t x cs h c hc
   cases c <;> first | rfl | cases this
  exact this t x _ h u (by simp)
 | skip => obtain rfl := h; exact ⟨one _ rfl rfl rfl, fun _ e => by cases e⟩
 | nilS => obtain rfl := h; exact ⟨one _ rfl rfl rfl, fun _ e => by cases e⟩
 | empS => obtain ⟨A, rfl⟩ := h; exact ⟨one .empS ⟨A, rfl⟩ rfl rfl, fun _ e => by cases e⟩
 | nilF => obtain rfl := h; exact ⟨one _ rfl rfl rfl, fun _ e => by cases e⟩
 | nilP => obtain rfl := h; exact ⟨one _ rfl rfl rfl, fun _ e => by cases e⟩
 | nilM => obtain rfl := h; exact ⟨one _ rfl rfl rfl, fun _ e => by cases e⟩
 | os p => have h' := h; obtain ⟨H, A, n, cap, h1, h2, rfl⟩ := h; exact ⟨one (.os p) h' rfl rfl, fun _ e => by cases e⟩
 | sub p a n => have h' := h; obtain ⟨H, A, len, cap, h1, h2, h3, A', rfl, h4⟩ := h; exact ⟨one (.sub p a n) h' rfl rfl, fun _ e => by cases e⟩
 | el p i off => have h' := h; obtain ⟨H, b, o, len, cap, h1, h2, h3, rfl⟩ := h; exact ⟨one (.el p i off) h' rfl rfl, fun _ e => by cases e⟩
 | op id off => have h' := h; obtain ⟨ow, b, h1, h2, rfl⟩ := h; exact ⟨one (.op id off) h' rfl rfl, fun _ e => by cases e⟩
 | mp id => have h' := h; obtain ⟨ow, b, h1, h2, rfl⟩ := h; exact ⟨one (.mp id) h' rfl rfl, fun _ e => by cases e⟩
 | rp vs => have h' := h; obtain ⟨b, o, es, rfl, h2⟩ := h; exact ⟨one (.rp vs) h' rfl rfl, fun _ e => by cases e⟩
 | tuple vs => have h' := h; obtain ⟨es, rfl, h2⟩ := h; exact ⟨one (.tuple vs) h' rfl rfl, fun _ e => by cases e⟩
 | fn f vs => have h' := h; obtain ⟨es, rfl, h2⟩ := h; exact ⟨one (.fn f vs) h' rfl rfl, fun _ e => by cases e⟩

theorem VR.isOne {v : AV} {u : Value} (h : VR I σ w v u) (h1 : v.isOne = true) : u.oneCell' = true := by
 cases v with
 | undef => cases h1
 | skip => cases h1
 | agg vs => cases h1
 | tuple vs => cases h1
 | d t x => exact DR.one t x _ h u (by simp)
 | nilS => obtain rfl := h; rfl
 | empS => obtain ⟨A, rfl⟩ := h; rfl
 | nilF => obtain rfl := h; rfl
 | nilP => obtain rfl := h; rfl
 | nilM => obtain rfl := h; rfl
 | os p => obtain ⟨H, A, n, cap, h1, h2, rfl⟩ := h; rfl
 | sub p a n => obtain ⟨H, A, len, cap, h1, h2, h3, A', rfl, h4⟩ := h; rfl
 | el p i off => obtain ⟨H, b, o, len, cap, h1, h2, h3, rfl⟩ := h; rfl
 | op id off => obtain ⟨ow, b, h1, h2, rfl⟩ := h; rfl
 | mp id => obtain ⟨ow, b, h1, h2, rfl⟩ := h; rfl
 | rp vs => obtain ⟨b, o, es, rfl, _⟩ := h; rfl
 | fn f vs => obtain ⟨es, rfl, _⟩ := h; rfl

theorem VRs.isOne : ∀ {vs : List AV} {us : List Value}, VRs I σ w vs us → vs.all AV.isOne = true → ∀ u ∈ us, u.oneCell' = true
 | [], _, h, _, u, hu => by rw [h] at hu; simp at hu
 | v :: vs, _, h, h1, u, hu => by
  obtain ⟨e, es', rfl, h2, h3⟩ := h
  simp only [List.all_cons, Bool.and_eq_true] at h1
  rcases List.mem_cons.1 hu with rfl | hu
  ·exact VR.isOne h2 h1.1
  ·exact VRs.isOne h3 h1.2 u hu
end

section
variable {sz : Nat} {cs ds : List Value} {n : Nat}
theorem mul_lt_succ {i n sz : Nat} (h : i < n) : i * sz + sz ≤ n * sz := by
 have := Nat.mul_le_mul_right sz (show i + 1 ≤ n from h); rw [Nat.add_mul] at this; omega
theorem chunk_length (hl : cs.length = n * sz) {i : Nat} (hi : i < n) : (chunk sz cs i).length = sz := by
 have := mul_lt_succ (sz := sz) hi
 simp only [chunk, List.length_take, List.length_drop]; omega
theorem chunk_left (hl : cs.length = n * sz) {i : Nat} (hi : i < n) : chunk sz (cs ++ ds) i = chunk sz cs i := by
 have := mul_lt_succ (sz := sz) hi
 simp only [chunk]
 rw [List.drop_append_of_le_length (by omega), List.take_append_of_le_length (by rw [List.length_drop]; omega)]
theorem chunk_right (hl : cs.length = n * sz) (i : Nat) : chunk sz (cs ++ ds) (n + i) = chunk sz ds i := by
 simp only [chunk]
 rw [show (n + i) * sz = cs.length + i * sz from by rw [hl, Nat.add_mul], ← List.drop_drop, List.drop_left]
theorem chunk_part {p m : Nat} {i : Nat} (hi : i < m) : chunk sz ((cs.drop (p * sz)).take (m * sz)) i = chunk sz cs (p + i) := by
 have := mul_lt_succ (sz := sz) hi
 simp only [chunk]
 rw [List.drop_take, List.take_take, List.drop_drop, Nat.min_eq_left (by omega), Nat.add_mul]
theorem chunk_one (hl : cs.length = sz) : chunk sz cs 0 = cs := by
 simp only [chunk, Nat.zero_mul, List.drop_zero]; rw [List.take_of_length_le (by omega)]
theorem splice_same {i off : Nat} {us : List Value} (hl : cs.length = n * sz) (hi : i < n) (ho : off + us.length ≤ sz) :
  chunk sz (cs.take (i * sz + off) ++ us ++ cs.drop (i * sz + off + us.length)) i = (chunk sz cs i).take off ++ us ++ (chunk sz cs i).drop (off + us.length) := by
 have h1 := mul_lt_succ (sz := sz) hi
 apply List.ext_getElem?
 intro k
 simp only [chunk, List.getElem?_take, List.getElem?_drop, List.getElem?_append, List.length_append, List.length_take, List.length_drop]
 by_cases hk : k < sz
 ·rw [if_pos hk]
  by_cases a1 : k < off
  ·rw [if_pos (by omega), if_pos (by omega), if_pos (by omega), if_pos (by omega), if_pos (by omega), if_pos (by omega)]; rw [if_pos (by omega)]
  ·by_cases a2 : k < off + us.length
   ·rw [if_pos (by omega), if_neg (by omega), if_pos (by omega), if_neg (by omega)]
    congr 1; omega
   ·rw [if_neg (by omega), if_neg (by omega), if_pos (by omega)]
    congr 1; omega
 ·rw [if_neg hk]
  rw [if_neg (by omega), if_neg (by omega)]
theorem splice_other {i j off : Nat} {us : List Value} (hl : cs.length = n * sz) (hi : i < n) (hj : j < n) (hij : j ≠ i) (ho : off + us.length ≤ sz) :
  chunk sz (cs.take (i * sz + off) ++ us ++ cs.drop (i * sz + off + us.length)) j = chunk sz cs j := by
 have h1 := mul_lt_succ (sz := sz) hi
 have h2 := mul_lt_succ (sz := sz) hj
 have hsep : j * sz + sz ≤ i * sz ∨ i * sz + sz ≤ j * sz := by
  rcases Nat.lt_or_ge j i with h | h
  ·left; exact mul_lt_succ h
  ·right; exact mul_lt_succ (show i < j by omega)
 apply List.ext_getElem?
 intro k
 simp only [chunk, List.getElem?_take, List.getElem?_drop, List.getElem?_append, List.length_append, List.length_take]
 by_cases hk : k < sz
 ·rw [if_pos hk, if_pos hk]
  rcases hsep with h | h
  ·rw [if_pos (by omega), if_pos (by omega), if_pos (by omega)]
  ·rw [if_neg (by omega)]
   congr 1; omega
 ·rw [if_neg hk, if_neg hk]
theorem splice_length {o : Nat} {us : List Value} (h : o + us.length ≤ cs.length) : (cs.take o ++ us ++ cs.drop (o + us.length)).length = cs.length := by
 simp only [List.length_append, List.length_take, List.length_drop]; omega
end

section
variable {w w' : World} {v : Value} {n sz : Nat} {cs : List Value}

theorem cells_seg {b o e n : Nat} {fz : Nat × Nat} {cells : Array Value} (h : w.heap[b]? = some (.cells cells e fz)) : CellsAt w ⟨b, o, none⟩ ((cells.toList.drop o).take n) := by
 intro j v hj
 rw [List.getElem?_take] at hj
 split at hj
 ·rw [List.getElem?_drop] at hj
  simp only [World.cell?, h]
  simpa using hj
 ·cases hj

theorem CellsAt.drop {b o : Nat} {es : List Value} (h : CellsAt w ⟨b, o, none⟩ es) (n : Nat) : CellsAt w ⟨b, o + n, none⟩ (es.drop n) := by
 intro j v hj
 rw [List.getElem?_drop] at hj
 have := h _ v hj
 simpa [Nat.add_assoc] using this
theorem CellsAt.take {b o : Nat} {es : List Value} (h : CellsAt w ⟨b, o, none⟩ es) (n : Nat) : CellsAt w ⟨b, o, none⟩ (es.take n) := by
 intro j v hj
 rw [List.getElem?_take] at hj
 split at hj
 ·exact h j v hj
 ·cases hj

theorem Arr.slice (h : Arr w v n sz cs) : ∃ A cap, v = .slice A n cap ∧ n ≤ cap := by
 rcases h.2 with ⟨A, rfl, rfl⟩ | ⟨b, o, cap, cells, e, rfl, _, _, h, _⟩
 ·exact ⟨A, 0, rfl, Nat.le_refl _⟩
 ·exact ⟨_, cap, rfl, h.1⟩

theorem Arr.at (h : Arr w v n sz cs) (hn : 0 < n) : ∃ b o cap cells e, v = .slice (some ⟨b, o, none⟩) n cap ∧ blockOf v = some b ∧ w.heap[b]? = some (.cells cells e (0, 0)) ∧ o + cap * sz ≤ cells.size ∧ (n ≤ cap ∧ cap ≤ 9223372036854775807) ∧ (cells.toList.drop o).take (n * sz) = cs := by
 rcases h.2 with ⟨A, rfl, rfl⟩ | ⟨b, o, cap, cells, e, rfl, h2, h3, h4, h5⟩
 ·omega
 ·exact ⟨b, o, cap, cells, e, rfl, by simp [blockOf, show cap ≠ 0 by omega], h2, h3, h4, h5⟩

theorem Arr.read (h : Arr w v n sz cs) {i : Nat} (hi : i < n) : ∃ b o cap, v = .slice (some ⟨b, o, none⟩) n cap ∧ blockOf v = some b ∧ CellsAt w ⟨b, o + i * sz, none⟩ (chunk sz cs i) := by
 obtain ⟨b, o, cap, cells, e, h1, h2, h3, h4, h5, h6⟩ := h.at (by omega)
 refine ⟨b, o, cap, h1, h2, ?_⟩
 have := (cells_seg (o := o) (n := n * sz) h3)
 rw [h6] at this
 exact (this.drop (i * sz)).take sz

def Src (w : World) (v : Value) (n sz : Nat) (cs : List Value) : Prop :=
 ∃ A c, v = .slice A n c ∧ n ≤ c ∧ cs.length = n * sz ∧ (n = 0 ∨ ∃ b o, A = some ⟨b, o, none⟩ ∧ CellsAt w ⟨b, o, none⟩ cs)

theorem Arr.src (h : Arr w v n sz cs) : Src w v n sz cs := by
 obtain ⟨A, cap, h1, h2⟩ := h.slice
 refine ⟨A, cap, h1, h2, h.1, ?_⟩
 by_cases hn : n = 0
 ·exact .inl hn
 ·obtain ⟨b, o, cap', cells, e, k1, _, k2, k3, k4, k5⟩ := h.at (by omega)
  rw [h1] at k1; cases k1
  refine .inr ⟨b, o, rfl, ?_⟩
  rw [← k5]; exact cells_seg k2

theorem Src.of_heap (h : Src w v n sz cs) (hw : w'.heap = w.heap) : Src w' v n sz cs := by
 obtain ⟨A, c, h1, h2, h3, h4⟩ := h
 refine ⟨A, c, h1, h2, h3, h4.imp_right fun ⟨b, o, k1, k2⟩ => ⟨b, o, k1, k2.of_heap (by rw [hw])⟩⟩

theorem add_none (b o n : Nat) : (⟨b, o, none⟩ : Addr).add n = ⟨b, o + n, none⟩ := by
 unfold Addr.add; split
 ·rename_i h; subst h; rfl
 ·rfl

theorem Src.run {P : Program} (h : Src w v n sz cs) : (Builtin.firstCells sz n v).run P w = .ok cs.toArray w := by
 obtain ⟨A, c, rfl, _, h3, h4⟩ := h
 rcases h4 with rfl | ⟨b, o, rfl, h4⟩
 ·have : cs = [] := List.eq_nil_of_length_eq_zero (by simpa using h3)
  subst this
  cases A with
  | none => simp [Builtin.firstCells]
  | some ad => simp [Builtin.firstCells, loadCells, loadCellsFrom]
 ·exact run_firstCells_some w sz n ⟨b, o, none⟩ _ _ cs h3 (fun j v hj => by rw [add_none]; exact h4 j v hj)

theorem Src.runTake {P : Program} (h : Src w v n sz cs) {m : Nat} (hm : m ≤ n) : (Builtin.firstCells sz m v).run P w = .ok (cs.take (m * sz)).toArray w := by
 obtain ⟨A, c, rfl, _, h3, h4⟩ := h
 have hle : m * sz ≤ n * sz := Nat.mul_le_mul_right _ hm
 by_cases hm0 : m = 0
 ·subst hm0
  simp only [Nat.zero_mul, List.take_zero]
  cases A with
  | none => simp [Builtin.firstCells]
  | some ad => simp [Builtin.firstCells, loadCells, loadCellsFrom]
 ·rcases h4 with rfl | ⟨b, o, rfl, h4⟩
  ·omega
  ·exact run_firstCells_some w sz m ⟨b, o, none⟩ _ _ (cs.take (m * sz)) (by rw [List.length_take]; omega) (fun j v hj => by
    rw [add_none]; exact h4.take (m * sz) j v hj)

theorem Arr.part (h : Arr w v n sz cs) {A : Option Addr} {cap p m : Nat} (hv : v = .slice A n cap) (hp : p + m ≤ n) {A' : Option Addr}
  (h1 : ∀ b o, A = some ⟨b, o, none⟩ → p < cap → A' = some ⟨b, o + p * sz, none⟩) : Arr w (.slice A' m (cap - p)) m sz ((cs.drop (p * sz)).take (m * sz)) := by
 have hpm : p * sz + m * sz ≤ n * sz := by rw [← Nat.add_mul]; exact Nat.mul_le_mul_right _ hp
 refine ⟨by simp only [List.length_take, List.length_drop, h.1]; omega, ?_⟩
 rcases h.2 with ⟨A1, e1, rfl⟩ | ⟨b, o, cap', cells, e, e1, h3, h4, h5, h6⟩
 ·rw [e1] at hv; cases hv
  obtain rfl : m = 0 := by omega
  obtain rfl : p = 0 := by omega
  exact .inl ⟨_, rfl, rfl⟩
 ·rw [e1] at hv; cases hv
  by_cases hpc : p < cap
  ·have := h1 b o rfl hpc
   subst this
   have hpc' : p * sz + (cap - p) * sz = cap * sz := by rw [← Nat.add_mul]; congr 1; omega
   refine .inr ⟨b, o + p * sz, cap - p, cells, e, rfl, h3, by omega, by omega, ?_⟩
   rw [← h6, List.drop_take, List.drop_drop, List.take_take, Nat.min_eq_left (by omega)]
  ·obtain rfl : m = 0 := by omega
   rw [show cap - p = 0 from by omega]
   exact .inl ⟨_, rfl, rfl⟩

theorem moved_setRow (w : World) (b : Nat) (cs : Array Value) : Moved (fun k => k = b) w (w.setRow b cs) :=
 ⟨rfl, rfl, rfl, by simp, fun k _ hk => setRow_other w b k cs hk⟩
theorem moved_alloc (w : World) (o : Go.Obj) : Moved (fun _ => False) w (w.alloc o) :=
 ⟨rfl, rfl, rfl, by simp, fun b hb _ => heap_alloc_old w o hb⟩
theorem alloc_new (w : World) (o : Go.Obj) : (w.alloc o).heap[w.heap.size]? = some o := heap_alloc_new w o
theorem moved_grown (w : World) (o : Go.Obj) : Moved (fun _ => False) w (w.drew.alloc o) :=
 (Moved.drew _ w).trans (moved_alloc w.drew o)

theorem Arr.put (h : Arr w v n sz cs) (hn : 0 < n) {o : Nat} {us : List Value} (ho : o + us.length ≤ n * sz) (h1 : ∀ u ∈ us, u.oneCell' = true) (P : Program) :
  ∃ b ob cap w', v = .slice (some ⟨b, ob, none⟩) n cap ∧ blockOf v = some b ∧ (storeCells ⟨b, ob + o, none⟩ us 0).run P w = .ok () w' ∧ Moved (fun k => k = b) w w' ∧ Arr w' v n sz (cs.take o ++ us ++ cs.drop (o + us.length)) := by
 obtain ⟨b, ob, cap, cells, e, rfl, h2, h3, h4, h5, h6⟩ := h.at hn
 have hcap : n * sz ≤ cap * sz := Nat.mul_le_mul_right _ h5.1
 have hrun := run_storeCells_at P b (ob + o) e us 0 cells w h3 (by omega) h1
 simp only [Nat.add_zero] at hrun
 refine ⟨b, ob, cap, _, rfl, h2, hrun, moved_setRow w b _, ?_, .inr ⟨b, ob, cap, _, e, rfl, setRow_heap w b _ _ _ _ h3, ?_, h5, ?_⟩⟩
 ·rw [splice_length (by rw [h.1]; exact ho)]; exact h.1
 ·simp only [List.size_toArray, List.length_append, List.length_take, List.length_drop, Array.length_toList]; omega
 ·rw [← h6]
  apply List.ext_getElem?
  intro k
  simp only [List.getElem?_take, List.getElem?_drop, List.getElem?_append, List.length_append, List.length_take, List.length_drop, Array.length_toList]
  by_cases hk : k < n * sz
  ·rw [if_pos hk]
   by_cases a1 : k < o
   ·rw [if_pos (by omega), if_pos (by omega), if_pos (by omega), if_pos (by omega), if_pos (by omega)]; rw [if_pos (by omega), if_pos hk]
   ·by_cases a2 : k < o + us.length
    ·rw [if_pos (by omega), if_neg (by omega), if_pos (by omega), if_neg (by omega)]
     congr 1; omega
    ·rw [if_neg (by omega), if_neg (by omega), if_pos (by omega)]
     congr 1; omega
  ·rw [if_neg hk, if_neg (by omega), if_neg (by omega)]
end

end Go.Q
