/- An abstract interpreter of the translated code: where arrays lie. -/
import Derived.Test.YtbapbghnageckaaGreatGQArr
namespace Go.Q
set_option linter.unusedVariables false
set_option linter.unusedSimpArgs false
set_option linter.unusedSectionVars false
open Go

section
variable {I J : Nat → Prop} {σ : Nat → Option Own} {w : World}

theorem flat_length : ∀ (t : Ty) (x : t.Den), (flat t x).length = t.size
 | .int _, _ => rfl
 | .bool, _ => rfl
 | .str, _ => rfl
 | .err, _ => rfl
 | .slice _, _ => rfl
 | .ptr _, _ => rfl
 | .nil, _ => rfl
 | .cons a b, x => by simp [flat, Ty.size, flat_length a, flat_length b]
 | .agg l, x => flat_length l x

def slSz : Ty → Nat → Option Nat
 | .slice t, k => if k = 0 then some t.size else none
 | .cons a b, k => if k < a.size then slSz a k else slSz b (k - a.size)
 | .agg l, k => slSz l k
 | _, _ => none
def innOf (t : Ty) (cs : List Value) (k : Nat) : Option Hdr := (slSz t k).bind fun z => (cs[k]?).map fun v => ⟨v, z⟩

def EX (I : Nat → Prop) (w : World) : (t : Ty) → t.Den → List Value → Prop
 | .slice t, xs, cs => ∃ v, cs = [v] ∧ PlainArr I w t xs v
 | .cons a b, x, cs => ∃ c1 c2, cs = c1 ++ c2 ∧ EX I w a x.1 c1 ∧ EX I w b x.2 c2
 | .agg l, x, cs => EX I w l x cs
 | .int k, x, cs => DR I w (.int k) x cs
 | .bool, x, cs => DR I w .bool x cs
 | .str, x, cs => DR I w .str x cs
 | .err, x, cs => DR I w .err x cs
 | .ptr t, x, cs => DR I w (.ptr t) x cs
 | .nil, x, cs => DR I w .nil x cs

theorem EX.length : ∀ (t : Ty) (x : t.Den) (cs : List Value), EX I w t x cs → cs.length = t.size
 | .slice t, _, _, h => by obtain ⟨v, rfl, _⟩ := h; rfl
 | .cons a b, x, _, h => by obtain ⟨c1, c2, rfl, h1, h2⟩ := h; simp [Ty.size, EX.length a _ _ h1, EX.length b _ _ h2]
 | .agg l, x, cs, h => EX.length l x cs h
 | .int k, x, cs, h => DR.length (.int k) x cs h
 | .bool, x, cs, h => DR.length .bool x cs h
 | .str, x, cs, h => DR.length .str x cs h
 | .err, x, cs, h => DR.length .err x cs h
 | .ptr t, x, cs, h => DR.length (.ptr t) x cs h
 | .nil, x, cs, h => DR.length .nil x cs h

theorem ER.ex {inn : Nat → Option Hdr} : ∀ (t : Ty) (off : Nat) (x : t.Den) (cs : List Value), ER I w inn t off x cs → EX I w t x cs ∧ ∀ k H, innOf t cs k = some H → inn (off + k) = some H
 | .slice t, off, xs, cs, h => by
  obtain ⟨v, rfl, h2, h3⟩ := h
  refine ⟨⟨v, rfl, h3⟩, fun k H hk => ?_⟩
  simp only [innOf, slSz] at hk
  split at hk
  ·rename_i e; subst e; simp at hk; subst hk; exact h2
  ·simp at hk
 | .cons a b, off, x, cs, h => by
  obtain ⟨c1, c2, rfl, h1, h2⟩ := h
  obtain ⟨k1, k2⟩ := ER.ex a _ _ _ h1
  obtain ⟨k3, k4⟩ := ER.ex b _ _ _ h2
  refine ⟨⟨c1, c2, rfl, k1, k3⟩, fun k H hk => ?_⟩
  have hl := EX.length a _ _ k1
  simp only [innOf, slSz] at hk
  split at hk
  ·rename_i hlt
   refine k2 k H ?_
   rw [List.getElem?_append_left (by omega)] at hk
   exact hk
  ·rename_i hge
   rw [List.getElem?_append_right (by omega), hl] at hk
   have := k4 (k - a.size) H hk
   rwa [show off + a.size + (k - a.size) = off + k from by omega] at this
 | .agg l, off, x, cs, h => ER.ex l off x cs h
 | .int k, _, x, cs, h => ⟨h, fun k H hk => by simp [innOf, slSz] at hk⟩
 | .bool, _, x, cs, h => ⟨h, fun k H hk => by simp [innOf, slSz] at hk⟩
 | .str, _, x, cs, h => ⟨h, fun k H hk => by simp [innOf, slSz] at hk⟩
 | .err, _, x, cs, h => ⟨h, fun k H hk => by simp [innOf, slSz] at hk⟩
 | .ptr t, _, x, cs, h => ⟨h, fun k H hk => by simp [innOf, slSz] at hk⟩
 | .nil, _, x, cs, h => ⟨h, fun k H hk => by simp [innOf, slSz] at hk⟩

theorem EX.er {inn : Nat → Option Hdr} : ∀ (t : Ty) (off : Nat) (x : t.Den) (cs : List Value), (∀ k H, innOf t cs k = some H → inn (off + k) = some H) → EX I w t x cs → ER I w inn t off x cs
 | .slice t, off, xs, cs, hi, h => by
  obtain ⟨v, rfl, h3⟩ := h
  exact ⟨v, rfl, hi 0 ⟨v, t.size⟩ (by simp [innOf, slSz]), h3⟩
 | .cons a b, off, x, cs, hi, h => by
  obtain ⟨c1, c2, rfl, h1, h2⟩ := h
  have hl := EX.length a _ _ h1
  refine ⟨c1, c2, rfl, EX.er a off _ _ (fun k H hk => hi k H ?_) h1, EX.er b _ _ _ (fun k H hk => ?_) h2⟩
  ·have hlt : k < a.size := by
    simp only [innOf, Option.bind_eq_some_iff, Option.map_eq_some_iff] at hk
    obtain ⟨z, _, v, hv, _⟩ := hk
    have := (List.getElem?_eq_some_iff.1 hv).1
    omega
   simp only [innOf, slSz, if_pos hlt]
   rw [List.getElem?_append_left (by omega)]; exact hk
  ·have := hi (a.size + k) H (by
    simp only [innOf, slSz, if_neg (show ¬ a.size + k < a.size by omega)]
    rw [List.getElem?_append_right (by omega), hl, Nat.add_sub_cancel_left]; exact hk)
   rwa [← Nat.add_assoc] at this
 | .agg l, off, x, cs, hi, h => EX.er l off x cs hi h
 | .int k, _, x, cs, _, h => h
 | .bool, _, x, cs, _, h => h
 | .str, _, x, cs, _, h => h
 | .err, _, x, cs, _, h => h
 | .ptr t, _, x, cs, _, h => h
 | .nil, _, x, cs, _, h => h

theorem Arr.one {v : Value} {n sz : Nat} {cs : List Value} (h : Arr w v n sz cs) : v.oneCell' = true := by
 obtain ⟨A, cap, rfl, _⟩ := h.slice; rfl

theorem EX.one : ∀ (t : Ty) (x : t.Den) (cs : List Value), EX I w t x cs → ∀ c ∈ cs, c.oneCell' = true
 | .slice t, _, _, h, c, hc => by obtain ⟨v, rfl, cs', h, _⟩ := h; simp at hc; subst hc; exact h.one
 | .cons a b, x, _, h, c, hc => by
  obtain ⟨c1, c2, rfl, h1, h2⟩ := h
  rcases List.mem_append.1 hc with hc | hc
  ·exact EX.one a _ _ h1 c hc
  ·exact EX.one b _ _ h2 c hc
 | .agg l, x, cs, h, c, hc => EX.one l x cs h c hc
 | .int k, x, cs, h, c, hc => DR.one (.int k) x cs h c hc
 | .bool, x, cs, h, c, hc => DR.one .bool x cs h c hc
 | .str, x, cs, h, c, hc => DR.one .str x cs h c hc
 | .err, x, cs, h, c, hc => DR.one .err x cs h c hc
 | .ptr t, x, cs, h, c, hc => DR.one (.ptr t) x cs h c hc
 | .nil, x, cs, h, c, hc => DR.one .nil x cs h c hc

theorem Arr.toDR {v : Value} {t : Ty} {xs : List t.Den} {cs : List Value} (h : Arr w v xs.length t.size cs) (hr : ∀ (i : Nat) (h : i < xs.length), DR J w t (xs.get ⟨i, h⟩) (chunk t.size cs i)) (hJ : ∀ b, blockOf v = some b → J b) : DR J w (.slice t) xs [v] := by
 obtain ⟨A, cap, rfl, hc⟩ := h.slice
 refine ⟨A, cap, rfl, hc, fun i hi => ?_⟩
 obtain ⟨b, o, cap', e, hb, hcell⟩ := h.read hi
 cases e
 exact ⟨b, o, rfl, hJ b hb, _, hr i hi, hcell⟩

theorem PlainArr.toDR {v : Value} {t : Ty} {xs : List t.Den} (h : PlainArr I w t xs v) (hI : ∀ b, I b → J b) (hJ : ∀ b, blockOf v = some b → J b) : DR J w (.slice t) xs [v] := by
 obtain ⟨cs, h1, h2⟩ := h
 exact h1.toDR (fun i hi => DR.mono hI (fun _ _ => rfl) t _ _ (h2 i hi)) hJ

theorem EX.toDR (hI : ∀ b, I b → J b) : ∀ (t : Ty) (x : t.Den) (cs : List Value), (∀ k H b, innOf t cs k = some H → blockOf H.v = some b → J b) → EX I w t x cs → DR J w t x cs
 | .slice t, xs, cs, hi, h => by
  obtain ⟨v, rfl, h3⟩ := h
  exact h3.toDR hI (fun b hb => hi 0 ⟨v, t.size⟩ b (by simp [innOf, slSz]) hb)
 | .cons a b, x, cs, hi, h => by
  obtain ⟨c1, c2, rfl, h1, h2⟩ := h
  have hl := EX.length a _ _ h1
  refine ⟨c1, c2, rfl, EX.toDR hI a _ _ (fun k H b' hk hb => hi k H b' ?_ hb) h1, EX.toDR hI b _ _ (fun k H b' hk hb => hi (a.size + k) H b' ?_ hb) h2⟩
  ·have hlt : k < a.size := by
    simp only [innOf, Option.bind_eq_some_iff, Option.map_eq_some_iff] at hk
    obtain ⟨z, _, v, hv, _⟩ := hk
    have := (List.getElem?_eq_some_iff.1 hv).1
    omega
   simp only [innOf, slSz, if_pos hlt]
   rw [List.getElem?_append_left (by omega)]; exact hk
  ·simp only [innOf, slSz, if_neg (show ¬ a.size + k < a.size by omega)]
   rw [List.getElem?_append_right (by omega), hl, Nat.add_sub_cancel_left]; exact hk
 | .agg l, x, cs, hi, h => EX.toDR hI l x cs hi h
 | .int k, x, cs, _, h => DR.mono hI (fun _ _ => rfl) (.int k) x cs h
 | .bool, x, cs, _, h => DR.mono hI (fun _ _ => rfl) .bool x cs h
 | .str, x, cs, _, h => DR.mono hI (fun _ _ => rfl) .str x cs h
 | .err, x, cs, _, h => DR.mono hI (fun _ _ => rfl) .err x cs h
 | .ptr t, x, cs, _, h => DR.mono hI (fun _ _ => rfl) (.ptr t) x cs h
 | .nil, x, cs, _, h => DR.mono hI (fun _ _ => rfl) .nil x cs h

theorem slSz_refs : ∀ (t : Ty) (k : Nat), t.refs = false → slSz t k = none
 | .slice _, _, h => by simp [Ty.refs] at h
 | .ptr _, _, h => by simp [Ty.refs] at h
 | .cons a b, k, h => by
  simp only [Ty.refs, Bool.or_eq_false_iff] at h
  simp only [slSz, slSz_refs a k h.1, slSz_refs b (k - a.size) h.2, ite_self]
 | .agg l, k, h => slSz_refs l k h
 | .int _, _, _ => rfl
 | .bool, _, _ => rfl
 | .str, _, _ => rfl
 | .err, _, _ => rfl
 | .nil, _, _ => rfl

theorem EX.noRefs {t : Ty} {x : t.Den} {cs : List Value} (ht : t.refs = false) (h : EX I w t x cs) : DR J w t x cs :=
 DR.noRefs (J := fun _ => True) t x cs ht (EX.toDR (fun _ _ => trivial) t x cs (fun _ _ _ _ _ => trivial) h)

theorem EX.at : ∀ (t : Ty) (x : t.Den) (cs : List Value), EX I w t x cs → ∀ (k : Nat) (t' : Ty) (ys : List t'.Den), (flat t x)[k]? = some (.d (.slice t') ys) → ∃ v, cs[k]? = some v ∧ slSz t k = some t'.size ∧ PlainArr I w t' ys v
 | .slice t, xs, cs, h, k, t', ys, hk => by
  obtain ⟨v, rfl, h3⟩ := h
  simp only [flat] at hk
  cases k with
  | zero => simp at hk; obtain ⟨rfl, hk⟩ := hk; simp at hk; subst hk; exact ⟨v, rfl, rfl, h3⟩
  | succ k => simp at hk
 | .cons a b, x, cs, h, k, t', ys, hk => by
  obtain ⟨c1, c2, rfl, h1, h2⟩ := h
  have hl := EX.length a _ _ h1
  simp only [flat] at hk
  by_cases hlt : k < a.size
  ·rw [List.getElem?_append_left (by rw [flat_length]; exact hlt)] at hk
   obtain ⟨v, k1, k2, k3⟩ := EX.at a _ _ h1 k t' ys hk
   exact ⟨v, by rw [List.getElem?_append_left (by omega)]; exact k1, by simp only [slSz, if_pos hlt]; exact k2, k3⟩
  ·rw [List.getElem?_append_right (by rw [flat_length]; omega), flat_length] at hk
   obtain ⟨v, k1, k2, k3⟩ := EX.at b _ _ h2 _ t' ys hk
   exact ⟨v, by rw [List.getElem?_append_right (by omega), hl]; exact k1, by simp only [slSz, if_neg hlt]; exact k2, k3⟩
 | .agg l, x, cs, h, k, t', ys, hk => EX.at l x cs h k t' ys hk
 | .int _, _, _, _, k, _, _, hk => by simp only [flat] at hk; cases k <;> simp at hk
 | .bool, _, _, _, k, _, _, hk => by simp only [flat] at hk; cases k <;> simp at hk
 | .str, _, _, _, k, _, _, hk => by simp only [flat] at hk; cases k <;> simp at hk
 | .err, _, _, _, k, _, _, hk => by simp only [flat] at hk; cases k <;> simp at hk
 | .ptr _, _, _, _, k, _, _, hk => by simp only [flat] at hk; cases k <;> simp at hk
 | .nil, _, _, _, k, _, _, hk => by simp [flat] at hk

theorem deepCells_append (id i : Nat) : ∀ (k : Nat) (as bs : List AV), deepCells id i k (as ++ bs) = deepCells id i k as ++ deepCells id i (k + as.length) bs
 | k, [], bs => by simp [deepCells]
 | k, a :: as, bs => by
  have e : k + (a :: as).length = k + 1 + as.length := by simp; omega
  rw [e]
  cases a with
  | d t x => cases t <;> simp [deepCells, deepCells_append id i (k + 1) as bs]
  | _ => simp [deepCells, deepCells_append id i (k + 1) as bs]

theorem EX.values {ow : Own} {id i : Nat} (hs : σ id = some ow) : ∀ (t : Ty) (off : Nat) (x : t.Den) (cs : List Value), (∀ k H, innOf t cs k = some H → ow.inn i (off + k) = some H) → EX I w t x cs → VRs I σ w (deepCells id i off (flat t x)) cs
 | .slice t, off, xs, cs, hi, h => by
  obtain ⟨v, rfl, cs', h3, _⟩ := h
  have := hi 0 ⟨v, t.size⟩ (by simp [innOf, slSz])
  simp only [Nat.add_zero] at this
  obtain ⟨A, cap, hv, _⟩ := h3.slice
  exact ⟨v, [], rfl, ⟨⟨v, t.size⟩, A, _, cap, by simp only [hdrOf, hs, Option.bind_some]; exact this, hv, hv⟩, rfl⟩
 | .cons a b, off, x, cs, hi, h => by
  obtain ⟨c1, c2, rfl, h1, h2⟩ := h
  have hl := EX.length a _ _ h1
  simp only [flat]
  rw [deepCells_append, flat_length]
  refine VRs.append (EX.values hs a off _ _ (fun k H hk => hi k H ?_) h1) (EX.values hs b _ _ _ (fun k H hk => ?_) h2)
  ·have hlt : k < a.size := by
    simp only [innOf, Option.bind_eq_some_iff, Option.map_eq_some_iff] at hk
    obtain ⟨z, _, v, hv, _⟩ := hk
    have := (List.getElem?_eq_some_iff.1 hv).1
    omega
   simp only [innOf, slSz, if_pos hlt]
   rw [List.getElem?_append_left (by omega)]; exact hk
  ·have := hi (a.size + k) H (by
    simp only [innOf, slSz, if_neg (show ¬ a.size + k < a.size by omega)]
    rw [List.getElem?_append_right (by omega), hl, Nat.add_sub_cancel_left]; exact hk)
   rwa [← Nat.add_assoc] at this
 | .agg l, off, x, cs, hi, h => EX.values hs l off x cs hi h
 | .int k, _, x, cs, _, h => VRs.flat (.int k) x cs h
 | .bool, _, x, cs, _, h => VRs.flat .bool x cs h
 | .str, _, x, cs, _, h => VRs.flat .str x cs h
 | .err, _, x, cs, _, h => VRs.flat .err x cs h
 | .ptr t, _, x, cs, _, h => VRs.flat (.ptr t) x cs h
 | .nil, _, x, cs, _, h => VRs.flat .nil x cs h

theorem EltR.ex {d : Bool} {inn : Nat → Option Hdr} {t : Ty} {x : t.Den} {cs : List Value} (h : EltR I w d inn t x cs) : cs.length = t.size ∧ (∀ c ∈ cs, c.oneCell' = true) ∧ (d = false ∨ t.refs = false → DR I w t x cs) ∧ (d = true → EX I w t x cs ∧ ∀ k H, innOf t cs k = some H → inn k = some H) := by
 unfold EltR at h
 split at h
 ·rename_i hd
  obtain ⟨k1, k2⟩ := ER.ex t 0 x cs h
  refine ⟨EX.length t x cs k1, EX.one t x cs k1, fun hh => ?_, fun _ => ⟨k1, fun k H hk => by simpa using k2 k H hk⟩⟩
  rcases hh with hh | hh
  ·rw [hd] at hh; cases hh
  ·exact k1.noRefs hh
 ·rename_i hd
  exact ⟨DR.length t x cs h, DR.one t x cs h, fun _ => h, fun hd' => absurd hd' hd⟩

theorem EltR.toDR {d : Bool} {inn : Nat → Option Hdr} {t : Ty} {x : t.Den} {cs : List Value} (h : EltR I w d inn t x cs) (hI : ∀ b, I b → J b) (hJ : d = true → ∀ k H b, inn k = some H → blockOf H.v = some b → J b) : DR J w t x cs := by
 obtain ⟨_, _, h1, h2⟩ := h.ex
 by_cases hd : d = true
 ·exact EX.toDR hI t x cs (fun k H b hk hb => hJ hd k H b ((h2 hd).2 k H hk) hb) (h2 hd).1
 ·exact DR.mono hI (fun _ _ => rfl) t x cs (h1 (.inl (by simpa using hd)))
end

def innAt (σ : Nat → Option Own) : Pl → Nat → Nat → Option Hdr
 | .t id, i, off => (σ id).bind fun ow => ow.inn i off
 | .n _ _ _, _, _ => none

structure PlR (I : Nat → Prop) (σ : Nat → Option Own) (w : World) (h : Heap) (p : Pl) (t : Ty) (xs : List t.Den) (H : Hdr) (cs : List Value) : Prop where
 hdr : hdrOf σ p = some H
 sz : H.sz = t.size
 arr : Arr w H.v xs.length t.size cs
 elt : ∀ (i : Nat) (hi : i < xs.length), EltR I w (h.deepAt p) (innAt σ p i) t (xs.get ⟨i, hi⟩) (chunk t.size cs i)
 live : ∀ b, blockOf H.v = some b → ∃ o ow, h.get p.id = some o ∧ o.live = true ∧ σ p.id = some ow ∧ ow.has b
 linn : ∀ i off H' b, innAt σ p i off = some H' → blockOf H'.v = some b → ∃ o ow, h.get p.id = some o ∧ o.live = true ∧ σ p.id = some ow ∧ ow.has b

section
variable {I J : Nat → Prop} {σ : Nat → Option Own} {w : World} {h : Heap} {p : Pl} {t : Ty} {xs : List t.Den} {H : Hdr} {cs : List Value}

theorem HR.place (hr : HR I σ w h) {v : AV} (ha : h.arrAt p = some v) : ∃ (t : Ty) (xs : List t.Den) (H : Hdr) (cs : List Value), v = .d (.slice t) xs ∧ PlR I σ w h p t xs H cs := by
 cases p with
 | t id =>
  simp only [Heap.arrAt] at ha
  split at ha
  ·rename_i m d t xs hg
   cases ha
   obtain ⟨ow, h1, h2, h3, h4, cs, h5, h6⟩ := hr.objs id _ hg
   refine ⟨t, xs, ow.h, cs, rfl, by simp [hdrOf, h1], h2, h5, fun i hi => ?_, fun b hb => ⟨_, ow, hg, rfl, h1, .inl hb⟩, fun i off H' b hi hb => ?_⟩
   ·have := h6 i hi
    simp only [Heap.deepAt, hg]
    have e : innAt σ (.t id) i = ow.inn i := by funext off; simp [innAt, h1]
    rw [e]; exact this
   ·simp only [innAt, h1, Option.bind_some] at hi
    exact ⟨_, ow, hg, rfl, h1, .inr ⟨i, off, H', hi, hb⟩⟩
  ·cases ha
 | n id i off =>
  simp only [Heap.arrAt] at ha
  split at ha
  ·rename_i m t xs hg
   split at ha
   ·rename_i hi
    split at ha
    ·rename_i t' ys hk
     cases ha
     obtain ⟨ow, h1, h2, h3, h4, cs, h5, h6⟩ := hr.objs id _ hg
     have hget : xs.getD i t.zero = xs.get ⟨i, hi⟩ := by simp [List.getD, hi]
     rw [hget] at hk
     obtain ⟨k1, k2⟩ := (h6 i hi).ex.2.2.2 rfl
     obtain ⟨v, m1, m2, cs', m3, m4⟩ := EX.at t _ _ k1 off t' ys hk
     have hin := k2 off ⟨v, t'.size⟩ (by simp only [innOf, m2, Option.bind_some, m1, Option.map_some])
     refine ⟨t', ys, ⟨v, t'.size⟩, cs', rfl, by simp [hdrOf, h1, hin], rfl, m3, fun j hj => ?_, fun b hb => ⟨_, ow, hg, rfl, h1, .inr ⟨i, off, _, hin, hb⟩⟩, fun _ _ _ _ hi _ => by simp [innAt] at hi⟩
     simp only [EltR, Heap.deepAt, Bool.false_eq_true, if_false]
     exact m4 j hj
    ·cases ha
   ·cases ha
  ·cases ha

theorem PlR.isLive (hp : PlR I σ w h p t xs H cs) {b : Nat} (hb : blockOf H.v = some b) : Live σ h b := by
 obtain ⟨o, ow, k⟩ := hp.live b hb; exact ⟨p.id, o, ow, k⟩

theorem PlR.os (hp : PlR I σ w h p t xs H cs) {u : Value} (hu : LR σ (.os p) u) : u = H.v := by
 obtain ⟨H', A, n, cap, h1, h2, rfl⟩ := hu
 rw [hp.hdr] at h1; cases h1; exact h2.symm

theorem PlR.sub (hp : PlR I σ w h p t xs H cs) {a n : Nat} {u : Value} (hu : LR σ (.sub p a n) u) : a + n ≤ xs.length ∧ Arr w u n t.size ((cs.drop (a * t.size)).take (n * t.size)) := by
 obtain ⟨H', A, len, cap, h1, h2, h3, A', rfl, h4, _, _⟩ := hu
 rw [hp.hdr] at h1; cases h1
 obtain ⟨A1, cap1, e, _⟩ := hp.arr.slice
 rw [h2] at e; cases e
 rw [hp.sz] at h4
 exact ⟨h3, hp.arr.part h2 h3 h4⟩

theorem PlR.el (hp : PlR I σ w h p t xs H cs) {i off : Nat} {u : Value} (hu : LR σ (.el p i off) u) : i < xs.length ∧ ∃ b o cap, H.v = .slice (some ⟨b, o, none⟩) xs.length cap ∧ u = .pointer (some ⟨b, o + i * t.size + off, none⟩) := by
 obtain ⟨H', b, o, len, cap, h1, h2, h3, rfl⟩ := hu
 rw [hp.hdr] at h1; cases h1
 obtain ⟨A1, cap1, e, _⟩ := hp.arr.slice
 rw [h2] at e; cases e
 exact ⟨h3, b, o, cap, h2, by rw [hp.sz]⟩

theorem PlR.rows' (hp : PlR I σ w h p t xs H cs) (hI : ∀ b, I b → J b) (hJ : ∀ i off H' b, innAt σ p i off = some H' → blockOf H'.v = some b → J b) (i : Nat) (hi : i < xs.length) : DR J w t (xs.get ⟨i, hi⟩) (chunk t.size cs i) :=
 (hp.elt i hi).toDR hI (fun _ k H' b hk hb => hJ i k H' b hk hb)
theorem PlR.data' (hp : PlR I σ w h p t xs H cs) (hI : ∀ b, I b → J b) (hb : ∀ b, blockOf H.v = some b → J b) (hJ : ∀ i off H' b, innAt σ p i off = some H' → blockOf H'.v = some b → J b) : DR J w (.slice t) xs [H.v] :=
 hp.arr.toDR (hp.rows' hI hJ) hb

theorem part_get {α : Type} {xs : List α} {a n i : Nat} (h : a + n ≤ xs.length) (hi : i < ((xs.drop a).take n).length) : ((xs.drop a).take n).get ⟨i, hi⟩ = xs.get ⟨a + i, by simp only [List.length_take, List.length_drop] at hi; omega⟩ := by simp
theorem part_length {α : Type} {xs : List α} {a n : Nat} (h : a + n ≤ xs.length) : ((xs.drop a).take n).length = n := by simp only [List.length_take, List.length_drop]; omega

theorem PlR.dataSub' (hp : PlR I σ w h p t xs H cs) (hI : ∀ b, I b → J b) (hB : ∀ b, blockOf H.v = some b → J b) (hJ : ∀ i off H' b, innAt σ p i off = some H' → blockOf H'.v = some b → J b) {a n : Nat} {u : Value} (hu : LR σ (.sub p a n) u) : DR J w (.slice t) ((xs.drop a).take n) [u] := by
 obtain ⟨h1, h2⟩ := hp.sub hu
 have hl := part_length h1
 have hb : ∀ b, blockOf u = some b → J b := by
  intro b hb
  obtain ⟨H', A, len, cap, q1, q2, q3, A', rfl, q4, q5, q6⟩ := hu
  rw [hp.hdr] at q1; cases q1
  have : blockOf H.v = some b := by
   rw [q2]
   cases A with
   | none => rw [q6 rfl] at hb; simp [blockOf] at hb
   | some ad =>
    obtain ⟨A1, cap1, e, hc⟩ := hp.arr.slice
    rw [q2] at e; cases e
    rcases hp.arr.2 with ⟨A2, e2, _⟩ | ⟨b2, o2, cap2, cells, e2, e3, _⟩
    ·rw [q2] at e2
     simp only [Value.slice.injEq] at e2
     obtain ⟨_, _, e3⟩ := e2
     rw [e3, Nat.zero_sub] at hb
     cases A' <;> simp [blockOf] at hb
    ·rw [q2] at e3; cases e3
     obtain ⟨o', ho'⟩ := q5 b2 o2 rfl
     subst ho'
     simp only [blockOf] at hb ⊢
     split at hb
     ·cases hb
     ·rw [if_neg (by omega)]; exact hb
  exact hB b this
 refine Arr.toDR (cs := (cs.drop (a * t.size)).take (n * t.size)) (by rw [hl]; exact h2) (fun i hi => ?_) hb
 rw [part_get h1 hi, chunk_part (by rw [hl] at hi; exact hi)]
 exact hp.rows' hI hJ (a + i) (by rw [hl] at hi; omega)

theorem PlR.rows (hp : PlR I σ w h p t xs H cs) (hI : ∀ b, I b → J b) (hJ : ∀ b o ow, h.get p.id = some o → o.live = true → σ p.id = some ow → ow.has b → J b) (i : Nat) (hi : i < xs.length) : DR J w t (xs.get ⟨i, hi⟩) (chunk t.size cs i) :=
 hp.rows' hI (fun i k H' b hk hb => by obtain ⟨o, ow, k1, k2, k3, k4⟩ := hp.linn i k H' b hk hb; exact hJ b o ow k1 k2 k3 k4) i hi
theorem PlR.data (hp : PlR I σ w h p t xs H cs) (hI : ∀ b, I b → J b) (hJ : ∀ b o ow, h.get p.id = some o → o.live = true → σ p.id = some ow → ow.has b → J b) : DR J w (.slice t) xs [H.v] :=
 hp.data' hI (fun b hb => by obtain ⟨o, ow, k1, k2, k3, k4⟩ := hp.live b hb; exact hJ b o ow k1 k2 k3 k4) (fun i k H' b hk hb => by obtain ⟨o, ow, k1, k2, k3, k4⟩ := hp.linn i k H' b hk hb; exact hJ b o ow k1 k2 k3 k4)
theorem PlR.dataSub (hp : PlR I σ w h p t xs H cs) (hI : ∀ b, I b → J b) (hJ : ∀ b o ow, h.get p.id = some o → o.live = true → σ p.id = some ow → ow.has b → J b) {a n : Nat} {u : Value} (hu : LR σ (.sub p a n) u) : DR J w (.slice t) ((xs.drop a).take n) [u] :=
 hp.dataSub' hI (fun b hb => by obtain ⟨o, ow, k1, k2, k3, k4⟩ := hp.live b hb; exact hJ b o ow k1 k2 k3 k4) (fun i k H' b hk hb => by obtain ⟨o, ow, k1, k2, k3, k4⟩ := hp.linn i k H' b hk hb; exact hJ b o ow k1 k2 k3 k4) hu

theorem PlR.values (hp : PlR I σ w h p t xs H cs) (i : Nat) (hi : i < xs.length) : VRs I σ w (elemCells h p i t (xs.getD i t.zero)) (chunk t.size cs i) := by
 have hget : xs.getD i t.zero = xs.get ⟨i, hi⟩ := by simp [List.getD, hi]
 rw [hget]
 obtain ⟨_, _, h1, h2⟩ := (hp.elt i hi).ex
 unfold elemCells
 split
 ·rename_i hd
  obtain ⟨k1, k2⟩ := h2 hd
  cases p with
  | n id j off => simp [Heap.deepAt] at hd
  | t id =>
   cases hs : σ id with
   | none => have := hp.hdr; simp [hdrOf, hs] at this
   | some ow =>
    refine EX.values hs t 0 _ _ (fun k H' hk => ?_) k1
    have := k2 k H' hk
    simpa [innAt, hs] using this
 ·rename_i hd
  exact VRs.flat t _ _ (h1 (.inl (by simpa using hd)))

def withOwn (I : Nat → Prop) (σ : Nat → Option Own) (h : Heap) : Nat → Prop := fun b => I b ∨ Live σ h b

theorem withOwn_own {p : Pl} (b : Nat) (o : Obj) (ow : Own) (k1 : h.get p.id = some o) (k2 : o.live = true) (k3 : σ p.id = some ow) (k4 : ow.has b) : withOwn I σ h b := .inr ⟨p.id, o, ow, k1, k2, k3, k4⟩

end
end Go.Q
