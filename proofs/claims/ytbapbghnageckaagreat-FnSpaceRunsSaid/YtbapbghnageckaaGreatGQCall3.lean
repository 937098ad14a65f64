/- An abstract interpreter of the translated code: calls. -/
import Derived.Test.YtbapbghnageckaaGreatGQAppend2
namespace Go.Q
set_option linter.unusedVariables false
set_option linter.unusedSimpArgs false
set_option linter.unusedSectionVars false
open Go

theorem indexL_some {l : Ln} : ∀ {ls : List Ln} {n k : Nat}, indexL l n ls = some k → n ≤ k ∧ ls[k - n]? = some l
 | [], _, _, h => by simp [indexL] at h
 | l' :: ls, n, k, h => by
  simp only [indexL] at h
  split at h
  ·rename_i e; cases h; exact ⟨Nat.le_refl _, by simp [e]⟩
  ·obtain ⟨h1, h2⟩ := indexL_some h
   refine ⟨by omega, ?_⟩
   rw [show k - n = (k - (n + 1)) + 1 from by omega]
   simpa using h2
theorem indexN_some {j : Nat} : ∀ {js : List Nat} {n k : Nat}, indexN j n js = some k → n ≤ k ∧ js[k - n]? = some j
 | [], _, _, h => by simp [indexN] at h
 | j' :: js, n, k, h => by
  simp only [indexN] at h
  split at h
  ·rename_i e; cases h; exact ⟨Nat.le_refl _, by simp [e]⟩
  ·obtain ⟨h1, h2⟩ := indexN_some h
   refine ⟨by omega, ?_⟩
   rw [show k - n = (k - (n + 1)) + 1 from by omega]
   simpa using h2
theorem getL_eq {α : Type} : ∀ (xs : List α) (k : Nat), getL xs k = xs[k]?
 | [], _ => by simp [getL]
 | _ :: _, 0 => rfl
 | _ :: xs, k + 1 => by simp [getL, getL_eq xs k]

theorem newIds_mem {i : Nat} : ∀ {h : Heap}, i ∈ newIds h ↔ i < lentFrom ∧ ∃ o, (i, o) ∈ h
 | [] => by simp [newIds]
 | (j, o) :: h => by
  simp only [newIds]
  split
  ·rename_i hj
   simp only [List.mem_cons, newIds_mem (h := h), Prod.mk.injEq]
   constructor
   ·rintro (rfl | ⟨h1, o', h2⟩)
    ·exact ⟨hj, o, .inl ⟨rfl, rfl⟩⟩
    ·exact ⟨h1, o', .inr h2⟩
   ·rintro ⟨h1, o', ⟨rfl, rfl⟩ | h2⟩
    ·exact .inl rfl
    ·exact .inr ⟨h1, o', h2⟩
  ·rename_i hj
   simp only [newIds_mem (h := h), List.mem_cons, Prod.mk.injEq]
   constructor
   ·rintro ⟨h1, o', h2⟩; exact ⟨h1, o', .inr h2⟩
   ·rintro ⟨h1, o', ⟨rfl, rfl⟩ | h2⟩
    ·exact absurd h1 hj
    ·exact ⟨h1, o', h2⟩
theorem Heap.mem_get {i : Nat} : ∀ {h : Heap} {o : Obj}, (i, o) ∈ h → ∃ o', h.get i = some o'
 | (j, o1) :: h, o, hm => by
  simp only [Heap.get]
  split
  ·exact ⟨_, rfl⟩
  ·rename_i e
   rcases List.mem_cons.1 hm with hm | hm
   ·cases hm; exact absurd rfl e
   ·exact Heap.mem_get hm
theorem lentHeap_get {h : Heap} {all : List Ln} : ∀ {ls : List Ln} {k : Nat} {hl : Heap}, lentHeap h all k ls = some hl → ∀ i, (i < k → hl.get i = none) ∧ (k ≤ i → match ls[i - k]? with
  | some l => ∃ o, lentObj h all l = some o ∧ hl.get i = some o
  | none => hl.get i = none)
 | [], k, hl, h, i => by
  simp only [lentHeap, Option.some.injEq] at h
  subst h
  exact ⟨fun _ => rfl, fun _ => by simp [Heap.get]⟩
 | l :: ls, k, hl, h, i => by
  simp only [lentHeap, Option.bind_eq_some_iff, Option.map_eq_some_iff] at h
  obtain ⟨o, h1, r, h2, rfl⟩ := h
  obtain ⟨h3, h4⟩ := lentHeap_get h2 i
  refine ⟨fun hi => ?_, fun hi => ?_⟩
  ·simp only [Heap.get]; rw [if_neg (by omega)]; exact h3 (by omega)
  ·by_cases e : k = i
   ·subst e; simp [Heap.get, h1]
   ·rw [show i - k = (i - (k + 1)) + 1 from by omega]
    simp only [List.getElem?_cons_succ, Heap.get, if_neg e]
    exact h4 (by omega)

theorem Heap.get_bury : ∀ {ls : List Ln} {h : Heap} (i : Nat), (h.bury ls).get i = if i ∈ ls.map Ln.id then some .dead else h.get i
 | [], h, i => by simp [Heap.bury]
 | l :: ls, h, i => by
  simp only [Heap.bury, Heap.get_bury (ls := ls) i, Heap.get_put, List.map_cons, List.mem_cons]
  by_cases h1 : i ∈ ls.map Ln.id
  ·simp [h1]
  ·by_cases h2 : i = l.id
   ·simp [h2]
   ·simp [h1, h2]

theorem Heap.get_puts : ∀ {l : List (Nat × Obj)} {h : Heap} (i : Nat), (l.map (·.1)).Nodup → (h.puts l).get i = match lookT l i with | some o => some o | none => h.get i
 | [], h, i, _ => rfl
 | (j, o) :: l, h, i, hn => by
  simp only [List.map_cons, List.nodup_cons] at hn
  simp only [Heap.puts, Heap.get_puts i hn.2, lookT, Heap.get_put]
  by_cases e : j = i
  ·subst e
   have : lookT l j = none := by
    cases hx : lookT l j with
    | none => rfl
    | some o' =>
     exfalso
     refine hn.1 ?_
     have : ∀ {l : List (Nat × Obj)} {o' : Obj}, lookT l j = some o' → j ∈ l.map (·.1) := by
      intro l
      induction l with
      | nil => intro o' h; simp [lookT] at h
      | cons p l ih =>
       intro o' h
       obtain ⟨a, b⟩ := p
       simp only [lookT] at h
       split at h
       ·rename_i e; simp [e]
       ·simp [ih h]
     exact this hx
   simp [this]
  ·have e' : ¬ i = j := fun h => e h.symm
   simp [e, e']

theorem newObjs_look {f : AV → AV} {h' : Heap} : ∀ {ns : List Nat} {k : Nat} (i : Nat), lookT (newObjs f h' k ns) i = if k ≤ i then (ns[i - k]?).map fun j => ((h'.get j).getD .dead).mapR f else none
 | [], k, i => by simp [newObjs, lookT]
 | n :: ns, k, i => by
  simp only [newObjs, lookT, newObjs_look (ns := ns) i]
  by_cases e : k = i
  ·subst e; simp
  ·rw [if_neg e]
   by_cases h1 : k ≤ i
   ·rw [if_pos h1, if_pos (by omega), show i - k = (i - (k + 1)) + 1 from by omega]; simp
   ·rw [if_neg h1, if_neg (by omega)]
theorem newObjs_keys {f : AV → AV} {h' : Heap} : ∀ {ns : List Nat} {k : Nat}, (newObjs f h' k ns).map (·.1) = upTo k ns.length
 | [], _ => rfl
 | _ :: ns, k => by simp [newObjs, upTo, newObjs_keys (ns := ns)]
theorem mem_upTo : ∀ {n k i : Nat}, i ∈ upTo k n ↔ k ≤ i ∧ i < k + n
 | 0, k, i => by simp only [upTo, List.not_mem_nil, false_iff]; omega
 | n + 1, k, i => by simp only [upTo, List.mem_cons, mem_upTo (n := n)]; omega
theorem upTo_nodup : ∀ {n k : Nat}, (upTo k n).Nodup
 | 0, _ => by simp [upTo]
 | n + 1, k => by
  simp only [upTo, List.nodup_cons, upTo_nodup (n := n), and_true, mem_upTo]; omega
theorem backObjs_look {f : AV → AV} {h h' : Heap} : ∀ {ls : List Ln} {k : Nat} {us : List (Nat × Obj)}, backObjs f h h' k ls = some us → us.map (·.1) = ls.map Ln.id ∧
  ((ls.map Ln.id).Nodup → ∀ (j : Nat) (l : Ln), ls[j]? = some l → ∃ o, backObj f h h' (k + j) l = some o ∧ lookT us l.id = some o) ∧ ∀ i, i ∉ ls.map Ln.id → lookT us i = none
 | [], k, us, h => by
  simp only [backObjs, Option.some.injEq] at h
  subst h
  exact ⟨rfl, fun _ j l hj => by simp at hj, fun i _ => rfl⟩
 | l :: ls, k, us, h => by
  simp only [backObjs, Option.bind_eq_some_iff, Option.map_eq_some_iff] at h
  obtain ⟨o, h1, r, h2, rfl⟩ := h
  obtain ⟨k1, k2, k3⟩ := backObjs_look h2
  refine ⟨by simp [k1], fun hn j l' hj => ?_, fun i hi => ?_⟩
  ·simp only [List.map_cons, List.nodup_cons] at hn
   cases j with
   | zero => simp at hj; subst hj; exact ⟨o, h1, by simp [lookT]⟩
   | succ j =>
    obtain ⟨o', m1, m2⟩ := k2 hn.2 j l' (by simpa using hj)
    refine ⟨o', by rw [show k + (j + 1) = k + 1 + j from by omega]; exact m1, ?_⟩
    have : l.id ≠ l'.id := fun e => hn.1 (by rw [e]; exact List.mem_map.2 ⟨l', List.mem_of_getElem? (by simpa using hj), rfl⟩)
    simp [lookT, this, m2]
  ·simp only [List.map_cons, List.mem_cons, not_or] at hi
   have : ¬ l.id = i := fun e => hi.1 e.symm
   simp [lookT, this, k3 i hi.2]

theorem movedIds_mem {h' : Heap} : ∀ {ls : List Ln} {k : Nat} {id : Nat}, (∃ j, ls[j]? = some (.a (.t id)) ∧ ∀ d t xs, h'.get (k + j) ≠ some (.arr false d t xs)) → id ∈ movedIds h' k ls
 | [], _, _, ⟨j, hj, _⟩ => by simp at hj
 | l :: ls, k, id, ⟨j, hj, hn⟩ => by
  cases j with
  | zero =>
   simp at hj; subst hj
   simp only [movedIds]
   split
   ·rename_i d t xs hg; exact absurd hg (hn d t xs)
   ·simp
  | succ j =>
   have := movedIds_mem (h' := h') (ls := ls) (k := k + 1) (id := id) ⟨j, by simpa using hj, fun d t xs => by rw [show k + 1 + j = k + (j + 1) from by omega]; exact hn d t xs⟩
   cases l with
   | b i => simp only [movedIds]; exact this
   | a p =>
    cases p with
    | n _ _ _ => simp only [movedIds]; exact this
    | t i =>
     simp only [movedIds]
     split
     ·exact this
     ·exact List.mem_cons_of_mem _ this
theorem wholeIds_mem {id : Nat} : ∀ {ls : List Ln}, Ln.a (.t id) ∈ ls ∨ Ln.b id ∈ ls → id ∈ wholeIds ls
 | [], h => by simp at h
 | l :: ls, h => by
  have : (Ln.a (.t id) = l ∨ Ln.b id = l) ∨ (Ln.a (.t id) ∈ ls ∨ Ln.b id ∈ ls) := by
   rcases h with h | h <;> rcases List.mem_cons.1 h with h | h
   ·exact .inl (.inl h)
   ·exact .inr (.inl h)
   ·exact .inl (.inr h)
   ·exact .inr (.inr h)
  rcases this with (h | h) | h
  ·subst h; simp [wholeIds]
  ·subst h; simp [wholeIds]
  ·have := wholeIds_mem h
   cases l with
   | b i => simp only [wholeIds]; exact List.mem_cons_of_mem _ this
   | a p => cases p with
    | t i => simp only [wholeIds]; exact List.mem_cons_of_mem _ this
    | n _ _ _ => simp only [wholeIds]; exact this

section
variable {P : Program} {E : Env} {L : Nat → Prop} {I I' J : Nat → Prop} {σ σ' : Nat → Option Own} {st st' : St} {w w' : World}

abbrev noOwn : Nat → Option Own := fun _ => none

theorem HR.buryL (h : HR I σ w st.heap) : ∀ {ls : List Ln}, (∀ l ∈ ls, ∃ o, st.heap.get l.id = some o) → HR I σ w (st.heap.bury ls) := by
 have key : ∀ {ls : List Ln} {hp : Heap}, HR I σ w hp → (∀ l ∈ ls, ∃ o, hp.get l.id = some o) → HR I σ w (hp.bury ls) := by
  intro ls
  induction ls with
  | nil => intro hp h _; exact h
  | cons l ls ih =>
   intro hp h hl
   obtain ⟨o, hg⟩ := hl l (by simp)
   refine ih (h.bury hg) (fun l' hl' => ?_)
   rw [Heap.get_put]
   split
   ·exact ⟨_, rfl⟩
   ·exact hl l' (by simp [hl'])
 intro ls hl
 exact key h hl

theorem mapO_args {f : AV → Option AV} (hf : ∀ v v' u, VR I σ w v u → f v = some v' → VR J noOwn w v' u) : ∀ {vs vs' : List AV} {us : List Value}, VRs I σ w vs us → mapO f vs = some vs' → VRs J noOwn w vs' us
 | [], vs', us, h, hm => by simp only [mapO, Option.some.injEq] at hm; subst hm; exact h
 | v :: vs, vs', us, h, hm => by
  obtain ⟨e, es', rfl, h2, h3⟩ := h
  simp only [mapO, Option.bind_eq_some_iff, Option.map_eq_some_iff] at hm
  obtain ⟨y, k1, ys, k2, rfl⟩ := hm
  exact ⟨e, es', rfl, hf v y e h2 k1, mapO_args hf h3 k2⟩

theorem HR.argOf {hp : Heap} (h : HR I σ w hp) : ∀ (m : Nat) (v v' : AV) (u : Value), VR I σ w v u → Go.Q.argOf hp m v = some v' → VR (withOwn I σ hp) noOwn w v' u
 | 0, _, _, _, _, h => by simp [Go.Q.argOf] at h
 | m + 1, v, v', u, hv, ha => by
  have hJ : ∀ b, I b → withOwn I σ hp b := fun b hb => .inl hb
  cases v with
  | undef => simp [Go.Q.argOf] at ha
  | tuple vs => simp [Go.Q.argOf] at ha
  | mp id => simp [Go.Q.argOf] at ha
  | os p =>
   simp only [Go.Q.argOf] at ha
   obtain ⟨t, xs, H, cs, rfl, hpl⟩ := h.place ha
   have := hpl.os hv
   subst this
   exact hpl.data hJ withOwn_own
  | sub p a n =>
   simp only [Go.Q.argOf, Option.bind_eq_some_iff] at ha
   obtain ⟨v1, ha, hc⟩ := ha
   obtain ⟨t, xs, H, cs, rfl, hpl⟩ := h.place ha
   simp only [cutO, Option.some.injEq] at hc
   subst hc
   exact hpl.dataSub hJ withOwn_own hv
  | el p i off =>
   simp only [Go.Q.argOf, Option.bind_eq_some_iff] at ha
   obtain ⟨v1, ha, hc⟩ := ha
   obtain ⟨t, xs, H, cs, rfl, hpl⟩ := h.place ha
   simp only [elO, Option.some.injEq] at hc
   subst hc
   obtain ⟨hi, b, o, cap, e1, rfl⟩ := hpl.el hv
   obtain ⟨b', o', cap', e2, hb, hcell⟩ := hpl.arr.read hi
   rw [e1] at e2; cases e2
   have hrow := hpl.rows (J := withOwn I σ hp) hJ withOwn_own i hi
   refine ⟨b, _, _, rfl, .inr (hpl.isLive hb), VRs.drop off (VRs.flat t _ _ ?_), hcell.drop off⟩
   rw [getD_get hi]; exact hrow
  | op id off =>
   simp only [Go.Q.argOf] at ha
   split at ha
   ·rename_i vs hg
    simp only [Option.map_eq_some_iff] at ha
    obtain ⟨ws, k1, rfl⟩ := ha
    obtain ⟨ow, b, g1, g2, rfl⟩ := hv
    obtain ⟨ow', m1, _, b', es, T, m2, m3, m4⟩ := h.objs id _ hg
    rw [g1] at m1; cases m1
    rw [g2] at m2; cases m2
    refine ⟨b, off, es.drop off, rfl, .inr ⟨id, _, ow, hg, rfl, g1, .inl (by rw [g2]; rfl)⟩, mapO_args (fun v v' u => HR.argOf h m v v' u) (VRs.drop off m4) k1, ?_⟩
    have : CellsAt w ⟨b, 0, none⟩ es := fun j v hj => by simp only [World.cell?, m3]; simpa using hj
    simpa using this.drop off
   ·cases ha
  | rp vs =>
   simp only [Go.Q.argOf, Option.map_eq_some_iff] at ha
   obtain ⟨ws, k1, rfl⟩ := ha
   obtain ⟨b, o, es, g1, g2, g3, g4⟩ := hv
   exact ⟨b, o, es, g1, hJ b g2, mapO_args (fun v v' u => HR.argOf h m v v' u) g3 k1, g4⟩
  | agg vs =>
   simp only [Go.Q.argOf, Option.map_eq_some_iff] at ha
   obtain ⟨ws, k1, rfl⟩ := ha
   obtain ⟨es, g1, g2⟩ := hv
   exact ⟨es, g1, mapO_args (fun v v' u => HR.argOf h m v v' u) g2 k1⟩
  | fn f vs =>
   simp only [Go.Q.argOf, Option.map_eq_some_iff] at ha
   obtain ⟨ws, k1, rfl⟩ := ha
   obtain ⟨es, g1, g2⟩ := hv
   exact ⟨es, g1, mapO_args (fun v v' u => HR.argOf h m v v' u) g2 k1⟩
  | d t x => simp only [Go.Q.argOf, Option.some.injEq] at ha; subst ha; exact DR.mono hJ (fun _ _ => rfl) t x _ hv
  | skip => simp only [Go.Q.argOf, Option.some.injEq] at ha; subst ha; exact hv
  | nilS => simp only [Go.Q.argOf, Option.some.injEq] at ha; subst ha; exact hv
  | empS => simp only [Go.Q.argOf, Option.some.injEq] at ha; subst ha; exact hv
  | nilF => simp only [Go.Q.argOf, Option.some.injEq] at ha; subst ha; exact hv
  | nilP => simp only [Go.Q.argOf, Option.some.injEq] at ha; subst ha; exact hv
  | nilM => simp only [Go.Q.argOf, Option.some.injEq] at ha; subst ha; exact hv

mutual
theorem VR.noOwn {I : Nat → Prop} {w : World} : ∀ (v : AV) (u : Value), v.owned = false → VR I σ w v u → VR I Go.Q.noOwn w v u
 | .undef, _, _, _ => trivial
 | .skip, _, _, h => h
 | .d _ _, _, _, h => h
 | .nilS, _, _, h => h
 | .empS, _, _, h => h
 | .nilF, _, _, h => h
 | .nilP, _, _, h => h
 | .nilM, _, _, h => h
 | .os _, _, k, _ => by simp [AV.owned] at k
 | .sub _ _ _, _, k, _ => by simp [AV.owned] at k
 | .el _ _ _, _, k, _ => by simp [AV.owned] at k
 | .op _ _, _, k, _ => by simp [AV.owned] at k
 | .mp _, _, k, _ => by simp [AV.owned] at k
 | .rp vs, _, k, h => by obtain ⟨b, o, es, h1, h2, h3, h4⟩ := h; exact ⟨b, o, es, h1, h2, VRs.noOwn vs es (by simpa [AV.owned] using k) h3, h4⟩
 | .agg vs, _, k, h => by obtain ⟨es, h1, h2⟩ := h; exact ⟨es, h1, VRs.noOwn vs es (by simpa [AV.owned] using k) h2⟩
 | .tuple vs, _, k, h => by obtain ⟨es, h1, h2⟩ := h; exact ⟨es, h1, VRs.noOwn vs es (by simpa [AV.owned] using k) h2⟩
 | .fn _ vs, _, k, h => by obtain ⟨es, h1, h2⟩ := h; exact ⟨es, h1, VRs.noOwn vs es (by simpa [AV.owned] using k) h2⟩
theorem VRs.noOwn {I : Nat → Prop} {w : World} : ∀ (vs : List AV) (us : List Value), AV.owneds vs = false → VRs I σ w vs us → VRs I Go.Q.noOwn w vs us
 | [], _, _, h => h
 | v :: vs, _, k, h => by
  simp only [AV.owneds, Bool.or_eq_false_iff] at k
  obtain ⟨e, es', h1, h2, h3⟩ := h
  exact ⟨e, es', h1, VR.noOwn v e k.1 h2, VRs.noOwn vs es' k.2 h3⟩
end

mutual
theorem VR.noShares {J J' : Nat → Prop} {w : World} : ∀ (v : AV) (u : Value), v.shares = false → VR J σ w v u → VR J' σ w v u
 | .undef, _, _, _ => trivial
 | .skip, _, _, h => h
 | .d t x, _, k, h => DR.noRefs t x _ k h
 | .nilS, _, _, h => h
 | .empS, _, _, h => h
 | .nilF, _, _, h => h
 | .nilP, _, _, h => h
 | .nilM, _, _, h => h
 | .os _, _, _, h => h
 | .sub _ _ _, _, _, h => h
 | .el _ _ _, _, _, h => h
 | .op _ _, _, _, h => h
 | .mp _, _, _, h => h
 | .rp vs, _, k, _ => by simp [AV.shares] at k
 | .agg vs, _, k, h => by obtain ⟨es, h1, h2⟩ := h; exact ⟨es, h1, VRs.noShares vs es (by simpa [AV.shares] using k) h2⟩
 | .tuple vs, _, k, h => by obtain ⟨es, h1, h2⟩ := h; exact ⟨es, h1, VRs.noShares vs es (by simpa [AV.shares] using k) h2⟩
 | .fn _ vs, _, k, h => by obtain ⟨es, h1, h2⟩ := h; exact ⟨es, h1, VRs.noShares vs es (by simpa [AV.shares] using k) h2⟩
theorem VRs.noShares {J J' : Nat → Prop} {w : World} : ∀ (vs : List AV) (us : List Value), AV.sharess vs = false → VRs J σ w vs us → VRs J' σ w vs us
 | [], _, _, h => h
 | v :: vs, _, k, h => by
  simp only [AV.sharess, Bool.or_eq_false_iff] at k
  obtain ⟨e, es', h1, h2, h3⟩ := h
  exact ⟨e, es', h1, VR.noShares v e k.1 h2, VRs.noShares vs es' k.2 h3⟩
end

theorem ER.noShares {J J' : Nat → Prop} {inn : Nat → Option Hdr} : ∀ (t : Ty) (off : Nat) (x : t.Den) (cs : List Value), t.refs2 = false → ER J w inn t off x cs → ER J' w inn t off x cs
 | .slice t, off, xs, cs, k, h => by
  obtain ⟨v, h1, h2, cs', h3, h4⟩ := h
  exact ⟨v, h1, h2, cs', h3, fun i hi => DR.noRefs t _ _ k (h4 i hi)⟩
 | .cons a b, off, x, cs, k, h => by
  simp only [Ty.refs2, Bool.or_eq_false_iff] at k
  obtain ⟨c1, c2, e, h1, h2⟩ := h
  exact ⟨c1, c2, e, ER.noShares a _ _ _ k.1 h1, ER.noShares b _ _ _ k.2 h2⟩
 | .agg l, off, x, cs, k, h => ER.noShares l off x cs k h
 | .int _, _, x, cs, _, h => h
 | .bool, _, x, cs, _, h => h
 | .str, _, x, cs, _, h => h
 | .err, _, x, cs, _, h => h
 | .ptr t, _, x, cs, k, h => by simp [Ty.refs2] at k
 | .nil, _, x, cs, _, h => h

theorem KR.noRefs {J J' : Nat → Prop} {w : World} {t : Ty} {x : t.Den} {v : Value} (k : t.refs = false) (h : KR J w t x v) : KR J' w t x v := by
 unfold KR at h ⊢
 split
 ·rename_i ha
  rw [if_pos ha] at h
  obtain ⟨cs, h1, h2⟩ := h
  exact ⟨cs, h1, DR.noRefs t _ _ k h2⟩
 ·rename_i ha
  rw [if_neg ha] at h
  exact DR.noRefs t _ _ k h
theorem ObjR.noShares {J J' : Nat → Prop} {ow : Own} {o : Obj} (k : o.shares = false) (h : ObjR J σ w ow o) : ObjR J' σ w ow o := by
 cases o with
 | dead => trivial
 | bld d T e s => exact h
 | arr m d t xs =>
  obtain ⟨h1, h2, h3, cs, h4, h5⟩ := h
  refine ⟨h1, h2, h3, cs, h4, fun i hi => ?_⟩
  have := h5 i hi
  simp only [Obj.shares] at k
  unfold EltR at this ⊢
  cases d with
  | true => simp only [if_true] at this k ⊢; exact ER.noShares t 0 _ _ k this
  | false => simp only [Bool.false_eq_true, if_false] at this k ⊢; exact DR.noRefs t _ _ k this
 | box vs =>
  obtain ⟨h1, b, es, T, h2, h3, h4⟩ := h
  exact ⟨h1, b, es, T, h2, h3, VRs.noShares vs es k h4⟩
 | mp tk tv kvs =>
  obtain ⟨h1, b, es, c, h2, h3, h4⟩ := h
  simp only [Obj.shares, Bool.or_eq_false_iff] at k
  refine ⟨h1, b, es, c, h2, h3, ?_⟩
  have : ∀ {kvs : List (tk.Den × tv.Den)} {es : List MapEntry}, MapR J w tk tv kvs es → MapR J' w tk tv kvs es := by
   intro kvs
   induction kvs with
   | nil => intro es h; exact h
   | cons p kvs ih =>
    intro es h
    obtain ⟨e, es', e1, q1, q2, q3⟩ := h
    exact ⟨e, es', e1, KR.noRefs k.1 q1, KR.noRefs k.2 q2, ih q3⟩
  exact this h4

theorem Heap.shares_get {i : Nat} {o : Obj} : ∀ {h : Heap}, h.shares = false → h.get i = some o → o.shares = false
 | (j, o1) :: h, k, hg => by
  simp only [Heap.shares, Bool.or_eq_false_iff] at k
  simp only [Heap.get] at hg
  split at hg
  ·cases hg; exact k.1
  ·exact Heap.shares_get k.2 hg

theorem HR.noShares {hp : Heap} (h : HR J σ w hp) (hI : ∀ b, I b → J b) (k : hp.shares = false) : HR I σ w hp :=
 ⟨fun id o hg => by obtain ⟨ow, h1, h2⟩ := h.objs id o hg; exact ⟨ow, h1, ObjR.noShares (Heap.shares_get k hg) h2⟩, h.dom, fun b hb => ⟨fun hi => (h.own b hb).1 (hI b hi), (h.own b hb).2⟩, h.dist, fun b hb => h.lt b (hI b hb)⟩

theorem mapO_same {f : AV → Option AV} (hf : ∀ v v', v.owned = false → f v = some v' → v' = v) : ∀ {vs ws : List AV}, AV.owneds vs = false → mapO f vs = some ws → ws = vs
 | [], ws, _, h => by simp only [mapO, Option.some.injEq] at h; exact h.symm
 | v :: vs, ws, hv, h => by
  simp only [AV.owneds, Bool.or_eq_false_iff] at hv
  simp only [mapO, Option.bind_eq_some_iff, Option.map_eq_some_iff] at h
  obtain ⟨y, k1, ys, k2, rfl⟩ := h
  rw [hf v y hv.1 k1, mapO_same hf hv.2 k2]

theorem argOf_same (h : Heap) : ∀ (m : Nat) (v v' : AV), v.owned = false → Go.Q.argOf h m v = some v' → v' = v
 | 0, _, _, _, h => by simp [Go.Q.argOf] at h
 | m + 1, v, v', hv, ha => by
  cases v <;> simp only [AV.owned] at hv <;> simp only [Go.Q.argOf] at ha
  case rp vs => simp only [Option.map_eq_some_iff] at ha; obtain ⟨ws, k1, rfl⟩ := ha; rw [mapO_same (argOf_same h m) hv k1]
  case agg vs => simp only [Option.map_eq_some_iff] at ha; obtain ⟨ws, k1, rfl⟩ := ha; rw [mapO_same (argOf_same h m) hv k1]
  case fn f vs => simp only [Option.map_eq_some_iff] at ha; obtain ⟨ws, k1, rfl⟩ := ha; rw [mapO_same (argOf_same h m) hv k1]
  all_goals first | (cases ha; rfl) | cases ha | cases hv

structure Out (J : Nat → Prop) (σ : Nat → Option Own) (w : World) (h : Heap) (J' : Nat → Prop) (σ' : Nat → Option Own) (w' : World) (h' : Heap) : Prop where
 hr : HR J' σ' w' h'
 live : ∀ b, Live σ' h' b → w.heap.size ≤ b ∨ Live σ h b
 sub : ∀ b, J b → J' b
 src : ∀ b, J' b → J b ∨ w.heap.size ≤ b ∨ Live σ h b
 mv : Moved (Live σ h) w w'
 still : ∀ id, lentFrom ≤ id → ∀ o, h'.get id = some o → o.still = true → ∀ ow, σ id = some ow → ∃ ow', σ' id = some ow' ∧ ow'.h = ow.h

def CallsV (P : Program) (f : Nat) (us : Array Value) (w : World) (Q : Ending → World → Prop) : Prop :=
 ((callFunc f us).run P w = .ok (.enter f us) w ∧ Calls P f us w Q) ∨ ∃ u w', (callFunc f us).run P w = .ok (.value u) w' ∧ Q (.returned u) w'
theorem CallsV.mono {P : Program} {f : Nat} {us : Array Value} {w : World} {Q Q' : Ending → World → Prop} (h : CallsV P f us w Q) (hq : ∀ e w', Q e w' → Q' e w') : CallsV P f us w Q' := by
 rcases h with ⟨h1, h2⟩ | ⟨u, w', h1, h2⟩
 ·exact .inl ⟨h1, Calls.mono h2 fun e w' => hq e w'⟩
 ·exact .inr ⟨u, w', h1, hq _ _ h2⟩
def CallOK (P : Program) (call : CallF) : Prop :=
 ∀ f vs h r, call f vs h = some r →
  ∀ (J : Nat → Prop) (σ : Nat → Option Own) (w : World) (us : List Value), HR J σ w h → VRs J σ w vs us →
   CallsV P f us.toArray w fun e w' => ∃ u J' σ', e = .returned u ∧ Out J σ w h J' σ' w' r.2 ∧ VR J' σ' w' r.1 u

end
end Go.Q

namespace Go.Q
set_option linter.unusedVariables false
set_option linter.unusedSimpArgs false
set_option linter.unusedSectionVars false
open Go
section
variable {P : Program} {E : Env} {L : Nat → Prop} {I I' J K : Nat → Prop} {σ σ' : Nat → Option Own} {st st' : St} {w w' : World}

def ownOf (σ : Nat → Option Own) : Ln → Option Own
 | .a (.t id) => σ id
 | .a (.n id i off) => (hdrOf σ (.n id i off)).map fun H => ⟨H, fun _ _ => none⟩
 | .b id => σ id
def sigL (σ : Nat → Option Own) (ls : List Ln) : Nat → Option Own := fun i => if lentFrom ≤ i then (ls[i - lentFrom]?).bind (ownOf σ) else none

theorem ownOf_hdr (σ : Nat → Option Own) (p : Pl) : (ownOf σ (.a p)).map (·.h) = hdrOf σ p := by
 cases p with
 | t id => rfl
 | n id i off => simp only [ownOf]; cases hdrOf σ (.n id i off) <;> rfl

theorem sigL_at {σ : Nat → Option Own} {ls : List Ln} {k : Nat} (hk : lentFrom ≤ k) {l : Ln} (hl : ls[k - lentFrom]? = some l) : sigL σ ls k = ownOf σ l := by
 simp only [sigL, if_pos hk, hl, Option.bind_some]

theorem lentF_ok {ls : List Ln} (v : AV) (u : Value) (h : LR σ v u) : VR J (sigL σ ls) w (lentF ls v) u := by
 have hh : ∀ p k, indexL (.a p) lentFrom ls = some k → hdrOf (sigL σ ls) (.t k) = hdrOf σ p := fun p k hk => by
  obtain ⟨k1, k2⟩ := indexL_some hk
  simp only [hdrOf]
  rw [sigL_at k1 k2, ownOf_hdr]
  rfl
 have hb : ∀ id k, indexL (.b id) lentFrom ls = some k → sigL σ ls k = σ id := fun id k hk => by
  obtain ⟨k1, k2⟩ := indexL_some hk
  rw [sigL_at k1 k2]; rfl
 cases v <;> first | exact h.elim | skip
 case os p => simp only [lentF]; split; (rename_i k hk; exact LR.toVR (.os (.t k)) u (by simpa only [LR, hh p k hk] using h)); trivial
 case sub p a n => simp only [lentF]; split; (rename_i k hk; exact LR.toVR (.sub (.t k) a n) u (by simpa only [LR, hh p k hk] using h)); trivial
 case el p i off => simp only [lentF]; split; (rename_i k hk; exact LR.toVR (.el (.t k) i off) u (by simpa only [LR, hh p k hk] using h)); trivial
 case op id off => simp only [lentF]; split; (rename_i k hk; exact LR.toVR (.op k off) u (by simpa only [LR, hb id k hk] using h)); trivial
 case mp id => simp only [lentF]; split; (rename_i k hk; exact LR.toVR (.mp k) u (by simpa only [LR, hb id k hk] using h)); trivial

theorem lentObj_ok (h : HR I σ w st.heap) (hJ : ∀ b, I b → J b) {ls : List Ln} {l : Ln} {o : Obj} (ho : lentObj st.heap ls l = some o) :
  ∃ o0 ow0 owl, st.heap.get l.id = some o0 ∧ o0.live = true ∧ o.live = true ∧ σ l.id = some ow0 ∧ ownOf σ l = some owl ∧ (∀ b, owl.has b → ow0.has b) ∧ ObjR J (sigL σ ls) w owl o := by
 cases l with
 | a p =>
  simp only [lentObj, Option.bind_eq_some_iff] at ho
  obtain ⟨v, ha, ho⟩ := ho
  cases p with
  | t id =>
   simp only [Heap.arrAt] at ha
   split at ha
   ·rename_i m d t xs hg
    cases ha
    simp only [lentArr, Option.some.injEq, Heap.deepAt, hg] at ho
    subst ho
    obtain ⟨ow, h1, h2⟩ := h.objs id _ hg
    exact ⟨_, ow, ow, hg, rfl, rfl, h1, h1, fun _ h => h, ObjR.map (σ' := sigL σ ls) (o := .arr false d t xs) hJ (fun _ _ => rfl) (fun _ _ _ => rfl) (lentF ls) (fun vs es hv => VRs.map hJ (fun _ _ => rfl) _ (fun v u hv => lentF_ok v u hv) vs es hv) h2⟩
   ·cases ha
  | n id i off =>
   obtain ⟨t, xs, H, cs, rfl, hpl⟩ := h.place ha
   simp only [lentArr, Option.some.injEq, Heap.deepAt] at ho
   subst ho
   have hin := hpl.hdr
   have hin2 := hin
   simp only [hdrOf, Option.bind_eq_some_iff] at hin2
   obtain ⟨ow, h1, h2⟩ := hin2
   have hg : ∃ m t0 xs0, st.heap.get id = some (.arr m true t0 xs0) := by
    simp only [Heap.arrAt] at ha
    split at ha
    ·rename_i m t0 xs0 hg; exact ⟨m, t0, xs0, hg⟩
    ·cases ha
   obtain ⟨m, t0, xs0, hg⟩ := hg
   refine ⟨_, ow, ⟨H, fun _ _ => none⟩, hg, rfl, rfl, h1, by simp [ownOf, hin], fun b hb => ?_, hpl.sz, fun _ _ _ => rfl, ⟨fun _ _ _ _ h => (by cases h), fun _ _ _ _ _ _ _ h => (by cases h)⟩, cs, hpl.arr, fun j hj => EltR.of_flat (.inl rfl) (DR.mono hJ (fun _ _ => rfl) t _ _ ((hpl.elt j hj).ex.2.2.1 (.inl rfl)))⟩
   rcases hb with hb | ⟨_, _, _, hb, _⟩
   ·exact .inr ⟨i, off, H, h2, hb⟩
   ·cases hb
 | b id =>
  simp only [lentObj] at ho
  split at ho
  ·rename_i vs hg
   cases ho
   obtain ⟨ow, h1, h2⟩ := h.objs id _ hg
   exact ⟨_, ow, ow, hg, rfl, rfl, h1, h1, fun _ h => h, ObjR.map hJ (fun _ _ => rfl) (fun _ _ _ => rfl) (lentF ls) (fun vs es hv => VRs.map hJ (fun _ _ => rfl) _ (fun v u hv => lentF_ok v u hv) vs es hv) h2⟩
  ·rename_i tk tv kvs hg
   cases ho
   obtain ⟨ow, h1, h2⟩ := h.objs id _ hg
   exact ⟨_, ow, ow, hg, rfl, rfl, h1, h1, fun _ h => h, ObjR.map (σ' := sigL σ ls) hJ (fun _ _ => rfl) (fun _ _ _ => rfl) (lentF ls) (fun vs es hv => VRs.map hJ (fun _ _ => rfl) _ (fun v u hv => lentF_ok v u hv) vs es hv) h2⟩
  ·rename_i d T e s hg
   cases ho
   obtain ⟨ow, h1, h2⟩ := h.objs id _ hg
   exact ⟨_, ow, ow, hg, rfl, rfl, h1, h1, fun _ h => h, h2⟩
  ·cases ho

theorem nodup_ids {ls : List Ln} (hn : (ls.map Ln.id).Nodup) {j k : Nat} {l l' : Ln} (hj : ls[j]? = some l) (hk : ls[k]? = some l') (he : l.id = l'.id) : j = k := by
 have h1 : (ls.map Ln.id)[j]? = some l.id := by simp [hj]
 have h2 : (ls.map Ln.id)[k]? = some l'.id := by simp [hk]
 have hlj := (List.getElem?_eq_some_iff.1 h1).1
 rw [he, ← h2] at h1
 exact (List.getElem?_inj hlj hn).1 h1

theorem lent_get {ls : List Ln} {hl : Heap} (hlH : lentHeap st.heap ls lentFrom ls = some hl) {i : Nat} {o : Obj} (hg : hl.get i = some o) : lentFrom ≤ i ∧ ∃ l, ls[i - lentFrom]? = some l ∧ lentObj st.heap ls l = some o := by
 obtain ⟨h1, h2⟩ := lentHeap_get hlH i
 by_cases hi : lentFrom ≤ i
 ·have h3 := h2 hi
  refine ⟨hi, ?_⟩
  cases hl' : ls[i - lentFrom]? with
  | none => rw [hl'] at h3; simp only at h3; rw [h3] at hg; cases hg
  | some l =>
   rw [hl'] at h3
   obtain ⟨o', k1, k2⟩ := h3
   rw [k2] at hg; cases hg
   exact ⟨l, rfl, k1⟩
 ·rw [h1 (by omega)] at hg; cases hg

theorem lent_all {ls : List Ln} {hl : Heap} (hlH : lentHeap st.heap ls lentFrom ls = some hl) {k : Nat} {l : Ln} (hk : ls[k]? = some l) : ∃ o, lentObj st.heap ls l = some o ∧ hl.get (lentFrom + k) = some o := by
 have h2 := (lentHeap_get hlH (lentFrom + k)).2 (by omega)
 rw [Nat.add_sub_cancel_left, hk] at h2
 exact h2

theorem lent_HR (h : HR I σ w st.heap) {ls : List Ln} {hl : Heap} (hlH : lentHeap st.heap ls lentFrom ls = some hl) (hn : (ls.map Ln.id).Nodup) (hJ : ∀ b, I b → J b) (hJ' : ∀ b, J b → I b ∨ Live σ (st.heap.bury ls) b) :
  HR J (sigL σ ls) w hl ∧ ∀ b, Live (sigL σ ls) hl b → Live σ st.heap b ∧ ¬ Live σ (st.heap.bury ls) b := by
 have hlive : ∀ i o owl b, hl.get i = some o → sigL σ ls i = some owl → owl.has b → ∃ l o0 ow0, ls[i - lentFrom]? = some l ∧ lentFrom ≤ i ∧ st.heap.get l.id = some o0 ∧ o0.live = true ∧ σ l.id = some ow0 ∧ ow0.has b := by
  intro i o owl b hg hs hb
  obtain ⟨hi, l, k1, k2⟩ := lent_get hlH hg
  obtain ⟨o0, ow0, owl', m1, m2, m3, m4, m5, m6, m7⟩ := lentObj_ok h hJ k2
  rw [sigL_at hi k1, m5] at hs
  cases hs
  exact ⟨l, o0, ow0, k1, hi, m1, m2, m4, m6 b hb⟩
 have hL : ∀ b, Live (sigL σ ls) hl b → Live σ st.heap b ∧ ¬ Live σ (st.heap.bury ls) b := by
  rintro b ⟨i, o, owl, g1, g2, g3, g4⟩
  obtain ⟨l, o0, ow0, k1, k2, k3, k4, k5, k6⟩ := hlive i o owl b g1 g3 g4
  refine ⟨⟨l.id, o0, ow0, k3, k4, k5, k6⟩, ?_⟩
  rintro ⟨i', o', ow', m1, m2, m3, m4⟩
  rw [Heap.get_bury] at m1
  split at m1
  ·cases m1; cases m2
  ·rename_i hni
   have hne : i' ≠ l.id := fun e => hni (by rw [e]; exact List.mem_map.2 ⟨l, List.mem_of_getElem? k1, rfl⟩)
   exact h.dist i' l.id o' o0 ow' ow0 b hne m1 k3 m2 k4 m3 k5 m4 k6
 refine ⟨⟨fun i o hg => ?_, fun i hg => ?_, fun b hb => ⟨fun hj => ?_, (h.own b (hL b hb).1).2⟩, fun i j oi oj owi owj b hij hi hj hli hlj hsi hsj hbi hbj => ?_, fun b hb => ?_⟩, hL⟩
 ·obtain ⟨hi, l, k1, k2⟩ := lent_get hlH hg
  obtain ⟨o0, ow0, owl, m1, m2, m3, m4, m5, m6, m7⟩ := lentObj_ok h hJ k2
  exact ⟨owl, by rw [sigL_at hi k1]; exact m5, m7⟩
 ·simp only [sigL]
  split
  ·rename_i hi
   have h2 := (lentHeap_get hlH i).2 hi
   cases hl' : ls[i - lentFrom]? with
   | none => rfl
   | some l =>
    rw [hl'] at h2
    obtain ⟨o', _, k2⟩ := h2
    rw [k2] at hg; cases hg
  ·rfl
 ·rcases hJ' b hj with hj | hj
  ·exact (h.own b (hL b hb).1).1 hj
  ·exact (hL b hb).2 hj
 ·obtain ⟨l, o0, ow0, k1, k2, k3, k4, k5, k6⟩ := hlive i oi owi b hi hsi hbi
  obtain ⟨l', o0', ow0', k1', k2', k3', k4', k5', k6'⟩ := hlive j oj owj b hj hsj hbj
  have hne : l.id ≠ l'.id := fun e => hij (by have := nodup_ids hn k1 k1' e; omega)
  exact h.dist l.id l'.id o0 o0' ow0 ow0' b hne k3 k3' k4 k4' k5 k5' k6 k6'
 ·rcases hJ' b hb with hb | ⟨i', o', ow', m1, m2, m3, m4⟩
  ·exact h.lt b hb
  ·rw [Heap.get_bury] at m1
   split at m1
   ·cases m1; cases m2
   ·exact (h.own b ⟨i', o', ow', m1, m2, m3, m4⟩).2

theorem argsOf_ok {ls : List Ln} (hb : HR I σ w (st.heap.bury ls)) {by_ : List Nat} (hJ : ∀ b, I b → J b) : ∀ {vs us : List AV} {xs : List Value} {k : Nat}, VRs I σ w vs xs → argsOf (st.heap.bury ls) ls by_ k vs = some us → (plainOwned by_ k vs = true → ∀ b, Live σ (st.heap.bury ls) b → J b) → VRs J (sigL σ ls) w us xs
 | [], us, xs, k, hv, ha, _ => by
  simp only [argsOf, Option.some.injEq] at ha
  subst ha; exact hv
 | v :: vs, us, xs, k, hv, ha, hP => by
  obtain ⟨e, es', rfl, h2, h3⟩ := hv
  simp only [argsOf, Option.bind_eq_some_iff, Option.map_eq_some_iff] at ha
  obtain ⟨u, h4, us', h5, rfl⟩ := ha
  refine ⟨e, es', rfl, ?_, argsOf_ok hb hJ h3 h5 (fun hp => hP (by simp [plainOwned, hp]))⟩
  split at h4
  ·cases h4
   exact VR.map hJ (fun _ _ => rfl) _ (fun v u hv => lentF_ok v u hv) v e h2
  ·rename_i hc
   cases ho : v.owned with
   | false =>
    rw [argOf_same _ 8 v u ho h4]
    exact VR.mono hJ (fun _ _ => rfl) (fun _ _ h => by cases h) _ _ (VR.noOwn v e ho h2)
   | true =>
    refine VR.mono (fun b hbb => ?_) (fun _ _ => rfl) (fun _ _ h => by cases h) _ _ (hb.argOf 8 v u e h2 h4)
    rcases hbb with hbb | hbb
    ·exact hJ b hbb
    ·exact hP (by simp only [plainOwned, ho, Bool.and_true, Bool.or_eq_true, Bool.not_eq_true']; left; simpa using hc) b hbb

def lentAt (i : Nat) : Nat → List Ln → Option Nat
 | _, [] => none
 | k, .a (.t id) :: ls => if id = i then some k else lentAt i (k + 1) ls
 | k, .a (.n _ _ _) :: ls => lentAt i (k + 1) ls
 | k, .b id :: ls => if id = i then some k else lentAt i (k + 1) ls
theorem lentAt_some {i : Nat} : ∀ {ls : List Ln} {n k : Nat}, lentAt i n ls = some k → n ≤ k ∧ (ls[k - n]? = some (.a (.t i)) ∨ ls[k - n]? = some (.b i))
 | [], _, _, h => by simp [lentAt] at h
 | l :: ls, n, k, h => by
  have rest : lentAt i (n + 1) ls = some k → n ≤ k ∧ ((l :: ls)[k - n]? = some (.a (.t i)) ∨ (l :: ls)[k - n]? = some (.b i)) := fun h => by
   obtain ⟨h1, h2⟩ := lentAt_some h
   refine ⟨by omega, ?_⟩
   rw [show k - n = (k - (n + 1)) + 1 from by omega]
   simpa using h2
  cases l with
  | b id =>
   simp only [lentAt] at h
   split at h
   ·rename_i e; cases h; subst e; exact ⟨Nat.le_refl _, .inr (by simp)⟩
   ·exact rest h
  | a p =>
   cases p with
   | n _ _ _ => exact rest h
   | t id =>
    simp only [lentAt] at h
    split at h
    ·rename_i e; cases h; subst e; exact ⟨Nat.le_refl _, .inl (by simp)⟩
    ·exact rest h
theorem lentAt_none {i : Nat} : ∀ {ls : List Ln} {n : Nat}, lentAt i n ls = none → ∀ l ∈ ls, l ≠ .a (.t i) ∧ l ≠ .b i
 | [], _, _, l, hl => by simp at hl
 | l' :: ls, n, h, l, hl => by
  cases l' with
  | b id =>
   simp only [lentAt] at h
   split at h
   ·cases h
   ·rename_i e
    rcases List.mem_cons.1 hl with rfl | hl
    ·exact ⟨by simp, by simpa using e⟩
    ·exact lentAt_none h l hl
  | a p =>
   cases p with
   | n _ _ _ =>
    simp only [lentAt] at h
    rcases List.mem_cons.1 hl with rfl | hl
    ·exact ⟨by simp, by simp⟩
    ·exact lentAt_none h l hl
   | t id =>
    simp only [lentAt] at h
    split at h
    ·cases h
    ·rename_i e
     rcases List.mem_cons.1 hl with rfl | hl
     ·exact ⟨by simpa using e, by simp⟩
     ·exact lentAt_none h l hl
theorem lentAt_at {ls : List Ln} (hn : (ls.map Ln.id).Nodup) {k i : Nat} (h : ls[k]? = some (.a (.t i)) ∨ ls[k]? = some (.b i)) : lentAt i 0 ls = some k := by
 cases hl : lentAt i 0 ls with
 | none =>
  have := lentAt_none hl
  rcases h with h | h
  ·exact absurd rfl (this _ (List.mem_of_getElem? h)).1
  ·exact absurd rfl (this _ (List.mem_of_getElem? h)).2
 | some k' =>
  obtain ⟨_, h2⟩ := lentAt_some hl
  rw [Nat.sub_zero] at h2
  congr 1
  rcases h with h | h <;> rcases h2 with h2 | h2 <;> exact nodup_ids hn h2 h rfl

def sigB (σ σ' : Nat → Option Own) (ls : List Ln) (ns : List Nat) (base : Nat) : Nat → Option Own := fun i =>
 if base ≤ i ∧ i < base + ns.length then (ns[i - base]?).bind σ' else match lentAt i 0 ls with
  | some k => σ' (lentFrom + k)
  | none => σ i

structure Ret (I K : Nat → Prop) (σ σ' : Nat → Option Own) (w w' : World) (h : Heap) (ls : List Ln) (hl h' : Heap) (ns : List Nat) (base : Nat) : Prop where
 hr : HR I σ w h
 lent : lentHeap h ls lentFrom ls = some hl
 nodup : (ls.map Ln.id).Nodup
 hr' : HR K σ' w' h'
 sub : ∀ b, I b → K b
 live : ∀ b, Live σ' h' b → w.heap.size ≤ b ∨ Live (sigL σ ls) hl b
 src : ∀ b, K b → I b ∨ w.heap.size ≤ b ∨ Live (sigL σ ls) hl b
 lentLive : ∀ b, Live (sigL σ ls) hl b → Live σ h b ∧ ¬ Live σ (h.bury ls) b
 mv : Moved (Live (sigL σ ls) hl) w w'
 still : ∀ id, lentFrom ≤ id → ∀ o, h'.get id = some o → o.still = true → ∀ ow, sigL σ ls id = some ow → ∃ ow', σ' id = some ow' ∧ ow'.h = ow.h
 news : ns = newIds h'
 once : ns.Nodup
 low : base + ns.length ≤ lentFrom
 away : ∀ l ∈ ls, l.id < base ∨ base + ns.length ≤ l.id

section
variable {h hl h' : Heap} {ls : List Ln} {ns : List Nat} {base : Nat} (R : Ret I K σ σ' w w' h ls hl h' ns base)
include R

theorem Ret.same {b : Nat} (hb : Live σ (h.bury ls) b) : w'.heap[b]? = w.heap[b]? := by
 have h1 : Live σ h b := by
  obtain ⟨i, o, ow, m1, m2, m3, m4⟩ := hb
  rw [Heap.get_bury] at m1
  split at m1
  ·cases m1; cases m2
  ·exact ⟨i, o, ow, m1, m2, m3, m4⟩
 exact R.mv.block b (R.hr.own b h1).2 (fun hx => (R.lentLive b hx).2 hb)
theorem Ret.sameI {b : Nat} (hb : I b) : w'.heap[b]? = w.heap[b]? :=
 R.mv.block b (R.hr.lt b hb) (fun hx => (R.hr.own b (R.lentLive b hx).1).1 hb)

theorem Ret.newSome {k : Nat} (hk : k < ns.length) : ∃ j o ow, ns[k]? = some j ∧ j < lentFrom ∧ h'.get j = some o ∧ σ' j = some ow ∧ ObjR K σ' w' ow o := by
 have hj : ns[k] ∈ newIds h' := by rw [← R.news]; exact List.getElem_mem hk
 obtain ⟨h1, o, h2⟩ := newIds_mem.1 hj
 obtain ⟨o', h3⟩ := Heap.mem_get h2
 obtain ⟨ow, h4, h5⟩ := R.hr'.objs _ _ h3
 exact ⟨ns[k], o', ow, by simp [hk], h1, h3, h4, h5⟩

theorem Ret.sigNew {k j : Nat} (hk : ns[k]? = some j) : sigB σ σ' ls ns base (base + k) = σ' j := by
 have hlt := (List.getElem?_eq_some_iff.1 hk).1
 simp only [sigB]
 rw [if_pos (by omega), Nat.add_sub_cancel_left, hk]; rfl

theorem Ret.sigLent {k i : Nat} (hk : ls[k]? = some (.a (.t i)) ∨ ls[k]? = some (.b i)) : sigB σ σ' ls ns base i = σ' (lentFrom + k) := by
 have hm : ∃ l ∈ ls, l.id = i := by
  rcases hk with hk | hk <;> exact ⟨_, List.mem_of_getElem? hk, rfl⟩
 obtain ⟨l, hl1, hl2⟩ := hm
 have := R.away l hl1
 simp only [sigB]
 rw [if_neg (by omega), lentAt_at R.nodup hk]

theorem Ret.sigOther {i : Nat} (h1 : ¬ (base ≤ i ∧ i < base + ns.length)) (h2 : ∀ l ∈ ls, l ≠ .a (.t i) ∧ l ≠ .b i) : sigB σ σ' ls ns base i = σ i := by
 simp only [sigB, if_neg h1]
 cases hl : lentAt i 0 ls with
 | none => rfl
 | some k =>
  obtain ⟨_, q⟩ := lentAt_some hl
  rw [Nat.sub_zero] at q
  rcases q with q | q
  ·exact absurd rfl (h2 _ (List.mem_of_getElem? q)).1
  ·exact absurd rfl (h2 _ (List.mem_of_getElem? q)).2

theorem Ret.backT {i : Nat} {q : Pl} (hq : Go.Q.backT base ls ns i = some q) {ow : Own} (hi : σ' i = some ow) (hst : ∀ id j off, q = .n id j off → ∃ o, h'.get i = some o ∧ o.still = true) :
  hdrOf (sigB σ σ' ls ns base) q = some ow.h ∧ ∀ id, q = .t id → sigB σ σ' ls ns base id = some ow := by
 unfold Go.Q.backT at hq
 split at hq
 ·rw [Option.map_eq_some_iff] at hq
  obtain ⟨k, h1, rfl⟩ := hq
  obtain ⟨h2, h3⟩ := indexN_some h1
  have := R.sigNew h3
  rw [show base + (k - base) = k from by omega] at this
  exact ⟨by simp only [hdrOf, this, hi]; rfl, fun id e => by cases e; rw [this, hi]⟩
 ·rename_i hlo
  rw [getL_eq] at hq
  have hi' : lentFrom + (i - lentFrom) = i := by omega
  split at hq
  ·rename_i p hp
   cases hq
   cases q with
   | t id =>
    have := R.sigLent (.inl hp)
    rw [hi'] at this
    exact ⟨by simp only [hdrOf, this, hi]; rfl, fun id' e => by cases e; rw [this, hi]⟩
   | n id j off =>
    refine ⟨?_, fun _ e => by cases e⟩
    obtain ⟨o, hg, hs⟩ := hst id j off rfl
    have hsl : sigL σ ls i = ownOf σ (.a (.n id j off)) := sigL_at (by omega) hp
    obtain ⟨o1, ho1, hg1⟩ := lent_all (st := ⟨[], h⟩) R.lent hp
    obtain ⟨o0, ow0, owl, m1, m2, m3, m4, m5, m6, m7⟩ := lentObj_ok (st := ⟨[], h⟩) R.hr R.sub ho1
    obtain ⟨ow', q1, q2⟩ := R.still i (by omega) o hg hs owl (by rw [hsl]; exact m5)
    rw [hi] at q1; cases q1
    have hid : ∀ l ∈ ls, l ≠ .a (.t id) ∧ l ≠ .b id := fun l hl => by
     obtain ⟨k', hk'⟩ := List.mem_iff_getElem?.1 hl
     constructor
     ·rintro rfl; have := nodup_ids R.nodup hp hk' rfl; subst this; rw [hp] at hk'; cases hk'
     ·rintro rfl; have := nodup_ids R.nodup hp hk' rfl; subst this; rw [hp] at hk'; cases hk'
    have hso := R.sigOther (i := id) (by have := R.away _ (List.mem_of_getElem? hp); simp only [Ln.id, Pl.id] at this; omega) hid
    have hH : hdrOf σ (.n id j off) = some owl.h := by
     rw [← ownOf_hdr, m5]; rfl
    simp only [hdrOf] at hH ⊢
    rw [hso, hH, q2]
  ·rename_i id hp
   cases hq
   have := R.sigLent (.inr hp)
   rw [hi'] at this
   exact ⟨by simp only [hdrOf, this, hi]; rfl, fun id' e => by cases e; rw [this, hi]⟩
  ·cases hq

theorem Ret.backF (hst : ∀ k l id j off, ls[k]? = some l → l = .a (.n id j off) → ∃ o, h'.get (lentFrom + k) = some o ∧ o.still = true) (v : AV) (u : Value) (hv : LR σ' v u) : VR K (sigB σ σ' ls ns base) w' (Go.Q.backF base ls ns v) u := by
 have hst' : ∀ (i : Nat) (q : Pl), Go.Q.backT base ls ns i = some q → ∀ id j off, q = .n id j off → ∃ o, h'.get i = some o ∧ o.still = true := by
  intro i q hq id j off e
  subst e
  unfold Go.Q.backT at hq
  split at hq
  ·rw [Option.map_eq_some_iff] at hq; obtain ⟨k, _, e⟩ := hq; cases e
  ·rename_i hlo
   rw [getL_eq] at hq
   split at hq
   ·rename_i p hp
    cases hq
    have := hst _ _ id j off hp rfl
    rwa [show lentFrom + (i - lentFrom) = i from by omega] at this
   ·cases hq
   ·cases hq
 have hP : ∀ p q H, backP base ls ns p = some q → hdrOf σ' p = some H → hdrOf (sigB σ σ' ls ns base) q = some H := by
  intro p q H hq hH
  cases p with
  | t i =>
   simp only [hdrOf, Option.map_eq_some_iff] at hH
   obtain ⟨ow, h1, rfl⟩ := hH
   exact (R.backT hq h1 (hst' i q hq)).1
  | n i j off =>
   simp only [backP] at hq
   split at hq
   ·rename_i id hb
    cases hq
    simp only [hdrOf, Option.bind_eq_some_iff] at hH
    obtain ⟨ow, h1, h2⟩ := hH
    have := (R.backT hb h1 (hst' i _ hb)).2 id rfl
    simp only [hdrOf, this, Option.bind_some]; exact h2
   ·cases hq
 cases v <;> first | exact hv.elim | skip
 case os p =>
  simp only [Go.Q.backF]
  split
  ·rename_i q hq
   obtain ⟨H, A, n, cap, h1, h2, h3⟩ := hv
   exact ⟨H, A, n, cap, hP p q H hq h1, h2, h3⟩
  ·trivial
 case sub p a n =>
  simp only [Go.Q.backF]
  split
  ·rename_i q hq
   obtain ⟨H, A, len, cap, h1, h2⟩ := hv
   exact ⟨H, A, len, cap, hP p q H hq h1, h2⟩
  ·trivial
 case el p i off =>
  simp only [Go.Q.backF]
  split
  ·rename_i q hq
   obtain ⟨H, b, o, len, cap, h1, h2⟩ := hv
   exact ⟨H, b, o, len, cap, hP p q H hq h1, h2⟩
  ·trivial
 case op i off =>
  simp only [Go.Q.backF]
  split
  ·rename_i id hq
   obtain ⟨ow, b, h1, h2, h3⟩ := hv
   exact ⟨ow, b, (R.backT hq h1 (hst' i _ hq)).2 id rfl, h2, h3⟩
  ·trivial
 case mp i =>
  simp only [Go.Q.backF]
  split
  ·rename_i id hq
   obtain ⟨ow, b, h1, h2, h3⟩ := hv
   exact ⟨ow, b, (R.backT hq h1 (hst' i _ hq)).2 id rfl, h2, h3⟩
  ·trivial

theorem Ret.lostF {us : List (Nat × Obj)} {f : AV → AV} (hus : backObjs f h h' lentFrom ls = some us) (v : AV) (u : Value) (hv : LR σ v u) :
  VR K (sigB σ σ' ls ns base) w' (Go.Q.lostF (movedIds h' lentFrom ls ++ upTo base ns.length) (wholeIds ls) v) u := by
 obtain ⟨_, hlk, _⟩ := backObjs_look hus
 have hlk := hlk R.nodup
 have key : ∀ id, (movedIds h' lentFrom ls ++ upTo base ns.length).contains id = false → ∀ ow, σ id = some ow → ∃ ow', sigB σ σ' ls ns base id = some ow' ∧ ow'.h = ow.h ∧ (id ∉ wholeIds ls → ∀ j off H, ow.inn j off = some H → ow'.inn j off = some H) := by
  intro id hid ow how
  simp only [List.contains_eq_mem, decide_eq_false_iff_not, List.mem_append, not_or, mem_upTo] at hid
  obtain ⟨hid1, hid2⟩ := hid
  cases hla : lentAt id 0 ls with
  | none =>
   refine ⟨ow, ?_, rfl, fun _ _ _ _ h => h⟩
   rw [R.sigOther hid2 (lentAt_none hla)]; exact how
  | some k =>
   obtain ⟨_, hk⟩ := lentAt_some hla
   rw [Nat.sub_zero] at hk
   rw [R.sigLent hk]
   have hsl : sigL σ ls (lentFrom + k) = σ id := by
    rcases hk with hk | hk
    ·rw [sigL_at (l := .a (.t id)) (by omega) (by rw [Nat.add_sub_cancel_left]; exact hk)]; rfl
    ·rw [sigL_at (l := .b id) (by omega) (by rw [Nat.add_sub_cancel_left]; exact hk)]; rfl
   rcases hk with hk | hk
   ·-- an array whose header is the same
    by_cases hst : ∃ d t xs, h'.get (lentFrom + k) = some (.arr false d t xs)
    ·obtain ⟨d, t, xs, hg⟩ := hst
     obtain ⟨ow', q1, q2⟩ := R.still (lentFrom + k) (by omega) _ hg rfl ow (by rw [hsl]; exact how)
     exact ⟨ow', q1, q2, fun hn => absurd (wholeIds_mem (.inl (List.mem_of_getElem? hk))) hn⟩
    ·exact absurd (movedIds_mem ⟨k, hk, fun d t xs hg => hst ⟨d, t, xs, hg⟩⟩) hid1
   ·-- a variable, or a map
    obtain ⟨o, h1, _⟩ := hlk k (.b id) hk
    simp only [backObj, Option.bind_eq_some_iff] at h1
    obtain ⟨o0, g0, o1, g1, h1⟩ := h1
    obtain ⟨ow0, e0, hob⟩ := R.hr.objs id o0 g0
    rw [how] at e0; cases e0
    have hstill : o1.still = true := by
     split at h1 <;> first | rfl | cases h1
    obtain ⟨ow', q1, q2⟩ := R.still (lentFrom + k) (by omega) _ g1 hstill ow (by rw [hsl]; exact how)
    exact ⟨ow', q1, q2, fun hn => absurd (wholeIds_mem (.inr (List.mem_of_getElem? hk))) hn⟩
 have hdr : ∀ p H, ¬ ((movedIds h' lentFrom ls ++ upTo base ns.length).contains p.id = true ∨ (p.isIn = true ∧ (wholeIds ls).contains p.id = true)) → hdrOf σ p = some H → hdrOf (sigB σ σ' ls ns base) p = some H := by
  intro p H hp hH
  simp only [not_or, Bool.not_eq_true] at hp
  cases p with
  | t id =>
   simp only [hdrOf, Option.map_eq_some_iff] at hH
   obtain ⟨ow, h1, rfl⟩ := hH
   obtain ⟨ow', q1, q2, _⟩ := key id hp.1 ow h1
   simp only [hdrOf, q1, Option.map_some, q2]
  | n id j off =>
   simp only [hdrOf, Option.bind_eq_some_iff] at hH
   obtain ⟨ow, h1, h2⟩ := hH
   obtain ⟨ow', q1, _, q3⟩ := key id hp.1 ow h1
   have hn : id ∉ wholeIds ls := fun hm => by
    have h4 := hp.2
    simp only [Pl.isIn, Pl.id, true_and] at h4
    simp [hm] at h4
   simp only [hdrOf, q1, Option.bind_some]
   exact q3 hn j off H h2
 cases v <;> first | exact hv.elim | skip
 case os p =>
  simp only [Go.Q.lostF]
  split
  ·trivial
  ·rename_i hp
   obtain ⟨H, A, n, cap, h1, h2, h3⟩ := hv
   exact ⟨H, A, n, cap, hdr p H hp h1, h2, h3⟩
 case sub p a n =>
  simp only [Go.Q.lostF]
  split
  ·trivial
  ·rename_i hp
   obtain ⟨H, A, len, cap, h1, h2⟩ := hv
   exact ⟨H, A, len, cap, hdr p H hp h1, h2⟩
 case el p i off =>
  simp only [Go.Q.lostF]
  split
  ·trivial
  ·rename_i hp
   obtain ⟨H, b, o, len, cap, h1, h2⟩ := hv
   exact ⟨H, b, o, len, cap, hdr p H hp h1, h2⟩
 case op i off =>
  simp only [Go.Q.lostF]
  split
  ·trivial
  ·rename_i hp
   obtain ⟨ow, b, h1, h2, h3⟩ := hv
   obtain ⟨ow', q1, q2, _⟩ := key i (by simpa using hp) ow h1
   exact ⟨ow', b, q1, by rw [q2]; exact h2, h3⟩
 case mp i =>
  simp only [Go.Q.lostF]
  split
  ·trivial
  ·rename_i hp
   obtain ⟨ow, b, h1, h2, h3⟩ := hv
   obtain ⟨ow', q1, q2, _⟩ := key i (by simpa using hp) ow h1
   exact ⟨ow', b, q1, by rw [q2]; exact h2, h3⟩

end
end
end Go.Q

namespace Go.Q
set_option linter.unusedVariables false
set_option linter.unusedSimpArgs false
set_option linter.unusedSectionVars false
open Go
section
variable {P : Program} {E : Env} {L : Nat → Prop} {I I' J K : Nat → Prop} {σ σ' : Nat → Option Own} {st st' : St} {w w' : World}
section
variable {h hl h' : Heap} {ls : List Ln} {ns : List Nat} {base : Nat} (R : Ret I K σ σ' w w' h ls hl h' ns base)

def finalHeap (h h' : Heap) (ls : List Ln) (ns : List Nat) (base : Nat) (us : List (Nat × Obj)) : Heap :=
 ((Heap.mapR (Go.Q.lostF (movedIds h' lentFrom ls ++ upTo base ns.length) (wholeIds ls)) (h.bury ls)).puts us).puts (newObjs (Go.Q.backF base ls ns) h' base ns)

inductive Cat (σ σ' : Nat → Option Own) (h h' : Heap) (ls : List Ln) (ns : List Nat) (base : Nat) (i : Nat) (o : Obj) : Prop where
 | new (k j : Nat) (o0 : Obj) (ow : Own) (hi : i = base + k) (hk : ns[k]? = some j) (hj : j < lentFrom) (hg : h'.get j = some o0) (hs : σ' j = some ow) (ho : o = o0.mapR (Go.Q.backF base ls ns)) (hσ : sigB σ σ' ls ns base i = some ow)
 | lent (k : Nat) (o0 : Obj) (ow : Own) (hk : ls[k]? = some (.a (.t i)) ∨ ls[k]? = some (.b i)) (hg : h'.get (lentFrom + k) = some o0) (hs : σ' (lentFrom + k) = some ow) (hσ : sigB σ σ' ls ns base i = some ow)
   (ho : ∀ (I : Nat → Prop) (σ1 : Nat → Option Own) (w : World), ObjR I σ1 w ow (o0.mapR (Go.Q.backF base ls ns)) → ObjR I σ1 w ow o) (hl : o.live = true → o0.live = true) (hst : o.still = true → o0.still = true ∧ ∃ o1, h.get i = some o1 ∧ o1.still = true)
 | inner (k j off : Nat) (o1 : Obj) (t : Ty) (xs ys : List t.Den) (hk : ls[k]? = some (.a (.n i j off))) (hg : h.get i = some o1) (ha : h.arrAt (.n i j off) = some (.d (.slice t) ys)) (ho : o1.setIn j off t xs = some o) (hg' : h'.get (lentFrom + k) = some (.arr false false t xs)) (hσ : sigB σ σ' ls ns base i = σ i)
 | old (o0 : Obj) (hn : i ∉ ls.map Ln.id) (hr : ¬ (base ≤ i ∧ i < base + ns.length)) (hg : h.get i = some o0) (ho : o = o0.mapR (Go.Q.lostF (movedIds h' lentFrom ls ++ upTo base ns.length) (wholeIds ls))) (hσ : sigB σ σ' ls ns base i = σ i)

include R
theorem Ret.getF {us : List (Nat × Obj)} (hus : backObjs (Go.Q.backF base ls ns) h h' lentFrom ls = some us) (i : Nat) :
  (finalHeap h h' ls ns base us).get i = if base ≤ i ∧ i < base + ns.length then (ns[i - base]?).map fun j => ((h'.get j).getD .dead).mapR (Go.Q.backF base ls ns) else match lookT us i with
   | some o => some o
   | none => (h.get i).map (Obj.mapR (Go.Q.lostF (movedIds h' lentFrom ls ++ upTo base ns.length) (wholeIds ls))) := by
 obtain ⟨hk1, hk2, hk3⟩ := backObjs_look hus
 unfold finalHeap
 rw [Heap.get_puts i (by rw [newObjs_keys]; exact upTo_nodup), newObjs_look, Heap.get_puts i (by rw [hk1]; exact R.nodup), Heap.get_mapR, Heap.get_bury]
 by_cases h1 : base ≤ i ∧ i < base + ns.length
 ·rw [if_pos h1, if_pos h1.1]
  have : i - base < ns.length := by omega
  simp [this]
 ·rw [if_neg h1]
  have hnone : (if base ≤ i then (ns[i - base]?).map fun j => ((h'.get j).getD .dead).mapR (Go.Q.backF base ls ns) else none) = none := by
   split
   ·have : ns[i - base]? = none := List.getElem?_eq_none (by omega)
    rw [this]; rfl
   ·rfl
  rw [hnone]
  simp only
  cases hlk : lookT us i with
  | some o => rfl
  | none =>
   simp only
   have hni : i ∉ ls.map Ln.id := fun hm => by
    obtain ⟨l, hl1, hl2⟩ := List.mem_map.1 hm
    obtain ⟨k, hkk⟩ := List.mem_iff_getElem?.1 hl1
    obtain ⟨o, _, ho⟩ := hk2 R.nodup k l hkk
    rw [hl2, hlk] at ho; cases ho
   rw [if_neg hni]

theorem Ret.cat {us : List (Nat × Obj)} (hus : backObjs (Go.Q.backF base ls ns) h h' lentFrom ls = some us) {i : Nat} {o : Obj} (hg : (finalHeap h h' ls ns base us).get i = some o) : Cat σ σ' h h' ls ns base i o := by
 rw [R.getF hus] at hg
 obtain ⟨hk1, hk2, hk3⟩ := backObjs_look hus
 split at hg
 ·rename_i hr
  obtain ⟨j, o0, ow, q1, q2, q3, q4, _⟩ := R.newSome (k := i - base) (by omega)
  rw [q1, Option.map_some, Option.some.injEq, q3] at hg
  refine .new (i - base) j o0 ow (by omega) q1 q2 q3 q4 hg.symm ?_
  have := R.sigNew q1
  rw [show base + (i - base) = i from by omega] at this
  rw [this, q4]
 ·rename_i hr
  by_cases hm : i ∈ ls.map Ln.id
  ·obtain ⟨l, hl1, hl2⟩ := List.mem_map.1 hm
   obtain ⟨k, hkk⟩ := List.mem_iff_getElem?.1 hl1
   obtain ⟨o', hb, hlk⟩ := hk2 R.nodup k l hkk
   rw [hl2] at hlk
   rw [hlk] at hg
   simp only [Option.some.injEq] at hg
   subst hg
   cases l with
   | b id =>
    simp only [Ln.id] at hl2
    subst hl2
    simp only [backObj, Option.bind_eq_some_iff] at hb
    obtain ⟨o1, g1, o0, g0, hb⟩ := hb
    obtain ⟨ow, hs, _⟩ := R.hr'.objs _ _ g0
    refine .lent k o0 ow (.inr hkk) g0 hs (by rw [R.sigLent (.inr hkk)]; exact hs) ?_ ?_ ?_
    ·split at hb
     ·cases hb; exact fun _ _ _ h => h
     ·cases hb; exact fun _ _ _ h => h
     ·cases hb; exact fun _ _ _ h => h
     ·cases hb
    ·split at hb
     ·cases hb; exact fun h => h
     ·cases hb; exact fun h => h
     ·cases hb; exact fun h => h
     ·cases hb
    ·split at hb
     ·cases hb; exact fun h => ⟨rfl, _, g1, rfl⟩
     ·cases hb; exact fun h => ⟨rfl, _, g1, rfl⟩
     ·cases hb; exact fun h => ⟨rfl, _, g1, rfl⟩
     ·cases hb
   | a p =>
    cases p with
    | t id =>
     simp only [Ln.id, Pl.id] at hl2
     subst hl2
     simp only [backObj, Option.bind_eq_some_iff] at hb
     obtain ⟨o1, g1, o0, g0, hb⟩ := hb
     obtain ⟨ow, hs, _⟩ := R.hr'.objs _ _ g0
     refine .lent k o0 ow (.inl hkk) g0 hs (by rw [R.sigLent (.inl hkk)]; exact hs) ?_ ?_ ?_
     ·split at hb
      ·cases hb; exact fun _ _ _ h => h
      ·cases hb; exact fun _ _ _ h => trivial
      ·cases hb
     ·split at hb
      ·cases hb; exact fun h => rfl
      ·cases hb; exact fun h => h
      ·cases hb
     ·split at hb
      ·rename_i m _ _ _ m' _ _ _
       cases hb
       intro hst
       simp only [Obj.still, Bool.not_eq_true', Bool.or_eq_false_iff] at hst ⊢
       exact ⟨hst.2, _, g1, by simp [hst.1]⟩
      ·cases hb; intro hst; cases hst
      ·cases hb
    | n id j off =>
     simp only [Ln.id, Pl.id] at hl2
     subst hl2
     simp only [backObj, Option.bind_eq_some_iff] at hb
     obtain ⟨o1, g1, v, ga, o0, g0, hb⟩ := hb
     split at hb
     ·rename_i t xs t' ys
      split at hb
      ·rename_i e
       subst e
       have hid : ∀ l ∈ ls, l ≠ .a (.t id) ∧ l ≠ .b id := fun l hl => by
        obtain ⟨k', hk'⟩ := List.mem_iff_getElem?.1 hl
        constructor
        ·rintro rfl; have := nodup_ids R.nodup hkk hk' rfl; subst this; rw [hkk] at hk'; cases hk'
        ·rintro rfl; have := nodup_ids R.nodup hkk hk' rfl; subst this; rw [hkk] at hk'; cases hk'
       exact .inner k j off o1 t' xs ys hkk g1 ga hb g0 (R.sigOther hr hid)
      ·cases hb
     ·cases hb
  ·rw [hk3 i hm] at hg
   simp only [Option.map_eq_some_iff] at hg
   obtain ⟨o0, g0, rfl⟩ := hg
   refine .old o0 hm hr g0 rfl (R.sigOther hr fun l hl => ⟨?_, ?_⟩)
   ·rintro rfl; exact hm (List.mem_map.2 ⟨_, hl, rfl⟩)
   ·rintro rfl; exact hm (List.mem_map.2 ⟨_, hl, rfl⟩)

theorem Ret.innerBlock {k i j off : Nat} (hk : ls[k]? = some (.a (.n i j off))) {ow : Own} (hs : σ i = some ow) {o : Obj} (hg : h.get i = some o) (hol : o.live = true) {b : Nat} (hb : ow.has b) (hlb : Live (sigL σ ls) hl b) {H : Hdr} (hH : hdrOf σ (.n i j off) = some H) : blockOf H.v = some b := by
 obtain ⟨x, ox, owx, g1, g2, g3, g4⟩ := hlb
 obtain ⟨hx, l, k1, k2⟩ := lent_get (st := ⟨[], h⟩) R.lent g1
 obtain ⟨o0, ow0, owl, m1, m2, m3, m4, m5, m6, m7⟩ := lentObj_ok (st := ⟨[], h⟩) R.hr R.sub k2
 rw [sigL_at hx k1, m5] at g3
 cases g3
 by_cases e : l.id = i
 ·have := nodup_ids R.nodup k1 hk e
  rw [this] at k1
  rw [hk] at k1; cases k1
  simp only [ownOf, hH, Option.map_some, Option.some.injEq] at m5
  subst m5
  rcases g4 with g4 | ⟨_, _, _, g4, _⟩
  ·exact g4
  ·cases g4
 ·exact absurd hb (R.hr.dist l.id i o0 o ow0 ow b e m1 hg m2 hol m4 hs (m6 b g4))

theorem Ret.innerHdr {k i j off : Nat} (hk : ls[k]? = some (.a (.n i j off))) {t : Ty} {xs : List t.Den} (hg : h'.get (lentFrom + k) = some (.arr false false t xs)) : ∃ H ow, hdrOf σ (.n i j off) = some H ∧ σ' (lentFrom + k) = some ow ∧ ow.h = H ∧ PlainArr K w' t xs H.v := by
 obtain ⟨o1, ho1, hg1⟩ := lent_all (st := ⟨[], h⟩) R.lent hk
 obtain ⟨o0, ow0, owl, m1, m2, m3, m4, m5, m6, m7⟩ := lentObj_ok (st := ⟨[], h⟩) R.hr R.sub ho1
 have hsl : sigL σ ls (lentFrom + k) = some owl := by rw [sigL_at (l := .a (.n i j off)) (by omega) (by rw [Nat.add_sub_cancel_left]; exact hk)]; exact m5
 obtain ⟨ow, q1, q2⟩ := R.still (lentFrom + k) (by omega) _ hg rfl owl hsl
 have hH : hdrOf σ (.n i j off) = some owl.h := by rw [← ownOf_hdr, m5]; rfl
 refine ⟨owl.h, ow, hH, q1, q2, ?_⟩
 obtain ⟨ow', r1, r2, r3, r4, cs, r5, r6⟩ := R.hr'.objs _ _ hg
 rw [q1] at r1; cases r1
 rw [← q2]
 exact ⟨cs, r5, fun i hi => by have := r6 i hi; simpa [EltR] using this⟩

theorem Ret.hst {us : List (Nat × Obj)} (hus : backObjs (Go.Q.backF base ls ns) h h' lentFrom ls = some us) : ∀ k l id j off, ls[k]? = some l → l = .a (.n id j off) → ∃ o, h'.get (lentFrom + k) = some o ∧ o.still = true := by
 rintro k l id j off hk rfl
 obtain ⟨_, hk2, _⟩ := backObjs_look hus
 obtain ⟨o', hb, _⟩ := hk2 R.nodup k _ hk
 simp only [backObj, Option.bind_eq_some_iff] at hb
 obtain ⟨o1, g1, v, ga, o0, g0, hb⟩ := hb
 split at hb
 ·exact ⟨_, g0, rfl⟩
 ·cases hb

theorem Ret.blocks {us : List (Nat × Obj)} (hus : backObjs (Go.Q.backF base ls ns) h h' lentFrom ls = some us) {i : Nat} {o : Obj} (hg : (finalHeap h h' ls ns base us).get i = some o) (hl' : o.live = true) {ow : Own} (hs : sigB σ σ' ls ns base i = some ow) :
  (∃ j o0, h'.get j = some o0 ∧ o0.live = true ∧ σ' j = some ow ∧ ((∃ k, i = base + k ∧ ns[k]? = some j ∧ j < lentFrom) ∨ ∃ k, j = lentFrom + k ∧ (ls[k]? = some (.a (.t i)) ∨ ls[k]? = some (.b i)))) ∨
  (∃ o1, h.get i = some o1 ∧ o1.live = true ∧ σ i = some ow ∧ ∀ b, ow.has b → Live (sigL σ ls) hl b → ∃ k j off t xs, ls[k]? = some (.a (.n i j off)) ∧ h'.get (lentFrom + k) = some (.arr false false t xs) ∧ ∃ ow', σ' (lentFrom + k) = some ow' ∧ ow'.has b) := by
 cases R.cat hus hg with
 | new k j o0 ow' hi hk hj hg' hs' ho hσ =>
  rw [hσ] at hs; cases hs
  exact .inl ⟨j, o0, hg', by rw [ho, Obj.live_mapR] at hl'; exact hl', hs', .inl ⟨k, hi, hk, hj⟩⟩
 | lent k o0 ow' hk hg' hs' hσ ho hl2 hst =>
  rw [hσ] at hs; cases hs
  exact .inl ⟨_, o0, hg', hl2 hl', hs', .inr ⟨k, rfl, hk⟩⟩
 | inner k j off o1 t xs ys hk hg1 ha ho hg' hσ =>
  rw [hσ] at hs
  have hl1 : o1.live = true := by cases o1 <;> first | rfl | simp [Obj.setIn] at ho
  refine .inr ⟨o1, hg1, hl1, hs, fun b hb hlb => ⟨k, j, off, t, xs, hk, hg', ?_⟩⟩
  obtain ⟨H, ow', q1, q2, q3, _⟩ := R.innerHdr hk hg'
  exact ⟨ow', q2, .inl (by rw [q3]; exact R.innerBlock hk hs hg1 hl1 hb hlb q1)⟩
 | old o0 hn hr hg0 ho hσ =>
  rw [hσ] at hs
  have hl0 : o0.live = true := by rw [ho, Obj.live_mapR] at hl'; exact hl'
  refine .inr ⟨o0, hg0, hl0, hs, fun b hb hlb => ?_⟩
  exact absurd ⟨i, o0, ow, by rw [Heap.get_bury, if_neg hn]; exact hg0, hl0, hs, hb⟩ (R.lentLive b hlb).2

theorem Ret.final {us : List (Nat × Obj)} (hus : backObjs (Go.Q.backF base ls ns) h h' lentFrom ls = some us) : HR K (sigB σ σ' ls ns base) w' (finalHeap h h' ls ns base us) := by
 have hback : ∀ v u, LR σ' v u → VR K (sigB σ σ' ls ns base) w' (Go.Q.backF base ls ns v) u := R.backF (R.hst hus)
 have hmapB : ∀ vs es, VRs K σ' w' vs es → VRs K (sigB σ σ' ls ns base) w' (AV.mapRs (Go.Q.backF base ls ns) vs) es := fun vs es hv => VRs.map (fun _ h => h) (fun _ _ => rfl) _ hback vs es hv
 have hlost := R.lostF hus
 have hnew : ∀ b, w.heap.size ≤ b → ¬ Live σ h b := fun b hb hx => by have := (R.hr.own b hx).2; omega
 refine ⟨fun i o hg => ?_, fun i hg => ?_, fun b hb => ?_, fun i i' o o' ow ow' b hii hg hg' hl1 hl2 hs hs' hb hb' => ?_, R.hr'.lt⟩
 ·cases R.cat hus hg with
  | new k j o0 ow hi hk hj hg' hs' ho hσ =>
   obtain ⟨ow', q1, q2⟩ := R.hr'.objs j o0 hg'
   rw [hs'] at q1; cases q1
   exact ⟨ow, hσ, by rw [ho]; exact ObjR.map (fun _ h => h) (fun _ _ => rfl) (fun _ _ _ => rfl) _ hmapB q2⟩
  | lent k o0 ow hk hg' hs' hσ ho hl2 hst =>
   obtain ⟨ow', q1, q2⟩ := R.hr'.objs _ o0 hg'
   rw [hs'] at q1; cases q1
   exact ⟨ow, hσ, ho _ _ _ (ObjR.map (fun _ h => h) (fun _ _ => rfl) (fun _ _ _ => rfl) _ hmapB q2)⟩
  | inner k j off o1 t xs ys hk hg1 ha ho hg' hσ =>
   obtain ⟨H, ow', q1, q2, q3, q4⟩ := R.innerHdr hk hg'
   have hl1 : o1.live = true := by cases o1 <;> first | rfl | simp [Obj.setIn] at ho
   obtain ⟨ow, r1, r2, _⟩ := ObjR.setIn (st := ⟨[], h⟩) (I' := K) (σ' := sigB σ σ' ls ns base) R.hr hg1 ha q1 q4 R.sub (fun b hb => R.sameI hb)
    (fun ow1 b h1 h2 h3 => R.mv.block b (R.hr.own b ⟨i, o1, ow1, hg1, hl1, h1, h2⟩).2 (fun hx => h3 (R.innerBlock hk h1 hg1 hl1 h2 hx q1))) ho
   exact ⟨ow, by rw [hσ]; exact r1, r2⟩
  | old o0 hn hr hg0 ho hσ =>
   obtain ⟨ow, r1, r2⟩ := R.hr.objs i o0 hg0
   refine ⟨ow, by rw [hσ]; exact r1, ?_⟩
   rw [ho]
   refine ObjR.map R.sub (fun b hb => R.sameI hb) (fun hl0 b hb => R.same ⟨i, o0, ow, by rw [Heap.get_bury, if_neg hn]; exact hg0, hl0, r1, hb⟩) _ (fun vs es hv => VRs.map R.sub (fun b hb => R.sameI hb) _ hlost vs es hv) r2
 ·rw [R.getF hus] at hg
  split at hg
  ·rename_i hr
   obtain ⟨j, o0, ow, q1, _⟩ := R.newSome (k := i - base) (by omega)
   rw [q1] at hg; cases hg
  ·rename_i hr
   obtain ⟨hk1, hk2, hk3⟩ := backObjs_look hus
   cases hlk : lookT us i with
   | some o => rw [hlk] at hg; cases hg
   | none =>
    rw [hlk] at hg
    simp only [Option.map_eq_none_iff] at hg
    have hni : ∀ l ∈ ls, l.id ≠ i := fun l hl1 e => by
     obtain ⟨k, hkk⟩ := List.mem_iff_getElem?.1 hl1
     obtain ⟨o, _, ho⟩ := hk2 R.nodup k l hkk
     rw [e, hlk] at ho; cases ho
    rw [R.sigOther hr (fun l hl1 => ⟨fun e => hni l hl1 (by rw [e]; rfl), fun e => hni l hl1 (by rw [e]; rfl)⟩)]
    exact R.hr.dom i hg
 ·obtain ⟨i, o, ow, hg, hl1, hs, hb⟩ := hb
  rcases R.blocks hus hg hl1 hs with ⟨j, o0, g1, g2, g3, _⟩ | ⟨o1, g1, g2, g3, g4⟩
  ·exact R.hr'.own b ⟨j, o0, ow, g1, g2, g3, hb⟩
  ·have hlv : Live σ h b := ⟨i, o1, ow, g1, g2, g3, hb⟩
   refine ⟨fun hK => ?_, Nat.lt_of_lt_of_le (R.hr.own b hlv).2 R.mv.size⟩
   rcases R.src b hK with h1 | h1 | h1
   ·exact (R.hr.own b hlv).1 h1
   ·exact hnew b h1 hlv
   ·obtain ⟨k, j, off, t, xs, _, q2, ow', q3, q4⟩ := g4 b hb h1
    exact (R.hr'.own b ⟨_, _, ow', q2, rfl, q3, q4⟩).1 hK
 ·-- no block is two objects'
  have cross : ∀ {i i' : Nat} {ow ow' : Own}, (∃ j o0, h'.get j = some o0 ∧ o0.live = true ∧ σ' j = some ow ∧ ((∃ k, i = base + k ∧ ns[k]? = some j ∧ j < lentFrom) ∨ ∃ k, j = lentFrom + k ∧ (ls[k]? = some (.a (.t i)) ∨ ls[k]? = some (.b i)))) →
    (∃ o1, h.get i' = some o1 ∧ o1.live = true ∧ σ i' = some ow' ∧ ∀ b, ow'.has b → Live (sigL σ ls) hl b → ∃ k j off t xs, ls[k]? = some (.a (.n i' j off)) ∧ h'.get (lentFrom + k) = some (.arr false false t xs) ∧ ∃ ow', σ' (lentFrom + k) = some ow' ∧ ow'.has b) → ow.has b → ow'.has b → False := by
   rintro i i' ow ow' ⟨j, o0, g1, g2, g3, g4⟩ ⟨o1, r1, r2, r3, r4⟩ hb hb'
   have hlv : Live σ h b := ⟨i', o1, ow', r1, r2, r3, hb'⟩
   rcases R.live b ⟨j, o0, ow, g1, g2, g3, hb⟩ with h1 | h1
   ·exact hnew b h1 hlv
   ·obtain ⟨k, j', off, t, xs, q1, q2, ow2, q3, q4⟩ := r4 b hb' h1
    have hne : j ≠ lentFrom + k := by
     rintro rfl
     rcases g4 with ⟨_, _, _, hj⟩ | ⟨k', e, hk'⟩
     ·omega
     ·have : k = k' := by omega
      subst this
      rw [q1] at hk'
      rcases hk' with hk' | hk' <;> cases hk'
    exact R.hr'.dist j (lentFrom + k) o0 _ ow ow2 b hne g1 q2 g2 rfl g3 q3 hb q4
  have c1 := R.blocks hus hg hl1 hs
  have c2 := R.blocks hus hg' hl2 hs'
  rcases c1 with c1 | c1
  ·rcases c2 with c2 | c2
   ·obtain ⟨j, o0, g1, g2, g3, g4⟩ := c1
    obtain ⟨j', o0', g1', g2', g3', g4'⟩ := c2
    have hne : j ≠ j' := by
     rintro rfl
     rcases g4 with ⟨k, e, hk, hj⟩ | ⟨k, e, hk⟩
     ·rcases g4' with ⟨k', e', hk', _⟩ | ⟨k', e', _⟩
      ·have hkl := (List.getElem?_eq_some_iff.1 hk).1
       have : k = k' := (List.getElem?_inj hkl R.once).1 (hk.trans hk'.symm)
       omega
      ·omega
     ·rcases g4' with ⟨k', e', hk', hj'⟩ | ⟨k', e', hk'⟩
      ·omega
      ·have : k = k' := by omega
       subst this
       refine hii ?_
       rcases hk with hk | hk <;> rcases hk' with hk' | hk' <;> rw [hk] at hk' <;> cases hk' <;> rfl
    exact R.hr'.dist j j' o0 o0' ow ow' b hne g1 g1' g2 g2' g3 g3' hb hb'
   ·exact cross c1 c2 hb hb'
  ·rcases c2 with c2 | c2
   ·exact cross c2 c1 hb' hb
   ·obtain ⟨o1, g1, g2, g3, _⟩ := c1
    obtain ⟨o1', g1', g2', g3', _⟩ := c2
    exact R.hr.dist i i' o1 o1' ow ow' b hii g1 g1' g2 g2' g3 g3' hb hb'

theorem Ret.tr {s : Slots} {us : List (Nat × Obj)} (hus : backObjs (Go.Q.backF base ls ns) h h' lentFrom ls = some us) (hlL : ∀ b, Live σ h b → L b) (hnew : ∀ b, w.heap.size ≤ b → L b) :
  Tr L I σ ⟨s, h⟩ w K (sigB σ σ' ls ns base) ⟨Slots.mapR (Go.Q.lostF (movedIds h' lentFrom ls ++ upTo base ns.length) (wholeIds ls)) s, finalHeap h h' ls ns base us⟩ w' := by
 have hlv : ∀ b, Live (sigL σ ls) hl b → L b := fun b hb => hlL b (R.lentLive b hb).1
 refine ⟨fun i u hu => by simp only [Slots.get_mapR]; exact VR.map R.sub (fun b hb => R.sameI hb) _ (R.lostF hus) _ _ hu, R.final hus, fun b hb => ?_, R.sub, fun b hb => ?_, R.mv.imp hlv, fun i hi o' hg hst => ?_⟩
 ·obtain ⟨i, o, ow, hg, hl1, hs, hb⟩ := hb
  rcases R.blocks hus hg hl1 hs with ⟨j, o0, g1, g2, g3, _⟩ | ⟨o1, g1, g2, g3, g4⟩
  ·rcases R.live b ⟨j, o0, ow, g1, g2, g3, hb⟩ with h1 | h1
   ·exact hnew b h1
   ·exact hlv b h1
  ·exact hlL b ⟨i, o1, ow, g1, g2, g3, hb⟩
 ·rcases R.src b hb with h1 | h1 | h1
  ·exact .inl h1
  ·exact .inr (hnew b h1)
  ·exact .inr (hlv b h1)
 ·simp only at hg
  cases R.cat hus hg with
  | new k j o0 ow hi' hk hj hg' hs' ho hσ =>
   have hkl := (List.getElem?_eq_some_iff.1 hk).1
   have := R.low
   omega
  | lent k o0 ow hk hg' hs' hσ ho hl2 hst' =>
   obtain ⟨q1, o1, q2, q3⟩ := hst' hst
   refine ⟨o1, q2, q3, fun ow1 how => ?_⟩
   have hsl : sigL σ ls (lentFrom + k) = some ow1 := by
    rcases hk with hk | hk
    ·rw [sigL_at (l := .a (.t i)) (by omega) (by rw [Nat.add_sub_cancel_left]; exact hk)]; exact how
    ·rw [sigL_at (l := .b i) (by omega) (by rw [Nat.add_sub_cancel_left]; exact hk)]; exact how
   obtain ⟨ow', r1, r2⟩ := R.still _ (by omega) o0 hg' q1 ow1 hsl
   rw [hs'] at r1; cases r1
   exact ⟨ow, hσ, r2⟩
  | inner k j off o1 t xs ys hk hg1 ha ho hg' hσ =>
   refine ⟨o1, hg1, ?_, fun ow1 how => ⟨ow1, by rw [hσ]; exact how, rfl⟩⟩
   unfold Obj.setIn at ho
   split at ho
   ·split at ho
    ·simp only [Option.bind_eq_some_iff] at ho
     obtain ⟨y, _, ho⟩ := ho
     split at ho
     ·cases ho; exact hst
     ·cases ho
    ·cases ho
   ·cases ho
  | old o0 hn hr hg0 ho hσ =>
   exact ⟨o0, hg0, by rw [ho, Obj.still_mapR] at hst; exact hst, fun ow1 how => ⟨ow1, by rw [hσ]; exact how, rfl⟩⟩

end

theorem closure_nil (h : Heap) : ∀ (n : Nat), closure h n [] [] = []
 | 0 => rfl
 | _ + 1 => rfl
theorem byRefs_nil : ∀ (k : Nat) (vs : List AV), byRefs [] k vs = []
 | _, [] => rfl
 | k, _ :: vs => by simp [byRefs, byRefs_nil (k + 1) vs]

theorem Tr.callG (h : HR I σ w st.heap) (hl : ∀ b, Live σ st.heap b → L b) (hnew : ∀ b, w.heap.size ≤ b → L b) (hC : CallOK P E.call) {base g : Nat} {vs : List AV} {xs : List Value} {v : AV} (hv : VRs I σ w vs xs) (hr : Go.Q.callG E st base g vs = some (v, st')) :
  CallsV P g xs.toArray w fun e w' => ∃ u I' σ', e = .returned u ∧ ((E.byref g).isEmpty = true → Keeps w w') ∧ Tr L I σ st w I' σ' st' w' ∧ VR I' σ' w' v u := by
 unfold Go.Q.callG at hr
 simp only [Option.bind_eq_some_iff] at hr
 obtain ⟨⟨ls, us, hlp⟩, hpre, r, hcall, hr⟩ := hr
 unfold Go.Q.callPre at hpre
 simp only at hpre hcall hr
 split at hpre
 ·rename_i hnd
  simp only [Option.bind_eq_some_iff, Option.map_eq_some_iff, Prod.mk.injEq] at hpre
  obtain ⟨us', hus, hlp', hlent, hls, e1, e2⟩ := hpre
  subst e1; subst e2
  rw [hls] at hnd hus hlent
  split at hr
  ·cases hr
  ·rename_i hsh
   rw [nodupN_iff] at hnd
   have hc2 := hC g us' hlp' r hcall
   have hthere : ∀ l ∈ ls, ∃ o, st.heap.get l.id = some o := fun l hl1 => by
    obtain ⟨k, hk⟩ := List.mem_iff_getElem?.1 hl1
    obtain ⟨o, ho, _⟩ := lent_all hlent hk
    obtain ⟨o0, _, _, m1, _⟩ := lentObj_ok h (J := I) (fun _ h => h) ho
    exact ⟨o0, m1⟩
   have hbur := h.buryL hthere
   have hJ : ∀ b, I b → (I b ∨ (plainOwned (E.byref g) 0 vs = true ∧ Live σ (st.heap.bury ls) b)) := fun b hb => .inl hb
   obtain ⟨hHR, hLL⟩ := lent_HR h hlent hnd hJ (fun b hb => hb.imp_right fun hb => hb.2)
   have hargs := argsOf_ok hbur hJ hv hus (fun hp b hb => .inr ⟨hp, hb⟩)
   refine CallsV.mono (hc2 _ _ w xs hHR hargs) ?_
   rintro e w' ⟨u, J', σ', rfl, hout, hvr⟩
   unfold Go.Q.back at hr
   split at hr
   ·rename_i hcond
    obtain ⟨hlen, hbase, honce, haway⟩ := hcond
    simp only [Option.bind_eq_some_iff, Option.some.injEq, Prod.mk.injEq] at hr
    obtain ⟨ub, hub, rfl, rfl⟩ := hr
    rw [nodupN_iff] at honce
    have hlow : base + (newIds r.2).length ≤ lentFrom := by omega
    have haw : ∀ l ∈ ls, l.id < base ∨ base + (newIds r.2).length ≤ l.id := fun l hl1 => by
     have := List.all_eq_true.1 haway l hl1
     simp only [decide_eq_true_eq] at this
     omega
    have hkeeps : (E.byref g).isEmpty = true → Keeps w w' := fun he => by
     have hb0 : E.byref g = [] := isEmpty_nil he
     have hls0 : ls = [] := by rw [← hls, hb0, byRefs_nil]; exact closure_nil _ _
     subst hls0
     simp only [lentHeap, Option.some.injEq] at hlent
     subst hlent
     refine (hout.mv.imp (S' := fun _ => False) ?_).keeps
     rintro b ⟨_, _, _, hx, _⟩
     simp [Heap.get] at hx
    have mk : ∀ {K : Nat → Prop}, HR K σ' w' r.2 → (∀ b, I b → K b) → (∀ b, K b → I b ∨ w.heap.size ≤ b ∨ Live (sigL σ ls) hlp' b) → Ret I K σ σ' w w' st.heap ls hlp' r.2 (newIds r.2) base := fun h1 h2 h3 =>
     ⟨h, hlent, hnd, h1, h2, hout.live, h3, hLL, hout.mv, hout.still, rfl, honce, hlow, haw⟩
    by_cases hpo : plainOwned (E.byref g) 0 vs = true
    ·-- what comes back shares nothing
     simp only [hpo, Bool.true_and, Bool.not_eq_true, Bool.or_eq_false_iff] at hsh
     have R := mk (HR.noShares hout.hr (fun b hb => hout.sub b (hJ b hb)) hsh.2) (fun _ h => h) (fun _ h => .inl h)
     exact ⟨u, I, _, rfl, hkeeps, R.tr hub hl hnew, VR.map (fun _ h => h) (fun _ _ => rfl) _ (R.backF (R.hst hub)) _ _ (VR.noShares _ _ hsh.1 hvr)⟩
    ·have R := mk hout.hr (fun b hb => hout.sub b (hJ b hb)) (fun b hb => by
      rcases hout.src b hb with (h1 | h1) | h1
      ·exact .inl h1
      ·exact absurd h1.1 hpo
      ·exact .inr h1)
     exact ⟨u, J', _, rfl, hkeeps, R.tr hub hl hnew, VR.map (fun _ h => h) (fun _ _ => rfl) _ (R.backF (R.hst hub)) _ _ hvr⟩
   ·cases hr
 ·cases hpre

end
end Go.Q
