/- An abstract interpreter of the translated code: calls. -/
import Derived.Test.YtjcldkfgpifebaaGQAppend2
namespace Go.Q
set_option linter.unusedVariables false
set_option linter.unusedSimpArgs false
set_option linter.unusedSectionVars false
open Go

/-! ### Lists and heaps -/
theorem indexL_some {l : Ln} : ∀ {ls : List Ln} {n k : Nat}, indexL l n ls = some k → n ≤ k ∧ ls[k - n]? = some l
  | [], _, _, h => by simp [indexL] at h
  | l' :: ls, n, k, h => by
    simp only [indexL] at h
    split at h
    · rename_i e; cases h; exact ⟨Nat.le_refl _, by simp [e]⟩
    · obtain ⟨h1, h2⟩ := indexL_some h
      refine ⟨by omega, ?_⟩
      rw [show k - n = (k - (n + 1)) + 1 from by omega]
      simpa using h2
theorem indexN_some {j : Nat} : ∀ {js : List Nat} {n k : Nat}, indexN j n js = some k → n ≤ k ∧ js[k - n]? = some j
  | [], _, _, h => by simp [indexN] at h
  | j' :: js, n, k, h => by
    simp only [indexN] at h
    split at h
    · rename_i e; cases h; exact ⟨Nat.le_refl _, by simp [e]⟩
    · obtain ⟨h1, h2⟩ := indexN_some h
      refine ⟨by omega, ?_⟩
      rw [show k - n = (k - (n + 1)) + 1 from by omega]
      simpa using h2
theorem getL_eq {α : Type} : ∀ (xs : List α) (k : Nat), getL xs k = xs[k]?
  | [], _ => by simp [getL]
  | _ :: _, 0 => rfl
  | _ :: xs, k + 1 => by simp [getL, getL_eq xs k]

theorem newIds_mem {i : Nat} : ∀ {h : Heap}, i ∈ newIds h ↔ i < lentFrom ∧ ∃ o, (i, o) ∈ h
  | [] => by simp [newIds]
  | (j, o) :: h => by
    simp only [newIds]
    split
    · rename_i hj
      simp only [List.mem_cons, newIds_mem (h := h), Prod.mk.injEq]
      constructor
      · rintro (rfl | ⟨h1, o', h2⟩)
        · exact ⟨hj, o, .inl ⟨rfl, rfl⟩⟩
        · exact ⟨h1, o', .inr h2⟩
      · rintro ⟨h1, o', ⟨rfl, rfl⟩ | h2⟩
        · exact .inl rfl
        · exact .inr ⟨h1, o', h2⟩
    · rename_i hj
      simp only [newIds_mem (h := h), List.mem_cons, Prod.mk.injEq]
      constructor
      · rintro ⟨h1, o', h2⟩; exact ⟨h1, o', .inr h2⟩
      · rintro ⟨h1, o', ⟨rfl, rfl⟩ | h2⟩
        · exact absurd h1 hj
        · exact ⟨h1, o', h2⟩
theorem Heap.mem_get {i : Nat} : ∀ {h : Heap} {o : Obj}, (i, o) ∈ h → ∃ o', h.get i = some o'
  | (j, o1) :: h, o, hm => by
    simp only [Heap.get]
    split
    · exact ⟨_, rfl⟩
    · rename_i e
      rcases List.mem_cons.1 hm with hm | hm
      · cases hm; exact absurd rfl e
      · exact Heap.mem_get hm
theorem Heap.get_mem {i : Nat} : ∀ {h : Heap} {o : Obj}, h.get i = some o → (i, o) ∈ h
  | (j, o1) :: h, o, hg => by
    simp only [Heap.get] at hg
    split at hg
    · rename_i e; cases hg; subst e; simp
    · exact List.mem_cons_of_mem _ (Heap.get_mem hg)

theorem lentHeap_get {h : Heap} {all : List Ln} : ∀ {ls : List Ln} {k : Nat} {hl : Heap}, lentHeap h all k ls = some hl → ∀ i, (i < k → hl.get i = none) ∧ (k ≤ i → match ls[i - k]? with
    | some l => ∃ o, lentObj h all l = some o ∧ hl.get i = some o
    | none => hl.get i = none)
  | [], k, hl, h, i => by
    simp only [lentHeap, Option.some.injEq] at h
    subst h
    exact ⟨fun _ => rfl, fun _ => by simp [Heap.get]⟩
  | l :: ls, k, hl, h, i => by
    simp only [lentHeap, Option.bind_eq_some_iff, Option.map_eq_some_iff] at h
    obtain ⟨o, h1, r, h2, rfl⟩ := h
    obtain ⟨h3, h4⟩ := lentHeap_get h2 i
    refine ⟨fun hi => ?_, fun hi => ?_⟩
    · simp only [Heap.get]; rw [if_neg (by omega)]; exact h3 (by omega)
    · by_cases e : k = i
      · subst e; simp [Heap.get, h1]
      · rw [show i - k = (i - (k + 1)) + 1 from by omega]
        simp only [List.getElem?_cons_succ, Heap.get, if_neg e]
        exact h4 (by omega)

theorem Heap.get_bury : ∀ {ls : List Ln} {h : Heap} (i : Nat), (h.bury ls).get i = if i ∈ ls.map Ln.id then some .dead else h.get i
  | [], h, i => by simp [Heap.bury]
  | l :: ls, h, i => by
    simp only [Heap.bury, Heap.get_bury (ls := ls) i, Heap.get_put, List.map_cons, List.mem_cons]
    by_cases h1 : i ∈ ls.map Ln.id
    · simp [h1]
    · by_cases h2 : i = l.id
      · simp [h2]
      · simp [h1, h2]

theorem Heap.get_puts : ∀ {l : List (Nat × Obj)} {h : Heap} (i : Nat), (l.map (·.1)).Nodup → (h.puts l).get i = match lookT l i with | some o => some o | none => h.get i
  | [], h, i, _ => rfl
  | (j, o) :: l, h, i, hn => by
    simp only [List.map_cons, List.nodup_cons] at hn
    simp only [Heap.puts, Heap.get_puts i hn.2, lookT, Heap.get_put]
    by_cases e : j = i
    · subst e
      have : lookT l j = none := by
        cases hx : lookT l j with
        | none => rfl
        | some o' =>
          exfalso
          refine hn.1 ?_
          have : ∀ {l : List (Nat × Obj)} {o' : Obj}, lookT l j = some o' → j ∈ l.map (·.1) := by
            intro l
            induction l with
            | nil => intro o' h; simp [lookT] at h
            | cons p l ih =>
              intro o' h
              obtain ⟨a, b⟩ := p
              simp only [lookT] at h
              split at h
              · rename_i e; simp [e]
              · simp [ih h]
          exact this hx
      simp [this]
    · have e' : ¬ i = j := fun h => e h.symm
      simp [e, e']

theorem newObjs_look {f : AV → AV} {h' : Heap} : ∀ {ns : List Nat} {k : Nat} (i : Nat), lookT (newObjs f h' k ns) i = if k ≤ i then (ns[i - k]?).map fun j => ((h'.get j).getD .dead).mapR f else none
  | [], k, i => by simp [newObjs, lookT]
  | n :: ns, k, i => by
    simp only [newObjs, lookT, newObjs_look (ns := ns) i]
    by_cases e : k = i
    · subst e; simp
    · rw [if_neg e]
      by_cases h1 : k ≤ i
      · rw [if_pos h1, if_pos (by omega), show i - k = (i - (k + 1)) + 1 from by omega]; simp
      · rw [if_neg h1, if_neg (by omega)]
theorem newObjs_keys {f : AV → AV} {h' : Heap} : ∀ {ns : List Nat} {k : Nat}, (newObjs f h' k ns).map (·.1) = upTo k ns.length
  | [], _ => rfl
  | _ :: ns, k => by simp [newObjs, upTo, newObjs_keys (ns := ns)]
theorem mem_upTo : ∀ {n k i : Nat}, i ∈ upTo k n ↔ k ≤ i ∧ i < k + n
  | 0, k, i => by simp only [upTo, List.not_mem_nil, false_iff]; omega
  | n + 1, k, i => by simp only [upTo, List.mem_cons, mem_upTo (n := n)]; omega
theorem upTo_nodup : ∀ {n k : Nat}, (upTo k n).Nodup
  | 0, _ => by simp [upTo]
  | n + 1, k => by
    simp only [upTo, List.nodup_cons, upTo_nodup (n := n), and_true, mem_upTo]; omega
theorem backObjs_look {f : AV → AV} {h h' : Heap} : ∀ {ls : List Ln} {k : Nat} {us : List (Nat × Obj)}, backObjs f h h' k ls = some us → us.map (·.1) = ls.map Ln.id ∧
    ((ls.map Ln.id).Nodup → ∀ (j : Nat) (l : Ln), ls[j]? = some l → ∃ o, backObj f h h' (k + j) l = some o ∧ lookT us l.id = some o) ∧ ∀ i, i ∉ ls.map Ln.id → lookT us i = none
  | [], k, us, h => by
    simp only [backObjs, Option.some.injEq] at h
    subst h
    exact ⟨rfl, fun _ j l hj => by simp at hj, fun i _ => rfl⟩
  | l :: ls, k, us, h => by
    simp only [backObjs, Option.bind_eq_some_iff, Option.map_eq_some_iff] at h
    obtain ⟨o, h1, r, h2, rfl⟩ := h
    obtain ⟨k1, k2, k3⟩ := backObjs_look h2
    refine ⟨by simp [k1], fun hn j l' hj => ?_, fun i hi => ?_⟩
    · simp only [List.map_cons, List.nodup_cons] at hn
      cases j with
      | zero => simp at hj; subst hj; exact ⟨o, h1, by simp [lookT]⟩
      | succ j =>
        obtain ⟨o', m1, m2⟩ := k2 hn.2 j l' (by simpa using hj)
        refine ⟨o', by rw [show k + (j + 1) = k + 1 + j from by omega]; exact m1, ?_⟩
        have : l.id ≠ l'.id := fun e => hn.1 (by rw [e]; exact List.mem_map.2 ⟨l', List.mem_of_getElem? (by simpa using hj), rfl⟩)
        simp [lookT, this, m2]
    · simp only [List.map_cons, List.mem_cons, not_or] at hi
      have : ¬ l.id = i := fun e => hi.1 e.symm
      simp [lookT, this, k3 i hi.2]

theorem movedIds_mem {h' : Heap} : ∀ {ls : List Ln} {k : Nat} {id : Nat}, (∃ j, ls[j]? = some (.a (.t id)) ∧ ∀ d t xs, h'.get (k + j) ≠ some (.arr false d t xs)) → id ∈ movedIds h' k ls
  | [], _, _, ⟨j, hj, _⟩ => by simp at hj
  | l :: ls, k, id, ⟨j, hj, hn⟩ => by
    cases j with
    | zero =>
      simp at hj; subst hj
      simp only [movedIds]
      split
      · rename_i d t xs hg; exact absurd hg (hn d t xs)
      · simp
    | succ j =>
      have := movedIds_mem (h' := h') (ls := ls) (k := k + 1) (id := id) ⟨j, by simpa using hj, fun d t xs => by rw [show k + 1 + j = k + (j + 1) from by omega]; exact hn d t xs⟩
      cases l with
      | b i => simp only [movedIds]; exact this
      | a p =>
        cases p with
        | n _ _ _ => simp only [movedIds]; exact this
        | t i =>
          simp only [movedIds]
          split
          · exact this
          · exact List.mem_cons_of_mem _ this
theorem wholeIds_mem {id : Nat} : ∀ {ls : List Ln}, Ln.a (.t id) ∈ ls ∨ Ln.b id ∈ ls → id ∈ wholeIds ls
  | [], h => by simp at h
  | l :: ls, h => by
    have : (Ln.a (.t id) = l ∨ Ln.b id = l) ∨ (Ln.a (.t id) ∈ ls ∨ Ln.b id ∈ ls) := by
      rcases h with h | h <;> rcases List.mem_cons.1 h with h | h
      · exact .inl (.inl h)
      · exact .inr (.inl h)
      · exact .inl (.inr h)
      · exact .inr (.inr h)
    rcases this with (h | h) | h
    · subst h; simp [wholeIds]
    · subst h; simp [wholeIds]
    · have := wholeIds_mem h
      cases l with
      | b i => simp only [wholeIds]; exact List.mem_cons_of_mem _ this
      | a p => cases p with
        | t i => simp only [wholeIds]; exact List.mem_cons_of_mem _ this
        | n _ _ _ => simp only [wholeIds]; exact this

section
variable {P : Program} {E : Env} {L : Nat → Prop} {I I' J : Nat → Prop} {σ σ' : Nat → Option Own} {st st' : St} {w w' : World}

/-! ### What is handed over as plain data -/
abbrev noOwn : Nat → Option Own := fun _ => none

theorem HR.buryL (h : HR I σ w st.heap) : ∀ {ls : List Ln}, (∀ l ∈ ls, ∃ o, st.heap.get l.id = some o) → HR I σ w (st.heap.bury ls) := by
  have key : ∀ {ls : List Ln} {hp : Heap}, HR I σ w hp → (∀ l ∈ ls, ∃ o, hp.get l.id = some o) → HR I σ w (hp.bury ls) := by
    intro ls
    induction ls with
    | nil => intro hp h _; exact h
    | cons l ls ih =>
      intro hp h hl
      obtain ⟨o, hg⟩ := hl l (by simp)
      refine ih (h.bury hg) (fun l' hl' => ?_)
      rw [Heap.get_put]
      split
      · exact ⟨_, rfl⟩
      · exact hl l' (by simp [hl'])
  intro ls hl
  exact key h hl

theorem mapO_args {f : AV → Option AV} (hf : ∀ v v' u, VR I σ w v u → f v = some v' → VR J noOwn w v' u) : ∀ {vs vs' : List AV} {us : List Value}, VRs I σ w vs us → mapO f vs = some vs' → VRs J noOwn w vs' us
  | [], vs', us, h, hm => by simp only [mapO, Option.some.injEq] at hm; subst hm; exact h
  | v :: vs, vs', us, h, hm => by
    obtain ⟨e, es', rfl, h2, h3⟩ := h
    simp only [mapO, Option.bind_eq_some_iff, Option.map_eq_some_iff] at hm
    obtain ⟨y, k1, ys, k2, rfl⟩ := hm
    exact ⟨e, es', rfl, hf v y e h2 k1, mapO_args hf h3 k2⟩

/-- What is handed to a call. -/
theorem HR.argOf {hp : Heap} (h : HR I σ w hp) : ∀ (m : Nat) (v v' : AV) (u : Value), VR I σ w v u → Go.Q.argOf hp m v = some v' → VR (withOwn I σ hp) noOwn w v' u
  | 0, _, _, _, _, h => by simp [Go.Q.argOf] at h
  | m + 1, v, v', u, hv, ha => by
    have hJ : ∀ b, I b → withOwn I σ hp b := fun b hb => .inl hb
    cases v with
    | undef => simp [Go.Q.argOf] at ha
    | tuple vs => simp [Go.Q.argOf] at ha
    | mp id => simp [Go.Q.argOf] at ha
    | os p =>
      simp only [Go.Q.argOf] at ha
      obtain ⟨t, xs, H, cs, rfl, hpl⟩ := h.place ha
      have := hpl.os hv
      subst this
      exact hpl.data hJ withOwn_own
    | sub p a n =>
      simp only [Go.Q.argOf, Option.bind_eq_some_iff] at ha
      obtain ⟨v1, ha, hc⟩ := ha
      obtain ⟨t, xs, H, cs, rfl, hpl⟩ := h.place ha
      simp only [cutO, Option.some.injEq] at hc
      subst hc
      exact hpl.dataSub hJ withOwn_own hv
    | el p i off =>
      simp only [Go.Q.argOf, Option.bind_eq_some_iff] at ha
      obtain ⟨v1, ha, hc⟩ := ha
      obtain ⟨t, xs, H, cs, rfl, hpl⟩ := h.place ha
      simp only [elO, Option.some.injEq] at hc
      subst hc
      obtain ⟨hi, b, o, cap, e1, rfl⟩ := hpl.el hv
      obtain ⟨b', o', cap', e2, hb, hcell⟩ := hpl.arr.read hi
      rw [e1] at e2; cases e2
      have hrow := hpl.rows (J := withOwn I σ hp) hJ withOwn_own i hi
      refine ⟨b, _, _, rfl, .inr (hpl.isLive hb), VRs.drop off (VRs.flat t _ _ ?_), hcell.drop off⟩
      rw [getD_get hi]; exact hrow
    | op id off =>
      simp only [Go.Q.argOf] at ha
      split at ha
      · rename_i vs hg
        simp only [Option.map_eq_some_iff] at ha
        obtain ⟨ws, k1, rfl⟩ := ha
        obtain ⟨ow, b, g1, g2, rfl⟩ := hv
        obtain ⟨ow', m1, _, b', es, T, m2, m3, m4⟩ := h.objs id _ hg
        rw [g1] at m1; cases m1
        rw [g2] at m2; cases m2
        refine ⟨b, off, es.drop off, rfl, .inr ⟨id, _, ow, hg, rfl, g1, .inl (by rw [g2]; rfl)⟩, mapO_args (fun v v' u => HR.argOf h m v v' u) (VRs.drop off m4) k1, ?_⟩
        have : CellsAt w ⟨b, 0, none⟩ es := fun j v hj => by simp only [World.cell?, m3]; simpa using hj
        simpa using this.drop off
      · cases ha
    | rp vs =>
      simp only [Go.Q.argOf, Option.map_eq_some_iff] at ha
      obtain ⟨ws, k1, rfl⟩ := ha
      obtain ⟨b, o, es, g1, g2, g3, g4⟩ := hv
      exact ⟨b, o, es, g1, hJ b g2, mapO_args (fun v v' u => HR.argOf h m v v' u) g3 k1, g4⟩
    | agg vs =>
      simp only [Go.Q.argOf, Option.map_eq_some_iff] at ha
      obtain ⟨ws, k1, rfl⟩ := ha
      obtain ⟨es, g1, g2⟩ := hv
      exact ⟨es, g1, mapO_args (fun v v' u => HR.argOf h m v v' u) g2 k1⟩
    | fn f vs =>
      simp only [Go.Q.argOf, Option.map_eq_some_iff] at ha
      obtain ⟨ws, k1, rfl⟩ := ha
      obtain ⟨es, g1, g2⟩ := hv
      exact ⟨es, g1, mapO_args (fun v v' u => HR.argOf h m v v' u) g2 k1⟩
    | d t x => simp only [Go.Q.argOf, Option.some.injEq] at ha; subst ha; exact DR.mono hJ (fun _ _ => rfl) t x _ hv
    | skip => simp only [Go.Q.argOf, Option.some.injEq] at ha; subst ha; exact hv
    | nilS => simp only [Go.Q.argOf, Option.some.injEq] at ha; subst ha; exact hv
    | empS => simp only [Go.Q.argOf, Option.some.injEq] at ha; subst ha; exact hv
    | nilF => simp only [Go.Q.argOf, Option.some.injEq] at ha; subst ha; exact hv
    | nilP => simp only [Go.Q.argOf, Option.some.injEq] at ha; subst ha; exact hv
    | nilM => simp only [Go.Q.argOf, Option.some.injEq] at ha; subst ha; exact hv

mutual
/-- A value that leads to no own object. -/
theorem VR.noOwn {I : Nat → Prop} {w : World} : ∀ (v : AV) (u : Value), v.owned = false → VR I σ w v u → VR I Go.Q.noOwn w v u
  | .undef, _, _, _ => trivial
  | .skip, _, _, h => h
  | .d _ _, _, _, h => h
  | .nilS, _, _, h => h
  | .empS, _, _, h => h
  | .nilF, _, _, h => h
  | .nilP, _, _, h => h
  | .nilM, _, _, h => h
  | .os _, _, k, _ => by simp [AV.owned] at k
  | .sub _ _ _, _, k, _ => by simp [AV.owned] at k
  | .el _ _ _, _, k, _ => by simp [AV.owned] at k
  | .op _ _, _, k, _ => by simp [AV.owned] at k
  | .mp _, _, k, _ => by simp [AV.owned] at k
  | .rp vs, _, k, h => by obtain ⟨b, o, es, h1, h2, h3, h4⟩ := h; exact ⟨b, o, es, h1, h2, VRs.noOwn vs es (by simpa [AV.owned] using k) h3, h4⟩
  | .agg vs, _, k, h => by obtain ⟨es, h1, h2⟩ := h; exact ⟨es, h1, VRs.noOwn vs es (by simpa [AV.owned] using k) h2⟩
  | .tuple vs, _, k, h => by obtain ⟨es, h1, h2⟩ := h; exact ⟨es, h1, VRs.noOwn vs es (by simpa [AV.owned] using k) h2⟩
  | .fn _ vs, _, k, h => by obtain ⟨es, h1, h2⟩ := h; exact ⟨es, h1, VRs.noOwn vs es (by simpa [AV.owned] using k) h2⟩
theorem VRs.noOwn {I : Nat → Prop} {w : World} : ∀ (vs : List AV) (us : List Value), AV.owneds vs = false → VRs I σ w vs us → VRs I Go.Q.noOwn w vs us
  | [], _, _, h => h
  | v :: vs, _, k, h => by
    simp only [AV.owneds, Bool.or_eq_false_iff] at k
    obtain ⟨e, es', h1, h2, h3⟩ := h
    exact ⟨e, es', h1, VR.noOwn v e k.1 h2, VRs.noOwn vs es' k.2 h3⟩
end

mutual
theorem VR.noShares {J J' : Nat → Prop} {w : World} : ∀ (v : AV) (u : Value), v.shares = false → VR J σ w v u → VR J' σ w v u
  | .undef, _, _, _ => trivial
  | .skip, _, _, h => h
  | .d t x, _, k, h => DR.noRefs t x _ k h
  | .nilS, _, _, h => h
  | .empS, _, _, h => h
  | .nilF, _, _, h => h
  | .nilP, _, _, h => h
  | .nilM, _, _, h => h
  | .os _, _, _, h => h
  | .sub _ _ _, _, _, h => h
  | .el _ _ _, _, _, h => h
  | .op _ _, _, _, h => h
  | .mp _, _, _, h => h
  | .rp vs, _, k, _ => by simp [AV.shares] at k
  | .agg vs, _, k, h => by obtain ⟨es, h1, h2⟩ := h; exact ⟨es, h1, VRs.noShares vs es (by simpa [AV.shares] using k) h2⟩
  | .tuple vs, _, k, h => by obtain ⟨es, h1, h2⟩ := h; exact ⟨es, h1, VRs.noShares vs es (by simpa [AV.shares] using k) h2⟩
  | .fn _ vs, _, k, h => by obtain ⟨es, h1, h2⟩ := h; exact ⟨es, h1, VRs.noShares vs es (by simpa [AV.shares] using k) h2⟩
theorem VRs.noShares {J J' : Nat → Prop} {w : World} : ∀ (vs : List AV) (us : List Value), AV.sharess vs = false → VRs J σ w vs us → VRs J' σ w vs us
  | [], _, _, h => h
  | v :: vs, _, k, h => by
    simp only [AV.sharess, Bool.or_eq_false_iff] at k
    obtain ⟨e, es', h1, h2, h3⟩ := h
    exact ⟨e, es', h1, VR.noShares v e k.1 h2, VRs.noShares vs es' k.2 h3⟩
end

theorem ER.noShares {J J' : Nat → Prop} {inn : Nat → Option Hdr} : ∀ (t : Ty) (off : Nat) (x : t.Den) (cs : List Value), t.refs2 = false → ER J w inn t off x cs → ER J' w inn t off x cs
  | .slice t, off, xs, cs, k, h => by
    obtain ⟨v, h1, h2, cs', h3, h4⟩ := h
    exact ⟨v, h1, h2, cs', h3, fun i hi => DR.noRefs t _ _ k (h4 i hi)⟩
  | .cons a b, off, x, cs, k, h => by
    simp only [Ty.refs2, Bool.or_eq_false_iff] at k
    obtain ⟨c1, c2, e, h1, h2⟩ := h
    exact ⟨c1, c2, e, ER.noShares a _ _ _ k.1 h1, ER.noShares b _ _ _ k.2 h2⟩
  | .agg l, off, x, cs, k, h => ER.noShares l off x cs k h
  | .int _, _, x, cs, _, h => h
  | .bool, _, x, cs, _, h => h
  | .str, _, x, cs, _, h => h
  | .err, _, x, cs, _, h => h
  | .ptr t, _, x, cs, k, h => by simp [Ty.refs2] at k
  | .nil, _, x, cs, _, h => h

theorem KR.noRefs {J J' : Nat → Prop} {w : World} {t : Ty} {x : t.Den} {v : Value} (k : t.refs = false) (h : KR J w t x v) : KR J' w t x v := by
  unfold KR at h ⊢
  split
  · rename_i ha
    rw [if_pos ha] at h
    obtain ⟨cs, h1, h2⟩ := h
    exact ⟨cs, h1, DR.noRefs t _ _ k h2⟩
  · rename_i ha
    rw [if_neg ha] at h
    exact DR.noRefs t _ _ k h
theorem ObjR.noShares {J J' : Nat → Prop} {ow : Own} {o : Obj} (k : o.shares = false) (h : ObjR J σ w ow o) : ObjR J' σ w ow o := by
  cases o with
  | dead => trivial
  | bld d T e s => exact h
  | arr m d t xs =>
    obtain ⟨h1, h2, h3, cs, h4, h5⟩ := h
    refine ⟨h1, h2, h3, cs, h4, fun i hi => ?_⟩
    have := h5 i hi
    simp only [Obj.shares] at k
    unfold EltR at this ⊢
    cases d with
    | true => simp only [if_true] at this k ⊢; exact ER.noShares t 0 _ _ k this
    | false => simp only [Bool.false_eq_true, if_false] at this k ⊢; exact DR.noRefs t _ _ k this
  | box vs =>
    obtain ⟨h1, b, es, T, h2, h3, h4⟩ := h
    exact ⟨h1, b, es, T, h2, h3, VRs.noShares vs es k h4⟩
  | mp tk tv kvs =>
    obtain ⟨h1, b, es, c, h2, h3, h4⟩ := h
    simp only [Obj.shares, Bool.or_eq_false_iff] at k
    refine ⟨h1, b, es, c, h2, h3, ?_⟩
    have : ∀ {kvs : List (tk.Den × tv.Den)} {es : List MapEntry}, MapR J w tk tv kvs es → MapR J' w tk tv kvs es := by
      intro kvs
      induction kvs with
      | nil => intro es h; exact h
      | cons p kvs ih =>
        intro es h
        obtain ⟨e, es', e1, q1, q2, q3⟩ := h
        exact ⟨e, es', e1, KR.noRefs k.1 q1, KR.noRefs k.2 q2, ih q3⟩
    exact this h4

theorem Heap.shares_get {i : Nat} {o : Obj} : ∀ {h : Heap}, h.shares = false → h.get i = some o → o.shares = false
  | (j, o1) :: h, k, hg => by
    simp only [Heap.shares, Bool.or_eq_false_iff] at k
    simp only [Heap.get] at hg
    split at hg
    · cases hg; exact k.1
    · exact Heap.shares_get k.2 hg

theorem HR.noShares {hp : Heap} (h : HR J σ w hp) (hI : ∀ b, I b → J b) (k : hp.shares = false) : HR I σ w hp :=
  ⟨fun id o hg => by obtain ⟨ow, h1, h2⟩ := h.objs id o hg; exact ⟨ow, h1, ObjR.noShares (Heap.shares_get k hg) h2⟩, h.dom, fun b hb => ⟨fun hi => (h.own b hb).1 (hI b hi), (h.own b hb).2⟩, h.dist, fun b hb => h.lt b (hI b hb)⟩

theorem mapO_same {f : AV → Option AV} (hf : ∀ v v', v.owned = false → f v = some v' → v' = v) : ∀ {vs ws : List AV}, AV.owneds vs = false → mapO f vs = some ws → ws = vs
  | [], ws, _, h => by simp only [mapO, Option.some.injEq] at h; exact h.symm
  | v :: vs, ws, hv, h => by
    simp only [AV.owneds, Bool.or_eq_false_iff] at hv
    simp only [mapO, Option.bind_eq_some_iff, Option.map_eq_some_iff] at h
    obtain ⟨y, k1, ys, k2, rfl⟩ := h
    rw [hf v y hv.1 k1, mapO_same hf hv.2 k2]

theorem argOf_same (h : Heap) : ∀ (m : Nat) (v v' : AV), v.owned = false → Go.Q.argOf h m v = some v' → v' = v
  | 0, _, _, _, h => by simp [Go.Q.argOf] at h
  | m + 1, v, v', hv, ha => by
    cases v <;> simp only [AV.owned] at hv <;> simp only [Go.Q.argOf] at ha
    case rp vs => simp only [Option.map_eq_some_iff] at ha; obtain ⟨ws, k1, rfl⟩ := ha; rw [mapO_same (argOf_same h m) hv k1]
    case agg vs => simp only [Option.map_eq_some_iff] at ha; obtain ⟨ws, k1, rfl⟩ := ha; rw [mapO_same (argOf_same h m) hv k1]
    case fn f vs => simp only [Option.map_eq_some_iff] at ha; obtain ⟨ws, k1, rfl⟩ := ha; rw [mapO_same (argOf_same h m) hv k1]
    all_goals first | (cases ha; rfl) | cases ha | cases hv

/-! ### What calls do -/
/-- A call comes back. -/
structure Out (J : Nat → Prop) (σ : Nat → Option Own) (w : World) (h : Heap) (J' : Nat → Prop) (σ' : Nat → Option Own) (w' : World) (h' : Heap) : Prop where
  hr : HR J' σ' w' h'
  live : ∀ b, Live σ' h' b → w.heap.size ≤ b ∨ Live σ h b
  sub : ∀ b, J b → J' b
  src : ∀ b, J' b → J b ∨ w.heap.size ≤ b ∨ Live σ h b
  mv : Moved (Live σ h) w w'
  still : ∀ id, lentFrom ≤ id → ∀ o, h'.get id = some o → o.still = true → ∀ ow, σ id = some ow → ∃ ow', σ' id = some ow' ∧ ow'.h = ow.h

/-- A call, of a function with a text or without one. -/
def CallsV (P : Program) (f : Nat) (us : Array Value) (w : World) (Q : Ending → World → Prop) : Prop :=
  ((callFunc f us).run P w = .ok (.enter f us) w ∧ Calls P f us w Q) ∨ ∃ u w', (callFunc f us).run P w = .ok (.value u) w' ∧ Q (.returned u) w'
theorem CallsV.mono {P : Program} {f : Nat} {us : Array Value} {w : World} {Q Q' : Ending → World → Prop} (h : CallsV P f us w Q) (hq : ∀ e w', Q e w' → Q' e w') : CallsV P f us w Q' := by
  rcases h with ⟨h1, h2⟩ | ⟨u, w', h1, h2⟩
  · exact .inl ⟨h1, Calls.mono h2 fun e w' => hq e w'⟩
  · exact .inr ⟨u, w', h1, hq _ _ h2⟩
/-- What calls do: for what is lent, whatever it is. -/
def CallOK (P : Program) (call : CallF) : Prop :=
  ∀ f vs h r, call f vs h = some r →
    ∀ (J : Nat → Prop) (σ : Nat → Option Own) (w : World) (us : List Value), HR J σ w h → VRs J σ w vs us →
      CallsV P f us.toArray w fun e w' => ∃ u J' σ', e = .returned u ∧ Out J σ w h J' σ' w' r.2 ∧ VR J' σ' w' r.1 u

end
end Go.Q
