/- An abstract interpreter of the translated code: what is lent to a call, and what comes back. -/
import Derived.Test.YtjcldkfgpifebaaGQCall
namespace Go.Q
set_option linter.unusedVariables false
set_option linter.unusedSimpArgs false
set_option linter.unusedSectionVars false
open Go
section
variable {P : Program} {E : Env} {L : Nat → Prop} {I I' J K : Nat → Prop} {σ σ' : Nat → Option Own} {st st' : St} {w w' : World}

/-- What is known of what is lent. -/
def ownOf (σ : Nat → Option Own) : Ln → Option Own
  | .a (.t id) => σ id
  | .a (.n id i off) => (hdrOf σ (.n id i off)).map fun H => ⟨H, fun _ _ => none⟩
  | .b id => σ id
def sigL (σ : Nat → Option Own) (ls : List Ln) : Nat → Option Own := fun i => if lentFrom ≤ i then (ls[i - lentFrom]?).bind (ownOf σ) else none

theorem ownOf_hdr (σ : Nat → Option Own) (p : Pl) : (ownOf σ (.a p)).map (·.h) = hdrOf σ p := by
  cases p with
  | t id => rfl
  | n id i off => simp only [ownOf]; cases hdrOf σ (.n id i off) <;> rfl

theorem sigL_at {σ : Nat → Option Own} {ls : List Ln} {k : Nat} (hk : lentFrom ≤ k) {l : Ln} (hl : ls[k - lentFrom]? = some l) : sigL σ ls k = ownOf σ l := by
  simp only [sigL, if_pos hk, hl, Option.bind_some]

/-- What leads to what is lent, for the callee. -/
theorem lentF_ok {ls : List Ln} (v : AV) (u : Value) (h : LR σ v u) : VR J (sigL σ ls) w (lentF ls v) u := by
  have hh : ∀ p k, indexL (.a p) lentFrom ls = some k → hdrOf (sigL σ ls) (.t k) = hdrOf σ p := fun p k hk => by
    obtain ⟨k1, k2⟩ := indexL_some hk
    simp only [hdrOf]
    rw [sigL_at k1 k2, ownOf_hdr]
    rfl
  have hb : ∀ id k, indexL (.b id) lentFrom ls = some k → sigL σ ls k = σ id := fun id k hk => by
    obtain ⟨k1, k2⟩ := indexL_some hk
    rw [sigL_at k1 k2]; rfl
  cases v <;> first | exact h.elim | skip
  case os p => simp only [lentF]; split; (rename_i k hk; exact LR.toVR (.os (.t k)) u (by simpa only [LR, hh p k hk] using h)); trivial
  case sub p a n => simp only [lentF]; split; (rename_i k hk; exact LR.toVR (.sub (.t k) a n) u (by simpa only [LR, hh p k hk] using h)); trivial
  case el p i off => simp only [lentF]; split; (rename_i k hk; exact LR.toVR (.el (.t k) i off) u (by simpa only [LR, hh p k hk] using h)); trivial
  case op id off => simp only [lentF]; split; (rename_i k hk; exact LR.toVR (.op k off) u (by simpa only [LR, hb id k hk] using h)); trivial
  case mp id => simp only [lentF]; split; (rename_i k hk; exact LR.toVR (.mp k) u (by simpa only [LR, hb id k hk] using h)); trivial

/-- One thing that is lent. -/
theorem lentObj_ok (h : HR I σ w st.heap) (hJ : ∀ b, I b → J b) {ls : List Ln} {l : Ln} {o : Obj} (ho : lentObj st.heap ls l = some o) :
    ∃ o0 ow0 owl, st.heap.get l.id = some o0 ∧ o0.live = true ∧ o.live = true ∧ σ l.id = some ow0 ∧ ownOf σ l = some owl ∧ (∀ b, owl.has b → ow0.has b) ∧ ObjR J (sigL σ ls) w owl o := by
  cases l with
  | a p =>
    simp only [lentObj, Option.bind_eq_some_iff] at ho
    obtain ⟨v, ha, ho⟩ := ho
    cases p with
    | t id =>
      simp only [Heap.arrAt] at ha
      split at ha
      · rename_i m d t xs hg
        cases ha
        simp only [lentArr, Option.some.injEq, Heap.deepAt, hg] at ho
        subst ho
        obtain ⟨ow, h1, h2⟩ := h.objs id _ hg
        exact ⟨_, ow, ow, hg, rfl, rfl, h1, h1, fun _ h => h, ObjR.map (σ' := sigL σ ls) (o := .arr false d t xs) hJ (fun _ _ => rfl) (fun _ _ _ => rfl) (lentF ls) (fun vs es hv => VRs.map hJ (fun _ _ => rfl) _ (fun v u hv => lentF_ok v u hv) vs es hv) h2⟩
      · cases ha
    | n id i off =>
      obtain ⟨t, xs, H, cs, rfl, hpl⟩ := h.place ha
      simp only [lentArr, Option.some.injEq, Heap.deepAt] at ho
      subst ho
      have hin := hpl.hdr
      have hin2 := hin
      simp only [hdrOf, Option.bind_eq_some_iff] at hin2
      obtain ⟨ow, h1, h2⟩ := hin2
      have hg : ∃ m t0 xs0, st.heap.get id = some (.arr m true t0 xs0) := by
        simp only [Heap.arrAt] at ha
        split at ha
        · rename_i m t0 xs0 hg; exact ⟨m, t0, xs0, hg⟩
        · cases ha
      obtain ⟨m, t0, xs0, hg⟩ := hg
      refine ⟨_, ow, ⟨H, fun _ _ => none⟩, hg, rfl, rfl, h1, by simp [ownOf, hin], fun b hb => ?_, hpl.sz, fun _ _ _ => rfl, ⟨fun _ _ _ _ h => (by cases h), fun _ _ _ _ _ _ _ h => (by cases h)⟩, cs, hpl.arr, fun j hj => EltR.of_flat (.inl rfl) (DR.mono hJ (fun _ _ => rfl) t _ _ ((hpl.elt j hj).ex.2.2.1 (.inl rfl)))⟩
      rcases hb with hb | ⟨_, _, _, hb, _⟩
      · exact .inr ⟨i, off, H, h2, hb⟩
      · cases hb
  | b id =>
    simp only [lentObj] at ho
    split at ho
    · rename_i vs hg
      cases ho
      obtain ⟨ow, h1, h2⟩ := h.objs id _ hg
      exact ⟨_, ow, ow, hg, rfl, rfl, h1, h1, fun _ h => h, ObjR.map hJ (fun _ _ => rfl) (fun _ _ _ => rfl) (lentF ls) (fun vs es hv => VRs.map hJ (fun _ _ => rfl) _ (fun v u hv => lentF_ok v u hv) vs es hv) h2⟩
    · rename_i tk tv kvs hg
      cases ho
      obtain ⟨ow, h1, h2⟩ := h.objs id _ hg
      exact ⟨_, ow, ow, hg, rfl, rfl, h1, h1, fun _ h => h, ObjR.map (σ' := sigL σ ls) hJ (fun _ _ => rfl) (fun _ _ _ => rfl) (lentF ls) (fun vs es hv => VRs.map hJ (fun _ _ => rfl) _ (fun v u hv => lentF_ok v u hv) vs es hv) h2⟩
    · rename_i d T e s hg
      cases ho
      obtain ⟨ow, h1, h2⟩ := h.objs id _ hg
      exact ⟨_, ow, ow, hg, rfl, rfl, h1, h1, fun _ h => h, h2⟩
    · cases ho

theorem nodup_ids {ls : List Ln} (hn : (ls.map Ln.id).Nodup) {j k : Nat} {l l' : Ln} (hj : ls[j]? = some l) (hk : ls[k]? = some l') (he : l.id = l'.id) : j = k := by
  have h1 : (ls.map Ln.id)[j]? = some l.id := by simp [hj]
  have h2 : (ls.map Ln.id)[k]? = some l'.id := by simp [hk]
  have hlj := (List.getElem?_eq_some_iff.1 h1).1
  rw [he, ← h2] at h1
  exact (List.getElem?_inj hlj hn).1 h1

/-- What a lent thing's number leads to. -/
theorem lent_get {ls : List Ln} {hl : Heap} (hlH : lentHeap st.heap ls lentFrom ls = some hl) {i : Nat} {o : Obj} (hg : hl.get i = some o) : lentFrom ≤ i ∧ ∃ l, ls[i - lentFrom]? = some l ∧ lentObj st.heap ls l = some o := by
  obtain ⟨h1, h2⟩ := lentHeap_get hlH i
  by_cases hi : lentFrom ≤ i
  · have h3 := h2 hi
    refine ⟨hi, ?_⟩
    cases hl' : ls[i - lentFrom]? with
    | none => rw [hl'] at h3; simp only at h3; rw [h3] at hg; cases hg
    | some l =>
      rw [hl'] at h3
      obtain ⟨o', k1, k2⟩ := h3
      rw [k2] at hg; cases hg
      exact ⟨l, rfl, k1⟩
  · rw [h1 (by omega)] at hg; cases hg

theorem lent_all {ls : List Ln} {hl : Heap} (hlH : lentHeap st.heap ls lentFrom ls = some hl) {k : Nat} {l : Ln} (hk : ls[k]? = some l) : ∃ o, lentObj st.heap ls l = some o ∧ hl.get (lentFrom + k) = some o := by
  have h2 := (lentHeap_get hlH (lentFrom + k)).2 (by omega)
  rw [Nat.add_sub_cancel_left, hk] at h2
  exact h2

/-- The callee's objects. -/
theorem lent_HR (h : HR I σ w st.heap) {ls : List Ln} {hl : Heap} (hlH : lentHeap st.heap ls lentFrom ls = some hl) (hn : (ls.map Ln.id).Nodup) (hJ : ∀ b, I b → J b) (hJ' : ∀ b, J b → I b ∨ Live σ (st.heap.bury ls) b) :
    HR J (sigL σ ls) w hl ∧ ∀ b, Live (sigL σ ls) hl b → Live σ st.heap b ∧ ¬ Live σ (st.heap.bury ls) b := by
  have hlive : ∀ i o owl b, hl.get i = some o → sigL σ ls i = some owl → owl.has b → ∃ l o0 ow0, ls[i - lentFrom]? = some l ∧ lentFrom ≤ i ∧ st.heap.get l.id = some o0 ∧ o0.live = true ∧ σ l.id = some ow0 ∧ ow0.has b := by
    intro i o owl b hg hs hb
    obtain ⟨hi, l, k1, k2⟩ := lent_get hlH hg
    obtain ⟨o0, ow0, owl', m1, m2, m3, m4, m5, m6, m7⟩ := lentObj_ok h hJ k2
    rw [sigL_at hi k1, m5] at hs
    cases hs
    exact ⟨l, o0, ow0, k1, hi, m1, m2, m4, m6 b hb⟩
  have hL : ∀ b, Live (sigL σ ls) hl b → Live σ st.heap b ∧ ¬ Live σ (st.heap.bury ls) b := by
    rintro b ⟨i, o, owl, g1, g2, g3, g4⟩
    obtain ⟨l, o0, ow0, k1, k2, k3, k4, k5, k6⟩ := hlive i o owl b g1 g3 g4
    refine ⟨⟨l.id, o0, ow0, k3, k4, k5, k6⟩, ?_⟩
    rintro ⟨i', o', ow', m1, m2, m3, m4⟩
    rw [Heap.get_bury] at m1
    split at m1
    · cases m1; cases m2
    · rename_i hni
      have hne : i' ≠ l.id := fun e => hni (by rw [e]; exact List.mem_map.2 ⟨l, List.mem_of_getElem? k1, rfl⟩)
      exact h.dist i' l.id o' o0 ow' ow0 b hne m1 k3 m2 k4 m3 k5 m4 k6
  refine ⟨⟨fun i o hg => ?_, fun i hg => ?_, fun b hb => ⟨fun hj => ?_, (h.own b (hL b hb).1).2⟩, fun i j oi oj owi owj b hij hi hj hli hlj hsi hsj hbi hbj => ?_, fun b hb => ?_⟩, hL⟩
  · obtain ⟨hi, l, k1, k2⟩ := lent_get hlH hg
    obtain ⟨o0, ow0, owl, m1, m2, m3, m4, m5, m6, m7⟩ := lentObj_ok h hJ k2
    exact ⟨owl, by rw [sigL_at hi k1]; exact m5, m7⟩
  · simp only [sigL]
    split
    · rename_i hi
      have h2 := (lentHeap_get hlH i).2 hi
      cases hl' : ls[i - lentFrom]? with
      | none => rfl
      | some l =>
        rw [hl'] at h2
        obtain ⟨o', _, k2⟩ := h2
        rw [k2] at hg; cases hg
    · rfl
  · rcases hJ' b hj with hj | hj
    · exact (h.own b (hL b hb).1).1 hj
    · exact (hL b hb).2 hj
  · obtain ⟨l, o0, ow0, k1, k2, k3, k4, k5, k6⟩ := hlive i oi owi b hi hsi hbi
    obtain ⟨l', o0', ow0', k1', k2', k3', k4', k5', k6'⟩ := hlive j oj owj b hj hsj hbj
    have hne : l.id ≠ l'.id := fun e => hij (by have := nodup_ids hn k1 k1' e; omega)
    exact h.dist l.id l'.id o0 o0' ow0 ow0' b hne k3 k3' k4 k4' k5 k5' k6 k6'
  · rcases hJ' b hb with hb | ⟨i', o', ow', m1, m2, m3, m4⟩
    · exact h.lt b hb
    · rw [Heap.get_bury] at m1
      split at m1
      · cases m1; cases m2
      · exact (h.own b ⟨i', o', ow', m1, m2, m3, m4⟩).2

/-- The arguments. -/
theorem argsOf_ok {ls : List Ln} (hb : HR I σ w (st.heap.bury ls)) {by_ : List Nat} (hJ : ∀ b, I b → J b) : ∀ {vs us : List AV} {xs : List Value} {k : Nat}, VRs I σ w vs xs → argsOf (st.heap.bury ls) ls by_ k vs = some us → (plainOwned by_ k vs = true → ∀ b, Live σ (st.heap.bury ls) b → J b) → VRs J (sigL σ ls) w us xs
  | [], us, xs, k, hv, ha, _ => by
    simp only [argsOf, Option.some.injEq] at ha
    subst ha; exact hv
  | v :: vs, us, xs, k, hv, ha, hP => by
    obtain ⟨e, es', rfl, h2, h3⟩ := hv
    simp only [argsOf, Option.bind_eq_some_iff, Option.map_eq_some_iff] at ha
    obtain ⟨u, h4, us', h5, rfl⟩ := ha
    refine ⟨e, es', rfl, ?_, argsOf_ok hb hJ h3 h5 (fun hp => hP (by simp [plainOwned, hp]))⟩
    split at h4
    · cases h4
      exact VR.map hJ (fun _ _ => rfl) _ (fun v u hv => lentF_ok v u hv) v e h2
    · rename_i hc
      cases ho : v.owned with
      | false =>
        rw [argOf_same _ 8 v u ho h4]
        exact VR.mono hJ (fun _ _ => rfl) (fun _ _ h => by cases h) _ _ (VR.noOwn v e ho h2)
      | true =>
        refine VR.mono (fun b hbb => ?_) (fun _ _ => rfl) (fun _ _ h => by cases h) _ _ (hb.argOf 8 v u e h2 h4)
        rcases hbb with hbb | hbb
        · exact hJ b hbb
        · exact hP (by simp only [plainOwned, ho, Bool.and_true, Bool.or_eq_true, Bool.not_eq_true']; left; simpa using hc) b hbb

/-! ### Back -/
/-- The whole object that is lent under a number. -/
def lentAt (i : Nat) : Nat → List Ln → Option Nat
  | _, [] => none
  | k, .a (.t id) :: ls => if id = i then some k else lentAt i (k + 1) ls
  | k, .a (.n _ _ _) :: ls => lentAt i (k + 1) ls
  | k, .b id :: ls => if id = i then some k else lentAt i (k + 1) ls
theorem lentAt_some {i : Nat} : ∀ {ls : List Ln} {n k : Nat}, lentAt i n ls = some k → n ≤ k ∧ (ls[k - n]? = some (.a (.t i)) ∨ ls[k - n]? = some (.b i))
  | [], _, _, h => by simp [lentAt] at h
  | l :: ls, n, k, h => by
    have rest : lentAt i (n + 1) ls = some k → n ≤ k ∧ ((l :: ls)[k - n]? = some (.a (.t i)) ∨ (l :: ls)[k - n]? = some (.b i)) := fun h => by
      obtain ⟨h1, h2⟩ := lentAt_some h
      refine ⟨by omega, ?_⟩
      rw [show k - n = (k - (n + 1)) + 1 from by omega]
      simpa using h2
    cases l with
    | b id =>
      simp only [lentAt] at h
      split at h
      · rename_i e; cases h; subst e; exact ⟨Nat.le_refl _, .inr (by simp)⟩
      · exact rest h
    | a p =>
      cases p with
      | n _ _ _ => exact rest h
      | t id =>
        simp only [lentAt] at h
        split at h
        · rename_i e; cases h; subst e; exact ⟨Nat.le_refl _, .inl (by simp)⟩
        · exact rest h
theorem lentAt_none {i : Nat} : ∀ {ls : List Ln} {n : Nat}, lentAt i n ls = none → ∀ l ∈ ls, l ≠ .a (.t i) ∧ l ≠ .b i
  | [], _, _, l, hl => by simp at hl
  | l' :: ls, n, h, l, hl => by
    cases l' with
    | b id =>
      simp only [lentAt] at h
      split at h
      · cases h
      · rename_i e
        rcases List.mem_cons.1 hl with rfl | hl
        · exact ⟨by simp, by simpa using e⟩
        · exact lentAt_none h l hl
    | a p =>
      cases p with
      | n _ _ _ =>
        simp only [lentAt] at h
        rcases List.mem_cons.1 hl with rfl | hl
        · exact ⟨by simp, by simp⟩
        · exact lentAt_none h l hl
      | t id =>
        simp only [lentAt] at h
        split at h
        · cases h
        · rename_i e
          rcases List.mem_cons.1 hl with rfl | hl
          · exact ⟨by simpa using e, by simp⟩
          · exact lentAt_none h l hl
theorem lentAt_at {ls : List Ln} (hn : (ls.map Ln.id).Nodup) {k i : Nat} (h : ls[k]? = some (.a (.t i)) ∨ ls[k]? = some (.b i)) : lentAt i 0 ls = some k := by
  cases hl : lentAt i 0 ls with
  | none =>
    have := lentAt_none hl
    rcases h with h | h
    · exact absurd rfl (this _ (List.mem_of_getElem? h)).1
    · exact absurd rfl (this _ (List.mem_of_getElem? h)).2
  | some k' =>
    obtain ⟨_, h2⟩ := lentAt_some hl
    rw [Nat.sub_zero] at h2
    congr 1
    rcases h with h | h <;> rcases h2 with h2 | h2 <;> exact nodup_ids hn h2 h rfl

/-- What is known behind a call. -/
def sigB (σ σ' : Nat → Option Own) (ls : List Ln) (ns : List Nat) (base : Nat) : Nat → Option Own := fun i =>
  if base ≤ i ∧ i < base + ns.length then (ns[i - base]?).bind σ' else match lentAt i 0 ls with
    | some k => σ' (lentFrom + k)
    | none => σ i

/-- The situation behind a call. -/
structure Ret (I K : Nat → Prop) (σ σ' : Nat → Option Own) (w w' : World) (h : Heap) (ls : List Ln) (hl h' : Heap) (ns : List Nat) (base : Nat) : Prop where
  hr : HR I σ w h
  lent : lentHeap h ls lentFrom ls = some hl
  nodup : (ls.map Ln.id).Nodup
  hr' : HR K σ' w' h'
  sub : ∀ b, I b → K b
  live : ∀ b, Live σ' h' b → w.heap.size ≤ b ∨ Live (sigL σ ls) hl b
  src : ∀ b, K b → I b ∨ w.heap.size ≤ b ∨ Live (sigL σ ls) hl b
  lentLive : ∀ b, Live (sigL σ ls) hl b → Live σ h b ∧ ¬ Live σ (h.bury ls) b
  mv : Moved (Live (sigL σ ls) hl) w w'
  still : ∀ id, lentFrom ≤ id → ∀ o, h'.get id = some o → o.still = true → ∀ ow, sigL σ ls id = some ow → ∃ ow', σ' id = some ow' ∧ ow'.h = ow.h
  news : ns = newIds h'
  once : ns.Nodup
  low : base + ns.length ≤ lentFrom
  away : ∀ l ∈ ls, l.id < base ∨ base + ns.length ≤ l.id

section
variable {h hl h' : Heap} {ls : List Ln} {ns : List Nat} {base : Nat} (R : Ret I K σ σ' w w' h ls hl h' ns base)
include R

theorem Ret.same {b : Nat} (hb : Live σ (h.bury ls) b) : w'.heap[b]? = w.heap[b]? := by
  have h1 : Live σ h b := by
    obtain ⟨i, o, ow, m1, m2, m3, m4⟩ := hb
    rw [Heap.get_bury] at m1
    split at m1
    · cases m1; cases m2
    · exact ⟨i, o, ow, m1, m2, m3, m4⟩
  exact R.mv.block b (R.hr.own b h1).2 (fun hx => (R.lentLive b hx).2 hb)
theorem Ret.sameI {b : Nat} (hb : I b) : w'.heap[b]? = w.heap[b]? :=
  R.mv.block b (R.hr.lt b hb) (fun hx => (R.hr.own b (R.lentLive b hx).1).1 hb)

theorem Ret.newSome {k : Nat} (hk : k < ns.length) : ∃ j o ow, ns[k]? = some j ∧ j < lentFrom ∧ h'.get j = some o ∧ σ' j = some ow ∧ ObjR K σ' w' ow o := by
  have hj : ns[k] ∈ newIds h' := by rw [← R.news]; exact List.getElem_mem hk
  obtain ⟨h1, o, h2⟩ := newIds_mem.1 hj
  obtain ⟨o', h3⟩ := Heap.mem_get h2
  obtain ⟨ow, h4, h5⟩ := R.hr'.objs _ _ h3
  exact ⟨ns[k], o', ow, by simp [hk], h1, h3, h4, h5⟩

theorem Ret.sigNew {k j : Nat} (hk : ns[k]? = some j) : sigB σ σ' ls ns base (base + k) = σ' j := by
  have hlt := (List.getElem?_eq_some_iff.1 hk).1
  simp only [sigB]
  rw [if_pos (by omega), Nat.add_sub_cancel_left, hk]; rfl

theorem Ret.sigLent {k i : Nat} (hk : ls[k]? = some (.a (.t i)) ∨ ls[k]? = some (.b i)) : sigB σ σ' ls ns base i = σ' (lentFrom + k) := by
  have hm : ∃ l ∈ ls, l.id = i := by
    rcases hk with hk | hk <;> exact ⟨_, List.mem_of_getElem? hk, rfl⟩
  obtain ⟨l, hl1, hl2⟩ := hm
  have := R.away l hl1
  simp only [sigB]
  rw [if_neg (by omega), lentAt_at R.nodup hk]

theorem Ret.sigOther {i : Nat} (h1 : ¬ (base ≤ i ∧ i < base + ns.length)) (h2 : ∀ l ∈ ls, l ≠ .a (.t i) ∧ l ≠ .b i) : sigB σ σ' ls ns base i = σ i := by
  simp only [sigB, if_neg h1]
  cases hl : lentAt i 0 ls with
  | none => rfl
  | some k =>
    obtain ⟨_, q⟩ := lentAt_some hl
    rw [Nat.sub_zero] at q
    rcases q with q | q
    · exact absurd rfl (h2 _ (List.mem_of_getElem? q)).1
    · exact absurd rfl (h2 _ (List.mem_of_getElem? q)).2

/-- A callee's object and its place. -/
theorem Ret.backT {i : Nat} {q : Pl} (hq : Go.Q.backT base ls ns i = some q) {ow : Own} (hi : σ' i = some ow) (hst : ∀ id j off, q = .n id j off → ∃ o, h'.get i = some o ∧ o.still = true) :
    hdrOf (sigB σ σ' ls ns base) q = some ow.h ∧ ∀ id, q = .t id → sigB σ σ' ls ns base id = some ow := by
  unfold Go.Q.backT at hq
  split at hq
  · rw [Option.map_eq_some_iff] at hq
    obtain ⟨k, h1, rfl⟩ := hq
    obtain ⟨h2, h3⟩ := indexN_some h1
    have := R.sigNew h3
    rw [show base + (k - base) = k from by omega] at this
    exact ⟨by simp only [hdrOf, this, hi]; rfl, fun id e => by cases e; rw [this, hi]⟩
  · rename_i hlo
    rw [getL_eq] at hq
    have hi' : lentFrom + (i - lentFrom) = i := by omega
    split at hq
    · rename_i p hp
      cases hq
      cases q with
      | t id =>
        have := R.sigLent (.inl hp)
        rw [hi'] at this
        exact ⟨by simp only [hdrOf, this, hi]; rfl, fun id' e => by cases e; rw [this, hi]⟩
      | n id j off =>
        refine ⟨?_, fun _ e => by cases e⟩
        obtain ⟨o, hg, hs⟩ := hst id j off rfl
        have hsl : sigL σ ls i = ownOf σ (.a (.n id j off)) := sigL_at (by omega) hp
        obtain ⟨o1, ho1, hg1⟩ := lent_all (st := ⟨[], h⟩) R.lent hp
        obtain ⟨o0, ow0, owl, m1, m2, m3, m4, m5, m6, m7⟩ := lentObj_ok (st := ⟨[], h⟩) R.hr R.sub ho1
        obtain ⟨ow', q1, q2⟩ := R.still i (by omega) o hg hs owl (by rw [hsl]; exact m5)
        rw [hi] at q1; cases q1
        have hid : ∀ l ∈ ls, l ≠ .a (.t id) ∧ l ≠ .b id := fun l hl => by
          obtain ⟨k', hk'⟩ := List.mem_iff_getElem?.1 hl
          constructor
          · rintro rfl; have := nodup_ids R.nodup hp hk' rfl; subst this; rw [hp] at hk'; cases hk'
          · rintro rfl; have := nodup_ids R.nodup hp hk' rfl; subst this; rw [hp] at hk'; cases hk'
        have hso := R.sigOther (i := id) (by have := R.away _ (List.mem_of_getElem? hp); simp only [Ln.id, Pl.id] at this; omega) hid
        have hH : hdrOf σ (.n id j off) = some owl.h := by
          rw [← ownOf_hdr, m5]; rfl
        simp only [hdrOf] at hH ⊢
        rw [hso, hH, q2]
    · rename_i id hp
      cases hq
      have := R.sigLent (.inr hp)
      rw [hi'] at this
      exact ⟨by simp only [hdrOf, this, hi]; rfl, fun id' e => by cases e; rw [this, hi]⟩
    · cases hq

/-- What leads to the callee's objects, for the caller. -/
theorem Ret.backF (hst : ∀ k l id j off, ls[k]? = some l → l = .a (.n id j off) → ∃ o, h'.get (lentFrom + k) = some o ∧ o.still = true) (v : AV) (u : Value) (hv : LR σ' v u) : VR K (sigB σ σ' ls ns base) w' (Go.Q.backF base ls ns v) u := by
  have hst' : ∀ (i : Nat) (q : Pl), Go.Q.backT base ls ns i = some q → ∀ id j off, q = .n id j off → ∃ o, h'.get i = some o ∧ o.still = true := by
    intro i q hq id j off e
    subst e
    unfold Go.Q.backT at hq
    split at hq
    · rw [Option.map_eq_some_iff] at hq; obtain ⟨k, _, e⟩ := hq; cases e
    · rename_i hlo
      rw [getL_eq] at hq
      split at hq
      · rename_i p hp
        cases hq
        have := hst _ _ id j off hp rfl
        rwa [show lentFrom + (i - lentFrom) = i from by omega] at this
      · cases hq
      · cases hq
  have hP : ∀ p q H, backP base ls ns p = some q → hdrOf σ' p = some H → hdrOf (sigB σ σ' ls ns base) q = some H := by
    intro p q H hq hH
    cases p with
    | t i =>
      simp only [hdrOf, Option.map_eq_some_iff] at hH
      obtain ⟨ow, h1, rfl⟩ := hH
      exact (R.backT hq h1 (hst' i q hq)).1
    | n i j off =>
      simp only [backP] at hq
      split at hq
      · rename_i id hb
        cases hq
        simp only [hdrOf, Option.bind_eq_some_iff] at hH
        obtain ⟨ow, h1, h2⟩ := hH
        have := (R.backT hb h1 (hst' i _ hb)).2 id rfl
        simp only [hdrOf, this, Option.bind_some]; exact h2
      · cases hq
  cases v <;> first | exact hv.elim | skip
  case os p =>
    simp only [Go.Q.backF]
    split
    · rename_i q hq
      obtain ⟨H, A, n, cap, h1, h2, h3⟩ := hv
      exact ⟨H, A, n, cap, hP p q H hq h1, h2, h3⟩
    · trivial
  case sub p a n =>
    simp only [Go.Q.backF]
    split
    · rename_i q hq
      obtain ⟨H, A, len, cap, h1, h2⟩ := hv
      exact ⟨H, A, len, cap, hP p q H hq h1, h2⟩
    · trivial
  case el p i off =>
    simp only [Go.Q.backF]
    split
    · rename_i q hq
      obtain ⟨H, b, o, len, cap, h1, h2⟩ := hv
      exact ⟨H, b, o, len, cap, hP p q H hq h1, h2⟩
    · trivial
  case op i off =>
    simp only [Go.Q.backF]
    split
    · rename_i id hq
      obtain ⟨ow, b, h1, h2, h3⟩ := hv
      exact ⟨ow, b, (R.backT hq h1 (hst' i _ hq)).2 id rfl, h2, h3⟩
    · trivial
  case mp i =>
    simp only [Go.Q.backF]
    split
    · rename_i id hq
      obtain ⟨ow, b, h1, h2, h3⟩ := hv
      exact ⟨ow, b, (R.backT hq h1 (hst' i _ hq)).2 id rfl, h2, h3⟩
    · trivial

/-- What leads no more to what it led to. -/
theorem Ret.lostF {us : List (Nat × Obj)} {f : AV → AV} (hus : backObjs f h h' lentFrom ls = some us) (v : AV) (u : Value) (hv : LR σ v u) :
    VR K (sigB σ σ' ls ns base) w' (Go.Q.lostF (movedIds h' lentFrom ls ++ upTo base ns.length) (wholeIds ls) v) u := by
  obtain ⟨_, hlk, _⟩ := backObjs_look hus
  have hlk := hlk R.nodup
  -- a number that is not lost
  have key : ∀ id, (movedIds h' lentFrom ls ++ upTo base ns.length).contains id = false → ∀ ow, σ id = some ow → ∃ ow', sigB σ σ' ls ns base id = some ow' ∧ ow'.h = ow.h ∧ (id ∉ wholeIds ls → ∀ j off H, ow.inn j off = some H → ow'.inn j off = some H) := by
    intro id hid ow how
    simp only [List.contains_eq_mem, decide_eq_false_iff_not, List.mem_append, not_or, mem_upTo] at hid
    obtain ⟨hid1, hid2⟩ := hid
    cases hla : lentAt id 0 ls with
    | none =>
      refine ⟨ow, ?_, rfl, fun _ _ _ _ h => h⟩
      rw [R.sigOther hid2 (lentAt_none hla)]; exact how
    | some k =>
      obtain ⟨_, hk⟩ := lentAt_some hla
      rw [Nat.sub_zero] at hk
      rw [R.sigLent hk]
      have hsl : sigL σ ls (lentFrom + k) = σ id := by
        rcases hk with hk | hk
        · rw [sigL_at (l := .a (.t id)) (by omega) (by rw [Nat.add_sub_cancel_left]; exact hk)]; rfl
        · rw [sigL_at (l := .b id) (by omega) (by rw [Nat.add_sub_cancel_left]; exact hk)]; rfl
      rcases hk with hk | hk
      · -- an array whose header is the same
        by_cases hst : ∃ d t xs, h'.get (lentFrom + k) = some (.arr false d t xs)
        · obtain ⟨d, t, xs, hg⟩ := hst
          obtain ⟨ow', q1, q2⟩ := R.still (lentFrom + k) (by omega) _ hg rfl ow (by rw [hsl]; exact how)
          exact ⟨ow', q1, q2, fun hn => absurd (wholeIds_mem (.inl (List.mem_of_getElem? hk))) hn⟩
        · exact absurd (movedIds_mem ⟨k, hk, fun d t xs hg => hst ⟨d, t, xs, hg⟩⟩) hid1
      · -- a variable, or a map
        obtain ⟨o, h1, _⟩ := hlk k (.b id) hk
        simp only [backObj, Option.bind_eq_some_iff] at h1
        obtain ⟨o0, g0, o1, g1, h1⟩ := h1
        obtain ⟨ow0, e0, hob⟩ := R.hr.objs id o0 g0
        rw [how] at e0; cases e0
        have hstill : o1.still = true := by
          split at h1 <;> first | rfl | cases h1
        obtain ⟨ow', q1, q2⟩ := R.still (lentFrom + k) (by omega) _ g1 hstill ow (by rw [hsl]; exact how)
        exact ⟨ow', q1, q2, fun hn => absurd (wholeIds_mem (.inr (List.mem_of_getElem? hk))) hn⟩
  have hdr : ∀ p H, ¬ ((movedIds h' lentFrom ls ++ upTo base ns.length).contains p.id = true ∨ (p.isIn = true ∧ (wholeIds ls).contains p.id = true)) → hdrOf σ p = some H → hdrOf (sigB σ σ' ls ns base) p = some H := by
    intro p H hp hH
    simp only [not_or, Bool.not_eq_true] at hp
    cases p with
    | t id =>
      simp only [hdrOf, Option.map_eq_some_iff] at hH
      obtain ⟨ow, h1, rfl⟩ := hH
      obtain ⟨ow', q1, q2, _⟩ := key id hp.1 ow h1
      simp only [hdrOf, q1, Option.map_some, q2]
    | n id j off =>
      simp only [hdrOf, Option.bind_eq_some_iff] at hH
      obtain ⟨ow, h1, h2⟩ := hH
      obtain ⟨ow', q1, _, q3⟩ := key id hp.1 ow h1
      have hn : id ∉ wholeIds ls := fun hm => by
        have h4 := hp.2
        simp only [Pl.isIn, Pl.id, true_and] at h4
        simp [hm] at h4
      simp only [hdrOf, q1, Option.bind_some]
      exact q3 hn j off H h2
  cases v <;> first | exact hv.elim | skip
  case os p =>
    simp only [Go.Q.lostF]
    split
    · trivial
    · rename_i hp
      obtain ⟨H, A, n, cap, h1, h2, h3⟩ := hv
      exact ⟨H, A, n, cap, hdr p H hp h1, h2, h3⟩
  case sub p a n =>
    simp only [Go.Q.lostF]
    split
    · trivial
    · rename_i hp
      obtain ⟨H, A, len, cap, h1, h2⟩ := hv
      exact ⟨H, A, len, cap, hdr p H hp h1, h2⟩
  case el p i off =>
    simp only [Go.Q.lostF]
    split
    · trivial
    · rename_i hp
      obtain ⟨H, b, o, len, cap, h1, h2⟩ := hv
      exact ⟨H, b, o, len, cap, hdr p H hp h1, h2⟩
  case op i off =>
    simp only [Go.Q.lostF]
    split
    · trivial
    · rename_i hp
      obtain ⟨ow, b, h1, h2, h3⟩ := hv
      obtain ⟨ow', q1, q2, _⟩ := key i (by simpa using hp) ow h1
      exact ⟨ow', b, q1, by rw [q2]; exact h2, h3⟩
  case mp i =>
    simp only [Go.Q.lostF]
    split
    · trivial
    · rename_i hp
      obtain ⟨ow, b, h1, h2, h3⟩ := hv
      obtain ⟨ow', q1, q2, _⟩ := key i (by simpa using hp) ow h1
      exact ⟨ow', b, q1, by rw [q2]; exact h2, h3⟩

end
end
end Go.Q
