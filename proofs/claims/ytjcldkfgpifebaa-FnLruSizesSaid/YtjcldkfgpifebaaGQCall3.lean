/- An abstract interpreter of the translated code: calls, whole. -/
import Derived.Test.YtjcldkfgpifebaaGQCall2
namespace Go.Q
set_option linter.unusedVariables false
set_option linter.unusedSimpArgs false
set_option linter.unusedSectionVars false
open Go
section
variable {P : Program} {E : Env} {L : Nat → Prop} {I I' J K : Nat → Prop} {σ σ' : Nat → Option Own} {st st' : St} {w w' : World}
section
variable {h hl h' : Heap} {ls : List Ln} {ns : List Nat} {base : Nat} (R : Ret I K σ σ' w w' h ls hl h' ns base)

/-- The heap behind a call. -/
def finalHeap (h h' : Heap) (ls : List Ln) (ns : List Nat) (base : Nat) (us : List (Nat × Obj)) : Heap :=
  ((Heap.mapR (Go.Q.lostF (movedIds h' lentFrom ls ++ upTo base ns.length) (wholeIds ls)) (h.bury ls)).puts us).puts (newObjs (Go.Q.backF base ls ns) h' base ns)

/-- Where an object behind a call comes from. -/
inductive Cat (σ σ' : Nat → Option Own) (h h' : Heap) (ls : List Ln) (ns : List Nat) (base : Nat) (i : Nat) (o : Obj) : Prop where
  | new (k j : Nat) (o0 : Obj) (ow : Own) (hi : i = base + k) (hk : ns[k]? = some j) (hj : j < lentFrom) (hg : h'.get j = some o0) (hs : σ' j = some ow) (ho : o = o0.mapR (Go.Q.backF base ls ns)) (hσ : sigB σ σ' ls ns base i = some ow)
  | lent (k : Nat) (o0 : Obj) (ow : Own) (hk : ls[k]? = some (.a (.t i)) ∨ ls[k]? = some (.b i)) (hg : h'.get (lentFrom + k) = some o0) (hs : σ' (lentFrom + k) = some ow) (hσ : sigB σ σ' ls ns base i = some ow)
      (ho : ∀ (I : Nat → Prop) (σ1 : Nat → Option Own) (w : World), ObjR I σ1 w ow (o0.mapR (Go.Q.backF base ls ns)) → ObjR I σ1 w ow o) (hl : o.live = true → o0.live = true) (hst : o.still = true → o0.still = true ∧ ∃ o1, h.get i = some o1 ∧ o1.still = true)
  | inner (k j off : Nat) (o1 : Obj) (t : Ty) (xs ys : List t.Den) (hk : ls[k]? = some (.a (.n i j off))) (hg : h.get i = some o1) (ha : h.arrAt (.n i j off) = some (.d (.slice t) ys)) (ho : o1.setIn j off t xs = some o) (hg' : h'.get (lentFrom + k) = some (.arr false false t xs)) (hσ : sigB σ σ' ls ns base i = σ i)
  | old (o0 : Obj) (hn : i ∉ ls.map Ln.id) (hr : ¬ (base ≤ i ∧ i < base + ns.length)) (hg : h.get i = some o0) (ho : o = o0.mapR (Go.Q.lostF (movedIds h' lentFrom ls ++ upTo base ns.length) (wholeIds ls))) (hσ : sigB σ σ' ls ns base i = σ i)

include R
theorem Ret.getF {us : List (Nat × Obj)} (hus : backObjs (Go.Q.backF base ls ns) h h' lentFrom ls = some us) (i : Nat) :
    (finalHeap h h' ls ns base us).get i = if base ≤ i ∧ i < base + ns.length then (ns[i - base]?).map fun j => ((h'.get j).getD .dead).mapR (Go.Q.backF base ls ns) else match lookT us i with
      | some o => some o
      | none => (h.get i).map (Obj.mapR (Go.Q.lostF (movedIds h' lentFrom ls ++ upTo base ns.length) (wholeIds ls))) := by
  obtain ⟨hk1, hk2, hk3⟩ := backObjs_look hus
  unfold finalHeap
  rw [Heap.get_puts i (by rw [newObjs_keys]; exact upTo_nodup), newObjs_look, Heap.get_puts i (by rw [hk1]; exact R.nodup), Heap.get_mapR, Heap.get_bury]
  by_cases h1 : base ≤ i ∧ i < base + ns.length
  · rw [if_pos h1, if_pos h1.1]
    have : i - base < ns.length := by omega
    simp [this]
  · rw [if_neg h1]
    have hnone : (if base ≤ i then (ns[i - base]?).map fun j => ((h'.get j).getD .dead).mapR (Go.Q.backF base ls ns) else none) = none := by
      split
      · have : ns[i - base]? = none := List.getElem?_eq_none (by omega)
        rw [this]; rfl
      · rfl
    rw [hnone]
    simp only
    cases hlk : lookT us i with
    | some o => rfl
    | none =>
      simp only
      have hni : i ∉ ls.map Ln.id := fun hm => by
        obtain ⟨l, hl1, hl2⟩ := List.mem_map.1 hm
        obtain ⟨k, hkk⟩ := List.mem_iff_getElem?.1 hl1
        obtain ⟨o, _, ho⟩ := hk2 R.nodup k l hkk
        rw [hl2, hlk] at ho; cases ho
      rw [if_neg hni]

theorem Ret.cat {us : List (Nat × Obj)} (hus : backObjs (Go.Q.backF base ls ns) h h' lentFrom ls = some us) {i : Nat} {o : Obj} (hg : (finalHeap h h' ls ns base us).get i = some o) : Cat σ σ' h h' ls ns base i o := by
  rw [R.getF hus] at hg
  obtain ⟨hk1, hk2, hk3⟩ := backObjs_look hus
  split at hg
  · rename_i hr
    obtain ⟨j, o0, ow, q1, q2, q3, q4, _⟩ := R.newSome (k := i - base) (by omega)
    rw [q1, Option.map_some, Option.some.injEq, q3] at hg
    refine .new (i - base) j o0 ow (by omega) q1 q2 q3 q4 hg.symm ?_
    have := R.sigNew q1
    rw [show base + (i - base) = i from by omega] at this
    rw [this, q4]
  · rename_i hr
    by_cases hm : i ∈ ls.map Ln.id
    · obtain ⟨l, hl1, hl2⟩ := List.mem_map.1 hm
      obtain ⟨k, hkk⟩ := List.mem_iff_getElem?.1 hl1
      obtain ⟨o', hb, hlk⟩ := hk2 R.nodup k l hkk
      rw [hl2] at hlk
      rw [hlk] at hg
      simp only [Option.some.injEq] at hg
      subst hg
      cases l with
      | b id =>
        simp only [Ln.id] at hl2
        subst hl2
        simp only [backObj, Option.bind_eq_some_iff] at hb
        obtain ⟨o1, g1, o0, g0, hb⟩ := hb
        obtain ⟨ow, hs, _⟩ := R.hr'.objs _ _ g0
        refine .lent k o0 ow (.inr hkk) g0 hs (by rw [R.sigLent (.inr hkk)]; exact hs) ?_ ?_ ?_
        · split at hb
          · cases hb; exact fun _ _ _ h => h
          · cases hb; exact fun _ _ _ h => h
          · cases hb; exact fun _ _ _ h => h
          · cases hb
        · split at hb
          · cases hb; exact fun h => h
          · cases hb; exact fun h => h
          · cases hb; exact fun h => h
          · cases hb
        · split at hb
          · cases hb; exact fun h => ⟨rfl, _, g1, rfl⟩
          · cases hb; exact fun h => ⟨rfl, _, g1, rfl⟩
          · cases hb; exact fun h => ⟨rfl, _, g1, rfl⟩
          · cases hb
      | a p =>
        cases p with
        | t id =>
          simp only [Ln.id, Pl.id] at hl2
          subst hl2
          simp only [backObj, Option.bind_eq_some_iff] at hb
          obtain ⟨o1, g1, o0, g0, hb⟩ := hb
          obtain ⟨ow, hs, _⟩ := R.hr'.objs _ _ g0
          refine .lent k o0 ow (.inl hkk) g0 hs (by rw [R.sigLent (.inl hkk)]; exact hs) ?_ ?_ ?_
          · split at hb
            · cases hb; exact fun _ _ _ h => h
            · cases hb; exact fun _ _ _ h => trivial
            · cases hb
          · split at hb
            · cases hb; exact fun h => rfl
            · cases hb; exact fun h => h
            · cases hb
          · split at hb
            · rename_i m _ _ _ m' _ _ _
              cases hb
              intro hst
              simp only [Obj.still, Bool.not_eq_true', Bool.or_eq_false_iff] at hst ⊢
              exact ⟨hst.2, _, g1, by simp [hst.1]⟩
            · cases hb; intro hst; cases hst
            · cases hb
        | n id j off =>
          simp only [Ln.id, Pl.id] at hl2
          subst hl2
          simp only [backObj, Option.bind_eq_some_iff] at hb
          obtain ⟨o1, g1, v, ga, o0, g0, hb⟩ := hb
          split at hb
          · rename_i t xs t' ys
            split at hb
            · rename_i e
              subst e
              have hid : ∀ l ∈ ls, l ≠ .a (.t id) ∧ l ≠ .b id := fun l hl => by
                obtain ⟨k', hk'⟩ := List.mem_iff_getElem?.1 hl
                constructor
                · rintro rfl; have := nodup_ids R.nodup hkk hk' rfl; subst this; rw [hkk] at hk'; cases hk'
                · rintro rfl; have := nodup_ids R.nodup hkk hk' rfl; subst this; rw [hkk] at hk'; cases hk'
              exact .inner k j off o1 t' xs ys hkk g1 ga hb g0 (R.sigOther hr hid)
            · cases hb
          · cases hb
    · rw [hk3 i hm] at hg
      simp only [Option.map_eq_some_iff] at hg
      obtain ⟨o0, g0, rfl⟩ := hg
      refine .old o0 hm hr g0 rfl (R.sigOther hr fun l hl => ⟨?_, ?_⟩)
      · rintro rfl; exact hm (List.mem_map.2 ⟨_, hl, rfl⟩)
      · rintro rfl; exact hm (List.mem_map.2 ⟨_, hl, rfl⟩)

/-- The block of a slice that is lent out of an element. -/
theorem Ret.innerBlock {k i j off : Nat} (hk : ls[k]? = some (.a (.n i j off))) {ow : Own} (hs : σ i = some ow) {o : Obj} (hg : h.get i = some o) (hol : o.live = true) {b : Nat} (hb : ow.has b) (hlb : Live (sigL σ ls) hl b) {H : Hdr} (hH : hdrOf σ (.n i j off) = some H) : blockOf H.v = some b := by
  obtain ⟨x, ox, owx, g1, g2, g3, g4⟩ := hlb
  obtain ⟨hx, l, k1, k2⟩ := lent_get (st := ⟨[], h⟩) R.lent g1
  obtain ⟨o0, ow0, owl, m1, m2, m3, m4, m5, m6, m7⟩ := lentObj_ok (st := ⟨[], h⟩) R.hr R.sub k2
  rw [sigL_at hx k1, m5] at g3
  cases g3
  by_cases e : l.id = i
  · have := nodup_ids R.nodup k1 hk e
    rw [this] at k1
    rw [hk] at k1; cases k1
    simp only [ownOf, hH, Option.map_some, Option.some.injEq] at m5
    subst m5
    rcases g4 with g4 | ⟨_, _, _, g4, _⟩
    · exact g4
    · cases g4
  · exact absurd hb (R.hr.dist l.id i o0 o ow0 ow b e m1 hg m2 hol m4 hs (m6 b g4))

/-- What the callee leaves of a slice that is lent out of an element. -/
theorem Ret.innerHdr {k i j off : Nat} (hk : ls[k]? = some (.a (.n i j off))) {t : Ty} {xs : List t.Den} (hg : h'.get (lentFrom + k) = some (.arr false false t xs)) : ∃ H ow, hdrOf σ (.n i j off) = some H ∧ σ' (lentFrom + k) = some ow ∧ ow.h = H ∧ PlainArr K w' t xs H.v := by
  obtain ⟨o1, ho1, hg1⟩ := lent_all (st := ⟨[], h⟩) R.lent hk
  obtain ⟨o0, ow0, owl, m1, m2, m3, m4, m5, m6, m7⟩ := lentObj_ok (st := ⟨[], h⟩) R.hr R.sub ho1
  have hsl : sigL σ ls (lentFrom + k) = some owl := by rw [sigL_at (l := .a (.n i j off)) (by omega) (by rw [Nat.add_sub_cancel_left]; exact hk)]; exact m5
  obtain ⟨ow, q1, q2⟩ := R.still (lentFrom + k) (by omega) _ hg rfl owl hsl
  have hH : hdrOf σ (.n i j off) = some owl.h := by rw [← ownOf_hdr, m5]; rfl
  refine ⟨owl.h, ow, hH, q1, q2, ?_⟩
  obtain ⟨ow', r1, r2, r3, r4, cs, r5, r6⟩ := R.hr'.objs _ _ hg
  rw [q1] at r1; cases r1
  rw [← q2]
  exact ⟨cs, r5, fun i hi => by have := r6 i hi; simpa [EltR] using this⟩

theorem Ret.hst {us : List (Nat × Obj)} (hus : backObjs (Go.Q.backF base ls ns) h h' lentFrom ls = some us) : ∀ k l id j off, ls[k]? = some l → l = .a (.n id j off) → ∃ o, h'.get (lentFrom + k) = some o ∧ o.still = true := by
  rintro k l id j off hk rfl
  obtain ⟨_, hk2, _⟩ := backObjs_look hus
  obtain ⟨o', hb, _⟩ := hk2 R.nodup k _ hk
  simp only [backObj, Option.bind_eq_some_iff] at hb
  obtain ⟨o1, g1, v, ga, o0, g0, hb⟩ := hb
  split at hb
  · exact ⟨_, g0, rfl⟩
  · cases hb

/-- Where the blocks of a live object behind a call come from: the callee's, or the caller's. -/
theorem Ret.blocks {us : List (Nat × Obj)} (hus : backObjs (Go.Q.backF base ls ns) h h' lentFrom ls = some us) {i : Nat} {o : Obj} (hg : (finalHeap h h' ls ns base us).get i = some o) (hl' : o.live = true) {ow : Own} (hs : sigB σ σ' ls ns base i = some ow) :
    (∃ j o0, h'.get j = some o0 ∧ o0.live = true ∧ σ' j = some ow ∧ ((∃ k, i = base + k ∧ ns[k]? = some j ∧ j < lentFrom) ∨ ∃ k, j = lentFrom + k ∧ (ls[k]? = some (.a (.t i)) ∨ ls[k]? = some (.b i)))) ∨
    (∃ o1, h.get i = some o1 ∧ o1.live = true ∧ σ i = some ow ∧ ∀ b, ow.has b → Live (sigL σ ls) hl b → ∃ k j off t xs, ls[k]? = some (.a (.n i j off)) ∧ h'.get (lentFrom + k) = some (.arr false false t xs) ∧ ∃ ow', σ' (lentFrom + k) = some ow' ∧ ow'.has b) := by
  cases R.cat hus hg with
  | new k j o0 ow' hi hk hj hg' hs' ho hσ =>
    rw [hσ] at hs; cases hs
    exact .inl ⟨j, o0, hg', by rw [ho, Obj.live_mapR] at hl'; exact hl', hs', .inl ⟨k, hi, hk, hj⟩⟩
  | lent k o0 ow' hk hg' hs' hσ ho hl2 hst =>
    rw [hσ] at hs; cases hs
    exact .inl ⟨_, o0, hg', hl2 hl', hs', .inr ⟨k, rfl, hk⟩⟩
  | inner k j off o1 t xs ys hk hg1 ha ho hg' hσ =>
    rw [hσ] at hs
    have hl1 : o1.live = true := by cases o1 <;> first | rfl | simp [Obj.setIn] at ho
    refine .inr ⟨o1, hg1, hl1, hs, fun b hb hlb => ⟨k, j, off, t, xs, hk, hg', ?_⟩⟩
    obtain ⟨H, ow', q1, q2, q3, _⟩ := R.innerHdr hk hg'
    exact ⟨ow', q2, .inl (by rw [q3]; exact R.innerBlock hk hs hg1 hl1 hb hlb q1)⟩
  | old o0 hn hr hg0 ho hσ =>
    rw [hσ] at hs
    have hl0 : o0.live = true := by rw [ho, Obj.live_mapR] at hl'; exact hl'
    refine .inr ⟨o0, hg0, hl0, hs, fun b hb hlb => ?_⟩
    exact absurd ⟨i, o0, ow, by rw [Heap.get_bury, if_neg hn]; exact hg0, hl0, hs, hb⟩ (R.lentLive b hlb).2

/-- The objects behind a call. -/
theorem Ret.final {us : List (Nat × Obj)} (hus : backObjs (Go.Q.backF base ls ns) h h' lentFrom ls = some us) : HR K (sigB σ σ' ls ns base) w' (finalHeap h h' ls ns base us) := by
  have hback : ∀ v u, LR σ' v u → VR K (sigB σ σ' ls ns base) w' (Go.Q.backF base ls ns v) u := R.backF (R.hst hus)
  have hmapB : ∀ vs es, VRs K σ' w' vs es → VRs K (sigB σ σ' ls ns base) w' (AV.mapRs (Go.Q.backF base ls ns) vs) es := fun vs es hv => VRs.map (fun _ h => h) (fun _ _ => rfl) _ hback vs es hv
  have hlost := R.lostF hus
  have hnew : ∀ b, w.heap.size ≤ b → ¬ Live σ h b := fun b hb hx => by have := (R.hr.own b hx).2; omega
  refine ⟨fun i o hg => ?_, fun i hg => ?_, fun b hb => ?_, fun i i' o o' ow ow' b hii hg hg' hl1 hl2 hs hs' hb hb' => ?_, R.hr'.lt⟩
  · cases R.cat hus hg with
    | new k j o0 ow hi hk hj hg' hs' ho hσ =>
      obtain ⟨ow', q1, q2⟩ := R.hr'.objs j o0 hg'
      rw [hs'] at q1; cases q1
      exact ⟨ow, hσ, by rw [ho]; exact ObjR.map (fun _ h => h) (fun _ _ => rfl) (fun _ _ _ => rfl) _ hmapB q2⟩
    | lent k o0 ow hk hg' hs' hσ ho hl2 hst =>
      obtain ⟨ow', q1, q2⟩ := R.hr'.objs _ o0 hg'
      rw [hs'] at q1; cases q1
      exact ⟨ow, hσ, ho _ _ _ (ObjR.map (fun _ h => h) (fun _ _ => rfl) (fun _ _ _ => rfl) _ hmapB q2)⟩
    | inner k j off o1 t xs ys hk hg1 ha ho hg' hσ =>
      obtain ⟨H, ow', q1, q2, q3, q4⟩ := R.innerHdr hk hg'
      have hl1 : o1.live = true := by cases o1 <;> first | rfl | simp [Obj.setIn] at ho
      obtain ⟨ow, r1, r2, _⟩ := ObjR.setIn (st := ⟨[], h⟩) (I' := K) (σ' := sigB σ σ' ls ns base) R.hr hg1 ha q1 q4 R.sub (fun b hb => R.sameI hb)
        (fun ow1 b h1 h2 h3 => R.mv.block b (R.hr.own b ⟨i, o1, ow1, hg1, hl1, h1, h2⟩).2 (fun hx => h3 (R.innerBlock hk h1 hg1 hl1 h2 hx q1))) ho
      exact ⟨ow, by rw [hσ]; exact r1, r2⟩
    | old o0 hn hr hg0 ho hσ =>
      obtain ⟨ow, r1, r2⟩ := R.hr.objs i o0 hg0
      refine ⟨ow, by rw [hσ]; exact r1, ?_⟩
      rw [ho]
      refine ObjR.map R.sub (fun b hb => R.sameI hb) (fun hl0 b hb => R.same ⟨i, o0, ow, by rw [Heap.get_bury, if_neg hn]; exact hg0, hl0, r1, hb⟩) _ (fun vs es hv => VRs.map R.sub (fun b hb => R.sameI hb) _ hlost vs es hv) r2
  · rw [R.getF hus] at hg
    split at hg
    · rename_i hr
      obtain ⟨j, o0, ow, q1, _⟩ := R.newSome (k := i - base) (by omega)
      rw [q1] at hg; cases hg
    · rename_i hr
      obtain ⟨hk1, hk2, hk3⟩ := backObjs_look hus
      cases hlk : lookT us i with
      | some o => rw [hlk] at hg; cases hg
      | none =>
        rw [hlk] at hg
        simp only [Option.map_eq_none_iff] at hg
        have hni : ∀ l ∈ ls, l.id ≠ i := fun l hl1 e => by
          obtain ⟨k, hkk⟩ := List.mem_iff_getElem?.1 hl1
          obtain ⟨o, _, ho⟩ := hk2 R.nodup k l hkk
          rw [e, hlk] at ho; cases ho
        rw [R.sigOther hr (fun l hl1 => ⟨fun e => hni l hl1 (by rw [e]; rfl), fun e => hni l hl1 (by rw [e]; rfl)⟩)]
        exact R.hr.dom i hg
  · obtain ⟨i, o, ow, hg, hl1, hs, hb⟩ := hb
    rcases R.blocks hus hg hl1 hs with ⟨j, o0, g1, g2, g3, _⟩ | ⟨o1, g1, g2, g3, g4⟩
    · exact R.hr'.own b ⟨j, o0, ow, g1, g2, g3, hb⟩
    · have hlv : Live σ h b := ⟨i, o1, ow, g1, g2, g3, hb⟩
      refine ⟨fun hK => ?_, Nat.lt_of_lt_of_le (R.hr.own b hlv).2 R.mv.size⟩
      rcases R.src b hK with h1 | h1 | h1
      · exact (R.hr.own b hlv).1 h1
      · exact hnew b h1 hlv
      · obtain ⟨k, j, off, t, xs, _, q2, ow', q3, q4⟩ := g4 b hb h1
        exact (R.hr'.own b ⟨_, _, ow', q2, rfl, q3, q4⟩).1 hK
  · -- no block is two objects'
    have cross : ∀ {i i' : Nat} {ow ow' : Own}, (∃ j o0, h'.get j = some o0 ∧ o0.live = true ∧ σ' j = some ow ∧ ((∃ k, i = base + k ∧ ns[k]? = some j ∧ j < lentFrom) ∨ ∃ k, j = lentFrom + k ∧ (ls[k]? = some (.a (.t i)) ∨ ls[k]? = some (.b i)))) →
        (∃ o1, h.get i' = some o1 ∧ o1.live = true ∧ σ i' = some ow' ∧ ∀ b, ow'.has b → Live (sigL σ ls) hl b → ∃ k j off t xs, ls[k]? = some (.a (.n i' j off)) ∧ h'.get (lentFrom + k) = some (.arr false false t xs) ∧ ∃ ow', σ' (lentFrom + k) = some ow' ∧ ow'.has b) → ow.has b → ow'.has b → False := by
      rintro i i' ow ow' ⟨j, o0, g1, g2, g3, g4⟩ ⟨o1, r1, r2, r3, r4⟩ hb hb'
      have hlv : Live σ h b := ⟨i', o1, ow', r1, r2, r3, hb'⟩
      rcases R.live b ⟨j, o0, ow, g1, g2, g3, hb⟩ with h1 | h1
      · exact hnew b h1 hlv
      · obtain ⟨k, j', off, t, xs, q1, q2, ow2, q3, q4⟩ := r4 b hb' h1
        have hne : j ≠ lentFrom + k := by
          rintro rfl
          rcases g4 with ⟨_, _, _, hj⟩ | ⟨k', e, hk'⟩
          · omega
          · have : k = k' := by omega
            subst this
            rw [q1] at hk'
            rcases hk' with hk' | hk' <;> cases hk'
        exact R.hr'.dist j (lentFrom + k) o0 _ ow ow2 b hne g1 q2 g2 rfl g3 q3 hb q4
    have c1 := R.blocks hus hg hl1 hs
    have c2 := R.blocks hus hg' hl2 hs'
    rcases c1 with c1 | c1
    · rcases c2 with c2 | c2
      · obtain ⟨j, o0, g1, g2, g3, g4⟩ := c1
        obtain ⟨j', o0', g1', g2', g3', g4'⟩ := c2
        have hne : j ≠ j' := by
          rintro rfl
          rcases g4 with ⟨k, e, hk, hj⟩ | ⟨k, e, hk⟩
          · rcases g4' with ⟨k', e', hk', _⟩ | ⟨k', e', _⟩
            · have hkl := (List.getElem?_eq_some_iff.1 hk).1
              have : k = k' := (List.getElem?_inj hkl R.once).1 (hk.trans hk'.symm)
              omega
            · omega
          · rcases g4' with ⟨k', e', hk', hj'⟩ | ⟨k', e', hk'⟩
            · omega
            · have : k = k' := by omega
              subst this
              refine hii ?_
              rcases hk with hk | hk <;> rcases hk' with hk' | hk' <;> rw [hk] at hk' <;> cases hk' <;> rfl
        exact R.hr'.dist j j' o0 o0' ow ow' b hne g1 g1' g2 g2' g3 g3' hb hb'
      · exact cross c1 c2 hb hb'
    · rcases c2 with c2 | c2
      · exact cross c2 c1 hb' hb
      · obtain ⟨o1, g1, g2, g3, _⟩ := c1
        obtain ⟨o1', g1', g2', g3', _⟩ := c2
        exact R.hr.dist i i' o1 o1' ow ow' b hii g1 g1' g2 g2' g3 g3' hb hb'

/-- The state behind a call. -/
theorem Ret.tr {s : Slots} {us : List (Nat × Obj)} (hus : backObjs (Go.Q.backF base ls ns) h h' lentFrom ls = some us) (hlL : ∀ b, Live σ h b → L b) (hnew : ∀ b, w.heap.size ≤ b → L b) :
    Tr L I σ ⟨s, h⟩ w K (sigB σ σ' ls ns base) ⟨Slots.mapR (Go.Q.lostF (movedIds h' lentFrom ls ++ upTo base ns.length) (wholeIds ls)) s, finalHeap h h' ls ns base us⟩ w' := by
  have hlv : ∀ b, Live (sigL σ ls) hl b → L b := fun b hb => hlL b (R.lentLive b hb).1
  refine ⟨fun i u hu => by simp only [Slots.get_mapR]; exact VR.map R.sub (fun b hb => R.sameI hb) _ (R.lostF hus) _ _ hu, R.final hus, fun b hb => ?_, R.sub, fun b hb => ?_, R.mv.imp hlv, fun i hi o' hg hst => ?_⟩
  · obtain ⟨i, o, ow, hg, hl1, hs, hb⟩ := hb
    rcases R.blocks hus hg hl1 hs with ⟨j, o0, g1, g2, g3, _⟩ | ⟨o1, g1, g2, g3, g4⟩
    · rcases R.live b ⟨j, o0, ow, g1, g2, g3, hb⟩ with h1 | h1
      · exact hnew b h1
      · exact hlv b h1
    · exact hlL b ⟨i, o1, ow, g1, g2, g3, hb⟩
  · rcases R.src b hb with h1 | h1 | h1
    · exact .inl h1
    · exact .inr (hnew b h1)
    · exact .inr (hlv b h1)
  · simp only at hg
    cases R.cat hus hg with
    | new k j o0 ow hi' hk hj hg' hs' ho hσ =>
      have hkl := (List.getElem?_eq_some_iff.1 hk).1
      have := R.low
      omega
    | lent k o0 ow hk hg' hs' hσ ho hl2 hst' =>
      obtain ⟨q1, o1, q2, q3⟩ := hst' hst
      refine ⟨o1, q2, q3, fun ow1 how => ?_⟩
      have hsl : sigL σ ls (lentFrom + k) = some ow1 := by
        rcases hk with hk | hk
        · rw [sigL_at (l := .a (.t i)) (by omega) (by rw [Nat.add_sub_cancel_left]; exact hk)]; exact how
        · rw [sigL_at (l := .b i) (by omega) (by rw [Nat.add_sub_cancel_left]; exact hk)]; exact how
      obtain ⟨ow', r1, r2⟩ := R.still _ (by omega) o0 hg' q1 ow1 hsl
      rw [hs'] at r1; cases r1
      exact ⟨ow, hσ, r2⟩
    | inner k j off o1 t xs ys hk hg1 ha ho hg' hσ =>
      refine ⟨o1, hg1, ?_, fun ow1 how => ⟨ow1, by rw [hσ]; exact how, rfl⟩⟩
      unfold Obj.setIn at ho
      split at ho
      · split at ho
        · simp only [Option.bind_eq_some_iff] at ho
          obtain ⟨y, _, ho⟩ := ho
          split at ho
          · cases ho; exact hst
          · cases ho
        · cases ho
      · cases ho
    | old o0 hn hr hg0 ho hσ =>
      exact ⟨o0, hg0, by rw [ho, Obj.still_mapR] at hst; exact hst, fun ow1 how => ⟨ow1, by rw [hσ]; exact how, rfl⟩⟩

end

theorem closure_nil (h : Heap) : ∀ (n : Nat), closure h n [] [] = []
  | 0 => rfl
  | _ + 1 => rfl
theorem byRefs_nil : ∀ (k : Nat) (vs : List AV), byRefs [] k vs = []
  | _, [] => rfl
  | k, _ :: vs => by simp [byRefs, byRefs_nil (k + 1) vs]

/-- A call. -/
theorem Tr.callG (h : HR I σ w st.heap) (hl : ∀ b, Live σ st.heap b → L b) (hnew : ∀ b, w.heap.size ≤ b → L b) (hC : CallOK P E.call) {base g : Nat} {vs : List AV} {xs : List Value} {v : AV} (hv : VRs I σ w vs xs) (hr : Go.Q.callG E st base g vs = some (v, st')) :
    CallsV P g xs.toArray w fun e w' => ∃ u I' σ', e = .returned u ∧ ((E.byref g).isEmpty = true → Keeps w w') ∧ Tr L I σ st w I' σ' st' w' ∧ VR I' σ' w' v u := by
  unfold Go.Q.callG at hr
  simp only [Option.bind_eq_some_iff] at hr
  obtain ⟨⟨ls, us, hlp⟩, hpre, r, hcall, hr⟩ := hr
  unfold Go.Q.callPre at hpre
  simp only at hpre hcall hr
  split at hpre
  · rename_i hnd
    simp only [Option.bind_eq_some_iff, Option.map_eq_some_iff, Prod.mk.injEq] at hpre
    obtain ⟨us', hus, hlp', hlent, hls, e1, e2⟩ := hpre
    subst e1; subst e2
    rw [hls] at hnd hus hlent
    split at hr
    · cases hr
    · rename_i hsh
      rw [nodupN_iff] at hnd
      have hc2 := hC g us' hlp' r hcall
      -- what is lent is there
      have hthere : ∀ l ∈ ls, ∃ o, st.heap.get l.id = some o := fun l hl1 => by
        obtain ⟨k, hk⟩ := List.mem_iff_getElem?.1 hl1
        obtain ⟨o, ho, _⟩ := lent_all hlent hk
        obtain ⟨o0, _, _, m1, _⟩ := lentObj_ok h (J := I) (fun _ h => h) ho
        exact ⟨o0, m1⟩
      have hbur := h.buryL hthere
      have hJ : ∀ b, I b → (I b ∨ (plainOwned (E.byref g) 0 vs = true ∧ Live σ (st.heap.bury ls) b)) := fun b hb => .inl hb
      obtain ⟨hHR, hLL⟩ := lent_HR h hlent hnd hJ (fun b hb => hb.imp_right fun hb => hb.2)
      have hargs := argsOf_ok hbur hJ hv hus (fun hp b hb => .inr ⟨hp, hb⟩)
      refine CallsV.mono (hc2 _ _ w xs hHR hargs) ?_
      rintro e w' ⟨u, J', σ', rfl, hout, hvr⟩
      unfold Go.Q.back at hr
      split at hr
      · rename_i hcond
        obtain ⟨hlen, hbase, honce, haway⟩ := hcond
        simp only [Option.bind_eq_some_iff, Option.some.injEq, Prod.mk.injEq] at hr
        obtain ⟨ub, hub, rfl, rfl⟩ := hr
        rw [nodupN_iff] at honce
        have hlow : base + (newIds r.2).length ≤ lentFrom := by omega
        have haw : ∀ l ∈ ls, l.id < base ∨ base + (newIds r.2).length ≤ l.id := fun l hl1 => by
          have := List.all_eq_true.1 haway l hl1
          simp only [decide_eq_true_eq] at this
          omega
        have hkeeps : (E.byref g).isEmpty = true → Keeps w w' := fun he => by
          have hb0 : E.byref g = [] := isEmpty_nil he
          have hls0 : ls = [] := by rw [← hls, hb0, byRefs_nil]; exact closure_nil _ _
          subst hls0
          simp only [lentHeap, Option.some.injEq] at hlent
          subst hlent
          refine (hout.mv.imp (S' := fun _ => False) ?_).keeps
          rintro b ⟨_, _, _, hx, _⟩
          simp [Heap.get] at hx
        have mk : ∀ {K : Nat → Prop}, HR K σ' w' r.2 → (∀ b, I b → K b) → (∀ b, K b → I b ∨ w.heap.size ≤ b ∨ Live (sigL σ ls) hlp' b) → Ret I K σ σ' w w' st.heap ls hlp' r.2 (newIds r.2) base := fun h1 h2 h3 =>
          ⟨h, hlent, hnd, h1, h2, hout.live, h3, hLL, hout.mv, hout.still, rfl, honce, hlow, haw⟩
        by_cases hpo : plainOwned (E.byref g) 0 vs = true
        · -- what comes back shares nothing
          simp only [hpo, Bool.true_and, Bool.not_eq_true, Bool.or_eq_false_iff] at hsh
          have R := mk (HR.noShares hout.hr (fun b hb => hout.sub b (hJ b hb)) hsh.2) (fun _ h => h) (fun _ h => .inl h)
          exact ⟨u, I, _, rfl, hkeeps, R.tr hub hl hnew, VR.map (fun _ h => h) (fun _ _ => rfl) _ (R.backF (R.hst hub)) _ _ (VR.noShares _ _ hsh.1 hvr)⟩
        · have R := mk hout.hr (fun b hb => hout.sub b (hJ b hb)) (fun b hb => by
            rcases hout.src b hb with (h1 | h1) | h1
            · exact .inl h1
            · exact absurd h1.1 hpo
            · exact .inr h1)
          exact ⟨u, J', _, rfl, hkeeps, R.tr hub hl hnew, VR.map (fun _ h => h) (fun _ _ => rfl) _ (R.backF (R.hst hub)) _ _ hvr⟩
      · cases hr
  · cases hpre

end
end Go.Q
