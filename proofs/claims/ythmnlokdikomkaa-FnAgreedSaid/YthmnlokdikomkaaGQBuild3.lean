/- What is not interpreted: the methods of strings.Builder, as contracts. -/
import Derived.Test.YthmnlokdikomkaaGQBuild2
namespace Go.Q
set_option linter.unusedVariables false
set_option linter.unusedSimpArgs false
open Go Go.RowKit Go.Shelf Go.Proofs
/-- A method on a builder that has been lent. -/
def onBld (T0 e0 : Nat) (f : ByteArray → Option (AV × ByteArray × Bool)) : AV → Heap → Option (AV × Heap)
  | .op i off, [(j, .bld d T e s)] => if i = 1000000 ∧ off = 0 ∧ j = 1000000 ∧ d = false ∧ T = T0 ∧ e = e0 then (f s).map fun r => (r.1, [(1000000, .bld r.2.2 T e r.2.1)]) else none
  | _, _ => none
def wsF (x s : ByteArray) : Option (AV × ByteArray × Bool) := if x.size ≠ 0 ∧ s.size + x.size ≤ 140737488355328 then some (.tuple [.d (.int .i64) (x.size : Int), .d .err false], s ++ x, false) else none
def wbF (c : Int) (s : ByteArray) : Option (AV × ByteArray × Bool) := if 0 ≤ c ∧ c < 256 ∧ s.size + 1 ≤ 140737488355328 then some (.d .err false, s.push (UInt8.ofNat c.toNat), false) else none
def lenF (s : ByteArray) : Option (AV × ByteArray × Bool) := some (.d (.int .i64) (s.size : Int), s, false)
def strF (s : ByteArray) : Option (AV × ByteArray × Bool) := some (.d .str s, s, true)
def wsV (T0 e0 : Nat) (vs : List AV) (h : Heap) : Option (AV × Heap) := match vs with
  | [p, .d .str x] => onBld T0 e0 (wsF x) p h
  | _ => none
def wbV (T0 e0 : Nat) (vs : List AV) (h : Heap) : Option (AV × Heap) := match vs with
  | [p, .d (.int .u8) c] => onBld T0 e0 (wbF c) p h
  | _ => none
def lenBV (T0 e0 : Nat) (vs : List AV) (h : Heap) : Option (AV × Heap) := match vs with
  | [p] => onBld T0 e0 lenF p h
  | _ => none
def strV (T0 e0 : Nat) (vs : List AV) (h : Heap) : Option (AV × Heap) := match vs with
  | [p] => onBld T0 e0 strF p h
  | _ => none
theorem onBld_spec {T0 e0 : Nat} {f : ByteArray → Option (AV × ByteArray × Bool)} {p : AV} {h : Heap} {r : AV × Heap} (hr : onBld T0 e0 f p h = some r) :
    ∃ s v s' d', p = .op 1000000 0 ∧ h = [(1000000, .bld false T0 e0 s)] ∧ f s = some (v, s', d') ∧ r = (v, [(1000000, .bld d' T0 e0 s')]) := by
  unfold onBld at hr
  split at hr
  · split at hr
    · rename_i hc
      obtain ⟨rfl, rfl, rfl, rfl, rfl, rfl⟩ := hc
      simp only [Option.map_eq_some_iff] at hr
      obtain ⟨⟨v, s', d'⟩, h1, rfl⟩ := hr
      exact ⟨_, v, s', d', rfl, rfl, h1, rfl⟩
    · cases hr
  · cases hr
section
variable {J : Nat → Prop} {σ : Nat → Option Own} {w : World}
theorem bld_step {T e : Nat} {s : ByteArray} {u : Value} (hr : HR J σ w [(1000000, .bld false T e s)]) (hu : VR J σ w (.op 1000000 0) u) :
    ∃ b v, u = .pointer (some ⟨b, 0, none⟩) ∧ blockOf v ≠ some b ∧ (∃ p, (p = .pointer none ∨ p = .pointer (some ⟨b, 0, none⟩)) ∧ w.heap[b]? = some (.cells #[p, v] T (0, 0))) ∧ BytesAt w e v s ∧
      ∀ w' v' d' s', (blockOf v' = blockOf v ∨ ∃ g, blockOf v' = some g ∧ w.heap.size ≤ g) → Moved (fun k => k = b ∨ blockOf v = some k) w w' →
        (d' = false → (∃ p, (p = .pointer none ∨ p = .pointer (some ⟨b, 0, none⟩)) ∧ w'.heap[b]? = some (.cells #[p, v'] T (0, 0))) ∧ BytesAt w' e v' s') → (∀ k, blockOf v' = some k → k < w'.heap.size) →
        ∃ σ', Out J σ w [(1000000, .bld false T e s)] J σ' w' [(1000000, .bld d' T e s')] := by
  obtain ⟨ow, h1, hob⟩ := hr.objs 1000000 (.bld false T e s) (by simp [Heap.get])
  obtain ⟨b, v, k1, k2, k3, k4⟩ := hob
  obtain ⟨k4, k5⟩ := k4 rfl
  obtain ⟨ow', b', m1, m2, m3⟩ := hu
  rw [h1] at m1; cases m1
  rw [k1] at m2; cases m2
  have hget : ∀ (d : Bool) (s : ByteArray) id ob, Heap.get [(1000000, Obj.bld d T e s)] id = some ob → id = 1000000 ∧ ob = .bld d T e s := by
    intro d s id ob h
    simp only [Heap.get] at h
    split at h
    · rename_i e; cases h; exact ⟨e.symm, rfl⟩
    · cases h
  have hinn : ∀ {v0 : Value} {k : Nat} {oh : Hdr}, oh = ow.h → (Own.mk oh (fun i off => if i = 0 ∧ off = 1 then some ⟨v0, 1⟩ else none)).has k → k = b ∨ blockOf v0 = some k := by
    intro v0 k oh e hk
    subst e
    rcases hk with hk | ⟨i, off, H, hk, hb⟩
    · have hk : blockOf ow.h.v = some k := hk
      rw [k1] at hk
      simp only [blockOf, Option.some.injEq] at hk
      exact .inl hk.symm
    · simp only at hk
      split at hk
      · cases hk; exact .inr hb
      · cases hk
  have hlive : ∀ k, k = b ∨ blockOf v = some k → Live σ [(1000000, .bld false T e s)] k := by
    intro k hk
    refine ⟨1000000, _, ow, by simp [Heap.get]; rfl, rfl, h1, ?_⟩
    rcases hk with rfl | hk
    · exact .inl (by rw [k1]; rfl)
    · exact .inr ⟨0, 1, ⟨v, 1⟩, by rw [k2]; simp, hk⟩
  have hblt : b < w.heap.size := (hr.own b (hlive b (.inl rfl))).2
  refine ⟨b, v, m3, k3, k4, k5, fun w' v' d' s' hv hm hd hlt => ?_⟩
  have hnew : ∀ k, k = b ∨ blockOf v' = some k → w.heap.size ≤ k ∨ Live σ [(1000000, .bld false T e s)] k := by
    intro k hk
    rcases hk with rfl | hk
    · exact .inr (hlive k (.inl rfl))
    · rcases hv with hv | ⟨g, hv, hle⟩
      · exact .inr (hlive k (.inr (by rw [← hv]; exact hk)))
      · rw [hv] at hk; cases hk; exact .inl hle
  have hlive' : ∀ k, Live (fun id => if id = 1000000 then some ⟨ow.h, fun i off => if i = 0 ∧ off = 1 then some ⟨v', 1⟩ else none⟩ else none) [(1000000, .bld d' T e s')] k → k = b ∨ blockOf v' = some k := by
    rintro k ⟨id, ob, ow', q1, _, q3, q4⟩
    obtain ⟨rfl, _⟩ := hget d' s' id ob q1
    simp only [if_true, Option.some.injEq] at q3
    subst q3
    exact hinn rfl q4
  refine ⟨fun id => if id = 1000000 then some ⟨ow.h, fun i off => if i = 0 ∧ off = 1 then some ⟨v', 1⟩ else none⟩ else none, ⟨?_, ?_, ?_, ?_, ?_⟩, fun k hk => hnew k (hlive' k hk), fun _ h => h, fun _ h => .inl h, hm.imp hlive, ?_⟩
  · intro id ob h
    obtain ⟨rfl, rfl⟩ := hget d' s' id ob h
    refine ⟨_, if_pos rfl, b, v', k1, rfl, fun e => ?_, hd⟩
    rcases hv with hv | ⟨g, hv, hle⟩
    · exact k3 (by rw [← hv]; exact e)
    · rw [hv] at e; cases e; omega
  · intro id h
    simp only [Heap.get] at h
    split at h
    · cases h
    · rename_i e
      exact if_neg (fun h => e h.symm)
  · intro k hk
    have hk' := hlive' k hk
    refine ⟨fun hj => ?_, ?_⟩
    · rcases hnew k hk' with h | h
      · have := hr.lt k hj; omega
      · exact (hr.own k h).1 hj
    · rcases hk' with rfl | hk'
      · exact Nat.lt_of_lt_of_le hblt hm.size
      · exact hlt k hk'
  · intro id id' ob ob' ow1 ow2 x hne q1 q2
    obtain ⟨rfl, _⟩ := hget d' s' id ob q1
    obtain ⟨rfl, _⟩ := hget d' s' id' ob' q2
    exact absurd rfl hne
  · exact fun x h => Nat.lt_of_lt_of_le (hr.lt x h) hm.size
  · intro id hid o h hst ow1 how
    obtain ⟨rfl, _⟩ := hget d' s' id o h
    rw [h1] at how; cases how
    exact ⟨_, if_pos rfl, rfl⟩
end
section
variable {P : Program} {ρ : Ren}
/-- What a contract says. -/
def GivenOK (P : Program) (f : Nat) (g : List AV → Heap → Option (AV × Heap)) : Prop :=
  ∀ vs h r, g vs h = some r → ∀ (J : Nat → Prop) (σ : Nat → Option Own) (w : World) (us : List Value), HR J σ w h → VRs J σ w vs us →
    CallsV P f us.toArray w fun e w' => ∃ u J' σ', e = .returned u ∧ Out J σ w h J' σ' w' r.2 ∧ VR J' σ' w' r.1 u
theorem bytes_lt {w : World} {e : Nat} {v : Value} {s : ByteArray} (h : BytesAt w e v s) : ∀ k, blockOf v = some k → k < w.heap.size := by
  intro k hk
  rcases h with ⟨rfl, _⟩ | ⟨g, cap, cur, rfl, hc, hh, _⟩
  · cases hk
  · simp only [blockOf, if_neg hc, Option.some.injEq] at hk
    subst hk
    exact (Array.getElem?_eq_some_iff.1 hh).1
theorem ws_ok (L : Lays.n166 P ρ) (X : Builder.Extra P ρ) : GivenOK P (ρ.f 166) (wsV (ρ.t 72) (ρ.t 5)) := by
  intro vs h r hg J σ w us hr hv
  unfold wsV at hg
  split at hg
  · rename_i p x
    obtain ⟨s, v, s', d', rfl, rfl, hf, rfl⟩ := onBld_spec hg
    unfold wsF at hf
    split at hf
    · rename_i hc
      cases hf
      obtain ⟨u1, us1, rfl, hu1, u2, us2, rfl, hu2, hu3⟩ := hv
      have hu3' : us2 = [] := hu3
      subst hu3'
      have hu2' : u2 = .string x := by have : [u2] = [Value.string x] := hu2; simpa using this
      subst hu2'
      obtain ⟨b, v, rfl, hne, hb, hs, key⟩ := bld_step hr hu1
      refine .inl ⟨enters_of L.f166 (by kernel_rfl) rfl _ _, (ws_walk L X hb hne hs x hc.1 hc.2).mono ?_⟩
      rintro e w' ⟨rfl, v', k1, k2, k3, k4⟩
      obtain ⟨σ', ho⟩ := key w' v' false (s ++ x) k3 k4 (fun _ => ⟨⟨_, .inr rfl, k1⟩, k2⟩) (bytes_lt k2)
      exact ⟨_, J, σ', rfl, ho, _, rfl, ⟨_, _, rfl, rfl, _, _, rfl, .inl ⟨rfl, rfl⟩, rfl⟩⟩
    · cases hf
  · cases hg
theorem wb_ok (L : Lays.n167 P ρ) (X : Builder.Extra P ρ) : GivenOK P (ρ.f 167) (wbV (ρ.t 72) (ρ.t 5)) := by
  intro vs h r hg J σ w us hr hv
  unfold wbV at hg
  split at hg
  · rename_i p c
    obtain ⟨s, v, s', d', rfl, rfl, hf, rfl⟩ := onBld_spec hg
    unfold wbF at hf
    split at hf
    · rename_i hc
      cases hf
      obtain ⟨u1, us1, rfl, hu1, u2, us2, rfl, hu2, hu3⟩ := hv
      have hu3' : us2 = [] := hu3
      subst hu3'
      have hcc : ((UInt8.ofNat (Int.toNat c)).toNat : Int) = c := by
        have hc : 0 ≤ (c : Int) ∧ (c : Int) < 256 ∧ _ := hc
        rw [UInt8.toNat_ofNat']
        omega
      have hu2' : u2 = .int .u8 ((UInt8.ofNat (Int.toNat c)).toNat : Int) := by rw [hcc]; have : [u2] = [Value.int .u8 c] := hu2; simpa using this
      subst hu2'
      obtain ⟨b, v, rfl, hne, hb, hs, key⟩ := bld_step hr hu1
      refine .inl ⟨enters_of L.f167 (by kernel_rfl) rfl _ _, (wb_walk L X hb hne hs _ hc.2.2).mono ?_⟩
      rintro e w' ⟨rfl, v', k1, k2, k3, k4⟩
      obtain ⟨σ', ho⟩ := key w' v' false _ k3 k4 (fun _ => ⟨⟨_, .inr rfl, k1⟩, k2⟩) (bytes_lt k2)
      exact ⟨_, J, σ', rfl, ho, .inl ⟨rfl, rfl⟩⟩
    · cases hf
  · cases hg
theorem len_ok (L : Lays.n170 P ρ) : GivenOK P (ρ.f 170) (lenBV (ρ.t 72) (ρ.t 5)) := by
  intro vs h r hg J σ w us hr hv
  unfold lenBV at hg
  split at hg
  · rename_i p
    obtain ⟨s, v, s', d', rfl, rfl, hf, rfl⟩ := onBld_spec hg
    cases hf
    obtain ⟨u1, us1, rfl, hu1, hu3⟩ := hv
    have hu3' : us1 = [] := hu3
    subst hu3'
    obtain ⟨b, v, rfl, hne, ⟨p, hp, hb⟩, hs, key⟩ := bld_step hr hu1
    have hown : v.ownBlock ≠ some b := by rw [← hs.block]; exact hne
    have hA : ∀ q, w.heap[b]? = some (.cells #[q, v] (ρ.t 72) (0, 0)) → Lib.BuilderAt (ρ.t 72) (ρ.t 5) 0 b q (Lib.strCells s) w := fun q hq => ⟨Nat.zero_le _, v, hq, by rw [Lib.strCells_length]; exact hs.own, hown⟩
    have hI : Lib.IsBuilder (ρ.t 72) (ρ.t 5) 0 b (Lib.strCells s) w := by
      rcases hp with rfl | rfl
      · exact .inl (hA _ hb)
      · exact .inr (hA _ hb)
    refine .inl ⟨enters_of L.f170 (by kernel_rfl) rfl _ _, (Any.Builder_Len L 0 b (Lib.strCells s) w hI).mono ?_⟩
    rintro e w' ⟨rfl, rfl⟩
    obtain ⟨σ', ho⟩ := key w' v false s (.inl rfl) (Moved.refl _ _) (fun _ => ⟨⟨p, hp, hb⟩, hs⟩) (bytes_lt hs)
    exact ⟨_, J, σ', rfl, ho, by rw [Lib.strCells_length]; rfl⟩
  · cases hg
theorem str_ok (L : Lays.n169 P ρ) (X : Builder.Extra P ρ) : GivenOK P (ρ.f 169) (strV (ρ.t 72) (ρ.t 5)) := by
  intro vs h r hg J σ w us hr hv
  unfold strV at hg
  split at hg
  · rename_i p
    obtain ⟨s, v, s', d', rfl, rfl, hf, rfl⟩ := onBld_spec hg
    cases hf
    obtain ⟨u1, us1, rfl, hu1, hu3⟩ := hv
    have hu3' : us1 = [] := hu3
    subst hu3'
    obtain ⟨b, v, rfl, hne, hb, hs, key⟩ := bld_step hr hu1
    refine .inl ⟨enters_of L.f169 (by kernel_rfl) rfl _ _, (str_walk L X hb hs).mono ?_⟩
    rintro e w' ⟨rfl, hm⟩
    obtain ⟨σ', ho⟩ := key w' v true s (.inl rfl) (hm.imp fun k hk => .inr hk) (fun h => by cases h) (fun k hk => Nat.lt_of_lt_of_le (bytes_lt hs k hk) hm.size)
    exact ⟨_, J, σ', rfl, ho, rfl⟩
  · cases hg
end
end Go.Q
