/- What is not interpreted: a contract of a function that hands back a new slice of numbers. -/
import Derived.Test.YtbapbghnageckaaGreatGQGiven
import Derived.Laws.AppendOwn
import Derived.Below
namespace Go.Q
set_option linter.unusedVariables false
set_option linter.unusedSimpArgs false
open Go Go.RowKit
theorem new_ints {J : Nat → Prop} {σ : Nat → Option Own} {w w' : World} {xs : List Int} {v : Value} {E : TypeId} (hr : HR J σ w []) (hrow : w'.ownsRow w.heap.size E 1 v xs.length (xs.map (Value.int .i64))) (hne : xs ≠ []) (hb : Below w.heap.size w w') :
  ∃ σ', Out J σ w [] J σ' w' [(64, .arr true false (.int .i64) xs)] ∧ VR J σ' w' (.os (.t 64)) v := by
 have hlen : 0 < xs.length := by cases xs with | nil => exact absurd rfl hne | cons _ _ => simp
 rcases hrow.2 with ⟨_, h0⟩ | ⟨g, cap, cur, rfl, hg, hheap, hcap, hmax, hsz, htake⟩
 ·omega
 have hsig : ∀ id, σ id = none := fun id => hr.dom id rfl
 let ow : Own := ⟨⟨.slice (some ⟨g, 0, none⟩) xs.length cap, 1⟩, fun _ _ => none⟩
 have hblk : ∀ b, ow.has b → b = g := by
  rintro b (h | ⟨i, off, H, h, _⟩)
  ·have : (if cap = 0 then none else some g) = some b := h
   rw [if_neg (by omega)] at this
   cases this; rfl
  ·cases h
 have hget : ∀ id o, Heap.get [(64, Obj.arr true false (.int .i64) xs)] id = some o → id = 64 ∧ o = .arr true false (.int .i64) xs := by
  intro id o h
  simp only [Heap.get] at h
  split at h
  ·rename_i e; cases h; exact ⟨e.symm, rfl⟩
  ·cases h
 have hglt : g < w'.heap.size := (Array.getElem?_eq_some_iff.1 hheap).1
 have hJ : ∀ b, J b → b < w.heap.size := hr.lt
 refine ⟨fun id => if id = 64 then some ow else none, ⟨⟨?_, ?_, ?_, ?_, ?_⟩, ?_, fun _ h => h, fun _ h => .inl h, ?_, ?_⟩, ?_⟩
 ·intro id o h
  obtain ⟨rfl, rfl⟩ := hget id o h
  refine ⟨ow, by simp, rfl, fun _ _ _ => rfl, ⟨fun i off H b h _ => (by cases h), fun i off H i' off' H' b h _ _ _ => (by cases h)⟩, ?_⟩
  refine ⟨xs.map (Value.int .i64), ⟨by simp [Ty.size], .inr ⟨g, 0, cap, cur, E, rfl, hheap, by simp only [Ty.size]; omega, ⟨hcap, by simp only [maxLen] at hmax; omega⟩, ?_⟩⟩, fun i hi => ?_⟩
  ·rw [List.drop_zero]; exact htake
  ·show DR J w' (.int .i64) _ _
   have : chunk (Ty.size (.int .i64)) (xs.map (Value.int .i64)) i = [.int .i64 (xs.get ⟨i, hi⟩)] := by
    simp only [chunk, Ty.size, Nat.mul_one]
    have hi' : i < (xs.map (Value.int .i64)).length := by rw [List.length_map]; exact hi
    rw [List.drop_eq_getElem_cons hi']
    simp
   rw [this]; rfl
 ·intro id h
  simp only [Heap.get] at h
  split at h
  ·cases h
  ·rename_i e
   exact if_neg (fun h => e h.symm)
 ·rintro b ⟨id, o, ow', h1, h2, h3, h4⟩
  obtain ⟨rfl, rfl⟩ := hget id o h1
  have : ow' = ow := by simpa using h3.symm
  subst this
  have := hblk b h4
  subst this
  exact ⟨fun hj => by have := hJ _ hj; omega, hglt⟩
 ·intro id id' o o' ow1 ow2 b hne h1 h2
  obtain ⟨rfl, _⟩ := hget id o h1
  obtain ⟨rfl, _⟩ := hget id' o' h2
  exact absurd rfl hne
 ·exact fun b h => Nat.lt_of_lt_of_le (hJ b h) hb.size
 ·rintro b ⟨id, o, ow', h1, h2, h3, h4⟩
  obtain ⟨rfl, rfl⟩ := hget id o h1
  have : ow' = ow := by simpa using h3.symm
  subst this
  have := hblk b h4
  subst this
  exact .inl hg
 ·exact ⟨hb.os, hb.tape, hb.output, hb.size, fun b hlt _ => hb.block b hlt⟩
 ·intro id hid o h
  obtain ⟨rfl, _⟩ := hget id o h
  simp only [lentFrom] at hid
  omega
 ·exact ⟨ow.h, some ⟨g, 0, none⟩, xs.length, cap, by simp [hdrOf], rfl, rfl⟩
theorem new_none {J : Nat → Prop} {σ : Nat → Option Own} {w w' : World} (hr : HR J σ w []) (hb : Below w.heap.size w w') : Out J σ w [] J σ w' [] :=
 ⟨⟨fun id o h => by simp [Heap.get] at h, hr.dom, fun b h => by obtain ⟨id, o, ow, h1, _⟩ := h; simp [Heap.get] at h1, fun id id' o o' ow ow' b _ h => by simp [Heap.get] at h, fun b h => Nat.lt_of_lt_of_le (hr.lt b h) hb.size⟩,
  fun b h => .inr h, fun _ h => h, fun _ h => .inl h, ⟨hb.os, hb.tape, hb.output, hb.size, fun b hlt _ => hb.block b hlt⟩, fun id _ o h => by simp [Heap.get] at h⟩
end Go.Q
