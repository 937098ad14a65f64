/- What is not interpreted: slices.Clone of plain data, empty or not. -/
import Derived.Test.YtbapbghnageckaaGreatGQNew
import Derived.Shelf.SlicesE.Clone
import Derived.Lib.AppendZeros
namespace Go.Proofs
open Go.Shelf Go.RowKit Go.Lib
variable {P : Program} {ρ : Ren}
set_option maxHeartbeats 2000000 in
set_option maxRecDepth 100000 in
theorem clone_any (L : SlLaysE0.n41 P ρ) (i0 : TypeInfo) (z : Value) (size bytes : Nat) (hi : P.info? (ρ.t 23) = some i0) (hz0 : i0.zero = some z) (hz1 : i0.size = size) (hz2 : i0.bytes = bytes) (hzs : z.cells.size = size) (hsz : 0 < size)
  (z23 : ∀ w, (Go.sizeOf (ρ.t 23)).run P w = .ok size w) (ad : Addr) (n c : Nat) (news : List Value) (w : World) (hl : news.length = n * size) (hn : n ≤ maxLen) (hbig : n * bytes ≤ 140737488355328)
  (hc : ∀ j u, news[j]? = some u → w.cell? (ad.add j) = some u) (h1 : ∀ u ∈ news, u.oneCell' = true) :
  Calls P (ρ.f 41) #[.slice (some ad) n c] w fun e w' => ∃ v', e = .returned v' ∧ w'.ownsRow w.heap.size (ρ.t 23) size v' n news ∧ Below w.heap.size w w' := by
 have mixed := L.mixed; have t4 := L.t4; have a4 := L.a4; have z4 := L.z4; have v4 := L.v4; have t22 := L.t22; have a22 := L.a22; have z22 := L.z22; have v22 := L.v22
 have q22 : ∀ (w : World) (a : Option Addr) (n c n' c' : Nat), (binOp .eql (ρ.t 22) (.slice a n c) (.slice none n' c')).run P w = .ok (.bool a.isNone) w := fun w a n c n' c' => Lib.run_eql_slice_nil w _ _ a n c n' c' L.t22
 have u22 : ∀ w, Sem.run P (underlying (ρ.t 22)) w = .ok (TypeDesc.slice (ρ.t 23)) w := run_underlying t22
 have A : Aside (∀ j u, news[j]? = some u → w.cell? (ad.add j) = some u) := hc
 clear hc
 obtain ⟨_, _, FG⟩ := L.f41
 go_enter FG, SlBodyN.n41_ntmps ρ
 go_wp2_with (at_builtin; refine wpList_append_own _ rfl _ _ (ρ.t 22) rfl w.heap.size (ρ.t 23) i0 z size bytes t22 hi hz0 hz1 hz2 hzs hsz _ _ _ rfl (World.ownsRow_made w #[] 0 (Nat.le_refl _) (Nat.zero_le _) (by simp)) ad n c news rfl ?qc1 ?qc2 ?qc3 ?qc4 ?qc5 ?qc6 ?_)
 case qc1 => exact hl
 case qc2 =>
  intro j u hj
  exact Lib.cell?_alloc_some _ (A.out j u hj)
 case qc3 => exact h1
 case qc4 => rw [Nat.zero_add]; exact hn
 case qc5 => rw [Nat.zero_add]; exact hbig
 case qc6 => simp
 intro v' w1 hown hgrow hnil
 go_wp2
 go_ret
 refine ⟨v', rfl, by simpa using hown, ?_⟩
 exact ((Below.refl _ w).alloc (Nat.le_refl _) _).grown hgrow (by simp) (by intro k hk; simp [Value.ownBlock] at hk; omega)
theorem run_append_none {T ty e : Nat} {i : TypeInfo} (ht : P.underlying T = some (.slice e)) (hi : P.info? e = some i) (A B : Option Addr) (c : Nat) (w : World) :
  (Builtin.append_ #[T, T] ty #[.slice A 0 0, .slice B 0 c]).run P w = .ok (.slice A 0 0) w := by
 cases A <;> cases B <;> simp [Builtin.append_, run_underlying ht, sizeOf, typeInfo, hi, Builtin.lenOf, Builtin.firstCells, storeCells, loadCells, loadCellsFrom, Result.andThen]
set_option maxHeartbeats 2000000 in
set_option maxRecDepth 100000 in
theorem clone_empty (L : SlLaysE0.n41 P ρ) (i0 : TypeInfo) (hi : P.info? (ρ.t 23) = some i0) (z23 : ∀ w, (Go.sizeOf (ρ.t 23)).run P w = .ok i0.size w) (ad : Addr) (c : Nat) (w : World) :
  Calls P (ρ.f 41) #[.slice (some ad) 0 c] w fun e w' => ∃ A, e = .returned (.slice A 0 0) ∧ Below w.heap.size w w' := by
 have mixed := L.mixed; have t4 := L.t4; have a4 := L.a4; have z4 := L.z4; have v4 := L.v4; have t22 := L.t22; have a22 := L.a22; have z22 := L.z22; have v22 := L.v22
 have q22 : ∀ (w : World) (a : Option Addr) (n c n' c' : Nat), (binOp .eql (ρ.t 22) (.slice a n c) (.slice none n' c')).run P w = .ok (.bool a.isNone) w := fun w a n c n' c' => Lib.run_eql_slice_nil w _ _ a n c n' c' L.t22
 have u22 : ∀ w, Sem.run P (underlying (ρ.t 22)) w = .ok (TypeDesc.slice (ρ.t 23)) w := run_underlying t22
 obtain ⟨_, _, FG⟩ := L.f41
 go_enter FG, SlBodyN.n41_ntmps ρ
 go_wp2_with (at_builtin; refine Lib.wpList_append_run _ rfl _ _ _ _ rfl _ _ rfl rfl _ _ (run_append_none t22 hi _ _ _ _) ?_)
 go_ret
 exact ⟨_, rfl, (Below.refl _ w).alloc (Nat.le_refl _) _⟩
end Go.Proofs

namespace Go.Q
set_option linter.unusedVariables false
set_option linter.unusedSimpArgs false
open Go Go.RowKit
def Ty.plainB : Ty → Bool
 | .int _ | .bool | .nil => true
 | .cons a b => a.plainB && b.plainB
 | .agg l => l.plainB
 | _ => false
def valsD : (t : Ty) → t.Den → List Value
 | .int k, n => [.int k n]
 | .bool, b => [.bool b]
 | .cons a b, x => valsD a x.1 ++ valsD b x.2
 | .agg l, x => valsD l x
 | _, _ => []
theorem DR_vals {J : Nat → Prop} {w : World} : ∀ (t : Ty), t.plainB = true → ∀ (x : t.Den) (cs : List Value), DR J w t x cs ↔ cs = valsD t x
 | .int _, _, _, _ => Iff.rfl
 | .bool, _, _, _ => Iff.rfl
 | .nil, _, _, _ => Iff.rfl
 | .agg l, h, x, cs => DR_vals l h x cs
 | .cons a b, h, x, cs => by
  simp only [Ty.plainB, Bool.and_eq_true] at h
  simp only [DR, valsD]
  constructor
  ·rintro ⟨c1, c2, rfl, h1, h2⟩
   rw [(DR_vals a h.1 _ _).1 h1, (DR_vals b h.2 _ _).1 h2]
  ·rintro rfl
   exact ⟨_, _, rfl, (DR_vals a h.1 _ _).2 rfl, (DR_vals b h.2 _ _).2 rfl⟩
theorem valsD_length : ∀ (t : Ty), t.plainB = true → ∀ (x : t.Den), (valsD t x).length = t.size
 | .int _, _, _ => rfl
 | .bool, _, _ => rfl
 | .nil, _, _ => rfl
 | .agg l, h, x => valsD_length l h x
 | .cons a b, h, x => by
  simp only [Ty.plainB, Bool.and_eq_true] at h
  simp only [valsD, List.length_append, Ty.size, valsD_length a h.1, valsD_length b h.2]
theorem valsD_one : ∀ (t : Ty) (x : t.Den), ∀ u ∈ valsD t x, u.oneCell' = true
 | .int _, _, u, hu => by simp [valsD] at hu; subst hu; rfl
 | .bool, _, u, hu => by simp [valsD] at hu; subst hu; rfl
 | .nil, _, u, hu => by simp [valsD] at hu
 | .str, _, u, hu => by simp [valsD] at hu
 | .err, _, u, hu => by simp [valsD] at hu
 | .slice _, _, u, hu => by simp [valsD] at hu
 | .ptr _, _, u, hu => by simp [valsD] at hu
 | .agg l, x, u, hu => valsD_one l x u hu
 | .cons a b, x, u, hu => by
  simp only [valsD, List.mem_append] at hu
  rcases hu with hu | hu
  ·exact valsD_one a _ u hu
  ·exact valsD_one b _ u hu
def rowD (t : Ty) (xs : List t.Den) : List Value := xs.flatMap (valsD t)
theorem rowD_length {t : Ty} (h : t.plainB = true) (xs : List t.Den) : (rowD t xs).length = xs.length * t.size := by
 induction xs with
 | nil => simp [rowD]
 | cons x xs ih => simp only [rowD, List.flatMap_cons, List.length_append, List.length_cons] at ih ⊢; rw [ih, valsD_length t h, Nat.add_mul]; omega
theorem rowD_one {t : Ty} (xs : List t.Den) : ∀ u ∈ rowD t xs, u.oneCell' = true := by
 intro u hu
 simp only [rowD, List.mem_flatMap] at hu
 obtain ⟨x, _, h⟩ := hu
 exact valsD_one t x u h
theorem rowD_chunk {t : Ty} (h : t.plainB = true) : ∀ (xs : List t.Den) (i : Nat) (hi : i < xs.length), chunk t.size (rowD t xs) i = valsD t (xs.get ⟨i, hi⟩)
 | x :: xs, 0, _ => by
  simp only [chunk, rowD, List.flatMap_cons, Nat.zero_mul, List.drop_zero]
  rw [List.take_append_of_le_length (by rw [valsD_length t h]; omega), ← valsD_length t h x, List.take_length]
  rfl
 | x :: xs, i + 1, hi => by
  have := rowD_chunk h xs i (by simpa using hi)
  simp only [chunk, rowD, List.flatMap_cons] at this ⊢
  rw [Nat.add_mul, Nat.one_mul, Nat.add_comm, ← List.drop_drop, List.drop_append_of_le_length (by rw [valsD_length t h]; omega), ← valsD_length t h x, List.drop_length, List.nil_append, valsD_length t h x, this]
  rfl
theorem CellsAt.row {t : Ty} (h : t.plainB = true) {w : World} {b : Nat} : ∀ (xs : List t.Den) (o : Nat), (∀ (i : Nat) (hi : i < xs.length), CellsAt w ⟨b, o + i * t.size, none⟩ (valsD t (xs.get ⟨i, hi⟩))) → CellsAt w ⟨b, o, none⟩ (rowD t xs)
 | [], o, _ => by intro j v hj; simp [rowD] at hj
 | x :: xs, o, hc => by
  intro j v hj
  simp only [rowD, List.flatMap_cons] at hj
  by_cases hlt : j < t.size
  ·rw [List.getElem?_append_left (by rw [valsD_length t h]; exact hlt)] at hj
   have := hc 0 (by simp) j v hj
   simpa using this
  ·rw [List.getElem?_append_right (by rw [valsD_length t h]; omega), valsD_length t h] at hj
   have ih := CellsAt.row h xs (o + t.size) (fun i hi => by
    have := hc (i + 1) (by simp; omega)
    rw [Nat.add_mul, Nat.one_mul] at this
    rw [show o + t.size + i * t.size = o + (i * t.size + t.size) from by omega]
    exact this)
   have := ih (j - t.size) v hj
   simp only at this ⊢
   rw [show o + t.size + (j - t.size) = o + j from by omega] at this
   exact this
theorem new_row {t : Ty} (ht : t.plainB = true) (hz : 0 < t.size) {J : Nat → Prop} {σ : Nat → Option Own} {w w' : World} {xs : List t.Den} {v : Value} {E : TypeId} (hr : HR J σ w []) (hrow : w'.ownsRow w.heap.size E t.size v xs.length (rowD t xs)) (hne : xs ≠ []) (hb : Below w.heap.size w w') :
  ∃ σ', Out J σ w [] J σ' w' [(64, .arr true false t xs)] ∧ VR J σ' w' (.os (.t 64)) v := by
 have hlen : 0 < xs.length := by cases xs with | nil => exact absurd rfl hne | cons _ _ => simp
 rcases hrow.2 with ⟨_, h0⟩ | ⟨g, cap, cur, rfl, hg, hheap, hcap, hmax, hsz, htake⟩
 ·omega
 have hsig : ∀ id, σ id = none := fun id => hr.dom id rfl
 let ow : Own := ⟨⟨.slice (some ⟨g, 0, none⟩) xs.length cap, t.size⟩, fun _ _ => none⟩
 have hblk : ∀ b, ow.has b → b = g := by
  rintro b (h | ⟨i, off, H, h, _⟩)
  ·have : (if cap = 0 then none else some g) = some b := h
   rw [if_neg (by omega)] at this
   cases this; rfl
  ·cases h
 have hget : ∀ id o, Heap.get [(64, Obj.arr true false t xs)] id = some o → id = 64 ∧ o = .arr true false t xs := by
  intro id o h
  simp only [Heap.get] at h
  split at h
  ·rename_i e; cases h; exact ⟨e.symm, rfl⟩
  ·cases h
 have hglt : g < w'.heap.size := (Array.getElem?_eq_some_iff.1 hheap).1
 have hJ : ∀ b, J b → b < w.heap.size := hr.lt
 refine ⟨fun id => if id = 64 then some ow else none, ⟨⟨?_, ?_, ?_, ?_, ?_⟩, ?_, fun _ h => h, fun _ h => .inl h, ?_, ?_⟩, ?_⟩
 ·intro id o h
  obtain ⟨rfl, rfl⟩ := hget id o h
  refine ⟨ow, by simp, rfl, fun _ _ _ => rfl, ⟨fun i off H b h _ => (by cases h), fun i off H i' off' H' b h _ _ _ => (by cases h)⟩, ?_⟩
  refine ⟨rowD t xs, ⟨rowD_length ht xs, .inr ⟨g, 0, cap, cur, E, rfl, hheap, by omega, ⟨hcap, by simp only [maxLen] at hmax; omega⟩, ?_⟩⟩, fun i hi => ?_⟩
  ·rw [List.drop_zero]; exact htake
  ·show DR J w' t _ _
   rw [rowD_chunk ht xs i hi]
   exact (DR_vals t ht _ _).2 rfl
 ·intro id h
  simp only [Heap.get] at h
  split at h
  ·cases h
  ·rename_i e
   exact if_neg (fun h => e h.symm)
 ·rintro b ⟨id, o, ow', h1, h2, h3, h4⟩
  obtain ⟨rfl, rfl⟩ := hget id o h1
  have : ow' = ow := by simpa using h3.symm
  subst this
  have := hblk b h4
  subst this
  exact ⟨fun hj => by have := hJ _ hj; omega, hglt⟩
 ·intro id id' o o' ow1 ow2 b hne h1 h2
  obtain ⟨rfl, _⟩ := hget id o h1
  obtain ⟨rfl, _⟩ := hget id' o' h2
  exact absurd rfl hne
 ·exact fun b h => Nat.lt_of_lt_of_le (hJ b h) hb.size
 ·rintro b ⟨id, o, ow', h1, h2, h3, h4⟩
  obtain ⟨rfl, rfl⟩ := hget id o h1
  have : ow' = ow := by simpa using h3.symm
  subst this
  have := hblk b h4
  subst this
  exact .inl hg
 ·exact ⟨hb.os, hb.tape, hb.output, hb.size, fun b hlt _ => hb.block b hlt⟩
 ·intro id hid o h
  obtain ⟨rfl, _⟩ := hget id o h
  simp only [lentFrom] at hid
  omega
 ·exact ⟨ow.h, some ⟨g, 0, none⟩, xs.length, cap, by simp [hdrOf], rfl, rfl⟩
theorem clone_ok {P : Program} {ρ : Go.Shelf.Ren} (L : Go.Proofs.SlLaysE0.n41 P ρ) (f : Nat) (hf : f = ρ.f 41) (t : Ty) (ht : t.plainB = true) (hz : 0 < t.size) (i0 : TypeInfo) (z : Value) (bytes : Nat) (hi : P.info? (ρ.t 23) = some i0) (hz0 : i0.zero = some z) (hz1 : i0.size = t.size) (hz2 : i0.bytes = bytes) (hby : bytes ≤ 64) (hzs : z.cells.size = t.size)
  (z23 : ∀ w, (Go.sizeOf (ρ.t 23)).run P w = .ok t.size w) (henter : ∀ (args : Array Value) (w : World), (callFunc f args).run P w = .ok (.enter f args) w)
  {J : Nat → Prop} {σ : Nat → Option Own} {w : World} {xs : List t.Den} {us : List Value} (hl : xs.length ≤ 10000000) (hr : HR J σ w []) (hv : VRs J σ w [.d (.slice t) xs] us) :
  CallsV P f us.toArray w fun e w' => ∃ u J' σ', e = .returned u ∧ Out J σ w [] J' σ' w' (cloneV t xs).2 ∧ VR J' σ' w' (cloneV t xs).1 u := by
 obtain ⟨u0, us0, rfl, h0, rfl⟩ := hv
 obtain ⟨A, cap, h1, h2, h3⟩ := h0
 simp only [List.cons.injEq, and_true] at h1
 subst h1
 refine .inl ⟨henter _ _, ?_⟩
 subst hf
 cases A with
 | none =>
  have hx : xs = [] := by
   cases xs with
   | nil => rfl
   | cons x xs => obtain ⟨b, o, e, _⟩ := h3 0 (by simp); cases e
  subst hx
  refine Calls.mono (Go.Proofs.AnyE.slices_Clone_nil L 0 cap w) ?_
  rintro e w' ⟨rfl, rfl⟩
  exact ⟨_, J, σ, rfl, Out.refl0 hr, none, rfl⟩
 | some ad =>
  by_cases hx0 : xs.length = 0
  ·have hx' : xs = [] := List.eq_nil_of_length_eq_zero hx0
   subst hx'
   refine Calls.mono (Go.Proofs.clone_empty L i0 hi (by rw [hz1]; exact z23) ad cap w) ?_
   rintro e w' ⟨A, rfl, hbel⟩
   exact ⟨_, J, σ, rfl, new_none hr hbel, A, rfl⟩
  have hm : xs.length * bytes ≤ 10000000 * 64 := Nat.mul_le_mul hl hby
  have hcells : ∀ j u, (rowD t xs)[j]? = some u → w.cell? (ad.add j) = some u := by
   by_cases hx : xs.length = 0
   ·intro j u hj
    rw [List.eq_nil_of_length_eq_zero hx] at hj
    simp [rowD] at hj
   ·obtain ⟨b, o, e, _⟩ := h3 0 (by omega)
    cases e
    have hrow := CellsAt.row ht (w := w) (b := b) xs o (fun i hi => by
     obtain ⟨b', o', e', _, es, hd, hca⟩ := h3 i hi
     cases e'
     rw [(DR_vals t ht _ _).1 hd] at hca
     exact hca)
    intro j u hj
    have := hrow j u hj
    have hadd : (⟨b, o, none⟩ : Addr).add j = ⟨b, o + j, none⟩ := by unfold Addr.add; split <;> simp_all
    rw [hadd]
    exact this
  refine Calls.mono (Go.Proofs.clone_any L i0 z t.size bytes hi hz0 hz1 hz2 hzs hz z23 ad xs.length cap (rowD t xs) w (rowD_length ht xs) (by simp only [maxLen]; omega) (by omega) hcells (rowD_one xs)) ?_
  rintro e w' ⟨v', rfl, hown, hbel⟩
  have hx := hx0
  obtain ⟨σ', k1, k2⟩ := new_row ht hz hr hown (fun e => hx (by rw [e]; rfl)) hbel
  refine ⟨v', J, σ', rfl, ?_, ?_⟩
  ·simp only [cloneV, if_neg hx]; exact k1
  ·simp only [cloneV, if_neg hx]; exact k2
end Go.Q
