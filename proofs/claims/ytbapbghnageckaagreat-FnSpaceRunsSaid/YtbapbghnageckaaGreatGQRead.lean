/- An abstract interpreter of the translated code: the arguments as they are read. -/
import Derived.Test.YtbapbghnageckaaGreatGQRun3
import Derived.ChangeArms
import Derived.SizedLaws
namespace Go.Q
set_option linter.unusedVariables false
set_option linter.unusedSimpArgs false
set_option linter.unusedSectionVars false
open Go

def Ty.bytes : Ty → Nat
 | .int k => k.bits / 8
 | .bool => 1
 | .str => 16
 | .err => 16
 | .slice _ => 24
 | .ptr _ => 8
 | .nil => 0
 | .cons a b => a.bytes + b.bytes
 | .agg l => l.bytes

def Ty.WF : (t : Ty) → t.Den → Prop
 | .int k, n => k.min ≤ n ∧ n ≤ k.max
 | .bool, _ => True
 | .str, s => s.size ≤ reachBytes
 | .err, _ => True
 | .slice t, xs => List.length xs * t.bytes ≤ reachBytes ∧ ∀ x ∈ (show List t.Den from xs), t.WF x
 | .ptr t, x => t.WF x
 | .nil, _ => True
 | .cons a b, x => a.WF x.1 ∧ b.WF x.2
 | .agg l, x => l.WF x

mutual
def tyIs (P : Program) : Ty → TypeId → Bool
 | .int k, T => match P.underlying T with
  | some (.int k') => decide (k' = k)
  | _ => false
 | .bool, T => match P.underlying T with
  | some .bool => true
  | _ => false
 | .str, T => match P.underlying T with
  | some .string => true
  | _ => false
 | .slice t, T => match P.underlying T with
  | some (.slice e) => P.cellsOf e == t.size && t.size != 0 && decide (t.bytes ≤ P.bytesOf e) && tyIs P t e
  | _ => false
 | .agg l, T => match P.underlying T with
  | some (.struct fs) => P.cellsOf T == l.size && fieldsAre P l fs.toList 0
  | _ => false
 | _, _ => false
def fieldsAre (P : Program) : Ty → List Field → Nat → Bool
 | .nil, [], _ => true
 | .cons a b, f :: fs, off => f.offset == off && P.cellsOf f.type == a.size && tyIs P a f.type && fieldsAre P b fs (off + a.size)
 | _, _, _ => false
end

section
variable {H : Type} {enc : TypeId × Value → H} {P : Program} {w : World}

theorem spot_none {a : Addr} {v : Value} (h : w.cell? a = some v) : a.spot = none := by
 unfold World.cell? at h
 split at h
 ·split at h
  ·cases h
  ·rename_i hs; simpa using hs
 ·cases h

theorem weightsAll_mem {e : TypeId} : ∀ {ds : List (DataW H)} {d : DataW H}, d ∈ ds → ∀ n ∈ d.weights P e, n ∈ DataW.weightsAll P e ds
 | d' :: ds, d, hd, n, hn => by
  simp only [DataW.weightsAll, List.mem_append]
  rcases List.mem_cons.1 hd with rfl | hd
  ·exact .inl hn
  ·exact .inr (weightsAll_mem hd n hn)

mutual
theorem trod_DR : ∀ (t : Ty) (T : TypeId) (n : Nat) (cs : List Value) (x : DataW H × List MemPlace), tyIs P t T = true → DataW.trod enc P w 0 (fun _ => true) true n T cs = some x → (x.1.weights P T).all (· ≤ reachBytes) = true →
  ∃ y : t.Den, DR (fun b => b < w.heap.size) w t y cs ∧ t.WF y
 | .int k, T, n, cs, x, ht, h, _ => by
  simp only [tyIs] at ht
  split at ht
  ·rename_i k' hu
   have hk : k' = k := by simpa using ht
   subst hk
   obtain ⟨m, rfl, rfl, hw⟩ := DataW.trod_int hu h
   refine ⟨m, rfl, ?_⟩
   simpa [Lit.wf, Ty.WF] using hw
  ·cases ht
 | .bool, T, n, cs, x, ht, h, _ => by
  simp only [tyIs] at ht
  split at ht
  ·rename_i hu
   obtain ⟨m, rfl, rfl⟩ := DataW.trod_bool hu h
   exact ⟨m, rfl, trivial⟩
  ·cases ht
 | .str, T, n, cs, x, ht, h, hw => by
  simp only [tyIs] at ht
  split at ht
  ·rename_i hu
   obtain ⟨s, rfl, rfl, _⟩ := DataW.trod_string hu h
   refine ⟨s, rfl, ?_⟩
   simpa [DataW.weights, Ty.WF] using hw
  ·cases ht
 | .slice t, T, n, cs, x, ht, h, hw => by
  simp only [tyIs] at ht
  split at ht
  ·rename_i e hu
   simp only [Bool.and_eq_true, beq_iff_eq, bne_iff_ne, decide_eq_true_eq] at ht
   obtain ⟨⟨⟨hc, hz⟩, hby⟩, hte⟩ := ht
   rcases DataW.trod_slice hu h with ⟨rfl, rfl⟩ | ⟨a, len, cap, elems, rest, m, rfl, rfl, rfl, _, hl, hcap, hlen, hel, hsp, _⟩
   ·refine ⟨([] : List t.Den), ⟨none, 0, rfl, Nat.le_refl _, fun i hi => by simp at hi⟩, ?_⟩
    simp [Ty.WF]
   ·simp only [DataW.weights, hu, List.all_cons, List.all_append, Bool.and_eq_true, decide_eq_true_eq, List.length_map] at hw
    obtain ⟨hw1, hw2, _⟩ := hw
    have each : ∀ i, i < len → ∃ y : t.Den, (∃ es, DR (fun b => b < w.heap.size) w t y es ∧ a.spot = none ∧ a.block < w.heap.size ∧ CellsAt w ⟨a.block, a.off + i * t.size, none⟩ es) ∧ t.WF y := by
     intro i hi
     have hi' := hel i hi
     have hsome : ∃ y, elems[i]? = some y := ⟨elems[i]'(by omega), by simp [hlen, hi]⟩
     obtain ⟨y, hy⟩ := hsome
     rw [hy, Option.bind_eq_some_iff] at hi'
     obtain ⟨cs', h1, h2⟩ := hi'
     obtain ⟨_, hcl, hcells⟩ := World.cells?_some h1
     have h0' := hel 0 (by omega)
     have hy0 : ∃ y, elems[0]? = some y := ⟨elems[0]'(by omega), by simp⟩
     obtain ⟨y0, hy0⟩ := hy0
     rw [hy0, Option.bind_eq_some_iff] at h0'
     obtain ⟨cs0, h01, _⟩ := h0'
     obtain ⟨_, hcl0, hcells0⟩ := World.cells?_some h01
     have hc0 := hcells0 0 (by omega)
     have hadd : (a.add (0 * P.cellsOf e)).add 0 = a := by simp [Addr.add]
     rw [hadd] at hc0
     obtain ⟨v0, hv0⟩ : ∃ v, cs0[0]? = some v := ⟨cs0[0]'(by omega), by simp⟩
     rw [hv0] at hc0
     have hspot := spot_none hc0
     have hblk : a.block < w.heap.size := by
      rcases Nat.lt_or_ge a.block w.heap.size with hb | hb
      ·exact hb
      ·simp [World.cell?, Array.getElem?_eq_none hb] at hc0
     obtain ⟨z, k1, k2⟩ := trod_DR t e m cs' y hte h2 (by
      rw [List.all_eq_true] at hw2 ⊢
      exact fun n hn => hw2 n (weightsAll_mem (List.mem_map.2 ⟨y, List.mem_of_getElem? hy, rfl⟩) n hn))
     refine ⟨z, ⟨cs', k1, hspot, hblk, fun j v hj => ?_⟩, k2⟩
     have hjlt : j < P.cellsOf e := by rw [← hcl]; exact (List.getElem?_eq_some_iff.1 hj).1
     have := hcells j hjlt
     rw [hj] at this
     rw [← this]
     congr 1
     obtain ⟨ab, ao, asp⟩ := a
     simp only at hspot
     subst hspot
     simp only [Addr.add, hc]
     split <;> split <;> simp_all <;> omega
    have hchoose : ∃ ys : List t.Den, ys.length = len ∧ ∀ (i : Nat) (hi : i < ys.length), (∃ es, DR (fun b => b < w.heap.size) w t (ys.get ⟨i, hi⟩) es ∧ a.spot = none ∧ a.block < w.heap.size ∧ CellsAt w ⟨a.block, a.off + i * t.size, none⟩ es) ∧ t.WF (ys.get ⟨i, hi⟩) := by
     refine ⟨(List.finRange len).map fun i => (each i.1 i.2).choose, by simp, fun i hi => ?_⟩
     have := (each i (by simpa using hi)).choose_spec
     simpa using this
    obtain ⟨ys, hyl, hys⟩ := hchoose
    refine ⟨ys, ⟨some a, cap, by rw [hyl], by omega, fun i hi => ?_⟩, ?_, fun y hy => ?_⟩
    ·obtain ⟨⟨es, k1, k2, k3, k4⟩, _⟩ := hys i hi
     obtain ⟨ab, ao, asp⟩ := a
     simp only at k2
     subst k2
     exact ⟨ab, ao, rfl, k3, es, k1, k4⟩
    ·have : len * t.bytes ≤ (elems.length + rest.length) * P.bytesOf e := Nat.mul_le_mul (by omega) hby
     rw [hyl]; omega
    ·obtain ⟨i, hi, rfl⟩ := List.getElem_of_mem hy
     exact (hys i hi).2
  ·cases ht
 | .agg l, T, n, cs, x, ht, h, hw => by
  simp only [tyIs] at ht
  split at ht
  ·rename_i fs hu
   simp only [Bool.and_eq_true, beq_iff_eq] at ht
   obtain ⟨hc, hf⟩ := ht
   obtain ⟨xs, m, rfl, rfl, hcl, hxl, hxs⟩ := DataW.trod_struct hu h
   simp only [DataW.weights, hu] at hw
   obtain ⟨y, k1, k2⟩ := trod_fields l fs.toList 0 m cs xs hf (by simpa using hxl) (fun i f hi => hxs i f (by simpa using hi)) (by rw [hcl, hc]; omega) hw
   refine ⟨y, ?_, k2⟩
   rw [List.drop_zero, List.take_of_length_le (by rw [hcl, hc]; omega)] at k1
   exact k1
  ·cases ht
 | .err, _, _, _, _, ht, _, _ => by simp [tyIs] at ht
 | .ptr _, _, _, _, _, ht, _, _ => by simp [tyIs] at ht
 | .nil, _, _, _, _, ht, _, _ => by simp [tyIs] at ht
 | .cons _ _, _, _, _, _, ht, _, _ => by simp [tyIs] at ht
theorem trod_fields : ∀ (t : Ty) (fs : List Field) (off : Nat) (n : Nat) (cs : List Value) (xs : List (DataW H × List MemPlace)), fieldsAre P t fs off = true → xs.length = fs.length →
  (∀ (i : Nat) (f : Field), fs[i]? = some f → DataW.trod enc P w 0 (fun _ => true) true n f.type ((cs.drop f.offset).take (P.cellsOf f.type)) = xs[i]?) → off + t.size ≤ cs.length →
  (DataW.weightsEach P (fs.map (·.type)) (xs.map (·.1))).all (· ≤ reachBytes) = true → ∃ y : t.Den, DR (fun b => b < w.heap.size) w t y ((cs.drop off).take t.size) ∧ t.WF y
 | .nil, [], off, n, cs, xs, _, _, _, _, _ => ⟨(), by simp [DR, Ty.size], trivial⟩
 | .cons a b, f :: fs, off, n, cs, x :: xs, ht, hl, hx, hle, hw => by
  simp only [fieldsAre, Bool.and_eq_true, beq_iff_eq] at ht
  obtain ⟨⟨⟨h1, h2⟩, h3⟩, h4⟩ := ht
  simp only [List.map_cons, DataW.weightsEach, List.all_append, Bool.and_eq_true] at hw
  have hx0 := hx 0 f rfl
  simp only [List.getElem?_cons_zero] at hx0
  rw [h1, h2] at hx0
  obtain ⟨y1, k1, k2⟩ := trod_DR a f.type n _ x h3 hx0 hw.1
  simp only [Ty.size] at hle
  obtain ⟨y2, k3, k4⟩ := trod_fields b fs (off + a.size) n cs xs h4 (by simpa using hl) (fun i f' hi => by
   have := hx (i + 1) f' (by simpa using hi)
   simpa using this) (by omega) hw.2
  refine ⟨(y1, y2), ⟨_, _, ?_, k1, k3⟩, k2, k4⟩
  simp only [Ty.size]
  rw [List.take_add, List.drop_drop]
 | .cons _ _, f :: fs, _, _, _, [], _, hl, _, _, _ => by simp at hl
 | .nil, _ :: _, _, _, _, _, ht, _, _, _, _ => by simp [fieldsAre] at ht
 | .cons _ _, [], _, _, _, _, ht, _, _, _, _ => by simp [fieldsAre] at ht
 | .int _, _, _, _, _, _, ht, _, _, _, _ => by simp [fieldsAre] at ht
 | .bool, _, _, _, _, _, ht, _, _, _, _ => by simp [fieldsAre] at ht
 | .str, _, _, _, _, _, ht, _, _, _, _ => by simp [fieldsAre] at ht
 | .err, _, _, _, _, _, ht, _, _, _, _ => by simp [fieldsAre] at ht
 | .slice _, _, _, _, _, _, ht, _, _, _, _ => by simp [fieldsAre] at ht
 | .ptr _, _, _, _, _, _, ht, _, _, _, _ => by simp [fieldsAre] at ht
 | .agg _, _, _, _, _, _, ht, _, _, _, _ => by simp [fieldsAre] at ht
end

end
end Go.Q
