/- What is not interpreted: a slice of numbers that has been lent is put in order. -/
import Derived.Test.YtbapbghnageckaaGreatGQNew
import Derived.Sort.Grow
namespace Go.Q
set_option linter.unusedVariables false
set_option linter.unusedSimpArgs false
open Go Go.RowKit Go.Sort
theorem put_heap {w : World} {b o : Nat} {cells : Array Value} {e : TypeId} {k : Nat} {ys : List Int} {os : Array Go.Obj} (h : w.heap[b]? = some (.cells cells e (0, 0))) :
  (grow (putRow (Value.int .i64) (Sort.ahead w k) b o ys.toArray) os).heap[b]? = some (.cells (putCells (Value.int .i64) o ys.toArray cells) e (0, 0)) ∧
  (∀ j, j < w.heap.size → j ≠ b → (grow (putRow (Value.int .i64) (Sort.ahead w k) b o ys.toArray) os).heap[j]? = w.heap[j]?) ∧
  w.heap.size ≤ (grow (putRow (Value.int .i64) (Sort.ahead w k) b o ys.toArray) os).heap.size := by
 have hb : b < w.heap.size := (Array.getElem?_eq_some_iff.1 h).1
 have hsz : (w.heap.modify b (onCells (putCells (Value.int .i64) o ys.toArray))).size = w.heap.size := Array.size_modify
 have hheap : (grow (putRow (Value.int .i64) (Sort.ahead w k) b o ys.toArray) os).heap = w.heap.modify b (onCells (putCells (Value.int .i64) o ys.toArray)) ++ os := rfl
 rw [hheap]
 refine ⟨?_, fun j hj hne => ?_, ?_⟩
 ·rw [Array.getElem?_append_left (by rw [hsz]; exact hb), Array.getElem?_modify, if_pos rfl, h]; rfl
 ·rw [Array.getElem?_append_left (by rw [hsz]; exact hj), Array.getElem?_modify, if_neg (fun e => hne e.symm)]
 ·rw [Array.size_append, hsz]; omega
theorem put_take {cells : Array Value} {o n : Nat} {ys : List Int} (hl : ys.length = n) (hle : o + n ≤ cells.size) : ((putCells (Value.int .i64) o ys.toArray cells).toList.drop o).take n = ys.map (Value.int .i64) := by
 apply List.ext_getElem
 ·simp [putCells]; omega
 ·intro i h1 h2
  have hi : i < ys.length := by simpa using h2
  simp only [List.getElem_take, List.getElem_drop, List.getElem_map, Array.getElem_toList]
  simp only [putCells, Array.getElem_mapIdx]
  have hc : o ≤ o + i ∧ o + i < o + ys.toArray.size := by simp; omega
  rw [if_pos hc]
  have : o + i - o = i := by omega
  rw [this, getElem!_pos _ i (by simpa using hi)]
  simp
theorem sort_out {J : Nat → Prop} {σ : Nat → Option Own} {w : World} {m : Bool} {xs ys : List Int} (hr : HR J σ w [(1000000, .arr m false (.int .i64) xs)]) (hlen : ys.length = xs.length) {ow : Own} (how : σ 1000000 = some ow) {b o cap : Nat} (hv : ow.h.v = .slice (some ⟨b, o, none⟩) xs.length cap)
  {cells : Array Value} {e : TypeId} (hheap : w.heap[b]? = some (.cells cells e (0, 0))) (hcs : o + cap ≤ cells.size) (hcap : xs.length ≤ cap ∧ cap ≤ 9223372036854775807) (h0 : 0 < xs.length) (k : Nat) (os : Array Go.Obj) :
  Out J σ w [(1000000, .arr m false (.int .i64) xs)] J σ (grow (putRow (Value.int .i64) (Sort.ahead w k) b o ys.toArray) os) [(1000000, .arr m false (.int .i64) ys)] := by
 obtain ⟨p1, p2, p3⟩ := put_heap (o := o) (k := k) (ys := ys) (os := os) hheap
 have hget : ∀ (zs : List Int) id ob, Heap.get [(1000000, Obj.arr m false (.int .i64) zs)] id = some ob → id = 1000000 ∧ ob = .arr m false (.int .i64) zs := by
  intro zs id ob h
  simp only [Heap.get] at h
  split at h
  ·rename_i e; cases h; exact ⟨e.symm, rfl⟩
  ·cases h
 obtain ⟨ow', h1, h2, h3, h4, h5⟩ := hr.objs 1000000 (.arr m false (.int .i64) xs) (by simp [Heap.get])
 rw [how] at h1
 cases h1
 have hlive : ∀ (zs : List Int) x, Live σ [(1000000, .arr m false (.int .i64) zs)] x ↔ ow.has x := by
  intro zs x
  constructor
  ·rintro ⟨id, ob, ow', k1, _, k3, k4⟩
   obtain ⟨rfl, _⟩ := hget zs id ob k1
   rw [how] at k3; cases k3; exact k4
  ·intro hx
   exact ⟨1000000, .arr m false (.int .i64) zs, ow, by simp [Heap.get], rfl, how, hx⟩
 have hb : ow.has b := by
  refine .inl ?_
  rw [hv]
  simp only [blockOf]
  rw [if_neg (by omega)]
 refine ⟨⟨?_, ?_, ?_, ?_, ?_⟩, ?_, fun _ h => h, fun _ h => .inl h, ?_, ?_⟩
 ·intro id ob h
  obtain ⟨rfl, rfl⟩ := hget ys id ob h
  refine ⟨ow, how, h2, h3, h4, ys.map (Value.int .i64), ⟨by simp [Ty.size], .inr ⟨b, o, cap, _, e, by rw [hv, hlen], p1, ?_, by omega, ?_⟩⟩, fun i hi => ?_⟩
  ·simp only [Ty.size, putCells, Array.size_mapIdx]; omega
  ·simp only [Ty.size, Nat.mul_one]
   exact put_take rfl (by omega)
  ·show DR J (grow (putRow (Value.int .i64) (Sort.ahead w k) b o ys.toArray) os) (.int .i64) _ _
   have : chunk (Ty.size (.int .i64)) (ys.map (Value.int .i64)) i = [.int .i64 (ys.get ⟨i, hi⟩)] := by
    simp only [chunk, Ty.size, Nat.mul_one]
    have hi' : i < (ys.map (Value.int .i64)).length := by rw [List.length_map]; exact hi
    rw [List.drop_eq_getElem_cons hi']
    simp
   rw [this]; rfl
 ·intro id h
  apply hr.dom
  simp only [Heap.get] at h ⊢
  split at h
  ·cases h
  ·rename_i hne; rw [if_neg hne]
 ·intro x hx
  obtain ⟨q1, q2⟩ := hr.own x ((hlive xs x).2 ((hlive ys x).1 hx))
  exact ⟨q1, Nat.lt_of_lt_of_le q2 p3⟩
 ·intro id id' ob ob' ow1 ow2 x hne k1 k2
  obtain ⟨rfl, _⟩ := hget ys id ob k1
  obtain ⟨rfl, _⟩ := hget ys id' ob' k2
  exact absurd rfl hne
 ·exact fun x h => Nat.lt_of_lt_of_le (hr.lt x h) p3
 ·exact fun x h => .inr ((hlive xs x).2 ((hlive ys x).1 h))
 ·refine ⟨rfl, rfl, rfl, p3, fun x hx hn => p2 x hx (fun e => hn ?_)⟩
  subst e
  exact (hlive xs x).2 hb
 ·intro id hid ob h hs ow' how'
  exact ⟨ow', how', rfl⟩
theorem sort_same {J : Nat → Prop} {σ : Nat → Option Own} {w : World} {h : Heap} (hr : HR J σ w h) : Out J σ w h J σ w h :=
 ⟨hr, fun _ h => .inr h, fun _ h => h, fun _ h => .inl h, Moved.refl _ _, fun id _ o h hs ow how => ⟨ow, how, rfl⟩⟩
end Go.Q
