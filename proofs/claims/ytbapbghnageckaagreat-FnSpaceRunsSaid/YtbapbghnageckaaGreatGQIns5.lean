/- What is not interpreted: a slice of numbers that has been lent is changed in place, beside another one. -/
import Derived.Test.YtbapbghnageckaaGreatGQSort
import Derived.Laws.IdiomCopy
import Derived.Lib.SlicesCompact
import Derived.Lib.SliceRun
import Derived.Deep.AppendSrc
import Derived.Test.YtbapbghnageckaaGreatGQClone
namespace Go.Q
set_option linter.unusedVariables false
set_option linter.unusedSimpArgs false
open Go Go.RowKit Go.Sort Go.Lib
theorem setCell_at {w : World} {b o : Nat} {v : Value} {cells : Array Value} {e : TypeId} {fr : Nat × Nat} (h : w.heap[b]? = some (.cells cells e fr)) : (w.setCell ⟨b, o, none⟩ v).heap[b]? = some (.cells (cells.setIfInBounds o v) e fr) := by
 simp only [World.setCell, Array.getElem?_modify, if_pos, h]; rfl
theorem setCell_off {w : World} {b o j : Nat} {v : Value} (h : j ≠ b) : (w.setCell ⟨b, o, none⟩ v).heap[j]? = w.heap[j]? := by
 simp only [World.setCell, Array.getElem?_modify]
 rw [if_neg (fun e => h e.symm)]
theorem setCells_at {b : Nat} {e : TypeId} {fr : Nat × Nat} : ∀ (vs : List Value) (o : Nat) (w : World) (cells : Array Value), w.heap[b]? = some (.cells cells e fr) → (w.setCells b o vs).heap[b]? = some (.cells (lay cells o vs) e fr)
 | [], _, _, _, h => h
 | v :: r, o, w, cells, h => by
  rw [World.setCells, lay]
  exact setCells_at r (o + 1) _ _ (setCell_at h)
theorem setCells_off {b j : Nat} (hj : j ≠ b) : ∀ (vs : List Value) (o : Nat) (w : World), (w.setCells b o vs).heap[j]? = w.heap[j]?
 | [], _, _ => rfl
 | v :: r, o, w => by rw [World.setCells, setCells_off hj r, setCell_off hj]
theorem setCells_still {b : Nat} : ∀ (vs : List Value) (o : Nat) (w : World), (w.setCells b o vs).heap.size = w.heap.size ∧ (w.setCells b o vs).os = w.os ∧ (w.setCells b o vs).tape = w.tape ∧ (w.setCells b o vs).output = w.output
 | [], _, _ => ⟨rfl, rfl, rfl, rfl⟩
 | v :: r, o, w => by
  obtain ⟨h1, h2, h3, h4⟩ := setCells_still r (o + 1) (w.setCell ⟨b, o, none⟩ v)
  rw [World.setCells]
  exact ⟨h1.trans (by simp [World.setCell]), h2, h3, h4⟩
theorem lay_size : ∀ (xs : List Value) (d : Array Value) (k : Nat), (lay d k xs).size = d.size
 | [], _, _ => rfl
 | x :: r, d, k => by rw [lay, lay_size r]; simp

end Go.Q

namespace Go.Q
set_option linter.unusedVariables false
set_option linter.unusedSimpArgs false
open Go Go.RowKit Go.Sort Go.Lib
end Go.Q

namespace Go.Q
set_option linter.unusedVariables false
set_option linter.unusedSimpArgs false
open Go Go.RowKit Go.Sort Go.Lib
variable {P : Program}
theorem run_copy_cellsN (w : World) (dT sT ty elem : TypeId) (sz b o dLen dCap : Nat) (a : Addr) (sLen sCap n : Nat) (cs : List Value)
  (hu : P.underlying dT = some (.slice elem)) (hs : (P.info? elem).map (·.size) = some sz) (hm : Nat.min sLen dLen = n) (hn : cs.length = n * sz)
  (hsrc : ∀ j v, cs[j]? = some v → w.cell? (a.add j) = some v) (hc : ∀ j, j < cs.length → (w.cell? ⟨b, o + j, none⟩).isSome = true) (hf : ∀ j, j < cs.length → w.frozen? ⟨b, o + j, none⟩ = false) (h1 : ∀ v ∈ cs, v.oneCell' = true) :
  (Builtin.copy_ #[dT, sT] ty #[.slice (some ⟨b, o, none⟩) dLen dCap, .slice (some a) sLen sCap]).run P w = .ok (goInt n) (w.setCells b o cs) := by
 have hl := run_loadCells_list (P := P) w a cs hsrc
 have hst := run_storeCells_cells (P := P) b o cs 0 w (by simpa using hc) (by simpa using hf) h1
 cases hq : P.info? elem with
 | none => simp [hq] at hs
 | some i =>
  have hi : i.size = sz := by simpa [hq] using hs
  simp [Builtin.copy_, run_underlying hu, Builtin.lenOf, Builtin.firstCells, sizeOf, typeInfo, hq, hi, hm, ← hn, hl, hst]
theorem run_clear_sliceN (w : World) (t e ty : TypeId) (z : Value) (zs : List Value) (ht : P.underlying t = some (.slice e)) (hv : ∀ w, (zeroValue e).run P w = .ok z w) (n : Nat) (hn : 0 < n) (hz : (Builtin.zeroCells z.cells n).toList = zs) (h1 : ∀ v ∈ zs, v.oneCell' = true) (b o c : Nat)
  (hc : ∀ j, j < zs.length → (w.cell? ⟨b, o + j, none⟩).isSome = true) (hf : ∀ j, j < zs.length → w.frozen? ⟨b, o + j, none⟩ = false) :
  (Builtin.clear_ #[t] ty #[.slice (some ⟨b, o, none⟩) n c]).run P w = .ok (.tuple #[]) (w.setCells b o zs) := by
 have hst := run_storeCells_cells (P := P) b o zs 0 w (by simpa using hc) (by simpa using hf) h1
 simp only [Nat.add_zero] at hst
 obtain ⟨m, rfl⟩ : ∃ m, n = m + 1 := ⟨n - 1, by omega⟩
 simp [Builtin.clear_, run_underlying ht, hv, hz, hst]
end Go.Q

namespace Go.Q
set_option linter.unusedVariables false
set_option linter.unusedSimpArgs false
open Go Go.RowKit Go.Sort Go.Lib
def ownRow (b o n cap sz : Nat) : Own := ⟨⟨.slice (some ⟨b, o, none⟩) n cap, sz⟩, fun _ _ => none⟩
theorem ownRow_has {b o n cap sz x : Nat} (h : (ownRow b o n cap sz).has x) : x = b := by
 rcases h with h | ⟨i, off, H, h, _⟩
 ·have h : (if cap = 0 then none else some b) = some x := h
  split at h
  ·cases h
  ·cases h; rfl
 ·cases h
theorem put_out {t : Ty} (ht : t.plainB = true) {J : Nat → Prop} {σ : Nat → Option Own} {w w' : World} {h h' : Heap} (id : Nat) {ys : List t.Den} (harr : ∀ i ob, h.get i = some ob → ∃ m d t' xs, ob = .arr m d t' xs) (hid : ∀ i, h'.get i = if i = id then some (.arr true false t ys) else h.get i) (hr : HR J σ w h)
  {b o cap : Nat} (hblk : w.heap.size ≤ b ∨ ∃ ow ob, h.get id = some ob ∧ σ id = some ow ∧ ow.has b) {cells : Array Value} {e : TypeId} (hheap : w'.heap[b]? = some (.cells cells e (0, 0))) (hcs : o + cap * t.size ≤ cells.size) (hcap : ys.length ≤ cap ∧ cap ≤ 9223372036854775807)
  (htk : (cells.toList.drop o).take (ys.length * t.size) = rowD t ys) (hoff : ∀ j, j < w.heap.size → j ≠ b → w'.heap[j]? = w.heap[j]?) (hsz : w.heap.size ≤ w'.heap.size) (ho1 : w'.os = w.os) (ho2 : w'.tape = w.tape) (ho3 : w'.output = w.output) :
  Out J σ w h J (fun i => if i = id then some (ownRow b o ys.length cap t.size) else σ i) w' h' := by
 have hlv : ∀ i ob, h.get i = some ob → ob.live = true := by
  intro i ob k
  obtain ⟨_, _, _, _, rfl⟩ := harr i ob k
  rfl
 have hJb : ∀ x, J x → x ≠ b := by
  intro x hx e
  subst e
  rcases hblk with hb | ⟨ow, ob, k1, k3, k4⟩
  ·exact absurd (hr.lt x hx) (by omega)
  ·exact (hr.own x ⟨id, ob, ow, k1, hlv _ _ k1, k3, k4⟩).1 hx
 have hother : ∀ i ob ow x, i ≠ id → h.get i = some ob → σ i = some ow → ow.has x → x ≠ b := by
  intro i ob ow x hne k1 k3 k4 e
  subst e
  rcases hblk with hb | ⟨ow', ob', q1, q3, q4⟩
  ·exact absurd (hr.own x ⟨i, ob, ow, k1, hlv _ _ k1, k3, k4⟩).2 (by omega)
  ·exact hr.dist i id ob ob' ow ow' x hne k1 q1 (hlv _ _ k1) (hlv _ _ q1) k3 q3 k4 q4
 have hbl : b < w'.heap.size := (Array.getElem?_eq_some_iff.1 hheap).1
 have hfrom : ∀ x, Live (fun i => if i = id then some (ownRow b o ys.length cap t.size) else σ i) h' x → x = b ∨ ∃ i ob ow, i ≠ id ∧ h.get i = some ob ∧ σ i = some ow ∧ ow.has x := by
  rintro x ⟨i, ob, ow, k1, k2, k3, k4⟩
  rw [hid] at k1
  by_cases he : i = id
  ·subst he
   simp only [if_pos] at k3
   cases k3
   exact .inl (ownRow_has k4)
  ·rw [if_neg he] at k1
   simp only [if_neg he] at k3
   exact .inr ⟨i, ob, ow, he, k1, k3, k4⟩
 refine ⟨⟨?_, ?_, ?_, ?_, ?_⟩, ?_, fun _ h => h, fun _ h => .inl h, ?_, ?_⟩
 ·intro i ob hg
  rw [hid] at hg
  by_cases he : i = id
  ·subst he
   rw [if_pos rfl] at hg
   cases hg
   refine ⟨ownRow b o ys.length cap t.size, by simp, rfl, fun _ _ _ => rfl, ⟨fun i off H b h _ => (by cases h), fun i off H i' off' H' b h _ _ _ => (by cases h)⟩, ?_⟩
   refine ⟨rowD t ys, ⟨rowD_length ht ys, .inr ⟨b, o, cap, cells, e, rfl, hheap, hcs, hcap, htk⟩⟩, fun i hi => ?_⟩
   show DR J w' t _ _
   rw [rowD_chunk ht ys i hi]
   exact (DR_vals t ht _ _).2 rfl
  ·rw [if_neg he] at hg
   obtain ⟨ow1, q1, q2⟩ := hr.objs i ob hg
   refine ⟨ow1, by simp only [if_neg he]; exact q1, ?_⟩
   obtain ⟨m, d, t', xs, rfl⟩ := harr i ob hg
   have q2' : ObjR J (fun i => if i = id then some (ownRow b o ys.length cap t.size) else σ i) w ow1 (.arr m d t' xs) := q2
   exact ObjR.mono (fun _ h => h) (fun x hx => hoff x (hr.lt x hx) (hJb x hx)) (fun _ x hx => hoff x (hr.own x ⟨i, _, ow1, hg, rfl, q1, hx⟩).2 (hother i _ ow1 x he hg q1 hx)) (fun _ _ h => h) q2'
 ·intro i hg
  rw [hid] at hg
  by_cases he : i = id
  ·rw [if_pos he] at hg; cases hg
  ·rw [if_neg he] at hg
   simp only [if_neg he]
   exact hr.dom i hg
 ·intro x hx
  rcases hfrom x hx with rfl | ⟨i, ob, ow, _, k1, k3, k4⟩
  ·exact ⟨fun hJ => hJb _ hJ rfl, hbl⟩
  ·obtain ⟨q1, q2⟩ := hr.own x ⟨i, ob, ow, k1, hlv _ _ k1, k3, k4⟩
   exact ⟨q1, Nat.lt_of_lt_of_le q2 hsz⟩
 ·intro i i' ob ob' ow1 ow2 x hne k1 k2 _ _ k5 k6 k7 k8
  rw [hid] at k1 k2
  by_cases he : i = id
  ·have he' : i' ≠ id := fun e => hne (he.trans e.symm)
   rw [if_neg he'] at k2
   simp only [if_pos he] at k5
   simp only [if_neg he'] at k6
   cases k5
   exact hother i' ob' ow2 x he' k2 k6 k8 (ownRow_has k7)
  ·rw [if_neg he] at k1
   simp only [if_neg he] at k5
   by_cases he' : i' = id
   ·simp only [if_pos he'] at k6
    cases k6
    exact hother i ob ow1 x he k1 k5 k7 (ownRow_has k8)
   ·rw [if_neg he'] at k2
    simp only [if_neg he'] at k6
    exact hr.dist i i' ob ob' ow1 ow2 x hne k1 k2 (hlv _ _ k1) (hlv _ _ k2) k5 k6 k7 k8
 ·exact fun x h => Nat.lt_of_lt_of_le (hr.lt x h) hsz
 ·intro x hx
  rcases hfrom x hx with rfl | ⟨i, ob, ow, _, k1, k3, k4⟩
  ·rcases hblk with hb | ⟨ow, ob, k1, k3, k4⟩
   ·exact .inl hb
   ·exact .inr ⟨id, ob, ow, k1, hlv _ _ k1, k3, k4⟩
  ·exact .inr ⟨i, ob, ow, k1, hlv _ _ k1, k3, k4⟩
 ·refine ⟨ho1, ho2, ho3, hsz, fun x hx hn => hoff x hx (fun e => hn ?_)⟩
  subst e
  rcases hblk with hb | ⟨ow, ob, k1, k3, k4⟩
  ·omega
  ·exact ⟨id, ob, ow, k1, hlv _ _ k1, k3, k4⟩
 ·intro i hid' ob hg hs ow how
  rw [hid] at hg
  by_cases he : i = id
  ·rw [if_pos he] at hg; cases hg; simp [Obj.still] at hs
  ·simp only [if_neg he]
   exact ⟨ow, how, rfl⟩
theorem put_os {J : Nat → Prop} {σ : Nat → Option Own} {w : World} {id b o n cap sz : Nat} : VR J (fun i => if i = id then some (ownRow b o n cap sz) else σ i) w (.os (.t id)) (.slice (some ⟨b, o, none⟩) n cap) :=
 ⟨_, some ⟨b, o, none⟩, n, cap, by simp only [hdrOf, if_pos, Option.map_some]; rfl, rfl, rfl⟩
theorem row_at {t : Ty} (ht : t.plainB = true) {J : Nat → Prop} {σ : Nat → Option Own} {w : World} {h : Heap} (hr : HR J σ w h) {id : Nat} {m : Bool} {xs : List t.Den} (hg : h.get id = some (.arr m false t xs)) :
  ∃ ow, σ id = some ow ∧ ((∃ A, ow.h.v = .slice A 0 0 ∧ xs = []) ∨ ∃ b o cap cells e, ow.h.v = .slice (some ⟨b, o, none⟩) xs.length cap ∧ w.heap[b]? = some (.cells cells e (0, 0)) ∧ o + cap * t.size ≤ cells.size ∧ (xs.length ≤ cap ∧ cap ≤ 9223372036854775807) ∧ (cells.toList.drop o).take (xs.length * t.size) = rowD t xs ∧ (0 < cap → ow.has b) ∧ ow.h.sz = t.size) := by
 obtain ⟨ow, how, h2, h3, h4, cs, ⟨hclen, harr⟩, hel⟩ := hr.objs id _ hg
 refine ⟨ow, how, ?_⟩
 rcases harr with ⟨A', e, h00⟩ | ⟨b, o, cap, cells, e, hvv, hheap, hcs, hcap, htake⟩
 ·exact .inl ⟨A', e, List.eq_nil_of_length_eq_zero h00⟩
 ·refine .inr ⟨b, o, cap, cells, e, hvv, hheap, hcs, hcap, ?_, ?_, h2⟩
  ·rw [htake]
   apply List.ext_getElem?
   intro k
   by_cases hk : k < xs.length * t.size
   ·have ht0 : 0 < t.size := Nat.pos_of_ne_zero (fun e => by rw [e] at hk; omega)
    have hi : k / t.size < xs.length := (Nat.div_lt_iff_lt_mul ht0).2 hk
    have hd : DR J w t (xs.get ⟨k / t.size, hi⟩) (chunk t.size cs (k / t.size)) := hel _ hi
    rw [DR_vals t ht, ← rowD_chunk ht xs _ hi] at hd
    have hm : k % t.size < t.size := Nat.mod_lt _ ht0
    have hj := congrArg (·[k % t.size]?) hd
    simp only [chunk, List.getElem?_take, if_pos hm, List.getElem?_drop] at hj
    have e : k / t.size * t.size + k % t.size = k := by rw [Nat.mul_comm]; exact Nat.div_add_mod k t.size
    rw [e] at hj
    exact hj
   ·rw [List.getElem?_eq_none (by omega), List.getElem?_eq_none (by rw [rowD_length ht]; omega)]
  ·intro h0
   refine .inl ?_
   rw [hvv]
   simp only [blockOf]
   rw [if_neg (by omega)]
end Go.Q

namespace Go.Q
set_option linter.unusedVariables false
set_option linter.unusedSimpArgs false
open Go Go.RowKit Go.Sort Go.Lib
theorem asList_self (t : Ty) (xs : List t.Den) : asList t (.d (.slice t) xs) = some xs := asDen_self (.slice t) xs
theorem asList_some {t t' : Ty} {xs : List t'.Den} {ys : List t.Den} (h : asList t (.d (.slice t') xs) = some ys) : t' = t ∧ HEq xs ys := by
 have h : asDen (.slice t) (.d (.slice t') xs) = some ys := h
 have := asDen_some h
 cases this
 exact ⟨rfl, HEq.rfl⟩
def delR (t : Ty) (ys : List t.Den) (i j : Int) : Option (AV × Heap) :=
 if 0 ≤ i ∧ i < ys.length ∧ j = i + 1 then some (.os (.t 1000000), [(1000000, .arr true false t (ys.eraseIdx i.toNat))]) else none
def delW (t : Ty) (vs : List AV) (h : Heap) : Option (AV × Heap) := match vs, h with
 | [.os (.t 1000000), .d (.int .i64) i, .d (.int .i64) j], [(1000000, .arr m false t' xs)] => (asList t (.d (.slice t') xs)).bind fun ys => delR t ys i j
 | [.sub (.t 1000000) 0 n, .d (.int .i64) i, .d (.int .i64) j], [(1000000, .arr m false t' xs)] => (asList t (.d (.slice t') xs)).bind fun ys => if n ≤ ys.length then delR t (ys.take n) i j else none
 | _, _ => none
def insN (t : Ty) (i : Int) (m : Bool) : List t.Den → Option (AV × Heap)
 | [x] => if i = 0 then some (.os (.t 64), [(64, .arr true false t [x]), (1000000, .arr m false t [x])]) else none
 | _ => none
def insR (t : Ty) (ys : List t.Den) (i : Int) (m : Bool) : List t.Den → Option (AV × Heap)
 | [x] => if i = 0 ∧ ys.length ≤ 1000000 then some (.os (.t 1000000), [(1000000, .arr true false t (x :: ys)), (1000001, .arr m false t [x])]) else none
 | _ => none
def insW (t : Ty) (vs : List AV) (h : Heap) : Option (AV × Heap) := match vs, h with
 | [.nilS, .d (.int .i64) i, .os (.t 1000000)], [(1000000, .arr m false t' xs)] => (asList t (.d (.slice t') xs)).bind (insN t i m)
 | [.empS, .d (.int .i64) i, .os (.t 1000000)], [(1000000, .arr m false t' xs)] => (asList t (.d (.slice t') xs)).bind (insN t i m)
 | [.os (.t 1000000), .d (.int .i64) i, .os (.t 1000001)], [(1000000, .arr m1 false t1 ys), (1000001, .arr m false t' xs)] => (asList t (.d (.slice t1) ys)).bind fun ys => (asList t (.d (.slice t') xs)).bind (insR t ys i m)
 | [.sub (.t 1000000) 0 n, .d (.int .i64) i, .os (.t 1000001)], [(1000000, .arr m1 false t1 ys), (1000001, .arr m false t' xs)] => (asList t (.d (.slice t1) ys)).bind fun ys => if n ≤ ys.length then (asList t (.d (.slice t') xs)).bind (insR t (ys.take n) i m) else none
 | _, _ => none
variable {t : Ty}
theorem delW_os {m : Bool} {ys : List t.Den} {i j : Int} (h0 : 0 ≤ i) (h1 : i < ys.length) (h2 : j = i + 1) : delW t [.os (.t 1000000), .d (.int .i64) i, .d (.int .i64) j] [(1000000, .arr m false t ys)] = some (.os (.t 1000000), [(1000000, .arr true false t (ys.eraseIdx i.toNat))]) := by
 simp only [delW, asList_self, Option.bind_some, delR]
 rw [if_pos ⟨h0, h1, h2⟩]
theorem delW_sub {m : Bool} {ys : List t.Den} {n : Nat} {i j : Int} (hn : n ≤ ys.length) (h0 : 0 ≤ i) (h1 : i < n) (h2 : j = i + 1) : delW t [.sub (.t 1000000) 0 n, .d (.int .i64) i, .d (.int .i64) j] [(1000000, .arr m false t ys)] = some (.os (.t 1000000), [(1000000, .arr true false t ((ys.take n).eraseIdx i.toNat))]) := by
 simp only [delW, asList_self, Option.bind_some, delR]
 rw [if_pos hn, if_pos ⟨h0, by rw [List.length_take]; omega, h2⟩]
theorem insW_emp {m : Bool} {x : t.Den} : insW t [.empS, .d (.int .i64) (0 : Int), .os (.t 1000000)] [(1000000, .arr m false t [x])] = some (.os (.t 64), [(64, .arr true false t [x]), (1000000, .arr m false t [x])]) := by
 simp only [insW, asList_self, Option.bind_some, insN, if_true]
theorem insW_os {m m1 : Bool} {x : t.Den} {ys : List t.Den} (h : ys.length ≤ 1000000) : insW t [.os (.t 1000000), .d (.int .i64) (0 : Int), .os (.t 1000001)] [(1000000, .arr m1 false t ys), (1000001, .arr m false t [x])] = some (.os (.t 1000000), [(1000000, .arr true false t (x :: ys)), (1000001, .arr m false t [x])]) := by
 simp only [insW, asList_self, Option.bind_some, insR]
 rw [if_pos ⟨trivial, h⟩]
theorem insW_sub {m m1 : Bool} {x : t.Den} {ys : List t.Den} {n : Nat} (hn : n ≤ ys.length) (h : n ≤ 1000000) : insW t [.sub (.t 1000000) 0 n, .d (.int .i64) (0 : Int), .os (.t 1000001)] [(1000000, .arr m1 false t ys), (1000001, .arr m false t [x])] = some (.os (.t 1000000), [(1000000, .arr true false t (x :: ys.take n)), (1000001, .arr m false t [x])]) := by
 simp only [insW, asList_self, Option.bind_some, insR]
 rw [if_pos hn, if_pos ⟨trivial, by rw [List.length_take]; omega⟩]
theorem rowD_append (xs ys : List t.Den) : rowD t (xs ++ ys) = rowD t xs ++ rowD t ys := by simp [rowD]
theorem rowD_take (ht : t.plainB = true) : ∀ (ys : List t.Den) (n : Nat), rowD t (ys.take n) = (rowD t ys).take (n * t.size)
 | [], n => by simp [rowD]
 | y :: ys, 0 => by simp [rowD]
 | y :: ys, n + 1 => by
  have ih := rowD_take ht ys n
  simp only [rowD, List.take_succ_cons, List.flatMap_cons] at ih ⊢
  rw [List.take_append, valsD_length t ht, List.take_of_length_le (l := valsD t y) (by rw [valsD_length t ht, Nat.add_mul]; omega), show (n + 1) * t.size - t.size = n * t.size from by rw [Nat.add_mul]; omega, ih]
theorem rowD_drop (ht : t.plainB = true) : ∀ (ys : List t.Den) (n : Nat), rowD t (ys.drop n) = (rowD t ys).drop (n * t.size)
 | [], n => by simp [rowD]
 | y :: ys, 0 => by simp [rowD]
 | y :: ys, n + 1 => by
  have ih := rowD_drop ht ys n
  simp only [rowD, List.drop_succ_cons, List.flatMap_cons] at ih ⊢
  rw [List.drop_append, valsD_length t ht, show List.drop ((n + 1) * t.size) (valsD t y) = [] from List.drop_eq_nil_of_le (by rw [valsD_length t ht, Nat.add_mul]; omega), show (n + 1) * t.size - t.size = n * t.size from by rw [Nat.add_mul]; omega, List.nil_append, ih]
theorem rowD_erase (ht : t.plainB = true) (ys : List t.Den) (i : Nat) : rowD t (ys.eraseIdx i) = (rowD t ys).take (i * t.size) ++ (rowD t ys).drop ((i + 1) * t.size) := by
 rw [List.eraseIdx_eq_take_drop_succ, rowD_append, rowD_take ht, rowD_drop ht]
theorem buf_at (ht : t.plainB = true) {J : Nat → Prop} {σ : Nat → Option Own} {w : World} {h : Heap} (hr : HR J σ w h) {id : Nat} {m : Bool} {xs : List t.Den} (hg : h.get id = some (.arr m false t xs)) {n : Nat} {arg : AV} (harg : (arg = .os (.t id) ∧ n = xs.length) ∨ (arg = .sub (.t id) 0 n ∧ n ≤ xs.length)) {v : Value} (hv : VR J σ w arg v) :
  n ≤ xs.length ∧ ((∃ A, v = .slice A 0 0 ∧ n = 0) ∨ ∃ ow b o cap cells e, σ id = some ow ∧ ow.has b ∧ v = .slice (some ⟨b, o, none⟩) n cap ∧ 0 < cap ∧ w.heap[b]? = some (.cells cells e (0, 0)) ∧ o + cap * t.size ≤ cells.size ∧ (n ≤ cap ∧ cap ≤ 9223372036854775807) ∧ (cells.toList.drop o).take (n * t.size) = rowD t (xs.take n)) := by
 obtain ⟨ow, how, hrow⟩ := row_at ht hr hg
 rcases harg with ⟨rfl, rfl⟩ | ⟨rfl, hn⟩
 ·refine ⟨Nat.le_refl _, ?_⟩
  obtain ⟨H, A, n0, cap0, k1, k2, rfl⟩ := hv
  have hH : H = ow.h := by
   simp only [hdrOf, how, Option.map_some, Option.some.injEq] at k1
   exact k1.symm
  subst hH
  rcases hrow with ⟨A', e, h0⟩ | ⟨b, o, cap, cells, e, hvv, hheap, hcs, hcap, htake, hhas, hsz⟩
  ·rw [e] at k2
   cases k2
   exact .inl ⟨_, rfl, by rw [h0]; rfl⟩
  ·rw [hvv] at k2
   cases k2
   by_cases hc0 : cap0 = 0
   ·subst hc0
    have : xs.length = 0 := by omega
    exact .inl ⟨_, by rw [this], this⟩
   ·exact .inr ⟨ow, b, o, cap0, cells, e, how, hhas (by omega), rfl, by omega, hheap, hcs, hcap, by rw [List.take_length]; exact htake⟩
 ·refine ⟨hn, ?_⟩
  obtain ⟨H, A, n0, cap0, k1, k2, k3, A', rfl, k4, k5, _⟩ := hv
  have hH : H = ow.h := by
   simp only [hdrOf, how, Option.map_some, Option.some.injEq] at k1
   exact k1.symm
  subst hH
  rcases hrow with ⟨A0, e, h0⟩ | ⟨b, o, cap, cells, e, hvv, hheap, hcs, hcap, htake, hhas, hsz⟩
  ·rw [e] at k2
   cases k2
   obtain rfl : n = 0 := by omega
   exact .inl ⟨_, rfl, rfl⟩
  ·rw [hvv] at k2
   cases k2
   by_cases hc0 : cap0 = 0
   ·subst hc0
    obtain rfl : n = 0 := by omega
    exact .inl ⟨_, rfl, rfl⟩
   ·have hA' := k4 b o rfl (by omega)
    simp only [Nat.zero_mul, Nat.add_zero] at hA'
    subst hA'
    refine .inr ⟨ow, b, o, cap0, cells, e, how, hhas (by omega), rfl, by omega, hheap, hcs, ⟨by omega, hcap.2⟩, ?_⟩
    rw [rowD_take ht, ← htake, List.take_take, Nat.min_eq_left (Nat.mul_le_mul_right _ hn)]
theorem buf_cells {w : World} {b o k : Nat} {cells : Array Value} {e : TypeId} {cs : List Value} (hheap : w.heap[b]? = some (.cells cells e (0, 0))) (htake : (cells.toList.drop o).take k = cs) : ∀ j v, cs[j]? = some v → w.cell? ⟨b, o + j, none⟩ = some v := by
 intro j v hj
 rw [← htake, List.getElem?_take] at hj
 split at hj
 ·rw [List.getElem?_drop, Array.getElem?_toList] at hj
  simp [World.cell?, hheap, hj]
 ·cases hj
theorem buf_some {w : World} {b o k : Nat} {cells : Array Value} {e : TypeId} (hheap : w.heap[b]? = some (.cells cells e (0, 0))) (hk : o + k ≤ cells.size) : ∀ j, j < k → (w.cell? ⟨b, o + j, none⟩).isSome = true := by
 intro j hj
 simp only [World.cell?, hheap]
 rw [Array.getElem?_eq_getElem (by omega)]; rfl
theorem lay_at (xs : List Value) (d : Array Value) (k : Nat) (hk : k + xs.length ≤ d.size) (j : Nat) : (lay d k xs)[j]? = if k ≤ j ∧ j < k + xs.length then xs[j - k]? else d[j]? := lay_get? xs d k j hk
theorem win_ins {cells : Array Value} {o : Nat} {xs cs : List Value} (hk : o + xs.length + cs.length ≤ cells.size) : ((lay (lay cells (o + xs.length) cs) o xs).toList.drop o).take (xs.length + cs.length) = xs ++ cs := by
 apply List.ext_getElem?
 intro k
 rw [List.getElem?_take, List.getElem?_drop, Array.getElem?_toList]
 by_cases h : k < xs.length + cs.length
 ·rw [if_pos h, lay_at _ _ _ (by rw [lay_size]; omega), lay_at _ _ _ (by omega)]
  by_cases h1 : k < xs.length
  ·rw [if_pos (by omega), List.getElem?_append_left h1]; congr 1; omega
  ·rw [if_neg (by omega), if_pos (by omega), List.getElem?_append_right (by omega)]; congr 1; omega
 ·rw [if_neg h, List.getElem?_eq_none (by simp; omega)]
theorem win_first {cells : Array Value} {o : Nat} {xs : List Value} (hk : o + xs.length ≤ cells.size) : ((lay cells o xs).toList.drop o).take xs.length = xs := by
 have := win_ins (cells := cells) (o := o) (xs := xs) (cs := []) (by simpa using hk)
 simpa [lay] using this
theorem win_del {cells : Array Value} {o p q : Nat} {cs zs : List Value} (hw : (cells.toList.drop o).take cs.length = cs) (hk : o + cs.length ≤ cells.size) (hpq : p + q ≤ cs.length) (hz : zs.length = q) :
  ((lay (lay cells (o + p) (cs.drop (p + q))) (o + (cs.length - q)) zs).toList.drop o).take (cs.length - q) = cs.take p ++ cs.drop (p + q) := by
 have hc : ∀ k, k < cs.length → cells[o + k]? = cs[k]? := by
  intro k hk'
  have := congrArg (·[k]?) hw
  simp only [List.getElem?_take, if_pos hk', List.getElem?_drop, Array.getElem?_toList] at this
  exact this
 have hl : (cs.drop (p + q)).length = cs.length - (p + q) := List.length_drop
 apply List.ext_getElem?
 intro k
 rw [List.getElem?_take, List.getElem?_drop, Array.getElem?_toList]
 by_cases h : k < cs.length - q
 ·rw [if_pos h, lay_at _ _ _ (by rw [lay_size]; omega), if_neg (by omega), lay_at _ _ _ (by omega), hl]
  by_cases h1 : k < p
  ·rw [if_neg (by omega), hc k (by omega), List.getElem?_append_left (by rw [List.length_take]; omega), List.getElem?_take, if_pos h1]
  ·rw [if_pos (by omega), List.getElem?_append_right (by rw [List.length_take]; omega), List.length_take, Nat.min_eq_left (by omega)]
   congr 1; omega
 ·rw [if_neg h, List.getElem?_eq_none (by rw [List.length_append, hl, List.length_take]; omega)]
end Go.Q
