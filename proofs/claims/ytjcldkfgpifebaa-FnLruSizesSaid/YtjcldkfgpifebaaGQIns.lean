/- What is not interpreted: a slice of numbers that has been lent is changed in place, beside another one. -/
import Derived.Test.YtjcldkfgpifebaaGQSort
import Derived.Laws.IdiomCopy
import Derived.Lib.SlicesCompact
namespace Go.Q
set_option linter.unusedVariables false
set_option linter.unusedSimpArgs false
open Go Go.RowKit Go.Sort Go.Lib
theorem setCell_at {w : World} {b o : Nat} {v : Value} {cells : Array Value} {e : TypeId} {fr : Nat × Nat} (h : w.heap[b]? = some (.cells cells e fr)) : (w.setCell ⟨b, o, none⟩ v).heap[b]? = some (.cells (cells.setIfInBounds o v) e fr) := by
  simp only [World.setCell, Array.getElem?_modify, if_pos, h]; rfl
theorem setCell_off {w : World} {b o j : Nat} {v : Value} (h : j ≠ b) : (w.setCell ⟨b, o, none⟩ v).heap[j]? = w.heap[j]? := by
  simp only [World.setCell, Array.getElem?_modify]
  rw [if_neg (fun e => h e.symm)]
theorem setCells_at {b : Nat} {e : TypeId} {fr : Nat × Nat} : ∀ (vs : List Value) (o : Nat) (w : World) (cells : Array Value), w.heap[b]? = some (.cells cells e fr) → (w.setCells b o vs).heap[b]? = some (.cells (lay cells o vs) e fr)
  | [], _, _, _, h => h
  | v :: r, o, w, cells, h => by
    rw [World.setCells, lay]
    exact setCells_at r (o + 1) _ _ (setCell_at h)
theorem setCells_off {b j : Nat} (hj : j ≠ b) : ∀ (vs : List Value) (o : Nat) (w : World), (w.setCells b o vs).heap[j]? = w.heap[j]?
  | [], _, _ => rfl
  | v :: r, o, w => by rw [World.setCells, setCells_off hj r, setCell_off hj]
theorem setCells_still {b : Nat} : ∀ (vs : List Value) (o : Nat) (w : World), (w.setCells b o vs).heap.size = w.heap.size ∧ (w.setCells b o vs).os = w.os ∧ (w.setCells b o vs).tape = w.tape ∧ (w.setCells b o vs).output = w.output
  | [], _, _ => ⟨rfl, rfl, rfl, rfl⟩
  | v :: r, o, w => by
    obtain ⟨h1, h2, h3, h4⟩ := setCells_still r (o + 1) (w.setCell ⟨b, o, none⟩ v)
    rw [World.setCells]
    exact ⟨h1.trans (by simp [World.setCell]), h2, h3, h4⟩
theorem lay_size : ∀ (xs : List Value) (d : Array Value) (k : Nat), (lay d k xs).size = d.size
  | [], _, _ => rfl
  | x :: r, d, k => by rw [lay, lay_size r]; simp

/-- What has been lent first holds other numbers. -/
theorem lent_out {J : Nat → Prop} {σ : Nat → Option Own} {w w' : World} {m : Bool} {xs ys : List Int} {rest : Heap} (hrest : rest.get 1000000 = none) (hr : HR J σ w ((1000000, .arr m false (.int .i64) xs) :: rest)) (hlen : ys.length = xs.length) {ow : Own} (how : σ 1000000 = some ow) {b o cap : Nat} (hv : ow.h.v = .slice (some ⟨b, o, none⟩) xs.length cap)
    (hcap : xs.length ≤ cap ∧ cap ≤ 9223372036854775807) (h0 : 0 < xs.length) {cells' : Array Value} {e : TypeId} (hheap : w'.heap[b]? = some (.cells cells' e (0, 0))) (hcs : o + cap ≤ cells'.size) (htk : (cells'.toList.drop o).take xs.length = ys.map (Value.int .i64))
    (hoff : ∀ j, j < w.heap.size → j ≠ b → w'.heap[j]? = w.heap[j]?) (hsz : w.heap.size ≤ w'.heap.size) (ho1 : w'.os = w.os) (ho2 : w'.tape = w.tape) (ho3 : w'.output = w.output) :
    Out J σ w ((1000000, .arr m false (.int .i64) xs) :: rest) J σ w' ((1000000, .arr m false (.int .i64) ys) :: rest) := by
  have hget : ∀ (zs : List Int) id, Heap.get ((1000000, Obj.arr m false (.int .i64) zs) :: rest) id = if id = 1000000 then some (.arr m false (.int .i64) zs) else rest.get id := by
    intro zs id
    simp only [Heap.get]
    by_cases h : 1000000 = id
    · rw [if_pos h, if_pos h.symm]
    · rw [if_neg h, if_neg (fun e => h e.symm)]
  obtain ⟨ow', h1, h2, h3, h4, h5⟩ := hr.objs 1000000 (.arr m false (.int .i64) xs) (by rw [hget, if_pos rfl])
  rw [how] at h1
  cases h1
  have hlive : ∀ x, Live σ ((1000000, Obj.arr m false (.int .i64) ys) :: rest) x ↔ Live σ ((1000000, Obj.arr m false (.int .i64) xs) :: rest) x := by
    intro x
    constructor
    all_goals
      rintro ⟨id, ob, ow', k1, k2, k3, k4⟩
      rw [hget] at k1
      by_cases e : id = 1000000
      · subst e
        exact ⟨1000000, _, ow', by rw [hget, if_pos rfl], rfl, k3, k4⟩
      · rw [if_neg e] at k1
        exact ⟨id, ob, ow', by rw [hget, if_neg e]; exact k1, k2, k3, k4⟩
  have hb : ow.has b := by
    refine .inl ?_
    rw [hv]
    simp only [blockOf]
    rw [if_neg (by omega)]
  have hlb : Live σ ((1000000, Obj.arr m false (.int .i64) xs) :: rest) b := ⟨1000000, _, ow, by rw [hget, if_pos rfl], rfl, how, hb⟩
  have hJb : ∀ x, J x → x ≠ b := fun x hx e => (hr.own b hlb).1 (e ▸ hx)
  refine ⟨⟨?_, ?_, ?_, ?_, ?_⟩, ?_, fun _ h => h, fun _ h => .inl h, ?_, ?_⟩
  · intro id ob h
    rw [hget] at h
    by_cases he : id = 1000000
    · subst he
      rw [if_pos rfl] at h
      cases h
      refine ⟨ow, how, h2, h3, h4, ys.map (Value.int .i64), ⟨by simp [Ty.size], .inr ⟨b, o, cap, _, e, by rw [hv, hlen], hheap, ?_, by rw [hlen]; exact hcap, ?_⟩⟩, fun i hi => ?_⟩
      · simp only [Ty.size, Nat.mul_one]; exact hcs
      · simp only [Ty.size, Nat.mul_one]
        rw [hlen]; exact htk
      · show DR J w' (.int .i64) _ _
        have : chunk (Ty.size (.int .i64)) (ys.map (Value.int .i64)) i = [.int .i64 (ys.get ⟨i, hi⟩)] := by
          simp only [chunk, Ty.size, Nat.mul_one]
          have hi' : i < (ys.map (Value.int .i64)).length := by rw [List.length_map]; exact hi
          rw [List.drop_eq_getElem_cons hi']
          simp
        rw [this]; rfl
    · rw [if_neg he] at h
      obtain ⟨ow1, q1, q2⟩ := hr.objs id ob (by rw [hget, if_neg he]; exact h)
      refine ⟨ow1, q1, ?_⟩
      by_cases hlv : ob.live = true
      · exact ObjR.mono (fun _ h => h) (fun x hx => hoff x (hr.lt x hx) (hJb x hx)) (fun _ x hx => by
          have hlx : Live σ ((1000000, Obj.arr m false (.int .i64) xs) :: rest) x := ⟨id, ob, ow1, by rw [hget, if_neg he]; exact h, hlv, q1, hx⟩
          refine hoff x (hr.own x hlx).2 (fun e => ?_)
          subst e
          exact hr.dist id 1000000 ob _ ow1 ow x he (by rw [hget, if_neg he]; exact h) (by rw [hget, if_pos rfl]) hlv rfl q1 how hx hb) (fun _ _ h => h) q2
      · exact ObjR.mono (fun _ h => h) (fun x hx => hoff x (hr.lt x hx) (hJb x hx)) (fun hl => absurd hl hlv) (fun _ _ h => h) q2
  · intro id h
    apply hr.dom
    rw [hget] at h ⊢
    by_cases he : id = 1000000
    · rw [if_pos he] at h; cases h
    · rw [if_neg he] at h ⊢; exact h
  · intro x hx
    obtain ⟨q1, q2⟩ := hr.own x ((hlive x).1 hx)
    exact ⟨q1, Nat.lt_of_lt_of_le q2 hsz⟩
  · have hback : ∀ id ob, Heap.get ((1000000, Obj.arr m false (.int .i64) ys) :: rest) id = some ob → ob.live = true → ∃ ob', Heap.get ((1000000, Obj.arr m false (.int .i64) xs) :: rest) id = some ob' ∧ ob'.live = true := by
      intro id ob h hl
      rw [hget] at h ⊢
      by_cases he : id = 1000000
      · rw [if_pos he]; exact ⟨_, rfl, rfl⟩
      · rw [if_neg he] at h ⊢; exact ⟨ob, h, hl⟩
    intro id id' ob ob' ow1 ow2 x hne k1 k2 k3 k4 k5 k6 k7
    obtain ⟨p, hp1, hp2⟩ := hback id ob k1 k3
    obtain ⟨p', hp1', hp2'⟩ := hback id' ob' k2 k4
    exact hr.dist id id' p p' ow1 ow2 x hne hp1 hp1' hp2 hp2' k5 k6 k7
  · exact fun x h => Nat.lt_of_lt_of_le (hr.lt x h) hsz
  · exact fun x h => .inr ((hlive x).1 h)
  · refine ⟨ho1, ho2, ho3, hsz, fun x hx hn => hoff x hx (fun e => hn ?_)⟩
    subst e
    exact hlb
  · intro id hid ob h hs ow' how'
    exact ⟨ow', how', rfl⟩
end Go.Q
