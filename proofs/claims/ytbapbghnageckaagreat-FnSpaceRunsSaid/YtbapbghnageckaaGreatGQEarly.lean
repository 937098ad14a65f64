/- An abstract interpreter of the translated code: slots that hold nothing stay so. -/
import Derived.Test.YtbapbghnageckaaGreatGQOp
namespace Go.Q
set_option linter.unusedVariables false
set_option linter.unusedSimpArgs false
set_option linter.unusedSectionVars false
open Go
def Und (t : Nat) (st : St) : Prop := st.tmps.get t = .undef
section
variable {E : Env} {t : Nat} {st st' : St} {id : Nat}
theorem Und.mapR {s : Slots} {h : Heap} (hu : Und t st) (hs : s = st.tmps) (f : AV → AV) : Und t ⟨Slots.mapR f s, h⟩ := by
 subst hs
 unfold Und at *
 rw [Slots.get_mapR, hu]; rfl
theorem Und.heap {h : Heap} (hu : Und t st) : Und t ⟨st.tmps, h⟩ := hu
theorem Und.alloc (hu : Und t st) (id : Nat) (o : Obj) : Und t (st.alloc id o) := by
 unfold St.alloc
 split
 ·exact hu.heap
 ·exact hu.mapR rfl _
theorem Und.kill (hu : Und t st) (id : Nat) : Und t (st.kill id) := hu.mapR rfl _
theorem Und.gone : ∀ (ids : List Nat) {st : St}, Und t st → Und t (st.gone ids)
 | [], _, hu => hu
 | _ :: ids, st, hu => Und.gone ids (hu.mapR rfl _)
theorem Und.freeze (hu : Und t st) (id : Nat) : Und t (st.freeze id) := hu.mapR rfl _
theorem Und.freezeIn (hu : Und t st) (id : Nat) : Und t (st.freezeIn id) := by
 unfold St.freezeIn
 split
 ·exact hu.mapR rfl _
 ·exact hu
theorem Und.freezes : ∀ (n : Nat) {st : St} {vs us : List AV} {st' : St}, Und t st → Go.Q.freezes n st vs = some (us, st') → Und t st'
 | 0, st, vs, us, st', hu, h => by
  simp only [Go.Q.freezes] at h
  split at h
  ·cases h; exact hu
  ·cases h
 | n + 1, st, vs, us, st', hu, h => by
  simp only [Go.Q.freezes] at h
  split at h
  ·cases h; exact hu
  ·split at h
   ·exact Und.freezes n (hu.freeze _) h
   ·cases h
theorem Und.put (hu : Und t st) {d : Option Nat} (hd : d ≠ some t) (v : AV) : Und t (st.put d v) := by
 cases d with
 | none => exact hu
 | some i =>
  unfold Und at *
  show (st.tmps.set i v).get t = .undef
  rw [Slots.get_set, if_neg (fun h => hd (by rw [h]))]
  exact hu
theorem Und.storeFlat (hu : Und t st) {p : Pl} {i off : Nat} {cs : List AV} {v : AV} (h : storeFlat st p i off cs v = some st') : Und t st' := by
 unfold Go.Q.storeFlat at h
 split at h
 ·simp only [Option.bind_eq_some_iff, Option.map_eq_some_iff] at h
  obtain ⟨_, _, _, _, rfl⟩ := h
  exact hu.heap
 ·cases h
theorem Und.storeDeep (hu : Und t st) {id : Nat} {ty : Ty} {m : Bool} {xs : List ty.Den} {i off : Nat} {cs : List AV} (h : storeDeep st id ty m xs i off cs = some st') : Und t st' := by
 unfold Go.Q.storeDeep at h
 rw [Option.bind_eq_some_iff] at h
 obtain ⟨r, _, h⟩ := h
 split at h
 ·rw [Option.bind_eq_some_iff] at h
  obtain ⟨y, _, h⟩ := h
  cases h
  exact (Und.gone _ hu).mapR rfl _
 ·cases h
theorem Und.storeEl (hu : Und t st) {p : Pl} {i off : Nat} {cs : List AV} (h : storeEl st p i off cs = some st') : Und t st' := by
 unfold Go.Q.storeEl at h
 split at h
 ·split at h
  ·split at h
   ·rename_i hs
    cases h
    exact hu.storeDeep hs
   ·simp only [Option.bind_eq_some_iff] at h
    obtain ⟨⟨us, s1⟩, h1, v, _, h⟩ := h
    exact (Und.freezes 4 (hu.freezeIn _) h1).storeFlat h
  ·simp only [Option.bind_eq_some_iff] at h
   obtain ⟨⟨us, s1⟩, h1, v, _, h⟩ := h
   exact (Und.freezes 4 hu h1).storeFlat h
 ·split at h
  ·cases h
  ·rw [Option.bind_eq_some_iff] at h
   obtain ⟨v, _, h⟩ := h
   exact hu.storeFlat h
theorem Und.storeAt (hu : Und t st) {T : Nat} {p v : AV} (h : storeAt E st T p v = some st') : Und t st' := by
 unfold Go.Q.storeAt at h
 rw [Option.bind_eq_some_iff] at h
 obtain ⟨ti, _, h⟩ := h
 split at h
 ·cases h
 ·split at h
  ·split at h
   ·split at h
    ·cases h; exact hu.heap
    ·cases h
   ·cases h
  ·exact hu.storeEl h
  ·cases h
theorem Und.newArr (hu : Und t st) {ty : Ty} {cells : List AV} {len : Nat} {v : AV} (h : newArr st id ty cells len = some (v, st')) : Und t st' := by
 unfold Go.Q.newArr at h
 split at h
 ·simp only [Option.bind_eq_some_iff, Option.some.injEq, Prod.mk.injEq] at h
  obtain ⟨xs, _, _, rfl⟩ := h
  exact (Und.gone _ hu).alloc _ _
 ·simp only [Option.bind_eq_some_iff, Option.some.injEq, Prod.mk.injEq] at h
  obtain ⟨⟨us, s1⟩, h1, xs, _, _, rfl⟩ := h
  exact (Und.freezes 4 hu h1).alloc _ _
theorem Und.buildSlice (hu : Und t st) {T len : Nat} {parts : List (Nat × AV)} {v : AV} (h : buildSlice E st id T len parts = some (v, st')) : Und t st' := by
 unfold Go.Q.buildSlice at h
 rw [Option.bind_eq_some_iff] at h
 obtain ⟨ti, _, h⟩ := h
 split at h
 ·rw [Option.bind_eq_some_iff] at h
  obtain ⟨ty, _, h⟩ := h
  split at h
  ·exact hu.newArr h
  ·cases h
 ·cases h
theorem Und.makeSlice (hu : Und t st) {T : Nat} {n m : Int} {v : AV} (h : makeSlice E st id T n m = some (v, st')) : Und t st' := by
 unfold Go.Q.makeSlice at h
 rw [Option.bind_eq_some_iff] at h
 obtain ⟨ti, _, h⟩ := h
 split at h
 ·simp only [Option.bind_eq_some_iff] at h
  obtain ⟨te, _, ty, _, h⟩ := h
  split at h
  ·cases h; exact hu.alloc _ _
  ·cases h
 ·cases h
theorem Und.appendTo (hu : Und t st) {ty : Ty} {bytes : Nat} {ys : List ty.Den} {s v : AV} (h : appendTo st id ty bytes ys s = some (v, st')) : Und t st' := by
 unfold Go.Q.appendTo at h
 split at h
 ·split at h
  ·cases h; exact hu.alloc _ _
  ·cases h
 ·split at h
  ·cases h; exact hu.alloc _ _
  ·cases h
 ·split at h
  ·rw [Option.bind_eq_some_iff] at h
   obtain ⟨xs, _, h⟩ := h
   split at h
   ·cases h; exact (hu.kill _).heap
   ·cases h
  ·cases h
 ·split at h
  ·rw [Option.bind_eq_some_iff] at h
   obtain ⟨xs, _, h⟩ := h
   split at h
   ·simp only [Option.map_eq_some_iff, Prod.mk.injEq] at h
    obtain ⟨_, _, _, rfl⟩ := h
    exact hu.heap
   ·split at h
    ·cases h; exact (hu.kill _).heap
    ·cases h
  ·cases h
 ·cases h
theorem Und.appendDeep (hu : Und t st) {ty : Ty} {bytes : Nat} {s y v : AV} (h : appendDeep st id ty bytes s y = some (v, st')) : Und t st' := by
 unfold Go.Q.appendDeep at h
 split at h
 ·split at h
  ·rw [Option.bind_eq_some_iff] at h
   obtain ⟨ys, _, h⟩ := h
   split at h
   ·split at h
    ·cases h; exact (Und.gone _ hu).alloc _ _
    ·cases h
   ·split at h
    ·cases h; exact (Und.gone _ hu).alloc _ _
    ·cases h
   ·split at h
    ·split at h
     ·cases h
     ·rw [Option.bind_eq_some_iff] at h
      obtain ⟨xs, _, h⟩ := h
      split at h
      ·cases h; exact ((Und.gone _ hu).kill _).heap
      ·cases h
    ·cases h
   ·cases h
  ·cases h
 ·cases h
theorem Und.freezeInOf (hu : Und t st) (v : AV) : Und t (freezeInOf st v) := by
 unfold Go.Q.freezeInOf
 split
 ·exact hu.freezeIn _
 ·exact hu.freezeIn _
 ·exact hu
theorem Und.append (hu : Und t st) {T T2 : Nat} {s y v : AV} (h : append E st id T T2 s y = some (v, st')) : Und t st' := by
 unfold Go.Q.append at h
 simp only [Option.bind_eq_some_iff] at h
 obtain ⟨ti, _, ti2, _, h⟩ := h
 split at h
 ·simp only [Option.bind_eq_some_iff] at h
  obtain ⟨te, _, ty, _, h⟩ := h
  split at h
  ·split at h
   ·rename_i hs
    cases h
    exact hu.appendDeep hs
   ·simp only [Option.bind_eq_some_iff] at h
    obtain ⟨ys, _, h⟩ := h
    exact ((hu.freezeInOf _).freezeInOf _).appendTo h
  ·simp only [Option.bind_eq_some_iff] at h
   obtain ⟨ys, _, h⟩ := h
   exact hu.appendTo h
 ·simp only [Option.bind_eq_some_iff] at h
  obtain ⟨te, _, ty, _, h⟩ := h
  split at h
  ·exact hu.appendTo h
  ·cases h
 ·cases h
theorem Und.copyTo (hu : Und t st) {ty : Ty} {ys : List ty.Den} {s v : AV} (h : copyTo st ty ys s = some (v, st')) : Und t st' := by
 unfold Go.Q.copyTo at h
 split at h
 ·cases h; exact hu
 ·cases h; exact hu
 ·split at h
  ·cases h
  ·simp only [Option.bind_eq_some_iff, Option.map_eq_some_iff, Prod.mk.injEq] at h
   obtain ⟨_, _, _, _, _, rfl⟩ := h
   exact hu.heap
 ·split at h
  ·cases h
  ·simp only [Option.bind_eq_some_iff, Option.map_eq_some_iff, Prod.mk.injEq] at h
   obtain ⟨_, _, _, _, _, rfl⟩ := h
   exact hu.heap
 ·cases h
theorem Und.copy (hu : Und t st) {T T2 : Nat} {x y v : AV} (h : copy E st T T2 x y = some (v, st')) : Und t st' := by
 unfold Go.Q.copy at h
 simp only [Option.bind_eq_some_iff] at h
 obtain ⟨ti, _, ti2, _, h⟩ := h
 split at h
 ·simp only [Option.bind_eq_some_iff] at h
  obtain ⟨ty, _, h⟩ := h
  split at h
  ·cases h
  ·simp only [Option.bind_eq_some_iff] at h
   obtain ⟨ys, _, h⟩ := h
   exact hu.copyTo h
 ·simp only [Option.bind_eq_some_iff] at h
  obtain ⟨ty, _, h⟩ := h
  split at h
  ·exact hu.copyTo h
  ·cases h
 ·cases h
theorem Und.clear (hu : Und t st) {T : Nat} {x v : AV} (h : clear E st T x = some (v, st')) : Und t st' := by
 unfold Go.Q.clear at h
 simp only [Option.bind_eq_some_iff] at h
 obtain ⟨ti, _, h⟩ := h
 split at h
 ·simp only [Option.bind_eq_some_iff] at h
  obtain ⟨ty, _, h⟩ := h
  split at h
  ·cases h; exact hu
  ·cases h; exact hu
  ·split at h
   ·cases h
   ·simp only [Option.bind_eq_some_iff, Option.map_eq_some_iff, Prod.mk.injEq] at h
    obtain ⟨_, _, _, _, _, rfl⟩ := h
    exact hu.heap
  ·split at h
   ·cases h
   ·simp only [Option.bind_eq_some_iff, Option.map_eq_some_iff, Prod.mk.injEq] at h
    obtain ⟨_, _, _, _, _, rfl⟩ := h
    exact hu.heap
  ·cases h
 ·cases h
theorem Und.callG (hu : Und t st) {g : Nat} {vs : List AV} {v : AV} (h : callG E st id g vs = some (v, st')) : Und t st' := by
 unfold Go.Q.callG at h
 simp only [Option.bind_eq_some_iff] at h
 obtain ⟨x, _, r, _, h⟩ := h
 split at h
 ·cases h
 ·unfold Go.Q.back at h
  split at h
  ·simp only [Option.bind_eq_some_iff, Option.some.injEq, Prod.mk.injEq] at h
   obtain ⟨us, _, _, rfl⟩ := h
   exact hu.mapR rfl _
  ·cases h
theorem Und.mapUpdate (hu : Und t st) {T : Nat} {m k v : AV} (h : mapUpdate E st T m k v = some st') : Und t st' := by
 unfold Go.Q.mapUpdate at h
 simp only [Option.bind_eq_some_iff] at h
 obtain ⟨ti, _, h⟩ := h
 split at h
 ·simp only [Option.map_eq_some_iff] at h
  obtain ⟨o, _, rfl⟩ := h
  exact hu
 ·cases h
theorem Und.makeMap (hu : Und t st) {T : Nat} {r : Option Operand} {v : AV} (h : makeMap E st id T r = some (v, st')) : Und t st' := by
 unfold Go.Q.makeMap at h
 split at h
 ·simp only [Option.bind_eq_some_iff] at h
  obtain ⟨ti, _, h⟩ := h
  split at h
  ·simp only [Option.bind_eq_some_iff, Option.map_eq_some_iff, Prod.mk.injEq] at h
   obtain ⟨_, _, _, _, _, rfl⟩ := h
   exact hu.alloc _ _
  ·cases h
 ·cases h
theorem Und.exOp (hu : Und t st) {o : Oper} (hd : o.dst ≠ some t) (h : exOp E o st = some st') : Und t st' := by
 unfold Go.Q.exOp at h
 split at h
 ·simp only [Option.map_eq_some_iff] at h
  obtain ⟨v, _, rfl⟩ := h
  exact hu.put hd v
 ·rename_i hnp
  clear hnp
  simp only [Option.map_eq_some_iff] at h
  obtain ⟨⟨v, s1⟩, h, rfl⟩ := h
  refine Und.put ?_ hd v
  obtain ⟨dst, op, ty, pos, after, guard⟩ := o
  simp only at h
  cases op <;> simp only [Go.Q.exWrite] at h
  case alloc T =>
   simp only [Option.bind_eq_some_iff, Option.some.injEq, Prod.mk.injEq] at h
   obtain ⟨_, _, _, _, _, rfl⟩ := h
   exact hu.alloc _ _
  case box T x =>
   simp only [Option.bind_eq_some_iff] at h
   obtain ⟨_, _, h⟩ := h
   split at h
   ·cases h; exact hu.alloc _ _
   ·cases h
  case buildSlice T len parts => exact hu.buildSlice h
  case store T p x =>
   simp only [Option.map_eq_some_iff, Prod.mk.injEq] at h
   obtain ⟨s, h, _, rfl⟩ := h
   exact hu.storeAt h
  case makeMap T r => exact hu.makeMap h
  case mapUpdate T m k x =>
   simp only [Option.map_eq_some_iff, Prod.mk.injEq] at h
   obtain ⟨s, h, _, rfl⟩ := h
   exact hu.mapUpdate h
  case insert T m k x =>
   simp only [Option.map_eq_some_iff, Prod.mk.injEq] at h
   obtain ⟨s, h, _, rfl⟩ := h
   exact hu.mapUpdate h
  case makeSlice T l c =>
   split at h
   ·exact hu.makeSlice h
   ·cases h
  case call c =>
   obtain ⟨callee, cargs, argTypes⟩ := c
   cases callee <;> simp only at h
   case builtin b =>
    cases b <;> simp only at h
    case append =>
     split at h
     ·exact hu.append h
     ·cases h
    case copy =>
     split at h
     ·exact hu.copy h
     ·cases h
    case clear =>
     split at h
     ·exact hu.clear h
     ·cases h
    all_goals cases h
   case value f =>
    split at h
    ·exact hu.callG h
    ·cases h
   all_goals cases h
  all_goals cases h
theorem Und.set_bool (hu : Und t st) {g : Nat} {x : Bool} (hg : st.tmps.get g = .d .bool x) (v : AV) : Und t (st.set g v) := by
 unfold Und at *
 show (st.tmps.set g v).get t = .undef
 rw [Slots.get_set, if_neg (fun h => by rw [h, hg] at hu; cases hu)]
 exact hu
end
end Go.Q
