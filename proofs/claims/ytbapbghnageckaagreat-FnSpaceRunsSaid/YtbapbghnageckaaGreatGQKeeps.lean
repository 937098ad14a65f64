/- What leaves the memory that was there as it was: append to nothing. -/
import Derived.Test.YtbapbghnageckaaGreatGQOps
import Derived.Laws.Append
namespace Go.Q
set_option linter.unusedVariables false
set_option linter.unusedSimpArgs false
open Go
theorem ok_andThen {α β : Type} {r : Result α} {f : α → World → Result β} {b : β} {w' : World} (h : r.andThen f = .ok b w') : ∃ a w1, r = .ok a w1 ∧ f a w1 = .ok b w' := by
 cases r with
 | ok a w1 => exact ⟨a, w1, rfl, h⟩
 | halt x w1 => cases h
def Quiet {α : Type} (P : Program) (s : Sem α) : Prop := ∀ w a w', s.run P w = .ok a w' → Keeps w w'
section
variable {P : Program} {α β : Type}
theorem Quiet.bind {x : Sem α} {f : α → Sem β} (hx : Quiet P x) (hf : ∀ a, Quiet P (f a)) : Quiet P (x >>= f) := by
 intro w b w' h
 rw [Sem.run_bind] at h
 obtain ⟨a, w1, h1, h2⟩ := ok_andThen h
 exact (hx _ _ _ h1).trans (hf a _ _ _ h2)
theorem Quiet.pure (a : α) : Quiet P (Pure.pure a : Sem α) := by
 intro w b w' h
 simp at h
 rw [h.2]; exact Keeps.refl _
theorem Quiet.halt (x : Halt) : Quiet P (.halt x : Sem α) := by
 intro w b w' h
 simp [Sem.run] at h
theorem Quiet.program : Quiet P Go.program := by
 intro w b w' h
 simp at h
 rw [h.2]; exact Keeps.refl _
theorem Quiet.typeInfo (t : TypeId) : Quiet P (Go.typeInfo t) := by
 refine Quiet.bind Quiet.program fun p => ?_
 split
 ·exact Quiet.pure _
 ·exact Quiet.halt _
theorem Quiet.underlying (t : TypeId) : Quiet P (Go.underlying t) := by
 refine Quiet.bind Quiet.program fun p => ?_
 split
 ·exact Quiet.pure _
 ·exact Quiet.halt _
theorem Quiet.zeroValue (t : TypeId) : Quiet P (Go.zeroValue t) := by
 refine Quiet.bind (Quiet.typeInfo t) fun p => ?_
 split
 ·exact Quiet.pure _
 ·exact Quiet.halt _
theorem Quiet.sizeOf (t : TypeId) : Quiet P (Go.sizeOf t) := Quiet.bind (Quiet.typeInfo t) fun p => Quiet.pure _
theorem Quiet.load (a : Addr) (m : Mode) : Quiet P (Go.load a m) := by
 intro w b w' h
 simp only [Go.load, Sem.run] at h
 repeat' split at h
 all_goals (try cases h)
 all_goals exact Keeps.refl _
theorem Quiet.choose (q : Question) : Quiet P (Go.choose q) := by
 intro w b w' h
 simp only [Go.choose, Sem.run] at h
 repeat' split at h
 all_goals (try cases h)
 all_goals exact fun _ _ => rfl
theorem Quiet.mark (m : Mark) : Quiet P (Go.mark m) := by
 intro w b w' h
 simp only [Go.mark, Sem.run] at h
 repeat' split at h
 all_goals (try cases h)
 all_goals exact fun _ _ => rfl
theorem Quiet.newObj (o : Go.Obj) : Quiet P (Go.newObj o) := by
 intro w b w' h
 simp only [Go.newObj, Sem.run] at h
 cases h
 exact (moved_alloc w o).keeps
theorem Quiet.newRow (e : TypeId) (cs : Array Value) : Quiet P (Go.newRow e cs) := Quiet.bind (Quiet.newObj _) fun _ => Quiet.pure _
theorem Quiet.loadCellsFrom (a : Addr) : ∀ (n i : Nat) (acc : Array Value), Quiet P (Go.loadCellsFrom a i n acc)
 | 0, i, acc => Quiet.pure _
 | n + 1, i, acc => Quiet.bind (Quiet.load _ _) fun v => Quiet.loadCellsFrom a n (i + 1) _
theorem Quiet.firstCells (size n : Nat) (x : Value) : Quiet P (Builtin.firstCells size n x) := by
 unfold Builtin.firstCells
 split
 ·exact Quiet.loadCellsFrom _ _ _ _
 ·exact Quiet.pure _
 ·exact Quiet.pure _
 ·exact Quiet.halt _
theorem Quiet.askRoom (n : Nat) : Quiet P (Go.askRoom n) := by
 unfold Go.askRoom
 split
 ·exact Quiet.mark _
 ·exact Quiet.pure _
theorem Quiet.asInt (v : Value) : Quiet P (Go.asInt v) := by
 refine Quiet.bind ?_ fun _ => Quiet.pure _
 unfold Go.asIntOf
 split
 ·exact Quiet.pure _
 ·exact Quiet.halt _
 ·exact Quiet.halt _
theorem Quiet.runtimePanic (e : RuntimeError) : Quiet P (Go.runtimePanic e : Sem α) := by
 intro w b w' h
 unfold Go.runtimePanic at h
 simp only [Sem.run_bind] at h
 obtain ⟨p, w1, _, h⟩ := ok_andThen h
 cases e <;> simp only [goPanic, Sem.run_bind] at h
 all_goals first | (simp [Sem.run] at h; done) | skip
 all_goals (obtain ⟨p, w2, _, h⟩ := ok_andThen h; first | (simp [Sem.run] at h; done) | skip)
 all_goals (obtain ⟨p, w2, _, h⟩ := ok_andThen h; simp [Sem.run] at h)
theorem Quiet.dite {c : Prop} [Decidable c] {x y : Sem α} (hx : c → Quiet P x) (hy : ¬ c → Quiet P y) : Quiet P (if c then x else y) := by
 split
 ·rename_i h; exact hx h
 ·rename_i h; exact hy h
theorem store_none (a : Addr) (l : List Value) (h : l = []) (i : Nat) : Quiet P (Go.storeCells a l i) := by subst h; exact Quiet.pure _
theorem first_none {size : Nat} {x : Value} {w w' : World} {a : Array Value} (h : (Builtin.firstCells size 0 x).run P w = .ok a w') : a = #[] := by
 unfold Builtin.firstCells at h
 split at h
 ·simp only [Nat.zero_mul, Go.loadCells, Go.loadCellsFrom] at h
  simp at h; exact h.1
 ·simp at h; exact h.1
 ·rename_i b
  simp at h
  rw [← h.1]
 ·simp [Sem.run, stuck] at h
theorem new_none0 {size n : Nat} {zeros : Bool} {elem : TypeId} {x : Value} {f : Array Value → Sem α} (hn : 0 + n ≤ 0) (hf : ∀ a, a.toList = [] → Quiet P (f a)) :
  Quiet P ((if (!zeros) = true then Builtin.firstCells size n x else if n * size = 0 then pure #[] else do let d ← Go.zeroValue elem; pure (Builtin.zeroCells d.cells n)) >>= f) := by
 have h0 : n = 0 := by omega
 subst h0
 intro w b w' h
 rw [Sem.run_bind] at h
 obtain ⟨a, w1, h1, h2⟩ := ok_andThen h
 split at h1
 ·exact ((Quiet.firstCells _ _ _) _ _ _ h1).trans (hf a (by rw [first_none h1]) _ _ _ h2)
 ·rw [if_pos (Nat.zero_mul _)] at h1
  simp at h1
  obtain ⟨rfl, rfl⟩ := h1
  exact hf #[] rfl _ _ _ h2
theorem Quiet.shape (r : Nat) : Quiet P (Go.shape r) := by
 intro w b w' h
 simp only [Go.shape, Sem.run] at h
 cases h
 exact Keeps.refl _
theorem Quiet.frozen (a : Addr) : Quiet P (Go.frozen a) := by
 intro w b w' h
 simp only [Go.frozen, Sem.run] at h
 cases h
 exact Keeps.refl _
theorem Quiet.holds (a : Addr) (n : Nat) : Quiet P (Builtin.holdsCells a n) := by
 refine Quiet.bind (Quiet.shape _) fun o => ?_
 split
 ·exact Quiet.pure _
 ·exact Quiet.pure _
theorem Quiet.mayShare (size sLen n : Nat) (base : Option Addr) (x : Value) : Quiet P (Builtin.mayShare size sLen n base x) := by
 unfold Builtin.mayShare
 repeat' first
  | with_reducible exact Quiet.pure _
  | with_reducible exact Quiet.holds _ _
  | with_reducible exact Quiet.frozen _
  | with_reducible refine Quiet.bind ?_ (fun _ => ?_)
  | with_reducible refine Quiet.dite (fun _ => ?_) (fun _ => ?_)
  | split
theorem Quiet.lenOf (x : Value) : Quiet P (Builtin.lenOf x) := by
 unfold Builtin.lenOf
 split
 ·exact Quiet.pure _
 ·exact Quiet.pure _
 ·exact Quiet.halt _
theorem Quiet.unsupported (u : Unsupported) : Quiet P (Go.unsupported u : Sem α) := Quiet.halt _
set_option maxHeartbeats 2000000 in
theorem append_keeps {T T2 ty : TypeId} {A : Option Addr} {x u : Value} {w w' : World} (h : (Builtin.append_ #[T, T2] ty #[.slice A 0 0, x]).run P w = .ok u w') : Keeps w w' := by
 revert h
 have : Quiet P (Builtin.append_ #[T, T2] ty #[.slice A 0 0, x]) := by
  unfold Builtin.append_
  simp only [List.getElem?_toArray, List.getElem?_cons_zero, List.getElem?_cons_succ]
  refine Quiet.bind (Quiet.underlying _) fun d => ?_
  split
  ·repeat' first
    | with_reducible exact Quiet.pure _
    | with_reducible exact Quiet.halt _
    | with_reducible exact Quiet.typeInfo _
    | with_reducible exact Quiet.unsupported _
    | with_reducible exact Quiet.mayShare _ _ _ _ _
    | with_reducible exact Quiet.lenOf _
    | with_reducible exact Quiet.underlying _
    | with_reducible exact Quiet.sizeOf _
    | with_reducible exact Quiet.zeroValue _
    | with_reducible exact Quiet.asInt _
    | with_reducible exact Quiet.choose _
    | with_reducible exact Quiet.mark _
    | with_reducible exact Quiet.askRoom _
    | with_reducible exact Quiet.newRow _ _
    | with_reducible exact Quiet.firstCells _ _ _
    | with_reducible exact Quiet.runtimePanic _
    | with_reducible exact store_none _ _ (by assumption) _
    | with_reducible refine new_none0 (by assumption) (fun _ _ => ?_)
    | with_reducible refine Quiet.bind ?_ (fun _ => ?_)
    | with_reducible refine Quiet.dite (fun _ => ?_) (fun _ => ?_)
    | split
  ·exact Quiet.halt _
 exact this w u w'
end
end Go.Q
