/- Sizes and marks of plain data, and elements of lists in two parts. -/
import Derived.Test.YtbapbghnageckaaGreatGQBits
import Derived.Test.YtbapbghnageckaaGreatGQRead
namespace Go.Q
set_option linter.unusedVariables false
set_option linter.unusedSimpArgs false
set_option linter.unusedSectionVars false
open Go
def Bd (n : Nat) : (t : Ty) → t.Den → Prop
 | .slice t, x => List.length x ≤ n ∧ ∀ y ∈ (show List t.Den from x), Bd n t y
 | .cons a b, x => Bd n a x.1 ∧ Bd n b x.2
 | .agg l, x => Bd n l x
 | .ptr t, x => Bd n t x
 | .str, x => x.size ≤ n
 | .int _, _ => True
 | .bool, _ => True
 | .err, _ => True
 | .nil, _ => True
def Ty.solid : Ty → Bool
 | .slice t => decide (1 ≤ t.bytes) && t.solid
 | .cons a b => a.solid && b.solid
 | .agg l => l.solid
 | .ptr t => t.solid
 | _ => true
abbrev wide : Nat := 900000000000000000
abbrev small : Nat := 1048576
theorem Bd.of_WF : ∀ (t : Ty), t.solid = true → ∀ x : t.Den, t.WF x → Bd wide t x
 | .slice t, hs, x, h => by
  simp only [Ty.solid, Bool.and_eq_true, decide_eq_true_eq] at hs
  have h1 : List.length x * t.bytes ≤ reachBytes := h.1
  have h2 : reachBytes < 2 ^ 47 := reachBytes_lt
  have h3 : List.length x * 1 ≤ List.length x * t.bytes := Nat.mul_le_mul_left _ hs.1
  exact ⟨by simp only [wide]; omega, fun y hy => Bd.of_WF t hs.2 y (h.2 y hy)⟩
 | .cons a b, hs, x, h => by
  simp only [Ty.solid, Bool.and_eq_true] at hs
  exact ⟨Bd.of_WF a hs.1 _ h.1, Bd.of_WF b hs.2 _ h.2⟩
 | .agg l, hs, x, h => Bd.of_WF l hs x h
 | .ptr t, hs, x, h => Bd.of_WF t hs x h
 | .str, _, x, h => by
  have h1 : x.size ≤ reachBytes := h
  have h2 : reachBytes < 2 ^ 47 := reachBytes_lt
  show x.size ≤ wide
  simp only [wide]; omega
 | .int _, _, _, _ => trivial
 | .bool, _, _, _ => trivial
 | .err, _, _, _ => trivial
 | .nil, _, _, _ => trivial
theorem Bd.mono {m n : Nat} (h : m ≤ n) : ∀ (t : Ty) (x : t.Den), Bd m t x → Bd n t x
 | .slice t, x, hx => ⟨Nat.le_trans hx.1 h, fun y hy => Bd.mono h t y (hx.2 y hy)⟩
 | .cons a b, x, hx => ⟨Bd.mono h a _ hx.1, Bd.mono h b _ hx.2⟩
 | .agg l, x, hx => Bd.mono h l x hx
 | .ptr t, x, hx => Bd.mono h t x hx
 | .str, x, hx => Nat.le_trans hx h
 | .int _, _, _ => trivial
 | .bool, _, _ => trivial
 | .err, _, _ => trivial
 | .nil, _, _ => trivial
theorem Bd.wide {t : Ty} {x : t.Den} (h : Bd small t x) : Bd wide t x := Bd.mono (by decide) t x h
def markS {α : Type} (f : Int → α → α × Int) : Int → List α → List α × Int
 | m, [] => ([], m)
 | m, x :: xs => ((f m x).1 :: (markS f (f m x).2 xs).1, (markS f (f m x).2 xs).2)
def markD : (t : Ty) → Int → t.Den → t.Den × Int
 | .int _, m, _ => (m, m + 1)
 | .bool, m, _ => (decide (m.tmod 3 = 0), m + 1)
 | .nil, m, _ => ((), m)
 | .cons a b, m, x => (((markD a m x.1).1, (markD b (markD a m x.1).2 x.2).1), (markD b (markD a m x.1).2 x.2).2)
 | .agg l, m, x => markD l m x
 | .slice t, m, x => markS (markD t) m x
 | .str, m, x => (x, m)
 | .err, m, x => (x, m)
 | .ptr t, m, x => (x, m)
def cnt : (t : Ty) → t.Den → Nat
 | .int _, _ => 1
 | .bool, _ => 1
 | .nil, _ => 0
 | .cons a b, x => cnt a x.1 + cnt b x.2
 | .agg l, x => cnt l x
 | .slice t, x => (List.map (cnt t) x).sum
 | .str, _ => 0
 | .err, _ => 0
 | .ptr _, _ => 0
def top (n : Nat) : Ty → Nat
 | .int _ => 1
 | .bool => 1
 | .cons a b => top n a + top n b
 | .agg l => top n l
 | .slice t => n * top n t
 | _ => 0
theorem markS_length {α : Type} (f : Int → α → α × Int) : ∀ (xs : List α) (m : Int), (markS f m xs).1.length = xs.length
 | [], m => rfl
 | x :: xs, m => by simp [markS, markS_length f xs]
theorem markD_slice (t : Ty) (m : Int) (x : List t.Den) : markD (.slice t) m x = markS (markD t) m x := rfl
theorem Bd.mark {n : Nat} : ∀ (t : Ty) (m : Int) (x : t.Den), Bd n t x → Bd n t (markD t m x).1
 | .int _, m, x, _ => trivial
 | .bool, m, x, _ => trivial
 | .nil, m, x, _ => trivial
 | .cons a b, m, x, h => ⟨Bd.mark a _ _ h.1, Bd.mark b _ _ h.2⟩
 | .agg l, m, x, h => Bd.mark l m x h
 | .slice t, m, x, h => by
  have aux : ∀ (xs : List t.Den) (m : Int), (∀ y ∈ xs, Bd n t y) → ∀ y ∈ (markS (markD t) m xs).1, Bd n t y := by
   intro xs
   induction xs with
   | nil => intro m _ y hy; simp [markS] at hy
   | cons x xs ih =>
    intro m h y hy
    simp only [markS, List.mem_cons] at hy
    rcases hy with rfl | hy
    ·exact Bd.mark t m x (h x (by simp))
    ·exact ih _ (fun z hz => h z (by simp [hz])) y hy
  exact ⟨by rw [markD_slice, markS_length]; exact h.1, aux x m h.2⟩
 | .str, m, x, h => h
 | .err, m, x, h => h
 | .ptr t, m, x, h => h

theorem getD_app {α : Type} (p : List α) (x : α) (r : List α) (d : α) : (p ++ x :: r).getD p.length d = x := by simp
theorem set_app {α : Type} (p : List α) (x y : α) (r : List α) : (p ++ x :: r).set p.length y = p ++ y :: r := by simp
theorem lt_app {α : Type} (p : List α) (x : α) (r : List α) : ((p.length : Int) < ((p ++ x :: r).length : Int)) = True := by simp; omega
theorem ltn_app {α : Type} (p : List α) (x : α) (r : List α) : (p.length < (p ++ x :: r).length) = True := by simp
theorem app_one {α : Type} (p : List α) (x : α) (r : List α) : (p ++ [x]) ++ r = p ++ x :: r := by simp
end Go.Q
