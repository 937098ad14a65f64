/- For evaluation: bits of numbers. -/
import Derived.Test.YtbapbghnageckaaGreatGQLib
namespace Go.Q
set_option linter.unusedVariables false
set_option linter.unusedSimpArgs false
set_option linter.unusedSectionVars false
open Go
def those (f : Nat → Bool) (n : Nat) : List Int := ((List.range n).filter f).map Int.ofNat
theorem those_succ (f : Nat → Bool) (n : Nat) : those f (n + 1) = if f n = true then those f n ++ [(n : Int)] else those f n := by
 unfold those
 rw [List.range_succ, List.filter_append, List.map_append]
 by_cases h : f n = true
 ·rw [if_pos h]; simp [h]
 ·rw [if_neg h]; simp [h]
theorem those_length (f : Nat → Bool) (n : Nat) : (those f n).length ≤ n := by
 unfold those
 rw [List.length_map]
 exact Nat.le_trans (List.length_filter_le _ _) (by simp)
end Go.Q
