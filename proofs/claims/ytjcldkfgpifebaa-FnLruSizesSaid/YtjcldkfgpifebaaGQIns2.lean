/- Cells behind an insertion. -/
import Derived.Test.YtjcldkfgpifebaaGQIns
namespace Go.Q
set_option linter.unusedVariables false
set_option linter.unusedSimpArgs false
open Go Go.RowKit Go.Sort Go.Lib
/-- What the numbers are when one has been put in at i, ahead of the n-th. -/
def insAt (xs : List Int) (n i : Nat) (x : Int) : List Int := xs.take i ++ x :: ((xs.take n).drop i ++ xs.drop (n + 1))
theorem insAt_length {xs : List Int} {n i : Nat} {x : Int} (hi : i ≤ n) (hn : n < xs.length) : (insAt xs n i x).length = xs.length := by
  simp [insAt]; omega
theorem lay_window {cells : Array Value} {o i n : Nat} {xs : List Int} (hw : (cells.toList.drop o).take xs.length = xs.map (Value.int .i64)) (hcs : o + xs.length ≤ cells.size) (hi : i ≤ n) (hn : n < xs.length) (x : Int) :
    ((lay (lay cells (o + (i + 1)) (((xs.take n).map (Value.int .i64)).drop i)) (o + i) [.int .i64 x]).toList.drop o).take xs.length = (insAt xs n i x).map (Value.int .i64) := by
  have hc : ∀ k, k < xs.length → cells[o + k]? = (xs[k]?).map (Value.int .i64) := by
    intro k hk
    have := congrArg (·[k]?) hw
    simp only [List.getElem?_take, if_pos hk, List.getElem?_drop, Array.getElem?_toList, List.getElem?_map] at this
    exact this
  have hl : (((xs.take n).map (Value.int .i64)).drop i).length = n - i := by simp; omega
  apply List.ext_getElem?
  intro k
  rw [List.getElem?_take, List.getElem?_drop, Array.getElem?_toList, List.getElem?_map]
  by_cases hk : k < xs.length
  · rw [if_pos hk, lay_get? _ _ _ _ (by rw [lay_size]; simp; omega), lay_get? _ _ _ _ (by rw [hl]; omega), hl]
    simp only [List.length_cons, List.length_nil, insAt]
    by_cases h1 : k < i
    · rw [if_neg (by omega), if_neg (by omega), hc k hk, List.getElem?_append_left (by simp; omega), List.getElem?_take, if_pos h1]
    · rw [List.getElem?_append_right (by simp; omega)]
      have hil : (xs.take i).length = i := by simp; omega
      rw [hil]
      by_cases h2 : k = i
      · subst h2
        rw [if_pos (by omega)]
        simp
      · rw [if_neg (by omega)]
        obtain ⟨t, rfl⟩ : ∃ t, k = i + 1 + t := ⟨k - (i + 1), by omega⟩
        rw [show i + 1 + t - i = t + 1 from by omega, List.getElem?_cons_succ]
        have hl2 : ((xs.take n).drop i).length = n - i := by simp; omega
        by_cases h3 : t < n - i
        · rw [if_pos (by omega), List.getElem?_append_left (by rw [hl2]; exact h3), show o + (i + 1 + t) - (o + (i + 1)) = t from by omega, List.getElem?_drop, List.getElem?_map, List.getElem?_drop]
        · rw [if_neg (by omega), List.getElem?_append_right (by rw [hl2]; omega), hl2, List.getElem?_drop, hc _ hk]
          congr 2
          omega
  · rw [if_neg hk, List.getElem?_eq_none (by rw [insAt_length hi hn]; omega)]
    rfl
end Go.Q
