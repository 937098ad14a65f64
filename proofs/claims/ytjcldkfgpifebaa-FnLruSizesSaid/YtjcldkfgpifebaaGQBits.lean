/- For evaluation: bits of numbers. -/
import Derived.Test.YtjcldkfgpifebaaGQLib
namespace Go.Q
set_option linter.unusedVariables false
set_option linter.unusedSimpArgs false
set_option linter.unusedSectionVars false
open Go
theorem ofInt_nat (n a : Nat) : BitVec.ofInt n (a : Int) = BitVec.ofNat n a := BitVec.ofInt_natCast n a
theorem wrap_i64_nat {a : Nat} (h : a < 2 ^ 63) : IntKind.i64.wrap (a : Int) = (a : Int) := by
  rw [wrap_i] <;> omega
theorem bits_or {a b : Nat} (ha : a < 2 ^ 63) (hb : b < 2 ^ 63) : bitsOf .or .i64 (a : Int) (b : Int) = ((a ||| b : Nat) : Int) := by
  have h : a ||| b < 2 ^ 63 := Nat.or_lt_two_pow ha hb
  have ha' : a % 2 ^ 64 = a := Nat.mod_eq_of_lt (by omega)
  have hb' : b % 2 ^ 64 = b := Nat.mod_eq_of_lt (by omega)
  show IntKind.i64.wrap (BitVec.ofInt 64 (a : Int) ||| BitVec.ofInt 64 (b : Int)).toNat = _
  rw [ofInt_nat, ofInt_nat, BitVec.toNat_or, BitVec.toNat_ofNat, BitVec.toNat_ofNat, ha', hb', wrap_i64_nat h]
theorem bits_and {a b : Nat} (ha : a < 2 ^ 63) (hb : b < 2 ^ 63) : bitsOf .and .i64 (a : Int) (b : Int) = ((a &&& b : Nat) : Int) := by
  have h : a &&& b < 2 ^ 63 := Nat.lt_of_le_of_lt Nat.and_le_left ha
  have ha' : a % 2 ^ 64 = a := Nat.mod_eq_of_lt (by omega)
  have hb' : b % 2 ^ 64 = b := Nat.mod_eq_of_lt (by omega)
  show IntKind.i64.wrap (BitVec.ofInt 64 (a : Int) &&& BitVec.ofInt 64 (b : Int)).toNat = _
  rw [ofInt_nat, ofInt_nat, BitVec.toNat_and, BitVec.toNat_ofNat, BitVec.toNat_ofNat, ha', hb', wrap_i64_nat h]
theorem fdiv_pow (a k : Nat) : ((a : Int).fdiv (2 ^ k)) = ((a / 2 ^ k : Nat) : Int) := by
  rw [Int.fdiv_eq_ediv_of_nonneg _ (Int.pow_nonneg (by omega))]
  rw [show ((2 : Int) ^ k) = ((2 ^ k : Nat) : Int) from by simp]
  rfl
theorem bit_is {a k : Nat} (ha : a < 2 ^ 63) : bitsOf .and .i64 ((a : Int).fdiv (2 ^ k)) 1 = if a.testBit k = true then 1 else 0 := by
  rw [fdiv_pow]
  have h1 : a / 2 ^ k < 2 ^ 63 := Nat.lt_of_le_of_lt (Nat.div_le_self _ _) ha
  have := bits_and h1 (b := 1) (by omega)
  rw [show ((1 : Nat) : Int) = 1 from rfl] at this
  rw [this, Nat.and_one_is_mod, Nat.testBit_eq_decide_div_mod_eq]
  have : a / 2 ^ k % 2 = 0 ∨ a / 2 ^ k % 2 = 1 := by omega
  rcases this with h | h <;> simp [h]
/-- A set of small numbers. -/
def maskB (f : Nat → Bool) : Nat → Nat
  | 0 => 0
  | n + 1 => if f n = true then maskB f n ||| 2 ^ n else maskB f n
theorem maskB_bit (f : Nat → Bool) (n k : Nat) : (maskB f n).testBit k = (decide (k < n) && f k) := by
  induction n with
  | zero => simp [maskB]
  | succ n ih =>
    simp only [maskB]
    by_cases hf : f n = true
    · rw [if_pos hf, Nat.testBit_or, ih, Nat.testBit_two_pow]
      by_cases e : n = k
      · subst e; simp [hf]
      · have h1 : decide (n = k) = false := by simp [e]
        rw [h1, Bool.or_false]
        congr 1
        rw [decide_eq_decide]; omega
    · rw [if_neg hf, ih]
      by_cases e : n = k
      · subst e; simp [hf]
      · congr 1
        rw [decide_eq_decide]; omega
theorem maskB_lt (f : Nat → Bool) (n : Nat) : maskB f n < 2 ^ n := by
  induction n with
  | zero => simp [maskB]
  | succ n ih =>
    simp only [maskB]
    have h1 : maskB f n < 2 ^ (n + 1) := by rw [Nat.pow_succ]; omega
    split
    · exact Nat.or_lt_two_pow h1 (Nat.pow_lt_pow_right (by omega) (by omega))
    · exact h1
/-- The numbers below a bound with a property, in order. -/
def those (f : Nat → Bool) (n : Nat) : List Int := ((List.range n).filter f).map Int.ofNat
theorem those_succ (f : Nat → Bool) (n : Nat) : those f (n + 1) = if f n = true then those f n ++ [(n : Int)] else those f n := by
  unfold those
  rw [List.range_succ, List.filter_append, List.map_append]
  by_cases h : f n = true
  · rw [if_pos h]; simp [h]
  · rw [if_neg h]; simp [h]
theorem those_congr {f g : Nat → Bool} {n : Nat} (h : ∀ k, k < n → f k = g k) : those f n = those g n := by
  unfold those
  congr 1
  apply List.filter_congr
  intro x hx
  exact h x (List.mem_range.1 hx)
theorem those_length (f : Nat → Bool) (n : Nat) : (those f n).length ≤ n := by
  unfold those
  rw [List.length_map]
  exact Nat.le_trans (List.length_filter_le _ _) (by simp)
theorem bits_andNot {a b : Nat} (ha : a < 2 ^ 63) (hb : b < 2 ^ 63) : ∃ r : Nat, bitsOf .andNot .i64 (a : Int) (b : Int) = (r : Int) ∧ r < 2 ^ 63 ∧ ∀ k, r.testBit k = (a.testBit k && !b.testBit k) := by
  have ha' : a % 2 ^ 64 = a := Nat.mod_eq_of_lt (by omega)
  have hb' : b % 2 ^ 64 = b := Nat.mod_eq_of_lt (by omega)
  have hle : (BitVec.ofNat 64 a &&& ~~~BitVec.ofNat 64 b).toNat ≤ a := by
    rw [BitVec.toNat_and, BitVec.toNat_ofNat, ha']; exact Nat.and_le_left
  refine ⟨(BitVec.ofNat 64 a &&& ~~~BitVec.ofNat 64 b).toNat, ?_, by omega, ?_⟩
  · show IntKind.i64.wrap (BitVec.ofInt 64 (a : Int) &&& ~~~BitVec.ofInt 64 (b : Int)).toNat = _
    rw [ofInt_nat, ofInt_nat, wrap_i64_nat (by omega)]
  · intro k
    rw [BitVec.testBit_toNat, BitVec.getLsbD_and, BitVec.getLsbD_not, BitVec.getLsbD_ofNat, BitVec.getLsbD_ofNat]
    by_cases hk : k < 64
    · simp [hk]
    · have : a.testBit k = false := Nat.testBit_lt_two_pow (Nat.lt_of_lt_of_le ha (Nat.pow_le_pow_right (by omega) (by omega)))
      simp [hk, this]
theorem bits_xor {a b : Nat} (ha : a < 2 ^ 63) (hb : b < 2 ^ 63) : bitsOf .xor .i64 (a : Int) (b : Int) = ((a ^^^ b : Nat) : Int) := by
  have h : a ^^^ b < 2 ^ 63 := Nat.xor_lt_two_pow ha hb
  have ha' : a % 2 ^ 64 = a := Nat.mod_eq_of_lt (by omega)
  have hb' : b % 2 ^ 64 = b := Nat.mod_eq_of_lt (by omega)
  show IntKind.i64.wrap (BitVec.ofInt 64 (a : Int) ^^^ BitVec.ofInt 64 (b : Int)).toNat = _
  rw [ofInt_nat, ofInt_nat, BitVec.toNat_xor, BitVec.toNat_ofNat, BitVec.toNat_ofNat, ha', hb', wrap_i64_nat h]
theorem maskB_eq {r : Nat} {f : Nat → Bool} {n : Nat} (h : ∀ k, r.testBit k = (decide (k < n) && f k)) : r = maskB f n :=
  Nat.eq_of_testBit_eq fun k => by rw [h, maskB_bit]
theorem maskB_congr {f g : Nat → Bool} {n : Nat} (h : ∀ k, k < n → f k = g k) : maskB f n = maskB g n := by
  apply maskB_eq
  intro k
  rw [maskB_bit]
  by_cases hk : k < n
  · rw [h k hk]
  · simp [hk]
/-- A number is taken out. -/
theorem mask_out {f : Nat → Bool} {n x : Nat} (hn : n ≤ 62) (hx : x ≤ 62) : bitsOf .andNot .i64 (maskB f n : Int) ((2 ^ x : Nat) : Int) = (maskB (fun k => f k && !(k == x)) n : Int) := by
  have h1 : maskB f n < 2 ^ 63 := Nat.lt_of_lt_of_le (maskB_lt f n) (Nat.pow_le_pow_right (by omega) (by omega))
  obtain ⟨r, h2, _, h3⟩ := bits_andNot h1 (b := 2 ^ x) (Nat.pow_lt_pow_right (by omega) (by omega))
  rw [h2]
  congr 1
  apply maskB_eq
  intro k
  rw [h3, maskB_bit, Nat.testBit_two_pow, Bool.and_assoc]
  congr 2
  congr 1
  by_cases e : x = k
  · subst e; simp
  · have : ¬ k = x := fun h => e h.symm
    simp [e, this]
theorem mask_full (n : Nat) : maskB (fun _ => true) n = 2 ^ n - 1 := by
  apply Eq.symm
  apply maskB_eq
  intro k
  rw [Nat.testBit_two_pow_sub_one]; simp
end Go.Q
