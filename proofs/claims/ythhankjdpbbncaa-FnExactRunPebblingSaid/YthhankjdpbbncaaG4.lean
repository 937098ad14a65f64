/- Graphs: outputs, masks. -/
import Derived.Test.YthhankjdpbbncaaG3
namespace Go.Proofs.Ythhankjdpbbncaa.PI
open Go Go.Q
set_option maxRecDepth 100000
set_option maxHeartbeats 4000000
set_option linter.unusedSimpArgs false
set_option linter.unusedVariables false

theorem loop_72i (xs : List (List Int)) (hn : xs.length ≤ 6) (i : Nat) (hi : i < xs.length) (hv : ∀ x ∈ xs.getD i [], 0 ≤ x ∧ x < 6) (hb : (xs.getD i []).length < 1000000000000000000) : ∀ (rest pre : List Int) (f : Nat → Bool), xs.getD i [] = pre ++ rest →
    loopOf pr 72 1 ⟨[(0, .rp [LL xs]), (3, I (maskB f xs.length)), (4, I i), (5, I pre.length)], []⟩ = some (.exit 2, ⟨[(0, .rp [LL xs]), (3, I (maskB (fun k => f k && !(rest.any fun x => decide ((k : Int) = x))) xs.length)), (4, I i), (5, I ((pre.length + rest.length : Nat) : Int))], []⟩)
  | [], pre, f, h => by
    have hl : (xs.getD i []).length = pre.length := by rw [h]; simp
    rw [loop_eq pr 72 1 _ Try.f72 fn_72 _ rfl _ ann_72 _ rfl]
    simp -implicitDefEqProofs only [lt_cast hi, zero_le_cast, Int.toNat_natCast, hl, Int.lt_irrefl, go_sem, Nat.reduceAdd, Nat.reduceSub, Nat.reduceMul, Nat.reduceMod, Nat.reduceLT, Nat.reduceLeDiff, Nat.reduceEqDiff, Nat.reduceBEq, Nat.reduceDiv, Int.reduceLT, Int.reduceLE, Int.reduceToNat, Int.reduceNeg, Int.reduceEq, ↓reduceIte, reduceCtorEq, ↓reduceDIte, Bool.false_eq_true, Bool.true_eq_false, ne_eq, not_true_eq_false, not_false_eq_true, Bool.true_or, Bool.false_or, Bool.or_true, Bool.or_false, Bool.true_and, Bool.false_and, Bool.and_true, Bool.and_false, Bool.not_true, Bool.not_false, Bool.not_eq_false', Bool.not_eq_true', and_true, true_and, and_false, false_and, or_true, true_or, or_false, false_or, and_self, or_self, decide_eq_true_eq, decide_true, decide_false, decide_eq_false_iff_not, ite_not, if_true, if_false, eq_self]
    simp
  | x :: rest, pre, f, h => by
    have hl : (xs.getD i []).length = pre.length + (rest.length + 1) := by rw [h]; simp
    have hlt : pre.length < (xs.getD i []).length := by omega
    have hx := hv x (by rw [h]; simp)
    obtain ⟨y, rfl⟩ : ∃ y : Nat, x = (y : Int) := ⟨x.toNat, by omega⟩
    have hy : y < 6 := by omega
    have hg : (xs.getD i []).getD pre.length 0 = (y : Int) := by rw [h]; simp
    have ih := loop_72i xs hn i hi hv hb rest (pre ++ [(y : Int)]) (fun k => f k && !(k == y)) (by rw [h]; simp)
    have e1 : (pre ++ [(y : Int)]).length = pre.length + 1 := by simp
    have e2 : pre.length + 1 + rest.length = pre.length + (rest.length + 1) := by omega
    have e3 : maskB (fun k => (f k && !(k == y)) && !(rest.any fun x => decide ((k : Int) = x))) xs.length = maskB (fun k => f k && !(((y : Int) :: rest).any fun x => decide ((k : Int) = x))) xs.length := by
      apply maskB_congr
      intro k _
      rw [List.any_cons, Bool.not_or, ← Bool.and_assoc]
      congr 2
      congr 1
      by_cases e : k = y
      · subst e; simp
      · have : ¬ (k : Int) = (y : Int) := by omega
        simp [e, this]
    rw [e1, e2, e3] at ih
    have hout := mask_out (f := f) (n := xs.length) (x := y) (by omega) (by omega)
    rw [loop_eq pr 72 1 _ Try.f72 fn_72 _ rfl _ ann_72 _ rfl]
    simp -implicitDefEqProofs only [lt_cast hi, lt_cast hlt, zero_le_cast, Int.toNat_natCast, hg, wrap_succ hlt hb, u64_small (show y < 1000000000000000000 by omega), cast_neg, min_64 (show y < 64 by omega), i64_pow (show y < 62 by omega), hout, IntKind.bits, go_sem, Nat.reduceAdd, Nat.reduceSub, Nat.reduceMul, Nat.reduceMod, Nat.reduceLT, Nat.reduceLeDiff, Nat.reduceEqDiff, Nat.reduceBEq, Nat.reduceDiv, Int.reduceLT, Int.reduceLE, Int.reduceToNat, Int.reduceNeg, Int.reduceEq, ↓reduceIte, reduceCtorEq, ↓reduceDIte, Bool.false_eq_true, Bool.true_eq_false, ne_eq, not_true_eq_false, not_false_eq_true, Bool.true_or, Bool.false_or, Bool.or_true, Bool.or_false, Bool.true_and, Bool.false_and, Bool.and_true, Bool.and_false, Bool.not_true, Bool.not_false, Bool.not_eq_false', Bool.not_eq_true', and_true, true_and, and_false, false_and, or_true, true_or, or_false, false_or, and_self, or_self, decide_eq_true_eq, decide_true, decide_false, decide_eq_false_iff_not, ite_not, if_true, if_false, eq_self]
    exact ih

theorem loop_72 (xs : List (List Int)) (hn : xs.length ≤ 6) (hv : ∀ l ∈ xs, ∀ x ∈ l, 0 ≤ x ∧ x < 6) (hc : ∀ l ∈ xs, l.length < 1000000000000000000) : ∀ (suf pre : List (List Int)) (f : Nat → Bool), xs = pre ++ suf →
    loopOf pr 72 0 ⟨[(0, .rp [LL xs]), (3, I (maskB f xs.length)), (4, I pre.length)], []⟩ = some (.exit 0, ⟨[(0, .rp [LL xs]), (3, I (maskB (fun k => f k && !(suf.any fun l => l.any fun x => decide ((k : Int) = x))) xs.length)), (4, I xs.length)], []⟩)
  | [], pre, f, h => by
    have hl : xs.length = pre.length := by rw [h]; simp
    rw [loop_eq pr 72 0 _ Try.f72 fn_72 _ rfl _ ann_72 _ rfl]
    simp -implicitDefEqProofs only [hl, Int.lt_irrefl, go_sem, Nat.reduceAdd, Nat.reduceSub, Nat.reduceMul, Nat.reduceMod, Nat.reduceLT, Nat.reduceLeDiff, Nat.reduceEqDiff, Nat.reduceBEq, Nat.reduceDiv, Int.reduceLT, Int.reduceLE, Int.reduceToNat, Int.reduceNeg, Int.reduceEq, ↓reduceIte, reduceCtorEq, ↓reduceDIte, Bool.false_eq_true, Bool.true_eq_false, ne_eq, not_true_eq_false, not_false_eq_true, Bool.true_or, Bool.false_or, Bool.or_true, Bool.or_false, Bool.true_and, Bool.false_and, Bool.and_true, Bool.and_false, Bool.not_true, Bool.not_false, Bool.not_eq_false', Bool.not_eq_true', and_true, true_and, and_false, false_and, or_true, true_or, or_false, false_or, and_self, or_self, decide_eq_true_eq, decide_true, decide_false, decide_eq_false_iff_not, ite_not, if_true, if_false, eq_self]
    simp
  | l :: suf, pre, f, h => by
    have hl : xs.length = pre.length + (suf.length + 1) := by rw [h]; simp
    have hlt : pre.length < xs.length := by omega
    have hb : xs.length < 1000000000000000000 := by omega
    have hg : xs.getD pre.length [] = l := by rw [h]; simp
    have hm : l ∈ xs := by rw [h]; simp
    have ih := loop_72 xs hn hv hc suf (pre ++ [l]) (fun k => f k && !(l.any fun x => decide ((k : Int) = x))) (by rw [h]; simp)
    have e1 : (pre ++ [l]).length = pre.length + 1 := by simp
    have e3 : maskB (fun k => (f k && !(l.any fun x => decide ((k : Int) = x))) && !(suf.any fun l => l.any fun x => decide ((k : Int) = x))) xs.length = maskB (fun k => f k && !((l :: suf).any fun l => l.any fun x => decide ((k : Int) = x))) xs.length := by
      apply maskB_congr
      intro k _
      rw [List.any_cons, Bool.not_or, ← Bool.and_assoc]
    rw [e1, e3] at ih
    have hin := loop_72i xs hn pre.length hlt (by rw [hg]; exact hv l hm) (by rw [hg]; exact hc l hm) l [] f (by rw [hg]; rfl)
    have hin : loopOf pr 72 1 ⟨[(0, .rp [LL xs]), (3, I (maskB f xs.length)), (4, I pre.length), (5, I 0)], []⟩ = _ := hin
    rw [loop_eq pr 72 0 _ Try.f72 fn_72 _ rfl _ ann_72 _ rfl]
    simp -implicitDefEqProofs only [lt_cast hlt, zero_le_cast, Int.toNat_natCast, wrap_succ hlt hb, hin, go_sem, Nat.reduceAdd, Nat.reduceSub, Nat.reduceMul, Nat.reduceMod, Nat.reduceLT, Nat.reduceLeDiff, Nat.reduceEqDiff, Nat.reduceBEq, Nat.reduceDiv, Int.reduceLT, Int.reduceLE, Int.reduceToNat, Int.reduceNeg, Int.reduceEq, ↓reduceIte, reduceCtorEq, ↓reduceDIte, Bool.false_eq_true, Bool.true_eq_false, ne_eq, not_true_eq_false, not_false_eq_true, Bool.true_or, Bool.false_or, Bool.or_true, Bool.or_false, Bool.true_and, Bool.false_and, Bool.and_true, Bool.and_false, Bool.not_true, Bool.not_false, Bool.not_eq_false', Bool.not_eq_true', and_true, true_and, and_false, false_and, or_true, true_or, or_false, false_or, and_self, or_self, decide_eq_true_eq, decide_true, decide_false, decide_eq_false_iff_not, ite_not, if_true, if_false, eq_self]
    exact ih

/-- Does nobody use a node? -/
def isOut (xs : List (List Int)) (k : Nat) : Bool := !(xs.any fun l => l.any fun x => decide ((k : Int) = x))
theorem call_72 (xs : List (List Int)) (hn : xs.length ≤ 6) (hv : ∀ l ∈ xs, ∀ x ∈ l, 0 ≤ x ∧ x < 6) (hc : ∀ l ∈ xs, l.length < 1000000000000000000) : callOf pr 72 [.rp [LL xs]] [] = some (I (maskB (isOut xs) xs.length), []) := by
  have h := loop_72 xs hn hv hc xs [] (fun _ => true) rfl
  have h2 : (2 : Nat) ^ xs.length ≤ 2 ^ 6 := Nat.pow_le_pow_right (by omega) hn
  have h1 : 1 ≤ (2 : Nat) ^ xs.length := Nat.one_le_two_pow
  have hw : IntKind.i64.wrap (((2 ^ xs.length : Nat) : Int) - 1) = ((2 ^ xs.length - 1 : Nat) : Int) := by rw [wrap_i] <;> omega
  rw [mask_full] at h
  have h : loopOf pr 72 0 ⟨[(0, .rp [LL xs]), (3, I ((2 ^ xs.length - 1 : Nat) : Int)), (4, I 0)], []⟩ = _ := h
  simp only [Bool.true_and] at h
  rw [call_eq pr 72 _ _ Try.f72 fn_72 _ rfl _ ann_72 rfl]
  simp -implicitDefEqProofs only [u64_small (show xs.length < 1000000000000000000 by omega), cast_neg, Int.toNat_natCast, min_64 (show xs.length < 64 by omega), i64_pow (show xs.length < 62 by omega), hw, h, IntKind.bits, go_sem, Nat.reduceAdd, Nat.reduceSub, Nat.reduceMul, Nat.reduceMod, Nat.reduceLT, Nat.reduceLeDiff, Nat.reduceEqDiff, Nat.reduceBEq, Nat.reduceDiv, Int.reduceLT, Int.reduceLE, Int.reduceToNat, Int.reduceNeg, Int.reduceEq, ↓reduceIte, reduceCtorEq, ↓reduceDIte, Bool.false_eq_true, Bool.true_eq_false, ne_eq, not_true_eq_false, not_false_eq_true, Bool.true_or, Bool.false_or, Bool.or_true, Bool.or_false, Bool.true_and, Bool.false_and, Bool.and_true, Bool.and_false, Bool.not_true, Bool.not_false, Bool.not_eq_false', Bool.not_eq_true', and_true, true_and, and_false, false_and, or_true, true_or, or_false, false_or, and_self, or_self, decide_eq_true_eq, decide_true, decide_false, decide_eq_false_iff_not, ite_not, if_true, if_false, eq_self]
  rfl
/-- The reference's answer. -/
theorem valid_bound {xs : List (List Int)} (h : specValid xs = true) : xs.length ≤ 6 ∧ 0 < xs.length ∧ ∀ l ∈ xs, ∀ x ∈ l, 0 ≤ x ∧ x < 6 := by
  unfold specValid at h
  simp only [Bool.and_eq_true, decide_eq_true_eq] at h
  obtain ⟨⟨h1, h2⟩, h3⟩ := h
  refine ⟨h2, h1, fun l hl x hx => ?_⟩
  obtain ⟨i, hi, rfl⟩ := List.getElem_of_mem hl
  have h4 := (specValid_iff xs).1 h3 i (Nat.zero_le _) hi
  rw [getD_of_lt hi, rises_iff] at h4
  obtain ⟨j, hj, rfl⟩ := List.getElem_of_mem hx
  have := (h4 j (Nat.zero_le _) hj).1
  rw [getD_of_lt hj] at this
  omega

theorem loop_127 (v : Int) (xs : List Int) (hb : xs.length < 1000000000000000000) : ∀ (n k : Nat), k + n = xs.length →
    loopOf pr 127 0 ⟨[(0, L xs), (1, I v), (7, I xs.length), (8, I k)], []⟩ = match (xs.drop k).findIdx? fun x => decide (v = x) with
    | some i => some (.ret, ⟨[(4, I ((k + i : Nat) : Int))], []⟩)
    | none => some (.exit 0, ⟨[(0, L xs), (1, I v), (7, I xs.length), (8, I xs.length)], []⟩)
  | 0, k, h => by
    have : k = xs.length := by omega
    subst this
    rw [List.drop_of_length_le (Nat.le_refl _), loop_eq pr 127 0 _ Try.f127 fn_127 _ rfl _ ann_127 _ rfl]
    simp -implicitDefEqProofs only [Int.lt_irrefl, List.findIdx?_nil, go_sem, Nat.reduceAdd, Nat.reduceSub, Nat.reduceMul, Nat.reduceMod, Nat.reduceLT, Nat.reduceLeDiff, Nat.reduceEqDiff, Nat.reduceBEq, Nat.reduceDiv, Int.reduceLT, Int.reduceLE, Int.reduceToNat, Int.reduceNeg, Int.reduceEq, ↓reduceIte, reduceCtorEq, ↓reduceDIte, Bool.false_eq_true, Bool.true_eq_false, ne_eq, not_true_eq_false, not_false_eq_true, Bool.true_or, Bool.false_or, Bool.or_true, Bool.or_false, Bool.true_and, Bool.false_and, Bool.and_true, Bool.and_false, Bool.not_true, Bool.not_false, Bool.not_eq_false', Bool.not_eq_true', and_true, true_and, and_false, false_and, or_true, true_or, or_false, false_or, and_self, or_self, decide_eq_true_eq, decide_true, decide_false, decide_eq_false_iff_not, ite_not, if_true, if_false, eq_self]
  | n + 1, k, h => by
    have hlt : k < xs.length := by omega
    have ih := loop_127 v xs hb n (k + 1) (by omega)
    rw [List.drop_eq_getElem_cons hlt, List.findIdx?_cons, loop_eq pr 127 0 _ Try.f127 fn_127 _ rfl _ ann_127 _ rfl]
    rw [← getD_of_lt hlt 0]
    by_cases hq : v = xs.getD k 0
    · simp -implicitDefEqProofs only [lt_cast hlt, zero_le_cast, Int.toNat_natCast, wrap_succ hlt hb, tr hq, go_sem, Nat.reduceAdd, Nat.reduceSub, Nat.reduceMul, Nat.reduceMod, Nat.reduceLT, Nat.reduceLeDiff, Nat.reduceEqDiff, Nat.reduceBEq, Nat.reduceDiv, Int.reduceLT, Int.reduceLE, Int.reduceToNat, Int.reduceNeg, Int.reduceEq, ↓reduceIte, reduceCtorEq, ↓reduceDIte, Bool.false_eq_true, Bool.true_eq_false, ne_eq, not_true_eq_false, not_false_eq_true, Bool.true_or, Bool.false_or, Bool.or_true, Bool.or_false, Bool.true_and, Bool.false_and, Bool.and_true, Bool.and_false, Bool.not_true, Bool.not_false, Bool.not_eq_false', Bool.not_eq_true', and_true, true_and, and_false, false_and, or_true, true_or, or_false, false_or, and_self, or_self, decide_eq_true_eq, decide_true, decide_false, decide_eq_false_iff_not, ite_not, if_true, if_false, eq_self]
      rfl
    · simp -implicitDefEqProofs only [lt_cast hlt, zero_le_cast, Int.toNat_natCast, wrap_succ hlt hb, fa hq, go_sem, Nat.reduceAdd, Nat.reduceSub, Nat.reduceMul, Nat.reduceMod, Nat.reduceLT, Nat.reduceLeDiff, Nat.reduceEqDiff, Nat.reduceBEq, Nat.reduceDiv, Int.reduceLT, Int.reduceLE, Int.reduceToNat, Int.reduceNeg, Int.reduceEq, ↓reduceIte, reduceCtorEq, ↓reduceDIte, Bool.false_eq_true, Bool.true_eq_false, ne_eq, not_true_eq_false, not_false_eq_true, Bool.true_or, Bool.false_or, Bool.or_true, Bool.or_false, Bool.true_and, Bool.false_and, Bool.and_true, Bool.and_false, Bool.not_true, Bool.not_false, Bool.not_eq_false', Bool.not_eq_true', and_true, true_and, and_false, false_and, or_true, true_or, or_false, false_or, and_self, or_self, decide_eq_true_eq, decide_true, decide_false, decide_eq_false_iff_not, ite_not, if_true, if_false, eq_self]
      rw [ih]
      cases List.findIdx? (fun x => decide (v = x)) (List.drop (k + 1) xs) with
      | none => rfl
      | some i => simp only [Option.map_some]; rw [show k + 1 + i = k + (i + 1) from by omega]
theorem call_127 (v : Int) (xs : List Int) (hb : xs.length < 1000000000000000000) :
    callOf pr 127 [L xs, I v] [] = some (I (match xs.findIdx? fun x => decide (v = x) with | some i => (i : Int) | none => -1), []) := by
  have h : loopOf pr 127 0 ⟨[(0, L xs), (1, I v), (7, I xs.length), (8, I 0)], []⟩ = _ := loop_127 v xs hb xs.length 0 (by omega)
  rw [call_eq pr 127 _ _ Try.f127 fn_127 _ rfl _ ann_127 rfl]
  rw [List.drop_zero] at h
  cases hf : xs.findIdx? fun x => decide (v = x) with
  | none =>
    rw [hf] at h
    simp -implicitDefEqProofs only [h, go_sem, Nat.reduceAdd, Nat.reduceSub, Nat.reduceMul, Nat.reduceMod, Nat.reduceLT, Nat.reduceLeDiff, Nat.reduceEqDiff, Nat.reduceBEq, Nat.reduceDiv, Int.reduceLT, Int.reduceLE, Int.reduceToNat, Int.reduceNeg, Int.reduceEq, ↓reduceIte, reduceCtorEq, ↓reduceDIte, Bool.false_eq_true, Bool.true_eq_false, ne_eq, not_true_eq_false, not_false_eq_true, Bool.true_or, Bool.false_or, Bool.or_true, Bool.or_false, Bool.true_and, Bool.false_and, Bool.and_true, Bool.and_false, Bool.not_true, Bool.not_false, Bool.not_eq_false', Bool.not_eq_true', and_true, true_and, and_false, false_and, or_true, true_or, or_false, false_or, and_self, or_self, decide_eq_true_eq, decide_true, decide_false, decide_eq_false_iff_not, ite_not, if_true, if_false, eq_self]
  | some i =>
    rw [hf] at h
    simp only [Nat.zero_add] at h
    simp -implicitDefEqProofs only [h, go_sem, Nat.reduceAdd, Nat.reduceSub, Nat.reduceMul, Nat.reduceMod, Nat.reduceLT, Nat.reduceLeDiff, Nat.reduceEqDiff, Nat.reduceBEq, Nat.reduceDiv, Int.reduceLT, Int.reduceLE, Int.reduceToNat, Int.reduceNeg, Int.reduceEq, ↓reduceIte, reduceCtorEq, ↓reduceDIte, Bool.false_eq_true, Bool.true_eq_false, ne_eq, not_true_eq_false, not_false_eq_true, Bool.true_or, Bool.false_or, Bool.or_true, Bool.or_false, Bool.true_and, Bool.false_and, Bool.and_true, Bool.and_false, Bool.not_true, Bool.not_false, Bool.not_eq_false', Bool.not_eq_true', and_true, true_and, and_false, false_and, or_true, true_or, or_false, false_or, and_self, or_self, decide_eq_true_eq, decide_true, decide_false, decide_eq_false_iff_not, ite_not, if_true, if_false, eq_self]
theorem any_of_find {α : Type} (p : α → Bool) (xs : List α) : decide (0 ≤ (match xs.findIdx? p with | some i => (i : Int) | none => -1)) = xs.any p := by
  cases hf : xs.findIdx? p with
  | none =>
    have hany : xs.any p = false := by
      rw [List.findIdx?_eq_none_iff] at hf
      simpa using hf
    rw [hany]; rfl
  | some i =>
    have hany : xs.any p = true := by
      rw [List.findIdx?_eq_some_iff_getElem] at hf
      obtain ⟨h1, h2, _⟩ := hf
      exact List.any_eq_true.2 ⟨_, List.getElem_mem h1, h2⟩
    rw [hany]; simp
theorem call_105 (v : Int) (xs : List Int) (hb : xs.length < 1000000000000000000) : callOf pr 105 [L xs, I v] [] = some (B (xs.any fun x => decide (v = x)), []) := by
  have h := call_127 v xs hb
  rw [call_eq pr 105 _ _ Try.f105 fn_105 _ rfl _ ann_105 rfl]
  rw [← any_of_find]
  simp -implicitDefEqProofs only [h, go_sem, Nat.reduceAdd, Nat.reduceSub, Nat.reduceMul, Nat.reduceMod, Nat.reduceLT, Nat.reduceLeDiff, Nat.reduceEqDiff, Nat.reduceBEq, Nat.reduceDiv, Int.reduceLT, Int.reduceLE, Int.reduceToNat, Int.reduceNeg, Int.reduceEq, ↓reduceIte, reduceCtorEq, ↓reduceDIte, Bool.false_eq_true, Bool.true_eq_false, ne_eq, not_true_eq_false, not_false_eq_true, Bool.true_or, Bool.false_or, Bool.or_true, Bool.or_false, Bool.true_and, Bool.false_and, Bool.and_true, Bool.and_false, Bool.not_true, Bool.not_false, Bool.not_eq_false', Bool.not_eq_true', and_true, true_and, and_false, false_and, or_true, true_or, or_false, false_or, and_self, or_self, decide_eq_true_eq, decide_true, decide_false, decide_eq_false_iff_not, ite_not, if_true, if_false, eq_self]
theorem call_104 (v : Int) (xs : List Int) (hb : xs.length < 1000000000000000000) : callOf pr 104 [L xs, .rp [I v]] [] = some (B (xs.any fun x => decide (v = x)), []) := by
  have h := call_105 v xs hb
  rw [call_eq pr 104 _ _ Try.f104 fn_104 _ rfl _ ann_104 rfl]
  simp -implicitDefEqProofs only [h, go_sem, Nat.reduceAdd, Nat.reduceSub, Nat.reduceMul, Nat.reduceMod, Nat.reduceLT, Nat.reduceLeDiff, Nat.reduceEqDiff, Nat.reduceBEq, Nat.reduceDiv, Int.reduceLT, Int.reduceLE, Int.reduceToNat, Int.reduceNeg, Int.reduceEq, ↓reduceIte, reduceCtorEq, ↓reduceDIte, Bool.false_eq_true, Bool.true_eq_false, ne_eq, not_true_eq_false, not_false_eq_true, Bool.true_or, Bool.false_or, Bool.or_true, Bool.or_false, Bool.true_and, Bool.false_and, Bool.and_true, Bool.and_false, Bool.not_true, Bool.not_false, Bool.not_eq_false', Bool.not_eq_true', and_true, true_and, and_false, false_and, or_true, true_or, or_false, false_or, and_self, or_self, decide_eq_true_eq, decide_true, decide_false, decide_eq_false_iff_not, ite_not, if_true, if_false, eq_self]

theorem loop_126 (xs : List (List Int)) (hb : xs.length < 1000000000000000000) (p : List Int → Bool) (g : Nat) (cs : List AV) (hC : Caps cs) (hg : pr.byref g = []) (hp : ∀ x ∈ xs, callOf pr g (L x :: cs) [] = some (B (p x), [])) : ∀ (n k : Nat), k + n = xs.length →
    loopOf pr 126 0 ⟨[(0, LL xs), (1, .fn g cs), (7, I xs.length), (8, I k)], []⟩ = match (xs.drop k).findIdx? p with
    | some i => some (.ret, ⟨[(4, I ((k + i : Nat) : Int))], []⟩)
    | none => some (.exit 0, ⟨[(0, LL xs), (1, .fn g cs), (7, I xs.length), (8, I xs.length)], []⟩)
  | 0, k, h => by
    have : k = xs.length := by omega
    subst this
    rw [List.drop_of_length_le (Nat.le_refl _), loop_eq pr 126 0 _ Try.f126 fn_126 _ rfl _ ann_126 _ rfl]
    simp -implicitDefEqProofs only [Int.lt_irrefl, List.findIdx?_nil, go_sem, Nat.reduceAdd, Nat.reduceSub, Nat.reduceMul, Nat.reduceMod, Nat.reduceLT, Nat.reduceLeDiff, Nat.reduceEqDiff, Nat.reduceBEq, Nat.reduceDiv, Int.reduceLT, Int.reduceLE, Int.reduceToNat, Int.reduceNeg, Int.reduceEq, ↓reduceIte, reduceCtorEq, ↓reduceDIte, Bool.false_eq_true, Bool.true_eq_false, ne_eq, not_true_eq_false, not_false_eq_true, Bool.true_or, Bool.false_or, Bool.or_true, Bool.or_false, Bool.true_and, Bool.false_and, Bool.and_true, Bool.and_false, Bool.not_true, Bool.not_false, Bool.not_eq_false', Bool.not_eq_true', and_true, true_and, and_false, false_and, or_true, true_or, or_false, false_or, and_self, or_self, decide_eq_true_eq, decide_true, decide_false, decide_eq_false_iff_not, ite_not, if_true, if_false, eq_self]
  | n + 1, k, h => by
    have hlt : k < xs.length := by omega
    have ih := loop_126 xs hb p g cs hC hg hp n (k + 1) (by omega)
    have hpk : callOf pr g (L (xs.getD k []) :: cs) [] = some (B (p (xs.getD k [])), []) := hp _ (by rw [getD_of_lt hlt]; exact List.getElem_mem hlt)
    rw [List.drop_eq_getElem_cons hlt, List.findIdx?_cons, loop_eq pr 126 0 _ Try.f126 fn_126 _ rfl _ ann_126 _ rfl]
    rw [← getD_of_lt hlt []]
    cases hq : p (xs.getD k []) with
    | true =>
      simp -implicitDefEqProofs only [lt_cast hlt, zero_le_cast, Int.toNat_natCast, wrap_succ hlt hb, hC.args, hC.own, hC.ow, hC.arg, hC.mapR, hC.leads, hg, hpk, hq, go_sem, Nat.reduceAdd, Nat.reduceSub, Nat.reduceMul, Nat.reduceMod, Nat.reduceLT, Nat.reduceLeDiff, Nat.reduceEqDiff, Nat.reduceBEq, Nat.reduceDiv, Int.reduceLT, Int.reduceLE, Int.reduceToNat, Int.reduceNeg, Int.reduceEq, ↓reduceIte, reduceCtorEq, ↓reduceDIte, Bool.false_eq_true, Bool.true_eq_false, ne_eq, not_true_eq_false, not_false_eq_true, Bool.true_or, Bool.false_or, Bool.or_true, Bool.or_false, Bool.true_and, Bool.false_and, Bool.and_true, Bool.and_false, Bool.not_true, Bool.not_false, Bool.not_eq_false', Bool.not_eq_true', and_true, true_and, and_false, false_and, or_true, true_or, or_false, false_or, and_self, or_self, decide_eq_true_eq, decide_true, decide_false, decide_eq_false_iff_not, ite_not, if_true, if_false, eq_self]
      rfl
    | false =>
      simp -implicitDefEqProofs only [lt_cast hlt, zero_le_cast, Int.toNat_natCast, wrap_succ hlt hb, hC.args, hC.own, hC.ow, hC.arg, hC.mapR, hC.leads, hg, hpk, hq, go_sem, Nat.reduceAdd, Nat.reduceSub, Nat.reduceMul, Nat.reduceMod, Nat.reduceLT, Nat.reduceLeDiff, Nat.reduceEqDiff, Nat.reduceBEq, Nat.reduceDiv, Int.reduceLT, Int.reduceLE, Int.reduceToNat, Int.reduceNeg, Int.reduceEq, ↓reduceIte, reduceCtorEq, ↓reduceDIte, Bool.false_eq_true, Bool.true_eq_false, ne_eq, not_true_eq_false, not_false_eq_true, Bool.true_or, Bool.false_or, Bool.or_true, Bool.or_false, Bool.true_and, Bool.false_and, Bool.and_true, Bool.and_false, Bool.not_true, Bool.not_false, Bool.not_eq_false', Bool.not_eq_true', and_true, true_and, and_false, false_and, or_true, true_or, or_false, false_or, and_self, or_self, decide_eq_true_eq, decide_true, decide_false, decide_eq_false_iff_not, ite_not, if_true, if_false, eq_self]
      rw [ih]
      cases List.findIdx? p (List.drop (k + 1) xs) with
      | none => rfl
      | some i => simp only [Option.map_some]; rw [show k + 1 + i = k + (i + 1) from by omega]
theorem call_126 (xs : List (List Int)) (hb : xs.length < 1000000000000000000) (p : List Int → Bool) (g : Nat) (cs : List AV) (hC : Caps cs) (hg : pr.byref g = []) (hp : ∀ x ∈ xs, callOf pr g (L x :: cs) [] = some (B (p x), [])) :
    callOf pr 126 [LL xs, .fn g cs] [] = some (I (match xs.findIdx? p with | some i => (i : Int) | none => -1), []) := by
  have h : loopOf pr 126 0 ⟨[(0, LL xs), (1, .fn g cs), (7, I xs.length), (8, I 0)], []⟩ = _ := loop_126 xs hb p g cs hC hg hp xs.length 0 (by omega)
  rw [call_eq pr 126 _ _ Try.f126 fn_126 _ rfl _ ann_126 rfl]
  rw [List.drop_zero] at h
  cases hf : xs.findIdx? p with
  | none =>
    rw [hf] at h
    simp -implicitDefEqProofs only [h, go_sem, Nat.reduceAdd, Nat.reduceSub, Nat.reduceMul, Nat.reduceMod, Nat.reduceLT, Nat.reduceLeDiff, Nat.reduceEqDiff, Nat.reduceBEq, Nat.reduceDiv, Int.reduceLT, Int.reduceLE, Int.reduceToNat, Int.reduceNeg, Int.reduceEq, ↓reduceIte, reduceCtorEq, ↓reduceDIte, Bool.false_eq_true, Bool.true_eq_false, ne_eq, not_true_eq_false, not_false_eq_true, Bool.true_or, Bool.false_or, Bool.or_true, Bool.or_false, Bool.true_and, Bool.false_and, Bool.and_true, Bool.and_false, Bool.not_true, Bool.not_false, Bool.not_eq_false', Bool.not_eq_true', and_true, true_and, and_false, false_and, or_true, true_or, or_false, false_or, and_self, or_self, decide_eq_true_eq, decide_true, decide_false, decide_eq_false_iff_not, ite_not, if_true, if_false, eq_self]
  | some i =>
    rw [hf] at h
    simp only [Nat.zero_add] at h
    simp -implicitDefEqProofs only [h, go_sem, Nat.reduceAdd, Nat.reduceSub, Nat.reduceMul, Nat.reduceMod, Nat.reduceLT, Nat.reduceLeDiff, Nat.reduceEqDiff, Nat.reduceBEq, Nat.reduceDiv, Int.reduceLT, Int.reduceLE, Int.reduceToNat, Int.reduceNeg, Int.reduceEq, ↓reduceIte, reduceCtorEq, ↓reduceDIte, Bool.false_eq_true, Bool.true_eq_false, ne_eq, not_true_eq_false, not_false_eq_true, Bool.true_or, Bool.false_or, Bool.or_true, Bool.or_false, Bool.true_and, Bool.false_and, Bool.and_true, Bool.and_false, Bool.not_true, Bool.not_false, Bool.not_eq_false', Bool.not_eq_true', and_true, true_and, and_false, false_and, or_true, true_or, or_false, false_or, and_self, or_self, decide_eq_true_eq, decide_true, decide_false, decide_eq_false_iff_not, ite_not, if_true, if_false, eq_self]
theorem call_103 (xs : List (List Int)) (hb : xs.length < 1000000000000000000) (p : List Int → Bool) (g : Nat) (cs : List AV) (hC : Caps cs) (hg : pr.byref g = []) (hp : ∀ x ∈ xs, callOf pr g (L x :: cs) [] = some (B (p x), [])) :
    callOf pr 103 [LL xs, .fn g cs] [] = some (B (xs.any p), []) := by
  have h := call_126 xs hb p g cs hC hg hp
  rw [call_eq pr 103 _ _ Try.f103 fn_103 _ rfl _ ann_103 rfl]
  rw [← any_of_find]
  simp -implicitDefEqProofs only [hC.args, hC.own, hC.ow, hC.arg, hC.mapR, hC.leads, hg, h, go_sem, Nat.reduceAdd, Nat.reduceSub, Nat.reduceMul, Nat.reduceMod, Nat.reduceLT, Nat.reduceLeDiff, Nat.reduceEqDiff, Nat.reduceBEq, Nat.reduceDiv, Int.reduceLT, Int.reduceLE, Int.reduceToNat, Int.reduceNeg, Int.reduceEq, ↓reduceIte, reduceCtorEq, ↓reduceDIte, Bool.false_eq_true, Bool.true_eq_false, ne_eq, not_true_eq_false, not_false_eq_true, Bool.true_or, Bool.false_or, Bool.or_true, Bool.or_false, Bool.true_and, Bool.false_and, Bool.and_true, Bool.and_false, Bool.not_true, Bool.not_false, Bool.not_eq_false', Bool.not_eq_true', and_true, true_and, and_false, false_and, or_true, true_or, or_false, false_or, and_self, or_self, decide_eq_true_eq, decide_true, decide_false, decide_eq_false_iff_not, ite_not, if_true, if_false, eq_self]
theorem call_102 (xs : List (List Int)) (hb : xs.length < 1000000000000000000) (hc : ∀ x ∈ xs, x.length < 1000000000000000000) (k : Nat) : callOf pr 102 [I k, .rp [LL xs]] [] = some (B (isOut xs k), []) := by
  have h := call_103 xs hb (fun l => l.any fun x => decide ((k : Int) = x)) 104 [.rp [I k]] ⟨rfl, of_decide_eq_true rfl⟩ rfl (fun l hl => call_104 k l (hc l hl))
  rw [call_eq pr 102 _ _ Try.f102 fn_102 _ rfl _ ann_102 rfl]
  simp -implicitDefEqProofs only [h, go_sem, Nat.reduceAdd, Nat.reduceSub, Nat.reduceMul, Nat.reduceMod, Nat.reduceLT, Nat.reduceLeDiff, Nat.reduceEqDiff, Nat.reduceBEq, Nat.reduceDiv, Int.reduceLT, Int.reduceLE, Int.reduceToNat, Int.reduceNeg, Int.reduceEq, ↓reduceIte, reduceCtorEq, ↓reduceDIte, Bool.false_eq_true, Bool.true_eq_false, ne_eq, not_true_eq_false, not_false_eq_true, Bool.true_or, Bool.false_or, Bool.or_true, Bool.or_false, Bool.true_and, Bool.false_and, Bool.and_true, Bool.and_false, Bool.not_true, Bool.not_false, Bool.not_eq_false', Bool.not_eq_true', and_true, true_and, and_false, false_and, or_true, true_or, or_false, false_or, and_self, or_self, decide_eq_true_eq, decide_true, decide_false, decide_eq_false_iff_not, ite_not, if_true, if_false, eq_self]
  rfl
theorem call_61 (xs : List (List Int)) (hb : xs.length < 2000000) (h0 : 0 < xs.length) (hc : ∀ x ∈ xs, x.length < 1000000000000000000) : callOf pr 61 [.agg [LL xs]] [] = some (.os (.t 320), [(320, .arr true false (.int .i64) (those (isOut xs) xs.length))]) := by
  have h := call_100 xs hb h0 (isOut xs) 102 [.rp [LL xs]] ⟨rfl, of_decide_eq_true rfl⟩ (of_decide_eq_true rfl) rfl (fun k hk => call_102 xs (by omega) hc k)
  rw [call_eq pr 61 _ _ Try.f61 fn_61 _ rfl _ ann_61 rfl]
  simp -implicitDefEqProofs only [h, go_sem, Nat.reduceAdd, Nat.reduceSub, Nat.reduceMul, Nat.reduceMod, Nat.reduceLT, Nat.reduceLeDiff, Nat.reduceEqDiff, Nat.reduceBEq, Nat.reduceDiv, Int.reduceLT, Int.reduceLE, Int.reduceToNat, Int.reduceNeg, Int.reduceEq, ↓reduceIte, reduceCtorEq, ↓reduceDIte, Bool.false_eq_true, Bool.true_eq_false, ne_eq, not_true_eq_false, not_false_eq_true, Bool.true_or, Bool.false_or, Bool.or_true, Bool.or_false, Bool.true_and, Bool.false_and, Bool.and_true, Bool.and_false, Bool.not_true, Bool.not_false, Bool.not_eq_false', Bool.not_eq_true', and_true, true_and, and_false, false_and, or_true, true_or, or_false, false_or, and_self, or_self, decide_eq_true_eq, decide_true, decide_false, decide_eq_false_iff_not, ite_not, if_true, if_false, eq_self]
/-- How many bits. -/
def kern : Nat → Nat → Option Nat
  | 0, _ => none
  | n + 1, m => if m = 0 then some 0 else (kern n (m &&& (m - 1))).map (· + 1)
theorem loop_114 : ∀ (n m c r : Nat), m < 2 ^ 62 → kern n m = some r → c + r < 1000000 →
    loopOf pr 114 0 ⟨[(0, I m), (3, I c)], []⟩ = some (.exit 0, ⟨[(0, I 0), (3, I ((c + r : Nat) : Int))], []⟩)
  | 0, _, _, _, _, h, _ => by simp [kern] at h
  | n + 1, m, c, r, hm, h, hc => by
    simp only [kern] at h
    by_cases h0 : m = 0
    · rw [if_pos h0] at h
      cases h
      subst h0
      rw [loop_eq pr 114 0 _ Try.f114 fn_114 _ rfl _ ann_114 _ rfl]
      simp -implicitDefEqProofs only [Int.natCast_zero, Int.lt_irrefl, Nat.add_zero, go_sem, Nat.reduceAdd, Nat.reduceSub, Nat.reduceMul, Nat.reduceMod, Nat.reduceLT, Nat.reduceLeDiff, Nat.reduceEqDiff, Nat.reduceBEq, Nat.reduceDiv, Int.reduceLT, Int.reduceLE, Int.reduceToNat, Int.reduceNeg, Int.reduceEq, ↓reduceIte, reduceCtorEq, ↓reduceDIte, Bool.false_eq_true, Bool.true_eq_false, ne_eq, not_true_eq_false, not_false_eq_true, Bool.true_or, Bool.false_or, Bool.or_true, Bool.or_false, Bool.true_and, Bool.false_and, Bool.and_true, Bool.and_false, Bool.not_true, Bool.not_false, Bool.not_eq_false', Bool.not_eq_true', and_true, true_and, and_false, false_and, or_true, true_or, or_false, false_or, and_self, or_self, decide_eq_true_eq, decide_true, decide_false, decide_eq_false_iff_not, ite_not, if_true, if_false, eq_self]
    · rw [if_neg h0, Option.map_eq_some_iff] at h
      obtain ⟨q, hq, rfl⟩ := h
      have hlt : m &&& (m - 1) ≤ m := Nat.and_le_left
      have ih := loop_114 n (m &&& (m - 1)) (c + 1) q (by omega) hq (by omega)
      have e1 : c + 1 + q = c + (q + 1) := by omega
      rw [e1] at ih
      have hw : IntKind.i64.wrap ((c : Int) + 1) = ((c + 1 : Nat) : Int) := by rw [wrap_i] <;> omega
      have hw2 : IntKind.i64.wrap ((m : Int) - 1) = ((m - 1 : Nat) : Int) := by rw [wrap_i] <;> omega
      have hand := bits_and (a := m) (b := m - 1) (by omega) (by omega)
      rw [loop_eq pr 114 0 _ Try.f114 fn_114 _ rfl _ ann_114 _ rfl]
      simp -implicitDefEqProofs only [tr (show (0 : Int) < (m : Int) by omega), hw, hw2, hand, go_sem, Nat.reduceAdd, Nat.reduceSub, Nat.reduceMul, Nat.reduceMod, Nat.reduceLT, Nat.reduceLeDiff, Nat.reduceEqDiff, Nat.reduceBEq, Nat.reduceDiv, Int.reduceLT, Int.reduceLE, Int.reduceToNat, Int.reduceNeg, Int.reduceEq, ↓reduceIte, reduceCtorEq, ↓reduceDIte, Bool.false_eq_true, Bool.true_eq_false, ne_eq, not_true_eq_false, not_false_eq_true, Bool.true_or, Bool.false_or, Bool.or_true, Bool.or_false, Bool.true_and, Bool.false_and, Bool.and_true, Bool.and_false, Bool.not_true, Bool.not_false, Bool.not_eq_false', Bool.not_eq_true', and_true, true_and, and_false, false_and, or_true, true_or, or_false, false_or, and_self, or_self, decide_eq_true_eq, decide_true, decide_false, decide_eq_false_iff_not, ite_not, if_true, if_false, eq_self]
      exact ih
theorem kern_all : ∀ m, m < 64 → kern 8 m = some (those m.testBit 6).length := by decide
theorem call_114 (m : Nat) (hm : m < 64) : callOf pr 114 [I m] [] = some (I (those m.testBit 6).length, []) := by
  have hl := those_length m.testBit 6
  have h := loop_114 8 m 0 _ (by omega) (kern_all m hm) (by omega)
  rw [Nat.zero_add] at h
  have h : loopOf pr 114 0 ⟨[(0, I m), (3, I 0)], []⟩ = _ := h
  rw [call_eq pr 114 _ _ Try.f114 fn_114 _ rfl _ ann_114 rfl]
  simp -implicitDefEqProofs only [h, go_sem, Nat.reduceAdd, Nat.reduceSub, Nat.reduceMul, Nat.reduceMod, Nat.reduceLT, Nat.reduceLeDiff, Nat.reduceEqDiff, Nat.reduceBEq, Nat.reduceDiv, Int.reduceLT, Int.reduceLE, Int.reduceToNat, Int.reduceNeg, Int.reduceEq, ↓reduceIte, reduceCtorEq, ↓reduceDIte, Bool.false_eq_true, Bool.true_eq_false, ne_eq, not_true_eq_false, not_false_eq_true, Bool.true_or, Bool.false_or, Bool.or_true, Bool.or_false, Bool.true_and, Bool.false_and, Bool.and_true, Bool.and_false, Bool.not_true, Bool.not_false, Bool.not_eq_false', Bool.not_eq_true', and_true, true_and, and_false, false_and, or_true, true_or, or_false, false_or, and_self, or_self, decide_eq_true_eq, decide_true, decide_false, decide_eq_false_iff_not, ite_not, if_true, if_false, eq_self]

theorem mask_six {f : Nat → Bool} {n : Nat} (hn : n ≤ 6) : maskB f n < 64 := by
  have h1 : (2 : Nat) ^ n ≤ 2 ^ 6 := Nat.pow_le_pow_right (by omega) hn
  have h2 := maskB_lt f n
  omega
/-- A mask of numbers. -/
def maskL (m : Nat) (xs : List Int) : Nat := xs.foldl (fun m x => m ||| 2 ^ x.toNat) m
theorem maskL_lt (xs : List Int) (h : ∀ x ∈ xs, x.toNat < 62) : ∀ m, m < 2 ^ 62 → maskL m xs < 2 ^ 62 := by
  induction xs with
  | nil => exact fun m hm => hm
  | cons x xs ih =>
    intro m hm
    exact ih (fun y hy => h y (by simp [hy])) _ (Nat.or_lt_two_pow hm (Nat.pow_lt_pow_right (by omega) (h x (by simp))))
theorem maskL_those (f : Nat → Bool) (n : Nat) : maskL 0 (those f n) = maskB f n := by
  induction n with
  | zero => rfl
  | succ n ih =>
    rw [those_succ]
    simp only [maskB]
    split
    · unfold maskL at ih ⊢
      rw [List.foldl_append, ih]
      simp
    · exact ih
theorem loop_62 (xs : List Int) (hb : xs.length < 1000000000000000000) (hx : ∀ x ∈ xs, 0 ≤ x ∧ x < 62) : ∀ (suf pre : List Int) (m : Nat), xs = pre ++ suf → m < 2 ^ 62 →
    loopOf pr 62 0 ⟨[(3, I m), (6, L xs), (7, I xs.length), (8, I pre.length)], []⟩ = some (.exit 0, ⟨[(3, I (maskL m suf)), (6, L xs), (7, I xs.length), (8, I xs.length)], []⟩)
  | [], pre, m, h, _ => by
    have hl : xs.length = pre.length := by rw [h]; simp
    rw [loop_eq pr 62 0 _ Try.f62 fn_62 _ rfl _ ann_62 _ rfl]
    simp -implicitDefEqProofs only [hl, Int.lt_irrefl, go_sem, Nat.reduceAdd, Nat.reduceSub, Nat.reduceMul, Nat.reduceMod, Nat.reduceLT, Nat.reduceLeDiff, Nat.reduceEqDiff, Nat.reduceBEq, Nat.reduceDiv, Int.reduceLT, Int.reduceLE, Int.reduceToNat, Int.reduceNeg, Int.reduceEq, ↓reduceIte, reduceCtorEq, ↓reduceDIte, Bool.false_eq_true, Bool.true_eq_false, ne_eq, not_true_eq_false, not_false_eq_true, Bool.true_or, Bool.false_or, Bool.or_true, Bool.or_false, Bool.true_and, Bool.false_and, Bool.and_true, Bool.and_false, Bool.not_true, Bool.not_false, Bool.not_eq_false', Bool.not_eq_true', and_true, true_and, and_false, false_and, or_true, true_or, or_false, false_or, and_self, or_self, decide_eq_true_eq, decide_true, decide_false, decide_eq_false_iff_not, ite_not, if_true, if_false, eq_self]
    rfl
  | x :: suf, pre, m, h, hm => by
    have hl : xs.length = pre.length + (suf.length + 1) := by rw [h]; simp
    have hlt : pre.length < xs.length := by omega
    obtain ⟨h1, h2⟩ := hx x (by rw [h]; simp)
    obtain ⟨y, rfl⟩ : ∃ y : Nat, x = (y : Int) := ⟨x.toNat, by omega⟩
    have hy : y < 62 := by omega
    have hy2 : (2 : Nat) ^ y < 2 ^ 62 := Nat.pow_lt_pow_right (by omega) hy
    have hg : xs.getD pre.length 0 = (y : Int) := by rw [h]; simp
    have ih := loop_62 xs hb hx suf (pre ++ [(y : Int)]) (m ||| 2 ^ y) (by rw [h]; simp) (Nat.or_lt_two_pow hm hy2)
    have e1 : (pre ++ [(y : Int)]).length = pre.length + 1 := by simp
    have e2 : maskL (m ||| 2 ^ y) suf = maskL m ((y : Int) :: suf) := rfl
    rw [e1, e2] at ih
    have hor := bits_or (a := m) (b := 2 ^ y) (by omega) (by omega)
    rw [loop_eq pr 62 0 _ Try.f62 fn_62 _ rfl _ ann_62 _ rfl]
    simp -implicitDefEqProofs only [lt_cast hlt, zero_le_cast, Int.toNat_natCast, hg, wrap_succ hlt hb, cast_neg, min_64 (show y < 64 by omega), i64_pow (show y < 62 by omega), hor, IntKind.bits, go_sem, Nat.reduceAdd, Nat.reduceSub, Nat.reduceMul, Nat.reduceMod, Nat.reduceLT, Nat.reduceLeDiff, Nat.reduceEqDiff, Nat.reduceBEq, Nat.reduceDiv, Int.reduceLT, Int.reduceLE, Int.reduceToNat, Int.reduceNeg, Int.reduceEq, ↓reduceIte, reduceCtorEq, ↓reduceDIte, Bool.false_eq_true, Bool.true_eq_false, ne_eq, not_true_eq_false, not_false_eq_true, Bool.true_or, Bool.false_or, Bool.or_true, Bool.or_false, Bool.true_and, Bool.false_and, Bool.and_true, Bool.and_false, Bool.not_true, Bool.not_false, Bool.not_eq_false', Bool.not_eq_true', and_true, true_and, and_false, false_and, or_true, true_or, or_false, false_or, and_self, or_self, decide_eq_true_eq, decide_true, decide_false, decide_eq_false_iff_not, ite_not, if_true, if_false, eq_self]
    exact ih
theorem call_62 (f : Nat → Bool) (n : Nat) (hn : n ≤ 6) : callOf pr 62 [L (those f n)] [] = some (I (maskB f n), []) := by
  have hl := those_length f n
  have h := loop_62 (those f n) (by omega) (fun x hx => by
    obtain ⟨k, rfl, hk⟩ := those_mem hx
    omega) (those f n) [] 0 rfl (by omega)
  rw [maskL_those] at h
  have h : loopOf pr 62 0 ⟨[(3, I 0), (6, L (those f n)), (7, I (those f n).length), (8, I 0)], []⟩ = _ := h
  rw [call_eq pr 62 _ _ Try.f62 fn_62 _ rfl _ ann_62 rfl]
  simp -implicitDefEqProofs only [h, go_sem, Nat.reduceAdd, Nat.reduceSub, Nat.reduceMul, Nat.reduceMod, Nat.reduceLT, Nat.reduceLeDiff, Nat.reduceEqDiff, Nat.reduceBEq, Nat.reduceDiv, Int.reduceLT, Int.reduceLE, Int.reduceToNat, Int.reduceNeg, Int.reduceEq, ↓reduceIte, reduceCtorEq, ↓reduceDIte, Bool.false_eq_true, Bool.true_eq_false, ne_eq, not_true_eq_false, not_false_eq_true, Bool.true_or, Bool.false_or, Bool.or_true, Bool.or_false, Bool.true_and, Bool.false_and, Bool.and_true, Bool.and_false, Bool.not_true, Bool.not_false, Bool.not_eq_false', Bool.not_eq_true', and_true, true_and, and_false, false_and, or_true, true_or, or_false, false_or, and_self, or_self, decide_eq_true_eq, decide_true, decide_false, decide_eq_false_iff_not, ite_not, if_true, if_false, eq_self]
theorem call_63 (xs : List Int) : callOf pr 63 [L xs] [] = some (I xs.length, []) := by
  rw [call_eq pr 63 _ _ Try.f63 fn_63 _ rfl _ ann_63 rfl]
  simp -implicitDefEqProofs only [go_sem, Nat.reduceAdd, Nat.reduceSub, Nat.reduceMul, Nat.reduceMod, Nat.reduceLT, Nat.reduceLeDiff, Nat.reduceEqDiff, Nat.reduceBEq, Nat.reduceDiv, Int.reduceLT, Int.reduceLE, Int.reduceToNat, Int.reduceNeg, Int.reduceEq, ↓reduceIte, reduceCtorEq, ↓reduceDIte, Bool.false_eq_true, Bool.true_eq_false, ne_eq, not_true_eq_false, not_false_eq_true, Bool.true_or, Bool.false_or, Bool.or_true, Bool.or_false, Bool.true_and, Bool.false_and, Bool.and_true, Bool.and_false, Bool.not_true, Bool.not_false, Bool.not_eq_false', Bool.not_eq_true', and_true, true_and, and_false, false_and, or_true, true_or, or_false, false_or, and_self, or_self, decide_eq_true_eq, decide_true, decide_false, decide_eq_false_iff_not, ite_not, if_true, if_false, eq_self]
theorem call_108 (m k : Nat) (hm : m < 64) (hk : k < 6) : callOf pr 108 [I k, .rp [I m]] [] = some (B (!m.testBit k), []) := by
  have hb := bit_is (a := m) (k := k) (by omega)
  rw [call_eq pr 108 _ _ Try.f108 fn_108 _ rfl _ ann_108 rfl]
  cases ht : m.testBit k with
  | true =>
    rw [ht, if_pos rfl] at hb
    simp -implicitDefEqProofs only [cast_neg, Int.toNat_natCast, min_64 (show k < 64 by omega), hb, IntKind.bits, go_sem, Nat.reduceAdd, Nat.reduceSub, Nat.reduceMul, Nat.reduceMod, Nat.reduceLT, Nat.reduceLeDiff, Nat.reduceEqDiff, Nat.reduceBEq, Nat.reduceDiv, Int.reduceLT, Int.reduceLE, Int.reduceToNat, Int.reduceNeg, Int.reduceEq, ↓reduceIte, reduceCtorEq, ↓reduceDIte, Bool.false_eq_true, Bool.true_eq_false, ne_eq, not_true_eq_false, not_false_eq_true, Bool.true_or, Bool.false_or, Bool.or_true, Bool.or_false, Bool.true_and, Bool.false_and, Bool.and_true, Bool.and_false, Bool.not_true, Bool.not_false, Bool.not_eq_false', Bool.not_eq_true', and_true, true_and, and_false, false_and, or_true, true_or, or_false, false_or, and_self, or_self, decide_eq_true_eq, decide_true, decide_false, decide_eq_false_iff_not, ite_not, if_true, if_false, eq_self]
  | false =>
    rw [ht, if_neg (by simp)] at hb
    simp -implicitDefEqProofs only [cast_neg, Int.toNat_natCast, min_64 (show k < 64 by omega), hb, IntKind.bits, go_sem, Nat.reduceAdd, Nat.reduceSub, Nat.reduceMul, Nat.reduceMod, Nat.reduceLT, Nat.reduceLeDiff, Nat.reduceEqDiff, Nat.reduceBEq, Nat.reduceDiv, Int.reduceLT, Int.reduceLE, Int.reduceToNat, Int.reduceNeg, Int.reduceEq, ↓reduceIte, reduceCtorEq, ↓reduceDIte, Bool.false_eq_true, Bool.true_eq_false, ne_eq, not_true_eq_false, not_false_eq_true, Bool.true_or, Bool.false_or, Bool.or_true, Bool.or_false, Bool.true_and, Bool.false_and, Bool.and_true, Bool.and_false, Bool.not_true, Bool.not_false, Bool.not_eq_false', Bool.not_eq_true', and_true, true_and, and_false, false_and, or_true, true_or, or_false, false_or, and_self, or_self, decide_eq_true_eq, decide_true, decide_false, decide_eq_false_iff_not, ite_not, if_true, if_false, eq_self]
theorem call_64 (m : Nat) (hm : m < 64) : callOf pr 64 [I m] [] = some (.os (.t 192), [(192, .arr true false (.int .i64) (those m.testBit 6))]) := by
  have h75 := call_106 (fun x => !m.testBit x.toNat) 108 [.rp [I m]] ⟨rfl, of_decide_eq_true rfl⟩ rfl (those (fun _ => true) 6) (by rw [those_full_length]; omega) (fun x hx => by
    obtain ⟨k, rfl, hk⟩ := those_mem hx
    exact call_108 m k hm hk)
  have hfil : ((those (fun _ => true) 6).filter fun x => !!m.testBit x.toNat) = those m.testBit 6 := those_all m.testBit _ _ (fun k _ => by simp)
  have h76 := call_107 6 (by omega)
  have h76 : callOf pr 107 [I 6] [] = _ := h76
  rw [hfil] at h75
  rw [call_eq pr 64 _ _ Try.f64 fn_64 _ rfl _ ann_64 rfl]
  by_cases ha : (those (fun _ => true) 6).any (fun x => !m.testBit x.toNat) = true
  · rw [if_pos ha] at h75
    have h1 : 0 + (those m.testBit 6).length ≤ (those m.testBit 6 ++ List.replicate ((those (fun _ => true) 6).length - (those m.testBit 6).length) 0).length := by rw [List.length_append]; omega
    have h2 : 0 < (those m.testBit 6 ++ List.replicate ((those (fun _ => true) 6).length - (those m.testBit 6).length) (0 : Int)).length := by
      have := those_length m.testBit 6
      rw [List.length_append, List.length_replicate, those_full_length]; omega
    simp -implicitDefEqProofs only [h76, h75, tr h1, tr h2, List.take_left, go_sem, Nat.reduceAdd, Nat.reduceSub, Nat.reduceMul, Nat.reduceMod, Nat.reduceLT, Nat.reduceLeDiff, Nat.reduceEqDiff, Nat.reduceBEq, Nat.reduceDiv, Int.reduceLT, Int.reduceLE, Int.reduceToNat, Int.reduceNeg, Int.reduceEq, ↓reduceIte, reduceCtorEq, ↓reduceDIte, Bool.false_eq_true, Bool.true_eq_false, ne_eq, not_true_eq_false, not_false_eq_true, Bool.true_or, Bool.false_or, Bool.or_true, Bool.or_false, Bool.true_and, Bool.false_and, Bool.and_true, Bool.and_false, Bool.not_true, Bool.not_false, Bool.not_eq_false', Bool.not_eq_true', and_true, true_and, and_false, false_and, or_true, true_or, or_false, false_or, and_self, or_self, decide_eq_true_eq, decide_true, decide_false, decide_eq_false_iff_not, ite_not, if_true, if_false, eq_self]
  · rw [if_neg ha] at h75
    have he : those (fun _ => true) 6 = those m.testBit 6 := by
      apply those_congr
      intro k hk
      have h3 : ∀ x ∈ those (fun _ => true) 6, m.testBit x.toNat = true := by
        intro x hx
        by_cases h4 : m.testBit x.toNat = true
        · exact h4
        · exact absurd (List.any_eq_true.2 ⟨x, hx, by simp [h4]⟩) ha
      have := h3 k (by unfold those; rw [List.mem_map]; exact ⟨k, by simp [hk], rfl⟩)
      simpa using this.symm
    rw [he] at h75 h76
    simp -implicitDefEqProofs only [h76, h75, go_sem, Nat.reduceAdd, Nat.reduceSub, Nat.reduceMul, Nat.reduceMod, Nat.reduceLT, Nat.reduceLeDiff, Nat.reduceEqDiff, Nat.reduceBEq, Nat.reduceDiv, Int.reduceLT, Int.reduceLE, Int.reduceToNat, Int.reduceNeg, Int.reduceEq, ↓reduceIte, reduceCtorEq, ↓reduceDIte, Bool.false_eq_true, Bool.true_eq_false, ne_eq, not_true_eq_false, not_false_eq_true, Bool.true_or, Bool.false_or, Bool.or_true, Bool.or_false, Bool.true_and, Bool.false_and, Bool.and_true, Bool.and_false, Bool.not_true, Bool.not_false, Bool.not_eq_false', Bool.not_eq_true', and_true, true_and, and_false, false_and, or_true, true_or, or_false, false_or, and_self, or_self, decide_eq_true_eq, decide_true, decide_false, decide_eq_false_iff_not, ite_not, if_true, if_false, eq_self]
end Go.Proofs.Ythhankjdpbbncaa.PI
