/- Graphs: the program's judgement. -/
import Derived.Test.YthhankjdpbbncaaG1
namespace Go.Proofs.Ythhankjdpbbncaa.PI
open Go Go.Q
set_option maxRecDepth 100000
set_option maxHeartbeats 4000000
set_option linter.unusedSimpArgs false
set_option linter.unusedVariables false

theorem call_96 (n lo hi : Int) : callOf pr 96 [I n, I lo, I hi] [] = some (B (decide (lo ≤ n ∧ n ≤ hi)), []) := by
  rw [call_eq pr 96 _ _ Try.f96 fn_96 _ rfl _ ann_96 rfl]
  simp -implicitDefEqProofs only [go_sem, Nat.reduceAdd, Nat.reduceSub, Nat.reduceMul, Nat.reduceMod, Nat.reduceLT, Nat.reduceLeDiff, Nat.reduceEqDiff, Nat.reduceBEq, Nat.reduceDiv, Int.reduceLT, Int.reduceLE, Int.reduceToNat, Int.reduceNeg, Int.reduceEq, ↓reduceIte, reduceCtorEq, ↓reduceDIte, Bool.false_eq_true, Bool.true_eq_false, ne_eq, not_true_eq_false, not_false_eq_true, Bool.true_or, Bool.false_or, Bool.or_true, Bool.or_false, Bool.true_and, Bool.false_and, Bool.and_true, Bool.and_false, Bool.not_true, Bool.not_false, Bool.not_eq_false', Bool.not_eq_true', and_true, true_and, and_false, false_and, or_true, true_or, or_false, false_or, and_self, or_self, decide_eq_true_eq, decide_true, decide_false, decide_eq_false_iff_not, ite_not, if_true, if_false, eq_self]
  by_cases h : lo ≤ n
  · simp [h]
  · simp [h]

theorem call_97 (xs : List (List Int)) : callOf pr 97 [LL xs] [] = some (I xs.length, []) := by
  rw [call_eq pr 97 _ _ Try.f97 fn_97 _ rfl _ ann_97 rfl]
  simp -implicitDefEqProofs only [go_sem, Nat.reduceAdd, Nat.reduceSub, Nat.reduceMul, Nat.reduceMod, Nat.reduceLT, Nat.reduceLeDiff, Nat.reduceEqDiff, Nat.reduceBEq, Nat.reduceDiv, Int.reduceLT, Int.reduceLE, Int.reduceToNat, Int.reduceNeg, Int.reduceEq, ↓reduceIte, reduceCtorEq, ↓reduceDIte, Bool.false_eq_true, Bool.true_eq_false, ne_eq, not_true_eq_false, not_false_eq_true, Bool.true_or, Bool.false_or, Bool.or_true, Bool.or_false, Bool.true_and, Bool.false_and, Bool.and_true, Bool.and_false, Bool.not_true, Bool.not_false, Bool.not_eq_false', Bool.not_eq_true', and_true, true_and, and_false, false_and, or_true, true_or, or_false, false_or, and_self, or_self, decide_eq_true_eq, decide_true, decide_false, decide_eq_false_iff_not, ite_not, if_true, if_false, eq_self]

theorem call_124 (n lo hi : Int) : callOf pr 124 [I n, .rp [I lo], .rp [I hi]] [] = some (B (!decide (lo ≤ n ∧ n ≤ hi)), []) := by
  rw [call_eq pr 124 _ _ Try.f124 fn_124 _ rfl _ ann_124 rfl]
  simp -implicitDefEqProofs only [call_96, go_sem, Nat.reduceAdd, Nat.reduceSub, Nat.reduceMul, Nat.reduceMod, Nat.reduceLT, Nat.reduceLeDiff, Nat.reduceEqDiff, Nat.reduceBEq, Nat.reduceDiv, Int.reduceLT, Int.reduceLE, Int.reduceToNat, Int.reduceNeg, Int.reduceEq, ↓reduceIte, reduceCtorEq, ↓reduceDIte, Bool.false_eq_true, Bool.true_eq_false, ne_eq, not_true_eq_false, not_false_eq_true, Bool.true_or, Bool.false_or, Bool.or_true, Bool.or_false, Bool.true_and, Bool.false_and, Bool.and_true, Bool.and_false, Bool.not_true, Bool.not_false, Bool.not_eq_false', Bool.not_eq_true', and_true, true_and, and_false, false_and, or_true, true_or, or_false, false_or, and_self, or_self, decide_eq_true_eq, decide_true, decide_false, decide_eq_false_iff_not, ite_not, if_true, if_false, eq_self]

theorem loop_128 (xs : List Int) (hb : xs.length < 1000000000000000000) (p : Int → Bool) (g : Nat) (cs : List AV) (hC : Caps cs) (hg : pr.byref g = []) (hp : ∀ x ∈ xs, callOf pr g (I x :: cs) [] = some (B (p x), [])) : ∀ (n k : Nat), k + n = xs.length →
    loopOf pr 128 0 ⟨[(0, L xs), (1, .fn g cs), (7, I xs.length), (8, I k)], []⟩ = match (xs.drop k).findIdx? p with
    | some i => some (.ret, ⟨[(4, I ((k + i : Nat) : Int))], []⟩)
    | none => some (.exit 0, ⟨[(0, L xs), (1, .fn g cs), (7, I xs.length), (8, I xs.length)], []⟩)
  | 0, k, h => by
    have : k = xs.length := by omega
    subst this
    rw [List.drop_of_length_le (Nat.le_refl _), loop_eq pr 128 0 _ Try.f128 fn_128 _ rfl _ ann_128 _ rfl]
    simp -implicitDefEqProofs only [Int.lt_irrefl, List.findIdx?_nil, go_sem, Nat.reduceAdd, Nat.reduceSub, Nat.reduceMul, Nat.reduceMod, Nat.reduceLT, Nat.reduceLeDiff, Nat.reduceEqDiff, Nat.reduceBEq, Nat.reduceDiv, Int.reduceLT, Int.reduceLE, Int.reduceToNat, Int.reduceNeg, Int.reduceEq, ↓reduceIte, reduceCtorEq, ↓reduceDIte, Bool.false_eq_true, Bool.true_eq_false, ne_eq, not_true_eq_false, not_false_eq_true, Bool.true_or, Bool.false_or, Bool.or_true, Bool.or_false, Bool.true_and, Bool.false_and, Bool.and_true, Bool.and_false, Bool.not_true, Bool.not_false, Bool.not_eq_false', Bool.not_eq_true', and_true, true_and, and_false, false_and, or_true, true_or, or_false, false_or, and_self, or_self, decide_eq_true_eq, decide_true, decide_false, decide_eq_false_iff_not, ite_not, if_true, if_false, eq_self]
  | n + 1, k, h => by
    have hlt : k < xs.length := by omega
    have ih := loop_128 xs hb p g cs hC hg hp n (k + 1) (by omega)
    have hpk : callOf pr g (I (xs.getD k 0) :: cs) [] = some (B (p (xs.getD k 0)), []) := hp _ (by rw [getD_of_lt hlt]; exact List.getElem_mem hlt)
    rw [List.drop_eq_getElem_cons hlt, List.findIdx?_cons, loop_eq pr 128 0 _ Try.f128 fn_128 _ rfl _ ann_128 _ rfl]
    rw [← getD_of_lt hlt 0]
    cases hq : p (xs.getD k 0) with
    | true =>
      simp -implicitDefEqProofs only [lt_cast hlt, zero_le_cast, Int.toNat_natCast, wrap_succ hlt hb, hC.args, hC.own, hC.ow, hC.arg, hC.mapR, hC.leads, hg, hpk, hq, go_sem, Nat.reduceAdd, Nat.reduceSub, Nat.reduceMul, Nat.reduceMod, Nat.reduceLT, Nat.reduceLeDiff, Nat.reduceEqDiff, Nat.reduceBEq, Nat.reduceDiv, Int.reduceLT, Int.reduceLE, Int.reduceToNat, Int.reduceNeg, Int.reduceEq, ↓reduceIte, reduceCtorEq, ↓reduceDIte, Bool.false_eq_true, Bool.true_eq_false, ne_eq, not_true_eq_false, not_false_eq_true, Bool.true_or, Bool.false_or, Bool.or_true, Bool.or_false, Bool.true_and, Bool.false_and, Bool.and_true, Bool.and_false, Bool.not_true, Bool.not_false, Bool.not_eq_false', Bool.not_eq_true', and_true, true_and, and_false, false_and, or_true, true_or, or_false, false_or, and_self, or_self, decide_eq_true_eq, decide_true, decide_false, decide_eq_false_iff_not, ite_not, if_true, if_false, eq_self]
      rfl
    | false =>
      simp -implicitDefEqProofs only [lt_cast hlt, zero_le_cast, Int.toNat_natCast, wrap_succ hlt hb, hC.args, hC.own, hC.ow, hC.arg, hC.mapR, hC.leads, hg, hpk, hq, go_sem, Nat.reduceAdd, Nat.reduceSub, Nat.reduceMul, Nat.reduceMod, Nat.reduceLT, Nat.reduceLeDiff, Nat.reduceEqDiff, Nat.reduceBEq, Nat.reduceDiv, Int.reduceLT, Int.reduceLE, Int.reduceToNat, Int.reduceNeg, Int.reduceEq, ↓reduceIte, reduceCtorEq, ↓reduceDIte, Bool.false_eq_true, Bool.true_eq_false, ne_eq, not_true_eq_false, not_false_eq_true, Bool.true_or, Bool.false_or, Bool.or_true, Bool.or_false, Bool.true_and, Bool.false_and, Bool.and_true, Bool.and_false, Bool.not_true, Bool.not_false, Bool.not_eq_false', Bool.not_eq_true', and_true, true_and, and_false, false_and, or_true, true_or, or_false, false_or, and_self, or_self, decide_eq_true_eq, decide_true, decide_false, decide_eq_false_iff_not, ite_not, if_true, if_false, eq_self]
      rw [ih]
      cases List.findIdx? p (List.drop (k + 1) xs) with
      | none => rfl
      | some i => simp only [Option.map_some]; rw [show k + 1 + i = k + (i + 1) from by omega]

theorem call_128 (xs : List Int) (hb : xs.length < 1000000000000000000) (p : Int → Bool) (g : Nat) (cs : List AV) (hC : Caps cs) (hg : pr.byref g = []) (hp : ∀ x ∈ xs, callOf pr g (I x :: cs) [] = some (B (p x), [])) :
    callOf pr 128 [L xs, .fn g cs] [] = some (I (match xs.findIdx? p with | some i => (i : Int) | none => -1), []) := by
  have h : loopOf pr 128 0 ⟨[(0, L xs), (1, .fn g cs), (7, I xs.length), (8, I 0)], []⟩ = _ := loop_128 xs hb p g cs hC hg hp xs.length 0 (by omega)
  rw [call_eq pr 128 _ _ Try.f128 fn_128 _ rfl _ ann_128 rfl]
  rw [List.drop_zero] at h
  cases hf : xs.findIdx? p with
  | none =>
    rw [hf] at h
    simp -implicitDefEqProofs only [h, go_sem, Nat.reduceAdd, Nat.reduceSub, Nat.reduceMul, Nat.reduceMod, Nat.reduceLT, Nat.reduceLeDiff, Nat.reduceEqDiff, Nat.reduceBEq, Nat.reduceDiv, Int.reduceLT, Int.reduceLE, Int.reduceToNat, Int.reduceNeg, Int.reduceEq, ↓reduceIte, reduceCtorEq, ↓reduceDIte, Bool.false_eq_true, Bool.true_eq_false, ne_eq, not_true_eq_false, not_false_eq_true, Bool.true_or, Bool.false_or, Bool.or_true, Bool.or_false, Bool.true_and, Bool.false_and, Bool.and_true, Bool.and_false, Bool.not_true, Bool.not_false, Bool.not_eq_false', Bool.not_eq_true', and_true, true_and, and_false, false_and, or_true, true_or, or_false, false_or, and_self, or_self, decide_eq_true_eq, decide_true, decide_false, decide_eq_false_iff_not, ite_not, if_true, if_false, eq_self]
  | some i =>
    rw [hf] at h
    simp only [Nat.zero_add] at h
    simp -implicitDefEqProofs only [h, go_sem, Nat.reduceAdd, Nat.reduceSub, Nat.reduceMul, Nat.reduceMod, Nat.reduceLT, Nat.reduceLeDiff, Nat.reduceEqDiff, Nat.reduceBEq, Nat.reduceDiv, Int.reduceLT, Int.reduceLE, Int.reduceToNat, Int.reduceNeg, Int.reduceEq, ↓reduceIte, reduceCtorEq, ↓reduceDIte, Bool.false_eq_true, Bool.true_eq_false, ne_eq, not_true_eq_false, not_false_eq_true, Bool.true_or, Bool.false_or, Bool.or_true, Bool.or_false, Bool.true_and, Bool.false_and, Bool.and_true, Bool.and_false, Bool.not_true, Bool.not_false, Bool.not_eq_false', Bool.not_eq_true', and_true, true_and, and_false, false_and, or_true, true_or, or_false, false_or, and_self, or_self, decide_eq_true_eq, decide_true, decide_false, decide_eq_false_iff_not, ite_not, if_true, if_false, eq_self]

theorem call_123 (xs : List Int) (hb : xs.length < 1000000000000000000) (p : Int → Bool) (g : Nat) (cs : List AV) (hC : Caps cs) (hg : pr.byref g = []) (hp : ∀ x ∈ xs, callOf pr g (I x :: cs) [] = some (B (p x), [])) :
    callOf pr 123 [L xs, .fn g cs] [] = some (B (xs.any p), []) := by
  rw [call_eq pr 123 _ _ Try.f123 fn_123 _ rfl _ ann_123 rfl]
  cases hf : xs.findIdx? p with
  | none =>
    have hany : xs.any p = false := by
      rw [List.findIdx?_eq_none_iff] at hf
      simpa using hf
    simp -implicitDefEqProofs only [hC.args, hC.own, hC.ow, hC.arg, hC.mapR, hC.leads, hg, call_128 xs hb p g cs hC hg hp, hf, hany, go_sem, Nat.reduceAdd, Nat.reduceSub, Nat.reduceMul, Nat.reduceMod, Nat.reduceLT, Nat.reduceLeDiff, Nat.reduceEqDiff, Nat.reduceBEq, Nat.reduceDiv, Int.reduceLT, Int.reduceLE, Int.reduceToNat, Int.reduceNeg, Int.reduceEq, ↓reduceIte, reduceCtorEq, ↓reduceDIte, Bool.false_eq_true, Bool.true_eq_false, ne_eq, not_true_eq_false, not_false_eq_true, Bool.true_or, Bool.false_or, Bool.or_true, Bool.or_false, Bool.true_and, Bool.false_and, Bool.and_true, Bool.and_false, Bool.not_true, Bool.not_false, Bool.not_eq_false', Bool.not_eq_true', and_true, true_and, and_false, false_and, or_true, true_or, or_false, false_or, and_self, or_self, decide_eq_true_eq, decide_true, decide_false, decide_eq_false_iff_not, ite_not, if_true, if_false, eq_self]
  | some i =>
    have hany : xs.any p = true := by
      rw [List.findIdx?_eq_some_iff_getElem] at hf
      obtain ⟨h1, h2, _⟩ := hf
      exact List.any_eq_true.2 ⟨_, List.getElem_mem h1, h2⟩
    simp -implicitDefEqProofs only [hC.args, hC.own, hC.ow, hC.arg, hC.mapR, hC.leads, hg, call_128 xs hb p g cs hC hg hp, hf, hany, zero_le_cast, go_sem, Nat.reduceAdd, Nat.reduceSub, Nat.reduceMul, Nat.reduceMod, Nat.reduceLT, Nat.reduceLeDiff, Nat.reduceEqDiff, Nat.reduceBEq, Nat.reduceDiv, Int.reduceLT, Int.reduceLE, Int.reduceToNat, Int.reduceNeg, Int.reduceEq, ↓reduceIte, reduceCtorEq, ↓reduceDIte, Bool.false_eq_true, Bool.true_eq_false, ne_eq, not_true_eq_false, not_false_eq_true, Bool.true_or, Bool.false_or, Bool.or_true, Bool.or_false, Bool.true_and, Bool.false_and, Bool.and_true, Bool.and_false, Bool.not_true, Bool.not_false, Bool.not_eq_false', Bool.not_eq_true', and_true, true_and, and_false, false_and, or_true, true_or, or_false, false_or, and_self, or_self, decide_eq_true_eq, decide_true, decide_false, decide_eq_false_iff_not, ite_not, if_true, if_false, eq_self]

theorem call_98 (xs : List Int) (hb : xs.length < 1000000000000000000) (lo hi : Int) : callOf pr 98 [L xs, I lo, I hi] [] = some (B (!(xs.any fun n => !decide (lo ≤ n ∧ n ≤ hi))), []) := by
  have h := call_123 xs hb (fun n => !decide (lo ≤ n ∧ n ≤ hi)) 124 [.rp [I lo], .rp [I hi]] ⟨rfl, of_decide_eq_true rfl⟩ rfl (fun x _ => call_124 x lo hi)
  rw [call_eq pr 98 _ _ Try.f98 fn_98 _ rfl _ ann_98 rfl]
  simp -implicitDefEqProofs only [h, go_sem, Nat.reduceAdd, Nat.reduceSub, Nat.reduceMul, Nat.reduceMod, Nat.reduceLT, Nat.reduceLeDiff, Nat.reduceEqDiff, Nat.reduceBEq, Nat.reduceDiv, Int.reduceLT, Int.reduceLE, Int.reduceToNat, Int.reduceNeg, Int.reduceEq, ↓reduceIte, reduceCtorEq, ↓reduceDIte, Bool.false_eq_true, Bool.true_eq_false, ne_eq, not_true_eq_false, not_false_eq_true, Bool.true_or, Bool.false_or, Bool.or_true, Bool.or_false, Bool.true_and, Bool.false_and, Bool.and_true, Bool.and_false, Bool.not_true, Bool.not_false, Bool.not_eq_false', Bool.not_eq_true', and_true, true_and, and_false, false_and, or_true, true_or, or_false, false_or, and_self, or_self, decide_eq_true_eq, decide_true, decide_false, decide_eq_false_iff_not, ite_not, if_true, if_false, eq_self]
theorem all_step {n k : Nat} {Q : Nat → Prop} (hlt : k < n) : (∀ i, k ≤ i → i < n → Q i) ↔ Q k ∧ ∀ i, k + 1 ≤ i → i < n → Q i := by
  constructor
  · exact fun h => ⟨h k (Nat.le_refl _) hlt, fun i h1 h2 => h i (by omega) h2⟩
  · rintro ⟨h1, h2⟩ i h3 h4
    by_cases e : i = k
    · subst e; exact h1
    · exact h2 i (by omega) h4
theorem all_done {n k : Nat} {Q : Nat → Prop} (hlt : n ≤ k) : (∀ i, k ≤ i → i < n → Q i) ↔ True := ⟨fun _ => trivial, fun _ i h1 h2 => absurd h2 (by omega)⟩

theorem loop_99 (xs : List Int) (hb : xs.length < 1000000000000000000) : ∀ (n k : Nat), xs.length - k = n → 1 ≤ k →
    ((∀ i, k ≤ i → i < xs.length → xs.getD (i - 1) 0 < xs.getD i 0) → ∃ j : Int, loopOf pr 99 0 ⟨[(0, L xs), (3, I k)], []⟩ = some (.exit 0, ⟨[(0, L xs), (3, I j)], []⟩)) ∧
    ((¬ ∀ i, k ≤ i → i < xs.length → xs.getD (i - 1) 0 < xs.getD i 0) → loopOf pr 99 0 ⟨[(0, L xs), (3, I k)], []⟩ = some (.ret, ⟨[(2, B false)], []⟩))
  | 0, k, h, hk => by
    have hlt : ((k : Int) < (xs.length : Int)) = False := by simp; omega
    rw [all_done (by omega)]
    refine ⟨fun _ => ⟨k, ?_⟩, fun h => absurd trivial h⟩
    rw [loop_eq pr 99 0 _ Try.f99 fn_99 _ rfl _ ann_99 _ rfl]
    simp -implicitDefEqProofs only [hlt, go_sem, Nat.reduceAdd, Nat.reduceSub, Nat.reduceMul, Nat.reduceMod, Nat.reduceLT, Nat.reduceLeDiff, Nat.reduceEqDiff, Nat.reduceBEq, Nat.reduceDiv, Int.reduceLT, Int.reduceLE, Int.reduceToNat, Int.reduceNeg, Int.reduceEq, ↓reduceIte, reduceCtorEq, ↓reduceDIte, Bool.false_eq_true, Bool.true_eq_false, ne_eq, not_true_eq_false, not_false_eq_true, Bool.true_or, Bool.false_or, Bool.or_true, Bool.or_false, Bool.true_and, Bool.false_and, Bool.and_true, Bool.and_false, Bool.not_true, Bool.not_false, Bool.not_eq_false', Bool.not_eq_true', and_true, true_and, and_false, false_and, or_true, true_or, or_false, false_or, and_self, or_self, decide_eq_true_eq, decide_true, decide_false, decide_eq_false_iff_not, ite_not, if_true, if_false, eq_self]
  | n + 1, k, h, hk => by
    have hlt : k < xs.length := by omega
    have hlt' : k - 1 < xs.length := by omega
    have hw : IntKind.i64.wrap ((k : Int) - 1) = ((k - 1 : Nat) : Int) := by rw [wrap_i] <;> omega
    have ih := loop_99 xs hb n (k + 1) (by omega) (by omega)
    rw [all_step hlt, loop_eq pr 99 0 _ Try.f99 fn_99 _ rfl _ ann_99 _ rfl]
    by_cases hq : xs.getD k 0 ≤ xs.getD (k - 1) 0
    · have hq' : (xs.getD k 0 ≤ xs.getD (k - 1) 0) = True := by simp only [hq]
      simp -implicitDefEqProofs only [lt_cast hlt, lt_cast hlt', zero_le_cast, Int.toNat_natCast, wrap_succ hlt hb, hw, hq', go_sem, Nat.reduceAdd, Nat.reduceSub, Nat.reduceMul, Nat.reduceMod, Nat.reduceLT, Nat.reduceLeDiff, Nat.reduceEqDiff, Nat.reduceBEq, Nat.reduceDiv, Int.reduceLT, Int.reduceLE, Int.reduceToNat, Int.reduceNeg, Int.reduceEq, ↓reduceIte, reduceCtorEq, ↓reduceDIte, Bool.false_eq_true, Bool.true_eq_false, ne_eq, not_true_eq_false, not_false_eq_true, Bool.true_or, Bool.false_or, Bool.or_true, Bool.or_false, Bool.true_and, Bool.false_and, Bool.and_true, Bool.and_false, Bool.not_true, Bool.not_false, Bool.not_eq_false', Bool.not_eq_true', and_true, true_and, and_false, false_and, or_true, true_or, or_false, false_or, and_self, or_self, decide_eq_true_eq, decide_true, decide_false, decide_eq_false_iff_not, ite_not, if_true, if_false, eq_self]
      have : ¬ xs.getD (k - 1) 0 < xs.getD k 0 := by omega
      simp only [this, false_and, not_false_eq_true, false_implies, true_implies, true_and]
    · have hq' : (xs.getD k 0 ≤ xs.getD (k - 1) 0) = False := by simp only [hq]
      simp -implicitDefEqProofs only [lt_cast hlt, lt_cast hlt', zero_le_cast, Int.toNat_natCast, wrap_succ hlt hb, hw, hq', go_sem, Nat.reduceAdd, Nat.reduceSub, Nat.reduceMul, Nat.reduceMod, Nat.reduceLT, Nat.reduceLeDiff, Nat.reduceEqDiff, Nat.reduceBEq, Nat.reduceDiv, Int.reduceLT, Int.reduceLE, Int.reduceToNat, Int.reduceNeg, Int.reduceEq, ↓reduceIte, reduceCtorEq, ↓reduceDIte, Bool.false_eq_true, Bool.true_eq_false, ne_eq, not_true_eq_false, not_false_eq_true, Bool.true_or, Bool.false_or, Bool.or_true, Bool.or_false, Bool.true_and, Bool.false_and, Bool.and_true, Bool.and_false, Bool.not_true, Bool.not_false, Bool.not_eq_false', Bool.not_eq_true', and_true, true_and, and_false, false_and, or_true, true_or, or_false, false_or, and_self, or_self, decide_eq_true_eq, decide_true, decide_false, decide_eq_false_iff_not, ite_not, if_true, if_false, eq_self]
      have : xs.getD (k - 1) 0 < xs.getD k 0 := by omega
      simp only [this, true_and]
      exact ih

def increasing (xs : List Int) : Bool := (List.range xs.length).all fun i => decide (1 ≤ i → xs.getD (i - 1) 0 < xs.getD i 0)
theorem increasing_iff (xs : List Int) : increasing xs = true ↔ ∀ i, 1 ≤ i → i < xs.length → xs.getD (i - 1) 0 < xs.getD i 0 := by
  simp only [increasing, List.all_eq_true, List.mem_range, decide_eq_true_eq]
  exact ⟨fun h i h1 h2 => h i h2 h1, fun h i h1 h2 => h i h2 h1⟩

theorem call_99 (xs : List Int) (hb : xs.length < 1000000000000000000) : callOf pr 99 [L xs] [] = some (B (increasing xs), []) := by
  obtain ⟨h1, h2⟩ := loop_99 xs hb (xs.length - 1) 1 rfl (Nat.le_refl _)
  rw [call_eq pr 99 _ _ Try.f99 fn_99 _ rfl _ ann_99 rfl]
  by_cases hr : ∀ i, 1 ≤ i → i < xs.length → xs.getD (i - 1) 0 < xs.getD i 0
  · obtain ⟨j, h⟩ := h1 hr
    have h : loopOf pr 99 0 ⟨[(0, L xs), (3, I 1)], []⟩ = _ := h
    simp -implicitDefEqProofs only [h, (increasing_iff xs).2 hr, go_sem, Nat.reduceAdd, Nat.reduceSub, Nat.reduceMul, Nat.reduceMod, Nat.reduceLT, Nat.reduceLeDiff, Nat.reduceEqDiff, Nat.reduceBEq, Nat.reduceDiv, Int.reduceLT, Int.reduceLE, Int.reduceToNat, Int.reduceNeg, Int.reduceEq, ↓reduceIte, reduceCtorEq, ↓reduceDIte, Bool.false_eq_true, Bool.true_eq_false, ne_eq, not_true_eq_false, not_false_eq_true, Bool.true_or, Bool.false_or, Bool.or_true, Bool.or_false, Bool.true_and, Bool.false_and, Bool.and_true, Bool.and_false, Bool.not_true, Bool.not_false, Bool.not_eq_false', Bool.not_eq_true', and_true, true_and, and_false, false_and, or_true, true_or, or_false, false_or, and_self, or_self, decide_eq_true_eq, decide_true, decide_false, decide_eq_false_iff_not, ite_not, if_true, if_false, eq_self]
  · have h : loopOf pr 99 0 ⟨[(0, L xs), (3, I 1)], []⟩ = _ := h2 hr
    have hf : increasing xs = false := by
      rw [← Bool.not_eq_true]; exact fun e => hr ((increasing_iff xs).1 e)
    simp -implicitDefEqProofs only [h, hf, go_sem, Nat.reduceAdd, Nat.reduceSub, Nat.reduceMul, Nat.reduceMod, Nat.reduceLT, Nat.reduceLeDiff, Nat.reduceEqDiff, Nat.reduceBEq, Nat.reduceDiv, Int.reduceLT, Int.reduceLE, Int.reduceToNat, Int.reduceNeg, Int.reduceEq, ↓reduceIte, reduceCtorEq, ↓reduceDIte, Bool.false_eq_true, Bool.true_eq_false, ne_eq, not_true_eq_false, not_false_eq_true, Bool.true_or, Bool.false_or, Bool.or_true, Bool.or_false, Bool.true_and, Bool.false_and, Bool.and_true, Bool.and_false, Bool.not_true, Bool.not_false, Bool.not_eq_false', Bool.not_eq_true', and_true, true_and, and_false, false_and, or_true, true_or, or_false, false_or, and_self, or_self, decide_eq_true_eq, decide_true, decide_false, decide_eq_false_iff_not, ite_not, if_true, if_false, eq_self]

/-- The program's judgement of one list. -/
def okAt (xs : List (List Int)) (i : Nat) : Bool := (!((xs.getD i []).any fun n => !decide (0 ≤ n ∧ n ≤ (i : Int) - 1))) && increasing (xs.getD i [])

theorem loop_59 (xs : List (List Int)) (hb : xs.length < 1000000000000000000) (hc : ∀ x ∈ xs, x.length < 1000000000000000000) : ∀ (n k : Nat), k + n = xs.length →
    ((∀ i, k ≤ i → i < xs.length → okAt xs i = true) → loopOf pr 59 0 ⟨[(11, LL xs), (12, I xs.length), (13, I k)], []⟩ = some (.exit 0, ⟨[(11, LL xs), (12, I xs.length), (13, I xs.length)], []⟩)) ∧
    ((¬ ∀ i, k ≤ i → i < xs.length → okAt xs i = true) → loopOf pr 59 0 ⟨[(11, LL xs), (12, I xs.length), (13, I k)], []⟩ = some (.ret, ⟨[(2, B false)], []⟩))
  | 0, k, h => by
    have : k = xs.length := by omega
    subst this
    rw [all_done (Nat.le_refl _)]
    refine ⟨fun _ => ?_, fun h => absurd trivial h⟩
    rw [loop_eq pr 59 0 _ Try.f59 fn_59 _ rfl _ ann_59 _ rfl]
    simp -implicitDefEqProofs only [Int.lt_irrefl, go_sem, Nat.reduceAdd, Nat.reduceSub, Nat.reduceMul, Nat.reduceMod, Nat.reduceLT, Nat.reduceLeDiff, Nat.reduceEqDiff, Nat.reduceBEq, Nat.reduceDiv, Int.reduceLT, Int.reduceLE, Int.reduceToNat, Int.reduceNeg, Int.reduceEq, ↓reduceIte, reduceCtorEq, ↓reduceDIte, Bool.false_eq_true, Bool.true_eq_false, ne_eq, not_true_eq_false, not_false_eq_true, Bool.true_or, Bool.false_or, Bool.or_true, Bool.or_false, Bool.true_and, Bool.false_and, Bool.and_true, Bool.and_false, Bool.not_true, Bool.not_false, Bool.not_eq_false', Bool.not_eq_true', and_true, true_and, and_false, false_and, or_true, true_or, or_false, false_or, and_self, or_self, decide_eq_true_eq, decide_true, decide_false, decide_eq_false_iff_not, ite_not, if_true, if_false, eq_self]
  | n + 1, k, h => by
    have hlt : k < xs.length := by omega
    have ih := loop_59 xs hb hc n (k + 1) (by omega)
    have hx : (xs.getD k []).length < 1000000000000000000 := by rw [getD_of_lt hlt]; exact hc _ (List.getElem_mem hlt)
    have hw : IntKind.i64.wrap ((k : Int) - 1) = (k : Int) - 1 := by rw [wrap_i] <;> omega
    rw [all_step hlt, loop_eq pr 59 0 _ Try.f59 fn_59 _ rfl _ ann_59 _ rfl]
    cases ha : (xs.getD k []).any fun n => !decide (0 ≤ n ∧ n ≤ (k : Int) - 1) with
    | true =>
      simp -implicitDefEqProofs only [lt_cast hlt, zero_le_cast, Int.toNat_natCast, wrap_succ hlt hb, hw, call_98 _ hx, ha, go_sem, Nat.reduceAdd, Nat.reduceSub, Nat.reduceMul, Nat.reduceMod, Nat.reduceLT, Nat.reduceLeDiff, Nat.reduceEqDiff, Nat.reduceBEq, Nat.reduceDiv, Int.reduceLT, Int.reduceLE, Int.reduceToNat, Int.reduceNeg, Int.reduceEq, ↓reduceIte, reduceCtorEq, ↓reduceDIte, Bool.false_eq_true, Bool.true_eq_false, ne_eq, not_true_eq_false, not_false_eq_true, Bool.true_or, Bool.false_or, Bool.or_true, Bool.or_false, Bool.true_and, Bool.false_and, Bool.and_true, Bool.and_false, Bool.not_true, Bool.not_false, Bool.not_eq_false', Bool.not_eq_true', and_true, true_and, and_false, false_and, or_true, true_or, or_false, false_or, and_self, or_self, decide_eq_true_eq, decide_true, decide_false, decide_eq_false_iff_not, ite_not, if_true, if_false, eq_self]
      have : okAt xs k = false := by unfold okAt; rw [ha]; rfl
      simp [this]
    | false =>
      cases hi : increasing (xs.getD k []) with
      | true =>
        simp -implicitDefEqProofs only [lt_cast hlt, zero_le_cast, Int.toNat_natCast, wrap_succ hlt hb, hw, call_98 _ hx, ha, call_99 _ hx, hi, go_sem, Nat.reduceAdd, Nat.reduceSub, Nat.reduceMul, Nat.reduceMod, Nat.reduceLT, Nat.reduceLeDiff, Nat.reduceEqDiff, Nat.reduceBEq, Nat.reduceDiv, Int.reduceLT, Int.reduceLE, Int.reduceToNat, Int.reduceNeg, Int.reduceEq, ↓reduceIte, reduceCtorEq, ↓reduceDIte, Bool.false_eq_true, Bool.true_eq_false, ne_eq, not_true_eq_false, not_false_eq_true, Bool.true_or, Bool.false_or, Bool.or_true, Bool.or_false, Bool.true_and, Bool.false_and, Bool.and_true, Bool.and_false, Bool.not_true, Bool.not_false, Bool.not_eq_false', Bool.not_eq_true', and_true, true_and, and_false, false_and, or_true, true_or, or_false, false_or, and_self, or_self, decide_eq_true_eq, decide_true, decide_false, decide_eq_false_iff_not, ite_not, if_true, if_false, eq_self]
        have : okAt xs k = true := by unfold okAt; rw [ha, hi]; rfl
        simp only [this, true_and]
        exact ih
      | false =>
        simp -implicitDefEqProofs only [lt_cast hlt, zero_le_cast, Int.toNat_natCast, wrap_succ hlt hb, hw, call_98 _ hx, ha, call_99 _ hx, hi, go_sem, Nat.reduceAdd, Nat.reduceSub, Nat.reduceMul, Nat.reduceMod, Nat.reduceLT, Nat.reduceLeDiff, Nat.reduceEqDiff, Nat.reduceBEq, Nat.reduceDiv, Int.reduceLT, Int.reduceLE, Int.reduceToNat, Int.reduceNeg, Int.reduceEq, ↓reduceIte, reduceCtorEq, ↓reduceDIte, Bool.false_eq_true, Bool.true_eq_false, ne_eq, not_true_eq_false, not_false_eq_true, Bool.true_or, Bool.false_or, Bool.or_true, Bool.or_false, Bool.true_and, Bool.false_and, Bool.and_true, Bool.and_false, Bool.not_true, Bool.not_false, Bool.not_eq_false', Bool.not_eq_true', and_true, true_and, and_false, false_and, or_true, true_or, or_false, false_or, and_self, or_self, decide_eq_true_eq, decide_true, decide_false, decide_eq_false_iff_not, ite_not, if_true, if_false, eq_self]
        have : okAt xs k = false := by unfold okAt; rw [ha, hi]; rfl
        simp [this]

/-- The program's judgement of a graph. -/
def implValid (xs : List (List Int)) : Bool := decide (1 ≤ xs.length ∧ xs.length ≤ 6) && (List.range xs.length).all fun i => okAt xs i

theorem call_59 (xs : List (List Int)) (hb : xs.length < 1000000000000000000) (hc : ∀ x ∈ xs, x.length < 1000000000000000000) : callOf pr 59 [.agg [LL xs]] [] = some (B (implValid xs), []) := by
  obtain ⟨h1, h2⟩ := loop_59 xs hb hc xs.length 0 (by omega)
  rw [call_eq pr 59 _ _ Try.f59 fn_59 _ rfl _ ann_59 rfl]
  by_cases hn : 1 ≤ (xs.length : Int) ∧ (xs.length : Int) ≤ 6
  · have hn' : (1 ≤ (xs.length : Int) ∧ (xs.length : Int) ≤ 6) = True := by simp only [hn, and_self]
    by_cases hr : ∀ i, 0 ≤ i → i < xs.length → okAt xs i = true
    · have h : loopOf pr 59 0 ⟨[(11, LL xs), (12, I xs.length), (13, I 0)], []⟩ = _ := h1 hr
      have : implValid xs = true := by
        unfold implValid
        have h3 : ((List.range xs.length).all fun i => okAt xs i) = true := by simpa using hr
        have h4 : 1 ≤ xs.length ∧ xs.length ≤ 6 := by omega
        rw [h3]; simp [h4]
      simp -implicitDefEqProofs only [call_97, call_96, hn', h, this, go_sem, Nat.reduceAdd, Nat.reduceSub, Nat.reduceMul, Nat.reduceMod, Nat.reduceLT, Nat.reduceLeDiff, Nat.reduceEqDiff, Nat.reduceBEq, Nat.reduceDiv, Int.reduceLT, Int.reduceLE, Int.reduceToNat, Int.reduceNeg, Int.reduceEq, ↓reduceIte, reduceCtorEq, ↓reduceDIte, Bool.false_eq_true, Bool.true_eq_false, ne_eq, not_true_eq_false, not_false_eq_true, Bool.true_or, Bool.false_or, Bool.or_true, Bool.or_false, Bool.true_and, Bool.false_and, Bool.and_true, Bool.and_false, Bool.not_true, Bool.not_false, Bool.not_eq_false', Bool.not_eq_true', and_true, true_and, and_false, false_and, or_true, true_or, or_false, false_or, and_self, or_self, decide_eq_true_eq, decide_true, decide_false, decide_eq_false_iff_not, ite_not, if_true, if_false, eq_self]
    · have h : loopOf pr 59 0 ⟨[(11, LL xs), (12, I xs.length), (13, I 0)], []⟩ = _ := h2 hr
      have : implValid xs = false := by
        unfold implValid
        have h3 : ((List.range xs.length).all fun i => okAt xs i) = false := by
          rw [← Bool.not_eq_true]; exact fun e => hr (by simpa using e)
        simp only [h3, Bool.and_false]
      simp -implicitDefEqProofs only [call_97, call_96, hn', h, this, go_sem, Nat.reduceAdd, Nat.reduceSub, Nat.reduceMul, Nat.reduceMod, Nat.reduceLT, Nat.reduceLeDiff, Nat.reduceEqDiff, Nat.reduceBEq, Nat.reduceDiv, Int.reduceLT, Int.reduceLE, Int.reduceToNat, Int.reduceNeg, Int.reduceEq, ↓reduceIte, reduceCtorEq, ↓reduceDIte, Bool.false_eq_true, Bool.true_eq_false, ne_eq, not_true_eq_false, not_false_eq_true, Bool.true_or, Bool.false_or, Bool.or_true, Bool.or_false, Bool.true_and, Bool.false_and, Bool.and_true, Bool.and_false, Bool.not_true, Bool.not_false, Bool.not_eq_false', Bool.not_eq_true', and_true, true_and, and_false, false_and, or_true, true_or, or_false, false_or, and_self, or_self, decide_eq_true_eq, decide_true, decide_false, decide_eq_false_iff_not, ite_not, if_true, if_false, eq_self]
  · have hn' : (1 ≤ (xs.length : Int) ∧ (xs.length : Int) ≤ 6) = False := by simp only [hn]
    have : implValid xs = false := by
      have h4 : ¬ (1 ≤ xs.length ∧ xs.length ≤ 6) := by omega
      simp only [implValid, h4, decide_false, Bool.false_and]
    simp -implicitDefEqProofs only [call_97, call_96, hn', this, go_sem, Nat.reduceAdd, Nat.reduceSub, Nat.reduceMul, Nat.reduceMod, Nat.reduceLT, Nat.reduceLeDiff, Nat.reduceEqDiff, Nat.reduceBEq, Nat.reduceDiv, Int.reduceLT, Int.reduceLE, Int.reduceToNat, Int.reduceNeg, Int.reduceEq, ↓reduceIte, reduceCtorEq, ↓reduceDIte, Bool.false_eq_true, Bool.true_eq_false, ne_eq, not_true_eq_false, not_false_eq_true, Bool.true_or, Bool.false_or, Bool.or_true, Bool.or_false, Bool.true_and, Bool.false_and, Bool.and_true, Bool.and_false, Bool.not_true, Bool.not_false, Bool.not_eq_false', Bool.not_eq_true', and_true, true_and, and_false, false_and, or_true, true_or, or_false, false_or, and_self, or_self, decide_eq_true_eq, decide_true, decide_false, decide_eq_false_iff_not, ite_not, if_true, if_false, eq_self]
theorem rises_ok (xs : List Int) (hi : Int) : rises xs 0 hi = (!(xs.any fun n => !decide (0 ≤ n ∧ n ≤ hi)) && increasing xs) := by
  rw [Bool.eq_iff_iff, rises_iff, Bool.and_eq_true, increasing_iff]
  have hany : (!(xs.any fun n => !decide (0 ≤ n ∧ n ≤ hi))) = true ↔ ∀ i, 0 ≤ i → i < xs.length → 0 ≤ xs.getD i 0 ∧ xs.getD i 0 ≤ hi := by
    simp only [Bool.not_eq_true', List.any_eq_false, Bool.not_eq_true', decide_eq_false_iff_not, Decidable.not_not]
    constructor
    · intro h i _ hi'
      rw [getD_of_lt hi']
      exact h _ (List.getElem_mem hi')
    · intro h x hx
      obtain ⟨i, hi', rfl⟩ := List.getElem_of_mem hx
      have := h i (Nat.zero_le _) hi'
      rwa [getD_of_lt hi'] at this
  rw [hany]
  constructor
  · intro h
    exact ⟨fun i h1 h2 => (h i h1 h2).1, fun i h1 h2 => (h i (Nat.zero_le _) h2).2 (by omega)⟩
  · rintro ⟨h1, h2⟩ i h3 h4
    exact ⟨h1 i h3 h4, fun h5 => h2 i (by omega) h4⟩

theorem valid_eq (xs : List (List Int)) : specValid xs = implValid xs := by
  unfold specValid implValid okAt
  simp only [rises_ok]

end Go.Proofs.Ythhankjdpbbncaa.PI
