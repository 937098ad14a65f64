/- Basic functions of the program. -/
import Derived.Test.YtfooniikopekoaaStd
import Derived.Test.YtfooniikopekoaaGQBits
namespace Go.Proofs.Ytfooniikopekoaa.PI
open Go Go.Q
set_option maxRecDepth 100000
set_option maxHeartbeats 4000000
set_option linter.unusedSimpArgs false
set_option linter.unusedVariables false

theorem call_113 (n lo hi : Int) : callOf pr 113 [I n, I lo, I hi] [] = some (B (decide (lo ≤ n ∧ n ≤ hi)), []) := by
  rw [call_eq pr 113 _ _ Try.f113 fn_113 _ rfl _ ann_113 rfl]
  simp -implicitDefEqProofs only [go_sem, Nat.reduceAdd, Nat.reduceSub, Nat.reduceMul, Nat.reduceMod, Nat.reduceLT, Nat.reduceLeDiff, Nat.reduceEqDiff, Nat.reduceBEq, Nat.reduceDiv, Int.reduceLT, Int.reduceLE, Int.reduceToNat, Int.reduceNeg, Int.reduceEq, ↓reduceIte, reduceCtorEq, ↓reduceDIte, Bool.false_eq_true, Bool.true_eq_false, ne_eq, not_true_eq_false, not_false_eq_true, Bool.true_or, Bool.false_or, Bool.or_true, Bool.or_false, Bool.true_and, Bool.false_and, Bool.and_true, Bool.and_false, Bool.not_true, Bool.not_false, Bool.not_eq_false', Bool.not_eq_true', and_true, true_and, and_false, false_and, or_true, true_or, or_false, false_or, and_self, or_self, decide_eq_true_eq, decide_true, decide_false, decide_eq_false_iff_not, ite_not, if_true, if_false, eq_self]
  by_cases h : lo ≤ n
  · simp [h]
  · simp [h]

theorem call_100 (n lo hi : Int) : callOf pr 100 [I n, I lo, I hi] [] = some (B (decide (lo ≤ n ∧ n ≤ hi)), []) := by
  rw [call_eq pr 100 _ _ Try.f100 fn_100 _ rfl _ ann_100 rfl]
  simp -implicitDefEqProofs only [go_sem, Nat.reduceAdd, Nat.reduceSub, Nat.reduceMul, Nat.reduceMod, Nat.reduceLT, Nat.reduceLeDiff, Nat.reduceEqDiff, Nat.reduceBEq, Nat.reduceDiv, Int.reduceLT, Int.reduceLE, Int.reduceToNat, Int.reduceNeg, Int.reduceEq, ↓reduceIte, reduceCtorEq, ↓reduceDIte, Bool.false_eq_true, Bool.true_eq_false, ne_eq, not_true_eq_false, not_false_eq_true, Bool.true_or, Bool.false_or, Bool.or_true, Bool.or_false, Bool.true_and, Bool.false_and, Bool.and_true, Bool.and_false, Bool.not_true, Bool.not_false, Bool.not_eq_false', Bool.not_eq_true', and_true, true_and, and_false, false_and, or_true, true_or, or_false, false_or, and_self, or_self, decide_eq_true_eq, decide_true, decide_false, decide_eq_false_iff_not, ite_not, if_true, if_false, eq_self]
  by_cases h : lo ≤ n
  · simp [h]
  · simp [h]

theorem call_85 (xs : List (List Int)) : callOf pr 85 [LL xs] [] = some (I xs.length, []) := by
  rw [call_eq pr 85 _ _ Try.f85 fn_85 _ rfl _ ann_85 rfl]
  simp -implicitDefEqProofs only [go_sem, Nat.reduceAdd, Nat.reduceSub, Nat.reduceMul, Nat.reduceMod, Nat.reduceLT, Nat.reduceLeDiff, Nat.reduceEqDiff, Nat.reduceBEq, Nat.reduceDiv, Int.reduceLT, Int.reduceLE, Int.reduceToNat, Int.reduceNeg, Int.reduceEq, ↓reduceIte, reduceCtorEq, ↓reduceDIte, Bool.false_eq_true, Bool.true_eq_false, ne_eq, not_true_eq_false, not_false_eq_true, Bool.true_or, Bool.false_or, Bool.or_true, Bool.or_false, Bool.true_and, Bool.false_and, Bool.and_true, Bool.and_false, Bool.not_true, Bool.not_false, Bool.not_eq_false', Bool.not_eq_true', and_true, true_and, and_false, false_and, or_true, true_or, or_false, false_or, and_self, or_self, decide_eq_true_eq, decide_true, decide_false, decide_eq_false_iff_not, ite_not, if_true, if_false, eq_self]

theorem call_104 (n lo hi : Int) : callOf pr 104 [I n, .rp [I lo], .rp [I hi]] [] = some (B (!decide (lo ≤ n ∧ n ≤ hi)), []) := by
  rw [call_eq pr 104 _ _ Try.f104 fn_104 _ rfl _ ann_104 rfl]
  simp -implicitDefEqProofs only [call_100, go_sem, Nat.reduceAdd, Nat.reduceSub, Nat.reduceMul, Nat.reduceMod, Nat.reduceLT, Nat.reduceLeDiff, Nat.reduceEqDiff, Nat.reduceBEq, Nat.reduceDiv, Int.reduceLT, Int.reduceLE, Int.reduceToNat, Int.reduceNeg, Int.reduceEq, ↓reduceIte, reduceCtorEq, ↓reduceDIte, Bool.false_eq_true, Bool.true_eq_false, ne_eq, not_true_eq_false, not_false_eq_true, Bool.true_or, Bool.false_or, Bool.or_true, Bool.or_false, Bool.true_and, Bool.false_and, Bool.and_true, Bool.and_false, Bool.not_true, Bool.not_false, Bool.not_eq_false', Bool.not_eq_true', and_true, true_and, and_false, false_and, or_true, true_or, or_false, false_or, and_self, or_self, decide_eq_true_eq, decide_true, decide_false, decide_eq_false_iff_not, ite_not, if_true, if_false, eq_self]

theorem loop_105 (xs : List Int) (hb : xs.length < 1000000000000000000) (p : Int → Bool) (g : Nat) (cs : List AV) (hC : Caps cs) (hg : pr.byref g = []) (hp : ∀ x ∈ xs, callOf pr g (I x :: cs) [] = some (B (p x), [])) : ∀ (n k : Nat), k + n = xs.length →
    loopOf pr 105 0 ⟨[(0, L xs), (1, .fn g cs), (7, I xs.length), (8, I k)], []⟩ = match (xs.drop k).findIdx? p with
    | some i => some (.ret, ⟨[(4, I ((k + i : Nat) : Int))], []⟩)
    | none => some (.exit 0, ⟨[(0, L xs), (1, .fn g cs), (7, I xs.length), (8, I xs.length)], []⟩)
  | 0, k, h => by
    have : k = xs.length := by omega
    subst this
    rw [List.drop_of_length_le (Nat.le_refl _), loop_eq pr 105 0 _ Try.f105 fn_105 _ rfl _ ann_105 _ rfl]
    simp -implicitDefEqProofs only [Int.lt_irrefl, List.findIdx?_nil, go_sem, Nat.reduceAdd, Nat.reduceSub, Nat.reduceMul, Nat.reduceMod, Nat.reduceLT, Nat.reduceLeDiff, Nat.reduceEqDiff, Nat.reduceBEq, Nat.reduceDiv, Int.reduceLT, Int.reduceLE, Int.reduceToNat, Int.reduceNeg, Int.reduceEq, ↓reduceIte, reduceCtorEq, ↓reduceDIte, Bool.false_eq_true, Bool.true_eq_false, ne_eq, not_true_eq_false, not_false_eq_true, Bool.true_or, Bool.false_or, Bool.or_true, Bool.or_false, Bool.true_and, Bool.false_and, Bool.and_true, Bool.and_false, Bool.not_true, Bool.not_false, Bool.not_eq_false', Bool.not_eq_true', and_true, true_and, and_false, false_and, or_true, true_or, or_false, false_or, and_self, or_self, decide_eq_true_eq, decide_true, decide_false, decide_eq_false_iff_not, ite_not, if_true, if_false, eq_self]
  | n + 1, k, h => by
    have hlt : k < xs.length := by omega
    have ih := loop_105 xs hb p g cs hC hg hp n (k + 1) (by omega)
    have hpk : callOf pr g (I (xs.getD k 0) :: cs) [] = some (B (p (xs.getD k 0)), []) := hp _ (by rw [getD_of_lt hlt]; exact List.getElem_mem hlt)
    rw [List.drop_eq_getElem_cons hlt, List.findIdx?_cons, loop_eq pr 105 0 _ Try.f105 fn_105 _ rfl _ ann_105 _ rfl]
    rw [← getD_of_lt hlt 0]
    cases hq : p (xs.getD k 0) with
    | true =>
      simp -implicitDefEqProofs only [lt_cast hlt, zero_le_cast, Int.toNat_natCast, wrap_succ hlt hb, hC.args, hC.own, hC.ow, hC.arg, hC.mapR, hC.leads, hg, hpk, hq, go_sem, Nat.reduceAdd, Nat.reduceSub, Nat.reduceMul, Nat.reduceMod, Nat.reduceLT, Nat.reduceLeDiff, Nat.reduceEqDiff, Nat.reduceBEq, Nat.reduceDiv, Int.reduceLT, Int.reduceLE, Int.reduceToNat, Int.reduceNeg, Int.reduceEq, ↓reduceIte, reduceCtorEq, ↓reduceDIte, Bool.false_eq_true, Bool.true_eq_false, ne_eq, not_true_eq_false, not_false_eq_true, Bool.true_or, Bool.false_or, Bool.or_true, Bool.or_false, Bool.true_and, Bool.false_and, Bool.and_true, Bool.and_false, Bool.not_true, Bool.not_false, Bool.not_eq_false', Bool.not_eq_true', and_true, true_and, and_false, false_and, or_true, true_or, or_false, false_or, and_self, or_self, decide_eq_true_eq, decide_true, decide_false, decide_eq_false_iff_not, ite_not, if_true, if_false, eq_self]
      rfl
    | false =>
      simp -implicitDefEqProofs only [lt_cast hlt, zero_le_cast, Int.toNat_natCast, wrap_succ hlt hb, hC.args, hC.own, hC.ow, hC.arg, hC.mapR, hC.leads, hg, hpk, hq, go_sem, Nat.reduceAdd, Nat.reduceSub, Nat.reduceMul, Nat.reduceMod, Nat.reduceLT, Nat.reduceLeDiff, Nat.reduceEqDiff, Nat.reduceBEq, Nat.reduceDiv, Int.reduceLT, Int.reduceLE, Int.reduceToNat, Int.reduceNeg, Int.reduceEq, ↓reduceIte, reduceCtorEq, ↓reduceDIte, Bool.false_eq_true, Bool.true_eq_false, ne_eq, not_true_eq_false, not_false_eq_true, Bool.true_or, Bool.false_or, Bool.or_true, Bool.or_false, Bool.true_and, Bool.false_and, Bool.and_true, Bool.and_false, Bool.not_true, Bool.not_false, Bool.not_eq_false', Bool.not_eq_true', and_true, true_and, and_false, false_and, or_true, true_or, or_false, false_or, and_self, or_self, decide_eq_true_eq, decide_true, decide_false, decide_eq_false_iff_not, ite_not, if_true, if_false, eq_self]
      rw [ih]
      cases List.findIdx? p (List.drop (k + 1) xs) with
      | none => rfl
      | some i => simp only [Option.map_some]; rw [show k + 1 + i = k + (i + 1) from by omega]

theorem call_105 (xs : List Int) (hb : xs.length < 1000000000000000000) (p : Int → Bool) (g : Nat) (cs : List AV) (hC : Caps cs) (hg : pr.byref g = []) (hp : ∀ x ∈ xs, callOf pr g (I x :: cs) [] = some (B (p x), [])) :
    callOf pr 105 [L xs, .fn g cs] [] = some (I (match xs.findIdx? p with | some i => (i : Int) | none => -1), []) := by
  have h : loopOf pr 105 0 ⟨[(0, L xs), (1, .fn g cs), (7, I xs.length), (8, I 0)], []⟩ = _ := loop_105 xs hb p g cs hC hg hp xs.length 0 (by omega)
  rw [call_eq pr 105 _ _ Try.f105 fn_105 _ rfl _ ann_105 rfl]
  rw [List.drop_zero] at h
  cases hf : xs.findIdx? p with
  | none =>
    rw [hf] at h
    simp -implicitDefEqProofs only [h, go_sem, Nat.reduceAdd, Nat.reduceSub, Nat.reduceMul, Nat.reduceMod, Nat.reduceLT, Nat.reduceLeDiff, Nat.reduceEqDiff, Nat.reduceBEq, Nat.reduceDiv, Int.reduceLT, Int.reduceLE, Int.reduceToNat, Int.reduceNeg, Int.reduceEq, ↓reduceIte, reduceCtorEq, ↓reduceDIte, Bool.false_eq_true, Bool.true_eq_false, ne_eq, not_true_eq_false, not_false_eq_true, Bool.true_or, Bool.false_or, Bool.or_true, Bool.or_false, Bool.true_and, Bool.false_and, Bool.and_true, Bool.and_false, Bool.not_true, Bool.not_false, Bool.not_eq_false', Bool.not_eq_true', and_true, true_and, and_false, false_and, or_true, true_or, or_false, false_or, and_self, or_self, decide_eq_true_eq, decide_true, decide_false, decide_eq_false_iff_not, ite_not, if_true, if_false, eq_self]
  | some i =>
    rw [hf] at h
    simp only [Nat.zero_add] at h
    simp -implicitDefEqProofs only [h, go_sem, Nat.reduceAdd, Nat.reduceSub, Nat.reduceMul, Nat.reduceMod, Nat.reduceLT, Nat.reduceLeDiff, Nat.reduceEqDiff, Nat.reduceBEq, Nat.reduceDiv, Int.reduceLT, Int.reduceLE, Int.reduceToNat, Int.reduceNeg, Int.reduceEq, ↓reduceIte, reduceCtorEq, ↓reduceDIte, Bool.false_eq_true, Bool.true_eq_false, ne_eq, not_true_eq_false, not_false_eq_true, Bool.true_or, Bool.false_or, Bool.or_true, Bool.or_false, Bool.true_and, Bool.false_and, Bool.and_true, Bool.and_false, Bool.not_true, Bool.not_false, Bool.not_eq_false', Bool.not_eq_true', and_true, true_and, and_false, false_and, or_true, true_or, or_false, false_or, and_self, or_self, decide_eq_true_eq, decide_true, decide_false, decide_eq_false_iff_not, ite_not, if_true, if_false, eq_self]

theorem call_103 (xs : List Int) (hb : xs.length < 1000000000000000000) (p : Int → Bool) (g : Nat) (cs : List AV) (hC : Caps cs) (hg : pr.byref g = []) (hp : ∀ x ∈ xs, callOf pr g (I x :: cs) [] = some (B (p x), [])) :
    callOf pr 103 [L xs, .fn g cs] [] = some (B (xs.any p), []) := by
  rw [call_eq pr 103 _ _ Try.f103 fn_103 _ rfl _ ann_103 rfl]
  cases hf : xs.findIdx? p with
  | none =>
    have hany : xs.any p = false := by
      rw [List.findIdx?_eq_none_iff] at hf
      simpa using hf
    simp -implicitDefEqProofs only [hC.args, hC.own, hC.ow, hC.arg, hC.mapR, hC.leads, hg, call_105 xs hb p g cs hC hg hp, hf, hany, go_sem, Nat.reduceAdd, Nat.reduceSub, Nat.reduceMul, Nat.reduceMod, Nat.reduceLT, Nat.reduceLeDiff, Nat.reduceEqDiff, Nat.reduceBEq, Nat.reduceDiv, Int.reduceLT, Int.reduceLE, Int.reduceToNat, Int.reduceNeg, Int.reduceEq, ↓reduceIte, reduceCtorEq, ↓reduceDIte, Bool.false_eq_true, Bool.true_eq_false, ne_eq, not_true_eq_false, not_false_eq_true, Bool.true_or, Bool.false_or, Bool.or_true, Bool.or_false, Bool.true_and, Bool.false_and, Bool.and_true, Bool.and_false, Bool.not_true, Bool.not_false, Bool.not_eq_false', Bool.not_eq_true', and_true, true_and, and_false, false_and, or_true, true_or, or_false, false_or, and_self, or_self, decide_eq_true_eq, decide_true, decide_false, decide_eq_false_iff_not, ite_not, if_true, if_false, eq_self]
  | some i =>
    have hany : xs.any p = true := by
      rw [List.findIdx?_eq_some_iff_getElem] at hf
      obtain ⟨h1, h2, _⟩ := hf
      exact List.any_eq_true.2 ⟨_, List.getElem_mem h1, h2⟩
    simp -implicitDefEqProofs only [hC.args, hC.own, hC.ow, hC.arg, hC.mapR, hC.leads, hg, call_105 xs hb p g cs hC hg hp, hf, hany, zero_le_cast, go_sem, Nat.reduceAdd, Nat.reduceSub, Nat.reduceMul, Nat.reduceMod, Nat.reduceLT, Nat.reduceLeDiff, Nat.reduceEqDiff, Nat.reduceBEq, Nat.reduceDiv, Int.reduceLT, Int.reduceLE, Int.reduceToNat, Int.reduceNeg, Int.reduceEq, ↓reduceIte, reduceCtorEq, ↓reduceDIte, Bool.false_eq_true, Bool.true_eq_false, ne_eq, not_true_eq_false, not_false_eq_true, Bool.true_or, Bool.false_or, Bool.or_true, Bool.or_false, Bool.true_and, Bool.false_and, Bool.and_true, Bool.and_false, Bool.not_true, Bool.not_false, Bool.not_eq_false', Bool.not_eq_true', and_true, true_and, and_false, false_and, or_true, true_or, or_false, false_or, and_self, or_self, decide_eq_true_eq, decide_true, decide_false, decide_eq_false_iff_not, ite_not, if_true, if_false, eq_self]

theorem call_73 (xs : List Int) (hb : xs.length < 1000000000000000000) (lo hi : Int) : callOf pr 73 [L xs, I lo, I hi] [] = some (B (!(xs.any fun n => !decide (lo ≤ n ∧ n ≤ hi))), []) := by
  have h := call_103 xs hb (fun n => !decide (lo ≤ n ∧ n ≤ hi)) 104 [.rp [I lo], .rp [I hi]] ⟨rfl, of_decide_eq_true rfl⟩ rfl (fun x _ => call_104 x lo hi)
  rw [call_eq pr 73 _ _ Try.f73 fn_73 _ rfl _ ann_73 rfl]
  simp -implicitDefEqProofs only [h, go_sem, Nat.reduceAdd, Nat.reduceSub, Nat.reduceMul, Nat.reduceMod, Nat.reduceLT, Nat.reduceLeDiff, Nat.reduceEqDiff, Nat.reduceBEq, Nat.reduceDiv, Int.reduceLT, Int.reduceLE, Int.reduceToNat, Int.reduceNeg, Int.reduceEq, ↓reduceIte, reduceCtorEq, ↓reduceDIte, Bool.false_eq_true, Bool.true_eq_false, ne_eq, not_true_eq_false, not_false_eq_true, Bool.true_or, Bool.false_or, Bool.or_true, Bool.or_false, Bool.true_and, Bool.false_and, Bool.and_true, Bool.and_false, Bool.not_true, Bool.not_false, Bool.not_eq_false', Bool.not_eq_true', and_true, true_and, and_false, false_and, or_true, true_or, or_false, false_or, and_self, or_self, decide_eq_true_eq, decide_true, decide_false, decide_eq_false_iff_not, ite_not, if_true, if_false, eq_self]
theorem all_step {n k : Nat} {Q : Nat → Prop} (hlt : k < n) : (∀ i, k ≤ i → i < n → Q i) ↔ Q k ∧ ∀ i, k + 1 ≤ i → i < n → Q i := by
  constructor
  · exact fun h => ⟨h k (Nat.le_refl _) hlt, fun i h1 h2 => h i (by omega) h2⟩
  · rintro ⟨h1, h2⟩ i h3 h4
    by_cases e : i = k
    · subst e; exact h1
    · exact h2 i (by omega) h4
theorem all_done {n k : Nat} {Q : Nat → Prop} (hlt : n ≤ k) : (∀ i, k ≤ i → i < n → Q i) ↔ True := ⟨fun _ => trivial, fun _ i h1 h2 => absurd h2 (by omega)⟩

theorem loop_67 (n : Nat) (hn : n < 2000000) : ∀ (r k : Nat), k + r = n →
    loopOf pr 67 0 ⟨[(3, .os (.t 320)), (6, I n), (7, I k)], [(320, .arr true false (.int .i64) (those (fun _ => true) k))]⟩ = some (.exit 0, ⟨[(3, .os (.t 320)), (6, I n), (7, I n)], [(320, .arr true false (.int .i64) (those (fun _ => true) n))]⟩)
  | 0, k, h => by
    have : k = n := by omega
    subst this
    rw [loop_eq pr 67 0 _ Try.f67 fn_67 _ rfl _ ann_67 _ rfl]
    simp -implicitDefEqProofs only [Int.lt_irrefl, go_sem, Nat.reduceAdd, Nat.reduceSub, Nat.reduceMul, Nat.reduceMod, Nat.reduceLT, Nat.reduceLeDiff, Nat.reduceEqDiff, Nat.reduceBEq, Nat.reduceDiv, Int.reduceLT, Int.reduceLE, Int.reduceToNat, Int.reduceNeg, Int.reduceEq, ↓reduceIte, reduceCtorEq, ↓reduceDIte, Bool.false_eq_true, Bool.true_eq_false, ne_eq, not_true_eq_false, not_false_eq_true, Bool.true_or, Bool.false_or, Bool.or_true, Bool.or_false, Bool.true_and, Bool.false_and, Bool.and_true, Bool.and_false, Bool.not_true, Bool.not_false, Bool.not_eq_false', Bool.not_eq_true', and_true, true_and, and_false, false_and, or_true, true_or, or_false, false_or, and_self, or_self, decide_eq_true_eq, decide_true, decide_false, decide_eq_false_iff_not, ite_not, if_true, if_false, eq_self]
  | r + 1, k, h => by
    have ih := loop_67 n hn r (k + 1) (by omega)
    rw [those_succ, if_pos rfl] at ih
    have hlt : k < n := by omega
    have hlen := those_length (fun _ => true) k
    have hroom : (((those (fun _ => true) k).length + 1) * 8 ≤ 140737488355328 ∧ (those (fun _ => true) k).length ≤ 9223372036854775806) = True := tr (by omega)
    rw [loop_eq pr 67 0 _ Try.f67 fn_67 _ rfl _ ann_67 _ rfl]
    simp -implicitDefEqProofs only [lt_cast hlt, wrap_succ hlt (show n < 1000000000000000000 by omega), hroom, go_sem, Nat.reduceAdd, Nat.reduceSub, Nat.reduceMul, Nat.reduceMod, Nat.reduceLT, Nat.reduceLeDiff, Nat.reduceEqDiff, Nat.reduceBEq, Nat.reduceDiv, Int.reduceLT, Int.reduceLE, Int.reduceToNat, Int.reduceNeg, Int.reduceEq, ↓reduceIte, reduceCtorEq, ↓reduceDIte, Bool.false_eq_true, Bool.true_eq_false, ne_eq, not_true_eq_false, not_false_eq_true, Bool.true_or, Bool.false_or, Bool.or_true, Bool.or_false, Bool.true_and, Bool.false_and, Bool.and_true, Bool.and_false, Bool.not_true, Bool.not_false, Bool.not_eq_false', Bool.not_eq_true', and_true, true_and, and_false, false_and, or_true, true_or, or_false, false_or, and_self, or_self, decide_eq_true_eq, decide_true, decide_false, decide_eq_false_iff_not, ite_not, if_true, if_false, eq_self]
    exact ih
theorem call_67 (n : Nat) (hn : n < 2000000) : callOf pr 67 [I n] [] = some (.os (.t 320), [(320, .arr true false (.int .i64) (those (fun _ => true) n))]) := by
  have h := loop_67 n hn n 0 (by omega)
  have h : loopOf pr 67 0 ⟨[(3, .os (.t 320)), (6, I n), (7, I 0)], [(320, .arr true false (.int .i64) [])]⟩ = _ := h
  rw [call_eq pr 67 _ _ Try.f67 fn_67 _ rfl _ ann_67 rfl]
  simp -implicitDefEqProofs only [h, go_sem, Nat.reduceAdd, Nat.reduceSub, Nat.reduceMul, Nat.reduceMod, Nat.reduceLT, Nat.reduceLeDiff, Nat.reduceEqDiff, Nat.reduceBEq, Nat.reduceDiv, Int.reduceLT, Int.reduceLE, Int.reduceToNat, Int.reduceNeg, Int.reduceEq, ↓reduceIte, reduceCtorEq, ↓reduceDIte, Bool.false_eq_true, Bool.true_eq_false, ne_eq, not_true_eq_false, not_false_eq_true, Bool.true_or, Bool.false_or, Bool.or_true, Bool.or_false, Bool.true_and, Bool.false_and, Bool.and_true, Bool.and_false, Bool.not_true, Bool.not_false, Bool.not_eq_false', Bool.not_eq_true', and_true, true_and, and_false, false_and, or_true, true_or, or_false, false_or, and_self, or_self, decide_eq_true_eq, decide_true, decide_false, decide_eq_false_iff_not, ite_not, if_true, if_false, eq_self]

theorem those_all (f : Nat → Bool) (n : Nat) (p : Int → Bool) (hp : ∀ k, k < n → p (k : Int) = f k) : (those (fun _ => true) n).filter p = those f n := by
  unfold those
  rw [List.filter_map]
  have : (List.range n).filter (fun _ => true) = List.range n := by simp
  rw [this]
  congr 1
  apply List.filter_congr
  intro x hx
  exact hp x (List.mem_range.1 hx)
theorem those_mem {f : Nat → Bool} {n : Nat} {x : Int} (h : x ∈ those f n) : ∃ k : Nat, x = k ∧ k < n := by
  unfold those at h
  rw [List.mem_map] at h
  obtain ⟨k, hk, rfl⟩ := h
  exact ⟨k, rfl, List.mem_range.1 (List.mem_filter.1 hk).1⟩
theorem those_full_length (n : Nat) : (those (fun _ => true) n).length = n := by
  have : (List.range n).filter (fun _ => true) = List.range n := by rw [List.filter_eq_self]; exact fun _ _ => rfl
  unfold those
  rw [this]; simp

theorem loop_101 (v : Int) (xs : List Int) (hb : xs.length < 1000000000000000000) : ∀ (n k : Nat), k + n = xs.length →
    loopOf pr 101 0 ⟨[(0, L xs), (1, I v), (7, I xs.length), (8, I k)], []⟩ = match (xs.drop k).findIdx? fun x => decide (v = x) with
    | some i => some (.ret, ⟨[(4, I ((k + i : Nat) : Int))], []⟩)
    | none => some (.exit 0, ⟨[(0, L xs), (1, I v), (7, I xs.length), (8, I xs.length)], []⟩)
  | 0, k, h => by
    have : k = xs.length := by omega
    subst this
    rw [List.drop_of_length_le (Nat.le_refl _), loop_eq pr 101 0 _ Try.f101 fn_101 _ rfl _ ann_101 _ rfl]
    simp -implicitDefEqProofs only [Int.lt_irrefl, List.findIdx?_nil, go_sem, Nat.reduceAdd, Nat.reduceSub, Nat.reduceMul, Nat.reduceMod, Nat.reduceLT, Nat.reduceLeDiff, Nat.reduceEqDiff, Nat.reduceBEq, Nat.reduceDiv, Int.reduceLT, Int.reduceLE, Int.reduceToNat, Int.reduceNeg, Int.reduceEq, ↓reduceIte, reduceCtorEq, ↓reduceDIte, Bool.false_eq_true, Bool.true_eq_false, ne_eq, not_true_eq_false, not_false_eq_true, Bool.true_or, Bool.false_or, Bool.or_true, Bool.or_false, Bool.true_and, Bool.false_and, Bool.and_true, Bool.and_false, Bool.not_true, Bool.not_false, Bool.not_eq_false', Bool.not_eq_true', and_true, true_and, and_false, false_and, or_true, true_or, or_false, false_or, and_self, or_self, decide_eq_true_eq, decide_true, decide_false, decide_eq_false_iff_not, ite_not, if_true, if_false, eq_self]
  | n + 1, k, h => by
    have hlt : k < xs.length := by omega
    have ih := loop_101 v xs hb n (k + 1) (by omega)
    rw [List.drop_eq_getElem_cons hlt, List.findIdx?_cons, loop_eq pr 101 0 _ Try.f101 fn_101 _ rfl _ ann_101 _ rfl]
    rw [← getD_of_lt hlt 0]
    by_cases hq : v = xs.getD k 0
    · simp -implicitDefEqProofs only [lt_cast hlt, zero_le_cast, Int.toNat_natCast, wrap_succ hlt hb, tr hq, go_sem, Nat.reduceAdd, Nat.reduceSub, Nat.reduceMul, Nat.reduceMod, Nat.reduceLT, Nat.reduceLeDiff, Nat.reduceEqDiff, Nat.reduceBEq, Nat.reduceDiv, Int.reduceLT, Int.reduceLE, Int.reduceToNat, Int.reduceNeg, Int.reduceEq, ↓reduceIte, reduceCtorEq, ↓reduceDIte, Bool.false_eq_true, Bool.true_eq_false, ne_eq, not_true_eq_false, not_false_eq_true, Bool.true_or, Bool.false_or, Bool.or_true, Bool.or_false, Bool.true_and, Bool.false_and, Bool.and_true, Bool.and_false, Bool.not_true, Bool.not_false, Bool.not_eq_false', Bool.not_eq_true', and_true, true_and, and_false, false_and, or_true, true_or, or_false, false_or, and_self, or_self, decide_eq_true_eq, decide_true, decide_false, decide_eq_false_iff_not, ite_not, if_true, if_false, eq_self]
      rfl
    · simp -implicitDefEqProofs only [lt_cast hlt, zero_le_cast, Int.toNat_natCast, wrap_succ hlt hb, fa hq, go_sem, Nat.reduceAdd, Nat.reduceSub, Nat.reduceMul, Nat.reduceMod, Nat.reduceLT, Nat.reduceLeDiff, Nat.reduceEqDiff, Nat.reduceBEq, Nat.reduceDiv, Int.reduceLT, Int.reduceLE, Int.reduceToNat, Int.reduceNeg, Int.reduceEq, ↓reduceIte, reduceCtorEq, ↓reduceDIte, Bool.false_eq_true, Bool.true_eq_false, ne_eq, not_true_eq_false, not_false_eq_true, Bool.true_or, Bool.false_or, Bool.or_true, Bool.or_false, Bool.true_and, Bool.false_and, Bool.and_true, Bool.and_false, Bool.not_true, Bool.not_false, Bool.not_eq_false', Bool.not_eq_true', and_true, true_and, and_false, false_and, or_true, true_or, or_false, false_or, and_self, or_self, decide_eq_true_eq, decide_true, decide_false, decide_eq_false_iff_not, ite_not, if_true, if_false, eq_self]
      rw [ih]
      cases List.findIdx? (fun x => decide (v = x)) (List.drop (k + 1) xs) with
      | none => rfl
      | some i => simp only [Option.map_some]; rw [show k + 1 + i = k + (i + 1) from by omega]
theorem call_101 (v : Int) (xs : List Int) (hb : xs.length < 1000000000000000000) :
    callOf pr 101 [L xs, I v] [] = some (I (match xs.findIdx? fun x => decide (v = x) with | some i => (i : Int) | none => -1), []) := by
  have h : loopOf pr 101 0 ⟨[(0, L xs), (1, I v), (7, I xs.length), (8, I 0)], []⟩ = _ := loop_101 v xs hb xs.length 0 (by omega)
  rw [call_eq pr 101 _ _ Try.f101 fn_101 _ rfl _ ann_101 rfl]
  rw [List.drop_zero] at h
  cases hf : xs.findIdx? fun x => decide (v = x) with
  | none =>
    rw [hf] at h
    simp -implicitDefEqProofs only [h, go_sem, Nat.reduceAdd, Nat.reduceSub, Nat.reduceMul, Nat.reduceMod, Nat.reduceLT, Nat.reduceLeDiff, Nat.reduceEqDiff, Nat.reduceBEq, Nat.reduceDiv, Int.reduceLT, Int.reduceLE, Int.reduceToNat, Int.reduceNeg, Int.reduceEq, ↓reduceIte, reduceCtorEq, ↓reduceDIte, Bool.false_eq_true, Bool.true_eq_false, ne_eq, not_true_eq_false, not_false_eq_true, Bool.true_or, Bool.false_or, Bool.or_true, Bool.or_false, Bool.true_and, Bool.false_and, Bool.and_true, Bool.and_false, Bool.not_true, Bool.not_false, Bool.not_eq_false', Bool.not_eq_true', and_true, true_and, and_false, false_and, or_true, true_or, or_false, false_or, and_self, or_self, decide_eq_true_eq, decide_true, decide_false, decide_eq_false_iff_not, ite_not, if_true, if_false, eq_self]
  | some i =>
    rw [hf] at h
    simp only [Nat.zero_add] at h
    simp -implicitDefEqProofs only [h, go_sem, Nat.reduceAdd, Nat.reduceSub, Nat.reduceMul, Nat.reduceMod, Nat.reduceLT, Nat.reduceLeDiff, Nat.reduceEqDiff, Nat.reduceBEq, Nat.reduceDiv, Int.reduceLT, Int.reduceLE, Int.reduceToNat, Int.reduceNeg, Int.reduceEq, ↓reduceIte, reduceCtorEq, ↓reduceDIte, Bool.false_eq_true, Bool.true_eq_false, ne_eq, not_true_eq_false, not_false_eq_true, Bool.true_or, Bool.false_or, Bool.or_true, Bool.or_false, Bool.true_and, Bool.false_and, Bool.and_true, Bool.and_false, Bool.not_true, Bool.not_false, Bool.not_eq_false', Bool.not_eq_true', and_true, true_and, and_false, false_and, or_true, true_or, or_false, false_or, and_self, or_self, decide_eq_true_eq, decide_true, decide_false, decide_eq_false_iff_not, ite_not, if_true, if_false, eq_self]
theorem any_of_find {α : Type} (p : α → Bool) (xs : List α) : decide (0 ≤ (match xs.findIdx? p with | some i => (i : Int) | none => -1)) = xs.any p := by
  cases hf : xs.findIdx? p with
  | none =>
    have hany : xs.any p = false := by
      rw [List.findIdx?_eq_none_iff] at hf
      simpa using hf
    rw [hany]; rfl
  | some i =>
    have hany : xs.any p = true := by
      rw [List.findIdx?_eq_some_iff_getElem] at hf
      obtain ⟨h1, h2, _⟩ := hf
      exact List.any_eq_true.2 ⟨_, List.getElem_mem h1, h2⟩
    rw [hany]; simp
theorem loop_112 (xs : List (List Int)) (hb : xs.length < 1000000000000000000) (p : List Int → Bool) (g : Nat) (cs : List AV) (hC : Caps cs) (hg : pr.byref g = []) (hp : ∀ x ∈ xs, callOf pr g (L x :: cs) [] = some (B (p x), [])) : ∀ (n k : Nat), k + n = xs.length →
    loopOf pr 112 0 ⟨[(0, LL xs), (1, .fn g cs), (7, I xs.length), (8, I k)], []⟩ = match (xs.drop k).findIdx? p with
    | some i => some (.ret, ⟨[(4, I ((k + i : Nat) : Int))], []⟩)
    | none => some (.exit 0, ⟨[(0, LL xs), (1, .fn g cs), (7, I xs.length), (8, I xs.length)], []⟩)
  | 0, k, h => by
    have : k = xs.length := by omega
    subst this
    rw [List.drop_of_length_le (Nat.le_refl _), loop_eq pr 112 0 _ Try.f112 fn_112 _ rfl _ ann_112 _ rfl]
    simp -implicitDefEqProofs only [Int.lt_irrefl, List.findIdx?_nil, go_sem, Nat.reduceAdd, Nat.reduceSub, Nat.reduceMul, Nat.reduceMod, Nat.reduceLT, Nat.reduceLeDiff, Nat.reduceEqDiff, Nat.reduceBEq, Nat.reduceDiv, Int.reduceLT, Int.reduceLE, Int.reduceToNat, Int.reduceNeg, Int.reduceEq, ↓reduceIte, reduceCtorEq, ↓reduceDIte, Bool.false_eq_true, Bool.true_eq_false, ne_eq, not_true_eq_false, not_false_eq_true, Bool.true_or, Bool.false_or, Bool.or_true, Bool.or_false, Bool.true_and, Bool.false_and, Bool.and_true, Bool.and_false, Bool.not_true, Bool.not_false, Bool.not_eq_false', Bool.not_eq_true', and_true, true_and, and_false, false_and, or_true, true_or, or_false, false_or, and_self, or_self, decide_eq_true_eq, decide_true, decide_false, decide_eq_false_iff_not, ite_not, if_true, if_false, eq_self]
  | n + 1, k, h => by
    have hlt : k < xs.length := by omega
    have ih := loop_112 xs hb p g cs hC hg hp n (k + 1) (by omega)
    have hpk : callOf pr g (L (xs.getD k []) :: cs) [] = some (B (p (xs.getD k [])), []) := hp _ (by rw [getD_of_lt hlt]; exact List.getElem_mem hlt)
    rw [List.drop_eq_getElem_cons hlt, List.findIdx?_cons, loop_eq pr 112 0 _ Try.f112 fn_112 _ rfl _ ann_112 _ rfl]
    rw [← getD_of_lt hlt []]
    cases hq : p (xs.getD k []) with
    | true =>
      simp -implicitDefEqProofs only [lt_cast hlt, zero_le_cast, Int.toNat_natCast, wrap_succ hlt hb, hC.args, hC.own, hC.ow, hC.arg, hC.mapR, hC.leads, hg, hpk, hq, go_sem, Nat.reduceAdd, Nat.reduceSub, Nat.reduceMul, Nat.reduceMod, Nat.reduceLT, Nat.reduceLeDiff, Nat.reduceEqDiff, Nat.reduceBEq, Nat.reduceDiv, Int.reduceLT, Int.reduceLE, Int.reduceToNat, Int.reduceNeg, Int.reduceEq, ↓reduceIte, reduceCtorEq, ↓reduceDIte, Bool.false_eq_true, Bool.true_eq_false, ne_eq, not_true_eq_false, not_false_eq_true, Bool.true_or, Bool.false_or, Bool.or_true, Bool.or_false, Bool.true_and, Bool.false_and, Bool.and_true, Bool.and_false, Bool.not_true, Bool.not_false, Bool.not_eq_false', Bool.not_eq_true', and_true, true_and, and_false, false_and, or_true, true_or, or_false, false_or, and_self, or_self, decide_eq_true_eq, decide_true, decide_false, decide_eq_false_iff_not, ite_not, if_true, if_false, eq_self]
      rfl
    | false =>
      simp -implicitDefEqProofs only [lt_cast hlt, zero_le_cast, Int.toNat_natCast, wrap_succ hlt hb, hC.args, hC.own, hC.ow, hC.arg, hC.mapR, hC.leads, hg, hpk, hq, go_sem, Nat.reduceAdd, Nat.reduceSub, Nat.reduceMul, Nat.reduceMod, Nat.reduceLT, Nat.reduceLeDiff, Nat.reduceEqDiff, Nat.reduceBEq, Nat.reduceDiv, Int.reduceLT, Int.reduceLE, Int.reduceToNat, Int.reduceNeg, Int.reduceEq, ↓reduceIte, reduceCtorEq, ↓reduceDIte, Bool.false_eq_true, Bool.true_eq_false, ne_eq, not_true_eq_false, not_false_eq_true, Bool.true_or, Bool.false_or, Bool.or_true, Bool.or_false, Bool.true_and, Bool.false_and, Bool.and_true, Bool.and_false, Bool.not_true, Bool.not_false, Bool.not_eq_false', Bool.not_eq_true', and_true, true_and, and_false, false_and, or_true, true_or, or_false, false_or, and_self, or_self, decide_eq_true_eq, decide_true, decide_false, decide_eq_false_iff_not, ite_not, if_true, if_false, eq_self]
      rw [ih]
      cases List.findIdx? p (List.drop (k + 1) xs) with
      | none => rfl
      | some i => simp only [Option.map_some]; rw [show k + 1 + i = k + (i + 1) from by omega]
theorem call_112 (xs : List (List Int)) (hb : xs.length < 1000000000000000000) (p : List Int → Bool) (g : Nat) (cs : List AV) (hC : Caps cs) (hg : pr.byref g = []) (hp : ∀ x ∈ xs, callOf pr g (L x :: cs) [] = some (B (p x), [])) :
    callOf pr 112 [LL xs, .fn g cs] [] = some (I (match xs.findIdx? p with | some i => (i : Int) | none => -1), []) := by
  have h : loopOf pr 112 0 ⟨[(0, LL xs), (1, .fn g cs), (7, I xs.length), (8, I 0)], []⟩ = _ := loop_112 xs hb p g cs hC hg hp xs.length 0 (by omega)
  rw [call_eq pr 112 _ _ Try.f112 fn_112 _ rfl _ ann_112 rfl]
  rw [List.drop_zero] at h
  cases hf : xs.findIdx? p with
  | none =>
    rw [hf] at h
    simp -implicitDefEqProofs only [h, go_sem, Nat.reduceAdd, Nat.reduceSub, Nat.reduceMul, Nat.reduceMod, Nat.reduceLT, Nat.reduceLeDiff, Nat.reduceEqDiff, Nat.reduceBEq, Nat.reduceDiv, Int.reduceLT, Int.reduceLE, Int.reduceToNat, Int.reduceNeg, Int.reduceEq, ↓reduceIte, reduceCtorEq, ↓reduceDIte, Bool.false_eq_true, Bool.true_eq_false, ne_eq, not_true_eq_false, not_false_eq_true, Bool.true_or, Bool.false_or, Bool.or_true, Bool.or_false, Bool.true_and, Bool.false_and, Bool.and_true, Bool.and_false, Bool.not_true, Bool.not_false, Bool.not_eq_false', Bool.not_eq_true', and_true, true_and, and_false, false_and, or_true, true_or, or_false, false_or, and_self, or_self, decide_eq_true_eq, decide_true, decide_false, decide_eq_false_iff_not, ite_not, if_true, if_false, eq_self]
  | some i =>
    rw [hf] at h
    simp only [Nat.zero_add] at h
    simp -implicitDefEqProofs only [h, go_sem, Nat.reduceAdd, Nat.reduceSub, Nat.reduceMul, Nat.reduceMod, Nat.reduceLT, Nat.reduceLeDiff, Nat.reduceEqDiff, Nat.reduceBEq, Nat.reduceDiv, Int.reduceLT, Int.reduceLE, Int.reduceToNat, Int.reduceNeg, Int.reduceEq, ↓reduceIte, reduceCtorEq, ↓reduceDIte, Bool.false_eq_true, Bool.true_eq_false, ne_eq, not_true_eq_false, not_false_eq_true, Bool.true_or, Bool.false_or, Bool.or_true, Bool.or_false, Bool.true_and, Bool.false_and, Bool.and_true, Bool.and_false, Bool.not_true, Bool.not_false, Bool.not_eq_false', Bool.not_eq_true', and_true, true_and, and_false, false_and, or_true, true_or, or_false, false_or, and_self, or_self, decide_eq_true_eq, decide_true, decide_false, decide_eq_false_iff_not, ite_not, if_true, if_false, eq_self]
theorem call_87 (xs : List (List Int)) (hb : xs.length < 1000000000000000000) (p : List Int → Bool) (g : Nat) (cs : List AV) (hC : Caps cs) (hg : pr.byref g = []) (hp : ∀ x ∈ xs, callOf pr g (L x :: cs) [] = some (B (p x), [])) :
    callOf pr 87 [LL xs, .fn g cs] [] = some (B (xs.any p), []) := by
  have h := call_112 xs hb p g cs hC hg hp
  rw [call_eq pr 87 _ _ Try.f87 fn_87 _ rfl _ ann_87 rfl]
  rw [← any_of_find]
  simp -implicitDefEqProofs only [hC.args, hC.own, hC.ow, hC.arg, hC.mapR, hC.leads, hg, h, go_sem, Nat.reduceAdd, Nat.reduceSub, Nat.reduceMul, Nat.reduceMod, Nat.reduceLT, Nat.reduceLeDiff, Nat.reduceEqDiff, Nat.reduceBEq, Nat.reduceDiv, Int.reduceLT, Int.reduceLE, Int.reduceToNat, Int.reduceNeg, Int.reduceEq, ↓reduceIte, reduceCtorEq, ↓reduceDIte, Bool.false_eq_true, Bool.true_eq_false, ne_eq, not_true_eq_false, not_false_eq_true, Bool.true_or, Bool.false_or, Bool.or_true, Bool.or_false, Bool.true_and, Bool.false_and, Bool.and_true, Bool.and_false, Bool.not_true, Bool.not_false, Bool.not_eq_false', Bool.not_eq_true', and_true, true_and, and_false, false_and, or_true, true_or, or_false, false_or, and_self, or_self, decide_eq_true_eq, decide_true, decide_false, decide_eq_false_iff_not, ite_not, if_true, if_false, eq_self]
theorem call_83 (xs : List Int) : callOf pr 83 [L xs] [] = some (I xs.length, []) := by
  rw [call_eq pr 83 _ _ Try.f83 fn_83 _ rfl _ ann_83 rfl]
  simp -implicitDefEqProofs only [go_sem, Nat.reduceAdd, Nat.reduceSub, Nat.reduceMul, Nat.reduceMod, Nat.reduceLT, Nat.reduceLeDiff, Nat.reduceEqDiff, Nat.reduceBEq, Nat.reduceDiv, Int.reduceLT, Int.reduceLE, Int.reduceToNat, Int.reduceNeg, Int.reduceEq, ↓reduceIte, reduceCtorEq, ↓reduceDIte, Bool.false_eq_true, Bool.true_eq_false, ne_eq, not_true_eq_false, not_false_eq_true, Bool.true_or, Bool.false_or, Bool.or_true, Bool.or_false, Bool.true_and, Bool.false_and, Bool.and_true, Bool.and_false, Bool.not_true, Bool.not_false, Bool.not_eq_false', Bool.not_eq_true', and_true, true_and, and_false, false_and, or_true, true_or, or_false, false_or, and_self, or_self, decide_eq_true_eq, decide_true, decide_false, decide_eq_false_iff_not, ite_not, if_true, if_false, eq_self]
end Go.Proofs.Ytfooniikopekoaa.PI
