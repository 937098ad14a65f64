/- Basic functions of the program. -/
import Derived.Test.YtjcldkfgpifebaaStd
import Derived.Test.YtjcldkfgpifebaaGQBits
import Derived.Test.YtjcldkfgpifebaaV2
namespace Go.Proofs.Ytjcldkfgpifebaa.PI
open Go Go.Q
set_option maxRecDepth 100000
set_option maxHeartbeats 4000000
set_option linter.unusedSimpArgs false
set_option linter.unusedVariables false

theorem call_34 (n lo hi : Int) : callOf pr 34 [I n, I lo, I hi] [] = some (B (decide (lo ≤ n ∧ n ≤ hi)), []) := by
  rw [call_eq pr 34 _ _ Try.f34 fn_34 _ rfl _ ann_34 rfl]
  simp -implicitDefEqProofs only [go_sem, Nat.reduceAdd, Nat.reduceSub, Nat.reduceMul, Nat.reduceMod, Nat.reduceLT, Nat.reduceLeDiff, Nat.reduceEqDiff, Nat.reduceBEq, Nat.reduceDiv, Int.reduceLT, Int.reduceLE, Int.reduceToNat, Int.reduceNeg, Int.reduceEq, ↓reduceIte, reduceCtorEq, ↓reduceDIte]
  by_cases h : lo ≤ n
  · simp [h]
  · simp [h]

theorem call_43 (xs : List (List Int)) : callOf pr 43 [LL xs] [] = some (I xs.length, []) := by
  rw [call_eq pr 43 _ _ Try.f43 fn_43 _ rfl _ ann_43 rfl]
  simp -implicitDefEqProofs only [go_sem, Nat.reduceAdd, Nat.reduceSub, Nat.reduceMul, Nat.reduceMod, Nat.reduceLT, Nat.reduceLeDiff, Nat.reduceEqDiff, Nat.reduceBEq, Nat.reduceDiv, Int.reduceLT, Int.reduceLE, Int.reduceToNat, Int.reduceNeg, Int.reduceEq, ↓reduceIte, reduceCtorEq, ↓reduceDIte]

theorem call_49 (n lo hi : Int) : callOf pr 49 [I n, .rp [I lo], .rp [I hi]] [] = some (B (!decide (lo ≤ n ∧ n ≤ hi)), []) := by
  rw [call_eq pr 49 _ _ Try.f49 fn_49 _ rfl _ ann_49 rfl]
  simp -implicitDefEqProofs only [call_34, go_sem, Nat.reduceAdd, Nat.reduceSub, Nat.reduceMul, Nat.reduceMod, Nat.reduceLT, Nat.reduceLeDiff, Nat.reduceEqDiff, Nat.reduceBEq, Nat.reduceDiv, Int.reduceLT, Int.reduceLE, Int.reduceToNat, Int.reduceNeg, Int.reduceEq, ↓reduceIte, reduceCtorEq, ↓reduceDIte]

theorem loop_29 (xs : List Int) (hb : xs.length < 1000000000000000000) (p : Int → Bool) (g : Nat) (cs : List AV) (hC : Caps cs) (hg : pr.byref g = []) (hp : ∀ x ∈ xs, callOf pr g (I x :: cs) [] = some (B (p x), [])) : ∀ (n k : Nat), k + n = xs.length →
    loopOf pr 29 0 ⟨[(0, L xs), (1, .fn g cs), (7, I xs.length), (8, I k)], []⟩ = match (xs.drop k).findIdx? p with
    | some i => some (.ret, ⟨[(4, I ((k + i : Nat) : Int))], []⟩)
    | none => some (.exit 0, ⟨[(0, L xs), (1, .fn g cs), (7, I xs.length), (8, I xs.length)], []⟩)
  | 0, k, h => by
    have : k = xs.length := by omega
    subst this
    rw [List.drop_of_length_le (Nat.le_refl _), loop_eq pr 29 0 _ Try.f29 fn_29 _ rfl _ ann_29 _ rfl]
    simp -implicitDefEqProofs only [Int.lt_irrefl, List.findIdx?_nil, go_sem, Nat.reduceAdd, Nat.reduceSub, Nat.reduceMul, Nat.reduceMod, Nat.reduceLT, Nat.reduceLeDiff, Nat.reduceEqDiff, Nat.reduceBEq, Nat.reduceDiv, Int.reduceLT, Int.reduceLE, Int.reduceToNat, Int.reduceNeg, Int.reduceEq, ↓reduceIte, reduceCtorEq, ↓reduceDIte]
  | n + 1, k, h => by
    have hlt : k < xs.length := by omega
    have ih := loop_29 xs hb p g cs hC hg hp n (k + 1) (by omega)
    have hpk : callOf pr g (I (xs.getD k 0) :: cs) [] = some (B (p (xs.getD k 0)), []) := hp _ (by rw [getD_of_lt hlt]; exact List.getElem_mem hlt)
    rw [List.drop_eq_getElem_cons hlt, List.findIdx?_cons, loop_eq pr 29 0 _ Try.f29 fn_29 _ rfl _ ann_29 _ rfl]
    rw [← getD_of_lt hlt 0]
    cases hq : p (xs.getD k 0) with
    | true =>
      simp -implicitDefEqProofs only [lt_cast hlt, zero_le_cast, Int.toNat_natCast, wrap_succ hlt hb, hC.args, hC.own, hC.ow, hC.arg, hC.mapR, hC.leads, hg, hpk, hq, go_sem, Nat.reduceAdd, Nat.reduceSub, Nat.reduceMul, Nat.reduceMod, Nat.reduceLT, Nat.reduceLeDiff, Nat.reduceEqDiff, Nat.reduceBEq, Nat.reduceDiv, Int.reduceLT, Int.reduceLE, Int.reduceToNat, Int.reduceNeg, Int.reduceEq, ↓reduceIte, reduceCtorEq, ↓reduceDIte]
      rfl
    | false =>
      simp -implicitDefEqProofs only [lt_cast hlt, zero_le_cast, Int.toNat_natCast, wrap_succ hlt hb, hC.args, hC.own, hC.ow, hC.arg, hC.mapR, hC.leads, hg, hpk, hq, go_sem, Nat.reduceAdd, Nat.reduceSub, Nat.reduceMul, Nat.reduceMod, Nat.reduceLT, Nat.reduceLeDiff, Nat.reduceEqDiff, Nat.reduceBEq, Nat.reduceDiv, Int.reduceLT, Int.reduceLE, Int.reduceToNat, Int.reduceNeg, Int.reduceEq, ↓reduceIte, reduceCtorEq, ↓reduceDIte]
      rw [ih]
      cases List.findIdx? p (List.drop (k + 1) xs) with
      | none => rfl
      | some i => simp only [Option.map_some]; rw [show k + 1 + i = k + (i + 1) from by omega]

theorem call_29 (xs : List Int) (hb : xs.length < 1000000000000000000) (p : Int → Bool) (g : Nat) (cs : List AV) (hC : Caps cs) (hg : pr.byref g = []) (hp : ∀ x ∈ xs, callOf pr g (I x :: cs) [] = some (B (p x), [])) :
    callOf pr 29 [L xs, .fn g cs] [] = some (I (match xs.findIdx? p with | some i => (i : Int) | none => -1), []) := by
  have h : loopOf pr 29 0 ⟨[(0, L xs), (1, .fn g cs), (7, I xs.length), (8, I 0)], []⟩ = _ := loop_29 xs hb p g cs hC hg hp xs.length 0 (by omega)
  rw [call_eq pr 29 _ _ Try.f29 fn_29 _ rfl _ ann_29 rfl]
  rw [List.drop_zero] at h
  cases hf : xs.findIdx? p with
  | none =>
    rw [hf] at h
    simp -implicitDefEqProofs only [h, go_sem, Nat.reduceAdd, Nat.reduceSub, Nat.reduceMul, Nat.reduceMod, Nat.reduceLT, Nat.reduceLeDiff, Nat.reduceEqDiff, Nat.reduceBEq, Nat.reduceDiv, Int.reduceLT, Int.reduceLE, Int.reduceToNat, Int.reduceNeg, Int.reduceEq, ↓reduceIte, reduceCtorEq, ↓reduceDIte]
  | some i =>
    rw [hf] at h
    simp only [Nat.zero_add] at h
    simp -implicitDefEqProofs only [h, go_sem, Nat.reduceAdd, Nat.reduceSub, Nat.reduceMul, Nat.reduceMod, Nat.reduceLT, Nat.reduceLeDiff, Nat.reduceEqDiff, Nat.reduceBEq, Nat.reduceDiv, Int.reduceLT, Int.reduceLE, Int.reduceToNat, Int.reduceNeg, Int.reduceEq, ↓reduceIte, reduceCtorEq, ↓reduceDIte]

theorem call_48 (xs : List Int) (hb : xs.length < 1000000000000000000) (p : Int → Bool) (g : Nat) (cs : List AV) (hC : Caps cs) (hg : pr.byref g = []) (hp : ∀ x ∈ xs, callOf pr g (I x :: cs) [] = some (B (p x), [])) :
    callOf pr 48 [L xs, .fn g cs] [] = some (B (xs.any p), []) := by
  rw [call_eq pr 48 _ _ Try.f48 fn_48 _ rfl _ ann_48 rfl]
  cases hf : xs.findIdx? p with
  | none =>
    have hany : xs.any p = false := by
      rw [List.findIdx?_eq_none_iff] at hf
      simpa using hf
    simp -implicitDefEqProofs only [hC.args, hC.own, hC.ow, hC.arg, hC.mapR, hC.leads, hg, call_29 xs hb p g cs hC hg hp, hf, hany, go_sem, Nat.reduceAdd, Nat.reduceSub, Nat.reduceMul, Nat.reduceMod, Nat.reduceLT, Nat.reduceLeDiff, Nat.reduceEqDiff, Nat.reduceBEq, Nat.reduceDiv, Int.reduceLT, Int.reduceLE, Int.reduceToNat, Int.reduceNeg, Int.reduceEq, ↓reduceIte, reduceCtorEq, ↓reduceDIte]
  | some i =>
    have hany : xs.any p = true := by
      rw [List.findIdx?_eq_some_iff_getElem] at hf
      obtain ⟨h1, h2, _⟩ := hf
      exact List.any_eq_true.2 ⟨_, List.getElem_mem h1, h2⟩
    simp -implicitDefEqProofs only [hC.args, hC.own, hC.ow, hC.arg, hC.mapR, hC.leads, hg, call_29 xs hb p g cs hC hg hp, hf, hany, zero_le_cast, go_sem, Nat.reduceAdd, Nat.reduceSub, Nat.reduceMul, Nat.reduceMod, Nat.reduceLT, Nat.reduceLeDiff, Nat.reduceEqDiff, Nat.reduceBEq, Nat.reduceDiv, Int.reduceLT, Int.reduceLE, Int.reduceToNat, Int.reduceNeg, Int.reduceEq, ↓reduceIte, reduceCtorEq, ↓reduceDIte]

theorem call_33 (xs : List Int) (hb : xs.length < 1000000000000000000) (lo hi : Int) : callOf pr 33 [L xs, I lo, I hi] [] = some (B (!(xs.any fun n => !decide (lo ≤ n ∧ n ≤ hi))), []) := by
  have h := call_48 xs hb (fun n => !decide (lo ≤ n ∧ n ≤ hi)) 49 [.rp [I lo], .rp [I hi]] ⟨rfl, of_decide_eq_true rfl⟩ rfl (fun x _ => call_49 x lo hi)
  rw [call_eq pr 33 _ _ Try.f33 fn_33 _ rfl _ ann_33 rfl]
  simp -implicitDefEqProofs only [h, go_sem, Nat.reduceAdd, Nat.reduceSub, Nat.reduceMul, Nat.reduceMod, Nat.reduceLT, Nat.reduceLeDiff, Nat.reduceEqDiff, Nat.reduceBEq, Nat.reduceDiv, Int.reduceLT, Int.reduceLE, Int.reduceToNat, Int.reduceNeg, Int.reduceEq, ↓reduceIte, reduceCtorEq, ↓reduceDIte]
theorem loop_40 (n : Nat) (hn : n < 2000000) : ∀ (r k : Nat), k + r = n →
    loopOf pr 40 0 ⟨[(3, .os (.t 320)), (6, I n), (7, I k)], [(320, .arr true false (.int .i64) (those (fun _ => true) k))]⟩ = some (.exit 0, ⟨[(3, .os (.t 320)), (6, I n), (7, I n)], [(320, .arr true false (.int .i64) (those (fun _ => true) n))]⟩)
  | 0, k, h => by
    have : k = n := by omega
    subst this
    rw [loop_eq pr 40 0 _ Try.f40 fn_40 _ rfl _ ann_40 _ rfl]
    simp -implicitDefEqProofs only [Int.lt_irrefl, go_sem, Nat.reduceAdd, Nat.reduceSub, Nat.reduceMul, Nat.reduceMod, Nat.reduceLT, Nat.reduceLeDiff, Nat.reduceEqDiff, Nat.reduceBEq, Nat.reduceDiv, Int.reduceLT, Int.reduceLE, Int.reduceToNat, Int.reduceNeg, Int.reduceEq, ↓reduceIte, reduceCtorEq, ↓reduceDIte]
  | r + 1, k, h => by
    have ih := loop_40 n hn r (k + 1) (by omega)
    rw [those_succ, if_pos rfl] at ih
    have hlt : k < n := by omega
    have hlen := those_length (fun _ => true) k
    have hroom : (((those (fun _ => true) k).length + 1) * 8 ≤ 140737488355328 ∧ (those (fun _ => true) k).length ≤ 9223372036854775806) = True := tr (by omega)
    rw [loop_eq pr 40 0 _ Try.f40 fn_40 _ rfl _ ann_40 _ rfl]
    simp -implicitDefEqProofs only [lt_cast hlt, wrap_succ hlt (show n < 1000000000000000000 by omega), hroom, go_sem, Nat.reduceAdd, Nat.reduceSub, Nat.reduceMul, Nat.reduceMod, Nat.reduceLT, Nat.reduceLeDiff, Nat.reduceEqDiff, Nat.reduceBEq, Nat.reduceDiv, Int.reduceLT, Int.reduceLE, Int.reduceToNat, Int.reduceNeg, Int.reduceEq, ↓reduceIte, reduceCtorEq, ↓reduceDIte]
    exact ih
theorem call_40 (n : Nat) (hn : n < 2000000) : callOf pr 40 [I n] [] = some (.os (.t 320), [(320, .arr true false (.int .i64) (those (fun _ => true) n))]) := by
  have h := loop_40 n hn n 0 (by omega)
  have h : loopOf pr 40 0 ⟨[(3, .os (.t 320)), (6, I n), (7, I 0)], [(320, .arr true false (.int .i64) [])]⟩ = _ := h
  rw [call_eq pr 40 _ _ Try.f40 fn_40 _ rfl _ ann_40 rfl]
  simp -implicitDefEqProofs only [h, go_sem, Nat.reduceAdd, Nat.reduceSub, Nat.reduceMul, Nat.reduceMod, Nat.reduceLT, Nat.reduceLeDiff, Nat.reduceEqDiff, Nat.reduceBEq, Nat.reduceDiv, Int.reduceLT, Int.reduceLE, Int.reduceToNat, Int.reduceNeg, Int.reduceEq, ↓reduceIte, reduceCtorEq, ↓reduceDIte]

theorem loop_64 (v : Int) (xs : List Int) (hb : xs.length < 1000000000000000000) : ∀ (n k : Nat), k + n = xs.length →
    loopOf pr 64 0 ⟨[(0, L xs), (1, I v), (7, I xs.length), (8, I k)], []⟩ = match (xs.drop k).findIdx? fun x => decide (v = x) with
    | some i => some (.ret, ⟨[(4, I ((k + i : Nat) : Int))], []⟩)
    | none => some (.exit 0, ⟨[(0, L xs), (1, I v), (7, I xs.length), (8, I xs.length)], []⟩)
  | 0, k, h => by
    have : k = xs.length := by omega
    subst this
    rw [List.drop_of_length_le (Nat.le_refl _), loop_eq pr 64 0 _ Try.f64 fn_64 _ rfl _ ann_64 _ rfl]
    simp -implicitDefEqProofs only [Int.lt_irrefl, List.findIdx?_nil, go_sem, Nat.reduceAdd, Nat.reduceSub, Nat.reduceMul, Nat.reduceMod, Nat.reduceLT, Nat.reduceLeDiff, Nat.reduceEqDiff, Nat.reduceBEq, Nat.reduceDiv, Int.reduceLT, Int.reduceLE, Int.reduceToNat, Int.reduceNeg, Int.reduceEq, ↓reduceIte, reduceCtorEq, ↓reduceDIte]
  | n + 1, k, h => by
    have hlt : k < xs.length := by omega
    have ih := loop_64 v xs hb n (k + 1) (by omega)
    rw [List.drop_eq_getElem_cons hlt, List.findIdx?_cons, loop_eq pr 64 0 _ Try.f64 fn_64 _ rfl _ ann_64 _ rfl]
    rw [← getD_of_lt hlt 0]
    by_cases hq : v = xs.getD k 0
    · simp -implicitDefEqProofs only [lt_cast hlt, zero_le_cast, Int.toNat_natCast, wrap_succ hlt hb, tr hq, go_sem, Nat.reduceAdd, Nat.reduceSub, Nat.reduceMul, Nat.reduceMod, Nat.reduceLT, Nat.reduceLeDiff, Nat.reduceEqDiff, Nat.reduceBEq, Nat.reduceDiv, Int.reduceLT, Int.reduceLE, Int.reduceToNat, Int.reduceNeg, Int.reduceEq, ↓reduceIte, reduceCtorEq, ↓reduceDIte]
      rfl
    · simp -implicitDefEqProofs only [lt_cast hlt, zero_le_cast, Int.toNat_natCast, wrap_succ hlt hb, fa hq, go_sem, Nat.reduceAdd, Nat.reduceSub, Nat.reduceMul, Nat.reduceMod, Nat.reduceLT, Nat.reduceLeDiff, Nat.reduceEqDiff, Nat.reduceBEq, Nat.reduceDiv, Int.reduceLT, Int.reduceLE, Int.reduceToNat, Int.reduceNeg, Int.reduceEq, ↓reduceIte, reduceCtorEq, ↓reduceDIte]
      rw [ih]
      cases List.findIdx? (fun x => decide (v = x)) (List.drop (k + 1) xs) with
      | none => rfl
      | some i => simp only [Option.map_some]; rw [show k + 1 + i = k + (i + 1) from by omega]
theorem call_64 (v : Int) (xs : List Int) (hb : xs.length < 1000000000000000000) :
    callOf pr 64 [L xs, I v] [] = some (I (match xs.findIdx? fun x => decide (v = x) with | some i => (i : Int) | none => -1), []) := by
  have h : loopOf pr 64 0 ⟨[(0, L xs), (1, I v), (7, I xs.length), (8, I 0)], []⟩ = _ := loop_64 v xs hb xs.length 0 (by omega)
  rw [call_eq pr 64 _ _ Try.f64 fn_64 _ rfl _ ann_64 rfl]
  rw [List.drop_zero] at h
  cases hf : xs.findIdx? fun x => decide (v = x) with
  | none =>
    rw [hf] at h
    simp -implicitDefEqProofs only [h, go_sem, Nat.reduceAdd, Nat.reduceSub, Nat.reduceMul, Nat.reduceMod, Nat.reduceLT, Nat.reduceLeDiff, Nat.reduceEqDiff, Nat.reduceBEq, Nat.reduceDiv, Int.reduceLT, Int.reduceLE, Int.reduceToNat, Int.reduceNeg, Int.reduceEq, ↓reduceIte, reduceCtorEq, ↓reduceDIte]
  | some i =>
    rw [hf] at h
    simp only [Nat.zero_add] at h
    simp -implicitDefEqProofs only [h, go_sem, Nat.reduceAdd, Nat.reduceSub, Nat.reduceMul, Nat.reduceMod, Nat.reduceLT, Nat.reduceLeDiff, Nat.reduceEqDiff, Nat.reduceBEq, Nat.reduceDiv, Int.reduceLT, Int.reduceLE, Int.reduceToNat, Int.reduceNeg, Int.reduceEq, ↓reduceIte, reduceCtorEq, ↓reduceDIte]
theorem any_of_find {α : Type} (p : α → Bool) (xs : List α) : decide (0 ≤ (match xs.findIdx? p with | some i => (i : Int) | none => -1)) = xs.any p := by
  cases hf : xs.findIdx? p with
  | none =>
    have hany : xs.any p = false := by
      rw [List.findIdx?_eq_none_iff] at hf
      simpa using hf
    rw [hany]; rfl
  | some i =>
    have hany : xs.any p = true := by
      rw [List.findIdx?_eq_some_iff_getElem] at hf
      obtain ⟨h1, h2, _⟩ := hf
      exact List.any_eq_true.2 ⟨_, List.getElem_mem h1, h2⟩
    rw [hany]; simp
theorem loop_56 (xs : List (List Int)) (hb : xs.length < 1000000000000000000) (p : List Int → Bool) (g : Nat) (cs : List AV) (hC : Caps cs) (hg : pr.byref g = []) (hp : ∀ x ∈ xs, callOf pr g (L x :: cs) [] = some (B (p x), [])) : ∀ (n k : Nat), k + n = xs.length →
    loopOf pr 56 0 ⟨[(0, LL xs), (1, .fn g cs), (7, I xs.length), (8, I k)], []⟩ = match (xs.drop k).findIdx? p with
    | some i => some (.ret, ⟨[(4, I ((k + i : Nat) : Int))], []⟩)
    | none => some (.exit 0, ⟨[(0, LL xs), (1, .fn g cs), (7, I xs.length), (8, I xs.length)], []⟩)
  | 0, k, h => by
    have : k = xs.length := by omega
    subst this
    rw [List.drop_of_length_le (Nat.le_refl _), loop_eq pr 56 0 _ Try.f56 fn_56 _ rfl _ ann_56 _ rfl]
    simp -implicitDefEqProofs only [Int.lt_irrefl, List.findIdx?_nil, go_sem, Nat.reduceAdd, Nat.reduceSub, Nat.reduceMul, Nat.reduceMod, Nat.reduceLT, Nat.reduceLeDiff, Nat.reduceEqDiff, Nat.reduceBEq, Nat.reduceDiv, Int.reduceLT, Int.reduceLE, Int.reduceToNat, Int.reduceNeg, Int.reduceEq, ↓reduceIte, reduceCtorEq, ↓reduceDIte]
  | n + 1, k, h => by
    have hlt : k < xs.length := by omega
    have ih := loop_56 xs hb p g cs hC hg hp n (k + 1) (by omega)
    have hpk : callOf pr g (L (xs.getD k []) :: cs) [] = some (B (p (xs.getD k [])), []) := hp _ (by rw [getD_of_lt hlt]; exact List.getElem_mem hlt)
    rw [List.drop_eq_getElem_cons hlt, List.findIdx?_cons, loop_eq pr 56 0 _ Try.f56 fn_56 _ rfl _ ann_56 _ rfl]
    rw [← getD_of_lt hlt []]
    cases hq : p (xs.getD k []) with
    | true =>
      simp -implicitDefEqProofs only [lt_cast hlt, zero_le_cast, Int.toNat_natCast, wrap_succ hlt hb, hC.args, hC.own, hC.ow, hC.arg, hC.mapR, hC.leads, hg, hpk, hq, go_sem, Nat.reduceAdd, Nat.reduceSub, Nat.reduceMul, Nat.reduceMod, Nat.reduceLT, Nat.reduceLeDiff, Nat.reduceEqDiff, Nat.reduceBEq, Nat.reduceDiv, Int.reduceLT, Int.reduceLE, Int.reduceToNat, Int.reduceNeg, Int.reduceEq, ↓reduceIte, reduceCtorEq, ↓reduceDIte]
      rfl
    | false =>
      simp -implicitDefEqProofs only [lt_cast hlt, zero_le_cast, Int.toNat_natCast, wrap_succ hlt hb, hC.args, hC.own, hC.ow, hC.arg, hC.mapR, hC.leads, hg, hpk, hq, go_sem, Nat.reduceAdd, Nat.reduceSub, Nat.reduceMul, Nat.reduceMod, Nat.reduceLT, Nat.reduceLeDiff, Nat.reduceEqDiff, Nat.reduceBEq, Nat.reduceDiv, Int.reduceLT, Int.reduceLE, Int.reduceToNat, Int.reduceNeg, Int.reduceEq, ↓reduceIte, reduceCtorEq, ↓reduceDIte]
      rw [ih]
      cases List.findIdx? p (List.drop (k + 1) xs) with
      | none => rfl
      | some i => simp only [Option.map_some]; rw [show k + 1 + i = k + (i + 1) from by omega]
theorem call_56 (xs : List (List Int)) (hb : xs.length < 1000000000000000000) (p : List Int → Bool) (g : Nat) (cs : List AV) (hC : Caps cs) (hg : pr.byref g = []) (hp : ∀ x ∈ xs, callOf pr g (L x :: cs) [] = some (B (p x), [])) :
    callOf pr 56 [LL xs, .fn g cs] [] = some (I (match xs.findIdx? p with | some i => (i : Int) | none => -1), []) := by
  have h : loopOf pr 56 0 ⟨[(0, LL xs), (1, .fn g cs), (7, I xs.length), (8, I 0)], []⟩ = _ := loop_56 xs hb p g cs hC hg hp xs.length 0 (by omega)
  rw [call_eq pr 56 _ _ Try.f56 fn_56 _ rfl _ ann_56 rfl]
  rw [List.drop_zero] at h
  cases hf : xs.findIdx? p with
  | none =>
    rw [hf] at h
    simp -implicitDefEqProofs only [h, go_sem, Nat.reduceAdd, Nat.reduceSub, Nat.reduceMul, Nat.reduceMod, Nat.reduceLT, Nat.reduceLeDiff, Nat.reduceEqDiff, Nat.reduceBEq, Nat.reduceDiv, Int.reduceLT, Int.reduceLE, Int.reduceToNat, Int.reduceNeg, Int.reduceEq, ↓reduceIte, reduceCtorEq, ↓reduceDIte]
  | some i =>
    rw [hf] at h
    simp only [Nat.zero_add] at h
    simp -implicitDefEqProofs only [h, go_sem, Nat.reduceAdd, Nat.reduceSub, Nat.reduceMul, Nat.reduceMod, Nat.reduceLT, Nat.reduceLeDiff, Nat.reduceEqDiff, Nat.reduceBEq, Nat.reduceDiv, Int.reduceLT, Int.reduceLE, Int.reduceToNat, Int.reduceNeg, Int.reduceEq, ↓reduceIte, reduceCtorEq, ↓reduceDIte]
theorem call_45 (xs : List (List Int)) (hb : xs.length < 1000000000000000000) (p : List Int → Bool) (g : Nat) (cs : List AV) (hC : Caps cs) (hg : pr.byref g = []) (hp : ∀ x ∈ xs, callOf pr g (L x :: cs) [] = some (B (p x), [])) :
    callOf pr 45 [LL xs, .fn g cs] [] = some (B (xs.any p), []) := by
  have h := call_56 xs hb p g cs hC hg hp
  rw [call_eq pr 45 _ _ Try.f45 fn_45 _ rfl _ ann_45 rfl]
  rw [← any_of_find]
  simp -implicitDefEqProofs only [hC.args, hC.own, hC.ow, hC.arg, hC.mapR, hC.leads, hg, h, go_sem, Nat.reduceAdd, Nat.reduceSub, Nat.reduceMul, Nat.reduceMod, Nat.reduceLT, Nat.reduceLeDiff, Nat.reduceEqDiff, Nat.reduceBEq, Nat.reduceDiv, Int.reduceLT, Int.reduceLE, Int.reduceToNat, Int.reduceNeg, Int.reduceEq, ↓reduceIte, reduceCtorEq, ↓reduceDIte]
theorem call_22 (xs : List Int) : callOf pr 22 [L xs] [] = some (I xs.length, []) := by
  rw [call_eq pr 22 _ _ Try.f22 fn_22 _ rfl _ ann_22 rfl]
  simp -implicitDefEqProofs only [go_sem, Nat.reduceAdd, Nat.reduceSub, Nat.reduceMul, Nat.reduceMod, Nat.reduceLT, Nat.reduceLeDiff, Nat.reduceEqDiff, Nat.reduceBEq, Nat.reduceDiv, Int.reduceLT, Int.reduceLE, Int.reduceToNat, Int.reduceNeg, Int.reduceEq, ↓reduceIte, reduceCtorEq, ↓reduceDIte]
theorem call_values (xs : List Int) : callOf pr 38 [L xs] [] = some (.fn 52 [.op 64 0], [(64, .box [L xs])]) := by
  rw [call_eq pr 38 _ _ Try.f38 fn_38 _ rfl _ ann_38 rfl]
  simp -implicitDefEqProofs only [go_sem, Nat.reduceAdd, Nat.reduceSub, Nat.reduceMul, Nat.reduceMod, Nat.reduceLT, Nat.reduceLeDiff, Nat.reduceEqDiff, Nat.reduceBEq, Nat.reduceDiv, Int.reduceLT, Int.reduceLE, Int.reduceToNat, Int.reduceNeg, Int.reduceEq, ↓reduceIte, reduceCtorEq, ↓reduceDIte]
theorem call_collect (xs : List Int) (h0 : ¬ xs.length = 0) (hl : xs.length ≤ 1000000) : callOf pr 50 [.fn 52 [.rp [L xs]]] [] = some (.os (.t 256), [(256, .arr true false (.int .i64) xs)]) := by
  rw [call_eq pr 50 _ _ Try.f50 fn_50 _ rfl _ ann_50 rfl]
  simp -implicitDefEqProofs only [call_app xs h0 hl, go_sem, Nat.reduceAdd, Nat.reduceSub, Nat.reduceMul, Nat.reduceMod, Nat.reduceLT, Nat.reduceLeDiff, Nat.reduceEqDiff, Nat.reduceBEq, Nat.reduceDiv, Int.reduceLT, Int.reduceLE, Int.reduceToNat, Int.reduceNeg, Int.reduceEq, ↓reduceIte, reduceCtorEq, ↓reduceDIte]
theorem call_collect0 : callOf pr 50 [.fn 52 [.rp [L []]]] [] = some (.nilS, []) := by
  rw [call_eq pr 50 _ _ Try.f50 fn_50 _ rfl _ ann_50 rfl]
  simp -implicitDefEqProofs only [call_app0, go_sem, Nat.reduceAdd, Nat.reduceSub, Nat.reduceMul, Nat.reduceMod, Nat.reduceLT, Nat.reduceLeDiff, Nat.reduceEqDiff, Nat.reduceBEq, Nat.reduceDiv, Int.reduceLT, Int.reduceLE, Int.reduceToNat, Int.reduceNeg, Int.reduceEq, ↓reduceIte, reduceCtorEq, ↓reduceDIte]
theorem call_sorted (xs : List Int) (h0 : ¬ xs.length = 0) (hl : xs.length ≤ 1000000) : callOf pr 37 [.fn 52 [.rp [L xs]]] [] = some (.os (.t 320), [(320, .arr true false (.int .i64) (sortI xs))]) := by
  rw [call_eq pr 37 _ _ Try.f37 fn_37 _ rfl _ ann_37 rfl]
  simp -implicitDefEqProofs only [call_collect xs h0 hl, call_srt false xs hl, go_sem, Nat.reduceAdd, Nat.reduceSub, Nat.reduceMul, Nat.reduceMod, Nat.reduceLT, Nat.reduceLeDiff, Nat.reduceEqDiff, Nat.reduceBEq, Nat.reduceDiv, Int.reduceLT, Int.reduceLE, Int.reduceToNat, Int.reduceNeg, Int.reduceEq, ↓reduceIte, reduceCtorEq, ↓reduceDIte]
theorem call_sorted0 : callOf pr 37 [.fn 52 [.rp [L []]]] [] = some (.nilS, []) := by
  rw [call_eq pr 37 _ _ Try.f37 fn_37 _ rfl _ ann_37 rfl]
  simp -implicitDefEqProofs only [call_collect0, call_srt0, go_sem, Nat.reduceAdd, Nat.reduceSub, Nat.reduceMul, Nat.reduceMod, Nat.reduceLT, Nat.reduceLeDiff, Nat.reduceEqDiff, Nat.reduceBEq, Nat.reduceDiv, Int.reduceLT, Int.reduceLE, Int.reduceToNat, Int.reduceNeg, Int.reduceEq, ↓reduceIte, reduceCtorEq, ↓reduceDIte]

/-- Two lists are compared. -/
theorem loop_eqI (n : Nat) : ∀ (us bs : List Int) (done : List Int), us.length = bs.length → done.length + us.length = n → n < 1000000000000000000 →
    loopOf pr 55 0 ⟨[(0, L (done ++ us)), (1, L (done ++ bs)), (12, I n), (13, I done.length)], []⟩ = if us = bs then some (.exit 0, ⟨[(0, L (done ++ us)), (1, L (done ++ bs)), (12, I n), (13, I n)], []⟩) else some (.ret, ⟨[(4, B false)], []⟩)
  | [], [], done, _, hn, hb => by
    have hn : n = done.length := by simp at hn; exact hn.symm
    subst hn
    rw [if_pos rfl, loop_eq pr 55 0 _ Try.f55 fn_55 _ rfl _ ann_55 _ rfl]
    simp -implicitDefEqProofs only [Int.lt_irrefl, List.append_nil, go_sem, Nat.reduceAdd, Nat.reduceSub, Nat.reduceMul, Nat.reduceMod, Nat.reduceLT, Nat.reduceLeDiff, Nat.reduceEqDiff, Nat.reduceBEq, Nat.reduceDiv, Int.reduceLT, Int.reduceLE, Int.reduceToNat, Int.reduceNeg, Int.reduceEq, ↓reduceIte, reduceCtorEq, ↓reduceDIte]
  | a :: us, b :: bs, done, hl, hn, hb => by
    simp only [List.length_cons] at hl hn
    have hlt : ((done.length : Int) < (n : Int)) = True := tr (by omega)
    have hw : IntKind.i64.wrap ((done.length : Int) + 1) = ((done.length + 1 : Nat) : Int) := by rw [wrap_i] <;> omega
    rw [loop_eq pr 55 0 _ Try.f55 fn_55 _ rfl _ ann_55 _ rfl]
    by_cases hq : a = b
    · subst hq
      have ih := loop_eqI n us bs (done ++ [a]) (by omega) (by simp; omega) hb
      have e1 : (done ++ [a]).length = done.length + 1 := by simp
      have e2 : (a :: us = a :: bs) = (us = bs) := by simp
      rw [app_one, app_one, e1] at ih
      simp only [e2]
      simp -implicitDefEqProofs only [hlt, getD_app, lt_app, ltn_app, zero_le_cast, Int.toNat_natCast, hw, go_sem, Nat.reduceAdd, Nat.reduceSub, Nat.reduceMul, Nat.reduceMod, Nat.reduceLT, Nat.reduceLeDiff, Nat.reduceEqDiff, Nat.reduceBEq, Nat.reduceDiv, Int.reduceLT, Int.reduceLE, Int.reduceToNat, Int.reduceNeg, Int.reduceEq, ↓reduceIte, reduceCtorEq, ↓reduceDIte]
      exact ih
    · rw [if_neg (fun e => hq (List.cons.inj e).1)]
      simp -implicitDefEqProofs only [hlt, getD_app, lt_app, ltn_app, zero_le_cast, Int.toNat_natCast, fa hq, go_sem, Nat.reduceAdd, Nat.reduceSub, Nat.reduceMul, Nat.reduceMod, Nat.reduceLT, Nat.reduceLeDiff, Nat.reduceEqDiff, Nat.reduceBEq, Nat.reduceDiv, Int.reduceLT, Int.reduceLE, Int.reduceToNat, Int.reduceNeg, Int.reduceEq, ↓reduceIte, reduceCtorEq, ↓reduceDIte]
  | [], _ :: _, _, hl, _, _ => by simp at hl
  | _ :: _, [], _, hl, _, _ => by simp at hl
theorem call_eqI (a b : List Int) (hb : a.length < 1000000000000000000) : callOf pr 55 [L a, L b] [] = some (B (decide (a = b)), []) := by
  rw [call_eq pr 55 _ _ Try.f55 fn_55 _ rfl _ ann_55 rfl]
  by_cases hl : a.length = b.length
  · have hl' : ((a.length : Int) = (b.length : Int)) = True := by simp [hl]
    have h := loop_eqI a.length a b [] hl (by simp) hb
    have h : loopOf pr 55 0 ⟨[(0, L a), (1, L b), (12, I a.length), (13, I 0)], []⟩ = _ := h
    by_cases he : a = b
    · rw [if_pos he] at h
      simp -implicitDefEqProofs only [hl', h, decide_true, tr he, go_sem, Nat.reduceAdd, Nat.reduceSub, Nat.reduceMul, Nat.reduceMod, Nat.reduceLT, Nat.reduceLeDiff, Nat.reduceEqDiff, Nat.reduceBEq, Nat.reduceDiv, Int.reduceLT, Int.reduceLE, Int.reduceToNat, Int.reduceNeg, Int.reduceEq, ↓reduceIte, reduceCtorEq, ↓reduceDIte]
    · rw [if_neg he] at h
      simp -implicitDefEqProofs only [hl', h, decide_false, fa he, go_sem, Nat.reduceAdd, Nat.reduceSub, Nat.reduceMul, Nat.reduceMod, Nat.reduceLT, Nat.reduceLeDiff, Nat.reduceEqDiff, Nat.reduceBEq, Nat.reduceDiv, Int.reduceLT, Int.reduceLE, Int.reduceToNat, Int.reduceNeg, Int.reduceEq, ↓reduceIte, reduceCtorEq, ↓reduceDIte]
  · have hl' : ((a.length : Int) = (b.length : Int)) = False := by simp; omega
    have he : ¬ a = b := fun e => hl (by rw [e])
    simp -implicitDefEqProofs only [hl', fa he, decide_false, go_sem, Nat.reduceAdd, Nat.reduceSub, Nat.reduceMul, Nat.reduceMod, Nat.reduceLT, Nat.reduceLeDiff, Nat.reduceEqDiff, Nat.reduceBEq, Nat.reduceDiv, Int.reduceLT, Int.reduceLE, Int.reduceToNat, Int.reduceNeg, Int.reduceEq, ↓reduceIte, reduceCtorEq, ↓reduceDIte]
/-- Each number below one once. -/
def orderB (xs : List Int) (n : Nat) : Bool := decide (xs.length = n ∧ sortI xs = those (fun _ => true) n)
theorem call_order (xs : List Int) (n : Nat) (h1 : 1 ≤ n) (hn : n < 1000000) (hb : xs.length < 1000000000000000000) : callOf pr 44 [L xs, I n] [] = some (B (orderB xs n), []) := by
  rw [call_eq pr 44 _ _ Try.f44 fn_44 _ rfl _ ann_44 rfl]
  by_cases hl : xs.length = n
  · have hl' : ((xs.length : Int) = (n : Int)) = True := tr (by omega)
    have h := call_sorted xs (by omega) (by omega)
    have h2 := call_eqI (sortI xs) (those (fun _ => true) n) (by rw [sortI_length]; omega)
    have hk : orderB xs n = decide (sortI xs = those (fun _ => true) n) := by simp [orderB, hl]
    simp -implicitDefEqProofs only [call_22, hl', call_values, h, call_40 n (by omega), h2, hk, go_sem, Nat.reduceAdd, Nat.reduceSub, Nat.reduceMul, Nat.reduceMod, Nat.reduceLT, Nat.reduceLeDiff, Nat.reduceEqDiff, Nat.reduceBEq, Nat.reduceDiv, Int.reduceLT, Int.reduceLE, Int.reduceToNat, Int.reduceNeg, Int.reduceEq, ↓reduceIte, reduceCtorEq, ↓reduceDIte]
  · have hl' : ((xs.length : Int) = (n : Int)) = False := fa (by omega)
    have hk : orderB xs n = false := by simp [orderB, hl]
    simp -implicitDefEqProofs only [call_22, hl', hk, go_sem, Nat.reduceAdd, Nat.reduceSub, Nat.reduceMul, Nat.reduceMod, Nat.reduceLT, Nat.reduceLeDiff, Nat.reduceEqDiff, Nat.reduceBEq, Nat.reduceDiv, Int.reduceLT, Int.reduceLE, Int.reduceToNat, Int.reduceNeg, Int.reduceEq, ↓reduceIte, reduceCtorEq, ↓reduceDIte]

/-- The reference's way: in range, and none twice. -/
def ordC (n : Nat) : List Int → List Int → Bool
  | _, [] => true
  | pre, x :: suf => decide (0 ≤ x ∧ x ≤ (n : Int) - 1) && (!(pre.any fun y => decide (y = x)) && ordC n (pre ++ [x]) suf)
def sorderB (xs : List Int) (n : Nat) : Bool := ordC n [] xs && decide (xs.length = n)
theorem ordC_iff (n : Nat) : ∀ (suf pre : List Int), ordC n pre suf = true ↔ (∀ x ∈ suf, 0 ≤ x ∧ x ≤ (n : Int) - 1) ∧ suf.Pairwise (· ≠ ·) ∧ ∀ x ∈ suf, ∀ y ∈ pre, y ≠ x
  | [], pre => by simp [ordC]
  | x :: suf, pre => by
    simp only [ordC, Bool.and_eq_true, decide_eq_true_eq, ordC_iff n suf, Bool.not_eq_true', List.pairwise_cons, List.mem_cons, List.mem_append, List.mem_singleton]
    have ha : (pre.any fun y => decide (y = x)) = false ↔ ∀ y ∈ pre, y ≠ x := by simp
    rw [ha]
    constructor
    · rintro ⟨h1, h2, h3, h4, h5⟩
      refine ⟨?_, ⟨?_, h4⟩, ?_⟩
      · rintro y (rfl | hy)
        · exact h1
        · exact h3 y hy
      · intro y hy
        exact h5 y hy x (.inr (.inl rfl)) 
      · rintro y (rfl | hy) z hz
        · exact h2 z hz
        · exact h5 y hy z (.inl hz)
    · rintro ⟨h1, ⟨h2, h3⟩, h4⟩
      refine ⟨h1 x (.inl rfl), fun y hy => h4 x (.inl rfl) y hy, fun y hy => h1 y (.inr hy), h3, ?_⟩
      rintro y hy z (hz | hz)
      · exact h4 y (.inr hy) z hz
      · rcases hz with rfl | hz
        · exact h2 y hy
        · cases hz
theorem sortI_perm (xs : List Int) : (sortI xs).Perm xs := List.mergeSort_perm xs _
theorem sortI_le (xs : List Int) : (sortI xs).Pairwise (· ≤ ·) := by
  have := List.pairwise_mergeSort (le := fun x y : Int => decide (x ≤ y)) (fun a b c h1 h2 => by simp only [decide_eq_true_eq] at *; omega) (fun a b => by simp only [Bool.or_eq_true, decide_eq_true_eq]; omega) xs
  exact this.imp fun {a b} h => by simpa using h
theorem those_true (n : Nat) : those (fun _ => true) n = (List.range n).map Int.ofNat := by
  unfold those
  rw [List.filter_eq_self.2 (fun _ _ => rfl)]
theorem inc_ge {s : List Int} (h : s.Pairwise (· < ·)) : ∀ (d i : Nat) (hj : i + d < s.length), s[i]'(by omega) + (d : Int) ≤ s[i + d]
  | 0, i, hj => by simp
  | d + 1, i, hj => by
    have h1 := inc_ge h d i (by omega)
    have h2 := (List.pairwise_iff_getElem.1 h) (i + d) (i + (d + 1)) (by omega) hj (by omega)
    omega
theorem order_eq (xs : List Int) (n : Nat) : orderB xs n = sorderB xs n := by
  rw [Bool.eq_iff_iff]
  simp only [orderB, sorderB, decide_eq_true_eq, Bool.and_eq_true, ordC_iff]
  constructor
  · rintro ⟨hl, hs⟩
    rw [those_true] at hs
    have hp : ((List.range n).map Int.ofNat).Perm xs := hs ▸ sortI_perm xs
    refine ⟨⟨fun x hx => ?_, ?_, fun _ _ _ hy => by cases hy⟩, hl⟩
    · have := hp.mem_iff.2 hx
      rw [List.mem_map] at this
      obtain ⟨k, hk, rfl⟩ := this
      rw [List.mem_range] at hk
      constructor
      · exact Int.natCast_nonneg k
      · show (k : Int) ≤ _
        omega
    · have hn : ((List.range n).map Int.ofNat).Pairwise (· ≠ ·) := by
        rw [List.pairwise_map]
        exact List.pairwise_lt_range.imp fun {a b} h e => by
          have : a = b := Int.ofNat.inj e
          omega
      exact (hp.pairwise_iff (fun {a b} h => Ne.symm h)).1 hn
  · rintro ⟨⟨h1, h2, _⟩, hl⟩
    refine ⟨hl, ?_⟩
    have hp := sortI_perm xs
    have hne : (sortI xs).Pairwise (· ≠ ·) := (hp.pairwise_iff (fun {a b} h => Ne.symm h)).2 h2
    have hlt : (sortI xs).Pairwise (· < ·) := by
      rw [List.pairwise_iff_getElem] at hne ⊢
      intro i j hi hj hij
      have a := hne i j hi hj hij
      have b := (List.pairwise_iff_getElem.1 (sortI_le xs)) i j hi hj hij
      omega
    have hlen : (sortI xs).length = n := by rw [sortI_length, hl]
    rw [those_true]
    apply List.ext_getElem
    · simp [hlen]
    · intro i hi hj
      have hin : i < n := by omega
      simp only [List.getElem_map, List.getElem_range]
      have r : ∀ k (hk : k < (sortI xs).length), 0 ≤ (sortI xs)[k] ∧ (sortI xs)[k] ≤ (n : Int) - 1 := fun k hk => h1 _ (hp.mem_iff.1 (List.getElem_mem hk))
      have r0 := r 0 (by omega)
      have rn := r (n - 1) (by omega)
      have a := inc_ge hlt i 0 (by omega)
      have b := inc_ge hlt (n - 1 - i) i (by omega)
      have e1 : 0 + i = i := by omega
      have e2 : i + (n - 1 - i) = n - 1 := by omega
      simp only [e1] at a
      simp only [e2] at b
      show (sortI xs)[i] = (i : Int)
      omega
/-- What an order holds. -/
theorem order_bound {xs : List Int} {n : Nat} (h : orderB xs n = true) : xs.length = n ∧ ∀ x ∈ xs, 0 ≤ x ∧ x < (n : Int) := by
  rw [order_eq] at h
  simp only [sorderB, Bool.and_eq_true, decide_eq_true_eq, ordC_iff] at h
  exact ⟨h.2, fun x hx => by have := h.1.1 x hx; omega⟩
def validP (hit : List (List Int)) (miss : List Int) : Bool := decide (1 ≤ miss.length ∧ miss.length ≤ 6 ∧ hit.length = miss.length) && (orderB miss miss.length && hit.all fun l => orderB l miss.length)
theorem call_ways (n : Int) : callOf pr 39 [I n] [] = some (B (decide (1 ≤ n ∧ n ≤ 6)), []) := by
  rw [call_eq pr 39 _ _ Try.f39 fn_39 _ rfl _ ann_39 rfl]
  simp -implicitDefEqProofs only [call_34, go_sem, Nat.reduceAdd, Nat.reduceSub, Nat.reduceMul, Nat.reduceMod, Nat.reduceLT, Nat.reduceLeDiff, Nat.reduceEqDiff, Nat.reduceBEq, Nat.reduceDiv, Int.reduceLT, Int.reduceLE, Int.reduceToNat, Int.reduceNeg, Int.reduceEq, ↓reduceIte, reduceCtorEq, ↓reduceDIte]
theorem call_vpc (l : List Int) (n : Nat) (h1 : 1 ≤ n) (hn : n < 1000000) (hb : l.length < 1000000000000000000) : callOf pr 46 [L l, .rp [I n]] [] = some (B (!orderB l n), []) := by
  rw [call_eq pr 46 _ _ Try.f46 fn_46 _ rfl _ ann_46 rfl]
  simp -implicitDefEqProofs only [call_order l n h1 hn hb, go_sem, Nat.reduceAdd, Nat.reduceSub, Nat.reduceMul, Nat.reduceMod, Nat.reduceLT, Nat.reduceLeDiff, Nat.reduceEqDiff, Nat.reduceBEq, Nat.reduceDiv, Int.reduceLT, Int.reduceLE, Int.reduceToNat, Int.reduceNeg, Int.reduceEq, ↓reduceIte, reduceCtorEq, ↓reduceDIte]
theorem call_vp (hit : List (List Int)) (miss : List Int) (h1 : hit.length < 1000000000000000000) (h2 : miss.length < 1000000000000000000) (hc : ∀ l ∈ hit, l.length < 1000000000000000000) : callOf pr 27 [.agg [LL hit, L miss]] [] = some (B (validP hit miss), []) := by
  have hw := call_ways (miss.length : Int)
  rw [call_eq pr 27 _ _ Try.f27 fn_27 _ rfl _ ann_27 rfl]
  by_cases g1 : 1 ≤ (miss.length : Int) ∧ (miss.length : Int) ≤ 6
  · rw [decide_eq_true g1] at hw
    by_cases g3 : (hit.length : Int) = (miss.length : Int)
    · have hs := call_order miss miss.length (by omega) (by omega) h2
      have hd : decide (1 ≤ miss.length ∧ miss.length ≤ 6 ∧ hit.length = miss.length) = true := decide_eq_true (by omega)
      cases ho : orderB miss miss.length with
      | false =>
        rw [ho] at hs
        have hk : validP hit miss = false := by simp only [validP, hd, ho]; rfl
        simp -implicitDefEqProofs only [call_22, call_43, hw, tr g3, hs, hk, go_sem, Nat.reduceAdd, Nat.reduceSub, Nat.reduceMul, Nat.reduceMod, Nat.reduceLT, Nat.reduceLeDiff, Nat.reduceEqDiff, Nat.reduceBEq, Nat.reduceDiv, Int.reduceLT, Int.reduceLE, Int.reduceToNat, Int.reduceNeg, Int.reduceEq, ↓reduceIte, reduceCtorEq, ↓reduceDIte]
      | true =>
        rw [ho] at hs
        have h := call_45 hit h1 (fun l => !orderB l miss.length) 46 [.rp [I miss.length]] ⟨rfl, of_decide_eq_true rfl⟩ rfl (fun l hl => call_vpc l miss.length (by omega) (by omega) (hc l hl))
        have hk : validP hit miss = !(hit.any fun l => !orderB l miss.length) := by
          simp only [validP, hd, ho, Bool.true_and]
          exact List.all_eq_not_any_not
        simp -implicitDefEqProofs only [call_22, call_43, hw, tr g3, hs, h, hk, go_sem, Nat.reduceAdd, Nat.reduceSub, Nat.reduceMul, Nat.reduceMod, Nat.reduceLT, Nat.reduceLeDiff, Nat.reduceEqDiff, Nat.reduceBEq, Nat.reduceDiv, Int.reduceLT, Int.reduceLE, Int.reduceToNat, Int.reduceNeg, Int.reduceEq, ↓reduceIte, reduceCtorEq, ↓reduceDIte]
    · have hk : validP hit miss = false := by
        have : ¬ hit.length = miss.length := by omega
        simp [validP, this]
      simp -implicitDefEqProofs only [call_22, call_43, hw, fa g3, hk, go_sem, Nat.reduceAdd, Nat.reduceSub, Nat.reduceMul, Nat.reduceMod, Nat.reduceLT, Nat.reduceLeDiff, Nat.reduceEqDiff, Nat.reduceBEq, Nat.reduceDiv, Int.reduceLT, Int.reduceLE, Int.reduceToNat, Int.reduceNeg, Int.reduceEq, ↓reduceIte, reduceCtorEq, ↓reduceDIte]
  · rw [decide_eq_false g1] at hw
    have hk : validP hit miss = false := by
      have : ¬ (1 ≤ miss.length ∧ miss.length ≤ 6 ∧ hit.length = miss.length) := by omega
      simp only [validP, decide_eq_false this, Bool.false_and]
    simp -implicitDefEqProofs only [call_22, call_43, hw, hk, go_sem, Nat.reduceAdd, Nat.reduceSub, Nat.reduceMul, Nat.reduceMod, Nat.reduceLT, Nat.reduceLeDiff, Nat.reduceEqDiff, Nat.reduceBEq, Nat.reduceDiv, Int.reduceLT, Int.reduceLE, Int.reduceToNat, Int.reduceNeg, Int.reduceEq, ↓reduceIte, reduceCtorEq, ↓reduceDIte]

/-- Uses. -/
def addrB (a : Int) : Bool := decide (0 ≤ a ∧ a ≤ 63)
def validU (uses : List Int) : Bool := uses.all addrB && decide (uses.length ≤ 60)
theorem call_vu (xs : List Int) (hb : xs.length < 1000000000000000000) : callOf pr 17 [L xs] [] = some (B (validU xs), []) := by
  have h := call_33 xs hb 0 63
  have e : (!(xs.any fun n => !decide (0 ≤ n ∧ n ≤ 63))) = xs.all addrB := by
    rw [List.all_eq_not_any_not]; rfl
  rw [e] at h
  rw [call_eq pr 17 _ _ Try.f17 fn_17 _ rfl _ ann_17 rfl]
  by_cases g : (xs.length : Int) ≤ 60
  · have hk : validU xs = xs.all addrB := by
      have : xs.length ≤ 60 := by omega
      simp [validU, this]
    simp -implicitDefEqProofs only [tr g, h, hk, go_sem, Nat.reduceAdd, Nat.reduceSub, Nat.reduceMul, Nat.reduceMod, Nat.reduceLT, Nat.reduceLeDiff, Nat.reduceEqDiff, Nat.reduceBEq, Nat.reduceDiv, Int.reduceLT, Int.reduceLE, Int.reduceToNat, Int.reduceNeg, Int.reduceEq, ↓reduceIte, reduceCtorEq, ↓reduceDIte]
  · have hk : validU xs = false := by
      have : ¬ xs.length ≤ 60 := by omega
      simp [validU, this]
    simp -implicitDefEqProofs only [fa g, hk, go_sem, Nat.reduceAdd, Nat.reduceSub, Nat.reduceMul, Nat.reduceMod, Nat.reduceLT, Nat.reduceLeDiff, Nat.reduceEqDiff, Nat.reduceBEq, Nat.reduceDiv, Int.reduceLT, Int.reduceLE, Int.reduceToNat, Int.reduceNeg, Int.reduceEq, ↓reduceIte, reduceCtorEq, ↓reduceDIte]
theorem validP_bound {hit : List (List Int)} {miss : List Int} (h : validP hit miss = true) : 1 ≤ miss.length ∧ miss.length ≤ 6 ∧ hit.length = miss.length ∧ (∀ x ∈ miss, 0 ≤ x ∧ x < (miss.length : Int)) ∧ ∀ l ∈ hit, l.length = miss.length ∧ ∀ x ∈ l, 0 ≤ x ∧ x < (miss.length : Int) := by
  simp only [validP, Bool.and_eq_true, decide_eq_true_eq, List.all_eq_true] at h
  obtain ⟨⟨h1, h2, h3⟩, h4, h5⟩ := h
  exact ⟨h1, h2, h3, (order_bound h4).2, fun l hl => order_bound (h5 l hl)⟩
end Go.Proofs.Ytjcldkfgpifebaa.PI
