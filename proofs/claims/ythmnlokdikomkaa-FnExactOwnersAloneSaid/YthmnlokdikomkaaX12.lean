/- Owners alone. -/
import Derived.Test.YthmnlokdikomkaaX9
namespace Go.Proofs.Ythmnlokdikomkaa.PI
open Go Go.Q
set_option maxRecDepth 100000
set_option maxHeartbeats 8000000
set_option linter.unusedSimpArgs false
set_option linter.unusedVariables false
def heldN : List Int → Nat
  | [] => 0
  | x :: cs => (if x = 0 then 0 else 1) + heldN cs
def ownN : List Int → Nat
  | [] => 0
  | x :: cs => (if 2 ≤ x then 1 else 0) + ownN cs
theorem own_any : ∀ cs : List Int, (cs.any fun x => decide (2 ≤ x)) = decide (ownN cs ≠ 0)
  | [] => by simp [ownN]
  | x :: cs => by
    have := own_any cs
    simp only [List.any_cons, this, ownN]
    by_cases h : 2 ≤ x <;> simp [h]
/-- Others, above the place. -/
theorem oth_past (c : Int) : ∀ (cs : List Int) (i : Int), c < i → othB c i cs = decide (heldN cs ≠ 0)
  | [], i, _ => by simp [othB, heldN]
  | x :: cs, i, h => by
    rw [othB, oth_past c cs (i + 1) (by omega)]
    have : ¬ i = c := by omega
    by_cases hx : x = 0 <;> simp [this, hx, heldN]
theorem held_pos : ∀ (cs : List Int) (j : Nat), j < cs.length → cs.getD j 0 ≠ 0 → heldN cs ≠ 0
  | [], _, h, _ => by simp at h
  | x :: cs, 0, _, h => by
    have h : x ≠ 0 := h
    simp only [heldN, h, if_false]
    omega
  | x :: cs, j + 1, hl, h => by
    have := held_pos cs j (by simpa using hl) h
    simp only [heldN]
    omega
theorem oth_held (c : Int) : ∀ (cs : List Int) (i : Int) (j : Nat), i + j = c → j < cs.length → cs.getD j 0 ≠ 0 → othB c i cs = decide (heldN cs ≠ 1)
  | [], _, _, _, h, _ => by simp at h
  | x :: cs, i, 0, hi, _, h => by
    have h : x ≠ 0 := h
    have hi : i = c := by simpa using hi
    rw [othB, oth_past c cs (i + 1) (by omega)]
    simp [hi, heldN, h]
    try omega
  | x :: cs, i, j + 1, hi, hl, h => by
    have hl : j < cs.length := by simpa using hl
    have ih := oth_held c cs (i + 1) j (by omega) hl h
    have hp := held_pos cs j hl h
    rw [othB, ih]
    have : ¬ i = c := by omega
    by_cases hx : x = 0
    · simp [this, hx, heldN]
    · simp [this, hx, heldN]
      try omega
/-- A system in which an owner is not alone. -/
def badB (cs : List Int) : Bool := (cs.any fun x => decide (2 ≤ x)) && decide (heldN cs ≠ 1)
theorem bad_eq (cs : List Int) : (!(decide ((ownN cs : Int) = 0) || decide ((heldN cs : Int) = 1))) = badB cs := by
  unfold badB
  rw [own_any]
  have h1 : (((ownN cs : Int) = 0)) = (ownN cs = 0) := by apply propext; omega
  have h2 : (((heldN cs : Int) = 1)) = (heldN cs = 1) := by apply propext; omega
  simp only [h1, h2, Bool.not_or, ne_eq, decide_not]
theorem loop_ia (cs : List Int) (hl : cs.length ≤ 3) : ∀ (rest pre : List Int) (a b : Nat), cs = pre ++ rest → a + rest.length ≤ 3 → b + rest.length ≤ 3 →
    loopOf pr 49 0 ⟨[(3, I a), (4, I b), (8, cI cs), (9, I cs.length), (10, I pre.length)], []⟩ = some (.exit 0, ⟨[(3, I ((a + heldN rest : Nat) : Int)), (4, I ((b + ownN rest : Nat) : Int)), (8, cI cs), (9, I cs.length), (10, I cs.length)], []⟩)
  | [], pre, a, b, h, _, _ => by
    have hlen : cs.length = pre.length := by rw [h]; simp
    rw [loop_eq pr 49 0 _ Try.f49 fn_49 _ rfl _ ann_49 _ rfl]
    simp -implicitDefEqProofs only [hlen, Int.lt_irrefl, heldN, ownN, Nat.add_zero, go_sem, Nat.reduceAdd, Nat.reduceSub, Nat.reduceMul, Nat.reduceMod, Nat.reduceLT, Nat.reduceLeDiff, Nat.reduceEqDiff, Nat.reduceBEq, Nat.reduceDiv, Int.reduceLT, Int.reduceLE, Int.reduceToNat, Int.reduceNeg, Int.reduceEq, ↓reduceIte, reduceCtorEq, ↓reduceDIte]
  | x :: rest, pre, a, b, h, ha, hb => by
    have hlen : cs.length = pre.length + (rest.length + 1) := by rw [h]; simp
    have hk : pre.length < cs.length := by omega
    simp only [List.length_cons] at ha hb
    have hg : ∀ z, cs.getD pre.length z = x := by intro z; rw [h]; simp
    have hws := wrap_succ hk (show cs.length < 1000000000000000000 by omega)
    have hwa : IntKind.i64.wrap ((a : Int) + 1) = ((a + 1 : Nat) : Int) := by rw [wrap_i] <;> omega
    have hwb : IntKind.i64.wrap ((b : Int) + 1) = ((b + 1 : Nat) : Int) := by rw [wrap_i] <;> omega
    have e1 : (pre ++ [x]).length = pre.length + 1 := by simp
    have ih := fun a b => loop_ia cs hl rest (pre ++ [x]) a b (by rw [h]; simp)
    simp only [e1] at ih
    rw [loop_eq pr 49 0 _ Try.f49 fn_49 _ rfl _ ann_49 _ rfl]
    by_cases h0 : x = 0
    · have h2 : ¬ 2 ≤ x := by omega
      have hh : heldN (x :: rest) = heldN rest := by simp [heldN, h0]
      have ho : ownN (x :: rest) = ownN rest := by simp [ownN, h2]
      rw [hh, ho]
      simp -implicitDefEqProofs only [lt_cast hk, zero_le_cast, Int.toNat_natCast, hg, hws, tr h0, fa h2, ge_iff_le, go_sem, Nat.reduceAdd, Nat.reduceSub, Nat.reduceMul, Nat.reduceMod, Nat.reduceLT, Nat.reduceLeDiff, Nat.reduceEqDiff, Nat.reduceBEq, Nat.reduceDiv, Int.reduceLT, Int.reduceLE, Int.reduceToNat, Int.reduceNeg, Int.reduceEq, ↓reduceIte, reduceCtorEq, ↓reduceDIte]
      exact ih a b (by omega) (by omega)
    · have hh : a + heldN (x :: rest) = a + 1 + heldN rest := by simp only [heldN, h0, if_false]; omega
      rw [hh]
      by_cases h2 : 2 ≤ x
      · have ho : b + ownN (x :: rest) = b + 1 + ownN rest := by simp only [ownN, h2, if_true]; omega
        rw [ho]
        simp -implicitDefEqProofs only [lt_cast hk, zero_le_cast, Int.toNat_natCast, hg, hws, fa h0, tr h2, ge_iff_le, hwa, hwb, go_sem, Nat.reduceAdd, Nat.reduceSub, Nat.reduceMul, Nat.reduceMod, Nat.reduceLT, Nat.reduceLeDiff, Nat.reduceEqDiff, Nat.reduceBEq, Nat.reduceDiv, Int.reduceLT, Int.reduceLE, Int.reduceToNat, Int.reduceNeg, Int.reduceEq, ↓reduceIte, reduceCtorEq, ↓reduceDIte]
        exact ih (a + 1) (b + 1) (by omega) (by omega)
      · have ho : ownN (x :: rest) = ownN rest := by simp [ownN, h2]
        rw [ho]
        simp -implicitDefEqProofs only [lt_cast hk, zero_le_cast, Int.toNat_natCast, hg, hws, fa h0, fa h2, ge_iff_le, hwa, go_sem, Nat.reduceAdd, Nat.reduceSub, Nat.reduceMul, Nat.reduceMod, Nat.reduceLT, Nat.reduceLeDiff, Nat.reduceEqDiff, Nat.reduceBEq, Nat.reduceDiv, Int.reduceLT, Int.reduceLE, Int.reduceToNat, Int.reduceNeg, Int.reduceEq, ↓reduceIte, reduceCtorEq, ↓reduceDIte]
        exact ih (a + 1) b (by omega) (by omega)
theorem call_ia (cs : List Int) (fs : List Bool) (m : Bool) (hl : cs.length ≤ 3) : callOf pr 49 [.agg [cI cs, LB fs, B m]] [] = some (B (decide ((ownN cs : Int) = 0) || decide ((heldN cs : Int) = 1)), []) := by
  have h := loop_ia cs hl cs [] 0 0 rfl (by omega) (by omega)
  rw [Nat.zero_add, Nat.zero_add] at h
  have h : loopOf pr 49 0 ⟨[(3, I 0), (4, I 0), (8, cI cs), (9, I cs.length), (10, I 0)], []⟩ = _ := h
  rw [call_eq pr 49 _ _ Try.f49 fn_49 _ rfl _ ann_49 rfl]
  by_cases ho : (ownN cs : Int) = 0
  · rw [decide_eq_true ho]
    simp -implicitDefEqProofs only [h, tr ho, Bool.true_or, go_sem, Nat.reduceAdd, Nat.reduceSub, Nat.reduceMul, Nat.reduceMod, Nat.reduceLT, Nat.reduceLeDiff, Nat.reduceEqDiff, Nat.reduceBEq, Nat.reduceDiv, Int.reduceLT, Int.reduceLE, Int.reduceToNat, Int.reduceNeg, Int.reduceEq, ↓reduceIte, reduceCtorEq, ↓reduceDIte]
  · rw [decide_eq_false ho]
    by_cases hh : (heldN cs : Int) = 1
    · rw [decide_eq_true hh]
      simp -implicitDefEqProofs only [h, fa ho, tr hh, Bool.false_or, go_sem, Nat.reduceAdd, Nat.reduceSub, Nat.reduceMul, Nat.reduceMod, Nat.reduceLT, Nat.reduceLeDiff, Nat.reduceEqDiff, Nat.reduceBEq, Nat.reduceDiv, Int.reduceLT, Int.reduceLE, Int.reduceToNat, Int.reduceNeg, Int.reduceEq, ↓reduceIte, reduceCtorEq, ↓reduceDIte]
    · rw [decide_eq_false hh]
      simp -implicitDefEqProofs only [h, fa ho, fa hh, Bool.false_or, go_sem, Nat.reduceAdd, Nat.reduceSub, Nat.reduceMul, Nat.reduceMod, Nat.reduceLT, Nat.reduceLeDiff, Nat.reduceEqDiff, Nat.reduceBEq, Nat.reduceDiv, Int.reduceLT, Int.reduceLE, Int.reduceToNat, Int.reduceNeg, Int.reduceEq, ↓reduceIte, reduceCtorEq, ↓reduceDIte]
theorem call_oa1 (cs : List Int) (fs : List Bool) (m : Bool) (hl : cs.length ≤ 3) : callOf pr 48 [.agg [cI cs, LB fs, B m]] [] = some (B (badB cs), []) := by
  have h := call_ia cs fs m hl
  rw [call_eq pr 48 _ _ Try.f48 fn_48 _ rfl _ ann_48 rfl]
  have hb := bad_eq cs
  generalize (decide ((ownN cs : Int) = 0) || decide ((heldN cs : Int) = 1)) = q at *
  rw [← hb]
  cases q <;> simp -implicitDefEqProofs only [h, go_sem, Nat.reduceAdd, Nat.reduceSub, Nat.reduceMul, Nat.reduceMod, Nat.reduceLT, Nat.reduceLeDiff, Nat.reduceEqDiff, Nat.reduceBEq, Nat.reduceDiv, Int.reduceLT, Int.reduceLE, Int.reduceToNat, Int.reduceNeg, Int.reduceEq, ↓reduceIte, reduceCtorEq, ↓reduceDIte]
theorem loop_ixs (xs : List Sd) (hs : ∀ x ∈ xs, x.1.length ≤ 3) (hb : xs.length < 1000000000000000000) : ∀ (n k : Nat), k + n = xs.length →
    loopOf pr 93 0 ⟨[(0, .d (.slice tS) xs), (1, .fn 48 []), (7, I xs.length), (8, I k)], []⟩ = match (xs.drop k).findIdx? fun x => badB x.1 with
    | some i => some (.ret, ⟨[(4, I ((k + i : Nat) : Int))], []⟩)
    | none => some (.exit 0, ⟨[(0, .d (.slice tS) xs), (1, .fn 48 []), (7, I xs.length), (8, I xs.length)], []⟩)
  | 0, k, h => by
    have : k = xs.length := by omega
    subst this
    rw [List.drop_of_length_le (Nat.le_refl _), loop_eq pr 93 0 _ Try.f93 fn_93 _ rfl _ ann_93 _ rfl]
    simp -implicitDefEqProofs only [Int.lt_irrefl, List.findIdx?_nil, go_sem, Nat.reduceAdd, Nat.reduceSub, Nat.reduceMul, Nat.reduceMod, Nat.reduceLT, Nat.reduceLeDiff, Nat.reduceEqDiff, Nat.reduceBEq, Nat.reduceDiv, Int.reduceLT, Int.reduceLE, Int.reduceToNat, Int.reduceNeg, Int.reduceEq, ↓reduceIte, reduceCtorEq, ↓reduceDIte]
  | n + 1, k, h => by
    have hlt : k < xs.length := by omega
    have ih := loop_ixs xs hs hb n (k + 1) (by omega)
    have c1 := call_oa1 (xs.getD k ([], [], false, ())).1 (xs.getD k ([], [], false, ())).2.1 (xs.getD k ([], [], false, ())).2.2.1 (by rw [getD_of_lt hlt]; exact hs _ (List.getElem_mem hlt))
    rw [List.drop_eq_getElem_cons hlt, List.findIdx?_cons, loop_eq pr 93 0 _ Try.f93 fn_93 _ rfl _ ann_93 _ rfl]
    rw [← getD_of_lt hlt ([], [], false, ())]
    cases hq : badB (xs.getD k ([], [], false, ())).1 with
    | true =>
      rw [hq] at c1
      simp -implicitDefEqProofs only [lt_cast hlt, zero_le_cast, Int.toNat_natCast, wrap_succ hlt hb, c1, go_sem, Nat.reduceAdd, Nat.reduceSub, Nat.reduceMul, Nat.reduceMod, Nat.reduceLT, Nat.reduceLeDiff, Nat.reduceEqDiff, Nat.reduceBEq, Nat.reduceDiv, Int.reduceLT, Int.reduceLE, Int.reduceToNat, Int.reduceNeg, Int.reduceEq, ↓reduceIte, reduceCtorEq, ↓reduceDIte]
      rfl
    | false =>
      rw [hq] at c1
      simp -implicitDefEqProofs only [lt_cast hlt, zero_le_cast, Int.toNat_natCast, wrap_succ hlt hb, c1, go_sem, Nat.reduceAdd, Nat.reduceSub, Nat.reduceMul, Nat.reduceMod, Nat.reduceLT, Nat.reduceLeDiff, Nat.reduceEqDiff, Nat.reduceBEq, Nat.reduceDiv, Int.reduceLT, Int.reduceLE, Int.reduceToNat, Int.reduceNeg, Int.reduceEq, ↓reduceIte, reduceCtorEq, ↓reduceDIte]
      rw [ih]
      cases List.findIdx? (fun x => badB x.1) (List.drop (k + 1) xs) with
      | none => rfl
      | some i => simp only [Option.map_some]; rw [show k + 1 + i = k + (i + 1) from by omega]
theorem call_ixs (xs : List Sd) (hs : ∀ x ∈ xs, x.1.length ≤ 3) (hb : xs.length < 1000000000000000000) :
    callOf pr 93 [.d (.slice tS) xs, .fn 48 []] [] = some (I (match xs.findIdx? fun x => badB x.1 with | some i => (i : Int) | none => -1), []) := by
  have h : loopOf pr 93 0 ⟨[(0, .d (.slice tS) xs), (1, .fn 48 []), (7, I xs.length), (8, I 0)], []⟩ = _ := loop_ixs xs hs hb xs.length 0 (by omega)
  rw [call_eq pr 93 _ _ Try.f93 fn_93 _ rfl _ ann_93 rfl]
  rw [List.drop_zero] at h
  cases hf : xs.findIdx? fun x => badB x.1 with
  | none =>
    rw [hf] at h
    simp -implicitDefEqProofs only [h, go_sem, Nat.reduceAdd, Nat.reduceSub, Nat.reduceMul, Nat.reduceMod, Nat.reduceLT, Nat.reduceLeDiff, Nat.reduceEqDiff, Nat.reduceBEq, Nat.reduceDiv, Int.reduceLT, Int.reduceLE, Int.reduceToNat, Int.reduceNeg, Int.reduceEq, ↓reduceIte, reduceCtorEq, ↓reduceDIte]
  | some i =>
    rw [hf] at h
    simp only [Nat.zero_add] at h
    simp -implicitDefEqProofs only [h, go_sem, Nat.reduceAdd, Nat.reduceSub, Nat.reduceMul, Nat.reduceMod, Nat.reduceLT, Nat.reduceLeDiff, Nat.reduceEqDiff, Nat.reduceBEq, Nat.reduceDiv, Int.reduceLT, Int.reduceLE, Int.reduceToNat, Int.reduceNeg, Int.reduceEq, ↓reduceIte, reduceCtorEq, ↓reduceDIte]
theorem call_cfs (xs : List Sd) (hs : ∀ x ∈ xs, x.1.length ≤ 3) (hb : xs.length < 1000000000000000000) : callOf pr 47 [.d (.slice tS) xs, .fn 48 []] [] = some (B (xs.any fun x => badB x.1), []) := by
  have h := call_ixs xs hs hb
  rw [call_eq pr 47 _ _ Try.f47 fn_47 _ rfl _ ann_47 rfl]
  rw [← any_of_find]
  simp -implicitDefEqProofs only [h, go_sem, Nat.reduceAdd, Nat.reduceSub, Nat.reduceMul, Nat.reduceMod, Nat.reduceLT, Nat.reduceLeDiff, Nat.reduceEqDiff, Nat.reduceBEq, Nat.reduceDiv, Int.reduceLT, Int.reduceLE, Int.reduceToNat, Int.reduceNeg, Int.reduceEq, ↓reduceIte, reduceCtorEq, ↓reduceDIte]
  try rfl
def aloneR (ns : List Nd) : Bool := !(ns.any fun nd => badB nd.1.1)
theorem call_oai (pa pb pv pd pe : List Ru) (n : Int) : callOf pr 16 [pA pa pb pv pd pe, I n] [] = if icB pa pb pv pd pe n = true then some (.tuple [B (aloneR (found (nextF pa pb pv pd pe) n.toNat).1), B true], []) else some (.tuple [B false, B false], []) := by
  have c1 := call_ic pa pb pv pd pe n
  rw [call_eq pr 16 _ _ Try.f16 fn_16 _ rfl _ ann_16 rfl]
  cases hc : icB pa pb pv pd pe n with
  | false =>
    rw [hc] at c1
    simp -implicitDefEqProofs only [c1, go_sem, Nat.reduceAdd, Nat.reduceSub, Nat.reduceMul, Nat.reduceMod, Nat.reduceLT, Nat.reduceLeDiff, Nat.reduceEqDiff, Nat.reduceBEq, Nat.reduceDiv, Int.reduceLT, Int.reduceLE, Int.reduceToNat, Int.reduceNeg, Int.reduceEq, ↓reduceIte, reduceCtorEq, ↓reduceDIte]
  | true =>
    rw [hc] at c1
    obtain ⟨hP, m, rfl, hm⟩ := icB_of hc
    have h := call_ex pa pb pv pd pe hP m hm
    have hi := found_inv pa pb pv pd pe hP m hm
    have hl := call_cfs ((found (nextF pa pb pv pd pe) m).1.map (·.1)) (fun x hx => by
      obtain ⟨nd, h1, rfl⟩ := List.mem_map.1 hx
      have := (hi.ok nd h1).1
      omega) (by have := hi.le hm.2; rw [List.length_map]; omega)
    rw [Int.toNat_natCast]
    have he : ((found (nextF pa pb pv pd pe) m).1.map (·.1)).any (fun x => badB x.1) = (found (nextF pa pb pv pd pe) m).1.any fun nd => badB nd.1.1 := by rw [List.any_map]; rfl
    rw [he] at hl
    unfold aloneR
    generalize ((found (nextF pa pb pv pd pe) m).1.any fun nd => badB nd.1.1) = q at *
    generalize flo (found (nextF pa pb pv pd pe) m) = fo at *
    cases fo with
    | none =>
      simp only [flV, flH] at h
      cases q <;> (simp -implicitDefEqProofs only [c1, h, hl, go_sem, Nat.reduceAdd, Nat.reduceSub, Nat.reduceMul, Nat.reduceMod, Nat.reduceLT, Nat.reduceLeDiff, Nat.reduceEqDiff, Nat.reduceBEq, Nat.reduceDiv, Int.reduceLT, Int.reduceLE, Int.reduceToNat, Int.reduceNeg, Int.reduceEq, ↓reduceIte, reduceCtorEq, ↓reduceDIte] <;> rfl)
    | some fp =>
      simp only [flV, flH] at h
      cases q <;> (simp -implicitDefEqProofs only [c1, h, hl, go_sem, Nat.reduceAdd, Nat.reduceSub, Nat.reduceMul, Nat.reduceMod, Nat.reduceLT, Nat.reduceLeDiff, Nat.reduceEqDiff, Nat.reduceBEq, Nat.reduceDiv, Int.reduceLT, Int.reduceLE, Int.reduceToNat, Int.reduceNeg, Int.reduceEq, ↓reduceIte, reduceCtorEq, ↓reduceDIte] <;> rfl)
theorem loop_oc (d : Bool) (ns : List Nd) (k i : Nat) (hik : i < ns.length) (n : Nat) (cs : List Int) (fs : List Bool) (m : Bool) (fr ok oc : Int) (hg : ∀ z, ns.getD i z = ((cs, fs, m, ()), fr, (ok, oc, ()), ())) (hl : cs.length ≤ 3) (hn : cs.length = n) : ∀ (rest pre : List Int), cs = pre ++ rest →
    loopOf pr 29 1 ⟨[(1, I n), (6, .sub (.t 1280) 0 k), (8, I i), (9, .el (.t 1280) i 0), (10, I pre.length)], [(1280, .arr true d tN ns)]⟩ =
      if ((rest.any fun x => decide (2 ≤ x)) && decide (heldN cs ≠ 1)) = true then some (.ret, ⟨[(4, B false), (5, B true)], [(1280, .arr true d tN ns)]⟩) else some (.exit 2, ⟨[(1, I n), (6, .sub (.t 1280) 0 k), (8, I i), (9, .el (.t 1280) i 0), (10, I n)], [(1280, .arr true d tN ns)]⟩)
  | [], pre, h => by
    have hlen : (pre.length : Int) = (n : Int) := by rw [← hn, h]; simp
    rw [List.any_nil, Bool.false_and, if_neg (by simp), loop_eq pr 29 1 _ Try.f29 fn_29 _ rfl _ ann_29 _ rfl]
    simp -implicitDefEqProofs only [hlen, Int.lt_irrefl, go_sem, Nat.reduceAdd, Nat.reduceSub, Nat.reduceMul, Nat.reduceMod, Nat.reduceLT, Nat.reduceLeDiff, Nat.reduceEqDiff, Nat.reduceBEq, Nat.reduceDiv, Int.reduceLT, Int.reduceLE, Int.reduceToNat, Int.reduceNeg, Int.reduceEq, ↓reduceIte, reduceCtorEq, ↓reduceDIte]
  | x :: rest, pre, h => by
    have hlen : cs.length = pre.length + (rest.length + 1) := by rw [h]; simp
    have hk : pre.length < cs.length := by omega
    have hkn : ((pre.length : Int) < (n : Int)) = True := tr (by omega)
    have hgx : ∀ z, cs.getD pre.length z = x := by intro z; rw [h]; simp
    have hws : IntKind.i64.wrap ((pre.length : Int) + 1) = ((pre.length + 1 : Nat) : Int) := by rw [wrap_i] <;> omega
    have e1 : (pre ++ [x]).length = pre.length + 1 := by simp
    have ih := loop_oc d ns k i hik n cs fs m fr ok oc hg hl hn rest (pre ++ [x]) (by rw [h]; simp)
    rw [e1] at ih
    have c1 := call_ot6 fr ok oc pre.length cs fs m (by omega)
    rw [loop_eq pr 29 1 _ Try.f29 fn_29 _ rfl _ ann_29 _ rfl, List.any_cons]
    by_cases h2 : 2 ≤ x
    · rw [decide_eq_true h2, Bool.true_or, Bool.true_and]
      rw [oth_held pre.length cs 0 pre.length (by omega) hk (by rw [hgx]; omega)] at c1
      by_cases hh : heldN cs ≠ 1
      · rw [decide_eq_true hh] at c1 ⊢
        rw [if_pos rfl]
        cases d <;> simp -implicitDefEqProofs only [hkn, hg, hgx, lt_cast hk, tr hk, lt_cast hik, tr hik, zero_le_cast, Int.toNat_natCast, hws, ge_iff_le, tr h2, c1, go_sem, Nat.reduceAdd, Nat.reduceSub, Nat.reduceMul, Nat.reduceMod, Nat.reduceLT, Nat.reduceLeDiff, Nat.reduceEqDiff, Nat.reduceBEq, Nat.reduceDiv, Int.reduceLT, Int.reduceLE, Int.reduceToNat, Int.reduceNeg, Int.reduceEq, ↓reduceIte, reduceCtorEq, ↓reduceDIte]
      · rw [decide_eq_false hh] at c1 ih ⊢
        rw [if_neg (by simp)]
        rw [Bool.and_false, if_neg (by simp)] at ih
        rw [← ih]
        cases d <;> simp -implicitDefEqProofs only [hkn, hg, hgx, lt_cast hk, tr hk, lt_cast hik, tr hik, zero_le_cast, Int.toNat_natCast, hws, ge_iff_le, tr h2, c1, go_sem, Nat.reduceAdd, Nat.reduceSub, Nat.reduceMul, Nat.reduceMod, Nat.reduceLT, Nat.reduceLeDiff, Nat.reduceEqDiff, Nat.reduceBEq, Nat.reduceDiv, Int.reduceLT, Int.reduceLE, Int.reduceToNat, Int.reduceNeg, Int.reduceEq, ↓reduceIte, reduceCtorEq, ↓reduceDIte]
    · rw [decide_eq_false h2, Bool.false_or, ← ih]
      cases d <;> simp -implicitDefEqProofs only [hkn, hg, hgx, lt_cast hk, tr hk, lt_cast hik, tr hik, zero_le_cast, Int.toNat_natCast, hws, ge_iff_le, fa h2, go_sem, Nat.reduceAdd, Nat.reduceSub, Nat.reduceMul, Nat.reduceMod, Nat.reduceLT, Nat.reduceLeDiff, Nat.reduceEqDiff, Nat.reduceBEq, Nat.reduceDiv, Int.reduceLT, Int.reduceLE, Int.reduceToNat, Int.reduceNeg, Int.reduceEq, ↓reduceIte, reduceCtorEq, ↓reduceDIte]
theorem loop_oo (d : Bool) (ns : List Nd) (k : Nat) (hk : k ≤ ns.length) (hle : ns.length < 5000) (n : Nat) (hn : n ≤ 3) (hok : ∀ i, i < k → okS n (ns.getD i dN).1) : ∀ (j i : Nat), i + j = k →
    loopOf pr 29 0 ⟨[(1, I n), (6, .sub (.t 1280) 0 k), (8, I i)], [(1280, .arr true d tN ns)]⟩ = if (((ns.take k).drop i).any fun nd => badB nd.1.1) = true then some (.ret, ⟨[(4, B false), (5, B true)], [(1280, .arr true d tN ns)]⟩) else some (.exit 0, ⟨[(1, I n), (6, .sub (.t 1280) 0 k), (8, I k)], [(1280, .arr true d tN ns)]⟩)
  | 0, i, h => by
    have : i = k := by omega
    subst this
    rw [List.drop_of_length_le (by rw [List.length_take]; omega), List.any_nil, if_neg (by simp), loop_eq pr 29 0 _ Try.f29 fn_29 _ rfl _ ann_29 _ rfl]
    cases d <;> simp -implicitDefEqProofs only [Int.lt_irrefl, go_sem, Nat.reduceAdd, Nat.reduceSub, Nat.reduceMul, Nat.reduceMod, Nat.reduceLT, Nat.reduceLeDiff, Nat.reduceEqDiff, Nat.reduceBEq, Nat.reduceDiv, Int.reduceLT, Int.reduceLE, Int.reduceToNat, Int.reduceNeg, Int.reduceEq, ↓reduceIte, reduceCtorEq, ↓reduceDIte]
  | j + 1, i, h => by
    have hi : i < ns.length := by omega
    have ih := loop_oo d ns k hk hle n hn hok j (i + 1) (by omega)
    have hg : ∀ z, ns.getD i z = ns.getD i dN := fun z => by rw [getD_of_lt hi, getD_of_lt hi]
    have hs := hok i (by omega)
    have hlt : i < (ns.take k).length := by rw [List.length_take]; omega
    have hd : (ns.take k).drop i = ns.getD i dN :: (ns.take k).drop (i + 1) := by
      rw [List.drop_eq_getElem_cons hlt, List.getElem_take, getD_of_lt hi]
    rw [hd, List.any_cons]
    generalize hX : ns.getD i dN = X at *
    obtain ⟨⟨cs, fs, m, ⟨⟩⟩, fr, ⟨ok, oc, ⟨⟩⟩, ⟨⟩⟩ := X
    obtain ⟨g1, g2, g3⟩ := hs
    simp only at g1 g2 g3
    have hl := loop_oc d ns k i hi n cs fs m fr ok oc hg (by omega) g1 cs [] rfl
    have hb : ((cs.any fun x => decide (2 ≤ x)) && decide (heldN cs ≠ 1)) = badB cs := rfl
    rw [hb] at hl
    have hl : loopOf pr 29 1 ⟨[(1, I n), (6, .sub (.t 1280) 0 k), (8, I i), (9, .el (.t 1280) i 0), (10, I 0)], [(1280, .arr true d tN ns)]⟩ = _ := hl
    have hws : IntKind.i64.wrap ((i : Int) + 1) = ((i + 1 : Nat) : Int) := by rw [wrap_i] <;> omega
    have hik : ((i : Int) < (k : Int)) = True := tr (by omega)
    have hik2 : (i < k) = True := tr (by omega)
    rw [loop_eq pr 29 0 _ Try.f29 fn_29 _ rfl _ ann_29 _ rfl]
    cases hq : badB cs with
    | true =>
      rw [hq, if_pos rfl] at hl
      rw [Bool.true_or, if_pos rfl]
      cases d <;> simp -implicitDefEqProofs only [hik, hik2, zero_le_cast, Int.toNat_natCast, Nat.zero_add, hl, go_sem, Nat.reduceAdd, Nat.reduceSub, Nat.reduceMul, Nat.reduceMod, Nat.reduceLT, Nat.reduceLeDiff, Nat.reduceEqDiff, Nat.reduceBEq, Nat.reduceDiv, Int.reduceLT, Int.reduceLE, Int.reduceToNat, Int.reduceNeg, Int.reduceEq, ↓reduceIte, reduceCtorEq, ↓reduceDIte]
    | false =>
      rw [hq, if_neg (by simp)] at hl
      rw [Bool.false_or, ← ih]
      cases d <;> simp -implicitDefEqProofs only [hik, hik2, zero_le_cast, Int.toNat_natCast, Nat.zero_add, hl, hws, go_sem, Nat.reduceAdd, Nat.reduceSub, Nat.reduceMul, Nat.reduceMod, Nat.reduceLT, Nat.reduceLeDiff, Nat.reduceEqDiff, Nat.reduceBEq, Nat.reduceDiv, Int.reduceLT, Int.reduceLE, Int.reduceToNat, Int.reduceNeg, Int.reduceEq, ↓reduceIte, reduceCtorEq, ↓reduceDIte]
theorem call_oas (pa pb pv pd pe : List Ru) (n : Int) : callOf pr 29 [pA pa pb pv pd pe, I n] [] = if icB pa pb pv pd pe n = true then some (.tuple [B (aloneR (found (nextF pa pb pv pd pe) n.toNat).1), B true], []) else some (.tuple [B false, B false], []) := by
  have c1 := call_si pa pb pv pd pe
  have c2 := call_lc n
  rw [call_eq pr 29 _ _ Try.f29 fn_29 _ rfl _ ann_29 rfl]
  cases hp : protB pa pb pv pd pe with
  | false =>
    rw [hp] at c1
    rw [icB, hp, Bool.false_and, if_neg (by simp)]
    simp -implicitDefEqProofs only [c1, go_sem, Nat.reduceAdd, Nat.reduceSub, Nat.reduceMul, Nat.reduceMod, Nat.reduceLT, Nat.reduceLeDiff, Nat.reduceEqDiff, Nat.reduceBEq, Nat.reduceDiv, Int.reduceLT, Int.reduceLE, Int.reduceToNat, Int.reduceNeg, Int.reduceEq, ↓reduceIte, reduceCtorEq, ↓reduceDIte]
  | true =>
  rw [hp] at c1
  by_cases hn : 1 ≤ n ∧ n ≤ 3
  · rw [decide_eq_true hn] at c2
    rw [icB, hp, decide_eq_true hn, Bool.true_and, if_pos rfl]
    obtain ⟨m, rfl⟩ : ∃ m : Nat, n = m := ⟨n.toNat, by omega⟩
    have hm : 1 ≤ m ∧ m ≤ 3 := by omega
    obtain ⟨d', h⟩ := sx_call pa pb pv pd pe hp m hm
    have hi := found_inv pa pb pv pd pe hp m hm
    have hle := hi.le hm.2
    rw [Int.toNat_natCast]
    generalize found (nextF pa pb pv pd pe) m = st at *
    obtain ⟨ns, la⟩ := st
    simp only at h hle ⊢
    have hok : ∀ i, i < ns.length → okS m (ns.getD i dN).1 := fun i hlt => hi.ok _ (by rw [getD_of_lt hlt]; exact List.getElem_mem hlt)
    unfold aloneR
    cases la with
    | none =>
      simp only [Option.isSome_none, Option.toList_none, List.append_nil] at h
      have hl := loop_oo d' ns ns.length (Nat.le_refl _) (by omega) m hm.2 hok ns.length 0 (by omega)
      rw [List.take_length, List.drop_zero] at hl
      have hl : loopOf pr 29 0 ⟨[(1, I m), (6, .sub (.t 1280) 0 ns.length), (8, I 0)], [(1280, .arr true d' tN ns)]⟩ = _ := hl
      cases hq : (ns.any fun nd => badB nd.1.1) with
      | true =>
        rw [hq, if_pos rfl] at hl
        cases d' <;> (simp -implicitDefEqProofs only [c1, c2, h, hl, go_sem, Nat.reduceAdd, Nat.reduceSub, Nat.reduceMul, Nat.reduceMod, Nat.reduceLT, Nat.reduceLeDiff, Nat.reduceEqDiff, Nat.reduceBEq, Nat.reduceDiv, Int.reduceLT, Int.reduceLE, Int.reduceToNat, Int.reduceNeg, Int.reduceEq, ↓reduceIte, reduceCtorEq, ↓reduceDIte] <;> rfl)
      | false =>
        rw [hq, if_neg (by simp)] at hl
        cases d' <;> (simp -implicitDefEqProofs only [c1, c2, h, hl, go_sem, Nat.reduceAdd, Nat.reduceSub, Nat.reduceMul, Nat.reduceMod, Nat.reduceLT, Nat.reduceLeDiff, Nat.reduceEqDiff, Nat.reduceBEq, Nat.reduceDiv, Int.reduceLT, Int.reduceLE, Int.reduceToNat, Int.reduceNeg, Int.reduceEq, ↓reduceIte, reduceCtorEq, ↓reduceDIte] <;> rfl)
    | some nd =>
      have hw : IntKind.i64.wrap (((ns ++ [nd]).length : Int) - 1) = (ns.length : Int) := by
        rw [List.length_append, List.length_cons, List.length_nil, wrap_i] <;> omega
      have hle1 : ((ns.length : Int) ≤ ((ns ++ [nd]).length : Int)) = True := tr (by rw [List.length_append]; omega)
      have hle2 : (ns.length ≤ (ns ++ [nd]).length) = True := tr (by rw [List.length_append]; omega)
      simp only [Option.isSome_some, Option.toList_some] at h
      have hl := loop_oo d' (ns ++ [nd]) ns.length (by rw [List.length_append]; omega) (by rw [List.length_append, List.length_cons, List.length_nil]; omega) m hm.2 (fun i hlt => by
        have := hok i hlt
        rw [getD_of_lt hlt] at this
        rw [getD_of_lt (by rw [List.length_append]; omega), List.getElem_append_left hlt]
        exact this) ns.length 0 (by omega)
      rw [List.take_append_of_le_length (Nat.le_refl _), List.take_length, List.drop_zero] at hl
      have hl : loopOf pr 29 0 ⟨[(1, I m), (6, .sub (.t 1280) 0 ns.length), (8, I 0)], [(1280, .arr true d' tN (ns ++ [nd]))]⟩ = _ := hl
      cases hq : (ns.any fun nd => badB nd.1.1) with
      | true =>
        rw [hq, if_pos rfl] at hl
        cases d' <;> (simp -implicitDefEqProofs only [c1, c2, h, hw, hle1, hle2, zero_le_cast, Int.toNat_natCast, Nat.sub_zero, hl, go_sem, Nat.reduceAdd, Nat.reduceSub, Nat.reduceMul, Nat.reduceMod, Nat.reduceLT, Nat.reduceLeDiff, Nat.reduceEqDiff, Nat.reduceBEq, Nat.reduceDiv, Int.reduceLT, Int.reduceLE, Int.reduceToNat, Int.reduceNeg, Int.reduceEq, ↓reduceIte, reduceCtorEq, ↓reduceDIte] <;> rfl)
      | false =>
        rw [hq, if_neg (by simp)] at hl
        cases d' <;> (simp -implicitDefEqProofs only [c1, c2, h, hw, hle1, hle2, zero_le_cast, Int.toNat_natCast, Nat.sub_zero, hl, go_sem, Nat.reduceAdd, Nat.reduceSub, Nat.reduceMul, Nat.reduceMod, Nat.reduceLT, Nat.reduceLeDiff, Nat.reduceEqDiff, Nat.reduceBEq, Nat.reduceDiv, Int.reduceLT, Int.reduceLE, Int.reduceToNat, Int.reduceNeg, Int.reduceEq, ↓reduceIte, reduceCtorEq, ↓reduceDIte] <;> rfl)
  · rw [decide_eq_false hn] at c2
    rw [icB, hp, decide_eq_false hn, Bool.true_and, if_neg (by simp)]
    simp -implicitDefEqProofs only [c1, c2, go_sem, Nat.reduceAdd, Nat.reduceSub, Nat.reduceMul, Nat.reduceMod, Nat.reduceLT, Nat.reduceLeDiff, Nat.reduceEqDiff, Nat.reduceBEq, Nat.reduceDiv, Int.reduceLT, Int.reduceLE, Int.reduceToNat, Int.reduceNeg, Int.reduceEq, ↓reduceIte, reduceCtorEq, ↓reduceDIte]
theorem law_owners (a b v d e : List Ru) (n : Int) (hx : Bd wide (.agg (.cons (.slice tyR) (.cons (.slice tyR) (.cons (.slice tyR) (.cons (.slice tyR) (.cons (.slice tyR) .nil)))))) (a, b, v, d, e, ())) : callOf pr 7 [pA a b v d e, I n] [] = some (B true, []) := by
  obtain ⟨r0, a0, b0, c0⟩ := sz_Protocol (a, b, v, d, e, ()) hx 1048576 (by omega) (by omega)
  have a0 : callOf pr 25 [pA a b v d e, I 1048576] [] = some (I r0, []) := a0
  rw [call_eq pr 7 _ _ Try.f7 fn_7 _ rfl _ ann_7 rfl]
  by_cases g0 : r0 < 0
  · simp -implicitDefEqProofs only [a0, tr g0, go_sem, Nat.reduceAdd, Nat.reduceSub, Nat.reduceMul, Nat.reduceMod, Nat.reduceLT, Nat.reduceLeDiff, Nat.reduceEqDiff, Nat.reduceBEq, Nat.reduceDiv, Int.reduceLT, Int.reduceLE, Int.reduceToNat, Int.reduceNeg, Int.reduceEq, ↓reduceIte, reduceCtorEq, ↓reduceDIte]
  have hp : Bd small (.agg (.cons (.slice tyR) (.cons (.slice tyR) (.cons (.slice tyR) (.cons (.slice tyR) (.cons (.slice tyR) .nil)))))) (a, b, v, d, e, ()) := c0 (by omega)
  have t1 : callOf pr 27 [pA a b v d e] [] = some (.agg [.os (.t 384), .os (.t 640), .os (.t 896), .os (.t 1152), .os (.t 1408)], [(384, .arr true false tyR a), (640, .arr true false tyR b), (896, .arr true false tyR v), (1152, .arr true false tyR d), (1408, .arr true false tyR e)]) := to_Protocol (a, b, v, d, e, ()) hp
  have h1 := call_oas a b v d e n
  have h2 := call_oai a b v d e n
  have e1 : callOf pr 28 [pA a b v d e, pA a b v d e] [] = some (B true, []) := eq_Protocol (a, b, v, d, e, ()) hx
  cases ho : icB a b v d e n with
  | false =>
    rw [ho, if_neg (by simp)] at h1 h2
    simp -implicitDefEqProofs only [a0, fa g0, t1, h1, h2, e1, BEq.rfl, beq_self_eq_true, eq_self_iff_true, go_sem, Nat.reduceAdd, Nat.reduceSub, Nat.reduceMul, Nat.reduceMod, Nat.reduceLT, Nat.reduceLeDiff, Nat.reduceEqDiff, Nat.reduceBEq, Nat.reduceDiv, Int.reduceLT, Int.reduceLE, Int.reduceToNat, Int.reduceNeg, Int.reduceEq, ↓reduceIte, reduceCtorEq, ↓reduceDIte]
  | true =>
    rw [ho, if_pos rfl] at h1 h2
    generalize aloneR (found (nextF a b v d e) n.toNat).1 = q at *
    cases q <;> simp -implicitDefEqProofs only [a0, fa g0, t1, h1, h2, e1, BEq.rfl, beq_self_eq_true, eq_self_iff_true, go_sem, Nat.reduceAdd, Nat.reduceSub, Nat.reduceMul, Nat.reduceMod, Nat.reduceLT, Nat.reduceLeDiff, Nat.reduceEqDiff, Nat.reduceBEq, Nat.reduceDiv, Int.reduceLT, Int.reduceLE, Int.reduceToNat, Int.reduceNeg, Int.reduceEq, ↓reduceIte, reduceCtorEq, ↓reduceDIte]
end Go.Proofs.Ythmnlokdikomkaa.PI
