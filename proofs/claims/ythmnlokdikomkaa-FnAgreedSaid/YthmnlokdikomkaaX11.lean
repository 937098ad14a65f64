/- A step of the reference's, of a system that is the first part of a node. -/
import Derived.Test.YthmnlokdikomkaaK13
import Derived.Test.YthmnlokdikomkaaX5
namespace Go.Proofs.Ythmnlokdikomkaa.PI
open Go Go.Q
set_option maxRecDepth 100000
set_option maxHeartbeats 4000000
set_option linter.unusedSimpArgs false
set_option linter.unusedVariables false
set_option linter.unusedSectionVars false
set_option maxHeartbeats 8000000
section
variable (pa pb pv pd pe : List Ru) (hP : protB pa pb pv pd pe = true) (n : Nat) (hn : 1 ≤ n ∧ n ≤ 3)
include hP hn
end
def icB (pa pb pv pd pe : List Ru) (n : Int) : Bool := protB pa pb pv pd pe && decide (1 ≤ n ∧ n ≤ 3)
theorem call_ic (pa pb pv pd pe : List Ru) (n : Int) : callOf pr 45 [pA pa pb pv pd pe, I n] [] = some (B (icB pa pb pv pd pe n), []) := by
  have c1 := call_vp pa pb pv pd pe
  have c2 := call_iin n 1 3
  rw [call_eq pr 45 _ _ Try.f45 fn_45 _ rfl _ ann_45 rfl]
  unfold icB
  cases hp : protB pa pb pv pd pe with
  | false =>
    rw [hp] at c1
    simp -implicitDefEqProofs only [c1, Bool.false_and, go_sem, Nat.reduceAdd, Nat.reduceSub, Nat.reduceMul, Nat.reduceMod, Nat.reduceLT, Nat.reduceLeDiff, Nat.reduceEqDiff, Nat.reduceBEq, Nat.reduceDiv, Int.reduceLT, Int.reduceLE, Int.reduceToNat, Int.reduceNeg, Int.reduceEq, ↓reduceIte, reduceCtorEq, ↓reduceDIte]
  | true =>
    rw [hp] at c1
    simp -implicitDefEqProofs only [c1, c2, Bool.true_and, go_sem, Nat.reduceAdd, Nat.reduceSub, Nat.reduceMul, Nat.reduceMod, Nat.reduceLT, Nat.reduceLeDiff, Nat.reduceEqDiff, Nat.reduceBEq, Nat.reduceDiv, Int.reduceLT, Int.reduceLE, Int.reduceToNat, Int.reduceNeg, Int.reduceEq, ↓reduceIte, reduceCtorEq, ↓reduceDIte]
theorem call_lens (xs : List Sd) : callOf pr 53 [.d (.slice tS) xs] [] = some (I xs.length, []) := by
  rw [call_eq pr 53 _ _ Try.f53 fn_53 _ rfl _ ann_53 rfl]
  simp -implicitDefEqProofs only [go_sem, Nat.reduceAdd, Nat.reduceSub, Nat.reduceMul, Nat.reduceMod, Nat.reduceLT, Nat.reduceLeDiff, Nat.reduceEqDiff, Nat.reduceBEq, Nat.reduceDiv, Int.reduceLT, Int.reduceLE, Int.reduceToNat, Int.reduceNeg, Int.reduceEq, ↓reduceIte, reduceCtorEq, ↓reduceDIte]
theorem icB_of {pa pb pv pd pe : List Ru} {n : Int} (h : icB pa pb pv pd pe n = true) : protB pa pb pv pd pe = true ∧ ∃ m : Nat, n = m ∧ 1 ≤ m ∧ m ≤ 3 := by
  simp only [icB, Bool.and_eq_true, decide_eq_true_eq] at h
  exact ⟨h.1, n.toNat, by omega, by omega, by omega⟩
theorem found_inv (pa pb pv pd pe : List Ru) (hP : protB pa pb pv pd pe = true) (n : Nat) (hn : 1 ≤ n ∧ n ≤ 3) : Inv n (found (nextF pa pb pv pd pe) n) :=
  bfs_inv (nx_ok pa pb pv pd pe hP n hn) 1025 0 (start_inv hn.1)
theorem call_rsi (pa pb pv pd pe : List Ru) (n : Int) : callOf pr 18 [pA pa pb pv pd pe, I n] [] = if icB pa pb pv pd pe n = true then some (.tuple [I (found (nextF pa pb pv pd pe) n.toNat).1.length, B true], []) else some (.tuple [I 0, B false], []) := by
  have c1 := call_ic pa pb pv pd pe n
  rw [call_eq pr 18 _ _ Try.f18 fn_18 _ rfl _ ann_18 rfl]
  cases hc : icB pa pb pv pd pe n with
  | false =>
    rw [hc] at c1
    simp -implicitDefEqProofs only [c1, go_sem, Nat.reduceAdd, Nat.reduceSub, Nat.reduceMul, Nat.reduceMod, Nat.reduceLT, Nat.reduceLeDiff, Nat.reduceEqDiff, Nat.reduceBEq, Nat.reduceDiv, Int.reduceLT, Int.reduceLE, Int.reduceToNat, Int.reduceNeg, Int.reduceEq, ↓reduceIte, reduceCtorEq, ↓reduceDIte]
  | true =>
    rw [hc] at c1
    obtain ⟨hP, m, rfl, hm⟩ := icB_of hc
    have h := call_ex pa pb pv pd pe hP m hm
    have hl := call_lens ((found (nextF pa pb pv pd pe) m).1.map (·.1))
    rw [List.length_map] at hl
    rw [Int.toNat_natCast]
    generalize flo (found (nextF pa pb pv pd pe) m) = fo at *
    cases fo with
    | none =>
      simp only [flV, flH] at h
      simp -implicitDefEqProofs only [c1, h, hl, go_sem, Nat.reduceAdd, Nat.reduceSub, Nat.reduceMul, Nat.reduceMod, Nat.reduceLT, Nat.reduceLeDiff, Nat.reduceEqDiff, Nat.reduceBEq, Nat.reduceDiv, Int.reduceLT, Int.reduceLE, Int.reduceToNat, Int.reduceNeg, Int.reduceEq, ↓reduceIte, reduceCtorEq, ↓reduceDIte] <;> rfl
    | some fp =>
      simp only [flV, flH] at h
      simp -implicitDefEqProofs only [c1, h, hl, go_sem, Nat.reduceAdd, Nat.reduceSub, Nat.reduceMul, Nat.reduceMod, Nat.reduceLT, Nat.reduceLeDiff, Nat.reduceEqDiff, Nat.reduceBEq, Nat.reduceDiv, Int.reduceLT, Int.reduceLE, Int.reduceToNat, Int.reduceNeg, Int.reduceEq, ↓reduceIte, reduceCtorEq, ↓reduceDIte] <;> rfl
def heldN : List Int → Nat
  | [] => 0
  | x :: cs => (if x = 0 then 0 else 1) + heldN cs
def ownN : List Int → Nat
  | [] => 0
  | x :: cs => (if 2 ≤ x then 1 else 0) + ownN cs
theorem own_any : ∀ cs : List Int, (cs.any fun x => decide (2 ≤ x)) = decide (ownN cs ≠ 0)
  | [] => by simp [ownN]
  | x :: cs => by
    have := own_any cs
    simp only [List.any_cons, this, ownN]
    by_cases h : 2 ≤ x <;> simp [h]
/-- A system in which an owner is not alone. -/
def badB (cs : List Int) : Bool := (cs.any fun x => decide (2 ≤ x)) && decide (heldN cs ≠ 1)
theorem bad_eq (cs : List Int) : (!(decide ((ownN cs : Int) = 0) || decide ((heldN cs : Int) = 1))) = badB cs := by
  unfold badB
  rw [own_any]
  have h1 : (((ownN cs : Int) = 0)) = (ownN cs = 0) := by apply propext; omega
  have h2 : (((heldN cs : Int) = 1)) = (heldN cs = 1) := by apply propext; omega
  simp only [h1, h2, Bool.not_or, ne_eq, decide_not]
theorem loop_ia (cs : List Int) (hl : cs.length ≤ 3) : ∀ (rest pre : List Int) (a b : Nat), cs = pre ++ rest → a + rest.length ≤ 3 → b + rest.length ≤ 3 →
    loopOf pr 49 0 ⟨[(3, I a), (4, I b), (8, cI cs), (9, I cs.length), (10, I pre.length)], []⟩ = some (.exit 0, ⟨[(3, I ((a + heldN rest : Nat) : Int)), (4, I ((b + ownN rest : Nat) : Int)), (8, cI cs), (9, I cs.length), (10, I cs.length)], []⟩)
  | [], pre, a, b, h, _, _ => by
    have hlen : cs.length = pre.length := by rw [h]; simp
    rw [loop_eq pr 49 0 _ Try.f49 fn_49 _ rfl _ ann_49 _ rfl]
    simp -implicitDefEqProofs only [hlen, Int.lt_irrefl, heldN, ownN, Nat.add_zero, go_sem, Nat.reduceAdd, Nat.reduceSub, Nat.reduceMul, Nat.reduceMod, Nat.reduceLT, Nat.reduceLeDiff, Nat.reduceEqDiff, Nat.reduceBEq, Nat.reduceDiv, Int.reduceLT, Int.reduceLE, Int.reduceToNat, Int.reduceNeg, Int.reduceEq, ↓reduceIte, reduceCtorEq, ↓reduceDIte]
  | x :: rest, pre, a, b, h, ha, hb => by
    have hlen : cs.length = pre.length + (rest.length + 1) := by rw [h]; simp
    have hk : pre.length < cs.length := by omega
    simp only [List.length_cons] at ha hb
    have hg : ∀ z, cs.getD pre.length z = x := by intro z; rw [h]; simp
    have hws := wrap_succ hk (show cs.length < 1000000000000000000 by omega)
    have hwa : IntKind.i64.wrap ((a : Int) + 1) = ((a + 1 : Nat) : Int) := by rw [wrap_i] <;> omega
    have hwb : IntKind.i64.wrap ((b : Int) + 1) = ((b + 1 : Nat) : Int) := by rw [wrap_i] <;> omega
    have e1 : (pre ++ [x]).length = pre.length + 1 := by simp
    have ih := fun a b => loop_ia cs hl rest (pre ++ [x]) a b (by rw [h]; simp)
    simp only [e1] at ih
    rw [loop_eq pr 49 0 _ Try.f49 fn_49 _ rfl _ ann_49 _ rfl]
    by_cases h0 : x = 0
    · have h2 : ¬ 2 ≤ x := by omega
      have hh : heldN (x :: rest) = heldN rest := by simp [heldN, h0]
      have ho : ownN (x :: rest) = ownN rest := by simp [ownN, h2]
      rw [hh, ho]
      simp -implicitDefEqProofs only [lt_cast hk, zero_le_cast, Int.toNat_natCast, hg, hws, tr h0, fa h2, ge_iff_le, go_sem, Nat.reduceAdd, Nat.reduceSub, Nat.reduceMul, Nat.reduceMod, Nat.reduceLT, Nat.reduceLeDiff, Nat.reduceEqDiff, Nat.reduceBEq, Nat.reduceDiv, Int.reduceLT, Int.reduceLE, Int.reduceToNat, Int.reduceNeg, Int.reduceEq, ↓reduceIte, reduceCtorEq, ↓reduceDIte]
      exact ih a b (by omega) (by omega)
    · have hh : a + heldN (x :: rest) = a + 1 + heldN rest := by simp only [heldN, h0, if_false]; omega
      rw [hh]
      by_cases h2 : 2 ≤ x
      · have ho : b + ownN (x :: rest) = b + 1 + ownN rest := by simp only [ownN, h2, if_true]; omega
        rw [ho]
        simp -implicitDefEqProofs only [lt_cast hk, zero_le_cast, Int.toNat_natCast, hg, hws, fa h0, tr h2, ge_iff_le, hwa, hwb, go_sem, Nat.reduceAdd, Nat.reduceSub, Nat.reduceMul, Nat.reduceMod, Nat.reduceLT, Nat.reduceLeDiff, Nat.reduceEqDiff, Nat.reduceBEq, Nat.reduceDiv, Int.reduceLT, Int.reduceLE, Int.reduceToNat, Int.reduceNeg, Int.reduceEq, ↓reduceIte, reduceCtorEq, ↓reduceDIte]
        exact ih (a + 1) (b + 1) (by omega) (by omega)
      · have ho : ownN (x :: rest) = ownN rest := by simp [ownN, h2]
        rw [ho]
        simp -implicitDefEqProofs only [lt_cast hk, zero_le_cast, Int.toNat_natCast, hg, hws, fa h0, fa h2, ge_iff_le, hwa, go_sem, Nat.reduceAdd, Nat.reduceSub, Nat.reduceMul, Nat.reduceMod, Nat.reduceLT, Nat.reduceLeDiff, Nat.reduceEqDiff, Nat.reduceBEq, Nat.reduceDiv, Int.reduceLT, Int.reduceLE, Int.reduceToNat, Int.reduceNeg, Int.reduceEq, ↓reduceIte, reduceCtorEq, ↓reduceDIte]
        exact ih (a + 1) b (by omega) (by omega)
theorem call_ia (cs : List Int) (fs : List Bool) (m : Bool) (hl : cs.length ≤ 3) : callOf pr 49 [.agg [cI cs, LB fs, B m]] [] = some (B (decide ((ownN cs : Int) = 0) || decide ((heldN cs : Int) = 1)), []) := by
  have h := loop_ia cs hl cs [] 0 0 rfl (by omega) (by omega)
  rw [Nat.zero_add, Nat.zero_add] at h
  have h : loopOf pr 49 0 ⟨[(3, I 0), (4, I 0), (8, cI cs), (9, I cs.length), (10, I 0)], []⟩ = _ := h
  rw [call_eq pr 49 _ _ Try.f49 fn_49 _ rfl _ ann_49 rfl]
  by_cases ho : (ownN cs : Int) = 0
  · rw [decide_eq_true ho]
    simp -implicitDefEqProofs only [h, tr ho, Bool.true_or, go_sem, Nat.reduceAdd, Nat.reduceSub, Nat.reduceMul, Nat.reduceMod, Nat.reduceLT, Nat.reduceLeDiff, Nat.reduceEqDiff, Nat.reduceBEq, Nat.reduceDiv, Int.reduceLT, Int.reduceLE, Int.reduceToNat, Int.reduceNeg, Int.reduceEq, ↓reduceIte, reduceCtorEq, ↓reduceDIte]
  · rw [decide_eq_false ho]
    by_cases hh : (heldN cs : Int) = 1
    · rw [decide_eq_true hh]
      simp -implicitDefEqProofs only [h, fa ho, tr hh, Bool.false_or, go_sem, Nat.reduceAdd, Nat.reduceSub, Nat.reduceMul, Nat.reduceMod, Nat.reduceLT, Nat.reduceLeDiff, Nat.reduceEqDiff, Nat.reduceBEq, Nat.reduceDiv, Int.reduceLT, Int.reduceLE, Int.reduceToNat, Int.reduceNeg, Int.reduceEq, ↓reduceIte, reduceCtorEq, ↓reduceDIte]
    · rw [decide_eq_false hh]
      simp -implicitDefEqProofs only [h, fa ho, fa hh, Bool.false_or, go_sem, Nat.reduceAdd, Nat.reduceSub, Nat.reduceMul, Nat.reduceMod, Nat.reduceLT, Nat.reduceLeDiff, Nat.reduceEqDiff, Nat.reduceBEq, Nat.reduceDiv, Int.reduceLT, Int.reduceLE, Int.reduceToNat, Int.reduceNeg, Int.reduceEq, ↓reduceIte, reduceCtorEq, ↓reduceDIte]
theorem call_oa1 (cs : List Int) (fs : List Bool) (m : Bool) (hl : cs.length ≤ 3) : callOf pr 48 [.agg [cI cs, LB fs, B m]] [] = some (B (badB cs), []) := by
  have h := call_ia cs fs m hl
  rw [call_eq pr 48 _ _ Try.f48 fn_48 _ rfl _ ann_48 rfl]
  have hb := bad_eq cs
  generalize (decide ((ownN cs : Int) = 0) || decide ((heldN cs : Int) = 1)) = q at *
  rw [← hb]
  cases q <;> simp -implicitDefEqProofs only [h, go_sem, Nat.reduceAdd, Nat.reduceSub, Nat.reduceMul, Nat.reduceMod, Nat.reduceLT, Nat.reduceLeDiff, Nat.reduceEqDiff, Nat.reduceBEq, Nat.reduceDiv, Int.reduceLT, Int.reduceLE, Int.reduceToNat, Int.reduceNeg, Int.reduceEq, ↓reduceIte, reduceCtorEq, ↓reduceDIte]
theorem loop_ixs (xs : List Sd) (hs : ∀ x ∈ xs, x.1.length ≤ 3) (hb : xs.length < 1000000000000000000) : ∀ (n k : Nat), k + n = xs.length →
    loopOf pr 93 0 ⟨[(0, .d (.slice tS) xs), (1, .fn 48 []), (7, I xs.length), (8, I k)], []⟩ = match (xs.drop k).findIdx? fun x => badB x.1 with
    | some i => some (.ret, ⟨[(4, I ((k + i : Nat) : Int))], []⟩)
    | none => some (.exit 0, ⟨[(0, .d (.slice tS) xs), (1, .fn 48 []), (7, I xs.length), (8, I xs.length)], []⟩)
  | 0, k, h => by
    have : k = xs.length := by omega
    subst this
    rw [List.drop_of_length_le (Nat.le_refl _), loop_eq pr 93 0 _ Try.f93 fn_93 _ rfl _ ann_93 _ rfl]
    simp -implicitDefEqProofs only [Int.lt_irrefl, List.findIdx?_nil, go_sem, Nat.reduceAdd, Nat.reduceSub, Nat.reduceMul, Nat.reduceMod, Nat.reduceLT, Nat.reduceLeDiff, Nat.reduceEqDiff, Nat.reduceBEq, Nat.reduceDiv, Int.reduceLT, Int.reduceLE, Int.reduceToNat, Int.reduceNeg, Int.reduceEq, ↓reduceIte, reduceCtorEq, ↓reduceDIte]
  | n + 1, k, h => by
    have hlt : k < xs.length := by omega
    have ih := loop_ixs xs hs hb n (k + 1) (by omega)
    have c1 := call_oa1 (xs.getD k ([], [], false, ())).1 (xs.getD k ([], [], false, ())).2.1 (xs.getD k ([], [], false, ())).2.2.1 (by rw [getD_of_lt hlt]; exact hs _ (List.getElem_mem hlt))
    rw [List.drop_eq_getElem_cons hlt, List.findIdx?_cons, loop_eq pr 93 0 _ Try.f93 fn_93 _ rfl _ ann_93 _ rfl]
    rw [← getD_of_lt hlt ([], [], false, ())]
    cases hq : badB (xs.getD k ([], [], false, ())).1 with
    | true =>
      rw [hq] at c1
      simp -implicitDefEqProofs only [lt_cast hlt, zero_le_cast, Int.toNat_natCast, wrap_succ hlt hb, c1, go_sem, Nat.reduceAdd, Nat.reduceSub, Nat.reduceMul, Nat.reduceMod, Nat.reduceLT, Nat.reduceLeDiff, Nat.reduceEqDiff, Nat.reduceBEq, Nat.reduceDiv, Int.reduceLT, Int.reduceLE, Int.reduceToNat, Int.reduceNeg, Int.reduceEq, ↓reduceIte, reduceCtorEq, ↓reduceDIte]
      rfl
    | false =>
      rw [hq] at c1
      simp -implicitDefEqProofs only [lt_cast hlt, zero_le_cast, Int.toNat_natCast, wrap_succ hlt hb, c1, go_sem, Nat.reduceAdd, Nat.reduceSub, Nat.reduceMul, Nat.reduceMod, Nat.reduceLT, Nat.reduceLeDiff, Nat.reduceEqDiff, Nat.reduceBEq, Nat.reduceDiv, Int.reduceLT, Int.reduceLE, Int.reduceToNat, Int.reduceNeg, Int.reduceEq, ↓reduceIte, reduceCtorEq, ↓reduceDIte]
      rw [ih]
      cases List.findIdx? (fun x => badB x.1) (List.drop (k + 1) xs) with
      | none => rfl
      | some i => simp only [Option.map_some]; rw [show k + 1 + i = k + (i + 1) from by omega]
theorem call_ixs (xs : List Sd) (hs : ∀ x ∈ xs, x.1.length ≤ 3) (hb : xs.length < 1000000000000000000) :
    callOf pr 93 [.d (.slice tS) xs, .fn 48 []] [] = some (I (match xs.findIdx? fun x => badB x.1 with | some i => (i : Int) | none => -1), []) := by
  have h : loopOf pr 93 0 ⟨[(0, .d (.slice tS) xs), (1, .fn 48 []), (7, I xs.length), (8, I 0)], []⟩ = _ := loop_ixs xs hs hb xs.length 0 (by omega)
  rw [call_eq pr 93 _ _ Try.f93 fn_93 _ rfl _ ann_93 rfl]
  rw [List.drop_zero] at h
  cases hf : xs.findIdx? fun x => badB x.1 with
  | none =>
    rw [hf] at h
    simp -implicitDefEqProofs only [h, go_sem, Nat.reduceAdd, Nat.reduceSub, Nat.reduceMul, Nat.reduceMod, Nat.reduceLT, Nat.reduceLeDiff, Nat.reduceEqDiff, Nat.reduceBEq, Nat.reduceDiv, Int.reduceLT, Int.reduceLE, Int.reduceToNat, Int.reduceNeg, Int.reduceEq, ↓reduceIte, reduceCtorEq, ↓reduceDIte]
  | some i =>
    rw [hf] at h
    simp only [Nat.zero_add] at h
    simp -implicitDefEqProofs only [h, go_sem, Nat.reduceAdd, Nat.reduceSub, Nat.reduceMul, Nat.reduceMod, Nat.reduceLT, Nat.reduceLeDiff, Nat.reduceEqDiff, Nat.reduceBEq, Nat.reduceDiv, Int.reduceLT, Int.reduceLE, Int.reduceToNat, Int.reduceNeg, Int.reduceEq, ↓reduceIte, reduceCtorEq, ↓reduceDIte]
theorem call_cfs (xs : List Sd) (hs : ∀ x ∈ xs, x.1.length ≤ 3) (hb : xs.length < 1000000000000000000) : callOf pr 47 [.d (.slice tS) xs, .fn 48 []] [] = some (B (xs.any fun x => badB x.1), []) := by
  have h := call_ixs xs hs hb
  rw [call_eq pr 47 _ _ Try.f47 fn_47 _ rfl _ ann_47 rfl]
  rw [← any_of_find]
  simp -implicitDefEqProofs only [h, go_sem, Nat.reduceAdd, Nat.reduceSub, Nat.reduceMul, Nat.reduceMod, Nat.reduceLT, Nat.reduceLeDiff, Nat.reduceEqDiff, Nat.reduceBEq, Nat.reduceDiv, Int.reduceLT, Int.reduceLE, Int.reduceToNat, Int.reduceNeg, Int.reduceEq, ↓reduceIte, reduceCtorEq, ↓reduceDIte]
  try rfl
def aloneR (ns : List Nd) : Bool := !(ns.any fun nd => badB nd.1.1)
theorem call_oai (pa pb pv pd pe : List Ru) (n : Int) : callOf pr 16 [pA pa pb pv pd pe, I n] [] = if icB pa pb pv pd pe n = true then some (.tuple [B (aloneR (found (nextF pa pb pv pd pe) n.toNat).1), B true], []) else some (.tuple [B false, B false], []) := by
  have c1 := call_ic pa pb pv pd pe n
  rw [call_eq pr 16 _ _ Try.f16 fn_16 _ rfl _ ann_16 rfl]
  cases hc : icB pa pb pv pd pe n with
  | false =>
    rw [hc] at c1
    simp -implicitDefEqProofs only [c1, go_sem, Nat.reduceAdd, Nat.reduceSub, Nat.reduceMul, Nat.reduceMod, Nat.reduceLT, Nat.reduceLeDiff, Nat.reduceEqDiff, Nat.reduceBEq, Nat.reduceDiv, Int.reduceLT, Int.reduceLE, Int.reduceToNat, Int.reduceNeg, Int.reduceEq, ↓reduceIte, reduceCtorEq, ↓reduceDIte]
  | true =>
    rw [hc] at c1
    obtain ⟨hP, m, rfl, hm⟩ := icB_of hc
    have h := call_ex pa pb pv pd pe hP m hm
    have hi := found_inv pa pb pv pd pe hP m hm
    have hl := call_cfs ((found (nextF pa pb pv pd pe) m).1.map (·.1)) (fun x hx => by
      obtain ⟨nd, h1, rfl⟩ := List.mem_map.1 hx
      have := (hi.ok nd h1).1
      omega) (by have := hi.le hm.2; rw [List.length_map]; omega)
    rw [Int.toNat_natCast]
    have he : ((found (nextF pa pb pv pd pe) m).1.map (·.1)).any (fun x => badB x.1) = (found (nextF pa pb pv pd pe) m).1.any fun nd => badB nd.1.1 := by rw [List.any_map]; rfl
    rw [he] at hl
    unfold aloneR
    generalize ((found (nextF pa pb pv pd pe) m).1.any fun nd => badB nd.1.1) = q at *
    generalize flo (found (nextF pa pb pv pd pe) m) = fo at *
    cases fo with
    | none =>
      simp only [flV, flH] at h
      cases q <;> (simp -implicitDefEqProofs only [c1, h, hl, go_sem, Nat.reduceAdd, Nat.reduceSub, Nat.reduceMul, Nat.reduceMod, Nat.reduceLT, Nat.reduceLeDiff, Nat.reduceEqDiff, Nat.reduceBEq, Nat.reduceDiv, Int.reduceLT, Int.reduceLE, Int.reduceToNat, Int.reduceNeg, Int.reduceEq, ↓reduceIte, reduceCtorEq, ↓reduceDIte] <;> rfl)
    | some fp =>
      simp only [flV, flH] at h
      cases q <;> (simp -implicitDefEqProofs only [c1, h, hl, go_sem, Nat.reduceAdd, Nat.reduceSub, Nat.reduceMul, Nat.reduceMod, Nat.reduceLT, Nat.reduceLeDiff, Nat.reduceEqDiff, Nat.reduceBEq, Nat.reduceDiv, Int.reduceLT, Int.reduceLE, Int.reduceToNat, Int.reduceNeg, Int.reduceEq, ↓reduceIte, reduceCtorEq, ↓reduceDIte] <;> rfl)
/-- The ops of the flaw that is found. -/
theorem flo_cons (pa pb pv pd pe : List Ru) (hP : protB pa pb pv pd pe = true) (n : Nat) (hn : 1 ≤ n ∧ n ≤ 3) {fp : List Od} (h : flo (found (nextF pa pb pv pd pe) n) = some fp) : ∃ x fs, fp = x :: fs ∧ fp.length ≤ 1024 := by
  have hi := found_inv pa pb pv pd pe hP n hn
  have hle := hi.le hn.2
  generalize found (nextF pa pb pv pd pe) n = st at *
  obtain ⟨ns, la⟩ := st
  cases la with
  | none => simp [flo] at h
  | some nd =>
    obtain ⟨l1, l2⟩ := hi.last nd rfl
    simp only [flo, Option.map_some, Option.some.injEq, pth] at h
    rw [if_neg (by omega)] at h
    simp only at hle l2
    have hlt : nd.2.1.toNat < (pathsOf ns).length := by rw [pathsOf_length]; omega
    have hpl := paths_le ns hi.par nd.2.1.toNat hlt
    rw [getD_of_lt hlt] at h
    cases fp with
    | nil => simp at h
    | cons x fs =>
      refine ⟨x, fs, rfl, ?_⟩
      rw [← h, List.length_append, List.length_cons, List.length_nil]
      omega
theorem call_sfi (pa pb pv pd pe : List Ru) (n : Int) : callOf pr 15 [pA pa pb pv pd pe, I n] [] = if icB pa pb pv pd pe n = true then (match flo (found (nextF pa pb pv pd pe) n.toNat) with | none => some (.tuple [.nilS, B false], []) | some fp => some (.tuple [.os (.t 961), B true], [(961, .arr true false tyO fp)])) else some (.tuple [.nilS, B false], []) := by
  have c1 := call_ic pa pb pv pd pe n
  rw [call_eq pr 15 _ _ Try.f15 fn_15 _ rfl _ ann_15 rfl]
  cases hc : icB pa pb pv pd pe n with
  | false =>
    rw [hc] at c1
    simp -implicitDefEqProofs only [c1, go_sem, Nat.reduceAdd, Nat.reduceSub, Nat.reduceMul, Nat.reduceMod, Nat.reduceLT, Nat.reduceLeDiff, Nat.reduceEqDiff, Nat.reduceBEq, Nat.reduceDiv, Int.reduceLT, Int.reduceLE, Int.reduceToNat, Int.reduceNeg, Int.reduceEq, ↓reduceIte, reduceCtorEq, ↓reduceDIte]
  | true =>
    rw [hc] at c1
    obtain ⟨hP, m, rfl, hm⟩ := icB_of hc
    have h := call_ex pa pb pv pd pe hP m hm
    rw [Int.toNat_natCast]
    have hfc := fun fp => flo_cons pa pb pv pd pe hP m hm (fp := fp)
    generalize flo (found (nextF pa pb pv pd pe) m) = fo at *
    cases fo with
    | none =>
      simp only [flV, flH] at h
      simp -implicitDefEqProofs only [c1, h, go_sem, Nat.reduceAdd, Nat.reduceSub, Nat.reduceMul, Nat.reduceMod, Nat.reduceLT, Nat.reduceLeDiff, Nat.reduceEqDiff, Nat.reduceBEq, Nat.reduceDiv, Int.reduceLT, Int.reduceLE, Int.reduceToNat, Int.reduceNeg, Int.reduceEq, ↓reduceIte, reduceCtorEq, ↓reduceDIte]
    | some fp =>
      obtain ⟨x, fs, rfl, _⟩ := hfc fp rfl
      simp only [flV, flH] at h
      simp -implicitDefEqProofs only [c1, h, List.length_cons, go_sem, Nat.reduceAdd, Nat.reduceSub, Nat.reduceMul, Nat.reduceMod, Nat.reduceLT, Nat.reduceLeDiff, Nat.reduceEqDiff, Nat.reduceBEq, Nat.reduceDiv, Int.reduceLT, Int.reduceLE, Int.reduceToNat, Int.reduceNeg, Int.reduceEq, ↓reduceIte, reduceCtorEq, ↓reduceDIte]
end Go.Proofs.Ythmnlokdikomkaa.PI
