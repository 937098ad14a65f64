/- Draws. -/
import Derived.Test.YthmnlokdikomkaaK4
import Derived.Test.YthmnlokdikomkaaK13
import Derived.Test.YthmnlokdikomkaaX11
namespace Go.Proofs.Ythmnlokdikomkaa.PI
open Go Go.Q
set_option maxRecDepth 100000
set_option maxHeartbeats 4000000
set_option linter.unusedSimpArgs false
set_option linter.unusedVariables false
abbrev BY (bs : List Int) : AV := .d (.slice (.int .u8)) bs
abbrev SRC (bs : List Int) (at_ : Nat) (seed : Int) : Heap := [(1000000, .box [BY bs, I at_, .d (.int .u64) seed])]
def okBy (bs : List Int) : Prop := bs.length ≤ 1000000000 ∧ ∀ x ∈ bs, 0 ≤ x ∧ x ≤ 255
theorem and_byte (y : Int) : 0 ≤ bitsOf .and .u64 y 255 ∧ bitsOf .and .u64 y 255 ≤ 255 := by
  have h : bitsOf .and .u64 y 255 = IntKind.u64.wrap ((BitVec.ofInt 64 y &&& BitVec.ofInt 64 255).toNat : Int) := rfl
  have h1 : (BitVec.ofInt 64 y &&& BitVec.ofInt 64 255).toNat ≤ 255 := by
    rw [BitVec.toNat_and]
    exact Nat.and_le_right
  rw [h, wrap_u64] <;> omega
theorem call_next (bs : List Int) (hb : okBy bs) (at_ : Nat) (ha : at_ ≤ 1000000) (seed : Int) : ∃ v seed', (0 ≤ v ∧ v ≤ 255) ∧ callOf pr 90 [.op 1000000 0] (SRC bs at_ seed) = some (I v, SRC bs (at_ + 1) seed') := by
  rw [call_eq pr 90 _ _ Try.f90 fn_90 _ rfl _ ann_90 rfl]
  have hw1 : IntKind.i64.wrap ((at_ : Int) + 1) = ((at_ + 1 : Nat) : Int) := by rw [wrap_i] <;> omega
  by_cases h : at_ < bs.length
  · have hx : ∀ z, bs.getD at_ z = bs[at_] := fun z => getD_of_lt h z
    have hr := hb.2 _ (List.getElem_mem h)
    generalize bs[at_] = x at *
    have hw2 : IntKind.i64.wrap x = x := by rw [wrap_i] <;> omega
    have hle : (((at_ + 1 : Nat) : Int) ≤ (bs.length : Int)) = True := tr (by omega)
    refine ⟨x, IntKind.u64.wrap (IntKind.u64.wrap (IntKind.u64.wrap (seed * 6364136223846793005) + IntKind.u64.wrap x) + 1442695040888963407), hr, ?_⟩
    simp -implicitDefEqProofs only [lt_cast h, tr h, zero_le_cast, Int.toNat_natCast, hx, hw1, hw2, hle, go_sem, Nat.reduceAdd, Nat.reduceSub, Nat.reduceMul, Nat.reduceMod, Nat.reduceLT, Nat.reduceLeDiff, Nat.reduceEqDiff, Nat.reduceBEq, Nat.reduceDiv, Int.reduceLT, Int.reduceLE, Int.reduceToNat, Int.reduceNeg, Int.reduceEq, ↓reduceIte, reduceCtorEq, ↓reduceDIte]
  · have h1 : ((at_ : Int) < (bs.length : Int)) = False := fa (by omega)
    have hle : (((at_ + 1 : Nat) : Int) ≤ (bs.length : Int)) = False := fa (by omega)
    have hr := and_byte ((IntKind.u64.wrap (IntKind.u64.wrap (IntKind.u64.wrap (seed * 6364136223846793005) + IntKind.u64.wrap 0) + 1442695040888963407)).fdiv (2 ^ min 40 64))
    generalize hB : bitsOf .and .u64 ((IntKind.u64.wrap (IntKind.u64.wrap (IntKind.u64.wrap (seed * 6364136223846793005) + IntKind.u64.wrap 0) + 1442695040888963407)).fdiv (2 ^ min 40 64)) 255 = bv at hr
    have hw2 : IntKind.i64.wrap bv = bv := by rw [wrap_i] <;> omega
    refine ⟨bv, IntKind.u64.wrap (IntKind.u64.wrap (IntKind.u64.wrap (seed * 6364136223846793005) + IntKind.u64.wrap 0) + 1442695040888963407), hr, ?_⟩
    simp -implicitDefEqProofs only [h1, zero_le_cast, Int.toNat_natCast, hw1, hle, go_sem, Nat.reduceAdd, Nat.reduceSub, Nat.reduceMul, Nat.reduceMod, Nat.reduceLT, Nat.reduceLeDiff, Nat.reduceEqDiff, Nat.reduceBEq, Nat.reduceDiv, Int.reduceLT, Int.reduceLE, Int.reduceToNat, Int.reduceNeg, Int.reduceEq, ↓reduceIte, reduceCtorEq, ↓reduceDIte]
    rw [hB, hw2]
/-- A draw of a few. -/
theorem call_pick (bs : List Int) (hb : okBy bs) (at_ : Nat) (ha : at_ ≤ 1000000) (seed : Int) (m : Int) (hm : 1 ≤ m ∧ m ≤ 200) : ∃ (v : Int) (at' : Nat) (seed' : Int), (0 ≤ v ∧ v < m) ∧ at' ≤ at_ + 1 ∧ callOf pr 44 [.op 1000000 0, I m] (SRC bs at_ seed) = some (I v, SRC bs at' seed') := by
  rw [call_eq pr 44 _ _ Try.f44 fn_44 _ rfl _ ann_44 rfl]
  by_cases h1 : m ≤ 1
  · refine ⟨0, at_, seed, by omega, by omega, ?_⟩
    simp -implicitDefEqProofs only [tr h1, go_sem, Nat.reduceAdd, Nat.reduceSub, Nat.reduceMul, Nat.reduceMod, Nat.reduceLT, Nat.reduceLeDiff, Nat.reduceEqDiff, Nat.reduceBEq, Nat.reduceDiv, Int.reduceLT, Int.reduceLE, Int.reduceToNat, Int.reduceNeg, Int.reduceEq, ↓reduceIte, reduceCtorEq, ↓reduceDIte]
  · obtain ⟨v, seed', hv, hn⟩ := call_next bs hb at_ ha seed
    have h0 : ¬ m = 0 := by omega
    have h2 : ¬ 200 < m := by omega
    have ht : v.tmod m = v % m := Int.tmod_eq_emod_of_nonneg (by omega)
    have r1 := Int.emod_nonneg v h0
    have r2 := Int.emod_lt_of_pos v (show 0 < m by omega)
    have hw : IntKind.i64.wrap (v % m) = v % m := by rw [wrap_i] <;> omega
    refine ⟨v % m, at_ + 1, seed', ⟨r1, r2⟩, by omega, ?_⟩
    simp -implicitDefEqProofs only [fa h1, hn, fa h0, fa h2, gt_iff_lt, ht, hw, go_sem, Nat.reduceAdd, Nat.reduceSub, Nat.reduceMul, Nat.reduceMod, Nat.reduceLT, Nat.reduceLeDiff, Nat.reduceEqDiff, Nat.reduceBEq, Nat.reduceDiv, Int.reduceLT, Int.reduceLE, Int.reduceToNat, Int.reduceNeg, Int.reduceEq, ↓reduceIte, reduceCtorEq, ↓reduceDIte]
theorem loop_ixn (v : Int) (xs : List Int) (hb : xs.length < 1000000000000000000) : ∀ (n k : Nat), k + n = xs.length →
    loopOf pr 114 0 ⟨[(0, cI xs), (1, I v), (7, I xs.length), (8, I k)], []⟩ = match (xs.drop k).findIdx? fun x => decide (v = x) with
    | some i => some (.ret, ⟨[(4, I ((k + i : Nat) : Int))], []⟩)
    | none => some (.exit 0, ⟨[(0, cI xs), (1, I v), (7, I xs.length), (8, I xs.length)], []⟩)
  | 0, k, h => by
    have : k = xs.length := by omega
    subst this
    rw [List.drop_of_length_le (Nat.le_refl _), loop_eq pr 114 0 _ Try.f114 fn_114 _ rfl _ ann_114 _ rfl]
    simp -implicitDefEqProofs only [Int.lt_irrefl, List.findIdx?_nil, go_sem, Nat.reduceAdd, Nat.reduceSub, Nat.reduceMul, Nat.reduceMod, Nat.reduceLT, Nat.reduceLeDiff, Nat.reduceEqDiff, Nat.reduceBEq, Nat.reduceDiv, Int.reduceLT, Int.reduceLE, Int.reduceToNat, Int.reduceNeg, Int.reduceEq, ↓reduceIte, reduceCtorEq, ↓reduceDIte]
  | n + 1, k, h => by
    have hlt : k < xs.length := by omega
    have ih := loop_ixn v xs hb n (k + 1) (by omega)
    rw [List.drop_eq_getElem_cons hlt, List.findIdx?_cons, loop_eq pr 114 0 _ Try.f114 fn_114 _ rfl _ ann_114 _ rfl]
    rw [← getD_of_lt hlt 0]
    by_cases hq : v = xs.getD k 0
    · rw [decide_eq_true hq]
      simp -implicitDefEqProofs only [lt_cast hlt, zero_le_cast, Int.toNat_natCast, wrap_succ hlt hb, tr hq, go_sem, Nat.reduceAdd, Nat.reduceSub, Nat.reduceMul, Nat.reduceMod, Nat.reduceLT, Nat.reduceLeDiff, Nat.reduceEqDiff, Nat.reduceBEq, Nat.reduceDiv, Int.reduceLT, Int.reduceLE, Int.reduceToNat, Int.reduceNeg, Int.reduceEq, ↓reduceIte, reduceCtorEq, ↓reduceDIte]
      rfl
    · rw [decide_eq_false hq]
      simp -implicitDefEqProofs only [lt_cast hlt, zero_le_cast, Int.toNat_natCast, wrap_succ hlt hb, fa hq, go_sem, Nat.reduceAdd, Nat.reduceSub, Nat.reduceMul, Nat.reduceMod, Nat.reduceLT, Nat.reduceLeDiff, Nat.reduceEqDiff, Nat.reduceBEq, Nat.reduceDiv, Int.reduceLT, Int.reduceLE, Int.reduceToNat, Int.reduceNeg, Int.reduceEq, ↓reduceIte, reduceCtorEq, ↓reduceDIte]
      rw [ih]
      cases List.findIdx? (fun x => decide (v = x)) (List.drop (k + 1) xs) with
      | none => rfl
      | some i => simp only [Option.map_some]; rw [show k + 1 + i = k + (i + 1) from by omega]
theorem call_ixn (v : Int) (xs : List Int) (hb : xs.length < 1000000000000000000) :
    callOf pr 114 [cI xs, I v] [] = some (I (match xs.findIdx? fun x => decide (v = x) with | some i => (i : Int) | none => -1), []) := by
  have h : loopOf pr 114 0 ⟨[(0, cI xs), (1, I v), (7, I xs.length), (8, I 0)], []⟩ = _ := loop_ixn v xs hb xs.length 0 (by omega)
  rw [call_eq pr 114 _ _ Try.f114 fn_114 _ rfl _ ann_114 rfl]
  rw [List.drop_zero] at h
  cases hf : xs.findIdx? fun x => decide (v = x) with
  | none =>
    rw [hf] at h
    simp -implicitDefEqProofs only [h, go_sem, Nat.reduceAdd, Nat.reduceSub, Nat.reduceMul, Nat.reduceMod, Nat.reduceLT, Nat.reduceLeDiff, Nat.reduceEqDiff, Nat.reduceBEq, Nat.reduceDiv, Int.reduceLT, Int.reduceLE, Int.reduceToNat, Int.reduceNeg, Int.reduceEq, ↓reduceIte, reduceCtorEq, ↓reduceDIte]
  | some i =>
    rw [hf] at h
    simp only [Nat.zero_add] at h
    simp -implicitDefEqProofs only [h, go_sem, Nat.reduceAdd, Nat.reduceSub, Nat.reduceMul, Nat.reduceMod, Nat.reduceLT, Nat.reduceLeDiff, Nat.reduceEqDiff, Nat.reduceBEq, Nat.reduceDiv, Int.reduceLT, Int.reduceLE, Int.reduceToNat, Int.reduceNeg, Int.reduceEq, ↓reduceIte, reduceCtorEq, ↓reduceDIte]
theorem call_con (v : Int) (xs : List Int) (hb : xs.length < 1000000000000000000) : callOf pr 89 [cI xs, I v] [] = some (B (xs.any fun x => decide (v = x)), []) := by
  have h := call_ixn v xs hb
  rw [call_eq pr 89 _ _ Try.f89 fn_89 _ rfl _ ann_89 rfl]
  rw [← any_of_find]
  simp -implicitDefEqProofs only [h, go_sem, Nat.reduceAdd, Nat.reduceSub, Nat.reduceMul, Nat.reduceMod, Nat.reduceLT, Nat.reduceLeDiff, Nat.reduceEqDiff, Nat.reduceBEq, Nat.reduceDiv, Int.reduceLT, Int.reduceLE, Int.reduceToNat, Int.reduceNeg, Int.reduceEq, ↓reduceIte, reduceCtorEq, ↓reduceDIte]
  try rfl
theorem call_con0 (v : Int) : callOf pr 89 [.nilS, I v] [] = some (B false, []) := by
  have h1 : loopOf pr 114 0 ⟨[(0, .nilS), (1, I v), (7, I 0), (8, I 0)], []⟩ = some (.exit 0, ⟨[(0, .nilS), (1, I v), (7, I 0), (8, I 0)], []⟩) := by
    rw [loop_eq pr 114 0 _ Try.f114 fn_114 _ rfl _ ann_114 _ rfl]
    simp -implicitDefEqProofs only [Int.lt_irrefl, go_sem, Nat.reduceAdd, Nat.reduceSub, Nat.reduceMul, Nat.reduceMod, Nat.reduceLT, Nat.reduceLeDiff, Nat.reduceEqDiff, Nat.reduceBEq, Nat.reduceDiv, Int.reduceLT, Int.reduceLE, Int.reduceToNat, Int.reduceNeg, Int.reduceEq, ↓reduceIte, reduceCtorEq, ↓reduceDIte]
  have h2 : callOf pr 114 [.nilS, I v] [] = some (I (-1), []) := by
    rw [call_eq pr 114 _ _ Try.f114 fn_114 _ rfl _ ann_114 rfl]
    simp -implicitDefEqProofs only [h1, go_sem, Nat.reduceAdd, Nat.reduceSub, Nat.reduceMul, Nat.reduceMod, Nat.reduceLT, Nat.reduceLeDiff, Nat.reduceEqDiff, Nat.reduceBEq, Nat.reduceDiv, Int.reduceLT, Int.reduceLE, Int.reduceToNat, Int.reduceNeg, Int.reduceEq, ↓reduceIte, reduceCtorEq, ↓reduceDIte]
  rw [call_eq pr 89 _ _ Try.f89 fn_89 _ rfl _ ann_89 rfl]
  simp -implicitDefEqProofs only [h2, go_sem, Nat.reduceAdd, Nat.reduceSub, Nat.reduceMul, Nat.reduceMod, Nat.reduceLT, Nat.reduceLeDiff, Nat.reduceEqDiff, Nat.reduceBEq, Nat.reduceDiv, Int.reduceLT, Int.reduceLE, Int.reduceToNat, Int.reduceNeg, Int.reduceEq, ↓reduceIte, reduceCtorEq, ↓reduceDIte]
theorem call_ao1 (k c n : Int) (hn : 1 ≤ n ∧ n ≤ 3) : callOf pr 95 [.agg [I k, I c], .rp [I n]] [] = some (B (!opB k c n), []) := by
  have h := call_io k c n hn
  rw [call_eq pr 95 _ _ Try.f95 fn_95 _ rfl _ ann_95 rfl]
  cases hq : opB k c n <;> rw [hq] at h <;> simp -implicitDefEqProofs only [h, go_sem, Nat.reduceAdd, Nat.reduceSub, Nat.reduceMul, Nat.reduceMod, Nat.reduceLT, Nat.reduceLeDiff, Nat.reduceEqDiff, Nat.reduceBEq, Nat.reduceDiv, Int.reduceLT, Int.reduceLE, Int.reduceToNat, Int.reduceNeg, Int.reduceEq, ↓reduceIte, reduceCtorEq, ↓reduceDIte]
theorem loop_ixo (n : Int) (hn : 1 ≤ n ∧ n ≤ 3) (xs : List Od) (hs : ∀ o ∈ xs, opB o.1 o.2.1 n = true) (hb : xs.length < 1000000000000000000) : ∀ (j k : Nat), k + j = xs.length →
    loopOf pr 117 0 ⟨[(0, LO xs), (1, .fn 95 [.rp [I n]]), (7, I xs.length), (8, I k)], []⟩ = some (.exit 0, ⟨[(0, LO xs), (1, .fn 95 [.rp [I n]]), (7, I xs.length), (8, I xs.length)], []⟩)
  | 0, k, h => by
    have : k = xs.length := by omega
    subst this
    rw [loop_eq pr 117 0 _ Try.f117 fn_117 _ rfl _ ann_117 _ rfl]
    simp -implicitDefEqProofs only [Int.lt_irrefl, go_sem, Nat.reduceAdd, Nat.reduceSub, Nat.reduceMul, Nat.reduceMod, Nat.reduceLT, Nat.reduceLeDiff, Nat.reduceEqDiff, Nat.reduceBEq, Nat.reduceDiv, Int.reduceLT, Int.reduceLE, Int.reduceToNat, Int.reduceNeg, Int.reduceEq, ↓reduceIte, reduceCtorEq, ↓reduceDIte]
  | j + 1, k, h => by
    have hlt : k < xs.length := by omega
    have ih := loop_ixo n hn xs hs hb j (k + 1) (by omega)
    have c1 := call_ao1 (xs.getD k (0, 0, ())).1 (xs.getD k (0, 0, ())).2.1 n hn
    rw [hs (xs.getD k (0, 0, ())) (by rw [getD_of_lt hlt]; exact List.getElem_mem hlt)] at c1
    rw [loop_eq pr 117 0 _ Try.f117 fn_117 _ rfl _ ann_117 _ rfl]
    simp -implicitDefEqProofs only [lt_cast hlt, zero_le_cast, Int.toNat_natCast, wrap_succ hlt hb, c1, Bool.not_true, go_sem, Nat.reduceAdd, Nat.reduceSub, Nat.reduceMul, Nat.reduceMod, Nat.reduceLT, Nat.reduceLeDiff, Nat.reduceEqDiff, Nat.reduceBEq, Nat.reduceDiv, Int.reduceLT, Int.reduceLE, Int.reduceToNat, Int.reduceNeg, Int.reduceEq, ↓reduceIte, reduceCtorEq, ↓reduceDIte]
    exact ih
theorem call_cfo (n : Int) (hn : 1 ≤ n ∧ n ≤ 3) (xs : List Od) (hs : ∀ o ∈ xs, opB o.1 o.2.1 n = true) (hb : xs.length < 1000000000000000000) : callOf pr 94 [LO xs, .fn 95 [.rp [I n]]] [] = some (B false, []) := by
  have h : loopOf pr 117 0 ⟨[(0, LO xs), (1, .fn 95 [.rp [I n]]), (7, I xs.length), (8, I 0)], []⟩ = _ := loop_ixo n hn xs hs hb xs.length 0 (by omega)
  have h2 : callOf pr 117 [LO xs, .fn 95 [.rp [I n]]] [] = some (I (-1), []) := by
    rw [call_eq pr 117 _ _ Try.f117 fn_117 _ rfl _ ann_117 rfl]
    simp -implicitDefEqProofs only [h, go_sem, Nat.reduceAdd, Nat.reduceSub, Nat.reduceMul, Nat.reduceMod, Nat.reduceLT, Nat.reduceLeDiff, Nat.reduceEqDiff, Nat.reduceBEq, Nat.reduceDiv, Int.reduceLT, Int.reduceLE, Int.reduceToNat, Int.reduceNeg, Int.reduceEq, ↓reduceIte, reduceCtorEq, ↓reduceDIte]
  rw [call_eq pr 94 _ _ Try.f94 fn_94 _ rfl _ ann_94 rfl]
  simp -implicitDefEqProofs only [h2, go_sem, Nat.reduceAdd, Nat.reduceSub, Nat.reduceMul, Nat.reduceMod, Nat.reduceLT, Nat.reduceLeDiff, Nat.reduceEqDiff, Nat.reduceBEq, Nat.reduceDiv, Int.reduceLT, Int.reduceLE, Int.reduceToNat, Int.reduceNeg, Int.reduceEq, ↓reduceIte, reduceCtorEq, ↓reduceDIte]
theorem call_aos (n : Int) (hn : 1 ≤ n ∧ n ≤ 3) (xs : List Od) (hs : ∀ o ∈ xs, opB o.1 o.2.1 n = true) (hb : xs.length ≤ 40) : callOf pr 50 [LO xs, I n] [] = some (B true, []) := by
  have h := call_cfo n hn xs hs (by omega)
  have hle : ((xs.length : Int) ≤ 40) = True := tr (by omega)
  rw [call_eq pr 50 _ _ Try.f50 fn_50 _ rfl _ ann_50 rfl]
  simp -implicitDefEqProofs only [hle, h, go_sem, Nat.reduceAdd, Nat.reduceSub, Nat.reduceMul, Nat.reduceMod, Nat.reduceLT, Nat.reduceLeDiff, Nat.reduceEqDiff, Nat.reduceBEq, Nat.reduceDiv, Int.reduceLT, Int.reduceLE, Int.reduceToNat, Int.reduceNeg, Int.reduceEq, ↓reduceIte, reduceCtorEq, ↓reduceDIte]
def msA (b : Bool) : List Ru := [((if b = true then 2 else 1), 1, false, ()), (1, 1, false, ()), (2, 1, false, ()), (3, 1, false, ())]
def msB : List Ru := [(3, 1, false, ()), (3, 1, false, ()), (3, 1, false, ()), (3, 1, false, ())]
def msV : List Ru := [(0, 1, false, ()), (0, 1, false, ()), (0, 1, false, ()), (0, 1, true, ())]
def msD : List Ru := [(0, 1, false, ()), (1, 1, false, ()), (1, 1, false, ()), (1, 1, true, ())]
def msE : List Ru := [(0, 1, false, ()), (0, 1, false, ()), (0, 1, false, ()), (0, 1, true, ())]
def thA : List Ru := [(1, 1, false, ()), (1, 1, false, ()), (1, 1, false, ()), (1, 1, false, ())]
def thB (b : Bool) : List Ru := [((if b = true then 1 else 0), 1, true, ()), (1, 1, true, ()), (1, 1, true, ()), (1, 1, true, ())]
def thV : List Ru := [(0, 1, false, ()), (0, 1, false, ()), (0, 1, false, ()), (0, 1, false, ())]
def thD : List Ru := [(0, 1, false, ()), (1, 1, false, ()), (1, 1, false, ()), (1, 1, false, ())]
def thE : List Ru := [(0, 1, false, ()), (0, 1, false, ()), (0, 1, false, ()), (0, 1, false, ())]
def nxM (b : Bool) : Sd → Int → Nat → Sd × Bool := nextF (msA b) msB msV msD msE
def nxT (b : Bool) : Sd → Int → Nat → Sd × Bool := nextF thA (thB b) thV thD thE
/-- A flaw, or where a run ends. -/
def runL (nx : Sd → Int → Nat → Sd × Bool) : Sd → Nat → List Od → Sd × Int
  | s, _, [] => (s, -1)
  | s, i, o :: os => if (nx s o.1 o.2.1.toNat).2 = true then ((nx s o.1 o.2.1.toNat).1, (i : Int)) else runL nx (nx s o.1 o.2.1.toNat).1 (i + 1) os
def goodN (nx : Sd → Int → Nat → Sd × Bool) (n : Nat) (ns : List Nd) : Bool :=
  has ns (first n) && ns.all fun nd => !badB nd.1.1 && sysB nd.1.1 nd.1.2.1 && decide (nd.1.1.length = n) && [0, 1, 2].all fun k => (List.range n).all fun c => !(nx nd.1 k c).2 && has ns (nx nd.1 k c).1
def goodS (nx : Sd → Int → Nat → Sd × Bool) (n : Nat) (st : St2) : Bool := st.2.isNone && goodN nx n st.1
theorem good_m1 (b : Bool) : goodS (nxM b) 1 (found (nxM b) 1) = true := by cases b <;> decide +kernel
theorem good_m2 (b : Bool) : goodS (nxM b) 2 (found (nxM b) 2) = true := by cases b <;> decide +kernel
theorem good_m3 (b : Bool) : goodS (nxM b) 3 (found (nxM b) 3) = true := by cases b <;> decide +kernel
theorem good_t1 (b : Bool) : goodS (nxT b) 1 (found (nxT b) 1) = true := by cases b <;> decide +kernel
theorem good_t2 (b : Bool) : goodS (nxT b) 2 (found (nxT b) 2) = true := by cases b <;> decide +kernel
theorem good_t3 (b : Bool) : goodS (nxT b) 3 (found (nxT b) 3) = true := by cases b <;> decide +kernel
theorem good_m (b : Bool) (n : Nat) (hn : 1 ≤ n ∧ n ≤ 3) : goodS (nxM b) n (found (nxM b) n) = true := by
  match n, hn with
  | 1, _ => exact good_m1 b
  | 2, _ => exact good_m2 b
  | 3, _ => exact good_m3 b
theorem good_t (b : Bool) (n : Nat) (hn : 1 ≤ n ∧ n ≤ 3) : goodS (nxT b) n (found (nxT b) n) = true := by
  match n, hn with
  | 1, _ => exact good_t1 b
  | 2, _ => exact good_t2 b
  | 3, _ => exact good_t3 b
theorem prot_m (b : Bool) : protB (msA b) msB msV msD msE = true := by cases b <;> decide +kernel
theorem prot_t (b : Bool) : protB thA (thB b) thV thD thE = true := by cases b <;> decide +kernel
/-- An op of some caches. -/
def okO (n : Nat) (o : Od) : Prop := (0 ≤ o.1 ∧ o.1 ≤ 2) ∧ 0 ≤ o.2.1 ∧ o.2.1 < n
theorem run_good {nx : Sd → Int → Nat → Sd × Bool} {n : Nat} {ns : List Nd} (h : goodN nx n ns = true) : ∀ (os : List Od) (s : Sd) (i : Nat), has ns s = true → (∀ o ∈ os, okO n o) → (runL nx s i os).2 = -1 ∧ has ns (runL nx s i os).1 = true
  | [], s, i, hs, _ => ⟨rfl, hs⟩
  | o :: os, s, i, hs, ho => by
    obtain ⟨nd, hnd, rfl⟩ := has_iff.1 hs
    have h' := h
    simp only [goodN, Bool.and_eq_true, List.all_eq_true, List.mem_range] at h
    obtain ⟨⟨k0, k2⟩, c0, c1⟩ := ho o (by simp)
    have hk : o.1 ∈ ([0, 1, 2] : List Int) := by
      have : o.1 = 0 ∨ o.1 = 1 ∨ o.1 = 2 := by omega
      rcases this with e | e | e <;> simp [e]
    obtain ⟨g1, g2⟩ := (h.2 nd hnd).2 o.1 hk o.2.1.toNat (by omega)
    have g1 : (nx nd.1 o.1 o.2.1.toNat).2 = false := by simpa using g1
    rw [runL, g1, if_neg (by simp)]
    exact run_good h' os _ (i + 1) g2 (fun x hx => ho x (by simp [hx]))
theorem good_facts {nx : Sd → Int → Nat → Sd × Bool} {n : Nat} {st : St2} (h : goodS nx n st = true) : flo st = none ∧ aloneR st.1 = true ∧ 1 ≤ st.1.length ∧ ∀ os, (∀ o ∈ os, okO n o) → (runL nx (first n) 0 os).2 = -1 ∧ sysB (runL nx (first n) 0 os).1.1 (runL nx (first n) 0 os).1.2.1 = true := by
  obtain ⟨ns, la⟩ := st
  simp only [goodS, Bool.and_eq_true, Option.isNone_iff_eq_none] at h
  obtain ⟨rfl, h⟩ := h
  have h' := h
  simp only [goodN, Bool.and_eq_true, List.all_eq_true] at h
  refine ⟨rfl, ?_, ?_, fun os ho => ?_⟩
  · simp only [aloneR, Bool.not_eq_true', List.any_eq_false]
    intro nd hnd
    have := (h.2 nd hnd).1.1.1
    simpa using this
  · obtain ⟨nd, hnd, _⟩ := has_iff.1 h.1
    exact List.length_pos_of_mem hnd
  · obtain ⟨r1, r2⟩ := run_good h' os (first n) 0 h.1 ho
    refine ⟨r1, ?_⟩
    obtain ⟨nd, hnd, e⟩ := has_iff.1 r2
    rw [← e]
    exact (h.2 nd hnd).1.1.2
end Go.Proofs.Ythmnlokdikomkaa.PI
