/- Strings: lines, and what the reference recovers. -/
import Derived.Test.YtidodagkfbplaaaS2
namespace Go.Proofs.Ytidodagkfbplaaa.PI
open Go Go.Q
set_option maxRecDepth 100000
set_option maxHeartbeats 4000000
set_option linter.unusedSimpArgs false

/-- Complete lines, and what is behind them. -/
def linesA : List UInt8 → List UInt8 → List (List UInt8) × List UInt8
  | mid, [] => ([], mid)
  | mid, b :: rest => if b = 10 then (mid :: (linesA [] rest).1, (linesA [] rest).2) else linesA (mid ++ [b]) rest

theorem loop_41 (l : List UInt8) (hl : l.length < 100000000) : ∀ (rest mid pre : List UInt8) (done : List (List UInt8)), l = pre ++ mid ++ rest → done.length ≤ pre.length →
    ∃ st : Nat, st ≤ l.length ∧ loopOf pr 41 0 ⟨[(0, T l), (4, .os (.t 448)), (5, I pre.length), (6, I ((pre.length + mid.length : Nat) : Int))], [(448, .arr true false .str (done.map mkS))]⟩ = some (.exit 0, ⟨[(0, T l), (4, .os (.t 448)), (5, I st), (6, I l.length)], [(448, .arr true false .str ((done ++ (linesA mid rest).1).map mkS))]⟩)
  | [], mid, pre, done, h, _ => by
    have hp : l.length = pre.length + mid.length := by rw [h]; simp
    refine ⟨pre.length, by omega, ?_⟩
    rw [loop_eq pr 41 0 _ Try.f41 fn_41 _ rfl _ ann_41 _ rfl]
    simp -implicitDefEqProofs only [hp, Int.lt_irrefl, go_sem, Nat.reduceAdd, Nat.reduceSub, Nat.reduceMul, Nat.reduceMod, Nat.reduceLT, Nat.reduceLeDiff, Nat.reduceEqDiff, Nat.reduceBEq, Nat.reduceDiv, Int.reduceLT, Int.reduceLE, Int.reduceToNat, Int.reduceNeg, Int.reduceEq, ↓reduceIte, reduceCtorEq, ↓reduceDIte, Bool.false_eq_true, Bool.true_eq_false, ne_eq, not_true_eq_false, not_false_eq_true, Bool.true_or, Bool.false_or, Bool.or_true, Bool.or_false, Bool.true_and, Bool.false_and, Bool.and_true, Bool.and_false, Bool.not_true, Bool.not_false, Bool.not_eq_false', Bool.not_eq_true', and_true, true_and, and_false, false_and, or_true, true_or, or_false, false_or, and_self, or_self, decide_eq_true_eq, decide_true, decide_false, decide_eq_false_iff_not, ite_not, if_true, if_false, eq_self]
    simp [linesA]
  | b :: rest, mid, pre, done, h, hd => by
    have hp : l.length = pre.length + mid.length + (rest.length + 1) := by rw [h]; simp; omega
    have hlt : pre.length + mid.length < l.length := by omega
    have hg : l.getD (pre.length + mid.length) 0 = b := by rw [h, ← List.length_append]; simp
    have hws := wrap_succ hlt (show l.length < 1000000000000000000 by omega)
    rw [loop_eq pr 41 0 _ Try.f41 fn_41 _ rfl _ ann_41 _ rfl]
    by_cases hb : b = 10
    · subst hb
      obtain ⟨st, h1, h2⟩ := loop_41 l hl rest [] (pre ++ mid ++ [10]) (done ++ [mid]) (by rw [h]; simp) (by simp; omega)
      have e1 : (pre ++ mid ++ [10]).length = pre.length + mid.length + 1 := by simp; omega
      have e2 : (done ++ [mid] ++ (linesA [] rest).1) = done ++ (linesA mid (10 :: rest)).1 := by simp [linesA]
      rw [e1, e2] at h2
      simp only [List.length_nil, Nat.add_zero] at h2
      refine ⟨st, h1, ?_⟩
      have hsl : (l.drop pre.length).take (pre.length + mid.length - pre.length) = mid := by rw [h]; simp
      have hle1 : (pre.length : Int) ≤ ((pre.length + mid.length : Nat) : Int) := by omega
      have hle2 : ((pre.length + mid.length : Nat) : Int) ≤ (l.length : Int) := by omega
      have hroom : (((done.map mkS).length + 1) * 16 ≤ 140737488355328 ∧ (done.map mkS).length + 1 ≤ 9223372036854775807) = True := tr (by rw [List.length_map]; omega)
      have hroom2 : (((done.map mkS).length + 1) * 16 ≤ 140737488355328 ∧ (done.map mkS).length ≤ 9223372036854775806) = True := tr (by rw [List.length_map]; omega)
      have ha : done.map mkS ++ [mkS mid] = (done ++ [mid]).map mkS := by simp
      simp -implicitDefEqProofs only [lt_cast hlt, zero_le_cast, Int.toNat_natCast, hg, hws, tr (show (((10 : UInt8).toNat : Nat) : Int) = 10 by rfl), bounds_eq, tr hle1, tr hle2, hsl, hroom, hroom2, ha, go_sem, Nat.reduceAdd, Nat.reduceSub, Nat.reduceMul, Nat.reduceMod, Nat.reduceLT, Nat.reduceLeDiff, Nat.reduceEqDiff, Nat.reduceBEq, Nat.reduceDiv, Int.reduceLT, Int.reduceLE, Int.reduceToNat, Int.reduceNeg, Int.reduceEq, ↓reduceIte, reduceCtorEq, ↓reduceDIte, Bool.false_eq_true, Bool.true_eq_false, ne_eq, not_true_eq_false, not_false_eq_true, Bool.true_or, Bool.false_or, Bool.or_true, Bool.or_false, Bool.true_and, Bool.false_and, Bool.and_true, Bool.and_false, Bool.not_true, Bool.not_false, Bool.not_eq_false', Bool.not_eq_true', and_true, true_and, and_false, false_and, or_true, true_or, or_false, false_or, and_self, or_self, decide_eq_true_eq, decide_true, decide_false, decide_eq_false_iff_not, ite_not, if_true, if_false, eq_self]
      exact h2
    · obtain ⟨st, h1, h2⟩ := loop_41 l hl rest (mid ++ [b]) pre done (by rw [h]; simp) hd
      have e1 : pre.length + (mid ++ [b]).length = pre.length + mid.length + 1 := by simp; omega
      have e2 : linesA (mid ++ [b]) rest = linesA mid (b :: rest) := by simp [linesA, hb]
      rw [e1, e2] at h2
      refine ⟨st, h1, ?_⟩
      have hb2 : ¬ ((b.toNat : Nat) : Int) = 10 := fun e => hb (by
        apply UInt8.toNat_inj.1
        show b.toNat = 10
        omega)
      simp -implicitDefEqProofs only [lt_cast hlt, zero_le_cast, Int.toNat_natCast, hg, hws, fa hb2, go_sem, Nat.reduceAdd, Nat.reduceSub, Nat.reduceMul, Nat.reduceMod, Nat.reduceLT, Nat.reduceLeDiff, Nat.reduceEqDiff, Nat.reduceBEq, Nat.reduceDiv, Int.reduceLT, Int.reduceLE, Int.reduceToNat, Int.reduceNeg, Int.reduceEq, ↓reduceIte, reduceCtorEq, ↓reduceDIte, Bool.false_eq_true, Bool.true_eq_false, ne_eq, not_true_eq_false, not_false_eq_true, Bool.true_or, Bool.false_or, Bool.or_true, Bool.or_false, Bool.true_and, Bool.false_and, Bool.and_true, Bool.and_false, Bool.not_true, Bool.not_false, Bool.not_eq_false', Bool.not_eq_true', and_true, true_and, and_false, false_and, or_true, true_or, or_false, false_or, and_self, or_self, decide_eq_true_eq, decide_true, decide_false, decide_eq_false_iff_not, ite_not, if_true, if_false, eq_self]
      exact h2
theorem call_41 (l : List UInt8) (hl : l.length < 100000000) : ∃ r : List UInt8, callOf pr 41 [T l] [] = some (.tuple [.os (.t 448), T r], [(448, .arr true false .str ((linesA [] l).1.map mkS))]) := by
  obtain ⟨st, h1, h⟩ := loop_41 l hl l [] [] [] rfl (by simp)
  refine ⟨(l.drop st).take (l.length - st), ?_⟩
  simp only [List.nil_append] at h
  have h : loopOf pr 41 0 ⟨[(0, T l), (4, .os (.t 448)), (5, I 0), (6, I 0)], [(448, .arr true false .str [])]⟩ = _ := h
  have hle : ((st : Nat) : Int) ≤ (l.length : Int) := by omega
  rw [call_eq pr 41 _ _ Try.f41 fn_41 _ rfl _ ann_41 rfl]
  simp -implicitDefEqProofs only [h, bounds_eq, zero_le_cast, tr hle, Int.le_refl, Int.toNat_natCast, go_sem, Nat.reduceAdd, Nat.reduceSub, Nat.reduceMul, Nat.reduceMod, Nat.reduceLT, Nat.reduceLeDiff, Nat.reduceEqDiff, Nat.reduceBEq, Nat.reduceDiv, Int.reduceLT, Int.reduceLE, Int.reduceToNat, Int.reduceNeg, Int.reduceEq, ↓reduceIte, reduceCtorEq, ↓reduceDIte, Bool.false_eq_true, Bool.true_eq_false, ne_eq, not_true_eq_false, not_false_eq_true, Bool.true_or, Bool.false_or, Bool.or_true, Bool.or_false, Bool.true_and, Bool.false_and, Bool.and_true, Bool.and_false, Bool.not_true, Bool.not_false, Bool.not_eq_false', Bool.not_eq_true', and_true, true_and, and_false, false_and, or_true, true_or, or_false, false_or, and_self, or_self, decide_eq_true_eq, decide_true, decide_false, decide_eq_false_iff_not, ite_not, if_true, if_false, eq_self]

/-- Is a line one that a journal holds? -/
def okLine (prev x : List UInt8) : Bool := decide (3 ≤ x.length) && (decide (x.getD 2 0 = 32) && decide (letters (prev ++ x.drop 3) = x.take 2))
/-- What is recovered of lines. -/
def recS : List UInt8 → List (List UInt8) → List (List UInt8) × Nat
  | _, [] => ([], 0)
  | prev, x :: xs => if okLine prev x = true then (x.drop 3 :: (recS (x.take 2) xs).1, x.length + 1 + (recS (x.take 2) xs).2) else ([], 0)
def tot : List (List UInt8) → Nat
  | [] => 0
  | x :: xs => x.length + 1 + tot xs
theorem byte_is (b : UInt8) (n : Nat) (hn : n < 256) : (((b.toNat : Nat) : Int) = (n : Int)) = (b = UInt8.ofNat n) := by
  apply propext
  constructor
  · intro h
    apply UInt8.toNat_inj.1
    rw [UInt8.toNat_ofNat_of_lt' (by exact hn)]
    omega
  · rintro rfl
    rw [UInt8.toNat_ofNat_of_lt' (by exact hn)]
theorem loop_14 (ls : List (List UInt8)) : ∀ (rest pre : List (List UInt8)) (prev : List UInt8) (out : List (List UInt8)) (n : Nat), ls = pre ++ rest → prev.length < 1000 → n + tot rest < 100000000 → pre.length + tot rest < 100000000 → out.length ≤ pre.length →
    ∃ s : Slots, ((∃ p j, s = [(5, .os (.t 1088)), (7, .os (.t 1280)), (8, T p), (9, I ((n + (recS prev rest).2 : Nat) : Int)), (10, I j)]) ∨ ∃ x j, s = [(5, .os (.t 1088)), (7, .os (.t 1280)), (9, I ((n + (recS prev rest).2 : Nat) : Int)), (10, I j), (11, T x)]) ∧
      loopOf pr 14 0 ⟨[(5, .os (.t 1088)), (7, .os (.t 1280)), (8, T prev), (9, I n), (10, I pre.length)], [(1088, .arr true false .str (ls.map mkS)), (1280, .arr true false .str (out.map mkS))]⟩ = some (.exit 0, ⟨s, [(1088, .arr true false .str (ls.map mkS)), (1280, .arr true false .str ((out ++ (recS prev rest).1).map mkS))]⟩)
  | [], pre, prev, out, n, h, _, _, _, _ => by
    have hp : ls.length = pre.length := by rw [h]; simp
    refine ⟨_, .inl ⟨prev, pre.length, rfl⟩, ?_⟩
    rw [loop_eq pr 14 0 _ Try.f14 fn_14 _ rfl _ ann_14 _ rfl]
    simp -implicitDefEqProofs only [List.length_map, hp, Int.lt_irrefl, go_sem, Nat.reduceAdd, Nat.reduceSub, Nat.reduceMul, Nat.reduceMod, Nat.reduceLT, Nat.reduceLeDiff, Nat.reduceEqDiff, Nat.reduceBEq, Nat.reduceDiv, Int.reduceLT, Int.reduceLE, Int.reduceToNat, Int.reduceNeg, Int.reduceEq, ↓reduceIte, reduceCtorEq, ↓reduceDIte, Bool.false_eq_true, Bool.true_eq_false, ne_eq, not_true_eq_false, not_false_eq_true, Bool.true_or, Bool.false_or, Bool.or_true, Bool.or_false, Bool.true_and, Bool.false_and, Bool.and_true, Bool.and_false, Bool.not_true, Bool.not_false, Bool.not_eq_false', Bool.not_eq_true', and_true, true_and, and_false, false_and, or_true, true_or, or_false, false_or, and_self, or_self, decide_eq_true_eq, decide_true, decide_false, decide_eq_false_iff_not, ite_not, if_true, if_false, eq_self]
    simp [recS]
  | x :: rest, pre, prev, out, n, h, hpv, hn, hpn, ho => by
    simp only [tot] at hn hpn
    have hp : ls.length = pre.length + (rest.length + 1) := by rw [h]; simp
    have hlt : pre.length < (ls.map mkS).length := by rw [List.length_map]; omega
    have hg : (ls.map mkS).getD pre.length ByteArray.empty = mkS x := by rw [h]; simp
    have hg : (ls.map mkS).getD pre.length (mkS []) = mkS x := hg
    rw [loop_eq pr 14 0 _ Try.f14 fn_14 _ rfl _ ann_14 _ rfl]
    by_cases h3 : 3 ≤ x.length
    · have h3' : ¬ (x.length : Int) < 3 := by omega
      have h2' : (2 : Int) < (x.length : Int) := by omega
      have h3'' : (3 : Int) ≤ (x.length : Int) := by omega
      have h2'' : (2 : Int) ≤ (x.length : Int) := by omega
      by_cases hsp : x.getD 2 0 = 32
      · have hsp' : (((x.getD 2 0).toNat : Nat) : Int) = 32 := by rw [hsp]; rfl
        have hd3 : (x.drop 3).take (x.length - 3) = x.drop 3 := List.take_of_length_le (by simp)
        have hsz : ¬ 9223372036854775807 < ((prev.length + (x.drop 3).length : Nat) : Int) := by rw [List.length_drop]; omega
        have h42 := call_42 (prev ++ x.drop 3) (by rw [List.length_append, List.length_drop]; omega)
        by_cases hle : letters (prev ++ x.drop 3) = x.take 2
        · have hok : okLine prev x = true := by simp only [okLine, h3, hsp, hle, decide_true, Bool.and_self]
          obtain ⟨s, hs, ih⟩ := loop_14 ls rest (pre ++ [x]) (x.take 2) (out ++ [x.drop 3]) (n + (x.length + 1)) (by rw [h]; simp) (by simp; omega) (by omega) (by simp; omega) (by simp; omega)
          have e1 : (pre ++ [x]).length = pre.length + 1 := by simp
          have e2 : n + (x.length + 1) + (recS (x.take 2) rest).2 = n + (recS prev (x :: rest)).2 := by simp only [recS, hok, if_true]; omega
          have e3 : out ++ [x.drop 3] ++ (recS (x.take 2) rest).1 = out ++ (recS prev (x :: rest)).1 := by simp only [recS, hok, if_true]; simp
          have e4 : (out ++ [x.drop 3]).map mkS = out.map mkS ++ [mkS (x.drop 3)] := by simp
          rw [e2] at hs
          rw [e1, e3, e4] at ih
          refine ⟨s, hs, ?_⟩
          have hw1 : IntKind.i64.wrap ((x.length : Int) + 1) = ((x.length + 1 : Nat) : Int) := by rw [wrap_i] <;> omega
          have hw2 : IntKind.i64.wrap ((n : Int) + ((x.length + 1 : Nat) : Int)) = ((n + (x.length + 1) : Nat) : Int) := by rw [wrap_i] <;> omega
          have hw3 : IntKind.i64.wrap ((pre.length : Int) + 1) = ((pre.length + 1 : Nat) : Int) := by rw [wrap_i] <;> omega
          have hroom : (((out.map mkS).length + 1) * 16 ≤ 140737488355328 ∧ (out.map mkS).length ≤ 9223372036854775806) = True := tr (by rw [List.length_map]; omega)
          simp -implicitDefEqProofs only [lt_cast hlt, zero_le_cast, Int.toNat_natCast, hg, fa h3', tr h2', tr h3'', tr h2'', tr hsp', hd3, fa hsz, h42, hle, bounds_eq, Int.le_refl, gt_iff_lt, hw1, hw2, hw3, hroom, go_sem, Nat.reduceAdd, Nat.reduceSub, Nat.reduceMul, Nat.reduceMod, Nat.reduceLT, Nat.reduceLeDiff, Nat.reduceEqDiff, Nat.reduceBEq, Nat.reduceDiv, Int.reduceLT, Int.reduceLE, Int.reduceToNat, Int.reduceNeg, Int.reduceEq, ↓reduceIte, reduceCtorEq, ↓reduceDIte, Bool.false_eq_true, Bool.true_eq_false, ne_eq, not_true_eq_false, not_false_eq_true, Bool.true_or, Bool.false_or, Bool.or_true, Bool.or_false, Bool.true_and, Bool.false_and, Bool.and_true, Bool.and_false, Bool.not_true, Bool.not_false, Bool.not_eq_false', Bool.not_eq_true', and_true, true_and, and_false, false_and, or_true, true_or, or_false, false_or, and_self, or_self, decide_eq_true_eq, decide_true, decide_false, decide_eq_false_iff_not, ite_not, if_true, if_false, eq_self]
          exact ih
        · have hok : ¬ okLine prev x = true := by simp only [okLine, hle, decide_false, Bool.and_false, Bool.false_eq_true, not_false_eq_true]
          refine ⟨_, .inr ⟨x, pre.length, rfl⟩, ?_⟩
          simp -implicitDefEqProofs only [lt_cast hlt, zero_le_cast, Int.toNat_natCast, hg, fa h3', tr h2', tr h3'', tr h2'', tr hsp', hd3, fa hsz, h42, fa hle, bounds_eq, Int.le_refl, gt_iff_lt, go_sem, Nat.reduceAdd, Nat.reduceSub, Nat.reduceMul, Nat.reduceMod, Nat.reduceLT, Nat.reduceLeDiff, Nat.reduceEqDiff, Nat.reduceBEq, Nat.reduceDiv, Int.reduceLT, Int.reduceLE, Int.reduceToNat, Int.reduceNeg, Int.reduceEq, ↓reduceIte, reduceCtorEq, ↓reduceDIte, Bool.false_eq_true, Bool.true_eq_false, ne_eq, not_true_eq_false, not_false_eq_true, Bool.true_or, Bool.false_or, Bool.or_true, Bool.or_false, Bool.true_and, Bool.false_and, Bool.and_true, Bool.and_false, Bool.not_true, Bool.not_false, Bool.not_eq_false', Bool.not_eq_true', and_true, true_and, and_false, false_and, or_true, true_or, or_false, false_or, and_self, or_self, decide_eq_true_eq, decide_true, decide_false, decide_eq_false_iff_not, ite_not, if_true, if_false, eq_self]
          simp [recS, hok]
      · have hsp' : ¬ (((x.getD 2 0).toNat : Nat) : Int) = 32 := fun e => hsp (by
          apply UInt8.toNat_inj.1
          show _ = 32
          omega)
        have hok : ¬ okLine prev x = true := by simp only [okLine, hsp, decide_false, Bool.and_false, Bool.false_and, Bool.false_eq_true, not_false_eq_true]
        refine ⟨_, .inr ⟨x, pre.length, rfl⟩, ?_⟩
        simp -implicitDefEqProofs only [lt_cast hlt, zero_le_cast, Int.toNat_natCast, hg, fa h3', tr h2', tr h3'', tr h2'', fa hsp', go_sem, Nat.reduceAdd, Nat.reduceSub, Nat.reduceMul, Nat.reduceMod, Nat.reduceLT, Nat.reduceLeDiff, Nat.reduceEqDiff, Nat.reduceBEq, Nat.reduceDiv, Int.reduceLT, Int.reduceLE, Int.reduceToNat, Int.reduceNeg, Int.reduceEq, ↓reduceIte, reduceCtorEq, ↓reduceDIte, Bool.false_eq_true, Bool.true_eq_false, ne_eq, not_true_eq_false, not_false_eq_true, Bool.true_or, Bool.false_or, Bool.or_true, Bool.or_false, Bool.true_and, Bool.false_and, Bool.and_true, Bool.and_false, Bool.not_true, Bool.not_false, Bool.not_eq_false', Bool.not_eq_true', and_true, true_and, and_false, false_and, or_true, true_or, or_false, false_or, and_self, or_self, decide_eq_true_eq, decide_true, decide_false, decide_eq_false_iff_not, ite_not, if_true, if_false, eq_self]
        simp [recS, hok]
    · have h3' : (x.length : Int) < 3 := by omega
      have hok : ¬ okLine prev x = true := by simp [okLine, h3]
      refine ⟨_, .inr ⟨x, pre.length, rfl⟩, ?_⟩
      simp -implicitDefEqProofs only [lt_cast hlt, zero_le_cast, Int.toNat_natCast, hg, tr h3', go_sem, Nat.reduceAdd, Nat.reduceSub, Nat.reduceMul, Nat.reduceMod, Nat.reduceLT, Nat.reduceLeDiff, Nat.reduceEqDiff, Nat.reduceBEq, Nat.reduceDiv, Int.reduceLT, Int.reduceLE, Int.reduceToNat, Int.reduceNeg, Int.reduceEq, ↓reduceIte, reduceCtorEq, ↓reduceDIte, Bool.false_eq_true, Bool.true_eq_false, ne_eq, not_true_eq_false, not_false_eq_true, Bool.true_or, Bool.false_or, Bool.or_true, Bool.or_false, Bool.true_and, Bool.false_and, Bool.and_true, Bool.and_false, Bool.not_true, Bool.not_false, Bool.not_eq_false', Bool.not_eq_true', and_true, true_and, and_false, false_and, or_true, true_or, or_false, false_or, and_self, or_self, decide_eq_true_eq, decide_true, decide_false, decide_eq_false_iff_not, ite_not, if_true, if_false, eq_self]
      simp [recS, hok]
theorem tot_lines : ∀ (rest mid : List UInt8), tot (linesA mid rest).1 ≤ mid.length + rest.length
  | [], mid => by simp [linesA, tot]
  | b :: rest, mid => by
    simp only [linesA]
    split
    · have := tot_lines rest []
      simp only [tot, List.length_cons, List.length_nil] at this ⊢
      omega
    · have := tot_lines rest (mid ++ [b])
      simp only [List.length_append, List.length_cons, List.length_nil] at this ⊢
      omega
/-- The reference's answer. -/
theorem call_14 (l : List UInt8) : callOf pr 14 [T l] [] = if 4000 < l.length then some (.tuple [.nilS, I 0, B false], []) else some (.tuple [.os (.t 1280), I (recS [] (linesA [] l).1).2, B true], [(1280, .arr true false .str ((recS [] (linesA [] l).1).1.map mkS))]) := by
  rw [call_eq pr 14 _ _ Try.f14 fn_14 _ rfl _ ann_14 rfl]
  by_cases hl : 4000 < l.length
  · rw [if_pos hl]
    simp -implicitDefEqProofs only [tr (show (4000 : Int) < (l.length : Int) by omega), go_sem, Nat.reduceAdd, Nat.reduceSub, Nat.reduceMul, Nat.reduceMod, Nat.reduceLT, Nat.reduceLeDiff, Nat.reduceEqDiff, Nat.reduceBEq, Nat.reduceDiv, Int.reduceLT, Int.reduceLE, Int.reduceToNat, Int.reduceNeg, Int.reduceEq, ↓reduceIte, reduceCtorEq, ↓reduceDIte, Bool.false_eq_true, Bool.true_eq_false, ne_eq, not_true_eq_false, not_false_eq_true, Bool.true_or, Bool.false_or, Bool.or_true, Bool.or_false, Bool.true_and, Bool.false_and, Bool.and_true, Bool.and_false, Bool.not_true, Bool.not_false, Bool.not_eq_false', Bool.not_eq_true', and_true, true_and, and_false, false_and, or_true, true_or, or_false, false_or, and_self, or_self, decide_eq_true_eq, decide_true, decide_false, decide_eq_false_iff_not, ite_not, if_true, if_false, eq_self]
  · rw [if_neg hl]
    obtain ⟨r, h41⟩ := call_41 l (by omega)
    have ht := tot_lines l []
    simp only [List.length_nil, Nat.zero_add] at ht
    obtain ⟨s, hs, h⟩ := loop_14 (linesA [] l).1 (linesA [] l).1 [] [] [] 0 rfl (by simp) (by omega) (by simp; omega) (by simp)
    have h : loopOf pr 14 0 ⟨[(5, .os (.t 1088)), (7, .os (.t 1280)), (8, T []), (9, I 0), (10, I 0)], [(1088, .arr true false .str ((linesA [] l).1.map mkS)), (1280, .arr true false .str [])]⟩ = _ := h
    simp only [List.nil_append, Nat.zero_add] at h hs
    rcases hs with ⟨p, j, rfl⟩ | ⟨x, j, rfl⟩
    · simp -implicitDefEqProofs only [fa (show ¬ (4000 : Int) < (l.length : Int) by omega), h41, h, go_sem, Nat.reduceAdd, Nat.reduceSub, Nat.reduceMul, Nat.reduceMod, Nat.reduceLT, Nat.reduceLeDiff, Nat.reduceEqDiff, Nat.reduceBEq, Nat.reduceDiv, Int.reduceLT, Int.reduceLE, Int.reduceToNat, Int.reduceNeg, Int.reduceEq, ↓reduceIte, reduceCtorEq, ↓reduceDIte, Bool.false_eq_true, Bool.true_eq_false, ne_eq, not_true_eq_false, not_false_eq_true, Bool.true_or, Bool.false_or, Bool.or_true, Bool.or_false, Bool.true_and, Bool.false_and, Bool.and_true, Bool.and_false, Bool.not_true, Bool.not_false, Bool.not_eq_false', Bool.not_eq_true', and_true, true_and, and_false, false_and, or_true, true_or, or_false, false_or, and_self, or_self, decide_eq_true_eq, decide_true, decide_false, decide_eq_false_iff_not, ite_not, if_true, if_false, eq_self]
    · simp -implicitDefEqProofs only [fa (show ¬ (4000 : Int) < (l.length : Int) by omega), h41, h, go_sem, Nat.reduceAdd, Nat.reduceSub, Nat.reduceMul, Nat.reduceMod, Nat.reduceLT, Nat.reduceLeDiff, Nat.reduceEqDiff, Nat.reduceBEq, Nat.reduceDiv, Int.reduceLT, Int.reduceLE, Int.reduceToNat, Int.reduceNeg, Int.reduceEq, ↓reduceIte, reduceCtorEq, ↓reduceDIte, Bool.false_eq_true, Bool.true_eq_false, ne_eq, not_true_eq_false, not_false_eq_true, Bool.true_or, Bool.false_or, Bool.or_true, Bool.or_false, Bool.true_and, Bool.false_and, Bool.and_true, Bool.and_false, Bool.not_true, Bool.not_false, Bool.not_eq_false', Bool.not_eq_true', and_true, true_and, and_false, false_and, or_true, true_or, or_false, false_or, and_self, or_self, decide_eq_true_eq, decide_true, decide_false, decide_eq_false_iff_not, ite_not, if_true, if_false, eq_self]
end Go.Proofs.Ytidodagkfbplaaa.PI
