/- Lists of pages; numbers in lists. -/
import Derived.Test.YtbapbghnageckaaGreatX8
import Derived.Test.YtbapbghnageckaaGreatM4
import Derived.Test.YtbapbghnageckaaGreatU13
namespace Go.Proofs.YtbapbghnageckaaGreat.PI
open Go Go.Q
set_option maxRecDepth 100000
set_option maxHeartbeats 4000000
set_option linter.unusedSimpArgs false
set_option linter.unusedVariables false
attribute [local go_sem] Nat.reduceAdd Nat.reduceSub Nat.reduceMul Nat.reduceMod Nat.reduceLT Nat.reduceLeDiff Nat.reduceEqDiff Nat.reduceBEq Nat.reduceDiv Int.reduceLT Int.reduceLE Int.reduceToNat Int.reduceNeg Int.reduceEq reduceCtorEq
attribute [local go_sem ↓] reduceIte reduceDIte
def pgsB (P : En → Bool) (r : List Int) (t : List (List En)) (k : Nat) : Bool := decide (0 ≤ (walkS r t k).1) && P (walkS r t k)
theorem loop_pw (P : En → Bool) (g : Nat) (hg : pr.byref g = []) (hP : ∀ (f : Int) (w u d : Bool), callOf pr g [.agg [I f, B w, B u, B d]] [] = some (B (P (f, w, u, d, ())), [])) (r : List Int) (t : List (List En)) (b : List Ca) (hF : Fit r t b) : ∀ (n k : Nat), k + n = 64 →
  loopOf pr 67 0 ⟨[(1, .fn g []), (2, .op 128 0), (6, .os (.t 768)), (13, I k)], [(128, .box [L r, LLE t, LC b]), (768, .arr true false (.int .i64) (those (pgsB P r t) k))]⟩ = some (.exit 0, ⟨[(1, .fn g []), (2, .op 128 0), (6, .os (.t 768)), (13, I 64)], [(128, .box [L r, LLE t, LC b]), (768, .arr true false (.int .i64) (those (pgsB P r t) 64))]⟩)
 | 0, k, h => by
  have hk : k = 64 := by omega
  subst hk
  rw [loop_eq pr 67 0 _ Tryz.f67 fn_67 _ rfl _ ann_67 _ rfl]
  simp -implicitDefEqProofs only [Int.cast_ofNat_Int, go_sem]
 | n + 1, k, h => by
  have ih := loop_pw P g hg hP r t b hF n (k + 1) (by omega)
  have hk : ((k : Int) < 64) = True := tr (by omega)
  have hw : IntKind.i64.wrap ((k : Int) + 1) = ((k + 1 : Nat) : Int) := by rw [wrap_i] <;> omega
  have hl := those_length (pgsB P r t) k
  have hroom : (((those (pgsB P r t) k).length + 1) * 8 ≤ 140737488355328 ∧ (those (pgsB P r t) k).length ≤ 9223372036854775806) = True := tr (by omega)
  have h1 := call_mp r t b k (addr_nat (by omega)) hF.root hF.refs hF.rows
  rw [those_succ] at ih
  obtain ⟨⟨ef, ew, eu, ed, ⟨⟩⟩, hE⟩ : ∃ e, walkS r t (k : Int) = e := ⟨_, rfl⟩
  have hb : pgsB P r t k = (decide (0 ≤ ef) && P (ef, ew, eu, ed, ())) := by simp only [pgsB, hE]
  rw [hb] at ih
  rw [hE] at h1
  rw [loop_eq pr 67 0 _ Tryz.f67 fn_67 _ rfl _ ann_67 _ rfl]
  by_cases hm : ef < 0
  ·rw [if_pos hm] at h1
   rw [decide_eq_false (by omega), Bool.false_and, if_neg (by simp)] at ih
   simp -implicitDefEqProofs only [hk, h1, hw, hg, go_sem]
   exact ih
  ·rw [if_neg hm] at h1
   have h2 := hP ef ew eu ed
   rw [decide_eq_true (by omega), Bool.true_and] at ih
   cases hp : P (ef, ew, eu, ed, ()) with
   | true =>
    rw [hp] at h2
    rw [hp, if_pos rfl] at ih
    simp -implicitDefEqProofs only [hk, h1, h2, hroom, hw, hg, go_sem]
    exact ih
   | false =>
    rw [hp] at h2
    rw [hp, if_neg (by simp)] at ih
    simp -implicitDefEqProofs only [hk, h1, h2, hw, hg, go_sem]
    exact ih
theorem call_pw (P : En → Bool) (g : Nat) (hg : pr.byref g = []) (hP : ∀ (f : Int) (w u d : Bool), callOf pr g [.agg [I f, B w, B u, B d]] [] = some (B (P (f, w, u, d, ())), [])) (r : List Int) (t : List (List En)) (b : List Ca) (hV : Vs r t b) : callOf pr 67 [.agg [L r, LLE t, LC b], .fn g []] [] = some (.tuple [.os (.t 768), B true], [(768, .arr true false (.int .i64) (those (pgsB P r t) 64))]) := by
 have h1 := call_vs r t b (by have := hV.root; omega) (by have := hV.few; omega) (fun x hx => by rw [hV.rows x hx]; omega) (by have := hV.buf; omega)
 rw [← space_eq, vs_iff.2 hV] at h1
 have h := loop_pw P g hg hP r t b hV.fit 64 0 rfl
 have h : loopOf pr 67 0 ⟨[(1, .fn g []), (2, .op 128 0), (6, .os (.t 768)), (13, I 0)], [(128, .box [L r, LLE t, LC b]), (768, .arr true false (.int .i64) [])]⟩ = _ := h
 rw [call_eq pr 67 _ _ Tryz.f67 fn_67 _ rfl _ ann_67 rfl]
 simp -implicitDefEqProofs only [h1, h, go_sem]
def dirtyL (r : List Int) (t : List (List En)) : List Int := those (pgsB (fun e => e.2.2.2.1) r t) 64
def mapL (r : List Int) (t : List (List En)) : List Int := those (pgsB (fun _ => true) r t) 64
theorem call_dp (r : List Int) (t : List (List En)) (b : List Ca) (hV : Vs r t b) : callOf pr 27 [.agg [L r, LLE t, LC b]] [] = some (.tuple [.os (.t 320), B true], [(320, .arr true false (.int .i64) (dirtyL r t))]) := by
 have h := call_pw (fun e => e.2.2.2.1) 68 rfl (fun f w u d => by
  rw [call_eq pr 68 _ _ Tryz.f68 fn_68 _ rfl _ ann_68 rfl]
  simp -implicitDefEqProofs only [go_sem]) r t b hV
 rw [call_eq pr 27 _ _ Tryz.f27 fn_27 _ rfl _ ann_27 rfl]
 simp -implicitDefEqProofs only [h, go_sem]
 rfl
theorem call_mpg (r : List Int) (t : List (List En)) (b : List Ca) (hV : Vs r t b) : callOf pr 30 [.agg [L r, LLE t, LC b]] [] = some (.tuple [.os (.t 320), B true], [(320, .arr true false (.int .i64) (mapL r t))]) := by
 have h := call_pw (fun _ => true) 69 rfl (fun f w u d => by
  rw [call_eq pr 69 _ _ Tryz.f69 fn_69 _ rfl _ ann_69 rfl]
  simp -implicitDefEqProofs only [go_sem]) r t b hV
 rw [call_eq pr 30 _ _ Tryz.f30 fn_30 _ rfl _ ann_30 rfl]
 simp -implicitDefEqProofs only [h, go_sem]
 rfl
theorem loop_rh (x : Int) : ∀ (suf pre : List Int), pre.length + suf.length < 1000000 →
  loopOf pr 28 0 ⟨[(0, L (pre ++ suf)), (1, I x), (5, I pre.length)], []⟩ = if (suf.any fun y => decide (y = x)) = true then some (.ret, ⟨[(4, B true)], []⟩) else some (.exit 0, ⟨[(0, L (pre ++ suf)), (1, I x), (5, I ((pre.length + suf.length : Nat) : Int))], []⟩)
 | [], pre, hb => by
  rw [if_neg (by simp), loop_eq pr 28 0 _ Tryz.f28 fn_28 _ rfl _ ann_28 _ rfl]
  simp -implicitDefEqProofs only [Int.lt_irrefl, List.append_nil, Nat.add_zero, go_sem]
 | y :: suf, pre, hb => by
  simp only [List.length_cons] at hb
  have hw : IntKind.i64.wrap ((pre.length : Int) + 1) = ((pre.length + 1 : Nat) : Int) := by rw [wrap_i] <;> omega
  have ih := loop_rh x suf (pre ++ [y]) (by simp; omega)
  have e1 : (pre ++ [y]).length = pre.length + 1 := by simp
  have e2 : pre.length + 1 + suf.length = pre.length + (y :: suf).length := by simp; omega
  rw [app_one, e1, e2] at ih
  rw [loop_eq pr 28 0 _ Tryz.f28 fn_28 _ rfl _ ann_28 _ rfl]
  by_cases hy : y = x
  ·rw [if_pos (by simp [hy])]
   simp -implicitDefEqProofs only [getD_app, lt_app, ltn_app, zero_le_cast, Int.toNat_natCast, hy, go_sem]
  ·have e : ((y :: suf).any fun y => decide (y = x)) = suf.any fun y => decide (y = x) := by simp [hy]
   rw [e]
   simp -implicitDefEqProofs only [getD_app, lt_app, ltn_app, zero_le_cast, Int.toNat_natCast, fa hy, hw, go_sem]
   exact ih
def hasL (xs : List Int) (x : Int) : Bool := xs.any fun y => decide (y = x)
theorem call_rh (xs : List Int) (x : Int) (hb : xs.length < 1000000) : callOf pr 28 [L xs, I x] [] = some (B (hasL xs x), []) := by
 have h := loop_rh x xs [] (by simpa using hb)
 simp only [List.nil_append, List.length_nil, Int.natCast_zero] at h
 rw [call_eq pr 28 _ _ Tryz.f28 fn_28 _ rfl _ ann_28 rfl]
 unfold hasL
 cases ha : (xs.any fun y => decide (y = x)) with
 | true => rw [ha, if_pos rfl] at h; simp -implicitDefEqProofs only [h, go_sem]
 | false => rw [ha, if_neg (by simp)] at h; simp -implicitDefEqProofs only [h, go_sem]
def clrE (e : En) : En := (e.1, e.2.1, e.2.2.2.1, e.2.2.2.1, ())
def clrT (t : List (List En)) : List (List En) := t.map fun x => x.map clrE
theorem clrT_length (t : List (List En)) : (clrT t).length = t.length := by simp [clrT]
theorem clrT_rows {t : List (List En)} (h : ∀ x ∈ t, x.length = 8) : ∀ x ∈ clrT t, x.length = 8 := by
 intro x hx
 simp only [clrT, List.mem_map] at hx
 obtain ⟨y, hy, rfl⟩ := hx
 simp [h y hy]
theorem map_app1 {α β : Type} (f : α → β) (p : List α) (x : α) (r : List β) : (p ++ [x]).map f ++ r = p.map f ++ f x :: r := by simp
theorem loop_icj0 (r : List Int) (b : List Ca) (n : Int) (tpre tsuf : List (List En)) : ∀ (suf pre : List En), pre.length + suf.length = 8 →
  loopOf pr 29 1 ⟨[(2, .op 128 0), (4, .op 256 0), (6, .os (.n 833 tpre.length 0)), (15, .os (.t 833)), (16, I n), (17, I tpre.length), (22, I 8), (23, I pre.length)], [(128, .box [.nilS, .nilS, .nilS]), (832, .arr true false (.int .i64) r), (833, .arr true true (.slice tyE) (tpre ++ (pre.map clrE ++ suf) :: tsuf)), (256, .box [.os (.t 832), .os (.t 833), .empS])]⟩ = some (.exit 2, ⟨[(2, .op 128 0), (4, .op 256 0), (6, .os (.n 833 tpre.length 0)), (15, .os (.t 833)), (16, I n), (17, I tpre.length), (22, I 8), (23, I 8)], [(128, .box [.nilS, .nilS, .nilS]), (832, .arr true false (.int .i64) r), (833, .arr true true (.slice tyE) (tpre ++ ((pre ++ suf).map clrE) :: tsuf)), (256, .box [.os (.t 832), .os (.t 833), .empS])]⟩)
 | [], pre, hl => by
  have hp : ((pre.length : Int) < 8) = False := fa (by simp at hl; omega)
  have he : (pre.length : Int) = 8 := by simp at hl; omega
  rw [loop_eq pr 29 1 _ Tryz.f29 fn_29 _ rfl _ ann_29 _ rfl]
  simp -implicitDefEqProofs only [hp, List.append_nil, he, Int.lt_irrefl, go_sem]
 | (f, w, u, d, ()) :: suf, pre, hl => by
  simp only [List.length_cons] at hl
  have hp : ((pre.length : Int) < 8) = True := tr (by omega)
  have hw : IntKind.i64.wrap ((pre.length : Int) + 1) = ((pre.length + 1 : Nat) : Int) := by rw [wrap_i] <;> omega
  have e1 : (pre ++ [(f, w, u, d, ())]).length = pre.length + 1 := by simp
  have ih := loop_icj0 r b n tpre tsuf suf (pre ++ [(f, w, u, d, ())]) (by simp; omega)
  rw [e1, map_app1, app_one] at ih
  have q1 : pre.length = (pre.map clrE).length := by simp
  rw [loop_eq pr 29 1 _ Tryz.f29 fn_29 _ rfl _ ann_29 _ rfl]
  have g1 : ∀ z : En, ((pre.map clrE) ++ (f, w, u, d, ()) :: suf).getD pre.length z = (f, w, u, d, ()) := by intro z; rw [q1]; simp
  have g2 : ∀ y : En, ((pre.map clrE) ++ (f, w, u, d, ()) :: suf).set pre.length y = (pre.map clrE) ++ y :: suf := by intro y; rw [q1]; simp
  have g3 : ((pre.length : Int) < ((((pre.map clrE) ++ (f, w, u, d, ()) :: suf).length : Nat) : Int)) = True := tr (by simp; omega)
  have g4 : (pre.length < ((pre.map clrE) ++ (f, w, u, d, ()) :: suf).length) = True := tr (by simp)
  simp -implicitDefEqProofs only [getD_app, set_app, lt_app, ltn_app, zero_le_cast, Int.toNat_natCast, hp, hw, g1, g2, g3, g4, go_sem]
  exact ih
theorem loop_ici0 (r : List Int) (b : List Ca) (n : Nat) : ∀ (suf pre : List (List En)), pre.length + suf.length = n → n ≤ 8 → (∀ x ∈ suf, x.length = 8) →
  loopOf pr 29 0 ⟨[(2, .op 128 0), (4, .op 256 0), (15, .os (.t 833)), (16, I n), (17, I pre.length)], [(128, .box [.nilS, .nilS, .nilS]), (832, .arr true false (.int .i64) r), (833, .arr true true (.slice tyE) (clrT pre ++ suf)), (256, .box [.os (.t 832), .os (.t 833), .empS])]⟩ = some (.exit 0, ⟨[(2, .op 128 0), (4, .op 256 0), (15, .os (.t 833)), (16, I n), (17, I n)], [(128, .box [.nilS, .nilS, .nilS]), (832, .arr true false (.int .i64) r), (833, .arr true true (.slice tyE) (clrT (pre ++ suf))), (256, .box [.os (.t 832), .os (.t 833), .empS])]⟩)
 | [], pre, hl, h8, hx => by
  have hl : pre.length = n := by simpa using hl
  subst hl
  rw [loop_eq pr 29 0 _ Tryz.f29 fn_29 _ rfl _ ann_29 _ rfl]
  simp -implicitDefEqProofs only [List.append_nil, Int.lt_irrefl, List.length_nil, Nat.add_zero, go_sem]
 | x :: suf, pre, hl, h8, hx => by
  simp only [List.length_cons] at hl
  have hw : IntKind.i64.wrap ((pre.length : Int) + 1) = ((pre.length + 1 : Nat) : Int) := by rw [wrap_i] <;> omega
  have e1 : (pre ++ [x]).length = pre.length + 1 := by simp
  have ih := loop_ici0 r b n suf (pre ++ [x]) (by simp; omega) h8 (fun y hy => hx y (by simp [hy]))
  have c1 : clrT (pre ++ [x]) ++ suf = clrT pre ++ (x.map clrE) :: suf := by simp [clrT]
  rw [e1, c1, app_one] at ih
  have hx8 := hx x (by simp)
  have h := loop_icj0 r b n (clrT pre) suf x [] (by simpa using hx8)
  simp only [clrT_length, List.map_nil, List.nil_append, List.length_nil] at h
  have h : loopOf pr 29 1 ⟨[(2, .op 128 0), (4, .op 256 0), (6, .os (.n 833 pre.length 0)), (15, .os (.t 833)), (16, I n), (17, I pre.length), (22, I 8), (23, I 0)], [(128, .box [.nilS, .nilS, .nilS]), (832, .arr true false (.int .i64) r), (833, .arr true true (.slice tyE) (clrT pre ++ x :: suf)), (256, .box [.os (.t 832), .os (.t 833), .empS])]⟩ = _ := h
  rw [loop_eq pr 29 0 _ Tryz.f29 fn_29 _ rfl _ ann_29 _ rfl]
  have g3 : ((pre.length : Int) < (n : Int)) = True := tr (by omega)
  have g4 : ((pre.length : Int) < (((clrT pre ++ x :: suf).length : Nat) : Int)) = True := tr (by simp [clrT]; omega)
  have g5 : (pre.length < (clrT pre ++ x :: suf).length) = True := tr (by simp [clrT])
  have g6 : ∀ z : List En, (clrT pre ++ x :: suf).getD pre.length z = x := by intro z; rw [← clrT_length pre]; simp
  simp -implicitDefEqProofs only [g3, g4, g5, g6, hw, hx8, zero_le_cast, Int.toNat_natCast, Int.cast_ofNat_Int, h, go_sem]
  exact ih
theorem loop_icj1 (r : List Int) (b : List Ca) (n : Int) (tpre tsuf : List (List En)) : ∀ (suf pre : List En), pre.length + suf.length = 8 →
  loopOf pr 29 1 ⟨[(2, .op 128 0), (4, .op 256 0), (6, .os (.n 834 tpre.length 0)), (15, .os (.t 834)), (16, I n), (17, I tpre.length), (22, I 8), (23, I pre.length)], [(128, .box [.nilS, .nilS, .nilS]), (832, .arr true false (.int .i64) r), (833, .arr true false tyC b), (834, .arr true true (.slice tyE) (tpre ++ (pre.map clrE ++ suf) :: tsuf)), (256, .box [.os (.t 832), .os (.t 834), .os (.t 833)])]⟩ = some (.exit 2, ⟨[(2, .op 128 0), (4, .op 256 0), (6, .os (.n 834 tpre.length 0)), (15, .os (.t 834)), (16, I n), (17, I tpre.length), (22, I 8), (23, I 8)], [(128, .box [.nilS, .nilS, .nilS]), (832, .arr true false (.int .i64) r), (833, .arr true false tyC b), (834, .arr true true (.slice tyE) (tpre ++ ((pre ++ suf).map clrE) :: tsuf)), (256, .box [.os (.t 832), .os (.t 834), .os (.t 833)])]⟩)
 | [], pre, hl => by
  have hp : ((pre.length : Int) < 8) = False := fa (by simp at hl; omega)
  have he : (pre.length : Int) = 8 := by simp at hl; omega
  rw [loop_eq pr 29 1 _ Tryz.f29 fn_29 _ rfl _ ann_29 _ rfl]
  simp -implicitDefEqProofs only [hp, List.append_nil, he, Int.lt_irrefl, go_sem]
 | (f, w, u, d, ()) :: suf, pre, hl => by
  simp only [List.length_cons] at hl
  have hp : ((pre.length : Int) < 8) = True := tr (by omega)
  have hw : IntKind.i64.wrap ((pre.length : Int) + 1) = ((pre.length + 1 : Nat) : Int) := by rw [wrap_i] <;> omega
  have e1 : (pre ++ [(f, w, u, d, ())]).length = pre.length + 1 := by simp
  have ih := loop_icj1 r b n tpre tsuf suf (pre ++ [(f, w, u, d, ())]) (by simp; omega)
  rw [e1, map_app1, app_one] at ih
  have q1 : pre.length = (pre.map clrE).length := by simp
  rw [loop_eq pr 29 1 _ Tryz.f29 fn_29 _ rfl _ ann_29 _ rfl]
  have g1 : ∀ z : En, ((pre.map clrE) ++ (f, w, u, d, ()) :: suf).getD pre.length z = (f, w, u, d, ()) := by intro z; rw [q1]; simp
  have g2 : ∀ y : En, ((pre.map clrE) ++ (f, w, u, d, ()) :: suf).set pre.length y = (pre.map clrE) ++ y :: suf := by intro y; rw [q1]; simp
  have g3 : ((pre.length : Int) < ((((pre.map clrE) ++ (f, w, u, d, ()) :: suf).length : Nat) : Int)) = True := tr (by simp; omega)
  have g4 : (pre.length < ((pre.map clrE) ++ (f, w, u, d, ()) :: suf).length) = True := tr (by simp)
  simp -implicitDefEqProofs only [getD_app, set_app, lt_app, ltn_app, zero_le_cast, Int.toNat_natCast, hp, hw, g1, g2, g3, g4, go_sem]
  exact ih
theorem loop_ici1 (r : List Int) (b : List Ca) (n : Nat) : ∀ (suf pre : List (List En)), pre.length + suf.length = n → n ≤ 8 → (∀ x ∈ suf, x.length = 8) →
  loopOf pr 29 0 ⟨[(2, .op 128 0), (4, .op 256 0), (15, .os (.t 834)), (16, I n), (17, I pre.length)], [(128, .box [.nilS, .nilS, .nilS]), (832, .arr true false (.int .i64) r), (833, .arr true false tyC b), (834, .arr true true (.slice tyE) (clrT pre ++ suf)), (256, .box [.os (.t 832), .os (.t 834), .os (.t 833)])]⟩ = some (.exit 0, ⟨[(2, .op 128 0), (4, .op 256 0), (15, .os (.t 834)), (16, I n), (17, I n)], [(128, .box [.nilS, .nilS, .nilS]), (832, .arr true false (.int .i64) r), (833, .arr true false tyC b), (834, .arr true true (.slice tyE) (clrT (pre ++ suf))), (256, .box [.os (.t 832), .os (.t 834), .os (.t 833)])]⟩)
 | [], pre, hl, h8, hx => by
  have hl : pre.length = n := by simpa using hl
  subst hl
  rw [loop_eq pr 29 0 _ Tryz.f29 fn_29 _ rfl _ ann_29 _ rfl]
  simp -implicitDefEqProofs only [List.append_nil, Int.lt_irrefl, List.length_nil, Nat.add_zero, go_sem]
 | x :: suf, pre, hl, h8, hx => by
  simp only [List.length_cons] at hl
  have hw : IntKind.i64.wrap ((pre.length : Int) + 1) = ((pre.length + 1 : Nat) : Int) := by rw [wrap_i] <;> omega
  have e1 : (pre ++ [x]).length = pre.length + 1 := by simp
  have ih := loop_ici1 r b n suf (pre ++ [x]) (by simp; omega) h8 (fun y hy => hx y (by simp [hy]))
  have c1 : clrT (pre ++ [x]) ++ suf = clrT pre ++ (x.map clrE) :: suf := by simp [clrT]
  rw [e1, c1, app_one] at ih
  have hx8 := hx x (by simp)
  have h := loop_icj1 r b n (clrT pre) suf x [] (by simpa using hx8)
  simp only [clrT_length, List.map_nil, List.nil_append, List.length_nil] at h
  have h : loopOf pr 29 1 ⟨[(2, .op 128 0), (4, .op 256 0), (6, .os (.n 834 pre.length 0)), (15, .os (.t 834)), (16, I n), (17, I pre.length), (22, I 8), (23, I 0)], [(128, .box [.nilS, .nilS, .nilS]), (832, .arr true false (.int .i64) r), (833, .arr true false tyC b), (834, .arr true true (.slice tyE) (clrT pre ++ x :: suf)), (256, .box [.os (.t 832), .os (.t 834), .os (.t 833)])]⟩ = _ := h
  rw [loop_eq pr 29 0 _ Tryz.f29 fn_29 _ rfl _ ann_29 _ rfl]
  have g3 : ((pre.length : Int) < (n : Int)) = True := tr (by omega)
  have g4 : ((pre.length : Int) < (((clrT pre ++ x :: suf).length : Nat) : Int)) = True := tr (by simp [clrT]; omega)
  have g5 : (pre.length < (clrT pre ++ x :: suf).length) = True := tr (by simp [clrT])
  have g6 : ∀ z : List En, (clrT pre ++ x :: suf).getD pre.length z = x := by intro z; rw [← clrT_length pre]; simp
  simp -implicitDefEqProofs only [g3, g4, g5, g6, hw, hx8, zero_le_cast, Int.toNat_natCast, Int.cast_ofNat_Int, h, go_sem]
  exact ih
theorem call_ic (r : List Int) (t : List (List En)) (b : List Ca) (hr : r.length < 2000000) (ht : t.length < 2000000) (hx : ∀ x ∈ t, x.length < 2000000) (hb : b.length < 2000000) : if specS r t b = true then
   (t = [] ∧ b = [] ∧ callOf pr 29 [.agg [L r, LLE t, LC b]] [] = some (.tuple [.agg [.os (.t 832), .nilS, .empS], B true], [(832, .arr true false (.int .i64) r)])) ∨
   (t = [] ∧ callOf pr 29 [.agg [L r, LLE t, LC b]] [] = some (.tuple [.agg [.os (.t 832), .nilS, .os (.t 833)], B true], [(832, .arr true false (.int .i64) r), (833, .arr true false tyC b)])) ∨
   (b = [] ∧ callOf pr 29 [.agg [L r, LLE t, LC b]] [] = some (.tuple [.agg [.os (.t 832), .os (.t 833), .empS], B true], [(832, .arr true false (.int .i64) r), (833, .arr true true (.slice tyE) (clrT t))])) ∨
   (callOf pr 29 [.agg [L r, LLE t, LC b]] [] = some (.tuple [.agg [.os (.t 832), .os (.t 834), .os (.t 833)], B true], [(832, .arr true false (.int .i64) r), (833, .arr true false tyC b), (834, .arr true true (.slice tyE) (clrT t))]))
  else callOf pr 29 [.agg [L r, LLE t, LC b]] [] = some (.tuple [.agg [.nilS, .nilS, .nilS], B false], []) := by
 have h1 := call_vs r t b hr ht hx hb
 rw [← space_eq] at h1
 cases hs : specS r t b with
 | false =>
  rw [hs] at h1
  rw [if_neg (by simp)]
  rw [call_eq pr 29 _ _ Tryz.f29 fn_29 _ rfl _ ann_29 rfl]
  simp -implicitDefEqProofs only [h1, go_sem]
 | true =>
  rw [hs] at h1
  rw [if_pos rfl]
  obtain ⟨s1, s2, s3, s4, s5⟩ := spec_tab hs
  rcases clone4 r t b s1 hb (by omega) s3 with ⟨rfl, rfl, h2⟩ | ⟨rfl, h2⟩ | ⟨rfl, ht0, h2⟩ | ⟨ht0, h2⟩
  ·refine .inl ⟨rfl, rfl, ?_⟩
   have h : loopOf pr 29 0 ⟨[(2, .op 128 0), (4, .op 256 0), (15, .nilS), (16, I 0), (17, I 0)], [(128, .box [.nilS, .nilS, .nilS]), (832, .arr true false (.int .i64) r), (256, .box [.os (.t 832), .nilS, .empS])]⟩ = some (.exit 0, ⟨[(2, .op 128 0), (4, .op 256 0), (15, .nilS), (16, I 0), (17, I 0)], [(128, .box [.nilS, .nilS, .nilS]), (832, .arr true false (.int .i64) r), (256, .box [.os (.t 832), .nilS, .empS])]⟩) := by
    rw [loop_eq pr 29 0 _ Tryz.f29 fn_29 _ rfl _ ann_29 _ rfl]
    simp -implicitDefEqProofs only [Int.lt_irrefl, go_sem]
   rw [call_eq pr 29 _ _ Tryz.f29 fn_29 _ rfl _ ann_29 rfl]
   simp -implicitDefEqProofs only [h1, h2, h, go_sem]
  ·refine .inr (.inl ⟨rfl, ?_⟩)
   have h : loopOf pr 29 0 ⟨[(2, .op 128 0), (4, .op 256 0), (15, .nilS), (16, I 0), (17, I 0)], [(128, .box [.nilS, .nilS, .nilS]), (832, .arr true false (.int .i64) r), (833, .arr true false tyC b), (256, .box [.os (.t 832), .nilS, .os (.t 833)])]⟩ = some (.exit 0, ⟨[(2, .op 128 0), (4, .op 256 0), (15, .nilS), (16, I 0), (17, I 0)], [(128, .box [.nilS, .nilS, .nilS]), (832, .arr true false (.int .i64) r), (833, .arr true false tyC b), (256, .box [.os (.t 832), .nilS, .os (.t 833)])]⟩) := by
    rw [loop_eq pr 29 0 _ Tryz.f29 fn_29 _ rfl _ ann_29 _ rfl]
    simp -implicitDefEqProofs only [Int.lt_irrefl, go_sem]
   rw [call_eq pr 29 _ _ Tryz.f29 fn_29 _ rfl _ ann_29 rfl]
   simp -implicitDefEqProofs only [h1, h2, h, go_sem]
  ·refine .inr (.inr (.inl ⟨rfl, ?_⟩))
   have h := loop_ici0 r [] t.length t [] (by simp) s2 s3
   simp only [clrT, List.map_nil, List.nil_append, List.length_nil] at h
   have h : loopOf pr 29 0 ⟨[(2, .op 128 0), (4, .op 256 0), (15, .os (.t 833)), (16, I t.length), (17, I 0)], [(128, .box [.nilS, .nilS, .nilS]), (832, .arr true false (.int .i64) r), (833, .arr true true (.slice tyE) t), (256, .box [.os (.t 832), .os (.t 833), .empS])]⟩ = _ := h
   rw [call_eq pr 29 _ _ Tryz.f29 fn_29 _ rfl _ ann_29 rfl]
   simp -implicitDefEqProofs only [h1, h2, h, go_sem]
   rfl
  ·refine .inr (.inr (.inr ?_))
   have h := loop_ici1 r b t.length t [] (by simp) s2 s3
   simp only [clrT, List.map_nil, List.nil_append, List.length_nil] at h
   have h : loopOf pr 29 0 ⟨[(2, .op 128 0), (4, .op 256 0), (15, .os (.t 834)), (16, I t.length), (17, I 0)], [(128, .box [.nilS, .nilS, .nilS]), (832, .arr true false (.int .i64) r), (833, .arr true false tyC b), (834, .arr true true (.slice tyE) t), (256, .box [.os (.t 832), .os (.t 834), .os (.t 833)])]⟩ = _ := h
   rw [call_eq pr 29 _ _ Tryz.f29 fn_29 _ rfl _ ann_29 rfl]
   simp -implicitDefEqProofs only [h1, h2, h, go_sem]
   rfl
theorem frE_clr (es : List En) : frE (es.map clrE) = frE es := by
 unfold frE
 rw [List.map_map]
 rfl
theorem frT_clr (t : List (List En)) : frT (clrT t) = frT t := by
 unfold frT clrT
 rw [List.flatMap_map]
 congr 1
 funext x
 exact frE_clr x
theorem ent_clr {e : En} (h : entB e = true) : entB (clrE e) = true := by
 obtain ⟨f, w, u, d, ⟨⟩⟩ := e
 simp only [entB, emptyE, clrE] at h ⊢
 cases w <;> cases u <;> cases d <;> first | exact h | (simp at h ⊢; done) | (simp at h ⊢; exact h) | (simp at h ⊢; exact .inr h) | (simp at h ⊢; rcases h with h | h <;> simp [h])
theorem Vs.clr {r : List Int} {t : List (List En)} {b : List Ca} (h : Vs r t b) : Vs r (clrT t) b := by
 refine ⟨h.root, by rw [clrT_length]; exact h.few, by rw [clrT_length]; exact h.refs, by rw [clrT_length]; exact h.cnt, clrT_rows h.rows, fun x hx e he => ?_, by rw [frT_clr]; exact h.nod, h.buf, h.bok⟩
 simp only [clrT, List.mem_map] at hx
 obtain ⟨y, hy, rfl⟩ := hx
 rw [List.mem_map] at he
 obtain ⟨e0, he0, rfl⟩ := he
 exact ent_clr (h.ents y hy e0 he0)
theorem walk_clr {r : List Int} {t : List (List En)} {b : List Ca} (h : Vs r t b) {p : Int} (ha : addrB p = true) : walkS r (clrT t) p = clrE (walkS r t p) := by
 by_cases h0 : rootAt r p < 0
 ·simp only [walkS, if_pos h0]; rfl
 ·obtain ⟨_, _, hi, hj⟩ := page_facts ha
  obtain ⟨g1, g2, g3⟩ := root_facts h.root hi h.refs h.rows h0
  simp only [walkS, if_neg h0]
  have e : rowAt r (clrT t) p = (rowAt r t p).map clrE := by
   unfold rowAt clrT
   simp only [List.getD, List.getElem?_map, List.getElem?_eq_getElem g1, Option.map_some, Option.getD_some]
  rw [e]
  simp only [List.getD, List.getElem?_map, List.getElem?_eq_getElem (show pgJ p < (rowAt r t p).length by omega), Option.map_some, Option.getD_some]
def isDirty (r : List Int) (t : List (List En)) (q : Int) : Prop := addrB q = true ∧ 0 ≤ (walkS r t q).1 ∧ (walkS r t q).2.2.2.1 = true
theorem mem_dirty {r : List Int} {t : List (List En)} {q : Int} : q ∈ dirtyL r t ↔ isDirty r t q := by
 unfold dirtyL isDirty
 constructor
 ·intro h
  obtain ⟨k, rfl, h1, h2⟩ := those_in h
  simp only [pgsB, Bool.and_eq_true, decide_eq_true_eq] at h2
  exact ⟨addr_nat h1, h2⟩
 ·rintro ⟨h1, h2, h3⟩
  simp only [addrB, decide_eq_true_eq] at h1
  obtain ⟨k, rfl⟩ : ∃ k : Nat, q = k := ⟨q.toNat, by omega⟩
  exact mem_those (by omega) (by simp only [pgsB, Bool.and_eq_true, decide_eq_true_eq]; exact ⟨h2, h3⟩)
theorem mem_map {r : List Int} {t : List (List En)} {q : Int} : q ∈ mapL r t ↔ addrB q = true ∧ 0 ≤ (walkS r t q).1 := by
 unfold mapL
 constructor
 ·intro h
  obtain ⟨k, rfl, h1, h2⟩ := those_in h
  simp only [pgsB, Bool.and_true, decide_eq_true_eq] at h2
  exact ⟨addr_nat h1, h2⟩
 ·rintro ⟨h1, h2⟩
  simp only [addrB, decide_eq_true_eq] at h1
  obtain ⟨k, rfl⟩ : ∃ k : Nat, q = k := ⟨q.toNat, by omega⟩
  exact mem_those (by omega) (by simp only [pgsB, Bool.and_true, decide_eq_true_eq]; exact h2)
theorem those_nodup (f : Nat → Bool) (n : Nat) : (those f n).Nodup := by
 unfold those
 rw [List.nodup_iff_pairwise_ne, List.pairwise_map]
 exact (List.pairwise_lt_range.filter _).imp fun {a b} h e => by
  have := Int.ofNat.inj e
  omega
def written (r : List Int) (t : List (List En)) (b : List Ca) (k p : Int) : Prop := (useR r t b k p).1 ≤ 1 ∧ k = 1
theorem dirty_use {r : List Int} {t : List (List En)} {b : List Ca} (hV : Vs r t b) (hA : Agr r t b) (k : Int) {p q : Int} (ha : addrB p = true) : isDirty r (useR r t b k p).2.2.1 q ↔ isDirty r t q ∨ (q = p ∧ written r t b k p) := by
 unfold written
 by_cases he : (walkS r t p).1 < 0
 ·rw [use_nopage hV hA he]
  constructor
  ·exact .inl
  ·rintro (h | ⟨_, h, _⟩)
   ·exact h
   ·simp only at h; omega
 ·cases hw : (decide (k = 1) && !(walkS r t p).2.1) with
  | true =>
   have hd := use_denied hV hA he hw
   have ht : (useR r t b k p).2.2.1 = t := by
    unfold useR
    split
    ·rw [if_neg he, if_pos hw]
    ·rename_i i hf
     obtain ⟨f1, f2, f3⟩ := flush_some hV.fit.one hf
     have hm : b.getD i zC ∈ b := by rw [List.getD_eq_getElem?_getD, List.getElem?_eq_getElem f2]; exact List.getElem_mem f2
     have hc := (hA _ hm).2.2
     rw [f3] at hc
     rw [← hc, if_pos hw]
   rw [ht, hd.1]
   constructor
   ·exact .inl
   ·rintro (h | ⟨_, h, _⟩)
    ·exact h
    ·omega
  | false =>
   obtain ⟨q1, q2, q3, _⟩ := use_made hV hA ha he hw
   have ho : (useR r t b k p).1 ≤ 1 := by rw [q1]; split <;> omega
   have ht : (useR r t b k p).2.2.1 = usedT r t p (decide (k = 1)) := by
    unfold useR
    split
    ·rw [if_neg he, if_neg (by rw [hw]; simp)]
    ·rename_i i hf
     obtain ⟨f1, f2, f3⟩ := flush_some hV.fit.one hf
     have hm : b.getD i zC ∈ b := by rw [List.getD_eq_getElem?_getD, List.getElem?_eq_getElem f2]; exact List.getElem_mem f2
     have hc := (hA _ hm).2.2
     rw [f3] at hc
     rw [← hc, if_neg (by rw [hw]; simp)]
   rw [ht]
   unfold isDirty
   constructor
   ·rintro ⟨h1, h2, h3⟩
    rw [walk_used hV ha h1] at h2 h3
    by_cases hq : q = p
    ·subst hq
     rw [if_pos ⟨rfl, he⟩] at h2 h3
     simp only [usedE, Bool.or_eq_true, decide_eq_true_eq] at h3
     rcases h3 with h3 | h3
     ·exact .inl ⟨h1, by omega, h3⟩
     ·exact .inr ⟨rfl, ho, h3⟩
    ·rw [if_neg (fun h => hq h.1)] at h2 h3
     exact .inl ⟨h1, h2, h3⟩
   ·rintro (⟨h1, h2, h3⟩ | ⟨rfl, _, hk⟩)
    ·refine ⟨h1, ?_, ?_⟩ <;> rw [walk_used hV ha h1]
     ·split
      ·rename_i hh; obtain ⟨rfl, _⟩ := hh; exact h2
      ·exact h2
     ·split
      ·rename_i hh; obtain ⟨rfl, _⟩ := hh; simp only [usedE]; rw [h3]; rfl
      ·exact h3
    ·refine ⟨ha, ?_, ?_⟩ <;> rw [walk_used hV ha ha, if_pos ⟨rfl, he⟩]
     ·simp only [usedE]; omega
     ·simp only [usedE]; rw [decide_eq_true hk]; simp
def wantS (r : List Int) : List Acc → List (List En) → List Ca → List Int → List Int
 | [], _, _, want => want
 | (k, p, _) :: xs, t, b, want => wantS r xs (useR r t b k p).2.2.1 (useR r t b k p).2.2.2 (if (decide ((useR r t b k p).1 ≤ 1) && (decide (k = 1) && !hasL want p)) = true then want ++ [p] else want)
theorem has_mem {xs : List Int} {x : Int} : hasL xs x = true ↔ x ∈ xs := by
 unfold hasL
 rw [List.any_eq_true]
 constructor
 ·rintro ⟨y, hy, h⟩; simp only [decide_eq_true_eq] at h; exact h ▸ hy
 ·intro h; exact ⟨x, h, by simp⟩
theorem want_ok {r : List Int} : ∀ (xs : List Acc) {t : List (List En)} {b : List Ca} {want : List Int}, xs.all accB = true → Vs r t b → Agr r t b → want.Nodup → (∀ q, q ∈ want ↔ isDirty r t q) →
  (wantS r xs t b want).Nodup ∧ (∀ q, q ∈ wantS r xs t b want ↔ isDirty r (runS r xs t b).2.1 q) ∧ Vs r (runS r xs t b).2.1 (runS r xs t b).2.2 ∧ (wantS r xs t b want).length ≤ want.length + xs.length
 | [], t, b, want, _, hV, _, h1, h2 => ⟨h1, h2, hV, Nat.le_refl _⟩
 | (k, p, ()) :: xs, t, b, want, hx, hV, hA, h1, h2 => by
  simp only [List.all_cons, Bool.and_eq_true, accB] at hx
  have ha := hx.1.2
  have hd := fun q => dirty_use (q := q) hV hA k ha
  have hxs : xs.all accB = true := by simpa [accB] using hx.2
  have key : (if (decide ((useR r t b k p).1 ≤ 1) && (decide (k = 1) && !hasL want p)) = true then want ++ [p] else want).Nodup ∧ (∀ q, q ∈ (if (decide ((useR r t b k p).1 ≤ 1) && (decide (k = 1) && !hasL want p)) = true then want ++ [p] else want) ↔ isDirty r (useR r t b k p).2.2.1 q) ∧ (if (decide ((useR r t b k p).1 ≤ 1) && (decide (k = 1) && !hasL want p)) = true then want ++ [p] else want).length ≤ want.length + 1 := by
   split
   ·rename_i hc
    simp only [Bool.and_eq_true, decide_eq_true_eq, Bool.not_eq_true'] at hc
    have hn : p ∉ want := fun h => by have := has_mem.2 h; rw [hc.2.2] at this; cases this
    refine ⟨?_, fun q => ?_, by simp⟩
    ·rw [List.nodup_append]
     exact ⟨h1, by simp, fun x hx' y hy => by simp only [List.mem_singleton] at hy; subst hy; rintro rfl; exact hn hx'⟩
    ·rw [List.mem_append, List.mem_singleton, h2, hd q]
     constructor
     ·rintro (h | h)
      ·exact .inl h
      ·exact .inr ⟨h, hc.1, hc.2.1⟩
     ·rintro (h | ⟨h, _⟩)
      ·exact .inl h
      ·exact .inr h
   ·rename_i hc
    refine ⟨h1, fun q => ?_, by omega⟩
    rw [h2, hd q]
    constructor
    ·exact .inl
    ·rintro (h | ⟨rfl, hw1, hw2⟩)
     ·exact h
     ·rw [← h2]
      have : hasL want q = true := by
       by_cases hh : hasL want q = true
       ·exact hh
       ·exfalso; apply hc
        simp only [Bool.and_eq_true, decide_eq_true_eq, Bool.not_eq_true']
        exact ⟨hw1, hw2, by simpa using hh⟩
      exact has_mem.1 this
  obtain ⟨k1, k2, k3⟩ := key
  obtain ⟨i1, i2, i3, i4⟩ := want_ok xs (want := if (decide ((useR r t b k p).1 ≤ 1) && (decide (k = 1) && !hasL want p)) = true then want ++ [p] else want) hxs (hV.use k ha) (hA.use hV k ha) k1 k2
  refine ⟨i1, i2, i3, ?_⟩
  simp only [List.length_cons]
  exact Nat.le_trans i4 (by omega)
theorem nodup_len {a b : List Int} (h1 : a.Nodup) (h2 : b.Nodup) (h : ∀ q, q ∈ a ↔ q ∈ b) : a.length = b.length := by
 have sub : ∀ (a b : List Int), a.Nodup → (∀ x ∈ a, x ∈ b) → a.length ≤ b.length := by
  intro a
  induction a with
  | nil => intro b _ _; exact Nat.zero_le _
  | cons x a ih =>
   intro b h1 h2
   rw [List.nodup_cons] at h1
   have hx : x ∈ b := h2 x (by simp)
   have h := ih (b.erase x) h1.2 (fun y hy => by
    have : y ≠ x := by rintro rfl; exact h1.1 hy
    exact (List.mem_erase_of_ne this).2 (h2 y (by simp [hy])))
   rw [List.length_erase_of_mem hx] at h
   have := List.length_pos_of_mem hx
   simp only [List.length_cons]; omega
 exact Nat.le_antisymm (sub a b h1 fun x hx => (h x).1 hx) (sub b a h2 fun x hx => (h x).2 hx)
end Go.Proofs.YtbapbghnageckaaGreat.PI
