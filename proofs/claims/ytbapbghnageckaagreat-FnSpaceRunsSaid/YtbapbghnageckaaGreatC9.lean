/- Spaces, as the program looks at them: entries, buffers. -/
import Derived.Test.YtbapbghnageckaaGreatC4
namespace Go.Proofs.YtbapbghnageckaaGreat.PI
open Go Go.Q
set_option maxRecDepth 100000
set_option maxHeartbeats 4000000
set_option linter.unusedSimpArgs false
set_option linter.unusedVariables false
attribute [local go_sem] Nat.reduceAdd Nat.reduceSub Nat.reduceMul Nat.reduceMod Nat.reduceLT Nat.reduceLeDiff Nat.reduceEqDiff Nat.reduceBEq Nat.reduceDiv Int.reduceLT Int.reduceLE Int.reduceToNat Int.reduceNeg Int.reduceEq reduceCtorEq
attribute [local go_sem ↓] reduceIte reduceDIte
theorem call_ia (n : Int) : callOf pr 103 [I n] [] = some (B (addrB n), []) := by
 rw [call_eq pr 103 _ _ Tryz.f103 fn_103 _ rfl _ ann_103 rfl]
 simp -implicitDefEqProofs only [call_125, addrB, go_sem]
theorem call_if (n : Int) : callOf pr 77 [I n] [] = some (B (frameB n), []) := by
 rw [call_eq pr 77 _ _ Tryz.f77 fn_77 _ rfl _ ann_77 rfl]
 simp -implicitDefEqProofs only [call_125, frameB, go_sem]
def entB (e : En) : Bool := emptyE e || (frameB e.1 && (e.2.2.1 || !e.2.2.2.1))
theorem call_ie (f : Int) (w u d : Bool) : callOf pr 102 [.agg [I f, B w, B u, B d]] [] = some (B (entB (f, w, u, d, ())), []) := by
 have h := call_if f
 rw [call_eq pr 102 _ _ Tryz.f102 fn_102 _ rfl _ ann_102 rfl]
 by_cases hf : f = -1
 ·subst hf
  have hk : entB (-1, w, u, d, ()) = (!w && !u && !d) := by
   have : frameB (-1) = false := rfl
   simp [entB, emptyE, this]
  rw [hk]
  cases w <;> cases u <;> cases d <;> (simp -implicitDefEqProofs only [h, go_sem]) <;> rfl
 ·have hk : entB (f, w, u, d, ()) = (frameB f && (u || !d)) := by simp [entB, emptyE, hf]
  rw [hk]
  cases hfr : frameB f with
  | false =>
   rw [hfr] at h
   simp -implicitDefEqProofs only [h, fa hf, go_sem]
  | true =>
   rw [hfr] at h
   cases u <;> cases d <;> simp -implicitDefEqProofs only [h, fa hf, go_sem]
theorem call_v1 (n : Int) : callOf pr 98 [I n] [] = some (B (decide (n = -1)), []) := by
 rw [call_eq pr 98 _ _ Tryz.f98 fn_98 _ rfl _ ann_98 rfl]
 by_cases hn : n = -1
 ·subst hn
  simp -implicitDefEqProofs only [go_sem]
 ·have hk : decide (n = -1) = false := by simp [hn]
  simp -implicitDefEqProofs only [fa hn, hk, go_sem]
theorem call_v2 (f : Int) (w u d : Bool) : callOf pr 101 [.agg [I f, B w, B u, B d]] [] = some (B (!entB (f, w, u, d, ())), []) := by
 rw [call_eq pr 101 _ _ Tryz.f101 fn_101 _ rfl _ ann_101 rfl]
 simp -implicitDefEqProofs only [call_ie, go_sem]
theorem call_len (t : List (List En)) : callOf pr 79 [LLE t] [] = some (I t.length, []) := by
 rw [call_eq pr 79 _ _ Tryz.f79 fn_79 _ rfl _ ann_79 rfl]
 simp -implicitDefEqProofs only [go_sem]
theorem loop_ixe : ∀ (suf pre : List En), pre.length + suf.length < 2000000 →
  (suf.all entB = true → loopOf pr 133 0 ⟨[(0, LE (pre ++ suf)), (1, .fn 101 []), (7, I ((pre.length + suf.length : Nat) : Int)), (8, I pre.length)], []⟩ = some (.exit 0, ⟨[(0, LE (pre ++ suf)), (1, .fn 101 []), (7, I ((pre.length + suf.length : Nat) : Int)), (8, I ((pre.length + suf.length : Nat) : Int))], []⟩)) ∧
  (suf.all entB = false → ∃ i : Nat, loopOf pr 133 0 ⟨[(0, LE (pre ++ suf)), (1, .fn 101 []), (7, I ((pre.length + suf.length : Nat) : Int)), (8, I pre.length)], []⟩ = some (.ret, ⟨[(4, I i)], []⟩))
 | [], pre, hb => by
  refine ⟨fun _ => ?_, fun h => by simp at h⟩
  rw [loop_eq pr 133 0 _ Tryz.f133 fn_133 _ rfl _ ann_133 _ rfl]
  simp -implicitDefEqProofs only [Int.lt_irrefl, List.append_nil, Nat.add_zero, List.length_nil, go_sem]
 | (f, w, u, d, ()) :: suf, pre, hb => by
  simp only [List.length_cons] at hb ⊢
  have hw : IntKind.i64.wrap ((pre.length : Int) + 1) = ((pre.length + 1 : Nat) : Int) := by rw [wrap_i] <;> omega
  have hlt : ((pre.length : Int) < ((pre.length + (suf.length + 1) : Nat) : Int)) = True := tr (by omega)
  have h1 := call_v2 f w u d
  obtain ⟨i1, i2⟩ := loop_ixe suf (pre ++ [(f, w, u, d, ())]) (by simp; omega)
  have e1 : (pre ++ [(f, w, u, d, ())]).length = pre.length + 1 := by simp
  have e2 : pre.length + 1 + suf.length = pre.length + (suf.length + 1) := by omega
  rw [app_one, e1, e2] at i1 i2
  cases ho : entB (f, w, u, d, ()) with
  | false =>
   rw [ho] at h1
   refine ⟨fun h => by simp [ho] at h, fun _ => ⟨pre.length, ?_⟩⟩
   rw [loop_eq pr 133 0 _ Tryz.f133 fn_133 _ rfl _ ann_133 _ rfl]
   simp -implicitDefEqProofs only [getD_app, lt_app, ltn_app, zero_le_cast, Int.toNat_natCast, h1, hlt, go_sem]
  | true =>
   rw [ho] at h1
   have e3 : ((f, w, u, d, ()) :: suf).all entB = suf.all entB := by simp [ho]
   rw [e3]
   refine ⟨fun h => ?_, fun h => ?_⟩
   ·have ih := i1 h
    rw [loop_eq pr 133 0 _ Tryz.f133 fn_133 _ rfl _ ann_133 _ rfl]
    simp -implicitDefEqProofs only [getD_app, lt_app, ltn_app, zero_le_cast, Int.toNat_natCast, h1, hlt, hw, go_sem]
    exact ih
   ·obtain ⟨i, ih⟩ := i2 h
    refine ⟨i, ?_⟩
    rw [loop_eq pr 133 0 _ Tryz.f133 fn_133 _ rfl _ ann_133 _ rfl]
    simp -implicitDefEqProofs only [getD_app, lt_app, ltn_app, zero_le_cast, Int.toNat_natCast, h1, hlt, hw, go_sem]
    exact ih
theorem call_cfe (xs : List En) (hb : xs.length < 2000000) : callOf pr 100 [LE xs, .fn 101 []] [] = some (B (!xs.all entB), []) := by
 obtain ⟨h1, h2⟩ := loop_ixe xs [] (by simpa using hb)
 simp only [List.nil_append, List.length_nil, Nat.zero_add] at h1 h2
 cases ho : xs.all entB with
 | true =>
  have h : loopOf pr 133 0 ⟨[(0, LE xs), (1, .fn 101 []), (7, I xs.length), (8, I 0)], []⟩ = some (.exit 0, ⟨[(0, LE xs), (1, .fn 101 []), (7, I xs.length), (8, I xs.length)], []⟩) := h1 ho
  have g : callOf pr 133 [LE xs, .fn 101 []] [] = some (I (-1), []) := by
   rw [call_eq pr 133 _ _ Tryz.f133 fn_133 _ rfl _ ann_133 rfl]
   simp -implicitDefEqProofs only [h, go_sem]
  rw [call_eq pr 100 _ _ Tryz.f100 fn_100 _ rfl _ ann_100 rfl]
  simp -implicitDefEqProofs only [g, go_sem]
 | false =>
  obtain ⟨i, h⟩ := h2 ho
  have h : loopOf pr 133 0 ⟨[(0, LE xs), (1, .fn 101 []), (7, I xs.length), (8, I 0)], []⟩ = some (.ret, ⟨[(4, I i)], []⟩) := h
  have g : callOf pr 133 [LE xs, .fn 101 []] [] = some (I i, []) := by
   rw [call_eq pr 133 _ _ Tryz.f133 fn_133 _ rfl _ ann_133 rfl]
   simp -implicitDefEqProofs only [h, go_sem]
  rw [call_eq pr 100 _ _ Tryz.f100 fn_100 _ rfl _ ann_100 rfl]
  simp -implicitDefEqProofs only [g, zero_le_cast, go_sem]
theorem call_bp1 (p q f : Int) (w : Bool) : callOf pr 134 [.agg [I q, I f, B w], .rp [I p]] [] = some (B (pageAt p (q, f, w, ())), []) := by
 rw [call_eq pr 134 _ _ Tryz.f134 fn_134 _ rfl _ ann_134 rfl]
 by_cases hq : q = p
 ·have hk : pageAt p (q, f, w, ()) = true := by simp [pageAt, hq]
  simp -implicitDefEqProofs only [tr hq, hk, go_sem]
 ·have hk : pageAt p (q, f, w, ()) = false := by simp [pageAt, hq]
  simp -implicitDefEqProofs only [fa hq, hk, go_sem]
theorem loop_ixc (g : Nat) (cs : List AV) (hC : Caps cs) (hg : pr.byref g = []) (P : Ca → Bool) (hP : ∀ (q f : Int) (w : Bool), callOf pr g (.agg [I q, I f, B w] :: cs) [] = some (B (P (q, f, w, ())), [])) : ∀ (suf pre : List Ca), pre.length + suf.length < 2000000 →
  loopOf pr 127 0 ⟨[(0, LC (pre ++ suf)), (1, .fn g cs), (7, I ((pre.length + suf.length : Nat) : Int)), (8, I pre.length)], []⟩ = match suf.findIdx? P with
   | some i => some (.ret, ⟨[(4, I ((pre.length + i : Nat) : Int))], []⟩)
   | none => some (.exit 0, ⟨[(0, LC (pre ++ suf)), (1, .fn g cs), (7, I ((pre.length + suf.length : Nat) : Int)), (8, I ((pre.length + suf.length : Nat) : Int))], []⟩)
 | [], pre, hb => by
  rw [loop_eq pr 127 0 _ Tryz.f127 fn_127 _ rfl _ ann_127 _ rfl]
  simp -implicitDefEqProofs only [Int.lt_irrefl, List.append_nil, Nat.add_zero, List.length_nil, List.findIdx?_nil, go_sem]
 | (q, f, w, ()) :: suf, pre, hb => by
  simp only [List.length_cons] at hb ⊢
  have hw : IntKind.i64.wrap ((pre.length : Int) + 1) = ((pre.length + 1 : Nat) : Int) := by rw [wrap_i] <;> omega
  have hlt : ((pre.length : Int) < ((pre.length + (suf.length + 1) : Nat) : Int)) = True := tr (by omega)
  have h1 := hP q f w
  have ih := loop_ixc g cs hC hg P hP suf (pre ++ [(q, f, w, ())]) (by simp; omega)
  have e1 : (pre ++ [(q, f, w, ())]).length = pre.length + 1 := by simp
  have e2 : pre.length + 1 + suf.length = pre.length + (suf.length + 1) := by omega
  rw [app_one, e1, e2] at ih
  rw [List.findIdx?_cons, loop_eq pr 127 0 _ Tryz.f127 fn_127 _ rfl _ ann_127 _ rfl]
  cases ho : P (q, f, w, ()) with
  | true =>
   rw [ho] at h1
   simp -implicitDefEqProofs only [getD_app, lt_app, ltn_app, zero_le_cast, Int.toNat_natCast, h1, hlt, hC.args, hC.own, hC.ow, hC.arg, hC.mapR, hC.leads, hg, Nat.add_zero, go_sem]
  | false =>
   rw [ho] at h1
   simp -implicitDefEqProofs only [getD_app, lt_app, ltn_app, zero_le_cast, Int.toNat_natCast, h1, hlt, hw, hC.args, hC.own, hC.ow, hC.arg, hC.mapR, hC.leads, hg, go_sem]
   rw [ih]
   cases List.findIdx? P suf with
   | none => rfl
   | some i => simp only [Option.map_some]; rw [show pre.length + 1 + i = pre.length + (i + 1) from by omega]
theorem call_ixc (g : Nat) (cs : List AV) (hC : Caps cs) (hg : pr.byref g = []) (P : Ca → Bool) (hP : ∀ (q f : Int) (w : Bool), callOf pr g (.agg [I q, I f, B w] :: cs) [] = some (B (P (q, f, w, ())), [])) (xs : List Ca) (hb : xs.length < 2000000) :
  callOf pr 127 [LC xs, .fn g cs] [] = some (I (match xs.findIdx? P with | some i => (i : Int) | none => -1), []) := by
 have h := loop_ixc g cs hC hg P hP xs [] (by simpa using hb)
 simp only [List.nil_append, List.length_nil, Nat.zero_add] at h
 have h : loopOf pr 127 0 ⟨[(0, LC xs), (1, .fn g cs), (7, I xs.length), (8, I 0)], []⟩ = _ := h
 rw [call_eq pr 127 _ _ Tryz.f127 fn_127 _ rfl _ ann_127 rfl]
 cases hf : xs.findIdx? P with
 | none =>
  rw [hf] at h
  simp -implicitDefEqProofs only [h, go_sem]
 | some i =>
  rw [hf] at h
  simp -implicitDefEqProofs only [h, go_sem]
theorem call_bp (xs : List Ca) (p : Int) (hb : xs.length < 2000000) : callOf pr 104 [LC xs, I p] [] = some (I (findP xs p), []) := by
 have h := call_ixc 134 [.rp [I p]] ⟨rfl, of_decide_eq_true rfl⟩ rfl (pageAt p) (fun q f w => call_bp1 p q f w) xs hb
 rw [call_eq pr 104 _ _ Tryz.f104 fn_104 _ rfl _ ann_104 rfl]
 simp -implicitDefEqProofs only [h, go_sem]
 rfl
def frE (es : List En) : List Int := (es.map fun e => e.1).filter fun x => decide (0 ≤ x)
theorem loop_fre (t : List (List En)) (n k : Int) : ∀ (suf pre : List En) (out : List Int), pre.length + suf.length < 2000000 → out.length + suf.length < 2000000 →
  loopOf pr 72 1 ⟨[(3, .os (.t 512)), (10, LLE t), (11, I n), (12, I k), (16, LE (pre ++ suf)), (17, I ((pre.length + suf.length : Nat) : Int)), (18, I pre.length)], [(512, .arr true false (.int .i64) out)]⟩ = some (.exit 2, ⟨[(3, .os (.t 512)), (10, LLE t), (11, I n), (12, I k), (16, LE (pre ++ suf)), (17, I ((pre.length + suf.length : Nat) : Int)), (18, I ((pre.length + suf.length : Nat) : Int))], [(512, .arr true false (.int .i64) (out ++ frE suf))]⟩)
 | [], pre, out, hb, ho => by
  rw [loop_eq pr 72 1 _ Tryz.f72 fn_72 _ rfl _ ann_72 _ rfl]
  simp -implicitDefEqProofs only [Int.lt_irrefl, List.append_nil, Nat.add_zero, List.length_nil, frE, List.filter_nil, go_sem]
 | (f, w, u, d, ()) :: suf, pre, out, hb, ho => by
  simp only [List.length_cons] at hb ho ⊢
  have hw : IntKind.i64.wrap ((pre.length : Int) + 1) = ((pre.length + 1 : Nat) : Int) := by rw [wrap_i] <;> omega
  have hlt : ((pre.length : Int) < ((pre.length + (suf.length + 1) : Nat) : Int)) = True := tr (by omega)
  have hroom : ((out.length + 1) * 8 ≤ 140737488355328 ∧ out.length ≤ 9223372036854775806) = True := tr (by omega)
  have e1 : (pre ++ [(f, w, u, d, ())]).length = pre.length + 1 := by simp
  have e2 : pre.length + 1 + suf.length = pre.length + (suf.length + 1) := by omega
  rw [loop_eq pr 72 1 _ Tryz.f72 fn_72 _ rfl _ ann_72 _ rfl]
  by_cases hf : f ≥ 0
  ·have hk : frE ((f, w, u, d, ()) :: suf) = f :: frE suf := by simp [frE, hf]
   have ih := loop_fre t n k suf (pre ++ [(f, w, u, d, ())]) (out ++ [f]) (by simp; omega) (by simp; omega)
   rw [app_one, app_one, e1, e2] at ih
   rw [hk]
   simp -implicitDefEqProofs only [getD_app, lt_app, ltn_app, zero_le_cast, Int.toNat_natCast, hlt, hw, tr hf, hroom, go_sem]
   exact ih
  ·have hk : frE ((f, w, u, d, ()) :: suf) = frE suf := by
    have : ¬ 0 ≤ f := hf
    simp [frE, this]
   have ih := loop_fre t n k suf (pre ++ [(f, w, u, d, ())]) out (by simp; omega) (by omega)
   rw [app_one, e1, e2] at ih
   rw [hk]
   simp -implicitDefEqProofs only [getD_app, lt_app, ltn_app, zero_le_cast, Int.toNat_natCast, hlt, hw, fa hf, go_sem]
   exact ih
theorem frE_length (es : List En) : (frE es).length ≤ es.length := by
 unfold frE
 exact Nat.le_trans (List.length_filter_le _ _) (by simp)
def frT (t : List (List En)) : List Int := t.flatMap frE
theorem loop_frt : ∀ (suf pre : List (List En)) (out : List Int), (∀ x ∈ suf, x.length = 8) → pre.length + suf.length < 1000 → out.length + 8 * suf.length < 100000 →
  loopOf pr 72 0 ⟨[(3, .os (.t 512)), (10, LLE (pre ++ suf)), (11, I ((pre.length + suf.length : Nat) : Int)), (12, I pre.length)], [(512, .arr true false (.int .i64) out)]⟩ = some (.exit 0, ⟨[(3, .os (.t 512)), (10, LLE (pre ++ suf)), (11, I ((pre.length + suf.length : Nat) : Int)), (12, I ((pre.length + suf.length : Nat) : Int))], [(512, .arr true false (.int .i64) (out ++ frT suf))]⟩)
 | [], pre, out, hx, hb, ho => by
  rw [loop_eq pr 72 0 _ Tryz.f72 fn_72 _ rfl _ ann_72 _ rfl]
  simp -implicitDefEqProofs only [Int.lt_irrefl, List.append_nil, Nat.add_zero, List.length_nil, frT, go_sem]
 | x :: suf, pre, out, hx, hb, ho => by
  simp only [List.length_cons] at hb ho ⊢
  have hw : IntKind.i64.wrap ((pre.length : Int) + 1) = ((pre.length + 1 : Nat) : Int) := by rw [wrap_i] <;> omega
  have hlt : ((pre.length : Int) < ((pre.length + (suf.length + 1) : Nat) : Int)) = True := tr (by omega)
  have h8 := hx x (by simp)
  have h := loop_fre (pre ++ x :: suf) ((pre.length + (suf.length + 1) : Nat) : Int) (pre.length : Int) x [] out (by simp; omega) (by omega)
  simp only [List.nil_append, List.length_nil, Nat.zero_add] at h
  have h : loopOf pr 72 1 ⟨[(3, .os (.t 512)), (10, LLE (pre ++ x :: suf)), (11, I ((pre.length + (suf.length + 1) : Nat) : Int)), (12, I pre.length), (16, LE x), (17, I x.length), (18, I 0)], [(512, .arr true false (.int .i64) out)]⟩ = _ := h
  have hle := frE_length x
  have ih := loop_frt suf (pre ++ [x]) (out ++ frE x) (fun y hy => hx y (by simp [hy])) (by simp; omega) (by simp; omega)
  have e1 : (pre ++ [x]).length = pre.length + 1 := by simp
  have e2 : pre.length + 1 + suf.length = pre.length + (suf.length + 1) := by omega
  have e3 : out ++ frE x ++ frT suf = out ++ frT (x :: suf) := by simp [frT]
  rw [app_one, e1, e2, e3] at ih
  rw [loop_eq pr 72 0 _ Tryz.f72 fn_72 _ rfl _ ann_72 _ rfl]
  simp -implicitDefEqProofs only [getD_app, lt_app, ltn_app, zero_le_cast, Int.toNat_natCast, hlt, hw, h, go_sem]
  exact ih
theorem call_fs (r : List Int) (t : List (List En)) (b : List Ca) (hx : ∀ x ∈ t, x.length = 8) (ht : t.length ≤ 8) : callOf pr 72 [.agg [L r, LLE t, LC b]] [] = some (.os (.t 512), [(512, .arr true false (.int .i64) (frT t))]) := by
 have h := loop_frt t [] [] hx (by simp; omega) (by simp; omega)
 simp only [List.nil_append, List.length_nil, Nat.zero_add] at h
 have h : loopOf pr 72 0 ⟨[(3, .os (.t 512)), (10, LLE t), (11, I t.length), (12, I 0)], [(512, .arr true false (.int .i64) [])]⟩ = _ := h
 rw [call_eq pr 72 _ _ Tryz.f72 fn_72 _ rfl _ ann_72 rfl]
 simp -implicitDefEqProofs only [h, go_sem]
theorem frT_length {t : List (List En)} (hx : ∀ x ∈ t, x.length = 8) : (frT t).length ≤ 8 * t.length := by
 induction t with
 | nil => simp [frT]
 | cons x t ih =>
  have h1 := frE_length x
  have h2 := hx x (by simp)
  have h3 := ih (fun y hy => hx y (by simp [hy]))
  simp only [frT, List.flatMap_cons, List.length_append, List.length_cons] at h3 ⊢
  omega
def pushC : Int → List Int → List Int
 | _, [] => []
 | c, e :: r => if e = c then pushC e r else e :: pushC e r
def comp : List Int → List Int
 | [] => []
 | x :: l => x :: pushC x l
theorem pushC_length : ∀ (c : Int) (l : List Int), (pushC c l).length ≤ l.length
 | _, [] => Nat.le_refl _
 | c, e :: r => by
  have := pushC_length e r
  simp only [pushC]
  split <;> simp only [List.length_cons] <;> omega
theorem loop_co1 (K M : Nat) : ∀ (rest out mid : List Int) (c : Int), 1 ≤ K → out.length + mid.length + 1 + rest.length = K + M → K + M < 1000000 → K ≤ out.length + mid.length →
  ∃ tl : List Int, tl.length = K + M - (out ++ pushC c rest).length ∧ loopOf pr 135 1 ⟨[(0, .os (.t 1000000)), (3, I out.length), (4, .sub (.t 1000000) K M), (5, I ((out.length + mid.length + 1 - K : Nat) : Int))], [(1000000, .arr false false (.int .i64) (out ++ mid ++ c :: rest))]⟩ = some (.exit 2, ⟨[(0, .os (.t 1000000)), (3, I (out ++ pushC c rest).length), (4, .sub (.t 1000000) K M), (5, I M)], [(1000000, .arr false false (.int .i64) (out ++ pushC c rest ++ tl))]⟩)
 | [], out, mid, c, hK, hl, hb, hle => by
  refine ⟨mid ++ [c], by simp [pushC]; simp at hl; omega, ?_⟩
  have he : out.length + mid.length + 1 - K = M := by simp at hl; omega
  rw [he, loop_eq pr 135 1 _ Tryz.f135 fn_135 _ rfl _ ann_135 _ rfl]
  simp -implicitDefEqProofs only [Int.lt_irrefl, pushC, List.append_nil, go_sem]
  simp
 | e :: rest, out, mid, c, hK, hl, hb, hle => by
  simp only [List.length_cons] at hl
  have hlt : ((((out.length + mid.length + 1 - K : Nat)) : Int) < (M : Int)) = True := tr (by omega)
  have g0 : (0 ≤ (((out.length + mid.length + 1 - K : Nat)) : Int)) = True := tr (by omega)
  have hw1 : IntKind.i64.wrap (((out.length + mid.length + 1 - K : Nat) : Int) - 1) = ((out.length + mid.length - K : Nat) : Int) := by rw [wrap_i] <;> omega
  have g1 : (0 ≤ ((out.length + mid.length - K : Nat) : Int)) = True := tr (by omega)
  have g2 : (((out.length + mid.length - K : Nat) : Int) < (M : Int)) = True := tr (by omega)
  have i1 : K + (out.length + mid.length + 1 - K) = out.length + mid.length + 1 := by omega
  have i2 : K + (out.length + mid.length - K) = out.length + mid.length := by omega
  have v1 : (out ++ mid ++ c :: e :: rest).getD (K + (out.length + mid.length + 1 - K)) 0 = e := by
   rw [i1, show out ++ mid ++ c :: e :: rest = (out ++ mid ++ [c]) ++ e :: rest from by simp, show out.length + mid.length + 1 = (out ++ mid ++ [c]).length from by simp only [List.length_append, List.length_cons, List.length_nil]]
   exact getD_app _ _ _ _
  have v2 : (out ++ mid ++ c :: e :: rest).getD (K + (out.length + mid.length - K)) 0 = c := by
   rw [i2, show out.length + mid.length = (out ++ mid).length from by simp]
   exact getD_app _ _ _ _
  have q1 : (K + (out.length + mid.length + 1 - K) < (out ++ mid ++ c :: e :: rest).length) = True := tr (by simp; omega)
  have q2 : (K + (out.length + mid.length - K) < (out ++ mid ++ c :: e :: rest).length) = True := tr (by simp; omega)
  have hw2 : IntKind.i64.wrap (((out.length + mid.length + 1 - K : Nat) : Int) + 1) = ((out.length + mid.length + 1 + 1 - K : Nat) : Int) := by rw [wrap_i] <;> omega
  rw [loop_eq pr 135 1 _ Tryz.f135 fn_135 _ rfl _ ann_135 _ rfl]
  by_cases hec : e = c
  ·have hp : pushC c (e :: rest) = pushC e rest := by simp [pushC, hec]
   obtain ⟨tl, h1, h2⟩ := loop_co1 K M rest out (mid ++ [c]) e hK (by simp; omega) hb (by simp; omega)
   have e1 : out ++ (mid ++ [c]) ++ e :: rest = out ++ mid ++ c :: e :: rest := by simp
   have e2 : out.length + (mid ++ [c]).length + 1 - K = out.length + mid.length + 1 + 1 - K := by simp; omega
   rw [e1, e2] at h2
   rw [hp]
   refine ⟨tl, h1, ?_⟩
   simp -implicitDefEqProofs only [hlt, g0, g1, g2, hw1, hw2, Int.toNat_natCast, v1, v2, q1, q2, zero_le_cast, tr hec, go_sem]
   exact h2
  ·have hp : pushC c (e :: rest) = e :: pushC e rest := by simp [pushC, hec]
   have hw3 : IntKind.i64.wrap ((out.length : Int) + 1) = ((out.length + 1 : Nat) : Int) := by rw [wrap_i] <;> omega
   have q3 : ((out.length : Int) < ((out ++ mid ++ c :: e :: rest).length : Int)) = True := tr (by simp; omega)
   have q4 : (out.length < (out ++ mid ++ c :: e :: rest).length) = True := tr (by simp; omega)
   obtain ⟨m0, mt, hm⟩ : ∃ m0 mt, mid ++ [c] = m0 :: mt := by cases mid with | nil => exact ⟨c, [], rfl⟩ | cons m0 mt => exact ⟨m0, mt ++ [c], rfl⟩
   have hml : mt.length = mid.length := by
    have := congrArg List.length hm
    simp at this; omega
   have hset : (out ++ mid ++ c :: e :: rest).set out.length e = (out ++ [e]) ++ mt ++ e :: rest := by
    rw [show out ++ mid ++ c :: e :: rest = out ++ ((mid ++ [c]) ++ e :: rest) from by simp, hm]
    simp
   obtain ⟨tl, h1, h2⟩ := loop_co1 K M rest (out ++ [e]) mt e hK (by simp; omega) hb (by simp; omega)
   have e0 : (out ++ [e]) ++ pushC e rest = out ++ e :: pushC e rest := by simp
   have e1 : (out ++ [e]).length = out.length + 1 := by simp
   have e2 : out.length + 1 + mt.length + 1 - K = out.length + mid.length + 1 + 1 - K := by omega
   rw [e0] at h1 h2
   rw [e1, e2] at h2
   rw [hp]
   refine ⟨tl, h1, ?_⟩
   simp -implicitDefEqProofs only [hlt, g0, g1, g2, hw1, hw2, Int.toNat_natCast, v1, v2, q1, q2, zero_le_cast, fa hec, hw3, q3, q4, hset, go_sem]
   exact h2
def incr : Int → List Int → Bool
 | _, [] => true
 | c, e :: r => decide (e ≠ c) && incr e r
theorem pushC_incr : ∀ {c : Int} {l : List Int}, incr c l = true → pushC c l = l
 | _, [], _ => rfl
 | c, e :: r, h => by
  simp only [incr, Bool.and_eq_true, decide_eq_true_eq] at h
  simp only [pushC, if_neg h.1, pushC_incr h.2]
theorem pushC_less : ∀ {c : Int} {l : List Int}, incr c l = false → (pushC c l).length < l.length
 | _, [], h => by simp [incr] at h
 | c, e :: r, h => by
  simp only [pushC]
  by_cases hec : e = c
  ·rw [if_pos hec]
   have := pushC_length e r
   simp only [List.length_cons]; omega
  ·rw [if_neg hec]
   have h' : incr e r = false := by simpa [incr, hec] using h
   have := pushC_less h'
   simp only [List.length_cons]; omega
theorem loop_co0 : ∀ (suf pre : List Int) (a : Int), pre.length + 1 + suf.length < 1000000 →
  (incr a suf = true → loopOf pr 135 0 ⟨[(0, .os (.t 1000000)), (3, I ((pre.length + 1 : Nat) : Int))], [(1000000, .arr false false (.int .i64) (pre ++ a :: suf))]⟩ = some (.exit 0, ⟨[(0, .os (.t 1000000)), (3, I ((pre.length + 1 + suf.length : Nat) : Int))], [(1000000, .arr false false (.int .i64) (pre ++ a :: suf))]⟩)) ∧
  (incr a suf = false → loopOf pr 135 0 ⟨[(0, .os (.t 1000000)), (3, I ((pre.length + 1 : Nat) : Int))], [(1000000, .arr false false (.int .i64) (pre ++ a :: suf))]⟩ = some (.ret, ⟨[(2, .sub (.t 1000000) 0 (pre ++ a :: pushC a suf).length)], [(1000000, .arr false false (.int .i64) ((pre ++ a :: pushC a suf) ++ List.replicate (pre.length + 1 + suf.length - (pre ++ a :: pushC a suf).length) 0))]⟩))
 | [], pre, a, hb => by
  refine ⟨fun _ => ?_, fun h => by simp [incr] at h⟩
  rw [loop_eq pr 135 0 _ Tryz.f135 fn_135 _ rfl _ ann_135 _ rfl]
  have hl : ((((pre.length + 1 : Nat)) : Int) < ((pre ++ [a]).length : Int)) = False := fa (by simp)
  simp -implicitDefEqProofs only [hl, List.length_nil, Nat.add_zero, go_sem]
 | b :: suf, pre, a, hb => by
  simp only [List.length_cons] at hb ⊢
  have hlt : ((((pre.length + 1 : Nat)) : Int) < ((pre ++ a :: b :: suf).length : Int)) = True := tr (by simp; omega)
  have g0 : (0 ≤ (((pre.length + 1 : Nat)) : Int)) = True := tr (by omega)
  have g1 : (0 ≤ ((pre.length : Nat) : Int)) = True := tr (by omega)
  have g2 : (((pre.length : Nat) : Int) < ((pre ++ a :: b :: suf).length : Int)) = True := tr (by simp; omega)
  have hw1 : IntKind.i64.wrap (((pre.length + 1 : Nat) : Int) - 1) = ((pre.length : Nat) : Int) := by rw [wrap_i] <;> omega
  have hw2 : IntKind.i64.wrap (((pre.length + 1 : Nat) : Int) + 1) = ((pre.length + 1 + 1 : Nat) : Int) := by rw [wrap_i] <;> omega
  have v1 : (pre ++ a :: b :: suf).getD (pre.length + 1) 0 = b := by
   rw [show pre ++ a :: b :: suf = (pre ++ [a]) ++ b :: suf from by simp, show pre.length + 1 = (pre ++ [a]).length from by simp]
   exact getD_app _ _ _ _
  have v2 : (pre ++ a :: b :: suf).getD pre.length 0 = a := getD_app _ _ _ _
  have q1 : (pre.length + 1 < (pre ++ a :: b :: suf).length) = True := tr (by simp)
  have q2 : (pre.length < (pre ++ a :: b :: suf).length) = True := tr (by simp)
  by_cases hba : b = a
  ·refine ⟨fun h => by simp [incr, hba] at h, fun _ => ?_⟩
   have hp : pushC a (b :: suf) = pushC b suf := by simp [pushC, hba]
   have hlen : (pre ++ a :: b :: suf).length = pre.length + 1 + (suf.length + 1) := by simp; omega
   obtain ⟨tl, t1, t2⟩ := loop_co1 (pre.length + 1) (suf.length + 1) suf (pre ++ [a]) [] b (by omega) (by simp; omega) (by omega) (by simp)
   simp only [List.append_nil, List.length_nil, Nat.add_zero] at t2
   have e1 : (pre ++ [a]) ++ b :: suf = pre ++ a :: b :: suf := by simp
   have e2 : (pre ++ [a]).length = pre.length + 1 := by simp
   have e3 : (pre ++ [a]) ++ pushC b suf = pre ++ a :: pushC b suf := by simp
   have e4 : pre.length + 1 + 1 - (pre.length + 1) = 1 := by omega
   rw [e3] at t1 t2
   rw [e1, e2, e4] at t2
   have hle := pushC_length b suf
   have hcl : (pre ++ a :: pushC b suf).length ≤ pre.length + 1 + suf.length := by simp; omega
   rw [hp]
   generalize hcc : pre ++ a :: pushC b suf = cc at t1 t2 hcl ⊢
   have t2 : loopOf pr 135 1 ⟨[(0, .os (.t 1000000)), (3, I ((pre.length + 1 : Nat) : Int)), (4, .sub (.t 1000000) (pre.length + 1) (suf.length + 1)), (5, I 1)], [(1000000, .arr false false (.int .i64) (pre ++ a :: b :: suf))]⟩ = _ := t2
   have h5 : (pre ++ a :: b :: suf).length - (pre.length + 1) = suf.length + 1 := by rw [hlen]; omega
   have h6 : ((((pre.length + 1 : Nat)) : Int) ≤ ((pre ++ a :: b :: suf).length : Int)) = True := tr (by rw [hlen]; omega)
   have h7 : ((cc.length : Int) ≤ ((cc ++ tl).length : Int)) = True := tr (by rw [List.length_append]; omega)
   have h8 := copyIn_tail cc tl (0 : Int)
   have h9 : tl.length = pre.length + 1 + (suf.length + 1) - cc.length := t1
   rw [loop_eq pr 135 0 _ Tryz.f135 fn_135 _ rfl _ ann_135 _ rfl]
   have h10 : ((cc.length : Int) ≤ ((cc ++ List.replicate (pre.length + 1 + (suf.length + 1) - cc.length) (0 : Int)).length : Int)) = True := tr (by rw [List.length_append]; omega)
   simp -implicitDefEqProofs only [hlt, g0, g1, g2, hw1, hw2, Int.toNat_natCast, v1, v2, q1, q2, zero_le_cast, tr hba, h5, h6, t2, h7, h8, h9, h10, Nat.sub_zero, Int.le_refl, go_sem]
  ·have e1 : (pre ++ [a]) ++ b :: suf = pre ++ a :: b :: suf := by simp
   have e2 : (pre ++ [a]).length = pre.length + 1 := by simp
   have e3 : pre.length + 1 + 1 + suf.length = pre.length + 1 + (suf.length + 1) := by omega
   have hp : pushC a (b :: suf) = b :: pushC b suf := by simp [pushC, hba]
   have e4 : (pre ++ [a]) ++ b :: pushC b suf = pre ++ a :: b :: pushC b suf := by simp
   have hi : incr a (b :: suf) = incr b suf := by simp [incr, hba]
   obtain ⟨i1, i2⟩ := loop_co0 suf (pre ++ [a]) b (by simp; omega)
   rw [e1, e2, e3] at i1 i2
   rw [e4] at i2
   rw [hi, hp]
   refine ⟨fun h => ?_, fun h => ?_⟩
   ·have ih := i1 h
    rw [loop_eq pr 135 0 _ Tryz.f135 fn_135 _ rfl _ ann_135 _ rfl]
    simp -implicitDefEqProofs only [hlt, g0, g1, g2, hw1, hw2, Int.toNat_natCast, v1, v2, q1, q2, zero_le_cast, fa hba, go_sem]
    exact ih
   ·have ih := i2 h
    rw [loop_eq pr 135 0 _ Tryz.f135 fn_135 _ rfl _ ann_135 _ rfl]
    simp -implicitDefEqProofs only [hlt, g0, g1, g2, hw1, hw2, Int.toNat_natCast, v1, v2, q1, q2, zero_le_cast, fa hba, go_sem]
    exact ih
theorem call_co (x : Int) (l : List Int) (hb : l.length + 1 < 1000000) : callOf pr 135 [.os (.t 1000000)] [(1000000, .arr false false (.int .i64) (x :: l))] = if incr x l = true then some (.os (.t 1000000), [(1000000, .arr false false (.int .i64) (x :: l))]) else some (.sub (.t 1000000) 0 (comp (x :: l)).length, [(1000000, .arr false false (.int .i64) (comp (x :: l) ++ List.replicate ((x :: l).length - (comp (x :: l)).length) 0))]) := by
 obtain ⟨i1, i2⟩ := loop_co0 l [] x (by simp; omega)
 simp only [List.nil_append, List.length_nil, Nat.zero_add] at i1 i2
 rw [call_eq pr 135 _ _ Tryz.f135 fn_135 _ rfl _ ann_135 rfl]
 cases l with
 | nil =>
  rw [if_pos (show incr x [] = true from rfl)]
  have h1 : (((1 : Nat) : Int) < 2) = True := tr (by omega)
  simp -implicitDefEqProofs only [h1, go_sem]
 | cons y l =>
  have hl : (((x :: y :: l).length : Int) < 2) = False := fa (by simp; omega)
  cases hi : incr x (y :: l) with
  | true =>
   have h : loopOf pr 135 0 ⟨[(0, .os (.t 1000000)), (3, I 1)], [(1000000, .arr false false (.int .i64) (x :: y :: l))]⟩ = _ := i1 hi
   rw [if_pos (show (true = true) from rfl)]
   simp only [List.length_cons] at hl
   simp -implicitDefEqProofs only [hl, h, go_sem]
  | false =>
   have h : loopOf pr 135 0 ⟨[(0, .os (.t 1000000)), (3, I 1)], [(1000000, .arr false false (.int .i64) (x :: y :: l))]⟩ = _ := i2 hi
   rw [if_neg (by simp)]
   simp only [List.length_cons] at hl
   have e : 1 + (y :: l).length = (x :: y :: l).length := by simp; omega
   rw [e] at h
   simp -implicitDefEqProofs only [hl, h, go_sem]
   rfl
theorem call_co0 : callOf pr 135 [.nilS] [] = some (.nilS, []) := by
 rw [call_eq pr 135 _ _ Tryz.f135 fn_135 _ rfl _ ann_135 rfl]
 simp -implicitDefEqProofs only [go_sem]
theorem call_st0 : callOf pr 105 [L []] [] = some (.nilS, []) := by
 have h := call_sorted0
 rw [call_eq pr 105 _ _ Tryz.f105 fn_105 _ rfl _ ann_105 rfl]
 simp -implicitDefEqProofs only [call_values, h, call_co0, go_sem]
theorem call_st (fr : List Int) (h0 : ¬ fr.length = 0) (hl : fr.length < 100000) : callOf pr 105 [L fr] [] = some (.os (.t 320), [(320, .arr true false (.int .i64) (comp (sortI fr)))]) := by
 have h := call_sorted fr h0 (by omega)
 have hs : (sortI fr).length = fr.length := sortI_length fr
 obtain ⟨x, l, hx⟩ : ∃ x l, sortI fr = x :: l := by
  cases hc : sortI fr with
  | nil => rw [hc] at hs; simp at hs; omega
  | cons x l => exact ⟨x, l, rfl⟩
 have h2 := call_co x l (by rw [hx] at hs; simp at hs; omega)
 rw [hx] at h
 rw [hx, call_eq pr 105 _ _ Tryz.f105 fn_105 _ rfl _ ann_105 rfl]
 cases hi : incr x l with
 | true =>
  rw [hi, if_pos rfl] at h2
  have hc : comp (x :: l) = x :: l := by simp only [comp, pushC_incr hi]
  rw [hc]
  simp -implicitDefEqProofs only [call_values, h, h2, go_sem]
 | false =>
  rw [hi, if_neg (by simp)] at h2
  have hlt := pushC_less hi
  have hcond : (0 + (comp (x :: l)).length ≤ (comp (x :: l) ++ List.replicate (l.length + 1 - (comp (x :: l)).length) (0 : Int)).length ∧ 0 < (comp (x :: l) ++ List.replicate (l.length + 1 - (comp (x :: l)).length) (0 : Int)).length) = True := tr (by
   rw [List.length_append]
   simp only [comp, List.length_cons]
   omega)
  simp -implicitDefEqProofs only [call_values, h, h2, hcond, List.take_left, go_sem]
theorem call_ix0 : callOf pr 123 [.empS, .fn 98 []] [] = some (I (-1), []) := by
 have h : loopOf pr 123 0 ⟨[(0, .empS), (1, .fn 98 []), (7, I 0), (8, I 0)], []⟩ = some (.exit 0, ⟨[(0, .empS), (1, .fn 98 []), (7, I 0), (8, I 0)], []⟩) := by
  rw [loop_eq pr 123 0 _ Tryz.f123 fn_123 _ rfl _ ann_123 _ rfl]
  simp -implicitDefEqProofs only [Int.lt_irrefl, go_sem]
 rw [call_eq pr 123 _ _ Tryz.f123 fn_123 _ rfl _ ann_123 rfl]
 simp -implicitDefEqProofs only [h, go_sem]
theorem call_del0 : callOf pr 73 [.empS, .fn 98 []] [] = some (.empS, []) := by
 have h := call_ix0
 rw [call_eq pr 73 _ _ Tryz.f73 fn_73 _ rfl _ ann_73 rfl]
 simp -implicitDefEqProofs only [h, go_sem]
def tabE (x : List En) : Bool := decide (x.length = 8) && x.all entB
theorem loop_vt (r : List Int) (b : List Ca) (T : List (List En)) : ∀ (suf pre : List (List En)), pre.length + suf.length < 1000 → (∀ x ∈ suf, x.length < 2000000) →
  loopOf pr 49 0 ⟨[(1, .op 64 0), (38, LLE (pre ++ suf)), (39, I ((pre.length + suf.length : Nat) : Int)), (40, I pre.length)], [(64, .box [L r, LLE T, LC b])]⟩ = if suf.all tabE = true then some (.exit 0, ⟨[(1, .op 64 0), (38, LLE (pre ++ suf)), (39, I ((pre.length + suf.length : Nat) : Int)), (40, I ((pre.length + suf.length : Nat) : Int))], [(64, .box [L r, LLE T, LC b])]⟩) else some (.ret, ⟨[(2, B false)], [(64, .box [L r, LLE T, LC b])]⟩)
 | [], pre, hb, hx => by
  rw [if_pos (by simp), loop_eq pr 49 0 _ Tryz.f49 fn_49 _ rfl _ ann_49 _ rfl]
  simp -implicitDefEqProofs only [Int.lt_irrefl, List.append_nil, Nat.add_zero, List.length_nil, go_sem]
 | x :: suf, pre, hb, hx => by
  simp only [List.length_cons] at hb ⊢
  have hw : IntKind.i64.wrap ((pre.length : Int) + 1) = ((pre.length + 1 : Nat) : Int) := by rw [wrap_i] <;> omega
  have hlt : ((pre.length : Int) < ((pre.length + (suf.length + 1) : Nat) : Int)) = True := tr (by omega)
  have h := call_cfe x (hx x (by simp))
  have ih := loop_vt r b T suf (pre ++ [x]) (by simp; omega) (fun y hy => hx y (by simp [hy]))
  have e1 : (pre ++ [x]).length = pre.length + 1 := by simp
  have e2 : pre.length + 1 + suf.length = pre.length + (suf.length + 1) := by omega
  rw [app_one, e1, e2] at ih
  have hk : (x :: suf).all tabE = (tabE x && suf.all tabE) := rfl
  rw [hk, loop_eq pr 49 0 _ Tryz.f49 fn_49 _ rfl _ ann_49 _ rfl]
  by_cases hl : x.length = 8
  ·have g : (((x.length : Nat) : Int) = 8) = True := tr (by omega)
   cases he : x.all entB with
   | true =>
    rw [he] at h
    have hk2 : tabE x = true := by simp only [tabE, hl, he]; rfl
    rw [hk2]
    simp -implicitDefEqProofs only [getD_app, lt_app, ltn_app, zero_le_cast, Int.toNat_natCast, hlt, hw, g, h, go_sem]
    exact ih
   | false =>
    rw [he] at h
    have hk2 : tabE x = false := by simp only [tabE, hl, he]; rfl
    rw [hk2, if_neg (by simp)]
    simp -implicitDefEqProofs only [getD_app, lt_app, ltn_app, zero_le_cast, Int.toNat_natCast, hlt, hw, g, h, go_sem]
  ·have g : (((x.length : Nat) : Int) = 8) = False := fa (by omega)
   have hk2 : tabE x = false := by simp only [tabE, decide_eq_false hl]; rfl
   rw [hk2, if_neg (by simp)]
   simp -implicitDefEqProofs only [getD_app, lt_app, ltn_app, zero_le_cast, Int.toNat_natCast, hlt, hw, g, go_sem]
theorem loop_vb (r : List Int) (t : List (List En)) : ∀ (suf pre : List Ca), pre.length + suf.length < 1000 →
  (bufB pre suf = true → loopOf pr 49 1 ⟨[(1, .op 64 0), (53, LC (pre ++ suf)), (54, I ((pre.length + suf.length : Nat) : Int)), (55, I pre.length)], [(64, .box [L r, LLE t, LC (pre ++ suf)])]⟩ = some (.exit 2, ⟨[(1, .op 64 0), (53, LC (pre ++ suf)), (54, I ((pre.length + suf.length : Nat) : Int)), (55, I ((pre.length + suf.length : Nat) : Int))], [(64, .box [L r, LLE t, LC (pre ++ suf)])]⟩)) ∧
  (bufB pre suf = false → ∃ (q f : Int) (w : Bool), loopOf pr 49 1 ⟨[(1, .op 64 0), (53, LC (pre ++ suf)), (54, I ((pre.length + suf.length : Nat) : Int)), (55, I pre.length)], [(64, .box [L r, LLE t, LC (pre ++ suf)])]⟩ = some (.ret, ⟨[(2, B false)], [(64, .box [L r, LLE t, LC (pre ++ suf)]), (448, .box [I q, I f, B w])]⟩))
 | [], pre, hb => by
  refine ⟨fun _ => ?_, fun h => by simp [bufB] at h⟩
  rw [loop_eq pr 49 1 _ Tryz.f49 fn_49 _ rfl _ ann_49 _ rfl]
  simp -implicitDefEqProofs only [Int.lt_irrefl, List.append_nil, Nat.add_zero, List.length_nil, go_sem]
 | (p, f, w, ()) :: suf, pre, hb => by
  simp only [List.length_cons] at hb ⊢
  have hw : IntKind.i64.wrap ((pre.length : Int) + 1) = ((pre.length + 1 : Nat) : Int) := by rw [wrap_i] <;> omega
  have hlt : ((pre.length : Int) < ((pre.length + (suf.length + 1) : Nat) : Int)) = True := tr (by omega)
  obtain ⟨i1, i2⟩ := loop_vb r t suf (pre ++ [(p, f, w, ())]) (by simp; omega)
  have e1 : (pre ++ [(p, f, w, ())]).length = pre.length + 1 := by simp
  have e2 : pre.length + 1 + suf.length = pre.length + (suf.length + 1) := by omega
  rw [app_one, e1, e2] at i1 i2
  have ha := call_ia p
  have hf := call_if f
  have hd := call_bp pre p (by omega)
  have hle : ((pre.length : Int) ≤ ((pre ++ (p, f, w, ()) :: suf).length : Int)) = True := tr (by simp; omega)
  have hk : bufB pre ((p, f, w, ()) :: suf) = (addrB p && frameB f && !pre.any (pageAt p) && bufB (pre ++ [(p, f, w, ())]) suf) := rfl
  rw [hk]
  cases h1 : addrB p with
  | false =>
   rw [h1] at ha
   refine ⟨fun h => by simp at h, fun _ => ⟨p, f, w, ?_⟩⟩
   rw [loop_eq pr 49 1 _ Tryz.f49 fn_49 _ rfl _ ann_49 _ rfl]
   simp -implicitDefEqProofs only [getD_app, lt_app, ltn_app, zero_le_cast, Int.toNat_natCast, hlt, hw, hle, List.take_left, ha, go_sem]
  | true =>
   rw [h1] at ha
   cases h2 : frameB f with
   | false =>
    rw [h2] at hf
    refine ⟨fun h => by simp at h, fun _ => ⟨p, f, w, ?_⟩⟩
    rw [loop_eq pr 49 1 _ Tryz.f49 fn_49 _ rfl _ ann_49 _ rfl]
    simp -implicitDefEqProofs only [getD_app, lt_app, ltn_app, zero_le_cast, Int.toNat_natCast, hlt, hw, hle, List.take_left, ha, hf, go_sem]
   | true =>
    rw [h2] at hf
    have h4 := find_any pre p
    cases h3 : pre.any (pageAt p) with
    | true =>
     rw [h3] at h4
     have h5 : (findP pre p ≥ 0) = True := tr (by simpa using h4)
     refine ⟨fun h => by simp at h, fun _ => ⟨p, f, w, ?_⟩⟩
     rw [loop_eq pr 49 1 _ Tryz.f49 fn_49 _ rfl _ ann_49 _ rfl]
     simp -implicitDefEqProofs only [getD_app, lt_app, ltn_app, zero_le_cast, Int.toNat_natCast, hlt, hw, hle, List.take_left, ha, hf, hd, h5, go_sem]
    | false =>
     rw [h3] at h4
     have h5 : (findP pre p ≥ 0) = False := fa (by simpa using h4)
     refine ⟨fun h => ?_, fun h => ?_⟩
     ·have ih := i1 (by simpa using h)
      rw [loop_eq pr 49 1 _ Tryz.f49 fn_49 _ rfl _ ann_49 _ rfl]
      simp -implicitDefEqProofs only [getD_app, lt_app, ltn_app, zero_le_cast, Int.toNat_natCast, hlt, hw, hle, List.take_left, ha, hf, hd, h5, go_sem]
      exact ih
     ·obtain ⟨q, f', w', ih⟩ := i2 (by simpa using h)
      refine ⟨q, f', w', ?_⟩
      rw [loop_eq pr 49 1 _ Tryz.f49 fn_49 _ rfl _ ann_49 _ rfl]
      simp -implicitDefEqProofs only [getD_app, lt_app, ltn_app, zero_le_cast, Int.toNat_natCast, hlt, hw, hle, List.take_left, ha, hf, hd, h5, go_sem]
      exact ih
def usedOf (r : List Int) : List Int := r.filter fun x => !decide (x = -1)
def implS (r : List Int) (t : List (List En)) (b : List Ca) : Bool := decide (r.length = 8) && decide (t.length ≤ 8) && orderB (usedOf r) t.length && decide (b.length ≤ 4) && t.all tabE && bufB [] b && decide ((comp (sortI (frT t))).length = (frT t).length)
theorem call_vs (r : List Int) (t : List (List En)) (b : List Ca) (hr : r.length < 2000000) (ht : t.length < 2000000) (hx : ∀ x ∈ t, x.length < 2000000) (hbl : b.length < 2000000) : callOf pr 49 [.agg [L r, LLE t, LC b]] [] = some (B (implS r t b), []) := by
 by_cases h8 : r.length = 8
 case neg =>
  have g1 : (((r.length : Nat) : Int) = 8) = False := fa (by omega)
  have hk : implS r t b = false := by simp only [implS, decide_eq_false h8, Bool.false_and]
  rw [hk]
  by_cases h0 : r.length = 0
  ·have hr0 : r = [] := List.eq_nil_of_length_eq_zero h0
   subst hr0
   have h1 : callOf pr 97 [L []] [] = some (.empS, []) := call_cli [] (by simp)
   have h2 := call_del0
   have g2 : (((0 : Nat) : Int) = 8) = False := fa (by omega)
   rw [call_eq pr 49 _ _ Tryz.f49 fn_49 _ rfl _ ann_49 rfl]
   simp -implicitDefEqProofs only [h1, h2, g2, List.length_nil, go_sem]
  ·have h1 : callOf pr 97 [L r] [] = some (.os (.t 64), [(64, .arr true false (.int .i64) r)]) := by
    rw [call_cli r (by omega)]
    simp only [cloneV, if_neg h0]
   have h2 := call_73 (fun n => decide (n = -1)) 98 [] ⟨rfl, of_decide_eq_true rfl⟩ rfl r (by omega) (fun x _ => call_v1 x)
   rw [call_eq pr 49 _ _ Tryz.f49 fn_49 _ rfl _ ann_49 rfl]
   cases ha : r.any fun n => decide (n = -1) with
   | true =>
    rw [ha, if_pos rfl] at h2
    simp -implicitDefEqProofs only [h1, h2, g1, go_sem]
   | false =>
    rw [ha, if_neg (by simp)] at h2
    simp -implicitDefEqProofs only [h1, h2, g1, go_sem]
 case pos =>
  have g1 : (((r.length : Nat) : Int) = 8) = True := tr (by omega)
  have h1 : callOf pr 97 [L r] [] = some (.os (.t 64), [(64, .arr true false (.int .i64) r)]) := by
   rw [call_cli r (by omega)]
   simp only [cloneV, if_neg (show ¬ r.length = 0 by omega)]
  have h2 := call_73 (fun n => decide (n = -1)) 98 [] ⟨rfl, of_decide_eq_true rfl⟩ rfl r (by omega) (fun x _ => call_v1 x)
  have h3 := call_len t
  have hul : (usedOf r).length ≤ r.length := List.length_filter_le _ _
  have h4 := fun h : t.length ≤ 8 => call_ord (usedOf r) t.length (by omega) (by omega)
  have key : callOf pr 49 [.agg [L r, LLE t, LC b]] [] = some (B (implS r t b), []) := by
   by_cases ht8 : t.length ≤ 8
   case neg =>
    have g2 : ((t.length : Int) > 8) = True := tr (by omega)
    have hk : implS r t b = false := by simp only [implS, decide_eq_false ht8, Bool.and_false, Bool.false_and]
    rw [hk, call_eq pr 49 _ _ Tryz.f49 fn_49 _ rfl _ ann_49 rfl]
    cases ha : r.any fun n => decide (n = -1) with
    | true =>
     rw [ha, if_pos rfl] at h2
     simp -implicitDefEqProofs only [h1, h2, g1, g2, go_sem]
    | false =>
     rw [ha, if_neg (by simp)] at h2
     simp -implicitDefEqProofs only [h1, h2, g1, g2, go_sem]
   case pos =>
    have g2 : ((t.length : Int) > 8) = False := fa (by omega)
    replace h4 := h4 ht8
    have hus : ∀ ha : (r.any fun n => decide (n = -1)) = false, usedOf r = r := fun ha => by
     unfold usedOf
     rw [List.filter_eq_self]
     intro x hx
     rw [List.any_eq_false] at ha
     simpa using ha x hx
    cases ho : orderB (usedOf r) t.length with
    | false =>
     rw [ho] at h4
     have hk : implS r t b = false := by simp only [implS, ho, Bool.and_false, Bool.false_and]
     rw [hk, call_eq pr 49 _ _ Tryz.f49 fn_49 _ rfl _ ann_49 rfl]
     cases ha : r.any fun n => decide (n = -1) with
     | true =>
      rw [ha, if_pos rfl] at h2
      have h4' := h4
      unfold usedOf at h4'
      simp -implicitDefEqProofs only [h1, h2, g1, g2, h3, List.take_left, h4', go_sem]
     | false =>
      rw [ha, if_neg (by simp)] at h2
      rw [hus ha] at h4
      simp -implicitDefEqProofs only [h1, h2, g1, g2, h3, h4, go_sem]
    | true =>
     rw [ho] at h4
     by_cases hb4 : b.length ≤ 4
     case neg =>
      have g3 : ((b.length : Int) > 4) = True := tr (by omega)
      have hk : implS r t b = false := by simp only [implS, decide_eq_false hb4, Bool.and_false, Bool.false_and]
      rw [hk, call_eq pr 49 _ _ Tryz.f49 fn_49 _ rfl _ ann_49 rfl]
      cases ha : r.any fun n => decide (n = -1) with
      | true =>
       rw [ha, if_pos rfl] at h2
       have h4' := h4
       unfold usedOf at h4'
       simp -implicitDefEqProofs only [h1, h2, g1, g2, g3, h3, List.take_left, h4', go_sem]
      | false =>
       rw [ha, if_neg (by simp)] at h2
       rw [hus ha] at h4
       simp -implicitDefEqProofs only [h1, h2, g1, g2, g3, h3, h4, go_sem]
     case pos =>
      have g3 : ((b.length : Int) > 4) = False := fa (by omega)
      have h5 := loop_vt r b t t [] (by simp; omega) hx
      simp only [List.nil_append, List.length_nil, Nat.zero_add] at h5
      have h5 : loopOf pr 49 0 ⟨[(1, .op 64 0), (38, LLE t), (39, I t.length), (40, I 0)], [(64, .box [L r, LLE t, LC b])]⟩ = _ := h5
      obtain ⟨j1, j2⟩ := loop_vb r t b [] (by simp; omega)
      simp only [List.nil_append, List.length_nil, Nat.zero_add] at j1 j2
      have fin : ∀ (F : List AV × Heap), True := fun _ => trivial
      cases hta : t.all tabE with
      | false =>
       rw [hta, if_neg (by simp)] at h5
       have hk : implS r t b = false := by simp only [implS, hta, Bool.and_false, Bool.false_and]
       rw [hk, call_eq pr 49 _ _ Tryz.f49 fn_49 _ rfl _ ann_49 rfl]
       cases ha : r.any fun n => decide (n = -1) with
       | true =>
        rw [ha, if_pos rfl] at h2
        have h4' := h4
        unfold usedOf at h4'
        simp -implicitDefEqProofs only [h1, h2, g1, g2, g3, h3, List.take_left, h4', h5, go_sem]
       | false =>
        rw [ha, if_neg (by simp)] at h2
        rw [hus ha] at h4
        simp -implicitDefEqProofs only [h1, h2, g1, g2, g3, h3, h4, h5, go_sem]
      | true =>
       rw [hta, if_pos rfl] at h5
       cases hbb : bufB [] b with
       | false =>
        obtain ⟨q', f', w', h6⟩ := j2 hbb
        have h6 : loopOf pr 49 1 ⟨[(1, .op 64 0), (53, LC b), (54, I b.length), (55, I 0)], [(64, .box [L r, LLE t, LC b])]⟩ = _ := h6
        have hk : implS r t b = false := by simp only [implS, hbb, Bool.and_false, Bool.false_and]
        rw [hk, call_eq pr 49 _ _ Tryz.f49 fn_49 _ rfl _ ann_49 rfl]
        cases ha : r.any fun n => decide (n = -1) with
        | true =>
         rw [ha, if_pos rfl] at h2
         have h4' := h4
         unfold usedOf at h4'
         simp -implicitDefEqProofs only [h1, h2, g1, g2, g3, h3, List.take_left, h4', h5, h6, go_sem]
        | false =>
         rw [ha, if_neg (by simp)] at h2
         rw [hus ha] at h4
         simp -implicitDefEqProofs only [h1, h2, g1, g2, g3, h3, h4, h5, h6, go_sem]
       | true =>
        have h6 : loopOf pr 49 1 ⟨[(1, .op 64 0), (53, LC b), (54, I b.length), (55, I 0)], [(64, .box [L r, LLE t, LC b])]⟩ = _ := j1 hbb
        have h8t : ∀ x ∈ t, x.length = 8 := fun x hx' => by
         have := (List.all_eq_true.1 hta) x hx'
         simp only [tabE, Bool.and_eq_true, decide_eq_true_eq] at this
         exact this.1
        have h7 := call_fs r t b h8t ht8
        have hfl := frT_length h8t
        have hk : implS r t b = decide ((((comp (sortI (frT t))).length : Nat) : Int) = ((frT t).length : Int)) := by
         simp only [implS, h8, ht8, ho, hb4, hta, hbb, decide_true, Bool.true_and]
         rw [decide_eq_decide]; omega
        rw [hk, call_eq pr 49 _ _ Tryz.f49 fn_49 _ rfl _ ann_49 rfl]
        by_cases hz : (frT t).length = 0
        ·have hz' : frT t = [] := List.eq_nil_of_length_eq_zero hz
         rw [hz'] at h7 ⊢
         have h9 := call_st0
         have hc : comp (sortI []) = [] := by simp [sortI, comp]
         cases ha : r.any fun n => decide (n = -1) with
         | true =>
          rw [ha, if_pos rfl] at h2
          have h4' := h4
          unfold usedOf at h4'
          simp -implicitDefEqProofs only [h1, h2, g1, g2, g3, h3, List.take_left, h4', h5, h6, h7, h9, hc, go_sem]
          rfl
         | false =>
          rw [ha, if_neg (by simp)] at h2
          rw [hus ha] at h4
          simp -implicitDefEqProofs only [h1, h2, g1, g2, g3, h3, h4, h5, h6, h7, h9, hc, go_sem]
          rfl
        ·have h9 := call_st (frT t) hz (by omega)
         cases ha : r.any fun n => decide (n = -1) with
         | true =>
          rw [ha, if_pos rfl] at h2
          have h4' := h4
          unfold usedOf at h4'
          simp -implicitDefEqProofs only [h1, h2, g1, g2, g3, h3, List.take_left, h4', h5, h6, h7, h9, go_sem]
         | false =>
          rw [ha, if_neg (by simp)] at h2
          rw [hus ha] at h4
          simp -implicitDefEqProofs only [h1, h2, g1, g2, g3, h3, h4, h5, h6, h7, h9, go_sem]
  exact key
end Go.Proofs.YtbapbghnageckaaGreat.PI
