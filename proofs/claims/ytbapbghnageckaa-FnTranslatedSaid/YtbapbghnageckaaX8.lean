/- Draws of spaces. -/
import Derived.Test.YtbapbghnageckaaX2
import Derived.Test.YtbapbghnageckaaM4
import Derived.Test.YtbapbghnageckaaU7
namespace Go.Proofs.Ytbapbghnageckaa.PI
open Go Go.Q
set_option maxRecDepth 100000
set_option maxHeartbeats 4000000
set_option linter.unusedSimpArgs false
set_option linter.unusedVariables false
attribute [local go_sem] Nat.reduceAdd Nat.reduceSub Nat.reduceMul Nat.reduceMod Nat.reduceLT Nat.reduceLeDiff Nat.reduceEqDiff Nat.reduceBEq Nat.reduceDiv Int.reduceLT Int.reduceLE Int.reduceToNat Int.reduceNeg Int.reduceEq reduceCtorEq
attribute [local go_sem ↓] reduceIte reduceDIte
abbrev BY (bs : List Int) : AV := .d (.slice (.int .u8)) bs
abbrev SRC (bs : List Int) (at_ : Nat) (seed : Int) : Heap := [(1000000, .box [BY bs, I at_, .d (.int .u64) seed])]
def okBy (bs : List Int) : Prop := bs.length ≤ 1000000000 ∧ ∀ x ∈ bs, 0 ≤ x ∧ x ≤ 255
theorem and_byte (y : Int) : 0 ≤ bitsOf .and .u64 y 255 ∧ bitsOf .and .u64 y 255 ≤ 255 := by
  have h : bitsOf .and .u64 y 255 = IntKind.u64.wrap ((BitVec.ofInt 64 y &&& BitVec.ofInt 64 255).toNat : Int) := rfl
  have h1 : (BitVec.ofInt 64 y &&& BitVec.ofInt 64 255).toNat ≤ 255 := by
    rw [BitVec.toNat_and]
    exact Nat.and_le_right
  rw [h, wrap_u64] <;> omega
theorem call_next (bs : List Int) (hb : okBy bs) (at_ : Nat) (ha : at_ ≤ 1000000) (seed : Int) : ∃ v seed', (0 ≤ v ∧ v ≤ 255) ∧ callOf pr 43 [.op 1000000 0] (SRC bs at_ seed) = some (I v, SRC bs (at_ + 1) seed') := by
  rw [call_eq pr 43 _ _ Try.f43 fn_43 _ rfl _ ann_43 rfl]
  have hw1 : IntKind.i64.wrap ((at_ : Int) + 1) = ((at_ + 1 : Nat) : Int) := by rw [wrap_i] <;> omega
  by_cases h : at_ < bs.length
  · have hx : ∀ z, bs.getD at_ z = bs[at_] := fun z => getD_of_lt h z
    have hr := hb.2 _ (List.getElem_mem h)
    generalize bs[at_] = x at *
    have hw2 : IntKind.i64.wrap x = x := by rw [wrap_i] <;> omega
    have hle : (((at_ + 1 : Nat) : Int) ≤ (bs.length : Int)) = True := tr (by omega)
    refine ⟨x, IntKind.u64.wrap (IntKind.u64.wrap (IntKind.u64.wrap (seed * 6364136223846793005) + IntKind.u64.wrap x) + 1442695040888963407), hr, ?_⟩
    simp -implicitDefEqProofs only [lt_cast h, tr h, zero_le_cast, Int.toNat_natCast, hx, hw1, hw2, hle, go_sem]
  · have h1 : ((at_ : Int) < (bs.length : Int)) = False := fa (by omega)
    have hle : (((at_ + 1 : Nat) : Int) ≤ (bs.length : Int)) = False := fa (by omega)
    have hr := and_byte ((IntKind.u64.wrap (IntKind.u64.wrap (IntKind.u64.wrap (seed * 6364136223846793005) + IntKind.u64.wrap 0) + 1442695040888963407)).fdiv (2 ^ min 40 64))
    generalize hB : bitsOf .and .u64 ((IntKind.u64.wrap (IntKind.u64.wrap (IntKind.u64.wrap (seed * 6364136223846793005) + IntKind.u64.wrap 0) + 1442695040888963407)).fdiv (2 ^ min 40 64)) 255 = bv at hr
    have hw2 : IntKind.i64.wrap bv = bv := by rw [wrap_i] <;> omega
    refine ⟨bv, IntKind.u64.wrap (IntKind.u64.wrap (IntKind.u64.wrap (seed * 6364136223846793005) + IntKind.u64.wrap 0) + 1442695040888963407), hr, ?_⟩
    simp -implicitDefEqProofs only [h1, zero_le_cast, Int.toNat_natCast, hw1, hle, go_sem]
    rw [hB, hw2]
theorem call_pick (bs : List Int) (hb : okBy bs) (at_ : Nat) (ha : at_ ≤ 1000000) (seed : Int) (m : Int) (hm : 1 ≤ m ∧ m ≤ 200) : ∃ (v : Int) (at' : Nat) (seed' : Int), (0 ≤ v ∧ v < m) ∧ at' ≤ at_ + 1 ∧ callOf pr 14 [.op 1000000 0, I m] (SRC bs at_ seed) = some (I v, SRC bs at' seed') := by
  rw [call_eq pr 14 _ _ Try.f14 fn_14 _ rfl _ ann_14 rfl]
  by_cases h1 : m ≤ 1
  · refine ⟨0, at_, seed, by omega, by omega, ?_⟩
    simp -implicitDefEqProofs only [tr h1, go_sem]
  · obtain ⟨v, seed', hv, hn⟩ := call_next bs hb at_ ha seed
    have h0 : ¬ m = 0 := by omega
    have h2 : ¬ 200 < m := by omega
    have ht : v.tmod m = v % m := Int.tmod_eq_emod_of_nonneg (by omega)
    have r1 := Int.emod_nonneg v h0
    have r2 := Int.emod_lt_of_pos v (show 0 < m by omega)
    have hw : IntKind.i64.wrap (v % m) = v % m := by rw [wrap_i] <;> omega
    refine ⟨v % m, at_ + 1, seed', ⟨r1, r2⟩, by omega, ?_⟩
    simp -implicitDefEqProofs only [fa h1, hn, fa h0, fa h2, gt_iff_lt, ht, hw, go_sem]
theorem call_one (bs : List Int) (hb : okBy bs) (at_ : Nat) (ha : at_ ≤ 900000) (seed : Int) (m : Int) (hm : 1 ≤ m ∧ m ≤ 200) : ∃ (q : Bool) (at' : Nat) (seed' : Int), at' ≤ at_ + 1 ∧ callOf pr 39 [.op 1000000 0, I m] (SRC bs at_ seed) = some (B q, SRC bs at' seed') := by
  obtain ⟨v, a1, s1, hv, ha1, h1⟩ := call_pick bs hb at_ (by omega) seed m hm
  refine ⟨decide (v = 0), a1, s1, ha1, ?_⟩
  rw [call_eq pr 39 _ _ Try.f39 fn_39 _ rfl _ ann_39 rfl]
  simp -implicitDefEqProofs only [h1, go_sem]
theorem call_am (bs : List Int) (hb : okBy bs) (at_ : Nat) (ha : at_ ≤ 900000) (seed : Int) (xs : List Int) (hx : 1 ≤ xs.length ∧ xs.length ≤ 200) : ∃ (x : Int) (at' : Nat) (seed' : Int), x ∈ xs ∧ at' ≤ at_ + 1 ∧ callOf pr 16 [.op 1000000 0, L xs] (SRC bs at_ seed) = some (I x, SRC bs at' seed') := by
  obtain ⟨v, a1, s1, hv, ha1, h1⟩ := call_pick bs hb at_ (by omega) seed (xs.length : Int) (by omega)
  have hlt : v.toNat < xs.length := by omega
  have k1 : (0 ≤ v) = True := tr hv.1
  have k2 : (v < (xs.length : Int)) = True := tr hv.2
  have k3 : (v.toNat < xs.length) = True := tr hlt
  have hg : ∀ z, xs.getD v.toNat z = xs[v.toNat] := fun z => by rw [List.getD_eq_getElem?_getD, List.getElem?_eq_getElem hlt]; rfl
  refine ⟨xs[v.toNat], a1, s1, List.getElem_mem hlt, ha1, ?_⟩
  rw [call_eq pr 16 _ _ Try.f16 fn_16 _ rfl _ ann_16 rfl]
  simp -implicitDefEqProofs only [h1, k1, k2, k3, hg, go_sem]
theorem loop_new : ∀ (n k : Nat), k + n = 8 → loopOf pr 37 0 ⟨[(0, .op 0 0), (1, .op 64 0), (2, I k)], [(0, .box [.nilS, .nilS, .nilS]), (192, .arr true false (.int .i64) (List.replicate k (-1))), (256, .arr true true (.slice tyE) []), (320, .arr true false tyC []), (64, .box [.os (.t 192), .os (.t 256), .os (.t 320)])]⟩ = some (.exit 0, ⟨[(0, .op 0 0), (1, .op 64 0), (2, I 8)], [(0, .box [.nilS, .nilS, .nilS]), (192, .arr true false (.int .i64) (List.replicate 8 (-1))), (256, .arr true true (.slice tyE) []), (320, .arr true false tyC []), (64, .box [.os (.t 192), .os (.t 256), .os (.t 320)])]⟩)
  | 0, k, h => by
    obtain rfl : k = 8 := by omega
    rw [loop_eq pr 37 0 _ Try.f37 fn_37 _ rfl _ ann_37 _ rfl]
    simp -implicitDefEqProofs only [show (((8 : Nat) : Int) < 8) = False from fa (by omega), go_sem]
    rfl
  | n + 1, k, h => by
    have hlt : ((k : Int) < 8) = True := tr (by omega)
    have hw : IntKind.i64.wrap ((k : Int) + 1) = ((k + 1 : Nat) : Int) := by rw [wrap_i] <;> omega
    have hr : ((k + 1) * 8 ≤ 140737488355328 ∧ k ≤ 9223372036854775806) = True := tr ⟨by omega, by omega⟩
    have e : List.replicate k (-1 : Int) ++ [-1] = List.replicate (k + 1) (-1) := by rw [List.replicate_succ']
    have ih := loop_new n (k + 1) (by omega)
    rw [loop_eq pr 37 0 _ Try.f37 fn_37 _ rfl _ ann_37 _ rfl]
    simp -implicitDefEqProofs only [hlt, hw, hr, List.length_replicate, e, go_sem]
    exact ih
abbrev r0 : List Int := List.replicate 8 (-1)
theorem call_new : callOf pr 37 [] [] = some (.agg [.os (.t 192), .os (.t 256), .os (.t 320)], [(192, .arr true false (.int .i64) r0), (256, .arr true true (.slice tyE) []), (320, .arr true false tyC [])]) := by
  have h := loop_new 8 0 rfl
  have h : loopOf pr 37 0 ⟨[(0, .op 0 0), (1, .op 64 0), (2, I 0)], [(0, .box [.nilS, .nilS, .nilS]), (192, .arr true false (.int .i64) []), (256, .arr true true (.slice tyE) []), (320, .arr true false tyC []), (64, .box [.os (.t 192), .os (.t 256), .os (.t 320)])]⟩ = _ := h
  rw [call_eq pr 37 _ _ Try.f37 fn_37 _ rfl _ ann_37 rfl]
  simp -implicitDefEqProofs only [h, go_sem]
theorem vs_new : Vs r0 [] [] := vs_iff.1 (by decide)
attribute [local go_sem] Nat.reduceAdd Nat.reduceSub Nat.reduceMul Nat.reduceMod Nat.reduceLT Nat.reduceLeDiff Nat.reduceEqDiff Nat.reduceBEq Nat.reduceDiv Int.reduceLT Int.reduceLE Int.reduceToNat Int.reduceNeg Int.reduceEq reduceCtorEq
attribute [local go_sem ↓] reduceIte reduceDIte
theorem loop_ixm (g : Nat) (cs : List AV) (hC : Caps cs) (hg : pr.byref g = []) (P : Ca → Bool) (V : Int → Bool) (hP : ∀ (q f : Int) (w : Bool), V q = true → callOf pr g (.agg [I q, I f, B w] :: cs) [] = some (B (P (q, f, w, ())), [])) : ∀ (suf pre : List Ca), pre.length + suf.length < 2000000 → (∀ c ∈ suf, V c.1 = true) →
    loopOf pr 55 0 ⟨[(0, LC (pre ++ suf)), (1, .fn g cs), (7, I ((pre.length + suf.length : Nat) : Int)), (8, I pre.length)], []⟩ = match suf.findIdx? P with
      | some i => some (.ret, ⟨[(4, I ((pre.length + i : Nat) : Int))], []⟩)
      | none => some (.exit 0, ⟨[(0, LC (pre ++ suf)), (1, .fn g cs), (7, I ((pre.length + suf.length : Nat) : Int)), (8, I ((pre.length + suf.length : Nat) : Int))], []⟩)
  | [], pre, hb, hv => by
    rw [loop_eq pr 55 0 _ Try.f55 fn_55 _ rfl _ ann_55 _ rfl]
    simp -implicitDefEqProofs only [Int.lt_irrefl, List.append_nil, Nat.add_zero, List.length_nil, List.findIdx?_nil, go_sem]
  | (q, f, w, ()) :: suf, pre, hb, hv => by
    simp only [List.length_cons] at hb ⊢
    have hw : IntKind.i64.wrap ((pre.length : Int) + 1) = ((pre.length + 1 : Nat) : Int) := by rw [wrap_i] <;> omega
    have hlt : ((pre.length : Int) < ((pre.length + (suf.length + 1) : Nat) : Int)) = True := tr (by omega)
    have h1 := hP q f w (hv (q, f, w, ()) (by simp))
    have ih := loop_ixm g cs hC hg P V hP suf (pre ++ [(q, f, w, ())]) (by simp; omega) (fun c hc => hv c (by simp [hc]))
    have e1 : (pre ++ [(q, f, w, ())]).length = pre.length + 1 := by simp
    have e2 : pre.length + 1 + suf.length = pre.length + (suf.length + 1) := by omega
    rw [app_one, e1, e2] at ih
    rw [List.findIdx?_cons, loop_eq pr 55 0 _ Try.f55 fn_55 _ rfl _ ann_55 _ rfl]
    cases ho : P (q, f, w, ()) with
    | true =>
      rw [ho] at h1
      simp -implicitDefEqProofs only [getD_app, lt_app, ltn_app, zero_le_cast, Int.toNat_natCast, h1, hlt, hC.args, hC.own, hC.ow, hC.arg, hC.mapR, hC.leads, hg, Nat.add_zero, go_sem]
    | false =>
      rw [ho] at h1
      simp -implicitDefEqProofs only [getD_app, lt_app, ltn_app, zero_le_cast, Int.toNat_natCast, h1, hlt, hw, hC.args, hC.own, hC.ow, hC.arg, hC.mapR, hC.leads, hg, go_sem]
      rw [ih]
      cases List.findIdx? P suf with
      | none => rfl
      | some i => simp only [Option.map_some]; rw [show pre.length + 1 + i = pre.length + (i + 1) from by omega]
theorem call_ixm (g : Nat) (cs : List AV) (hC : Caps cs) (hg : pr.byref g = []) (P : Ca → Bool) (V : Int → Bool) (hP : ∀ (q f : Int) (w : Bool), V q = true → callOf pr g (.agg [I q, I f, B w] :: cs) [] = some (B (P (q, f, w, ())), [])) (xs : List Ca) (hb : xs.length < 2000000) (hv : ∀ c ∈ xs, V c.1 = true) :
    callOf pr 55 [LC xs, .fn g cs] [] = some (I (match xs.findIdx? P with | some i => (i : Int) | none => -1), []) := by
  have h := loop_ixm g cs hC hg P V hP xs [] (by simpa using hb) hv
  simp only [List.nil_append, List.length_nil, Nat.zero_add] at h
  have h : loopOf pr 55 0 ⟨[(0, LC xs), (1, .fn g cs), (7, I xs.length), (8, I 0)], []⟩ = _ := h
  rw [call_eq pr 55 _ _ Try.f55 fn_55 _ rfl _ ann_55 rfl]
  cases hf : xs.findIdx? P with
  | none =>
    rw [hf] at h
    simp -implicitDefEqProofs only [h, go_sem]
  | some i =>
    rw [hf] at h
    simp -implicitDefEqProofs only [h, go_sem]
def offB (r : List Int) (t : List (List En)) (c : Ca) : Bool := decide ((walkS r t c.1).1 < 0) || decide ((walkS r t c.1).1 ≠ c.2.1) || ((walkS r t c.1).2.1 != c.2.2.1)
theorem call_ba1 (r : List Int) (t : List (List En)) (b : List Ca) (hF : Fit r t b) (q f : Int) (w : Bool) (ha : addrB q = true) : callOf pr 23 [.agg [I q, I f, B w], .rp [L r, LLE t, LC b]] [] = some (B (offB r t (q, f, w, ())), []) := by
  have h := call_mp r t b q ha hF.root hF.refs hF.rows
  obtain ⟨⟨ef, ew, eu, ed, ⟨⟩⟩, hE⟩ : ∃ e, walkS r t q = e := ⟨_, rfl⟩
  have ho : offB r t (q, f, w, ()) = (decide (ef < 0) || decide (ef ≠ f) || (ew != w)) := by simp only [offB, hE]
  rw [ho]
  rw [hE] at h
  rw [call_eq pr 23 _ _ Try.f23 fn_23 _ rfl _ ann_23 rfl]
  by_cases he : ef < 0
  · rw [if_pos he] at h
    simp -implicitDefEqProofs only [h, he, go_sem]
  · rw [if_neg he] at h
    by_cases hf : ef = f
    · subst hf
      cases ew <;> cases w <;> simp -implicitDefEqProofs only [h, fa he, go_sem] <;> rfl
    · simp -implicitDefEqProofs only [h, fa he, fa hf, go_sem]
def agrB (r : List Int) (t : List (List En)) (b : List Ca) : Bool := b.all fun c => !offB r t c
theorem agr_iff {r : List Int} {t : List (List En)} {b : List Ca} : agrB r t b = true ↔ Agr r t b := by
  simp only [agrB, List.all_eq_true, Agr, offB, Bool.not_eq_true', Bool.or_eq_false_iff, decide_eq_false_iff_not, Decidable.not_not, bne_eq_false_iff_eq, Int.not_lt]
  constructor
  · intro h c hc; obtain ⟨⟨h1, h2⟩, h3⟩ := h c hc; exact ⟨h1, h2, h3⟩
  · intro h c hc; obtain ⟨h1, h2, h3⟩ := h c hc; exact ⟨⟨h1, h2⟩, h3⟩
theorem find_all {α : Type} (p : α → Bool) (xs : List α) : decide (0 ≤ (match xs.findIdx? p with | some i => (i : Int) | none => -1)) = !xs.all fun x => !p x := by
  cases h : xs.findIdx? p with
  | none =>
    rw [List.findIdx?_eq_none_iff] at h
    have : (xs.all fun x => !p x) = true := by rw [List.all_eq_true]; intro x hx; simp [h x hx]
    rw [this]; rfl
  | some i =>
    obtain ⟨h1, h2, _⟩ := List.findIdx?_eq_some_iff_getElem.1 h
    have : (xs.all fun x => !p x) = false := by
      rw [List.all_eq_false]
      exact ⟨xs[i], List.getElem_mem h1, by simp [h2]⟩
    rw [this]
    simp
theorem call_ba (r : List Int) (t : List (List En)) (b : List Ca) (h : Vs r t b) : callOf pr 9 [.agg [L r, LLE t, LC b]] [] = some (B (agrB r t b), []) := by
  have h1 := call_vs r t b (by have := h.root; omega) (by have := h.few; omega) (fun x hx => by rw [h.rows x hx]; omega) (by have := h.buf; omega)
  rw [← space_eq, vs_iff.2 h] at h1
  have h2 := call_ixm 23 [.rp [L r, LLE t, LC b]] ⟨rfl, of_decide_eq_true rfl⟩ rfl (offB r t) addrB (fun q f w hv => call_ba1 r t b h.fit q f w hv) b (by have := h.buf; omega) (buf_addr h)
  have h3 : callOf pr 22 [LC b, .fn 23 [.rp [L r, LLE t, LC b]]] [] = some (B (!agrB r t b), []) := by
    rw [call_eq pr 22 _ _ Try.f22 fn_22 _ rfl _ ann_22 rfl]
    have := find_all (offB r t) b
    simp -implicitDefEqProofs only [h2, ge_iff_le, go_sem]
    rw [this]; rfl
  rw [call_eq pr 9 _ _ Try.f9 fn_9 _ rfl _ ann_9 rfl]
  simp -implicitDefEqProofs only [h1, h3, Bool.not_not, go_sem]
theorem call_wp (r : List Int) (t : List (List En)) (b : List Ca) (h : Vs r t b) (p : Int) (ha : addrB p = true) : callOf pr 7 [.agg [L r, LLE t, LC b], I p] [] = some (if (walkS r t p).1 < 0 then .tuple [agE (0, false, false, false, ()), B false] else .tuple [agE (walkS r t p), B true], []) := by
  have h1 := call_ip r t b p (by have := h.root; omega) (by have := h.few; omega) (fun x hx => by rw [h.rows x hx]; omega) (by have := h.buf; omega)
  rw [vs_iff.2 h, ha] at h1
  have h2 := call_mp r t b p ha h.root h.refs h.rows
  rw [call_eq pr 7 _ _ Try.f7 fn_7 _ rfl _ ann_7 rfl]
  by_cases he : (walkS r t p).1 < 0
  · rw [if_pos he] at h2 ⊢
    simp -implicitDefEqProofs only [h1, h2, Bool.true_and, go_sem]
  · rw [if_neg he] at h2 ⊢
    simp -implicitDefEqProofs only [h1, h2, Bool.true_and, go_sem]
theorem call_long (a b : List Int) : callOf pr 4 [BY a, BY b] [] = some (B (decide (48 < (a.length : Int)) || decide (48 < (b.length : Int))), []) := by
  rw [call_eq pr 4 _ _ Try.f4 fn_4 _ rfl _ ann_4 rfl]
  by_cases h : 48 < (a.length : Int)
  · rw [decide_eq_true h, Bool.true_or]
    simp -implicitDefEqProofs only [gt_iff_lt, tr h, go_sem]
  · rw [decide_eq_false h, Bool.false_or]
    simp -implicitDefEqProofs only [gt_iff_lt, fa h, go_sem]
theorem call_at (bs : List Int) (hb : okBy bs) (i : Int) (hi : 0 ≤ i) (m : Int) (hm : 1 ≤ m ∧ m ≤ 1000) : ∃ v : Int, (0 ≤ v ∧ v < m) ∧ callOf pr 6 [BY bs, I i, I m] [] = some (I v, []) := by
  rw [call_eq pr 6 _ _ Try.f6 fn_6 _ rfl _ ann_6 rfl]
  by_cases h1 : m ≤ 1
  · refine ⟨0, by omega, ?_⟩
    simp -implicitDefEqProofs only [tr h1, go_sem]
  · by_cases h2 : (bs.length : Int) ≤ i
    · refine ⟨0, by omega, ?_⟩
      simp -implicitDefEqProofs only [fa h1, tr h2, ge_iff_le, go_sem]
    · have hlt : i.toNat < bs.length := by omega
      have hr := hb.2 _ (List.getElem_mem hlt)
      have hg : bs.getD i.toNat 0 = bs[i.toNat] := getD_of_lt hlt 0
      generalize bs[i.toNat] = x at *
      have h0 : ¬ m = 0 := by omega
      have hw2 : IntKind.i64.wrap x = x := by rw [wrap_i] <;> omega
      have ht : x.tmod m = x % m := Int.tmod_eq_emod_of_nonneg (by omega)
      have r1 := Int.emod_nonneg x h0
      have r2 := Int.emod_lt_of_pos x (show 0 < m by omega)
      have h3 : (i < (bs.length : Int)) = True := tr (by omega)
      refine ⟨x % m, ⟨r1, r2⟩, ?_⟩
      have hw3 : IntKind.i64.wrap (x % m) = x % m := by rw [wrap_i] <;> omega
      simp -implicitDefEqProofs only [fa h1, fa h2, ge_iff_le, tr hi, h3, fa h0, hg, hw2, ht, hw3, go_sem]
attribute [local go_sem] Nat.reduceAdd Nat.reduceSub Nat.reduceMul Nat.reduceMod Nat.reduceLT Nat.reduceLeDiff Nat.reduceEqDiff Nat.reduceBEq Nat.reduceDiv Int.reduceLT Int.reduceLE Int.reduceToNat Int.reduceNeg Int.reduceEq reduceCtorEq
attribute [local go_sem ↓] reduceIte reduceDIte
theorem call_from (bs : List Int) : callOf pr 11 [BY bs] [] = some (.op 320 0, [(320, .box [BY bs, I 0, .d (.int .u64) 0])]) := by
  rw [call_eq pr 11 _ _ Try.f11 fn_11 _ rfl _ ann_11 rfl]
  simp -implicitDefEqProofs only [go_sem]
abbrev SB (bs : List Int) (at_ : Nat) (seed : Int) : Go.Q.Obj := .box [BY bs, I at_, .d (.int .u64) seed]
abbrev DT (kinds n : Int) : Slots := [(0, .op 1000000 0), (2, .op 128 0), (3, .op 192 0), (4, I kinds), (5, I n)]
abbrev DH (bs : List Int) (at_ : Nat) (seed : Int) (r : List Int) (t : List (List En)) (b : List Ca) : Heap := [(1000000, SB bs at_ seed), (128, .box [.nilS, .nilS, .nilS]), (192, .box [.os (.t 193), .os (.t 194), .os (.t 195)]), (193, .arr true false (.int .i64) r), (194, .arr true true (.slice tyE) t), (195, .arr true false tyC b)]
theorem loop_d0 (bs : List Int) (hb : okBy bs) (kinds : Int) (hk : 1 ≤ kinds ∧ kinds ≤ 3) : ∀ (n at_ : Nat) (seed : Int) (r : List Int) (t : List (List En)) (b : List Ca), n ≤ 20 → at_ + 3 * n ≤ 1000 → Vs r t b →
    ∃ (at' : Nat) (seed' : Int) (r' : List Int) (t' : List (List En)), at' ≤ at_ + 3 * n ∧ Vs r' t' b ∧ loopOf pr 12 0 ⟨DT kinds n, DH bs at_ seed r t b⟩ = some (.exit 0, ⟨DT kinds 0, DH bs at' seed' r' t' b⟩)
  | 0, at_, seed, r, t, b, hn, ha, hv => by
    refine ⟨at_, seed, r, t, by omega, hv, ?_⟩
    rw [loop_eq pr 12 0 _ Try.f12 fn_12 _ rfl _ ann_12 _ rfl]
    simp -implicitDefEqProofs only [Int.natCast_zero, gt_iff_lt, Int.lt_irrefl, go_sem]
  | n + 1, at_, seed, r, t, b, hn, ha, hv => by
    have hp : (((n + 1 : Nat) : Int) > 0) = True := tr (by omega)
    have hw1 : IntKind.i64.wrap (((n + 1 : Nat) : Int) - 1) = (n : Int) := by rw [wrap_i] <;> omega
    have hw2 : IntKind.i64.wrap (kinds * 8) = kinds * 8 := by rw [wrap_i] <;> omega
    have hw3 : IntKind.i64.wrap (kinds * 8 + 2) = kinds * 8 + 2 := by rw [wrap_i] <;> omega
    obtain ⟨p, a1, s1, hp1, ha1, h1⟩ := call_pick bs hb at_ (by omega) seed (kinds * 8 + 2) (by omega)
    obtain ⟨f, a2, s2, hf, ha2, h2⟩ := call_pick bs hb a1 (by omega) s1 16 (by omega)
    obtain ⟨w, a3, s3, ha3, h3⟩ := call_one bs hb a2 (by omega) s2 2 (by omega)
    have hm : p.tmod 64 = p := by rw [Int.tmod_eq_emod_of_nonneg hp1.1]; exact Int.emod_eq_of_lt hp1.1 (by omega)
    have hw4 : IntKind.i64.wrap p = p := by rw [wrap_i] <;> omega
    have h4 := call_sm r t b p f w (by have := hv.buf; omega)
    cases hc : mapC r t b p f with
    | false =>
      rw [hc, if_neg (by simp)] at h4
      obtain ⟨at', seed', r', t', k1, k2, k3⟩ := loop_d0 bs hb kinds hk n a3 s3 r t b (by omega) (by omega) hv
      refine ⟨at', seed', r', t', by omega, k2, ?_⟩
      rw [loop_eq pr 12 0 _ Try.f12 fn_12 _ rfl _ ann_12 _ rfl]
      simp -implicitDefEqProofs only [hp, hw1, hw2, hw3, hw4, hm, h1, h2, h3, h4, go_sem]
      exact k3
    | true =>
      rw [hc, if_pos rfl] at h4
      obtain ⟨at', seed', r', t', k1, k2, k3⟩ := loop_d0 bs hb kinds hk n a3 s3 (root2 r t p) (mapT r t p f w) b (by omega) (by omega) (Vs.map hc).1
      refine ⟨at', seed', r', t', by omega, k2, ?_⟩
      rw [loop_eq pr 12 0 _ Try.f12 fn_12 _ rfl _ ann_12 _ rfl]
      simp -implicitDefEqProofs only [hp, hw1, hw2, hw3, hw4, hm, h1, h2, h3, h4, go_sem]
      exact k3
attribute [local go_sem] Nat.reduceAdd Nat.reduceSub Nat.reduceMul Nat.reduceMod Nat.reduceLT Nat.reduceLeDiff Nat.reduceEqDiff Nat.reduceBEq Nat.reduceDiv Int.reduceLT Int.reduceLE Int.reduceToNat Int.reduceNeg Int.reduceEq reduceCtorEq
attribute [local go_sem ↓] reduceIte reduceDIte
def Pgs (r : List Int) (t : List (List En)) (ps : List Int) : Prop := ∀ x ∈ ps, addrB x = true ∧ 0 ≤ (walkS r t x).1
theorem pgs_those (r : List Int) (t : List (List En)) : Pgs r t (those (mapsB r t) 64) ∧ (those (mapsB r t) 64).length ≤ 64 := by
  refine ⟨fun x hx => ?_, those_length _ _⟩
  obtain ⟨k, rfl, h1, h2⟩ := those_in hx
  exact ⟨addr_nat h1, by simpa [mapsB] using h2⟩
theorem Pgs.use {r : List Int} {t : List (List En)} {b : List Ca} {ps : List Int} (h : Vs r t b) (hp : Pgs r t ps) (k : Int) {p : Int} (ha : addrB p = true) : Pgs r (useR r t b k p).2.2.1 ps := fun x hx => by
  obtain ⟨h1, h2⟩ := hp x hx
  rw [(use_same h k ha h1).1]; exact ⟨h1, h2⟩
abbrev DT2 (ps : List Int) (n : Int) : Slots := [(0, .op 1000000 0), (2, .op 128 0), (3, .op 192 0), (10, L ps), (11, I n)]
abbrev DH2 (bs : List Int) (at_ : Nat) (seed : Int) (r : List Int) (t : List (List En)) (b : List Ca) : Heap := [(1000000, SB bs at_ seed), (128, .box [.nilS, .nilS, .nilS]), (192, .box [.os (.t 193), .os (.t 194), .os (.t 195)]), (193, .arr true false (.int .i64) r), (194, .arr true true (.slice tyE) t), (195, .arr true false tyC b)]
theorem loop_d2 (bs : List Int) (hb : okBy bs) (ps : List Int) (hps : ps.length ≤ 64) (r : List Int) : ∀ (n at_ : Nat) (seed : Int) (t : List (List En)) (b : List Ca), n ≤ 20 → at_ + 2 * n ≤ 1000 → Vs r t b → Pgs r t ps →
    ∃ (m at' : Nat) (seed' : Int) (t' : List (List En)) (b' : List Ca), at' ≤ at_ + 2 * n ∧ Vs r t' b' ∧ Pgs r t' ps ∧ loopOf pr 12 1 ⟨DT2 ps n, DH2 bs at_ seed r t b⟩ = some (.exit 2, ⟨DT2 ps m, DH2 bs at' seed' r t' b'⟩)
  | 0, at_, seed, t, b, hn, ha, hv, hp => by
    refine ⟨0, at_, seed, t, b, by omega, hv, hp, ?_⟩
    rw [loop_eq pr 12 1 _ Try.f12 fn_12 _ rfl _ ann_12 _ rfl]
    simp -implicitDefEqProofs only [Int.natCast_zero, gt_iff_lt, Int.lt_irrefl, go_sem]
  | n + 1, at_, seed, t, b, hn, ha, hv, hp => by
    have hq : (((n + 1 : Nat) : Int) > 0) = True := tr (by omega)
    have hw1 : IntKind.i64.wrap (((n + 1 : Nat) : Int) - 1) = (n : Int) := by rw [wrap_i] <;> omega
    by_cases h0 : ps.length = 0
    · have h0' : ((ps.length : Int) > 0) = False := fa (by omega)
      refine ⟨n + 1, at_, seed, t, b, by omega, hv, hp, ?_⟩
      rw [loop_eq pr 12 1 _ Try.f12 fn_12 _ rfl _ ann_12 _ rfl]
      simp -implicitDefEqProofs only [hq, h0', go_sem]
    · have h0' : ((ps.length : Int) > 0) = True := tr (by omega)
      obtain ⟨k, a1, s1, hk, ha1, h1⟩ := call_pick bs hb at_ (by omega) seed 2 (by omega)
      obtain ⟨x, a2, s2, hx, ha2, h2⟩ := call_am bs hb a1 (by omega) s1 ps (by omega)
      have hxa := (hp x hx).1
      obtain ⟨m, at', seed', t', b', k1, k2, k3, k4⟩ := loop_d2 bs hb ps hps r n a2 s2 (useR r t b k x).2.2.1 (useR r t b k x).2.2.2 (by omega) (by omega) (hv.use k hxa) (Pgs.use hv hp k hxa)
      refine ⟨m, at', seed', t', b', by omega, k2, k3, ?_⟩
      rw [loop_eq pr 12 1 _ Try.f12 fn_12 _ rfl _ ann_12 _ rfl]
      rcases call_lu r t b k x hxa hv.fit with h4 | h4 | h4
      · simp -implicitDefEqProofs only [hq, h0', h1, h2, h4, hw1, go_sem]
        exact k4
      · simp -implicitDefEqProofs only [hq, h0', h1, h2, h4, hw1, go_sem]
        exact k4
      · simp -implicitDefEqProofs only [hq, h0', h1, h2, h4, hw1, go_sem]
        exact k4
theorem ent_toggle {f : Int} {w u d : Bool} (h : entB (f, w, u, d, ()) = true) (h0 : 0 ≤ f) : entB (f, !w, u, d, ()) = true := by
  simp only [entB, emptyE, Bool.or_eq_true, Bool.and_eq_true, decide_eq_true_eq] at h ⊢
  rcases h with h | h
  · exact absurd h.1.1.1 (by omega)
  · exact .inr h
theorem call_do (bs : List Int) (hb : okBy bs) (at_ : Nat) (ha : at_ ≤ 100) (seed : Int) : ∃ (at' : Nat) (seed' : Int) (r : List Int) (t : List (List En)) (b : List Ca), at' ≤ 200 ∧ Vs r t b ∧
    callOf pr 12 [.op 1000000 0] (SRC bs at_ seed) = some (.agg [.os (.t 193), .os (.t 194), .os (.t 195)], [(1000000, SB bs at' seed'), (193, .arr true false (.int .i64) r), (194, .arr true true (.slice tyE) t), (195, .arr true false tyC b)]) := by
  obtain ⟨v1, a1, s1, hv1, ha1, h1⟩ := call_pick bs hb at_ (by omega) seed 3 (by omega)
  obtain ⟨v2, a2, s2, hv2, ha2, h2⟩ := call_pick bs hb a1 (by omega) s1 9 (by omega)
  obtain ⟨n2, rfl⟩ : ∃ n : Nat, v2 = n := ⟨v2.toNat, by omega⟩
  have hw : IntKind.i64.wrap (1 + v1) = 1 + v1 := by rw [wrap_i] <;> omega
  obtain ⟨a3, s3, r, t, ha3, hV, h3⟩ := loop_d0 bs hb (1 + v1) (by omega) n2 a2 s2 r0 [] [] (by omega) (by omega) vs_new
  have h4 := call_mpd r t [] hV.root hV.refs hV.rows
  obtain ⟨hP, hPl⟩ := pgs_those r t
  obtain ⟨v3, a4, s4, hv3, ha4, h5⟩ := call_pick bs hb a3 (by omega) s3 5 (by omega)
  obtain ⟨n3, rfl⟩ : ∃ n : Nat, v3 = n := ⟨v3.toNat, by omega⟩
  obtain ⟨m, a5, s5, t', b', ha5, hV2, hP2, h6⟩ := loop_d2 bs hb _ hPl r n3 a4 s4 t [] (by omega) (by omega) hV hP
  by_cases h0 : (those (mapsB r t) 64).length = 0
  · have h0' : (((those (mapsB r t) 64).length : Int) > 0) = False := fa (by omega)
    refine ⟨a5, s5, r, t', b', by omega, hV2, ?_⟩
    rw [call_eq pr 12 _ _ Try.f12 fn_12 _ rfl _ ann_12 rfl]
    simp -implicitDefEqProofs only [h1, h2, call_new, hw, h3, h4, h5, h6, h0', go_sem]
  · have h0' : (((those (mapsB r t) 64).length : Int) > 0) = True := tr (by omega)
    obtain ⟨q, a6, s6, ha6, h7⟩ := call_one bs hb a5 (by omega) s5 5 (by omega)
    cases q with
    | false =>
      refine ⟨a6, s6, r, t', b', by omega, hV2, ?_⟩
      rw [call_eq pr 12 _ _ Try.f12 fn_12 _ rfl _ ann_12 rfl]
      simp -implicitDefEqProofs only [h1, h2, call_new, hw, h3, h4, h5, h6, h0', h7, go_sem]
    | true =>
      obtain ⟨x, a7, s7, hx, ha7, h8⟩ := call_am bs hb a6 (by omega) s6 (those (mapsB r t) 64) (by omega)
      obtain ⟨q2, a8, s8, ha8, h9⟩ := call_one bs hb a7 (by omega) s7 2 (by omega)
      obtain ⟨hxa, hx0⟩ := hP2 x hx
      have hroot := walk_pos (show ¬ (walkS r t' x).1 < 0 by omega)
      have hput := call_pu r t' b' x hxa hV2.root hV2.refs hV2.rows (by have := hV2.buf; omega) (by have := hV2.few; omega) hroot
      cases q2 with
      | true =>
        refine ⟨a8, s8, r, putT r t' x emptyEn, b', by omega, hV2.none hxa hroot, ?_⟩
        rw [call_eq pr 12 _ _ Try.f12 fn_12 _ rfl _ ann_12 rfl]
        simp -implicitDefEqProofs only [h1, h2, call_new, hw, h3, h4, h5, h6, h0', h7, h8, h9, call_em, hput, go_sem]
      | false =>
        have h10 := call_wk r t' b' x hxa hV2.root hV2.refs hV2.rows
        obtain ⟨⟨ef, ew, eu, ed, ⟨⟩⟩, hE⟩ : ∃ e, walkS r t' x = e := ⟨_, rfl⟩
        obtain ⟨row, hr1, hr2⟩ := walk_mem hxa hV2.fit hroot
        have hent := hV2.ents row hr1 _ hr2
        rw [hE] at h10 hent hx0
        refine ⟨a8, s8, r, putT r t' x (ef, !ew, eu, ed, ()), b', by omega, hV2.same hxa hroot (ent_toggle hent hx0) (by rw [hE]), ?_⟩
        rw [call_eq pr 12 _ _ Try.f12 fn_12 _ rfl _ ann_12 rfl]
        simp -implicitDefEqProofs only [h1, h2, call_new, hw, h3, h4, h5, h6, h0', h7, h8, h9, h10, hput, go_sem]
attribute [local go_sem] Nat.reduceAdd Nat.reduceSub Nat.reduceMul Nat.reduceMod Nat.reduceLT Nat.reduceLeDiff Nat.reduceEqDiff Nat.reduceBEq Nat.reduceDiv Int.reduceLT Int.reduceLE Int.reduceToNat Int.reduceNeg Int.reduceEq reduceCtorEq
attribute [local go_sem ↓] reduceIte reduceDIte
abbrev RT8 (ps : List Int) (n : Int) : Slots := [(2, .op 128 0), (3, .op 768 0), (4, .op 256 0), (5, L ps), (6, I n)]
abbrev RH8 (bs : List Int) (at_ : Nat) (seed : Int) (r : List Int) (t : List (List En)) (b : List Ca) : Heap := [(128, .box [.nilS, .nilS, .nilS]), (768, SB bs at_ seed), (256, .box [.os (.t 257), .os (.t 258), .os (.t 259)]), (257, .arr true false (.int .i64) r), (258, .arr true true (.slice tyE) t), (259, .arr true false tyC b)]
theorem loop_r8s (bs : List Int) (hb : okBy bs) (ps : List Int) (hps : ps.length ≤ 64) (r : List Int) : ∀ (n at_ : Nat) (seed : Int) (t : List (List En)) (b : List Ca), n ≤ 20 → at_ + 2 * n ≤ 1000 → Vs r t b → Pgs r t ps → Agr r t b →
    ∃ (m at' : Nat) (seed' : Int) (t' : List (List En)) (b' : List Ca), Vs r t' b' ∧ Agr r t' b' ∧ loopOf pr 5 0 ⟨RT8 ps n, RH8 bs at_ seed r t b⟩ = some (.exit 0, ⟨RT8 ps m, RH8 bs at' seed' r t' b'⟩)
  | 0, at_, seed, t, b, hn, ha, hv, hp, hA => by
    refine ⟨0, at_, seed, t, b, hv, hA, ?_⟩
    rw [loop_eq pr 5 0 _ Try.f5 fn_5 _ rfl _ ann_5 _ rfl]
    simp -implicitDefEqProofs only [Int.natCast_zero, gt_iff_lt, Int.lt_irrefl, go_sem]
  | n + 1, at_, seed, t, b, hn, ha, hv, hp, hA => by
    have hq : (((n + 1 : Nat) : Int) > 0) = True := tr (by omega)
    have hw1 : IntKind.i64.wrap (((n + 1 : Nat) : Int) - 1) = (n : Int) := by rw [wrap_i] <;> omega
    by_cases h0 : ps.length = 0
    · have h0' : ((ps.length : Int) > 0) = False := fa (by omega)
      refine ⟨n + 1, at_, seed, t, b, hv, hA, ?_⟩
      rw [loop_eq pr 5 0 _ Try.f5 fn_5 _ rfl _ ann_5 _ rfl]
      simp -implicitDefEqProofs only [hq, h0', go_sem]
    · have h0' : ((ps.length : Int) > 0) = True := tr (by omega)
      obtain ⟨k, a1, s1, hk, ha1, h1⟩ := call_pick bs hb at_ (by omega) seed 2 (by omega)
      obtain ⟨x, a2, s2, hx, ha2, h2⟩ := call_am bs hb a1 (by omega) s1 ps (by omega)
      have hxa := (hp x hx).1
      obtain ⟨m, at', seed', t', b', k2, k3, k4⟩ := loop_r8s bs hb ps hps r n a2 s2 (useR r t b k x).2.2.1 (useR r t b k x).2.2.2 (by omega) (by omega) (hv.use k hxa) (Pgs.use hv hp k hxa) (hA.use hv k hxa)
      refine ⟨m, at', seed', t', b', k2, k3, ?_⟩
      rw [loop_eq pr 5 0 _ Try.f5 fn_5 _ rfl _ ann_5 _ rfl]
      rcases call_lu r t b k x hxa hv.fit with h4 | h4 | h4
      · simp -implicitDefEqProofs only [hq, h0', h1, h2, h4, hw1, go_sem]
        exact k4
      · simp -implicitDefEqProofs only [hq, h0', h1, h2, h4, hw1, go_sem]
        exact k4
      · simp -implicitDefEqProofs only [hq, h0', h1, h2, h4, hw1, go_sem]
        exact k4
theorem Vs.empty {r : List Int} {t : List (List En)} {b : List Ca} (h : Vs r t b) : Vs r t [] := ⟨h.root, h.few, h.refs, h.cnt, h.rows, h.ents, h.nod, by simp, rfl⟩
theorem call_r8s (bs : List Int) (hb : okBy bs) : ∃ (r : List Int) (t : List (List En)) (b : List Ca), Vs r t b ∧ Agr r t b ∧
    callOf pr 5 [BY bs] [] = some (.agg [.os (.t 257), .os (.t 258), .os (.t 259)], [(257, .arr true false (.int .i64) r), (258, .arr true true (.slice tyE) t), (259, .arr true false tyC b)]) := by
  have h1 := call_from bs
  obtain ⟨a1, s1, r, t, b, ha1, hV, h2⟩ := call_do bs hb 0 (by omega) 0
  have h2 : callOf pr 12 [.op 1000000 0] [(1000000, .box [BY bs, I 0, .d (.int .u64) 0])] = _ := h2
  have h4 := call_mpd r t [] hV.root hV.refs hV.rows
  obtain ⟨hP, hPl⟩ := pgs_those r t
  obtain ⟨v, a2, s2, hv, ha2, h5⟩ := call_pick bs hb a1 (by omega) s1 5 (by omega)
  obtain ⟨n, rfl⟩ : ∃ n : Nat, v = n := ⟨v.toNat, by omega⟩
  obtain ⟨m, a3, s3, t', b', hV2, hA, h6⟩ := loop_r8s bs hb _ hPl r n a2 s2 t [] (by omega) (by omega) hV.empty hP (fun c hc => by cases hc)
  refine ⟨r, t', b', hV2, hA, ?_⟩
  rw [call_eq pr 5 _ _ Try.f5 fn_5 _ rfl _ ann_5 rfl]
  simp -implicitDefEqProofs only [h1, h2, h4, h5, h6, go_sem]
theorem kept_iff {b : List Ca} {p : Int} : (b.findIdx? (pageAt p)).isSome = b.any (pageAt p) := by
  rw [Bool.eq_iff_iff, List.findIdx?_isSome]
theorem use_nopage {r : List Int} {t : List (List En)} {b : List Ca} {k p : Int} (h : Vs r t b) (hA : Agr r t b) (he : (walkS r t p).1 < 0) : useR r t b k p = (2, -1, t, b) := by
  unfold useR
  split
  · rw [if_pos he]
  · rename_i i hf
    obtain ⟨f1, f2, f3⟩ := flush_some h.fit.one hf
    have hm : b.getD i zC ∈ b := by rw [List.getD_eq_getElem?_getD, List.getElem?_eq_getElem f2]; exact List.getElem_mem f2
    have := (hA _ hm).1
    rw [f3] at this; omega
theorem use_denied {r : List Int} {t : List (List En)} {b : List Ca} {k p : Int} (h : Vs r t b) (hA : Agr r t b) (he : ¬ (walkS r t p).1 < 0) (hw : (decide (k = 1) && !(walkS r t p).2.1) = true) : (useR r t b k p).1 = 3 ∧ (useR r t b k p).2.1 = -1 := by
  unfold useR
  split
  · rw [if_neg he, if_pos hw]; exact ⟨rfl, rfl⟩
  · rename_i i hf
    obtain ⟨f1, f2, f3⟩ := flush_some h.fit.one hf
    have hm : b.getD i zC ∈ b := by rw [List.getD_eq_getElem?_getD, List.getElem?_eq_getElem f2]; exact List.getElem_mem f2
    have hc := (hA _ hm).2.2
    rw [f3] at hc
    rw [← hc, if_pos hw]; exact ⟨rfl, rfl⟩
theorem use_made {r : List Int} {t : List (List En)} {b : List Ca} {k p : Int} (h : Vs r t b) (hA : Agr r t b) (ha : addrB p = true) (he : ¬ (walkS r t p).1 < 0) (hw : (decide (k = 1) && !(walkS r t p).2.1) = false) :
    (useR r t b k p).1 = (if b.any (pageAt p) = true then 0 else 1) ∧ (useR r t b k p).2.1 = (walkS r t p).1 ∧ walkS r (useR r t b k p).2.2.1 p = usedE (walkS r t p) (decide (k = 1)) ∧ ∃ c l, (useR r t b k p).2.2.2 = c :: l ∧ c.1 = p := by
  have hu : walkS r (usedT r t p (decide (k = 1))) p = usedE (walkS r t p) (decide (k = 1)) := by
    rw [walk_used h ha ha, if_pos ⟨rfl, he⟩]
  have hk := kept_iff (b := b) (p := p)
  unfold useR
  split
  · rename_i hf
    rw [hf] at hk
    have hk : b.any (pageAt p) = false := hk.symm
    rw [if_neg he, if_neg (by rw [hw]; simp), hk, if_neg (by simp)]
    exact ⟨rfl, rfl, hu, _, _, rfl, rfl⟩
  · rename_i i hf
    rw [hf] at hk
    have hk : b.any (pageAt p) = true := hk.symm
    obtain ⟨f1, f2, f3⟩ := flush_some h.fit.one hf
    have hm : b.getD i zC ∈ b := by rw [List.getD_eq_getElem?_getD, List.getElem?_eq_getElem f2]; exact List.getElem_mem f2
    obtain ⟨c1, c2, c3⟩ := hA _ hm
    rw [f3] at c1 c2 c3
    rw [← c3, if_neg (by rw [hw]; simp), hk, if_pos rfl]
    exact ⟨rfl, c2.symm, hu, _, _, rfl, f3⟩
end Go.Proofs.Ytbapbghnageckaa.PI
