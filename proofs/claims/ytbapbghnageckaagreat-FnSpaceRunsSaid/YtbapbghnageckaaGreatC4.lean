/- Basics, out of other seats' texts -/
import Derived.Test.YtbapbghnageckaaGreatStd
import Derived.Test.YtbapbghnageckaaGreatW2
import Derived.Test.YtbapbghnageckaaGreatGQBits
namespace Go.Proofs.YtbapbghnageckaaGreat.PI
open Go Go.Q
set_option maxRecDepth 100000
set_option maxHeartbeats 4000000
set_option linter.unusedSimpArgs false
set_option linter.unusedVariables false
attribute [local go_sem] Nat.reduceAdd Nat.reduceSub Nat.reduceMul Nat.reduceMod Nat.reduceLT Nat.reduceLeDiff Nat.reduceEqDiff Nat.reduceBEq Nat.reduceDiv Int.reduceLT Int.reduceLE Int.reduceToNat Int.reduceNeg Int.reduceEq reduceCtorEq
attribute [local go_sem ↓] reduceIte reduceDIte

theorem call_91 (n lo hi : Int) : callOf pr 91 [I n, I lo, I hi] [] = some (B (decide (lo ≤ n ∧ n ≤ hi)), []) := by
 rw [call_eq pr 91 _ _ Tryz.f91 fn_91 _ rfl _ ann_91 rfl]
 simp -implicitDefEqProofs only [go_sem]
 by_cases h : lo ≤ n
 ·simp [h]
 ·simp [h]

theorem call_125 (n lo hi : Int) : callOf pr 125 [I n, I lo, I hi] [] = some (B (decide (lo ≤ n ∧ n ≤ hi)), []) := by
 rw [call_eq pr 125 _ _ Tryz.f125 fn_125 _ rfl _ ann_125 rfl]
 simp -implicitDefEqProofs only [go_sem]
 by_cases h : lo ≤ n
 ·simp [h]
 ·simp [h]

theorem loop_123 (xs : List Int) (hb : xs.length < 1000000000000000000) (p : Int → Bool) (g : Nat) (cs : List AV) (hC : Caps cs) (hg : pr.byref g = []) (hp : ∀ x ∈ xs, callOf pr g (I x :: cs) [] = some (B (p x), [])) : ∀ (n k : Nat), k + n = xs.length →
  loopOf pr 123 0 ⟨[(0, L xs), (1, .fn g cs), (7, I xs.length), (8, I k)], []⟩ = match (xs.drop k).findIdx? p with
  | some i => some (.ret, ⟨[(4, I ((k + i : Nat) : Int))], []⟩)
  | none => some (.exit 0, ⟨[(0, L xs), (1, .fn g cs), (7, I xs.length), (8, I xs.length)], []⟩)
 | 0, k, h => by
  have : k = xs.length := by omega
  subst this
  rw [List.drop_of_length_le (Nat.le_refl _), loop_eq pr 123 0 _ Tryz.f123 fn_123 _ rfl _ ann_123 _ rfl]
  simp -implicitDefEqProofs only [Int.lt_irrefl, List.findIdx?_nil, go_sem]
 | n + 1, k, h => by
  have hlt : k < xs.length := by omega
  have ih := loop_123 xs hb p g cs hC hg hp n (k + 1) (by omega)
  have hpk : callOf pr g (I (xs.getD k 0) :: cs) [] = some (B (p (xs.getD k 0)), []) := hp _ (by rw [getD_of_lt hlt]; exact List.getElem_mem hlt)
  rw [List.drop_eq_getElem_cons hlt, List.findIdx?_cons, loop_eq pr 123 0 _ Tryz.f123 fn_123 _ rfl _ ann_123 _ rfl]
  rw [← getD_of_lt hlt 0]
  cases hq : p (xs.getD k 0) with
  | true =>
   simp -implicitDefEqProofs only [lt_cast hlt, zero_le_cast, Int.toNat_natCast, wrap_succ hlt hb, hC.args, hC.own, hC.ow, hC.arg, hC.mapR, hC.leads, hg, hpk, hq, go_sem]
   rfl
  | false =>
   simp -implicitDefEqProofs only [lt_cast hlt, zero_le_cast, Int.toNat_natCast, wrap_succ hlt hb, hC.args, hC.own, hC.ow, hC.arg, hC.mapR, hC.leads, hg, hpk, hq, go_sem]
   rw [ih]
   cases List.findIdx? p (List.drop (k + 1) xs) with
   | none => rfl
   | some i => simp only [Option.map_some]; rw [show k + 1 + i = k + (i + 1) from by omega]

theorem call_123 (xs : List Int) (hb : xs.length < 1000000000000000000) (p : Int → Bool) (g : Nat) (cs : List AV) (hC : Caps cs) (hg : pr.byref g = []) (hp : ∀ x ∈ xs, callOf pr g (I x :: cs) [] = some (B (p x), [])) :
  callOf pr 123 [L xs, .fn g cs] [] = some (I (match xs.findIdx? p with | some i => (i : Int) | none => -1), []) := by
 have h : loopOf pr 123 0 ⟨[(0, L xs), (1, .fn g cs), (7, I xs.length), (8, I 0)], []⟩ = _ := loop_123 xs hb p g cs hC hg hp xs.length 0 (by omega)
 rw [call_eq pr 123 _ _ Tryz.f123 fn_123 _ rfl _ ann_123 rfl]
 rw [List.drop_zero] at h
 cases hf : xs.findIdx? p with
 | none =>
  rw [hf] at h
  simp -implicitDefEqProofs only [h, go_sem]
 | some i =>
  rw [hf] at h
  simp only [Nat.zero_add] at h
  simp -implicitDefEqProofs only [h, go_sem]

theorem loop_74 (n : Nat) (hn : n < 2000000) : ∀ (r k : Nat), k + r = n →
  loopOf pr 74 0 ⟨[(3, .os (.t 320)), (6, I n), (7, I k)], [(320, .arr true false (.int .i64) (those (fun _ => true) k))]⟩ = some (.exit 0, ⟨[(3, .os (.t 320)), (6, I n), (7, I n)], [(320, .arr true false (.int .i64) (those (fun _ => true) n))]⟩)
 | 0, k, h => by
  have : k = n := by omega
  subst this
  rw [loop_eq pr 74 0 _ Tryz.f74 fn_74 _ rfl _ ann_74 _ rfl]
  simp -implicitDefEqProofs only [Int.lt_irrefl, go_sem]
 | r + 1, k, h => by
  have ih := loop_74 n hn r (k + 1) (by omega)
  rw [those_succ, if_pos rfl] at ih
  have hlt : k < n := by omega
  have hlen := those_length (fun _ => true) k
  have hroom : (((those (fun _ => true) k).length + 1) * 8 ≤ 140737488355328 ∧ (those (fun _ => true) k).length ≤ 9223372036854775806) = True := tr (by omega)
  rw [loop_eq pr 74 0 _ Tryz.f74 fn_74 _ rfl _ ann_74 _ rfl]
  simp -implicitDefEqProofs only [lt_cast hlt, wrap_succ hlt (show n < 1000000000000000000 by omega), hroom, go_sem]
  exact ih
theorem call_74 (n : Nat) (hn : n < 2000000) : callOf pr 74 [I n] [] = some (.os (.t 320), [(320, .arr true false (.int .i64) (those (fun _ => true) n))]) := by
 have h := loop_74 n hn n 0 (by omega)
 have h : loopOf pr 74 0 ⟨[(3, .os (.t 320)), (6, I n), (7, I 0)], [(320, .arr true false (.int .i64) [])]⟩ = _ := h
 rw [call_eq pr 74 _ _ Tryz.f74 fn_74 _ rfl _ ann_74 rfl]
 simp -implicitDefEqProofs only [h, go_sem]

theorem those_full_length (n : Nat) : (those (fun _ => true) n).length = n := by
 have : (List.range n).filter (fun _ => true) = List.range n := by rw [List.filter_eq_self]; exact fun _ _ => rfl
 unfold those
 rw [this]; simp

theorem call_129 (xs : List Int) : callOf pr 129 [L xs] [] = some (I xs.length, []) := by
 rw [call_eq pr 129 _ _ Tryz.f129 fn_129 _ rfl _ ann_129 rfl]
 simp -implicitDefEqProofs only [go_sem]
theorem call_values (xs : List Int) : callOf pr 132 [L xs] [] = some (.fn 146 [.op 64 0], [(64, .box [L xs])]) := by
 rw [call_eq pr 132 _ _ Tryz.f132 fn_132 _ rfl _ ann_132 rfl]
 simp -implicitDefEqProofs only [go_sem]
theorem call_collect (xs : List Int) (h0 : ¬ xs.length = 0) (hl : xs.length ≤ 1000000) : callOf pr 144 [.fn 146 [.rp [L xs]]] [] = some (.os (.t 256), [(256, .arr true false (.int .i64) xs)]) := by
 rw [call_eq pr 144 _ _ Tryz.f144 fn_144 _ rfl _ ann_144 rfl]
 simp -implicitDefEqProofs only [call_app xs h0 hl, go_sem]
theorem call_collect0 : callOf pr 144 [.fn 146 [.rp [L []]]] [] = some (.nilS, []) := by
 rw [call_eq pr 144 _ _ Tryz.f144 fn_144 _ rfl _ ann_144 rfl]
 simp -implicitDefEqProofs only [call_app0, go_sem]
theorem call_sorted (xs : List Int) (h0 : ¬ xs.length = 0) (hl : xs.length ≤ 1000000) : callOf pr 131 [.fn 146 [.rp [L xs]]] [] = some (.os (.t 320), [(320, .arr true false (.int .i64) (sortI xs))]) := by
 rw [call_eq pr 131 _ _ Tryz.f131 fn_131 _ rfl _ ann_131 rfl]
 simp -implicitDefEqProofs only [call_collect xs h0 hl, call_srt false xs hl, go_sem]
theorem call_sorted0 : callOf pr 131 [.fn 146 [.rp [L []]]] [] = some (.nilS, []) := by
 rw [call_eq pr 131 _ _ Tryz.f131 fn_131 _ rfl _ ann_131 rfl]
 simp -implicitDefEqProofs only [call_collect0, call_srt0, go_sem]

theorem loop_eqI (n : Nat) : ∀ (us bs : List Int) (done : List Int), us.length = bs.length → done.length + us.length = n → n < 1000000000000000000 →
  loopOf pr 130 0 ⟨[(0, L (done ++ us)), (1, L (done ++ bs)), (12, I n), (13, I done.length)], []⟩ = if us = bs then some (.exit 0, ⟨[(0, L (done ++ us)), (1, L (done ++ bs)), (12, I n), (13, I n)], []⟩) else some (.ret, ⟨[(4, B false)], []⟩)
 | [], [], done, _, hn, hb => by
  have hn : n = done.length := by simp at hn; exact hn.symm
  subst hn
  rw [if_pos rfl, loop_eq pr 130 0 _ Tryz.f130 fn_130 _ rfl _ ann_130 _ rfl]
  simp -implicitDefEqProofs only [Int.lt_irrefl, List.append_nil, go_sem]
 | a :: us, b :: bs, done, hl, hn, hb => by
  simp only [List.length_cons] at hl hn
  have hlt : ((done.length : Int) < (n : Int)) = True := tr (by omega)
  have hw : IntKind.i64.wrap ((done.length : Int) + 1) = ((done.length + 1 : Nat) : Int) := by rw [wrap_i] <;> omega
  rw [loop_eq pr 130 0 _ Tryz.f130 fn_130 _ rfl _ ann_130 _ rfl]
  by_cases hq : a = b
  ·subst hq
   have ih := loop_eqI n us bs (done ++ [a]) (by omega) (by simp; omega) hb
   have e1 : (done ++ [a]).length = done.length + 1 := by simp
   have e2 : (a :: us = a :: bs) = (us = bs) := by simp
   rw [app_one, app_one, e1] at ih
   simp only [e2]
   simp -implicitDefEqProofs only [hlt, getD_app, lt_app, ltn_app, zero_le_cast, Int.toNat_natCast, hw, go_sem]
   exact ih
  ·rw [if_neg (fun e => hq (List.cons.inj e).1)]
   simp -implicitDefEqProofs only [hlt, getD_app, lt_app, ltn_app, zero_le_cast, Int.toNat_natCast, fa hq, go_sem]
 | [], _ :: _, _, hl, _, _ => by simp at hl
 | _ :: _, [], _, hl, _, _ => by simp at hl
theorem call_eqI (a b : List Int) (hb : a.length < 1000000000000000000) : callOf pr 130 [L a, L b] [] = some (B (decide (a = b)), []) := by
 rw [call_eq pr 130 _ _ Tryz.f130 fn_130 _ rfl _ ann_130 rfl]
 by_cases hl : a.length = b.length
 ·have hl' : ((a.length : Int) = (b.length : Int)) = True := by simp [hl]
  have h := loop_eqI a.length a b [] hl (by simp) hb
  have h : loopOf pr 130 0 ⟨[(0, L a), (1, L b), (12, I a.length), (13, I 0)], []⟩ = _ := h
  by_cases he : a = b
  ·rw [if_pos he] at h
   simp -implicitDefEqProofs only [hl', h, decide_true, tr he, go_sem]
  ·rw [if_neg he] at h
   simp -implicitDefEqProofs only [hl', h, decide_false, fa he, go_sem]
 ·have hl' : ((a.length : Int) = (b.length : Int)) = False := by simp; omega
  have he : ¬ a = b := fun e => hl (by rw [e])
  simp -implicitDefEqProofs only [hl', fa he, decide_false, go_sem]
def orderB (xs : List Int) (n : Nat) : Bool := decide (xs.length = n ∧ sortI xs = those (fun _ => true) n)
theorem call_order (xs : List Int) (n : Nat) (h1 : 1 ≤ n) (hn : n < 1000000) (hb : xs.length < 1000000000000000000) : callOf pr 99 [L xs, I n] [] = some (B (orderB xs n), []) := by
 rw [call_eq pr 99 _ _ Tryz.f99 fn_99 _ rfl _ ann_99 rfl]
 by_cases hl : xs.length = n
 ·have hl' : ((xs.length : Int) = (n : Int)) = True := tr (by omega)
  have h := call_sorted xs (by omega) (by omega)
  have h2 := call_eqI (sortI xs) (those (fun _ => true) n) (by rw [sortI_length]; omega)
  have hk : orderB xs n = decide (sortI xs = those (fun _ => true) n) := by simp [orderB, hl]
  simp -implicitDefEqProofs only [call_129, hl', call_values, h, call_74 n (by omega), h2, hk, go_sem]
 ·have hl' : ((xs.length : Int) = (n : Int)) = False := fa (by omega)
  have hk : orderB xs n = false := by simp [orderB, hl]
  simp -implicitDefEqProofs only [call_129, hl', hk, go_sem]

theorem sortI_perm (xs : List Int) : (sortI xs).Perm xs := List.mergeSort_perm xs _
theorem sortI_le (xs : List Int) : (sortI xs).Pairwise (· ≤ ·) := by
 have := List.pairwise_mergeSort (le := fun x y : Int => decide (x ≤ y)) (fun a b c h1 h2 => by simp only [decide_eq_true_eq] at *; omega) (fun a b => by simp only [Bool.or_eq_true, decide_eq_true_eq]; omega) xs
 exact this.imp fun {a b} h => by simpa using h
theorem those_true (n : Nat) : those (fun _ => true) n = (List.range n).map Int.ofNat := by
 unfold those
 rw [List.filter_eq_self.2 (fun _ _ => rfl)]
theorem loop_73 (p : Int → Bool) (g : Nat) (cs : List AV) (hC : Caps cs) (hg : pr.byref g = []) : ∀ (rest kept : List Int) (junk : List Int), junk ≠ [] → (kept ++ junk ++ rest).length < 1000000000000000000 → (∀ x ∈ rest, callOf pr g (I x :: cs) [] = some (B (p x), [])) →
  ∃ junk' : List Int, kept.length + junk.length + rest.length = (kept ++ rest.filter fun x => !p x).length + junk'.length ∧ loopOf pr 73 0 ⟨[(0, .os (.t 1000000)), (1, .fn g cs), (5, I kept.length), (6, I ((kept.length + junk.length : Nat) : Int))], [(1000000, .arr false false (.int .i64) (kept ++ junk ++ rest))]⟩ = some (.exit 0, ⟨[(0, .os (.t 1000000)), (1, .fn g cs), (5, I ((kept ++ rest.filter fun x => !p x).length : Int)), (6, I ((kept.length + junk.length + rest.length : Nat) : Int))], [(1000000, .arr false false (.int .i64) ((kept ++ rest.filter fun x => !p x) ++ junk'))]⟩)
 | [], kept, junk, hj, hb, hp => by
  refine ⟨junk, by simp, ?_⟩
  have hl : (kept ++ junk ++ []).length = kept.length + junk.length := by simp
  rw [loop_eq pr 73 0 _ Tryz.f73 fn_73 _ rfl _ ann_73 _ rfl]
  simp -implicitDefEqProofs only [Int.lt_irrefl, hl, hC.args, hC.own, hC.ow, hC.arg, hC.mapR, hC.leads, hg, go_sem]
  simp
 | v :: rest, kept, junk, hj, hb, hp => by
  have hl : (kept ++ junk ++ v :: rest).length = kept.length + junk.length + (rest.length + 1) := by simp; omega
  rw [hl] at hb
  have hlt : kept.length + junk.length < (kept ++ junk ++ v :: rest).length := by rw [hl]; omega
  have hv : (kept ++ junk ++ v :: rest).getD (kept.length + junk.length) 0 = v := by rw [← List.length_append]; simp
  have hpv := hp v (by simp)
  have hw : IntKind.i64.wrap (((kept.length + junk.length : Nat) : Int) + 1) = ((kept.length + junk.length + 1 : Nat) : Int) := by rw [wrap_i] <;> omega
  rw [loop_eq pr 73 0 _ Tryz.f73 fn_73 _ rfl _ ann_73 _ rfl]
  cases hq : p v with
  | true =>
   rw [hq] at hpv
   have h1 : (v :: rest).filter (fun x => !p x) = rest.filter fun x => !p x := by simp [hq]
   obtain ⟨junk', h2, h3⟩ := loop_73 p g cs hC hg rest kept (junk ++ [v]) (by simp) (by simp; omega) (fun x hx => hp x (by simp [hx]))
   rw [h1]
   refine ⟨junk', by rw [← h2]; simp; omega, ?_⟩
   have e1 : kept ++ (junk ++ [v]) ++ rest = kept ++ junk ++ v :: rest := by simp
   have e2 : kept.length + (junk ++ [v]).length = kept.length + junk.length + 1 := by simp; omega
   have e3 : kept.length + junk.length + 1 + rest.length = kept.length + junk.length + (v :: rest).length := by simp; omega
   rw [e1, e2, e3] at h3
   simp -implicitDefEqProofs only [lt_cast hlt, zero_le_cast, Int.toNat_natCast, hv, hw, hpv, hC.args, hC.own, hC.ow, hC.arg, hC.mapR, hC.leads, hg, go_sem]
   exact h3
  | false =>
   rw [hq] at hpv
   have h1 : (v :: rest).filter (fun x => !p x) = v :: rest.filter fun x => !p x := by simp [hq]
   obtain ⟨j0, junk0, hje⟩ := List.exists_cons_of_ne_nil hj
   have hjl : junk.length = junk0.length + 1 := by rw [hje]; rfl
   obtain ⟨junk', h2, h3⟩ := loop_73 p g cs hC hg rest (kept ++ [v]) (junk0 ++ [v]) (by simp) (by simp; omega) (fun x hx => hp x (by simp [hx]))
   rw [h1]
   have e0 : (kept ++ [v]) ++ rest.filter (fun x => !p x) = kept ++ v :: rest.filter fun x => !p x := by simp
   rw [e0] at h2 h3
   refine ⟨junk', by rw [← h2]; simp; omega, ?_⟩
   have e1 : (kept ++ [v]) ++ (junk0 ++ [v]) ++ rest = kept ++ v :: junk0 ++ v :: rest := by simp
   have e2 : (kept ++ [v]).length + (junk0 ++ [v]).length = kept.length + junk.length + 1 := by simp; omega
   have e3 : kept.length + junk.length + 1 + rest.length = kept.length + junk.length + (v :: rest).length := by simp; omega
   have e4 : (kept ++ [v]).length = kept.length + 1 := by simp
   rw [e1, e2, e3, e4] at h3
   have hlt2 : kept.length < (kept ++ junk ++ v :: rest).length := by rw [hl]; omega
   have hset : (kept ++ junk ++ v :: rest).set kept.length v = kept ++ v :: junk0 ++ v :: rest := by rw [hje]; simp
   have hw2 : IntKind.i64.wrap ((kept.length : Int) + 1) = ((kept.length + 1 : Nat) : Int) := by rw [wrap_i] <;> omega
   simp -implicitDefEqProofs only [lt_cast hlt, lt_cast hlt2, zero_le_cast, Int.toNat_natCast, hv, hw, hw2, hpv, hset, hC.args, hC.own, hC.ow, hC.arg, hC.mapR, hC.leads, hg, go_sem]
   exact h3
theorem copyIn_tail {α : Type} (xs ys : List α) (z : α) : copyIn (xs ++ ys) (List.replicate ((xs ++ ys).length - xs.length) z) xs.length ((xs ++ ys).length - xs.length) = xs ++ List.replicate ys.length z := by
 have h : (xs ++ ys).length - xs.length = ys.length := by simp
 unfold copyIn
 rw [h, List.take_left, List.take_of_length_le (by simp)]
 have : (xs ++ ys).drop (xs.length + (List.replicate ys.length z).length) = [] := by
  rw [List.drop_eq_nil_iff]; simp
 rw [this, List.append_nil]
theorem call_73 (p : Int → Bool) (g : Nat) (cs : List AV) (hC : Caps cs) (hg : pr.byref g = []) (ys : List Int) (hb : ys.length < 1000000000000000000) (hp : ∀ x ∈ ys, callOf pr g (I x :: cs) [] = some (B (p x), [])) :
  callOf pr 73 [.os (.t 1000000), .fn g cs] [(1000000, .arr false false (.int .i64) ys)] = if ys.any p = true then some (.sub (.t 1000000) 0 (ys.filter fun x => !p x).length, [(1000000, .arr false false (.int .i64) ((ys.filter fun x => !p x) ++ List.replicate (ys.length - (ys.filter fun x => !p x).length) 0))]) else some (.os (.t 1000000), [(1000000, .arr false false (.int .i64) ys)]) := by
 have h79 := call_123 ys hb p g cs hC hg hp
 rw [call_eq pr 73 _ _ Tryz.f73 fn_73 _ rfl _ ann_73 rfl]
 cases hf : ys.findIdx? p with
 | none =>
  rw [hf] at h79
  have hany : ys.any p = false := by
   rw [List.findIdx?_eq_none_iff] at hf
   simpa using hf
  simp -implicitDefEqProofs only [h79, hany, hC.args, hC.own, hC.ow, hC.arg, hC.mapR, hC.leads, hg, go_sem]
 | some i =>
  rw [hf] at h79
  rw [List.findIdx?_eq_some_iff_getElem] at hf
  obtain ⟨h1, h2, h3⟩ := hf
  have hany : ys.any p = true := List.any_eq_true.2 ⟨_, List.getElem_mem h1, h2⟩
  have hsplit : ys = ys.take i ++ [ys[i]] ++ ys.drop (i + 1) := by
   rw [List.append_assoc, List.singleton_append, ← List.drop_eq_getElem_cons h1, List.take_append_drop]
  have hpre : (ys.take i).filter (fun x => !p x) = ys.take i := by
   rw [List.filter_eq_self]
   intro x hx
   obtain ⟨j, hj, rfl⟩ := List.getElem_of_mem hx
   have hj' : j < i := by simp at hj; omega
   have := h3 j hj'
   simp only [List.getElem_take]
   simpa using this
  have hfil : ys.filter (fun x => !p x) = ys.take i ++ (ys.drop (i + 1)).filter fun x => !p x := by
   conv => lhs; rw [hsplit]
   rw [List.filter_append, List.filter_append, hpre]
   simp [h2]
  obtain ⟨junk', h4, h5⟩ := loop_73 p g cs hC hg (ys.drop (i + 1)) (ys.take i) [ys[i]] (by simp) (by rw [← hsplit]; exact hb) (fun x hx => hp x (List.mem_of_mem_drop hx))
  rw [← hsplit, ← hfil] at h5
  have e1 : (ys.take i).length = i := by simp; omega
  have e2 : (ys.take i).length + [ys[i]].length + (ys.drop (i + 1)).length = ys.length := by simp; omega
  rw [e2] at h4 h5
  rw [e1] at h5
  simp only [List.length_singleton] at h5
  rw [← hfil] at h4
  have hw : IntKind.i64.wrap ((i : Int) + 1) = ((i + 1 : Nat) : Int) := by rw [wrap_i] <;> omega
  have hne : ((i : Int) = -1) = False := fa (by omega)
  have hle : ((ys.filter fun x => !p x).length : Int) ≤ ((ys.filter fun x => !p x) ++ junk').length := by rw [List.length_append]; omega
  have hcp := copyIn_tail (ys.filter fun x => !p x) junk' (0 : Int)
  have hj : junk'.length = ys.length - (ys.filter fun x => !p x).length := by omega
  have hle2 : ((ys.filter fun x => !p x).length : Int) ≤ ((ys.filter fun x => !p x) ++ List.replicate junk'.length (0 : Int)).length := by rw [List.length_append]; omega
  rw [hj] at hle2
  simp -implicitDefEqProofs only [h79, hany, hC.args, hC.own, hC.ow, hC.arg, hC.mapR, hC.leads, hg, hne, hw, h5, zero_le_cast, tr hle, Int.le_refl, Int.toNat_natCast, hcp, tr hle2, Nat.sub_zero, hj, go_sem]

theorem call_order0 (xs : List Int) (hb : xs.length < 1000000000000000000) : callOf pr 99 [L xs, I 0] [] = some (B (orderB xs 0), []) := by
 rw [call_eq pr 99 _ _ Tryz.f99 fn_99 _ rfl _ ann_99 rfl]
 by_cases hl : xs.length = 0
 ·have hx : xs = [] := List.eq_nil_of_length_eq_zero hl
  subst hx
  have h := call_sorted0
  have h2 : callOf pr 130 [.nilS, L []] [] = some (B true, []) := by
   rw [call_eq pr 130 _ _ Tryz.f130 fn_130 _ rfl _ ann_130 rfl]
   have h3 : loopOf pr 130 0 ⟨[(0, .nilS), (1, L []), (12, I 0), (13, I 0)], []⟩ = some (.exit 0, ⟨[(0, .nilS), (1, L []), (12, I 0), (13, I 0)], []⟩) := by
    rw [loop_eq pr 130 0 _ Tryz.f130 fn_130 _ rfl _ ann_130 _ rfl]
    simp -implicitDefEqProofs only [go_sem]
   simp -implicitDefEqProofs only [h3, Int.natCast_zero, go_sem]
  have h0 : callOf pr 74 [I 0] [] = some (.os (.t 320), [(320, .arr true false (.int .i64) [])]) := call_74 0 (by omega)
  have hk : orderB [] 0 = true := by simp [orderB, sortI, those]
  simp -implicitDefEqProofs only [call_129, call_values, h, h0, h2, hk, Int.natCast_zero, go_sem]
 ·have hl' : ((xs.length : Int) = 0) = False := fa (by omega)
  have hk : orderB xs 0 = false := by simp [orderB, hl]
  simp -implicitDefEqProofs only [call_129, hl', hk, go_sem]
theorem call_ord (xs : List Int) (n : Nat) (hn : n < 1000000) (hb : xs.length < 1000000000000000000) : callOf pr 99 [L xs, I n] [] = some (B (orderB xs n), []) := by
 cases n with
 | zero => exact call_order0 xs hb
 | succ n => exact call_order xs (n + 1) (by omega) hn hb
abbrev En : Type := Int × Bool × Bool × Bool × Unit
abbrev Ca : Type := Int × Int × Bool × Unit
abbrev LE (es : List En) : AV := .d (.slice tyE) es
abbrev LLE (ts : List (List En)) : AV := .d (.slice (.slice tyE)) ts
abbrev LC (cs : List Ca) : AV := .d (.slice tyC) cs
def frameB (n : Int) : Bool := decide (0 ≤ n ∧ n ≤ 15)
def addrB (n : Int) : Bool := decide (0 ≤ n ∧ n ≤ 63)
theorem call_fr (n : Int) : callOf pr 89 [I n] [] = some (B (frameB n), []) := by
 rw [call_eq pr 89 _ _ Tryz.f89 fn_89 _ rfl _ ann_89 rfl]
 simp -implicitDefEqProofs only [call_91, frameB, go_sem]
theorem call_ad (n : Int) : callOf pr 44 [I n] [] = some (B (addrB n), []) := by
 rw [call_eq pr 44 _ _ Tryz.f44 fn_44 _ rfl _ ann_44 rfl]
 simp -implicitDefEqProofs only [call_91, addrB, go_sem]
theorem loop_many (t : List (List En)) (b : List Ca) (k : Int) : ∀ (suf pre : List Int), pre.length + suf.length < 1000000 →
  loopOf pr 88 1 ⟨[(0, .rp [L (pre ++ suf), LLE t, LC b]), (3, I k), (4, I (pre.count k)), (5, I pre.length)], []⟩ = some (.exit 2, ⟨[(0, .rp [L (pre ++ suf), LLE t, LC b]), (3, I k), (4, I ((pre ++ suf).count k)), (5, I ((pre.length + suf.length : Nat) : Int))], []⟩)
 | [], pre, hb => by
  rw [loop_eq pr 88 1 _ Tryz.f88 fn_88 _ rfl _ ann_88 _ rfl]
  simp -implicitDefEqProofs only [Int.lt_irrefl, List.append_nil, Nat.add_zero, go_sem]
 | x :: suf, pre, hb => by
  simp only [List.length_cons] at hb
  have hw : IntKind.i64.wrap ((pre.length : Int) + 1) = ((pre.length + 1 : Nat) : Int) := by rw [wrap_i] <;> omega
  have hc : pre.count k ≤ pre.length := List.count_le_length
  have hw2 : IntKind.i64.wrap ((pre.count k : Int) + 1) = ((pre.count k + 1 : Nat) : Int) := by rw [wrap_i] <;> omega
  have ih := loop_many t b k suf (pre ++ [x]) (by simp; omega)
  have e1 : (pre ++ [x]).length = pre.length + 1 := by simp
  have e2 : pre.length + 1 + suf.length = pre.length + (x :: suf).length := by simp; omega
  rw [app_one, e1, e2] at ih
  rw [loop_eq pr 88 1 _ Tryz.f88 fn_88 _ rfl _ ann_88 _ rfl]
  by_cases hx : x = k
  ·subst hx
   have e3 : (pre ++ [x]).count x = pre.count x + 1 := by simp
   rw [e3] at ih
   simp -implicitDefEqProofs only [getD_app, lt_app, ltn_app, zero_le_cast, Int.toNat_natCast, hw, hw2, BEq.rfl, beq_self_eq_true, go_sem]
   exact ih
  ·have e3 : (pre ++ [x]).count k = pre.count k := by simp [hx]
   rw [e3] at ih
   have hne : (x = k) = False := fa hx
   simp -implicitDefEqProofs only [getD_app, lt_app, ltn_app, zero_le_cast, Int.toNat_natCast, hw, hw2, hne, go_sem]
   exact ih
def tabC (r : List Int) : Nat → List (List En) → Bool
 | _, [] => true
 | k, t :: ts => decide (r.count (k : Int) = 1) && decide (t.length = 8) && tabC r (k + 1) ts
theorem loop_tab (r : List Int) (b : List Ca) (hr : r.length = 8) : ∀ (suf pre : List (List En)), pre.length + suf.length < 1000000 →
  loopOf pr 88 0 ⟨[(0, .rp [L r, LLE (pre ++ suf), LC b]), (3, I pre.length)], []⟩ = if tabC r pre.length suf = true then some (.exit 0, ⟨[(0, .rp [L r, LLE (pre ++ suf), LC b]), (3, I ((pre.length + suf.length : Nat) : Int))], []⟩) else some (.ret, ⟨[(2, B false)], []⟩)
 | [], pre, hb => by
  rw [if_pos (by simp [tabC]), loop_eq pr 88 0 _ Tryz.f88 fn_88 _ rfl _ ann_88 _ rfl]
  simp -implicitDefEqProofs only [Int.lt_irrefl, List.append_nil, Nat.add_zero, go_sem]
 | x :: suf, pre, hb => by
  simp only [List.length_cons] at hb
  have hw : IntKind.i64.wrap ((pre.length : Int) + 1) = ((pre.length + 1 : Nat) : Int) := by rw [wrap_i] <;> omega
  have h := loop_many (pre ++ x :: suf) b (pre.length : Int) r [] (by simp; omega)
  simp only [List.nil_append, List.length_nil, List.count_nil] at h
  have h : loopOf pr 88 1 ⟨[(0, .rp [L r, LLE (pre ++ x :: suf), LC b]), (3, I pre.length), (4, I 0), (5, I 0)], []⟩ = _ := h
  have ih := loop_tab r b hr suf (pre ++ [x]) (by simp; omega)
  have e1 : (pre ++ [x]).length = pre.length + 1 := by simp
  have e2 : pre.length + 1 + suf.length = pre.length + (x :: suf).length := by simp; omega
  rw [app_one, e1, e2] at ih
  rw [loop_eq pr 88 0 _ Tryz.f88 fn_88 _ rfl _ ann_88 _ rfl]
  by_cases hc : r.count (pre.length : Int) = 1
  ·rw [hc] at h
   have h1 : (((1 : Nat) : Int) = 1) = True := tr rfl
   by_cases hl : x.length = 8
   ·have h2 : (((x.length : Nat) : Int) = 8) = True := tr (by omega)
    have e3 : tabC r pre.length (x :: suf) = tabC r (pre.length + 1) suf := by simp [tabC, hc, hl]
    rw [e3]
    simp -implicitDefEqProofs only [getD_app, lt_app, ltn_app, zero_le_cast, Int.toNat_natCast, h, hw, h1, h2, go_sem]
    exact ih
   ·have h2 : (((x.length : Nat) : Int) = 8) = False := fa (by omega)
    have e3 : tabC r pre.length (x :: suf) = false := by simp [tabC, hl]
    rw [e3, if_neg (by simp)]
    simp -implicitDefEqProofs only [getD_app, lt_app, ltn_app, zero_le_cast, Int.toNat_natCast, h, hw, h1, h2, go_sem]
  ·have h1 : (((r.count (pre.length : Int) : Nat) : Int) = 1) = False := fa (by omega)
   have e3 : tabC r pre.length (x :: suf) = false := by simp [tabC, hc]
   rw [e3, if_neg (by simp)]
   simp -implicitDefEqProofs only [getD_app, lt_app, ltn_app, zero_le_cast, Int.toNat_natCast, h, hw, h1, go_sem]
def rootB (n : Nat) (x : Int) : Bool := decide (-1 ≤ x ∧ x ≤ (n : Int) - 1)
theorem loop_root (t : List (List En)) (b : List Ca) (ht : t.length ≤ 8) : ∀ (suf pre : List Int), pre.length + suf.length < 1000000 →
  loopOf pr 88 2 ⟨[(0, .rp [L (pre ++ suf), LLE t, LC b]), (6, I pre.length)], []⟩ = if suf.all (rootB t.length) = true then some (.exit 4, ⟨[(0, .rp [L (pre ++ suf), LLE t, LC b]), (6, I ((pre.length + suf.length : Nat) : Int))], []⟩) else some (.ret, ⟨[(2, B false)], []⟩)
 | [], pre, hb => by
  rw [if_pos (by simp), loop_eq pr 88 2 _ Tryz.f88 fn_88 _ rfl _ ann_88 _ rfl]
  simp -implicitDefEqProofs only [Int.lt_irrefl, List.append_nil, Nat.add_zero, go_sem]
 | x :: suf, pre, hb => by
  simp only [List.length_cons] at hb
  have hw : IntKind.i64.wrap ((pre.length : Int) + 1) = ((pre.length + 1 : Nat) : Int) := by rw [wrap_i] <;> omega
  have hw2 : IntKind.i64.wrap ((t.length : Int) - 1) = (t.length : Int) - 1 := by rw [wrap_i] <;> omega
  have h := call_91 x (-1) ((t.length : Int) - 1)
  have ih := loop_root t b ht suf (pre ++ [x]) (by simp; omega)
  have e1 : (pre ++ [x]).length = pre.length + 1 := by simp
  have e2 : pre.length + 1 + suf.length = pre.length + (x :: suf).length := by simp; omega
  rw [app_one, e1, e2] at ih
  rw [loop_eq pr 88 2 _ Tryz.f88 fn_88 _ rfl _ ann_88 _ rfl]
  cases hc : rootB t.length x with
  | true =>
   have e3 : (x :: suf).all (rootB t.length) = suf.all (rootB t.length) := by simp [hc]
   rw [e3]
   unfold rootB at hc
   rw [hc] at h
   simp -implicitDefEqProofs only [getD_app, lt_app, ltn_app, zero_le_cast, Int.toNat_natCast, h, hw, hw2, go_sem]
   exact ih
  | false =>
   rw [if_neg (by simp [hc])]
   unfold rootB at hc
   rw [hc] at h
   simp -implicitDefEqProofs only [getD_app, lt_app, ltn_app, zero_le_cast, Int.toNat_natCast, h, hw, hw2, go_sem]
def tabB (r : List Int) (t : List (List En)) : Bool := decide (r.length = 8) && decide (t.length ≤ 8) && tabC r 0 t && r.all (rootB t.length)
theorem call_tb (r : List Int) (t : List (List En)) (b : List Ca) : callOf pr 88 [.rp [L r, LLE t, LC b]] [] = some (B (tabB r t), []) := by
 rw [call_eq pr 88 _ _ Tryz.f88 fn_88 _ rfl _ ann_88 rfl]
 by_cases hr : r.length = 8
 ·have g1 : (((r.length : Nat) : Int) = 8) = True := tr (by omega)
  by_cases ht : t.length ≤ 8
  ·have g2 : ((t.length : Int) > 8) = False := fa (by omega)
   have h1 := loop_tab r b hr t [] (by simp; omega)
   simp only [List.nil_append, List.length_nil] at h1
   have h1 : loopOf pr 88 0 ⟨[(0, .rp [L r, LLE t, LC b]), (3, I 0)], []⟩ = _ := h1
   cases hc : tabC r 0 t with
   | false =>
    rw [hc, if_neg (by simp)] at h1
    have hk : tabB r t = false := by simp [tabB, hc]
    simp -implicitDefEqProofs only [g1, g2, h1, hk, go_sem]
   | true =>
    rw [hc, if_pos rfl] at h1
    have h2 := loop_root t b ht r [] (by simp; omega)
    simp only [List.nil_append, List.length_nil] at h2
    have h2 : loopOf pr 88 2 ⟨[(0, .rp [L r, LLE t, LC b]), (6, I 0)], []⟩ = _ := h2
    cases hd : r.all (rootB t.length) with
    | false =>
     rw [hd, if_neg (by simp)] at h2
     have hk : tabB r t = false := by simp [tabB, hd]
     simp -implicitDefEqProofs only [g1, g2, h1, h2, hk, go_sem]
    | true =>
     rw [hd, if_pos rfl] at h2
     have hk : tabB r t = true := by simp [tabB, hr, ht, hc, hd]
     simp -implicitDefEqProofs only [g1, g2, h1, h2, hk, go_sem]
  ·have g2 : ((t.length : Int) > 8) = True := tr (by omega)
   have hk : tabB r t = false := by simp only [tabB, decide_eq_false ht, Bool.and_false, Bool.false_and]
   simp -implicitDefEqProofs only [g1, g2, hk, go_sem]
 ·have g1 : (((r.length : Nat) : Int) = 8) = False := fa (by omega)
  have hk : tabB r t = false := by simp only [tabB, decide_eq_false hr, Bool.false_and]
  simp -implicitDefEqProofs only [g1, hk, go_sem]
def pageAt (p : Int) (c : Ca) : Bool := decide (c.1 = p)
theorem loop_fd (p : Int) : ∀ (suf pre : List Ca), pre.length + suf.length < 1000000000000000000 →
  loopOf pr 90 0 ⟨[(0, LC (pre ++ suf)), (1, I p), (5, I pre.length)], []⟩ = match suf.findIdx? (pageAt p) with
   | some i => some (.ret, ⟨[(4, I ((pre.length + i : Nat) : Int))], []⟩)
   | none => some (.exit 0, ⟨[(0, LC (pre ++ suf)), (1, I p), (5, I ((pre.length + suf.length : Nat) : Int))], []⟩)
 | [], pre, hb => by
  rw [loop_eq pr 90 0 _ Tryz.f90 fn_90 _ rfl _ ann_90 _ rfl]
  simp -implicitDefEqProofs only [Int.lt_irrefl, List.append_nil, Nat.add_zero, List.findIdx?_nil, go_sem]
 | (q, f, w, ()) :: suf, pre, hb => by
  simp only [List.length_cons] at hb
  have hw : IntKind.i64.wrap ((pre.length : Int) + 1) = ((pre.length + 1 : Nat) : Int) := by rw [wrap_i] <;> omega
  have ih := loop_fd p suf (pre ++ [(q, f, w, ())]) (by simp; omega)
  have e1 : (pre ++ [(q, f, w, ())]).length = pre.length + 1 := by simp
  have e2 : pre.length + 1 + suf.length = pre.length + ((q, f, w, ()) :: suf).length := by simp; omega
  rw [app_one, e1, e2] at ih
  rw [List.findIdx?_cons, loop_eq pr 90 0 _ Tryz.f90 fn_90 _ rfl _ ann_90 _ rfl]
  by_cases hq : q = p
  ·have hk : pageAt p (q, f, w, ()) = true := by simp [pageAt, hq]
   rw [hk]
   simp -implicitDefEqProofs only [getD_app, lt_app, ltn_app, zero_le_cast, Int.toNat_natCast, tr hq, Nat.add_zero, go_sem]
  ·have hk : pageAt p (q, f, w, ()) = false := by simp [pageAt, hq]
   rw [hk]
   simp -implicitDefEqProofs only [getD_app, lt_app, ltn_app, zero_le_cast, Int.toNat_natCast, fa hq, hw, go_sem]
   rw [ih]
   cases List.findIdx? (pageAt p) suf with
   | none => rfl
   | some i => simp only [Option.map_some]; rw [show pre.length + 1 + i = pre.length + (i + 1) from by omega]
def findP (cs : List Ca) (p : Int) : Int := match cs.findIdx? (pageAt p) with
 | some i => (i : Int)
 | none => -1
theorem call_fd (cs : List Ca) (p : Int) (hb : cs.length < 1000000000000000000) : callOf pr 90 [LC cs, I p] [] = some (I (findP cs p), []) := by
 have h := loop_fd p cs [] (by simpa using hb)
 simp only [List.nil_append, List.length_nil, Nat.zero_add] at h
 have h : loopOf pr 90 0 ⟨[(0, LC cs), (1, I p), (5, I 0)], []⟩ = _ := h
 rw [call_eq pr 90 _ _ Tryz.f90 fn_90 _ rfl _ ann_90 rfl]
 unfold findP
 cases hf : cs.findIdx? (pageAt p) with
 | none =>
  rw [hf] at h
  simp -implicitDefEqProofs only [h, go_sem]
 | some i =>
  rw [hf] at h
  simp -implicitDefEqProofs only [h, go_sem]
theorem find_any (cs : List Ca) (p : Int) : decide (0 ≤ findP cs p) = cs.any (pageAt p) := by
 unfold findP
 cases h : cs.findIdx? (pageAt p) with
 | none =>
  rw [List.findIdx?_eq_none_iff] at h
  have : cs.any (pageAt p) = false := by simpa using h
  rw [this]; rfl
 | some i =>
  rw [List.findIdx?_eq_some_iff_getElem] at h
  obtain ⟨h1, h2, _⟩ := h
  have : cs.any (pageAt p) = true := List.any_eq_true.2 ⟨_, List.getElem_mem h1, h2⟩
  rw [this]
  simp
def emptyE (e : En) : Bool := decide (e.1 = -1) && !e.2.1 && !e.2.2.1 && !e.2.2.2.1
def stepT (tk : List Bool) (e : En) : Option (List Bool) := if emptyE e = true then some tk else if (frameB e.1 && !tk.getD e.1.toNat false && !(e.2.2.2.1 && !e.2.2.1)) = true then some (tk.set e.1.toNat true) else none
def walkE : List Bool → List En → Option (List Bool)
 | tk, [] => some tk
 | tk, e :: es => match stepT tk e with
  | some tk' => walkE tk' es
  | none => none
def walkT : List Bool → List (List En) → Option (List Bool)
 | tk, [] => some tk
 | tk, t :: ts => match walkE tk t with
  | some tk' => walkT tk' ts
  | none => none
theorem stepT_length {tk tk' : List Bool} {e : En} (h : stepT tk e = some tk') : tk'.length = tk.length := by
 unfold stepT at h
 split at h
 ·cases h; rfl
 ·split at h
  ·cases h; simp
  ·cases h
theorem walkE_length : ∀ {es : List En} {tk tk' : List Bool}, walkE tk es = some tk' → tk'.length = tk.length
 | [], tk, tk', h => by simp only [walkE] at h; cases h; rfl
 | e :: es, tk, tk', h => by
  simp only [walkE] at h
  split at h
  ·rename_i t1 h1
   rw [walkE_length h, stepT_length h1]
  ·cases h
theorem frame_bound {f : Int} (h : frameB f = true) : 0 ≤ f ∧ f ≤ 15 := by simpa [frameB] using h
def badE : List Bool → List En → List Bool × List AV
 | tk, [] => (tk, [])
 | tk, e :: es => match stepT tk e with
  | some tk' => badE tk' es
  | none => (tk, [I e.1, B e.2.1, B e.2.2.1, B e.2.2.2.1])
theorem loop_ent (r : List Int) (b : List Ca) (tpre tsuf : List (List En)) : ∀ (suf pre : List En) (tk : List Bool), tk.length = 16 → pre.length + suf.length = 8 → tpre.length < 1000000 →
  loopOf pr 42 1 ⟨[(0, .rp [L r, LLE (tpre ++ (pre ++ suf) :: tsuf), LC b]), (3, .os (.t 1216)), (4, I tpre.length), (5, I pre.length)], [(1216, .arr true false .bool tk)]⟩ = match walkE tk suf with
   | some tk' => some (.exit 2, ⟨[(0, .rp [L r, LLE (tpre ++ (pre ++ suf) :: tsuf), LC b]), (3, .os (.t 1216)), (4, I tpre.length), (5, I 8)], [(1216, .arr true false .bool tk')]⟩)
   | none => some (.ret, ⟨[(2, B false)], [(1216, .arr true false .bool (badE tk suf).1), (384, .box (badE tk suf).2)]⟩)
 | [], pre, tk, htk, hl, hb => by
  have hp : ((pre.length : Int) < 8) = False := fa (by simp at hl; omega)
  have he : (pre.length : Int) = 8 := by simp at hl; omega
  simp only [walkE]
  rw [loop_eq pr 42 1 _ Tryz.f42 fn_42 _ rfl _ ann_42 _ rfl]
  simp -implicitDefEqProofs only [hp, List.append_nil, he, Int.lt_irrefl, go_sem]
 | (f, w, u, d, ()) :: suf, pre, tk, htk, hl, hb => by
  simp only [List.length_cons] at hl
  have hp : ((pre.length : Int) < 8) = True := tr (by omega)
  have hw : IntKind.i64.wrap ((pre.length : Int) + 1) = ((pre.length + 1 : Nat) : Int) := by rw [wrap_i] <;> omega
  have e1 : (pre ++ [(f, w, u, d, ())]).length = pre.length + 1 := by simp
  have ih := fun tk' (ht : tk'.length = 16) => loop_ent r b tpre tsuf suf (pre ++ [(f, w, u, d, ())]) tk' ht (by simp; omega) hb
  rw [e1] at ih
  simp only [app_one] at ih
  simp only [walkE, badE]
  rw [loop_eq pr 42 1 _ Tryz.f42 fn_42 _ rfl _ ann_42 _ rfl]
  have hf := call_fr f
  by_cases f1 : f = -1
  ·subst f1
   have hn : frameB (-1) = false := rfl
   rw [hn] at hf
   cases w with
   | true =>
    have hs : stepT tk (-1, true, u, d, ()) = none := by simp [stepT, emptyE, hn]
    rw [hs]
    simp -implicitDefEqProofs only [getD_app, lt_app, ltn_app, zero_le_cast, Int.toNat_natCast, hp, hw, hf, go_sem]
   | false =>
    cases u with
    | true =>
     have hs : stepT tk (-1, false, true, d, ()) = none := by simp [stepT, emptyE, hn]
     rw [hs]
     simp -implicitDefEqProofs only [getD_app, lt_app, ltn_app, zero_le_cast, Int.toNat_natCast, hp, hw, hf, go_sem]
    | false =>
     cases d with
     | true =>
      have hs : stepT tk (-1, false, false, true, ()) = none := by simp [stepT, emptyE, hn]
      rw [hs]
      simp -implicitDefEqProofs only [getD_app, lt_app, ltn_app, zero_le_cast, Int.toNat_natCast, hp, hw, hf, go_sem]
     | false =>
      have hs : stepT tk (-1, false, false, false, ()) = some tk := by simp [stepT, emptyE]
      rw [hs]
      simp -implicitDefEqProofs only [getD_app, lt_app, ltn_app, zero_le_cast, Int.toNat_natCast, hp, hw, hf, go_sem]
      exact ih tk htk
  ·have hne : emptyE (f, w, u, d, ()) = false := by simp [emptyE, f1]
   cases hfr : frameB f with
   | false =>
    rw [hfr] at hf
    have hs : stepT tk (f, w, u, d, ()) = none := by simp [stepT, hne, hfr]
    rw [hs]
    simp -implicitDefEqProofs only [getD_app, lt_app, ltn_app, zero_le_cast, Int.toNat_natCast, hp, hw, fa f1, hf, go_sem]
   | true =>
    rw [hfr] at hf
    obtain ⟨b1, b2⟩ := frame_bound hfr
    have g1 : (0 ≤ f) = True := tr b1
    have g2 : (f < (tk.length : Int)) = True := tr (by omega)
    have g3 : (f.toNat < tk.length) = True := tr (by omega)
    cases ht : tk.getD f.toNat false with
    | true =>
     have hs : stepT tk (f, w, u, d, ()) = none := by simp only [stepT, hne, hfr, ht]; rfl
     rw [hs]
     simp -implicitDefEqProofs only [getD_app, lt_app, ltn_app, zero_le_cast, Int.toNat_natCast, hp, hw, fa f1, hf, g1, g2, g3, ht, go_sem]
    | false =>
     cases d with
     | true =>
      cases u with
      | true =>
       have hs : stepT tk (f, w, true, true, ()) = some (tk.set f.toNat true) := by simp only [stepT, hne, hfr, ht]; rfl
       rw [hs]
       simp -implicitDefEqProofs only [getD_app, lt_app, ltn_app, zero_le_cast, Int.toNat_natCast, hp, hw, fa f1, hf, g1, g2, g3, ht, go_sem]
       exact ih _ (by simp [htk])
      | false =>
       have hs : stepT tk (f, w, false, true, ()) = none := by simp only [stepT, hne, hfr, ht]; rfl
       rw [hs]
       simp -implicitDefEqProofs only [getD_app, lt_app, ltn_app, zero_le_cast, Int.toNat_natCast, hp, hw, fa f1, hf, g1, g2, g3, ht, go_sem]
     | false =>
      have hs : stepT tk (f, w, u, false, ()) = some (tk.set f.toNat true) := by simp only [stepT, hne, hfr, ht]; rfl
      rw [hs]
      simp -implicitDefEqProofs only [getD_app, lt_app, ltn_app, zero_le_cast, Int.toNat_natCast, hp, hw, fa f1, hf, g1, g2, g3, ht, go_sem]
      exact ih _ (by simp [htk])
def badT : List Bool → List (List En) → List Bool × List AV
 | tk, [] => (tk, [])
 | tk, t :: ts => match walkE tk t with
  | some tk' => badT tk' ts
  | none => badE tk t
theorem loop_tabs (r : List Int) (b : List Ca) : ∀ (suf pre : List (List En)) (tk : List Bool), tk.length = 16 → (∀ t ∈ suf, t.length = 8) → pre.length + suf.length < 1000000 →
  loopOf pr 42 0 ⟨[(0, .rp [L r, LLE (pre ++ suf), LC b]), (3, .os (.t 1216)), (4, I pre.length)], [(1216, .arr true false .bool tk)]⟩ = match walkT tk suf with
   | some tk' => some (.exit 0, ⟨[(0, .rp [L r, LLE (pre ++ suf), LC b]), (3, .os (.t 1216)), (4, I ((pre.length + suf.length : Nat) : Int))], [(1216, .arr true false .bool tk')]⟩)
   | none => some (.ret, ⟨[(2, B false)], [(1216, .arr true false .bool (badT tk suf).1), (384, .box (badT tk suf).2)]⟩)
 | [], pre, tk, htk, hl, hb => by
  simp only [walkT]
  rw [loop_eq pr 42 0 _ Tryz.f42 fn_42 _ rfl _ ann_42 _ rfl]
  simp -implicitDefEqProofs only [Int.lt_irrefl, List.append_nil, Nat.add_zero, go_sem]
 | x :: suf, pre, tk, htk, hl, hb => by
  simp only [List.length_cons] at hb
  have hw : IntKind.i64.wrap ((pre.length : Int) + 1) = ((pre.length + 1 : Nat) : Int) := by rw [wrap_i] <;> omega
  have h := loop_ent r b pre suf x [] tk htk (by simp [hl x (by simp)]) (by omega)
  simp only [List.nil_append, List.length_nil] at h
  have h : loopOf pr 42 1 ⟨[(0, .rp [L r, LLE (pre ++ x :: suf), LC b]), (3, .os (.t 1216)), (4, I pre.length), (5, I 0)], [(1216, .arr true false .bool tk)]⟩ = _ := h
  simp only [walkT, badT]
  rw [loop_eq pr 42 0 _ Tryz.f42 fn_42 _ rfl _ ann_42 _ rfl]
  cases hx : walkE tk x with
  | none =>
   rw [hx] at h
   simp -implicitDefEqProofs only [getD_app, lt_app, ltn_app, zero_le_cast, Int.toNat_natCast, h, hw, go_sem]
  | some tk' =>
   rw [hx] at h
   have ih := loop_tabs r b suf (pre ++ [x]) tk' (by rw [walkE_length hx, htk]) (fun t ht => hl t (by simp [ht])) (by simp; omega)
   have e1 : (pre ++ [x]).length = pre.length + 1 := by simp
   have e2 : pre.length + 1 + suf.length = pre.length + (x :: suf).length := by simp; omega
   rw [app_one, e1, e2] at ih
   simp -implicitDefEqProofs only [getD_app, lt_app, ltn_app, zero_le_cast, Int.toNat_natCast, h, hw, go_sem]
   exact ih
theorem badE_box : ∀ {es : List En} {tk : List Bool}, walkE tk es = none → ∃ (f : Int) (w u d : Bool), (badE tk es).2 = [I f, B w, B u, B d]
 | [], tk, h => by simp [walkE] at h
 | e :: es, tk, h => by
  simp only [walkE] at h
  simp only [badE]
  cases hs : stepT tk e with
  | none => exact ⟨_, _, _, _, rfl⟩
  | some tk' => rw [hs] at h; exact badE_box h
theorem badT_box : ∀ {ts : List (List En)} {tk : List Bool}, walkT tk ts = none → ∃ (f : Int) (w u d : Bool), (badT tk ts).2 = [I f, B w, B u, B d]
 | [], tk, h => by simp [walkT] at h
 | t :: ts, tk, h => by
  simp only [walkT] at h
  simp only [badT]
  cases hs : walkE tk t with
  | none => exact badE_box hs
  | some tk' => rw [hs] at h; exact badT_box h
def bufB : List Ca → List Ca → Bool
 | _, [] => true
 | pre, c :: cs => addrB c.1 && frameB c.2.1 && !pre.any (pageAt c.1) && bufB (pre ++ [c]) cs
theorem loop_buf (r : List Int) (t : List (List En)) : ∀ (suf pre : List Ca), pre.length + suf.length < 1000000 →
  loopOf pr 42 2 ⟨[(0, .rp [L r, LLE t, LC (pre ++ suf)]), (7, I pre.length)], []⟩ = if bufB pre suf = true then some (.exit 4, ⟨[(0, .rp [L r, LLE t, LC (pre ++ suf)]), (7, I ((pre.length + suf.length : Nat) : Int))], []⟩) else some (.ret, ⟨[(2, B false)], []⟩)
 | [], pre, hb => by
  rw [if_pos (by simp [bufB]), loop_eq pr 42 2 _ Tryz.f42 fn_42 _ rfl _ ann_42 _ rfl]
  simp -implicitDefEqProofs only [Int.lt_irrefl, List.append_nil, Nat.add_zero, go_sem]
 | (p, f, w, ()) :: suf, pre, hb => by
  simp only [List.length_cons] at hb
  have hw : IntKind.i64.wrap ((pre.length : Int) + 1) = ((pre.length + 1 : Nat) : Int) := by rw [wrap_i] <;> omega
  have ih := loop_buf r t suf (pre ++ [(p, f, w, ())]) (by simp; omega)
  have e1 : (pre ++ [(p, f, w, ())]).length = pre.length + 1 := by simp
  have e2 : pre.length + 1 + suf.length = pre.length + ((p, f, w, ()) :: suf).length := by simp; omega
  rw [app_one, e1, e2] at ih
  have ha := call_ad p
  have hf := call_fr f
  have hd := call_fd pre p (by omega)
  have hle : ((pre.length : Int) ≤ ((pre ++ (p, f, w, ()) :: suf).length : Int)) = True := tr (by simp; omega)
  have hk : bufB pre ((p, f, w, ()) :: suf) = (addrB p && frameB f && !pre.any (pageAt p) && bufB (pre ++ [(p, f, w, ())]) suf) := rfl
  rw [hk, loop_eq pr 42 2 _ Tryz.f42 fn_42 _ rfl _ ann_42 _ rfl]
  cases h1 : addrB p with
  | false =>
   rw [h1] at ha
   rw [if_neg (by simp)]
   simp -implicitDefEqProofs only [getD_app, lt_app, ltn_app, zero_le_cast, Int.toNat_natCast, hw, hle, List.take_left, ha, go_sem]
  | true =>
   rw [h1] at ha
   cases h2 : frameB f with
   | false =>
    rw [h2] at hf
    rw [if_neg (by simp)]
    simp -implicitDefEqProofs only [getD_app, lt_app, ltn_app, zero_le_cast, Int.toNat_natCast, hw, hle, List.take_left, ha, hf, go_sem]
   | true =>
    rw [h2] at hf
    have h4 := find_any pre p
    cases h3 : pre.any (pageAt p) with
    | true =>
     rw [h3] at h4
     have h5 : (findP pre p ≥ 0) = True := tr (by simpa using h4)
     rw [if_neg (by simp)]
     simp -implicitDefEqProofs only [getD_app, lt_app, ltn_app, zero_le_cast, Int.toNat_natCast, hw, hle, List.take_left, ha, hf, hd, h5, go_sem]
    | false =>
     rw [h3] at h4
     have h5 : (findP pre p ≥ 0) = False := fa (by simpa using h4)
     simp -implicitDefEqProofs only [getD_app, lt_app, ltn_app, zero_le_cast, Int.toNat_natCast, hw, hle, List.take_left, ha, hf, hd, h5, go_sem]
     exact ih
def free16 : List Bool := List.replicate 16 false
def specS (r : List Int) (t : List (List En)) (b : List Ca) : Bool := tabB r t && decide (b.length ≤ 4) && (walkT free16 t).isSome && bufB [] b
theorem tabC_len {r : List Int} : ∀ {t : List (List En)} {k : Nat}, tabC r k t = true → ∀ x ∈ t, x.length = 8
 | [], k, h, x, hx => by cases hx
 | y :: t, k, h, x, hx => by
  simp only [tabC, Bool.and_eq_true, decide_eq_true_eq] at h
  rcases List.mem_cons.1 hx with rfl | hx
  ·exact h.1.2
  ·exact tabC_len h.2 x hx
theorem tabB_spec {r : List Int} {t : List (List En)} (h : tabB r t = true) : r.length = 8 ∧ t.length ≤ 8 ∧ (∀ x ∈ t, x.length = 8) ∧ ∀ x ∈ r, -1 ≤ x ∧ x ≤ (t.length : Int) - 1 := by
 simp only [tabB, Bool.and_eq_true, decide_eq_true_eq, List.all_eq_true] at h
 obtain ⟨⟨⟨h1, h2⟩, h3⟩, h4⟩ := h
 exact ⟨h1, h2, tabC_len h3, fun x hx => by simpa [rootB] using h4 x hx⟩
theorem call_si (r : List Int) (t : List (List En)) (b : List Ca) : callOf pr 42 [.rp [L r, LLE t, LC b]] [] = some (B (specS r t b), []) := by
 have h0 := call_tb r t b
 rw [call_eq pr 42 _ _ Tryz.f42 fn_42 _ rfl _ ann_42 rfl]
 cases ht : tabB r t with
 | false =>
  rw [ht] at h0
  have hk : specS r t b = false := by simp [specS, ht]
  simp -implicitDefEqProofs only [h0, hk, go_sem]
 | true =>
  rw [ht] at h0
  obtain ⟨s1, s2, s3, s4⟩ := tabB_spec ht
  by_cases hb : b.length ≤ 4
  ·have g1 : ((b.length : Int) > 4) = False := fa (by omega)
   have h1 := loop_tabs r b t [] free16 (by simp [free16]) s3 (by simp; omega)
   simp only [List.nil_append, List.length_nil] at h1
   have h1 : loopOf pr 42 0 ⟨[(0, .rp [L r, LLE t, LC b]), (3, .os (.t 1216)), (4, I 0)], [(1216, .arr true false .bool (List.replicate 16 false))]⟩ = _ := h1
   have g0 : (((1 : Nat) : Int) * 16 ≤ 140737488355328) = True := tr (by omega)
   cases hw : walkT free16 t with
   | none =>
    obtain ⟨f, w, u, d, hbox⟩ := badT_box hw
    rw [hw] at h1
    simp only [hbox] at h1
    have hk : specS r t b = false := by simp [specS, hw]
    simp -implicitDefEqProofs only [h0, g0, g1, h1, hk, go_sem]
   | some tk =>
    rw [hw] at h1
    have h2 := loop_buf r t b [] (by simp; omega)
    simp only [List.nil_append, List.length_nil] at h2
    have h2 : loopOf pr 42 2 ⟨[(0, .rp [L r, LLE t, LC b]), (7, I 0)], []⟩ = _ := h2
    cases hd : bufB [] b with
    | false =>
     rw [hd, if_neg (by simp)] at h2
     have hk : specS r t b = false := by simp [specS, hd]
     simp -implicitDefEqProofs only [h0, g0, g1, h1, h2, hk, go_sem]
    | true =>
     rw [hd, if_pos rfl] at h2
     have hk : specS r t b = true := by simp [specS, ht, hb, hw, hd]
     simp -implicitDefEqProofs only [h0, g0, g1, h1, h2, hk, go_sem]
  ·have g1 : ((b.length : Int) > 4) = True := tr (by omega)
   have hk : specS r t b = false := by simp only [specS, decide_eq_false hb, Bool.and_false, Bool.false_and]
   simp -implicitDefEqProofs only [h0, g1, hk, go_sem]
end Go.Proofs.YtbapbghnageckaaGreat.PI
