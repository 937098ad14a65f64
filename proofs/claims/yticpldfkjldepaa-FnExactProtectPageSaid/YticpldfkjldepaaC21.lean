/- Buffers without a page. -/
import Derived.Test.YticpldfkjldepaaC18
namespace Go.Proofs.Yticpldfkjldepaa.PI
open Go Go.Q
set_option maxRecDepth 100000
set_option maxHeartbeats 4000000
set_option linter.unusedSimpArgs false
set_option linter.unusedVariables false
theorem loop_df (P : Ca → Bool) (g : Nat) (cs : List AV) (hC : Caps cs) (hg : pr.byref g = []) (hP : ∀ (q f : Int) (w : Bool), callOf pr g (.agg [I q, I f, B w] :: cs) [] = some (B (P (q, f, w, ())), [])) : ∀ (rest kept : List Ca) (junk : List Ca), junk ≠ [] → (kept ++ junk ++ rest).length < 1000000000000000000 →
    ∃ junk' : List Ca, kept.length + junk.length + rest.length = (kept ++ rest.filter fun x => !P x).length + junk'.length ∧ loopOf pr 52 0 ⟨[(0, .os (.t 1000000)), (1, .fn g cs), (5, I kept.length), (6, I ((kept.length + junk.length : Nat) : Int))], [(1000000, .arr false false tyC (kept ++ junk ++ rest))]⟩ = some (.exit 0, ⟨[(0, .os (.t 1000000)), (1, .fn g cs), (5, I ((kept ++ rest.filter fun x => !P x).length : Int)), (6, I ((kept.length + junk.length + rest.length : Nat) : Int))], [(1000000, .arr false false tyC ((kept ++ rest.filter fun x => !P x) ++ junk'))]⟩)
  | [], kept, junk, hj, hb => by
    refine ⟨junk, by simp, ?_⟩
    have hl : (kept ++ junk ++ []).length = kept.length + junk.length := by simp
    rw [loop_eq pr 52 0 _ Try.f52 fn_52 _ rfl _ ann_52 _ rfl]
    simp -implicitDefEqProofs only [Int.lt_irrefl, hl, hC.args, hC.own, hC.ow, hC.arg, hC.mapR, hC.leads, hg, go_sem, Nat.reduceAdd, Nat.reduceSub, Nat.reduceMul, Nat.reduceMod, Nat.reduceLT, Nat.reduceLeDiff, Nat.reduceEqDiff, Nat.reduceBEq, Nat.reduceDiv, Int.reduceLT, Int.reduceLE, Int.reduceToNat, Int.reduceNeg, Int.reduceEq, ↓reduceIte, reduceCtorEq, ↓reduceDIte]
    simp
  | (q0, f0, w0, ()) :: rest, kept, junk, hj, hb => by
    have hl : (kept ++ junk ++ (q0, f0, w0, ()) :: rest).length = kept.length + junk.length + (rest.length + 1) := by simp; omega
    rw [hl] at hb
    have hlt : kept.length + junk.length < (kept ++ junk ++ (q0, f0, w0, ()) :: rest).length := by rw [hl]; omega
    have hv : ∀ z : Ca, (kept ++ junk ++ (q0, f0, w0, ()) :: rest).getD (kept.length + junk.length) z = (q0, f0, w0, ()) := by intro z; rw [← List.length_append]; simp
    have hpv := hP q0 f0 w0
    have hw : IntKind.i64.wrap (((kept.length + junk.length : Nat) : Int) + 1) = ((kept.length + junk.length + 1 : Nat) : Int) := by rw [wrap_i] <;> omega
    rw [loop_eq pr 52 0 _ Try.f52 fn_52 _ rfl _ ann_52 _ rfl]
    cases hq : P (q0, f0, w0, ()) with
    | true =>
      rw [hq] at hpv
      have h1 : ((q0, f0, w0, ()) :: rest).filter (fun x => !P x) = rest.filter fun x => !P x := by simp [hq]
      obtain ⟨junk', h2, h3⟩ := loop_df P g cs hC hg hP rest kept (junk ++ [(q0, f0, w0, ())]) (by simp) (by simp; omega)
      rw [h1]
      refine ⟨junk', by rw [← h2]; simp; omega, ?_⟩
      have e1 : kept ++ (junk ++ [(q0, f0, w0, ())]) ++ rest = kept ++ junk ++ (q0, f0, w0, ()) :: rest := by simp
      have e2 : kept.length + (junk ++ [(q0, f0, w0, ())]).length = kept.length + junk.length + 1 := by simp; omega
      have e3 : kept.length + junk.length + 1 + rest.length = kept.length + junk.length + ((q0, f0, w0, ()) :: rest).length := by simp; omega
      rw [e1, e2, e3] at h3
      simp -implicitDefEqProofs only [lt_cast hlt, tr hlt, zero_le_cast, Int.toNat_natCast, hv, hw, hpv, hC.args, hC.own, hC.ow, hC.arg, hC.mapR, hC.leads, hg, go_sem, Nat.reduceAdd, Nat.reduceSub, Nat.reduceMul, Nat.reduceMod, Nat.reduceLT, Nat.reduceLeDiff, Nat.reduceEqDiff, Nat.reduceBEq, Nat.reduceDiv, Int.reduceLT, Int.reduceLE, Int.reduceToNat, Int.reduceNeg, Int.reduceEq, ↓reduceIte, reduceCtorEq, ↓reduceDIte]
      exact h3
    | false =>
      rw [hq] at hpv
      have h1 : ((q0, f0, w0, ()) :: rest).filter (fun x => !P x) = (q0, f0, w0, ()) :: rest.filter fun x => !P x := by simp [hq]
      obtain ⟨j0, junk0, hje⟩ := List.exists_cons_of_ne_nil hj
      have hjl : junk.length = junk0.length + 1 := by rw [hje]; rfl
      obtain ⟨junk', h2, h3⟩ := loop_df P g cs hC hg hP rest (kept ++ [(q0, f0, w0, ())]) (junk0 ++ [(q0, f0, w0, ())]) (by simp) (by simp; omega)
      rw [h1]
      have e0 : (kept ++ [(q0, f0, w0, ())]) ++ rest.filter (fun x => !P x) = kept ++ (q0, f0, w0, ()) :: rest.filter fun x => !P x := by simp
      rw [e0] at h2 h3
      refine ⟨junk', by rw [← h2]; simp; omega, ?_⟩
      have e1 : (kept ++ [(q0, f0, w0, ())]) ++ (junk0 ++ [(q0, f0, w0, ())]) ++ rest = kept ++ (q0, f0, w0, ()) :: junk0 ++ (q0, f0, w0, ()) :: rest := by simp
      have e2 : (kept ++ [(q0, f0, w0, ())]).length + (junk0 ++ [(q0, f0, w0, ())]).length = kept.length + junk.length + 1 := by simp; omega
      have e3 : kept.length + junk.length + 1 + rest.length = kept.length + junk.length + ((q0, f0, w0, ()) :: rest).length := by simp; omega
      have e4 : (kept ++ [(q0, f0, w0, ())]).length = kept.length + 1 := by simp
      rw [e1, e2, e3, e4] at h3
      have hlt2 : kept.length < (kept ++ junk ++ (q0, f0, w0, ()) :: rest).length := by rw [hl]; omega
      have hset : (kept ++ junk ++ (q0, f0, w0, ()) :: rest).set kept.length (q0, f0, w0, ()) = kept ++ (q0, f0, w0, ()) :: junk0 ++ (q0, f0, w0, ()) :: rest := by rw [hje]; simp
      have hw2 : IntKind.i64.wrap ((kept.length : Int) + 1) = ((kept.length + 1 : Nat) : Int) := by rw [wrap_i] <;> omega
      simp -implicitDefEqProofs only [lt_cast hlt, lt_cast hlt2, tr hlt, tr hlt2, zero_le_cast, Int.toNat_natCast, hv, hw, hw2, hpv, hset, hC.args, hC.own, hC.ow, hC.arg, hC.mapR, hC.leads, hg, go_sem, Nat.reduceAdd, Nat.reduceSub, Nat.reduceMul, Nat.reduceMod, Nat.reduceLT, Nat.reduceLeDiff, Nat.reduceEqDiff, Nat.reduceBEq, Nat.reduceDiv, Int.reduceLT, Int.reduceLE, Int.reduceToNat, Int.reduceNeg, Int.reduceEq, ↓reduceIte, reduceCtorEq, ↓reduceDIte]
      exact h3
theorem call_df (P : Ca → Bool) (g : Nat) (cs : List AV) (hC : Caps cs) (hg : pr.byref g = []) (hP : ∀ (q f : Int) (w : Bool), callOf pr g (.agg [I q, I f, B w] :: cs) [] = some (B (P (q, f, w, ())), [])) (ys : List Ca) (hb : ys.length < 2000000) :
    callOf pr 52 [.os (.t 1000000), .fn g cs] [(1000000, .arr false false tyC ys)] = if ys.any P = true then some (.sub (.t 1000000) 0 (ys.filter fun x => !P x).length, [(1000000, .arr false false tyC ((ys.filter fun x => !P x) ++ List.replicate (ys.length - (ys.filter fun x => !P x).length) (0, 0, false, ())))]) else some (.os (.t 1000000), [(1000000, .arr false false tyC ys)]) := by
  have h79 := call_ixc g cs hC hg P hP ys hb
  rw [call_eq pr 52 _ _ Try.f52 fn_52 _ rfl _ ann_52 rfl]
  cases hf : ys.findIdx? P with
  | none =>
    rw [hf] at h79
    have hany : ys.any P = false := by
      rw [List.findIdx?_eq_none_iff] at hf
      simpa using hf
    simp -implicitDefEqProofs only [h79, hany, hC.args, hC.own, hC.ow, hC.arg, hC.mapR, hC.leads, hg, go_sem, Nat.reduceAdd, Nat.reduceSub, Nat.reduceMul, Nat.reduceMod, Nat.reduceLT, Nat.reduceLeDiff, Nat.reduceEqDiff, Nat.reduceBEq, Nat.reduceDiv, Int.reduceLT, Int.reduceLE, Int.reduceToNat, Int.reduceNeg, Int.reduceEq, ↓reduceIte, reduceCtorEq, ↓reduceDIte]
  | some i =>
    rw [hf] at h79
    rw [List.findIdx?_eq_some_iff_getElem] at hf
    obtain ⟨h1, h2, h3⟩ := hf
    have hany : ys.any P = true := List.any_eq_true.2 ⟨_, List.getElem_mem h1, h2⟩
    have hsplit : ys = ys.take i ++ [ys[i]] ++ ys.drop (i + 1) := by
      rw [List.append_assoc, List.singleton_append, ← List.drop_eq_getElem_cons h1, List.take_append_drop]
    have hpre : (ys.take i).filter (fun x => !P x) = ys.take i := by
      rw [List.filter_eq_self]
      intro x hx
      obtain ⟨j, hj, rfl⟩ := List.getElem_of_mem hx
      have hj' : j < i := by simp at hj; omega
      have := h3 j hj'
      simp only [List.getElem_take]
      simpa using this
    have hfil : ys.filter (fun x => !P x) = ys.take i ++ (ys.drop (i + 1)).filter fun x => !P x := by
      conv => lhs; rw [hsplit]
      rw [List.filter_append, List.filter_append, hpre]
      simp [h2]
    obtain ⟨junk', h4, h5⟩ := loop_df P g cs hC hg hP (ys.drop (i + 1)) (ys.take i) [ys[i]] (by simp) (by rw [← hsplit]; omega)
    rw [← hsplit, ← hfil] at h5
    have e1 : (ys.take i).length = i := by simp; omega
    have e2 : (ys.take i).length + [ys[i]].length + (ys.drop (i + 1)).length = ys.length := by simp; omega
    rw [e2] at h4 h5
    rw [e1] at h5
    simp only [List.length_singleton] at h5
    rw [← hfil] at h4
    have hw : IntKind.i64.wrap ((i : Int) + 1) = ((i + 1 : Nat) : Int) := by rw [wrap_i] <;> omega
    have hne : ((i : Int) = -1) = False := fa (by omega)
    have hle : ((ys.filter fun x => !P x).length : Int) ≤ ((ys.filter fun x => !P x) ++ junk').length := by rw [List.length_append]; omega
    have hcp := copyIn_tail (ys.filter fun x => !P x) junk' ((0, 0, false, ()) : Ca)
    have hj : junk'.length = ys.length - (ys.filter fun x => !P x).length := by omega
    have hle2 : ((ys.filter fun x => !P x).length : Int) ≤ ((ys.filter fun x => !P x) ++ List.replicate junk'.length ((0, 0, false, ()) : Ca)).length := by rw [List.length_append]; omega
    rw [hj] at hle2
    simp -implicitDefEqProofs only [h79, hany, hC.args, hC.own, hC.ow, hC.arg, hC.mapR, hC.leads, hg, hne, hw, h5, zero_le_cast, tr hle, Int.le_refl, Int.toNat_natCast, hcp, tr hle2, Nat.sub_zero, hj, go_sem, Nat.reduceAdd, Nat.reduceSub, Nat.reduceMul, Nat.reduceMod, Nat.reduceLT, Nat.reduceLeDiff, Nat.reduceEqDiff, Nat.reduceBEq, Nat.reduceDiv, Int.reduceLT, Int.reduceLE, Int.reduceToNat, Int.reduceNeg, Int.reduceEq, ↓reduceIte, reduceCtorEq, ↓reduceDIte]
theorem call_df0 (g : Nat) (cs : List AV) (hC : Caps cs) (hg : pr.byref g = []) : callOf pr 52 [.empS, .fn g cs] [] = some (.empS, []) := by
  have h0 : loopOf pr 98 0 ⟨[(0, .empS), (1, .fn g cs), (7, I 0), (8, I 0)], []⟩ = some (.exit 0, ⟨[(0, .empS), (1, .fn g cs), (7, I 0), (8, I 0)], []⟩) := by
    rw [loop_eq pr 98 0 _ Try.f98 fn_98 _ rfl _ ann_98 _ rfl]
    simp -implicitDefEqProofs only [Int.lt_irrefl, go_sem, Nat.reduceAdd, Nat.reduceSub, Nat.reduceMul, Nat.reduceMod, Nat.reduceLT, Nat.reduceLeDiff, Nat.reduceEqDiff, Nat.reduceBEq, Nat.reduceDiv, Int.reduceLT, Int.reduceLE, Int.reduceToNat, Int.reduceNeg, Int.reduceEq, ↓reduceIte, reduceCtorEq, ↓reduceDIte]
  have h : callOf pr 98 [.empS, .fn g cs] [] = some (I (-1), []) := by
    rw [call_eq pr 98 _ _ Try.f98 fn_98 _ rfl _ ann_98 rfl]
    simp -implicitDefEqProofs only [h0, go_sem, Nat.reduceAdd, Nat.reduceSub, Nat.reduceMul, Nat.reduceMod, Nat.reduceLT, Nat.reduceLeDiff, Nat.reduceEqDiff, Nat.reduceBEq, Nat.reduceDiv, Int.reduceLT, Int.reduceLE, Int.reduceToNat, Int.reduceNeg, Int.reduceEq, ↓reduceIte, reduceCtorEq, ↓reduceDIte]
  rw [call_eq pr 52 _ _ Try.f52 fn_52 _ rfl _ ann_52 rfl]
  simp -implicitDefEqProofs only [h, hC.args, hC.own, hC.ow, hC.arg, hC.mapR, hC.leads, hg, go_sem, Nat.reduceAdd, Nat.reduceSub, Nat.reduceMul, Nat.reduceMod, Nat.reduceLT, Nat.reduceLeDiff, Nat.reduceEqDiff, Nat.reduceBEq, Nat.reduceDiv, Int.reduceLT, Int.reduceLE, Int.reduceToNat, Int.reduceNeg, Int.reduceEq, ↓reduceIte, reduceCtorEq, ↓reduceDIte]
theorem call_f1 (p q f : Int) (w : Bool) : callOf pr 53 [.agg [I q, I f, B w], .rp [I p]] [] = some (B (pageAt p (q, f, w, ())), []) := by
  rw [call_eq pr 53 _ _ Try.f53 fn_53 _ rfl _ ann_53 rfl]
  simp -implicitDefEqProofs only [go_sem, Nat.reduceAdd, Nat.reduceSub, Nat.reduceMul, Nat.reduceMod, Nat.reduceLT, Nat.reduceLeDiff, Nat.reduceEqDiff, Nat.reduceBEq, Nat.reduceDiv, Int.reduceLT, Int.reduceLE, Int.reduceToNat, Int.reduceNeg, Int.reduceEq, ↓reduceIte, reduceCtorEq, ↓reduceDIte]
  rfl
/-! the reference -/
theorem loop_fl (p : Int) : ∀ (suf pre kept : List Ca), pre.length + suf.length < 2000000 → kept.length ≤ pre.length →
    loopOf pr 50 0 ⟨[(0, LC (pre ++ suf)), (1, I p), (5, .os (.t 448)), (6, I pre.length)], [(448, .arr true false tyC kept)]⟩ = some (.exit 0, ⟨[(0, LC (pre ++ suf)), (1, I p), (5, .os (.t 448)), (6, I ((pre.length + suf.length : Nat) : Int))], [(448, .arr true false tyC (kept ++ suf.filter fun x => !pageAt p x))]⟩)
  | [], pre, kept, hb, hk => by
    rw [loop_eq pr 50 0 _ Try.f50 fn_50 _ rfl _ ann_50 _ rfl]
    simp -implicitDefEqProofs only [Int.lt_irrefl, List.append_nil, Nat.add_zero, List.filter_nil, List.length_nil, go_sem, Nat.reduceAdd, Nat.reduceSub, Nat.reduceMul, Nat.reduceMod, Nat.reduceLT, Nat.reduceLeDiff, Nat.reduceEqDiff, Nat.reduceBEq, Nat.reduceDiv, Int.reduceLT, Int.reduceLE, Int.reduceToNat, Int.reduceNeg, Int.reduceEq, ↓reduceIte, reduceCtorEq, ↓reduceDIte]
  | (q, f, w, ()) :: suf, pre, kept, hb, hk => by
    simp only [List.length_cons] at hb
    have hw : IntKind.i64.wrap ((pre.length : Int) + 1) = ((pre.length + 1 : Nat) : Int) := by rw [wrap_i] <;> omega
    have e1 : (pre ++ [(q, f, w, ())]).length = pre.length + 1 := by simp
    have e2 : pre.length + 1 + suf.length = pre.length + (suf.length + 1) := by omega
    have ih := fun k hk => loop_fl p suf (pre ++ [(q, f, w, ())]) k (by simp; omega) hk
    simp only [e1, e2, app_one] at ih
    rw [loop_eq pr 50 0 _ Try.f50 fn_50 _ rfl _ ann_50 _ rfl]
    by_cases hq : q = p
    · have h1 : ((q, f, w, ()) :: suf).filter (fun x => !pageAt p x) = suf.filter fun x => !pageAt p x := by simp [pageAt, hq]
      rw [h1]
      subst hq
      simp -implicitDefEqProofs only [getD_app, lt_app, ltn_app, zero_le_cast, Int.toNat_natCast, hw, bne_self_eq_false, beq_self_eq_true, List.length_cons, go_sem, Nat.reduceAdd, Nat.reduceSub, Nat.reduceMul, Nat.reduceMod, Nat.reduceLT, Nat.reduceLeDiff, Nat.reduceEqDiff, Nat.reduceBEq, Nat.reduceDiv, Int.reduceLT, Int.reduceLE, Int.reduceToNat, Int.reduceNeg, Int.reduceEq, ↓reduceIte, reduceCtorEq, ↓reduceDIte]
      exact ih kept (by omega)
    · have h1 : ((q, f, w, ()) :: suf).filter (fun x => !pageAt p x) = (q, f, w, ()) :: suf.filter fun x => !pageAt p x := by simp [pageAt, hq]
      have hroom : ((kept.length + 1) * 24 ≤ 140737488355328 ∧ kept.length ≤ 9223372036854775806) = True := tr (by omega)
      have hne : (q != p) = true := by simp [hq]
      have hne2 : (q == p) = false := by simp [hq]
      rw [h1]
      simp -implicitDefEqProofs only [getD_app, lt_app, ltn_app, zero_le_cast, Int.toNat_natCast, hw, fa hq, hne, hne2, hroom, List.length_cons, go_sem, Nat.reduceAdd, Nat.reduceSub, Nat.reduceMul, Nat.reduceMod, Nat.reduceLT, Nat.reduceLeDiff, Nat.reduceEqDiff, Nat.reduceBEq, Nat.reduceDiv, Int.reduceLT, Int.reduceLE, Int.reduceToNat, Int.reduceNeg, Int.reduceEq, ↓reduceIte, reduceCtorEq, ↓reduceDIte]
      have := ih (kept ++ [(q, f, w, ())]) (by simp; omega)
      rw [app_one] at this
      exact this
theorem call_fl (p : Int) (b : List Ca) (hb : b.length < 2000000) : callOf pr 50 [LC b, I p] [] = some (.os (.t 448), [(448, .arr true false tyC (b.filter fun x => !pageAt p x))]) := by
  have h := loop_fl p b [] [] (by simpa using hb) (by simp)
  simp only [List.nil_append, List.length_nil, Nat.zero_add] at h
  have h : loopOf pr 50 0 ⟨[(0, LC b), (1, I p), (5, .os (.t 448)), (6, I 0)], [(448, .arr true false tyC [])]⟩ = _ := h
  rw [call_eq pr 50 _ _ Try.f50 fn_50 _ rfl _ ann_50 rfl]
  simp -implicitDefEqProofs only [h, go_sem, Nat.reduceAdd, Nat.reduceSub, Nat.reduceMul, Nat.reduceMod, Nat.reduceLT, Nat.reduceLeDiff, Nat.reduceEqDiff, Nat.reduceBEq, Nat.reduceDiv, Int.reduceLT, Int.reduceLE, Int.reduceToNat, Int.reduceNeg, Int.reduceEq, ↓reduceIte, reduceCtorEq, ↓reduceDIte]
def outB (p : Int) (b : List Ca) : List Ca := b.filter fun x => !pageAt p x
theorem outB_le (p : Int) (b : List Ca) : (outB p b).length ≤ b.length := List.length_filter_le _ _
theorem call_ip (r : List Int) (t : List (List En)) (b : List Ca) (p : Int) (hr : r.length < 2000000) (ht : t.length < 2000000) (hx : ∀ x ∈ t, x.length < 2000000) (hb : b.length < 2000000) : callOf pr 51 [.agg [L r, LLE t, LC b], I p] [] = some (B (specS r t b && addrB p), []) := by
  have h1 := call_vs r t b hr ht hx hb
  rw [← space_eq] at h1
  have h2 := call_ia p
  rw [call_eq pr 51 _ _ Try.f51 fn_51 _ rfl _ ann_51 rfl]
  cases hs : specS r t b with
  | false =>
    rw [hs] at h1
    simp -implicitDefEqProofs only [h1, go_sem, Nat.reduceAdd, Nat.reduceSub, Nat.reduceMul, Nat.reduceMod, Nat.reduceLT, Nat.reduceLeDiff, Nat.reduceEqDiff, Nat.reduceBEq, Nat.reduceDiv, Int.reduceLT, Int.reduceLE, Int.reduceToNat, Int.reduceNeg, Int.reduceEq, ↓reduceIte, reduceCtorEq, ↓reduceDIte]
  | true =>
    rw [hs] at h1
    simp -implicitDefEqProofs only [h1, h2, go_sem, Nat.reduceAdd, Nat.reduceSub, Nat.reduceMul, Nat.reduceMod, Nat.reduceLT, Nat.reduceLeDiff, Nat.reduceEqDiff, Nat.reduceBEq, Nat.reduceDiv, Int.reduceLT, Int.reduceLE, Int.reduceToNat, Int.reduceNeg, Int.reduceEq, ↓reduceIte, reduceCtorEq, ↓reduceDIte]
theorem call_sfp (r : List Int) (t : List (List En)) (b : List Ca) (p : Int) (hb : b.length < 2000000) : callOf pr 18 [.agg [L r, LLE t, LC b], I p] [] = if (specS r t b && addrB p) = true then some (.tuple [.agg [.os (.t 960), .os (.t 962), .os (.t 1216)], B true], [(960, .arr true false (.int .i64) r), (962, .arr true true (.slice tyE) t), (1216, .arr true false tyC (outB p b))]) else some (.tuple [.agg [.nilS, .nilS, .nilS], B false], []) := by
  have h1 := call_si r t b
  have h3 := call_ad p
  have h4 := call_fl p b hb
  rw [call_eq pr 18 _ _ Try.f18 fn_18 _ rfl _ ann_18 rfl]
  cases hs : specS r t b with
  | true =>
    rw [hs] at h1
    obtain ⟨s1, s2, s3, s4, s5⟩ := spec_tab hs
    have h2 := call_so r t b (by omega) (by omega) (fun x hx' => by rw [s3 x hx']; omega) hb
    cases ha : addrB p with
    | true =>
      rw [ha] at h3
      rw [show (true && true) = true from rfl, if_pos rfl]
      simp -implicitDefEqProofs only [h1, h2, h3, h4, go_sem, Nat.reduceAdd, Nat.reduceSub, Nat.reduceMul, Nat.reduceMod, Nat.reduceLT, Nat.reduceLeDiff, Nat.reduceEqDiff, Nat.reduceBEq, Nat.reduceDiv, Int.reduceLT, Int.reduceLE, Int.reduceToNat, Int.reduceNeg, Int.reduceEq, ↓reduceIte, reduceCtorEq, ↓reduceDIte]
      rfl
    | false =>
      rw [ha] at h3
      rw [show (true && false) = false from rfl, if_neg (by simp)]
      simp -implicitDefEqProofs only [h1, h3, go_sem, Nat.reduceAdd, Nat.reduceSub, Nat.reduceMul, Nat.reduceMod, Nat.reduceLT, Nat.reduceLeDiff, Nat.reduceEqDiff, Nat.reduceBEq, Nat.reduceDiv, Int.reduceLT, Int.reduceLE, Int.reduceToNat, Int.reduceNeg, Int.reduceEq, ↓reduceIte, reduceCtorEq, ↓reduceDIte]
  | false =>
    rw [hs] at h1
    rw [Bool.false_and, if_neg (by simp)]
    simp -implicitDefEqProofs only [h1, go_sem, Nat.reduceAdd, Nat.reduceSub, Nat.reduceMul, Nat.reduceMod, Nat.reduceLT, Nat.reduceLeDiff, Nat.reduceEqDiff, Nat.reduceBEq, Nat.reduceDiv, Int.reduceLT, Int.reduceLE, Int.reduceToNat, Int.reduceNeg, Int.reduceEq, ↓reduceIte, reduceCtorEq, ↓reduceDIte]
theorem outB_none {p : Int} {b : List Ca} (h : (b.any (pageAt p)) = false) : outB p b = b := by
  simp only [outB, List.filter_eq_self]
  intro x hx
  rw [List.any_eq_false] at h
  simpa using h x hx
theorem cut_ok {p : Int} {b : List Ca} (ha : b.any (pageAt p) = true) : 0 + (b.filter fun x => !pageAt p x).length ≤ ((b.filter fun x => !pageAt p x) ++ List.replicate (b.length - (b.filter fun x => !pageAt p x).length) ((0, 0, false, ()) : Ca)).length ∧ 0 < ((b.filter fun x => !pageAt p x) ++ List.replicate (b.length - (b.filter fun x => !pageAt p x).length) ((0, 0, false, ()) : Ca)).length := by
  have h := outB_le p b
  simp only [outB] at h
  have h0 : 0 < b.length := by
    rw [List.any_eq_true] at ha
    obtain ⟨x, hx, _⟩ := ha
    exact List.length_pos_of_mem hx
  rw [List.length_append, List.length_replicate]
  omega
theorem call_ifp (r : List Int) (t : List (List En)) (b : List Ca) (p : Int) (hr : r.length < 2000000) (ht : t.length < 2000000) (hx : ∀ x ∈ t, x.length < 2000000) (hb : b.length < 2000000) : if (specS r t b && addrB p) = true then
      (t = [] ∧ outB p b = [] ∧ callOf pr 19 [.agg [L r, LLE t, LC b], I p] [] = some (.tuple [.agg [.os (.t 832), .nilS, .empS], B true], [(832, .arr true false (.int .i64) r)])) ∨
      (t = [] ∧ callOf pr 19 [.agg [L r, LLE t, LC b], I p] [] = some (.tuple [.agg [.os (.t 832), .nilS, .os (.t 833)], B true], [(832, .arr true false (.int .i64) r), (833, .arr true false tyC (outB p b))])) ∨
      (outB p b = [] ∧ callOf pr 19 [.agg [L r, LLE t, LC b], I p] [] = some (.tuple [.agg [.os (.t 832), .os (.t 833), .empS], B true], [(832, .arr true false (.int .i64) r), (833, .arr true true (.slice tyE) t)])) ∨
      (callOf pr 19 [.agg [L r, LLE t, LC b], I p] [] = some (.tuple [.agg [.os (.t 832), .os (.t 834), .os (.t 833)], B true], [(832, .arr true false (.int .i64) r), (833, .arr true false tyC (outB p b)), (834, .arr true true (.slice tyE) t)]))
    else callOf pr 19 [.agg [L r, LLE t, LC b], I p] [] = some (.tuple [.agg [.nilS, .nilS, .nilS], B false], []) := by
  have h1 := call_ip r t b p hr ht hx hb
  cases hs : (specS r t b && addrB p) with
  | false =>
    rw [hs] at h1
    rw [if_neg (by simp)]
    rw [call_eq pr 19 _ _ Try.f19 fn_19 _ rfl _ ann_19 rfl]
    simp -implicitDefEqProofs only [h1, go_sem, Nat.reduceAdd, Nat.reduceSub, Nat.reduceMul, Nat.reduceMod, Nat.reduceLT, Nat.reduceLeDiff, Nat.reduceEqDiff, Nat.reduceBEq, Nat.reduceDiv, Int.reduceLT, Int.reduceLE, Int.reduceToNat, Int.reduceNeg, Int.reduceEq, ↓reduceIte, reduceCtorEq, ↓reduceDIte]
  | true =>
    rw [hs] at h1
    rw [if_pos rfl]
    rw [Bool.and_eq_true] at hs
    obtain ⟨s1, s2, s3, s4, s5⟩ := spec_tab hs.1
    have h3 := call_df (pageAt p) 53 [.rp [I p]] ⟨rfl, of_decide_eq_true rfl⟩ rfl (fun q f w => call_f1 p q f w) b hb
    have h4 := call_df0 53 [.rp [I p]] ⟨rfl, of_decide_eq_true rfl⟩ rfl
    rcases clone4 r t b s1 hb (by omega) s3 with ⟨rfl, rfl, h2⟩ | ⟨rfl, h2⟩ | ⟨rfl, ht0, h2⟩ | ⟨ht0, h2⟩
    · refine .inl ⟨rfl, rfl, ?_⟩
      rw [call_eq pr 19 _ _ Try.f19 fn_19 _ rfl _ ann_19 rfl]
      simp -implicitDefEqProofs only [h1, h2, h4, go_sem, Nat.reduceAdd, Nat.reduceSub, Nat.reduceMul, Nat.reduceMod, Nat.reduceLT, Nat.reduceLeDiff, Nat.reduceEqDiff, Nat.reduceBEq, Nat.reduceDiv, Int.reduceLT, Int.reduceLE, Int.reduceToNat, Int.reduceNeg, Int.reduceEq, ↓reduceIte, reduceCtorEq, ↓reduceDIte]
    · refine (.inr (.inl ⟨rfl, ?_⟩))
      cases ha : b.any (pageAt p) with
      | false =>
        rw [ha, if_neg (by simp)] at h3
        rw [outB_none ha, call_eq pr 19 _ _ Try.f19 fn_19 _ rfl _ ann_19 rfl]
        simp -implicitDefEqProofs only [h1, h2, h3, go_sem, Nat.reduceAdd, Nat.reduceSub, Nat.reduceMul, Nat.reduceMod, Nat.reduceLT, Nat.reduceLeDiff, Nat.reduceEqDiff, Nat.reduceBEq, Nat.reduceDiv, Int.reduceLT, Int.reduceLE, Int.reduceToNat, Int.reduceNeg, Int.reduceEq, ↓reduceIte, reduceCtorEq, ↓reduceDIte]
      | true =>
        rw [ha, if_pos rfl] at h3
        obtain ⟨n1, n2⟩ := cut_ok ha
        rw [call_eq pr 19 _ _ Try.f19 fn_19 _ rfl _ ann_19 rfl]
        simp -implicitDefEqProofs only [h1, h2, h3, tr n1, tr n2, List.take_left, go_sem, Nat.reduceAdd, Nat.reduceSub, Nat.reduceMul, Nat.reduceMod, Nat.reduceLT, Nat.reduceLeDiff, Nat.reduceEqDiff, Nat.reduceBEq, Nat.reduceDiv, Int.reduceLT, Int.reduceLE, Int.reduceToNat, Int.reduceNeg, Int.reduceEq, ↓reduceIte, reduceCtorEq, ↓reduceDIte]
        rfl
    · refine .inr (.inr (.inl ⟨rfl, ?_⟩))
      rw [call_eq pr 19 _ _ Try.f19 fn_19 _ rfl _ ann_19 rfl]
      simp -implicitDefEqProofs only [h1, h2, h4, go_sem, Nat.reduceAdd, Nat.reduceSub, Nat.reduceMul, Nat.reduceMod, Nat.reduceLT, Nat.reduceLeDiff, Nat.reduceEqDiff, Nat.reduceBEq, Nat.reduceDiv, Int.reduceLT, Int.reduceLE, Int.reduceToNat, Int.reduceNeg, Int.reduceEq, ↓reduceIte, reduceCtorEq, ↓reduceDIte]
    · refine (.inr (.inr (.inr ?_)))
      cases ha : b.any (pageAt p) with
      | false =>
        rw [ha, if_neg (by simp)] at h3
        rw [outB_none ha, call_eq pr 19 _ _ Try.f19 fn_19 _ rfl _ ann_19 rfl]
        simp -implicitDefEqProofs only [h1, h2, h3, go_sem, Nat.reduceAdd, Nat.reduceSub, Nat.reduceMul, Nat.reduceMod, Nat.reduceLT, Nat.reduceLeDiff, Nat.reduceEqDiff, Nat.reduceBEq, Nat.reduceDiv, Int.reduceLT, Int.reduceLE, Int.reduceToNat, Int.reduceNeg, Int.reduceEq, ↓reduceIte, reduceCtorEq, ↓reduceDIte]
      | true =>
        rw [ha, if_pos rfl] at h3
        obtain ⟨n1, n2⟩ := cut_ok ha
        rw [call_eq pr 19 _ _ Try.f19 fn_19 _ rfl _ ann_19 rfl]
        simp -implicitDefEqProofs only [h1, h2, h3, tr n1, tr n2, List.take_left, go_sem, Nat.reduceAdd, Nat.reduceSub, Nat.reduceMul, Nat.reduceMod, Nat.reduceLT, Nat.reduceLeDiff, Nat.reduceEqDiff, Nat.reduceBEq, Nat.reduceDiv, Int.reduceLT, Int.reduceLE, Int.reduceToNat, Int.reduceNeg, Int.reduceEq, ↓reduceIte, reduceCtorEq, ↓reduceDIte]
        rfl
theorem flush_sizes {r : List Int} {t : List (List En)} {b : List Ca} {p : Int} (hs : (specS r t b && addrB p) = true) : r.length ≤ 100 ∧ t.length ≤ 100 ∧ (∀ x ∈ t, x.length ≤ 100) ∧ (outB p b).length ≤ 100 := by
  rw [Bool.and_eq_true] at hs
  obtain ⟨s1, s2, s3, s4, s5⟩ := spec_tab hs.1
  have := outB_le p b
  exact ⟨by omega, by omega, fun x hx => by rw [s3 x hx]; omega, by omega⟩
end Go.Proofs.Yticpldfkjldepaa.PI
