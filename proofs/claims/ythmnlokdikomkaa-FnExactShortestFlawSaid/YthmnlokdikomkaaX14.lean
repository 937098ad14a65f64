/- The shortest flaw: the program's and the paths. -/
import Derived.Test.YthmnlokdikomkaaX9
namespace Go.Proofs.Ythmnlokdikomkaa.PI
open Go Go.Q
set_option maxRecDepth 100000
set_option maxHeartbeats 8000000
set_option linter.unusedSimpArgs false
set_option linter.unusedVariables false
theorem paths_at : ∀ (ns : List Nd), (∀ j (h : j < ns.length), (ns[j]).2.1 < j) → ∀ j (h : j < ns.length), (pathsOf ns).getD j [] = if (ns[j]).2.1 < 0 then [] else (pathsOf ns).getD (ns[j]).2.1.toNat [] ++ [(ns[j]).2.2.1] := by
  intro ns
  induction ns using snoc_ind with
  | h0 => intro _ j h; simp at h
  | h1 l x ih =>
    intro hp j h
    have hl := pathsOf_length l
    have ih := ih (fun j h => by
      have := hp j (by simp; omega)
      rw [List.getElem_append_left h] at this
      exact this)
    have e := pathsOf_snoc l x
    have hj : j < l.length + 1 := by simpa using h
    have get : ∀ k, k < l.length → (pathsOf (l ++ [x])).getD k [] = (pathsOf l).getD k [] := by
      intro k hk
      rw [e, getD_of_lt (by simp; omega), getD_of_lt (by omega), List.getElem_append_left]
    by_cases h2 : j < l.length
    · have hpj := hp j h
      rw [List.getElem_append_left h2] at hpj
      rw [List.getElem_append_left h2, get j h2, ih j h2]
      split
      · rfl
      · rename_i h0
        rw [get _ (by omega)]
    · have hjl : j = l.length := by omega
      subst hjl
      have hx : (l ++ [x])[l.length]'h = x := by simp
      have hpx := hp l.length h
      rw [hx] at hpx ⊢
      have e3 : (pathsOf (l ++ [x])).getD l.length [] = pth (pathsOf l) x := by
        rw [e, getD_of_lt (by simp; omega), List.getElem_append_right (by omega)]
        simp [hl]
      rw [e3]
      unfold pth
      split
      · rfl
      · rw [get _ (by omega)]
/-- The ops of the flaw that is found. -/
theorem flo_cons (pa pb pv pd pe : List Ru) (hP : protB pa pb pv pd pe = true) (n : Nat) (hn : 1 ≤ n ∧ n ≤ 3) {fp : List Od} (h : flo (found (nextF pa pb pv pd pe) n) = some fp) : ∃ x fs, fp = x :: fs ∧ fp.length ≤ 1024 := by
  have hi := found_inv pa pb pv pd pe hP n hn
  have hle := hi.le hn.2
  generalize found (nextF pa pb pv pd pe) n = st at *
  obtain ⟨ns, la⟩ := st
  cases la with
  | none => simp [flo] at h
  | some nd =>
    obtain ⟨l1, l2⟩ := hi.last nd rfl
    simp only [flo, Option.map_some, Option.some.injEq, pth] at h
    rw [if_neg (by omega)] at h
    simp only at hle l2
    have hlt : nd.2.1.toNat < (pathsOf ns).length := by rw [pathsOf_length]; omega
    have hpl := paths_le ns hi.par nd.2.1.toNat hlt
    rw [getD_of_lt hlt] at h
    cases fp with
    | nil => simp at h
    | cons x fs =>
      refine ⟨x, fs, rfl, ?_⟩
      rw [← h, List.length_append, List.length_cons, List.length_nil]
      omega
theorem call_sfi (pa pb pv pd pe : List Ru) (n : Int) : callOf pr 15 [pA pa pb pv pd pe, I n] [] = if icB pa pb pv pd pe n = true then (match flo (found (nextF pa pb pv pd pe) n.toNat) with | none => some (.tuple [.nilS, B false], []) | some fp => some (.tuple [.os (.t 961), B true], [(961, .arr true false tyO fp)])) else some (.tuple [.nilS, B false], []) := by
  have c1 := call_ic pa pb pv pd pe n
  rw [call_eq pr 15 _ _ Try.f15 fn_15 _ rfl _ ann_15 rfl]
  cases hc : icB pa pb pv pd pe n with
  | false =>
    rw [hc] at c1
    simp -implicitDefEqProofs only [c1, go_sem, Nat.reduceAdd, Nat.reduceSub, Nat.reduceMul, Nat.reduceMod, Nat.reduceLT, Nat.reduceLeDiff, Nat.reduceEqDiff, Nat.reduceBEq, Nat.reduceDiv, Int.reduceLT, Int.reduceLE, Int.reduceToNat, Int.reduceNeg, Int.reduceEq, ↓reduceIte, reduceCtorEq, ↓reduceDIte]
  | true =>
    rw [hc] at c1
    obtain ⟨hP, m, rfl, hm⟩ := icB_of hc
    have h := call_ex pa pb pv pd pe hP m hm
    rw [Int.toNat_natCast]
    have hfc := fun fp => flo_cons pa pb pv pd pe hP m hm (fp := fp)
    generalize flo (found (nextF pa pb pv pd pe) m) = fo at *
    cases fo with
    | none =>
      simp only [flV, flH] at h
      simp -implicitDefEqProofs only [c1, h, go_sem, Nat.reduceAdd, Nat.reduceSub, Nat.reduceMul, Nat.reduceMod, Nat.reduceLT, Nat.reduceLeDiff, Nat.reduceEqDiff, Nat.reduceBEq, Nat.reduceDiv, Int.reduceLT, Int.reduceLE, Int.reduceToNat, Int.reduceNeg, Int.reduceEq, ↓reduceIte, reduceCtorEq, ↓reduceDIte]
    | some fp =>
      obtain ⟨x, fs, rfl, _⟩ := hfc fp rfl
      simp only [flV, flH] at h
      simp -implicitDefEqProofs only [c1, h, List.length_cons, go_sem, Nat.reduceAdd, Nat.reduceSub, Nat.reduceMul, Nat.reduceMod, Nat.reduceLT, Nat.reduceLeDiff, Nat.reduceEqDiff, Nat.reduceBEq, Nat.reduceDiv, Int.reduceLT, Int.reduceLE, Int.reduceToNat, Int.reduceNeg, Int.reduceEq, ↓reduceIte, reduceCtorEq, ↓reduceDIte]
abbrev SF (d : Bool) (ns : List Nd) (id : Nat) (xs : List Od) (j : Int) : St :=
  ⟨[(6, .os (.t 1216)), (8, .os (.t id)), (9, I j)], [(1216, .arr true d tN ns), (id, .arr true false tyO xs)]⟩
theorem sf_step (d : Bool) (ns : List Nd) (j : Nat) (hj : j < ns.length) (cs : List Int) (fs : List Bool) (m : Bool) (fr ok oc : Int) (hg : ∀ z, ns.getD j z = ((cs, fs, m, ()), fr, (ok, oc, ()), ())) (h0 : 0 ≤ fr) (xs : List Od) (hx : xs.length < 5000) :
    loopOf pr 38 0 (SF d ns 512 xs j) = loopOf pr 38 0 (SF d ns 512 ((ok, oc, ()) :: xs) fr) := by
  have hr : ((1 + xs.length) * 16 ≤ 140737488355328 ∧ 1 + xs.length ≤ 9223372036854775807) = True := tr ⟨by omega, by omega⟩
  rw [loop_eq pr 38 0 _ Try.f38 fn_38 _ rfl _ ann_38 _ rfl]
  cases d <;> simp -implicitDefEqProofs only [lt_cast hj, tr hj, zero_le_cast, Int.toNat_natCast, hg, tr h0, ge_iff_le, hr, go_sem, Nat.reduceAdd, Nat.reduceSub, Nat.reduceMul, Nat.reduceMod, Nat.reduceLT, Nat.reduceLeDiff, Nat.reduceEqDiff, Nat.reduceBEq, Nat.reduceDiv, Int.reduceLT, Int.reduceLE, Int.reduceToNat, Int.reduceNeg, Int.reduceEq, ↓reduceIte, reduceCtorEq, ↓reduceDIte]
theorem sf_step0 (d : Bool) (ns : List Nd) (j : Nat) (hj : j < ns.length) (cs : List Int) (fs : List Bool) (m : Bool) (fr ok oc : Int) (hg : ∀ z, ns.getD j z = ((cs, fs, m, ()), fr, (ok, oc, ()), ())) (h0 : 0 ≤ fr) :
    loopOf pr 38 0 (SF d ns 1536 [] j) = loopOf pr 38 0 (SF d ns 512 [(ok, oc, ())] fr) := by
  rw [loop_eq pr 38 0 _ Try.f38 fn_38 _ rfl _ ann_38 _ rfl]
  cases d <;> simp -implicitDefEqProofs only [lt_cast hj, tr hj, zero_le_cast, Int.toNat_natCast, hg, tr h0, ge_iff_le, List.length_nil, go_sem, Nat.reduceAdd, Nat.reduceSub, Nat.reduceMul, Nat.reduceMod, Nat.reduceLT, Nat.reduceLeDiff, Nat.reduceEqDiff, Nat.reduceBEq, Nat.reduceDiv, Int.reduceLT, Int.reduceLE, Int.reduceToNat, Int.reduceNeg, Int.reduceEq, ↓reduceIte, reduceCtorEq, ↓reduceDIte]
theorem sf_end (d : Bool) (ns : List Nd) (j : Nat) (hj : j < ns.length) (cs : List Int) (fs : List Bool) (m : Bool) (fr ok oc : Int) (hg : ∀ z, ns.getD j z = ((cs, fs, m, ()), fr, (ok, oc, ()), ())) (h0 : ¬ 0 ≤ fr) (xs : List Od) :
    loopOf pr 38 0 (SF d ns 512 xs j) = some (.exit 0, SF d ns 512 xs j) := by
  rw [loop_eq pr 38 0 _ Try.f38 fn_38 _ rfl _ ann_38 _ rfl]
  cases d <;> simp -implicitDefEqProofs only [lt_cast hj, tr hj, zero_le_cast, Int.toNat_natCast, hg, fa h0, ge_iff_le, go_sem, Nat.reduceAdd, Nat.reduceSub, Nat.reduceMul, Nat.reduceMod, Nat.reduceLT, Nat.reduceLeDiff, Nat.reduceEqDiff, Nat.reduceBEq, Nat.reduceDiv, Int.reduceLT, Int.reduceLE, Int.reduceToNat, Int.reduceNeg, Int.reduceEq, ↓reduceIte, reduceCtorEq, ↓reduceDIte]
theorem loop_sf (d : Bool) (ns : List Nd) (hp : ∀ j (h : j < ns.length), (ns[j]).2.1 < j) : ∀ (f j : Nat) (xs : List Od), j < f → j < ns.length → xs.length + j < 4000 →
    ∃ j', loopOf pr 38 0 (SF d ns 512 xs j) = some (.exit 0, SF d ns 512 ((pathsOf ns).getD j [] ++ xs) j')
  | 0, j, xs, hf, _, _ => absurd hf (by omega)
  | f + 1, j, xs, hf, hj, hx => by
    have hpa := paths_at ns hp j hj
    have hpj := hp j hj
    have hg : ∀ z, ns.getD j z = ns[j] := fun z => getD_of_lt hj z
    generalize hX : ns[j] = X at *
    obtain ⟨⟨cs, fs, m, ⟨⟩⟩, fr, ⟨ok, oc, ⟨⟩⟩, ⟨⟩⟩ := X
    simp only at hpa hpj
    by_cases h0 : 0 ≤ fr
    · obtain ⟨i, rfl⟩ : ∃ i : Nat, fr = i := ⟨fr.toNat, by omega⟩
      rw [if_neg (by omega), Int.toNat_natCast] at hpa
      obtain ⟨j', h⟩ := loop_sf d ns hp f i ((ok, oc, ()) :: xs) (by omega) (by omega) (by rw [List.length_cons]; omega)
      refine ⟨j', ?_⟩
      rw [sf_step d ns j hj cs fs m i ok oc hg h0 xs (by omega), h, hpa, List.append_assoc]
      rfl
    · rw [if_pos (by omega)] at hpa
      refine ⟨j, ?_⟩
      rw [sf_end d ns j hj cs fs m fr ok oc hg h0 xs, hpa]
      rfl
theorem call_sfs (pa pb pv pd pe : List Ru) (n : Int) : callOf pr 38 [pA pa pb pv pd pe, I n] [] = if icB pa pb pv pd pe n = true then (match flo (found (nextF pa pb pv pd pe) n.toNat) with | none => some (.tuple [.nilS, B false], []) | some fp => some (.tuple [.os (.t 512), B true], [(512, .arr true false tyO fp)])) else some (.tuple [.nilS, B false], []) := by
  have c1 := call_si pa pb pv pd pe
  have c2 := call_lc n
  rw [call_eq pr 38 _ _ Try.f38 fn_38 _ rfl _ ann_38 rfl]
  cases hp : protB pa pb pv pd pe with
  | false =>
    rw [hp] at c1
    rw [icB, hp, Bool.false_and, if_neg (by simp)]
    simp -implicitDefEqProofs only [c1, go_sem, Nat.reduceAdd, Nat.reduceSub, Nat.reduceMul, Nat.reduceMod, Nat.reduceLT, Nat.reduceLeDiff, Nat.reduceEqDiff, Nat.reduceBEq, Nat.reduceDiv, Int.reduceLT, Int.reduceLE, Int.reduceToNat, Int.reduceNeg, Int.reduceEq, ↓reduceIte, reduceCtorEq, ↓reduceDIte]
  | true =>
  rw [hp] at c1
  by_cases hn : 1 ≤ n ∧ n ≤ 3
  · rw [decide_eq_true hn] at c2
    rw [icB, hp, decide_eq_true hn, Bool.true_and, if_pos rfl]
    obtain ⟨m, rfl⟩ : ∃ m : Nat, n = m := ⟨n.toNat, by omega⟩
    have hm : 1 ≤ m ∧ m ≤ 3 := by omega
    obtain ⟨d', h⟩ := sx_call pa pb pv pd pe hp m hm
    have hi := found_inv pa pb pv pd pe hp m hm
    have hle := hi.le hm.2
    rw [Int.toNat_natCast]
    generalize found (nextF pa pb pv pd pe) m = st at *
    obtain ⟨ns, la⟩ := st
    simp only at h hle ⊢
    cases la with
    | none =>
      simp only [Option.isSome_none, Option.toList_none, List.append_nil] at h
      simp only [flo, Option.map_none]
      cases d' <;> simp -implicitDefEqProofs only [c1, c2, h, go_sem, Nat.reduceAdd, Nat.reduceSub, Nat.reduceMul, Nat.reduceMod, Nat.reduceLT, Nat.reduceLeDiff, Nat.reduceEqDiff, Nat.reduceBEq, Nat.reduceDiv, Int.reduceLT, Int.reduceLE, Int.reduceToNat, Int.reduceNeg, Int.reduceEq, ↓reduceIte, reduceCtorEq, ↓reduceDIte]
    | some nd =>
      obtain ⟨q1, q2⟩ := hi.last nd rfl
      have hpar : ∀ j (h : j < (ns ++ [nd]).length), ((ns ++ [nd])[j]).2.1 < j := by
        intro j hj
        rw [List.length_append, List.length_cons, List.length_nil] at hj
        by_cases h2 : j < ns.length
        · rw [List.getElem_append_left h2]; exact hi.par j h2
        · have : j = ns.length := by omega
          subst this
          have hx : (ns ++ [nd])[ns.length]'(by simp) = nd := by simp
          rw [hx]
          exact q2
      have hw : IntKind.i64.wrap (((ns ++ [nd]).length : Int) - 1) = (ns.length : Int) := by
        rw [List.length_append, List.length_cons, List.length_nil, wrap_i] <;> omega
      simp only [Option.isSome_some, Option.toList_some] at h
      obtain ⟨⟨cs, fs, mm, ⟨⟩⟩, fr, ⟨ok, oc, ⟨⟩⟩, ⟨⟩⟩ := nd
      simp only at q1 q2
      obtain ⟨i, rfl⟩ : ∃ i : Nat, fr = i := ⟨fr.toNat, by omega⟩
      have hflo : flo (ns, some ((cs, fs, mm, ()), (i : Int), (ok, oc, ()), ())) = some ((pathsOf ns).getD i [] ++ [(ok, oc, ())]) := by
        simp only [flo, Option.map_some, pth]
        rw [if_neg (by omega), Int.toNat_natCast]
      rw [hflo]
      simp only
      generalize hN : ns ++ [((cs, fs, mm, ()), (i : Int), (ok, oc, ()), ())] = nds at *
      have hnl : nds.length = ns.length + 1 := by rw [← hN]; simp
      have hgl : ∀ z, nds.getD ns.length z = ((cs, fs, mm, ()), (i : Int), (ok, oc, ()), ()) := by intro z; rw [← hN]; simp
      have e0 := sf_step0 d' nds ns.length (by omega) cs fs mm i ok oc hgl q1
      obtain ⟨j', e1⟩ := loop_sf d' nds hpar (i + 1) i [(ok, oc, ())] (by omega) (by omega) (by simp only [List.length_cons, List.length_nil]; omega)
      have hpe : (pathsOf nds).getD i [] = (pathsOf ns).getD i [] := by
        rw [← hN, pathsOf_snoc, getD_of_lt (by rw [List.length_append, pathsOf_length]; omega), getD_of_lt (by rw [pathsOf_length]; omega), List.getElem_append_left]
      rw [e1, hpe] at e0
      simp only [SF] at e0
      generalize (pathsOf ns).getD i [] ++ [(ok, oc, ())] = fp at *
      cases d' <;> simp -implicitDefEqProofs only [c1, c2, h, hw, e0, go_sem, Nat.reduceAdd, Nat.reduceSub, Nat.reduceMul, Nat.reduceMod, Nat.reduceLT, Nat.reduceLeDiff, Nat.reduceEqDiff, Nat.reduceBEq, Nat.reduceDiv, Int.reduceLT, Int.reduceLE, Int.reduceToNat, Int.reduceNeg, Int.reduceEq, ↓reduceIte, reduceCtorEq, ↓reduceDIte]
  · rw [decide_eq_false hn] at c2
    rw [icB, hp, decide_eq_false hn, Bool.true_and, if_neg (by simp)]
    simp -implicitDefEqProofs only [c1, c2, go_sem, Nat.reduceAdd, Nat.reduceSub, Nat.reduceMul, Nat.reduceMod, Nat.reduceLT, Nat.reduceLeDiff, Nat.reduceEqDiff, Nat.reduceBEq, Nat.reduceDiv, Int.reduceLT, Int.reduceLE, Int.reduceToNat, Int.reduceNeg, Int.reduceEq, ↓reduceIte, reduceCtorEq, ↓reduceDIte]
def endQ (m : Int) (a b v d e : List Ru) : Int := (markD (.slice tyR) (markD (.slice tyR) (markD (.slice tyR) (markD (.slice tyR) (markD (.slice tyR) m a).2 b).2 v).2 d).2 e).2
theorem endQ_eq (m : Int) (a b v d e : List Ru) : endQ m a b v d e = m + ((cnt (.slice tyR) a + cnt (.slice tyR) b + cnt (.slice tyR) v + cnt (.slice tyR) d + cnt (.slice tyR) e : Nat) : Int) := by
  simp only [endQ, markD_end]
  omega
theorem law_shortest (a b v d e : List Ru) (n : Int) (hx : Bd wide (.agg (.cons (.slice tyR) (.cons (.slice tyR) (.cons (.slice tyR) (.cons (.slice tyR) (.cons (.slice tyR) .nil)))))) (a, b, v, d, e, ())) : callOf pr 9 [pA a b v d e, I n] [] = some (B true, []) := by
  obtain ⟨r0, a0, b0, c0⟩ := sz_Protocol (a, b, v, d, e, ()) hx 1048576 (by omega) (by omega)
  have a0 : callOf pr 25 [pA a b v d e, I 1048576] [] = some (I r0, []) := a0
  rw [call_eq pr 9 _ _ Try.f9 fn_9 _ rfl _ ann_9 rfl]
  by_cases g0 : r0 < 0
  · simp -implicitDefEqProofs only [a0, tr g0, go_sem, Nat.reduceAdd, Nat.reduceSub, Nat.reduceMul, Nat.reduceMod, Nat.reduceLT, Nat.reduceLeDiff, Nat.reduceEqDiff, Nat.reduceBEq, Nat.reduceDiv, Int.reduceLT, Int.reduceLE, Int.reduceToNat, Int.reduceNeg, Int.reduceEq, ↓reduceIte, reduceCtorEq, ↓reduceDIte]
  have hp : Bd small (.agg (.cons (.slice tyR) (.cons (.slice tyR) (.cons (.slice tyR) (.cons (.slice tyR) (.cons (.slice tyR) .nil)))))) (a, b, v, d, e, ()) := c0 (by omega)
  have t1 : callOf pr 27 [pA a b v d e] [] = some (.agg [.os (.t 384), .os (.t 640), .os (.t 896), .os (.t 1152), .os (.t 1408)], [(384, .arr true false tyR a), (640, .arr true false tyR b), (896, .arr true false tyR v), (1152, .arr true false tyR d), (1408, .arr true false tyR e)]) := to_Protocol (a, b, v, d, e, ()) hp
  have h1 := call_sfs a b v d e n
  have h2 := call_sfi a b v d e n
  have e1 : callOf pr 28 [pA a b v d e, pA a b v d e] [] = some (B true, []) := eq_Protocol (a, b, v, d, e, ()) hx
  have n1 := cnt_le (n := small) (.slice tyR) a hp.1
  have n2 := cnt_le (n := small) (.slice tyR) b hp.2.1
  have n3 := cnt_le (n := small) (.slice tyR) v hp.2.2.1
  have n4 := cnt_le (n := small) (.slice tyR) d hp.2.2.2.1
  have n5 := cnt_le (n := small) (.slice tyR) e hp.2.2.2.2.1
  simp only [top, small] at n1 n2 n3 n4 n5
  have k1 := mark_Protocol a b v d e 1 (by omega) (show (1 : Int) + ((cnt (.slice tyR) a + cnt (.slice tyR) b + cnt (.slice tyR) v + cnt (.slice tyR) d + cnt (.slice tyR) e : Nat) : Int) ≤ wide from by simp only [wide]; omega) hx.1 hx.2.1 hx.2.2.1 hx.2.2.2.1 hx.2.2.2.2.1
  have ep := endQ_eq 1 a b v d e
  unfold endQ at ep
  have k3 : ¬ (markD (.slice tyR) (markD (.slice tyR) (markD (.slice tyR) (markD (.slice tyR) (markD (.slice tyR) 1 a).2 b).2 v).2 d).2 e).2 < 0 := by
    rw [ep]
    omega
  have m0 := markn_OpS 1
  have q0 := heldn_OpS 1
  cases ho : icB a b v d e n with
  | false =>
    rw [ho, if_neg (by simp)] at h1 h2
    simp -implicitDefEqProofs only [a0, fa g0, t1, h1, h2, e1, BEq.rfl, beq_self_eq_true, k1, fa k3, eq_self_iff_true, eqn_OpS, m0, q0, go_sem, Nat.reduceAdd, Nat.reduceSub, Nat.reduceMul, Nat.reduceMod, Nat.reduceLT, Nat.reduceLeDiff, Nat.reduceEqDiff, Nat.reduceBEq, Nat.reduceDiv, Int.reduceLT, Int.reduceLE, Int.reduceToNat, Int.reduceNeg, Int.reduceEq, ↓reduceIte, reduceCtorEq, ↓reduceDIte]
  | true =>
    rw [ho, if_pos rfl] at h1 h2
    obtain ⟨hP, mm, rfl, hm⟩ := icB_of ho
    have hfc := fun fp => flo_cons a b v d e hP mm hm (fp := fp)
    rw [Int.toNat_natCast] at h1 h2
    generalize flo (found (nextF a b v d e) mm) = fo at *
    cases fo with
    | none =>
      simp only at h1 h2
      simp -implicitDefEqProofs only [a0, fa g0, t1, h1, h2, e1, BEq.rfl, beq_self_eq_true, k1, fa k3, eq_self_iff_true, eqn_OpS, m0, q0, go_sem, Nat.reduceAdd, Nat.reduceSub, Nat.reduceMul, Nat.reduceMod, Nat.reduceLT, Nat.reduceLeDiff, Nat.reduceEqDiff, Nat.reduceBEq, Nat.reduceDiv, Int.reduceLT, Int.reduceLE, Int.reduceToNat, Int.reduceNeg, Int.reduceEq, ↓reduceIte, reduceCtorEq, ↓reduceDIte]
    | some fp =>
      simp only at h1 h2
      obtain ⟨_, _, _, hl⟩ := hfc fp rfl
      have u1 : Bd wide (.slice (.agg (.cons (.int .i64) (.cons (.int .i64) .nil)))) fp := ⟨by simp only [wide]; omega, fun _ _ => ⟨trivial, trivial, trivial⟩⟩
      have u3 := cnt_le (n := 1024) (.slice (.agg (.cons (.int .i64) (.cons (.int .i64) .nil)))) fp ⟨hl, fun _ _ => ⟨trivial, trivial, trivial⟩⟩
      simp only [top] at u3
      have v0 := eq_OpS fp u1
      have m1 := mark_OpS fp 1 (by omega) (by simp only [wide]; omega) u1.1
      have q1 := held_OpS fp 1 (by omega) (by simp only [wide]; omega) u1.1
      have z0 : ¬ (markD (.slice (.agg (.cons (.int .i64) (.cons (.int .i64) .nil)))) 1 fp).2 < 0 := by
        rw [markD_end]
        omega
      simp -implicitDefEqProofs only [a0, fa g0, t1, h1, h2, e1, BEq.rfl, beq_self_eq_true, k1, fa k3, eq_self_iff_true, v0, m1, q1, fa z0, go_sem, Nat.reduceAdd, Nat.reduceSub, Nat.reduceMul, Nat.reduceMod, Nat.reduceLT, Nat.reduceLeDiff, Nat.reduceEqDiff, Nat.reduceBEq, Nat.reduceDiv, Int.reduceLT, Int.reduceLE, Int.reduceToNat, Int.reduceNeg, Int.reduceEq, ↓reduceIte, reduceCtorEq, ↓reduceDIte]
end Go.Proofs.Ythmnlokdikomkaa.PI
