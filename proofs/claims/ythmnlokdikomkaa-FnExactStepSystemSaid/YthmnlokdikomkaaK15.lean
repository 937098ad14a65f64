/- Both steps are one. -/
import Derived.Test.YthmnlokdikomkaaK12
namespace Go.Proofs.Ythmnlokdikomkaa.PI
open Go Go.Q
set_option maxRecDepth 100000
set_option maxHeartbeats 4000000
set_option linter.unusedSimpArgs false
set_option linter.unusedVariables false
def stepI (a b v d e : List Ru) (k : Int) (n : Nat) (cs : List Int) (fs : List Bool) (m : Bool) : Aft :=
  if k = 0 then if cs.getD n 0 = 0 then aftR0 a d n cs fs m else aftR1 a n cs fs m else if k = 1 then aftW b n (cs.getD n 0) (decide (cs.getD n 0 = 0) || decide (cs.getD n 0 = 1)) (if (decide (cs.getD n 0 = 0) || decide (cs.getD n 0 = 1)) = true then seeL e n 0 cs fs m 0 else (cs, fs, m, 0)) else aftE v n cs fs m
def stepS (a b v d e : List Ru) (k : Int) (n : Nat) (cs : List Int) (fs : List Bool) (m : Bool) : Aft :=
  if k = 0 then if cs.getD n 0 = 0 then sR0 a d n cs fs m else sR1 a n cs fs m else if k = 1 then aftW b n (cs.getD n 0) (decide (cs.getD n 0 = 0) || decide (cs.getD n 0 = 1)) (if (decide (cs.getD n 0 = 0) || decide (cs.getD n 0 = 1)) = true then seeL e n 0 cs fs m 0 else (cs, fs, m, 0)) else aftE v n cs fs m
theorem see_at (rules : List Ru) (c : Int) : ∀ (cs : List Int) (fs : List Bool) (i : Int) (n : Nat) (m : Bool) (k : Int), cs.length = fs.length → i + n = c → (seeL rules c i cs fs m k).1.getD n 0 = cs.getD n 0
  | [], [], _, _, _, _, _, _ => rfl
  | [], _ :: _, _, _, _, _, h, _ => by simp at h
  | _ :: _, [], _, _, _, _, h, _ => by simp at h
  | x :: cs, f :: fs, i, 0, m, k, h, hi => by
    rw [see_skip rules c i x cs f fs m k (.inl (by simpa using hi))]
    rfl
  | x :: cs, f :: fs, i, n + 1, m, k, h, hi => by
    have h : cs.length = fs.length := by simpa using h
    by_cases hk : i = c ∨ x = 0
    · rw [see_skip rules c i x cs f fs m k hk]
      exact see_at rules c cs fs (i + 1) n m k h (by omega)
    · obtain ⟨n', s, b, hb⟩ : ∃ n s b, rules.getD x.toNat rZ = (n, s, b, ()) := by
        obtain ⟨n, s, b, ⟨⟩⟩ : Ru := rules.getD x.toNat rZ
        exact ⟨n, s, b, rfl⟩
      rw [see_take rules c i x cs f fs m k n' s b (fun h => hk (.inl h)) (fun h => hk (.inr h)) hb]
      exact see_at rules c cs fs (i + 1) n _ _ h (by omega)
theorem oth_any (c : Int) (r : Int) : ∀ (cs : List Int) (i : Int) (n : Nat), i + n = c → cs.getD n 0 = 0 → othB c i (cs.set n r) = cs.any fun x => decide (x ≠ 0)
  | [], i, n, _, _ => rfl
  | x :: cs, i, 0, hi, h => by
    have h : x = 0 := h
    have hi : i = c := by simpa using hi
    subst h
    rw [List.set_cons_zero, othB, List.any_cons]
    have : ∀ (cs : List Int) (j : Int), c < j → othB c j cs = cs.any fun x => decide (x ≠ 0) := by
      intro cs
      induction cs with
      | nil => intro j _; rfl
      | cons y cs ih =>
        intro j hj
        rw [othB, List.any_cons, ih (j + 1) (by omega)]
        have : ¬ j = c := by omega
        by_cases hy : y = 0 <;> simp [this, hy]
    rw [this cs (i + 1) (by omega)]
    simp [hi]
  | x :: cs, i, n + 1, hi, h => by
    rw [List.set_cons_succ, othB, List.any_cons, oth_any c r cs (i + 1) n (by omega) h]
    have : ¬ i = c := by omega
    by_cases hy : x = 0 <;> simp [this, hy]
theorem set_self {α : Type} : ∀ (xs : List α) (n : Nat) (d : α), xs.set n (xs.getD n d) = xs
  | [], _, _ => rfl
  | x :: xs, 0, _ => rfl
  | x :: xs, n + 1, d => by
    rw [List.set_cons_succ]
    have := set_self xs n d
    rw [show (x :: xs).getD (n + 1) d = xs.getD n d from rfl, this]
theorem step_eq (a b v d e : List Ru) (ha : a.length = 4) (hb : b.length = 4) (hv : v.length = 4) (hd : d.length = 4) (he : e.length = 4) (n : Nat) (cs : List Int) (fs : List Bool) (m : Bool) (hn : n < cs.length) (hcf : cs.length = fs.length) (hl : cs.length ≤ 3) (hx : ∀ x ∈ cs, 0 ≤ x ∧ x ≤ 3) (hz : a.all nzB = true) (k : Int) : stepI a b v d e k n cs fs m = stepS a b v d e k n cs fs m := by
  have hnz : ∀ j : Nat, j < a.length → ¬ (a.getD j rZ).1 = 0 ∧ ¬ (a.getD j rZ).2.1 = 0 := by
    intro j hj
    rw [getD_of_lt hj]
    have := (List.all_eq_true.1 hz) a[j] (List.getElem_mem hj)
    simpa [nzB] using this
  unfold stepI stepS
  by_cases hk : k = 0
  case neg => rw [if_neg hk, if_neg hk]
  rw [if_pos hk, if_pos hk]
  by_cases h0 : cs.getD n 0 = 0
  · rw [if_pos h0, if_pos h0]
    obtain ⟨z1, z2⟩ := hnz 0 (by omega)
    have hat := see_at d n cs fs 0 n m 0 hcf (by omega)
    rw [h0] at hat
    unfold aftR0 sR0
    generalize seeL d n 0 cs fs m 0 = q at *
    simp only
    rw [oth_any n _ q.1 0 n (by omega) hat]
    cases q.1.any fun x => decide (x ≠ 0) with
    | true => simp only [if_true, List.set_set, decide_eq_false z2, Bool.not_false, Bool.and_true]
    | false => simp only [Bool.false_eq_true, if_false, decide_eq_false z1, Bool.not_false, Bool.and_true]
  · rw [if_neg h0, if_neg h0]
    obtain ⟨x0, x3⟩ : 0 ≤ cs.getD n 0 ∧ cs.getD n 0 ≤ 3 := by rw [getD_of_lt hn]; exact hx _ (List.getElem_mem hn)
    obtain ⟨z1, z2⟩ := hnz (cs.getD n 0).toNat (by omega)
    unfold aftR1 sR1
    rw [decide_eq_false z1, Bool.not_false, Bool.and_true, set_self]
theorem st_all (a b v d e : List Ru) (ha : a.length = 4) (hb : b.length = 4) (hv : v.length = 4) (hd : d.length = 4) (he : e.length = 4) (n : Nat) (cs : List Int) (fs : List Bool) (m : Bool) (hn : n < cs.length) (hcf : cs.length = fs.length) (hl : cs.length ≤ 3) (hx : ∀ x ∈ cs, 0 ≤ x ∧ x ≤ 3) (k : Int) (hk : 0 ≤ k ∧ k ≤ 2) : callOf pr 52 [.op 1000000 0, pA a b v d e, .agg [I k, I n]] (HX cs fs m) = some (AV.tuple [B (flawB (stepI a b v d e k n cs fs m)), B (stepI a b v d e k n cs fs m).2.2.2.2.1, I (stepI a b v d e k n cs fs m).2.2.2.2.2], HX (stepI a b v d e k n cs fs m).1 (stepI a b v d e k n cs fs m).2.1 (stepI a b v d e k n cs fs m).2.2.1) := by
  unfold stepI
  by_cases k0 : k = 0
  · subst k0
    simp only [if_true]
    by_cases h0 : cs.getD n 0 = 0
    · simp only [if_pos h0]
      exact st_r0 a b v d e ha hb hv hd he n cs fs m hn hcf hl hx h0
    · simp only [if_neg h0]
      exact st_r1 a b v d e ha hb hv hd he n cs fs m hn hcf hl hx h0
  · simp only [if_neg k0]
    by_cases k1 : k = 1
    · subst k1
      simp only [if_true]
      exact st_w a b v d e ha hb hv hd he n cs fs m hn hcf hl hx
    · simp only [if_neg k1]
      have k2 : k = 2 := by omega
      subst k2
      exact st_e a b v d e ha hb hv hd he n cs fs m hn hcf hl hx
theorem sp_all (a b v d e : List Ru) (ha : a.length = 4) (hb : b.length = 4) (hv : v.length = 4) (hd : d.length = 4) (he : e.length = 4) (n : Nat) (cs : List Int) (fs : List Bool) (m : Bool) (hn : n < cs.length) (hcf : cs.length = fs.length) (hl : cs.length ≤ 3) (hx : ∀ x ∈ cs, 0 ≤ x ∧ x ≤ 3) (k : Int) (hk : 0 ≤ k ∧ k ≤ 2) : callOf pr 78 [pR a b v d e, pS cs fs m, .agg [I k, I n]] [] = some (AV.tuple [.agg [.os (.t 1472), .os (.t 1536), B (stepS a b v d e k n cs fs m).2.2.1], B (flawB (stepS a b v d e k n cs fs m)), B (stepS a b v d e k n cs fs m).2.2.2.2.1, I (stepS a b v d e k n cs fs m).2.2.2.2.2], HO true true (stepS a b v d e k n cs fs m).1 (stepS a b v d e k n cs fs m).2.1) := by
  unfold stepS
  by_cases k0 : k = 0
  · subst k0
    simp only [if_true]
    by_cases h0 : cs.getD n 0 = 0
    · simp only [if_pos h0]
      exact sp_r0 a b v d e ha hb hv hd he n cs fs m hn hcf hl hx h0
    · simp only [if_neg h0]
      exact sp_r1 a b v d e ha hb hv hd he n cs fs m hn hcf hl hx h0
  · simp only [if_neg k0]
    by_cases k1 : k = 1
    · subst k1
      simp only [if_true]
      exact sp_w a b v d e ha hb hv hd he n cs fs m hn hcf hl hx
    · simp only [if_neg k1]
      have k2 : k = 2 := by omega
      subst k2
      exact sp_e a b v d e ha hb hv hd he n cs fs m hn hcf hl hx
def okB (a b v d e : List Ru) (cs : List Int) (fs : List Bool) (k c : Int) : Bool := protB a b v d e && sysB cs fs && opB k c cs.length
theorem sysL_in : ∀ (cs : List Int) (fs : List Bool), cs.length = fs.length → sysL cs fs = true → ∀ x ∈ cs, 0 ≤ x ∧ x ≤ 3
  | [], _, _, _ => by simp
  | _ :: _, [], h, _ => by simp at h
  | c :: cs, f :: fs, h, hs => by
    rw [sysL] at hs
    simp only [Bool.and_eq_true] at hs
    intro x hx
    rcases List.mem_cons.1 hx with rfl | hx
    · have := hs.1.1
      simpa [copyB] using this
    · exact sysL_in cs fs (by simpa using h) hs.2 x hx
theorem prot_facts {a b v d e : List Ru} (h : protB a b v d e = true) : a.length = 4 ∧ b.length = 4 ∧ v.length = 4 ∧ d.length = 4 ∧ e.length = 4 ∧ a.all nzB = true := by
  have h2 := prot_eq a b v d e
  rw [h] at h2
  have hs : tabsL 0 [a, b, v, d, e] = (decide (a.length = 4) && askL 0 0 a && (decide (b.length = 4) && askL 1 0 b && (decide (v.length = 4) && askL 2 0 v && (decide (d.length = 4) && askL 3 0 d && (decide (e.length = 4) && askL 4 0 e && true))))) := rfl
  rw [hs, ask_0] at h2
  simp only [Bool.and_eq_true, decide_eq_true_eq] at h2
  exact ⟨h2.1.1, h2.2.1.1, h2.2.2.1.1, h2.2.2.2.1.1, h2.2.2.2.2.1.1, h2.1.2.2⟩
theorem sys_facts {cs : List Int} {fs : List Bool} (h : sysB cs fs = true) : 1 ≤ cs.length ∧ cs.length ≤ 3 ∧ cs.length = fs.length ∧ ∀ x ∈ cs, 0 ≤ x ∧ x ≤ 3 := by
  simp only [sysB, Bool.and_eq_true, decide_eq_true_eq] at h
  obtain ⟨⟨⟨h1, h2⟩, h3⟩, h4⟩ := h
  exact ⟨by omega, by omega, h3.symm, sysL_in cs fs h3.symm h4⟩
/-- The step when all is valid. -/
abbrev outS (a b v d e : List Ru) (k c : Int) (cs : List Int) (fs : List Bool) (m : Bool) : Aft := stepS a b v d e k c.toNat cs fs m
theorem op_facts {k c : Int} {n : Nat} (h : opB k c n = true) : (0 ≤ k ∧ k ≤ 2) ∧ c.toNat < n ∧ ((c.toNat : Nat) : Int) = c := by
  simp only [opB, Bool.and_eq_true, decide_eq_true_eq] at h
  exact ⟨h.1, by omega, by omega⟩
theorem call_sss (a b v d e : List Ru) (cs : List Int) (fs : List Bool) (m : Bool) (k c : Int) : callOf pr 31 [pA a b v d e, .agg [cI cs, LB fs, B m], .agg [I k, I c]] [] = if okB a b v d e cs fs k c = true then some (.tuple [.agg [.os (.t 1920), .os (.t 1921), B (outS a b v d e k c cs fs m).2.2.1], B (flawB (outS a b v d e k c cs fs m)), B true], [(1920, .arr true false (.int .i64) (outS a b v d e k c cs fs m).1), (1921, .arr true false .bool (outS a b v d e k c cs fs m).2.1)]) else some (.tuple [.agg [.nilS, .nilS, B false], B false, B false], []) := by
  have c1 := call_si a b v d e
  have c2 := call_ss cs fs m
  rw [call_eq pr 31 _ _ Try.f31 fn_31 _ rfl _ ann_31 rfl]
  cases hp : protB a b v d e with
  | false =>
    rw [hp] at c1
    rw [okB, hp, Bool.false_and, Bool.false_and, if_neg (by simp)]
    simp -implicitDefEqProofs only [c1, go_sem, Nat.reduceAdd, Nat.reduceSub, Nat.reduceMul, Nat.reduceMod, Nat.reduceLT, Nat.reduceLeDiff, Nat.reduceEqDiff, Nat.reduceBEq, Nat.reduceDiv, Int.reduceLT, Int.reduceLE, Int.reduceToNat, Int.reduceNeg, Int.reduceEq, ↓reduceIte, reduceCtorEq, ↓reduceDIte]
  | true =>
  rw [hp] at c1
  cases hs : sysB cs fs with
  | false =>
    rw [hs] at c2
    rw [okB, hs, Bool.and_false, Bool.false_and, if_neg (by simp)]
    simp -implicitDefEqProofs only [c1, c2, go_sem, Nat.reduceAdd, Nat.reduceSub, Nat.reduceMul, Nat.reduceMod, Nat.reduceLT, Nat.reduceLeDiff, Nat.reduceEqDiff, Nat.reduceBEq, Nat.reduceDiv, Int.reduceLT, Int.reduceLE, Int.reduceToNat, Int.reduceNeg, Int.reduceEq, ↓reduceIte, reduceCtorEq, ↓reduceDIte]
  | true =>
  rw [hs] at c2
  obtain ⟨s1, s2, s3, s4⟩ := sys_facts hs
  have c3 := call_so k c cs.length (by omega)
  cases ho : opB k c cs.length with
  | false =>
    rw [ho] at c3
    rw [okB, ho, Bool.and_false, if_neg (by simp)]
    simp -implicitDefEqProofs only [c1, c2, c3, go_sem, Nat.reduceAdd, Nat.reduceSub, Nat.reduceMul, Nat.reduceMod, Nat.reduceLT, Nat.reduceLeDiff, Nat.reduceEqDiff, Nat.reduceBEq, Nat.reduceDiv, Int.reduceLT, Int.reduceLE, Int.reduceToNat, Int.reduceNeg, Int.reduceEq, ↓reduceIte, reduceCtorEq, ↓reduceDIte]
  | true =>
    rw [ho] at c3
    obtain ⟨p1, p2, p3, p4, p5, p6⟩ := prot_facts hp
    obtain ⟨o1, o2, o3⟩ := op_facts ho
    have c4 := sp_all a b v d e p1 p2 p3 p4 p5 c.toNat cs fs m o2 s3 s2 s4 k o1
    rw [o3] at c4
    rw [okB, hp, hs, ho, Bool.true_and, Bool.true_and, if_pos rfl]
    unfold outS
    generalize stepS a b v d e k c.toNat cs fs m = r at *
    obtain ⟨rc, rf, rm, rl, rs, rk⟩ := r
    simp only [HO] at c4
    simp -implicitDefEqProofs only [c1, c2, c3, c4, go_sem, Nat.reduceAdd, Nat.reduceSub, Nat.reduceMul, Nat.reduceMod, Nat.reduceLT, Nat.reduceLeDiff, Nat.reduceEqDiff, Nat.reduceBEq, Nat.reduceDiv, Int.reduceLT, Int.reduceLE, Int.reduceToNat, Int.reduceNeg, Int.reduceEq, ↓reduceIte, reduceCtorEq, ↓reduceDIte]
theorem call_ssi (a b v d e : List Ru) (cs : List Int) (fs : List Bool) (m : Bool) (k c : Int) : callOf pr 23 [pA a b v d e, .agg [cI cs, LB fs, B m], .agg [I k, I c]] [] = if okB a b v d e cs fs k c = true then some (.tuple [.agg [.os (.t 1984), .os (.t 1985), B (outS a b v d e k c cs fs m).2.2.1], B (flawB (outS a b v d e k c cs fs m)), B true], [(1984, .arr true false (.int .i64) (outS a b v d e k c cs fs m).1), (1985, .arr true false .bool (outS a b v d e k c cs fs m).2.1)]) else some (.tuple [.agg [.nilS, .nilS, B false], B false, B false], []) := by
  have c1 := call_vp a b v d e
  have c2 := call_vs cs fs m
  have c5 := call_len cs
  rw [call_eq pr 23 _ _ Try.f23 fn_23 _ rfl _ ann_23 rfl]
  cases hp : protB a b v d e with
  | false =>
    rw [hp] at c1
    rw [okB, hp, Bool.false_and, Bool.false_and, if_neg (by simp)]
    simp -implicitDefEqProofs only [c1, go_sem, Nat.reduceAdd, Nat.reduceSub, Nat.reduceMul, Nat.reduceMod, Nat.reduceLT, Nat.reduceLeDiff, Nat.reduceEqDiff, Nat.reduceBEq, Nat.reduceDiv, Int.reduceLT, Int.reduceLE, Int.reduceToNat, Int.reduceNeg, Int.reduceEq, ↓reduceIte, reduceCtorEq, ↓reduceDIte]
  | true =>
  rw [hp] at c1
  cases hs : sysB cs fs with
  | false =>
    rw [hs] at c2
    rw [okB, hs, Bool.and_false, Bool.false_and, if_neg (by simp)]
    simp -implicitDefEqProofs only [c1, c2, go_sem, Nat.reduceAdd, Nat.reduceSub, Nat.reduceMul, Nat.reduceMod, Nat.reduceLT, Nat.reduceLeDiff, Nat.reduceEqDiff, Nat.reduceBEq, Nat.reduceDiv, Int.reduceLT, Int.reduceLE, Int.reduceToNat, Int.reduceNeg, Int.reduceEq, ↓reduceIte, reduceCtorEq, ↓reduceDIte]
  | true =>
  rw [hs] at c2
  obtain ⟨s1, s2, s3, s4⟩ := sys_facts hs
  have c3 := call_io k c cs.length (by omega)
  cases ho : opB k c cs.length with
  | false =>
    rw [ho] at c3
    rw [okB, ho, Bool.and_false, if_neg (by simp)]
    simp -implicitDefEqProofs only [c1, c2, c5, c3, go_sem, Nat.reduceAdd, Nat.reduceSub, Nat.reduceMul, Nat.reduceMod, Nat.reduceLT, Nat.reduceLeDiff, Nat.reduceEqDiff, Nat.reduceBEq, Nat.reduceDiv, Int.reduceLT, Int.reduceLE, Int.reduceToNat, Int.reduceNeg, Int.reduceEq, ↓reduceIte, reduceCtorEq, ↓reduceDIte]
  | true =>
    rw [ho] at c3
    obtain ⟨p1, p2, p3, p4, p5, p6⟩ := prot_facts hp
    obtain ⟨o1, o2, o3⟩ := op_facts ho
    have c4 := st_all a b v d e p1 p2 p3 p4 p5 c.toNat cs fs m o2 s3 s2 s4 k o1
    rw [o3, step_eq a b v d e p1 p2 p3 p4 p5 c.toNat cs fs m o2 s3 s2 s4 p6 k] at c4
    rw [okB, hp, hs, ho, Bool.true_and, Bool.true_and, if_pos rfl]
    have c6 : callOf pr 66 [.agg [cI cs, LB fs, B m]] [] = some (.agg [.os (.t 320), .os (.t 512), B m], [(320, .arr true false (.int .i64) cs), (512, .arr true false .bool fs)]) := by
      match cs, fs, s1, s3 with
      | x :: xs, f :: fs, _, h3 => exact call_cln x xs f fs m (by simp only [List.length_cons] at s2; omega) (by simp only [List.length_cons] at s2 h3; omega)
    unfold outS
    generalize stepS a b v d e k c.toNat cs fs m = r at *
    obtain ⟨rc, rf, rm, rl, rs, rk⟩ := r
    simp only [HX] at c4
    simp -implicitDefEqProofs only [c1, c2, c5, c3, c4, c6, go_sem, Nat.reduceAdd, Nat.reduceSub, Nat.reduceMul, Nat.reduceMod, Nat.reduceLT, Nat.reduceLeDiff, Nat.reduceEqDiff, Nat.reduceBEq, Nat.reduceDiv, Int.reduceLT, Int.reduceLE, Int.reduceToNat, Int.reduceNeg, Int.reduceEq, ↓reduceIte, reduceCtorEq, ↓reduceDIte]
theorem len_aft {a b v d e : List Ru} {k c : Int} {cs : List Int} {fs : List Bool} {m : Bool} (h : okB a b v d e cs fs k c = true) : (outS a b v d e k c cs fs m).1.length ≤ 3 ∧ (outS a b v d e k c cs fs m).2.1.length ≤ 3 := by
  simp only [okB, Bool.and_eq_true] at h
  obtain ⟨s1, s2, s3, s4⟩ := sys_facts h.1.2
  have hd := see_len d (c.toNat : Int) cs fs 0 m 0 s3
  have he := see_len e (c.toNat : Int) cs fs 0 m 0 s3
  unfold outS stepS
  split
  · split
    · unfold sR0
      simp only
      split <;> simp only [List.length_set] <;> omega
    · unfold sR1
      simp only [List.length_set]
      omega
  · split
    · unfold aftW
      simp only [List.length_set, List.length_replicate]
      split <;> (try simp only) <;> omega
    · unfold aftE
      simp only [List.length_set]
      omega
def endP (m : Int) (a b v d e : List Ru) : Int := (markD (.slice tyR) (markD (.slice tyR) (markD (.slice tyR) (markD (.slice tyR) (markD (.slice tyR) m a).2 b).2 v).2 d).2 e).2
theorem endP_eq (m : Int) (a b v d e : List Ru) : endP m a b v d e = m + ((cnt (.slice tyR) a + cnt (.slice tyR) b + cnt (.slice tyR) v + cnt (.slice tyR) d + cnt (.slice tyR) e : Nat) : Int) := by
  simp only [endP, markD_end]
  omega
theorem law_stepsystem (a b v d e : List Ru) (cs : List Int) (fs : List Bool) (m : Bool) (k c : Int) (hx : Bd wide (.agg (.cons (.slice tyR) (.cons (.slice tyR) (.cons (.slice tyR) (.cons (.slice tyR) (.cons (.slice tyR) .nil)))))) (a, b, v, d, e, ())) (hy : Bd wide (.agg (.cons (.slice (.int .i64)) (.cons (.slice .bool) (.cons .bool .nil)))) (cs, fs, m, ())) : callOf pr 8 [pA a b v d e, .agg [cI cs, LB fs, B m], .agg [I k, I c]] [] = some (B true, []) := by
  obtain ⟨r0, a0, b0, c0⟩ := sz_Protocol (a, b, v, d, e, ()) hx 1048576 (by omega) (by omega)
  have a0 : callOf pr 25 [pA a b v d e, I 1048576] [] = some (I r0, []) := a0
  rw [call_eq pr 8 _ _ Try.f8 fn_8 _ rfl _ ann_8 rfl]
  by_cases g0 : r0 < 0
  · simp -implicitDefEqProofs only [a0, tr g0, go_sem, Nat.reduceAdd, Nat.reduceSub, Nat.reduceMul, Nat.reduceMod, Nat.reduceLT, Nat.reduceLeDiff, Nat.reduceEqDiff, Nat.reduceBEq, Nat.reduceDiv, Int.reduceLT, Int.reduceLE, Int.reduceToNat, Int.reduceNeg, Int.reduceEq, ↓reduceIte, reduceCtorEq, ↓reduceDIte]
  obtain ⟨r1, a1, b1, c1⟩ := sz_System (cs, fs, m, ()) hy r0 (by omega) (by omega)
  have a1 : callOf pr 30 [.agg [cI cs, LB fs, B m], I r0] [] = some (I r1, []) := a1
  by_cases g1 : r1 < 0
  · simp -implicitDefEqProofs only [a0, fa g0, a1, tr g1, go_sem, Nat.reduceAdd, Nat.reduceSub, Nat.reduceMul, Nat.reduceMod, Nat.reduceLT, Nat.reduceLeDiff, Nat.reduceEqDiff, Nat.reduceBEq, Nat.reduceDiv, Int.reduceLT, Int.reduceLE, Int.reduceToNat, Int.reduceNeg, Int.reduceEq, ↓reduceIte, reduceCtorEq, ↓reduceDIte]
  have hp : Bd small (.agg (.cons (.slice tyR) (.cons (.slice tyR) (.cons (.slice tyR) (.cons (.slice tyR) (.cons (.slice tyR) .nil)))))) (a, b, v, d, e, ()) := c0 (by omega)
  have hs : Bd small (.agg (.cons (.slice (.int .i64)) (.cons (.slice .bool) (.cons .bool .nil)))) (cs, fs, m, ()) := c1 (by omega)
  have t1 : callOf pr 27 [pA a b v d e] [] = some (.agg [.os (.t 384), .os (.t 640), .os (.t 896), .os (.t 1152), .os (.t 1408)], [(384, .arr true false tyR a), (640, .arr true false tyR b), (896, .arr true false tyR v), (1152, .arr true false tyR d), (1408, .arr true false tyR e)]) := to_Protocol (a, b, v, d, e, ()) hp
  have t2 : callOf pr 32 [.agg [cI cs, LB fs, B m]] [] = some (.agg [.os (.t 384), .os (.t 640), B m], [(384, .arr true false (.int .i64) cs), (640, .arr true false .bool fs)]) := to_System (cs, fs, m, ()) hs
  have t3 : callOf pr 33 [.agg [I k, I c]] [] = some (.agg [I k, I c], []) := to_Op (k, c, ())
  have h1 := call_sss a b v d e cs fs m k c
  have h2 := call_ssi a b v d e cs fs m k c
  have e1 : callOf pr 28 [pA a b v d e, pA a b v d e] [] = some (B true, []) := eq_Protocol (a, b, v, d, e, ()) hx
  have e2 : callOf pr 34 [.agg [cI cs, LB fs, B m], .agg [cI cs, LB fs, B m]] [] = some (B true, []) := eq_System (cs, fs, m, ()) hy
  have n1 := cnt_le (n := small) (.slice tyR) a hp.1
  have n2 := cnt_le (n := small) (.slice tyR) b hp.2.1
  have n3 := cnt_le (n := small) (.slice tyR) v hp.2.2.1
  have n4 := cnt_le (n := small) (.slice tyR) d hp.2.2.2.1
  have n5 := cnt_le (n := small) (.slice tyR) e hp.2.2.2.2.1
  have n6 := cnt_le (n := small) (.slice (.int .i64)) cs hs.1
  have n7 := cnt_le (n := small) (.slice .bool) fs hs.2.1
  simp only [top, small] at n1 n2 n3 n4 n5 n6 n7
  have k1 := mark_Protocol a b v d e 1 (by omega) (show (1 : Int) + ((cnt (.slice tyR) a + cnt (.slice tyR) b + cnt (.slice tyR) v + cnt (.slice tyR) d + cnt (.slice tyR) e : Nat) : Int) ≤ wide from by simp only [wide]; omega) hx.1 hx.2.1 hx.2.2.1 hx.2.2.2.1 hx.2.2.2.2.1
  have ep := endP_eq 1 a b v d e
  have k2 := mark_System cs fs m (endP 1 a b v d e) (by omega) (by rw [ep]; simp only [wide]; omega) hy.1 hy.2.1
  unfold endP at k2 ep
  have k3 : ¬ (markD (.slice .bool) (markD (.slice (.int .i64)) (markD (.slice tyR) (markD (.slice tyR) (markD (.slice tyR) (markD (.slice tyR) (markD (.slice tyR) 1 a).2 b).2 v).2 d).2 e).2 cs).2 fs).2 < 0 := by
    rw [markD_end, markD_end, ep]
    omega
  cases ho : okB a b v d e cs fs k c with
  | false =>
    rw [ho, if_neg (by simp)] at h1 h2
    have m0 := markn_System 1 (by omega)
    have q0 := heldn_System 1 (by omega)
    simp -implicitDefEqProofs only [a0, fa g0, a1, fa g1, t1, t2, t3, h1, h2, e1, e2, BEq.rfl, beq_self_eq_true, k1, k2, fa k3, eq_self_iff_true, eqn_System, m0, q0, go_sem, Nat.reduceAdd, Nat.reduceSub, Nat.reduceMul, Nat.reduceMod, Nat.reduceLT, Nat.reduceLeDiff, Nat.reduceEqDiff, Nat.reduceBEq, Nat.reduceDiv, Int.reduceLT, Int.reduceLE, Int.reduceToNat, Int.reduceNeg, Int.reduceEq, ↓reduceIte, reduceCtorEq, ↓reduceDIte]
  | true =>
    rw [ho, if_pos rfl] at h1 h2
    obtain ⟨l1, l2⟩ := len_aft (m := m) ho
    generalize outS a b v d e k c cs fs m = r at *
    obtain ⟨rc, rf, rm, rl, rs, rk⟩ := r
    simp only at *
    generalize flawB (rc, rf, rm, rl, rs, rk) = fl at *
    have u1 : Bd wide (.slice (.int .i64)) rc := ⟨by simp only [wide]; omega, fun _ _ => trivial⟩
    have u2 : Bd wide (.slice .bool) rf := ⟨by simp only [wide]; omega, fun _ _ => trivial⟩
    have u3 := cnt_le (n := 3) (.slice (.int .i64)) rc ⟨l1, fun _ _ => trivial⟩
    have u4 := cnt_le (n := 3) (.slice .bool) rf ⟨l2, fun _ _ => trivial⟩
    simp only [top] at u3 u4
    have v0 : callOf pr 34 [.agg [cI rc, LB rf, B rm], .agg [cI rc, LB rf, B rm]] [] = some (B true, []) := eq_System (rc, rf, rm, ()) ⟨u1, u2, trivial, trivial⟩
    have m0 := mark_System rc rf rm 1 (by omega) (by simp only [wide]; omega) u1 u2
    have q0 := held_System rc rf rm 1 (by omega) (by simp only [wide]; omega) u1 u2
    have z0 : ¬ (markD (.slice .bool) (markD (.slice (.int .i64)) 1 rc).2 rf).2 < 0 := by
      rw [markD_end, markD_end]
      omega
    simp -implicitDefEqProofs only [a0, fa g0, a1, fa g1, t1, t2, t3, h1, h2, e1, e2, BEq.rfl, beq_self_eq_true, k1, k2, fa k3, eq_self_iff_true, v0, m0, q0, fa z0, go_sem, Nat.reduceAdd, Nat.reduceSub, Nat.reduceMul, Nat.reduceMod, Nat.reduceLT, Nat.reduceLeDiff, Nat.reduceEqDiff, Nat.reduceBEq, Nat.reduceDiv, Int.reduceLT, Int.reduceLE, Int.reduceToNat, Int.reduceNeg, Int.reduceEq, ↓reduceIte, reduceCtorEq, ↓reduceDIte]
end Go.Proofs.Ythmnlokdikomkaa.PI
