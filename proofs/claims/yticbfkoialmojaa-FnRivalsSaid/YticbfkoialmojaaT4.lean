/- Phases; how many misses there are at least. -/
import Derived.Test.YticbfkoialmojaaO5
import Derived.Test.YticbfkoialmojaaN3
import Derived.Test.YticbfkoialmojaaD4
namespace Go.Proofs.Yticbfkoialmojaa.PI
open Go Go.Q
set_option maxRecDepth 100000
set_option linter.unusedSimpArgs false
set_option linter.unusedVariables false
set_option maxHeartbeats 4000000
set_option maxHeartbeats 8000000
/-- How many different ones. -/
def dist (l : List Int) : Nat := (dedL l).length
theorem ded_mem (x : Int) : ∀ l : List Int, x ∈ dedL l ↔ x ∈ l
  | [] => by simp [dedL]
  | a :: l => by
    have ih := ded_mem x l
    simp only [dedL, List.mem_cons, List.mem_filter, ih]
    by_cases h : x = a
    · simp [h]
    · simp [h]
theorem ded_nodup : ∀ l : List Int, (dedL l).Pairwise (· ≠ ·)
  | [] => by simp [dedL]
  | a :: l => by
    simp only [dedL, List.pairwise_cons]
    refine ⟨fun y hy => ?_, (ded_nodup l).sublist List.filter_sublist⟩
    have := (List.mem_filter.1 hy).2
    simp at this
    exact fun e => this e.symm
theorem filter_ne_self {a : Int} : ∀ {l : List Int}, a ∉ l → (l.filter fun x => decide (x ≠ a)) = l := by
  intro l h
  rw [List.filter_eq_self]
  intro x hx
  have : x ≠ a := fun e => h (e ▸ hx)
  simpa using this
theorem dist_in {a : Int} {l : List Int} (h : a ∈ l) : dist (a :: l) = dist l := by
  have hm : a ∈ dedL l := (ded_mem a l).2 h
  have hn := ded_nodup l
  have key : ∀ d : List Int, d.Pairwise (· ≠ ·) → a ∈ d → (d.filter fun x => decide (x ≠ a)).length + 1 = d.length := by
    intro d
    induction d with
    | nil => intro _ h; cases h
    | cons y d ih =>
      intro hn hm
      rw [List.pairwise_cons] at hn
      by_cases hy : y = a
      · subst hy
        have : y ∉ d := fun h => hn.1 y h rfl
        rw [List.filter_cons, if_neg (by simp), filter_ne_self this]; rfl
      · have hm' : a ∈ d := by
          rcases List.mem_cons.1 hm with h | h
          · exact absurd h.symm hy
          · exact h
        rw [List.filter_cons, if_pos (by simpa using hy), List.length_cons, ih hn.2 hm', List.length_cons]
  have := key (dedL l) hn hm
  unfold dist
  simp only [dedL, List.length_cons]
  have e : (fun x => !decide (x = a)) = fun x => decide (x ≠ a) := by funext x; simp
  simp only [ne_eq, decide_not] at this ⊢
  exact this
theorem dist_out {a : Int} {l : List Int} (h : a ∉ l) : dist (a :: l) = dist l + 1 := by
  have hm : a ∉ dedL l := fun e => h ((ded_mem a l).1 e)
  unfold dist
  simp only [dedL, List.length_cons]
  rw [filter_ne_self hm]
theorem dist_one (a : Int) : dist [a] = 1 := rfl
/-- Phases: those that begin behind; the present one's uses, the last one first; how many there are. -/
def phC (w : Nat) : List Int → Nat → List Int → Nat
  | _, n, [] => n
  | cur, n, a :: rest => if cur = [] ∨ w < dist (a :: cur) then phC w [a] (n + 1) rest else phC w (a :: cur) n rest
theorem phC_ge (w : Nat) : ∀ (rest cur : List Int) (n : Nat), n ≤ phC w cur n rest
  | [], _, n => Nat.le_refl _
  | a :: rest, cur, n => by
    unfold phC
    split
    · have := phC_ge w rest [a] (n + 1); omega
    · exact phC_ge w rest (a :: cur) n
/-- New ones. -/
def newD (now0 l : List Int) : Nat := ((dedL l).filter fun x => !now0.contains x).length
theorem newD_in {a : Int} {l now0 : List Int} (h : a ∈ l) : newD now0 (a :: l) = newD now0 l := by
  have hp : List.Perm (dedL (a :: l)) (dedL l) := by
    rw [List.perm_iff_count]
    intro x
    have c1 : List.count x (dedL (a :: l)) = if x ∈ dedL (a :: l) then 1 else 0 := List.Nodup.count (ded_nodup (a :: l))
    have c2 : List.count x (dedL l) = if x ∈ dedL l then 1 else 0 := List.Nodup.count (ded_nodup l)
    rw [c1, c2]
    have : x ∈ dedL (a :: l) ↔ x ∈ dedL l := by
      rw [ded_mem, ded_mem, List.mem_cons]
      constructor
      · rintro (rfl | h')
        · exact h
        · exact h'
      · exact .inr
    simp only [this]
  exact (hp.filter _).length_eq
theorem newD_out {a : Int} {l now0 : List Int} (h : a ∉ l) : newD now0 (a :: l) = newD now0 l + if now0.contains a = true then 0 else 1 := by
  have hm : a ∉ dedL l := fun e => h ((ded_mem a l).1 e)
  unfold newD
  simp only [dedL]
  have e := filter_ne_self hm
  simp only [ne_eq, decide_not] at e ⊢
  rw [e, List.filter_cons]
  cases now0.contains a <;> simp
theorem split_len (p : Int → Bool) : ∀ l : List Int, l.length = (l.filter p).length + (l.filter fun x => !p x).length
  | [] => rfl
  | x :: l => by
    have ih := split_len p l
    rw [List.filter_cons, List.filter_cons]
    cases h : p x
    · simp only [Bool.false_eq_true, if_false, Bool.not_false, if_true, List.length_cons]; omega
    · simp only [if_true, Bool.not_true, Bool.false_eq_true, if_false, List.length_cons]; omega
theorem newD_ge {now0 : List Int} (hn : now0.Pairwise (· ≠ ·)) (l : List Int) : dist l ≤ newD now0 l + now0.length := by
  have h1 : (dedL l).length = ((dedL l).filter fun x => !now0.contains x).length + ((dedL l).filter fun x => now0.contains x).length := by
    have := split_len (fun x => now0.contains x) (dedL l)
    omega
  have h2 : ((dedL l).filter fun x => now0.contains x).length ≤ now0.length := by
    have hnd : ((dedL l).filter fun x => now0.contains x).Pairwise (· ≠ ·) := (ded_nodup l).sublist List.filter_sublist
    have hsub : ∀ x ∈ ((dedL l).filter fun x => now0.contains x), x ∈ now0 := fun x hx => by simpa using (List.mem_filter.1 hx).2
    have key : ∀ (a b : List Int), a.Pairwise (· ≠ ·) → (∀ x ∈ a, x ∈ b) → a.length ≤ b.length := by
      intro a
      induction a with
      | nil => intro b _ _; simp
      | cons x a ih =>
        intro b ha hs
        rw [List.pairwise_cons] at ha
        have hx := hs x (by simp)
        have h3 := ih (b.erase x) ha.2 (fun y hy => by
          have hyx : y ≠ x := fun e => ha.1 y hy e.symm
          exact (List.mem_erase_of_ne hyx).2 (hs y (by simp [hy])))
        have h4 := List.length_erase_of_mem hx
        have h5 : 0 < b.length := List.length_pos_of_mem hx
        simp only [List.length_cons]
        omega
    exact key _ _ hnd hsub
  unfold dist newD
  omega
/-- What a use does to what is kept. -/
theorem stepB_keeps {uses : List Int} {c i : Nat} {now : List Int} {a : Int} (hs : now.Pairwise (· < ·)) : a ∈ (stepB uses c i now a).1 ∧ (∀ x ∈ (stepB uses c i now a).1, x = a ∨ x ∈ now) ∧ ((stepB uses c i now a).2.1 = now.contains a) := by
  unfold stepB
  by_cases hc : now.contains a = true
  · rw [if_pos hc]
    exact ⟨by simpa using hc, fun x hx => .inr hx, hc.symm⟩
  · have hn : a ∉ now := by simpa using hc
    have hcf : now.contains a = false := by simpa using hn
    rw [if_neg hc]
    by_cases hw : now.length = c
    · rw [if_pos hw]
      have hne : a ∉ now.eraseIdx (lastB (fun x => waitN uses x (i + 1)) 0 (now.getD 0 0) 1 (now.drop 1)) := fun h => hn (List.mem_of_mem_eraseIdx h)
      refine ⟨(putL_perm _ a hne).mem_iff.2 (by simp), fun x hx => ?_, hcf.symm⟩
      rcases List.mem_cons.1 ((putL_perm _ a hne).mem_iff.1 hx) with h | h
      · exact .inl h
      · exact .inr (List.mem_of_mem_eraseIdx h)
    · rw [if_neg hw]
      refine ⟨(putL_perm _ a hn).mem_iff.2 (by simp), fun x hx => ?_, hcf.symm⟩
      rcases List.mem_cons.1 ((putL_perm _ a hn).mem_iff.1 hx) with h | h
      · exact .inl h
      · exact .inr h
theorem missB_cons2 (b : Bool) (l : List Bool) : missB (b :: l) = (if b = true then 0 else 1) + missB l := by
  unfold missB
  cases b
  · rw [List.filter_cons, if_pos (by rfl)]; simp; omega
  · rw [List.filter_cons, if_neg (by simp)]; simp
/-- At least so many misses: one, for each phase that is over as many as its addresses and the next one exceed what was kept, and one for each new address of the present phase. -/
theorem least_miss (uses : List Int) {w c : Nat} (hc : 1 ≤ c ∧ c ≤ w) : ∀ (rest : List Int) (i : Nat) (now cur now0 : List Int) (n M : Nat), cur ≠ [] → 1 ≤ n → now.Pairwise (· < ·) → now.length ≤ c → now0.Pairwise (· ≠ ·) → now0.length ≤ c → (∀ x ∈ now, x ∈ now0 ∨ x ∈ cur) → dist cur ≤ w → 1 + (n - 1) * (w + 1 - c) + newD now0 cur ≤ M →
    1 + (phC w cur n rest - 1) * (w + 1 - c) ≤ M + missB (runB uses c i now rest)
  | [], i, now, cur, now0, n, M, hcur, hn, hs, hl, hn0, hl0, hsub, hd, hM => by
    simp only [phC, runB, missB, List.filter_nil, List.length_nil]
    omega
  | a :: rest, i, now, cur, now0, n, M, hcur, hn, hs, hl, hn0, hl0, hsub, hd, hM => by
    obtain ⟨k1, k2, k3⟩ := stepB_keeps (uses := uses) (c := c) (i := i) (a := a) hs
    obtain ⟨t1, t2⟩ := stepB_ok uses hc.1 i a hs hl
    simp only [runB]
    rw [missB_cons2, k3]
    have hmiss : a ∉ cur → now0.contains a = false → now.contains a = false := by
      intro h1 h2
      rw [Bool.eq_false_iff]
      intro h
      have hm : a ∈ now := by simpa using h
      rcases hsub a hm with h' | h'
      · have : now0.contains a = true := by simpa using h'
        rw [this] at h2; cases h2
      · exact h1 h'
    unfold phC
    by_cases hb : w < dist (a :: cur)
    · rw [if_pos (.inr hb)]
      have hac : a ∉ cur := fun h => by rw [dist_in h] at hb; omega
      have hg := newD_ge hn0 (a :: cur)
      rw [newD_out hac] at hg
      have hstep : (w + 1 - c) ≤ newD now0 cur + if now.contains a = true then 0 else 1 := by
        cases h0 : now0.contains a with
        | true => rw [h0, if_pos rfl] at hg; split <;> omega
        | false =>
          rw [h0, if_neg (by simp)] at hg
          rw [hmiss hac h0, if_neg (by simp)]
          omega
      have ih := least_miss uses hc rest (i + 1) _ [a] (stepB uses c i now a).1 (n + 1) (M + if now.contains a = true then 0 else 1) (by simp) (by omega) t1 t2 (t1.imp fun {a b} h => by omega) t2 (fun x hx => .inl hx) (by rw [dist_one]; omega) (by
        have hz : newD (stepB uses c i now a).1 [a] = 0 := by
          have : (stepB uses c i now a).1.contains a = true := by simpa using k1
          have h1 := newD_out (a := a) (l := []) (now0 := (stepB uses c i now a).1) (by simp)
          rw [this, if_pos rfl] at h1
          rw [h1]
          rfl
        rw [hz]
        have hmul : (n + 1 - 1) * (w + 1 - c) = (n - 1) * (w + 1 - c) + (w + 1 - c) := by
          rw [show n + 1 - 1 = (n - 1) + 1 by omega, Nat.add_mul, Nat.one_mul]
        omega)
      omega
    · rw [if_neg (by rintro (h | h); exact hcur h; exact hb h)]
      have ih := least_miss uses hc rest (i + 1) _ (a :: cur) now0 n (M + if now.contains a = true then 0 else 1) (by simp) hn t1 t2 hn0 hl0 (fun x hx => by
        rcases k2 x hx with rfl | h
        · right; simp
        · rcases hsub x h with h | h
          · exact .inl h
          · right; simp [h]) (by omega) (by
        by_cases hac : a ∈ cur
        · rw [newD_in hac]; split <;> omega
        · rw [newD_out hac]
          cases h0 : now0.contains a with
          | true => rw [if_pos rfl]; split <;> omega
          | false =>
            rw [if_neg (by simp), hmiss hac h0, if_neg (by simp)]
            omega)
      omega
theorem least_all (uses : List Int) {w c : Nat} (hc : 1 ≤ c ∧ c ≤ w) (h : uses ≠ []) : 1 + (phC w [] 0 uses - 1) * (w + 1 - c) ≤ missB (runB uses c 0 [] uses) := by
  cases uses with
  | nil => exact absurd rfl h
  | cons a rest =>
    have hs0 : ([] : List Int).Pairwise (· < ·) := List.Pairwise.nil
    obtain ⟨k1, k2, k3⟩ := stepB_keeps (uses := a :: rest) (c := c) (i := 0) (now := []) (a := a) hs0
    obtain ⟨t1, t2⟩ := stepB_ok (a :: rest) hc.1 0 (now := []) a hs0 (by simp)
    have hz : newD (stepB (a :: rest) c 0 [] a).1 [a] = 0 := by
      have : (stepB (a :: rest) c 0 [] a).1.contains a = true := by simpa using k1
      have h1 := newD_out (a := a) (l := []) (now0 := (stepB (a :: rest) c 0 [] a).1) (by simp)
      rw [this, if_pos rfl] at h1
      rw [h1]
      rfl
    have ih := least_miss (a :: rest) hc rest 1 _ [a] (stepB (a :: rest) c 0 [] a).1 1 1 (by simp) (Nat.le_refl _) t1 t2 (t1.imp fun {a b} h => by omega) t2 (fun x hx => .inl hx) (by rw [dist_one]; omega) (by rw [hz]; simp)
    simp only [runB]
    rw [missB_cons2, k3]
    unfold phC
    rw [if_pos (.inl rfl)]
    simp only [List.contains_nil, Bool.false_eq_true, if_false]
    exact ih
theorem ded_append : ∀ (cur old : List Int), dedL (cur ++ old) = dedL cur ++ (dedL old).filter fun x => !cur.contains x
  | [], old => by
    have : (fun x : Int => !([] : List Int).contains x) = fun _ => true := by funext x; simp
    rw [this, List.filter_eq_self.2 (fun _ _ => rfl)]
    rfl
  | a :: cur, old => by
    have ih := ded_append cur old
    simp only [List.cons_append, dedL, ih, List.filter_append, List.filter_filter]
    congr 2
    apply List.filter_congr
    intro x _
    rw [List.contains_cons, Bool.not_or]
    by_cases h : x = a
    · rw [h]; simp
    · have : (x == a) = false := by simpa using h
      rw [this]; simp [h]
theorem kept {w : Nat} {cur old : List Int} {a : Int} (h : a ∈ cur) (hd : dist cur ≤ w) : (keepL w (dedL (cur ++ old))).contains a = true := by
  have hm := (ded_mem a cur).2 h
  have : a ∈ keepL w (dedL (cur ++ old)) := by
    unfold keepL
    rw [ded_append, List.append_assoc, List.take_append]
    refine List.mem_append.2 (.inl ?_)
    unfold dist at hd
    rw [List.take_of_length_le hd]
    exact hm
  simpa using this
theorem ageOf_mem2 {a : Int} {now : List Int} : (ageOf a now).isSome = now.contains a := by
  unfold ageOf
  rw [List.findIdx?_isSome, List.contains_eq_any_beq]
  congr 1
  funext x
  by_cases h : x = a
  · rw [h]; simp
  · have h2 : ¬ a = x := fun e => h e.symm
    simp [h, h2]
theorem step_hit (hit : List (List Int)) (miss now : List Int) (a : Int) : (stepC hit miss now a).2.2 = now.contains a := by
  rw [← ageOf_mem2]
  unfold stepC
  cases ageOf a now <;> rfl
theorem missN_cons (h : Int) (hs : List Int) : missN (h :: hs) = (1 - h) + missN hs := by
  unfold missN
  simp only [List.length_cons, List.sum_cons]
  omega
theorem lru_next {w : Nat} (hw : 1 ≤ w) {a : Int} (ha : 0 ≤ a) (rv : List Int) : (stepC (lruH w) (mvF w (w - 1)) (keepL w (dedL rv)) a).1 = keepL w (dedL (a :: rv)) := by
  rw [lru_step (keepL_length w _) hw a (keep_once ha w rv), keep_step ha rv hw]
theorem most_miss {w : Nat} (hw : 1 ≤ w) : ∀ (rest cur old : List Int) (n : Nat) (N : Int), (∀ a ∈ rest, 0 ≤ a) → (n = 0 → cur = [] ∧ N = 0) → (1 ≤ n → cur ≠ []) → dist cur ≤ w → N ≤ ((n - 1 : Nat) : Int) * w + dist cur →
    N + missN (runC (lruH w) (mvF w (w - 1)) (keepL w (dedL (cur ++ old))) rest).1 ≤ (phC w cur n rest : Int) * w
  | [], cur, old, n, N, ha, h0, h1, hd, hN => by
    simp only [runC, phC]
    have e : missN [] = 0 := rfl
    rw [e]
    cases n with
    | zero => have := (h0 rfl).2; simp; omega
    | succ n =>
      rw [Nat.add_sub_cancel] at hN
      have : ((n + 1 : Nat) : Int) * w = (n : Int) * w + w := by
        rw [Int.natCast_add, Int.add_mul]; simp
      omega
  | a :: rest, cur, old, n, N, ha, h0, h1, hd, hN => by
    have har := ha a (by simp)
    have hnx := lru_next hw har (cur ++ old)
    have hh := step_hit (lruH w) (mvF w (w - 1)) (keepL w (dedL (cur ++ old))) a
    simp only [runC]
    rw [missN_cons, hnx, hh]
    have hbit : (0 : Int) ≤ 1 - (if (keepL w (dedL (cur ++ old))).contains a = true then 1 else 0) ∧ 1 - (if (keepL w (dedL (cur ++ old))).contains a = true then (1 : Int) else 0) ≤ 1 := by split <;> omega
    unfold phC
    by_cases hb : cur = [] ∨ w < dist (a :: cur)
    · rw [if_pos hb]
      have ih := most_miss hw rest [a] (cur ++ old) (n + 1) (N + (1 - (if (keepL w (dedL (cur ++ old))).contains a = true then 1 else 0))) (fun x hx => ha x (by simp [hx])) (by omega) (by simp) (by rw [dist_one]; exact hw) (by
        rw [dist_one, Nat.add_sub_cancel]
        cases n with
        | zero => have := (h0 rfl).2; simp; omega
        | succ n =>
          rw [Nat.add_sub_cancel] at hN
          have : ((n + 1 : Nat) : Int) * w = (n : Int) * w + w := by
            rw [Int.natCast_add, Int.add_mul]; simp
          omega)
      simp only [List.cons_append, List.nil_append] at ih
      omega
    · rw [if_neg hb]
      have hcur : cur ≠ [] := fun e => hb (.inl e)
      have hd2 : dist (a :: cur) ≤ w := by
        rcases Nat.lt_or_ge w (dist (a :: cur)) with h | h
        · exact absurd (.inr h) hb
        · exact h
      have ih := most_miss hw rest (a :: cur) old n (N + (1 - (if (keepL w (dedL (cur ++ old))).contains a = true then 1 else 0))) (fun x hx => ha x (by simp [hx])) (fun e => absurd (h0 e).1 hcur) (by simp) hd2 (by
        by_cases hac : a ∈ cur
        · rw [kept hac hd, if_pos rfl, dist_in hac]; omega
        · rw [dist_out hac]; omega)
      simp only [List.cons_append] at ih
      omega
theorem most_all {w : Nat} (hw : 1 ≤ w) (uses : List Int) (ha : ∀ a ∈ uses, 0 ≤ a) : missN (runC (lruH w) (mvF w (w - 1)) (List.replicate w (-1)) uses).1 ≤ (phC w [] 0 uses : Int) * w := by
  have h := most_miss hw uses [] [] 0 0 ha (fun _ => ⟨rfl, rfl⟩) (by omega) (by simp [dist, dedL]) (by simp [dist, dedL])
  rw [List.nil_append, keep_empty] at h
  omega
theorem len_sub : ∀ (a b : List Int), a.Pairwise (· ≠ ·) → (∀ x ∈ a, x ∈ b) → a.length ≤ b.length
  | [], b, _, _ => by simp
  | x :: a, b, ha, hs => by
    rw [List.pairwise_cons] at ha
    have hx := hs x (by simp)
    have h3 := len_sub a (b.erase x) ha.2 (fun y hy => by
      have hyx : y ≠ x := fun e => ha.1 y hy e.symm
      exact (List.mem_erase_of_ne hyx).2 (hs y (by simp [hy])))
    have h4 := List.length_erase_of_mem hx
    have h5 : 0 < b.length := List.length_pos_of_mem hx
    simp only [List.length_cons]
    omega
theorem pushC_props : ∀ (l : List Int) (c : Int), (c :: l).Pairwise (· ≤ ·) → (pushC c l).Pairwise (· < ·) ∧ (∀ x ∈ pushC c l, c < x) ∧ (∀ x ∈ l, x = c ∨ x ∈ pushC c l) ∧ (∀ x ∈ pushC c l, x ∈ l)
  | [], c, _ => by simp [pushC]
  | e :: r, c, h => by
    rw [List.pairwise_cons] at h
    have hce := h.1 e (by simp)
    obtain ⟨i1, i2, i3, i4⟩ := pushC_props r e h.2
    simp only [pushC]
    by_cases hec : e = c
    · rw [if_pos hec]
      subst hec
      refine ⟨i1, i2, fun x hx => ?_, fun x hx => by simp [i4 x hx]⟩
      rcases List.mem_cons.1 hx with rfl | hx
      · exact .inl rfl
      · exact i3 x hx
    · rw [if_neg hec]
      refine ⟨List.pairwise_cons.2 ⟨i2, i1⟩, fun x hx => ?_, fun x hx => ?_, fun x hx => ?_⟩
      · rcases List.mem_cons.1 hx with rfl | hx
        · omega
        · have := i2 x hx; omega
      · rcases List.mem_cons.1 hx with rfl | hx
        · right; simp
        · rcases i3 x hx with rfl | h'
          · right; simp
          · right; simp [h']
      · rcases List.mem_cons.1 hx with rfl | hx
        · simp
        · simp [i4 x hx]
theorem comp_props (l : List Int) (h : l.Pairwise (· ≤ ·)) : (comp l).Pairwise (· ≠ ·) ∧ ∀ x, x ∈ comp l ↔ x ∈ l := by
  cases l with
  | nil => simp [comp]
  | cons c r =>
    obtain ⟨i1, i2, i3, i4⟩ := pushC_props r c h
    simp only [comp]
    refine ⟨List.pairwise_cons.2 ⟨fun y hy => by have := i2 y hy; omega, i1.imp fun {a b} h => by omega⟩, fun x => ?_⟩
    rw [List.mem_cons, List.mem_cons]
    constructor
    · rintro (h | h)
      · exact .inl h
      · exact .inr (i4 x h)
    · rintro (h | h)
      · exact .inl h
      · exact i3 x h
theorem comp_dist {seg l : List Int} (h : ∀ x, x ∈ seg ↔ x ∈ l) : (comp (sortI seg)).length = dist l := by
  obtain ⟨c1, c2⟩ := comp_props (sortI seg) (sortI_le seg)
  have hm : ∀ x, x ∈ comp (sortI seg) ↔ x ∈ dedL l := fun x => by
    rw [c2, (sortI_perm seg).mem_iff, h, ded_mem]
  have h1 := len_sub _ _ c1 (fun x hx => (hm x).1 hx)
  have h2 := len_sub _ _ (ded_nodup l) (fun x hx => (hm x).2 hx)
  unfold dist
  omega
abbrev PHT (uses : List Int) (w k : Int) : Slots := [(0, L uses), (1, I w), (6, .os (.t 1024)), (18, I uses.length), (19, I k)]
theorem ph_0 (uses : List Int) (w k : Nat) (hk : k < uses.length) (hb : uses.length ≤ 60) : loopOf pr 22 0 ⟨PHT uses w k, [(1024, .arr true false (.int .i64) [])]⟩ = loopOf pr 22 0 ⟨PHT uses w ((k + 1 : Nat) : Int), [(1024, .arr true false (.int .i64) [(k : Int)])]⟩ := by
  have hw : IntKind.i64.wrap ((k : Int) + 1) = ((k + 1 : Nat) : Int) := by rw [wrap_i] <;> omega
  rw [loop_eq pr 22 0 _ Try.f22 fn_22 _ rfl _ ann_22 _ rfl]
  simp -implicitDefEqProofs only [lt_cast hk, hw, Int.natCast_zero, go_sem, Nat.reduceAdd, Nat.reduceSub, Nat.reduceMul, Nat.reduceMod, Nat.reduceLT, Nat.reduceLeDiff, Nat.reduceEqDiff, Nat.reduceBEq, Nat.reduceDiv, Int.reduceLT, Int.reduceLE, Int.reduceToNat, Int.reduceNeg, Int.reduceEq, ↓reduceIte, reduceCtorEq, ↓reduceDIte]
theorem ph_1 (uses out : List Int) (w k s : Nat) (seg : List Int) (hk : k < uses.length) (hb : uses.length ≤ 60) (ho : 0 < out.length) (hob : out.length ≤ 60) (hs : ∀ z, out.getD (out.length - 1) z = (s : Int)) (hsk : s ≤ k) (hseg : (uses.drop s).take (k + 1 - s) = seg) (g : callOf pr 52 [L seg] [] = some (.os (.t 320), [(320, .arr true false (.int .i64) (comp (sortI seg)))])) :
    loopOf pr 22 0 ⟨PHT uses w k, [(1024, .arr true false (.int .i64) out)]⟩ = loopOf pr 22 0 ⟨PHT uses w ((k + 1 : Nat) : Int), [(1024, .arr true false (.int .i64) (if w < (comp (sortI seg)).length then out ++ [(k : Int)] else out))]⟩ := by
  have h0 : ((out.length : Int) = 0) = False := fa (by omega)
  have hw : IntKind.i64.wrap ((k : Int) + 1) = ((k + 1 : Nat) : Int) := by rw [wrap_i] <;> omega
  have hw2 : IntKind.i64.wrap ((out.length : Int) - 1) = ((out.length - 1 : Nat) : Int) := by rw [wrap_i] <;> omega
  have e4 : (((out.length - 1 : Nat) : Int) < (out.length : Int)) = True := tr (by omega)
  have e5 : ((s : Int) ≤ ((k + 1 : Nat) : Int)) = True := tr (by omega)
  have e6 : (((k + 1 : Nat) : Int) ≤ (uses.length : Int)) = True := tr (by omega)
  have r1 : ((out.length + 1) * 8 ≤ 140737488355328 ∧ out.length ≤ 9223372036854775806) = True := tr ⟨by omega, by omega⟩
  have gl := call_43 (comp (sortI seg))
  generalize comp (sortI seg) = cs at *
  rw [loop_eq pr 22 0 _ Try.f22 fn_22 _ rfl _ ann_22 _ rfl]
  by_cases hlt : w < cs.length
  · rw [if_pos hlt]
    simp -implicitDefEqProofs only [lt_cast hk, h0, hw, hw2, hs, e4, e5, e6, hseg, g, gl, r1, lt_cast hlt, zero_le_cast, Int.toNat_natCast, go_sem, Nat.reduceAdd, Nat.reduceSub, Nat.reduceMul, Nat.reduceMod, Nat.reduceLT, Nat.reduceLeDiff, Nat.reduceEqDiff, Nat.reduceBEq, Nat.reduceDiv, Int.reduceLT, Int.reduceLE, Int.reduceToNat, Int.reduceNeg, Int.reduceEq, ↓reduceIte, reduceCtorEq, ↓reduceDIte]
  · have hnl : ((w : Int) < (cs.length : Int)) = False := fa (by omega)
    rw [if_neg hlt]
    simp -implicitDefEqProofs only [lt_cast hk, h0, hw, hw2, hs, e4, e5, e6, hseg, g, gl, hnl, zero_le_cast, Int.toNat_natCast, go_sem, Nat.reduceAdd, Nat.reduceSub, Nat.reduceMul, Nat.reduceMod, Nat.reduceLT, Nat.reduceLeDiff, Nat.reduceEqDiff, Nat.reduceBEq, Nat.reduceDiv, Int.reduceLT, Int.reduceLE, Int.reduceToNat, Int.reduceNeg, Int.reduceEq, ↓reduceIte, reduceCtorEq, ↓reduceDIte]
theorem ph_e (uses out : List Int) (w : Nat) : loopOf pr 22 0 ⟨PHT uses w uses.length, [(1024, .arr true false (.int .i64) out)]⟩ = some (.exit 0, ⟨PHT uses w uses.length, [(1024, .arr true false (.int .i64) out)]⟩) := by
  rw [loop_eq pr 22 0 _ Try.f22 fn_22 _ rfl _ ann_22 _ rfl]
  simp -implicitDefEqProofs only [Int.lt_irrefl, go_sem, Nat.reduceAdd, Nat.reduceSub, Nat.reduceMul, Nat.reduceMod, Nat.reduceLT, Nat.reduceLeDiff, Nat.reduceEqDiff, Nat.reduceBEq, Nat.reduceDiv, Int.reduceLT, Int.reduceLE, Int.reduceToNat, Int.reduceNeg, Int.reduceEq, ↓reduceIte, reduceCtorEq, ↓reduceDIte]
theorem ph_l (uses : List Int) (hb : uses.length ≤ 60) (w : Nat) : ∀ (rest : List Int) (k s : Nat) (out cur : List Int), uses.drop k = rest → k ≤ uses.length → out.length ≤ k → 0 < out.length → (∀ z, out.getD (out.length - 1) z = (s : Int)) → s < k → (uses.drop s).take (k - s) = cur.reverse → cur ≠ [] →
    ∃ out', List.length out' = phC w cur out.length rest ∧ loopOf pr 22 0 ⟨PHT uses w k, [(1024, .arr true false (.int .i64) out)]⟩ = some (.exit 0, ⟨PHT uses w uses.length, [(1024, .arr true false (.int .i64) out')]⟩)
  | [], k, s, out, cur, e, hk, ho, hp, hs, hsk, hcur, hne => by
    have hk2 : k = uses.length := by
      have := congrArg List.length e
      simp only [List.length_drop, List.length_nil] at this
      omega
    subst hk2
    exact ⟨out, rfl, ph_e uses out w⟩
  | a :: rest, k, s, out, cur, e, hk, ho, hp, hs, hsk, hcur, hne => by
    have hlt : k < uses.length := by
      have := congrArg List.length e
      simp only [List.length_drop, List.length_cons] at this
      omega
    have ha0 : uses[k]? = some a := by
      have := congrArg (·[0]?) e
      simpa using this
    have e' : uses.drop (k + 1) = rest := by
      have := congrArg (·.drop 1) e
      simpa using this
    have hseg : (uses.drop s).take (k + 1 - s) = (a :: cur).reverse := by
      rw [show k + 1 - s = (k - s) + 1 by omega, List.take_add_one, hcur, List.getElem?_drop, show s + (k - s) = k by omega, ha0]
      simp
    have hd : (comp (sortI (a :: cur).reverse)).length = dist (a :: cur) := comp_dist (fun x => List.mem_reverse)
    have g := call_st (a :: cur).reverse (by simp) (by
      have := congrArg List.length hseg
      simp only [List.length_take, List.length_drop] at this
      omega)
    have hst := ph_1 uses out w k s (a :: cur).reverse hlt hb hp (by omega) hs (by omega) hseg g
    rw [hd] at hst
    unfold phC
    by_cases hw : w < dist (a :: cur)
    · rw [if_pos hw] at hst
      rw [if_pos (.inr hw)]
      obtain ⟨out', q1, q2⟩ := ph_l uses hb w rest (k + 1) k (out ++ [(k : Int)]) [a] e' (by omega) (by simp; omega) (by simp) (fun z => by simp [List.getD]) (by omega) (by
        rw [show k + 1 - k = 0 + 1 by omega, List.take_add_one, List.getElem?_drop, Nat.add_zero, ha0]; simp) (by simp)
      rw [show (out ++ [(k : Int)]).length = out.length + 1 by simp] at q1
      exact ⟨out', q1, by rw [hst]; exact q2⟩
    · rw [if_neg hw] at hst
      rw [if_neg (by rintro (h | h); exact hne h; exact hw h)]
      obtain ⟨out', q1, q2⟩ := ph_l uses hb w rest (k + 1) s out (a :: cur) e' (by omega) (by omega) hp hs (by omega) hseg (by simp)
      exact ⟨out', q1, by rw [hst]; exact q2⟩
theorem call_ph (uses : List Int) (w : Nat) (hw : 1 ≤ w ∧ w ≤ 6) (hv : validU uses = true) : ∃ out, List.length out = phC w [] 0 uses ∧ callOf pr 22 [L uses, I w] [] = some (.tuple [.os (.t 1024), B true], [(1024, .arr true false (.int .i64) out)]) := by
  have hb : uses.length ≤ 60 := by simp only [validU, Bool.and_eq_true, decide_eq_true_eq] at hv; exact hv.2
  have g1 := call_vu uses (by omega)
  rw [hv] at g1
  have g2 := call_51 (w : Int) 1 64
  rw [decide_eq_true (show (1 : Int) ≤ (w : Int) ∧ (w : Int) ≤ 64 by omega)] at g2
  have h : ∃ out, List.length out = phC w [] 0 uses ∧ loopOf pr 22 0 ⟨PHT uses w 0, [(1024, .arr true false (.int .i64) [])]⟩ = some (.exit 0, ⟨PHT uses w uses.length, [(1024, .arr true false (.int .i64) out)]⟩) := by
    cases hu : uses with
    | nil => exact ⟨[], rfl, ph_e [] [] w⟩
    | cons a rest =>
      obtain ⟨out', q1, q2⟩ := ph_l (a :: rest) (by rw [← hu]; exact hb) w rest 1 0 [0] [a] rfl (by simp) (by simp) (by simp) (fun z => rfl) (by omega) rfl (by simp)
      refine ⟨out', ?_, ?_⟩
      · rw [q1]
        conv => rhs; unfold phC
        rw [if_pos (.inl rfl)]
        rfl
      · have h0 := ph_0 (a :: rest) w 0 (by simp) (by rw [← hu]; exact hb)
        have h0 : loopOf pr 22 0 ⟨PHT (a :: rest) w 0, [(1024, .arr true false (.int .i64) [])]⟩ = loopOf pr 22 0 ⟨PHT (a :: rest) w ((1 : Nat) : Int), [(1024, .arr true false (.int .i64) [0])]⟩ := h0
        rw [h0]
        exact q2
  obtain ⟨out, q1, q2⟩ := h
  refine ⟨out, q1, ?_⟩
  rw [call_eq pr 22 _ _ Try.f22 fn_22 _ rfl _ ann_22 rfl]
  simp -implicitDefEqProofs only [g1, g2, q2, go_sem, Nat.reduceAdd, Nat.reduceSub, Nat.reduceMul, Nat.reduceMod, Nat.reduceLT, Nat.reduceLeDiff, Nat.reduceEqDiff, Nat.reduceBEq, Nat.reduceDiv, Int.reduceLT, Int.reduceLE, Int.reduceToNat, Int.reduceNeg, Int.reduceEq, ↓reduceIte, reduceCtorEq, ↓reduceDIte]
theorem call_io (uses : List Int) (w : Nat) (hw : 1 ≤ w ∧ w ≤ 6) (hv : validU uses = true) : callOf pr 41 [L uses, I w] [] = some (B true, []) := by
  have hb : uses.length ≤ 60 := by simp only [validU, Bool.and_eq_true, decide_eq_true_eq] at hv; exact hv.2
  have g1 := call_vu uses (by omega)
  rw [hv] at g1
  have g2 := call_ways w
  rw [decide_eq_true (show (1 : Int) ≤ (w : Int) ∧ (w : Int) ≤ 6 by omega)] at g2
  rw [call_eq pr 41 _ _ Try.f41 fn_41 _ rfl _ ann_41 rfl]
  simp -implicitDefEqProofs only [g1, g2, go_sem, Nat.reduceAdd, Nat.reduceSub, Nat.reduceMul, Nat.reduceMod, Nat.reduceLT, Nat.reduceLeDiff, Nat.reduceEqDiff, Nat.reduceBEq, Nat.reduceDiv, Int.reduceLT, Int.reduceLE, Int.reduceToNat, Int.reduceNeg, Int.reduceEq, ↓reduceIte, reduceCtorEq, ↓reduceDIte]
theorem call_bms (uses : List Int) (w : Nat) (hw : 1 ≤ w ∧ w ≤ 6) (hv : validU uses = true) : callOf pr 17 [L uses, I w] [] = some (.tuple [I (missB (runB uses w 0 [] uses)), B true], []) := by
  have hb : uses.length ≤ 60 := by simp only [validU, Bool.and_eq_true, decide_eq_true_eq] at hv; exact hv.2
  have hu63 : ∀ x ∈ uses, 0 ≤ x ∧ x ≤ 63 := by
    simp only [validU, Bool.and_eq_true, List.all_eq_true, addrB, decide_eq_true_eq] at hv
    exact hv.1
  have g1 := call_io uses w hw hv
  have g2 := call_bm uses hb hu63 w (by omega)
  rw [call_eq pr 17 _ _ Try.f17 fn_17 _ rfl _ ann_17 rfl]
  simp -implicitDefEqProofs only [g1, g2, go_sem, Nat.reduceAdd, Nat.reduceSub, Nat.reduceMul, Nat.reduceMod, Nat.reduceLT, Nat.reduceLeDiff, Nat.reduceEqDiff, Nat.reduceBEq, Nat.reduceDiv, Int.reduceLT, Int.reduceLE, Int.reduceToNat, Int.reduceNeg, Int.reduceEq, ↓reduceIte, reduceCtorEq, ↓reduceDIte]
theorem call_atn (bs : List Int) (hb : okBy bs) (i : Nat) (hi : i < 100) (n : Nat) (hn : 1 ≤ n ∧ n ≤ 6) : ∃ v : Int, (0 ≤ v ∧ v < n) ∧ callOf pr 20 [BY bs, I i, I n] [] = some (I v, []) := by
  by_cases h1 : n = 1
  · subst h1
    refine ⟨0, by omega, ?_⟩
    rw [call_eq pr 20 _ _ Try.f20 fn_20 _ rfl _ ann_20 rfl]
    simp -implicitDefEqProofs only [show (((1 : Nat) : Int) ≤ 1) = True from tr (by omega), go_sem, Nat.reduceAdd, Nat.reduceSub, Nat.reduceMul, Nat.reduceMod, Nat.reduceLT, Nat.reduceLeDiff, Nat.reduceEqDiff, Nat.reduceBEq, Nat.reduceDiv, Int.reduceLT, Int.reduceLE, Int.reduceToNat, Int.reduceNeg, Int.reduceEq, ↓reduceIte, reduceCtorEq, ↓reduceDIte]
  have h1' : ((n : Int) ≤ 1) = False := fa (by omega)
  have h0 : ((n : Int) = 0) = False := fa (by omega)
  by_cases h : (i : Int) < bs.length
  · have hx : bs.getD i 0 ∈ bs := by
      have h' : i < bs.length := by omega
      rw [getD_of_lt h']
      exact List.getElem_mem h'
    have hr := hb.2 _ hx
    have ht := Int.tmod_eq_emod_of_nonneg (b := n) hr.1
    have m1 := Int.emod_nonneg (bs.getD i 0) (show (n : Int) ≠ 0 by omega)
    have m2 := Int.emod_lt_of_pos (bs.getD i 0) (show 0 < (n : Int) by omega)
    have hw : IntKind.i64.wrap (bs.getD i 0) = bs.getD i 0 := by rw [wrap_i] <;> omega
    have hw2 : IntKind.i64.wrap ((bs.getD i 0).tmod n) = (bs.getD i 0).tmod n := by rw [wrap_i] <;> omega
    refine ⟨(bs.getD i 0).tmod n, by omega, ?_⟩
    rw [call_eq pr 20 _ _ Try.f20 fn_20 _ rfl _ ann_20 rfl]
    simp -implicitDefEqProofs only [h1', h0, tr h, hw, hw2, zero_le_cast, Int.toNat_natCast, go_sem, Nat.reduceAdd, Nat.reduceSub, Nat.reduceMul, Nat.reduceMod, Nat.reduceLT, Nat.reduceLeDiff, Nat.reduceEqDiff, Nat.reduceBEq, Nat.reduceDiv, Int.reduceLT, Int.reduceLE, Int.reduceToNat, Int.reduceNeg, Int.reduceEq, ↓reduceIte, reduceCtorEq, ↓reduceDIte]
  · have hw1 : IntKind.i64.wrap ((i : Int) * 37) = (i : Int) * 37 := by rw [wrap_i] <;> omega
    have hw2 : IntKind.i64.wrap ((i : Int) * 37 + 11) = (i : Int) * 37 + 11 := by rw [wrap_i] <;> omega
    have ht := Int.tmod_eq_emod_of_nonneg (a := (i : Int) * 37 + 11) (b := n) (by omega)
    have m1 := Int.emod_nonneg ((i : Int) * 37 + 11) (show (n : Int) ≠ 0 by omega)
    have m2 := Int.emod_lt_of_pos ((i : Int) * 37 + 11) (show 0 < (n : Int) by omega)
    have hw3 : IntKind.i64.wrap (((i : Int) * 37 + 11).tmod n) = ((i : Int) * 37 + 11).tmod n := by rw [wrap_i] <;> omega
    refine ⟨((i : Int) * 37 + 11).tmod n, by omega, ?_⟩
    rw [call_eq pr 20 _ _ Try.f20 fn_20 _ rfl _ ann_20 rfl]
    simp -implicitDefEqProofs only [h1', h0, fa h, hw1, hw2, hw3, go_sem, Nat.reduceAdd, Nat.reduceSub, Nat.reduceMul, Nat.reduceMod, Nat.reduceLT, Nat.reduceLeDiff, Nat.reduceEqDiff, Nat.reduceBEq, Nat.reduceDiv, Int.reduceLT, Int.reduceLE, Int.reduceToNat, Int.reduceNeg, Int.reduceEq, ↓reduceIte, reduceCtorEq, ↓reduceDIte]
theorem okBy_of3 {a : List Int} (hw : Ty.WF (.slice (.int .u8)) a) (hl : ¬ 1048576 < (a.length : Int)) : okBy a := by
  refine ⟨by omega, fun x hx => ?_⟩
  have h1 := hw.2 x hx
  have h2 : IntKind.u8.min ≤ x ∧ x ≤ IntKind.u8.max := h1
  have h3 : IntKind.u8.min = 0 ∧ IntKind.u8.max = 255 := by decide
  omega
def validS (hit : List (List Int)) (miss : List Int) : Bool := decide (1 ≤ miss.length ∧ miss.length ≤ 6 ∧ hit.length = miss.length) && (sorderB miss miss.length && hit.all fun l => sorderB l miss.length)
theorem validS_eq (hit : List (List Int)) (miss : List Int) : validP hit miss = validS hit miss := by simp only [validP, validS, order_eq]
theorem lru_valid0 : ∀ n : Fin 6, validS (lruH (n.1 + 1)) (mvF (n.1 + 1) n.1) = true := by
  decide +kernel
theorem lru_valid {n : Nat} (hn : 1 ≤ n ∧ n ≤ 6) : validP (lruH n) (mvF n (n - 1)) = true := by
  have := lru_valid0 ⟨n - 1, by omega⟩
  rw [validS_eq]
  simp only [Nat.sub_add_cancel hn.1] at this
  exact this
theorem table_len {n : Nat} (hn : 1 ≤ n ∧ n ≤ 6) : ∀ l ∈ lruH n, l.length < 1000000000000000000 := by
  intro l hl
  obtain ⟨i, hi, rfl⟩ := List.mem_map.1 hl
  rw [mvF_len (List.mem_range.1 hi) hn.2]; omega
/-- The law's last test. -/
theorem rival_facts {w c p a b m : Nat} (hc : 1 ≤ c ∧ c ≤ w) (hp : 1 ≤ p) (h1 : 1 + (p - 1) * (w + 1 - w) ≤ b) (h2 : 1 + (p - 1) * (w + 1 - c) ≤ m) (h3 : a ≤ p * w) : p ≤ b ∧ (w - c + 1) * a ≤ w * m + w * (w - c + 1) := by
  refine ⟨by rw [show w + 1 - w = 1 by omega, Nat.mul_one] at h1; omega, ?_⟩
  have e : w + 1 - c = w - c + 1 := by omega
  rw [e] at h2
  generalize w - c + 1 = K at *
  obtain ⟨q, rfl⟩ : ∃ q, p = q + 1 := ⟨p - 1, by omega⟩
  rw [Nat.add_sub_cancel] at h2
  calc K * a ≤ K * ((q + 1) * w) := Nat.mul_le_mul_left K h3
    _ = w * (q * K) + w * K := by rw [Nat.add_mul, Nat.one_mul, Nat.mul_add]; congr 1 <;> ac_rfl
    _ ≤ w * m + w * K := Nat.add_le_add_right (Nat.mul_le_mul_left w (by omega)) _
theorem law_rivals (a b : List Int) (wa : Ty.WF (.slice (.int .u8)) a) (wb : Ty.WF (.slice (.int .u8)) b) : callOf pr 5 [BY a, BY b] [] = some (B true, []) := by
  have g0 := call_long a b
  by_cases h1 : 1048576 < (a.length : Int)
  · rw [decide_eq_true h1, Bool.true_or] at g0
    rw [call_eq pr 5 _ _ Try.f5 fn_5 _ rfl _ ann_5 rfl]
    simp -implicitDefEqProofs only [g0, go_sem, Nat.reduceAdd, Nat.reduceSub, Nat.reduceMul, Nat.reduceMod, Nat.reduceLT, Nat.reduceLeDiff, Nat.reduceEqDiff, Nat.reduceBEq, Nat.reduceDiv, Int.reduceLT, Int.reduceLE, Int.reduceToNat, Int.reduceNeg, Int.reduceEq, ↓reduceIte, reduceCtorEq, ↓reduceDIte]
  by_cases h2 : 1048576 < (b.length : Int)
  · rw [decide_eq_true h2, Bool.or_true] at g0
    rw [call_eq pr 5 _ _ Try.f5 fn_5 _ rfl _ ann_5 rfl]
    simp -implicitDefEqProofs only [g0, go_sem, Nat.reduceAdd, Nat.reduceSub, Nat.reduceMul, Nat.reduceMod, Nat.reduceLT, Nat.reduceLeDiff, Nat.reduceEqDiff, Nat.reduceBEq, Nat.reduceDiv, Int.reduceLT, Int.reduceLE, Int.reduceToNat, Int.reduceNeg, Int.reduceEq, ↓reduceIte, reduceCtorEq, ↓reduceDIte]
  rw [decide_eq_false h1, decide_eq_false h2, Bool.or_false] at g0
  obtain ⟨us, hus, hul, g1⟩ := call_uses a (okBy_of3 wa h1)
  obtain ⟨v, hv, g2⟩ := call_atn b (okBy_of3 wb h2) 0 (by omega) 6 (by omega)
  have g2 : callOf pr 20 [BY b, I 0, I 6] [] = some (I v, []) := g2
  obtain ⟨n, hvn⟩ : ∃ n : Nat, 1 + v = n := ⟨(1 + v).toNat, by omega⟩
  have hn : 1 ≤ n ∧ n ≤ 6 := by omega
  have hw : IntKind.i64.wrap (1 + v) = (n : Int) := by rw [hvn, wrap_i] <;> omega
  obtain ⟨u, hu, g3⟩ := call_atn b (okBy_of3 wb h2) 1 (by omega) n hn
  have g3 : callOf pr 20 [BY b, I 1, I n] [] = some (I u, []) := g3
  obtain ⟨c, huc⟩ : ∃ c : Nat, 1 + u = c := ⟨(1 + u).toNat, by omega⟩
  have hc : 1 ≤ c ∧ c ≤ n := by omega
  have hw2 : IntKind.i64.wrap (1 + u) = (c : Int) := by rw [huc, wrap_i] <;> omega
  have hvu : validU us = true := by
    simp only [validU, Bool.and_eq_true, List.all_eq_true, addrB, decide_eq_true_eq]
    exact ⟨fun x hx => by have := hus x hx; omega, by omega⟩
  have g4 := pol n hn.1 hn.2
  have hm : (mvF n (n - 1)).length = n := mvF_len (by omega) hn.2
  have f1 : fair (lruH n) (mvF n (n - 1)) us = true := by simp only [fair, lru_valid hn, hvu, Bool.and_self]
  have g5 := call_imo (lruH n) (mvF n (n - 1)) (by simp [lruH]; omega) (by omega) (table_len hn) us (by omega)
  rw [if_pos f1] at g5
  have he : emptyC (mvF n (n - 1)) = List.replicate n (-1) := by rw [emptyC, hm]
  rw [he] at g5
  have g6 := call_bms us n hn hvu
  have g7 := call_bms us c (by omega) hvu
  obtain ⟨out, hout, g8⟩ := call_ph us n hn hvu
  have hmost := most_all hn.1 us (fun x hx => (hus x hx).1)
  have hbits := sum01 _ (runC_bits (lruH n) (mvF n (n - 1)) us (List.replicate n (-1)))
  have hrl := (runC_length (lruH n) (mvF n (n - 1)) us (List.replicate n (-1))).1
  obtain ⟨N, hN, hN60⟩ : ∃ N : Nat, missN (runC (lruH n) (mvF n (n - 1)) (List.replicate n (-1)) us).1 = N ∧ N ≤ 60 := by
    unfold missN
    exact ⟨((runC (lruH n) (mvF n (n - 1)) (List.replicate n (-1)) us).1.length - (runC (lruH n) (mvF n (n - 1)) (List.replicate n (-1)) us).1.sum : Int).toNat, by omega, by omega⟩
  rw [hN] at g5 hmost
  have hmost : N ≤ phC n [] 0 us * n := by exact_mod_cast hmost
  have hb1 := missB_le (runB us n 0 [] us)
  have hb2 := missB_le (runB us c 0 [] us)
  rw [runB_length] at hb1 hb2
  have hpl : phC n [] 0 us ≤ missB (runB us n 0 [] us) ∧ (n - c + 1) * N ≤ n * missB (runB us c 0 [] us) + n * (n - c + 1) ∧ N ≤ phC n [] 0 us * n := by
    by_cases hue : us = []
    · subst hue
      have : phC n [] 0 [] = 0 := rfl
      rw [this] at hmost ⊢
      have hN0 : N = 0 := by omega
      subst hN0
      exact ⟨by omega, by simp, by omega⟩
    · have hp1 : 1 ≤ phC n [] 0 us := by
        cases hcu : us with
        | nil => exact absurd hcu hue
        | cons x l =>
          unfold phC
          rw [if_pos (.inl rfl)]
          exact phC_ge n l [x] 1
      have l1 := least_all us (w := n) (c := n) (by omega) hue
      have l2 := least_all us (w := n) (c := c) hc hue
      obtain ⟨q1, q2⟩ := rival_facts hc hp1 l1 l2 hmost
      exact ⟨q1, q2, hmost⟩
  have hpb : phC n [] 0 us ≤ 60 := by omega
  generalize missB (runB us n 0 [] us) = best at *
  generalize missB (runB us c 0 [] us) = oth at *
  generalize phC n [] 0 us = p at *
  generalize lruH n = hit1 at *
  generalize mvF n (n - 1) = ms at *
  obtain ⟨q1, q2, q3⟩ := hpl
  have c1 : ((best : Int) < (out.length : Int)) = False := fa (by omega)
  have m1 : p * n ≤ 60 * 6 := Nat.mul_le_mul hpb hn.2
  have w1 : IntKind.i64.wrap ((out.length : Int) * (n : Int)) = ((p * n : Nat) : Int) := by rw [hout, ← Int.natCast_mul, wrap_i] <;> omega
  have c2 : (((p * n : Nat) : Int) < (N : Int)) = False := fa (by omega)
  have w2 : IntKind.i64.wrap ((n : Int) - (c : Int)) = ((n - c : Nat) : Int) := by rw [wrap_i] <;> omega
  have w3 : IntKind.i64.wrap (((n - c : Nat) : Int) + 1) = ((n - c + 1 : Nat) : Int) := by rw [wrap_i] <;> omega
  have m2 : (n - c + 1) * N ≤ 7 * 60 := Nat.mul_le_mul (by omega) hN60
  have m3 : n * oth ≤ 6 * 60 := Nat.mul_le_mul hn.2 (by omega)
  have m4 : n * (n - c + 1) ≤ 6 * 7 := Nat.mul_le_mul hn.2 (by omega)
  have w4 : IntKind.i64.wrap (((n - c + 1 : Nat) : Int) * (N : Int)) = (((n - c + 1) * N : Nat) : Int) := by rw [← Int.natCast_mul, wrap_i] <;> omega
  have w5 : IntKind.i64.wrap ((n : Int) * (oth : Int)) = ((n * oth : Nat) : Int) := by rw [← Int.natCast_mul, wrap_i] <;> omega
  have w6 : IntKind.i64.wrap ((n : Int) * ((n - c + 1 : Nat) : Int)) = ((n * (n - c + 1) : Nat) : Int) := by rw [← Int.natCast_mul, wrap_i] <;> omega
  have w7 : IntKind.i64.wrap (((n * oth : Nat) : Int) + ((n * (n - c + 1) : Nat) : Int)) = ((n * oth + n * (n - c + 1) : Nat) : Int) := by rw [← Int.natCast_add, wrap_i] <;> omega
  have c3 : ((((n - c + 1) * N : Nat) : Int) ≤ ((n * oth + n * (n - c + 1) : Nat) : Int)) = True := tr (by omega)
  rw [call_eq pr 5 _ _ Try.f5 fn_5 _ rfl _ ann_5 rfl]
  simp -implicitDefEqProofs only [g0, g1, g2, hw, g3, hw2, g4, g5, g6, g7, g8, c1, c2, w1, w2, w3, w4, w5, w6, w7, c3, gt_iff_lt, go_sem, Nat.reduceAdd, Nat.reduceSub, Nat.reduceMul, Nat.reduceMod, Nat.reduceLT, Nat.reduceLeDiff, Nat.reduceEqDiff, Nat.reduceBEq, Nat.reduceDiv, Int.reduceLT, Int.reduceLE, Int.reduceToNat, Int.reduceNeg, Int.reduceEq, ↓reduceIte, reduceCtorEq, ↓reduceDIte]
end Go.Proofs.Yticbfkoialmojaa.PI
