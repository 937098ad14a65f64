/- Different ones; what the policy that replaces what has not been used for longest keeps. -/
import Derived.Test.YtjcldkfgpifebaaN3
namespace Go.Proofs.Ytjcldkfgpifebaa.PI
open Go Go.Q
set_option maxRecDepth 100000
set_option maxHeartbeats 4000000
set_option linter.unusedSimpArgs false
set_option linter.unusedVariables false

/-- How many different ones. -/
def dist (l : List Int) : Nat := (dedL l).length
theorem ded_mem (x : Int) : ∀ l : List Int, x ∈ dedL l ↔ x ∈ l
  | [] => by simp [dedL]
  | a :: l => by
    have ih := ded_mem x l
    simp only [dedL, List.mem_cons, List.mem_filter, ih]
    by_cases h : x = a
    · simp [h]
    · simp [h]
theorem ded_nodup : ∀ l : List Int, (dedL l).Pairwise (· ≠ ·)
  | [] => by simp [dedL]
  | a :: l => by
    simp only [dedL, List.pairwise_cons]
    refine ⟨fun y hy => ?_, (ded_nodup l).sublist List.filter_sublist⟩
    have := (List.mem_filter.1 hy).2
    simp at this
    exact fun e => this e.symm
theorem filter_ne_self {a : Int} : ∀ {l : List Int}, a ∉ l → (l.filter fun x => decide (x ≠ a)) = l := by
  intro l h
  rw [List.filter_eq_self]
  intro x hx
  have : x ≠ a := fun e => h (e ▸ hx)
  simpa using this
theorem dist_in {a : Int} {l : List Int} (h : a ∈ l) : dist (a :: l) = dist l := by
  have hm : a ∈ dedL l := (ded_mem a l).2 h
  have hn := ded_nodup l
  have key : ∀ d : List Int, d.Pairwise (· ≠ ·) → a ∈ d → (d.filter fun x => decide (x ≠ a)).length + 1 = d.length := by
    intro d
    induction d with
    | nil => intro _ h; cases h
    | cons y d ih =>
      intro hn hm
      rw [List.pairwise_cons] at hn
      by_cases hy : y = a
      · subst hy
        have : y ∉ d := fun h => hn.1 y h rfl
        rw [List.filter_cons, if_neg (by simp), filter_ne_self this]; rfl
      · have hm' : a ∈ d := by
          rcases List.mem_cons.1 hm with h | h
          · exact absurd h.symm hy
          · exact h
        rw [List.filter_cons, if_pos (by simpa using hy), List.length_cons, ih hn.2 hm', List.length_cons]
  have := key (dedL l) hn hm
  unfold dist
  simp only [dedL, List.length_cons]
  have e : (fun x => !decide (x = a)) = fun x => decide (x ≠ a) := by funext x; simp
  simp only [ne_eq, decide_not] at this ⊢
  exact this
theorem dist_out {a : Int} {l : List Int} (h : a ∉ l) : dist (a :: l) = dist l + 1 := by
  have hm : a ∉ dedL l := fun e => h ((ded_mem a l).1 e)
  unfold dist
  simp only [dedL, List.length_cons]
  rw [filter_ne_self hm]
theorem ded_append : ∀ (cur old : List Int), dedL (cur ++ old) = dedL cur ++ (dedL old).filter fun x => !cur.contains x
  | [], old => by
    have : (fun x : Int => !([] : List Int).contains x) = fun _ => true := by funext x; simp
    rw [this, List.filter_eq_self.2 (fun _ _ => rfl)]
    rfl
  | a :: cur, old => by
    have ih := ded_append cur old
    simp only [List.cons_append, dedL, ih, List.filter_append, List.filter_filter]
    congr 2
    apply List.filter_congr
    intro x _
    rw [List.contains_cons, Bool.not_or]
    by_cases h : x = a
    · rw [h]; simp
    · have : (x == a) = false := by simpa using h
      rw [this]; simp [h]
theorem ageOf_mem2 {a : Int} {now : List Int} : (ageOf a now).isSome = now.contains a := by
  unfold ageOf
  rw [List.findIdx?_isSome, List.contains_eq_any_beq]
  congr 1
  funext x
  by_cases h : x = a
  · rw [h]; simp
  · have h2 : ¬ a = x := fun e => h e.symm
    simp [h, h2]
theorem step_hit (hit : List (List Int)) (miss now : List Int) (a : Int) : (stepC hit miss now a).2.2 = now.contains a := by
  rw [← ageOf_mem2]
  unfold stepC
  cases ageOf a now <;> rfl
theorem missN_cons (h : Int) (hs : List Int) : missN (h :: hs) = (1 - h) + missN hs := by
  unfold missN
  simp only [List.length_cons, List.sum_cons]
  omega
theorem lru_next {w : Nat} (hw : 1 ≤ w) {a : Int} (ha : 0 ≤ a) (rv : List Int) : (stepC (lruH w) (mvF w (w - 1)) (keepL w (dedL rv)) a).1 = keepL w (dedL (a :: rv)) := by
  rw [lru_step (keepL_length w _) hw a (keep_once ha w rv), keep_step ha rv hw]
theorem len_sub : ∀ (a b : List Int), a.Pairwise (· ≠ ·) → (∀ x ∈ a, x ∈ b) → a.length ≤ b.length
  | [], b, _, _ => by simp
  | x :: a, b, ha, hs => by
    rw [List.pairwise_cons] at ha
    have hx := hs x (by simp)
    have h3 := len_sub a (b.erase x) ha.2 (fun y hy => by
      have hyx : y ≠ x := fun e => ha.1 y hy e.symm
      exact (List.mem_erase_of_ne hyx).2 (hs y (by simp [hy])))
    have h4 := List.length_erase_of_mem hx
    have h5 : 0 < b.length := List.length_pos_of_mem hx
    simp only [List.length_cons]
    omega
theorem pushC_props : ∀ (l : List Int) (c : Int), (c :: l).Pairwise (· ≤ ·) → (pushC c l).Pairwise (· < ·) ∧ (∀ x ∈ pushC c l, c < x) ∧ (∀ x ∈ l, x = c ∨ x ∈ pushC c l) ∧ (∀ x ∈ pushC c l, x ∈ l)
  | [], c, _ => by simp [pushC]
  | e :: r, c, h => by
    rw [List.pairwise_cons] at h
    have hce := h.1 e (by simp)
    obtain ⟨i1, i2, i3, i4⟩ := pushC_props r e h.2
    simp only [pushC]
    by_cases hec : e = c
    · rw [if_pos hec]
      subst hec
      refine ⟨i1, i2, fun x hx => ?_, fun x hx => by simp [i4 x hx]⟩
      rcases List.mem_cons.1 hx with rfl | hx
      · exact .inl rfl
      · exact i3 x hx
    · rw [if_neg hec]
      refine ⟨List.pairwise_cons.2 ⟨i2, i1⟩, fun x hx => ?_, fun x hx => ?_, fun x hx => ?_⟩
      · rcases List.mem_cons.1 hx with rfl | hx
        · omega
        · have := i2 x hx; omega
      · rcases List.mem_cons.1 hx with rfl | hx
        · right; simp
        · rcases i3 x hx with rfl | h'
          · right; simp
          · right; simp [h']
      · rcases List.mem_cons.1 hx with rfl | hx
        · simp
        · simp [i4 x hx]
theorem comp_props (l : List Int) (h : l.Pairwise (· ≤ ·)) : (comp l).Pairwise (· ≠ ·) ∧ ∀ x, x ∈ comp l ↔ x ∈ l := by
  cases l with
  | nil => simp [comp]
  | cons c r =>
    obtain ⟨i1, i2, i3, i4⟩ := pushC_props r c h
    simp only [comp]
    refine ⟨List.pairwise_cons.2 ⟨fun y hy => by have := i2 y hy; omega, i1.imp fun {a b} h => by omega⟩, fun x => ?_⟩
    rw [List.mem_cons, List.mem_cons]
    constructor
    · rintro (h | h)
      · exact .inl h
      · exact .inr (i4 x h)
    · rintro (h | h)
      · exact .inl h
      · exact i3 x h
theorem comp_dist {seg l : List Int} (h : ∀ x, x ∈ seg ↔ x ∈ l) : (comp (sortI seg)).length = dist l := by
  obtain ⟨c1, c2⟩ := comp_props (sortI seg) (sortI_le seg)
  have hm : ∀ x, x ∈ comp (sortI seg) ↔ x ∈ dedL l := fun x => by
    rw [c2, (sortI_perm seg).mem_iff, h, ded_mem]
  have h1 := len_sub _ _ c1 (fun x hx => (hm x).1 hx)
  have h2 := len_sub _ _ (ded_nodup l) (fun x hx => (hm x).2 hx)
  unfold dist
  omega
/-- The distances of uses behind others (the last one first). -/
def distL : List Int → List Int → List Int
  | _, [] => []
  | rv, a :: rest => ageI a (dedL rv) :: distL (a :: rv) rest
theorem distL_length : ∀ (rest rv : List Int), (distL rv rest).length = rest.length
  | [], _ => rfl
  | a :: rest, rv => by simp [distL, distL_length rest]
theorem ageI_none {a : Int} {l : List Int} : a ∉ l → ageI a l = -1 := by
  intro h
  have : ageOf a l = none := by
    have := ageOf_mem2 (a := a) (now := l)
    have hc : l.contains a = false := by simpa using h
    rw [hc] at this
    simpa using this
  rw [ageI, this]
theorem ageI_some {a : Int} {l : List Int} (h : a ∈ l) : 0 ≤ ageI a l ∧ ageI a l < l.length := by
  have hs : (ageOf a l).isSome = true := by rw [ageOf_mem2]; simpa using h
  obtain ⟨k, hk⟩ := Option.isSome_iff_exists.1 hs
  have := ageOf_lt hk
  rw [ageI, hk]
  simp only
  omega
theorem ageI_at {a : Int} : ∀ (pre post : List Int), a ∉ pre → ageI a (pre ++ a :: post) = pre.length
  | [], post, _ => by simp [ageI, ageOf, List.findIdx?_cons]
  | x :: pre, post, h => by
    have hx : ¬ x = a := fun e => h (by rw [e]; simp)
    have ih := ageI_at pre post (fun e => h (List.mem_cons_of_mem x e))
    unfold ageI ageOf at ih ⊢
    rw [List.cons_append, List.findIdx?_cons, if_neg (by simpa using hx)]
    cases hf : (pre ++ a :: post).findIdx? (fun y => decide (y = a)) with
    | none => rw [hf] at ih; simp only at ih; omega
    | some k => rw [hf] at ih; simp only [Option.map_some, List.length_cons] at ih ⊢; omega
/-- The distance is the number of different ones in between. -/
theorem age_between {a : Int} {pre : List Int} (post : List Int) (h : a ∉ pre) : ageI a (dedL (pre ++ a :: post)) = dist pre := by
  rw [ded_append]
  have hm : a ∉ dedL pre := fun e => h ((ded_mem a pre).1 e)
  have hc : (!pre.contains a) = true := by simpa using h
  rw [show dedL (a :: post) = a :: (dedL post).filter (fun x => decide (x ≠ a)) by simp [dedL], List.filter_cons, if_pos hc]
  exact ageI_at _ _ hm
theorem age_lt (rv : List Int) (a : Int) : -1 ≤ ageI a (dedL rv) ∧ ageI a (dedL rv) < rv.length + 1 ∧ (ageI a (dedL rv) < 0 → ageI a (dedL rv) = -1) ∧ (ageI a (dedL rv) = -1 ↔ a ∉ rv) ∧ (0 ≤ ageI a (dedL rv) → ageI a (dedL rv) < dist rv) := by
  have hd : dist rv ≤ rv.length := by
    exact len_sub _ _ (ded_nodup rv) (fun x hx => (ded_mem x rv).1 hx)
  by_cases h : a ∈ rv
  · have := ageI_some ((ded_mem a rv).2 h)
    have e : (dedL rv).length = dist rv := rfl
    refine ⟨by omega, by omega, by omega, ⟨fun e => by omega, fun e => absurd h e⟩, by omega⟩
  · have := ageI_none (fun e => h ((ded_mem a rv).1 e))
    exact ⟨by omega, by omega, by omega, ⟨fun _ => h, fun _ => this⟩, by omega⟩
/-- Misses of a size. -/
def curveN (ds : List Int) (n : Nat) : Nat := (ds.filter fun d => decide (d < 0 ∨ (n : Int) ≤ d)).length
def eqN (ds : List Int) (n : Nat) : Nat := (ds.filter fun d => decide (d = (n : Int))).length
theorem curveN_cons (d : Int) (ds : List Int) (n : Nat) : curveN (d :: ds) n = (if d < 0 ∨ (n : Int) ≤ d then 1 else 0) + curveN ds n := by
  unfold curveN
  rw [List.filter_cons]
  by_cases h : d < 0 ∨ (n : Int) ≤ d
  · rw [if_pos (by simpa using h), if_pos h, List.length_cons]; omega
  · rw [if_neg (by simpa using h), if_neg h]; omega
theorem eqN_cons (d : Int) (ds : List Int) (n : Nat) : eqN (d :: ds) n = (if d = (n : Int) then 1 else 0) + eqN ds n := by
  unfold eqN
  rw [List.filter_cons]
  by_cases h : d = (n : Int)
  · rw [if_pos (by simpa using h), if_pos h, List.length_cons]; omega
  · rw [if_neg (by simpa using h), if_neg h]; omega
theorem curveN_zero : ∀ ds : List Int, curveN ds 0 = ds.length
  | [] => rfl
  | d :: ds => by rw [curveN_cons, curveN_zero ds, List.length_cons, if_pos (by omega)]; omega
theorem curveN_le : ∀ (ds : List Int) (n : Nat), curveN ds n ≤ ds.length
  | [], _ => by simp [curveN]
  | d :: ds, n => by rw [curveN_cons, List.length_cons]; have := curveN_le ds n; split <;> omega
theorem curveN_step : ∀ (ds : List Int) (n : Nat), curveN ds n = curveN ds (n + 1) + eqN ds n
  | [], n => rfl
  | d :: ds, n => by
    rw [curveN_cons, curveN_cons, eqN_cons, curveN_step ds n]
    by_cases h0 : d < 0
    · rw [if_pos (.inl h0), if_pos (.inl h0), if_neg (by omega)]; omega
    · by_cases h1 : d = (n : Int)
      · rw [if_pos (.inr (by omega)), if_neg (by omega), if_pos h1]; omega
      · by_cases h2 : (n : Int) ≤ d
        · rw [if_pos (.inr h2), if_pos (.inr (by omega)), if_neg h1]; omega
        · rw [if_neg (by omega), if_neg (by omega), if_neg h1]; omega
theorem curveN_mono (ds : List Int) {n m : Nat} (h : n ≤ m) : curveN ds m ≤ curveN ds n := by
  induction m with
  | zero => obtain rfl : n = 0 := by omega
            exact Nat.le_refl _
  | succ m ih =>
    by_cases hn : n = m + 1
    · rw [hn]; exact Nat.le_refl _
    · have := ih (by omega)
      have := curveN_step ds m
      omega
/-- A size that is great enough has a miss for each different address. -/
theorem curve_end : ∀ (rest rv : List Int) (n : Nat), rv.length + rest.length ≤ n → curveN (distL rv rest) n + dist rv = dist (rest.reverse ++ rv)
  | [], rv, n, _ => by simp [distL, curveN]
  | a :: rest, rv, n, h => by
    simp only [List.length_cons] at h
    obtain ⟨q1, q2, q3, q4, q5⟩ := age_lt rv a
    have ih := curve_end rest (a :: rv) n (by simp; omega)
    simp only [distL]
    rw [curveN_cons, List.reverse_cons, List.append_assoc, List.singleton_append, ← ih]
    by_cases ha : a ∈ rv
    · have hne : ageI a (dedL rv) ≠ -1 := fun e => (q4.1 e) ha
      have hd : dist rv ≤ rv.length := len_sub _ _ (ded_nodup rv) (fun x hx => (ded_mem x rv).1 hx)
      rw [dist_in ha, if_neg (by omega)]; omega
    · have he := q4.2 ha
      rw [dist_out ha, if_pos (by omega)]; omega
theorem curve_all (uses : List Int) {n : Nat} (h : uses.length ≤ n) : curveN (distL [] uses) n = dist uses.reverse := by
  have := curve_end uses [] n (by simpa using h)
  simp only [List.append_nil] at this
  have e : dist ([] : List Int) = 0 := rfl
  omega
/-- Hits of the policy that replaces what has not been used for longest. -/
theorem keep_hit {a : Int} (ha : 0 ≤ a) (w : Nat) (l : List Int) (hnd : l.Pairwise (· ≠ ·)) : (keepL w l).contains a = decide (0 ≤ ageI a l ∧ ageI a l < w) := by
  rw [Bool.eq_iff_iff]
  simp only [List.contains_iff_mem, decide_eq_true_eq]
  unfold keepL
  by_cases hm : a ∈ l
  · obtain ⟨pre, post, rfl, hpre⟩ : ∃ pre post, l = pre ++ a :: post ∧ a ∉ pre := by
      obtain ⟨p, q, e⟩ := List.append_of_mem hm
      refine ⟨p, q, e, fun hp => ?_⟩
      rw [e, List.pairwise_append] at hnd
      exact hnd.2.2 a hp a (by simp) rfl
    rw [ageI_at pre post hpre]
    constructor
    · intro h
      refine ⟨by omega, ?_⟩
      rcases Nat.lt_or_ge pre.length w with h2 | h2
      · omega
      · exfalso
        rw [List.append_assoc, List.take_append_of_le_length h2] at h
        exact hpre (List.mem_of_mem_take h)
    · rintro ⟨_, h⟩
      have hlt : pre.length < w := by omega
      rw [List.append_assoc, List.take_append]
      refine List.mem_append.2 (.inr ?_)
      obtain ⟨m, hm2⟩ : ∃ m, w - pre.length = m + 1 := ⟨w - pre.length - 1, by omega⟩
      rw [hm2, List.cons_append, List.take_succ_cons]
      simp
  · rw [ageI_none hm]
    constructor
    · intro h
      have := List.mem_of_mem_take h
      rcases List.mem_append.1 this with h | h
      · exact absurd h hm
      · have := List.eq_of_mem_replicate h; omega
    · rintro ⟨h, _⟩; omega
theorem lru_curve {w : Nat} (hw : 1 ≤ w) : ∀ (rest rv : List Int), (∀ a ∈ rest, 0 ≤ a) → missN (runC (lruH w) (mvF w (w - 1)) (keepL w (dedL rv)) rest).1 = curveN (distL rv rest) w
  | [], rv, _ => rfl
  | a :: rest, rv, h => by
    have ha := h a (by simp)
    simp only [runC, distL]
    rw [missN_cons, lru_next hw ha rv, lru_curve hw rest (a :: rv) (fun x hx => h x (by simp [hx])), step_hit, keep_hit ha w _ (ded_nodup rv), curveN_cons]
    obtain ⟨q1, q2, q3, q4, q5⟩ := age_lt rv a
    by_cases hq : 0 ≤ ageI a (dedL rv) ∧ ageI a (dedL rv) < w
    · rw [if_pos (by simpa using hq), if_neg (by omega)]; omega
    · rw [if_neg (by simpa using hq), if_pos (by omega)]; omega
/-- Counts of distances. -/
def bumpL (out : List Int) (d : Int) : List Int := if d < 0 then out else (out ++ List.replicate (d.toNat + 1 - out.length) 0).set d.toNat ((out ++ List.replicate (d.toNat + 1 - out.length) 0).getD d.toNat 0 + 1)
def histL : List Int → List Int → List Int
  | out, [] => out
  | out, d :: ds => histL (bumpL out d) ds
theorem pad_getD (out : List Int) (k j : Nat) : (out ++ List.replicate k 0).getD j 0 = out.getD j 0 := by
  simp only [List.getD, List.getElem?_append]
  by_cases h : j < out.length
  · rw [if_pos h]
  · rw [if_neg h, List.getElem?_eq_none (by omega : out.length ≤ j)]
    by_cases h2 : j - out.length < k
    · rw [List.getElem?_replicate, if_pos h2]; rfl
    · rw [List.getElem?_replicate, if_neg h2]
theorem bump_getD (out : List Int) (d : Int) (j : Nat) : (bumpL out d).getD j 0 = out.getD j 0 + if d = (j : Int) then 1 else 0 := by
  unfold bumpL
  by_cases hd : d < 0
  · rw [if_pos hd, if_neg (by omega)]; omega
  · rw [if_neg hd]
    have hl : d.toNat < (out ++ List.replicate (d.toNat + 1 - out.length) 0).length := by simp; omega
    have hp := pad_getD out (d.toNat + 1 - out.length)
    generalize out ++ List.replicate (d.toNat + 1 - out.length) 0 = l at *
    simp only [List.getD, List.getElem?_set] at hp ⊢
    by_cases h : d.toNat = j
    · subst h
      rw [if_pos rfl, if_pos hl, if_pos (by omega), hp]; rfl
    · rw [if_neg h, if_neg (by omega), hp]; omega
theorem hist_getD (j : Nat) : ∀ (ds out : List Int), (histL out ds).getD j 0 = out.getD j 0 + eqN ds j
  | [], out => by simp [histL, eqN]
  | d :: ds, out => by
    simp only [histL]
    rw [hist_getD j ds (bumpL out d), bump_getD, eqN_cons]
    split <;> omega
theorem sum_set : ∀ (l : List Int) (i : Nat) (v : Int), i < l.length → (l.set i v).sum = l.sum - l.getD i 0 + v
  | x :: l, 0, v, _ => by simp; omega
  | x :: l, i + 1, v, h => by
    have := sum_set l i v (by simpa using h)
    simp only [List.set_cons_succ, List.sum_cons, List.getD_cons_succ, this]; omega
theorem bump_sum (out : List Int) (d : Int) : (bumpL out d).sum = out.sum + if d < 0 then 0 else 1 := by
  unfold bumpL
  by_cases hd : d < 0
  · rw [if_pos hd, if_pos hd]; omega
  · rw [if_neg hd, if_neg hd, sum_set _ _ _ (by simp; omega)]
    have : (out ++ List.replicate (d.toNat + 1 - out.length) 0).sum = out.sum := by
      rw [List.sum_append]
      have : ∀ k, (List.replicate k (0 : Int)).sum = 0 := by
        intro k
        induction k with
        | zero => rfl
        | succ k ih => rw [List.replicate_succ, List.sum_cons, ih]; rfl
      rw [this]; omega
    omega
theorem hist_sum : ∀ (ds out : List Int) (n : Nat), (∀ d ∈ ds, d < n) → (histL out ds).sum = out.sum + ((ds.length : Int) - curveN ds n)
  | [], out, n, _ => by simp [histL, curveN]
  | d :: ds, out, n, h => by
    have hd := h d (by simp)
    simp only [histL]
    rw [hist_sum ds (bumpL out d) n (fun x hx => h x (by simp [hx])), bump_sum, curveN_cons, List.length_cons]
    by_cases h0 : d < 0
    · rw [if_pos h0, if_pos (.inl h0)]; omega
    · rw [if_neg h0, if_neg (by omega)]; omega
theorem distL_lt : ∀ (rest rv : List Int), ∀ d ∈ distL rv rest, -1 ≤ d ∧ d < ((rv.length + rest.length : Nat) : Int)
  | [], rv, d, h => by simp [distL] at h
  | a :: rest, rv, d, h => by
    simp only [distL, List.mem_cons] at h
    rcases h with rfl | h
    · obtain ⟨q1, q2, q3, q4, q5⟩ := age_lt rv a
      simp only [List.length_cons]
      omega
    · have := distL_lt rest (a :: rv) d h
      simp only [List.length_cons] at this ⊢
      omega
def curveL (ds : List Int) (m : Nat) : List Int := (List.range m).map fun n => (curveN ds n : Int)
theorem curveL_length (ds : List Int) (m : Nat) : (curveL ds m).length = m := by simp [curveL]
theorem curveL_succ (ds : List Int) (m : Nat) : curveL ds (m + 1) = curveL ds m ++ [(curveN ds m : Int)] := by simp [curveL, List.range_succ]
theorem curveL_getD (ds : List Int) {m n : Nat} (h : n < m) (z : Int) : (curveL ds m).getD n z = curveN ds n := by
  simp only [List.getD, curveL, List.getElem?_map, List.getElem?_range h, Option.map_some, Option.getD_some]
theorem size_find (us : List Int) (hb : us.length ≤ 20) (few : Nat) :
    match (curveL (distL [] us) 61).findIdx? (fun n => decide (n ≤ (few : Int))) with
    | some k => dist us.reverse ≤ few ∧ k ≤ 20 ∧ curveN (distL [] us) k ≤ few ∧ (k = 0 ∨ few < curveN (distL [] us) (k - 1))
    | none => few < dist us.reverse := by
  cases hf : (curveL (distL [] us) 61).findIdx? (fun n => decide (n ≤ (few : Int))) with
  | none =>
    simp only
    rw [List.findIdx?_eq_none_iff] at hf
    have h1 := hf ((curveN (distL [] us) 60 : Nat) : Int) (by
      simp only [curveL, List.mem_map, List.mem_range]
      exact ⟨60, by omega, rfl⟩)
    have h2 := curve_all us (n := 60) (by omega)
    rw [h2] at h1
    simp at h1
    exact h1
  | some k =>
    simp only
    rw [List.findIdx?_eq_some_iff_getElem] at hf
    obtain ⟨h1, h2, h3⟩ := hf
    have hk : k < 61 := by rw [curveL_length] at h1; exact h1
    have hg : ∀ j, (hj : j < (curveL (distL [] us) 61).length) → (curveL (distL [] us) 61)[j] = (curveN (distL [] us) j : Int) := fun j hj => by simp [curveL]
    rw [hg k h1] at h2
    have h2 : curveN (distL [] us) k ≤ few := by simpa using h2
    have hend := curve_all us (n := 61) (by omega)
    have hm := curveN_mono (distL [] us) (show k ≤ 61 by omega)
    have h20 := curve_all us (n := 20) hb
    refine ⟨by omega, ?_, h2, ?_⟩
    · rcases Nat.lt_or_ge 20 k with hlt | hge
      · exfalso
        have := h3 20 hlt
        rw [hg 20 (by rw [curveL_length]; omega), h20] at this
        simp at this
        omega
      · exact hge
    · rcases Nat.eq_zero_or_pos k with h0 | h0
      · exact .inl h0
      · right
        have := h3 (k - 1) (by omega)
        rw [hg (k - 1) (by rw [curveL_length]; omega)] at this
        simp at this
        exact this
theorem call_len0 : callOf pr 22 [.nilS] [] = some (I 0, []) := by
  rw [call_eq pr 22 _ _ Try.f22 fn_22 _ rfl _ ann_22 rfl]
  simp -implicitDefEqProofs only [go_sem, Nat.reduceAdd, Nat.reduceSub, Nat.reduceMul, Nat.reduceMod, Nat.reduceLT, Nat.reduceLeDiff, Nat.reduceEqDiff, Nat.reduceBEq, Nat.reduceDiv, Int.reduceLT, Int.reduceLE, Int.reduceToNat, Int.reduceNeg, Int.reduceEq, ↓reduceIte, reduceCtorEq, ↓reduceDIte]
/-- The last use of an address. -/
def lastN (xs : List Int) (a : Int) : Nat → Int
  | 0 => -1
  | j + 1 => if xs.getD j 0 = a then (j : Int) else lastN xs a j
theorem lu_l (xs : List Int) (a : Int) (hb : xs.length < 1000000) : ∀ (j : Nat), j ≤ xs.length → loopOf pr 35 0 ⟨[(0, L xs), (1, I a), (5, I ((j : Int) - 1))], []⟩ = if lastN xs a j < 0 then some (.exit 0, ⟨[(0, L xs), (1, I a), (5, I (-1))], []⟩) else some (.ret, ⟨[(4, I (lastN xs a j))], []⟩)
  | 0, _ => by
    rw [if_pos (by simp [lastN]), show ((0 : Nat) : Int) - 1 = -1 from rfl]
    rw [loop_eq pr 35 0 _ Try.f35 fn_35 _ rfl _ ann_35 _ rfl]
    simp -implicitDefEqProofs only [ge_iff_le, go_sem, Nat.reduceAdd, Nat.reduceSub, Nat.reduceMul, Nat.reduceMod, Nat.reduceLT, Nat.reduceLeDiff, Nat.reduceEqDiff, Nat.reduceBEq, Nat.reduceDiv, Int.reduceLT, Int.reduceLE, Int.reduceToNat, Int.reduceNeg, Int.reduceEq, ↓reduceIte, reduceCtorEq, ↓reduceDIte]
  | j + 1, hj => by
    have ih := lu_l xs a hb j (by omega)
    have e3 : (0 ≤ (j : Int)) = True := tr (by omega)
    have hw : IntKind.i64.wrap ((j : Int) - 1) = (j : Int) - 1 := by rw [wrap_i] <;> omega
    have hx : ∀ z, xs.getD j z = xs[j] := fun z => getD_of_lt (show j < xs.length by omega) z
    rw [show ((j + 1 : Nat) : Int) - 1 = (j : Int) by omega]
    unfold lastN
    rw [hx 0]
    by_cases h : xs[j] = a
    · rw [if_pos h, if_neg (by omega)]
      rw [loop_eq pr 35 0 _ Try.f35 fn_35 _ rfl _ ann_35 _ rfl]
      simp -implicitDefEqProofs only [lt_cast (show j < xs.length by omega), hx, e3, Int.toNat_natCast, ge_iff_le, tr h, go_sem, Nat.reduceAdd, Nat.reduceSub, Nat.reduceMul, Nat.reduceMod, Nat.reduceLT, Nat.reduceLeDiff, Nat.reduceEqDiff, Nat.reduceBEq, Nat.reduceDiv, Int.reduceLT, Int.reduceLE, Int.reduceToNat, Int.reduceNeg, Int.reduceEq, ↓reduceIte, reduceCtorEq, ↓reduceDIte]
    · rw [if_neg h, ← ih]
      rw [loop_eq pr 35 0 _ Try.f35 fn_35 _ rfl _ ann_35 _ rfl]
      simp -implicitDefEqProofs only [lt_cast (show j < xs.length by omega), hx, e3, Int.toNat_natCast, ge_iff_le, fa h, hw, go_sem, Nat.reduceAdd, Nat.reduceSub, Nat.reduceMul, Nat.reduceMod, Nat.reduceLT, Nat.reduceLeDiff, Nat.reduceEqDiff, Nat.reduceBEq, Nat.reduceDiv, Int.reduceLT, Int.reduceLE, Int.reduceToNat, Int.reduceNeg, Int.reduceEq, ↓reduceIte, reduceCtorEq, ↓reduceDIte]
theorem call_lu (xs : List Int) (a : Int) (hb : xs.length < 1000000) : callOf pr 35 [L xs, I a] [] = some (I (if lastN xs a xs.length < 0 then -1 else lastN xs a xs.length), []) := by
  have h := lu_l xs a hb xs.length (Nat.le_refl _)
  have hw : IntKind.i64.wrap ((xs.length : Int) - 1) = (xs.length : Int) - 1 := by rw [wrap_i] <;> omega
  generalize lastN xs a xs.length = v at *
  rw [call_eq pr 35 _ _ Try.f35 fn_35 _ rfl _ ann_35 rfl]
  by_cases hv : v < 0
  · rw [if_pos hv] at h ⊢
    simp -implicitDefEqProofs only [h, hw, go_sem, Nat.reduceAdd, Nat.reduceSub, Nat.reduceMul, Nat.reduceMod, Nat.reduceLT, Nat.reduceLeDiff, Nat.reduceEqDiff, Nat.reduceBEq, Nat.reduceDiv, Int.reduceLT, Int.reduceLE, Int.reduceToNat, Int.reduceNeg, Int.reduceEq, ↓reduceIte, reduceCtorEq, ↓reduceDIte]
  · rw [if_neg hv] at h ⊢
    simp -implicitDefEqProofs only [h, hw, go_sem, Nat.reduceAdd, Nat.reduceSub, Nat.reduceMul, Nat.reduceMod, Nat.reduceLT, Nat.reduceLeDiff, Nat.reduceEqDiff, Nat.reduceBEq, Nat.reduceDiv, Int.reduceLT, Int.reduceLE, Int.reduceToNat, Int.reduceNeg, Int.reduceEq, ↓reduceIte, reduceCtorEq, ↓reduceDIte]
theorem lastN_none {xs : List Int} {a : Int} (h : a ∉ xs) : ∀ j, j ≤ xs.length → lastN xs a j = -1
  | 0, _ => rfl
  | j + 1, hj => by
    unfold lastN
    have hj' : j < xs.length := by omega
    have hne : ¬ xs[j] = a := fun e => h (by rw [← e]; exact List.getElem_mem hj')
    rw [getD_of_lt hj', if_neg hne, lastN_none h j (by omega)]
theorem lastN_some (p q : List Int) (a : Int) (h : a ∉ q) : ∀ m, m ≤ q.length → lastN (p ++ a :: q) a (p.length + 1 + m) = p.length
  | 0, _ => by
    rw [Nat.add_zero]
    unfold lastN
    rw [if_pos (by simp)]
  | m + 1, hm => by
    have ih := lastN_some p q a h m (by omega)
    rw [show p.length + 1 + (m + 1) = (p.length + 1 + m) + 1 by omega]
    unfold lastN
    have hg : (p ++ a :: q).getD (p.length + 1 + m) 0 = q[m] := by
      have hm' : m < q.length := by omega
      simp only [List.getD, List.getElem?_append]
      rw [if_neg (by omega), show p.length + 1 + m - p.length = m + 1 by omega, List.getElem?_cons_succ, List.getElem?_eq_getElem hm']
      rfl
    have hm' : m < q.length := by omega
    have hne : ¬ q[m] = a := fun e => h (by rw [← e]; exact List.getElem_mem hm')
    rw [hg, if_neg hne, ih]
abbrev DT (uses : List Int) (k : Int) : Slots := [(0, L uses), (3, .os (.t 512)), (9, L uses), (10, I uses.length), (11, I k)]
theorem di_n (uses out : List Int) (a : Int) (k : Nat) (hk : k < uses.length) (hb : uses.length ≤ 60) (ho : out.length ≤ 60) (ha : ∀ z, uses.getD k z = a) (g : callOf pr 35 [L (uses.take k), I a] [] = some (I (-1), [])) : loopOf pr 20 0 ⟨DT uses k, [(512, .arr true false (.int .i64) out)]⟩ = loopOf pr 20 0 ⟨DT uses ((k + 1 : Nat) : Int), [(512, .arr true false (.int .i64) (out ++ [-1]))]⟩ := by
  have e1 : ((k : Int) ≤ (uses.length : Int)) = True := tr (by omega)
  have r1 : ((out.length + 1) * 8 ≤ 140737488355328 ∧ out.length ≤ 9223372036854775806) = True := tr ⟨by omega, by omega⟩
  have hw : IntKind.i64.wrap ((k : Int) + 1) = ((k + 1 : Nat) : Int) := by rw [wrap_i] <;> omega
  rw [loop_eq pr 20 0 _ Try.f20 fn_20 _ rfl _ ann_20 _ rfl]
  simp -implicitDefEqProofs only [lt_cast hk, ha, zero_le_cast, Int.toNat_natCast, e1, g, ge_iff_le, hw, r1, go_sem, Nat.reduceAdd, Nat.reduceSub, Nat.reduceMul, Nat.reduceMod, Nat.reduceLT, Nat.reduceLeDiff, Nat.reduceEqDiff, Nat.reduceBEq, Nat.reduceDiv, Int.reduceLT, Int.reduceLE, Int.reduceToNat, Int.reduceNeg, Int.reduceEq, ↓reduceIte, reduceCtorEq, ↓reduceDIte]
theorem di_0 (uses out : List Int) (a : Int) (k : Nat) (hk : k < uses.length) (hb : uses.length ≤ 60) (ho : out.length ≤ 60) (ha : ∀ z, uses.getD k z = a) (j : Nat) (hj : j < k) (g : callOf pr 35 [L (uses.take k), I a] [] = some (I j, [])) (g2 : (uses.drop (j + 1)).take (k - (j + 1)) = []) : loopOf pr 20 0 ⟨DT uses k, [(512, .arr true false (.int .i64) out)]⟩ = loopOf pr 20 0 ⟨DT uses ((k + 1 : Nat) : Int), [(512, .arr true false (.int .i64) (out ++ [0]))]⟩ := by
  have e1 : ((k : Int) ≤ (uses.length : Int)) = True := tr (by omega)
  have e3 : (0 ≤ (j : Int)) = True := tr (by omega)
  have e4 : (((j + 1 : Nat) : Int) ≤ (k : Int)) = True := tr (by omega)
  have r1 : ((out.length + 1) * 8 ≤ 140737488355328 ∧ out.length ≤ 9223372036854775806) = True := tr ⟨by omega, by omega⟩
  have hw : IntKind.i64.wrap ((k : Int) + 1) = ((k + 1 : Nat) : Int) := by rw [wrap_i] <;> omega
  have hw2 : IntKind.i64.wrap ((j : Int) + 1) = ((j + 1 : Nat) : Int) := by rw [wrap_i] <;> omega
  have g3 := call_st0
  have g4 := call_len0
  rw [loop_eq pr 20 0 _ Try.f20 fn_20 _ rfl _ ann_20 _ rfl]
  simp -implicitDefEqProofs only [lt_cast hk, ha, zero_le_cast, Int.toNat_natCast, e1, g, e3, ge_iff_le, hw, hw2, e4, g2, g3, g4, r1, go_sem, Nat.reduceAdd, Nat.reduceSub, Nat.reduceMul, Nat.reduceMod, Nat.reduceLT, Nat.reduceLeDiff, Nat.reduceEqDiff, Nat.reduceBEq, Nat.reduceDiv, Int.reduceLT, Int.reduceLE, Int.reduceToNat, Int.reduceNeg, Int.reduceEq, ↓reduceIte, reduceCtorEq, ↓reduceDIte]
theorem di_1 (uses out : List Int) (a : Int) (k : Nat) (hk : k < uses.length) (hb : uses.length ≤ 60) (ho : out.length ≤ 60) (ha : ∀ z, uses.getD k z = a) (j : Nat) (hj : j < k) (g : callOf pr 35 [L (uses.take k), I a] [] = some (I j, [])) (q : List Int) (hq : ¬ q.length = 0) (hql : q.length ≤ 60) (g2 : (uses.drop (j + 1)).take (k - (j + 1)) = q) : loopOf pr 20 0 ⟨DT uses k, [(512, .arr true false (.int .i64) out)]⟩ = loopOf pr 20 0 ⟨DT uses ((k + 1 : Nat) : Int), [(512, .arr true false (.int .i64) (out ++ [((comp (sortI q)).length : Int)]))]⟩ := by
  have e1 : ((k : Int) ≤ (uses.length : Int)) = True := tr (by omega)
  have e3 : (0 ≤ (j : Int)) = True := tr (by omega)
  have e4 : (((j + 1 : Nat) : Int) ≤ (k : Int)) = True := tr (by omega)
  have r1 : ((out.length + 1) * 8 ≤ 140737488355328 ∧ out.length ≤ 9223372036854775806) = True := tr ⟨by omega, by omega⟩
  have hw : IntKind.i64.wrap ((k : Int) + 1) = ((k + 1 : Nat) : Int) := by rw [wrap_i] <;> omega
  have hw2 : IntKind.i64.wrap ((j : Int) + 1) = ((j + 1 : Nat) : Int) := by rw [wrap_i] <;> omega
  have g3 := call_st q hq (by omega)
  have g4 := call_22 (comp (sortI q))
  generalize comp (sortI q) = cs at *
  rw [loop_eq pr 20 0 _ Try.f20 fn_20 _ rfl _ ann_20 _ rfl]
  simp -implicitDefEqProofs only [lt_cast hk, ha, zero_le_cast, Int.toNat_natCast, e1, g, e3, ge_iff_le, hw, hw2, e4, g2, g3, g4, r1, go_sem, Nat.reduceAdd, Nat.reduceSub, Nat.reduceMul, Nat.reduceMod, Nat.reduceLT, Nat.reduceLeDiff, Nat.reduceEqDiff, Nat.reduceBEq, Nat.reduceDiv, Int.reduceLT, Int.reduceLE, Int.reduceToNat, Int.reduceNeg, Int.reduceEq, ↓reduceIte, reduceCtorEq, ↓reduceDIte]
theorem di_e (uses out : List Int) : loopOf pr 20 0 ⟨DT uses uses.length, [(512, .arr true false (.int .i64) out)]⟩ = some (.exit 0, ⟨DT uses uses.length, [(512, .arr true false (.int .i64) out)]⟩) := by
  rw [loop_eq pr 20 0 _ Try.f20 fn_20 _ rfl _ ann_20 _ rfl]
  simp -implicitDefEqProofs only [Int.lt_irrefl, go_sem, Nat.reduceAdd, Nat.reduceSub, Nat.reduceMul, Nat.reduceMod, Nat.reduceLT, Nat.reduceLeDiff, Nat.reduceEqDiff, Nat.reduceBEq, Nat.reduceDiv, Int.reduceLT, Int.reduceLE, Int.reduceToNat, Int.reduceNeg, Int.reduceEq, ↓reduceIte, reduceCtorEq, ↓reduceDIte]
theorem last_split {a : Int} : ∀ xs : List Int, a ∈ xs → ∃ p q, xs = p ++ a :: q ∧ a ∉ q
  | x :: xs, h => by
    by_cases hx : a ∈ xs
    · obtain ⟨p, q, e, hq⟩ := last_split xs hx
      exact ⟨x :: p, q, by rw [e]; rfl, hq⟩
    · rcases List.mem_cons.1 h with rfl | h
      · exact ⟨[], xs, rfl, hx⟩
      · exact absurd h hx
theorem di_l (uses : List Int) (hb : uses.length ≤ 60) : ∀ (rest : List Int) (k : Nat) (out : List Int), uses.drop k = rest → k ≤ uses.length → out.length = k →
    loopOf pr 20 0 ⟨DT uses k, [(512, .arr true false (.int .i64) out)]⟩ = some (.exit 0, ⟨DT uses uses.length, [(512, .arr true false (.int .i64) (out ++ distL (uses.take k).reverse rest))]⟩)
  | [], k, out, e, hk, ho => by
    have hk2 : k = uses.length := by
      have := congrArg List.length e
      simp only [List.length_drop, List.length_nil] at this
      omega
    subst hk2
    simp only [distL, List.append_nil]
    exact di_e uses out
  | a :: rest, k, out, e, hk, ho => by
    have hlt : k < uses.length := by
      have := congrArg List.length e
      simp only [List.length_drop, List.length_cons] at this
      omega
    have ha0 : uses[k]? = some a := by
      have := congrArg (·[0]?) e
      simpa using this
    have ha : ∀ z, uses.getD k z = a := fun z => by simp [List.getD, ha0]
    have e' : uses.drop (k + 1) = rest := by
      have := congrArg (·.drop 1) e
      simpa using this
    have htk : (uses.take (k + 1)).reverse = a :: (uses.take k).reverse := by
      rw [List.take_add_one, ha0]; simp
    have htl : (uses.take k).length = k := by simp; omega
    have g := call_lu (uses.take k) a (by omega)
    rw [htl] at g
    have next : ∀ d : Int, d = ageI a (dedL (uses.take k).reverse) → loopOf pr 20 0 ⟨DT uses k, [(512, .arr true false (.int .i64) out)]⟩ = loopOf pr 20 0 ⟨DT uses ((k + 1 : Nat) : Int), [(512, .arr true false (.int .i64) (out ++ [d]))]⟩ → loopOf pr 20 0 ⟨DT uses k, [(512, .arr true false (.int .i64) out)]⟩ = some (.exit 0, ⟨DT uses uses.length, [(512, .arr true false (.int .i64) (out ++ distL (uses.take k).reverse (a :: rest)))]⟩) := by
      intro d hd hst
      have ih := di_l uses hb rest (k + 1) (out ++ [d]) e' (by omega) (by simp; omega)
      rw [hst, ih, htk]
      simp only [distL, hd, List.append_assoc, List.singleton_append]
    by_cases hm : a ∈ uses.take k
    · obtain ⟨p, q, hpq, hq⟩ := last_split _ hm
      have hlen : p.length + 1 + q.length = k := by
        have := congrArg List.length hpq
        rw [htl] at this
        simp at this
        omega
      have hl := lastN_some p q a hq q.length (Nat.le_refl _)
      rw [← hpq, hlen] at hl
      rw [hl, if_neg (by omega)] at g
      have hseg : (uses.drop (p.length + 1)).take (k - (p.length + 1)) = q := by
        rw [← List.drop_take, hpq, show p.length + 1 = (p ++ [a]).length by simp, show p ++ a :: q = (p ++ [a]) ++ q by simp, List.drop_left]
      have hage : ageI a (dedL (uses.take k).reverse) = dist q.reverse := by
        have : (uses.take k).reverse = q.reverse ++ a :: p.reverse := by rw [hpq]; simp
        rw [this]
        exact age_between _ (by simpa using hq)
      by_cases hq0 : q.length = 0
      · have hqn : q = [] := List.eq_nil_of_length_eq_zero hq0
        rw [hqn] at hseg hage
        exact next 0 (by rw [hage]; rfl) (di_0 uses out a k hlt hb (by omega) ha p.length (by omega) g hseg)
      · have hcd : (comp (sortI q)).length = dist q.reverse := comp_dist (fun x => List.mem_reverse.symm)
        exact next ((comp (sortI q)).length : Int) (by rw [hage, hcd]) (di_1 uses out a k hlt hb (by omega) ha p.length (by omega) g q hq0 (by omega) hseg)
    · rw [lastN_none hm k (by omega), if_pos (by omega)] at g
      exact next (-1) (by rw [((age_lt (uses.take k).reverse a).2.2.2.1).2 (by simpa using hm)]) (di_n uses out a k hlt hb (by omega) ha g)
theorem call_di (uses : List Int) (hb : uses.length ≤ 60) : callOf pr 20 [L uses] [] = some (.os (.t 512), [(512, .arr true false (.int .i64) (distL [] uses))]) := by
  have h := di_l uses hb uses 0 [] rfl (by omega) rfl
  simp only [List.take_zero, List.reverse_nil, List.nil_append] at h
  have h : loopOf pr 20 0 ⟨[(0, L uses), (3, .os (.t 512)), (9, L uses), (10, I uses.length), (11, I 0)], [(512, .arr true false (.int .i64) [])]⟩ = _ := h
  rw [call_eq pr 20 _ _ Try.f20 fn_20 _ rfl _ ann_20 rfl]
  simp -implicitDefEqProofs only [h, go_sem, Nat.reduceAdd, Nat.reduceSub, Nat.reduceMul, Nat.reduceMod, Nat.reduceLT, Nat.reduceLeDiff, Nat.reduceEqDiff, Nat.reduceBEq, Nat.reduceDiv, Int.reduceLT, Int.reduceLE, Int.reduceToNat, Int.reduceNeg, Int.reduceEq, ↓reduceIte, reduceCtorEq, ↓reduceDIte]
abbrev C1 (ds : List Int) (n k : Nat) (m i : Int) : Slots := [(0, L ds), (5, .os (.t 640)), (6, I k), (7, I m), (12, I n), (13, I k), (16, L ds), (17, I ds.length), (18, I i)]
theorem c1_s (ds out : List Int) (n k m i : Nat) (d : Int) (hi : i < ds.length) (hb : ds.length ≤ 60) (hm : m ≤ 60) (hd : ∀ z, ds.getD i z = d) : loopOf pr 19 1 ⟨C1 ds n k m i, [(640, .arr true false (.int .i64) out)]⟩ = loopOf pr 19 1 ⟨C1 ds n k ((m + (if d < 0 ∨ (k : Int) ≤ d then 1 else 0) : Nat) : Int) ((i + 1 : Nat) : Int), [(640, .arr true false (.int .i64) out)]⟩ := by
  have hw : IntKind.i64.wrap ((i : Int) + 1) = ((i + 1 : Nat) : Int) := by rw [wrap_i] <;> omega
  have hw2 : IntKind.i64.wrap ((m : Int) + 1) = ((m + 1 : Nat) : Int) := by rw [wrap_i] <;> omega
  rw [loop_eq pr 19 1 _ Try.f19 fn_19 _ rfl _ ann_19 _ rfl]
  by_cases h1 : d < 0
  · rw [if_pos (.inl h1)]
    simp -implicitDefEqProofs only [lt_cast hi, hd, hw, hw2, tr h1, zero_le_cast, Int.toNat_natCast, go_sem, Nat.reduceAdd, Nat.reduceSub, Nat.reduceMul, Nat.reduceMod, Nat.reduceLT, Nat.reduceLeDiff, Nat.reduceEqDiff, Nat.reduceBEq, Nat.reduceDiv, Int.reduceLT, Int.reduceLE, Int.reduceToNat, Int.reduceNeg, Int.reduceEq, ↓reduceIte, reduceCtorEq, ↓reduceDIte]
  · by_cases h2 : (k : Int) ≤ d
    · rw [if_pos (.inr h2)]
      simp -implicitDefEqProofs only [lt_cast hi, hd, hw, hw2, fa h1, tr h2, ge_iff_le, zero_le_cast, Int.toNat_natCast, go_sem, Nat.reduceAdd, Nat.reduceSub, Nat.reduceMul, Nat.reduceMod, Nat.reduceLT, Nat.reduceLeDiff, Nat.reduceEqDiff, Nat.reduceBEq, Nat.reduceDiv, Int.reduceLT, Int.reduceLE, Int.reduceToNat, Int.reduceNeg, Int.reduceEq, ↓reduceIte, reduceCtorEq, ↓reduceDIte]
    · rw [if_neg (by omega), Nat.add_zero]
      simp -implicitDefEqProofs only [lt_cast hi, hd, hw, hw2, fa h1, fa h2, ge_iff_le, zero_le_cast, Int.toNat_natCast, Nat.add_zero, go_sem, Nat.reduceAdd, Nat.reduceSub, Nat.reduceMul, Nat.reduceMod, Nat.reduceLT, Nat.reduceLeDiff, Nat.reduceEqDiff, Nat.reduceBEq, Nat.reduceDiv, Int.reduceLT, Int.reduceLE, Int.reduceToNat, Int.reduceNeg, Int.reduceEq, ↓reduceIte, reduceCtorEq, ↓reduceDIte]
theorem c1_e (ds out : List Int) (n k m : Nat) : loopOf pr 19 1 ⟨C1 ds n k m ds.length, [(640, .arr true false (.int .i64) out)]⟩ = some (.exit 2, ⟨C1 ds n k m ds.length, [(640, .arr true false (.int .i64) out)]⟩) := by
  rw [loop_eq pr 19 1 _ Try.f19 fn_19 _ rfl _ ann_19 _ rfl]
  simp -implicitDefEqProofs only [Int.lt_irrefl, go_sem, Nat.reduceAdd, Nat.reduceSub, Nat.reduceMul, Nat.reduceMod, Nat.reduceLT, Nat.reduceLeDiff, Nat.reduceEqDiff, Nat.reduceBEq, Nat.reduceDiv, Int.reduceLT, Int.reduceLE, Int.reduceToNat, Int.reduceNeg, Int.reduceEq, ↓reduceIte, reduceCtorEq, ↓reduceDIte]
theorem c1_l (ds out : List Int) (n k : Nat) (hb : ds.length ≤ 60) : ∀ (suf : List Int) (i m : Nat), ds.drop i = suf → i ≤ ds.length → m ≤ i → loopOf pr 19 1 ⟨C1 ds n k m i, [(640, .arr true false (.int .i64) out)]⟩ = some (.exit 2, ⟨C1 ds n k ((m + curveN suf k : Nat) : Int) ds.length, [(640, .arr true false (.int .i64) out)]⟩)
  | [], i, m, e, hi, hm => by
    have hk2 : i = ds.length := by
      have := congrArg List.length e
      simp only [List.length_drop, List.length_nil] at this
      omega
    subst hk2
    exact c1_e ds out n k m
  | d :: suf, i, m, e, hi, hm => by
    have hlt : i < ds.length := by
      have := congrArg List.length e
      simp only [List.length_drop, List.length_cons] at this
      omega
    have ha0 : ds[i]? = some d := by
      have := congrArg (·[0]?) e
      simpa using this
    have e' : ds.drop (i + 1) = suf := by
      have := congrArg (·.drop 1) e
      simpa using this
    have ih := c1_l ds out n k hb suf (i + 1) (m + (if d < 0 ∨ (k : Int) ≤ d then 1 else 0)) e' (by omega) (by split <;> omega)
    rw [c1_s ds out n k m i d hlt hb (by omega) (fun z => by simp [List.getD, ha0]), ih, curveN_cons, Nat.add_assoc]
theorem c0_s (ds out : List Int) (n k : Nat) (hk : k < n) (hn : n ≤ 100) (hb : ds.length ≤ 60) (ho : out.length ≤ 100) : loopOf pr 19 0 ⟨[(0, L ds), (5, .os (.t 640)), (12, I n), (13, I k)], [(640, .arr true false (.int .i64) out)]⟩ = loopOf pr 19 0 ⟨[(0, L ds), (5, .os (.t 640)), (12, I n), (13, I ((k + 1 : Nat) : Int))], [(640, .arr true false (.int .i64) (out ++ [(curveN ds k : Int)]))]⟩ := by
  have hw : IntKind.i64.wrap ((k : Int) + 1) = ((k + 1 : Nat) : Int) := by rw [wrap_i] <;> omega
  have r1 : ((out.length + 1) * 8 ≤ 140737488355328 ∧ out.length ≤ 9223372036854775806) = True := tr ⟨by omega, by omega⟩
  have h := c1_l ds out n k hb ds 0 0 rfl (by omega) (by omega)
  rw [Nat.zero_add] at h
  have h : loopOf pr 19 1 ⟨[(0, L ds), (5, .os (.t 640)), (6, I k), (7, I 0), (12, I n), (13, I k), (16, L ds), (17, I ds.length), (18, I 0)], [(640, .arr true false (.int .i64) out)]⟩ = _ := h
  rw [loop_eq pr 19 0 _ Try.f19 fn_19 _ rfl _ ann_19 _ rfl]
  simp -implicitDefEqProofs only [lt_cast hk, h, hw, r1, go_sem, Nat.reduceAdd, Nat.reduceSub, Nat.reduceMul, Nat.reduceMod, Nat.reduceLT, Nat.reduceLeDiff, Nat.reduceEqDiff, Nat.reduceBEq, Nat.reduceDiv, Int.reduceLT, Int.reduceLE, Int.reduceToNat, Int.reduceNeg, Int.reduceEq, ↓reduceIte, reduceCtorEq, ↓reduceDIte]
theorem c0_e (ds out : List Int) (n : Nat) : loopOf pr 19 0 ⟨[(0, L ds), (5, .os (.t 640)), (12, I n), (13, I n)], [(640, .arr true false (.int .i64) out)]⟩ = some (.exit 0, ⟨[(0, L ds), (5, .os (.t 640)), (12, I n), (13, I n)], [(640, .arr true false (.int .i64) out)]⟩) := by
  rw [loop_eq pr 19 0 _ Try.f19 fn_19 _ rfl _ ann_19 _ rfl]
  simp -implicitDefEqProofs only [Int.lt_irrefl, go_sem, Nat.reduceAdd, Nat.reduceSub, Nat.reduceMul, Nat.reduceMod, Nat.reduceLT, Nat.reduceLeDiff, Nat.reduceEqDiff, Nat.reduceBEq, Nat.reduceDiv, Int.reduceLT, Int.reduceLE, Int.reduceToNat, Int.reduceNeg, Int.reduceEq, ↓reduceIte, reduceCtorEq, ↓reduceDIte]
theorem c0_l (ds : List Int) (n : Nat) (hn : n ≤ 100) (hb : ds.length ≤ 60) : ∀ (j k : Nat), k + j = n → loopOf pr 19 0 ⟨[(0, L ds), (5, .os (.t 640)), (12, I n), (13, I k)], [(640, .arr true false (.int .i64) (curveL ds k))]⟩ = some (.exit 0, ⟨[(0, L ds), (5, .os (.t 640)), (12, I n), (13, I n)], [(640, .arr true false (.int .i64) (curveL ds n))]⟩)
  | 0, k, h => by obtain rfl : k = n := by omega
                  exact c0_e ds _ k
  | j + 1, k, h => by
    rw [c0_s ds (curveL ds k) n k (by omega) hn hb (by rw [curveL_length]; omega), ← curveL_succ]
    exact c0_l ds n hn hb j (k + 1) (by omega)
theorem call_cu (ds : List Int) (hb : ds.length ≤ 60) (m : Nat) (hm : m ≤ 90) : callOf pr 19 [L ds, I m] [] = some (.os (.t 640), [(640, .arr true false (.int .i64) (curveL ds (m + 1)))]) := by
  have h := c0_l ds (m + 1) (by omega) hb (m + 1) 0 (by omega)
  have h : loopOf pr 19 0 ⟨[(0, L ds), (5, .os (.t 640)), (12, I ((m + 1 : Nat) : Int)), (13, I 0)], [(640, .arr true false (.int .i64) [])]⟩ = _ := h
  have hw : IntKind.i64.wrap ((m : Int) + 1) = ((m + 1 : Nat) : Int) := by rw [wrap_i] <;> omega
  rw [call_eq pr 19 _ _ Try.f19 fn_19 _ rfl _ ann_19 rfl]
  simp -implicitDefEqProofs only [h, hw, go_sem, Nat.reduceAdd, Nat.reduceSub, Nat.reduceMul, Nat.reduceMod, Nat.reduceLT, Nat.reduceLeDiff, Nat.reduceEqDiff, Nat.reduceBEq, Nat.reduceDiv, Int.reduceLT, Int.reduceLE, Int.reduceToNat, Int.reduceNeg, Int.reduceEq, ↓reduceIte, reduceCtorEq, ↓reduceDIte]
end Go.Proofs.Ytjcldkfgpifebaa.PI
