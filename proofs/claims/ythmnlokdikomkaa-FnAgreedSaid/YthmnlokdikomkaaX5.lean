/- Systems that are reached: keys, codes, the search, in plain Lean. -/
import Derived.Test.YthmnlokdikomkaaK13
namespace Go.Proofs.Ythmnlokdikomkaa.PI
open Go Go.Q
set_option maxRecDepth 100000
set_option linter.unusedSimpArgs false
set_option linter.unusedVariables false
set_option linter.unusedSectionVars false
set_option maxHeartbeats 4000000
set_option maxHeartbeats 8000000
/-- Plain data of a system, an op, a node of the reference's, an entry of the program's queue. -/
abbrev Sd : Type := List Int × List Bool × Bool × Unit
abbrev Od : Type := Int × Int × Unit
abbrev Nd : Type := Sd × Int × Od × Unit
abbrev Rd : Type := Sd × List Od × Unit

/-! keys -/
def ks : List Int → List Bool → Bool → List UInt8
  | c :: cs, f :: fs, m => UInt8.ofNat (48 + c).toNat :: (if f = true then 102 :: ks cs fs m else ks cs fs m)
  | _, _, m => if m = true then [109] else []
theorem ks_head : ∀ (cs : List Int) (fs : List Bool) (m : Bool) (r : List UInt8), (∀ x ∈ cs, 0 ≤ x ∧ x ≤ 3) → ks cs fs m ≠ 102 :: r
  | c :: cs, f :: fs, m, r, h, e => by
    simp only [ks, List.cons.injEq] at e
    have hc := h c (by simp)
    have := congrArg UInt8.toNat e.1
    rw [UInt8.toNat_ofNat_of_lt' (by show (48 + c).toNat < 256; omega)] at this
    have h102 : (102 : UInt8).toNat = 102 := rfl
    omega
  | [], fs, m, r, h, e => by
    simp only [ks] at e
    split at e
    · simp only [List.cons.injEq] at e; exact absurd e.1 (by decide)
    · cases e
  | _ :: _, [], m, r, h, e => by
    simp only [ks] at e
    split at e
    · simp only [List.cons.injEq] at e; exact absurd e.1 (by decide)
    · cases e
theorem ks_inj : ∀ (cs cs' : List Int) (fs fs' : List Bool) (m m' : Bool), cs.length = fs.length → cs'.length = fs'.length → cs.length = cs'.length → (∀ x ∈ cs, 0 ≤ x ∧ x ≤ 3) → (∀ x ∈ cs', 0 ≤ x ∧ x ≤ 3) → ks cs fs m = ks cs' fs' m' → cs = cs' ∧ fs = fs' ∧ m = m'
  | [], [], [], [], m, m', _, _, _, _, _, e => by
    simp only [ks] at e
    refine ⟨rfl, rfl, ?_⟩
    cases m <;> cases m' <;> simp_all
  | c :: cs, c' :: cs', f :: fs, f' :: fs', m, m', h1, h2, h3, h4, h5, e => by
    simp only [ks, List.cons.injEq] at e
    have hc := h4 c (by simp)
    have hc' := h5 c' (by simp)
    have hcc : c = c' := by
      have := congrArg UInt8.toNat e.1
      rw [UInt8.toNat_ofNat_of_lt' (by show (48 + c).toNat < 256; omega), UInt8.toNat_ofNat_of_lt' (by show (48 + c').toNat < 256; omega)] at this
      omega
    have g4 : ∀ x ∈ cs, 0 ≤ x ∧ x ≤ 3 := fun x hx => h4 x (by simp [hx])
    have g5 : ∀ x ∈ cs', 0 ≤ x ∧ x ≤ 3 := fun x hx => h5 x (by simp [hx])
    have ih := ks_inj cs cs' fs fs' m m' (by simpa using h1) (by simpa using h2) (by simpa using h3) g4 g5
    have e2 := e.2
    cases f <;> cases f'
    · simp only [Bool.false_eq_true, if_false] at e2
      obtain ⟨r1, r2, r3⟩ := ih e2
      exact ⟨by rw [hcc, r1], by rw [r2], r3⟩
    · simp only [Bool.false_eq_true, if_false, if_true] at e2
      exact absurd e2 (ks_head cs fs m _ g4)
    · simp only [Bool.false_eq_true, if_false, if_true] at e2
      exact absurd e2.symm (ks_head cs' fs' m' _ g5)
    · simp only [if_true, List.cons.injEq, true_and] at e2
      obtain ⟨r1, r2, r3⟩ := ih e2
      exact ⟨by rw [hcc, r1], by rw [r2], r3⟩
  | [], [], _ :: _, _, _, _, h1, _, _, _, _, _ => by simp at h1
  | [], [], [], _ :: _, _, _, _, h2, _, _, _, _ => by simp at h2
  | [], _ :: _, _, _, _, _, _, _, h3, _, _, _ => by simp at h3
  | _ :: _, [], _, _, _, _, _, _, h3, _, _, _ => by simp at h3
  | _ :: _, _ :: _, [], _, _, _, h1, _, _, _, _, _ => by simp at h1
  | _ :: _, _ :: _, _ :: _, [], _, _, _, h2, _, _, _, _ => by simp at h2

/-! codes -/
def goC : Nat → List Int → Nat
  | a, [] => a
  | a, c :: cs => goC (4 * a + c.toNat) cs
def goF : Nat → List Bool → Nat
  | a, [] => a
  | a, f :: fs => goF (2 * a + f.toNat) fs
def code (s : Sd) : Nat := 2 * goF (goC 0 s.1) s.2.1 + s.2.2.1.toNat
theorem goC_lt : ∀ (cs : List Int) (a : Nat), (∀ x ∈ cs, 0 ≤ x ∧ x ≤ 3) → goC a cs < (a + 1) * 4 ^ cs.length
  | [], a, _ => by simp [goC]
  | c :: cs, a, h => by
    have hc := h c (by simp)
    have ih := goC_lt cs (4 * a + c.toNat) (fun x hx => h x (by simp [hx]))
    have h1 : (4 * a + c.toNat + 1) * 4 ^ cs.length ≤ (4 * (a + 1)) * 4 ^ cs.length := Nat.mul_le_mul_right _ (by omega)
    have h2 : (a + 1) * 4 ^ (c :: cs).length = 4 * (a + 1) * 4 ^ cs.length := by
      simp only [List.length_cons, Nat.pow_succ]
      rw [Nat.mul_comm (4 ^ cs.length) 4, ← Nat.mul_assoc, Nat.mul_comm (a + 1) 4]
    simp only [goC]
    omega
theorem goF_lt : ∀ (fs : List Bool) (a : Nat), goF a fs < (a + 1) * 2 ^ fs.length
  | [], a => by simp [goF]
  | f :: fs, a => by
    have ih := goF_lt fs (2 * a + f.toNat)
    have hf : f.toNat ≤ 1 := by cases f <;> simp
    have h1 : (2 * a + f.toNat + 1) * 2 ^ fs.length ≤ (2 * (a + 1)) * 2 ^ fs.length := Nat.mul_le_mul_right _ (by omega)
    have h2 : (a + 1) * 2 ^ (f :: fs).length = 2 * (a + 1) * 2 ^ fs.length := by
      simp only [List.length_cons, Nat.pow_succ]
      rw [Nat.mul_comm (2 ^ fs.length) 2, ← Nat.mul_assoc, Nat.mul_comm (a + 1) 2]
    simp only [goF]
    omega
theorem goC_inj : ∀ (cs cs' : List Int) (a a' : Nat), cs.length = cs'.length → (∀ x ∈ cs, 0 ≤ x ∧ x ≤ 3) → (∀ x ∈ cs', 0 ≤ x ∧ x ≤ 3) → goC a cs = goC a' cs' → a = a' ∧ cs = cs'
  | [], [], a, a', _, _, _, e => ⟨e, rfl⟩
  | c :: cs, c' :: cs', a, a', h, h1, h2, e => by
    have hc := h1 c (by simp)
    have hc' := h2 c' (by simp)
    obtain ⟨k1, k2⟩ := goC_inj cs cs' _ _ (by simpa using h) (fun x hx => h1 x (by simp [hx])) (fun x hx => h2 x (by simp [hx])) e
    have : a = a' ∧ c = c' := by omega
    exact ⟨this.1, by rw [this.2, k2]⟩
  | [], _ :: _, _, _, h, _, _, _ => by simp at h
  | _ :: _, [], _, _, h, _, _, _ => by simp at h
theorem goF_inj : ∀ (fs fs' : List Bool) (a a' : Nat), fs.length = fs'.length → goF a fs = goF a' fs' → a = a' ∧ fs = fs'
  | [], [], a, a', _, e => ⟨e, rfl⟩
  | f :: fs, f' :: fs', a, a', h, e => by
    obtain ⟨k1, k2⟩ := goF_inj fs fs' _ _ (by simpa using h) e
    have : a = a' ∧ f = f' := by cases f <;> cases f' <;> simp at k1 ⊢ <;> omega
    exact ⟨this.1, by rw [this.2, k2]⟩
  | [], _ :: _, _, _, h, _ => by simp at h
  | _ :: _, [], _, _, h, _ => by simp at h
/-- A system of n caches. -/
def okS (n : Nat) (s : Sd) : Prop := s.1.length = n ∧ s.2.1.length = n ∧ ∀ x ∈ s.1, 0 ≤ x ∧ x ≤ 3
theorem code_lt {n : Nat} {s : Sd} (hn : n ≤ 3) (h : okS n s) : code s < 1024 := by
  obtain ⟨h1, h2, h3⟩ := h
  have c1 := goC_lt s.1 0 h3
  have c2 := goF_lt s.2.1 (goC 0 s.1)
  have c3 : s.2.2.1.toNat ≤ 1 := by cases s.2.2.1 <;> simp
  rw [h1] at c1
  rw [h2] at c2
  have c4 : (goC 0 s.1 + 1) * 2 ^ n ≤ 4 ^ n * 2 ^ n := Nat.mul_le_mul_right _ (by omega)
  have c5 : 4 ^ n * 2 ^ n ≤ 512 := by
    match n, hn with
    | 0, _ => decide
    | 1, _ => decide
    | 2, _ => decide
    | 3, _ => decide
  unfold code
  omega
theorem code_inj {n : Nat} {s s' : Sd} (h : okS n s) (h' : okS n s') (e : code s = code s') : s = s' := by
  obtain ⟨cs, fs, m, ⟨⟩⟩ := s
  obtain ⟨cs', fs', m', ⟨⟩⟩ := s'
  obtain ⟨h1, h2, h3⟩ := h
  obtain ⟨g1, g2, g3⟩ := h'
  simp only at h1 h2 h3 g1 g2 g3
  have e0 : 2 * goF (goC 0 cs) fs + m.toNat = 2 * goF (goC 0 cs') fs' + m'.toNat := e
  have e1 : goF (goC 0 cs) fs = goF (goC 0 cs') fs' ∧ m = m' := by cases m <;> cases m' <;> simp at e0 ⊢ <;> omega
  obtain ⟨e2, e3⟩ := goF_inj fs fs' _ _ (by omega) e1.1
  obtain ⟨_, e4⟩ := goC_inj cs cs' _ _ (by omega) h3 g3 e2
  rw [e4, e3, e1.2]
def key (s : Sd) : ByteArray := ⟨(ks s.1 s.2.1 s.2.2.1).toArray⟩
theorem key_inj {n : Nat} {s s' : Sd} (h : okS n s) (h' : okS n s') (e : key s = key s') : s = s' := by
  obtain ⟨cs, fs, m, ⟨⟩⟩ := s
  obtain ⟨cs', fs', m', ⟨⟩⟩ := s'
  obtain ⟨h1, h2, h3⟩ := h
  obtain ⟨g1, g2, g3⟩ := h'
  simp only at h1 h2 h3 g1 g2 g3
  have e0 : ks cs fs m = ks cs' fs' m' := by
    have := congrArg (fun b : ByteArray => b.data.toList) e
    simpa [key] using this
  obtain ⟨k1, k2, k3⟩ := ks_inj cs cs' fs fs' m m' (by omega) (by omega) (by omega) h3 g3 e0
  rw [k1, k2, k3]
def dN : Nd := (([], [], false, ()), 0, (0, 0, ()), ())
abbrev St2 : Type := List Nd × Option Nd
def has (ns : List Nd) (s : Sd) : Bool := ns.any fun nd => decide (nd.1 = s)
section
variable (nx : Sd → Int → Nat → Sd × Bool)
def visit (i : Nat) (k : Int) (c : Nat) (st : St2) : St2 :=
  if (nx (st.1.getD i dN).1 k c).2 = true then (st.1, some (st.2.getD ((nx (st.1.getD i dN).1 k c).1, (i : Int), (k, (c : Int), ()), ())))
  else if has st.1 (nx (st.1.getD i dN).1 k c).1 = true then st else (st.1 ++ [((nx (st.1.getD i dN).1 k c).1, (i : Int), (k, (c : Int), ()), ())], st.2)
def visC (i n : Nat) (k : Int) : Nat → St2 → St2
  | 0, st => st
  | j + 1, st => visC i n k j (visit nx i k (n - (j + 1)) st)
def visK (i n : Nat) : Nat → St2 → St2
  | 0, st => st
  | j + 1, st => visK i n j (visC nx i n ((3 - (j + 1) : Nat) : Int) n st)
def bfs (n : Nat) : Nat → Nat → St2 → St2
  | 0, _, st => st
  | f + 1, i, st => if i < st.1.length then bfs n f (i + 1) (visK nx i n 3 st) else st
/-- The first system. -/
def first (n : Nat) : Sd := (List.replicate n 0, List.replicate n false, true, ())
def start (n : Nat) : St2 := ([(first n, -1, (0, 0, ()), ())], none)
/-- All that is found. -/
def found (n : Nat) : St2 := bfs nx n 1025 0 (start n)
end
/-- What holds of what has been found. -/
structure Inv (n : Nat) (st : St2) : Prop where
  ok : ∀ nd ∈ st.1, okS n nd.1
  nodup : (st.1.map (fun nd => code nd.1)).Nodup
  par : ∀ j (h : j < st.1.length), (st.1[j]).2.1 < j
  last : ∀ nd, st.2 = some nd → 0 ≤ nd.2.1 ∧ nd.2.1 < st.1.length
theorem nodup_le : ∀ (N : Nat) (l : List Nat), l.Nodup → (∀ x ∈ l, x < N) → l.length ≤ N
  | 0, l, _, h => by
    cases l with
    | nil => simp
    | cons x l => exact absurd (h x (by simp)) (by omega)
  | N + 1, l, hn, h => by
    by_cases hN : N ∈ l
    · have h1 : (l.erase N).length + 1 = l.length := by
        rw [List.length_erase_of_mem hN]
        have := List.length_pos_of_mem hN
        omega
      have h2 := nodup_le N (l.erase N) (hn.erase N) (fun x hx => by
        have hx2 := h x (List.mem_of_mem_erase hx)
        have : x ≠ N := fun e => by
          subst e
          exact (List.Nodup.not_mem_erase hn) hx
        omega)
      omega
    · have := nodup_le N l hn (fun x hx => by
        have := h x hx
        have : x ≠ N := fun e => hN (e ▸ hx)
        omega)
      omega
theorem Inv.le {n : Nat} {st : St2} (hn : n ≤ 3) (h : Inv n st) : st.1.length ≤ 1024 := by
  have := nodup_le 1024 _ h.nodup (fun x hx => by
    obtain ⟨nd, h1, rfl⟩ := List.mem_map.1 hx
    exact code_lt hn (h.ok nd h1))
  simpa using this
theorem has_iff {ns : List Nd} {s : Sd} : has ns s = true ↔ ∃ nd ∈ ns, nd.1 = s := by
  simp [has, List.any_eq_true]
section
variable {nx : Sd → Int → Nat → Sd × Bool} {n : Nat}
/-- What a step must be like. -/
def StepOK (nx : Sd → Int → Nat → Sd × Bool) (n : Nat) : Prop := ∀ s k c, okS n s → 0 ≤ k → k ≤ 2 → c < n → okS n (nx s k c).1
theorem visit_inv (hx : StepOK nx n) {st : St2} (h : Inv n st) {i : Nat} (hi : i < st.1.length) {k : Int} (h0 : 0 ≤ k) (h2 : k ≤ 2) {c : Nat} (hc : c < n) : Inv n (visit nx i k c st) ∧ ∃ more, (visit nx i k c st).1 = st.1 ++ more := by
  have hs : okS n (st.1.getD i dN).1 := h.ok _ (by rw [getD_of_lt hi]; exact List.getElem_mem hi)
  have hs2 := hx _ k c hs h0 h2 hc
  unfold visit
  split
  · refine ⟨⟨h.ok, h.nodup, h.par, fun nd hnd => ?_⟩, [], by simp⟩
    simp only [Option.some.injEq] at hnd
    cases hl : st.2 with
    | some x => rw [hl] at hnd; cases hnd; exact h.last _ hl
    | none =>
      rw [hl] at hnd
      simp only [Option.getD_none] at hnd
      subst hnd
      exact ⟨by simp, by simp; omega⟩
  · split
    · exact ⟨h, [], by simp⟩
    · rename_i hh
      refine ⟨⟨fun nd hnd => ?_, ?_, fun j hj => ?_, fun nd hnd => ?_⟩, _, rfl⟩
      · rcases List.mem_append.1 hnd with hnd | hnd
        · exact h.ok nd hnd
        · simp only [List.mem_singleton] at hnd
          subst hnd
          exact hs2
      · simp only [List.map_append, List.map_cons, List.map_nil]
        rw [List.nodup_append]
        refine ⟨h.nodup, by simp, fun a ha b hb => ?_⟩
        simp only [List.mem_singleton] at hb
        subst hb
        obtain ⟨nd, h1, rfl⟩ := List.mem_map.1 ha
        intro e
        exact hh (has_iff.2 ⟨nd, h1, code_inj (h.ok nd h1) hs2 e⟩)
      · simp only [List.length_append, List.length_cons, List.length_nil] at hj
        rw [List.getElem_append]
        split
        · rename_i hj2; exact h.par j hj2
        · simp only [List.getElem_singleton]; omega
      · obtain ⟨a, b⟩ := h.last nd hnd
        exact ⟨a, by simp only [List.length_append, List.length_cons, List.length_nil]; omega⟩
theorem visC_inv (hx : StepOK nx n) {i : Nat} {k : Int} (h0 : 0 ≤ k) (h2 : k ≤ 2) : ∀ (j : Nat) {st : St2}, j ≤ n → Inv n st → i < st.1.length → Inv n (visC nx i n k j st) ∧ ∃ more, (visC nx i n k j st).1 = st.1 ++ more
  | 0, st, _, h, _ => ⟨h, [], by simp [visC]⟩
  | j + 1, st, hj, h, hi => by
    obtain ⟨h1, m1, e1⟩ := visit_inv hx h hi h0 h2 (c := n - (j + 1)) (by omega)
    obtain ⟨h3, m2, e2⟩ := visC_inv hx (i := i) h0 h2 j (by omega) h1 (by rw [e1]; simp; omega)
    exact ⟨h3, m1 ++ m2, by rw [visC, e2, e1, List.append_assoc]⟩
theorem visK_inv (hx : StepOK nx n) {i : Nat} : ∀ (j : Nat) {st : St2}, j ≤ 3 → Inv n st → i < st.1.length → Inv n (visK nx i n j st) ∧ ∃ more, (visK nx i n j st).1 = st.1 ++ more
  | 0, st, _, h, _ => ⟨h, [], by simp [visK]⟩
  | j + 1, st, hj, h, hi => by
    obtain ⟨h1, m1, e1⟩ := visC_inv hx (i := i) (k := ((3 - (j + 1) : Nat) : Int)) (by omega) (by omega) n (Nat.le_refl _) h hi
    obtain ⟨h3, m2, e2⟩ := visK_inv hx (i := i) j (by omega) h1 (by rw [e1]; simp; omega)
    exact ⟨h3, m1 ++ m2, by rw [visK, e2, e1, List.append_assoc]⟩
theorem start_inv (hn : 1 ≤ n) : Inv n (start n) := by
  refine ⟨fun nd hnd => ?_, by simp [start], fun j hj => ?_, fun nd hnd => by cases hnd⟩
  · simp only [start, List.mem_singleton] at hnd
    subst hnd
    refine ⟨by simp [first], by simp [first], fun x hx => ?_⟩
    simp only [first, List.mem_replicate] at hx
    omega
  · have : j = 0 := by simp [start] at hj; exact hj
    subst this
    simp [start]
theorem bfs_inv (hx : StepOK nx n) : ∀ (f i : Nat) {st : St2}, Inv n st → Inv n (bfs nx n f i st)
  | 0, _, _, h => h
  | f + 1, i, st, h => by
    rw [bfs]
    split
    · rename_i hi
      exact bfs_inv hx f (i + 1) (visK_inv hx 3 (Nat.le_refl _) h hi).1
    · exact h
end

/-! paths -/
def pth (ps : List (List Od)) (nd : Nd) : List Od := if nd.2.1 < 0 then [] else ps.getD nd.2.1.toNat [] ++ [nd.2.2.1]
def pathsOf (ns : List Nd) : List (List Od) := ns.foldl (fun ps nd => ps ++ [pth ps nd]) []
theorem pathsOf_snoc (ns : List Nd) (nd : Nd) : pathsOf (ns ++ [nd]) = pathsOf ns ++ [pth (pathsOf ns) nd] := by
  simp [pathsOf, List.foldl_append]
theorem snoc_ind {α : Type} {p : List α → Prop} (h0 : p []) (h1 : ∀ l x, p l → p (l ++ [x])) : ∀ l, p l := by
  intro l
  rw [← List.reverse_reverse l]
  induction l.reverse with
  | nil => exact h0
  | cons x l ih => rw [List.reverse_cons]; exact h1 _ _ ih
theorem pathsOf_length (ns : List Nd) : (pathsOf ns).length = ns.length := by
  induction ns using snoc_ind with
  | h0 => rfl
  | h1 l x ih => rw [pathsOf_snoc, List.length_append, List.length_append, ih]; rfl
/-- The program's queue, all of it. -/
def qAll (ns : List Nd) : List Rd := (ns.zip (pathsOf ns)).map fun p => (p.1.1, p.2, ())
theorem qAll_snoc (ns : List Nd) (nd : Nd) : qAll (ns ++ [nd]) = qAll ns ++ [(nd.1, pth (pathsOf ns) nd, ())] := by
  unfold qAll
  rw [pathsOf_snoc, List.zip_append (by rw [pathsOf_length]), List.map_append]
  rfl
theorem qAll_length (ns : List Nd) : (qAll ns).length = ns.length := by
  simp [qAll, pathsOf_length]
theorem qAll_get {ns : List Nd} {i : Nat} (hi : i < ns.length) : (qAll ns)[i]'(by rw [qAll_length]; exact hi) = ((ns[i]).1, (pathsOf ns)[i]'(by rw [pathsOf_length]; exact hi), ()) := by
  simp [qAll]
/-- The keys that are known. -/
def kvs (ns : List Nd) : List (ByteArray × Bool) := ns.map fun nd => (key nd.1, true)
theorem find_kvs {n : Nat} {s : Sd} (hs : okS n s) : ∀ {ns : List Nd}, (∀ nd ∈ ns, okS n nd.1) → findL (tk := .str) (tv := .bool) (key s) (kvs ns) = if has ns s = true then some true else none
  | [], _ => rfl
  | nd :: ns, h => by
    have ih := find_kvs hs (ns := ns) (fun x hx => h x (by simp [hx]))
    have hk : keyEq .str (key s) (key nd.1) = decide (nd.1 = s) := by
      simp only [keyEq]
      by_cases e : nd.1 = s
      · subst e; simp
      · have : ¬ key s = key nd.1 := fun e2 => e (key_inj hs (h nd (by simp)) e2).symm
        simp [e, this]
    show (if keyEq .str (key s) (key nd.1) = true then some true else findL (tk := .str) (tv := .bool) (key s) (kvs ns)) = _
    rw [ih, hk]
    have hh : has (nd :: ns) s = (decide (nd.1 = s) || has ns s) := rfl
    rw [hh]
    by_cases e : nd.1 = s <;> simp [e]
theorem upd_kvs {n : Nat} {s : Sd} (hs : okS n s) : ∀ {ns : List Nd}, (∀ nd ∈ ns, okS n nd.1) → has ns s = false → updL (tk := .str) (tv := .bool) (key s) true (kvs ns) = kvs ns ++ [(key s, true)]
  | [], _, _ => rfl
  | nd :: ns, h, hh => by
    have h1 : has (nd :: ns) s = (decide (nd.1 = s) || has ns s) := rfl
    rw [h1, Bool.or_eq_false_iff] at hh
    have ih := upd_kvs hs (ns := ns) (fun x hx => h x (by simp [hx])) hh.2
    have hk : keyEq .str (key s) (key nd.1) = false := by
      simp only [keyEq]
      have hne : ¬ nd.1 = s := by simpa using hh.1
      have : ¬ key s = key nd.1 := fun e2 => hne (key_inj hs (h nd (by simp)) e2).symm
      simp [this]
    show (if keyEq .str (key s) (key nd.1) = true then _ else (key nd.1, true) :: updL (tk := .str) (tv := .bool) (key s) true (kvs ns)) = _
    rw [ih, hk]
    rfl
theorem call_fs (n : Nat) (h : 1 ≤ n ∧ n ≤ 3) : callOf pr 51 [I n] [] = some (.agg [.os (.t 256), .os (.t 384), B true], [(256, .arr true false (.int .i64) (List.replicate n 0)), (384, .arr true false .bool (List.replicate n false))]) := by
  have h1 : (((8 : Nat) : Int) * (n : Int) ≤ 140737488355328) = True := tr (by omega)
  have h2 : ((n : Int) ≤ 9223372036854775807) = True := tr (by omega)
  have h3 : (((1 : Nat) : Int) * (n : Int) ≤ 140737488355328) = True := tr (by omega)
  rw [call_eq pr 51 _ _ Try.f51 fn_51 _ rfl _ ann_51 rfl]
  simp -implicitDefEqProofs only [h1, h2, h3, zero_le_cast, Int.le_refl, Int.toNat_natCast, go_sem, Nat.reduceAdd, Nat.reduceSub, Nat.reduceMul, Nat.reduceMod, Nat.reduceLT, Nat.reduceLeDiff, Nat.reduceEqDiff, Nat.reduceBEq, Nat.reduceDiv, Int.reduceLT, Int.reduceLE, Int.reduceToNat, Int.reduceNeg, Int.reduceEq, ↓reduceIte, reduceCtorEq, ↓reduceDIte]
def mkB (l : List UInt8) : ByteArray := ⟨l.toArray⟩
theorem mkB_push (l : List UInt8) (b : UInt8) : (mkB l).push b = mkB (l ++ [b]) := by
  apply ByteArray.ext
  simp [mkB, ByteArray.push]
theorem mkB_size (l : List UInt8) : (mkB l).size = l.length := by simp [mkB, ByteArray.size]
def kg : List Int → List Bool → List UInt8
  | c :: cs, f :: fs => UInt8.ofNat (48 + c).toNat :: (if f = true then 102 :: kg cs fs else kg cs fs)
  | _, _ => []
theorem ks_kg : ∀ (cs : List Int) (fs : List Bool) (m : Bool), ks cs fs m = kg cs fs ++ (if m = true then [109] else [])
  | c :: cs, f :: fs, m => by
    simp only [ks, kg, ks_kg cs fs m]
    cases f <;> simp
  | [], _, m => by simp [ks, kg]
  | _ :: _, [], m => by simp [ks, kg]
theorem call_wbl (l : List UInt8) (c : Int) (h0 : 0 ≤ c) (h1 : c < 256) (hl : l.length < 1000000) : callOf pr 115 [.op 1000000 0, .d (.int .u8) c] [(1000000, .bld false 156 5 (mkB l))] = some (.d .err false, [(1000000, .bld false 156 5 (mkB (l ++ [UInt8.ofNat c.toNat])))]) := by
  rw [call_wb (mkB l) c h0 h1 (by rw [mkB_size]; omega), mkB_push]
theorem loop_key (cs : List Int) (fs : List Bool) (m : Bool) (hl : cs.length ≤ 3) (hcf : cs.length = fs.length) : ∀ (rest pre : List Int) (fr fp : List Bool) (acc : List UInt8), cs = pre ++ rest → fs = fp ++ fr → pre.length = fp.length → (∀ x ∈ rest, 0 ≤ x ∧ x ≤ 3) → acc.length + 2 * rest.length < 900 →
    loopOf pr 91 0 ⟨[(1, .op 64 0), (3, .op 192 0), (7, cI cs), (8, I cs.length), (9, I pre.length)], [(64, .box [cI cs, LB fs, B m]), (192, .bld false 156 5 (mkB acc))]⟩ =
      some (.exit 0, ⟨[(1, .op 64 0), (3, .op 192 0), (7, cI cs), (8, I cs.length), (9, I cs.length)], [(64, .box [cI cs, LB fs, B m]), (192, .bld false 156 5 (mkB (acc ++ kg rest fr)))]⟩)
  | [], pre, fr, fp, acc, h, hf, hp, _, _ => by
    have hlen : cs.length = pre.length := by rw [h]; simp
    rw [loop_eq pr 91 0 _ Try.f91 fn_91 _ rfl _ ann_91 _ rfl]
    simp -implicitDefEqProofs only [hlen, Int.lt_irrefl, go_sem, Nat.reduceAdd, Nat.reduceSub, Nat.reduceMul, Nat.reduceMod, Nat.reduceLT, Nat.reduceLeDiff, Nat.reduceEqDiff, Nat.reduceBEq, Nat.reduceDiv, Int.reduceLT, Int.reduceLE, Int.reduceToNat, Int.reduceNeg, Int.reduceEq, ↓reduceIte, reduceCtorEq, ↓reduceDIte]
    simp [kg]
  | c :: rest, pre, fr, fp, acc, h, hf, hp, hx, ha => by
    have hlen : cs.length = pre.length + (rest.length + 1) := by rw [h]; simp
    obtain ⟨f, fr, rfl⟩ : ∃ f fr', fr = f :: fr' := by
      cases fr with
      | nil => rw [hf] at hcf; simp at hcf; omega
      | cons f fr => exact ⟨f, fr, rfl⟩
    have hk : pre.length < cs.length := by omega
    have hkf : pre.length < fs.length := by omega
    have hg : ∀ z, cs.getD pre.length z = c := by intro z; rw [h]; simp
    have hgf : ∀ z, fs.getD pre.length z = f := by intro z; rw [hf, hp]; simp
    have hc := hx c (by simp)
    have hw1 : IntKind.i64.wrap (48 + c) = 48 + c := by rw [wrap_i] <;> omega
    have hw2 : IntKind.u8.wrap (48 + c) = 48 + c := by simp [IntKind.wrap, IntKind.signed, IntKind.bits]; omega
    have hws := wrap_succ hk (show cs.length < 1000000000000000000 by omega)
    simp only [List.length_cons] at ha
    have hb1 := call_wbl acc (48 + c) (by omega) (by omega) (by omega)
    have hb2 := call_wbl (acc ++ [UInt8.ofNat (48 + c).toNat]) 102 (by omega) (by omega) (by simp; omega)
    have e1 : (pre ++ [c]).length = pre.length + 1 := by simp
    cases f with
    | false =>
      have ih := loop_key cs fs m hl hcf rest (pre ++ [c]) fr (fp ++ [false]) (acc ++ [UInt8.ofNat (48 + c).toNat]) (by rw [h]; simp) (by rw [hf]; simp) (by simp [hp]) (fun x hy => hx x (by simp [hy])) (by simp; omega)
      rw [e1] at ih
      rw [loop_eq pr 91 0 _ Try.f91 fn_91 _ rfl _ ann_91 _ rfl]
      simp -implicitDefEqProofs only [lt_cast hk, lt_cast hkf, zero_le_cast, Int.toNat_natCast, hg, hgf, hw1, hw2, hws, hb1, go_sem, Nat.reduceAdd, Nat.reduceSub, Nat.reduceMul, Nat.reduceMod, Nat.reduceLT, Nat.reduceLeDiff, Nat.reduceEqDiff, Nat.reduceBEq, Nat.reduceDiv, Int.reduceLT, Int.reduceLE, Int.reduceToNat, Int.reduceNeg, Int.reduceEq, ↓reduceIte, reduceCtorEq, ↓reduceDIte]
      rw [ih]
      simp [kg]
    | true =>
      have ih := loop_key cs fs m hl hcf rest (pre ++ [c]) fr (fp ++ [true]) (acc ++ [UInt8.ofNat (48 + c).toNat] ++ [102]) (by rw [h]; simp) (by rw [hf]; simp) (by simp [hp]) (fun x hy => hx x (by simp [hy])) (by simp; omega)
      rw [e1] at ih
      rw [loop_eq pr 91 0 _ Try.f91 fn_91 _ rfl _ ann_91 _ rfl]
      simp -implicitDefEqProofs only [lt_cast hk, lt_cast hkf, zero_le_cast, Int.toNat_natCast, hg, hgf, hw1, hw2, hws, hb1, hb2, go_sem, Nat.reduceAdd, Nat.reduceSub, Nat.reduceMul, Nat.reduceMod, Nat.reduceLT, Nat.reduceLeDiff, Nat.reduceEqDiff, Nat.reduceBEq, Nat.reduceDiv, Int.reduceLT, Int.reduceLE, Int.reduceToNat, Int.reduceNeg, Int.reduceEq, ↓reduceIte, reduceCtorEq, ↓reduceDIte]
      rw [show UInt8.ofNat 102 = (102 : UInt8) from rfl, ih]
      simp [kg]
theorem kg_length : ∀ (cs : List Int) (fs : List Bool), (kg cs fs).length ≤ 2 * cs.length
  | c :: cs, f :: fs => by
    have := kg_length cs fs
    simp only [kg]
    split <;> simp only [List.length_cons] <;> omega
  | [], _ => by simp [kg]
  | _ :: _, [] => by simp [kg]
theorem call_key {n : Nat} (s : Sd) (hn : n ≤ 3) (h : okS n s) : callOf pr 91 [.agg [cI s.1, LB s.2.1, B s.2.2.1]] [] = some (S (key s), []) := by
  obtain ⟨cs, fs, m, ⟨⟩⟩ := s
  obtain ⟨h1, h2, h3⟩ := h
  simp only at h1 h2 h3
  have hl := loop_key cs fs m (by omega) (by omega) cs [] fs [] [] rfl rfl rfl h3 (by simp; omega)
  have hl : loopOf pr 91 0 ⟨[(1, .op 64 0), (3, .op 192 0), (7, cI cs), (8, I cs.length), (9, I 0)], [(64, .box [cI cs, LB fs, B m]), (192, .bld false 156 5 ByteArray.empty)]⟩ = _ := hl
  rw [List.nil_append] at hl
  have hk := kg_length cs fs
  have hb := call_wbl (kg cs fs) 109 (by omega) (by omega) (by omega)
  have hb : callOf pr 115 [.op 1000000 0, .d (.int .u8) (109 : Int)] _ = _ := hb
  have hs1 := call_bs (mkB (kg cs fs))
  have hs2 := call_bs (mkB (kg cs fs ++ [109]))
  have e : key (cs, fs, m, ()) = mkB (kg cs fs ++ (if m = true then [109] else [])) := by
    show (⟨(ks cs fs m).toArray⟩ : ByteArray) = _
    rw [ks_kg]; rfl
  rw [e, call_eq pr 91 _ _ Try.f91 fn_91 _ rfl _ ann_91 rfl]
  have h109 : UInt8.ofNat (Int.toNat 109) = 109 := rfl
  rw [h109] at hb
  cases m with
  | false =>
    simp -implicitDefEqProofs only [hl, hs1, List.append_nil, go_sem, Nat.reduceAdd, Nat.reduceSub, Nat.reduceMul, Nat.reduceMod, Nat.reduceLT, Nat.reduceLeDiff, Nat.reduceEqDiff, Nat.reduceBEq, Nat.reduceDiv, Int.reduceLT, Int.reduceLE, Int.reduceToNat, Int.reduceNeg, Int.reduceEq, ↓reduceIte, reduceCtorEq, ↓reduceDIte]
  | true =>
    simp -implicitDefEqProofs only [hl, hb, hs2, go_sem, Nat.reduceAdd, Nat.reduceSub, Nat.reduceMul, Nat.reduceMod, Nat.reduceLT, Nat.reduceLeDiff, Nat.reduceEqDiff, Nat.reduceBEq, Nat.reduceDiv, Int.reduceLT, Int.reduceLE, Int.reduceToNat, Int.reduceNeg, Int.reduceEq, ↓reduceIte, reduceCtorEq, ↓reduceDIte]
def okR (t : List Ru) : Prop := ∀ r ∈ t, (0 ≤ r.1 ∧ r.1 ≤ 3) ∧ (0 ≤ r.2.1 ∧ r.2.1 ≤ 3)
theorem okR_get {t : List Ru} (h : okR t) (j : Nat) : (0 ≤ (t.getD j rZ).1 ∧ (t.getD j rZ).1 ≤ 3) ∧ (0 ≤ (t.getD j rZ).2.1 ∧ (t.getD j rZ).2.1 ≤ 3) := by
  by_cases hj : j < t.length
  · rw [getD_of_lt hj]; exact h _ (List.getElem_mem hj)
  · rw [show t.getD j rZ = rZ from by simp [List.getD, List.getElem?_eq_none (Nat.le_of_not_lt hj)]]
    exact ⟨⟨by decide, by decide⟩, ⟨by decide, by decide⟩⟩
abbrev rng (cs : List Int) : Prop := ∀ x ∈ cs, 0 ≤ x ∧ x ≤ 3
theorem rng_set {cs : List Int} (h : rng cs) (n : Nat) {v : Int} (hv : 0 ≤ v ∧ v ≤ 3) : rng (cs.set n v) := by
  intro x hx
  rcases List.mem_or_eq_of_mem_set hx with hx | rfl
  · exact h x hx
  · exact hv
theorem see_rng {rules : List Ru} (hr : okR rules) (c : Int) : ∀ (cs : List Int) (fs : List Bool) (i : Int) (m : Bool) (k : Int), rng cs → rng (seeL rules c i cs fs m k).1
  | [], [], _, _, _, h => h
  | [], _ :: _, _, _, _, h => h
  | _ :: _, [], _, _, _, h => h
  | x :: cs, f :: fs, i, m, k, h => by
    have g : rng cs := fun y hy => h y (by simp [hy])
    by_cases hk : i = c ∨ x = 0
    · rw [see_skip rules c i x cs f fs m k hk]
      have ih := see_rng hr c cs fs (i + 1) m k g
      intro y hy
      rcases List.mem_cons.1 hy with rfl | hy
      · exact h y (by simp)
      · exact ih y hy
    · rw [seeL, if_neg (by simpa using hk)]
      intro y hy
      rcases List.mem_cons.1 hy with rfl | hy
      · exact (okR_get hr _).1
      · exact see_rng hr c cs fs (i + 1) _ _ g y hy
/-- The next system, and whether there is a flaw. -/
def nextF (a b v d e : List Ru) (s : Sd) (k : Int) (c : Nat) : Sd × Bool :=
  (((stepS a b v d e k c s.1 s.2.1 s.2.2.1).1, (stepS a b v d e k c s.1 s.2.1 s.2.2.1).2.1, (stepS a b v d e k c s.1 s.2.1 s.2.2.1).2.2.1, ()), flawB (stepS a b v d e k c s.1 s.2.1 s.2.2.1))
theorem step_ok {a b v d e : List Ru} (ha : okR a) (hb : okR b) (hv : okR v) (hd : okR d) (he : okR e) (k : Int) (n : Nat) (cs : List Int) (fs : List Bool) (m : Bool) (hcf : cs.length = fs.length) (hx : rng cs) :
    (stepS a b v d e k n cs fs m).1.length = cs.length ∧ (stepS a b v d e k n cs fs m).2.1.length = fs.length ∧ rng (stepS a b v d e k n cs fs m).1 := by
  unfold stepS
  split
  · split
    · have h1 := see_len d n cs fs 0 m 0 hcf
      have h2 := see_rng hd n cs fs 0 m 0 hx
      unfold sR0
      refine ⟨?_, ?_, ?_⟩
      · simp only
        split <;> simp [h1.1]
      · simp [h1.2]
      · simp only
        split
        · exact rng_set (rng_set h2 _ (okR_get ha _).1) _ (okR_get ha _).2
        · exact rng_set h2 _ (okR_get ha _).1
    · unfold sR1
      exact ⟨by simp, rfl, rng_set hx _ (okR_get ha _).1⟩
  · split
    · have h1 := see_len e n cs fs 0 m 0 hcf
      have h2 := see_rng he n cs fs 0 m 0 hx
      unfold aftW
      split
      · exact ⟨by simp [h1.1], by simp [h1.2], rng_set h2 _ (okR_get hb _).1⟩
      · exact ⟨by simp, by simp, rng_set hx _ (okR_get hb _).1⟩
    · unfold aftE
      exact ⟨by simp, by simp, rng_set hx _ (by decide)⟩
theorem next_ok {a b v d e : List Ru} (ha : okR a) (hb : okR b) (hv : okR v) (hd : okR d) (he : okR e) (n : Nat) : StepOK (nextF a b v d e) n := by
  intro s k c hs h0 h2 hc
  obtain ⟨h1, h3, h4⟩ := hs
  obtain ⟨g1, g2, g3⟩ := step_ok ha hb hv hd he k c s.1 s.2.1 s.2.2.1 (by omega) h4
  exact ⟨by show _ = n; rw [← h1]; exact g1, by show _ = n; rw [← h3]; exact g2, g3⟩
theorem prot_okR {a b v d e : List Ru} (h : protB a b v d e = true) : okR a ∧ okR b ∧ okR v ∧ okR d ∧ okR e := by
  simp only [protB, Bool.and_eq_true, List.all_cons, List.all_nil, and_true] at h
  have key : ∀ {t : List Ru}, tabOk t = true → okR t := by
    intro t ht r hr
    simp only [tabOk, Bool.and_eq_true, List.all_eq_true] at ht
    have := ht.2 r hr
    simpa [ruleB, copyB] using this
  exact ⟨key h.1.1.1, key h.1.1.2.1, key h.1.1.2.2.1, key h.1.1.2.2.2.1, key h.1.1.2.2.2.2⟩
/-- Paths are no longer than their places. -/
theorem paths_le : ∀ (ns : List Nd), (∀ j (h : j < ns.length), (ns[j]).2.1 < j) → ∀ j (h : j < (pathsOf ns).length), ((pathsOf ns)[j]).length ≤ j := by
  intro ns
  induction ns using snoc_ind with
  | h0 => intro _ j h; simp [pathsOf] at h
  | h1 l x ih =>
    intro hp j h
    have hl := pathsOf_length l
    have ih := ih (fun j h => by
      have := hp j (by simp; omega)
      rw [List.getElem_append_left h] at this
      exact this)
    have e := pathsOf_snoc l x
    have hj : j < l.length + 1 := by rw [e] at h; simp [hl] at h; exact h
    have : (pathsOf (l ++ [x]))[j]'h = (pathsOf l ++ [pth (pathsOf l) x])[j]'(by rw [← e]; exact h) := by congr 1
    rw [this, List.getElem_append]
    split
    · rename_i h2; exact ih j h2
    · rename_i h2
      have hjl : j = l.length := by omega
      simp only [List.getElem_singleton]
      have hx := hp l.length (by simp)
      simp at hx
      unfold pth
      split
      · simp
      · rename_i h0
        have hlt : x.2.1.toNat < (pathsOf l).length := by omega
        rw [getD_of_lt hlt, List.length_append]
        have := ih _ hlt
        simp only [List.length_cons, List.length_nil]
        omega
abbrev tS : Ty := .agg (.cons (.slice (.int .i64)) (.cons (.slice .bool) (.cons .bool .nil)))
abbrev tR : Ty := .agg (.cons tS (.cons (.slice tyO) .nil))
abbrev LO (xs : List Od) : AV := .d (.slice tyO) xs
def flV : Option (List Od) → AV
  | none => .nilS
  | some _ => .os (.t 640)
def flH : Option (List Od) → Heap
  | none => []
  | some fp => [(640, .arr true false tyO fp)]
abbrev HE (pa pb pv pd pe : List Ru) (xs : List Rd) (kv : List (ByteArray × Bool)) (ss : List Sd) (fo : Option (List Od)) : Heap :=
  (128, .box [LR pa, LR pb, LR pv, LR pd, LR pe]) :: (1536, .arr true false tR xs) :: (1600, .mp .str .bool kv) :: (1856, .arr true false tS ss) :: flH fo
abbrev now (cs : List Int) (fs : List Bool) (m : Bool) (ops : List Od) : AV := .rp [cI cs, LB fs, B m, LO ops]
abbrev S2 (n k c : Int) (q1 q2 : Nat) (fo : Option (List Od)) (w : AV) : Slots :=
  [(1, I n), (2, .op 128 0), (7, .sub (.t 1536) q1 q2), (8, .mp 1600), (9, .os (.t 1856)), (10, flV fo), (11, w), (12, I k), (43, I k), (46, I n), (47, I c)]
theorem it_flaw (pa pb pv pd pe : List Ru) (n k : Int) (c : Nat) (hc : (c : Int) < n) (hn : n ≤ 3) (cs : List Int) (fs : List Bool) (m : Bool) (ops : List Od) (ho : ops.length < 5000) (xs : List Rd) (hxs : xs.length < 5000) (kv : List (ByteArray × Bool)) (ss : List Sd) (q1 q2 : Nat) (hq : q1 + q2 = xs.length) (cs' : List Int) (fs' : List Bool) (m' se : Bool) (bk : Int) (fo : Option (List Od)) (hfo : ∀ fp, fo = some fp → fp.length ≠ 0) (hcl : callOf pr 66 [.agg [cI cs, LB fs, B m]] [] = some (.agg [.os (.t 320), .os (.t 512), B m], [(320, .arr true false (.int .i64) cs), (512, .arr true false .bool fs)]))
    (hst : callOf pr 52 [.op 1000000 0, pA pa pb pv pd pe, .agg [I k, I c]] (HX cs fs m) = some (AV.tuple [B true, B se, I bk], HX cs' fs' m')) :
    loopOf pr 46 2 ⟨S2 n k c q1 q2 fo (now cs fs m ops), HE pa pb pv pd pe xs kv ss fo⟩ = loopOf pr 46 2 ⟨S2 n k ((c + 1 : Nat) : Int) q1 q2 (some (fo.getD (ops ++ [(k, (c : Int), ())]))) (now cs fs m ops), HE pa pb pv pd pe xs kv ss (some (fo.getD (ops ++ [(k, (c : Int), ())])))⟩ := by
  have hco := call_clo ops (by omega)
  have hr1 : ((ops.length + 1) * 16 ≤ 140737488355328 ∧ ops.length ≤ 9223372036854775806) = True := tr ⟨by omega, by omega⟩
  have hw : IntKind.i64.wrap ((c : Int) + 1) = ((c + 1 : Nat) : Int) := by rw [wrap_i] <;> omega
  rw [loop_eq pr 46 2 _ Try.f46 fn_46 _ rfl _ ann_46 _ rfl]
  by_cases h0 : ops.length = 0
  · have : ops = [] := List.eq_nil_of_length_eq_zero h0
    subst this
    rw [cloneV, if_pos h0] at hco
    cases fo with
    | none => simp -implicitDefEqProofs only [flV, flH, Option.getD_none, Option.getD_some, tr hc, hcl, hst, hco, hr1, hw, List.nil_append, go_sem, Nat.reduceAdd, Nat.reduceSub, Nat.reduceMul, Nat.reduceMod, Nat.reduceLT, Nat.reduceLeDiff, Nat.reduceEqDiff, Nat.reduceBEq, Nat.reduceDiv, Int.reduceLT, Int.reduceLE, Int.reduceToNat, Int.reduceNeg, Int.reduceEq, ↓reduceIte, reduceCtorEq, ↓reduceDIte] <;> rfl
    | some fp =>
      have hf := hfo fp rfl
      simp -implicitDefEqProofs only [flV, flH, Option.getD_none, Option.getD_some, tr hc, hcl, hst, hco, hr1, hw, List.nil_append, fa hf, go_sem, Nat.reduceAdd, Nat.reduceSub, Nat.reduceMul, Nat.reduceMod, Nat.reduceLT, Nat.reduceLeDiff, Nat.reduceEqDiff, Nat.reduceBEq, Nat.reduceDiv, Int.reduceLT, Int.reduceLE, Int.reduceToNat, Int.reduceNeg, Int.reduceEq, ↓reduceIte, reduceCtorEq, ↓reduceDIte] <;> rfl
  · rw [cloneV, if_neg h0] at hco
    cases fo with
    | none => simp -implicitDefEqProofs only [flV, flH, Option.getD_none, Option.getD_some, tr hc, hcl, hst, hco, hr1, hw, go_sem, Nat.reduceAdd, Nat.reduceSub, Nat.reduceMul, Nat.reduceMod, Nat.reduceLT, Nat.reduceLeDiff, Nat.reduceEqDiff, Nat.reduceBEq, Nat.reduceDiv, Int.reduceLT, Int.reduceLE, Int.reduceToNat, Int.reduceNeg, Int.reduceEq, ↓reduceIte, reduceCtorEq, ↓reduceDIte] <;> rfl
    | some fp =>
      have hf := hfo fp rfl
      simp -implicitDefEqProofs only [flV, flH, Option.getD_none, Option.getD_some, tr hc, hcl, hst, hco, hr1, hw, fa hf, go_sem, Nat.reduceAdd, Nat.reduceSub, Nat.reduceMul, Nat.reduceMod, Nat.reduceLT, Nat.reduceLeDiff, Nat.reduceEqDiff, Nat.reduceBEq, Nat.reduceDiv, Int.reduceLT, Int.reduceLE, Int.reduceToNat, Int.reduceNeg, Int.reduceEq, ↓reduceIte, reduceCtorEq, ↓reduceDIte] <;> rfl
theorem it_seen (pa pb pv pd pe : List Ru) (n k : Int) (c : Nat) (hc : (c : Int) < n) (hn : n ≤ 3) (cs : List Int) (fs : List Bool) (m : Bool) (ops : List Od) (ho : ops.length < 5000) (xs : List Rd) (hxs : xs.length < 5000) (kv : List (ByteArray × Bool)) (ss : List Sd) (q1 q2 : Nat) (hq : q1 + q2 = xs.length) (cs' : List Int) (fs' : List Bool) (m' se : Bool) (bk : Int) (fo : Option (List Od)) (hfo : ∀ fp, fo = some fp → fp.length ≠ 0) (hcl : callOf pr 66 [.agg [cI cs, LB fs, B m]] [] = some (.agg [.os (.t 320), .os (.t 512), B m], [(320, .arr true false (.int .i64) cs), (512, .arr true false .bool fs)]))
    (hst : callOf pr 52 [.op 1000000 0, pA pa pb pv pd pe, .agg [I k, I c]] (HX cs fs m) = some (AV.tuple [B false, B se, I bk], HX cs' fs' m'))
    (kb : ByteArray) (hk : callOf pr 91 [.agg [cI cs', LB fs', B m']] [] = some (S kb, [])) (hfi : findL (tk := .str) (tv := .bool) kb kv = some true) :
    loopOf pr 46 2 ⟨S2 n k c q1 q2 fo (now cs fs m ops), HE pa pb pv pd pe xs kv ss fo⟩ = loopOf pr 46 2 ⟨S2 n k ((c + 1 : Nat) : Int) q1 q2 fo (now cs fs m ops), HE pa pb pv pd pe xs kv ss fo⟩ := by
  have hco := call_clo ops (by omega)
  have hr1 : ((ops.length + 1) * 16 ≤ 140737488355328 ∧ ops.length ≤ 9223372036854775806) = True := tr ⟨by omega, by omega⟩
  have hw : IntKind.i64.wrap ((c : Int) + 1) = ((c + 1 : Nat) : Int) := by rw [wrap_i] <;> omega
  rw [loop_eq pr 46 2 _ Try.f46 fn_46 _ rfl _ ann_46 _ rfl]
  by_cases h0 : ops.length = 0
  · have : ops = [] := List.eq_nil_of_length_eq_zero h0
    subst this
    rw [cloneV, if_pos h0] at hco
    cases fo with
    | none => simp -implicitDefEqProofs only [flV, flH, tr hc, hcl, hst, hco, hr1, hw, hk, hfi, List.nil_append, go_sem, Nat.reduceAdd, Nat.reduceSub, Nat.reduceMul, Nat.reduceMod, Nat.reduceLT, Nat.reduceLeDiff, Nat.reduceEqDiff, Nat.reduceBEq, Nat.reduceDiv, Int.reduceLT, Int.reduceLE, Int.reduceToNat, Int.reduceNeg, Int.reduceEq, ↓reduceIte, reduceCtorEq, ↓reduceDIte] <;> rfl
    | some fp =>
      have hf := hfo fp rfl
      simp -implicitDefEqProofs only [flV, flH, tr hc, hcl, hst, hco, hr1, hw, hk, hfi, List.nil_append, fa hf, go_sem, Nat.reduceAdd, Nat.reduceSub, Nat.reduceMul, Nat.reduceMod, Nat.reduceLT, Nat.reduceLeDiff, Nat.reduceEqDiff, Nat.reduceBEq, Nat.reduceDiv, Int.reduceLT, Int.reduceLE, Int.reduceToNat, Int.reduceNeg, Int.reduceEq, ↓reduceIte, reduceCtorEq, ↓reduceDIte] <;> rfl
  · rw [cloneV, if_neg h0] at hco
    cases fo with
    | none => simp -implicitDefEqProofs only [flV, flH, tr hc, hcl, hst, hco, hr1, hw, hk, hfi, go_sem, Nat.reduceAdd, Nat.reduceSub, Nat.reduceMul, Nat.reduceMod, Nat.reduceLT, Nat.reduceLeDiff, Nat.reduceEqDiff, Nat.reduceBEq, Nat.reduceDiv, Int.reduceLT, Int.reduceLE, Int.reduceToNat, Int.reduceNeg, Int.reduceEq, ↓reduceIte, reduceCtorEq, ↓reduceDIte] <;> rfl
    | some fp =>
      have hf := hfo fp rfl
      simp -implicitDefEqProofs only [flV, flH, tr hc, hcl, hst, hco, hr1, hw, hk, hfi, fa hf, go_sem, Nat.reduceAdd, Nat.reduceSub, Nat.reduceMul, Nat.reduceMod, Nat.reduceLT, Nat.reduceLeDiff, Nat.reduceEqDiff, Nat.reduceBEq, Nat.reduceDiv, Int.reduceLT, Int.reduceLE, Int.reduceToNat, Int.reduceNeg, Int.reduceEq, ↓reduceIte, reduceCtorEq, ↓reduceDIte] <;> rfl
theorem it_new (pa pb pv pd pe : List Ru) (n k : Int) (c : Nat) (hc : (c : Int) < n) (hn : n ≤ 3) (cs : List Int) (fs : List Bool) (m : Bool) (ops : List Od) (ho : ops.length < 5000) (xs : List Rd) (hxs : xs.length < 5000) (kv : List (ByteArray × Bool)) (ss : List Sd) (q1 q2 : Nat) (hq : q1 + q2 = xs.length) (cs' : List Int) (fs' : List Bool) (m' se : Bool) (bk : Int) (fo : Option (List Od)) (hfo : ∀ fp, fo = some fp → fp.length ≠ 0) (hcl : callOf pr 66 [.agg [cI cs, LB fs, B m]] [] = some (.agg [.os (.t 320), .os (.t 512), B m], [(320, .arr true false (.int .i64) cs), (512, .arr true false .bool fs)]))
    (hst : callOf pr 52 [.op 1000000 0, pA pa pb pv pd pe, .agg [I k, I c]] (HX cs fs m) = some (AV.tuple [B false, B se, I bk], HX cs' fs' m'))
    (kb : ByteArray) (hk : callOf pr 91 [.agg [cI cs', LB fs', B m']] [] = some (S kb, [])) (hfi : findL (tk := .str) (tv := .bool) kb kv = none) :
    loopOf pr 46 2 ⟨S2 n k c q1 q2 fo (now cs fs m ops), HE pa pb pv pd pe xs kv ss fo⟩ = loopOf pr 46 2 ⟨S2 n k ((c + 1 : Nat) : Int) 0 ((xs.drop q1).take q2 ++ [((cs', fs', m', ()), ops ++ [(k, (c : Int), ())], ())]).length fo (now cs fs m ops), HE pa pb pv pd pe ((xs.drop q1).take q2 ++ [((cs', fs', m', ()), ops ++ [(k, (c : Int), ())], ())]) (updL (tk := .str) (tv := .bool) kb true kv) ss fo⟩ := by
  have hco := call_clo ops (by omega)
  have hr1 : ((ops.length + 1) * 16 ≤ 140737488355328 ∧ ops.length ≤ 9223372036854775806) = True := tr ⟨by omega, by omega⟩
  have hw : IntKind.i64.wrap ((c : Int) + 1) = ((c + 1 : Nat) : Int) := by rw [wrap_i] <;> omega
  have hr2 : ¬ q1 + q2 + 1 ≤ xs.length := by omega
  have hr3 : ((q2 + 1) * 80 ≤ 140737488355328 ∧ q2 ≤ 9223372036854775806) = True := tr ⟨by omega, by omega⟩
  rw [loop_eq pr 46 2 _ Try.f46 fn_46 _ rfl _ ann_46 _ rfl]
  by_cases h0 : ops.length = 0
  · have : ops = [] := List.eq_nil_of_length_eq_zero h0
    subst this
    rw [cloneV, if_pos h0] at hco
    cases fo with
    | none => simp -implicitDefEqProofs only [flV, flH, tr hc, hcl, hst, hco, hr1, hw, hk, hfi, fa hr2, hr3, List.nil_append, go_sem, Nat.reduceAdd, Nat.reduceSub, Nat.reduceMul, Nat.reduceMod, Nat.reduceLT, Nat.reduceLeDiff, Nat.reduceEqDiff, Nat.reduceBEq, Nat.reduceDiv, Int.reduceLT, Int.reduceLE, Int.reduceToNat, Int.reduceNeg, Int.reduceEq, ↓reduceIte, reduceCtorEq, ↓reduceDIte] <;> rfl
    | some fp =>
      have hf := hfo fp rfl
      simp -implicitDefEqProofs only [flV, flH, tr hc, hcl, hst, hco, hr1, hw, hk, hfi, fa hr2, hr3, List.nil_append, fa hf, go_sem, Nat.reduceAdd, Nat.reduceSub, Nat.reduceMul, Nat.reduceMod, Nat.reduceLT, Nat.reduceLeDiff, Nat.reduceEqDiff, Nat.reduceBEq, Nat.reduceDiv, Int.reduceLT, Int.reduceLE, Int.reduceToNat, Int.reduceNeg, Int.reduceEq, ↓reduceIte, reduceCtorEq, ↓reduceDIte] <;> rfl
  · rw [cloneV, if_neg h0] at hco
    cases fo with
    | none => simp -implicitDefEqProofs only [flV, flH, tr hc, hcl, hst, hco, hr1, hw, hk, hfi, fa hr2, hr3, go_sem, Nat.reduceAdd, Nat.reduceSub, Nat.reduceMul, Nat.reduceMod, Nat.reduceLT, Nat.reduceLeDiff, Nat.reduceEqDiff, Nat.reduceBEq, Nat.reduceDiv, Int.reduceLT, Int.reduceLE, Int.reduceToNat, Int.reduceNeg, Int.reduceEq, ↓reduceIte, reduceCtorEq, ↓reduceDIte] <;> rfl
    | some fp =>
      have hf := hfo fp rfl
      simp -implicitDefEqProofs only [flV, flH, tr hc, hcl, hst, hco, hr1, hw, hk, hfi, fa hr2, hr3, fa hf, go_sem, Nat.reduceAdd, Nat.reduceSub, Nat.reduceMul, Nat.reduceMod, Nat.reduceLT, Nat.reduceLeDiff, Nat.reduceEqDiff, Nat.reduceBEq, Nat.reduceDiv, Int.reduceLT, Int.reduceLE, Int.reduceToNat, Int.reduceNeg, Int.reduceEq, ↓reduceIte, reduceCtorEq, ↓reduceDIte] <;> rfl
theorem ex_c_end (pa pb pv pd pe : List Ru) (n k : Int) (q1 q2 : Nat) (fo : Option (List Od)) (cs : List Int) (fs : List Bool) (m : Bool) (ops : List Od) (xs : List Rd) (kv : List (ByteArray × Bool)) (ss : List Sd) : loopOf pr 46 2 ⟨S2 n k n q1 q2 fo (now cs fs m ops), HE pa pb pv pd pe xs kv ss fo⟩ = some (.exit 4, ⟨S2 n k n q1 q2 fo (now cs fs m ops), HE pa pb pv pd pe xs kv ss fo⟩) := by
  rw [loop_eq pr 46 2 _ Try.f46 fn_46 _ rfl _ ann_46 _ rfl]
  cases fo with
  | none => simp -implicitDefEqProofs only [flV, flH, Int.lt_irrefl, go_sem, Nat.reduceAdd, Nat.reduceSub, Nat.reduceMul, Nat.reduceMod, Nat.reduceLT, Nat.reduceLeDiff, Nat.reduceEqDiff, Nat.reduceBEq, Nat.reduceDiv, Int.reduceLT, Int.reduceLE, Int.reduceToNat, Int.reduceNeg, Int.reduceEq, ↓reduceIte, reduceCtorEq, ↓reduceDIte] <;> rfl
  | some fp => simp -implicitDefEqProofs only [flV, flH, Int.lt_irrefl, go_sem, Nat.reduceAdd, Nat.reduceSub, Nat.reduceMul, Nat.reduceMod, Nat.reduceLT, Nat.reduceLeDiff, Nat.reduceEqDiff, Nat.reduceBEq, Nat.reduceDiv, Int.reduceLT, Int.reduceLE, Int.reduceToNat, Int.reduceNeg, Int.reduceEq, ↓reduceIte, reduceCtorEq, ↓reduceDIte] <;> rfl
abbrev S1 (n k : Int) (q1 q2 : Nat) (fo : Option (List Od)) (w : AV) : Slots :=
  [(1, I n), (2, .op 128 0), (7, .sub (.t 1536) q1 q2), (8, .mp 1600), (9, .os (.t 1856)), (10, flV fo), (11, w), (43, I k)]
theorem ex_k_end (pa pb pv pd pe : List Ru) (n : Int) (q1 q2 : Nat) (fo : Option (List Od)) (cs : List Int) (fs : List Bool) (m : Bool) (ops : List Od) (xs : List Rd) (kv : List (ByteArray × Bool)) (ss : List Sd) : loopOf pr 46 1 ⟨S1 n 3 q1 q2 fo (now cs fs m ops), HE pa pb pv pd pe xs kv ss fo⟩ = some (.exit 2, ⟨S1 n 3 q1 q2 fo (now cs fs m ops), HE pa pb pv pd pe xs kv ss fo⟩) := by
  rw [loop_eq pr 46 1 _ Try.f46 fn_46 _ rfl _ ann_46 _ rfl]
  cases fo with
  | none => simp -implicitDefEqProofs only [flV, flH, Int.lt_irrefl, go_sem, Nat.reduceAdd, Nat.reduceSub, Nat.reduceMul, Nat.reduceMod, Nat.reduceLT, Nat.reduceLeDiff, Nat.reduceEqDiff, Nat.reduceBEq, Nat.reduceDiv, Int.reduceLT, Int.reduceLE, Int.reduceToNat, Int.reduceNeg, Int.reduceEq, ↓reduceIte, reduceCtorEq, ↓reduceDIte] <;> rfl
  | some fp => simp -implicitDefEqProofs only [flV, flH, Int.lt_irrefl, go_sem, Nat.reduceAdd, Nat.reduceSub, Nat.reduceMul, Nat.reduceMod, Nat.reduceLT, Nat.reduceLeDiff, Nat.reduceEqDiff, Nat.reduceBEq, Nat.reduceDiv, Int.reduceLT, Int.reduceLE, Int.reduceToNat, Int.reduceNeg, Int.reduceEq, ↓reduceIte, reduceCtorEq, ↓reduceDIte] <;> rfl
theorem ex_k (pa pb pv pd pe : List Ru) (n : Int) (k : Nat) (hk : (k : Int) < 3) (q1 q2 : Nat) (fo : Option (List Od)) (cs : List Int) (fs : List Bool) (m : Bool) (ops : List Od) (xs : List Rd) (kv : List (ByteArray × Bool)) (ss : List Sd) (q1' q2' : Nat) (fo' : Option (List Od)) (cs' : List Int) (fs' : List Bool) (m' : Bool) (ops' : List Od) (xs' : List Rd) (kv' : List (ByteArray × Bool))
    (h : loopOf pr 46 2 ⟨S2 n k 0 q1 q2 fo (now cs fs m ops), HE pa pb pv pd pe xs kv ss fo⟩ = some (.exit 4, ⟨S2 n k n q1' q2' fo' (now cs' fs' m' ops'), HE pa pb pv pd pe xs' kv' ss fo'⟩)) :
    loopOf pr 46 1 ⟨S1 n k q1 q2 fo (now cs fs m ops), HE pa pb pv pd pe xs kv ss fo⟩ = loopOf pr 46 1 ⟨S1 n ((k + 1 : Nat) : Int) q1' q2' fo' (now cs' fs' m' ops'), HE pa pb pv pd pe xs' kv' ss fo'⟩ := by
  have hw : IntKind.i64.wrap ((k : Int) + 1) = ((k + 1 : Nat) : Int) := by rw [wrap_i] <;> omega
  rw [loop_eq pr 46 1 _ Try.f46 fn_46 _ rfl _ ann_46 _ rfl]
  cases fo with
  | none =>
    cases fo' with
    | none =>
      simp only [S2, HE, flV, flH] at h
      simp -implicitDefEqProofs only [flV, flH, tr hk, h, hw, go_sem, Nat.reduceAdd, Nat.reduceSub, Nat.reduceMul, Nat.reduceMod, Nat.reduceLT, Nat.reduceLeDiff, Nat.reduceEqDiff, Nat.reduceBEq, Nat.reduceDiv, Int.reduceLT, Int.reduceLE, Int.reduceToNat, Int.reduceNeg, Int.reduceEq, ↓reduceIte, reduceCtorEq, ↓reduceDIte] <;> rfl
    | some fp' =>
      simp only [S2, HE, flV, flH] at h
      simp -implicitDefEqProofs only [flV, flH, tr hk, h, hw, go_sem, Nat.reduceAdd, Nat.reduceSub, Nat.reduceMul, Nat.reduceMod, Nat.reduceLT, Nat.reduceLeDiff, Nat.reduceEqDiff, Nat.reduceBEq, Nat.reduceDiv, Int.reduceLT, Int.reduceLE, Int.reduceToNat, Int.reduceNeg, Int.reduceEq, ↓reduceIte, reduceCtorEq, ↓reduceDIte] <;> rfl
  | some fp =>
    cases fo' with
    | none =>
      simp only [S2, HE, flV, flH] at h
      simp -implicitDefEqProofs only [flV, flH, tr hk, h, hw, go_sem, Nat.reduceAdd, Nat.reduceSub, Nat.reduceMul, Nat.reduceMod, Nat.reduceLT, Nat.reduceLeDiff, Nat.reduceEqDiff, Nat.reduceBEq, Nat.reduceDiv, Int.reduceLT, Int.reduceLE, Int.reduceToNat, Int.reduceNeg, Int.reduceEq, ↓reduceIte, reduceCtorEq, ↓reduceDIte] <;> rfl
    | some fp' =>
      simp only [S2, HE, flV, flH] at h
      simp -implicitDefEqProofs only [flV, flH, tr hk, h, hw, go_sem, Nat.reduceAdd, Nat.reduceSub, Nat.reduceMul, Nat.reduceMod, Nat.reduceLT, Nat.reduceLeDiff, Nat.reduceEqDiff, Nat.reduceBEq, Nat.reduceDiv, Int.reduceLT, Int.reduceLE, Int.reduceToNat, Int.reduceNeg, Int.reduceEq, ↓reduceIte, reduceCtorEq, ↓reduceDIte] <;> rfl
abbrev S0 (n : Int) (q1 q2 : Nat) (fo : Option (List Od)) : Slots :=
  [(1, I n), (2, .op 128 0), (7, .sub (.t 1536) q1 q2), (8, .mp 1600), (9, .os (.t 1856)), (10, flV fo)]
abbrev HEd (d : Bool) (pa pb pv pd pe : List Ru) (xs : List Rd) (kv : List (ByteArray × Bool)) (ss : List Sd) (fo : Option (List Od)) : Heap :=
  (128, .box [LR pa, LR pb, LR pv, LR pd, LR pe]) :: (1536, .arr true false tR xs) :: (1600, .mp .str .bool kv) :: (1856, .arr true d tS ss) :: flH fo
abbrev S0t (n : Int) (q1 q2 : Nat) (fo : Option (List Od)) (w : AV) : Slots :=
  [(1, I n), (2, .op 128 0), (7, .sub (.t 1536) q1 q2), (8, .mp 1600), (9, .os (.t 1856)), (10, flV fo), (11, w), (43, I 3)]
theorem ex_o_end (pa pb pv pd pe : List Ru) (n : Int) (q1 : Nat) (fo : Option (List Od)) (cs : List Int) (fs : List Bool) (m : Bool) (ops : List Od) (xs : List Rd) (kv : List (ByteArray × Bool)) (ss : List Sd) : loopOf pr 46 0 ⟨S0t n q1 0 fo (now cs fs m ops), HE pa pb pv pd pe xs kv ss fo⟩ = some (.exit 0, ⟨S0 n q1 0 fo, HE pa pb pv pd pe xs kv ss fo⟩) := by
  rw [loop_eq pr 46 0 _ Try.f46 fn_46 _ rfl _ ann_46 _ rfl]
  cases fo with
  | none => simp -implicitDefEqProofs only [flV, flH, Int.lt_irrefl, gt_iff_lt, show (((0 : Nat) : Int)) = 0 from rfl, go_sem, Nat.reduceAdd, Nat.reduceSub, Nat.reduceMul, Nat.reduceMod, Nat.reduceLT, Nat.reduceLeDiff, Nat.reduceEqDiff, Nat.reduceBEq, Nat.reduceDiv, Int.reduceLT, Int.reduceLE, Int.reduceToNat, Int.reduceNeg, Int.reduceEq, ↓reduceIte, reduceCtorEq, ↓reduceDIte] <;> rfl
  | some fp => simp -implicitDefEqProofs only [flV, flH, Int.lt_irrefl, gt_iff_lt, show (((0 : Nat) : Int)) = 0 from rfl, go_sem, Nat.reduceAdd, Nat.reduceSub, Nat.reduceMul, Nat.reduceMod, Nat.reduceLT, Nat.reduceLeDiff, Nat.reduceEqDiff, Nat.reduceBEq, Nat.reduceDiv, Int.reduceLT, Int.reduceLE, Int.reduceToNat, Int.reduceNeg, Int.reduceEq, ↓reduceIte, reduceCtorEq, ↓reduceDIte] <;> rfl
theorem ex_o0 (pa pb pv pd pe : List Ru) (n : Int) (q1 q2 : Nat) (cs : List Int) (fs : List Bool) (m : Bool) (ops : List Od) (xs : List Rd) (kv : List (ByteArray × Bool)) (hq : q1 + (q2 + 1) = xs.length) (hx : xs.length < 5000) (hg : ∀ z, xs.getD q1 z = ((cs, fs, m, ()), ops, ())) (q1' q2' : Nat) (fo' : Option (List Od)) (cs' : List Int) (fs' : List Bool) (m' : Bool) (ops' : List Od) (xs' : List Rd) (kv' : List (ByteArray × Bool))
    (h : loopOf pr 46 1 ⟨S1 n 0 (q1 + 1) q2 none (now cs fs m ops), HE pa pb pv pd pe xs kv [(cs, fs, m, ())] none⟩ = some (.exit 2, ⟨S1 n 3 q1' q2' fo' (now cs' fs' m' ops'), HE pa pb pv pd pe xs' kv' [(cs, fs, m, ())] fo'⟩)) :
    loopOf pr 46 0 ⟨S0 n q1 (q2 + 1) none, HEd true pa pb pv pd pe xs kv [] none⟩ = loopOf pr 46 0 ⟨S0t n q1' q2' fo' (now cs' fs' m' ops'), HE pa pb pv pd pe xs' kv' [(cs, fs, m, ())] fo'⟩ := by
  have hr3 : (([] : List Sd).length + 1) * 56 ≤ 140737488355328 := by decide
  have h1 : (0 : Int) < ((q2 + 1 : Nat) : Int) := by omega
  have h2 : (1 : Int) ≤ ((q2 + 1 : Nat) : Int) := by omega
  have h3 : q1 < xs.length := by omega
  have e1 : (((q2 + 1 : Nat) : Int)).toNat - 1 = q2 := by omega
  rw [loop_eq pr 46 0 _ Try.f46 fn_46 _ rfl _ ann_46 _ rfl]
  cases fo' with
  | none =>
    simp only [S1, HE, flV, flH] at h
    simp -implicitDefEqProofs only [flV, flH, tr h1, tr h2, tr h3, Int.lt_irrefl, Int.le_refl, gt_iff_lt, hg, hr3, Nat.add_zero, e1, h, List.nil_append, go_sem, Nat.reduceAdd, Nat.reduceSub, Nat.reduceMul, Nat.reduceMod, Nat.reduceLT, Nat.reduceLeDiff, Nat.reduceEqDiff, Nat.reduceBEq, Nat.reduceDiv, Int.reduceLT, Int.reduceLE, Int.reduceToNat, Int.reduceNeg, Int.reduceEq, ↓reduceIte, reduceCtorEq, ↓reduceDIte] <;> rfl
  | some fp' =>
    simp only [S1, HE, flV, flH] at h
    simp -implicitDefEqProofs only [flV, flH, tr h1, tr h2, tr h3, Int.lt_irrefl, Int.le_refl, gt_iff_lt, hg, hr3, Nat.add_zero, e1, h, List.nil_append, go_sem, Nat.reduceAdd, Nat.reduceSub, Nat.reduceMul, Nat.reduceMod, Nat.reduceLT, Nat.reduceLeDiff, Nat.reduceEqDiff, Nat.reduceBEq, Nat.reduceDiv, Int.reduceLT, Int.reduceLE, Int.reduceToNat, Int.reduceNeg, Int.reduceEq, ↓reduceIte, reduceCtorEq, ↓reduceDIte] <;> rfl
theorem ex_o (pa pb pv pd pe : List Ru) (n : Int) (q1 q2 : Nat) (cs : List Int) (fs : List Bool) (m : Bool) (ops : List Od) (xs : List Rd) (kv : List (ByteArray × Bool)) (hq : q1 + (q2 + 1) = xs.length) (hx : xs.length < 5000) (hg : ∀ z, xs.getD q1 z = ((cs, fs, m, ()), ops, ())) (q1' q2' : Nat) (fo' : Option (List Od)) (cs' : List Int) (fs' : List Bool) (m' : Bool) (ops' : List Od) (xs' : List Rd) (kv' : List (ByteArray × Bool)) (ss : List Sd) (hss : ss.length < 5000) (fo : Option (List Od)) (c0 : List Int) (f0 : List Bool) (m0 : Bool) (o0 : List Od)
    (h : loopOf pr 46 1 ⟨S1 n 0 (q1 + 1) q2 fo (now cs fs m ops), HE pa pb pv pd pe xs kv (ss ++ [(cs, fs, m, ())]) fo⟩ = some (.exit 2, ⟨S1 n 3 q1' q2' fo' (now cs' fs' m' ops'), HE pa pb pv pd pe xs' kv' (ss ++ [(cs, fs, m, ())]) fo'⟩)) :
    loopOf pr 46 0 ⟨S0t n q1 (q2 + 1) fo (now c0 f0 m0 o0), HE pa pb pv pd pe xs kv ss fo⟩ = loopOf pr 46 0 ⟨S0t n q1' q2' fo' (now cs' fs' m' ops'), HE pa pb pv pd pe xs' kv' (ss ++ [(cs, fs, m, ())]) fo'⟩ := by
  have hr3 : ((ss.length + 1) * 56 ≤ 140737488355328 ∧ ss.length ≤ 9223372036854775806) = True := tr ⟨by omega, by omega⟩
  have h1 : (0 : Int) < ((q2 + 1 : Nat) : Int) := by omega
  have h2 : (1 : Int) ≤ ((q2 + 1 : Nat) : Int) := by omega
  have h3 : q1 < xs.length := by omega
  have e1 : (((q2 + 1 : Nat) : Int)).toNat - 1 = q2 := by omega
  rw [loop_eq pr 46 0 _ Try.f46 fn_46 _ rfl _ ann_46 _ rfl]
  cases fo with
  | none =>
    cases fo' with
    | none =>
      simp only [S1, HE, flV, flH] at h
      simp -implicitDefEqProofs only [flV, flH, tr h1, tr h2, tr h3, Int.lt_irrefl, Int.le_refl, gt_iff_lt, hg, hr3, Nat.add_zero, e1, h, go_sem, Nat.reduceAdd, Nat.reduceSub, Nat.reduceMul, Nat.reduceMod, Nat.reduceLT, Nat.reduceLeDiff, Nat.reduceEqDiff, Nat.reduceBEq, Nat.reduceDiv, Int.reduceLT, Int.reduceLE, Int.reduceToNat, Int.reduceNeg, Int.reduceEq, ↓reduceIte, reduceCtorEq, ↓reduceDIte] <;> rfl
    | some fp' =>
      simp only [S1, HE, flV, flH] at h
      simp -implicitDefEqProofs only [flV, flH, tr h1, tr h2, tr h3, Int.lt_irrefl, Int.le_refl, gt_iff_lt, hg, hr3, Nat.add_zero, e1, h, go_sem, Nat.reduceAdd, Nat.reduceSub, Nat.reduceMul, Nat.reduceMod, Nat.reduceLT, Nat.reduceLeDiff, Nat.reduceEqDiff, Nat.reduceBEq, Nat.reduceDiv, Int.reduceLT, Int.reduceLE, Int.reduceToNat, Int.reduceNeg, Int.reduceEq, ↓reduceIte, reduceCtorEq, ↓reduceDIte] <;> rfl
  | some fp =>
    cases fo' with
    | none =>
      simp only [S1, HE, flV, flH] at h
      simp -implicitDefEqProofs only [flV, flH, tr h1, tr h2, tr h3, Int.lt_irrefl, Int.le_refl, gt_iff_lt, hg, hr3, Nat.add_zero, e1, h, go_sem, Nat.reduceAdd, Nat.reduceSub, Nat.reduceMul, Nat.reduceMod, Nat.reduceLT, Nat.reduceLeDiff, Nat.reduceEqDiff, Nat.reduceBEq, Nat.reduceDiv, Int.reduceLT, Int.reduceLE, Int.reduceToNat, Int.reduceNeg, Int.reduceEq, ↓reduceIte, reduceCtorEq, ↓reduceDIte] <;> rfl
    | some fp' =>
      simp only [S1, HE, flV, flH] at h
      simp -implicitDefEqProofs only [flV, flH, tr h1, tr h2, tr h3, Int.lt_irrefl, Int.le_refl, gt_iff_lt, hg, hr3, Nat.add_zero, e1, h, go_sem, Nat.reduceAdd, Nat.reduceSub, Nat.reduceMul, Nat.reduceMod, Nat.reduceLT, Nat.reduceLeDiff, Nat.reduceEqDiff, Nat.reduceBEq, Nat.reduceDiv, Int.reduceLT, Int.reduceLE, Int.reduceToNat, Int.reduceNeg, Int.reduceEq, ↓reduceIte, reduceCtorEq, ↓reduceDIte] <;> rfl
/-- The ops that lead to the first flaw. -/
def flo (st : St2) : Option (List Od) := st.2.map (pth (pathsOf st.1))
def sysAt (ns : List Nd) (i : Nat) : Sd := (ns.getD i dN).1
def pathAt (ns : List Nd) (i : Nat) : List Od := (pathsOf ns).getD i []
abbrev nowAt (ns : List Nd) (i : Nat) : AV := now (sysAt ns i).1 (sysAt ns i).2.1 (sysAt ns i).2.2.1 (pathAt ns i)
structure QR (q1 q2 : Nat) (xs : List Rd) (ns : List Nd) (j : Nat) : Prop where
  sum : q1 + q2 = xs.length
  rest : xs.drop q1 = (qAll ns).drop j
  lt : xs.length < 5000
theorem pth_more {ns : List Nd} {nd : Nd} (h0 : 0 ≤ nd.2.1) (hl : nd.2.1 < ns.length) (more : Nd) : pth (pathsOf (ns ++ [more])) nd = pth (pathsOf ns) nd := by
  unfold pth
  rw [if_neg (by omega), if_neg (by omega), pathsOf_snoc]
  have h1 : nd.2.1.toNat < (pathsOf ns).length := by rw [pathsOf_length]; omega
  rw [getD_of_lt (by simp; omega), getD_of_lt h1, List.getElem_append_left h1]
theorem sysAt_more {ns : List Nd} {i : Nat} (hi : i < ns.length) (nd : Nd) : sysAt (ns ++ [nd]) i = sysAt ns i := by
  unfold sysAt
  rw [getD_of_lt (by simp; omega), getD_of_lt hi, List.getElem_append_left hi]
theorem pathAt_more {ns : List Nd} {i : Nat} (hi : i < ns.length) (nd : Nd) : pathAt (ns ++ [nd]) i = pathAt ns i := by
  unfold pathAt
  have h1 : i < (pathsOf ns).length := by rw [pathsOf_length]; omega
  rw [pathsOf_snoc, getD_of_lt (by simp; omega), getD_of_lt h1, List.getElem_append_left h1]
theorem nowAt_more {ns : List Nd} {i : Nat} (hi : i < ns.length) (nd : Nd) : nowAt (ns ++ [nd]) i = nowAt ns i := by
  unfold nowAt
  rw [sysAt_more hi, pathAt_more hi]
section
variable (pa pb pv pd pe : List Ru) (hP : protB pa pb pv pd pe = true) (n : Nat) (hn : 1 ≤ n ∧ n ≤ 3)
include hP hn
theorem nx_ok : StepOK (nextF pa pb pv pd pe) n := by
  obtain ⟨r1, r2, r3, r4, r5⟩ := prot_okR hP
  exact next_ok r1 r2 r3 r4 r5 n
theorem clone_at {s : Sd} (hs : okS n s) : callOf pr 66 [.agg [cI s.1, LB s.2.1, B s.2.2.1]] [] = some (.agg [.os (.t 320), .os (.t 512), B s.2.2.1], [(320, .arr true false (.int .i64) s.1), (512, .arr true false .bool s.2.1)]) := by
  obtain ⟨cs, fs, m, ⟨⟩⟩ := s
  obtain ⟨h1, h2, h3⟩ := hs
  simp only at h1 h2 h3
  match cs, fs, h1, h2 with
  | x :: xs, f :: fs, h1, h2 => exact call_cln x xs f fs m (by simp only [List.length_cons] at h1; omega) (by simp only [List.length_cons] at h2; omega)
  | [], _, h1, _ => simp at h1; omega
  | _ :: _, [], _, h2 => simp at h2; omega
theorem prot_all : pa.length = 4 ∧ pb.length = 4 ∧ pv.length = 4 ∧ pd.length = 4 ∧ pe.length = 4 ∧ pa.all nzB = true := by
  have h2 := prot_eq pa pb pv pd pe
  rw [hP] at h2
  have hs : tabsL 0 [pa, pb, pv, pd, pe] = (decide (pa.length = 4) && askL 0 0 pa && (decide (pb.length = 4) && askL 1 0 pb && (decide (pv.length = 4) && askL 2 0 pv && (decide (pd.length = 4) && askL 3 0 pd && (decide (pe.length = 4) && askL 4 0 pe && true))))) := rfl
  rw [hs, ask_0] at h2
  simp only [Bool.and_eq_true, decide_eq_true_eq] at h2
  exact ⟨h2.1.1, h2.2.1.1, h2.2.2.1.1, h2.2.2.2.1.1, h2.2.2.2.2.1.1, h2.1.2.2⟩
theorem step_at {s : Sd} (hs : okS n s) {k : Int} (hk : 0 ≤ k ∧ k ≤ 2) {c : Nat} (hc : c < n) : ∃ se bk, callOf pr 52 [.op 1000000 0, pA pa pb pv pd pe, .agg [I k, I c]] (HX s.1 s.2.1 s.2.2.1) =
    some (AV.tuple [B (nextF pa pb pv pd pe s k c).2, B se, I bk], HX (nextF pa pb pv pd pe s k c).1.1 (nextF pa pb pv pd pe s k c).1.2.1 (nextF pa pb pv pd pe s k c).1.2.2.1) := by
  obtain ⟨h1, h2, h3⟩ := hs
  obtain ⟨p1, p2, p3, p4, p5, p6⟩ := prot_all pa pb pv pd pe hP n hn
  have c4 := st_all pa pb pv pd pe p1 p2 p3 p4 p5 c s.1 s.2.1 s.2.2.1 (by omega) (by omega) (by omega) h3 k hk
  rw [step_eq pa pb pv pd pe p1 p2 p3 p4 p5 c s.1 s.2.1 s.2.2.1 (by omega) (by omega) (by omega) h3 p6 k] at c4
  exact ⟨_, _, c4⟩
theorem flo_pos {st : St2} (h : Inv n st) : ∀ fp, flo st = some fp → fp.length ≠ 0 := by
  intro fp hf
  simp only [flo, Option.map_eq_some_iff] at hf
  obtain ⟨nd, h1, rfl⟩ := hf
  have := h.last nd h1
  unfold pth
  rw [if_neg (by omega)]
  simp
theorem path_short {st : St2} (h : Inv n st) {i : Nat} (hi : i < st.1.length) : (pathAt st.1 i).length < 5000 := by
  have h1 := h.le hn.2
  have h2 : i < (pathsOf st.1).length := by rw [pathsOf_length]; exact hi
  have := paths_le st.1 h.par i h2
  unfold pathAt
  rw [getD_of_lt h2]
  omega
/-- One op. -/
theorem it_all {st : St2} (h : Inv n st) {i : Nat} (hi : i < st.1.length) {k : Int} (hk : 0 ≤ k ∧ k ≤ 2) {c : Nat} (hc : c < n) {q1 q2 : Nat} {xs : List Rd} (hq : QR q1 q2 xs st.1 (i + 1)) (ss : List Sd) :
    ∃ q1' q2' xs', QR q1' q2' xs' (visit (nextF pa pb pv pd pe) i k c st).1 (i + 1) ∧
      loopOf pr 46 2 ⟨S2 n k c q1 q2 (flo st) (nowAt st.1 i), HE pa pb pv pd pe xs (kvs st.1) ss (flo st)⟩ =
      loopOf pr 46 2 ⟨S2 n k ((c + 1 : Nat) : Int) q1' q2' (flo (visit (nextF pa pb pv pd pe) i k c st)) (nowAt (visit (nextF pa pb pv pd pe) i k c st).1 i), HE pa pb pv pd pe xs' (kvs (visit (nextF pa pb pv pd pe) i k c st).1) ss (flo (visit (nextF pa pb pv pd pe) i k c st))⟩ := by
  have hs : okS n (sysAt st.1 i) := h.ok _ (by rw [getD_of_lt hi]; exact List.getElem_mem hi)
  have hcl := clone_at pa pb pv pd pe hP n hn hs
  obtain ⟨se, bk, hst⟩ := step_at pa pb pv pd pe hP n hn hs hk hc
  have hs2 := nx_ok pa pb pv pd pe hP n hn _ k c hs hk.1 hk.2 hc
  have hps := path_short pa pb pv pd pe hP n hn h hi
  have hfo := flo_pos pa pb pv pd pe hP n hn h
  have hc' : (c : Int) < (n : Int) := by omega
  have hnn : (n : Int) ≤ 3 := by omega
  by_cases hfl : (nextF pa pb pv pd pe (sysAt st.1 i) k c).2 = true
  · have hv : visit (nextF pa pb pv pd pe) i k c st = (st.1, some (st.2.getD ((nextF pa pb pv pd pe (sysAt st.1 i) k c).1, (i : Int), (k, (c : Int), ()), ()))) := by
      unfold visit
      exact if_pos hfl
    rw [hv]
    rw [hfl] at hst
    refine ⟨q1, q2, xs, hq, ?_⟩
    have hf2 : flo (st.1, some (st.2.getD ((nextF pa pb pv pd pe (sysAt st.1 i) k c).1, (i : Int), (k, (c : Int), ()), ()))) = some ((flo st).getD (pathAt st.1 i ++ [(k, (c : Int), ())])) := by
      simp only [flo]
      cases st.2 with
      | some x => rfl
      | none =>
        simp only [Option.map_some, Option.getD_none, Option.map_none, pth, pathAt]
        rw [if_neg (by omega), Int.toNat_natCast]
    rw [hf2]
    exact it_flaw pa pb pv pd pe n k c hc' hnn _ _ _ _ hps xs hq.lt (kvs st.1) ss q1 q2 hq.sum _ _ _ se bk (flo st) hfo hcl hst
  · have hfl' : (nextF pa pb pv pd pe (sysAt st.1 i) k c).2 = false := by simpa using hfl
    rw [hfl'] at hst
    have hkey := call_key (nextF pa pb pv pd pe (sysAt st.1 i) k c).1 hn.2 hs2
    have hfi := find_kvs hs2 (ns := st.1) h.ok
    by_cases hh : has st.1 (nextF pa pb pv pd pe (sysAt st.1 i) k c).1 = true
    · have hv : visit (nextF pa pb pv pd pe) i k c st = st := by
        unfold visit
        have e : (nextF pa pb pv pd pe (st.1.getD i dN).1 k c).2 = false := hfl'
        rw [if_neg (by rw [e]; simp)]
        exact if_pos hh
      rw [hv]
      rw [if_pos hh] at hfi
      exact ⟨q1, q2, xs, hq, it_seen pa pb pv pd pe n k c hc' hnn _ _ _ _ hps xs hq.lt (kvs st.1) ss q1 q2 hq.sum _ _ _ se bk (flo st) hfo hcl hst _ hkey hfi⟩
    · have hv : visit (nextF pa pb pv pd pe) i k c st = (st.1 ++ [((nextF pa pb pv pd pe (sysAt st.1 i) k c).1, (i : Int), (k, (c : Int), ()), ())], st.2) := by
        unfold visit
        have e : (nextF pa pb pv pd pe (st.1.getD i dN).1 k c).2 = false := hfl'
        rw [if_neg (by rw [e]; simp)]
        exact if_neg hh
      have hinv := (visit_inv (nx_ok pa pb pv pd pe hP n hn) h hi hk.1 hk.2 hc).1
      rw [hv] at hinv
      rw [hv]
      rw [if_neg hh] at hfi
      have hupd := upd_kvs hs2 (ns := st.1) h.ok (by simpa using hh)
      have hq2 : (xs.drop q1).take q2 = (qAll st.1).drop (i + 1) := by
        rw [List.take_of_length_le (by rw [List.length_drop]; have := hq.sum; omega), hq.rest]
      have hpe : pth (pathsOf st.1) ((nextF pa pb pv pd pe (sysAt st.1 i) k c).1, (i : Int), (k, (c : Int), ()), ()) = pathAt st.1 i ++ [(k, (c : Int), ())] := by
        simp only [pth, pathAt]
        rw [if_neg (by omega), Int.toNat_natCast]
      have hqa : (qAll (st.1 ++ [((nextF pa pb pv pd pe (sysAt st.1 i) k c).1, (i : Int), (k, (c : Int), ()), ())])).drop (i + 1) = (qAll st.1).drop (i + 1) ++ [((nextF pa pb pv pd pe (sysAt st.1 i) k c).1, pathAt st.1 i ++ [(k, (c : Int), ())], ())] := by
        rw [qAll_snoc, List.drop_append_of_le_length (by rw [qAll_length]; omega), hpe]
      have hle : st.1.length + 1 ≤ 1024 := by simpa using hinv.le hn.2
      have hxl : ((xs.drop q1).take q2 ++ [((nextF pa pb pv pd pe (sysAt st.1 i) k c).1, pathAt st.1 i ++ [(k, (c : Int), ())], ())]).length < 5000 := by
        rw [hq2, ← hqa, List.length_drop, qAll_length, List.length_append]; simp only [List.length_cons, List.length_nil]; omega
      refine ⟨0, _, _, ⟨by rw [Nat.zero_add], by rw [List.drop_zero, hq2, hqa], hxl⟩, ?_⟩
      have hf2 : flo (st.1 ++ [((nextF pa pb pv pd pe (sysAt st.1 i) k c).1, (i : Int), (k, (c : Int), ()), ())], st.2) = flo st := by
        simp only [flo]
        cases hl : st.2 with
        | none => rfl
        | some nd =>
          obtain ⟨l1, l2⟩ := h.last nd hl
          simp only [Option.map_some, pth_more l1 l2]
      have hk2 : kvs (st.1 ++ [((nextF pa pb pv pd pe (sysAt st.1 i) k c).1, (i : Int), (k, (c : Int), ()), ())]) = kvs st.1 ++ [(key (nextF pa pb pv pd pe (sysAt st.1 i) k c).1, true)] := by simp [kvs]
      have hres := it_new pa pb pv pd pe n k c hc' hnn _ _ _ _ hps xs hq.lt (kvs st.1) ss q1 q2 hq.sum _ _ _ se bk (flo st) hfo hcl hst _ hkey hfi
      rw [hupd] at hres
      simp only [hf2, hk2]
      rw [nowAt_more hi]
      exact hres
/-- All ops of one kind. -/
theorem loop_c {i : Nat} {k : Int} (hk : 0 ≤ k ∧ k ≤ 2) (ss : List Sd) : ∀ (j : Nat) {st : St2} {q1 q2 : Nat} {xs : List Rd}, j ≤ n → Inv n st → i < st.1.length → QR q1 q2 xs st.1 (i + 1) →
    ∃ q1' q2' xs', QR q1' q2' xs' (visC (nextF pa pb pv pd pe) i n k j st).1 (i + 1) ∧
      loopOf pr 46 2 ⟨S2 n k ((n - j : Nat) : Int) q1 q2 (flo st) (nowAt st.1 i), HE pa pb pv pd pe xs (kvs st.1) ss (flo st)⟩ =
      some (.exit 4, ⟨S2 n k n q1' q2' (flo (visC (nextF pa pb pv pd pe) i n k j st)) (nowAt (visC (nextF pa pb pv pd pe) i n k j st).1 i), HE pa pb pv pd pe xs' (kvs (visC (nextF pa pb pv pd pe) i n k j st).1) ss (flo (visC (nextF pa pb pv pd pe) i n k j st))⟩)
  | 0, st, q1, q2, xs, _, h, hi, hq => by
    refine ⟨q1, q2, xs, hq, ?_⟩
    show loopOf pr 46 2 ⟨S2 n k n q1 q2 (flo st) (nowAt st.1 i), HE pa pb pv pd pe xs (kvs st.1) ss (flo st)⟩ = some (.exit 4, ⟨S2 n k n q1 q2 (flo st) (nowAt st.1 i), HE pa pb pv pd pe xs (kvs st.1) ss (flo st)⟩)
    exact ex_c_end pa pb pv pd pe n k q1 q2 (flo st) _ _ _ _ xs (kvs st.1) ss
  | j + 1, st, q1, q2, xs, hj, h, hi, hq => by
    obtain ⟨q1', q2', xs', hq', e1⟩ := it_all pa pb pv pd pe hP n hn h hi hk (c := n - (j + 1)) (by omega) hq ss
    obtain ⟨h', more, hm⟩ := visit_inv (nx_ok pa pb pv pd pe hP n hn) h hi hk.1 hk.2 (c := n - (j + 1)) (by omega)
    obtain ⟨q1'', q2'', xs'', hq'', e2⟩ := loop_c hk ss j (by omega) h' (by rw [hm]; simp; omega) hq'
    refine ⟨q1'', q2'', xs'', hq'', ?_⟩
    rw [e1, show n - (j + 1) + 1 = n - j from by omega]
    exact e2
end
theorem QR.len {q1 q2 : Nat} {xs : List Rd} {ns : List Nd} {i : Nat} (h : QR q1 q2 xs ns i) : q2 = ns.length - i := by
  have h1 := congrArg List.length h.rest
  rw [List.length_drop, List.length_drop, qAll_length] at h1
  have := h.sum
  omega
theorem QR.head {q1 q2 : Nat} {xs : List Rd} {ns : List Nd} {i : Nat} (h : QR q1 q2 xs ns i) (hi : i < ns.length) : ∀ z, xs.getD q1 z = (sysAt ns i, pathAt ns i, ()) := by
  intro z
  have h2 := h.len
  have h3 := h.sum
  have hx : q1 < xs.length := by omega
  have h1 : (xs.drop q1)[0]? = ((qAll ns).drop i)[0]? := by rw [h.rest]
  rw [List.getElem?_drop, List.getElem?_drop, Nat.add_zero, Nat.add_zero, List.getElem?_eq_getElem hx, List.getElem?_eq_getElem (by rw [qAll_length]; exact hi)] at h1
  rw [getD_of_lt hx]
  simp only [Option.some.injEq] at h1
  rw [h1, qAll_get hi]
  unfold sysAt pathAt
  rw [getD_of_lt hi, getD_of_lt (by rw [pathsOf_length]; exact hi)]
theorem QR.next {q1 q2 : Nat} {xs : List Rd} {ns : List Nd} {i : Nat} (h : QR q1 (q2 + 1) xs ns i) : QR (q1 + 1) q2 xs ns (i + 1) := by
  refine ⟨by have := h.sum; omega, ?_, h.lt⟩
  have := congrArg (List.drop 1) h.rest
  rw [List.drop_drop, List.drop_drop] at this
  exact this
section
variable (pa pb pv pd pe : List Ru) (hP : protB pa pb pv pd pe = true) (n : Nat) (hn : 1 ≤ n ∧ n ≤ 3)
include hP hn
/-- All kinds of ops. -/
theorem loop_k {i : Nat} (ss : List Sd) : ∀ (j : Nat) {st : St2} {q1 q2 : Nat} {xs : List Rd}, j ≤ 3 → Inv n st → i < st.1.length → QR q1 q2 xs st.1 (i + 1) →
    ∃ q1' q2' xs', QR q1' q2' xs' (visK (nextF pa pb pv pd pe) i n j st).1 (i + 1) ∧
      loopOf pr 46 1 ⟨S1 n ((3 - j : Nat) : Int) q1 q2 (flo st) (nowAt st.1 i), HE pa pb pv pd pe xs (kvs st.1) ss (flo st)⟩ =
      some (.exit 2, ⟨S1 n 3 q1' q2' (flo (visK (nextF pa pb pv pd pe) i n j st)) (nowAt (visK (nextF pa pb pv pd pe) i n j st).1 i), HE pa pb pv pd pe xs' (kvs (visK (nextF pa pb pv pd pe) i n j st).1) ss (flo (visK (nextF pa pb pv pd pe) i n j st))⟩)
  | 0, st, q1, q2, xs, _, h, hi, hq => ⟨q1, q2, xs, hq, ex_k_end pa pb pv pd pe n q1 q2 (flo st) _ _ _ _ xs (kvs st.1) ss⟩
  | j + 1, st, q1, q2, xs, hj, h, hi, hq => by
    have hk : (0 : Int) ≤ ((3 - (j + 1) : Nat) : Int) ∧ ((3 - (j + 1) : Nat) : Int) ≤ 2 := by omega
    obtain ⟨q1', q2', xs', hq', e1⟩ := loop_c pa pb pv pd pe hP n hn hk ss n (Nat.le_refl _) h hi hq
    obtain ⟨h', more, hm⟩ := visC_inv (nx_ok pa pb pv pd pe hP n hn) hk.1 hk.2 n (Nat.le_refl _) h hi
    obtain ⟨q1'', q2'', xs'', hq'', e2⟩ := loop_k ss j (by omega) h' (by rw [hm]; simp; omega) hq'
    refine ⟨q1'', q2'', xs'', hq'', ?_⟩
    rw [Nat.sub_self] at e1
    rw [ex_k pa pb pv pd pe n (3 - (j + 1)) (by omega) q1 q2 (flo st) _ _ _ _ xs (kvs st.1) ss q1' q2' _ _ _ _ _ xs' _ e1, show 3 - (j + 1) + 1 = 3 - j from by omega]
    exact e2
/-- What stays of a system's place. -/
theorem take_more {ns more : List Nd} {i : Nat} (hi : i < ns.length) : ((ns ++ more).take (i + 1)).map (·.1) = (ns.take i).map (·.1) ++ [sysAt ns i] := by
  rw [List.take_append_of_le_length (by omega), List.take_succ_eq_append_getElem hi, List.map_append]
  unfold sysAt
  rw [getD_of_lt hi]
  rfl
theorem loop_o : ∀ (f i : Nat) {st : St2} {q1 q2 : Nat} {xs : List Rd} (w : Sd) (o0 : List Od), 1025 ≤ f + i → i ≤ st.1.length → Inv n st → QR q1 q2 xs st.1 i →
    ∃ q1' xs', loopOf pr 46 0 ⟨S0t n q1 q2 (flo st) (now w.1 w.2.1 w.2.2.1 o0), HE pa pb pv pd pe xs (kvs st.1) ((st.1.take i).map (·.1)) (flo st)⟩ =
      some (.exit 0, ⟨S0 n q1' 0 (flo (bfs (nextF pa pb pv pd pe) n f i st)), HE pa pb pv pd pe xs' (kvs (bfs (nextF pa pb pv pd pe) n f i st).1) ((bfs (nextF pa pb pv pd pe) n f i st).1.map (·.1)) (flo (bfs (nextF pa pb pv pd pe) n f i st))⟩)
  | 0, i, st, q1, q2, xs, w, o0, hf, hi, h, hq => by
    have := h.le hn.2
    omega
  | f + 1, i, st, q1, q2, xs, w, o0, hf, hi, h, hq => by
    rw [bfs]
    by_cases hlt : i < st.1.length
    · rw [if_pos hlt]
      have hl := hq.len
      obtain ⟨q2, rfl⟩ : ∃ q, q2 = q + 1 := ⟨q2 - 1, by omega⟩
      obtain ⟨q1', q2', xs', hq', e1⟩ := loop_k pa pb pv pd pe hP n hn ((st.1.take i).map (·.1) ++ [sysAt st.1 i]) 3 (Nat.le_refl _) h hlt hq.next
      obtain ⟨h', more, hm⟩ := visK_inv (nx_ok pa pb pv pd pe hP n hn) (i := i) 3 (Nat.le_refl _) h hlt
      have hle := h.le hn.2
      have e2 := ex_o pa pb pv pd pe n q1 q2 (sysAt st.1 i).1 (sysAt st.1 i).2.1 (sysAt st.1 i).2.2.1 (pathAt st.1 i) xs (kvs st.1) hq.sum hq.lt (hq.head hlt) q1' q2' _ _ _ _ _ xs' _ ((st.1.take i).map (·.1)) (by simp; omega) (flo st) w.1 w.2.1 w.2.2.1 o0 e1
      obtain ⟨q1'', xs'', e3⟩ := loop_o f (i + 1) (st := visK (nextF pa pb pv pd pe) i n 3 st) (sysAt (visK (nextF pa pb pv pd pe) i n 3 st).1 i) (pathAt (visK (nextF pa pb pv pd pe) i n 3 st).1 i) (by omega) (by rw [hm]; simp; omega) h' hq'
      refine ⟨q1'', xs'', ?_⟩
      rw [e2, ← e3]
      have htk : ((visK (nextF pa pb pv pd pe) i n 3 st).1.take (i + 1)).map (·.1) = (st.1.take i).map (·.1) ++ [sysAt st.1 i] := by
        rw [hm]; exact take_more pa pb pv pd pe hP n hn hlt
      rw [htk]
    · rw [if_neg hlt]
      have hl := hq.len
      have h0 : q2 = 0 := by omega
      subst h0
      have : i = st.1.length := by omega
      subst this
      refine ⟨q1, xs, ?_⟩
      rw [List.take_length]
      exact ex_o_end pa pb pv pd pe n q1 (flo st) _ _ _ _ xs (kvs st.1) _
/-- The search, from the first system on. -/
theorem loop_all : ∃ q1' xs', loopOf pr 46 0 ⟨S0 n 0 1 none, HEd true pa pb pv pd pe [(first n, [], ())] [(key (first n), true)] [] none⟩ =
      some (.exit 0, ⟨S0 n q1' 0 (flo (found (nextF pa pb pv pd pe) n)), HE pa pb pv pd pe xs' (kvs (found (nextF pa pb pv pd pe) n).1) ((found (nextF pa pb pv pd pe) n).1.map (·.1)) (flo (found (nextF pa pb pv pd pe) n))⟩) := by
  have h := start_inv (n := n) hn.1
  have hq0 : QR 0 (0 + 1) [(first n, [], ())] (start n).1 0 := ⟨rfl, rfl, by simp⟩
  have hlt : 0 < (start n).1.length := by simp [start]
  obtain ⟨q1', q2', xs', hq', e1⟩ := loop_k pa pb pv pd pe hP n hn [first n] 3 (Nat.le_refl _) h hlt hq0.next
  obtain ⟨h', more, hm⟩ := visK_inv (nx_ok pa pb pv pd pe hP n hn) (i := 0) 3 (Nat.le_refl _) h hlt
  have e2 := ex_o0 pa pb pv pd pe n 0 0 (first n).1 (first n).2.1 (first n).2.2.1 [] [(first n, [], ())] [(key (first n), true)] rfl (by simp) (fun z => rfl) q1' q2' _ _ _ _ _ xs' _ e1
  obtain ⟨q1'', xs'', e3⟩ := loop_o pa pb pv pd pe hP n hn 1024 1 (st := visK (nextF pa pb pv pd pe) 0 n 3 (start n)) (sysAt (visK (nextF pa pb pv pd pe) 0 n 3 (start n)).1 0) (pathAt (visK (nextF pa pb pv pd pe) 0 n 3 (start n)).1 0) (by omega) (by rw [hm]; simp; omega) h' hq'
  refine ⟨q1'', xs'', ?_⟩
  have hf : found (nextF pa pb pv pd pe) n = bfs (nextF pa pb pv pd pe) n 1024 1 (visK (nextF pa pb pv pd pe) 0 n 3 (start n)) := by
    unfold found
    rw [bfs, if_pos hlt]
  rw [hf, ← e3]
  have htk : ((visK (nextF pa pb pv pd pe) 0 n 3 (start n)).1.take (0 + 1)).map (·.1) = [first n] := by
    rw [hm]
    exact take_more pa pb pv pd pe hP n hn hlt
  rw [show (1 : Nat) = 0 + 1 from rfl, htk]
  exact e2
/-- What the search hands back. -/
theorem call_ex : callOf pr 46 [pA pa pb pv pd pe, I n] [] = some (.tuple [.os (.t 1856), flV (flo (found (nextF pa pb pv pd pe) n))], (1856, .arr true false tS ((found (nextF pa pb pv pd pe) n).1.map (·.1))) :: flH (flo (found (nextF pa pb pv pd pe) n))) := by
  obtain ⟨q1', xs', hl⟩ := loop_all pa pb pv pd pe hP n hn
  have hfs := call_fs n hn
  have hs0 : okS n (first n) := (start_inv (n := n) hn.1).ok (first n, -1, (0, 0, ()), ()) (by simp [start])
  have hkey := call_key (first n) hn.2 hs0
  have hkey : callOf pr 91 [.agg [cI (List.replicate n 0), LB (List.replicate n false), B true]] [] = _ := hkey
  rw [call_eq pr 46 _ _ Try.f46 fn_46 _ rfl _ ann_46 rfl]
  rw [show ((first n, [], ()) : Rd) = ((List.replicate n 0, List.replicate n false, true, ()), [], ()) from rfl] at hl
  simp only [S0, HEd, flV, flH] at hl
  have hup : updL (tk := .str) (tv := .bool) (key (first n)) true [] = [(key (first n), true)] := rfl
  generalize flo (found (nextF pa pb pv pd pe) n) = fo at *
  cases fo with
  | none =>
    simp only [HE, flV, flH] at hl
    simp -implicitDefEqProofs only [flV, flH, hfs, hkey, hup, hl, go_sem, Nat.reduceAdd, Nat.reduceSub, Nat.reduceMul, Nat.reduceMod, Nat.reduceLT, Nat.reduceLeDiff, Nat.reduceEqDiff, Nat.reduceBEq, Nat.reduceDiv, Int.reduceLT, Int.reduceLE, Int.reduceToNat, Int.reduceNeg, Int.reduceEq, ↓reduceIte, reduceCtorEq, ↓reduceDIte] <;> rfl
  | some fp =>
    simp only [HE, flV, flH] at hl
    simp -implicitDefEqProofs only [flV, flH, hfs, hkey, hup, hl, go_sem, Nat.reduceAdd, Nat.reduceSub, Nat.reduceMul, Nat.reduceMod, Nat.reduceLT, Nat.reduceLeDiff, Nat.reduceEqDiff, Nat.reduceBEq, Nat.reduceDiv, Int.reduceLT, Int.reduceLE, Int.reduceToNat, Int.reduceNeg, Int.reduceEq, ↓reduceIte, reduceCtorEq, ↓reduceDIte] <;> rfl
end
end Go.Proofs.Ythmnlokdikomkaa.PI
