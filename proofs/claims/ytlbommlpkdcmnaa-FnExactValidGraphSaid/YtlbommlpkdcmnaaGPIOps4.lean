/- An abstract interpreter of the translated code: append. -/
import Derived.Test.YtlbommlpkdcmnaaGPIOps3
import Derived.Laws.AppendOwn
namespace Go.PI
open Go
section
variable {P : Program} {E : Env} {M : Nat → Prop} {w0 : World} {I0 I : Nat → Prop} {σ : Nat → Option Own} {st : St} {a : Act} {w : World}

/-- The cells of a slice that is plain data. -/
theorem DR.row {t : Ty} {xs : List t.Den} {A : Option Addr} {n c : Nat} (h : DR I w (.slice t) xs [.slice A n c]) :
    n = xs.length ∧ n ≤ c ∧ ∃ news, RowR I w t xs news ∧ ((xs = [] ∧ news = []) ∨ ∃ b o, A = some ⟨b, o, none⟩ ∧ I b ∧ CellsAt w ⟨b, o, none⟩ news) := by
  obtain ⟨A', cap, e, hc, h⟩ := h
  simp only [List.cons.injEq, Value.slice.injEq, and_true] at e
  obtain ⟨rfl, rfl, rfl⟩ := e
  refine ⟨rfl, hc, ?_⟩
  cases hx : xs with
  | nil => exact ⟨[], rfl, .inl ⟨rfl, rfl⟩⟩
  | cons x xs' =>
    rw [← hx]
    obtain ⟨b, o, rfl, hb, _⟩ := h 0 (by rw [hx]; simp)
    have key : ∀ k, k ≤ List.length xs → ∃ news, RowR I w t (xs.take k) news ∧ CellsAt w ⟨b, o, none⟩ news := by
      intro k
      induction k with
      | zero => intro _; exact ⟨[], by simp [RowR], fun j v hj => by simp at hj⟩
      | succ k ih =>
        intro hk
        obtain ⟨news, h1, h2⟩ := ih (by omega)
        obtain ⟨b', o', e', hb', es, h3, h4⟩ := h k (by omega)
        cases e'
        have hl := RowR.length h1
        rw [List.length_take, Nat.min_eq_left (by omega)] at hl
        refine ⟨news ++ es, ?_, fun j v hj => ?_⟩
        · rw [List.take_succ_eq_append_getElem (by omega)]
          exact RowR.append h1 ⟨es, [], by simp, h3, rfl⟩
        · by_cases hjl : j < news.length
          · rw [List.getElem?_append_left hjl] at hj; exact h2 j v hj
          · rw [List.getElem?_append_right (by omega)] at hj
            have := h4 (j - news.length) v hj
            rw [← hl] at this
            rw [show o + news.length + (j - news.length) = o + j from by omega] at this
            exact this
    obtain ⟨news, h1, h2⟩ := key (List.length xs) (Nat.le_refl _)
    rw [List.take_of_length_le (Nat.le_refl _)] at h1
    exact ⟨news, h1, .inr ⟨b, o, rfl, hb, h2⟩⟩

/-- What a slice holds: its header and its cells. -/
structure Holds (P : Program) (I : Nat → Prop) (w : World) (t : Ty) (u : Value) (ys : List t.Den) (news : List Value) : Prop where
  row : RowR I w t ys news
  hdr : ∃ A c, u = .slice A ys.length c ∧ ys.length ≤ c
  run : ∀ W : World, W.heap = w.heap → (Builtin.firstCells t.size ys.length u).run P W = .ok news.toArray W

theorem cellsAt_heap {W : World} (hW : W.heap = w.heap) {b o : Nat} {es : List Value} (h : CellsAt w ⟨b, o, none⟩ es) : CellsAt W ⟨b, o, none⟩ es :=
  fun j v hj => (cell_of_heap (by rw [hW]) _).trans (h j v hj)

theorem holds_of {t : Ty} {A : Option Addr} {c : Nat} {ys : List t.Den} {news : List Value} (hr : RowR I w t ys news) (hc : ys.length ≤ c) (h : (ys = [] ∧ news = []) ∨ ∃ b o, A = some ⟨b, o, none⟩ ∧ CellsAt w ⟨b, o, none⟩ news) :
    Holds P I w t (.slice A ys.length c) ys news := by
  refine ⟨hr, ⟨A, c, rfl, hc⟩, fun W hW => ?_⟩
  rcases h with ⟨rfl, rfl⟩ | ⟨b, o, rfl, h⟩
  · cases A with
    | none => simp [Builtin.firstCells]
    | some ad => simp [Builtin.firstCells, loadCells, loadCellsFrom]
  · exact run_firstCells_some W t.size ys.length ⟨b, o, none⟩ _ _ news (RowR.length hr) (fun j v hj => by rw [add_none]; exact cellsAt_heap hW h j v hj)

/-- An own array's cells. -/
theorem ArrR.holds {e : Nat} {t : Ty} {xs : List t.Den} {u : Value} (h : ArrR I w e t xs u) : ∃ A c, u = .slice A xs.length c ∧ xs.length ≤ c ∧
    ((xs = [] ∧ c = 0) ∨ ∃ b o cells, A = some ⟨b, o, none⟩ ∧ w.heap[b]? = some (.cells cells e (0, 0)) ∧ o + c * t.size ≤ cells.size ∧ RowR I w t xs ((cells.toList.drop o).take (xs.length * t.size))) := by
  rcases h with ⟨A, rfl, rfl⟩ | ⟨b, o, cap, cells, rfl, h1, h2, h3, h4⟩
  · exact ⟨A, 0, rfl, Nat.le_refl _, .inl ⟨rfl, rfl⟩⟩
  · exact ⟨_, cap, rfl, h3, .inr ⟨b, o, cells, rfl, h1, h2, ArrR.row h2 h3 h4⟩⟩

theorem cells_seg {b o e n : Nat} {cells : Array Value} (h : w.heap[b]? = some (.cells cells e (0, 0))) : CellsAt w ⟨b, o, none⟩ ((cells.toList.drop o).take n) := by
  intro j v hj
  rw [List.getElem?_take] at hj
  split at hj
  · rw [List.getElem?_drop] at hj
    simp only [World.cell?, h]
    simpa using hj
  · cases hj

/-- A part of a row. -/
theorem RowR.part {t : Ty} {xs : List t.Den} {cs : List Value} (h : RowR I w t xs cs) (p n : Nat) (hp : p + n ≤ xs.length) : RowR I w t ((xs.drop p).take n) ((cs.drop (p * t.size)).take (n * t.size)) := by
  have hl := RowR.length h
  have hm : (p + n) * t.size ≤ xs.length * t.size := Nat.mul_le_mul_right _ hp
  rw [Nat.add_mul] at hm
  have hn : ((xs.drop p).take n).length = n := by simp only [List.length_take, List.length_drop]; omega
  refine RowR.of (by rw [hn, List.length_take, List.length_drop]; omega) fun i hi => ?_
  rw [hn] at hi
  obtain ⟨es, h1, h2⟩ := h.at (p + i) (by omega)
  refine ⟨es, by simpa using h1, fun j u hj => ?_⟩
  have hes := DR.length t _ es h1
  have hjl := (List.getElem?_eq_some_iff.1 hj).1
  have hlt : i * t.size + j < n * t.size := by
    have := Nat.mul_le_mul_right t.size (show i + 1 ≤ n from hi); rw [Nat.add_mul] at this; omega
  rw [List.getElem?_take, if_pos hlt, List.getElem?_drop, ← Nat.add_assoc, ← Nat.add_mul]
  exact h2 j u hj

theorem Rel.listOf (h : Rel M w0 I0 I σ st a w) {t : Ty} {y : AV} {u : Value} {ys : List t.Den} (hy : VR I σ w y u) (hl : Go.PI.listOf st.heap t y = some ys) : ∃ news, Holds P I w t u ys news := by
  unfold Go.PI.listOf at hl
  split at hl
  · rename_i id
    split at hl
    · rename_i e t' xs hg
      have e1 := asDen_some hl
      cases e1
      obtain ⟨A, cap, rfl, e2, e3, e4, e5⟩ := h.arr hg hy
      obtain ⟨A', c', k1, k2, k3⟩ := e5.holds
      cases k1
      rcases k3 with ⟨rfl, _⟩ | ⟨b, o, cells, rfl, k4, k5, k6⟩
      · exact ⟨[], holds_of rfl k2 (.inl ⟨rfl, rfl⟩)⟩
      · exact ⟨_, holds_of k6 k2 (.inr ⟨b, o, rfl, cells_seg k4⟩)⟩
    · cases hl
  · rename_i id p n
    split at hl
    · rename_i e t' xs hg
      have e1 := asDen_some hl
      cases e1
      obtain ⟨A, len, cap, z, g1, g2, A', rfl, g3, g3', g4⟩ := hy
      obtain ⟨A1, cap1, e1, e2, e3, e4, e5⟩ := h.arr hg ⟨A, len, cap, z, g1, rfl⟩
      cases e1
      rw [g1] at e3; cases e3
      obtain ⟨A2, c2, k1, k2, k3⟩ := e5.holds
      cases k1
      have hn : ((xs.drop p).take n).length = n := by simp only [List.length_take, List.length_drop]; omega
      rcases k3 with ⟨rfl, _⟩ | ⟨b, o, cells, rfl, k4, k5, k6⟩
      · have : n = 0 := by simp at g2; omega
        subst this
        exact ⟨[], by rw [show (([] : List t.Den).drop p).take 0 = [] from by simp]; exact holds_of (show RowR I w t [] [] from rfl) (Nat.zero_le _) (.inl ⟨rfl, rfl⟩)⟩
      · by_cases hn0 : n = 0
        · subst hn0
          exact ⟨[], by rw [show (xs.drop p).take 0 = [] from by simp]; exact holds_of (show RowR I w t [] [] from rfl) (Nat.zero_le _) (.inl ⟨rfl, rfl⟩)⟩
        · have hA' := g3 b o rfl (by omega)
          have k7 := k6.part p n (by omega)
          have hm : (p + n) * t.size ≤ xs.length * t.size := Nat.mul_le_mul_right _ (by omega)
          rw [Nat.add_mul] at hm
          have hseg : (((cells.toList.drop o).take (xs.length * t.size)).drop (p * t.size)).take (n * t.size) = (cells.toList.drop (o + p * t.size)).take (n * t.size) := by
            rw [List.drop_take, List.drop_drop, List.take_take, Nat.min_eq_left (by omega)]
          rw [hseg] at k7
          have hh := holds_of (P := P) (A := A') (c := cap - p) k7 (by rw [hn]; omega) (.inr ⟨b, _, hA', cells_seg k4⟩)
          rw [hn] at hh; exact ⟨_, hh⟩
    · cases hl
  · have hd := VR.asList hy hl
    have : ∃ A n c, u = .slice A n c := by obtain ⟨A, cap, e, _⟩ := hd; exact ⟨A, _, cap, by simpa using e⟩
    obtain ⟨A, n, c, rfl⟩ := this
    obtain ⟨rfl, hc, news, h1, h2⟩ := hd.row
    refine ⟨news, holds_of h1 hc ?_⟩
    rcases h2 with h2 | ⟨b, o, e, _, h2⟩
    · exact .inl h2
    · exact .inr ⟨b, o, e, h2⟩

/-- The machine's append: there is room. -/
theorem mach_append_in {T T2 e e2 : Nat} {i : TypeInfo} {t : Ty} (hT : P.underlying T = some (.slice e)) (hT2 : P.underlying T2 = some (.slice e2)) (hi : P.info? e = some i) (hsz : i.size = t.size) {ty : Nat}
    {u : Value} {ys : List t.Den} {news : List Value} (hy : Holds P I w t u ys news) {n c : Nat} (hroom : n + ys.length ≤ c) {b o eb : Nat} {cur : Array Value} (hg : w.heap[b]? = some (.cells cur eb (0, 0))) (ho : o + c * t.size ≤ cur.size) :
    (Builtin.append_ #[T, T2] ty #[.slice (some ⟨b, o, none⟩) n c, u]).run P w = .ok (.slice (some ⟨b, o, none⟩) (n + ys.length) c) (w.setRow b (cur.toList.take (o + n * t.size) ++ news ++ cur.toList.drop (o + n * t.size + news.length)).toArray) := by
  obtain ⟨A, c', rfl, _⟩ := hy.hdr
  have hf := hy.run w rfl
  have hnl := RowR.length hy.row
  have hm : (n + ys.length) * t.size ≤ c * t.size := Nat.mul_le_mul_right _ hroom
  rw [Nat.add_mul] at hm
  have hst := run_storeCells_at P b (o + n * t.size) eb news 0 cur w hg (by omega) (RowR.one hy.row)
  simp only [Nat.add_zero] at hst
  rw [← hsz] at hf hst ⊢
  simp [Builtin.append_, run_under hT, run_under hT2, sizeOf, typeInfo, hi, Builtin.lenOf, hroom, hf, add_none, hst]

/-- The machine's append: nothing to be put, and no room. -/
theorem mach_append_nothing {T T2 e e2 : Nat} {i : TypeInfo} {t : Ty} (hT : P.underlying T = some (.slice e)) (hT2 : P.underlying T2 = some (.slice e2)) (hi : P.info? e = some i) (hsz : i.size = t.size) {ty : Nat}
    {u : Value} {ys : List t.Den} {news : List Value} (hy : Holds P I w t u ys news) (h0 : ys = []) {A : Option Addr} :
    (Builtin.append_ #[T, T2] ty #[.slice A 0 0, u]).run P w = .ok (.slice A 0 0) w := by
  obtain ⟨A', c', rfl, _⟩ := hy.hdr
  have hf := hy.run w rfl
  subst h0
  have hn : news = [] := hy.row
  subst hn
  rw [← hsz] at hf
  simp only [List.length_nil] at hf
  cases A <;> simp [Builtin.append_, run_under hT, run_under hT2, sizeOf, typeInfo, hi, Builtin.lenOf, hf, storeCells]

/-- The machine's append: a new row. -/
theorem mach_append_out {T T2 e e2 : Nat} {i : TypeInfo} {z : Value} {t : Ty} (hT : P.underlying T = some (.slice e)) (hT2 : P.underlying T2 = some (.slice e2)) (hi : P.info? e = some i) (hsz : i.size = t.size) (hz : i.zero = some z) {ty : Nat}
    {u s : Value} {xs ys : List t.Den} {olds news : List Value} (hs : Holds P I w t s xs olds) (hy : Holds P I w t u ys news) {A : Option Addr} {c : Nat} (hsv : s = .slice A xs.length c) (hroom : c < xs.length + ys.length)
    (hb : (xs.length + ys.length) * i.bytes ≤ 140737488355328) (h63 : xs.length + ys.length ≤ 9223372036854775807) :
    ∃ cap rest, (Builtin.append_ #[T, T2] ty #[s, u]).run P w = .ok (.slice (some ⟨w.heap.size, 0, none⟩) (xs.length + ys.length) cap) (w.drew.alloc (.cells ((olds ++ news) ++ rest).toArray e)) ∧ xs.length + ys.length ≤ cap ∧ cap * z.cells.size = (xs.length + ys.length) * z.cells.size + rest.length := by
  obtain ⟨A', c', rfl, _⟩ := hy.hdr
  subst hsv
  have hf := hy.run w.drew rfl
  have hfo := hs.run w.drew rfl
  rw [← hsz] at hf hfo
  have hn : ¬ (xs.length + ys.length ≤ c) := by omega
  have h63' : ¬ (9223372036854775807 < ((xs.length : Int) + (ys.length : Int))) := by omega
  have hfit : Builtin.nextslicecap (xs.length + ys.length) c * i.bytes ≤ 281474976710656 := growslice_fits hroom hb
  have h48' : ¬ (281474976710656 < Builtin.nextslicecap (xs.length + ys.length) c * i.bytes) := by omega
  have hge := grownCap_ge w (xs.length + ys.length) c e
  refine ⟨grownCap w (xs.length + ys.length) c e, (Builtin.zeroCells z.cells (grownCap w (xs.length + ys.length) c e - (xs.length + ys.length))).toList, ?_, hge, ?_⟩
  · simp [Builtin.append_, run_under hT, run_under hT2, sizeOf, typeInfo, zeroValue, hi, hz, Builtin.lenOf, hn, h63', h48', Question.forced, hf, hfo, newRow, grownCap]
    congr 2
    apply Array.ext'
    simp
  · simp only [Array.length_toList, size_zeroCells]; rw [← Nat.add_mul]; congr 1; omega


theorem moved_grown (w : World) (o : Go.Obj) : Moved (fun _ => False) w (w.drew.alloc o) :=
  (Moved.drew _ w).trans (moved_alloc w.drew o)

/-- An own array that is appended to: its header in its block, which has room. -/
theorem Rel.append_in (h : Rel M w0 I0 I σ st a w) {i e : Nat} {t : Ty} {xs0 : List t.Den} (hg : st.heap.get i = some (.arr e t xs0)) {b o0 cap0 : Nat} {z : Nat} {A0 : Option Addr} {n0 : Nat} (hs : σ i = some ⟨.slice A0 n0 cap0, z⟩) (hA0 : A0 = some ⟨b, o0, none⟩) (hc0 : cap0 ≠ 0)
    {cells : Array Value} (hb : w.heap[b]? = some (.cells cells e (0, 0))) {xs ys : List t.Den} {news : List Value} {o c : Nat}
    (hx : RowR I w t xs ((cells.toList.drop o).take (xs.length * t.size))) (hy : RowR I w t ys news) (hroom : xs.length + ys.length ≤ c) (ho : o + c * t.size ≤ cells.size) :
    ∃ σ', Rel M w0 I0 I σ' ⟨(st.kill i).tmps, (st.kill i).heap.put i (.arr e t (xs ++ ys))⟩ a (w.setRow b (cells.toList.take (o + xs.length * t.size) ++ news ++ cells.toList.drop (o + xs.length * t.size + news.length)).toArray) ∧
      VR I σ' (w.setRow b (cells.toList.take (o + xs.length * t.size) ++ news ++ cells.toList.drop (o + xs.length * t.size + news.length)).toArray) (.os i) (.slice (some ⟨b, o, none⟩) (xs.length + ys.length) c) := by
  subst hA0
  have hbl : blockOf (.slice (some ⟨b, o0, none⟩) n0 cap0) = some b := by simp [blockOf, hc0]
  have hnI : ¬ I b := (h.own i _ _ b hg rfl hs hbl).1
  have hnl := RowR.length hy
  have hm : (xs.length + ys.length) * t.size ≤ c * t.size := Nat.mul_le_mul_right _ hroom
  rw [Nat.add_mul] at hm
  have hw : ∀ k, I k → (w.setRow b (cells.toList.take (o + xs.length * t.size) ++ news ++ cells.toList.drop (o + xs.length * t.size + news.length)).toArray).heap[k]? = w.heap[k]? := fun k hk => setRow_other w b k _ (fun e => by subst e; exact hnI hk)
  refine ⟨_, h.replace (ow := ⟨.slice (some ⟨b, o, none⟩) (xs.length + ys.length) c, t.size⟩) ((moved_setRow w b _).imp fun k hk => ⟨_, _, hg, rfl, hs, by rw [hk]; exact hbl⟩) (fun k hk => ?_) ?_, some ⟨b, o, none⟩, _, c, t.size, by simp, rfl⟩
  · have hkb : b = k := by
      simp only [blockOf] at hk
      split at hk
      · cases hk
      · simpa using hk
    subst hkb
    exact ⟨by rw [setRow_size]; exact (Array.getElem?_eq_some_iff.1 hb).1, h.free_old hg rfl hs hbl⟩
  · refine ⟨rfl, .inr ⟨b, o, c, _, by simp, setRow_heap w b _ _ _ _ hb, ?_, by simpa using hroom, ?_⟩⟩
    · simp only [List.size_toArray, List.length_append, List.length_take, List.length_drop, Array.length_toList]; omega
    · intro k hk
      have hrow : RowR I w t (xs ++ ys) ((cells.toList.drop o).take (xs.length * t.size) ++ news) := RowR.append hx hy
      obtain ⟨es, k1, k2⟩ := (RowR.mono (fun _ h => h) hw hrow).at k hk
      refine ⟨es, k1, fun j u hj => ?_⟩
      have h3 := k2 j u hj
      have hxl := RowR.length hx
      have hlt := (List.getElem?_eq_some_iff.1 h3).1
      rw [List.length_append, hxl] at hlt
      rw [List.getElem?_toArray, splice_get _ _ _ _ (by simp; omega)]
      by_cases e1 : k * t.size + j < xs.length * t.size
      · rw [if_pos (by omega)]
        rw [List.getElem?_append_left (by rw [hxl]; exact e1), List.getElem?_take, if_pos e1, List.getElem?_drop, ← Nat.add_assoc] at h3
        exact h3
      · rw [if_neg (by omega), if_pos (by omega)]
        rw [List.getElem?_append_right (by rw [hxl]; omega), hxl] at h3
        rw [show o + k * t.size + j - (o + xs.length * t.size) = k * t.size + j - xs.length * t.size from by omega]; exact h3

/-- An own array that is appended to: a new block. -/
theorem Rel.append_out (h : Rel M w0 I0 I σ st a w) {i e : Nat} {o0 : Obj} (hg : st.heap.get i = some o0) {t : Ty} {xs : List t.Den} {cs rest : List Value} {cap : Nat}
    (hr : RowR I w t xs cs) (hc : xs.length ≤ cap) (hs : cap * t.size ≤ cs.length + rest.length) :
    ∃ σ', Rel M w0 I0 I σ' ⟨(st.kill i).tmps, (st.kill i).heap.put i (.arr e t xs)⟩ a (w.drew.alloc (.cells (cs ++ rest).toArray e)) ∧ VR I σ' (w.drew.alloc (.cells (cs ++ rest).toArray e)) (.os i) (.slice (some ⟨w.heap.size, 0, none⟩) xs.length cap) := by
  have hm := moved_grown w (.cells (cs ++ rest).toArray e)
  have hI : ∀ b, I b → (w.drew.alloc (.cells (cs ++ rest).toArray e)).heap[b]? = w.heap[b]? := fun b hb => hm.block b (h.lt b hb) (fun h => h)
  have hn : (w.drew.alloc (.cells (cs ++ rest).toArray e)).heap[w.heap.size]? = some (.cells (cs ++ rest).toArray e (0, 0)) := alloc_new w.drew _
  obtain ⟨ow1, hs1, _⟩ := h.objs i o0 hg
  refine ⟨_, h.replace (ow := ⟨.slice (some ⟨w.heap.size, 0, none⟩) xs.length cap, t.size⟩) (hm.imp fun _ h => h.elim) (fun b hb => ?_) ?_, some ⟨w.heap.size, 0, none⟩, _, cap, t.size, by simp, rfl⟩
  · have hb : w.heap.size = b := by
      simp only [blockOf] at hb
      split at hb
      · cases hb
      · simpa using hb
    subst hb
    exact ⟨(Array.getElem?_eq_some_iff.1 hn).1, h.free_new _ (Nat.le_refl _)⟩
  · refine ⟨rfl, .inr ⟨w.heap.size, 0, cap, _, rfl, hn, by simpa using hs, hc, fun k hk => ?_⟩⟩
    obtain ⟨es, k1, k2⟩ := (RowR.mono (fun _ h => h) hI hr).at k hk
    refine ⟨es, k1, fun j u hj => ?_⟩
    have h3 := k2 j u hj
    have h4 := (List.getElem?_eq_some_iff.1 h3).1
    rw [Nat.zero_add, List.getElem?_toArray, List.getElem?_append_left h4]; exact h3

/-- append -/
theorem Rel.append (h : Rel M w0 I0 I σ st a w) (hE : TabOK P E) {id T T2 ty : Nat} {s y v : AV} {us uy : Value} {st' : St} (hs : VR I σ w s us) (hy : VR I σ w y uy) (ha : Go.PI.append E st id T T2 s y = some (v, st')) :
    ∃ u w' σ', (Builtin.append_ #[T, T2] ty #[us, uy]).run P w = .ok u w' ∧ Rel M w0 I0 I σ' st' a w' ∧ VR I σ' w' v u := by
  simp only [Go.PI.append, Option.bind_eq_some_iff] at ha
  obtain ⟨ti, h1, ti2, h2, ha⟩ := ha
  have hd := (hE.tab T ti h1).desc
  have hd2 := (hE.tab T2 ti2 h2).desc
  cases hdd : ti.desc <;> simp only [hdd] at ha hd
  case slice e =>
    cases hdd2 : ti2.desc <;> simp only [hdd2] at ha hd2
    case slice e2 =>
      simp only [Option.bind_eq_some_iff] at ha
      obtain ⟨te, h3, t, h4, ys, h5, ha⟩ := ha
      obtain ⟨ie, z, i1, i2, i3, i4, i5⟩ := hE.ty e t h4
      obtain ⟨ie', j1, j2, j3, _⟩ := (hE.tab e te h3).info
      rw [i1] at j1; cases j1
      obtain ⟨news, hH⟩ := h.listOf (P := P) hy h5
      -- a slice without room of its own
      have fromNothing : ∀ (A : Option Addr), us = .slice A 0 0 → ys.length * te.bytes ≤ 140737488355328 → ys.length ≤ 9223372036854775807 → ∃ u w' σ', (Builtin.append_ #[T, T2] ty #[us, uy]).run P w = .ok u w' ∧ Rel M w0 I0 I σ' (st.alloc id (.arr e t ys)) a w' ∧ VR I σ' w' (.os id) u := by
        rintro A rfl hb h63
        by_cases h0 : ys = []
        · subst h0
          refine ⟨_, w, _, mach_append_nothing hd hd2 i1 i2 hH rfl, h.alloc (ow := ⟨.slice A 0 0, t.size⟩) (Moved.refl _ w) (fun b hb => ?_) (fun _ _ => ⟨rfl, .inl ⟨A, rfl, rfl⟩⟩) (fun _ _ => ⟨rfl, .inl ⟨A, rfl, rfl⟩⟩), A, 0, 0, t.size, by simp, rfl⟩
          cases A <;> simp [blockOf] at hb
        · have hpos : 0 < ys.length := List.length_pos_iff.2 h0
          obtain ⟨cap, rest, k1, k2, k3⟩ := mach_append_out (xs := ([] : List t.Den)) (olds := []) (ty := ty) hd hd2 i1 i2 i3 (holds_of (A := A) (c := 0) (show RowR I w t [] [] from rfl) (Nat.le_refl _) (.inl ⟨rfl, rfl⟩)) hH rfl (by simpa using hpos) (by rw [j3]; simpa using hb) (by simpa using h63)
          simp only [List.length_nil, Nat.zero_add, List.nil_append] at k1 k2 k3
          have hrow := hH.row
          obtain ⟨σ', q1, q2⟩ := h.allocArr id e (t := t) (xs := ys) (cs := news) (rest := rest) (cap := cap) (moved_grown w _) (alloc_new w.drew _) hrow k2 (by rw [RowR.length hrow, ← i4]; omega)
          exact ⟨_, _, σ', k1, q1, q2⟩
      -- an own array
      have fromOwn : ∀ (i : Nat) (xs0 : List t.Den) (xs : List t.Den) (A0 : Option Addr) (n0 cap0 p n : Nat) (A : Option Addr), st.heap.get i = some (.arr e t xs0) → σ i = some ⟨.slice A0 n0 cap0, t.size⟩ → us = .slice A n (cap0 - p) → p + n ≤ xs0.length → xs = (xs0.drop p).take n →
          (∀ b o, A0 = some ⟨b, o, none⟩ → p < cap0 → A = some ⟨b, o + p * t.size, none⟩) → (xs.length + ys.length) * te.bytes ≤ 140737488355328 → xs.length + ys.length ≤ 9223372036854775807 →
          ∃ u w' σ', (Builtin.append_ #[T, T2] ty #[us, uy]).run P w = .ok u w' ∧ Rel M w0 I0 I σ' ⟨(st.kill i).tmps, (st.kill i).heap.put i (.arr e t (xs ++ ys))⟩ a w' ∧ VR I σ' w' (.os i) u := by
        intro i xs0 xs A0 n0 cap0 p n A hg hσ hus hpn hxs hA hb h63
        have hxn : xs.length = n := by rw [hxs]; simp only [List.length_take, List.length_drop]; omega
        obtain ⟨ow, k1, k2, k3⟩ := h.objs i _ hg
        rw [hσ] at k1; cases k1
        obtain ⟨A1, c1, m1, m2, m3⟩ := k3.holds
        simp only [Value.slice.injEq] at m1
        obtain ⟨rfl, rfl, rfl⟩ := m1
        have noRoom : (∃ olds, Holds P I w t us xs olds) → cap0 - p < xs.length + ys.length → ∃ u w' σ', (Builtin.append_ #[T, T2] ty #[us, uy]).run P w = .ok u w' ∧ Rel M w0 I0 I σ' ⟨(st.kill i).tmps, (st.kill i).heap.put i (.arr e t (xs ++ ys))⟩ a w' ∧ VR I σ' w' (.os i) u := by
          rintro ⟨olds, hO⟩ hno
          obtain ⟨cap, rest, q1, q2, q3⟩ := mach_append_out (ty := ty) hd hd2 i1 i2 i3 hO hH (A := A) (c := cap0 - p) (by rw [hus, hxn]) hno (by rw [j3]; exact hb) h63
          have hrow := RowR.append hO.row hH.row
          obtain ⟨σ', r1, r2⟩ := h.append_out hg (e := e) (xs := xs ++ ys) (cs := olds ++ news) (rest := rest) (cap := cap) hrow (by simpa using q2) (by rw [RowR.length hrow, List.length_append, ← i4]; omega)
          rw [List.length_append] at r2
          exact ⟨_, _, σ', q1, r1, r2⟩
        rcases m3 with ⟨rfl, rfl⟩ | ⟨b, o, cells, rfl, m4, m5, m6⟩
        · -- nothing there
          have hn0 : n = 0 := by simp at hpn; omega
          have hp0 : p = 0 := by simp at hpn; omega
          subst hn0; subst hp0
          have hx0 : xs = [] := List.eq_nil_of_length_eq_zero hxn
          subst hx0
          by_cases h0 : ys = []
          · subst h0
            subst hus
            refine ⟨_, w, _, mach_append_nothing hd hd2 i1 i2 hH rfl, h.replace (ow := ⟨.slice A 0 0, t.size⟩) (Moved.refl _ w) (fun b hb => ?_) ⟨rfl, .inl ⟨A, rfl, rfl⟩⟩, A, 0, 0, t.size, by simp, rfl⟩
            cases A <;> simp [blockOf] at hb
          · have hpos : 0 < ys.length := List.length_pos_iff.2 h0
            refine noRoom ⟨[], ?_⟩ (by simpa using hpos)
            subst hus
            exact holds_of (show RowR I w t [] [] from rfl) (Nat.le_refl _) (.inl ⟨rfl, rfl⟩)
        · have k6 := m6.part p n hpn
          have hmm : (p + n) * t.size ≤ xs0.length * t.size := Nat.mul_le_mul_right _ hpn
          rw [Nat.add_mul] at hmm
          have hseg : (((cells.toList.drop o).take (xs0.length * t.size)).drop (p * t.size)).take (n * t.size) = (cells.toList.drop (o + p * t.size)).take (n * t.size) := by
            rw [List.drop_take, List.drop_drop, List.take_take, Nat.min_eq_left (by omega)]
          rw [hseg, ← hxs] at k6
          by_cases hroom : xs.length + ys.length ≤ cap0 - p
          · by_cases hpc : p < cap0
            · have hA' := hA b o rfl hpc
              subst hA'
              have hcm : p * t.size + (cap0 - p) * t.size = cap0 * t.size := by rw [← Nat.add_mul]; congr 1; omega
              have hoc : o + p * t.size + (cap0 - p) * t.size ≤ cells.size := by omega
              have hrun := mach_append_in (ty := ty) hd hd2 i1 i2 hH (n := n) (c := cap0 - p) (by omega) m4 hoc
              rw [← hxn] at hrun k6
              obtain ⟨σ', r1, r2⟩ := h.append_in hg hσ rfl (by omega) m4 k6 hH.row hroom hoc
              refine ⟨_, _, σ', by rw [hus, ← hxn]; exact hrun, r1, r2⟩
            · -- no room at all: nothing is put
              have hcp : cap0 - p = 0 := by omega
              have hx0 : xs = [] := List.eq_nil_of_length_eq_zero (by omega)
              have hy0 : ys = [] := List.eq_nil_of_length_eq_zero (by omega)
              have hn0 : n = 0 := by omega
              subst hx0; subst hy0; subst hn0
              rw [hcp] at hus
              subst hus
              refine ⟨_, w, _, mach_append_nothing hd hd2 i1 i2 hH rfl, h.replace (ow := ⟨.slice A 0 0, t.size⟩) (Moved.refl _ w) (fun b hb => ?_) ⟨rfl, .inl ⟨A, rfl, rfl⟩⟩, A, 0, 0, t.size, by simp, rfl⟩
              cases A <;> simp [blockOf] at hb
          · refine noRoom ?_ (by omega)
            subst hus
            by_cases hpc : p < cap0
            · have hA' := hA b o rfl hpc
              have := holds_of (P := P) (A := A) (c := cap0 - p) (news := (cells.toList.drop (o + p * t.size)).take (n * t.size)) k6 (by omega) (.inr ⟨b, _, hA', cells_seg m4⟩)
              rw [hxn] at this; exact ⟨_, this⟩
            · have hn0 : n = 0 := by omega
              have hx0 : xs = [] := List.eq_nil_of_length_eq_zero (by omega)
              subst hx0; subst hn0
              exact ⟨[], holds_of (show RowR I w t [] [] from rfl) (Nat.zero_le _) (.inl ⟨rfl, rfl⟩)⟩
      split at ha
      · split at ha
        · rename_i hc; cases ha; exact fromNothing none hs hc.1 hc.2
        · cases ha
      · split at ha
        · rename_i hc; cases ha; obtain ⟨A, hA⟩ := hs; exact fromNothing A hA hc.1 hc.2
        · cases ha
      · rename_i i
        split at ha
        · rename_i e' t' xs0 hg
          split at ha
          · rename_i he
            subst he
            simp only [Option.bind_eq_some_iff] at ha
            obtain ⟨xs, k1, ha⟩ := ha
            have e1 := asDen_some k1
            cases e1
            split at ha
            · rename_i hc
              cases ha
              obtain ⟨A, cap, q1, q2, q3, _⟩ := h.arr hg hs
              exact fromOwn i xs xs A xs.length cap 0 xs.length A hg (by rw [q3, q1]) (by rw [q1]; rfl) (by omega) (by simp) (fun b o hA _ => by rw [hA]; simp) hc.1 hc.2
            · cases ha
          · cases ha
        · cases ha
      · rename_i i p n
        split at ha
        · rename_i e' t' xs0 hg
          split at ha
          · rename_i he
            subst he
            simp only [Option.bind_eq_some_iff] at ha
            obtain ⟨xs, k1, ha⟩ := ha
            have e1 := asDen_some k1
            cases e1
            split at ha
            · rename_i hc
              cases ha
              obtain ⟨A, len, cap, z', g1, g2, A', q1, g3, g3', g4⟩ := hs
              obtain ⟨A1, cap1, r1, r2, r3, _⟩ := h.arr hg ⟨A, len, cap, z', g1, rfl⟩
              cases r1
              rw [g1] at r3; cases r3
              exact fromOwn i _ _ A _ cap p n A' hg g1 q1 g2 rfl g3 hc.1 hc.2
            · cases ha
          · cases ha
        · cases ha
      · cases ha
    all_goals cases ha
  all_goals cases ha

end
end Go.PI
