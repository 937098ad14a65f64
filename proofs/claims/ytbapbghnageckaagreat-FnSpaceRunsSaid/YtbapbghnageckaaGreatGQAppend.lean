/- An abstract interpreter of the translated code: append, copy, clear. -/
import Derived.Test.YtbapbghnageckaaGreatGQMake
namespace Go.Q
set_option linter.unusedVariables false
set_option linter.unusedSimpArgs false
set_option linter.unusedSectionVars false
open Go
section
variable {P : Program} {E : Env} {L : Nat → Prop} {I I' J : Nat → Prop} {σ σ' : Nat → Option Own} {st st' : St} {w w' : World}

structure Got (P : Program) (w : World) (u : Value) (n sz : Nat) (news : List Value) : Prop where
 len : ∀ W : World, (Builtin.lenOf u).run P W = .ok n W
 hl : news.length = n * sz
 run : ∀ W : World, W.heap = w.heap → ∀ m, m ≤ n → (Builtin.firstCells sz m u).run P W = .ok (news.take (m * sz)).toArray W

theorem Src.got {u : Value} {n sz : Nat} {news : List Value} (h : Src w u n sz news) : Got P w u n sz news := by
 have h0 := h
 obtain ⟨A, c, rfl, h1, h2, h3⟩ := h
 exact ⟨fun W => by simp [Builtin.lenOf], h2, fun W hW m hm => (h0.of_heap hW).runTake hm⟩

theorem Got.all {u : Value} {n sz : Nat} {news : List Value} (h : Got P w u n sz news) {W : World} (hW : W.heap = w.heap) : (Builtin.firstCells sz n u).run P W = .ok news.toArray W := by
 have := h.run W hW n (Nat.le_refl _)
 rwa [List.take_of_length_le (by rw [h.hl]; exact Nat.le_refl _)] at this

theorem bytes_got (s : ByteArray) : Got P w (.string s) (bytesL s).length 1 ((bytesL s).map (Value.int .u8)) := by
 have hs : (bytesL s).length = s.size := by simp [bytesL]
 refine ⟨fun W => by simp [Builtin.lenOf, hs], by simp, fun W _ m hm => ?_⟩
 simp only [Builtin.firstCells, Sem.run_pure, Nat.mul_one]
 congr 1
 apply Array.ext'
 simp [bytesL, ByteArray.data_extract, Function.comp_def]

theorem DR.src {t : Ty} {xs : List t.Den} {u : Value} (h : DR I w (.slice t) xs [u]) : ∃ cs, Src w u xs.length t.size cs ∧ ∀ (i : Nat) (h : i < xs.length), DR I w t (xs.get ⟨i, h⟩) (chunk t.size cs i) := by
 obtain ⟨A, cap, e, hc, h⟩ := h
 have e : u = .slice A xs.length cap := by simpa using e
 subst e
 by_cases h0 : xs.length = 0
 ·exact ⟨[], ⟨A, cap, rfl, hc, by simp [h0], .inl h0⟩, fun i hi => absurd hi (by omega)⟩
 ·obtain ⟨b, o, rfl, hb, _⟩ := h 0 (Nat.pos_of_ne_zero h0)
  have key : ∀ k, k ≤ xs.length → ∃ cs : List Value, cs.length = k * t.size ∧ CellsAt w ⟨b, o, none⟩ cs ∧ ∀ (i : Nat) (hi : i < xs.length), i < k → DR I w t (xs.get ⟨i, hi⟩) (chunk t.size cs i) := by
   intro k
   induction k with
   | zero => intro _; exact ⟨[], by simp, fun j v hj => by simp at hj, fun i _ hi => absurd hi (by omega)⟩
   | succ k ih =>
    intro hk
    obtain ⟨cs, h1, h2, h3⟩ := ih (by omega)
    obtain ⟨b', o', e', hb', es, h4, h5⟩ := h k (by omega)
    cases e'
    have hel := DR.length t _ es h4
    refine ⟨cs ++ es, by rw [List.length_append, h1, hel, Nat.add_mul, Nat.one_mul], fun j v hj => ?_, fun i hi hik => ?_⟩
    ·by_cases hjl : j < cs.length
     ·rw [List.getElem?_append_left hjl] at hj; exact h2 j v hj
     ·rw [List.getElem?_append_right (by omega)] at hj
      have := h5 (j - cs.length) v hj
      simp only at this ⊢
      rwa [show o + k * t.size + (j - cs.length) = o + j from by omega] at this
    ·by_cases e : i = k
     ·subst e
      have : chunk t.size (cs ++ es) i = es := by
       have := chunk_right (sz := t.size) (cs := cs) (ds := es) (n := i) h1 0
       rw [Nat.add_zero] at this; rw [this, chunk_one hel]
      rw [this]; exact h4
     ·rw [chunk_left h1 (by omega)]; exact h3 i hi (by omega)
  obtain ⟨cs, h1, h2, h3⟩ := key xs.length (Nat.le_refl _)
  exact ⟨cs, ⟨_, cap, rfl, hc, h1, .inr ⟨b, o, rfl, h2⟩⟩, fun i hi => h3 i hi hi⟩

theorem HR.listOf {hp : Heap} (h : HR I σ w hp) {t : Ty} {y : AV} {u : Value} {ys : List t.Den} (hy : VR I σ w y u) (hl : Go.Q.listOf hp t y = some ys) :
  ∃ news, Src w u ys.length t.size news ∧ ∀ (i : Nat) (hi : i < ys.length), DR I w t (ys.get ⟨i, hi⟩) (chunk t.size news i) := by
 unfold Go.Q.listOf at hl
 split at hl
 ·rename_i p
  split at hl
  ·cases hl
  ·rename_i hd
   rw [Option.bind_eq_some_iff] at hl
   obtain ⟨v, ha, hl⟩ := hl
   obtain ⟨t', xs, H, cs, rfl, hpl⟩ := h.place ha
   have e := asDen_some hl
   cases e
   have hu := hpl.os hy
   subst hu
   refine ⟨cs, hpl.arr.src, fun i hi => (hpl.elt i hi).ex.2.2.1 ?_⟩
   cases hdd : hp.deepAt p <;> simp_all
 ·rename_i p a n
  split at hl
  ·cases hl
  ·rename_i hd
   rw [Option.bind_eq_some_iff] at hl
   obtain ⟨v', ha', hl⟩ := hl
   rw [Option.bind_eq_some_iff] at ha'
   obtain ⟨v, ha, ha'⟩ := ha'
   obtain ⟨t', xs, H, cs, rfl, hpl⟩ := h.place ha
   simp only [cutO, Option.some.injEq] at ha'
   subst ha'
   have e := asDen_some hl
   cases e
   obtain ⟨h1, h2⟩ := hpl.sub hy
   have hl := part_length h1
   refine ⟨_, by rw [hl]; exact h2.src, fun i hi => ?_⟩
   rw [part_get h1 hi, chunk_part (by rw [hl] at hi; exact hi)]
   exact (hpl.elt (a + i) (by rw [hl] at hi; omega)).ex.2.2.1 (by cases hdd : hp.deepAt p <;> simp_all)
 ·exact DR.src (VR.asList hy hl)

structure AppT (P : Program) (T T2 e : Nat) (i : TypeInfo) (z : Value) (sz : Nat) : Prop where
 hT : P.underlying T = some (.slice e)
 hT2 : (∃ e2, P.underlying T2 = some (.slice e2)) ∨ P.underlying T2 = some .string
 hi : P.info? e = some i
 hsz : i.size = sz
 hz : i.zero = some z

def StoredAt (P : Program) (base : Option Addr) (k : Nat) (news : List Value) (w w' : World) : Prop := match base with
 | some a => (storeCells (a.add k) news 0).run P w = .ok () w'
 | none => w' = w

theorem mach_append_in {T T2 e sz : Nat} {i : TypeInfo} {z : Value} (hA : AppT P T T2 e i z sz) {ty : Nat} {u : Value} {m : Nat} {news : List Value} (hy : Got P w u m sz news) {base : Option Addr} {n c : Nat} (hroom : n + m ≤ c)
  (hst : StoredAt P base (n * sz) news w w') :
  (Builtin.append_ #[T, T2] ty #[.slice base n c, u]).run P w = .ok (.slice base (n + m) c) w' := by
 have hf := hy.all (W := w) rfl
 have hsz := hA.hsz
 subst hsz
 have hlen := hy.len
 have hT := hA.hT
 have hi := hA.hi
 rcases hA.hT2 with ⟨e2, h2⟩ | h2
 ·cases base with
  | none =>
   simp only [StoredAt] at hst
   subst hst
   simp [Builtin.append_, run_under hT, run_under h2, sizeOf, typeInfo, hi, hlen, hroom, hf]
  | some a =>
   simp only [StoredAt] at hst
   simp [Builtin.append_, run_under hT, run_under h2, sizeOf, typeInfo, hi, hlen, hroom, hf, hst]
 ·cases base with
  | none =>
   simp only [StoredAt] at hst
   subst hst
   simp [Builtin.append_, run_under hT, run_under h2, sizeOf, typeInfo, hi, hlen, hroom, hf]
  | some a =>
   simp only [StoredAt] at hst
   simp [Builtin.append_, run_under hT, run_under h2, sizeOf, typeInfo, hi, hlen, hroom, hf, hst]

theorem mach_append_out {T T2 e sz : Nat} {i : TypeInfo} {z : Value} (hA : AppT P T T2 e i z sz) (hzs : z.cells.size = sz) {ty : Nat} {u s : Value} {n m : Nat} {olds news : List Value} (hs : Got P w s n sz olds) (hy : Got P w u m sz news) {A : Option Addr} {c : Nat} (hsv : s = .slice A n c) (hroom : c < n + m)
  (hb : roomFor (n + m) i.bytes = true) :
  ∃ cap rest, (Builtin.append_ #[T, T2] ty #[s, u]).run P w = .ok (.slice (some ⟨w.heap.size, 0, none⟩) (n + m) cap) (w.drew.alloc (.cells ((olds ++ news) ++ rest).toArray e)) ∧ (n + m ≤ cap ∧ cap ≤ 9223372036854775807) ∧ cap * sz = (olds ++ news).length + rest.length := by
 simp only [roomFor, decide_eq_true_eq] at hb
 obtain ⟨hb, h63⟩ := hb
 have hsz := hA.hsz
 subst hsz
 subst hsv
 have hf := hy.all (W := w.drew) rfl
 have hfo := hs.all (W := w.drew) rfl
 have hlen := hy.len
 have hn : ¬ (n + m ≤ c) := by omega
 have h63' : ¬ (9223372036854775807 < ((n : Int) + (m : Int))) := by omega
 have hfit : Builtin.nextslicecap (n + m) c * i.bytes ≤ 281474976710656 := growslice_fits hroom hb
 have h48' : ¬ (281474976710656 < Builtin.nextslicecap (n + m) c * i.bytes) := by omega
 have hge := grownCap_ge w (n + m) c e
 have hcm : grownCap w (n + m) c e ≤ 9223372036854775807 := by
  have := grownCap_le_maxLen w (n + m) c e (by simp only [maxLen]; omega)
  simpa only [maxLen] using this
 refine ⟨grownCap w (n + m) c e, (Builtin.zeroCells z.cells (grownCap w (n + m) c e - (n + m))).toList, ?_, ⟨hge, hcm⟩, ?_⟩
 ·have hT := hA.hT
  have hi := hA.hi
  have hz := hA.hz
  rcases hA.hT2 with ⟨e2, h2⟩ | h2
  ·simp [Builtin.append_, run_under hT, run_under h2, sizeOf, typeInfo, zeroValue, hi, hz, hlen, hn, h63', h48', Question.forced, hf, hfo, newRow, grownCap]
   congr 2
   apply Array.ext'
   simp
  ·simp [Builtin.append_, run_under hT, run_under h2, sizeOf, typeInfo, zeroValue, hi, hz, hlen, hn, h63', h48', Question.forced, hf, hfo, newRow, grownCap]
   congr 2
   apply Array.ext'
   simp
 ·rw [List.length_append, hs.hl, hy.hl, Array.length_toList, size_zeroCells, hzs, ← Nat.add_mul, ← Nat.add_mul]; congr 1; omega

theorem Arr.grow {b o n m c sz e : Nat} {cells : Array Value} {cs news : List Value} (hg : w.heap[b]? = some (.cells cells e (0, 0))) (ho : o + c * sz ≤ cells.size) (hcs : (cells.toList.drop o).take (n * sz) = cs) (hl : cs.length = n * sz) (hroom : n + m ≤ c) (h63 : c ≤ 9223372036854775807) (hn : news.length = m * sz) (h1 : ∀ u ∈ news, u.oneCell' = true) :
  ∃ w', (storeCells ⟨b, o + n * sz, none⟩ news 0).run P w = .ok () w' ∧ Moved (fun k => k = b) w w' ∧ Arr w' (.slice (some ⟨b, o, none⟩) (n + m) c) (n + m) sz (cs ++ news) := by
 have hm : (n + m) * sz ≤ c * sz := Nat.mul_le_mul_right _ hroom
 have hm' := hm
 rw [Nat.add_mul] at hm
 have hrun := run_storeCells_at P b (o + n * sz) e news 0 cells w hg (by omega) h1
 simp only [Nat.add_zero] at hrun
 refine ⟨_, hrun, moved_setRow w b _, by rw [List.length_append, hl, hn, Nat.add_mul], .inr ⟨b, o, c, _, e, rfl, setRow_heap w b _ _ _ _ hg, ?_, ⟨hroom, h63⟩, ?_⟩⟩
 ·simp only [List.size_toArray, List.length_append, List.length_take, List.length_drop, Array.length_toList]; omega
 ·rw [← hcs]
  have hsz : cells.toList.length = cells.size := by simp
  apply List.ext_getElem?
  intro k
  rw [Nat.add_mul]
  simp only [List.getElem?_take, List.getElem?_drop, List.getElem?_append, List.length_append, List.length_take, List.length_drop, Array.length_toList]
  by_cases hk : k < n * sz
  ·rw [if_pos (by omega), if_pos (by omega), if_pos (by omega), if_pos (by omega), if_pos (by omega), if_pos (by omega)]
  ·by_cases hk2 : k < n * sz + m * sz
   ·rw [if_pos (by omega), if_pos (by omega), if_neg (by omega), if_neg (by omega)]
    congr 1; omega
   ·rw [if_neg (by omega), if_neg (by omega)]
    rw [List.getElem?_eq_none (by omega)]

theorem rows_append {t : Ty} {xs ys : List t.Den} {cs news : List Value} (hl : cs.length = xs.length * t.size) (h1 : ∀ (i : Nat) (h : i < xs.length), DR I w t (xs.get ⟨i, h⟩) (chunk t.size cs i)) (h2 : ∀ (i : Nat) (h : i < ys.length), DR I w t (ys.get ⟨i, h⟩) (chunk t.size news i)) :
  ∀ (i : Nat) (h : i < (xs ++ ys).length), DR I w t ((xs ++ ys).get ⟨i, h⟩) (chunk t.size (cs ++ news) i) := by
 intro i hi
 by_cases hx : i < xs.length
 ·rw [chunk_left hl hx]
  have : (xs ++ ys).get ⟨i, hi⟩ = xs.get ⟨i, hx⟩ := by simp [List.getElem_append_left hx]
  rw [this]; exact h1 i hx
 ·have hy : i - xs.length < ys.length := by simp at hi; omega
  have := chunk_right (sz := t.size) (cs := cs) (ds := news) (n := xs.length) hl (i - xs.length)
  rw [show xs.length + (i - xs.length) = i from by omega] at this
  rw [this]
  have : (xs ++ ys).get ⟨i, hi⟩ = ys.get ⟨i - xs.length, hy⟩ := by simp [List.getElem_append_right (show xs.length ≤ i by omega)]
  rw [this]; exact h2 _ hy

theorem rows_one {t : Ty} {ys : List t.Den} {news : List Value} (hl : news.length = ys.length * t.size) (h2 : ∀ (i : Nat) (h : i < ys.length), DR I w t (ys.get ⟨i, h⟩) (chunk t.size news i)) : ∀ u ∈ news, u.oneCell' = true := by
 intro u hu
 obtain ⟨i, hi, hc⟩ := mem_chunk hl hu
 exact DR.one t _ _ (h2 i hi) u hc

theorem blockOf_slice {A : Option Addr} {n c b : Nat} (h : blockOf (.slice A n c) = some b) : ∃ a, A = some a ∧ a.block = b ∧ c ≠ 0 := by
 cases A with
 | none => simp [blockOf] at h
 | some a =>
  simp only [blockOf] at h
  split at h
  ·cases h
  ·rename_i hc; exact ⟨a, rfl, by simpa using h, hc⟩

theorem Tr.appendMoved (h : HR I σ w st.heap) (hl : ∀ b, Live σ st.heap b → L b) (hnew : ∀ b, w.heap.size ≤ b → L b) {T T2 e : Nat} {ti : TypeInfo} {z : Value} {t : Ty} (hA : AppT P T T2 e ti z t.size) (hzs : z.cells.size = t.size) {ty : Nat}
  {i : Nat} {m0 : Bool} {xs0 : List t.Den} (hg : st.heap.get i = some (.arr m0 false t xs0)) {ow : Own} (hs : σ i = some ow) {u : Value} {xs : List t.Den} {olds : List Value} (hwin : Arr w u xs.length t.size olds) (hrow : ∀ (j : Nat) (hj : j < xs.length), DR I w t (xs.get ⟨j, hj⟩) (chunk t.size olds j))
  (hblk : ∀ b, blockOf u = some b → blockOf ow.h.v = some b) {uy : Value} {ys : List t.Den} {news : List Value} (hy : Got P w uy ys.length t.size news) (hyr : ∀ (j : Nat) (hj : j < ys.length), DR I w t (ys.get ⟨j, hj⟩) (chunk t.size news j)) (hb : roomFor (xs.length + ys.length) ti.bytes = true) :
  ∃ u' w' σ', (Builtin.append_ #[T, T2] ty #[u, uy]).run P w = .ok u' w' ∧ Tr L I σ st w I σ' ⟨(st.kill i).tmps, (st.kill i).heap.put i (.arr true false t (xs ++ ys))⟩ w' ∧ VR I σ' w' (.os (.t i)) u' := by
 have hkill : ∀ (ow' : Own) v u, LR σ v u → VR I (upd σ i ow') w (killF i v) u := fun ow' v u hv => killF_ok i (fun j hj => upd_other _ hj) v u hv
 have hall := rows_append hwin.1 hrow hyr
 have hone := rows_one hy.hl hyr
 have hlive : ∀ b, ow.has b → Live σ st.heap b := fun b hb => ⟨i, _, ow, hg, rfl, hs, hb⟩
 have mkVR : ∀ (w2 : World) (A : Option Addr) (n c : Nat), VR I (upd σ i ⟨⟨.slice A n c, t.size⟩, fun _ _ => none⟩) w2 (.os (.t i)) (.slice A n c) := fun w2 A n c => ⟨_, A, n, c, by simp only [hdrOf, upd_same, Option.map_some]; rfl, rfl, rfl⟩
 have noinn : ∀ (H : Hdr), InnOK ⟨H, fun _ _ => none⟩ := fun H => ⟨fun _ _ _ _ h => (by cases h), fun _ _ _ _ _ _ _ h => (by cases h)⟩
 have change : ∀ {S : Nat → Prop} {w2 : World} {A : Option Addr} {c : Nat}, Moved S w w2 → (∀ b, S b → ow.has b) → (∀ b, blockOf (.slice A (xs.length + ys.length) c) = some b → ow.has b ∨ (w.heap.size ≤ b ∧ b < w2.heap.size)) →
   Arr w2 (.slice A (xs.length + ys.length) c) (xs ++ ys).length t.size (olds ++ news) →
   Tr L I σ st w I (upd σ i ⟨⟨.slice A (xs.length + ys.length) c, t.size⟩, fun _ _ => none⟩) ⟨(st.kill i).tmps, (st.kill i).heap.put i (.arr true false t (xs ++ ys))⟩ w2 := by
  intro S w2 A c hm hS hbk harr
  have hI : ∀ b, I b → w2.heap[b]? = w.heap[b]? := fun b hb => hm.block b (h.lt b hb) (fun hs => (h.own b (hlive b (hS b hs))).1 hb)
  refine Tr.change h hl (killF i) hg (fun _ h => h) (fun _ h => .inl h) (hkill _) hm (fun b hb => ⟨hl b (hlive b (hS b hb)), (h.own b (hlive b (hS b hb))).1, h.not_other hg rfl hs (hS b hb)⟩) (fun _ b hb => ?_)
   ⟨rfl, fun _ _ _ => rfl, noinn _, _, harr, fun j hj => EltR.of_flat (.inl rfl) (DR.mono (fun _ h => h) hI t _ _ (hall j hj))⟩ (fun _ h => by cases h)
  have hb' : blockOf (.slice A (xs.length + ys.length) c) = some b := by
   rcases hb with hb | ⟨_, _, _, hb, _⟩
   ·exact hb
   ·cases hb
  rcases hbk b hb' with q | ⟨q1, q2⟩
  ·exact ⟨hl b (hlive b q), (h.own b (hlive b q)).1, Nat.lt_of_lt_of_le (h.own b (hlive b q)).2 hm.size, h.not_other hg rfl hs q⟩
  ·refine ⟨hnew b q1, fun hi => by have := h.lt b hi; omega, q2, fun hx => ?_⟩
   obtain ⟨_, o', ow', _, k1, k2, k3, k4⟩ := hx.bury
   have := (h.own b ⟨_, o', ow', k1, k2, k3, k4⟩).2
   omega
 obtain ⟨A, c, rfl, hc⟩ := hwin.slice
 by_cases hroom : xs.length + ys.length ≤ c
 ·rcases hwin.2 with ⟨A1, e1, h0⟩ | ⟨b, o, cap, cells, eb, e1, h2, h3, h4, h5⟩
  ·simp only [Value.slice.injEq] at e1
   obtain ⟨rfl, e1, rfl⟩ := e1
   have hy0 : ys = [] := List.eq_nil_of_length_eq_zero (by omega)
   have hx0 : xs = [] := List.eq_nil_of_length_eq_zero (by omega)
   subst hy0; subst hx0
   have hn0 : news = [] := List.eq_nil_of_length_eq_zero (by rw [hy.hl]; simp)
   have ho0 : olds = [] := List.eq_nil_of_length_eq_zero (by rw [hwin.1]; simp)
   subst hn0; subst ho0
   have hrun := mach_append_in (w' := w) (ty := ty) hA hy (base := A) (n := 0) (c := 0) (by simp) (by cases A <;> simp [StoredAt, storeCells])
   exact ⟨_, w, _, hrun, change (S := fun _ => False) (Moved.refl _ w) (fun _ h => h.elim) (fun b hb => by cases A <;> simp [blockOf] at hb) ⟨by simp, .inl ⟨A, rfl, rfl⟩⟩, mkVR _ _ _ _⟩
  ·simp only [Value.slice.injEq] at e1
   obtain ⟨rfl, _, rfl⟩ := e1
   by_cases hc0 : c = 0
   ·subst hc0
    have hy0 : ys = [] := List.eq_nil_of_length_eq_zero (by omega)
    have hx0 : xs = [] := List.eq_nil_of_length_eq_zero (by omega)
    subst hy0; subst hx0
    have hn0 : news = [] := List.eq_nil_of_length_eq_zero (by rw [hy.hl]; simp)
    have ho0 : olds = [] := List.eq_nil_of_length_eq_zero (by rw [hwin.1]; simp)
    subst hn0; subst ho0
    have hrun := mach_append_in (w' := w) (ty := ty) hA hy (base := some ⟨b, o, none⟩) (n := 0) (c := 0) (by simp) (by simp [StoredAt, storeCells])
    exact ⟨_, w, _, hrun, change (S := fun _ => False) (Moved.refl _ w) (fun _ h => h.elim) (fun b hb => by simp [blockOf] at hb) ⟨by simp, .inl ⟨_, rfl, rfl⟩⟩, mkVR _ _ _ _⟩
   ·obtain ⟨w2, q1, q2, q3⟩ := Arr.grow (P := P) h2 h3 h5 hwin.1 hroom (by omega) hy.hl hone
    have hrun := mach_append_in (w' := w2) (ty := ty) hA hy (base := some ⟨b, o, none⟩) (n := xs.length) (c := c) hroom (by simp only [StoredAt, add_none]; exact q1)
    have hbk : ow.has b := .inl (hblk b (by simp [blockOf, hc0]))
    exact ⟨_, w2, _, hrun, change (S := fun k => k = b) q2 (fun k hk => by subst hk; exact hbk) (fun k hk => .inl (by obtain ⟨a, e, e2, _⟩ := blockOf_slice hk; cases e; subst e2; exact hbk)) (by rw [List.length_append]; exact q3), mkVR _ _ _ _⟩
 ·obtain ⟨cap, rest, q1, q2, q3⟩ := mach_append_out (ty := ty) hA hzs hwin.src.got hy (A := A) (c := c) rfl (by omega) hb
  refine ⟨_, _, _, q1, change (S := fun _ => False) (moved_grown w _) (fun _ h => h.elim) (fun k hk => .inr ?_) ?_, mkVR _ _ _ _⟩
  ·obtain ⟨a, e, e2, _⟩ := blockOf_slice hk
   cases e; subst e2
   exact ⟨Nat.le_refl _, (Array.getElem?_eq_some_iff.1 (alloc_new w.drew _)).1⟩
  ·have hlen : (xs ++ ys).length = xs.length + ys.length := List.length_append
   rw [hlen]
   exact Arr.new (rest := rest) (alloc_new w.drew _) (by simp only [List.length_append, hwin.1, hy.hl, Nat.add_mul]) q2 (by omega)

theorem get_of_getElem? {α : Type} {l l' : List α} {i j : Nat} (hi : i < l.length) (hj : j < l'.length) (h : l[i]? = l'[j]?) : l.get ⟨i, hi⟩ = l'.get ⟨j, hj⟩ := by
 rw [List.getElem?_eq_getElem hi, List.getElem?_eq_getElem hj, Option.some.injEq] at h
 exact h

theorem Tr.putRows (h : HR I σ w st.heap) (hl : ∀ b, Live σ st.heap b → L b) {p : Pl} {t : Ty} {xs : List t.Den} {H : Hdr} {cs : List Value} (hpla : st.heap.arrAt p = some (.d (.slice t) xs)) (hpl : PlR I σ w st.heap p t xs H cs) (hd : st.heap.deepAt p = false ∨ t.refs = false)
  {q : Nat} {ys : List t.Den} {news : List Value} (hfit : q + ys.length ≤ xs.length) (hnl : news.length = ys.length * t.size) (hyr : ∀ (j : Nat) (hj : j < ys.length), DR I w t (ys.get ⟨j, hj⟩) (chunk t.size news j)) {h' : Heap} (hset : st.heap.setAt t (xs.take q ++ ys ++ xs.drop (q + ys.length)) p = some h') :
  ∃ w2, ((news = [] ∧ w2 = w) ∨ ∃ b ob cap, H.v = .slice (some ⟨b, ob, none⟩) xs.length cap ∧ (storeCells ⟨b, ob + q * t.size, none⟩ news 0).run P w = .ok () w2) ∧ Moved (fun k => blockOf H.v = some k) w w2 ∧ Tr L I σ st w I σ ⟨st.tmps, h'⟩ w2 := by
 have hone := rows_one hnl hyr
 have hmul1 : q * t.size + ys.length * t.size ≤ xs.length * t.size := by rw [← Nat.add_mul]; exact Nat.mul_le_mul_right _ hfit
 have hlist : (xs.take q ++ ys ++ xs.drop (q + ys.length)).length = xs.length := by simp only [List.length_append, List.length_take, List.length_drop]; omega
 have hput : ∃ w2, ((news = [] ∧ w2 = w) ∨ ∃ b ob cap, H.v = .slice (some ⟨b, ob, none⟩) xs.length cap ∧ (storeCells ⟨b, ob + q * t.size, none⟩ news 0).run P w = .ok () w2) ∧ Moved (fun k => blockOf H.v = some k) w w2 ∧ Arr w2 H.v xs.length t.size (cs.take (q * t.size) ++ news ++ cs.drop (q * t.size + news.length)) := by
  by_cases hy0 : ys.length = 0
  ·have hn0 : news = [] := List.eq_nil_of_length_eq_zero (by rw [hnl, hy0]; simp)
   subst hn0
   refine ⟨w, .inl ⟨rfl, rfl⟩, Moved.refl _ w, ?_⟩
   simp only [List.append_nil, List.length_nil, Nat.add_zero, List.take_append_drop]
   exact hpl.arr
  ·obtain ⟨b, ob, cap', w2, q1, q2, q3, q4, q5⟩ := hpl.arr.put (o := q * t.size) (us := news) (by omega) (by omega) hone P
   exact ⟨w2, .inr ⟨b, ob, cap', q1, q3⟩, q4.imp fun k hk => by subst hk; exact q2, q5⟩
 obtain ⟨w2, q1, q2, q3⟩ := hput
 have hI : ∀ b, I b → w2.heap[b]? = w.heap[b]? := fun b hb => q2.block b (h.lt b hb) (fun hs => (h.own b (hpl.isLive hs)).1 hb)
 refine ⟨w2, q1, q2, Tr.setAt h hl (ys := xs.take q ++ ys ++ xs.drop (q + ys.length)) hpla hpl hd q2 (by rw [hlist]; exact q3) (fun j hj => ?_) hset⟩
 rw [hlist] at hj
 have hj0 : j < (xs.take q ++ ys ++ xs.drop (q + ys.length)).length := by rw [hlist]; exact hj
 refine DR.mono (fun _ h => h) hI t _ _ ?_
 have hold : ∀ (k : Nat) (hk : k < xs.length), DR I w t (xs.get ⟨k, hk⟩) (chunk t.size cs k) := fun k hk => (hpl.elt k hk).ex.2.2.1 hd
 have hckl : ∀ k, k < xs.length → chunk t.size (cs.take (q * t.size) ++ news ++ cs.drop (q * t.size + news.length)) k = if k < q then chunk t.size cs k else if k < q + ys.length then chunk t.size news (k - q) else chunk t.size cs k := by
  intro k hk
  have hcl : cs.length = xs.length * t.size := hpl.arr.1
  have hkm := mul_lt_succ (sz := t.size) hk
  apply List.ext_getElem?
  intro x
  simp only [chunk, List.getElem?_take, List.getElem?_drop, List.getElem?_append, List.length_append, List.length_take]
  have m1 : min (q * t.size) cs.length = q * t.size := by omega
  rw [m1]
  by_cases hx : x < t.size
  ·rw [if_pos hx]
   by_cases c1 : k < q
   ·have := mul_lt_succ (sz := t.size) c1
    rw [if_pos c1, if_pos (by omega), if_pos (by omega), if_pos (by omega)]
    simp only [List.getElem?_take, List.getElem?_drop, if_pos hx]
   ·have hge : q * t.size ≤ k * t.size := Nat.mul_le_mul_right _ (by omega)
    by_cases c2 : k < q + ys.length
    ·have := mul_lt_succ (sz := t.size) (show k - q < ys.length by omega)
     have e5 : (k - q) * t.size + q * t.size = k * t.size := by rw [← Nat.add_mul]; congr 1; omega
     rw [if_neg c1, if_pos c2, if_pos (by omega), if_neg (by omega)]
     simp only [List.getElem?_take, List.getElem?_drop, if_pos hx]
     congr 1; omega
    ·have hge2 : (q + ys.length) * t.size ≤ k * t.size := Nat.mul_le_mul_right _ (by omega)
     rw [Nat.add_mul] at hge2
     rw [if_neg c1, if_neg c2, if_neg (by omega)]
     simp only [List.getElem?_take, List.getElem?_drop, if_pos hx]
     congr 1; omega
  ·rw [if_neg hx]
   split
   ·simp only [List.getElem?_take, if_neg hx]
   ·split <;> simp only [List.getElem?_take, if_neg hx]
 rw [hckl j hj]
 have hsp := spliced_get (old := xs) (us := ys) (off := q) hfit j
 by_cases c1 : j < q
 ·rw [if_pos c1]
  rw [if_pos c1] at hsp
  rw [get_of_getElem? hj0 hj hsp]; exact hold j hj
 ·by_cases c2 : j < q + ys.length
  ·rw [if_neg c1, if_pos c2]
   rw [if_neg c1, if_pos c2] at hsp
   rw [get_of_getElem? hj0 (show j - q < ys.length by omega) hsp]; exact hyr _ (by omega)
  ·rw [if_neg c1, if_neg c2]
   rw [if_neg c1, if_neg c2] at hsp
   rw [get_of_getElem? hj0 hj hsp]; exact hold j hj

theorem Tr.appendTo (h : HR I σ w st.heap) (hl : ∀ b, Live σ st.heap b → L b) (hnew : ∀ b, w.heap.size ≤ b → L b) {T T2 e : Nat} {ti : TypeInfo} {z : Value} {t : Ty} (hA : AppT P T T2 e ti z t.size) (hzs : z.cells.size = t.size) {ty : Nat} {id : Nat} (hid : id < lentFrom)
  {s v : AV} {us uy : Value} (hs : VR I σ w s us) {ys : List t.Den} {news : List Value} (hy : Got P w uy ys.length t.size news) (hyr : ∀ (j : Nat) (hj : j < ys.length), DR I w t (ys.get ⟨j, hj⟩) (chunk t.size news j)) (ha : appendTo st id t ti.bytes ys s = some (v, st')) :
  ∃ u w' σ', (Builtin.append_ #[T, T2] ty #[us, uy]).run P w = .ok u w' ∧ Tr L I σ st w I σ' st' w' ∧ VR I σ' w' v u := by
 have fromNothing : ∀ (A : Option Addr), us = .slice A 0 0 → roomFor ys.length ti.bytes = true → ∃ u w' σ', (Builtin.append_ #[T, T2] ty #[us, uy]).run P w = .ok u w' ∧ Tr L I σ st w I σ' (st.alloc id (.arr true false t ys)) w' ∧ VR I σ' w' (.os (.t id)) u := by
  rintro A rfl hb
  by_cases h0 : ys = []
  ·subst h0
   have hn0 : news = [] := List.eq_nil_of_length_eq_zero (by rw [hy.hl]; simp)
   subst hn0
   have hrun := mach_append_in (w' := w) (ty := ty) hA hy (base := A) (n := 0) (c := 0) (by simp) (by cases A <;> simp [StoredAt, storeCells])
   refine ⟨_, w, _, hrun, Tr.alloc h hl (ow := ⟨⟨.slice A 0 0, t.size⟩, fun _ _ => none⟩) hid (Moved.refl _ w) (fun b hb => ?_) ⟨rfl, fun _ _ _ => rfl, ⟨fun _ _ _ _ h => (by cases h), fun _ _ _ _ _ _ _ h => (by cases h)⟩, [], ⟨by simp, .inl ⟨A, rfl, rfl⟩⟩, fun i hi => by simp at hi⟩, _, A, 0, 0, by simp only [hdrOf, upd_same, Option.map_some]; rfl, rfl, rfl⟩
   rcases hb with hb | ⟨_, _, _, hb, _⟩
   ·cases A <;> simp [blockOf] at hb
   ·cases hb
  ·have hpos : 0 < ys.length := List.length_pos_iff.2 h0
   have hO : Got P w (.slice A 0 0) 0 t.size [] := Src.got ⟨A, 0, rfl, Nat.le_refl _, by simp, .inl rfl⟩
   obtain ⟨cap, rest, q1, q2, q3⟩ := mach_append_out (ty := ty) hA hzs hO hy (A := A) (c := 0) rfl (by omega) (by rw [Nat.zero_add]; exact hb)
   simp only [Nat.zero_add, List.nil_append] at q1 q2 q3
   obtain ⟨σ', k1, k2⟩ := Tr.allocFlat h hl hnew hid (t := t) (xs := ys) (cs := news) (rest := rest) (cap := cap) (e := e) (moved_grown w _) (alloc_new w.drew _) hy.hl hyr q2 (by omega) true false (.inl rfl)
   exact ⟨_, _, σ', q1, k1, k2⟩
 unfold Go.Q.appendTo at ha
 split at ha
 ·split at ha
  ·rename_i hb; cases ha; exact fromNothing none hs hb
  ·cases ha
 ·split at ha
  ·rename_i hb; cases ha; obtain ⟨A, hA'⟩ := hs; exact fromNothing A hA' hb
  ·cases ha
 ·rename_i i
  split at ha
  ·rename_i m0 t' xs0 hg
   simp only [Option.bind_eq_some_iff] at ha
   obtain ⟨xs, k1, ha⟩ := ha
   have e1 := asDen_some k1
   cases e1
   split at ha
   ·rename_i hb
    cases ha
    have hpla : st.heap.arrAt (.t i) = some (.d (.slice t) xs) := by simp [Heap.arrAt, hg]
    obtain ⟨t2, xs2, H, cs, e2, hpl⟩ := h.place hpla
    cases e2
    obtain ⟨ow, k2, k3⟩ := h.objs i _ hg
    have hH : ow.h = H := by have := hpl.hdr; simp [hdrOf, k2] at this; exact this
    have hu := hpl.os hs
    subst hu
    exact Tr.appendMoved h hl hnew hA hzs hg k2 hpl.arr (fun j hj => (hpl.elt j hj).ex.2.2.1 (.inl (by simp [Heap.deepAt, hg]))) (fun b hb => by rw [hH]; exact hb) hy hyr hb
   ·cases ha
  ·cases ha
 ·rename_i i a n
  split at ha
  ·rename_i m0 t' xs0 hg
   simp only [Option.bind_eq_some_iff] at ha
   obtain ⟨xs, k1, ha⟩ := ha
   have e1 := asDen_some k1
   cases e1
   have hpla : st.heap.arrAt (.t i) = some (.d (.slice t) xs) := by simp [Heap.arrAt, hg]
   obtain ⟨t2, xs2, H, cs, e2, hpl⟩ := h.place hpla
   cases e2
   obtain ⟨ow, k2, k3⟩ := h.objs i _ hg
   have hH : ow.h = H := by have := hpl.hdr; simp [hdrOf, k2] at this; exact this
   have hdeep : st.heap.deepAt (.t i) = false := by simp [Heap.deepAt, hg]
   obtain ⟨han, hwin⟩ := hpl.sub hs
   obtain ⟨H', A, len, cap, g1, g2, g3, A', rfl, g4, g5, g6⟩ := hs
   rw [hpl.hdr] at g1; cases g1
   obtain ⟨A1, cap1, e3, hcap⟩ := hpl.arr.slice
   rw [g2] at e3; cases e3
   have hwb : ∀ b, blockOf (.slice A' n (cap - a)) = some b → blockOf H.v = some b := by
    intro b hb
    obtain ⟨ad, e4, e5, e6⟩ := blockOf_slice hb
    subst e4
    rw [g2]
    cases A with
    | none => rw [g6 rfl] at hb; simp [blockOf] at hb
    | some ad0 =>
     rcases hpl.arr.2 with ⟨A2, e2, _⟩ | ⟨b2, o2, cap2, cells, eb, e3, _⟩
     ·rw [g2] at e2; simp only [Value.slice.injEq] at e2; omega
     ·rw [g2] at e3; cases e3
      obtain ⟨o', ho'⟩ := g5 b2 o2 rfl
      cases ho'
      simp only [blockOf]; rw [if_neg (by omega)]; simpa using e5
   split at ha
   ·rename_i hfit
    simp only [Option.map_eq_some_iff, Prod.mk.injEq] at ha
    obtain ⟨h', hset, rfl, rfl⟩ := ha
    obtain ⟨w2, q1, q2, q3⟩ := Tr.putRows (P := P) h hl hpla hpl (.inl hdeep) hfit hy.hl hyr hset
    have hst : StoredAt P A' (n * t.size) news w w2 := by
     rcases q1 with ⟨q1, rfl⟩ | ⟨b, ob, cap', e4, q1⟩
     ·subst q1; cases A' <;> simp [StoredAt, storeCells]
     ·rw [g2] at e4; cases e4
      by_cases hy0 : ys.length = 0
      ·have hn0 : news = [] := List.eq_nil_of_length_eq_zero (by rw [hy.hl, hy0]; simp)
       subst hn0
       simp only [storeCells, Sem.run_pure] at q1
       cases q1
       cases A' <;> simp [StoredAt, storeCells]
      ·have := g4 b ob rfl (by omega)
       subst this
       rw [hpl.sz]
       simp only [StoredAt, add_none]; rw [Nat.add_assoc, ← Nat.add_mul]; exact q1
    have hrun := mach_append_in (w' := w2) (ty := ty) hA hy (base := A') (n := n) (c := cap - a) (by omega) hst
    exact ⟨_, w2, σ, hrun, q3, H, A, xs.length, cap, hpl.hdr, g2, by omega, A', rfl, g4, g5, g6⟩
   ·split at ha
    ·rename_i hb
     cases ha
     have hl2 := part_length g3
     refine Tr.appendMoved h hl hnew hA hzs hg k2 (xs := (List.drop a xs).take n) (by rw [hl2]; exact hwin) (fun j hj => ?_) (fun b hb => by rw [hH]; exact hwb b hb) hy hyr (by rw [hl2]; exact hb)
     rw [part_get g3 hj, chunk_part (by rw [hl2] at hj; exact hj)]
     exact (hpl.elt (a + j) (by rw [hl2] at hj; omega)).ex.2.2.1 (.inl hdeep)
    ·cases ha
  ·cases ha
 ·cases ha

end
end Go.Q
