/- What is not interpreted: the methods of strings.Builder, told to the cell. -/
import Derived.Test.YthmnlokdikomkaaGQGiven
import Derived.Shelf.Strings.Builder1
namespace Go.Q
set_option linter.unusedVariables false
set_option linter.unusedSimpArgs false
open Go Go.RowKit Go.Shelf Go.Proofs
section
variable {P : Program} {w w' : World}
theorem strCells_append (s x : ByteArray) : Lib.strCells (s ++ x) = Lib.strCells s ++ Lib.strCells x := by
  simp [Lib.strCells]
theorem blockOf_own {v : Value} {k : Nat} (h : blockOf v = some k) (hs : ∃ A n c, v = .slice A n c) : v.ownBlock = some k := by
  obtain ⟨A, n, c, rfl⟩ := hs
  cases A with
  | none => cases h
  | some a =>
    simp only [blockOf] at h
    split at h
    · cases h
    · simpa [Value.ownBlock] using h
theorem BytesAt.own {e : Nat} {v : Value} {s : ByteArray} (h : BytesAt w e v s) : w.ownsRow 0 e 1 v s.size (Lib.strCells s) := by
  rcases h with ⟨rfl, h0⟩ | ⟨g, cap, cur, rfl, _, h1, h2, h3, h4, h5⟩
  · exact ⟨by rw [Lib.strCells_length, Nat.mul_one], .inl ⟨rfl, h0⟩⟩
  · exact ⟨by rw [Lib.strCells_length, Nat.mul_one], .inr ⟨g, cap, cur, rfl, Nat.zero_le _, h1, h2, h3, h4, h5⟩⟩
theorem BytesAt.ofOwn {e n : Nat} {v : Value} {s : ByteArray} (h : w.ownsRow 0 e 1 v n (Lib.strCells s)) (hn : n = s.size) (h0 : n ≠ 0) : BytesAt w e v s := by
  subst hn
  rcases h.2 with ⟨_, h1⟩ | ⟨g, cap, cur, hv, _, h1, h2, h3, h4, h5⟩
  · exact absurd h1 h0
  · exact .inr ⟨g, cap, cur, hv, by omega, h1, h2, h3, h4, h5⟩
theorem BytesAt.slice {e : Nat} {v : Value} {s : ByteArray} (h : BytesAt w e v s) : ∃ A n c, v = .slice A n c := by
  rcases h with ⟨rfl, _⟩ | ⟨g, cap, cur, rfl, _⟩ <;> exact ⟨_, _, _, rfl⟩
/-- What grew by its own block. -/
theorem moved_bytes {v : Value} (hg : w.grownBy w' v.ownBlock) (hv : blockOf v = v.ownBlock) : Moved (fun k => blockOf v = some k) w w' :=
  ⟨hg.os, hg.tape, hg.output, hg.size, fun k hk hn => hg.block k hk (fun e => hn (by rw [hv]; exact e.symm))⟩
theorem BytesAt.block {e : Nat} {v : Value} {s : ByteArray} (h : BytesAt w e v s) : blockOf v = v.ownBlock := by
  rcases h with ⟨rfl, _⟩ | ⟨g, cap, cur, rfl, hc, _⟩
  · rfl
  · simp [blockOf, Value.ownBlock, hc]

/-- A string behind the bytes. -/
theorem append_str {t u ty e : TypeId} {i : TypeInfo} (ht : P.underlying t = some (.slice e)) (hu : P.underlying u = some .string) (hi : P.info? e = some i) (hz : i.zero = some (.int .u8 0)) (hsize : i.size = 1) (hby : i.bytes = 1)
    {v : Value} {s : ByteArray} (h : BytesAt w e v s) (x : ByteArray) (hx : x.size ≠ 0) (hlen : s.size + x.size ≤ 140737488355328) :
    ∃ v' w', (Builtin.append_ #[t, u] ty #[v, .string x]).run P w = .ok v' w' ∧ BytesAt w' e v' (s ++ x) ∧ (blockOf v' = blockOf v ∨ blockOf v' = some w.heap.size) ∧ Moved (fun k => blockOf v = some k) w w' := by
  obtain ⟨v', w', h1, h2, h3, h4⟩ := Lib.run_append_own_string (P := P) w 0 t u ty e i ht hu hi hz hsize hby v s.size _ h.own x (by unfold maxLen; omega) hlen (Nat.zero_le _)
  have h5 : BytesAt w' e v' (s ++ x) := BytesAt.ofOwn (n := s.size + x.size) (by rw [strCells_append]; exact h2) (by rw [ByteArray.size_append]) (by omega)
  refine ⟨v', w', h1, h5, ?_, moved_bytes h3 h.block⟩
  rcases h with ⟨rfl, h0⟩ | ⟨g, cap, cur, rfl, hc, k1, k2, k3, k4, k5⟩
  · have hr := run_append_nil_string (P := P) w t u ty e i (.int .u8 0) ht hu hi hz x (by omega) (by omega) (by rw [hby]; omega)
    rw [hr] at h1
    cases h1
    refine .inr ?_
    have := grownCap_ge w x.size 0 e
    simp only [blockOf]
    rw [if_neg (by omega)]
  · by_cases hroom : s.size + x.size ≤ cap
    · have hr := Lib.run_append_room_string (P := P) w t u ty e i ht hu hi hsize g s.size cap cur k1 x hroom (by omega)
      rw [hr] at h1
      cases h1
      exact .inl rfl
    · have holds : ∀ j u, (Lib.strCells s)[j]? = some u → w.cell? ((⟨g, 0, none⟩ : Addr).add j) = some u := World.ownsRow.cells (base := 0) (e := e) (size := 1) (n := s.size) ⟨by rw [Lib.strCells_length, Nat.mul_one], .inr ⟨g, cap, cur, rfl, Nat.zero_le _, k1, k2, k3, k4, k5⟩⟩ rfl
      have hr := Lib.run_append_grow_string (P := P) w t u ty e i (.int .u8 0) ht hu hi hz ⟨g, 0, none⟩ s.size cap (Lib.strCells s) (by rw [hsize, Lib.strCells_length, Nat.mul_one]) holds x (by omega) (by omega) (by rw [hby]; exact growslice_fits (by omega) (by omega))
      rw [hr] at h1
      cases h1
      refine .inr ?_
      have := grownCap_ge w (s.size + x.size) cap e
      simp only [blockOf]
      rw [if_neg (by omega)]

/-- A byte behind the bytes, out of a row that holds it. -/
theorem append_byte {t ty e : TypeId} {i : TypeInfo} (ht : P.underlying t = some (.slice e)) (hi : P.info? e = some i) (hz : i.zero = some (.int .u8 0)) (hsize : i.size = 1) (hby : i.bytes = 1)
    {v : Value} {s : ByteArray} (h : BytesAt w e v s) (c : UInt8) {a : Addr} (ha : w.cell? (a.add 0) = some (.int .u8 c.toNat)) (hlen : s.size + 1 ≤ 140737488355328) :
    ∃ v' w', (Builtin.append_ #[t, t] ty #[v, .slice (some a) 1 1]).run P w = .ok v' w' ∧ BytesAt w' e v' (s.push c) ∧ (blockOf v' = blockOf v ∨ blockOf v' = some w.heap.size) ∧ Moved (fun k => blockOf v = some k) w w' := by
  have hnews : ∀ j u, [Value.int .u8 (c.toNat : Int)][j]? = some u → w.cell? (a.add j) = some u := by
    intro j u hj
    match j, hj with
    | 0, hj => simp at hj; subst hj; exact ha
  have hone : ∀ u ∈ [Value.int .u8 (c.toNat : Int)], u.oneCell' = true := by
    intro u hu; simp at hu; subst hu; rfl
  obtain ⟨v', w', h1, h2, h3, h4⟩ := run_append_own (P := P) w 0 t ty e i (.int .u8 0) 1 1 ht hi hz hsize hby rfl (by decide) v s.size _ h.own a 1 1 [.int .u8 (c.toNat : Int)] rfl hnews hone (by unfold maxLen; omega) (by omega) (Nat.zero_le _)
  have hcells : Lib.strCells (s.push c) = Lib.strCells s ++ [.int .u8 (c.toNat : Int)] := by
    simp [Lib.strCells, ByteArray.push]
  have h5 : BytesAt w' e v' (s.push c) := BytesAt.ofOwn (n := s.size + 1) (by rw [hcells]; exact h2) (by rw [ByteArray.size_push]) (by omega)
  refine ⟨v', w', h1, h5, ?_, moved_bytes h3 h.block⟩
  rcases h with ⟨rfl, h0⟩ | ⟨g, cap, cur, rfl, hc, k1, k2, k3, k4, k5⟩
  · have hr := run_append_nil (P := P) w t ty e i (.int .u8 0) ht hi hz a 1 1 [.int .u8 (c.toNat : Int)] (by rw [hsize]; rfl) hnews (by omega) (by omega) (by rw [hby]; omega)
    rw [hr] at h1
    cases h1
    refine .inr ?_
    have := grownCap_ge w 1 0 e
    simp only [blockOf]
    rw [if_neg (by omega)]
  · by_cases hroom : s.size + 1 ≤ cap
    · have hr := run_append_room (P := P) w t ty e i ht hi g s.size cap cur k1 a 1 1 [.int .u8 (c.toNat : Int)] (by rw [hsize]; rfl) hnews hone hroom (by rw [hsize]; simp; omega)
      rw [hr] at h1
      cases h1
      exact .inl rfl
    · have holds : ∀ j u, (Lib.strCells s)[j]? = some u → w.cell? ((⟨g, 0, none⟩ : Addr).add j) = some u := World.ownsRow.cells (base := 0) (e := e) (size := 1) (n := s.size) ⟨by rw [Lib.strCells_length, Nat.mul_one], .inr ⟨g, cap, cur, rfl, Nat.zero_le _, k1, k2, k3, k4, k5⟩⟩ rfl
      have hr := run_append_grow (P := P) w t ty e i (.int .u8 0) ht hi hz ⟨g, 0, none⟩ s.size cap (Lib.strCells s) (by rw [hsize, Lib.strCells_length, Nat.mul_one]) holds a 1 1 [.int .u8 (c.toNat : Int)] (by rw [hsize]; rfl) hnews (by omega) (by omega) (by rw [hby]; exact growslice_fits (by omega) (by omega))
      rw [hr] at h1
      cases h1
      refine .inr ?_
      have := grownCap_ge w (s.size + 1) cap e
      simp only [blockOf]
      rw [if_neg (by omega)]
theorem wpList_str {P : Program} {w : World} {ops : Array Oper} {rest : List Oper} {o : Oper} {a : Act} {Q : Exit → Act → World → Prop} (hgd : o.guard = none) (sl x : Operand) (t u : TypeId)
    (ho : o.op = .call { callee := .builtin .append, args := #[sl, x], argTypes := #[t, u] }) (v : Value) (hs : a.eval sl = v) (y : Value) (hx : a.eval x = y) {v' : Value} {w' : World}
    (hrun : (Builtin.append_ #[t, u] o.type #[v, y]).run P w = .ok v' w') (h : wpList P ops Q rest (a.put o.dst v') w') : wpList P ops Q (o :: rest) a w := by
  refine wpList_plain hgd fun K hK => ?_
  unfold Oper.wp execOp
  simp only [ho, resolve, invoke, builtin, Sem.run_bind, Sem.run_pure, Result.andThen_ok, List.map_toArray, List.map_cons, List.map_nil, hs, hx, hrun]
  exact hK _ _ h
end
section
variable {P : Program} {ρ : Ren} {w w' : World}
/-- A builder's block. -/
def BldAt (ρ : Ren) (w : World) (b : Nat) (v : Value) : Prop := ∃ p, (p = .pointer none ∨ p = .pointer (some ⟨b, 0, none⟩)) ∧ w.heap[b]? = some (.cells #[p, v] (ρ.t 72) (0, 0))
theorem set_block {b : Nat} {cs : Array Value} {T : Nat} {x : Value} (j : Nat) (hb : w.heap[b]? = some (.cells cs T (0, 0))) : (w.setCell ⟨b, j, none⟩ x).heap[b]? = some (.cells (cs.setIfInBounds j x) T (0, 0)) ∧ Moved (· = b) w (w.setCell ⟨b, j, none⟩ x) := by
  refine ⟨by simp [World.setCell, Array.getElem?_modify, hb], ⟨rfl, rfl, rfl, by simp [World.setCell], fun k hk hn => ?_⟩⟩
  simp only [World.setCell, Array.getElem?_modify]
  rw [if_neg (fun e => hn e.symm)]
/-- copyCheck. -/
theorem cc_walk (L : Lays.n240 P ρ) (X : Builder.X72 P ρ) {b : Nat} {v : Value} (h : BldAt ρ w b v) :
    Calls P (ρ.f 240) #[.pointer (some ⟨b, 0, none⟩)] w fun e w' => e = .returned (.tuple #[]) ∧ w'.heap[b]? = some (.cells #[.pointer (some ⟨b, 0, none⟩), v] (ρ.t 72) (0, 0)) ∧ Moved (· = b) w w' ∧ w'.heap.size = w.heap.size := by
  obtain ⟨p, hp, hb⟩ := h
  rcases hp with rfl | rfl
  · refine (Any.Builder_copyCheck_fresh L X b w (by rw [Lib.cell_of_heap hb]; rfl) (by simp [World.shape?, hb]) (Lib.frozen_of_heap hb 0)).mono ?_
    rintro e w' ⟨rfl, rfl⟩
    obtain ⟨k1, k2⟩ := set_block (x := .pointer (some ⟨b, 0, none⟩)) 0 hb
    exact ⟨rfl, k1, k2, by simp [World.setCell]⟩
  · refine (Any.Builder_copyCheck_used L X b w (by rw [Lib.cell_of_heap hb]; rfl)).mono ?_
    rintro e w' ⟨rfl, rfl⟩
    exact ⟨rfl, hb, Moved.refl _ _, rfl⟩

/-- What a method that writes leaves. -/
def Wrote (ρ : Ren) (w w' : World) (b : Nat) (v : Value) (s : ByteArray) : Prop :=
  ∃ v', w'.heap[b]? = some (.cells #[.pointer (some ⟨b, 0, none⟩), v'] (ρ.t 72) (0, 0)) ∧ BytesAt w' (ρ.t 5) v' s ∧ (blockOf v' = blockOf v ∨ ∃ g, blockOf v' = some g ∧ w.heap.size ≤ g) ∧ Moved (fun k => k = b ∨ blockOf v = some k) w w'
/-- The last step: the builder's buffer is another one. -/
theorem wrote_of {b : Nat} {v v' : Value} {s : ByteArray} {w1 w2 : World} (hb : b < w.heap.size) (hne : blockOf v ≠ some b) (hb1 : w1.heap[b]? = some (.cells #[.pointer (some ⟨b, 0, none⟩), v] (ρ.t 72) (0, 0))) (m1 : Moved (· = b) w w1) (hsz : w1.heap.size = w.heap.size)
    (h2 : BytesAt w2 (ρ.t 5) v' s) (hv : blockOf v' = blockOf v ∨ ∃ g, blockOf v' = some g ∧ w.heap.size ≤ g) (m2 : Moved (fun k => blockOf v = some k) w1 w2) : Wrote ρ w (w2.setCell ⟨b, 1, none⟩ v') b v s := by
  have hb2 : w2.heap[b]? = some (.cells #[.pointer (some ⟨b, 0, none⟩), v] (ρ.t 72) (0, 0)) := by rw [m2.block b (by omega) hne]; exact hb1
  obtain ⟨k1, k2⟩ := set_block (x := v') 1 hb2
  refine ⟨v', k1, h2.moved fun g hg => ?_, hv, ?_⟩
  · refine k2.block g ?_ fun e => ?_
    · rcases h2 with ⟨rfl, _⟩ | ⟨g', cap, cur, rfl, hc, hh, _⟩
      · cases hg
      · simp only [blockOf, if_neg hc, Option.some.injEq] at hg
        subst hg
        exact (Array.getElem?_eq_some_iff.1 hh).1
    · subst e
      rcases hv with hv | ⟨g', hv, hle⟩
      · exact hne (by rw [← hv]; exact hg)
      · rw [hv] at hg; cases hg; omega
  · exact ((m1.imp fun k hk => .inl hk).trans (m2.imp fun k hk => .inr hk)).trans (k2.imp fun k hk => .inl hk)

set_option maxHeartbeats 2000000 in
set_option maxRecDepth 100000 in
theorem ws_walk (L : Lays.n166 P ρ) (X : Builder.Extra P ρ) {b : Nat} {v : Value} {s : ByteArray} (h : BldAt ρ w b v) (hne : blockOf v ≠ some b) (hs : BytesAt w (ρ.t 5) v s) (x : ByteArray) (hx : x.size ≠ 0) (hlen : s.size + x.size ≤ 140737488355328) :
    Calls P (ρ.f 166) #[.pointer (some ⟨b, 0, none⟩), .string x] w fun e w' => e = .returned (.tuple #[.int .i64 x.size, .nilIface]) ∧ Wrote ρ w w' b v (s ++ x) := by
  have hlt : b < w.heap.size := by obtain ⟨_, _, hb⟩ := h; exact (Array.getElem?_eq_some_iff.1 hb).1
  obtain ⟨i0, hi, hz0, hz1, hz2⟩ := info_parts X.infoByte
  have mixed := L.mixed
  have t72 := L.t72; have a72 := L.a72; have z72 := L.z72; have v72 := L.v72; have u72 := run_underlying L.t72
  have t70 := L.t70; have a70 := L.a70; have z70 := L.z70; have v70 := L.v70; have u70 := run_underlying L.t70
  have t37 := L.t37; have a37 := L.a37; have z37 := L.z37; have v37 := L.v37; have u37 := run_underlying L.t37
  have t3 := L.t3; have a3 := L.a3; have z3 := L.z3; have v3 := L.v3; have u3 := run_underlying L.t3
  have t9 := L.t9; have a9 := L.a9; have z9 := L.z9; have v9 := L.v9; have u9 := run_underlying L.t9
  have t4 := L.t4; have a4 := L.a4; have z4 := L.z4; have v4 := L.v4; have u4 := run_underlying L.t4
  have t164 := L.t164; have a164 := L.a164; have z164 := L.z164; have v164 := L.v164; have u164 := run_underlying L.t164
  have t5 := X.t5; have a5 := X.a5; have z5 := X.z5; have v5 := X.v5; have u5 := run_underlying X.t5
  have e240 : ∀ args w, (callFunc (ρ.f 240) args).run P w = .ok (.enter (ρ.f 240) args) w := enters_of L.f240 (by kernel_rfl) rfl
  go_enter L.f166, Body.n166_ntmps ρ
  go_wp2_with (go_at_fn (ρ.f 240); refine (cc_walk { L with } X.toX72 h).mono ?_)
  rintro e w1 ⟨rfl, hbk, m1, hsz⟩
  have hs1 : BytesAt w1 (ρ.t 5) v s := hs.moved fun g hg => m1.block g (by
    rcases hs with ⟨rfl, _⟩ | ⟨g', cap, cur, rfl, hc, hh, _⟩
    · cases hg
    · simp only [blockOf, if_neg hc, Option.some.injEq] at hg
      subst hg
      exact (Array.getElem?_eq_some_iff.1 hh).1) (fun e => hne (e ▸ hg))
  have c0 : w1.cell? ⟨b, 0, none⟩ = some (.pointer (some ⟨b, 0, none⟩)) := by rw [Lib.cell_of_heap hbk]; rfl
  have c1 : w1.cell? ⟨b, 1, none⟩ = some v := by rw [Lib.cell_of_heap hbk]; rfl
  obtain ⟨v', w2, hrun, h2, hv, m2⟩ := append_str (P := P) (t := ρ.t 37) (u := ρ.t 9) (ty := ρ.t 37) L.t37 L.t9 hi hz0 hz1 hz2 hs1 x hx hlen
  obtain ⟨A', n', c', rfl⟩ := h2.slice
  have hb2 : w2.heap[b]? = some (.cells #[.pointer (some ⟨b, 0, none⟩), v] (ρ.t 72) (0, 0)) := by
    rw [m2.block b (by omega) hne]; exact hbk
  have d0 : w2.cell? ⟨b, 0, none⟩ = some (.pointer (some ⟨b, 0, none⟩)) := by rw [Lib.cell_of_heap hb2]; rfl
  have d1 : w2.cell? ⟨b, 1, none⟩ = some v := by rw [Lib.cell_of_heap hb2]; rfl
  have f1 : w2.frozen? ⟨b, 1, none⟩ = false := Lib.frozen_of_heap hb2 1
  go_wp2_with (at_builtin; refine wpList_str rfl _ _ _ _ rfl _ rfl _ rfl hrun ?_)
  go_wp2
  go_ret2
  exact ⟨rfl, wrote_of hlt hne hbk m1 hsz h2 (hv.imp_right fun h => ⟨_, h, by omega⟩) m2⟩

end
end Go.Q
