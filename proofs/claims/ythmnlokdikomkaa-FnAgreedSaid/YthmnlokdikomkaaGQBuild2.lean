/- What is not interpreted: more methods of strings.Builder. -/
import Derived.Test.YthmnlokdikomkaaGQBuild
namespace Go.Q
set_option linter.unusedVariables false
set_option linter.unusedSimpArgs false
open Go Go.RowKit Go.Shelf Go.Proofs
section
variable {P : Program} {ρ : Ren} {w w' : World}
set_option maxHeartbeats 2000000 in
set_option maxRecDepth 100000 in
theorem wb_walk (L : Lays.n167 P ρ) (X : Builder.Extra P ρ) {b : Nat} {v : Value} {s : ByteArray} (h : BldAt ρ w b v) (hne : blockOf v ≠ some b) (hs : BytesAt w (ρ.t 5) v s) (c : UInt8) (hlen : s.size + 1 ≤ 140737488355328) :
    Calls P (ρ.f 167) #[.pointer (some ⟨b, 0, none⟩), .int .u8 c.toNat] w fun e w' => e = .returned .nilIface ∧ Wrote ρ w w' b v (s.push c) := by
  have hlt : b < w.heap.size := by obtain ⟨_, _, hb⟩ := h; exact (Array.getElem?_eq_some_iff.1 hb).1
  obtain ⟨i0, hi, hz0, hz1, hz2⟩ := info_parts X.infoByte
  have mixed := L.mixed
  have t72 := L.t72; have a72 := L.a72; have z72 := L.z72; have v72 := L.v72; have u72 := run_underlying L.t72
  have t70 := L.t70; have a70 := L.a70; have z70 := L.z70; have v70 := L.v70; have u70 := run_underlying L.t70
  have t5 := L.t5; have a5 := L.a5; have z5 := L.z5; have v5 := L.v5; have u5 := run_underlying L.t5
  have t37 := L.t37; have a37 := L.a37; have z37 := L.z37; have v37 := L.v37; have u37 := run_underlying L.t37
  have t9 := L.t9; have a9 := L.a9; have z9 := L.z9; have v9 := L.v9; have u9 := run_underlying L.t9
  have t4 := L.t4; have a4 := L.a4; have z4 := L.z4; have v4 := L.v4; have u4 := run_underlying L.t4
  have t164 := L.t164; have a164 := L.a164; have z164 := L.z164; have v164 := L.v164; have u164 := run_underlying L.t164
  have e240 : ∀ args w, (callFunc (ρ.f 240) args).run P w = .ok (.enter (ρ.f 240) args) w := enters_of L.f240 (by kernel_rfl) rfl
  go_enter L.f167, Body.n167_ntmps ρ
  go_wp2_with (go_at_fn (ρ.f 240); refine (cc_walk { L with } X.toX72 h).mono ?_)
  rintro e w1 ⟨rfl, hbk, m1, hsz⟩
  have hin : ∀ g, blockOf v = some g → g < w.heap.size := fun g hg => by
    rcases hs with ⟨rfl, _⟩ | ⟨g', cap, cur, rfl, hc, hh, _⟩
    · cases hg
    · simp only [blockOf, if_neg hc, Option.some.injEq] at hg
      subst hg
      exact (Array.getElem?_eq_some_iff.1 hh).1
  have hs1 : BytesAt w1 (ρ.t 5) v s := hs.moved fun g hg => m1.block g (hin g hg) (fun e => hne (e ▸ hg))
  have c0 : w1.cell? ⟨b, 0, none⟩ = some (.pointer (some ⟨b, 0, none⟩)) := by rw [Lib.cell_of_heap hbk]; rfl
  have c1 : w1.cell? ⟨b, 1, none⟩ = some v := by rw [Lib.cell_of_heap hbk]; rfl
  have ma := moved_alloc w1 (.cells #[.int .u8 (c.toNat : Int)] (ρ.t 5))
  have hs2 : BytesAt (w1.alloc (.cells #[.int .u8 (c.toNat : Int)] (ρ.t 5))) (ρ.t 5) v s := hs1.moved fun g hg => ma.block g (by rw [hsz]; exact hin g hg) (fun h => h)
  obtain ⟨v', w2, hrun, h2, hv, m2⟩ := append_byte (P := P) (t := ρ.t 37) (ty := ρ.t 37) L.t37 hi hz0 hz1 hz2 hs2 c (a := ⟨w.heap.size, 0, none⟩) (by rw [show (⟨w.heap.size, 0, none⟩ : Addr).add 0 = ⟨w1.heap.size, 0, none⟩ from by simp [Addr.add, hsz], Lib.cell_of_heap (alloc_new w1 _)]; rfl) hlen
  obtain ⟨A', n', c', rfl⟩ := h2.slice
  have hb1 : (w1.alloc (.cells #[.int .u8 (c.toNat : Int)] (ρ.t 5))).heap[b]? = some (.cells #[.pointer (some ⟨b, 0, none⟩), v] (ρ.t 72) (0, 0)) := by rw [ma.block b (by omega) (fun h => h)]; exact hbk
  have m2' : Moved (fun k => blockOf v = some k) w1 w2 := (ma.imp fun _ h => h.elim).trans m2
  have hb2 : w2.heap[b]? = some (.cells #[.pointer (some ⟨b, 0, none⟩), v] (ρ.t 72) (0, 0)) := by
    rw [m2'.block b (by omega) hne]; exact hbk
  have d0 : w2.cell? ⟨b, 0, none⟩ = some (.pointer (some ⟨b, 0, none⟩)) := by rw [Lib.cell_of_heap hb2]; rfl
  have d1 : w2.cell? ⟨b, 1, none⟩ = some v := by rw [Lib.cell_of_heap hb2]; rfl
  have f1 : w2.frozen? ⟨b, 1, none⟩ = false := Lib.frozen_of_heap hb2 1
  go_wp2_with (at_builtin; refine wpList_str rfl _ _ _ _ rfl _ rfl _ rfl hrun ?_)
  go_wp2
  go_ret
  exact ⟨rfl, wrote_of hlt hne hbk m1 hsz h2 (hv.imp_right fun h => ⟨_, h, by simp; omega⟩) m2'⟩

set_option maxHeartbeats 2000000 in
set_option maxRecDepth 100000 in
/-- String: the bytes are read, and freeze. -/
theorem str_walk (L : Lays.n169 P ρ) (X : Builder.Extra P ρ) {b : Nat} {v : Value} {s : ByteArray} (h : BldAt ρ w b v) (hs : BytesAt w (ρ.t 5) v s) :
    Calls P (ρ.f 169) #[.pointer (some ⟨b, 0, none⟩)] w fun e w' => e = .returned (.string s) ∧ Moved (fun k => blockOf v = some k) w w' := by
  obtain ⟨p, hp, hbk⟩ := h
  have mixed := L.mixed
  have t72 := L.t72; have a72 := L.a72; have z72 := L.z72; have v72 := L.v72; have u72 := run_underlying L.t72
  have t70 := L.t70; have a70 := L.a70; have z70 := L.z70; have v70 := L.v70; have u70 := run_underlying L.t70
  have t37 := L.t37; have a37 := L.a37; have z37 := L.z37; have v37 := L.v37; have u37 := run_underlying L.t37
  have t127 := L.t127; have a127 := L.a127; have z127 := L.z127; have v127 := L.v127; have u127 := run_underlying L.t127
  have t3 := L.t3; have a3 := L.a3; have z3 := L.z3; have v3 := L.v3; have u3 := run_underlying L.t3
  have t9 := L.t9; have a9 := L.a9; have z9 := L.z9; have v9 := L.v9; have u9 := run_underlying L.t9
  have t5 := X.t5; have a5 := X.a5; have z5 := X.z5; have v5 := X.v5; have u5 := run_underlying X.t5
  have hUS0 := Any.unsafeString_none L X
  rcases hs with ⟨rfl, h0⟩ | ⟨g, cap, cur, rfl, hc0, hg, hn, hcm, hcs, htake⟩
  · have hse : s = ⟨#[]⟩ := by
      have : s.data.size = 0 := h0
      cases s with | mk d => simp at this; subst this; rfl
    subst hse
    have c1 : w.drew.cell? ⟨b, 1, none⟩ = some (.slice none 0 0) := by
      have : w.drew.heap[b]? = some (.cells #[p, .slice none 0 0] (ρ.t 72) (0, 0)) := hbk
      rw [Lib.cell_of_heap this]; rfl
    have hSD : (Builtin.unsafeSliceData_ #[(ρ.t 37)] (ρ.t 127) #[.slice none 0 0]).run P w.drew = .ok (.pointer none) w.drew := rfl
    go_enter L.f169, Body.n169_ntmps ρ
    go_wp2
    go_region_o
    all_goals (go_wp2; go_ret; exact ⟨rfl, Moved.drew _ w⟩)
  · have c1 : w.drew.cell? ⟨b, 1, none⟩ = some (.slice (some ⟨g, 0, none⟩) s.size cap) := by
      have : w.drew.heap[b]? = some (.cells #[p, .slice (some ⟨g, 0, none⟩) s.size cap] (ρ.t 72) (0, 0)) := hbk
      rw [Lib.cell_of_heap this]; rfl
    have hSDn : ∀ n : Nat, (Builtin.unsafeSliceData_ #[(ρ.t 37)] (ρ.t 127) #[.slice (some ⟨g, 0, none⟩) n cap]).run P w.drew = .ok (.pointer (some ⟨g, 0, none⟩)) w.drew := fun n =>
      Lib.run_unsafeSliceData_row _ _ _ _ _ _ hc0
    by_cases h0 : s.size = 0
    · have hse : s = ⟨#[]⟩ := by
        have : s.data.size = 0 := h0
        cases s with | mk d => simp at this; subst this; rfl
      subst hse
      have hSD := hSDn 0
      have c1 : w.drew.cell? ⟨b, 1, none⟩ = some (.slice (some ⟨g, 0, none⟩) 0 cap) := c1
      clear hc0 hSDn
      go_enter L.f169, Body.n169_ntmps ρ
      go_wp2
      go_region_o
      all_goals (go_wp2; go_ret; exact ⟨rfl, Moved.drew _ w⟩)
    · have hSD := hSDn s.size
      have hl0 : s.data.toList ≠ [] := fun e => h0 (by
        have : s.data.toList.length = 0 := by rw [e]; rfl
        simpa using this)
      have hlen : s.data.toList.length = s.size := by simp
      have hUS : (Builtin.unsafeString_ #[(ρ.t 127), (ρ.t 3)] (ρ.t 9) #[.pointer (some ⟨g, 0, none⟩), .int .i64 s.size]).run P w.drew = .ok (.string s) (w.drew.freeze ⟨g, 0, none⟩ s.size) := by
        have hown : w.ownsRow 0 (ρ.t 5) 1 (.slice (some ⟨g, 0, none⟩) s.size cap) s.size (Lib.strCells s) := ⟨by rw [Lib.strCells_length, Nat.mul_one], .inr ⟨g, cap, cur, rfl, Nat.zero_le _, hg, hn, hcm, hcs, htake⟩⟩
        have := Lib.run_unsafeString_row w.drew (ρ.t 127) (ρ.t 3) (ρ.t 9) (ρ.t 5) L.t127 X.cellsByte g cur.size (by have hg' : w.drew.heap[g]? = some (.cells cur (ρ.t 5) (0, 0)) := hg; simp [World.shape?, hg']) s.data.toList hl0 (by omega) (by unfold maxLen at hcm; omega) (fun j x hx => by
          have := hown.cells (g := g) rfl j (.int .u8 x.toNat) (by simp only [Lib.strCells, List.getElem?_map, hx, Option.map_some])
          exact this)
        simpa using this
      have mf : Moved (fun k => blockOf (.slice (some ⟨g, 0, none⟩) s.size cap) = some k) w (w.drew.freeze ⟨g, 0, none⟩ s.size) := by
        refine (Moved.drew _ w).trans ?_
        unfold World.freeze
        split
        · exact Moved.refl _ _
        · refine ⟨rfl, rfl, rfl, by simp, fun k hk hn => ?_⟩
          simp only [Array.getElem?_modify]
          rw [if_neg (fun e => hn (by simp only [blockOf, if_neg hc0]; rw [e]))]
          rfl
      go_enter L.f169, Body.n169_ntmps ρ
      go_wp2
      go_region_o
      all_goals (go_wp2; go_ret; exact ⟨rfl, mf⟩)
end
end Go.Q
