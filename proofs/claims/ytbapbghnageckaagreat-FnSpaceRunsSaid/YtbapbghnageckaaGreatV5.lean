/- slices.Delete and slices.Insert of one element of three cells: turned from the kit's walks. -/
import Derived.Test.YtbapbghnageckaaGreatProg
import Derived.Shelf.Spec.SlicesInsertGrow
import Derived.Shelf.SlicesG.Delete
import Derived.Test.YtbapbghnageckaaGreatGQIns5
namespace Go.Proofs.YtbapbghnageckaaGreat.V
open Go Go.Proofs Go.RowKit Go.Shelf Go.Lib
set_option linter.unusedVariables false
set_option linter.unusedSimpArgs false

def zeroC : List Value := [.int .i64 0, .int .i64 0, .bool false]
abbrev zeroV : Value := .agg #[.int .i64 0, .int .i64 0, .bool false]
theorem zero_cells : (Builtin.zeroCells zeroV.cells 1).toList = zeroC := by
  simp [Builtin.zeroCells, Value.cells, zeroC]; rfl
set_option maxRecDepth 100000 in
theorem info_c : ∃ i0, Tryz.prog.info? 108 = some i0 ∧ i0.size = 3 ∧ i0.bytes = 24 ∧ i0.zero = some zeroV := by
  have h : (Tryz.prog.info? 108).map (fun i => (i.zero, i.size, i.bytes)) = some (some zeroV, 3, 24) := by rfl
  obtain ⟨i0, h1, h2⟩ := Option.map_eq_some_iff.1 h
  simp only [Prod.mk.injEq] at h2
  exact ⟨i0, h1, h2.2.1, h2.2.2, h2.1⟩
set_option maxHeartbeats 4000000 in
set_option maxRecDepth 100000 in
theorem del_one (b off n c i j : Nat) (hj : j = i + 1) (cs : List Value) (w : World) (hi : i < n) (hnc : n ≤ c) (hc63 : c ≤ 9223372036854775807) (hcl : cs.length = n * 3)
    (hcs : ∀ j v, cs[j]? = some v → w.cell? ⟨b, off + j, none⟩ = some v) (hfz : ∀ j, w.frozen? ⟨b, j, none⟩ = false) (h1c : ∀ v ∈ cs, v.oneCell' = true) :
    Calls Tryz.prog 112 #[.slice (some ⟨b, off, none⟩) n c, .int .i64 i, .int .i64 j] w fun e w' =>
      e = .returned (.slice (some ⟨b, off, none⟩) (n - 1) c) ∧ w' = (w.drew.setCells b (off + i * 3) (cs.drop (j * 3))).setCells b (off + (n - 1) * 3) zeroC := by
  obtain ⟨i0, hi0, hz1, hz2, hz⟩ := info_c
  obtain ⟨news, hnews⟩ : ∃ news, news = cs.drop (j * 3) := ⟨_, rfl⟩
  have hlen : news.length = (n - j) * 3 := by rw [hnews, List.length_drop, hcl]; omega
  have hsp : ∀ k, k < n * 3 → (w.cell? ⟨b, off + k, none⟩).isSome = true := fun k hk => by rw [hcs k _ (List.getElem?_eq_getElem (by omega))]; rfl
  obtain ⟨A, hA, hsrc⟩ : ∃ A : Addr, (if c = j then (some ⟨b, off, none⟩ : Option Addr) else some ⟨b, off + j * 3, none⟩) = some A ∧ Hid (∀ t u, news[t]? = some u → w.drew.cell? (A.add t) = some u) := by
    by_cases h : c = j
    · refine ⟨⟨b, off, none⟩, by simp [h], fun t u hu => ?_⟩
      have h0 : news.length = 0 := by rw [hlen]; omega
      rw [List.length_eq_zero_iff.1 h0] at hu
      simp at hu
    · refine ⟨⟨b, off + j * 3, none⟩, by simp [h], fun t u hu => ?_⟩
      rw [Addr.add_lit, Nat.add_assoc]
      rw [hnews, List.getElem?_drop] at hu
      exact hcs _ _ hu
  have s1 : Hid (news.length = (n - j) * 3) := hlen
  have s2 : Hid (∀ u ∈ news, u.oneCell' = true) := by
    intro u hu
    rw [hnews] at hu
    exact h1c u (List.mem_of_mem_drop hu)
  have s3 : Hid (∀ t, t < news.length → (w.drew.cell? ⟨b, off + i * 3 + t, none⟩).isSome = true ∧ w.drew.frozen? ⟨b, off + i * 3 + t, none⟩ = false) := by
    intro t ht
    rw [hlen] at ht
    rw [Nat.add_assoc]
    exact ⟨hsp _ (by omega), hfz _⟩
  obtain ⟨W1, hW1⟩ : ∃ W1, W1 = w.drew.setCells b (off + i * 3) news := ⟨_, rfl⟩
  have hc1 : ∀ k, k < n * 3 → (W1.cell? ⟨b, off + k, none⟩).isSome = true := fun k hk => by
    rw [hW1]
    exact isSome_setCells b _ _ _ (fun j hj => (s3.out j hj).1) _ (hsp k hk)
  have hf1 : ∀ k, W1.frozen? ⟨b, k, none⟩ = false := fun k => by rw [hW1, World.frozen?_setCells]; exact hfz k
  have hnn : i + (n - j) = n - 1 := by omega
  have hcl : ∀ ty, (Builtin.clear_ #[31] ty #[.slice (some ⟨b, off + (n - 1) * 3, none⟩) (n - (n - 1)) (c - (n - 1))]).run Tryz.prog W1 = .ok (.tuple #[]) (W1.setCells b (off + (n - 1) * 3) zeroC) := fun ty => by
    rw [show n - (n - 1) = 1 from by omega]
    refine Go.Q.run_clear_sliceN W1 31 108 ty zeroV zeroC Tryz.underlying31 Tryz.zeroValue108 1 (by decide) zero_cells (by decide) b _ _ (fun j hj => ?_) (fun j hj => hf1 _)
    · rw [Nat.add_assoc]; simp only [zeroC, List.length_cons, List.length_nil] at hj; exact hc1 _ (by omega)
  have hW : Hid (W1 = w.drew.setCells b (off + i * 3) news) := hW1
  have hic : i ≤ c := by omega
  have hjc : j ≤ c := by omega
  have hjn : j ≤ n := by omega
  have hlt : i < j := by omega
  have hne : ¬ i = j := by omega
  have X : Aside (j = i + 1) := hj
  have Y : Aside (news = cs.drop (j * 3)) := hnews
  clear hW1 hcs hnews hlen hc1 hf1 hj
  have mixed : Tryz.prog.follows .mixedOrders = true := rfl
  go_enter Tryz.func112, Tryz.ntmps112
  go_wp2_with fail
  go_region_law_o (refine step_append_room rfl (.tmp 22) (.tmp 25) 31 rfl 108 i0 3 Tryz.underlying31 hi0 hz1 b off i c (by simp [Act.eval, Act.put]) A (n - j) (c - j) news (by simp [Act.eval, Act.put]) s1.out hsrc.out s2.out (by omega) s3.out ?_;rw [← hW.out])
  go_wp2
  go_ret
  refine ⟨rfl, ?_⟩
  rw [hW.out, Y.out]

set_option maxHeartbeats 4000000 in
set_option maxRecDepth 100000 in
theorem ins_shift (b off n c vb voff vc : Nat) (cs xs : List Value) (w : World) (hn0 : 0 < n) (hroom : n + 1 ≤ c) (hc63 : c ≤ 9223372036854775807) (hvb : vb ≠ b)
    (hcl : cs.length = n * 3) (hxl : xs.length = 3)
    (hcs : ∀ j v, cs[j]? = some v → w.cell? ⟨b, off + j, none⟩ = some v) (hsp : ∀ j, j < (n + 1) * 3 → (w.cell? ⟨b, off + j, none⟩).isSome = true) (hfz : ∀ j, w.frozen? ⟨b, j, none⟩ = false)
    (hvs : ∀ j v, xs[j]? = some v → w.cell? ⟨vb, voff + j, none⟩ = some v) (h1c : ∀ v ∈ cs, v.oneCell' = true) (h1v : ∀ v ∈ xs, v.oneCell' = true)
    (tA tB : TypeId) (kA kB : Nat) (hsa : w.shape? vb = some (tA, kA)) (hsb : w.shape? b = some (tB, kB)) (hkB : kB ≠ 0) (hfa : w.frozen? ⟨vb, voff, none⟩ = false) (hfe : w.frozen? ⟨vb, kA, none⟩ = false) :
    Calls Tryz.prog 111 #[.slice (some ⟨b, off, none⟩) n c, .int .i64 0, .slice (some ⟨vb, voff, none⟩) 1 vc] w fun e w' =>
      e = .returned (.slice (some ⟨b, off, none⟩) (n + 1) c) ∧ w' = (w.drew.setCells b (off + 3) cs).setCells b off xs := by
  have hz2 : ¬ ((0 : Int) = (n : Int)) := by omega
  have hsz : (Tryz.prog.info? 108).map (·.size) = some 3 := by rfl
  have hov : ∀ lb cb, (callFunc 137 #[.slice (some ⟨vb, voff, none⟩) 1 vc, .slice (some ⟨b, off + 3, none⟩) lb cb]).run Tryz.prog w = .ok (.value (.bool false)) w := fun lb cb => by
    rw [run_callFunc_extern Tryz.func137 (by kernel_rfl) (by kernel_rfl) (by kernel_rfl) (e := Extern.SlicesOverlaps.overlaps #[31, 31] #[4]) (by kernel_rfl),
      Lib.run_overlaps_apart w 31 4 108 Tryz.underlying31 3 (fun w => Tryz.sizeOf108 w) ⟨vb, voff, none⟩ ⟨b, off + 3, none⟩ 1 vc lb cb hvb tA tB kA kB hsa hsb hkB hfa hfe]
    rfl
  have hw2 : IntKind.i64.wrap ((n : Int) + 1) = (n : Int) + 1 := by rw [IntKind.wrap_i64]; omega
  have hw1 : IntKind.i64.wrap (1 : Int) = 1 := by rw [IntKind.wrap_i64]; omega
  have hb5 : (1 : Int) ≤ (n : Int) + 1 := by omega
  have hb2 : ¬ (c = 1) := by omega
  have hb3 : (0 : Int) ≤ (n : Int) + 1 := by omega
  have hb4 : ¬ (c = 0) := by omega
  have hcp1 : ∀ ty dc sc, (Builtin.copy_ #[31, 31] ty #[.slice (some ⟨b, off + 3, none⟩) n dc, .slice (some ⟨b, off, none⟩) (n + 1) sc]).run Tryz.prog w.drew = .ok (goInt n) (w.drew.setCells b (off + 3) cs) := fun ty dc sc =>
    Go.Q.run_copy_cellsN w.drew _ _ ty 108 3 b (off + 3) n dc ⟨b, off, none⟩ (n + 1) sc n cs Tryz.underlying31 hsz (by simp only [Nat.min_def]; split <;> omega) hcl
      (fun j v hj => by rw [Addr.add_lit]; exact hcs j v hj)
      (fun j hj => by rw [Nat.add_assoc]; exact hsp _ (by omega)) (fun j hj => hfz _) h1c
  obtain ⟨W1, hW1⟩ : ∃ W1, W1 = w.drew.setCells b (off + 3) cs := ⟨_, rfl⟩
  have hsp1 : ∀ k, k < (n + 1) * 3 → (W1.cell? ⟨b, off + k, none⟩).isSome = true := fun k hk => by
    rw [hW1]
    exact isSome_setCells b _ _ _ (fun j hj => by rw [Nat.add_assoc]; exact hsp _ (by omega)) _ (hsp k hk)
  have hcp2 : ∀ (W : World), (∀ x, W.cell? x = W1.cell? x) → (∀ x, W.frozen? x = W1.frozen? x) → ∀ ty dc, (Builtin.copy_ #[31, 31] ty #[.slice (some ⟨b, off, none⟩) (n + 1) dc, .slice (some ⟨vb, voff, none⟩) 1 vc]).run Tryz.prog W = .ok (goInt 1) (W.setCells b off xs) := fun W hWc hWf ty dc =>
    Go.Q.run_copy_cellsN W _ _ ty 108 3 b off (n + 1) dc ⟨vb, voff, none⟩ 1 vc 1 xs Tryz.underlying31 hsz (by simp only [Nat.min_def]; split <;> omega) (by omega)
      (fun j v hj => by
        rw [Addr.add_lit, hWc, hW1, World.cell?_setCells_out b _ _ _ _ (fun h _ => absurd h hvb)]
        exact hvs j v hj)
      (fun j hj => by rw [hWc]; exact hsp1 _ (by omega)) (fun j hj => by rw [hWf, hW1, World.frozen?_setCells]; exact hfz _) h1v
  rw [← hW1] at hcp1
  have mixed : Tryz.prog.follows .mixedOrders = true := rfl
  go_enter Tryz.func111, Tryz.ntmps111
  go_wp2_with (simp only [hov])
  go_region_law_o (refine step_copy_runI rfl _ _ 31 31 rfl _ _ (by simp [Act.eval, Act.put]) (by simp [Act.eval, Act.put]) (hcp1 _ _ _) ?_)
  go_wp2_with (at_builtin; refine wpList_copy_runI _ rfl _ _ 31 31 rfl _ _ rfl rfl (hcp2 _ (fun _ => rfl) (fun _ => rfl) _ _) ?_)
  go_ret
  first | exact ⟨rfl, rfl⟩ | exact ⟨rfl, by rw [hW1]⟩

set_option maxHeartbeats 4000000 in
set_option maxRecDepth 100000 in
theorem ins_first (b off c vb voff vc : Nat) (xs : List Value) (w : World) (hroom : 1 ≤ c) (hc63 : c ≤ 9223372036854775807) (hxl : xs.length = 3)
    (hsp : ∀ j, j < 3 → (w.cell? ⟨b, off + j, none⟩).isSome = true) (hfz : ∀ j, w.frozen? ⟨b, j, none⟩ = false)
    (hvs : ∀ j v, xs[j]? = some v → w.cell? ⟨vb, voff + j, none⟩ = some v) (h1v : ∀ v ∈ xs, v.oneCell' = true) :
    Calls Tryz.prog 111 #[.slice (some ⟨b, off, none⟩) 0 c, .int .i64 0, .slice (some ⟨vb, voff, none⟩) 1 vc] w fun e w' =>
      e = .returned (.slice (some ⟨b, off, none⟩) 1 c) ∧ w' = w.setCells b off xs := by
  obtain ⟨i0, hi0, hz1, hz2, hz⟩ := info_c
  have hsrc : Src Tryz.prog i0.size 31 (.slice (some ⟨vb, voff, none⟩) 1 vc) 1 xs w := by
    rw [hz1]
    exact Src.ofSlice w Tryz.underlying31 ⟨vb, voff, none⟩ 1 vc xs (by omega) (fun j u hj => by rw [Addr.add_lit]; exact hvs j u hj) h1v
  go_enter Tryz.func111, Tryz.ntmps111
  go_wp2_with (at_builtin; refine wpList_append_room_src _ rfl _ _ 31 31 rfl 108 i0 Tryz.underlying31 hi0 b off 0 c rfl _ rfl 1 xs hsrc (by omega) (fun j hj => by rw [Nat.zero_mul, Nat.add_zero]; exact hsp j (by omega)) (fun j hj => hfz _) ?_)
  go_ret
  first | exact ⟨rfl, rfl⟩ | exact ⟨rfl, by simp⟩

set_option maxHeartbeats 4000000 in
set_option maxRecDepth 100000 in
theorem ins_new (base : Option Addr) (vb voff vc : Nat) (xs : List Value) (w : World) (hxl : xs.length = 3)
    (hvs : ∀ j v, xs[j]? = some v → w.cell? ⟨vb, voff + j, none⟩ = some v) (h1v : ∀ v ∈ xs, v.oneCell' = true) :
    Calls Tryz.prog 111 #[.slice base 0 0, .int .i64 0, .slice (some ⟨vb, voff, none⟩) 1 vc] w fun e w' =>
      e = .returned (.slice (some ⟨w.heap.size, 0, none⟩) 1 (grownCap w 1 0 108)) ∧
      w' = w.drew.alloc (.cells (xs.toArray ++ Builtin.zeroCells zeroV.cells (grownCap w 1 0 108 - 1)) 108) := by
  obtain ⟨i0, hi0, hz1, hz2, hz⟩ := info_c
  have hsrc : Src Tryz.prog i0.size 31 (.slice (some ⟨vb, voff, none⟩) 1 vc) 1 xs w := by
    rw [hz1]
    exact Src.ofSlice w Tryz.underlying31 ⟨vb, voff, none⟩ 1 vc xs (by omega) (fun j u hj => by rw [Addr.add_lit]; exact hvs j u hj) h1v
  have hold : (Builtin.firstCells i0.size 0 (.slice base 0 0)).run Tryz.prog w.drew = .ok ([] : List Value).toArray w.drew := by
    rw [hz1]
    cases base with
    | none => exact run_firstCells_none w.drew 3 0 0 0
    | some a => exact run_firstCells_some w.drew 3 0 a 0 0 [] (by simp) (fun j v hj => by simp at hj)
  have hrun : ∀ ty, (Builtin.append_ #[31, 31] ty #[.slice base 0 0, .slice (some ⟨vb, voff, none⟩) 1 vc]).run Tryz.prog w = _ := fun ty =>
    run_append_grow_src w 31 31 ty 108 i0 zeroV Tryz.underlying31 hi0 hz base 0 0 [] hold _ 1 xs hsrc (by omega) (by omega) (by rw [hz2]; exact growslice_fits (by omega) (by omega))
  simp only [Nat.zero_add, List.nil_append] at hrun
  go_enter Tryz.func111, Tryz.ntmps111
  cases base with
  | none =>
    go_wp2_with (at_builtin; refine Lib.wpList_append_run _ rfl _ _ _ _ rfl _ _ rfl rfl _ _ (hrun _) ?_)
    go_ret
    exact ⟨rfl, rfl⟩
  | some a =>
    obtain ⟨ab, ao, asp⟩ := a
    go_wp2_with (at_builtin; refine Lib.wpList_append_run _ rfl _ _ _ _ rfl _ _ rfl rfl _ _ (hrun _) ?_)
    all_goals (go_ret; exact ⟨rfl, rfl⟩)

set_option maxHeartbeats 4000000 in
set_option maxRecDepth 100000 in
theorem ins_grow (b off n vb voff vc : Nat) (cs xs : List Value) (w : World) (hn0 : 0 < n) (hbig : (n + 1) * 24 ≤ 140737488355328) (hcl : cs.length = n * 3) (hxl : xs.length = 3)
    (hcs : ∀ j v, cs[j]? = some v → w.cell? ⟨b, off + j, none⟩ = some v)
    (hvs : ∀ j v, xs[j]? = some v → w.cell? ⟨vb, voff + j, none⟩ = some v) (h1c : ∀ v ∈ cs, v.oneCell' = true) (h1v : ∀ v ∈ xs, v.oneCell' = true) :
    Calls Tryz.prog 111 #[.slice (some ⟨b, off, none⟩) n n, .int .i64 0, .slice (some ⟨vb, voff, none⟩) 1 vc] w fun e w' =>
      e = .returned (.slice (some ⟨w.heap.size, 0, none⟩) (n + 1) (grownCap w (n + 1) n 108)) ∧
      w' = (((w.alloc (.cells (Builtin.zeroCells zeroV.cells (n + 1) ++ Builtin.zeroCells zeroV.cells (grownCap w (n + 1) n 108 - (n + 1))) 108)).drew.setCells w.heap.size 0 xs).drew).setCells w.heap.size 3 cs := by
  obtain ⟨i0, hi0, hzs, hzb, hz0⟩ := info_c
  have mixed : Tryz.prog.follows .mixedOrders = true := rfl
  have hz2 : ¬ ((0 : Int) = (n : Int)) := by omega
  have hz3 : (n : Int) < (n : Int) + 1 := by omega
  have hsz : (Tryz.prog.info? 108).map (·.size) = some 3 := by rfl
  have hbw : b < w.heap.size := block_lt_of_cell (hcs 0 _ (List.getElem?_eq_getElem (by omega)))
  have hvw : vb < w.heap.size := block_lt_of_cell (hvs 0 _ (List.getElem?_eq_getElem (by omega)))
  have hold : (Builtin.firstCells i0.size 0 (.slice (some ⟨b, off, none⟩) 0 n)).run Tryz.prog w.drew = .ok ([] : List Value).toArray w.drew := by
    rw [hzs]
    exact run_firstCells_some w.drew 3 0 ⟨b, off, none⟩ 0 n [] (by simp) (fun j v hj => by simp at hj)
  have hrz : ∀ ty, (Builtin.append_ #[31, 3] ty #[.slice (some ⟨b, off, none⟩) 0 n, .int .i64 ((n : Int) + 1)]).run Tryz.prog w =
      .ok (.slice (some ⟨w.heap.size, 0, none⟩) (n + 1) (grownCap w (n + 1) n 108)) (w.drew.alloc (.cells (Builtin.zeroCells zeroV.cells (n + 1) ++ Builtin.zeroCells zeroV.cells (grownCap w (n + 1) n 108 - (n + 1))) 108)) := fun ty => by
    have h := Lib.run_append_grow_zeros w 31 3 ty 108 i0 _ .i64 .i64 Tryz.underlying31 Tryz.underlying3 hi0 hz0 (some ⟨b, off, none⟩) 0 n [] hold (n + 1) (by omega) (by omega) (by omega) (by omega) (by rw [hzb]; omega) (by rw [hzb, Nat.zero_add]; exact growslice_fits (by omega) hbig)
    simp only [Nat.zero_add] at h
    rw [show ((n : Int) + 1) = ((n + 1 : Nat) : Int) from by omega]
    simpa using h
  have hGn : n + 1 ≤ grownCap w (n + 1) n 108 := grownCap_ge w _ _ _
  have hG63 : grownCap w (n + 1) n 108 ≤ 9223372036854775807 := by
    have := grownCap_le_maxLen w (n + 1) n 108 (by unfold maxLen; omega)
    unfold maxLen at this
    omega
  obtain ⟨G, hG⟩ : ∃ G, G = grownCap w (n + 1) n 108 := ⟨_, rfl⟩
  obtain ⟨ROW, hROW⟩ : ∃ ROW : Array Value, ROW = Builtin.zeroCells zeroV.cells (n + 1) ++ Builtin.zeroCells zeroV.cells (G - (n + 1)) := ⟨_, rfl⟩
  rw [← hG] at hrz hGn hG63 ⊢
  rw [← hROW] at hrz ⊢
  have hRl : (n + 1) * 3 ≤ ROW.size := by
    rw [hROW]
    simp [Builtin.zeroCells, Value.cells]
  obtain ⟨W1, hW1⟩ : ∃ W1, W1 = w.drew.alloc (.cells ROW 108) := ⟨_, rfl⟩
  rw [← hW1] at hrz
  have hN : ∀ j, j < (n + 1) * 3 → (W1.cell? ⟨w.heap.size, j, none⟩).isSome = true := fun j hj => by
    rw [hW1, World.cell?_alloc_at (w := w.drew) ROW _ w.heap.size j rfl, Array.getElem?_eq_getElem (by omega)]; rfl
  have hNf : ∀ j, W1.frozen? ⟨w.heap.size, j, none⟩ = false := fun j => by rw [hW1]; exact World.frozen?_alloc_at (w := w.drew) ROW _ w.heap.size j rfl
  have hOb : ∀ j v, w.cell? ⟨b, j, none⟩ = some v → W1.cell? ⟨b, j, none⟩ = some v := fun j v h => by rw [hW1, World.cell?_alloc_past (w := w.drew) _ b j hbw]; exact h
  have hOv : ∀ j v, w.cell? ⟨vb, j, none⟩ = some v → W1.cell? ⟨vb, j, none⟩ = some v := fun j v h => by rw [hW1, World.cell?_alloc_past (w := w.drew) _ vb j hvw]; exact h
  have hcpA : ∀ (W : World), (∀ x, W.cell? x = W1.cell? x) → (∀ x, W.frozen? x = W1.frozen? x) → ∀ ty dc, (Builtin.copy_ #[31, 31] ty #[.slice (some ⟨w.heap.size, 0, none⟩) (n + 1) dc, .slice (some ⟨vb, voff, none⟩) 1 vc]).run Tryz.prog W = .ok (goInt 1) (W.setCells w.heap.size 0 xs) := fun W hWc hWf ty dc =>
    Go.Q.run_copy_cellsN W _ _ ty 108 3 w.heap.size 0 (n + 1) dc ⟨vb, voff, none⟩ 1 vc 1 xs Tryz.underlying31 hsz (by simp only [Nat.min_def]; split <;> omega) (by omega)
      (fun j v hj => by rw [Addr.add_lit, hWc]; exact hOv _ v (hvs j v hj))
      (fun j hj => by rw [hWc]; exact hN _ (by omega)) (fun j hj => by rw [hWf]; exact hNf _) h1v
  have hGi : ¬ (G = 0) := by omega
  have hGim : ¬ (G = 1) := by omega
  have hci : ¬ (n = 0) := by omega
  have hbN : b ≠ w.heap.size := by omega
  have hcpB : ∀ (W : World), (∀ x, W.cell? x = (W1.setCells w.heap.size 0 xs).cell? x) → (∀ x, W.frozen? x = (W1.setCells w.heap.size 0 xs).frozen? x) → ∀ ty dc sc, (Builtin.copy_ #[31, 31] ty #[.slice (some ⟨w.heap.size, 3, none⟩) n dc, .slice (some ⟨b, off, none⟩) n sc]).run Tryz.prog W = .ok (goInt n) (W.setCells w.heap.size 3 cs) := fun W hWc hWf ty dc sc =>
    Go.Q.run_copy_cellsN W _ _ ty 108 3 w.heap.size 3 n dc ⟨b, off, none⟩ n sc n cs Tryz.underlying31 hsz (by simp) hcl
      (fun j v hj => by
        rw [Addr.add_lit, hWc, World.cell?_setCells_out _ _ _ _ _ (fun h _ => absurd h hbN)]
        exact hOb _ v (hcs j v hj))
      (fun j hj => by rw [hWc]; exact isSome_setCells _ _ _ _ (fun t ht => hN _ (by omega)) _ (hN _ (by omega)))
      (fun j hj => by rw [hWf, World.frozen?_setCells]; exact hNf _) h1c
  subst hW1
  have hE1 : ∀ x, ((w.alloc (.cells ROW 108)).drew).cell? x = (w.drew.alloc (.cells ROW 108)).cell? x := fun x => rfl
  have hE2 : ∀ x, ((w.alloc (.cells ROW 108)).drew).frozen? x = (w.drew.alloc (.cells ROW 108)).frozen? x := fun x => rfl
  have hF1 : ∀ x, (((w.alloc (.cells ROW 108)).drew.setCells w.heap.size 0 xs).drew).cell? x = ((w.drew.alloc (.cells ROW 108)).setCells w.heap.size 0 xs).cell? x := fun x => rfl
  have hF2 : ∀ x, (((w.alloc (.cells ROW 108)).drew.setCells w.heap.size 0 xs).drew).frozen? x = ((w.drew.alloc (.cells ROW 108)).setCells w.heap.size 0 xs).frozen? x := fun x => rfl
  have hw1 : IntKind.i64.wrap (1 : Int) = 1 := by rw [IntKind.wrap_i64]; omega
  have hw2 : IntKind.i64.wrap ((n : Int) + 1) = (n : Int) + 1 := by rw [IntKind.wrap_i64]; omega
  have hb1 : (1 : Int) ≤ (n : Int) + 1 := by omega
  have hb0 : (0 : Int) ≤ (n : Int) + 1 := by omega
  clear hold hROW hG hRl
  go_enter Tryz.func111, Tryz.ntmps111
  go_wp2_with (first
    | (at_builtin; refine Lib.wpList_append_run _ rfl _ _ _ _ rfl _ _ rfl rfl _ _ (hrz _) ?_)
    | (at_builtin; refine wpList_copy_runI _ rfl _ _ 31 31 rfl _ _ rfl rfl (hcpA _ hE1 hE2 _ _) ?_)
    | (at_builtin; refine wpList_copy_runI _ rfl _ _ 31 31 rfl _ _ rfl rfl (hcpB _ (fun _ => rfl) (fun _ => rfl) _ _ _) ?_))
  go_region_law_o (refine step_copy_runI rfl _ _ 31 31 rfl (.slice (some ⟨w.heap.size, 3, none⟩) n (G - 1)) (.slice (some ⟨b, off, none⟩) n n) (by simp [Act.eval, Act.put]) (by simp [Act.eval, Act.put]) (hcpB _ hF1 hF2 3 (G - 1) n) ?_)
  go_wp2
  go_ret
  exact ⟨rfl, rfl⟩
end Go.Proofs.YtbapbghnageckaaGreat.V
