/- slices.Delete and slices.Insert of one element of three cells do what is told of them. -/
import Derived.Test.YtbapbghnageckaaGreatPIProg
import Derived.Test.YtbapbghnageckaaGreatV5
import Derived.Test.YtbapbghnageckaaGreatGQIns5
namespace Go.Proofs.YtbapbghnageckaaGreat.PI
open Go Go.Q Go.RowKit Go.Sort Go.Lib
set_option maxRecDepth 100000
set_option linter.unusedVariables false
set_option linter.unusedSimpArgs false

theorem get_cons (id : Nat) (o : Go.Q.Obj) (rest : Heap) (i : Nat) : Heap.get ((id, o) :: rest) i = if i = id then some o else rest.get i := by
  simp only [Heap.get]
  by_cases h : id = i
  · rw [if_pos h, if_pos h.symm]
  · rw [if_neg h, if_neg (fun e => h e.symm)]
theorem get_swap (id : Nat) (o o' : Go.Q.Obj) (rest : Heap) (i : Nat) : Heap.get ((id, o) :: rest) i = if i = id then some o else Heap.get ((id, o') :: rest) i := by
  rw [get_cons, get_cons]
  by_cases h : i = id
  · rw [if_pos h, if_pos h]
  · rw [if_neg h, if_neg h, if_neg h]
theorem tyC_plain : tyC.plainB = true := rfl
theorem tyC_size : tyC.size = 3 := rfl
theorem setCells2 {b : Nat} {e : TypeId} {cells : Array Value} {xs ys : List Value} {o p : Nat} {w W : World} (hW : ∀ k : Nat, W.heap[k]? = w.heap[k]?) (hs : W.heap.size = w.heap.size) (h1 : W.os = w.os) (h2 : W.tape = w.tape) (h3 : W.output = w.output) (hheap : w.heap[b]? = some (.cells cells e (0, 0))) :
    ((W.setCells b o xs).setCells b p ys).heap[b]? = some (.cells (lay (lay cells o xs) p ys) e (0, 0)) ∧ (∀ j : Nat, j ≠ b → ((W.setCells b o xs).setCells b p ys).heap[j]? = w.heap[j]?) ∧ ((W.setCells b o xs).setCells b p ys).heap.size = w.heap.size ∧
      ((W.setCells b o xs).setCells b p ys).os = w.os ∧ ((W.setCells b o xs).setCells b p ys).tape = w.tape ∧ ((W.setCells b o xs).setCells b p ys).output = w.output := by
  obtain ⟨s1, s2, s3, s4⟩ := setCells_still (b := b) ys p (W.setCells b o xs)
  obtain ⟨t1, t2, t3, t4⟩ := setCells_still (b := b) xs o W
  exact ⟨setCells_at _ _ _ _ (setCells_at _ _ _ _ ((hW b).trans hheap)), fun j hj => by rw [setCells_off hj, setCells_off hj, hW], s1.trans (t1.trans hs), s2.trans (t2.trans h1), s3.trans (t3.trans h2), s4.trans (t4.trans h3)⟩
theorem delC_ok {J : Nat → Prop} {σ : Nat → Option Go.Q.Own} {w : World} {m : Bool} {xs : List (Ty.Den tyC)} {n : Nat} {i j : Int} {arg : AV} {us : List Value} (harg : (arg = .os (.t 1000000) ∧ n = xs.length) ∨ (arg = .sub (.t 1000000) 0 n ∧ n ≤ xs.length)) (hij : 0 ≤ i ∧ i < n ∧ j = i + 1)
    (hr : HR J σ w [(1000000, .arr m false tyC xs)]) (hv : VRs J σ w [arg, .d (.int .i64) i, .d (.int .i64) j] us) :
    CallsV Tryz.prog 112 us.toArray w fun e w' => ∃ u J' σ', e = .returned u ∧ Out J σ w [(1000000, .arr m false tyC xs)] J' σ' w' [(1000000, .arr true false tyC ((xs.take n).eraseIdx i.toNat))] ∧ VR J' σ' w' (.os (.t 1000000)) u := by
  obtain ⟨u0, us0, rfl, h0, u1, us1, rfl, h1, u2, us2, rfl, h2, rfl⟩ := hv
  have e1 : u1 = .int .i64 i := by have h1 : [u1] = [.int .i64 i] := h1; cases h1; rfl
  have e2 : u2 = .int .i64 j := by have h2 : [u2] = [.int .i64 j] := h2; cases h2; rfl
  subst e1 e2
  have hg : Heap.get [(1000000, Obj.arr m false tyC xs)] 1000000 = some (.arr m false tyC xs) := by simp [Heap.get]
  obtain ⟨hn, hrow⟩ := buf_at tyC_plain hr hg harg h0
  obtain ⟨a, rfl⟩ : ∃ a : Nat, i = a := ⟨i.toNat, by omega⟩
  obtain ⟨c, rfl⟩ : ∃ c : Nat, j = c := ⟨j.toNat, by omega⟩
  rcases hrow with ⟨A, _, h0⟩ | ⟨ow, b, o, cap, cells, e, how, hhas, rfl, hc0, hheap, hcs, hcap, htake⟩
  · omega
  have hlen : (rowD tyC (xs.take n)).length = n * 3 := by rw [rowD_length tyC_plain, List.length_take, Nat.min_eq_left hn]; rfl
  have hcs3 : o + cap * 3 ≤ cells.size := hcs
  have htk : (cells.toList.drop o).take (n * 3) = rowD tyC (xs.take n) := htake
  refine .inl ⟨enter_of Tryz.func112 (by decide) rfl _ _, ?_⟩
  refine Calls.mono (Go.Proofs.YtbapbghnageckaaGreat.V.del_one b o n cap a c (by omega) (rowD tyC (xs.take n)) w (by omega) hcap.1 hcap.2 hlen (buf_cells hheap htk) (fun j => by simp [World.frozen?, hheap]) (rowD_one _)) ?_
  rintro e' w' ⟨rfl, rfl⟩
  obtain ⟨q1, q2, q3, q4, q5, q6⟩ := setCells2 (w := w) (W := w.drew) (o := o + a * 3) (p := o + (n - 1) * 3) (xs := (rowD tyC (xs.take n)).drop (c * 3)) (ys := Go.Proofs.YtbapbghnageckaaGreat.V.zeroC) (fun _ => rfl) rfl rfl rfl rfl hheap
  have hwin := win_del (cells := cells) (o := o) (p := a * 3) (q := 3) (cs := rowD tyC (xs.take n)) (zs := Go.Proofs.YtbapbghnageckaaGreat.V.zeroC) (by rw [hlen]; exact htk) (by rw [hlen]; omega) (by rw [hlen]; omega) rfl
  rw [hlen, show n * 3 - 3 = (n - 1) * 3 from by omega, show a * 3 + 3 = c * 3 from by omega] at hwin
  have hyl : ((xs.take n).eraseIdx a).length = n - 1 := by rw [List.length_eraseIdx, List.length_take, Nat.min_eq_left hn, if_pos (by omega)]
  have hyr : rowD tyC ((xs.take n).eraseIdx a) = (rowD tyC (xs.take n)).take (a * 3) ++ (rowD tyC (xs.take n)).drop (c * 3) := by
    rw [rowD_erase tyC_plain, tyC_size, show (a + 1) * 3 = c * 3 from by omega]
  have hout := put_out (t := tyC) tyC_plain 1000000 (ys := (xs.take n).eraseIdx a) (h' := [(1000000, .arr true false tyC ((xs.take n).eraseIdx a))])
    (fun i ob hi => by
      simp only [Heap.get] at hi
      split at hi
      · cases hi; exact ⟨_, _, _, _, rfl⟩
      · cases hi)
    (get_swap _ _ _ _) hr (.inr ⟨ow, _, hg, how, hhas⟩) q1 (by rw [Go.Q.lay_size, Go.Q.lay_size]; exact hcs) (by rw [hyl]; omega) (by rw [hyl, hyr]; exact hwin) (fun j _ hj => q2 j hj) (by omega) q4 q5 q6
  rw [hyl] at hout
  exact ⟨_, _, _, rfl, hout, put_os⟩
theorem alloc_facts (w : World) (cells : Array Value) (e : TypeId) (w' : World) (hw : w' = w.drew.alloc (.cells cells e)) : w'.heap[w.heap.size]? = some (.cells cells e (0, 0)) ∧ (∀ j : Nat, j < w.heap.size → w'.heap[j]? = w.heap[j]?) ∧ w.heap.size ≤ w'.heap.size ∧ w'.os = w.os ∧ w'.tape = w.tape ∧ w'.output = w.output := by
  subst hw
  refine ⟨heap_alloc_new w.drew _, fun j hj => heap_alloc_old w.drew _ hj, ?_, rfl, rfl, rfl⟩
  have : (w.drew.alloc (.cells cells e)).heap.size = w.heap.size + 1 := by simp
  omega
theorem val_at {J : Nat → Prop} {σ : Nat → Option Go.Q.Own} {w : World} {h : Heap} {id : Nat} {m : Bool} {x : Ty.Den tyC} {u : Value} (hr : HR J σ w h) (hg : h.get id = some (.arr m false tyC [x])) (hv : VR J σ w (.os (.t id)) u) :
    ∃ ow vb vo vc cells e, σ id = some ow ∧ ow.has vb ∧ u = .slice (some ⟨vb, vo, none⟩) 1 vc ∧ w.heap[vb]? = some (.cells cells e (0, 0)) ∧ (∀ j v, (valsD tyC x)[j]? = some v → w.cell? ⟨vb, vo + j, none⟩ = some v) := by
  obtain ⟨_, h1 | ⟨ow, b, o, cap, cells, e, how, hhas, rfl, hc0, hheap, hcs, hcap, htake⟩⟩ := buf_at tyC_plain hr hg (.inl ⟨rfl, rfl⟩) hv
  · obtain ⟨A, _, h0⟩ := h1; cases h0
  · refine ⟨ow, b, o, cap, cells, e, how, hhas, rfl, hheap, buf_cells (k := 3) hheap ?_⟩
    have := htake
    simpa [rowD, tyC_size] using this
theorem zeros_size (k : Nat) : (Builtin.zeroCells Go.Proofs.YtbapbghnageckaaGreat.V.zeroV.cells k).size = k * 3 := by simp [Builtin.zeroCells, Value.cells]
theorem new_win {x : Ty.Den tyC} {k : Nat} : (((valsD tyC x).toArray ++ Builtin.zeroCells Go.Proofs.YtbapbghnageckaaGreat.V.zeroV.cells k).toList.drop 0).take (1 * 3) = valsD tyC x := by
  have hl : (valsD tyC x).length = 3 := valsD_length tyC tyC_plain x
  simp [hl]
theorem insN_ok {J : Nat → Prop} {σ : Nat → Option Go.Q.Own} {w : World} {m : Bool} {x : Ty.Den tyC} {arg : AV} {us : List Value} (harg : arg = .nilS ∨ arg = .empS) (hr : HR J σ w [(1000000, .arr m false tyC [x])]) (hv : VRs J σ w [arg, .d (.int .i64) (0 : Int), .os (.t 1000000)] us) :
    CallsV Tryz.prog 111 us.toArray w fun e w' => ∃ u J' σ', e = .returned u ∧ Out J σ w [(1000000, .arr m false tyC [x])] J' σ' w' [(64, .arr true false tyC [x]), (1000000, .arr m false tyC [x])] ∧ VR J' σ' w' (.os (.t 64)) u := by
  obtain ⟨u0, us0, rfl, h0, u1, us1, rfl, h1, u2, us2, rfl, h2, rfl⟩ := hv
  have e1 : u1 = .int .i64 0 := by have h1 : [u1] = [.int .i64 0] := h1; cases h1; rfl
  subst e1
  obtain ⟨A, rfl⟩ : ∃ A, u0 = .slice A 0 0 := by
    rcases harg with rfl | rfl
    · exact ⟨none, h0⟩
    · exact h0
  have hg : Heap.get [(1000000, Obj.arr m false tyC [x])] 1000000 = some (.arr m false tyC [x]) := by simp [Heap.get]
  obtain ⟨ow, vb, vo, vc, cells, e, how, hhas, rfl, hheap, hvs⟩ := val_at hr hg h2
  have hxl : (valsD tyC x).length = 3 := valsD_length tyC tyC_plain x
  refine .inl ⟨enter_of Tryz.func111 (by decide) rfl _ _, ?_⟩
  refine Calls.mono (Go.Proofs.YtbapbghnageckaaGreat.V.ins_new A vb vo vc (valsD tyC x) w hxl hvs (valsD_one _ _)) ?_
  rintro e' w' ⟨rfl, hw'⟩
  obtain ⟨k1, k2, k3, k4, k5, k6⟩ := alloc_facts w _ _ _ hw'
  clear hw'
  have hge := grownCap_ge w 1 0 108
  have hcm : grownCap w 1 0 108 ≤ maxLen := grownCap_le_maxLen w 1 0 108 (by unfold maxLen; omega)
  generalize grownCap w 1 0 108 = G at *
  have hsz : ((valsD tyC x).toArray ++ Builtin.zeroCells Go.Proofs.YtbapbghnageckaaGreat.V.zeroV.cells (G - 1)).size = G * 3 := by rw [Array.size_append, zeros_size, List.size_toArray, hxl]; omega
  have hw3 : (((valsD tyC x).toArray ++ Builtin.zeroCells Go.Proofs.YtbapbghnageckaaGreat.V.zeroV.cells (G - 1)).toList.drop 0).take (1 * 3) = valsD tyC x := new_win
  generalize (valsD tyC x).toArray ++ Builtin.zeroCells Go.Proofs.YtbapbghnageckaaGreat.V.zeroV.cells (G - 1) = ROW at *
  have hout := put_out (t := tyC) (w := w) (w' := w') tyC_plain 64 (b := w.heap.size) (o := 0) (cap := G) (ys := [x]) (h' := [(64, .arr true false tyC [x]), (1000000, .arr m false tyC [x])])
    (fun i ob hi => by
      simp only [Heap.get] at hi
      split at hi
      · cases hi; exact ⟨_, _, _, _, rfl⟩
      · cases hi)
    (get_cons _ _ _) hr (.inl (Nat.le_refl _)) k1 (by rw [hsz, tyC_size]; omega) ⟨hge, by unfold maxLen at hcm; omega⟩
      (by rw [tyC_size]; simpa [rowD] using hw3) (fun j hj _ => k2 j hj) k3 k4 k5 k6
  exact ⟨_, _, _, rfl, hout, put_os⟩
theorem grow_win {d : Array Value} {xs cs : List Value} {k : Nat} (hk : xs.length + cs.length ≤ d.size) (hx : xs.length = 3) (hc : cs.length = k * 3) : ((lay (lay d 0 xs) 3 cs).toList.drop 0).take ((k + 1) * 3) = xs ++ cs := by
  have := win_ins (cells := d) (o := 0) (xs := xs) (cs := cs) (by omega)
  apply List.ext_getElem?
  intro j
  rw [List.getElem?_take, List.getElem?_drop, Array.getElem?_toList]
  by_cases h : j < (k + 1) * 3
  · rw [if_pos h, lay_at _ _ _ (by rw [Go.Q.lay_size]; omega), lay_at _ _ _ (by omega)]
    by_cases h1 : j < 3
    · rw [if_neg (by omega), if_pos (by omega), List.getElem?_append_left (by omega)]; congr 1; omega
    · rw [if_pos (by omega), List.getElem?_append_right (by omega)]; congr 1; omega
  · rw [if_neg h, List.getElem?_eq_none (by simp; omega)]
set_option maxHeartbeats 1000000 in
theorem insR_ok {J : Nat → Prop} {σ : Nat → Option Go.Q.Own} {w : World} {m m1 : Bool} {x : Ty.Den tyC} {xs : List (Ty.Den tyC)} {n : Nat} {arg : AV} {us : List Value} (harg : (arg = .os (.t 1000000) ∧ n = xs.length) ∨ (arg = .sub (.t 1000000) 0 n ∧ n ≤ xs.length)) (hbig : n ≤ 1000000)
    (hr : HR J σ w [(1000000, .arr m1 false tyC xs), (1000001, .arr m false tyC [x])]) (hv : VRs J σ w [arg, .d (.int .i64) (0 : Int), .os (.t 1000001)] us) :
    CallsV Tryz.prog 111 us.toArray w fun e w' => ∃ u J' σ', e = .returned u ∧ Out J σ w [(1000000, .arr m1 false tyC xs), (1000001, .arr m false tyC [x])] J' σ' w' [(1000000, .arr true false tyC (x :: xs.take n)), (1000001, .arr m false tyC [x])] ∧ VR J' σ' w' (.os (.t 1000000)) u := by
  obtain ⟨u0, us0, rfl, h0, u1, us1, rfl, h1, u2, us2, rfl, h2, rfl⟩ := hv
  have e1 : u1 = .int .i64 0 := by have h1 : [u1] = [.int .i64 0] := h1; cases h1; rfl
  subst e1
  have hg0 : Heap.get [(1000000, Obj.arr m1 false tyC xs), (1000001, Obj.arr m false tyC [x])] 1000000 = some (.arr m1 false tyC xs) := by simp [Heap.get]
  have hg : Heap.get [(1000000, Obj.arr m1 false tyC xs), (1000001, Obj.arr m false tyC [x])] 1000001 = some (.arr m false tyC [x]) := by simp [Heap.get]
  have harrs : ∀ i ob, Heap.get [(1000000, Obj.arr m1 false tyC xs), (1000001, Obj.arr m false tyC [x])] i = some ob → ∃ m d t' xs, ob = .arr m d t' xs := by
    intro i ob hi
    rw [get_cons, get_cons] at hi
    split at hi
    · cases hi; exact ⟨_, _, _, _, rfl⟩
    · split at hi
      · cases hi; exact ⟨_, _, _, _, rfl⟩
      · cases hi
  obtain ⟨ow2, vb, vo, vc, vcells, ve, how2, hhas2, rfl, hheap2, hvs⟩ := val_at hr hg h2
  have hxl : (valsD tyC x).length = 3 := valsD_length tyC tyC_plain x
  obtain ⟨hn, hrow⟩ := buf_at tyC_plain hr hg0 harg h0
  have hlen : (rowD tyC (xs.take n)).length = n * 3 := by rw [rowD_length tyC_plain, List.length_take, Nat.min_eq_left hn]; rfl
  have hyl : (x :: xs.take n).length = n + 1 := by rw [List.length_cons, List.length_take, Nat.min_eq_left hn]
  have hyr : rowD tyC (x :: xs.take n) = valsD tyC x ++ rowD tyC (xs.take n) := by simp [rowD]
  refine .inl ⟨enter_of Tryz.func111 (by decide) rfl _ _, ?_⟩
  rcases hrow with ⟨A, rfl, rfl⟩ | ⟨ow, b, o, cap, cells, e, how, hhas, rfl, hc0, hheap, hcs, hcap, htake⟩
  · refine Calls.mono (Go.Proofs.YtbapbghnageckaaGreat.V.ins_new A vb vo vc (valsD tyC x) w hxl hvs (valsD_one _ _)) ?_
    rintro e' w' ⟨rfl, hw'⟩
    obtain ⟨k1, k2, k3, k4, k5, k6⟩ := alloc_facts w _ _ _ hw'
    clear hw'
    have hge := grownCap_ge w 1 0 108
    have hcm : grownCap w 1 0 108 ≤ maxLen := grownCap_le_maxLen w 1 0 108 (by unfold maxLen; omega)
    generalize grownCap w 1 0 108 = G at *
    have hsz : ((valsD tyC x).toArray ++ Builtin.zeroCells Go.Proofs.YtbapbghnageckaaGreat.V.zeroV.cells (G - 1)).size = G * 3 := by rw [Array.size_append, zeros_size, List.size_toArray, hxl]; omega
    have hw3 : (((valsD tyC x).toArray ++ Builtin.zeroCells Go.Proofs.YtbapbghnageckaaGreat.V.zeroV.cells (G - 1)).toList.drop 0).take (1 * 3) = valsD tyC x := new_win
    generalize (valsD tyC x).toArray ++ Builtin.zeroCells Go.Proofs.YtbapbghnageckaaGreat.V.zeroV.cells (G - 1) = ROW at *
    have hout := put_out (t := tyC) (w := w) (w' := w') tyC_plain 1000000 (b := w.heap.size) (o := 0) (cap := G) (ys := x :: xs.take 0) (h' := [(1000000, .arr true false tyC (x :: xs.take 0)), (1000001, .arr m false tyC [x])])
      harrs (get_swap _ _ _ _) hr (.inl (Nat.le_refl _)) k1 (by rw [hsz, tyC_size]; omega) ⟨by rw [hyl]; exact hge, by unfold maxLen at hcm; omega⟩
      (by rw [tyC_size]; simpa [rowD] using hw3) (fun j hj _ => k2 j hj) k3 k4 k5 k6
    rw [hyl] at hout
    exact ⟨_, _, _, rfl, hout, put_os⟩
  · have hvb : vb ≠ b := by
      intro e
      subst e
      exact hr.dist 1000000 1000001 _ _ ow ow2 vb (by decide) hg0 hg rfl rfl how how2 hhas hhas2
    have htk : (cells.toList.drop o).take (n * 3) = rowD tyC (xs.take n) := htake
    have hcs3 : o + cap * 3 ≤ cells.size := hcs
    have hfr : ∀ j, w.frozen? ⟨b, j, none⟩ = false := fun j => by simp [World.frozen?, hheap]
    have hfin : ∀ (w' : World) (cells' : Array Value), w'.heap[b]? = some (.cells cells' e (0, 0)) → cells'.size = cells.size → n + 1 ≤ cap → (cells'.toList.drop o).take ((n + 1) * 3) = valsD tyC x ++ rowD tyC (xs.take n) → (∀ j : Nat, j ≠ b → w'.heap[j]? = w.heap[j]?) → w'.heap.size = w.heap.size → w'.os = w.os → w'.tape = w.tape → w'.output = w.output →
        ∃ u J' σ', Ending.returned (.slice (some ⟨b, o, none⟩) (n + 1) cap) = .returned u ∧ Out J σ w [(1000000, .arr m1 false tyC xs), (1000001, .arr m false tyC [x])] J' σ' w' [(1000000, .arr true false tyC (x :: xs.take n)), (1000001, .arr m false tyC [x])] ∧ VR J' σ' w' (.os (.t 1000000)) u := by
      intro w' cells' k1 k2 k3 k4 k5 k6 k7 k8 k9
      have hout := put_out (t := tyC) tyC_plain 1000000 (ys := x :: xs.take n) (h' := [(1000000, .arr true false tyC (x :: xs.take n)), (1000001, .arr m false tyC [x])]) harrs (get_swap _ _ _ _) hr (.inr ⟨ow, _, hg0, how, hhas⟩) k1 (by rw [k2]; exact hcs) (by rw [hyl]; omega) (by rw [hyl, hyr]; exact k4) (fun j _ hj => k5 j hj) (by omega) k7 k8 k9
      rw [hyl] at hout
      exact ⟨_, _, _, rfl, hout, put_os⟩
    by_cases hn0 : n = 0
    · subst hn0
      refine Calls.mono (Go.Proofs.YtbapbghnageckaaGreat.V.ins_first b o cap vb vo vc (valsD tyC x) w (by omega) hcap.2 hxl (buf_some hheap (by omega)) hfr hvs (valsD_one _ _)) ?_
      rintro e' w' ⟨rfl, rfl⟩
      obtain ⟨s1, s2, s3, s4⟩ := setCells_still (b := b) (valsD tyC x) o w
      refine hfin _ _ (setCells_at _ _ _ _ hheap) (Go.Q.lay_size _ _ _) (by omega) ?_ (fun j hj => setCells_off hj _ _ _) s1 s2 s3 s4
      have := win_first (cells := cells) (o := o) (xs := valsD tyC x) (by omega)
      rw [hxl] at this
      simpa [rowD] using this
    · by_cases hroom : n + 1 ≤ cap
      · refine Calls.mono (Go.Proofs.YtbapbghnageckaaGreat.V.ins_shift b o n cap vb vo vc (rowD tyC (xs.take n)) (valsD tyC x) w (by omega) hroom hcap.2 hvb hlen hxl (buf_cells hheap htk) (buf_some hheap (by omega)) hfr hvs (rowD_one _) (valsD_one _ _) ve e vcells.size cells.size (by simp [World.shape?, hheap2]) (by simp [World.shape?, hheap]) (by omega) (by simp [World.frozen?, hheap2]) (by simp [World.frozen?, hheap2])) ?_
        rintro e' w' ⟨rfl, rfl⟩
        obtain ⟨q1, q2, q3, q4, q5, q6⟩ := setCells2 (w := w) (W := w.drew) (o := o + 3) (p := o) (xs := rowD tyC (xs.take n)) (ys := valsD tyC x) (fun _ => rfl) rfl rfl rfl rfl hheap
        refine hfin _ _ q1 (by rw [Go.Q.lay_size, Go.Q.lay_size]) hroom ?_ q2 q3 q4 q5 q6
        have := win_ins (cells := cells) (o := o) (xs := valsD tyC x) (cs := rowD tyC (xs.take n)) (by omega)
        rw [hxl, hlen, show 3 + n * 3 = (n + 1) * 3 from by omega] at this
        exact this
      · have hcn : cap = n := by omega
        subst hcn
        refine Calls.mono (Go.Proofs.YtbapbghnageckaaGreat.V.ins_grow b o cap vb vo vc (rowD tyC (xs.take cap)) (valsD tyC x) w (by omega) (by omega) hlen hxl (buf_cells hheap htk) hvs (rowD_one _) (valsD_one _ _)) ?_
        rintro e' w' ⟨rfl, rfl⟩
        have hge := grownCap_ge w (cap + 1) cap 108
        have hcm : grownCap w (cap + 1) cap 108 ≤ maxLen := grownCap_le_maxLen w (cap + 1) cap 108 (by unfold maxLen; omega)
        generalize grownCap w (cap + 1) cap 108 = G at hge hcm ⊢
        have hrs : (Builtin.zeroCells Go.Proofs.YtbapbghnageckaaGreat.V.zeroV.cells (cap + 1) ++ Builtin.zeroCells Go.Proofs.YtbapbghnageckaaGreat.V.zeroV.cells (G - (cap + 1))).size = G * 3 := by rw [Array.size_append, zeros_size, zeros_size]; omega
        generalize hROW : Builtin.zeroCells Go.Proofs.YtbapbghnageckaaGreat.V.zeroV.cells (cap + 1) ++ Builtin.zeroCells Go.Proofs.YtbapbghnageckaaGreat.V.zeroV.cells (G - (cap + 1)) = ROW at hrs ⊢
        have hat : (((w.alloc (.cells ROW 108)).drew.setCells w.heap.size 0 (valsD tyC x)).drew.setCells w.heap.size 3 (rowD tyC (xs.take cap))).heap[w.heap.size]? = some (.cells (lay (lay ROW 0 (valsD tyC x)) 3 (rowD tyC (xs.take cap))) 108 (0, 0)) := by
          refine setCells_at _ _ _ _ ?_
          show ((w.alloc (.cells ROW 108)).drew.setCells w.heap.size 0 (valsD tyC x)).heap[w.heap.size]? = _
          refine setCells_at _ _ _ _ ?_
          exact heap_alloc_new w _
        have hoff : ∀ j : Nat, j < w.heap.size → (((w.alloc (.cells ROW 108)).drew.setCells w.heap.size 0 (valsD tyC x)).drew.setCells w.heap.size 3 (rowD tyC (xs.take cap))).heap[j]? = w.heap[j]? := by
          intro j hj
          rw [setCells_off (by omega)]
          show ((w.alloc (.cells ROW 108)).drew.setCells w.heap.size 0 (valsD tyC x)).heap[j]? = _
          rw [setCells_off (by omega)]
          exact heap_alloc_old w _ hj
        obtain ⟨s1, s2, s3, s4⟩ := setCells_still (b := w.heap.size) (rowD tyC (xs.take cap)) 3 ((w.alloc (.cells ROW 108)).drew.setCells w.heap.size 0 (valsD tyC x)).drew
        obtain ⟨t1, t2, t3, t4⟩ := setCells_still (b := w.heap.size) (valsD tyC x) 0 (w.alloc (.cells ROW 108)).drew
        have hout := put_out (t := tyC) tyC_plain 1000000 (b := w.heap.size) (o := 0) (cap := G) (ys := x :: xs.take cap) (h' := [(1000000, .arr true false tyC (x :: xs.take cap)), (1000001, .arr m false tyC [x])]) harrs (get_swap _ _ _ _) hr (.inl (Nat.le_refl _)) hat (by rw [Go.Q.lay_size, Go.Q.lay_size, hrs, tyC_size]; omega) ⟨by rw [hyl]; exact hge, by unfold maxLen at hcm; omega⟩
          (by rw [hyl, hyr]; exact grow_win (by rw [hrs, hxl, hlen]; omega) hxl hlen) (fun j hj _ => hoff j hj) (by
            have h1 : (w.alloc (.cells ROW 108)).drew.heap.size = w.heap.size + 1 := by simp
            rw [s1]
            show w.heap.size ≤ ((w.alloc (.cells ROW 108)).drew.setCells w.heap.size 0 (valsD tyC x)).heap.size
            omega) (s2.trans t2) (s3.trans t3) (s4.trans t4)
        rw [hyl] at hout
        exact ⟨_, _, _, rfl, hout, put_os⟩
end Go.Proofs.YtbapbghnageckaaGreat.PI
