/- slices.Delete and slices.Insert of numbers, in place. -/
import Derived.Test.YtjcldkfgpifebaaPIProg
import Derived.Test.YtjcldkfgpifebaaVLay
import Derived.Test.YtjcldkfgpifebaaV3
import Derived.Test.YtjcldkfgpifebaaGQIns2
import Derived.Shelf.SlicesG.Delete
import Derived.Test.YtjcldkfgpifebaaV1
import Derived.Test.YtjcldkfgpifebaaGQSort
import Derived.Test.YtjcldkfgpifebaaGQLib
import Derived.Shelf.SortM.Plain
import Derived.Shelf.SortM.SortNone
namespace Go.Proofs.Ytjcldkfgpifebaa.PI
open Go Go.Q Go.RowKit Go.Sort
set_option maxRecDepth 100000
set_option linter.unusedVariables false
set_option linter.unusedSimpArgs false

/-- The cells of an array of numbers. -/
theorem ints_cells {J : Nat → Prop} {w : World} {cs : List Value} {xs : List Int} (hel : ∀ (i : Nat) (h : i < xs.length), EltR J w false (fun _ => none) (.int .i64) (xs.get ⟨i, h⟩) (chunk (Ty.size (.int .i64)) cs i)) (hl : cs.length = xs.length) : cs = xs.map (Value.int .i64) := by
  apply List.ext_getElem?
  intro i
  rw [List.getElem?_map]
  by_cases hi : i < xs.length
  · have hd : DR J w (.int .i64) (xs.get ⟨i, hi⟩) (chunk (Ty.size (.int .i64)) cs i) := hel i hi
    have hd : chunk 1 cs i = [.int .i64 (xs.get ⟨i, hi⟩)] := hd
    simp only [chunk, Nat.mul_one] at hd
    have : ((cs.drop i).take 1)[0]? = some (.int .i64 (xs.get ⟨i, hi⟩)) := by rw [hd]; rfl
    rw [List.getElem?_take, if_pos (by omega), List.getElem?_drop] at this
    rw [List.getElem?_eq_getElem hi]
    simpa using this
  · rw [List.getElem?_eq_none (by omega), List.getElem?_eq_none (by omega)]; rfl
/-- What an own array of numbers, not empty, is. -/
theorem ints_at {J : Nat → Prop} {σ : Nat → Option Go.Q.Own} {w : World} {h : Heap} (hr : HR J σ w h) {id : Nat} {m : Bool} {xs : List Int} (hg : h.get id = some (.arr m false (.int .i64) xs)) (h0 : 0 < xs.length) :
    ∃ ow b o cap cells e, σ id = some ow ∧ ow.h.sz = 1 ∧ ow.has b ∧ ow.h.v = .slice (some ⟨b, o, none⟩) xs.length cap ∧ w.heap[b]? = some (.cells cells e (0, 0)) ∧ o + cap ≤ cells.size ∧ (xs.length ≤ cap ∧ cap ≤ 9223372036854775807) ∧ (cells.toList.drop o).take xs.length = xs.map (Value.int .i64) := by
  obtain ⟨ow, how, h2, h3, h4, cs, ⟨hclen, harr⟩, hel⟩ := hr.objs id _ hg
  rcases harr with ⟨A', e, h00⟩ | ⟨b, o, cap, cells, e, hvv, hheap, hcs, hcap, htake⟩
  · exact absurd h00 (by omega)
  · have hcl : cs.length = xs.length := by rw [hclen]; simp [Ty.size]
    have hec : cs = xs.map (Value.int .i64) := by
      refine ints_cells (J := J) (w := w) (fun i hi => ?_) hcl
      have := hel i hi
      exact this
    refine ⟨ow, b, o, cap, cells, e, how, h2, .inl ?_, hvv, hheap, by simpa [Ty.size] using hcs, hcap, ?_⟩
    · rw [hvv]; simp only [blockOf]; rw [if_neg (by omega)]
    · rw [← hec, ← htake]; simp [Ty.size]
theorem cell_of {w : World} {b o : Nat} {cells : Array Value} {e : TypeId} {xs : List Int} (hheap : w.heap[b]? = some (.cells cells e (0, 0))) (htake : (cells.toList.drop o).take xs.length = xs.map (Value.int .i64)) : ∀ j, (h : j < xs.length) → w.cell? ⟨b, o + j, none⟩ = some (.int .i64 xs[j]) := by
  intro j hj
  have := congrArg (·[j]?) htake
  simp only [List.getElem?_take, if_pos hj, List.getElem?_drop, Array.getElem?_toList, List.getElem?_map, List.getElem?_eq_getElem hj, Option.map_some] at this
  simp [World.cell?, hheap, this]
theorem holds_of {w : World} {b o : Nat} {cells : Array Value} {e : TypeId} {xs : List Int} (hheap : w.heap[b]? = some (.cells cells e (0, 0))) (htake : (cells.toList.drop o).take xs.length = xs.map (Value.int .i64)) : Holds (Value.int .i64) w b o xs.toArray := by
  intro j hj
  have hj' : j < xs.length := by simpa using hj
  have hg : xs.toArray[j]! = xs[j] := by rw [getElem!_pos _ j (by simpa using hj')]; simp
  exact ⟨by rw [hg]; exact cell_of hheap htake j hj', by simp [World.frozen?, hheap]⟩
theorem del_ok {J : Nat → Prop} {σ : Nat → Option Go.Q.Own} {w : World} {m : Bool} {xs : List Int} {i j : Int} {us : List Value} (hij : 0 ≤ i ∧ i < j ∧ j ≤ xs.length) (hr : HR J σ w [(1000000, .arr m false (.int .i64) xs)]) (hv : VRs J σ w [.os (.t 1000000), .d (.int .i64) i, .d (.int .i64) j] us) :
    CallsV Try.prog 41 us.toArray w fun e w' => ∃ u J' σ', e = .returned u ∧ Out J σ w [(1000000, .arr m false (.int .i64) xs)] J' σ' w' [(1000000, .arr m false (.int .i64) (xs.take i.toNat ++ xs.drop j.toNat ++ List.replicate (j.toNat - i.toNat) 0))] ∧ VR J' σ' w' (.sub (.t 1000000) 0 (xs.length - (j.toNat - i.toNat))) u := by
  obtain ⟨u0, us0, rfl, h0, u1, us1, rfl, h1, u2, us2, rfl, h2, rfl⟩ := hv
  have e1 : u1 = .int .i64 i := by have h1 : [u1] = [.int .i64 i] := h1; cases h1; rfl
  have e2 : u2 = .int .i64 j := by have h2 : [u2] = [.int .i64 j] := h2; cases h2; rfl
  subst e1 e2
  obtain ⟨H, A, n, cap0, k1, k2, rfl⟩ := h0
  obtain ⟨ow, b, o, cap, cells, e, how, hsz, hhas, hvv, hheap, hcs, hcap, htake⟩ := ints_at hr (show Heap.get [(1000000, Obj.arr m false (.int .i64) xs)] 1000000 = some (.arr m false (.int .i64) xs) by simp [Heap.get]) (by omega)
  have hH : H = ow.h := by
    simp only [hdrOf, how, Option.map_some, Option.some.injEq] at k1
    exact k1.symm
  subst hH
  obtain ⟨rfl, rfl, rfl⟩ := Value.slice.inj (hvv.symm.trans k2)
  obtain ⟨a, rfl⟩ : ∃ a : Nat, i = a := ⟨i.toNat, by omega⟩
  obtain ⟨c, rfl⟩ : ∃ c : Nat, j = c := ⟨j.toNat, by omega⟩
  simp only [Int.toNat_natCast]
  refine .inl ⟨enter_of Try.func41 (by decide) rfl _ _, ?_⟩
  refine Calls.mono (Go.Proofs.AnyG.slices_Delete_int delI b o cap a c xs w (holds_of hheap htake) hcap.1 hcap.2 (by omega) (by omega)) ?_
  rintro e' w' ⟨rfl, q, rfl⟩
  refine ⟨_, J, σ, rfl, ?_, ?_⟩
  · exact sort_out (os := #[]) hr (by simp; omega) how hvv hheap hcs hcap (by omega) q
  · exact ⟨ow.h, _, xs.length, cap, by simp [hdrOf, how], hvv, by omega, _, rfl, fun b' o' e _ => by cases e; simp, fun b' o' e => by cases e; exact ⟨_, rfl⟩, fun e => by cases e⟩
theorem ins_ok {J : Nat → Prop} {σ : Nat → Option Go.Q.Own} {w : World} {m m2 : Bool} {xs : List Int} {n : Nat} {i x : Int} {us : List Value} (hi : 0 ≤ i ∧ i ≤ n ∧ n < xs.length) (hr : HR J σ w [(1000000, .arr m false (.int .i64) xs), (1000001, .arr m2 false (.int .i64) [x])]) (hv : VRs J σ w [.sub (.t 1000000) 0 n, .d (.int .i64) i, .os (.t 1000001)] us) :
    CallsV Try.prog 42 us.toArray w fun e w' => ∃ u J' σ', e = .returned u ∧ Out J σ w [(1000000, .arr m false (.int .i64) xs), (1000001, .arr m2 false (.int .i64) [x])] J' σ' w' [(1000000, .arr m false (.int .i64) (insAt xs n i.toNat x)), (1000001, .arr m2 false (.int .i64) [x])] ∧ VR J' σ' w' (.sub (.t 1000000) 0 (n + 1)) u := by
  obtain ⟨u0, us0, rfl, h0, u1, us1, rfl, h1, u2, us2, rfl, h2, rfl⟩ := hv
  have e1 : u1 = .int .i64 i := by have h1 : [u1] = [.int .i64 i] := h1; cases h1; rfl
  subst e1
  obtain ⟨H, A, n0, cap0, k1, k2, k3, A', rfl, k4, _, _⟩ := h0
  obtain ⟨H2, A2, n2, cap2, l1, l2, rfl⟩ := h2
  have hg0 : Heap.get [(1000000, Obj.arr m false (.int .i64) xs), (1000001, .arr m2 false (.int .i64) [x])] 1000000 = some (.arr m false (.int .i64) xs) := by simp [Heap.get]
  have hg1 : Heap.get [(1000000, Obj.arr m false (.int .i64) xs), (1000001, .arr m2 false (.int .i64) [x])] 1000001 = some (.arr m2 false (.int .i64) [x]) := by simp [Heap.get]
  obtain ⟨ow, b, o, cap, cells, e, how, hsz, hhas, hvv, hheap, hcs, hcap, htake⟩ := ints_at hr hg0 (by omega)
  obtain ⟨ow2, vb, vo, vc, vcells, ve, how2, _, hhas2, hvv2, hheap2, hcs2, hcap2, htake2⟩ := ints_at hr hg1 (by simp)
  have hH : H = ow.h := by
    simp only [hdrOf, how, Option.map_some, Option.some.injEq] at k1
    exact k1.symm
  subst hH
  obtain ⟨rfl, rfl, rfl⟩ := Value.slice.inj (hvv.symm.trans k2)
  have hA' : A' = some ⟨b, o, none⟩ := by simpa using k4 b o rfl (by omega)
  subst hA'
  have hH2 : H2 = ow2.h := by
    simp only [hdrOf, how2, Option.map_some, Option.some.injEq] at l1
    exact l1.symm
  subst hH2
  obtain ⟨rfl, rfl, rfl⟩ := Value.slice.inj (hvv2.symm.trans l2)
  have hvb : vb ≠ b := by
    intro e
    subst e
    exact hr.dist 1000000 1000001 _ _ ow ow2 vb (by decide) hg0 hg1 rfl rfl how how2 hhas hhas2
  obtain ⟨a, rfl⟩ : ∃ a : Nat, i = a := ⟨i.toNat, by omega⟩
  simp only [Int.toNat_natCast, Nat.sub_zero]
  have hcell := cell_of hheap htake
  have hvs : w.cell? ⟨vb, vo, none⟩ = some (.int .i64 x) := by simpa using cell_of hheap2 htake2 0 (by simp)
  have hbl : b < w.heap.size := (Array.getElem?_eq_some_iff.1 hheap).1
  refine .inl ⟨enter_of Try.func42 (by decide) rfl _ _, ?_⟩
  have key : ∀ w', w' = (w.drew.setCells b (o + (a + 1)) (((xs.take n).map (Value.int .i64)).drop a)).setCells b (o + a) [.int .i64 x] ∨ (a = n ∧ w' = w.setCells b (o + n) [.int .i64 x]) → ∃ u J' σ', Ending.returned (.slice (some ⟨b, o, none⟩) (n + 1) cap) = .returned u ∧ Out J σ w [(1000000, .arr m false (.int .i64) xs), (1000001, .arr m2 false (.int .i64) [x])] J' σ' w' [(1000000, .arr m false (.int .i64) (insAt xs n a x)), (1000001, .arr m2 false (.int .i64) [x])] ∧ VR J' σ' w' (.sub (.t 1000000) 0 (n + 1)) u := by
    intro w' hw'
    have hall : w'.heap[b]? = some (.cells (Go.Lib.lay (Go.Lib.lay cells (o + (a + 1)) (((xs.take n).map (Value.int .i64)).drop a)) (o + a) [.int .i64 x]) e (0, 0)) ∧ (∀ j, j ≠ b → w'.heap[j]? = w.heap[j]?) ∧ w'.heap.size = w.heap.size ∧ w'.os = w.os ∧ w'.tape = w.tape ∧ w'.output = w.output := by
      rcases hw' with rfl | ⟨rfl, rfl⟩
      · obtain ⟨s1, s2, s3, s4⟩ := setCells_still (b := b) [.int .i64 x] (o + a) (w.drew.setCells b (o + (a + 1)) (((xs.take n).map (Value.int .i64)).drop a))
        obtain ⟨t1, t2, t3, t4⟩ := setCells_still (b := b) (((xs.take n).map (Value.int .i64)).drop a) (o + (a + 1)) w.drew
        refine ⟨setCells_at _ _ _ _ (setCells_at _ _ _ _ hheap), fun j hj => ?_, s1.trans t1, s2.trans t2, s3.trans t3, s4.trans t4⟩
        rw [setCells_off hj, setCells_off hj]; rfl
      · obtain ⟨s1, s2, s3, s4⟩ := setCells_still (b := b) [.int .i64 x] (o + a) w
        have hnil : ((xs.take a).map (Value.int .i64)).drop a = [] := by
          apply List.drop_eq_nil_of_le; simp; omega
        rw [hnil]
        exact ⟨setCells_at _ _ _ _ hheap, fun j hj => setCells_off hj _ _ _, s1, s2, s3, s4⟩
    obtain ⟨hh, hoff, hs1, hs2, hs3, hs4⟩ := hall
    refine ⟨_, J, σ, rfl, ?_, ?_⟩
    · exact lent_out (by simp [Heap.get]) hr (insAt_length (by omega) (by omega)) how hvv hcap (by omega) hh (by rw [lay_size, lay_size]; exact hcs) (lay_window htake (by omega) (by omega) (by omega) x) (fun j _ hj => hoff j hj) (by omega) hs2 hs3 hs4
    · exact ⟨ow.h, _, xs.length, cap, by simp [hdrOf, how], hvv, by omega, _, rfl, fun b' o' e _ => by cases e; simp, fun b' o' e => by cases e; exact ⟨_, rfl⟩, fun e => by cases e⟩
  by_cases han : a = n
  · subst han
    refine Calls.mono (Go.Proofs.Ytjcldkfgpifebaa.V.ins_end b o a cap vb vo vc (.int .i64 x) w (by omega) hcap.2 (by rw [hcell a (by omega)]; rfl) (by simp [World.frozen?, hheap]) hvs rfl) ?_
    rintro e' w' ⟨rfl, rfl⟩
    exact key _ (.inr ⟨rfl, rfl⟩)
  · refine Calls.mono (Go.Proofs.Ytjcldkfgpifebaa.V.ins_shift b o n cap a vb vo vc ((xs.take n).map (Value.int .i64)) (.int .i64 x) w (by omega) (by omega) hcap.2 hvb (by simp; omega) ?_ (fun j hj => by rw [hcell j (by omega)]; rfl) (fun j hj => by simp [World.frozen?, hheap]) hvs ?_ rfl ve e vcells.size cells.size (by simp [World.shape?, hheap2]) (by simp [World.shape?, hheap]) (by omega) (by simp [World.frozen?, hheap2]) (by simp [World.frozen?, hheap2])) ?_
    · intro j v hj
      rw [List.getElem?_map, List.getElem?_take] at hj
      split at hj
      · rw [hcell j (by omega), ← hj, List.getElem?_eq_getElem (by omega)]; rfl
      · cases hj
    · intro v hv
      obtain ⟨y, _, rfl⟩ := List.mem_map.1 hv
      rfl
    · rintro e' w' ⟨rfl, rfl⟩
      exact key _ (.inl rfl)

theorem ints_of {J : Nat → Prop} {w : World} {xs : List Int} {sv : Value} (hJ : ∀ b, J b → b < w.heap.size) (h : DR J w (.slice (.int .i64)) xs [sv]) : V.Ints w.heap.size w sv xs := by
  obtain ⟨A, cap, hsv, hle, hall⟩ := h
  simp only [List.cons.injEq, and_true] at hsv
  subst hsv
  by_cases h0 : List.length xs = 0
  · refine .inl ⟨A, cap, by rw [h0], List.eq_nil_of_length_eq_zero h0⟩
  · obtain ⟨b, o, rfl, hb, _⟩ := hall 0 (by omega)
    refine .inr ⟨b, o, cap, rfl, hJ b hb, fun j hj => ?_⟩
    obtain ⟨b', o', e, hb', es, hes, hc⟩ := hall j hj
    cases e
    have hes : es = [.int .i64 (List.get xs ⟨j, hj⟩)] := hes
    have := hc 0 (.int .i64 (List.get xs ⟨j, hj⟩)) (by rw [hes]; rfl)
    simp only [Ty.size, Nat.mul_one, Nat.add_zero] at this
    rw [this]
    have : (xs[j]?.getD 0) = List.get xs ⟨j, hj⟩ := by simp [List.getElem?_eq_getElem hj]
    rw [this]
theorem app_ok {J : Nat → Prop} {σ : Nat → Option Go.Q.Own} {w : World} {xs : List Int} {us : List Value} (hl : xs.length ≤ 1000000) (hr : HR J σ w []) (hv : VRs J σ w [.nilS, .fn 52 [.rp [.d (.slice (.int .i64)) xs]]] us) :
    CallsV Try.prog 59 us.toArray w fun e w' => ∃ u J' σ', e = .returned u ∧ Out J σ w [] J' σ' w' (if xs.length = 0 then [] else [(64, .arr true false (.int .i64) xs)]) ∧ VR J' σ' w' (if xs.length = 0 then .nilS else .os (.t 64)) u := by
  obtain ⟨u0, us0, rfl, h0, u1, us1, rfl, h1, rfl⟩ := hv
  have e0 : u0 = .slice none 0 0 := h0
  subst e0
  obtain ⟨es, rfl, hes⟩ := h1
  obtain ⟨p, ps, rfl, hp, rfl⟩ := hes
  obtain ⟨b, o, cs, rfl, hJb, hcs, hat⟩ := hp
  obtain ⟨sv, svs, rfl, hsv, rfl⟩ := hcs
  have hc : w.cell? ⟨b, o, none⟩ = some sv := by
    have := hat 0 sv rfl
    simpa using this
  have hI := ints_of hr.lt hsv
  have hb : b < w.heap.size := hr.lt b hJb
  refine .inl ⟨enter_of Try.func59 (by decide) rfl _ _, ?_⟩
  have hm : xs.length ≤ maxLen := by simp only [maxLen]; omega
  have hcall := callsIn_wide.1 (V.appendSeq_in Fence.wide 5 trivial trivial rfl (by omega) b o sv xs hm (by omega) w hb hc hI)
  refine Calls.mono hcall ?_
  rintro e w' ⟨v, rfl, hrow, hnil, hbel⟩
  by_cases h0 : xs.length = 0
  · have hx : xs = [] := List.eq_nil_of_length_eq_zero h0
    rw [if_pos h0, if_pos h0]
    exact ⟨v, J, σ, rfl, new_none hr hbel, hnil.2 hx⟩
  · rw [if_neg h0, if_neg h0]
    obtain ⟨σ', k1, k2⟩ := new_ints hr hrow (fun e => h0 (by rw [e]; rfl)) hbel
    exact ⟨v, J, σ', rfl, k1, k2⟩
/-- A list of numbers, in order. -/
def sortI (xs : List Int) : List Int := xs.mergeSort fun x y => decide (x ≤ y)
theorem sortI_length (xs : List Int) : (sortI xs).length = xs.length := List.length_mergeSort xs
theorem srt_ok {J : Nat → Prop} {σ : Nat → Option Go.Q.Own} {w : World} {m : Bool} {xs : List Int} {us : List Value} (hl : xs.length ≤ 1000000) (hr : HR J σ w [(1000000, .arr m false (.int .i64) xs)]) (hv : VRs J σ w [.os (.t 1000000)] us) :
    CallsV Try.prog 51 us.toArray w fun e w' => ∃ u J' σ', e = .returned u ∧ Out J σ w [(1000000, .arr m false (.int .i64) xs)] J' σ' w' [(1000000, .arr m false (.int .i64) (sortI xs))] ∧ VR J' σ' w' (.tuple []) u := by
  obtain ⟨u0, us0, rfl, h0, rfl⟩ := hv
  obtain ⟨H, A, n, cap, k1, k2, rfl⟩ := h0
  obtain ⟨ow, how, h2, h3, h4, cs, harr, hel⟩ := hr.objs 1000000 (.arr m false (.int .i64) xs) (by simp [Heap.get])
  have hH : H = ow.h := by
    simp only [hdrOf, how, Option.map_some, Option.some.injEq] at k1
    exact k1.symm
  subst hH
  refine .inl ⟨enter_of Try.func51 (by decide) rfl _ _, ?_⟩
  have fin : ∀ (J : Nat → Prop) (σ : Nat → Option Go.Q.Own) (w : World), VR J σ w (.tuple []) (.tuple #[]) := fun _ _ _ => ⟨[], rfl, rfl⟩
  obtain ⟨hclen, harr⟩ := harr
  by_cases hx0 : xs.length = 0
  · have hx : xs = [] := List.eq_nil_of_length_eq_zero hx0
    subst hx
    have hn : n = 0 := by
      rcases harr with ⟨A', e, _⟩ | ⟨b, o, cap', cells, e, hvv, _⟩
      · rw [k2] at e; cases e; rfl
      · rw [k2] at hvv; cases hvv; rfl
    subst hn
    refine Calls.mono (AnyM.slices_Sort_int_none sortA A cap w) ?_
    rintro e w' ⟨rfl, rfl⟩
    rw [show sortI [] = [] from by simp [sortI]]
    exact ⟨_, J, σ, rfl, sort_same hr, fin _ _ _⟩
  · rcases harr with ⟨A', e, h00⟩ | ⟨b, o, cap', cells, e, hvv, hheap, hcs, hcap, htake⟩
    · exact absurd h00 hx0
    · rw [k2] at hvv
      cases hvv
      have hv : ow.h.v = .slice (some ⟨b, o, none⟩) xs.length cap := k2
      have hcells : ∀ i (h : i < xs.length), cs[i]? = some (.int .i64 xs[i]) := by
        intro i hi
        have hd : DR J w (.int .i64) (xs.get ⟨i, hi⟩) (chunk (Ty.size (.int .i64)) cs i) := hel i hi
        have hd : chunk 1 cs i = [.int .i64 (xs.get ⟨i, hi⟩)] := hd
        simp only [chunk, Nat.mul_one] at hd
        have : ((cs.drop i).take 1)[0]? = some (.int .i64 (xs.get ⟨i, hi⟩)) := by rw [hd]; rfl
        rw [List.getElem?_take, if_pos (by omega), List.getElem?_drop] at this
        simpa using this
      have hH : Holds (Value.int .i64) w b o xs.toArray := by
        intro j hj
        have hj' : j < xs.length := by simpa using hj
        have hc := hcells j hj'
        simp only [Ty.size, Nat.mul_one] at htake hcs
        rw [← htake, List.getElem?_take, if_pos hj', List.getElem?_drop] at hc
        have hc : cells[o + j]? = some (.int .i64 xs[j]) := by simpa using hc
        have hg : xs.toArray[j]! = xs[j] := by rw [getElem!_pos _ j (by simpa using hj')]; simp
        constructor
        · rw [hg]; simp [World.cell?, hheap, hc]
        · simp [World.frozen?, hheap]
      have hb : b < w.heap.size := (Array.getElem?_eq_some_iff.1 hheap).1
      refine Calls.mono (AnyM.slices_Sort_int sortA b o cap xs w hH hb (by omega)) ?_
      rintro e' w' ⟨rfl, k, os, rfl⟩
      simp only [Ty.size, Nat.mul_one] at hcs
      exact ⟨_, J, σ, rfl, sort_out hr (sortI_length xs) how hv hheap hcs hcap (by omega) k os, fin _ _ _⟩
theorem srt_nil {J : Nat → Prop} {σ : Nat → Option Go.Q.Own} {w : World} {us : List Value} (hr : HR J σ w []) (hv : VRs J σ w [.nilS] us) :
    CallsV Try.prog 51 us.toArray w fun e w' => ∃ u J' σ', e = .returned u ∧ Out J σ w [] J' σ' w' [] ∧ VR J' σ' w' (.tuple []) u := by
  obtain ⟨u0, us0, rfl, h0, rfl⟩ := hv
  have e0 : u0 = .slice none 0 0 := h0
  subst e0
  refine .inl ⟨enter_of Try.func51 (by decide) rfl _ _, ?_⟩
  refine Calls.mono (AnyM.slices_Sort_int_none sortA none 0 w) ?_
  rintro e w' ⟨rfl, rfl⟩
  exact ⟨_, J, σ, rfl, sort_same hr, [], rfl, rfl⟩
theorem givenOK : CallOK Try.prog given := by
  intro f vs h r hr J σ w us hR hV
  unfold given at hr
  split at hr
  · rename_i hf
    subst hf
    split at hr
    · rename_i g xs
      split at hr
      · rename_i hg
        obtain ⟨rfl, hl⟩ := hg
        cases hr
        have := app_ok hl hR hV
        by_cases h0 : xs.length = 0
        · rw [if_pos h0, if_pos h0] at this
          simpa [h0] using this
        · rw [if_neg h0, if_neg h0] at this
          simpa [h0] using this
      · cases hr
    · cases hr
  · split at hr
    · rename_i hf
      subst hf
      split at hr
      · cases hr; exact srt_nil hR hV
      · rename_i m xs
        split at hr
        · rename_i hl; cases hr; exact srt_ok hl hR hV
        · cases hr
      · cases hr
    · split at hr
      · rename_i hf
        subst hf
        split at hr
        · split at hr
          · rename_i hl; cases hr; exact del_ok hl hR hV
          · cases hr
        · cases hr
      · split at hr
        · rename_i hf
          subst hf
          split at hr
          · split at hr
            · rename_i hl; cases hr; exact ins_ok hl hR hV
            · cases hr
          · cases hr
        · cases hr
theorem pr_given : pr.given = given := rfl
theorem call_app (xs : List Int) (h0 : ¬ xs.length = 0) (hl : xs.length ≤ 1000000) : callOf pr 59 [.nilS, .fn 52 [.rp [L xs]]] [] = some (.os (.t 64), [(64, .arr true false (.int .i64) xs)]) := by
  rw [given_eq pr _ _ _ rfl]
  rw [pr_given]
  unfold given
  simp only [if_true, hl, and_self, h0, if_false]
theorem call_app0 : callOf pr 59 [.nilS, .fn 52 [.rp [L []]]] [] = some (.nilS, []) := by
  rw [given_eq pr _ _ _ rfl]
  rw [pr_given]
  unfold given
  simp
theorem call_srt (m : Bool) (xs : List Int) (hl : xs.length ≤ 1000000) : callOf pr 51 [.os (.t 1000000)] [(1000000, .arr m false (.int .i64) xs)] = some (.tuple [], [(1000000, .arr m false (.int .i64) (sortI xs))]) := by
  rw [given_eq pr _ _ _ rfl]
  rw [pr_given]
  unfold given
  simp only [hl, if_true]
  rfl
theorem call_del (m : Bool) (xs : List Int) (i j : Int) (hij : 0 ≤ i ∧ i < j ∧ j ≤ xs.length) : callOf pr 41 [.os (.t 1000000), .d (.int .i64) i, .d (.int .i64) j] [(1000000, .arr m false (.int .i64) xs)] = some (.sub (.t 1000000) 0 (xs.length - (j.toNat - i.toNat)), [(1000000, .arr m false (.int .i64) (xs.take i.toNat ++ xs.drop j.toNat ++ List.replicate (j.toNat - i.toNat) 0))]) := by
  rw [given_eq pr _ _ _ rfl]
  rw [pr_given]
  unfold given
  simp only [hij, if_true, and_self]
  rfl
theorem call_ins (m m2 : Bool) (xs : List Int) (n : Nat) (i x : Int) (hi : 0 ≤ i ∧ i ≤ n ∧ n < xs.length) : callOf pr 42 [.sub (.t 1000000) 0 n, .d (.int .i64) i, .os (.t 1000001)] [(1000000, .arr m false (.int .i64) xs), (1000001, .arr m2 false (.int .i64) [x])] = some (.sub (.t 1000000) 0 (n + 1), [(1000000, .arr m false (.int .i64) (insAt xs n i.toNat x)), (1000001, .arr m2 false (.int .i64) [x])]) := by
  rw [given_eq pr _ _ _ rfl]
  rw [pr_given]
  unfold given
  simp only [hi, if_true, and_self]
  rfl
theorem call_srt0 : callOf pr 51 [.nilS] [] = some (.tuple [], []) := by
  rw [given_eq pr _ _ _ rfl, pr_given]
  rfl
end Go.Proofs.Ytjcldkfgpifebaa.PI
