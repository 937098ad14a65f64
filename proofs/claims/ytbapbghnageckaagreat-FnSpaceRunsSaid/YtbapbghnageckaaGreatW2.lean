/- What is not interpreted does what is told of it: slices.AppendSeq over slices.Values of numbers, slices.Sort of numbers, slices.Clone. -/
import Derived.Test.YtbapbghnageckaaGreatPIProg
import Derived.Test.YtbapbghnageckaaGreatW1
import Derived.Test.YtbapbghnageckaaGreatVLay
import Derived.Test.YtbapbghnageckaaGreatV6
import Derived.Test.YtbapbghnageckaaGreatGQSort
import Derived.Test.YtbapbghnageckaaGreatGQClone
import Derived.Test.YtbapbghnageckaaGreatGQLib
import Derived.Shelf.SortM.Plain
import Derived.Shelf.SortM.SortNone
namespace Go.Proofs.YtbapbghnageckaaGreat.PI
open Go Go.Q Go.RowKit Go.Sort
set_option maxRecDepth 100000
set_option linter.unusedVariables false
set_option linter.unusedSimpArgs false

theorem ints_of {J : Nat → Prop} {w : World} {xs : List Int} {sv : Value} (hJ : ∀ b, J b → b < w.heap.size) (h : DR J w (.slice (.int .i64)) xs [sv]) : V.Ints w.heap.size w sv xs := by
  obtain ⟨A, cap, hsv, hle, hall⟩ := h
  simp only [List.cons.injEq, and_true] at hsv
  subst hsv
  by_cases h0 : List.length xs = 0
  · refine .inl ⟨A, cap, by rw [h0], List.eq_nil_of_length_eq_zero h0⟩
  · obtain ⟨b, o, rfl, hb, _⟩ := hall 0 (by omega)
    refine .inr ⟨b, o, cap, rfl, hJ b hb, fun j hj => ?_⟩
    obtain ⟨b', o', e, hb', es, hes, hc⟩ := hall j hj
    cases e
    have hes : es = [.int .i64 (List.get xs ⟨j, hj⟩)] := hes
    have := hc 0 (.int .i64 (List.get xs ⟨j, hj⟩)) (by rw [hes]; rfl)
    simp only [Ty.size, Nat.mul_one, Nat.add_zero] at this
    rw [this]
    have : (xs[j]?.getD 0) = List.get xs ⟨j, hj⟩ := by simp [List.getElem?_eq_getElem hj]
    rw [this]
theorem app_ok {J : Nat → Prop} {σ : Nat → Option Go.Q.Own} {w : World} {xs : List Int} {us : List Value} (hl : xs.length ≤ 1000000) (hr : HR J σ w []) (hv : VRs J σ w [.nilS, .fn 146 [.rp [.d (.slice (.int .i64)) xs]]] us) :
    CallsV Tryz.prog 150 us.toArray w fun e w' => ∃ u J' σ', e = .returned u ∧ Out J σ w [] J' σ' w' (if xs.length = 0 then [] else [(64, .arr true false (.int .i64) xs)]) ∧ VR J' σ' w' (if xs.length = 0 then .nilS else .os (.t 64)) u := by
  obtain ⟨u0, us0, rfl, h0, u1, us1, rfl, h1, rfl⟩ := hv
  have e0 : u0 = .slice none 0 0 := h0
  subst e0
  obtain ⟨es, rfl, hes⟩ := h1
  obtain ⟨p, ps, rfl, hp, rfl⟩ := hes
  obtain ⟨b, o, cs, rfl, hJb, hcs, hat⟩ := hp
  obtain ⟨sv, svs, rfl, hsv, rfl⟩ := hcs
  have hc : w.cell? ⟨b, o, none⟩ = some sv := by
    have := hat 0 sv rfl
    simpa using this
  have hI := ints_of hr.lt hsv
  have hb : b < w.heap.size := hr.lt b hJb
  refine .inl ⟨enter_of Tryz.func150 (by decide) rfl _ _, ?_⟩
  have hm : xs.length ≤ maxLen := by simp only [maxLen]; omega
  have hcall := callsIn_wide.1 (V.appendSeq_in Fence.wide 5 trivial trivial rfl (by omega) b o sv xs hm (by omega) w hb hc hI)
  refine Calls.mono hcall ?_
  rintro e w' ⟨v, rfl, hrow, hnil, hbel⟩
  by_cases h0 : xs.length = 0
  · have hx : xs = [] := List.eq_nil_of_length_eq_zero h0
    rw [if_pos h0, if_pos h0]
    exact ⟨v, J, σ, rfl, new_none hr hbel, hnil.2 hx⟩
  · rw [if_neg h0, if_neg h0]
    obtain ⟨σ', k1, k2⟩ := new_ints hr hrow (fun e => h0 (by rw [e]; rfl)) hbel
    exact ⟨v, J, σ', rfl, k1, k2⟩
def sortI (xs : List Int) : List Int := xs.mergeSort fun x y => decide (x ≤ y)
theorem sortI_length (xs : List Int) : (sortI xs).length = xs.length := List.length_mergeSort xs
theorem srt_ok {J : Nat → Prop} {σ : Nat → Option Go.Q.Own} {w : World} {m : Bool} {xs : List Int} {us : List Value} (hl : xs.length ≤ 1000000) (hr : HR J σ w [(1000000, .arr m false (.int .i64) xs)]) (hv : VRs J σ w [.os (.t 1000000)] us) :
    CallsV Tryz.prog 145 us.toArray w fun e w' => ∃ u J' σ', e = .returned u ∧ Out J σ w [(1000000, .arr m false (.int .i64) xs)] J' σ' w' [(1000000, .arr m false (.int .i64) (sortI xs))] ∧ VR J' σ' w' (.tuple []) u := by
  obtain ⟨u0, us0, rfl, h0, rfl⟩ := hv
  obtain ⟨H, A, n, cap, k1, k2, rfl⟩ := h0
  obtain ⟨ow, how, h2, h3, h4, cs, harr, hel⟩ := hr.objs 1000000 (.arr m false (.int .i64) xs) (by simp [Heap.get])
  have hH : H = ow.h := by
    simp only [hdrOf, how, Option.map_some, Option.some.injEq] at k1
    exact k1.symm
  subst hH
  refine .inl ⟨enter_of Tryz.func145 (by decide) rfl _ _, ?_⟩
  have fin : ∀ (J : Nat → Prop) (σ : Nat → Option Go.Q.Own) (w : World), VR J σ w (.tuple []) (.tuple #[]) := fun _ _ _ => ⟨[], rfl, rfl⟩
  obtain ⟨hclen, harr⟩ := harr
  by_cases hx0 : xs.length = 0
  · have hx : xs = [] := List.eq_nil_of_length_eq_zero hx0
    subst hx
    have hn : n = 0 := by
      rcases harr with ⟨A', e, _⟩ | ⟨b, o, cap', cells, e, hvv, _⟩
      · rw [k2] at e; cases e; rfl
      · rw [k2] at hvv; cases hvv; rfl
    subst hn
    refine Calls.mono (AnyM.slices_Sort_int_none sortA A cap w) ?_
    rintro e w' ⟨rfl, rfl⟩
    rw [show sortI [] = [] from by simp [sortI]]
    exact ⟨_, J, σ, rfl, sort_same hr, fin _ _ _⟩
  · rcases harr with ⟨A', e, h00⟩ | ⟨b, o, cap', cells, e, hvv, hheap, hcs, hcap, htake⟩
    · exact absurd h00 hx0
    · rw [k2] at hvv
      cases hvv
      have hv : ow.h.v = .slice (some ⟨b, o, none⟩) xs.length cap := k2
      have hcells : ∀ i (h : i < xs.length), cs[i]? = some (.int .i64 xs[i]) := by
        intro i hi
        have hd : DR J w (.int .i64) (xs.get ⟨i, hi⟩) (chunk (Ty.size (.int .i64)) cs i) := hel i hi
        have hd : chunk 1 cs i = [.int .i64 (xs.get ⟨i, hi⟩)] := hd
        simp only [chunk, Nat.mul_one] at hd
        have : ((cs.drop i).take 1)[0]? = some (.int .i64 (xs.get ⟨i, hi⟩)) := by rw [hd]; rfl
        rw [List.getElem?_take, if_pos (by omega), List.getElem?_drop] at this
        simpa using this
      have hH : Holds (Value.int .i64) w b o xs.toArray := by
        intro j hj
        have hj' : j < xs.length := by simpa using hj
        have hc := hcells j hj'
        simp only [Ty.size, Nat.mul_one] at htake hcs
        rw [← htake, List.getElem?_take, if_pos hj', List.getElem?_drop] at hc
        have hc : cells[o + j]? = some (.int .i64 xs[j]) := by simpa using hc
        have hg : xs.toArray[j]! = xs[j] := by rw [getElem!_pos _ j (by simpa using hj')]; simp
        constructor
        · rw [hg]; simp [World.cell?, hheap, hc]
        · simp [World.frozen?, hheap]
      have hb : b < w.heap.size := (Array.getElem?_eq_some_iff.1 hheap).1
      refine Calls.mono (AnyM.slices_Sort_int sortA b o cap xs w hH hb (by omega)) ?_
      rintro e' w' ⟨rfl, k, os, rfl⟩
      simp only [Ty.size, Nat.mul_one] at hcs
      exact ⟨_, J, σ, rfl, sort_out hr (sortI_length xs) how hv hheap hcs hcap (by omega) k os, fin _ _ _⟩
theorem srt_nil {J : Nat → Prop} {σ : Nat → Option Go.Q.Own} {w : World} {us : List Value} (hr : HR J σ w []) (hv : VRs J σ w [.nilS] us) :
    CallsV Tryz.prog 145 us.toArray w fun e w' => ∃ u J' σ', e = .returned u ∧ Out J σ w [] J' σ' w' [] ∧ VR J' σ' w' (.tuple []) u := by
  obtain ⟨u0, us0, rfl, h0, rfl⟩ := hv
  have e0 : u0 = .slice none 0 0 := h0
  subst e0
  refine .inl ⟨enter_of Tryz.func145 (by decide) rfl _ _, ?_⟩
  refine Calls.mono (AnyM.slices_Sort_int_none sortA none 0 w) ?_
  rintro e w' ⟨rfl, rfl⟩
  exact ⟨_, J, σ, rfl, sort_same hr, [], rfl, rfl⟩
theorem cloneI_ok {J : Nat → Prop} {σ : Nat → Option Go.Q.Own} {w : World} {xs : List (Ty.Den (.int .i64))} {us : List Value} (hl : xs.length ≤ 10000000) (hr : HR J σ w []) (hv : VRs J σ w [.d (.slice (.int .i64)) xs] us) :
    CallsV Tryz.prog 97 us.toArray w fun e w' => ∃ u J' σ', e = .returned u ∧ Out J σ w [] J' σ' w' (cloneV (.int .i64) xs).2 ∧ VR J' σ' w' (cloneV (.int .i64) xs).1 u :=
  clone_ok (ρ := cloneI_ren) cloneI 97 rfl (.int .i64) rfl (by decide) _ _ _ rfl rfl rfl rfl (by decide) rfl Tryz.sizeOf2 (fun args w => enter_of Tryz.func97 (by decide) rfl args w) hl hr hv
theorem cloneE_ok {J : Nat → Prop} {σ : Nat → Option Go.Q.Own} {w : World} {xs : List (Ty.Den (tyE))} {us : List Value} (hl : xs.length ≤ 10000000) (hr : HR J σ w []) (hv : VRs J σ w [.d (.slice (tyE)) xs] us) :
    CallsV Tryz.prog 110 us.toArray w fun e w' => ∃ u J' σ', e = .returned u ∧ Out J σ w [] J' σ' w' (cloneV (tyE) xs).2 ∧ VR J' σ' w' (cloneV (tyE) xs).1 u :=
  clone_ok (ρ := cloneE_ren) cloneE 110 rfl (tyE) rfl (by decide) _ _ _ rfl rfl rfl rfl (by decide) rfl Tryz.sizeOf63 (fun args w => enter_of Tryz.func110 (by decide) rfl args w) hl hr hv
theorem cloneC_ok {J : Nat → Prop} {σ : Nat → Option Go.Q.Own} {w : World} {xs : List (Ty.Den (tyC))} {us : List Value} (hl : xs.length ≤ 10000000) (hr : HR J σ w []) (hv : VRs J σ w [.d (.slice (tyC)) xs] us) :
    CallsV Tryz.prog 109 us.toArray w fun e w' => ∃ u J' σ', e = .returned u ∧ Out J σ w [] J' σ' w' (cloneV (tyC) xs).2 ∧ VR J' σ' w' (cloneV (tyC) xs).1 u :=
  clone_ok (ρ := cloneC_ren) cloneC 109 rfl (tyC) rfl (by decide) _ _ _ rfl rfl rfl rfl (by decide) rfl Tryz.sizeOf108 (fun args w => enter_of Tryz.func109 (by decide) rfl args w) hl hr hv
theorem cloneW_ok {t : Ty} {f : Nat} (hok : ∀ {J : Nat → Prop} {σ : Nat → Option Go.Q.Own} {w : World} {xs : List t.Den} {us : List Value}, xs.length ≤ 10000000 → HR J σ w [] → VRs J σ w [.d (.slice t) xs] us →
      CallsV Tryz.prog f us.toArray w fun e w' => ∃ u J' σ', e = .returned u ∧ Out J σ w [] J' σ' w' (cloneV t xs).2 ∧ VR J' σ' w' (cloneV t xs).1 u)
    {vs : List AV} {h : Heap} {r : AV × Heap} (hr : cloneW t vs h = some r) {J : Nat → Prop} {σ : Nat → Option Go.Q.Own} {w : World} {us : List Value} (hR : HR J σ w h) (hV : VRs J σ w vs us) :
    CallsV Tryz.prog f us.toArray w fun e w' => ∃ u J' σ', e = .returned u ∧ Out J σ w h J' σ' w' r.2 ∧ VR J' σ' w' r.1 u := by
  unfold cloneW at hr
  split at hr
  · rename_i v
    rw [Option.bind_eq_some_iff] at hr
    obtain ⟨xs, h1, hr⟩ := hr
    split at hr
    · rename_i hl
      cases hr
      have hv : v = .d (.slice t) xs := by
        unfold asDen at h1
        split at h1
        · rename_i t' x
          split at h1
          · rename_i ht
            subst ht
            simp only [castDen] at h1
            cases h1; rfl
          · cases h1
        · cases h1
      subst hv
      exact hok hl hR hV
    · cases hr
  · cases hr
theorem insW_ok {vs : List AV} {h : Heap} {r : AV × Heap} (hr : insW tyC vs h = some r) {J : Nat → Prop} {σ : Nat → Option Go.Q.Own} {w : World} {us : List Value} (hR : HR J σ w h) (hV : VRs J σ w vs us) :
    CallsV Tryz.prog 111 us.toArray w fun e w' => ∃ u J' σ', e = .returned u ∧ Out J σ w h J' σ' w' r.2 ∧ VR J' σ' w' r.1 u := by
  unfold insW at hr
  split at hr
  · rename_i i m t' xs
    rw [Option.bind_eq_some_iff] at hr
    obtain ⟨ys, h1, hr⟩ := hr
    obtain ⟨rfl, hyh1⟩ := asList_some h1; cases eq_of_heq hyh1
    unfold insN at hr
    split at hr
    · split at hr
      · rename_i x hi; subst hi; cases hr
        exact insN_ok (.inl rfl) hR hV
      · cases hr
    · cases hr
  · rename_i i m t' xs
    rw [Option.bind_eq_some_iff] at hr
    obtain ⟨ys, h1, hr⟩ := hr
    obtain ⟨rfl, hyh1⟩ := asList_some h1; cases eq_of_heq hyh1
    unfold insN at hr
    split at hr
    · split at hr
      · rename_i x hi; subst hi; cases hr
        exact insN_ok (.inr rfl) hR hV
      · cases hr
    · cases hr
  · rename_i i m1 t1 zs m t' xs
    rw [Option.bind_eq_some_iff] at hr
    obtain ⟨ys, h1, hr⟩ := hr
    rw [Option.bind_eq_some_iff] at hr
    obtain ⟨ys2, h2, hr⟩ := hr
    obtain ⟨rfl, hyh1⟩ := asList_some h1; cases eq_of_heq hyh1
    obtain ⟨rfl, hyh2⟩ := asList_some h2; cases eq_of_heq hyh2
    unfold insR at hr
    split at hr
    · split at hr
      · rename_i x hi; obtain ⟨rfl, hl⟩ := hi; cases hr
        have := insR_ok (n := List.length ys) (.inl ⟨rfl, rfl⟩) hl hR hV
        rw [List.take_length] at this
        exact this
      · cases hr
    · cases hr
  · rename_i n i m1 t1 zs m t' xs
    rw [Option.bind_eq_some_iff] at hr
    obtain ⟨ys, h1, hr⟩ := hr
    obtain ⟨rfl, hyh1⟩ := asList_some h1; cases eq_of_heq hyh1
    split at hr
    · rename_i hn
      rw [Option.bind_eq_some_iff] at hr
      obtain ⟨ys2, h2, hr⟩ := hr
      obtain ⟨rfl, hyh2⟩ := asList_some h2; cases eq_of_heq hyh2
      unfold insR at hr
      split at hr
      · split at hr
        · rename_i x hi; obtain ⟨rfl, hl⟩ := hi; cases hr
          rw [List.length_take, Nat.min_eq_left hn] at hl
          exact insR_ok (n := n) (.inr ⟨rfl, hn⟩) hl hR hV
        · cases hr
      · cases hr
    · cases hr
  · cases hr
theorem delW_ok {vs : List AV} {h : Heap} {r : AV × Heap} (hr : delW tyC vs h = some r) {J : Nat → Prop} {σ : Nat → Option Go.Q.Own} {w : World} {us : List Value} (hR : HR J σ w h) (hV : VRs J σ w vs us) :
    CallsV Tryz.prog 112 us.toArray w fun e w' => ∃ u J' σ', e = .returned u ∧ Out J σ w h J' σ' w' r.2 ∧ VR J' σ' w' r.1 u := by
  unfold delW at hr
  split at hr
  · rename_i i j m t' xs
    rw [Option.bind_eq_some_iff] at hr
    obtain ⟨ys, h1, hr⟩ := hr
    obtain ⟨rfl, hyh1⟩ := asList_some h1; cases eq_of_heq hyh1
    unfold delR at hr
    split at hr
    · rename_i hi; cases hr
      have := delC_ok (n := List.length ys) (.inl ⟨rfl, rfl⟩) hi hR hV
      rw [List.take_length] at this
      exact this
    · cases hr
  · rename_i n i j m t' xs
    rw [Option.bind_eq_some_iff] at hr
    obtain ⟨ys, h1, hr⟩ := hr
    obtain ⟨rfl, hyh1⟩ := asList_some h1; cases eq_of_heq hyh1
    split at hr
    · rename_i hn
      unfold delR at hr
      split at hr
      · rename_i hi; cases hr
        rw [List.length_take, Nat.min_eq_left hn] at hi
        exact delC_ok (n := n) (.inr ⟨rfl, hn⟩) hi hR hV
      · cases hr
    · cases hr
  · cases hr
theorem givenOK : CallOK Tryz.prog given := by
  intro f vs h r hr J σ w us hR hV
  unfold given at hr
  split at hr
  · rename_i hf
    subst hf
    split at hr
    · rename_i g xs
      split at hr
      · rename_i hg
        obtain ⟨rfl, hl⟩ := hg
        cases hr
        have := app_ok hl hR hV
        by_cases h0 : xs.length = 0
        · rw [if_pos h0, if_pos h0] at this
          simpa [h0] using this
        · rw [if_neg h0, if_neg h0] at this
          simpa [h0] using this
      · cases hr
    · cases hr
  · split at hr
    · rename_i hf
      subst hf
      split at hr
      · cases hr; exact srt_nil hR hV
      · rename_i m xs
        split at hr
        · rename_i hl; cases hr; exact srt_ok hl hR hV
        · cases hr
      · cases hr
    · split at hr
      · rename_i hf
        subst hf
        exact cloneW_ok cloneI_ok hr hR hV
      · split at hr
        · rename_i hf
          subst hf
          exact cloneW_ok cloneE_ok hr hR hV
        · split at hr
          · rename_i hf
            subst hf
            exact cloneW_ok cloneC_ok hr hR hV
          · split at hr
            · rename_i hf
              subst hf
              exact insW_ok hr hR hV
            · split at hr
              · rename_i hf
                subst hf
                exact delW_ok hr hR hV
              · cases hr
theorem pr_given : pr.given = given := rfl
theorem call_app (xs : List Int) (h0 : ¬ xs.length = 0) (hl : xs.length ≤ 1000000) : callOf pr 150 [.nilS, .fn 146 [.rp [L xs]]] [] = some (.os (.t 64), [(64, .arr true false (.int .i64) xs)]) := by
  rw [given_eq pr _ _ _ rfl]
  rw [pr_given]
  unfold given
  simp only [if_true, hl, and_self, h0, if_false]
theorem call_app0 : callOf pr 150 [.nilS, .fn 146 [.rp [L []]]] [] = some (.nilS, []) := by
  rw [given_eq pr _ _ _ rfl]
  rw [pr_given]
  unfold given
  simp
theorem call_srt (m : Bool) (xs : List Int) (hl : xs.length ≤ 1000000) : callOf pr 145 [.os (.t 1000000)] [(1000000, .arr m false (.int .i64) xs)] = some (.tuple [], [(1000000, .arr m false (.int .i64) (sortI xs))]) := by
  rw [given_eq pr _ _ _ rfl]
  rw [pr_given]
  unfold given
  simp only [hl, if_true]
  rfl
theorem call_srt0 : callOf pr 145 [.nilS] [] = some (.tuple [], []) := by
  rw [given_eq pr _ _ _ rfl, pr_given]
  rfl
theorem call_cli (xs : List (Ty.Den (.int .i64))) (hl : xs.length ≤ 10000000) : callOf pr 97 [.d (.slice (.int .i64)) xs] [] = some (cloneV (.int .i64) xs) := by
  rw [given_eq pr _ _ _ rfl, pr_given]
  unfold given cloneW
  simp [asDen_self, hl]
theorem call_cle (xs : List (Ty.Den (tyE))) (hl : xs.length ≤ 10000000) : callOf pr 110 [.d (.slice (tyE)) xs] [] = some (cloneV (tyE) xs) := by
  rw [given_eq pr _ _ _ rfl, pr_given]
  unfold given cloneW
  simp [asDen_self, hl]
theorem call_clc (xs : List (Ty.Den (tyC))) (hl : xs.length ≤ 10000000) : callOf pr 109 [.d (.slice (tyC)) xs] [] = some (cloneV (tyC) xs) := by
  rw [given_eq pr _ _ _ rfl, pr_given]
  unfold given cloneW
  simp [asDen_self, hl]
theorem given_ins (vs : List AV) (h : Heap) : given 111 vs h = insW tyC vs h := by unfold given; simp
theorem given_del (vs : List AV) (h : Heap) : given 112 vs h = delW tyC vs h := by unfold given; simp
variable {m m1 : Bool} {x : Ty.Den tyC} {ys : List (Ty.Den tyC)} {n : Nat}
theorem call_insemp : callOf pr 111 [.empS, .d (.int .i64) (0 : Int), .os (.t 1000000)] [(1000000, .arr m false tyC [x])] = some (.os (.t 64), [(64, .arr true false tyC [x]), (1000000, .arr m false tyC [x])]) := by
  rw [given_eq pr _ _ _ rfl, pr_given, given_ins, insW_emp]
theorem call_insos (h : ys.length ≤ 1000000) : callOf pr 111 [.os (.t 1000000), .d (.int .i64) (0 : Int), .os (.t 1000001)] [(1000000, .arr m1 false tyC ys), (1000001, .arr m false tyC [x])] = some (.os (.t 1000000), [(1000000, .arr true false tyC (x :: ys)), (1000001, .arr m false tyC [x])]) := by
  rw [given_eq pr _ _ _ rfl, pr_given, given_ins, insW_os h]
theorem call_inssub (hn : n ≤ ys.length) (h : n ≤ 1000000) : callOf pr 111 [.sub (.t 1000000) 0 n, .d (.int .i64) (0 : Int), .os (.t 1000001)] [(1000000, .arr m1 false tyC ys), (1000001, .arr m false tyC [x])] = some (.os (.t 1000000), [(1000000, .arr true false tyC (x :: ys.take n)), (1000001, .arr m false tyC [x])]) := by
  rw [given_eq pr _ _ _ rfl, pr_given, given_ins, insW_sub hn h]
theorem call_delos {i : Int} (h0 : 0 ≤ i) (h1 : i < ys.length) : callOf pr 112 [.os (.t 1000000), .d (.int .i64) i, .d (.int .i64) (i + 1)] [(1000000, .arr m false tyC ys)] = some (.os (.t 1000000), [(1000000, .arr true false tyC (ys.eraseIdx i.toNat))]) := by
  rw [given_eq pr _ _ _ rfl, pr_given, given_del, delW_os h0 h1 rfl]
theorem call_delsub {i : Int} (hn : n ≤ ys.length) (h0 : 0 ≤ i) (h1 : i < n) : callOf pr 112 [.sub (.t 1000000) 0 n, .d (.int .i64) i, .d (.int .i64) (i + 1)] [(1000000, .arr m false tyC ys)] = some (.os (.t 1000000), [(1000000, .arr true false tyC ((ys.take n).eraseIdx i.toNat))]) := by
  rw [given_eq pr _ _ _ rfl, pr_given, given_del, delW_sub hn h0 h1 rfl]
end Go.Proofs.YtbapbghnageckaaGreat.PI
