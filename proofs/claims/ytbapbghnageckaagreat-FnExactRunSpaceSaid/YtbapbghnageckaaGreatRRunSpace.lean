/- The row of the law FnExactRunSpace: it answers true for all arguments. -/
import Derived.Test.YtbapbghnageckaaGreatRows
import Derived.Test.YtbapbghnageckaaGreatU14
import Derived.Test.YtbapbghnageckaaGreatGQRow
import Derived.Test.YtbapbghnageckaaGreatGQGiven
import Derived.WalkKit
import Derived.ProofKit
import Derived.OpenShut
import Derived.ShutString
import Derived.ChangeOld
import Derived.Below
import Derived.SizedLaws
import Derived.Carry
namespace Go.Proofs.YtbapbghnageckaaGreat.fnExactRunSpace
open Go.ChangeShapes Go.WideShapes Go.ChangeAt Go.RowKit
open Go.Q (trod_DR tyIs)
set_option linter.unusedVariables false
theorem own : ownKnob Tryz.prog.godebug = none := by kernel_rfl
theorem laidOut : laidOutB Tryz.prog = true := by kernel_rfl

theorem callOK : Go.Q.CallOK Tryz.prog (Go.Q.callOf PI.pr) :=
  Go.Q.Call_sound (by kernel_rfl) (PI.tabOK _) PI.givenOK (fun f F h => by
    have h1 := PI.fns _ (Go.Q.lookT_mem h)
    refine ⟨h1.1, ?_⟩
    have h2 := h1.2
    simp only [Go.Q.fnOkB, h, Bool.and_eq_true, bne_iff_ne] at h2
    obtain ⟨h3, h4⟩ := h2
    cases hb : F.body with
    | none => rw [hb] at h4; cases h4
    | some b => rw [hb] at h4; exact ⟨h3, b, rfl, h4⟩)

theorem walk (W : World) (us : List Value) (avs : List Go.Q.AV) (hV : Go.Q.VRs (fun b => b < W.heap.size) (fun _ => none) W avs us) (hl : Go.Q.callOf PI.pr 4 avs [] = some (.d .bool true, [])) :
    Calls Tryz.prog 4 us.toArray W fun e w' => e = .returned (.bool true) ∧ Go.Q.Moved (fun _ => False) W w' :=
  Go.Q.law_walk callOK (Go.Q.enter_of Tryz.func4 (by decide) rfl) hl hV

abbrev ty0 : Go.Q.Ty := (.agg (.cons (.slice (.int .i64)) (.cons (.slice (.slice (.agg (.cons (.int .i64) (.cons .bool (.cons .bool (.cons .bool .nil))))))) (.cons (.slice (.agg (.cons (.int .i64) (.cons (.int .i64) (.cons .bool .nil))))) .nil))))
abbrev ty1 : Go.Q.Ty := (.slice (.agg (.cons (.int .i64) (.cons (.int .i64) .nil))))
set_option maxRecDepth 100000 in
theorem lifted (os : Os) (started : os.Started) (H : Type) (enc : TypeId × Value → H) :
    ReturnsInHanded {} Tryz.checked os 4 .any (Rows.fnExactRunSpaceSpec.pre6 enc Tryz.prog Tryz.f4 Rows.fnExactRunSpaceRow.domain false) (Rows.fnExactRunSpaceSpec.post enc Tryz.prog Tryz.f4 false true false false) := by
  refine returnsInHanded_of_change_sized (C := Tryz.checked) own started (by kernel_rfl) Tryz.func4
    (ChangeSpec.witness6 (enc := enc) (C := Tryz.checked) false ⟨#[], #[.agg #[.slice none 0 0, .slice none 0 0, .slice none 0 0], .slice none 0 0], []⟩ 8 (by kernel_rfl) (by kernel_rfl) (by kernel_rfl) (by kernel_rfl)) ?_
  intro W base args ds gs before hval0 hW hcnd hsz0 _
  have hsz : (DataW.weightsEach Tryz.prog (Tryz.f4.params.toList ++ Rows.fnExactRunSpaceSpec.plain.varTypes Tryz.prog) (ds ++ gs)).all (· ≤ reachBytes) = true := hsz0
  have hval : ∀ (j : Nat) t v, Tryz.f4.params[j]? = some t → args[j]? = some v → Value.okWide Tryz.prog W .any base t v := hval0
  have hW' := hW
  obtain ⟨p, q, hA0, hV, rfl, hfz, hnd⟩ := hW
  have hA : DataW.TrodAll enc Tryz.prog W 0 (fun _ => true) true Tryz.f4.params.toList args.toList ds p := hA0
  rw [Tryz.params4] at hA hval hsz
  obtain ⟨v0, vs0, d0, ds0, p0, q0, hargs0, rfl, rfl, h0, r0⟩ := trodAll_cons hA
  obtain ⟨v1, vs1, d1, ds1, p1, q1, hargs1, rfl, rfl, h1, r1⟩ := trodAll_cons r0
  obtain ⟨rfl, rfl, rfl⟩ := trodAll_nil r1
  subst hargs1
  obtain rfl : args = #[v0, v1] := by cases args; simp_all
  obtain ⟨rfl, rfl⟩ := trodVars_none hV
  have k0 := h0
  have lt0 : ∀ x ∈ p0, x.block < W.heap.size := by obtain ⟨m, hm⟩ := k0; exact DataW.trod_lt m _ _ _ hm
  obtain ⟨cs0, rfl⟩ : ∃ cs, v0 = .agg cs := by
    have h := hval 0 26 v0 rfl rfl
    unfold Value.okWide at h
    rw [Tryz.underlying26] at h
    obtain ⟨cs, h, _⟩ := h
    exact ⟨cs, h⟩
  obtain ⟨fuel0, hf0⟩ := h0
  obtain ⟨y0, hd0, hw0⟩ := trod_DR ty0 26 fuel0 cs0.toList (d0, p0) (by kernel_rfl) hf0 (by
    rw [List.all_eq_true] at hsz ⊢
    exact fun n hn => hsz n (DataW.weights_mem_each (j := 0) (t := 26) (d := d0) rfl rfl n hn))
  have b0 : Go.Q.Bd Go.Q.wide ty0 y0 := Go.Q.Bd.of_WF ty0 rfl y0 hw0
  have k1 := h1
  have lt1 : ∀ x ∈ p1, x.block < W.heap.size := by obtain ⟨m, hm⟩ := k1; exact DataW.trod_lt m _ _ _ hm
  obtain ⟨a1, n1, c1, rfl⟩ : ∃ a n c, v1 = .slice a n c := by
    have h := hval 1 42 v1 rfl rfl
    unfold Value.okWide at h
    rw [Tryz.underlying42] at h
    cases v1 <;> first | exact ⟨_, _, _, rfl⟩ | cases h
  obtain ⟨fuel1, hf1⟩ := h1
  obtain ⟨y1, hd1, hw1⟩ := trod_DR ty1 42 fuel1 [.slice a1 n1 c1] (d1, p1) (by kernel_rfl) hf1 (by
    rw [List.all_eq_true] at hsz ⊢
    exact fun n hn => hsz n (DataW.weights_mem_each (j := 1) (t := 42) (d := d1) rfl rfl n hn))
  have b1 : Go.Q.Bd Go.Q.wide ty1 y1 := Go.Q.Bd.of_WF ty1 rfl y1 hw1
  clear hA0 hval0 hsz0 hsz
  have hVR : Go.Q.VRs (fun b => b < W.heap.size) (fun _ => none) W [.agg (Go.Q.flat ty0 y0), .d ty1 y1] [.agg cs0, .slice a1 n1 c1] := ⟨_, _, rfl, ⟨cs0.toList, rfl, Go.Q.VRs.flat ty0 y0 _ hd0⟩, ⟨_, _, rfl, (by obtain ⟨u, hu, hv⟩ := Go.Q.VRs.single (Go.Q.VRs.flat ty1 y1 _ hd1); cases hu; exact hv), rfl⟩⟩
  refine (walk W _ _ hVR (PI.law_runspace y0.1 y0.2.1 y0.2.2.1 y1 b0 b1)).mono fun e W' ⟨he, hm⟩ => ?_
  have bel : Below W.heap.size W W' := ⟨hm.os, hm.tape, hm.output, hm.size, fun k hk => hm.block k hk (fun h => h)⟩
  subst he
  exact ⟨_, rfl, _, _, _, [], _, [], hW', trodAll_mk1 (shut_bool Tryz.underlying4 _), (trodAll_cons_mk (Below.trod laidOut (by kernel_rfl) (of_decide_eq_true (by kernel_rfl)) k0 bel lt0) (trodAll_cons_mk (Below.trod laidOut (by kernel_rfl) (of_decide_eq_true (by kernel_rfl)) k1 bel lt1) trodAll_mk0)), rfl, bel.frame _, fun h => by cases h⟩
theorem over : Rows.fnExactRunSpaceRow.holds Tryz.pinned (OpenSpec.ofChange Rows.fnExactRunSpaceSpec) :=
  OpenClaim.holds_of_wide 4 Tryz.f4 rfl rfl rfl rfl rfl rfl rfl ⟨rfl, rfl, rfl, rfl, rfl⟩ rfl rfl rfl rfl rfl (by kernel_rfl) Tryz.func4 (by kernel_rfl)
    (of_decide_eq_true (by kernel_rfl)) (by unfold Func.isWrapper; first | (rw [if_pos (by decide +kernel)]; kernel_rfl) | (rw [if_neg (by decide +kernel)]; exact ⟨rfl, rfl⟩))
    (fun os started H enc _ => lifted os started H enc)
theorem proved : Rows.FnExactRunSpaceSaid := over
#print axioms proved
end Go.Proofs.YtbapbghnageckaaGreat.fnExactRunSpace
namespace Go.Proofs.YtbapbghnageckaaGreat
theorem fnExactRunSpace_holds : Rows.FnExactRunSpaceSaid := fnExactRunSpace.proved
end Go.Proofs.YtbapbghnageckaaGreat
