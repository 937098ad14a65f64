/- The row of the law FnSpaceRuns: it answers true for all arguments. -/
import Derived.Test.YtbapbghnageckaaGreatRows
import Derived.Test.YtbapbghnageckaaGreatX15
import Derived.Test.YtbapbghnageckaaGreatGQRow
import Derived.Test.YtbapbghnageckaaGreatGQGiven
import Derived.WalkKit
import Derived.ProofKit
import Derived.OpenShut
import Derived.ShutString
import Derived.ChangeOld
import Derived.Below
import Derived.SizedLaws
import Derived.Carry
namespace Go.Proofs.YtbapbghnageckaaGreat.fnSpaceRuns
open Go.ChangeShapes Go.WideShapes Go.ChangeAt Go.RowKit
open Go.Q (trod_DR tyIs)
set_option linter.unusedVariables false
theorem own : ownKnob Tryz.prog.godebug = none := by kernel_rfl
theorem laidOut : laidOutB Tryz.prog = true := by kernel_rfl

theorem callOK : Go.Q.CallOK Tryz.prog (Go.Q.callOf PI.pr) :=
  Go.Q.Call_sound (by kernel_rfl) (PI.tabOK _) PI.givenOK (fun f F h => by
    have h1 := PI.fns _ (Go.Q.lookT_mem h)
    refine ⟨h1.1, ?_⟩
    have h2 := h1.2
    simp only [Go.Q.fnOkB, h, Bool.and_eq_true, bne_iff_ne] at h2
    obtain ⟨h3, h4⟩ := h2
    cases hb : F.body with
    | none => rw [hb] at h4; cases h4
    | some b => rw [hb] at h4; exact ⟨h3, b, rfl, h4⟩)

theorem walk (W : World) (us : List Value) (avs : List Go.Q.AV) (hV : Go.Q.VRs (fun b => b < W.heap.size) (fun _ => none) W avs us) (hl : Go.Q.callOf PI.pr 5 avs [] = some (.d .bool true, [])) :
    Calls Tryz.prog 5 us.toArray W fun e w' => e = .returned (.bool true) ∧ Go.Q.Moved (fun _ => False) W w' :=
  Go.Q.law_walk callOK (Go.Q.enter_of Tryz.func5 (by decide) rfl) hl hV

abbrev ty0 : Go.Q.Ty := (.slice (.int .u8))
abbrev ty1 : Go.Q.Ty := (.slice (.int .u8))
set_option maxRecDepth 100000 in
theorem lifted (os : Os) (started : os.Started) (H : Type) (enc : TypeId × Value → H) :
    ReturnsInHanded {} Tryz.checked os 5 .any (Rows.fnSpaceRunsSpec.pre6 enc Tryz.prog Tryz.f5 Rows.fnSpaceRunsRow.domain false) (Rows.fnSpaceRunsSpec.post enc Tryz.prog Tryz.f5 false true false false) := by
  refine returnsInHanded_of_change_sized (C := Tryz.checked) own started (by kernel_rfl) Tryz.func5
    (ChangeSpec.witness6 (enc := enc) (C := Tryz.checked) false ⟨#[], #[.slice none 0 0, .slice none 0 0], []⟩ 8 (by kernel_rfl) (by kernel_rfl) (by kernel_rfl) (by kernel_rfl)) ?_
  intro W base args ds gs before hval0 hW hcnd hsz0 _
  have hsz : (DataW.weightsEach Tryz.prog (Tryz.f5.params.toList ++ Rows.fnSpaceRunsSpec.plain.varTypes Tryz.prog) (ds ++ gs)).all (· ≤ reachBytes) = true := hsz0
  have hval : ∀ (j : Nat) t v, Tryz.f5.params[j]? = some t → args[j]? = some v → Value.okWide Tryz.prog W .any base t v := hval0
  have hW' := hW
  obtain ⟨p, q, hA0, hV, rfl, hfz, hnd⟩ := hW
  have hA : DataW.TrodAll enc Tryz.prog W 0 (fun _ => true) true Tryz.f5.params.toList args.toList ds p := hA0
  rw [Tryz.params5] at hA hval hsz
  obtain ⟨v0, vs0, d0, ds0, p0, q0, hargs0, rfl, rfl, h0, r0⟩ := trodAll_cons hA
  obtain ⟨v1, vs1, d1, ds1, p1, q1, hargs1, rfl, rfl, h1, r1⟩ := trodAll_cons r0
  obtain ⟨rfl, rfl, rfl⟩ := trodAll_nil r1
  subst hargs1
  obtain rfl : args = #[v0, v1] := by cases args; simp_all
  obtain ⟨rfl, rfl⟩ := trodVars_none hV
  have k0 := h0
  have lt0 : ∀ x ∈ p0, x.block < W.heap.size := by obtain ⟨m, hm⟩ := k0; exact DataW.trod_lt m _ _ _ hm
  obtain ⟨a0, n0, c0, rfl⟩ : ∃ a n c, v0 = .slice a n c := by
    have h := hval 0 53 v0 rfl rfl
    unfold Value.okWide at h
    rw [Tryz.underlying53] at h
    cases v0 <;> first | exact ⟨_, _, _, rfl⟩ | cases h
  obtain ⟨fuel0, hf0⟩ := h0
  obtain ⟨y0, hd0, hw0⟩ := trod_DR ty0 53 fuel0 [.slice a0 n0 c0] (d0, p0) (by kernel_rfl) hf0 (by
    rw [List.all_eq_true] at hsz ⊢
    exact fun n hn => hsz n (DataW.weights_mem_each (j := 0) (t := 53) (d := d0) rfl rfl n hn))
  have b0 : Go.Q.Bd Go.Q.wide ty0 y0 := Go.Q.Bd.of_WF ty0 rfl y0 hw0
  have k1 := h1
  have lt1 : ∀ x ∈ p1, x.block < W.heap.size := by obtain ⟨m, hm⟩ := k1; exact DataW.trod_lt m _ _ _ hm
  obtain ⟨a1, n1, c1, rfl⟩ : ∃ a n c, v1 = .slice a n c := by
    have h := hval 1 53 v1 rfl rfl
    unfold Value.okWide at h
    rw [Tryz.underlying53] at h
    cases v1 <;> first | exact ⟨_, _, _, rfl⟩ | cases h
  obtain ⟨fuel1, hf1⟩ := h1
  obtain ⟨y1, hd1, hw1⟩ := trod_DR ty1 53 fuel1 [.slice a1 n1 c1] (d1, p1) (by kernel_rfl) hf1 (by
    rw [List.all_eq_true] at hsz ⊢
    exact fun n hn => hsz n (DataW.weights_mem_each (j := 1) (t := 53) (d := d1) rfl rfl n hn))
  have b1 : Go.Q.Bd Go.Q.wide ty1 y1 := Go.Q.Bd.of_WF ty1 rfl y1 hw1
  clear hA0 hval0 hsz0 hsz
  have hVR : Go.Q.VRs (fun b => b < W.heap.size) (fun _ => none) W [.d ty0 y0, .d ty1 y1] [.slice a0 n0 c0, .slice a1 n1 c1] := ⟨_, _, rfl, (by obtain ⟨u, hu, hv⟩ := Go.Q.VRs.single (Go.Q.VRs.flat ty0 y0 _ hd0); cases hu; exact hv), ⟨_, _, rfl, (by obtain ⟨u, hu, hv⟩ := Go.Q.VRs.single (Go.Q.VRs.flat ty1 y1 _ hd1); cases hu; exact hv), rfl⟩⟩
  refine (walk W _ _ hVR (PI.law_spaceruns y0 y1 hw0 hw1)).mono fun e W' ⟨he, hm⟩ => ?_
  have bel : Below W.heap.size W W' := ⟨hm.os, hm.tape, hm.output, hm.size, fun k hk => hm.block k hk (fun h => h)⟩
  subst he
  exact ⟨_, rfl, _, _, _, [], _, [], hW', trodAll_mk1 (shut_bool Tryz.underlying4 _), (trodAll_cons_mk (Below.trod laidOut (by kernel_rfl) (of_decide_eq_true (by kernel_rfl)) k0 bel lt0) (trodAll_cons_mk (Below.trod laidOut (by kernel_rfl) (of_decide_eq_true (by kernel_rfl)) k1 bel lt1) trodAll_mk0)), rfl, bel.frame _, fun h => by cases h⟩
theorem over : Rows.fnSpaceRunsRow.holds Tryz.pinned (OpenSpec.ofChange Rows.fnSpaceRunsSpec) :=
  OpenClaim.holds_of_wide 5 Tryz.f5 rfl rfl rfl rfl rfl rfl rfl ⟨rfl, rfl, rfl, rfl, rfl⟩ rfl rfl rfl rfl rfl (by kernel_rfl) Tryz.func5 (by kernel_rfl)
    (of_decide_eq_true (by kernel_rfl)) (by unfold Func.isWrapper; first | (rw [if_pos (by decide +kernel)]; kernel_rfl) | (rw [if_neg (by decide +kernel)]; exact ⟨rfl, rfl⟩))
    (fun os started H enc _ => lifted os started H enc)
theorem proved : Rows.FnSpaceRunsSaid := over
#print axioms proved
end Go.Proofs.YtbapbghnageckaaGreat.fnSpaceRuns
namespace Go.Proofs.YtbapbghnageckaaGreat
theorem fnSpaceRuns_holds : Rows.FnSpaceRunsSaid := fnSpaceRuns.proved
end Go.Proofs.YtbapbghnageckaaGreat
