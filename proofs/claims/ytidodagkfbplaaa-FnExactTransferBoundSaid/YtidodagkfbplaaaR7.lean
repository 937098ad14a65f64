/- The row of the law of the bound of transfers. -/
import Derived.Test.YtidodagkfbplaaaRows
import Derived.Test.YtidodagkfbplaaaE15
import Derived.Test.YtidodagkfbplaaaGQRow
import Derived.WalkKit
import Derived.ProofKit
import Derived.OpenShut
import Derived.ShutString
import Derived.ChangeOld
import Derived.Below
import Derived.SizedLaws
import Derived.Carry
namespace Go.Proofs.Ytidodagkfbplaaa.fnExactTransferBound
open Go.ChangeShapes Go.WideShapes Go.ChangeAt Go.RowKit
open Go.Q (trod_DR tyIs)
set_option linter.unusedVariables false
theorem own : ownKnob Try.prog.godebug = none := by kernel_rfl
theorem laidOut : laidOutB Try.prog = true := by kernel_rfl

abbrev tyG : Go.Q.Ty := .agg (.cons (.slice (.slice (.int .i64))) .nil)

theorem callOK : Go.Q.CallOK Try.prog (Go.Q.callOf PI.pr) :=
  Go.Q.Call_sound (by kernel_rfl) (PI.tabOK _) (fun _ _ _ _ h => by cases h) (fun f F h => by
    have h1 := PI.fns _ (Go.Q.lookT_mem h)
    refine ⟨h1.1, ?_⟩
    have h2 := h1.2
    simp only [Go.Q.fnOkB, h, Bool.and_eq_true, bne_iff_ne] at h2
    obtain ⟨h3, h4⟩ := h2
    cases hb : F.body with
    | none => rw [hb] at h4; cases h4
    | some b => rw [hb] at h4; exact ⟨h3, b, rfl, h4⟩)

theorem walk (W : World) (cs : List Value) (y : tyG.Den) (hd : Go.Q.DR (fun b => b < W.heap.size) W tyG y cs) (hw : tyG.WF y) :
    Calls Try.prog 7 #[.agg cs.toArray] W fun e w' => e = .returned (.bool true) ∧ Go.Q.Moved (fun _ => False) W w' := by
  have hb : List.length y.1 < 1000000000000000000 := by
    have := hw.1.1
    simp only [Go.Q.Ty.bytes] at this
    have h2 : reachBytes < 2 ^ 47 := reachBytes_lt
    omega
  have hc : ∀ x ∈ (show List (List Int) from y.1), x.length < 1000000000000000000 := fun x hx => by
    have := (hw.1.2 x hx).1
    simp only [Go.Q.Ty.bytes, IntKind.bits] at this
    have h2 : reachBytes < 2 ^ 47 := reachBytes_lt
    have h3 : List.length x * (64 / 8) ≤ reachBytes := this
    omega
  have hl := PI.law_7 y.1 hb hc
  exact Go.Q.law_walk callOK hl ⟨_, [], rfl, ⟨cs, rfl, Go.Q.VRs.flat tyG y cs hd⟩, rfl⟩

set_option maxRecDepth 100000 in
theorem lifted (os : Os) (started : os.Started) (H : Type) (enc : TypeId × Value → H) :
    ReturnsInHanded {} Try.checked os 7 .any (Rows.fnExactTransferBoundSpec.pre6 enc Try.prog Try.f7 Rows.fnExactTransferBoundRow.domain false) (Rows.fnExactTransferBoundSpec.post enc Try.prog Try.f7 false true false false) := by
  refine returnsInHanded_of_change_sized (C := Try.checked) own started (by kernel_rfl) Try.func7
    (ChangeSpec.witness6 (enc := enc) (C := Try.checked) false ⟨#[], #[.agg #[.slice none 0 0]], []⟩ 8 (by kernel_rfl) (by kernel_rfl) (by kernel_rfl) (by kernel_rfl)) ?_
  intro W base args ds gs before hval0 hW hcnd hsz0 _
  have hsz : (DataW.weightsEach Try.prog (Try.f7.params.toList ++ Rows.fnExactTransferBoundSpec.plain.varTypes Try.prog) (ds ++ gs)).all (· ≤ reachBytes) = true := hsz0
  have hval : ∀ (j : Nat) t v, Try.f7.params[j]? = some t → args[j]? = some v → Value.okWide Try.prog W .any base t v := hval0
  have hW' := hW
  obtain ⟨p, q, hA0, hV, rfl, hfz, hnd⟩ := hW
  have hA : DataW.TrodAll enc Try.prog W 0 (fun _ => true) true Try.f7.params.toList args.toList ds p := hA0
  rw [Try.params7] at hA hval hsz
  obtain ⟨v0, vs0, d0, ds0, p0, q0, hargs, rfl, rfl, h0, r0⟩ := trodAll_cons hA
  obtain ⟨rfl, rfl, rfl⟩ := trodAll_nil r0
  obtain rfl : args = #[v0] := by cases args; simp_all
  obtain ⟨rfl, rfl⟩ := trodVars_none hV
  have k0 := h0
  have lt0 : ∀ x ∈ p0, x.block < W.heap.size := by obtain ⟨m, hm⟩ := k0; exact DataW.trod_lt m _ _ _ hm
  obtain ⟨cs, rfl⟩ : ∃ cs, v0 = .agg cs := by
    have h := hval 0 24 v0 rfl rfl
    unfold Value.okWide at h
    rw [Try.underlying24] at h
    obtain ⟨cs, h, _⟩ := h
    exact ⟨cs, h⟩
  obtain ⟨fuel, hf⟩ := h0
  obtain ⟨y, hd, hw⟩ := trod_DR tyG 24 fuel cs.toList (d0, p0) (by kernel_rfl) hf (by
    rw [List.all_eq_true] at hsz ⊢
    exact fun n hn => hsz n (DataW.weights_mem_each (j := 0) (t := 24) (d := d0) rfl rfl n hn))
  clear hA0 hval0 hsz0 hsz
  refine (walk W cs.toList y hd hw).mono fun e W' ⟨he, hm⟩ => ?_
  have bel : Below W.heap.size W W' := ⟨hm.os, hm.tape, hm.output, hm.size, fun k hk => hm.block k hk (fun h => h)⟩
  subst he
  exact ⟨_, rfl, _, _, _, [], _, [], hW', trodAll_mk1 (shut_bool Try.underlying4 _), (trodAll_cons_mk (Below.trod laidOut (by kernel_rfl) (of_decide_eq_true (by kernel_rfl)) k0 bel lt0) trodAll_mk0), rfl, bel.frame _, fun h => by cases h⟩
theorem over : Rows.fnExactTransferBoundRow.holds Try.pinned (OpenSpec.ofChange Rows.fnExactTransferBoundSpec) :=
  OpenClaim.holds_of_wide 7 Try.f7 rfl rfl rfl rfl rfl rfl rfl ⟨rfl, rfl, rfl, rfl, rfl⟩ rfl rfl rfl rfl rfl (by kernel_rfl) Try.func7 (by kernel_rfl)
    (of_decide_eq_true (by kernel_rfl)) (by unfold Func.isWrapper; first | (rw [if_pos (by decide +kernel)]; kernel_rfl) | (rw [if_neg (by decide +kernel)]; exact ⟨rfl, rfl⟩))
    (fun os started H enc _ => lifted os started H enc)
theorem proved : Rows.FnExactTransferBoundSaid := over
#print axioms proved
end Go.Proofs.Ytidodagkfbplaaa.fnExactTransferBound
namespace Go.Proofs.Ytidodagkfbplaaa
/-- The row, under a short name, for the claim. -/
theorem fnExactTransferBound_holds : Rows.FnExactTransferBoundSaid := fnExactTransferBound.proved
end Go.Proofs.Ytidodagkfbplaaa
