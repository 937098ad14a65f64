/- The row of the law of the recovery. -/
import Derived.Test.YtidodagkfbplaaaRows
import Derived.Test.YtidodagkfbplaaaS6
import Derived.Test.YtidodagkfbplaaaGQRow
import Derived.WalkKit
import Derived.ProofKit
import Derived.OpenShut
import Derived.ShutString
import Derived.ChangeOld
import Derived.Below
import Derived.SizedLaws
import Derived.Carry
namespace Go.Proofs.Ytidodagkfbplaaa.fnExactRecoverJournal
open Go.ChangeShapes Go.WideShapes Go.ChangeAt Go.RowKit
open Go.Q (trod_DR tyIs)
set_option linter.unusedVariables false
theorem own : ownKnob Try.prog.godebug = none := by kernel_rfl
theorem laidOut : laidOutB Try.prog = true := by kernel_rfl

theorem callOK : Go.Q.CallOK Try.prog (Go.Q.callOf PI.pr) :=
  Go.Q.Call_sound (by kernel_rfl) (PI.tabOK _) PI.givenOK (fun f F h => by
    have h1 := PI.fns _ (Go.Q.lookT_mem h)
    refine ⟨h1.1, ?_⟩
    have h2 := h1.2
    simp only [Go.Q.fnOkB, h, Bool.and_eq_true, bne_iff_ne] at h2
    obtain ⟨h3, h4⟩ := h2
    cases hb : F.body with
    | none => rw [hb] at h4; cases h4
    | some b => rw [hb] at h4; exact ⟨h3, b, rfl, h4⟩)

theorem walk (W : World) (b : ByteArray) (hb : b.size < 1000000000000000000) :
    Calls Try.prog 4 #[.string b] W fun e w' => e = .returned (.bool true) ∧ Go.Q.Moved (fun _ => False) W w' := by
  have hl := PI.law_4 b.data.toList (by simpa using hb)
  have hm : Go.Q.mkS b.data.toList = b := Go.Q.mkS_data b
  rw [show (Go.Q.T b.data.toList) = Go.Q.AV.d .str b from by rw [← hm]; rfl] at hl
  exact Go.Q.law_walk callOK hl ⟨_, [], rfl, rfl, rfl⟩

set_option maxRecDepth 100000 in
theorem lifted (os : Os) (started : os.Started) (H : Type) (enc : TypeId × Value → H) :
    ReturnsInHanded {} Try.checked os 4 .any (Rows.fnExactRecoverJournalSpec.pre6 enc Try.prog Try.f4 Rows.fnExactRecoverJournalRow.domain false) (Rows.fnExactRecoverJournalSpec.post enc Try.prog Try.f4 false true false false) := by
  refine returnsInHanded_of_change_sized (C := Try.checked) own started (by kernel_rfl) Try.func4
    (ChangeSpec.witness6 (enc := enc) (C := Try.checked) false ⟨#[], #[.string ⟨#[]⟩], []⟩ 8 (by kernel_rfl) (by kernel_rfl) (by kernel_rfl) (by kernel_rfl)) ?_
  intro W base args ds gs before hval0 hW hcnd hsz0 _
  have hsz : (DataW.weightsEach Try.prog (Try.f4.params.toList ++ Rows.fnExactRecoverJournalSpec.plain.varTypes Try.prog) (ds ++ gs)).all (· ≤ reachBytes) = true := hsz0
  have hval : ∀ (j : Nat) t v, Try.f4.params[j]? = some t → args[j]? = some v → Value.okWide Try.prog W .any base t v := hval0
  have hW' := hW
  obtain ⟨p, q, hA0, hV, rfl, hfz, hnd⟩ := hW
  have hA : DataW.TrodAll enc Try.prog W 0 (fun _ => true) true Try.f4.params.toList args.toList ds p := hA0
  rw [Try.params4] at hA hval hsz
  obtain ⟨v0, vs0, d0, ds0, p0, q0, hargs, rfl, rfl, h0, r0⟩ := trodAll_cons hA
  obtain ⟨rfl, rfl, rfl⟩ := trodAll_nil r0
  obtain rfl : args = #[v0] := by cases args; simp_all
  obtain ⟨rfl, rfl⟩ := trodVars_none hV
  have k0 := h0
  have lt0 : ∀ x ∈ p0, x.block < W.heap.size := by obtain ⟨m, hm⟩ := k0; exact DataW.trod_lt m _ _ _ hm
  obtain ⟨b, rfl⟩ : ∃ b, v0 = .string b := by
    have h := hval 0 9 v0 rfl rfl
    unfold Value.okWide at h
    rw [Try.underlying9] at h
    cases v0 <;> first | exact ⟨_, rfl⟩ | cases h
  obtain ⟨fuel, hf⟩ := h0
  obtain ⟨y, hd, hw⟩ := trod_DR .str 9 fuel [.string b] (d0, p0) (by kernel_rfl) hf (by
    rw [List.all_eq_true] at hsz ⊢
    exact fun n hn => hsz n (DataW.weights_mem_each (j := 0) (t := 9) (d := d0) rfl rfl n hn))
  have hyb : y = b := by
    have hd : [Value.string b] = [Value.string y] := hd
    simp only [List.cons.injEq, Value.string.injEq, and_true] at hd
    exact hd.symm
  subst hyb
  have hw : y.size ≤ reachBytes := hw
  have hreach : reachBytes < 2 ^ 47 := reachBytes_lt
  clear hA0 hval0 hsz0 hsz
  refine (walk W y (by omega)).mono fun e W' ⟨he, hm⟩ => ?_
  have bel : Below W.heap.size W W' := ⟨hm.os, hm.tape, hm.output, hm.size, fun k hk => hm.block k hk (fun h => h)⟩
  subst he
  exact ⟨_, rfl, _, _, _, [], _, [], hW', trodAll_mk1 (shut_bool Try.underlying4 _), (trodAll_cons_mk (Below.trod laidOut (by kernel_rfl) (of_decide_eq_true (by kernel_rfl)) k0 bel lt0) trodAll_mk0), rfl, bel.frame _, fun h => by cases h⟩
theorem over : Rows.fnExactRecoverJournalRow.holds Try.pinned (OpenSpec.ofChange Rows.fnExactRecoverJournalSpec) :=
  OpenClaim.holds_of_wide 4 Try.f4 rfl rfl rfl rfl rfl rfl rfl ⟨rfl, rfl, rfl, rfl, rfl⟩ rfl rfl rfl rfl rfl (by kernel_rfl) Try.func4 (by kernel_rfl)
    (of_decide_eq_true (by kernel_rfl)) (by unfold Func.isWrapper; first | (rw [if_pos (by decide +kernel)]; kernel_rfl) | (rw [if_neg (by decide +kernel)]; exact ⟨rfl, rfl⟩))
    (fun os started H enc _ => lifted os started H enc)
theorem proved : Rows.FnExactRecoverJournalSaid := over
#print axioms proved
end Go.Proofs.Ytidodagkfbplaaa.fnExactRecoverJournal
namespace Go.Proofs.Ytidodagkfbplaaa
/-- The row, under a short name, for the claim. -/
theorem fnExactRecoverJournal_holds : Rows.FnExactRecoverJournalSaid := fnExactRecoverJournal.proved
end Go.Proofs.Ytidodagkfbplaaa
