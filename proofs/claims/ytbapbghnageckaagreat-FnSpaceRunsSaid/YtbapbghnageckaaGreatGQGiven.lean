/- What is not interpreted: a contract of a function that leaves the world as it is. -/
import Derived.Test.YtbapbghnageckaaGreatGQTab
namespace Go.Q
set_option linter.unusedVariables false
open Go
theorem Out.refl0 {J : Nat → Prop} {σ : Nat → Option Own} {w : World} (hr : HR J σ w []) : Out J σ w [] J σ w [] :=
 ⟨hr, fun b h => .inr h, fun _ h => h, fun _ h => .inl h, Moved.refl _ _, fun id _ o h => by simp [Heap.get] at h⟩
theorem CallOK.plain {P : Program} {g : Nat → List AV → Option AV} (h : ∀ f vs r, g f vs = some r → ∀ (J : Nat → Prop) (σ : Nat → Option Own) (w : World) (us : List Value), VRs J σ w vs us → CallsV P f us.toArray w fun e w' => ∃ u, e = .returned u ∧ w' = w ∧ VR J σ w r u) :
  CallOK P fun f vs hp => match hp with | [] => (g f vs).map fun r => (r, []) | _ => none := by
 intro f vs hp r hr
 cases hp with
 | cons x xs => cases hr
 | nil =>
  simp only [Option.map_eq_some_iff] at hr
  obtain ⟨v, hv, rfl⟩ := hr
  intro J σ w us hR hV
  refine CallsV.mono (h f vs v hv J σ w us hV) ?_
  rintro e w' ⟨u, rfl, rfl, hu⟩
  exact ⟨u, J, σ, rfl, Out.refl0 hR, hu⟩
theorem enter_of {P : Program} {f : Nat} {F : Func} {b : Code} (hfun : P.funcs[f]? = some F) (hname : F.name ≠ "runtime.NumGoroutine") (hb : F.body = some b) (args : Array Value) (w : World) : (callFunc f args).run P w = .ok (.enter f args) w := by
 simp [callFunc, hfun, hname, hb]
end Go.Q
