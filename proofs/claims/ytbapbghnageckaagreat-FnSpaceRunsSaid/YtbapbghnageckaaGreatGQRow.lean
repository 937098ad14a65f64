/- For the rows: a function that answers a boolean and writes nothing of what was there. -/
import Derived.Test.YtbapbghnageckaaGreatGQTab
namespace Go.Q
set_option linter.unusedVariables false
set_option linter.unusedSimpArgs false
set_option linter.unusedSectionVars false
open Go
theorem law_walk {P : Program} {call : CallF} (hO : CallOK P call) {f : Nat} (hen : ∀ args w, (callFunc f args).run P w = .ok (.enter f args) w) {vs : List AV} {b : Bool} {h' : Heap} (hl : call f vs [] = some (.d .bool b, h')) {W : World} {us : List Value}
  (hv : VRs (fun b => b < W.heap.size) (fun _ => none) W vs us) : Calls P f us.toArray W fun e w' => e = .returned (.bool b) ∧ Moved (fun _ => False) W w' := by
 have hlive : ∀ x, Live (fun _ => none) [] x → False := by
  rintro x ⟨id, o, ow, h1, _⟩
  simp [Heap.get] at h1
 have hr : HR (fun b => b < W.heap.size) (fun _ => none) W [] := ⟨fun id o h => by simp [Heap.get] at h, fun _ _ => rfl, fun x hx => (hlive x hx).elim, fun id id' o o' ow ow' x _ h => by simp [Heap.get] at h, fun _ h => h⟩
 have hc : Calls P f us.toArray W fun e w' => ∃ u J' σ', e = .returned u ∧ Out (fun b => b < W.heap.size) (fun _ => none) W [] J' σ' w' h' ∧ VR J' σ' w' (.d .bool b) u := by
  rcases hO f vs [] _ hl _ _ W us hr hv with ⟨_, h2⟩ | ⟨u, w', h1, _⟩
  ·exact h2
  ·rw [hen] at h1; cases h1
 refine Calls.mono hc ?_
 rintro e w' ⟨u, J', σ', rfl, ho, hu⟩
 exact ⟨by rw [VR.bool hu], ho.mv.imp hlive⟩
end Go.Q
