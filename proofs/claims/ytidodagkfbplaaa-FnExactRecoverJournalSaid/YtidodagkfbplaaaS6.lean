/- What is not interpreted does what is told of it. -/
import Derived.Test.YtidodagkfbplaaaS5
import Derived.Test.YtidodagkfbplaaaG1
import Derived.Test.YtidodagkfbplaaaGQGiven
namespace Go.Proofs.Ytidodagkfbplaaa.PI
open Go Go.Q
set_option maxRecDepth 100000
theorem givenOK : CallOK Try.prog given := by
  refine CallOK.plain (g := gP) fun f vs r h => ?_
  unfold gP at h
  split at h
  · rename_i hf
    subst hf
    split at h
    · rename_i s c
      cases h
      refine ⟨fun args w => ?_, fun J σ w us hv => ?_⟩
      · exact enter_of Try.func85 (by decide) rfl args w
      · obtain ⟨v0, us0, rfl, h0, us1⟩ := hv
        obtain ⟨v1, us2, rfl, h1, rfl⟩ := us1
        have e0 := VR.str h0
        have e1 := VR.int h1
        subst e0
        subst e1
        refine Calls.mono (byteIndex s c w) ?_
        rintro e w' ⟨rfl, rfl⟩
        exact ⟨_, rfl, rfl, rfl⟩
    · cases h
  · cases h
end Go.Proofs.Ytidodagkfbplaaa.PI
