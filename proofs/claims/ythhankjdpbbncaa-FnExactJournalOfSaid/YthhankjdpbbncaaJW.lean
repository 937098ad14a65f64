/- What is not interpreted does what is told of it: where a byte is, strings.Builder. -/
import Derived.Test.YthhankjdpbbncaaJ5
import Derived.Test.YthhankjdpbbncaaVBld
import Derived.Test.YthhankjdpbbncaaG1
import Derived.Test.YthhankjdpbbncaaGQGiven
import Derived.Test.YthhankjdpbbncaaGQStd
namespace Go.Proofs.Ythhankjdpbbncaa.PI
open Go Go.Q
set_option maxRecDepth 100000
theorem plainOK : CallOK Try.prog (fun f vs hp => match hp with | [] => (gP f vs).map fun r => (r, []) | _ => none) := by
  refine CallOK.plain (g := gP) fun f vs r h => ?_
  unfold gP at h
  split at h
  · rename_i hf
    subst hf
    split at h
    · rename_i s c
      cases h
      intro J σ w us hv
      obtain ⟨v0, us0, rfl, h0, us1⟩ := hv
      obtain ⟨v1, us2, rfl, h1, rfl⟩ := us1
      have e0 := VR.str h0
      have e1 := VR.int h1
      subst e0
      subst e1
      refine .inl ⟨enter_of Try.func131 (by decide) rfl _ _, Calls.mono (byteIndex s c w) ?_⟩
      rintro e w' ⟨rfl, rfl⟩
      exact ⟨_, rfl, rfl, rfl⟩
    · cases h
  · cases h
theorem givenOK : CallOK Try.prog given := by
  intro f vs h r hr
  unfold given at hr
  split at hr
  · rename_i e
    subst e
    exact ws_ok bld166 bldX vs h r hr
  · split at hr
    · rename_i e
      subst e
      exact len_ok bld170 vs h r hr
    · split at hr
      · rename_i e
        subst e
        exact str_ok bld169 bldX vs h r hr
      · exact plainOK f vs h r hr
theorem law_jb (ys : List ByteArray) (hb : Bd wide (.slice .str) ys) : callOf pr 3 [.d (.slice .str) ys] [] = some (B true, []) := by
  have hm : (ys.map (·.data.toList)).map mkS = ys := by
    rw [List.map_map]
    have : (mkS ∘ fun b : ByteArray => b.data.toList) = id := funext fun b => mkS_data b
    rw [this, List.map_id]
  have h := law_journal (ys.map (·.data.toList)) (by rw [List.length_map]; have h1 : ys.length ≤ wide := hb.1; simp only [wide] at h1; omega) (fun x hx => by
    obtain ⟨b, hb1, rfl⟩ := List.mem_map.1 hx
    have h1 : b.size ≤ wide := hb.2 b hb1
    simp only [wide] at h1
    have : b.data.toList.length = b.size := by simp
    omega)
  rw [hm] at h
  exact h
end Go.Proofs.Ythhankjdpbbncaa.PI
