/- What is not interpreted does what is told of it: slices.Clone. -/
import Derived.Test.YthmnlokdikomkaaPIProg
import Derived.Test.YthmnlokdikomkaaVLay
import Derived.Test.YthmnlokdikomkaaVBld
import Derived.Test.YthmnlokdikomkaaGQClone
import Derived.Test.YthmnlokdikomkaaGQLib
namespace Go.Proofs.Ythmnlokdikomkaa.PI
open Go Go.Q Go.RowKit
set_option maxRecDepth 100000
set_option linter.unusedVariables false
set_option linter.unusedSimpArgs false
theorem cloneI_ok {J : Nat → Prop} {σ : Nat → Option Go.Q.Own} {w : World} {xs : List (Ty.Den (.int .i64))} {us : List Value} (hl : xs.length ≤ 10000000) (hr : HR J σ w []) (hv : VRs J σ w [.d (.slice (.int .i64)) xs] us) :
    CallsV Try.prog 106 us.toArray w fun e w' => ∃ u J' σ', e = .returned u ∧ Out J σ w [] J' σ' w' (cloneV (.int .i64) xs).2 ∧ VR J' σ' w' (cloneV (.int .i64) xs).1 u :=
  clone_ok (ρ := cloneI_ren) cloneI 106 rfl (.int .i64) rfl (by decide) _ _ _ rfl rfl rfl rfl (by decide) rfl Try.sizeOf2 (fun args w => enter_of Try.func106 (by decide) rfl args w) hl hr hv
theorem cloneB_ok {J : Nat → Prop} {σ : Nat → Option Go.Q.Own} {w : World} {xs : List (Ty.Den (.bool))} {us : List Value} (hl : xs.length ≤ 10000000) (hr : HR J σ w []) (hv : VRs J σ w [.d (.slice (.bool)) xs] us) :
    CallsV Try.prog 107 us.toArray w fun e w' => ∃ u J' σ', e = .returned u ∧ Out J σ w [] J' σ' w' (cloneV (.bool) xs).2 ∧ VR J' σ' w' (cloneV (.bool) xs).1 u :=
  clone_ok (ρ := cloneB_ren) cloneB 107 rfl (.bool) rfl (by decide) _ _ _ rfl rfl rfl rfl (by decide) rfl Try.sizeOf4 (fun args w => enter_of Try.func107 (by decide) rfl args w) hl hr hv
theorem cloneO_ok {J : Nat → Prop} {σ : Nat → Option Go.Q.Own} {w : World} {xs : List (Ty.Den tyO)} {us : List Value} (hl : xs.length ≤ 10000000) (hr : HR J σ w []) (hv : VRs J σ w [.d (.slice tyO) xs] us) :
    CallsV Try.prog 92 us.toArray w fun e w' => ∃ u J' σ', e = .returned u ∧ Out J σ w [] J' σ' w' (cloneV tyO xs).2 ∧ VR J' σ' w' (cloneV tyO xs).1 u :=
  clone_ok (ρ := cloneO_ren) cloneO 92 rfl tyO rfl (by decide) _ _ _ rfl rfl rfl rfl (by decide) rfl Try.sizeOf51 (fun args w => enter_of Try.func92 (by decide) rfl args w) hl hr hv
theorem cloneW_ok {t : Ty} {f : Nat} (hok : ∀ {J : Nat → Prop} {σ : Nat → Option Go.Q.Own} {w : World} {xs : List t.Den} {us : List Value}, xs.length ≤ 10000000 → HR J σ w [] → VRs J σ w [.d (.slice t) xs] us →
      CallsV Try.prog f us.toArray w fun e w' => ∃ u J' σ', e = .returned u ∧ Out J σ w [] J' σ' w' (cloneV t xs).2 ∧ VR J' σ' w' (cloneV t xs).1 u)
    {vs : List AV} {h : Heap} {r : AV × Heap} (hr : cloneW t vs h = some r) {J : Nat → Prop} {σ : Nat → Option Go.Q.Own} {w : World} {us : List Value} (hR : HR J σ w h) (hV : VRs J σ w vs us) :
    CallsV Try.prog f us.toArray w fun e w' => ∃ u J' σ', e = .returned u ∧ Out J σ w h J' σ' w' r.2 ∧ VR J' σ' w' r.1 u := by
  unfold cloneW at hr
  split at hr
  · rename_i v
    rw [Option.bind_eq_some_iff] at hr
    obtain ⟨xs, h1, hr⟩ := hr
    split at hr
    · rename_i hl
      cases hr
      have hv : v = .d (.slice t) xs := by
        unfold asDen at h1
        split at h1
        · rename_i t' x
          split at h1
          · rename_i ht
            subst ht
            simp only [castDen] at h1
            cases h1; rfl
          · cases h1
        · cases h1
      subst hv
      exact hok hl hR hV
    · cases hr
  · cases hr
theorem givenOK : CallOK Try.prog given := by
  intro f vs h r hr J σ w us hR hV
  unfold given at hr
  split at hr
  · rename_i hf
    subst hf
    exact cloneW_ok cloneI_ok hr hR hV
  split at hr
  · rename_i hf
    subst hf
    exact cloneW_ok cloneB_ok hr hR hV
  split at hr
  · rename_i hf
    subst hf
    exact cloneW_ok cloneO_ok hr hR hV
  split at hr
  · rename_i hf
    subst hf
    exact wb_ok bld167 bldX vs h r hr J σ w us hR hV
  split at hr
  · rename_i hf
    subst hf
    exact str_ok bld169 bldX vs h r hr J σ w us hR hV
  cases hr
theorem pr_given : pr.given = given := rfl
theorem call_cli (xs : List (Ty.Den (.int .i64))) (hl : xs.length ≤ 10000000) : callOf pr 106 [.d (.slice (.int .i64)) xs] [] = some (cloneV (.int .i64) xs) := by
  rw [given_eq pr _ _ _ rfl, pr_given]
  unfold given cloneW
  simp [asDen_self, hl]
theorem call_clb (xs : List (Ty.Den .bool)) (hl : xs.length ≤ 10000000) : callOf pr 107 [.d (.slice .bool) xs] [] = some (cloneV .bool xs) := by
  rw [given_eq pr _ _ _ rfl, pr_given]
  unfold given cloneW
  simp [asDen_self, hl]
theorem call_clo (xs : List (Ty.Den tyO)) (hl : xs.length ≤ 10000000) : callOf pr 92 [.d (.slice tyO) xs] [] = some (cloneV tyO xs) := by
  rw [given_eq pr _ _ _ rfl, pr_given]
  unfold given cloneW
  simp [asDen_self, hl]
theorem call_wb (s : ByteArray) (c : Int) (h0 : 0 ≤ c) (h1 : c < 256) (hl : s.size + 1 ≤ 140737488355328) : callOf pr 115 [.op 1000000 0, .d (.int .u8) c] [(1000000, .bld false 156 5 s)] = some (.d .err false, [(1000000, .bld false 156 5 (s.push (UInt8.ofNat c.toNat)))]) := by
  rw [given_eq _ _ _ _ rfl, show ∀ vs h, pr.given 115 vs h = wbV 156 5 vs h from fun _ _ => rfl]
  simp only [wbV, onBld, wbF, h0, h1, hl, and_self, if_true, Option.map_some]
theorem call_bs (s : ByteArray) : callOf pr 116 [.op 1000000 0] [(1000000, .bld false 156 5 s)] = some (.d .str s, [(1000000, .bld true 156 5 s)]) := by
  rw [given_eq _ _ _ _ rfl, show ∀ vs h, pr.given 116 vs h = strV 156 5 vs h from fun _ _ => rfl]
  simp only [strV, onBld, strF, and_self, if_true, Option.map_some]
end Go.Proofs.Ythmnlokdikomkaa.PI
