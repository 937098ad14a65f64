/- For evaluation: short names, numbers, a rule for loops. -/
import Derived.Test.YtbapbghnageckaaGreatGQSet
namespace Go.Q
set_option linter.unusedVariables false
set_option linter.unusedSimpArgs false
set_option linter.unusedSectionVars false
open Go
abbrev I (n : Int) : AV := .d (.int .i64) n
abbrev B (b : Bool) : AV := .d .bool b
abbrev S (b : ByteArray) : AV := .d .str b
abbrev L (xs : List Int) : AV := .d (.slice (.int .i64)) xs
theorem wrap_i {n : Int} (h1 : -9223372036854775808 ≤ n) (h2 : n ≤ 9223372036854775807) : IntKind.i64.wrap n = n := by
 simp [IntKind.wrap, IntKind.signed, IntKind.bits]
 omega
theorem wrap_u64 {n : Int} (h1 : 0 ≤ n) (h2 : n < 18446744073709551616) : IntKind.u64.wrap n = n := by
 simp [IntKind.wrap, IntKind.signed, IntKind.bits]
 omega
theorem wrap_succ {k n : Nat} (h1 : k < n) (h2 : n < 1000000000000000000) : IntKind.i64.wrap ((k : Int) + 1) = ((k + 1 : Nat) : Int) := by rw [wrap_i] <;> omega
theorem lt_cast {k n : Nat} (h : k < n) : ((k : Int) < (n : Int)) = True := by simp; exact h
theorem zero_le_cast (k : Nat) : (0 ≤ (k : Int)) = True := by simp
theorem getD_of_lt {α : Type} {xs : List α} {k : Nat} (h : k < xs.length) (d : α) : xs.getD k d = xs[k] := by simp [List.getD, h]
theorem tr {p : Prop} (h : p) : p = True := eq_true h
theorem fa {p : Prop} (h : ¬ p) : p = False := eq_false h

mutual
def plainN : AV → Bool
 | .d _ _ | .nilS | .empS | .nilF | .nilP | .nilM => true
 | .rp vs | .agg vs | .fn _ vs => plainNs vs
 | _ => false
def plainNs : List AV → Bool
 | [] => true
 | v :: vs => plainN v && plainNs vs
end
mutual
def depN : AV → Nat
 | .rp vs | .agg vs | .fn _ vs => depNs vs + 1
 | _ => 1
def depNs : List AV → Nat
 | [] => 0
 | v :: vs => max (depN v) (depNs vs)
end
mutual
theorem plain_arg (h : Heap) : ∀ (v : AV), plainN v = true → ∀ m, depN v ≤ m → argOf h m v = some v
 | .d t x, _, m, hm => by obtain ⟨m, rfl⟩ : ∃ k, m = k + 1 := ⟨m - 1, by simp only [depN] at hm; omega⟩; rw [ao_d]
 | .nilS, _, m, hm => by obtain ⟨m, rfl⟩ : ∃ k, m = k + 1 := ⟨m - 1, by simp only [depN] at hm; omega⟩; rw [ao_nilS]
 | .empS, _, m, hm => by obtain ⟨m, rfl⟩ : ∃ k, m = k + 1 := ⟨m - 1, by simp only [depN] at hm; omega⟩; rw [ao_empS]
 | .nilF, _, m, hm => by obtain ⟨m, rfl⟩ : ∃ k, m = k + 1 := ⟨m - 1, by simp only [depN] at hm; omega⟩; rw [ao_nilF]
 | .nilP, _, m, hm => by obtain ⟨m, rfl⟩ : ∃ k, m = k + 1 := ⟨m - 1, by simp only [depN] at hm; omega⟩; rw [ao_nilP]
 | .nilM, _, m, hm => by obtain ⟨m, rfl⟩ : ∃ k, m = k + 1 := ⟨m - 1, by simp only [depN] at hm; omega⟩; rw [ao_nilM]
 | .rp vs, hp, m, hm => by
  obtain ⟨m, rfl⟩ : ∃ k, m = k + 1 := ⟨m - 1, by simp only [depN] at hm; omega⟩
  simp only [depN] at hm
  simp only [plainN] at hp
  rw [ao_rp, plain_args h vs hp m (by omega)]; rfl
 | .agg vs, hp, m, hm => by
  obtain ⟨m, rfl⟩ : ∃ k, m = k + 1 := ⟨m - 1, by simp only [depN] at hm; omega⟩
  simp only [depN] at hm
  simp only [plainN] at hp
  rw [ao_agg, plain_args h vs hp m (by omega)]; rfl
 | .fn f vs, hp, m, hm => by
  obtain ⟨m, rfl⟩ : ∃ k, m = k + 1 := ⟨m - 1, by simp only [depN] at hm; omega⟩
  simp only [depN] at hm
  simp only [plainN] at hp
  rw [ao_fn, plain_args h vs hp m (by omega)]; rfl
theorem plain_args (h : Heap) : ∀ (vs : List AV), plainNs vs = true → ∀ m, depNs vs ≤ m → mapO (argOf h m) vs = some vs
 | [], _, _, _ => rfl
 | v :: vs, hp, m, hm => by
  simp only [plainNs, Bool.and_eq_true] at hp
  simp only [depNs] at hm
  rw [mapO_cons, plain_arg h v hp.1 m (by omega), Option.bind_some, mapO2_eq, plain_args h vs hp.2 m (by omega)]; rfl
end
mutual
theorem plain_own : ∀ (v : AV), plainN v = true → v.owned = false
 | .d t x, _ => ow_d t x
 | .nilS, _ => ow_nilS
 | .empS, _ => ow_empS
 | .nilF, _ => ow_nilF
 | .nilP, _ => ow_nilP
 | .nilM, _ => ow_nilM
 | .rp vs, hp => by simp only [plainN] at hp; rw [ow_rp, plain_owns vs hp]
 | .agg vs, hp => by simp only [plainN] at hp; rw [ow_agg, plain_owns vs hp]
 | .fn f vs, hp => by simp only [plainN] at hp; rw [ow_fn, plain_owns vs hp]
theorem plain_owns : ∀ (vs : List AV), plainNs vs = true → AV.owneds vs = false
 | [], _ => ows_nil
 | v :: vs, hp => by
  simp only [plainNs, Bool.and_eq_true] at hp
  rw [ows_cons, plain_own v hp.1, plain_owns vs hp.2]; rfl
end
mutual
theorem plain_mapR (f : AV → AV) : ∀ (v : AV), plainN v = true → v.mapR f = v
 | .d t x, _ => mr_d f t x
 | .nilS, _ => mr_nilS f
 | .empS, _ => mr_empS f
 | .nilF, _ => mr_nilF f
 | .nilP, _ => mr_nilP f
 | .nilM, _ => mr_nilM f
 | .rp vs, hp => by simp only [plainN] at hp; rw [mr_rp, plain_mapRs f vs hp]
 | .agg vs, hp => by simp only [plainN] at hp; rw [mr_agg, plain_mapRs f vs hp]
 | .fn g vs, hp => by simp only [plainN] at hp; rw [mr_fn, plain_mapRs f vs hp]
theorem plain_mapRs (f : AV → AV) : ∀ (vs : List AV), plainNs vs = true → AV.mapRs f vs = vs
 | [], _ => mrs_nil f
 | v :: vs, hp => by
  simp only [plainNs, Bool.and_eq_true] at hp
  rw [mrs_cons, plain_mapR f v hp.1, plain_mapRs f vs hp.2]
end
mutual
theorem plain_leads (i : Nat) : ∀ (v : AV), plainN v = true → v.leads i = false
 | .d t x, _ => vl_d i t x
 | .nilS, _ => vl_nilS i
 | .empS, _ => vl_empS i
 | .nilF, _ => vl_nilF i
 | .nilP, _ => vl_nilP i
 | .nilM, _ => vl_nilM i
 | .rp vs, hp => by simp only [plainN] at hp; rw [vl_rp, plain_leadss i vs hp]
 | .agg vs, hp => by simp only [plainN] at hp; rw [vl_agg, plain_leadss i vs hp]
 | .fn g vs, hp => by simp only [plainN] at hp; rw [vl_fn, plain_leadss i vs hp]
theorem plain_leadss (i : Nat) : ∀ (vs : List AV), plainNs vs = true → AV.leadss i vs = false
 | [], _ => vls_nil i
 | v :: vs, hp => by
  simp only [plainNs, Bool.and_eq_true] at hp
  rw [vls_cons, plain_leads i v hp.1, plain_leadss i vs hp.2]; rfl
end
structure Caps (cs : List AV) : Prop where
 plain : plainNs cs = true
 dep : depNs cs ≤ 4
theorem Caps.args {cs : List AV} (hc : Caps cs) (h : Heap) (ls : List Ln) (k : Nat) : argsOf h ls [] k cs = some cs := by
 obtain ⟨hp, hd⟩ := hc
 induction cs generalizing k with
 | nil => rfl
 | cons v vs ih =>
  simp only [plainNs, Bool.and_eq_true] at hp
  simp only [depNs] at hd
  rw [argsOf_cons, if_neg (by simp), plain_arg h v hp.1 8 (by omega), Option.bind_some, argsOf2_eq, ih (k + 1) hp.2 (by omega)]; rfl
theorem plain_ownedA : ∀ (cs : List AV), plainNs cs = true → ∀ k, plainOwned [] k cs = false
 | [], _, _ => rfl
 | v :: vs, hp, k => by
  simp only [plainNs, Bool.and_eq_true] at hp
  rw [plainOwned_cons, plain_own v hp.1, plain_ownedA vs hp.2 (k + 1)]; simp
theorem Caps.own {cs : List AV} (hc : Caps cs) (k : Nat) : plainOwned [] k cs = false := plain_ownedA cs hc.plain k
theorem Caps.arg {cs : List AV} (hc : Caps cs) (h : Heap) (m : Nat) : mapO (argOf h (m + 4)) cs = some cs := plain_args h cs hc.plain _ (by have := hc.dep; omega)
theorem Caps.ow {cs : List AV} (hc : Caps cs) : AV.owneds cs = false := plain_owns cs hc.plain
theorem Caps.mapR {cs : List AV} (hc : Caps cs) (f : AV → AV) : AV.mapRs f cs = cs := plain_mapRs f cs hc.plain
theorem Caps.leads {cs : List AV} (hc : Caps cs) (i : Nat) : AV.leadss i cs = false := plain_leadss i cs hc.plain
end Go.Q
