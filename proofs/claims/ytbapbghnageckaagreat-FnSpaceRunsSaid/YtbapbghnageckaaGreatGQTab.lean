/- An abstract interpreter of the translated code: a type table is looked at once. -/
import Derived.Test.YtbapbghnageckaaGreatGQRead
namespace Go.Q
set_option linter.unusedVariables false
set_option linter.unusedSimpArgs false
set_option linter.unusedSectionVars false
open Go

def zeroIs : AV → Value → Bool
  | .d .bool false, .bool false => true
  | .d (.int k) n, .int k' n' => decide (k = k') && decide (n = 0) && decide (n' = 0)
  | .d .str s, .string s' => s.size == 0 && s'.size == 0
  | .d .err false, .nilIface => true
  | .nilS, .slice none 0 0 => true
  | .nilP, .pointer none => true
  | .nilF, .nilFunc => true
  | .nilM, .map none => true
  | _, _ => false
def zerosAre : List AV → List Value → Bool
  | [], [] => true
  | v :: vs, u :: us => zeroIs v u && zerosAre vs us
  | _, _ => false

theorem bytes_empty {s : ByteArray} (h : s.size = 0) : s = ByteArray.empty := by
  cases s with
  | mk d =>
    have : d = #[] := by simpa [ByteArray.size] using h
    subst this; rfl

theorem zeroIs_ok {v : AV} {u : Value} (h : zeroIs v u = true) (I : Nat → Prop) (σ : Nat → Option Own) (w : World) : VR I σ w v u := by
  unfold zeroIs at h
  split at h
  · rfl
  · simp only [Bool.and_eq_true, decide_eq_true_eq] at h
    obtain ⟨⟨rfl, rfl⟩, rfl⟩ := h
    rfl
  · simp only [Bool.and_eq_true, beq_iff_eq] at h
    rename_i s s'
    have h1 := bytes_empty (s := s) h.1
    have h2 := bytes_empty (s := s') h.2
    show [Value.string s'] = [Value.string s]
    rw [h1, h2]
  · exact .inl ⟨rfl, rfl⟩
  · rfl
  · rfl
  · rfl
  · rfl
  · cases h

theorem zerosAre_ok : ∀ {vs : List AV} {us : List Value}, zerosAre vs us = true → ∀ (I : Nat → Prop) (σ : Nat → Option Own) (w : World), VRs I σ w vs us
  | [], [], _, _, _, _ => rfl
  | v :: vs, u :: us, h, I, σ, w => by
    simp only [zerosAre, Bool.and_eq_true] at h
    exact ⟨u, us, rfl, zeroIs_ok h.1 I σ w, zerosAre_ok h.2 I σ w⟩
  | [], _ :: _, h, _, _, _ => by simp [zerosAre] at h
  | _ :: _, [], h, _, _, _ => by simp [zerosAre] at h

def denZero : Ty → List Value → Option (List Value)
  | .int k, vs => match vs with
    | .int k' n :: vs => if k = k' ∧ n = 0 then some vs else none
    | _ => none
  | .bool, vs => match vs with
    | .bool false :: vs => some vs
    | _ => none
  | .str, vs => match vs with
    | .string s :: vs => if s.size = 0 then some vs else none
    | _ => none
  | .err, vs => match vs with
    | .nilIface :: vs => some vs
    | _ => none
  | .slice _, vs => match vs with
    | .slice none 0 0 :: vs => some vs
    | _ => none
  | .nil, vs => some vs
  | .cons a b, vs => (denZero a vs).bind (denZero b)
  | .agg l, vs => denZero l vs
  | .ptr _, _ => none

theorem denZero_ok : ∀ (t : Ty) {cs rest : List Value}, denZero t cs = some rest → ∃ c, cs = c ++ rest ∧ (∀ I w, DR I w t t.zero c) ∧ (∀ I w, EX I w t t.zero c) ∧ ∀ x ∈ c, blockOf x = none
  | .int k, cs, rest, h => by
    simp only [denZero] at h
    split at h
    · split at h
      · rename_i hc
        cases h
        obtain ⟨rfl, rfl⟩ := hc
        exact ⟨[.int k 0], rfl, fun _ _ => rfl, fun _ _ => rfl, by simp [blockOf]⟩
      · cases h
    · cases h
  | .bool, cs, rest, h => by
    simp only [denZero] at h
    split at h
    · cases h; exact ⟨[.bool false], rfl, fun _ _ => rfl, fun _ _ => rfl, by simp [blockOf]⟩
    · cases h
  | .str, cs, rest, h => by
    simp only [denZero] at h
    split at h
    · split at h
      · rename_i s _ hs
        cases h
        have e : ∀ I w, DR I w .str (Ty.zero .str) [.string s] := fun _ _ => by rw [bytes_empty hs]; rfl
        exact ⟨[.string s], rfl, e, e, by simp [blockOf]⟩
      · cases h
    · cases h
  | .err, cs, rest, h => by
    simp only [denZero] at h
    split at h
    · cases h; exact ⟨[.nilIface], rfl, fun _ _ => .inl ⟨rfl, rfl⟩, fun _ _ => .inl ⟨rfl, rfl⟩, by simp [blockOf]⟩
    · cases h
  | .slice t, cs, rest, h => by
    simp only [denZero] at h
    split at h
    · cases h; exact ⟨[.slice none 0 0], rfl, fun _ _ => ⟨none, 0, rfl, Nat.le_refl _, fun i hi => by simp [Ty.zero] at hi⟩, fun _ _ => ⟨_, rfl, PlainArr.empty t none⟩, by simp [blockOf]⟩
    · cases h
  | .nil, cs, rest, h => by
    simp only [denZero, Option.some.injEq] at h
    subst h
    exact ⟨[], rfl, fun _ _ => rfl, fun _ _ => rfl, by simp⟩
  | .cons a b, cs, rest, h => by
    simp only [denZero, Option.bind_eq_some_iff] at h
    obtain ⟨mid, h1, h2⟩ := h
    obtain ⟨c1, rfl, k1, m1, n1⟩ := denZero_ok a h1
    obtain ⟨c2, rfl, k2, m2, n2⟩ := denZero_ok b h2
    exact ⟨c1 ++ c2, by simp, fun I w => ⟨c1, c2, rfl, k1 I w, k2 I w⟩, fun I w => ⟨c1, c2, rfl, m1 I w, m2 I w⟩, fun x hx => (List.mem_append.1 hx).elim (n1 x) (n2 x)⟩
  | .agg l, cs, rest, h => by
    simp only [denZero] at h
    exact denZero_ok l h
  | .ptr t, cs, rest, h => by simp [denZero] at h

def descIs (P : Program) (T : Nat) : TD → Bool
  | .bool => match P.underlying T with | some .bool => true | _ => false
  | .int k => match P.underlying T with | some (.int k') => decide (k' = k) | _ => false
  | .str => match P.underlying T with | some .string => true | _ => false
  | .slice e => match P.underlying T with | some (.slice e') => e' == e | _ => false
  | .struct fs => match P.underlying T with | some (.struct fds) => fs == fds.toList.map (fun f => (f.offset, f.type)) | _ => false
  | .arr n e => match P.underlying T with | some (.array n' e') => n' == n && e' == e | _ => false
  | .ptr e => match P.underlying T with | some (.pointer e') => e' == e | _ => false
  | .map k e => match P.underlying T with | some (.map k' e') => k' == k && e' == e | _ => false
  | .err => match P.underlying T with | some (.interface _) => true | _ => false
  | _ => match P.underlying T with
    | some (.struct _) => false
    | some (.array _ _) => false
    | some _ => true
    | none => false

def eqsOk (P : Program) (T : Nat) : Option Ty → Bool
  | some t => if t.eqb = true then (match P.underlying T with
    | some (.struct fds) => !P.stoodInHeld T && fds.toList.all (fun f => f.name != "_") && !P.eqGuardType P.depth T
    | _ => true) else true
  | none => true
def rowOk (P : Program) (tab : Nat → Option TI) (ty : Nat → Option Ty) (T : Nat) (ti : TI) : Bool :=
  (match P.info? T with
    | some i => i.size == ti.size && i.bytes == ti.bytes && (match zeros tab 8 T with
      | some vs => match i.zero with
        | some z => zerosAre vs z.cells.toList
        | none => false
      | none => true) && (match i.zero with
      | some (.agg _) => ti.isAgg
      | some z => !ti.isAgg && z.cells.size == 1
      | none => true)
    | none => false) && descIs P T ti.desc && (match P.underlying T with
    | some (.struct fds) => fds.toList.all fun f => (P.info? f.type).isSome
    | _ => true) && eqsOk P T (ty T)

def tyOk (P : Program) (T : Nat) (t : Ty) : Bool := match P.info? T with
  | some i => i.size == t.size && (match i.zero with
    | some z => z.cells.size == t.size && (match denZero t z.cells.toList with | some [] => true | _ => false)
    | none => false)
  | none => false


theorem descIs_ok {P : Program} {T : Nat} {ti : TI} (h : descIs P T ti.desc = true) : match ti.desc with
    | .bool => P.underlying T = some .bool
    | .int k => P.underlying T = some (.int k)
    | .str => P.underlying T = some .string
    | .slice e => P.underlying T = some (.slice e)
    | .struct fs => ∃ fds : Array Field, P.underlying T = some (.struct fds) ∧ fs = fds.toList.map fun f => (f.offset, f.type)
    | .arr n e => P.underlying T = some (.array n e)
    | .ptr e => P.underlying T = some (.pointer e)
    | .map k e => P.underlying T = some (.map k e)
    | .err => ∃ ms, P.underlying T = some (.interface ms)
    | _ => ∃ d, P.underlying T = some d ∧ (∀ fs, d ≠ .struct fs) ∧ ∀ n e, d ≠ .array n e := by
  cases hd : ti.desc <;> rw [hd] at h <;> unfold descIs at h <;> simp only at h ⊢
  case struct fs =>
    split at h
    · rename_i fds hu; exact ⟨fds, hu, by simpa using h⟩
    · cases h
  case err =>
    split at h
    · rename_i ms hu; exact ⟨ms, hu⟩
    · cases h
  case func | other =>
    split at h
    · cases h
    · cases h
    · rename_i d h1 h2 hu; exact ⟨d, hu, fun fs e => h1 fs e, fun n e e' => h2 n e e'⟩
    · cases h
  all_goals first
    | (split at h
       · rename_i hu; exact hu
       · cases h)
    | (split at h
       · rename_i hu; rw [hu]; simp_all
       · cases h)

theorem lookT_mem {α : Type} : ∀ {l : List (Nat × α)} {i : Nat} {x : α}, lookT l i = some x → (i, x) ∈ l
  | [], _, _, h => by simp [lookT] at h
  | (j, y) :: l, i, x, h => by
    simp only [lookT] at h
    split at h
    · rename_i e; subst e; cases h; simp
    · exact List.mem_cons_of_mem _ (lookT_mem h)

theorem tabOK_of {P : Program} {tabL : List (Nat × TI)} {tyL : List (Nat × Ty)} {by_ : Nat → List Nat} {c : CallF} (h1 : (tabL.all fun x => rowOk P (lookT tabL) (lookT tyL) x.1 x.2) = true) (h2 : (tyL.all fun x => tyOk P x.1 x.2) = true) : TabOK P ⟨lookT tabL, lookT tyL, by_, c⟩ := by
  rw [List.all_eq_true] at h1 h2
  refine ⟨fun T ti hT => ?_, fun T t hT => ?_⟩
  · have h := h1 _ (lookT_mem hT)
    simp only [rowOk, Bool.and_eq_true] at h
    obtain ⟨⟨⟨h, hdesc⟩, hflds⟩, heqs⟩ := h
    refine ⟨?_, fun i z hi hz => ?_, descIs_ok hdesc, fun fds f hu hf => ?_, fun fds t hu ht hq => ?_⟩
    · split at h
      · rename_i i hi
        simp only [Bool.and_eq_true, beq_iff_eq] at h
        obtain ⟨⟨⟨k1, k2⟩, k3⟩, k4⟩ := h
        refine ⟨i, hi, k1, k2, fun vs hvs => ?_⟩
        have hvs' : zeros (lookT tabL) 8 T = some vs := hvs
        rw [hvs'] at k3
        simp only at k3
        split at k3
        · rename_i z hz; exact ⟨z, hz, zerosAre_ok k3⟩
        · cases k3
      · cases h
    · rw [hi] at h
      simp only [hz, Bool.and_eq_true] at h
      have h4 := h.2
      cases z <;> simp_all [Value.cells]
    · rw [hu] at hflds
      simp only [List.all_eq_true] at hflds
      exact Option.isSome_iff_exists.1 (hflds f hf)
    · have ht' : lookT tyL T = some t := ht
      rw [ht'] at heqs
      simp only [eqsOk, hq, if_true, hu, Bool.and_eq_true, List.all_eq_true, Bool.not_eq_true', bne_iff_ne] at heqs
      exact ⟨heqs.1.1, heqs.1.2, heqs.2⟩
  · have h := h2 _ (lookT_mem hT)
    simp only [tyOk] at h
    split at h
    · rename_i i hi
      simp only [Bool.and_eq_true, beq_iff_eq] at h
      obtain ⟨k1, k2⟩ := h
      split at k2
      · rename_i z hz
        simp only [Bool.and_eq_true, beq_iff_eq] at k2
        obtain ⟨k2, k3⟩ := k2
        split at k3
        · rename_i hz0
          obtain ⟨c, k4, k5, k6, k7⟩ := denZero_ok t hz0
          rw [List.append_nil] at k4
          rw [← k4] at k5 k6 k7
          exact ⟨i, z, hi, k1, hz, k2, k5, k6, k7⟩
        · cases k3
      · cases k2
    · cases h

def fnOkB (p : Prog) (f : Nat) : Bool := match p.fn f with
  | some F => F.name != "runtime.NumGoroutine" && (match F.body with
    | some b => codeOk p.byref (p.ann f) F.ntmps b
    | none => false)
  | none => false

end Go.Q
