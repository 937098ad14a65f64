/- An abstract interpreter of the translated code: what an abstract state says of a world. -/
import Derived.Test.YtlbommlpkdcmnaaGPIDefs
import Derived.Below
namespace Go.PI
open Go

/-- From an address on, these cells are read. -/
def CellsAt (w : World) (a : Addr) (es : List Value) : Prop := ∀ j v, es[j]? = some v → w.cell? ⟨a.block, a.off + j, none⟩ = some v

/-- Plain data as it is read; all memory that is read lies in blocks of I. -/
def DR (I : Nat → Prop) (w : World) : (t : Ty) → t.Den → List Value → Prop
  | .int k, n, cs => cs = [.int k n]
  | .bool, b, cs => cs = [.bool b]
  | .str, s, cs => cs = [.string s]
  | .err, b, cs => (b = false ∧ cs = [.nilIface]) ∨ (b = true ∧ ∃ t v, cs = [.iface t v])
  | .slice t, xs, cs => ∃ A cap, cs = [.slice A (List.length xs) cap] ∧ List.length xs ≤ cap ∧ ∀ (i : Nat) (h : i < List.length xs), ∃ b o, A = some ⟨b, o, none⟩ ∧ I b ∧ ∃ es, DR I w t (List.get xs ⟨i, h⟩) es ∧ CellsAt w ⟨b, o + i * t.size, none⟩ es
  | .ptr t, x, cs => ∃ b o, cs = [.pointer (some ⟨b, o, none⟩)] ∧ I b ∧ ∃ es, DR I w t x es ∧ CellsAt w ⟨b, o, none⟩ es
  | .nil, _, cs => cs = []
  | .cons a b, x, cs => ∃ c1 c2, cs = c1 ++ c2 ∧ DR I w a x.1 c1 ∧ DR I w b x.2 c2
  | .agg l, x, cs => DR I w l x cs

/-- What is known of an own object: its header (a slice, or a pointer to the variable), its elements' size. -/
structure Own where
  v : Value
  sz : Nat

mutual
/-- An abstract value and a value. -/
def VR (I : Nat → Prop) (σ : Nat → Option Own) (w : World) : AV → Value → Prop
  | .undef, _ => True
  | .skip, v => v = Go.undef
  | .d t x, v => DR I w t x [v]
  | .nilS, v => v = .slice none 0 0
  | .empS, v => ∃ A, v = .slice A 0 0
  | .nilF, v => v = .nilFunc
  | .nilP, v => v = .pointer none
  | .os id, v => ∃ A n cap z, σ id = some ⟨.slice A n cap, z⟩ ∧ v = .slice A n cap
  | .sub id a n, v => ∃ A len cap z, σ id = some ⟨.slice A len cap, z⟩ ∧ a + n ≤ len ∧ ∃ A', v = .slice A' n (cap - a) ∧ (∀ b o, A = some ⟨b, o, none⟩ → a < cap → A' = some ⟨b, o + a * z, none⟩) ∧ (∀ b o, A = some ⟨b, o, none⟩ → ∃ o', A' = some ⟨b, o', none⟩) ∧ (A = none → A' = none)
  | .el id i off, v => ∃ b o len cap z, σ id = some ⟨.slice (some ⟨b, o, none⟩) len cap, z⟩ ∧ i < len ∧ v = .pointer (some ⟨b, o + i * z + off, none⟩)
  | .op id off, v => ∃ b z, σ id = some ⟨.pointer (some ⟨b, 0, none⟩), z⟩ ∧ v = .pointer (some ⟨b, off, none⟩)
  | .rp vs, v => ∃ b o es, v = .pointer (some ⟨b, o, none⟩) ∧ I b ∧ VRs I σ w vs es ∧ CellsAt w ⟨b, o, none⟩ es
  | .agg vs, v => ∃ es, v = .agg (List.toArray es) ∧ VRs I σ w vs es
  | .tuple vs, v => ∃ es, v = .tuple (List.toArray es) ∧ VRs I σ w vs es
  | .fn f vs, v => ∃ es, v = .func (.func f) #[] (List.toArray es) ∧ VRs I σ w vs es
  | .own _ _ _, _ => False
def VRs (I : Nat → Prop) (σ : Nat → Option Own) (w : World) : List AV → List Value → Prop
  | [], es => es = []
  | v :: vs, es => ∃ e es', es = e :: es' ∧ VR I σ w v e ∧ VRs I σ w vs es'
end

/-- An own array in memory. -/
def ArrR (I : Nat → Prop) (w : World) (e : Nat) (t : Ty) (xs : List t.Den) (v : Value) : Prop :=
  (∃ A, v = .slice A 0 0 ∧ xs = []) ∨
  ∃ b o cap cells, v = .slice (some ⟨b, o, none⟩) xs.length cap ∧ w.heap[b]? = some (.cells cells e (0, 0)) ∧ o + cap * t.size ≤ cells.size ∧ xs.length ≤ cap ∧
    ∀ (i : Nat) (h : i < xs.length), ∃ es, DR I w t (xs.get ⟨i, h⟩) es ∧ ∀ j u, es[j]? = some u → cells[o + i * t.size + j]? = some u

def ObjR (I : Nat → Prop) (σ : Nat → Option Own) (w : World) (o : Own) : Obj → Prop
  | .dead => True
  | .arr e t xs => o.sz = t.size ∧ ArrR I w e t xs o.v
  | .box T vs => ∃ b es, o.v = .pointer (some ⟨b, 0, none⟩) ∧ w.heap[b]? = some (.cells (List.toArray es) T (0, 0)) ∧ VRs I σ w vs es

/-- The block of a header. -/
def blockOf : Value → Option Nat
  | .slice (some a) _ cap => if cap = 0 then none else some a.block
  | .pointer (some a) => some a.block
  | _ => none

def Obj.live : Obj → Bool
  | .dead => false
  | _ => true

/-- What an activation may write of what was there: M; base: what is its own begins there. -/
structure Rel (M : Nat → Prop) (w0 : World) (I0 : Nat → Prop) (I : Nat → Prop) (σ : Nat → Option Own) (st : St) (a : Act) (w : World) : Prop where
  slots : ∀ i, VR I σ w (st.tmps.get i) (a.tmps.getD i Go.undef)
  objs : ∀ id o, st.heap.get id = some o → ∃ ow, σ id = some ow ∧ ObjR I σ w ow o
  dom : ∀ id, st.heap.get id = none → σ id = none
  own : ∀ id o ow b, st.heap.get id = some o → o.live = true → σ id = some ow → blockOf ow.v = some b → ¬ I b ∧ b < w.heap.size ∧ (w0.heap.size ≤ b ∨ M b)
  dist : ∀ id id' o o' ow ow' b, id ≠ id' → st.heap.get id = some o → st.heap.get id' = some o' → o.live = true → o'.live = true → σ id = some ow → σ id' = some ow' → blockOf ow.v = some b → blockOf ow'.v ≠ some b
  lt : ∀ b, I b → b < w.heap.size
  src : ∀ b, I b → I0 b ∨ w0.heap.size ≤ b ∨ M b
  keep : ∀ b, I0 b → I b
  frame : w.os = w0.os ∧ w.tape = w0.tape ∧ w.output = w0.output ∧ w0.heap.size ≤ w.heap.size ∧ ∀ k, k < w0.heap.size → ¬ M k → w.heap[k]? = w0.heap[k]?
  defers : a.defers = []

/-! ### Carrying over -/
theorem cell_of_heap {w w' : World} {b : Nat} (h : w'.heap[b]? = w.heap[b]?) (o : Nat) : w'.cell? ⟨b, o, none⟩ = w.cell? ⟨b, o, none⟩ := by
  simp only [World.cell?, h]

theorem CellsAt.of_heap {w w' : World} {b o : Nat} {es : List Value} (hc : CellsAt w ⟨b, o, none⟩ es) (h : w'.heap[b]? = w.heap[b]?) : CellsAt w' ⟨b, o, none⟩ es :=
  fun j v hj => (cell_of_heap h _).trans (hc j v hj)

theorem DR.mono {I I' : Nat → Prop} {w w' : World} (hI : ∀ b, I b → I' b) (hw : ∀ b, I b → w'.heap[b]? = w.heap[b]?) : ∀ (t : Ty) (x : t.Den) (cs : List Value), DR I w t x cs → DR I' w' t x cs
  | .int _, _, _, h => h
  | .bool, _, _, h => h
  | .str, _, _, h => h
  | .err, _, _, h => h
  | .nil, _, _, h => h
  | .agg l, x, cs, h => DR.mono hI hw l x cs h
  | .cons a b, x, cs, h => by
    obtain ⟨c1, c2, e, h1, h2⟩ := h
    exact ⟨c1, c2, e, DR.mono hI hw a _ _ h1, DR.mono hI hw b _ _ h2⟩
  | .ptr t, x, cs, h => by
    obtain ⟨b, o, e, hb, es, h1, h2⟩ := h
    exact ⟨b, o, e, hI b hb, es, DR.mono hI hw t _ _ h1, h2.of_heap (hw b hb)⟩
  | .slice t, xs, cs, h => by
    obtain ⟨A, cap, e, hc, h⟩ := h
    refine ⟨A, cap, e, hc, fun i hi => ?_⟩
    obtain ⟨b, o, eA, hb, es, h1, h2⟩ := h i hi
    exact ⟨b, o, eA, hI b hb, es, DR.mono hI hw t _ _ h1, h2.of_heap (hw b hb)⟩

/-- One knows more of own objects. -/
def Knows (σ σ' : Nat → Option Own) : Prop := ∀ id o, σ id = some o → σ' id = some o

mutual
theorem VR.mono {I I' : Nat → Prop} {σ σ' : Nat → Option Own} {w w' : World} (hI : ∀ b, I b → I' b) (hw : ∀ b, I b → w'.heap[b]? = w.heap[b]?) (hσ : Knows σ σ') :
    ∀ (v : AV) (u : Value), VR I σ w v u → VR I' σ' w' v u
  | .undef, _, _ => trivial
  | .skip, _, h => h
  | .d t x, _, h => DR.mono hI hw t x _ h
  | .nilS, _, h => h
  | .empS, _, h => h
  | .nilF, _, h => h
  | .nilP, _, h => h
  | .os _, _, h => by obtain ⟨A, n, cap, z, h1, h2⟩ := h; exact ⟨A, n, cap, z, hσ _ _ h1, h2⟩
  | .sub _ _ _, _, h => by obtain ⟨A, len, cap, z, h1, h2⟩ := h; exact ⟨A, len, cap, z, hσ _ _ h1, h2⟩
  | .el _ _ _, _, h => by obtain ⟨b, o, len, cap, z, h1, h2⟩ := h; exact ⟨b, o, len, cap, z, hσ _ _ h1, h2⟩
  | .op _ _, _, h => by obtain ⟨b, z, h1, h2⟩ := h; exact ⟨b, z, hσ _ _ h1, h2⟩
  | .rp vs, _, h => by
    obtain ⟨b, o, es, h1, h2, h3, h4⟩ := h
    exact ⟨b, o, es, h1, hI b h2, VRs.mono hI hw hσ vs es h3, h4.of_heap (hw b h2)⟩
  | .agg vs, _, h => by obtain ⟨es, h1, h2⟩ := h; exact ⟨es, h1, VRs.mono hI hw hσ vs es h2⟩
  | .tuple vs, _, h => by obtain ⟨es, h1, h2⟩ := h; exact ⟨es, h1, VRs.mono hI hw hσ vs es h2⟩
  | .fn _ vs, _, h => by obtain ⟨es, h1, h2⟩ := h; exact ⟨es, h1, VRs.mono hI hw hσ vs es h2⟩
  | .own _ _ _, _, h => h.elim
theorem VRs.mono {I I' : Nat → Prop} {σ σ' : Nat → Option Own} {w w' : World} (hI : ∀ b, I b → I' b) (hw : ∀ b, I b → w'.heap[b]? = w.heap[b]?) (hσ : Knows σ σ') :
    ∀ (vs : List AV) (us : List Value), VRs I σ w vs us → VRs I' σ' w' vs us
  | [], _, h => h
  | v :: vs, _, h => by
    obtain ⟨e, es', h1, h2, h3⟩ := h
    exact ⟨e, es', h1, VR.mono hI hw hσ v e h2, VRs.mono hI hw hσ vs es' h3⟩
end

mutual
/-- References to one object are turned into something else. -/
theorem VR.subst {I I' : Nat → Prop} {σ σ' : Nat → Option Own} {w w' : World} (hI : ∀ b, I b → I' b) (hw : ∀ b, I b → w'.heap[b]? = w.heap[b]?) (id : Nat) (r : AV → AV)
    (hσ : ∀ i o, i ≠ id → σ i = some o → σ' i = some o)
    (h1 : ∀ u, VR I σ w (.os id) u → VR I' σ' w' (r (.os id)) u) (h2 : ∀ a n u, VR I σ w (.sub id a n) u → VR I' σ' w' (r (.sub id a n)) u)
    (h3 : ∀ a n u, VR I σ w (.el id a n) u → VR I' σ' w' (r (.el id a n)) u) (h4 : ∀ a u, VR I σ w (.op id a) u → VR I' σ' w' (r (.op id a)) u) :
    ∀ (v : AV) (u : Value), VR I σ w v u → VR I' σ' w' (v.subst id r) u
  | .undef, _, _ => trivial
  | .skip, _, h => h
  | .d t x, _, h => DR.mono hI hw t x _ h
  | .nilS, _, h => h
  | .empS, _, h => h
  | .nilF, _, h => h
  | .nilP, _, h => h
  | .os i, u, h => by
    by_cases e : i = id
    · subst e; simpa [AV.subst] using h1 u h
    · obtain ⟨A, n, cap, z, g1, g2⟩ := h; simp only [AV.subst, if_neg e]; exact ⟨A, n, cap, z, hσ _ _ e g1, g2⟩
  | .sub i a n, u, h => by
    by_cases e : i = id
    · subst e; simpa [AV.subst] using h2 a n u h
    · obtain ⟨A, len, cap, z, g1, g2⟩ := h; simp only [AV.subst, if_neg e]; exact ⟨A, len, cap, z, hσ _ _ e g1, g2⟩
  | .el i a n, u, h => by
    by_cases e : i = id
    · subst e; simpa [AV.subst] using h3 a n u h
    · obtain ⟨b, o, len, cap, z, g1, g2⟩ := h; simp only [AV.subst, if_neg e]; exact ⟨b, o, len, cap, z, hσ _ _ e g1, g2⟩
  | .op i a, u, h => by
    by_cases e : i = id
    · subst e; simpa [AV.subst] using h4 a u h
    · obtain ⟨b, z, g1, g2⟩ := h; simp only [AV.subst, if_neg e]; exact ⟨b, z, hσ _ _ e g1, g2⟩
  | .rp vs, _, h => by
    obtain ⟨b, o, es, g1, g2, g3, g4⟩ := h
    exact ⟨b, o, es, g1, hI b g2, VRs.subst hI hw id r hσ h1 h2 h3 h4 vs es g3, g4.of_heap (hw b g2)⟩
  | .agg vs, _, h => by obtain ⟨es, g1, g2⟩ := h; exact ⟨es, g1, VRs.subst hI hw id r hσ h1 h2 h3 h4 vs es g2⟩
  | .tuple vs, _, h => by obtain ⟨es, g1, g2⟩ := h; exact ⟨es, g1, VRs.subst hI hw id r hσ h1 h2 h3 h4 vs es g2⟩
  | .fn _ vs, _, h => by obtain ⟨es, g1, g2⟩ := h; exact ⟨es, g1, VRs.subst hI hw id r hσ h1 h2 h3 h4 vs es g2⟩
  | .own _ _ _, _, h => h.elim
theorem VRs.subst {I I' : Nat → Prop} {σ σ' : Nat → Option Own} {w w' : World} (hI : ∀ b, I b → I' b) (hw : ∀ b, I b → w'.heap[b]? = w.heap[b]?) (id : Nat) (r : AV → AV)
    (hσ : ∀ i o, i ≠ id → σ i = some o → σ' i = some o)
    (h1 : ∀ u, VR I σ w (.os id) u → VR I' σ' w' (r (.os id)) u) (h2 : ∀ a n u, VR I σ w (.sub id a n) u → VR I' σ' w' (r (.sub id a n)) u)
    (h3 : ∀ a n u, VR I σ w (.el id a n) u → VR I' σ' w' (r (.el id a n)) u) (h4 : ∀ a u, VR I σ w (.op id a) u → VR I' σ' w' (r (.op id a)) u) :
    ∀ (vs : List AV) (us : List Value), VRs I σ w vs us → VRs I' σ' w' (AV.substs id r vs) us
  | [], _, h => h
  | v :: vs, _, h => by
    obtain ⟨e, es', g1, g2, g3⟩ := h
    exact ⟨e, es', g1, VR.subst hI hw id r hσ h1 h2 h3 h4 v e g2, VRs.subst hI hw id r hσ h1 h2 h3 h4 vs es' g3⟩
end

/-- No value leads to an object of which nothing is known. -/
theorem VR.kill {I : Nat → Prop} {σ σ' : Nat → Option Own} {w : World} (id : Nat) (hσ : ∀ i o, i ≠ id → σ i = some o → σ' i = some o) (v : AV) (u : Value) (h : VR I σ w v u) : VR I σ' w (v.subst id fun _ => .undef) u :=
  VR.subst (I' := I) (w' := w) (fun _ h => h) (fun _ _ => rfl) id (fun _ => AV.undef) hσ (fun _ _ => trivial) (fun _ _ _ _ => trivial) (fun _ _ _ _ => trivial) (fun _ _ _ => trivial) v u h
theorem VRs.kill {I : Nat → Prop} {σ σ' : Nat → Option Own} {w : World} (id : Nat) (hσ : ∀ i o, i ≠ id → σ i = some o → σ' i = some o) (vs : List AV) (us : List Value) (h : VRs I σ w vs us) : VRs I σ' w (AV.substs id (fun _ => .undef) vs) us :=
  VRs.subst (I' := I) (w' := w) (fun _ h => h) (fun _ _ => rfl) id (fun _ => AV.undef) hσ (fun _ _ => trivial) (fun _ _ _ _ => trivial) (fun _ _ _ _ => trivial) (fun _ _ _ => trivial) vs us h

end Go.PI
