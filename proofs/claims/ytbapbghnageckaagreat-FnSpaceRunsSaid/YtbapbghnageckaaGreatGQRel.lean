/- An abstract interpreter of the translated code: what an abstract state says of a world. -/
import Derived.Test.YtbapbghnageckaaGreatGQDefs
import Derived.Below
import Derived.Lib.AppendStr
namespace Go.Q
set_option linter.unusedVariables false
set_option linter.unusedSimpArgs false
set_option linter.unusedSectionVars false
open Go

def CellsAt (w : World) (a : Addr) (es : List Value) : Prop := ∀ j v, es[j]? = some v → w.cell? ⟨a.block, a.off + j, none⟩ = some v

def DR (I : Nat → Prop) (w : World) : (t : Ty) → t.Den → List Value → Prop
 | .int k, n, cs => cs = [.int k n]
 | .bool, b, cs => cs = [.bool b]
 | .str, s, cs => cs = [.string s]
 | .err, b, cs => (b = false ∧ cs = [.nilIface]) ∨ (b = true ∧ ∃ t v, cs = [.iface t v])
 | .slice t, xs, cs => ∃ A cap, cs = [.slice A (List.length xs) cap] ∧ List.length xs ≤ cap ∧ ∀ (i : Nat) (h : i < List.length xs), ∃ b o, A = some ⟨b, o, none⟩ ∧ I b ∧ ∃ es, DR I w t (List.get xs ⟨i, h⟩) es ∧ CellsAt w ⟨b, o + i * t.size, none⟩ es
 | .ptr t, x, cs => ∃ b o, cs = [.pointer (some ⟨b, o, none⟩)] ∧ I b ∧ ∃ es, DR I w t x es ∧ CellsAt w ⟨b, o, none⟩ es
 | .nil, _, cs => cs = []
 | .cons a b, x, cs => ∃ c1 c2, cs = c1 ++ c2 ∧ DR I w a x.1 c1 ∧ DR I w b x.2 c2
 | .agg l, x, cs => DR I w l x cs

structure Hdr where
 v : Value
 sz : Nat
structure Own where
 h : Hdr
 inn : Nat → Nat → Option Hdr

def hdrOf (σ : Nat → Option Own) : Pl → Option Hdr
 | .t id => (σ id).map (·.h)
 | .n id i off => (σ id).bind fun ow => ow.inn i off

def LR (σ : Nat → Option Own) : AV → Value → Prop
 | .os p, v => ∃ H A n cap, hdrOf σ p = some H ∧ H.v = .slice A n cap ∧ v = .slice A n cap
 | .sub p a n, v => ∃ H A len cap, hdrOf σ p = some H ∧ H.v = .slice A len cap ∧ a + n ≤ len ∧ ∃ A', v = .slice A' n (cap - a) ∧ (∀ b o, A = some ⟨b, o, none⟩ → a < cap → A' = some ⟨b, o + a * H.sz, none⟩) ∧ (∀ b o, A = some ⟨b, o, none⟩ → ∃ o', A' = some ⟨b, o', none⟩) ∧ (A = none → A' = none)
 | .el p i off, v => ∃ H b o len cap, hdrOf σ p = some H ∧ H.v = .slice (some ⟨b, o, none⟩) len cap ∧ i < len ∧ v = .pointer (some ⟨b, o + i * H.sz + off, none⟩)
 | .op id off, v => ∃ ow b, σ id = some ow ∧ ow.h.v = .pointer (some ⟨b, 0, none⟩) ∧ v = .pointer (some ⟨b, off, none⟩)
 | .mp id, v => ∃ ow b, σ id = some ow ∧ ow.h.v = .map (some b) ∧ v = .map (some b)
 | _, _ => False

mutual
def VR (I : Nat → Prop) (σ : Nat → Option Own) (w : World) : AV → Value → Prop
 | .undef, _ => True
 | .skip, v => v = Go.undef
 | .d t x, v => DR I w t x [v]
 | .nilS, v => v = .slice none 0 0
 | .empS, v => ∃ A, v = .slice A 0 0
 | .nilF, v => v = .nilFunc
 | .nilP, v => v = .pointer none
 | .nilM, v => v = .map none
 | .os p, v => LR σ (.os p) v
 | .sub p a n, v => LR σ (.sub p a n) v
 | .el p i off, v => LR σ (.el p i off) v
 | .op id off, v => LR σ (.op id off) v
 | .mp id, v => LR σ (.mp id) v
 | .rp vs, v => ∃ b o es, v = .pointer (some ⟨b, o, none⟩) ∧ I b ∧ VRs I σ w vs es ∧ CellsAt w ⟨b, o, none⟩ es
 | .agg vs, v => ∃ es, v = .agg (List.toArray es) ∧ VRs I σ w vs es
 | .tuple vs, v => ∃ es, v = .tuple (List.toArray es) ∧ VRs I σ w vs es
 | .fn f vs, v => ∃ es, v = .func (.func f) #[] (List.toArray es) ∧ VRs I σ w vs es
def VRs (I : Nat → Prop) (σ : Nat → Option Own) (w : World) : List AV → List Value → Prop
 | [], es => es = []
 | v :: vs, es => ∃ e es', es = e :: es' ∧ VR I σ w v e ∧ VRs I σ w vs es'
end

def Arr (w : World) (v : Value) (n sz : Nat) (cs : List Value) : Prop :=
 cs.length = n * sz ∧ ((∃ A, v = .slice A 0 0 ∧ n = 0) ∨
  ∃ b o cap cells e, v = .slice (some ⟨b, o, none⟩) n cap ∧ w.heap[b]? = some (.cells cells e (0, 0)) ∧ o + cap * sz ≤ cells.size ∧ (n ≤ cap ∧ cap ≤ 9223372036854775807) ∧ (cells.toList.drop o).take (n * sz) = cs)
def chunk (sz : Nat) (cs : List Value) (i : Nat) : List Value := (cs.drop (i * sz)).take sz
def PlainArr (I : Nat → Prop) (w : World) (t : Ty) (xs : List t.Den) (v : Value) : Prop :=
 ∃ cs, Arr w v xs.length t.size cs ∧ ∀ (i : Nat) (h : i < xs.length), DR I w t (xs.get ⟨i, h⟩) (chunk t.size cs i)
def ER (I : Nat → Prop) (w : World) (inn : Nat → Option Hdr) : (t : Ty) → Nat → t.Den → List Value → Prop
 | .slice t, off, xs, cs => ∃ v, cs = [v] ∧ inn off = some ⟨v, t.size⟩ ∧ PlainArr I w t xs v
 | .cons a b, off, x, cs => ∃ c1 c2, cs = c1 ++ c2 ∧ ER I w inn a off x.1 c1 ∧ ER I w inn b (off + a.size) x.2 c2
 | .agg l, off, x, cs => ER I w inn l off x cs
 | .int k, _, x, cs => DR I w (.int k) x cs
 | .bool, _, x, cs => DR I w .bool x cs
 | .str, _, x, cs => DR I w .str x cs
 | .err, _, x, cs => DR I w .err x cs
 | .ptr t, _, x, cs => DR I w (.ptr t) x cs
 | .nil, _, x, cs => DR I w .nil x cs
def EltR (I : Nat → Prop) (w : World) (d : Bool) (inn : Nat → Option Hdr) (t : Ty) (x : t.Den) (cs : List Value) : Prop :=
 if d = true then ER I w inn t 0 x cs else DR I w t x cs
def ArrOf (I : Nat → Prop) (w : World) (d : Bool) (inn : Nat → Nat → Option Hdr) (t : Ty) (xs : List t.Den) (v : Value) : Prop :=
 ∃ cs, Arr w v xs.length t.size cs ∧ ∀ (i : Nat) (h : i < xs.length), EltR I w d (inn i) t (xs.get ⟨i, h⟩) (chunk t.size cs i)

def blockOf : Value → Option Nat
 | .slice (some a) _ cap => if cap = 0 then none else some a.block
 | .pointer (some a) => some a.block
 | .map (some b) => some b
 | _ => none
def Own.has (ow : Own) (b : Nat) : Prop := blockOf ow.h.v = some b ∨ ∃ i off H, ow.inn i off = some H ∧ blockOf H.v = some b
structure InnOK (ow : Own) : Prop where
 out : ∀ i off H b, ow.inn i off = some H → blockOf H.v = some b → blockOf ow.h.v ≠ some b
 one : ∀ i off H i' off' H' b, ow.inn i off = some H → ow.inn i' off' = some H' → blockOf H.v = some b → blockOf H'.v = some b → i = i' ∧ off = off'

def KR (I : Nat → Prop) (w : World) (t : Ty) (x : t.Den) (v : Value) : Prop := if t.isAggT = true then ∃ cs, v = .agg cs ∧ DR I w t x cs.toList else DR I w t x [v]
def MapR (I : Nat → Prop) (w : World) (tk tv : Ty) : List (tk.Den × tv.Den) → List MapEntry → Prop
 | [], es => es = []
 | (k, x) :: kvs, es => ∃ e es', es = e :: es' ∧ KR I w tk k e.key ∧ KR I w tv x e.val ∧ MapR I w tk tv kvs es'

def BytesAt (w : World) (e : Nat) (v : Value) (s : ByteArray) : Prop :=
 (v = .slice none 0 0 ∧ s.size = 0) ∨ ∃ g cap cur, v = .slice (some ⟨g, 0, none⟩) s.size cap ∧ cap ≠ 0 ∧ w.heap[g]? = some (.cells cur e (0, 0)) ∧ s.size ≤ cap ∧ cap ≤ maxLen ∧ cur.size = cap * 1 ∧ cur.toList.take (s.size * 1) = Lib.strCells s
def BldR (w : World) (ow : Own) (d : Bool) (T e : Nat) (s : ByteArray) : Prop :=
 ∃ b v, ow.h.v = .pointer (some ⟨b, 0, none⟩) ∧ (ow.inn = fun i off => if i = 0 ∧ off = 1 then some ⟨v, 1⟩ else none) ∧ blockOf v ≠ some b ∧
  (d = false → (∃ p, (p = .pointer none ∨ p = .pointer (some ⟨b, 0, none⟩)) ∧ w.heap[b]? = some (.cells #[p, v] T (0, 0))) ∧ BytesAt w e v s)

theorem BytesAt.moved {w w' : World} {e : Nat} {v : Value} {s : ByteArray} (h : BytesAt w e v s) (hw : ∀ b, blockOf v = some b → w'.heap[b]? = w.heap[b]?) : BytesAt w' e v s := by
 rcases h with h | ⟨g, cap, cur, rfl, hc, h1, h2⟩
 ·exact .inl h
 ·exact .inr ⟨g, cap, cur, rfl, hc, by rw [hw g (by simp only [blockOf]; rw [if_neg hc])]; exact h1, h2⟩
theorem BldR.moved {w w' : World} {ow : Own} {d : Bool} {T e : Nat} {s : ByteArray} (h : BldR w ow d T e s) (hw : ∀ b, ow.has b → w'.heap[b]? = w.heap[b]?) : BldR w' ow d T e s := by
 obtain ⟨b, v, h1, h2, h3, h4⟩ := h
 refine ⟨b, v, h1, h2, h3, fun hd => ?_⟩
 obtain ⟨⟨p, k1, k2⟩, k3⟩ := h4 hd
 exact ⟨⟨p, k1, by rw [hw b (.inl (by rw [h1]; rfl))]; exact k2⟩, k3.moved fun g hg => hw g (.inr ⟨0, 1, ⟨v, 1⟩, by rw [h2]; simp, hg⟩)⟩

def ObjR (I : Nat → Prop) (σ : Nat → Option Own) (w : World) (ow : Own) : Obj → Prop
 | .dead => True
 | .arr _ d t xs => ow.h.sz = t.size ∧ (d = false → ∀ i off, ow.inn i off = none) ∧ InnOK ow ∧ ArrOf I w d ow.inn t xs ow.h.v
 | .box vs => (∀ i off, ow.inn i off = none) ∧ ∃ b es T, ow.h.v = .pointer (some ⟨b, 0, none⟩) ∧ w.heap[b]? = some (.cells (List.toArray es) T (0, 0)) ∧ VRs I σ w vs es
 | .mp tk tv kvs => (∀ i off, ow.inn i off = none) ∧ ∃ b es clock, ow.h.v = .map (some b) ∧ w.heap[b]? = some (.map (List.toArray es) clock) ∧ MapR I w tk tv kvs es
 | .bld d T e s => BldR w ow d T e s

def Live (σ : Nat → Option Own) (h : Heap) (b : Nat) : Prop := ∃ id o ow, h.get id = some o ∧ o.live = true ∧ σ id = some ow ∧ ow.has b

structure HR (I : Nat → Prop) (σ : Nat → Option Own) (w : World) (h : Heap) : Prop where
 objs : ∀ id o, h.get id = some o → ∃ ow, σ id = some ow ∧ ObjR I σ w ow o
 dom : ∀ id, h.get id = none → σ id = none
 own : ∀ b, Live σ h b → ¬ I b ∧ b < w.heap.size
 dist : ∀ id id' o o' ow ow' b, id ≠ id' → h.get id = some o → h.get id' = some o' → o.live = true → o'.live = true → σ id = some ow → σ id' = some ow' → ow.has b → ¬ ow'.has b
 lt : ∀ b, I b → b < w.heap.size

structure Base where
 w0 : World
 I0 : Nat → Prop
 M : Nat → Prop
 σ0 : Nat → Option Own

structure Rel (B : Base) (I : Nat → Prop) (σ : Nat → Option Own) (st : St) (a : Act) (w : World) : Prop where
 slots : ∀ i, VR I σ w (st.tmps.get i) (a.tmps.getD i Go.undef)
 hr : HR I σ w st.heap
 from_ : ∀ b, Live σ st.heap b → B.w0.heap.size ≤ b ∨ B.M b
 src : ∀ b, I b → B.I0 b ∨ B.w0.heap.size ≤ b ∨ B.M b
 keep : ∀ b, B.I0 b → I b
 still : ∀ id, lentFrom ≤ id → ∀ o, st.heap.get id = some o → o.still = true → ∀ ow, B.σ0 id = some ow → ∃ ow', σ id = some ow' ∧ ow'.h = ow.h
 frame : w.os = B.w0.os ∧ w.tape = B.w0.tape ∧ w.output = B.w0.output ∧ B.w0.heap.size ≤ w.heap.size ∧ ∀ k, k < B.w0.heap.size → ¬ B.M k → w.heap[k]? = B.w0.heap[k]?
 defers : a.defers = []

theorem cell_of_heap {w w' : World} {b : Nat} (h : w'.heap[b]? = w.heap[b]?) (o : Nat) : w'.cell? ⟨b, o, none⟩ = w.cell? ⟨b, o, none⟩ := by
 simp only [World.cell?, h]

theorem CellsAt.of_heap {w w' : World} {b o : Nat} {es : List Value} (hc : CellsAt w ⟨b, o, none⟩ es) (h : w'.heap[b]? = w.heap[b]?) : CellsAt w' ⟨b, o, none⟩ es :=
 fun j v hj => (cell_of_heap h _).trans (hc j v hj)

theorem DR.mono {I I' : Nat → Prop} {w w' : World} (hI : ∀ b, I b → I' b) (hw : ∀ b, I b → w'.heap[b]? = w.heap[b]?) : ∀ (t : Ty) (x : t.Den) (cs : List Value), DR I w t x cs → DR I' w' t x cs
 | .int _, _, _, h => h
 | .bool, _, _, h => h
 | .str, _, _, h => h
 | .err, _, _, h => h
 | .nil, _, _, h => h
 | .agg l, x, cs, h => DR.mono hI hw l x cs h
 | .cons a b, x, cs, h => by
  obtain ⟨c1, c2, e, h1, h2⟩ := h
  exact ⟨c1, c2, e, DR.mono hI hw a _ _ h1, DR.mono hI hw b _ _ h2⟩
 | .ptr t, x, cs, h => by
  obtain ⟨b, o, e, hb, es, h1, h2⟩ := h
  exact ⟨b, o, e, hI b hb, es, DR.mono hI hw t _ _ h1, h2.of_heap (hw b hb)⟩
 | .slice t, xs, cs, h => by
  obtain ⟨A, cap, e, hc, h⟩ := h
  refine ⟨A, cap, e, hc, fun i hi => ?_⟩
  obtain ⟨b, o, eA, hb, es, h1, h2⟩ := h i hi
  exact ⟨b, o, eA, hI b hb, es, DR.mono hI hw t _ _ h1, h2.of_heap (hw b hb)⟩

def Knows (σ σ' : Nat → Option Own) : Prop := ∀ id o, σ id = some o → σ' id = some o

theorem Knows.hdr {σ σ' : Nat → Option Own} (h : Knows σ σ') (p : Pl) (H : Hdr) (hp : hdrOf σ p = some H) : hdrOf σ' p = some H := by
 cases p with
 | t id => simp only [hdrOf, Option.map_eq_some_iff] at hp ⊢; obtain ⟨ow, h1, h2⟩ := hp; exact ⟨ow, h _ _ h1, h2⟩
 | n id i off => simp only [hdrOf, Option.bind_eq_some_iff] at hp ⊢; obtain ⟨ow, h1, h2⟩ := hp; exact ⟨ow, h _ _ h1, h2⟩

def AV.isRef : AV → Bool
 | .os _ | .sub _ _ _ | .el _ _ _ | .op _ _ | .mp _ => true
 | _ => false

theorem LR.of_hdr {σ σ' : Nat → Option Own} (v : AV) (u : Value) (hp : ∀ p H, (v = .os p ∨ (∃ a n, v = .sub p a n) ∨ ∃ i off, v = .el p i off) → hdrOf σ p = some H → hdrOf σ' p = some H)
  (hid : ∀ id ow, ((∃ off, v = .op id off) ∨ v = .mp id) → σ id = some ow → ∃ ow', σ' id = some ow' ∧ ow'.h = ow.h) (h : LR σ v u) : LR σ' v u := by
 cases v <;> simp only [LR] at h ⊢
 case os p => obtain ⟨H, A, n, cap, h1, h2, h3⟩ := h; exact ⟨H, A, n, cap, hp p H (by simp) h1, h2, h3⟩
 case sub p a n => obtain ⟨H, A, len, cap, h1, h2⟩ := h; exact ⟨H, A, len, cap, hp p H (by simp) h1, h2⟩
 case el p i off => obtain ⟨H, b, o, len, cap, h1, h2⟩ := h; exact ⟨H, b, o, len, cap, hp p H (by simp) h1, h2⟩
 case op id off => obtain ⟨ow, b, h1, h2, h3⟩ := h; obtain ⟨ow', k1, k2⟩ := hid id ow (by simp) h1; exact ⟨ow', b, k1, by rw [k2]; exact h2, h3⟩
 case mp id => obtain ⟨ow, b, h1, h2, h3⟩ := h; obtain ⟨ow', k1, k2⟩ := hid id ow (by simp) h1; exact ⟨ow', b, k1, by rw [k2]; exact h2, h3⟩

theorem LR.knows {σ σ' : Nat → Option Own} (hσ : Knows σ σ') (v : AV) (u : Value) (h : LR σ v u) : LR σ' v u :=
 LR.of_hdr v u (fun p H _ hp => hσ.hdr p H hp) (fun id ow _ h => ⟨ow, hσ _ _ h, rfl⟩) h

mutual
theorem VR.mapR {I I' : Nat → Prop} {σ σ' : Nat → Option Own} {w w' : World} (hI : ∀ b, I b → I' b) (hw : ∀ b, I b → w'.heap[b]? = w.heap[b]?) (f : AV → AV) (c : AV → Prop)
  (hf : ∀ v u, c v → LR σ v u → VR I' σ' w' (f v) u) (hos : ∀ vs v, c (.rp vs) ∨ c (.agg vs) ∨ c (.tuple vs) ∨ (∃ g, c (.fn g vs)) → v ∈ vs → c v) :
  ∀ (v : AV) (u : Value), c v → VR I σ w v u → VR I' σ' w' (v.mapR f) u
 | .undef, _, _, _ => trivial
 | .skip, _, _, h => h
 | .d t x, _, _, h => DR.mono hI hw t x _ h
 | .nilS, _, _, h => h
 | .empS, _, _, h => h
 | .nilF, _, _, h => h
 | .nilP, _, _, h => h
 | .nilM, _, _, h => h
 | .os p, u, hc, h => hf (.os p) u hc h
 | .sub p a n, u, hc, h => hf (.sub p a n) u hc h
 | .el p i off, u, hc, h => hf (.el p i off) u hc h
 | .op id off, u, hc, h => hf (.op id off) u hc h
 | .mp id, u, hc, h => hf (.mp id) u hc h
 | .rp vs, _, hc, h => by
  obtain ⟨b, o, es, h1, h2, h3, h4⟩ := h
  exact ⟨b, o, es, h1, hI b h2, VRs.mapR hI hw f c hf hos vs es (fun v hv => hos vs v (.inl hc) hv) h3, h4.of_heap (hw b h2)⟩
 | .agg vs, _, hc, h => by obtain ⟨es, h1, h2⟩ := h; exact ⟨es, h1, VRs.mapR hI hw f c hf hos vs es (fun v hv => hos vs v (.inr (.inl hc)) hv) h2⟩
 | .tuple vs, _, hc, h => by obtain ⟨es, h1, h2⟩ := h; exact ⟨es, h1, VRs.mapR hI hw f c hf hos vs es (fun v hv => hos vs v (.inr (.inr (.inl hc))) hv) h2⟩
 | .fn g vs, _, hc, h => by obtain ⟨es, h1, h2⟩ := h; exact ⟨es, h1, VRs.mapR hI hw f c hf hos vs es (fun v hv => hos vs v (.inr (.inr (.inr ⟨g, hc⟩))) hv) h2⟩
theorem VRs.mapR {I I' : Nat → Prop} {σ σ' : Nat → Option Own} {w w' : World} (hI : ∀ b, I b → I' b) (hw : ∀ b, I b → w'.heap[b]? = w.heap[b]?) (f : AV → AV) (c : AV → Prop)
  (hf : ∀ v u, c v → LR σ v u → VR I' σ' w' (f v) u) (hos : ∀ vs v, c (.rp vs) ∨ c (.agg vs) ∨ c (.tuple vs) ∨ (∃ g, c (.fn g vs)) → v ∈ vs → c v) :
  ∀ (vs : List AV) (us : List Value), (∀ v ∈ vs, c v) → VRs I σ w vs us → VRs I' σ' w' (AV.mapRs f vs) us
 | [], _, _, h => h
 | v :: vs, _, hc, h => by
  obtain ⟨e, es', h1, h2, h3⟩ := h
  exact ⟨e, es', h1, VR.mapR hI hw f c hf hos v e (hc v (by simp)) h2, VRs.mapR hI hw f c hf hos vs es' (fun x hx => hc x (by simp [hx])) h3⟩
end

mutual
theorem AV.mapR_id : ∀ v : AV, v.mapR (fun v => v) = v
 | .undef => rfl
 | .skip => rfl
 | .d _ _ => rfl
 | .nilS => rfl
 | .empS => rfl
 | .nilF => rfl
 | .nilP => rfl
 | .nilM => rfl
 | .os _ => rfl
 | .sub _ _ _ => rfl
 | .el _ _ _ => rfl
 | .op _ _ => rfl
 | .mp _ => rfl
 | .rp vs => by rw [AV.mapR, AV.mapRs_id vs]
 | .agg vs => by rw [AV.mapR, AV.mapRs_id vs]
 | .tuple vs => by rw [AV.mapR, AV.mapRs_id vs]
 | .fn _ vs => by rw [AV.mapR, AV.mapRs_id vs]
theorem AV.mapRs_id : ∀ vs : List AV, AV.mapRs (fun v => v) vs = vs
 | [] => rfl
 | v :: vs => by rw [AV.mapRs, AV.mapR_id v, AV.mapRs_id vs]
end

theorem LR.toVR {I : Nat → Prop} {σ : Nat → Option Own} {w : World} (v : AV) (u : Value) (h : LR σ v u) : VR I σ w v u := by
 cases v <;> first | exact h | exact h.elim
theorem VR.toLR {I : Nat → Prop} {σ : Nat → Option Own} {w : World} {v : AV} {u : Value} (h : VR I σ w v u) (hv : v.isRef = true) : LR σ v u := by
 cases v <;> first | exact h | cases hv

theorem VR.map {I I' : Nat → Prop} {σ σ' : Nat → Option Own} {w w' : World} (hI : ∀ b, I b → I' b) (hw : ∀ b, I b → w'.heap[b]? = w.heap[b]?) (f : AV → AV) (hf : ∀ v u, LR σ v u → VR I' σ' w' (f v) u) (v : AV) (u : Value) (h : VR I σ w v u) : VR I' σ' w' (v.mapR f) u :=
 VR.mapR hI hw f (fun _ => True) (fun v u _ => hf v u) (fun _ _ _ _ => trivial) v u trivial h
theorem VRs.map {I I' : Nat → Prop} {σ σ' : Nat → Option Own} {w w' : World} (hI : ∀ b, I b → I' b) (hw : ∀ b, I b → w'.heap[b]? = w.heap[b]?) (f : AV → AV) (hf : ∀ v u, LR σ v u → VR I' σ' w' (f v) u) (v : List AV) (u : List Value) (h : VRs I σ w v u) : VRs I' σ' w' (AV.mapRs f v) u :=
 VRs.mapR hI hw f (fun _ => True) (fun v u _ => hf v u) (fun _ _ _ _ => trivial) v u (fun _ _ => trivial) h

theorem VR.mono {I I' : Nat → Prop} {σ σ' : Nat → Option Own} {w w' : World} (hI : ∀ b, I b → I' b) (hw : ∀ b, I b → w'.heap[b]? = w.heap[b]?) (hσ : Knows σ σ') (v : AV) (u : Value) (h : VR I σ w v u) : VR I' σ' w' v u := by
 have := VR.map hI hw (fun v => v) (fun v u h => LR.toVR v u (LR.knows hσ v u h)) v u h
 rwa [AV.mapR_id] at this
theorem VRs.mono {I I' : Nat → Prop} {σ σ' : Nat → Option Own} {w w' : World} (hI : ∀ b, I b → I' b) (hw : ∀ b, I b → w'.heap[b]? = w.heap[b]?) (hσ : Knows σ σ') (v : List AV) (u : List Value) (h : VRs I σ w v u) : VRs I' σ' w' v u := by
 have := VRs.map hI hw (fun v => v) (fun v u h => LR.toVR v u (LR.knows hσ v u h)) v u h
 rwa [AV.mapRs_id] at this

theorem AV.leadss_mem {id : Nat} : ∀ {vs : List AV} {v : AV}, v ∈ vs → v.leads id = true → AV.leadss id vs = true
 | x :: vs, v, hv, h => by
  simp only [AV.leadss, Bool.or_eq_true]
  rcases List.mem_cons.1 hv with rfl | hv
  ·exact .inl h
  ·exact .inr (AV.leadss_mem hv h)

theorem VR.restrict {I : Nat → Prop} {σ σ' : Nat → Option Own} {w : World} (v : AV) (u : Value) (hk : ∀ id, v.leads id = true → σ' id = σ id) (h : VR I σ w v u) : VR I σ' w v u := by
 have := VR.mapR (I := I) (I' := I) (σ := σ) (σ' := σ') (w := w) (w' := w) (fun _ h => h) (fun _ _ => rfl) (fun v => v) (fun x => ∀ id, x.leads id = true → σ' id = σ id) (fun x y hx h => ?_) (fun vs x hc hx id hl => ?_) v u hk h
 ·rwa [AV.mapR_id] at this
 ·refine LR.toVR x y (LR.of_hdr x y (fun p H hp hH => ?_) (fun id ow hid hi => ?_) h)
  ·have : x.leads p.id = true := by rcases hp with rfl | ⟨_, _, rfl⟩ | ⟨_, _, rfl⟩ <;> simp [AV.leads]
   have := hx _ this
   cases p with
   | t i => simp only [Pl.id] at this; simpa only [hdrOf, this] using hH
   | n i j off => simp only [Pl.id] at this; simpa only [hdrOf, this] using hH
  ·have : x.leads id = true := by rcases hid with ⟨_, rfl⟩ | rfl <;> simp [AV.leads]
   exact ⟨ow, by rw [hx _ this]; exact hi, rfl⟩
 ·rcases hc with hc | hc | hc | ⟨g, hc⟩ <;> exact hc id (by simp only [AV.leads]; exact AV.leadss_mem hx hl)
theorem VRs.restrict {I : Nat → Prop} {σ σ' : Nat → Option Own} {w : World} : ∀ (vs : List AV) (us : List Value), (∀ id, AV.leadss id vs = true → σ' id = σ id) → VRs I σ w vs us → VRs I σ' w vs us
 | [], _, _, h => h
 | v :: vs, _, k, h => by
  obtain ⟨e, es', h1, h2, h3⟩ := h
  exact ⟨e, es', h1, VR.restrict v e (fun id hi => k id (by simp [AV.leadss, hi])) h2, VRs.restrict vs es' (fun id hi => k id (by simp [AV.leadss, hi])) h3⟩

theorem killF_ok {I : Nat → Prop} {σ σ' : Nat → Option Own} {w : World} (id : Nat) (hσ : ∀ i, i ≠ id → σ' i = σ i) (v : AV) (u : Value) (h : LR σ v u) : VR I σ' w (killF id v) u := by
 have hh : ∀ (p : Pl), p.id ≠ id → hdrOf σ' p = hdrOf σ p := fun p hp => by
  cases p with
  | t i => simp only [hdrOf, hσ i hp]
  | n i j off => simp only [hdrOf, hσ i hp]
 cases v <;> first | exact h.elim | skip
 case os p => simp only [killF]; split; trivial; rename_i hp; exact LR.toVR (.os p) u (by simpa only [LR, hh p hp] using h)
 case sub p a n => simp only [killF]; split; trivial; rename_i hp; exact LR.toVR (.sub p a n) u (by simpa only [LR, hh p hp] using h)
 case el p i off => simp only [killF]; split; trivial; rename_i hp; exact LR.toVR (.el p i off) u (by simpa only [LR, hh p hp] using h)
 case op i off => simp only [killF]; split; trivial; rename_i hp; exact LR.toVR (.op i off) u (by simpa only [LR, hσ i hp] using h)
 case mp i => simp only [killF]; split; trivial; rename_i hp; exact LR.toVR (.mp i) u (by simpa only [LR, hσ i hp] using h)

end Go.Q
