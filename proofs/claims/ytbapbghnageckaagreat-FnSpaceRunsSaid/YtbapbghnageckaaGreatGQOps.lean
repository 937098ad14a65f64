/- An abstract interpreter of the translated code: its operations are those of the machine. -/
import Derived.Test.YtbapbghnageckaaGreatGQOwn
import Derived.MapKept
namespace Go.Q
set_option linter.unusedVariables false
set_option linter.unusedSimpArgs false
set_option linter.unusedSectionVars false
open Go

structure TIok (P : Program) (E : Env) (T : Nat) (ti : TI) : Prop where
  info : ∃ i, P.info? T = some i ∧ i.size = ti.size ∧ i.bytes = ti.bytes ∧ (∀ vs, zeros E.tab 8 T = some vs → ∃ z, i.zero = some z ∧ ∀ I σ w, VRs I σ w vs z.cells.toList)
  shape : ∀ i z, P.info? T = some i → i.zero = some z → (ti.isAgg = true → ∃ cs, z = .agg cs) ∧ (ti.isAgg = false → z.cells = #[z])
  desc : match ti.desc with
    | .bool => P.underlying T = some .bool
    | .int k => P.underlying T = some (.int k)
    | .str => P.underlying T = some .string
    | .slice e => P.underlying T = some (.slice e)
    | .struct fs => ∃ fds : Array Field, P.underlying T = some (.struct fds) ∧ fs = fds.toList.map fun f => (f.offset, f.type)
    | .arr n e => P.underlying T = some (.array n e)
    | .ptr e => P.underlying T = some (.pointer e)
    | .map k e => P.underlying T = some (.map k e)
    | .err => ∃ ms, P.underlying T = some (.interface ms)
    | _ => ∃ d, P.underlying T = some d ∧ (∀ fs, d ≠ .struct fs) ∧ ∀ n e, d ≠ .array n e
  flds : ∀ fds f, P.underlying T = some (.struct fds) → f ∈ fds.toList → ∃ i, P.info? f.type = some i
  eqs : ∀ fds t, P.underlying T = some (.struct fds) → E.ty T = some t → t.eqb = true → P.stoodInHeld T = false ∧ (∀ f ∈ fds.toList, f.name ≠ "_") ∧ P.eqGuardType P.depth T = false

structure TabOK (P : Program) (E : Env) : Prop where
  tab : ∀ T ti, E.tab T = some ti → TIok P E T ti
  ty : ∀ T t, E.ty T = some t → ∃ i z, P.info? T = some i ∧ i.size = t.size ∧ i.zero = some z ∧ z.cells.size = t.size ∧ (∀ I w, DR I w t t.zero z.cells.toList) ∧ (∀ I w, EX I w t t.zero z.cells.toList) ∧ ∀ c ∈ z.cells.toList, blockOf c = none

section
variable {P : Program} {o : Oper} {a : Act} {w w' : World} {K : Act → World → Prop} {Q : Exit → Act → World → Prop}
theorem wp_value {u : Value} (hrun : (execOp a.eval o).run P w = .ok (.value u) w') (hK : K (a.put o.dst u) w') : o.wp P a w K Q := by
  simp only [Oper.wp, hrun, Oper.upon]; exact hK
theorem wp_skipped (hrun : (execOp a.eval o).run P w = .ok .skip w') (hK : K (a.put o.dst Go.undef) w') : o.wp P a w K Q := by
  simp only [Oper.wp, hrun, Oper.upon]; exact hK
end

section
variable {P : Program} {E : Env} {B : Base} {I : Nat → Prop} {σ : Nat → Option Own} {st : St} {a : Act} {w : World}

theorem run_size {T : Nat} {ti : TI} (hT : TIok P E T ti) (w : World) : (sizeOf T).run P w = .ok ti.size w := by
  obtain ⟨i, h1, h2, _⟩ := hT.info
  simp [sizeOf, typeInfo, h1, h2]

theorem run_under {T : Nat} {d : TypeDesc} (h : P.underlying T = some d) (w : World) : (underlying T).run P w = .ok d w := by
  simp [underlying, h]

theorem run_isAgg {T : Nat} {ti : TI} (hT : TIok P E T ti) (w : World) : (isAgg T).run P w = .ok ti.isAgg w := by
  have h := hT.desc
  unfold isAgg TI.isAgg
  cases hd : ti.desc <;> simp only [hd] at h ⊢
  case struct fs => obtain ⟨fds, h, _⟩ := h; simp [run_under h]
  case bool => simp [run_under h]
  case int k => simp [run_under h]
  case str => simp [run_under h]
  case slice e => simp [run_under h]
  case arr n e => simp [run_under h]
  case ptr e => simp [run_under h]
  case map k e => simp [run_under h]
  case err => obtain ⟨ms, h⟩ := h; simp [run_under h]
  all_goals
    obtain ⟨d, h, h1, h2⟩ := h
    simp only [Sem.run_bind, run_under h, Result.andThen_ok]
    cases d <;> first | rfl | (exact absurd rfl (h1 _)) | (exact absurd rfl (h2 _ _))

def Keeps (w w' : World) : Prop := ∀ b, b < w.heap.size → w'.heap[b]? = w.heap[b]?
theorem Keeps.refl (w : World) : Keeps w w := fun _ _ => rfl
theorem Keeps.trans {w w' w'' : World} (h : Keeps w w') (h' : Keeps w' w'') : Keeps w w'' := fun b hb => by
  have h1 := h b hb
  have : b < w'.heap.size := by
    rcases Nat.lt_or_ge b w'.heap.size with h2 | h2
    · exact h2
    · rw [Array.getElem?_eq_none h2] at h1
      rw [Array.getElem?_eq_getElem hb] at h1; cases h1
  rw [h' b this, h1]
theorem Moved.keeps {w w' : World} (h : Moved (fun _ => False) w w') : Keeps w w' := fun b hb => h.block b hb id
theorem Keeps.heap {w w' : World} (h : Keeps w w') (b : Nat) (o : Go.Obj) (hb : w.heap[b]? = some o) : w'.heap[b]? = some o := by
  rw [h b (Array.getElem?_eq_some_iff.1 hb).1]; exact hb
theorem Keeps.cell {w w' : World} (h : Keeps w w') {b o : Nat} {v : Value} (hc : w.cell? ⟨b, o, none⟩ = some v) : w'.cell? ⟨b, o, none⟩ = some v := by
  rcases Nat.lt_or_ge b w.heap.size with h2 | h2
  · rw [cell_of_heap (h b h2)]; exact hc
  · simp [World.cell?, Array.getElem?_eq_none h2] at hc

theorem HR.cellsAt {hp : Heap} (h : HR I σ w hp) {p : AV} {u : Value} {vs : List AV} (hp' : VR I σ w p u) (hc : Go.Q.cellsAt hp p = some vs) :
    ∃ b o es, u = .pointer (some ⟨b, o, none⟩) ∧ VRs I σ w vs es ∧ CellsAt w ⟨b, o, none⟩ es := by
  unfold Go.Q.cellsAt at hc
  split at hc
  · cases hc
    obtain ⟨b, o, es, rfl, _, h2, h3⟩ := hp'
    exact ⟨b, o, es, rfl, h2, h3⟩
  · rename_i id off
    obtain ⟨ow, b, h1, h2, rfl⟩ := hp'
    split at hc
    · rename_i vs' hg
      cases hc
      obtain ⟨ow', k1, _, b', es, T, k2, k3, k4⟩ := h.objs id _ hg
      rw [h1] at k1; cases k1
      rw [h2] at k2; cases k2
      refine ⟨b, off, es.drop off, rfl, VRs.drop off k4, ?_⟩
      have : CellsAt w ⟨b, 0, none⟩ es := fun j v hj => by simp only [World.cell?, k3]; simpa using hj
      simpa using this.drop off
    · cases hc
  · rename_i p i off
    rw [Option.bind_eq_some_iff] at hc
    obtain ⟨v, ha, hc⟩ := hc
    obtain ⟨t, xs, H, cs, rfl, hpl⟩ := h.place ha
    simp only [elAt, Option.some.injEq] at hc
    subst hc
    obtain ⟨hi, b, o, cap, e1, rfl⟩ := hpl.el hp'
    obtain ⟨b', o', cap', e2, hb, hcell⟩ := hpl.arr.read hi
    rw [e1] at e2; cases e2
    exact ⟨b, _, _, rfl, VRs.drop off (hpl.values i hi), hcell.drop off⟩
  · cases hc

theorem mkV_ok {ti : TI} {vs : List AV} {v : AV} {es : List Value} (hm : mkV ti vs = some v) (hv : VRs I σ w vs es) :
    (ti.isAgg = true ∧ VR I σ w v (.agg (List.toArray es))) ∨ (ti.isAgg = false ∧ ∃ u, es = [u] ∧ VR I σ w v u) := by
  unfold mkV at hm
  split at hm
  · rename_i h; cases hm; exact .inl ⟨h, es, rfl, hv⟩
  · rename_i h
    split at hm
    · cases hm
      obtain ⟨u, h1, h2⟩ := VRs.single hv
      exact .inr ⟨by simpa using h, u, h1, h2⟩
    · cases hm

theorem HR.loadAt {hh : Heap} (h : HR I σ w hh) (hE : TabOK P E) {T : Nat} {p v : AV} {u : Value} (hp : VR I σ w p u) (hl : Go.Q.loadAt E hh T p = some v) :
    ∃ u', (∀ w', Keeps w w' → (Instr.loadAt T u).run P w' = .ok u' w') ∧ VR I σ w v u' := by
  simp only [Go.Q.loadAt, Option.bind_eq_some_iff] at hl
  obtain ⟨ti, h1, vs, h2, h3⟩ := hl
  split at h3
  · rename_i hlen
    have hT := hE.tab T ti h1
    obtain ⟨b, o, es, rfl, k1, k2⟩ := h.cellsAt hp h2
    have k3 := VRs.take ti.size k1
    have hes : (es.take ti.size).length = ti.size := by rw [List.length_take, VRs.length k1]; omega
    rcases mkV_ok h3 k3 with ⟨m1, m2⟩ | ⟨m1, u', m2, m3⟩
    · refine ⟨_, fun w' hw => ?_, m2⟩
      have hl := run_loadCells_list (P := P) (w := w') ⟨b, o, none⟩ (es.take ti.size) (fun j v hj => by rw [add_none]; exact hw.cell ((k2.take ti.size) j v hj))
      rw [hes] at hl
      simp [Instr.loadAt, Instr.sureAddr, loadVar, run_isAgg hT, run_size hT, m1, hl]
    · refine ⟨u', fun w' hw => ?_, m3⟩
      have hc : w'.cell? ⟨b, o, none⟩ = some u' := by
        have := hw.cell ((k2.take ti.size) 0 u' (by rw [m2]; rfl))
        simpa using this
      simp [Instr.loadAt, Instr.sureAddr, loadVar, run_isAgg hT, m1, hc]
  · cases h3


theorem VR.int {k : IntKind} {n : Int} {u : Value} (h : VR I σ w (.d (.int k) n) u) : u = .int k n := by
  have h : [u] = [Value.int k n] := h
  simpa using h
theorem VR.bool {b : Bool} {u : Value} (h : VR I σ w (.d .bool b) u) : u = .bool b := by
  have h : [u] = [Value.bool b] := h
  simpa using h
theorem VR.str {s : ByteArray} {u : Value} (h : VR I σ w (.d .str s) u) : u = .string s := by
  have h : [u] = [Value.string s] := h
  simpa using h

theorem HR.indexAddr {hh : Heap} (h : HR I σ w hh) (hE : TabOK P E) {T : Nat} {x v : AV} {k : IntKind} {i : Int} {u : Value} (hx : VR I σ w x u) (hl : Go.Q.indexAddr E hh T x i = some v) :
    ∃ u', (∀ w', (Instr.indexAt T u (.int k i)).run P w' = .ok u' w') ∧ VR I σ w v u' := by
  simp only [Go.Q.indexAddr, Option.bind_eq_some_iff] at hl
  obtain ⟨ti, h1, hl⟩ := hl
  have hT := hE.tab T ti h1
  have hd := hT.desc
  cases hdd : ti.desc <;> simp only [hdd] at hl hd
  case slice e =>
    simp only [Option.bind_eq_some_iff] at hl
    obtain ⟨te, h2, hl⟩ := hl
    have hTe := hE.tab e te h2
    have key : ∀ (A : Option Addr) (len cap : Nat) (b o : Nat), u = .slice A len cap → A = some ⟨b, o, none⟩ → 0 ≤ i → i < (len : Int) → ∀ w', (Instr.indexAt T u (.int k i)).run P w' = .ok (.pointer (some ⟨b, o + i.toNat * te.size, none⟩)) w' := by
      rintro A len cap b o rfl rfl h0 hi w'
      simp [Instr.indexAt, asIntOf, run_under hd, run_size hTe, h0, hi, add_none]
    split at hl
    · rename_i t xs
      split at hl
      · rename_i hsz
        split at hl
        · rename_i hi
          cases hl
          obtain ⟨A, cap, e1, e2, e3⟩ := hx
          have e1 : u = .slice A (List.length xs) cap := by simpa using e1
          have hlt : i.toNat < List.length xs := by omega
          obtain ⟨b, o, eA, hb, es, m1, m2⟩ := e3 i.toNat hlt
          refine ⟨_, key A _ cap b o e1 eA hi.1 hi.2, b, _, es, rfl, hb, ?_, by rw [hsz]; exact m2⟩
          have : List.getD xs i.toNat t.zero = List.get xs ⟨i.toNat, hlt⟩ := by simp [List.getD, hlt]
          rw [this]; exact VRs.flat t _ _ m1
        · cases hl
      · cases hl
    · rename_i p
      simp only [Option.bind_eq_some_iff] at hl
      obtain ⟨v1, ha, z, hz, n, hn, hl⟩ := hl
      obtain ⟨t, xs, H, cs, rfl, hpl⟩ := h.place ha
      simp only [sizeAV, lenAV, Option.some.injEq] at hz hn
      subst hz; subst hn
      split at hl
      · rename_i hsz
        split at hl
        · rename_i hi
          cases hl
          have hu := hpl.os hx
          subst hu
          have hlt : i.toNat < xs.length := by omega
          obtain ⟨b, o, cap, e1, _, _⟩ := hpl.arr.read hlt
          exact ⟨_, key _ _ cap b o e1 rfl hi.1 hi.2, H, b, o, xs.length, cap, hpl.hdr, e1, hlt, by rw [hsz, hpl.sz]; rfl⟩
        · cases hl
      · cases hl
    · rename_i p a n
      simp only [Option.bind_eq_some_iff] at hl
      obtain ⟨v1, ha, z, hz, hl⟩ := hl
      obtain ⟨t, xs, H, cs, rfl, hpl⟩ := h.place ha
      simp only [sizeAV, Option.some.injEq] at hz
      subst hz
      split at hl
      · rename_i hsz
        split at hl
        · rename_i hi
          cases hl
          obtain ⟨H', A, len, cap, g1, g2, g3, A', rfl, g4, _, _⟩ := hx
          rw [hpl.hdr] at g1; cases g1
          have hlt : a + i.toNat < xs.length := by
            obtain ⟨A1, cap1, e, _⟩ := hpl.arr.slice
            rw [g2] at e; cases e; omega
          obtain ⟨b, o, cap', e1, _, _⟩ := hpl.arr.read hlt
          obtain ⟨_, _, _, hcl⟩ := hpl.arr.slice
          rename_i hcc
          rw [e1] at hcc; cases hcc
          rw [e1] at g2; cases g2
          have hA' := g4 b o rfl (by omega)
          refine ⟨_, key _ _ _ b _ rfl hA' hi.1 hi.2, H, b, o, xs.length, cap, hpl.hdr, e1, hlt, ?_⟩
          rw [hsz, hpl.sz, Nat.add_mul, Nat.add_assoc]; rfl
        · cases hl
      · cases hl
    · cases hl
  case arr n e =>
    simp only [Option.bind_eq_some_iff] at hl
    obtain ⟨te, h2, hl⟩ := hl
    have hTe := hE.tab e te h2
    split at hl
    · rename_i hi
      have key : ∀ (b o : Nat), u = .pointer (some ⟨b, o, none⟩) → ∀ w', (Instr.indexAt T u (.int k i)).run P w' = .ok (.pointer (some ⟨b, o + i.toNat * te.size, none⟩)) w' := by
        rintro b o rfl w'
        simp [Instr.indexAt, asIntOf, run_under hd, Instr.sureAddr, run_size hTe, hi.1, hi.2.1, add_none]
      split at hl
      · rename_i vs
        cases hl
        obtain ⟨b, o, es, e1, hb, m1, m2⟩ := hx
        exact ⟨_, key b o e1, b, _, _, rfl, hb, VRs.drop _ m1, m2.drop _⟩
      · rename_i id off
        cases hl
        obtain ⟨ow, b, e1, e2, e3⟩ := hx
        exact ⟨_, key b off e3, ow, b, e1, e2, rfl⟩
      · cases hl
    · cases hl
  all_goals cases hl

theorem Rel.fieldAddr (hE : TabOK P E) {T j : Nat} {x v : AV} {u : Value} (hx : VR I σ w x u) (hl : Go.Q.fieldAddr E T x j = some v) :
    ∃ u', (∀ w', (Instr.fieldAt T u j).run P w' = .ok u' w') ∧ VR I σ w v u' := by
  simp only [Go.Q.fieldAddr, Option.bind_eq_some_iff] at hl
  obtain ⟨ti, h1, hl⟩ := hl
  have hd := (hE.tab T ti h1).desc
  cases hdd : ti.desc <;> simp only [hdd] at hl hd
  case struct fs =>
    simp only [Option.bind_eq_some_iff] at hl
    obtain ⟨⟨off, ft⟩, h2, tf, h3, hl⟩ := hl
    obtain ⟨fds, hd, rfl⟩ := hd
    have hTf := hE.tab _ tf h3
    split at hl
    · cases hl
    · rename_i hz
      obtain ⟨f, hf, hff⟩ : ∃ f, fds[j]? = some f ∧ (f.offset, f.type) = (off, ft) := by
        rw [List.getElem?_map, Option.map_eq_some_iff] at h2
        obtain ⟨f, k1, k2⟩ := h2
        exact ⟨f, by simpa using k1, k2⟩
      simp only [Prod.mk.injEq] at hff
      obtain ⟨rfl, rfl⟩ := hff
      have key : ∀ (b o : Nat), u = .pointer (some ⟨b, o, none⟩) → ∀ w', (Instr.fieldAt T u j).run P w' = .ok (.pointer (some ⟨b, o + f.offset, none⟩)) w' := by
        rintro b o rfl w'
        simp [Instr.fieldAt, run_under hd, hf, Instr.sureAddr, fieldPlace, run_size hTf, hz, add_none]
      split at hl
      · cases hl
        obtain ⟨b, o, es, e1, hb, m1, m2⟩ := hx
        exact ⟨_, key b o e1, b, _, _, rfl, hb, VRs.drop _ m1, m2.drop _⟩
      · cases hl
        obtain ⟨ow, b, e1, e2, e3⟩ := hx
        exact ⟨_, key b _ e3, ow, b, e1, e2, rfl⟩
      · cases hl
        obtain ⟨H, b, o, len, cap, e1, e2, e3, e4⟩ := hx
        exact ⟨_, key b _ e4, H, b, o, len, cap, e1, e2, e3, by simp [Nat.add_assoc]⟩
      · cases hl
  all_goals cases hl

theorem Rel.field (hE : TabOK P E) {T j : Nat} {x v : AV} {u : Value} (hx : VR I σ w x u) (hl : Go.Q.field E T x j = some v) :
    ∃ u', (∀ w', (Instr.field T u j).run P w' = .ok u' w') ∧ VR I σ w v u' := by
  simp only [Go.Q.field, Option.bind_eq_some_iff] at hl
  obtain ⟨ti, h1, hl⟩ := hl
  have hd := (hE.tab T ti h1).desc
  cases hdd : ti.desc <;> simp only [hdd] at hl hd
  case struct fs =>
    simp only [Option.bind_eq_some_iff] at hl
    obtain ⟨⟨off, ft⟩, h2, tf, h3, hl⟩ := hl
    obtain ⟨fds, hd, rfl⟩ := hd
    have hTf := hE.tab _ tf h3
    obtain ⟨f, hf, hff⟩ : ∃ f, fds[j]? = some f ∧ (f.offset, f.type) = (off, ft) := by
      rw [List.getElem?_map, Option.map_eq_some_iff] at h2
      obtain ⟨f, k1, k2⟩ := h2
      exact ⟨f, by simpa using k1, k2⟩
    simp only [Prod.mk.injEq] at hff
    obtain ⟨rfl, rfl⟩ := hff
    split at hl
    · rename_i vs
      split at hl
      · rename_i hlen
        obtain ⟨es, rfl, hv⟩ := hx
        have hv2 := VRs.take tf.size (VRs.drop f.offset hv)
        rcases mkV_ok hl hv2 with ⟨m1, m2⟩ | ⟨m1, u', m2, m3⟩
        · refine ⟨_, fun w' => ?_, m2⟩
          simp [Instr.field, run_under hd, hf, asAgg, part, run_isAgg hTf, run_size hTf, m1]
        · refine ⟨u', fun w' => ?_, m3⟩
          have : es[f.offset]? = some u' := by
            have : ((es.drop f.offset).take tf.size)[0]? = some u' := by rw [m2]; rfl
            rw [List.getElem?_take, List.getElem?_drop] at this
            split at this
            · simpa using this
            · cases this
          simp [Instr.field, run_under hd, hf, asAgg, part, run_isAgg hTf, m1, this]
      · cases hl
    · cases hl
  all_goals cases hl

theorem VR.nilCheck {x : AV} {u : Value} (hx : VR I σ w x u) (hp : (∃ vs, x = .rp vs) ∨ (∃ i off, x = .op i off) ∨ ∃ i j off, x = .el i j off) : ∃ ad, u = .pointer (some ad) := by
  rcases hp with ⟨vs, rfl⟩ | ⟨i, off, rfl⟩ | ⟨i, j, off, rfl⟩
  · obtain ⟨b, o, es, e1, _⟩ := hx; exact ⟨_, e1⟩
  · obtain ⟨ow, b, _, _, e1⟩ := hx; exact ⟨_, e1⟩
  · obtain ⟨H, b, o, len, cap, _, _, _, e1⟩ := hx; exact ⟨_, e1⟩

theorem intBits_ok {op : BinOp} {k : IntKind} {x y n : Int} (h : Go.Q.intBits op k x y = some n) : (Op.intBits op k x y).run P w = .ok (.int k n) w := by
  unfold Go.Q.intBits at h
  cases op <;> simp only [Option.some.injEq] at h <;> first | (subst h; rfl) | cases h

theorem binOp_ok {op : BinOp} {X : Nat} {x y v : AV} {ux uy : Value} (hx : VR I σ w x ux) (hy : VR I σ w y uy) (h : Go.Q.binOp op x y = some v)
    (hX : ∀ a b : Bool, x = .d .bool a → y = .d .bool b → P.underlying X = some .bool) : ∃ u, (∀ w', (Go.binOp op X ux uy).run P w' = .ok u w') ∧ VR I σ w v u := by
  unfold Go.Q.binOp at h
  split at h
  · rename_i k a k' b
    have e1 := VR.int hx
    have e2 := VR.int hy
    subst e1; subst e2
    split at h
    · unfold binInt at h
      simp only at h
      split at h
      · cases h
      · rename_i hb; cases h; refine ⟨_, fun w' => ?_, rfl⟩; simp [Go.binOp, Op.shift, hb]
    · unfold binInt at h
      simp only at h
      split at h
      · cases h
      · rename_i hb; cases h; refine ⟨_, fun w' => ?_, rfl⟩; simp [Go.binOp, Op.shift, hb]
    · split at h
      · rename_i hk
        subst hk
        unfold binInt at h
        cases op <;> simp only [Option.some.injEq, Option.map_eq_some_iff] at h <;> first
          | (subst h; refine ⟨_, fun w' => ?_, rfl⟩; simp [Go.binOp, Op.intArith, Op.intCmp]; done)
          | (obtain ⟨n, hn, rfl⟩ := h; refine ⟨_, fun w' => ?_, rfl⟩; simp only [Go.binOp, ne_eq, not_true_eq_false, if_false]; exact intBits_ok hn)
          | (split at h
             · cases h
             · rename_i hb; cases h; refine ⟨_, fun w' => ?_, rfl⟩; simp [Go.binOp, Op.intDiv, Op.shift, hb])
      · cases h
  · rename_i a b
    have e1 := VR.str hx
    have e2 := VR.str hy
    subst e1; subst e2
    unfold binStr at h
    cases op <;> simp only [Option.some.injEq] at h <;> first
      | (subst h; refine ⟨_, fun w' => ?_, rfl⟩; simp [Go.binOp, Op.stringOp]; done)
      | (split at h
         · cases h
         · rename_i hb; cases h; refine ⟨_, fun w' => ?_, rfl⟩; simp only [Go.binOp, Op.stringOp, if_neg hb, Sem.run_pure])
      | cases h
  · rename_i a b
    have e1 := VR.bool hx
    have e2 := VR.bool hy
    subst e1; subst e2
    have hu := hX a b rfl rfl
    cases op <;> simp only [Option.some.injEq] at h <;> first
      | (subst h; exact ⟨_, fun w' => run_eql_bool _ _ _ _ hu, rfl⟩)
      | (subst h; exact ⟨_, fun w' => run_neq_bool _ _ _ _ hu, rfl⟩)
      | cases h
  · cases h

theorem unOp_ok {op : UnOp} {x v : AV} {ux : Value} (hx : VR I σ w x ux) (h : Go.Q.unOp op x = some v) : ∃ u, (∀ w', (Op.unary op ux).run P w' = .ok u w') ∧ VR I σ w v u := by
  unfold Go.Q.unOp at h
  split at h
  · have e1 := VR.bool hx
    subst e1
    cases op <;> simp only [Option.some.injEq] at h <;> first | (subst h; refine ⟨_, fun w' => ?_, rfl⟩; simp [Op.unary]; done) | cases h
  · have e1 := VR.int hx
    subst e1
    cases op <;> simp only [Option.some.injEq, Option.map_eq_some_iff] at h <;> first
      | (subst h; refine ⟨_, fun w' => ?_, rfl⟩; simp [Op.unary, Op.intArith]; done)
      | (obtain ⟨n, hn, rfl⟩ := h; refine ⟨_, fun w' => ?_, rfl⟩; simp only [Op.unary]; exact intBits_ok hn)
      | cases h
  · cases h


theorem sliceBounds_ok {isS : Bool} {len cap : Nat} (hc : len ≤ cap) {lo hi : Option Int} {b : Nat × Nat} (hb : Go.Q.bounds len lo hi = some b) {k k' : IntKind} :
    (Instr.sliceBounds isS len cap (lo.map (Value.int k)) (hi.map (Value.int k')) none).run P w = .ok (b.1, b.2, cap) w := by
  unfold Go.Q.bounds at hb
  simp only at hb
  split at hb
  · rename_i h
    cases hb
    cases lo with
    | none =>
      cases hi with
      | none => simp [Instr.sliceBounds]
      | some m =>
        simp only [Option.getD_none, Option.getD_some] at h
        have h1 : 0 ≤ m ∧ m ≤ (cap : Int) := by omega
        simp [Instr.sliceBounds, Instr.sliceBound, asIntOf, h1.1, h1.2]
    | some l =>
      cases hi with
      | none =>
        simp only [Option.getD_none, Option.getD_some] at h
        simp [Instr.sliceBounds, Instr.sliceBound, asIntOf, h.1, h.2.1]
      | some m =>
        simp only [Option.getD_some] at h
        have h1 : 0 ≤ m ∧ m ≤ (cap : Int) := by omega
        have h2 : ¬ max m 0 < l := by omega
        simp [Instr.sliceBounds, Instr.sliceBound, asIntOf, h1.1, h1.2, h.1, h2]
  · cases hb

theorem bounds_or {n m : Nat} (hnm : n ≤ m) {lo hi : Option Int} {b : Nat × Nat} (h : Go.Q.orB (Go.Q.bounds n lo hi) (Go.Q.bounds2 n m lo hi) = some b) : Go.Q.bounds2 n m lo hi = some b := by
  cases hb : Go.Q.bounds n lo hi with
  | none => rw [hb] at h; exact h
  | some b' =>
    rw [hb] at h
    cases h
    unfold Go.Q.bounds at hb
    simp only at hb
    split at hb
    · rename_i g; cases hb; unfold Go.Q.bounds2; rw [if_pos (by omega)]
    · cases hb
theorem bounds2_le {n m : Nat} {lo hi : Option Int} {b : Nat × Nat} (h : Go.Q.bounds2 n m lo hi = some b) : b.1 ≤ b.2 ∧ b.2 ≤ m := by
  unfold Go.Q.bounds2 at h
  split at h
  · rename_i g; cases h; simp only; omega
  · cases h
theorem sliceBounds2_ok {len m0 cap : Nat} (hc : m0 ≤ cap) {lo hi : Option Int} {b : Nat × Nat} (hb : Go.Q.bounds2 len m0 lo hi = some b) {k k' : IntKind} :
    (Instr.sliceBounds true len cap (lo.map (Value.int k)) (hi.map (Value.int k')) none).run P w = .ok (b.1, b.2, cap) w := by
  unfold Go.Q.bounds2 at hb
  split at hb
  · rename_i h
    cases hb
    cases lo with
    | none =>
      cases hi with
      | none => simp [Instr.sliceBounds]
      | some m =>
        simp only [Option.getD_none, Option.getD_some] at h
        have h1 : 0 ≤ m ∧ m ≤ (cap : Int) := by omega
        simp [Instr.sliceBounds, Instr.sliceBound, asIntOf, h1.1, h1.2]
    | some l =>
      cases hi with
      | none =>
        simp only [Option.getD_none, Option.getD_some] at h
        simp [Instr.sliceBounds, Instr.sliceBound, asIntOf, h.1, h.2.1]
      | some m =>
        simp only [Option.getD_some] at h
        have h1 : 0 ≤ m ∧ m ≤ (cap : Int) := by omega
        have h2 : ¬ max m 0 < l := by omega
        simp [Instr.sliceBounds, Instr.sliceBound, asIntOf, h1.1, h1.2, h.1, h2]
  · cases hb
theorem sliceBounds3_ok {len cap : Nat} {l r m : Int} (h0 : 0 ≤ l ∧ l ≤ r ∧ r ≤ m) (hm : m ≤ cap) {k k' k'' : IntKind} :
    (Instr.sliceBounds true len cap (some (.int k l)) (some (.int k' r)) (some (.int k'' m))).run P w = .ok (l.toNat, r.toNat, m.toNat) w := by
  have h1 : 0 ≤ m ∧ m ≤ (cap : Int) := by omega
  have h2 : 0 ≤ r ∧ r ≤ max m 0 := by omega
  have h3 : 0 ≤ l ∧ l ≤ max r 0 := by omega
  have g1 : ¬ max m 0 < r := by omega
  have g2 : ¬ max r 0 < l := by omega
  simp [Instr.sliceBounds, Instr.sliceBound, asIntOf, h1.1, h1.2, h2.1, h2.2, h3.1, h3.2, g1, g2]

theorem cut_bounds {α : Type} {xs ys : List α} {lo hi : Option Int} (h : Go.Q.cut xs lo hi = some ys) : ∃ b, Go.Q.bounds xs.length lo hi = some b ∧ ys = (xs.drop b.1).take (b.2 - b.1) ∧ b.1 ≤ b.2 ∧ b.2 ≤ xs.length := by
  unfold Go.Q.cut at h
  cases lo with
  | none =>
    cases hi with
    | none => cases h; exact ⟨(0, xs.length), by simp [Go.Q.bounds], by simp, Nat.zero_le _, Nat.le_refl _⟩
    | some m =>
      simp only at h
      split at h
      · rename_i hm; cases h; exact ⟨(0, m.toNat), by simp [Go.Q.bounds, hm.1, hm.2], by simp, Nat.zero_le _, by omega⟩
      · cases h
  | some l =>
    cases hi with
    | none =>
      simp only at h
      split at h
      · rename_i hl; cases h; exact ⟨(l.toNat, xs.length), by simp [Go.Q.bounds, hl.1, hl.2], by simp only; rw [List.take_of_length_le]; simp, by simp only; omega, Nat.le_refl _⟩
      · cases h
    | some m =>
      simp only at h
      split at h
      · rename_i hm; cases h; exact ⟨(l.toNat, m.toNat), by simp [Go.Q.bounds, hm.1, hm.2.1, hm.2.2], rfl, by simp only; omega, by simp only; omega⟩
      · cases h

theorem bounds_le {n : Nat} {lo hi : Option Int} {b : Nat × Nat} (h : Go.Q.bounds n lo hi = some b) : b.1 ≤ b.2 ∧ b.2 ≤ n := by
  unfold Go.Q.bounds at h
  simp only at h
  split at h
  · rename_i g; cases h; simp only; omega
  · cases h

theorem run_slice {T e : Nat} {te : TI} (hd : P.underlying T = some (.slice e)) (hTe : TIok P E e te) {A : Option Addr} {len cap : Nat} (hc : len ≤ cap) {lo hi : Option Int} {b : Nat × Nat} (hb : Go.Q.bounds len lo hi = some b) {k k' : IntKind} :
    (Instr.sliceAt T (.slice A len cap) (lo.map (Value.int k)) (hi.map (Value.int k')) none).run P w = .ok (.slice (if cap = b.1 then A else A.map (·.add (b.1 * te.size))) (b.2 - b.1) (cap - b.1)) w := by
  have := sliceBounds_ok (P := P) (w := w) (isS := true) hc hb (k := k) (k' := k')
  simp [Instr.sliceAt, Instr.slice, run_under hd, this, run_size hTe]

theorem run_slice2 {T e : Nat} {te : TI} (hd : P.underlying T = some (.slice e)) (hTe : TIok P E e te) {A : Option Addr} {len m cap : Nat} (hc : m ≤ cap) {lo hi : Option Int} {b : Nat × Nat} (hb : Go.Q.bounds2 len m lo hi = some b) {k k' : IntKind} :
    (Instr.sliceAt T (.slice A len cap) (lo.map (Value.int k)) (hi.map (Value.int k')) none).run P w = .ok (.slice (if cap = b.1 then A else A.map (·.add (b.1 * te.size))) (b.2 - b.1) (cap - b.1)) w := by
  have := sliceBounds2_ok (P := P) (w := w) hc hb (k := k) (k' := k')
  simp [Instr.sliceAt, Instr.slice, run_under hd, this, run_size hTe]
theorem run_slice3 {T e : Nat} {te : TI} (hd : P.underlying T = some (.slice e)) (hTe : TIok P E e te) {A : Option Addr} {len cap : Nat} {l r m : Int} (h0 : 0 ≤ l ∧ l ≤ r ∧ r ≤ m) (hm : m ≤ cap) {k k' k'' : IntKind} :
    ∃ u', ∀ w, (Instr.sliceAt T (.slice A len cap) (some (.int k l)) (some (.int k' r)) (some (.int k'' m))).run P w = .ok u' w := by
  refine ⟨.slice (if m.toNat = l.toNat then A else A.map (·.add (l.toNat * te.size))) (r.toNat - l.toNat) (m.toNat - l.toNat), fun w => ?_⟩
  have := sliceBounds3_ok (P := P) (w := w) (len := len) h0 hm (k := k) (k' := k') (k'' := k'')
  simp [Instr.sliceAt, Instr.slice, run_under hd, this, run_size hTe]

theorem optInt_ok (h : Rel B I σ st a w) {x : Option Operand} {r : Option Int} (hx : Go.Q.optInt st x = some r) : ∃ k, x.map a.eval = r.map (Value.int k) := by
  unfold Go.Q.optInt at hx
  split at hx
  · cases hx; exact ⟨.i64, rfl⟩
  · rename_i x
    split at hx
    · rename_i k n he
      cases hx
      have := h.eval x
      rw [he] at this
      exact ⟨k, by simp [VR.int this]⟩
    · cases hx

theorem HR.sliceT {hh : Heap} (h : HR I σ w hh) (hE : TabOK P E) {T : Nat} {x v : AV} {u : Value} (hx : VR I σ w x u) {lo hi mx : Option Int} {k k' k'' : IntKind} (hl : Go.Q.sliceT E hh T x lo hi mx = some v) :
    ∃ u', (∀ w', (Instr.sliceAt T u (lo.map (Value.int k)) (hi.map (Value.int k')) (mx.map (Value.int k''))).run P w' = .ok u' w') ∧ VR I σ w v u' := by
  simp only [Go.Q.sliceT, Option.bind_eq_some_iff] at hl
  obtain ⟨ti, h1, hl⟩ := hl
  have hd := (hE.tab T ti h1).desc
  cases hdd : ti.desc <;> simp only [hdd] at hl hd
  case str =>
    split at hl
    · rename_i s
      simp only [Option.map_eq_some_iff] at hl
      obtain ⟨b, hb, rfl⟩ := hl
      have e1 := VR.str hx
      subst e1
      refine ⟨_, fun w' => ?_, rfl⟩
      have := sliceBounds_ok (P := P) (w := w') (isS := false) (Nat.le_refl _) hb (k := k) (k' := k')
      simp [Instr.sliceAt, Instr.slice, run_under hd, this]
    · cases hl
  case slice e =>
    simp only [Option.bind_eq_some_iff] at hl
    obtain ⟨te, h2, hl⟩ := hl
    have hTe := hE.tab e te h2
    have hsl : ∃ A n cap, (x = .nilS ∨ x = .empS ∨ (∃ t xs, x = .d (.slice t) xs) ∨ (∃ i, x = .os i) ∨ ∃ i p n, x = .sub i p n) → u = .slice A n cap := by
      cases x with
      | nilS => exact ⟨_, _, _, fun _ => hx⟩
      | empS => obtain ⟨A, e⟩ := hx; exact ⟨_, _, _, fun _ => e⟩
      | d t y => cases t with
        | slice t => obtain ⟨A, cap, e, _⟩ := hx; exact ⟨A, _, cap, fun _ => by simpa using e⟩
        | _ => exact ⟨none, 0, 0, fun h => by simp at h⟩
      | os i => obtain ⟨H, A, n, cap, _, _, e⟩ := hx; exact ⟨_, _, _, fun _ => e⟩
      | sub i p n => obtain ⟨H, A, len, cap, _, _, _, A', e, _⟩ := hx; exact ⟨_, _, _, fun _ => e⟩
      | _ => exact ⟨none, 0, 0, fun h => by simp at h⟩
    unfold Go.Q.sliceOp at hl
    split at hl
    · rename_i m
      split at hl
      · rename_i l
        split at hl
        · rename_i h0
          obtain ⟨rfl, rfl⟩ := h0
          obtain ⟨A, n, cap, hu⟩ := hsl
          have hv : v = .empS ∧ u = .slice A n cap := by
            split at hl
            · cases hl; exact ⟨rfl, hu (by simp)⟩
            · cases hl; exact ⟨rfl, hu (by simp)⟩
            · cases hl; exact ⟨rfl, hu (by simp)⟩
            · cases hl; exact ⟨rfl, hu (by simp)⟩
            · cases hl; exact ⟨rfl, hu (by simp)⟩
            · cases hl
          obtain ⟨rfl, rfl⟩ := hv
          exact ⟨_, fun w' => by simp [Instr.sliceAt, Instr.slice, Instr.sliceBounds, Instr.sliceBound, asIntOf, run_under hd, run_size hTe], A, rfl⟩
        · cases hl
      · rename_i l r
        split at hl
        · rename_i h0
          have hu : ∃ A n cap, u = .slice A n cap ∧ m ≤ (cap : Int) ∧ v = .undef := by
            split at hl
            · rename_i t xs
              split at hl
              · rename_i hm; cases hl
                obtain ⟨A, cap, e1, e2, _⟩ := hx
                exact ⟨A, _, cap, by simpa using e1, by omega, rfl⟩
              · cases hl
            · rename_i p
              simp only [Option.bind_eq_some_iff] at hl
              obtain ⟨v1, ha, n, hn, hl⟩ := hl
              obtain ⟨t, xs, H, cs, rfl, hpl⟩ := h.place ha
              simp only [lenAV, Option.some.injEq] at hn
              subst hn
              split at hl
              · rename_i hm; cases hl
                have hu := hpl.os hx
                subst hu
                obtain ⟨A, cap, e1, e2⟩ := hpl.arr.slice
                exact ⟨A, _, cap, e1, by omega, rfl⟩
              · cases hl
            · rename_i p a n
              simp only [Option.bind_eq_some_iff] at hl
              obtain ⟨v1, ha, n0, hn, hl⟩ := hl
              obtain ⟨t, xs, H, cs, rfl, hpl⟩ := h.place ha
              split at hl
              · rename_i hm; cases hl
                obtain ⟨H', A, len, cap, g1, g2, g3, A', rfl, _⟩ := hx
                rw [hpl.hdr] at g1; cases g1
                obtain ⟨A1, cap1, e1, e2⟩ := hpl.arr.slice
                rw [g2] at e1; cases e1
                exact ⟨A', n, cap - a, rfl, by omega, rfl⟩
              · cases hl
            · cases hl
          obtain ⟨A, n, cap, rfl, hm, rfl⟩ := hu
          obtain ⟨u', hu'⟩ := run_slice3 (P := P) (A := A) (len := n) hd hTe h0 hm (k := k) (k' := k') (k'' := k'')
          exact ⟨u', hu', trivial⟩
        · cases hl
      · cases hl
    · split at hl
      · rename_i t xs
        split at hl
        · rename_i hsz
          simp only [Option.map_eq_some_iff] at hl
          obtain ⟨ys, hcut, rfl⟩ := hl
          obtain ⟨A, cap, e1, e2, e3⟩ := hx
          have e1 : u = .slice A (List.length xs) cap := by simpa using e1
          subst e1
          obtain ⟨b, hb, rfl, b1, b2⟩ := cut_bounds hcut
          refine ⟨_, fun w' => run_slice hd hTe e2 hb, ?_⟩
          have hn : ((List.drop b.1 xs).take (b.2 - b.1)).length = b.2 - b.1 := by simp only [List.length_take, List.length_drop]; omega
          refine ⟨_, _, by rw [hn], by rw [hn]; omega, fun i hi => ?_⟩
          rw [hn] at hi
          obtain ⟨bb, o, rfl, hbI, es, m1, m2⟩ := e3 (b.1 + i) (by omega)
          refine ⟨bb, o + b.1 * t.size, ?_, hbI, es, ?_, ?_⟩
          · rw [if_neg (by omega), Option.map_some, add_none, hsz]
          · have : ((List.drop b.1 xs).take (b.2 - b.1)).get ⟨i, by omega⟩ = List.get xs ⟨b.1 + i, by omega⟩ := by simp
            rw [this]; exact m1
          · rw [show o + b.1 * t.size + i * t.size = o + (b.1 + i) * t.size from by rw [Nat.add_mul]; omega]; exact m2
        · cases hl
      · rename_i p
        simp only [Option.bind_eq_some_iff] at hl
        obtain ⟨v1, ha, z, hz, n, hn, hl⟩ := hl
        obtain ⟨t, xs, H, cs, rfl, hpl⟩ := h.place ha
        simp only [sizeAV, lenAV, Option.some.injEq] at hz hn
        subst hz; subst hn
        split at hl
        · rename_i hsz
          simp only [Option.map_eq_some_iff] at hl
          obtain ⟨b, hb, rfl⟩ := hl
          have hu := hpl.os hx
          subst hu
          obtain ⟨A, cap, e1, e2⟩ := hpl.arr.slice
          obtain ⟨b1, b2⟩ := bounds_le hb
          refine ⟨_, fun w' => by rw [e1]; exact run_slice hd hTe e2 hb, H, A, xs.length, cap, hpl.hdr, e1, by omega, _, rfl, ?_, ?_, ?_⟩
          · rintro bb o rfl hlt
            rw [if_neg (by omega), Option.map_some, add_none, hsz, hpl.sz]
          · rintro bb o rfl
            split
            · exact ⟨o, rfl⟩
            · exact ⟨_, by rw [Option.map_some, add_none]⟩
          · rintro rfl
            split <;> rfl
        · cases hl
      · rename_i p a n
        simp only [Option.bind_eq_some_iff] at hl
        obtain ⟨v1, ha, z, hz, len0, hlen0, hl⟩ := hl
        obtain ⟨t, xs, H, cs, rfl, hpl⟩ := h.place ha
        simp only [sizeAV, lenAV, Option.some.injEq] at hz hlen0
        subst hz; subst hlen0
        split at hl
        · rename_i hsz
          simp only [Option.map_eq_some_iff] at hl
          obtain ⟨b, hb, rfl⟩ := hl
          obtain ⟨H', A, len, cap, g1, g2, g3, A', rfl, g4, g5, g6⟩ := hx
          rw [hpl.hdr] at g1; cases g1
          obtain ⟨A1, cap1, e1, e2⟩ := hpl.arr.slice
          rw [g2] at e1; cases e1
          have hb := bounds_or (by omega) hb
          obtain ⟨b1, b2⟩ := bounds2_le hb
          refine ⟨_, fun w' => run_slice2 hd hTe (by omega) hb, H, A, xs.length, cap, hpl.hdr, g2, by omega, _, by rw [Nat.sub_sub], ?_, ?_, ?_⟩
          · rintro bb o rfl hlt
            rw [if_neg (by omega), g4 bb o rfl (by omega), Option.map_some, add_none, hsz, hpl.sz, Nat.add_mul, Nat.add_assoc]
          · rintro bb o rfl
            obtain ⟨o', ho'⟩ := g5 bb o rfl
            rw [ho']
            split
            · exact ⟨o', rfl⟩
            · exact ⟨_, by rw [Option.map_some, add_none]⟩
          · rintro rfl
            rw [g6 rfl]
            split <;> rfl
        · cases hl
      · simp only [Option.map_eq_some_iff] at hl
        obtain ⟨b, hb, rfl⟩ := hl
        obtain rfl := hx
        obtain ⟨b1, b2⟩ := bounds_le hb
        refine ⟨_, fun w' => run_slice hd hTe (Nat.le_refl 0) hb, ?_⟩
        rw [show b.2 - b.1 = 0 from by omega, Nat.zero_sub]
        exact ⟨_, rfl⟩
      · simp only [Option.map_eq_some_iff] at hl
        obtain ⟨b, hb, rfl⟩ := hl
        obtain ⟨A, rfl⟩ := hx
        obtain ⟨b1, b2⟩ := bounds_le hb
        refine ⟨_, fun w' => run_slice hd hTe (Nat.le_refl 0) hb, ?_⟩
        rw [show b.2 - b.1 = 0 from by omega, Nat.zero_sub]
        exact ⟨_, rfl⟩
      · cases hl
  all_goals cases hl

theorem HR.lenOf {hh : Heap} (h : HR I σ w hh) {x : AV} {n : Int} {u : Value} (hx : VR I σ w x u) (hl : Go.Q.lenOf hh x = some n) :
    ∃ A, ∃ l : Nat, ∃ c, u = .slice A l c ∧ n = l := by
  unfold Go.Q.lenOf at hl
  split at hl
  · cases hl; obtain ⟨A, cap, e1, _⟩ := hx; exact ⟨A, _, cap, by simpa using e1, rfl⟩
  · simp only [Option.bind_eq_some_iff, Option.map_eq_some_iff] at hl
    obtain ⟨v1, ha, n, hn, rfl⟩ := hl
    obtain ⟨t, xs, H, cs, rfl, hpl⟩ := h.place ha
    simp only [lenAV, Option.some.injEq] at hn
    subst hn
    have hu := hpl.os hx
    subst hu
    obtain ⟨A, cap, e1, _⟩ := hpl.arr.slice
    exact ⟨A, _, cap, e1, rfl⟩
  · cases hl; obtain ⟨H, A, len, cap, _, _, _, A', e1, _⟩ := hx; exact ⟨_, _, _, e1, rfl⟩
  · cases hl; obtain rfl := hx; exact ⟨_, 0, _, rfl, rfl⟩
  · cases hl; obtain ⟨A, rfl⟩ := hx; exact ⟨_, 0, _, rfl, rfl⟩
  · cases hl

theorem run_getMap {P : Program} {w : World} {r : Nat} {es : Array MapEntry} {clock : Nat} (hb : w.heap[r]? = some (.map es clock)) : (getObj r).run P w = .ok (.map es clock) w := by simp [getObj, Sem.run, hb]
theorem run_setMap {P : Program} {w : World} {r : Nat} {es : Array MapEntry} {clock : Nat} (o : Go.Obj) (hb : w.heap[r]? = some (.map es clock)) : (setObj r o).run P w = .ok () { w with heap := w.heap.setIfInBounds r o } := by simp [setObj, Sem.run, hb]
theorem MapR.length {I : Nat → Prop} {w : World} {tk tv : Ty} : ∀ {kvs : List (tk.Den × tv.Den)} {es : List MapEntry}, MapR I w tk tv kvs es → es.length = kvs.length
  | [], es, h => by have h : es = [] := h; subst h; rfl
  | _ :: _, _, h => by obtain ⟨e, es', rfl, _, _, h⟩ := h; simp [MapR.length h]
theorem HR.lenT {hh : Heap} (h : HR I σ w hh) (hE : TabOK P E) {T : Nat} {x : AV} {n : Int} {u : Value} (hx : VR I σ w x u) (hl : Go.Q.lenT E T hh x = some n) {ty : Nat} :
    ∀ w', Keeps w w' → (Builtin.len_ #[T] ty #[u]).run P w' = .ok (.int .i64 n) w' := by
  intro w' hkeep
  simp only [Go.Q.lenT, Option.bind_eq_some_iff] at hl
  obtain ⟨ti, h1, hl⟩ := hl
  have hd := (hE.tab T ti h1).desc
  cases hdd : ti.desc <;> simp only [hdd] at hl hd
  case str =>
    split at hl
    · cases hl
      have e1 := VR.str hx
      subst e1
      simp [Builtin.len_, run_under hd, goInt]
    · cases hl
  case slice e =>
    obtain ⟨A, l, c, rfl, rfl⟩ := h.lenOf hx hl
    simp [Builtin.len_, run_under hd, goInt]
  case arr m e =>
    cases hl
    simp [Builtin.len_, run_under hd, goInt]
  case map k e =>
    split at hl
    · rename_i id
      split at hl
      · rename_i tk tv kvs hg
        cases hl
        obtain ⟨ow, b, g1, g2, rfl⟩ := hx
        obtain ⟨ow', k1, k2, b', es, clock, k3, k4, k5⟩ := h.objs id _ hg
        rw [g1] at k1; cases k1
        rw [g2] at k3; cases k3
        have hb' := hkeep.heap b _ k4
        simp [Builtin.len_, run_under hd, run_getMap hb', goInt, MapR.length k5]
      · cases hl
    · cases hl
  all_goals cases hl

end
end Go.Q
