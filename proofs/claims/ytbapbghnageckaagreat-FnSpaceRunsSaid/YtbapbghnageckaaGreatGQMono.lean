/- An abstract interpreter of the translated code: calls and loops reach their limits. -/
import Derived.Test.YtbapbghnageckaaGreatGQDefs
namespace Go.Q
set_option linter.unusedVariables false
set_option linter.unusedSimpArgs false
set_option linter.unusedSectionVars false
open Go

abbrev LoopF := Nat → St → Option (Ex × St)

def CLe (c c' : CallF) : Prop := ∀ f vs h r, c f vs h = some r → c' f vs h = some r
def LLe (l l' : LoopF) : Prop := ∀ k st r, l k st = some r → l' k st = some r

section
variable {p : Prog} {c c' : CallF} {l l' : LoopF}

theorem bind_some_mono {α β : Type} {x y : Option α} {f g : α → Option β} (h : ∀ a, x = some a → y = some a) (h2 : ∀ a b, f a = some b → g a = some b) {r : β} (hr : x.bind f = some r) : y.bind g = some r := by
 rw [Option.bind_eq_some_iff] at hr ⊢
 obtain ⟨a, h3, h4⟩ := hr
 exact ⟨a, h a h3, h2 a r h4⟩

theorem exVal_env (st : St) (o : Op) : exVal (p.env c) st o = exVal (p.env c') st o := by cases o <;> rfl

theorem callG_mono (h : CLe c c') {st : St} {id g : Nat} {vs : List AV} {r : AV × St} (hr : callG (p.env c) st id g vs = some r) : callG (p.env c') st id g vs = some r := by
 unfold callG at hr ⊢
 simp only [Prog.env, Option.bind_eq_some_iff] at hr ⊢
 obtain ⟨x, h1, y, h2, h3⟩ := hr
 exact ⟨x, h1, y, h _ _ _ _ h2, h3⟩

theorem exWrite_mono (h : CLe c c') {st : St} {id : Nat} {o : Op} {r : AV × St} (hr : exWrite (p.env c) st id o = some r) : exWrite (p.env c') st id o = some r := by
 cases o <;> first | exact hr | skip
 case call cc =>
  obtain ⟨callee, cargs, argTypes⟩ := cc
  cases callee <;> first | exact hr | skip
  case builtin b => cases b <;> exact hr
  case value f =>
   simp only [exWrite] at hr ⊢
   split at hr
   ·exact callG_mono h hr
   ·exact hr

theorem exOp_mono (h : CLe c c') {o : Oper} {st st' : St} (hr : exOp (p.env c) o st = some st') : exOp (p.env c') o st = some st' := by
 unfold exOp at hr ⊢
 split at hr
 ·rename_i hp; rw [if_pos hp, exVal_env (c' := c)]; exact hr
 ·rename_i hp
  rw [if_neg hp]
  rw [Option.map_eq_some_iff] at hr ⊢
  obtain ⟨r, h1, h2⟩ := hr
  exact ⟨r, exWrite_mono h h1, h2⟩

theorem runOps_mono (h : CLe c c') (ops : List Oper) : ∀ {os : List Oper} {st st' : St}, runOps (p.env c) ops os st = some st' → runOps (p.env c') ops os st = some st'
 | [], _, _, hr => hr
 | o :: os, st, st', hr => by
  unfold runOps at hr ⊢
  split at hr
  ·exact bind_some_mono (fun _ h' => exOp_mono h h') (fun _ _ h' => runOps_mono h ops h') hr
  ·refine bind_some_mono (fun _ h' => h') (fun g _ hr => ?_) hr
   split at hr
   ·split at hr
    ·rename_i hb; rw [if_pos hb]; exact bind_some_mono (fun _ h' => exOp_mono h h') (fun _ _ h' => runOps_mono h ops h') hr
    ·rename_i hb; rw [if_neg hb]; exact runOps_mono h ops hr
   ·exact runOps_mono h ops hr
   ·cases hr

theorem forksOf_none (E : Env) (ops : List Oper) (st : St) : ∀ (L : List (List Oper)), forksOf E ops st L none = none
 | [] => rfl
 | _ :: L => forksOf_none E ops st L
theorem forkTo_some {s1 s : St} {r : Option St} (h : forkTo s1 r = some s) : ∃ s2, r = some s2 ∧ agree s1 s2 ∧ s = s1 := by
 cases r with
 | none => cases h
 | some s2 =>
  simp only [forkTo] at h
  split at h
  ·rename_i ha; cases h; exact ⟨s2, rfl, ha, rfl⟩
  ·cases h
theorem forkTo_of {s1 s2 : St} (h : agree s1 s2) : forkTo s1 (some s2) = some s1 := by simp only [forkTo, if_pos h]
theorem forksOf_some {E : Env} {ops : List Oper} {st : St} : ∀ {L : List (List Oper)} {r : Option St} {s : St}, forksOf E ops st L r = some s ↔ r = some s ∧ ∀ os ∈ L, ∃ s2, runOps E ops os st = some s2 ∧ agree s s2
 | [], r, s => by simp [forksOf]
 | os :: L, r, s => by
  cases r with
  | none =>
   have : forksOf E ops st (os :: L) none = none := forksOf_none E ops st (os :: L)
   rw [this]; simp
  | some s0 =>
   rw [forksOf, forksOf_some]
   simp only [Option.bind_some, List.mem_cons, forall_eq_or_imp, Option.some.injEq]
   constructor
   ·rintro ⟨h1, h2⟩
    obtain ⟨s2, k1, k2, rfl⟩ := forkTo_some h1
    exact ⟨rfl, ⟨s2, k1, k2⟩, h2⟩
   ·rintro ⟨rfl, ⟨s2, k1, k2⟩, h2⟩
    exact ⟨by rw [k1, forkTo_of k2], h2⟩
theorem forksOf_mono (h : CLe c c') (ops : List Oper) {L : List (List Oper)} {os : List Oper} {st s : St} (hr : forksOf (p.env c) ops st L (runOps (p.env c) ops os st) = some s) : forksOf (p.env c') ops st L (runOps (p.env c') ops os st) = some s := by
 rw [forksOf_some] at hr ⊢
 exact ⟨runOps_mono h ops hr.1, fun os hos => by obtain ⟨s2, k1, k2⟩ := hr.2 os hos; exact ⟨s2, runOps_mono h ops k1, k2⟩⟩
theorem prun_mono (h : CLe c c') (hl : LLe l l') (A : Ann) : ∀ (k : Nat) (x : Code) {st : St} {r : Ex × St}, prun (p.env c) l A k x st = some r → prun (p.env c') l' A k x st = some r := by
 intro k x
 induction x generalizing k <;> intro st r hr <;> unfold prun at hr ⊢ <;> first | exact hr | skip
 case region id ops draw =>
  rw [Option.map_eq_some_iff] at hr ⊢
  obtain ⟨s, h1, h2⟩ := hr
  exact ⟨s, forksOf_mono h _ h1, h2⟩
 case seq a b iha ihb =>
  refine bind_some_mono (fun _ h' => iha k h') (fun x r hr => ?_) hr
  split at hr
  ·exact ihb _ hr
  ·exact hr
 case cond c0 a b iha ihb =>
  split at hr
  ·split at hr
   ·split at hr
    ·rename_i hb; rw [if_pos hb]; exact iha _ hr
    ·rename_i hb; rw [if_neg hb]; exact ihb _ hr
   ·split at hr
    ·rename_i hb; rw [if_pos hb]; exact iha _ hr
    ·rename_i hb; rw [if_neg hb]; exact ihb _ hr
  ·cases hr
 case block id a ih =>
  rw [Option.map_eq_some_iff] at hr ⊢
  obtain ⟨s, h1, h2⟩ := hr
  exact ⟨s, ih _ h1, h2⟩
 case loop a ih => exact hl _ _ _ hr
 case scope a ih => exact ih _ hr


theorem runFn_mono (h : CLe c c') (hl : LLe l l') {A : Ann} {F : Func} {vs : List AV} {hp : Heap} {r : AV × Heap} (hr : runFn (p.env c) l A F vs hp = some r) : runFn (p.env c') l' A F vs hp = some r := by
 unfold runFn at hr ⊢
 split at hr
 ·rename_i hc
  rw [if_pos hc]
  refine bind_some_mono (fun _ h => h) (fun b _ hr => ?_) hr
  refine bind_some_mono (fun _ h' => prun_mono h hl A _ _ h') (fun x r hr => ?_) hr
  split at hr <;> exact hr
 ·cases hr

theorem runLoop_mono (h : CLe c c') (hl : LLe l l') {A : Ann} {F : Func} {k : Nat} {st : St} {r : Ex × St} (hr : runLoop (p.env c) l A F k st = some r) : runLoop (p.env c') l' A F k st = some r := by
 unfold runLoop at hr ⊢
 refine bind_some_mono (fun _ h => h) (fun b _ hr => ?_) hr
 refine bind_some_mono (fun _ h => h) (fun b _ hr => ?_) hr
 refine bind_some_mono (fun _ h' => prun_mono h hl A _ _ h') (fun x r hr => ?_) hr
 split at hr
 ·exact hl _ _ _ hr
 ·exact hr

theorem sem_mono1 (p : Prog) : ∀ n, CLe (sem p n).1 (sem p (n + 1)).1 ∧ ∀ f, LLe ((sem p n).2 f) ((sem p (n + 1)).2 f)
 | 0 => ⟨fun _ _ _ _ h => by simp [sem] at h, fun _ _ _ _ h => by simp [sem] at h⟩
 | n + 1 => by
  obtain ⟨h1, h2⟩ := sem_mono1 p n
  constructor
  ·intro f vs hp r hr
   rw [sem] at hr ⊢
   simp only at hr ⊢
   split at hr
   ·exact hr
   ·exact runFn_mono h1 (h2 f) hr
  ·intro f k st r hr
   rw [sem] at hr ⊢
   simp only at hr ⊢
   split at hr
   ·exact hr
   ·exact runLoop_mono h1 (h2 f) hr

theorem sem_mono (p : Prog) {n m : Nat} (h : n ≤ m) : CLe (sem p n).1 (sem p m).1 ∧ ∀ f, LLe ((sem p n).2 f) ((sem p m).2 f) := by
 induction h with
 | refl => exact ⟨fun _ _ _ _ h => h, fun _ _ _ _ h => h⟩
 | step _ ih => exact ⟨fun f vs hp r hr => (sem_mono1 p _).1 f vs hp r (ih.1 f vs hp r hr), fun f k st r hr => (sem_mono1 p _).2 f k st r (ih.2 f k st r hr)⟩

theorem lim_eq {α : Type} {g : Nat → Option α} (hg : ∀ n m r, n ≤ m → g n = some r → g m = some r) (r : α) : lim g = some r ↔ ∃ n, g n = some r := by
 unfold lim
 split
 ·rename_i h
  obtain ⟨r0, hr0⟩ := h.choose_spec
  constructor
  ·intro e; exact ⟨_, e⟩
  ·rintro ⟨n, hn⟩
   have h1 := hg _ (max h.choose n) r0 (Nat.le_max_left _ _) hr0
   have h2 := hg _ (max h.choose n) r (Nat.le_max_right _ _) hn
   rw [h1] at h2; cases h2; exact hr0
 ·rename_i h
  constructor
  ·intro e; cases e
  ·rintro ⟨n, hn⟩; exact absurd ⟨n, r, hn⟩ h

theorem Call_eq (p : Prog) (f : Nat) (vs : List AV) (hp : Heap) (r : AV × Heap) : callOf p f vs hp = some r ↔ ∃ n, (sem p n).1 f vs hp = some r := lim_eq (fun _ _ _ h => (sem_mono p h).1 f vs hp _) r
theorem Loop_eq (p : Prog) (f k : Nat) (st : St) (r : Ex × St) : loopOf p f k st = some r ↔ ∃ n, (sem p n).2 f k st = some r := lim_eq (fun _ _ _ h => (sem_mono p h).2 f k st _) r

theorem le_Call (p : Prog) (n : Nat) : CLe (sem p n).1 (callOf p) := fun f vs hp r h => (Call_eq p f vs hp r).2 ⟨n, h⟩
theorem le_Loop (p : Prog) (n f : Nat) : LLe ((sem p n).2 f) (loopOf p f) := fun k st r h => (Loop_eq p f k st r).2 ⟨n, h⟩

theorem exOp_lim {o : Oper} {st st' : St} (hr : exOp (p.env (callOf p)) o st = some st') : ∃ n, exOp (p.env (sem p n).1) o st = some st' := by
 unfold exOp at hr ⊢
 split at hr
 ·rename_i hp; exact ⟨0, by rw [if_pos hp, exVal_env (c' := callOf p)]; exact hr⟩
 ·rename_i hp
  simp only [if_neg hp]
  rw [Option.map_eq_some_iff] at hr
  obtain ⟨r, h1, h2⟩ := hr
  have : ∃ n, exWrite (p.env (sem p n).1) st (newId o.dst) o.op = some r := by
   generalize o.op = op at h1
   cases op <;> first | exact ⟨0, h1⟩ | skip
   case call cc =>
    obtain ⟨callee, cargs, argTypes⟩ := cc
    cases callee <;> first | exact ⟨0, h1⟩ | skip
    case builtin b => cases b <;> exact ⟨0, h1⟩
    case value f =>
     simp only [exWrite] at h1 ⊢
     split at h1
     ·unfold callG at h1 ⊢
      simp only [Prog.env, Option.bind_eq_some_iff] at h1 ⊢
      obtain ⟨x, k1, y, k2, k3⟩ := h1
      obtain ⟨n, hn⟩ := (Call_eq p _ _ _ y).1 k2
      exact ⟨n, x, k1, y, hn, k3⟩
     ·cases h1
  obtain ⟨n, hn⟩ := this
  exact ⟨n, by rw [hn]; simp [h2]⟩

theorem bind_lim {α β : Type} {x : Option α} {f : α → Option β} {X : Nat → Option α} {F : Nat → α → Option β} (hX : ∀ n m r, n ≤ m → X n = some r → X m = some r) (hF : ∀ a n m r, n ≤ m → F n a = some r → F m a = some r)
  (hx : ∀ a, x = some a → ∃ n, X n = some a) (hf : ∀ a r, f a = some r → ∃ n, F n a = some r) {r : β} (hr : x.bind f = some r) : ∃ n, (X n).bind (F n) = some r := by
 rw [Option.bind_eq_some_iff] at hr
 obtain ⟨a, h1, h2⟩ := hr
 obtain ⟨n, hn⟩ := hx a h1
 obtain ⟨m, hm⟩ := hf a r h2
 exact ⟨max n m, by rw [hX n _ a (Nat.le_max_left _ _) hn]; exact hF a m _ r (Nat.le_max_right _ _) hm⟩

theorem runOps_lim (ops : List Oper) : ∀ {os : List Oper} {st st' : St}, runOps (p.env (callOf p)) ops os st = some st' → ∃ n, runOps (p.env (sem p n).1) ops os st = some st'
 | [], _, _, hr => ⟨0, hr⟩
 | o :: os, st, st', hr => by
  have hb : ∀ {st0 : St}, (exOp (p.env (callOf p)) o st0).bind (runOps (p.env (callOf p)) ops os) = some st' → ∃ n, (exOp (p.env (sem p n).1) o st0).bind (runOps (p.env (sem p n).1) ops os) = some st' := fun hr =>
   bind_lim (X := fun n => exOp (p.env (sem p n).1) o _) (F := fun n => runOps (p.env (sem p n).1) ops os) (fun n m r h => exOp_mono (sem_mono p h).1) (fun a n m r h => runOps_mono (sem_mono p h).1 ops)
    (fun a h => exOp_lim h) (fun a r h => runOps_lim ops h) hr
  unfold runOps at hr ⊢
  split at hr
  ·exact hb hr
  ·simp only [Option.bind_eq_some_iff] at hr
   obtain ⟨g, h1, hr⟩ := hr
   simp only [h1, Option.bind_some]
   split at hr
   ·split at hr
    ·rename_i hx; simp only [if_pos hx]; exact hb hr
    ·rename_i hx; simp only [if_neg hx]; exact runOps_lim ops hr
   ·exact runOps_lim ops hr
   ·cases hr

theorem forksOf_lim (ops : List Oper) {L : List (List Oper)} {os : List Oper} {st s : St} (hr : forksOf (p.env (callOf p)) ops st L (runOps (p.env (callOf p)) ops os st) = some s) : ∃ n, forksOf (p.env (sem p n).1) ops st L (runOps (p.env (sem p n).1) ops os st) = some s := by
 rw [forksOf_some] at hr
 obtain ⟨h1, h2⟩ := hr
 obtain ⟨n, hn⟩ := runOps_lim ops h1
 have : ∃ m, ∀ os ∈ L, ∃ s2, runOps (p.env (sem p m).1) ops os st = some s2 ∧ agree s s2 := by
  induction L with
  | nil => exact ⟨0, by simp⟩
  | cons os L ih =>
   obtain ⟨m, hm⟩ := ih (fun os hos => h2 os (List.mem_cons_of_mem _ hos))
   obtain ⟨s2, k1, k2⟩ := h2 os (List.mem_cons_self ..)
   obtain ⟨m', hm'⟩ := runOps_lim ops k1
   refine ⟨max m m', fun x hx => ?_⟩
   rcases List.mem_cons.1 hx with rfl | hx
   ·exact ⟨s2, runOps_mono (sem_mono p (Nat.le_max_right m m')).1 ops hm', k2⟩
   ·obtain ⟨s3, q1, q2⟩ := hm x hx
    exact ⟨s3, runOps_mono (sem_mono p (Nat.le_max_left m m')).1 ops q1, q2⟩
 obtain ⟨m, hm⟩ := this
 refine ⟨max n m, ?_⟩
 rw [forksOf_some]
 exact ⟨runOps_mono (sem_mono p (Nat.le_max_left n m)).1 ops hn, fun os hos => by obtain ⟨s2, k1, k2⟩ := hm os hos; exact ⟨s2, runOps_mono (sem_mono p (Nat.le_max_right n m)).1 ops k1, k2⟩⟩
theorem prun_lim (A : Ann) (f : Nat) : ∀ (k : Nat) (x : Code) {st : St} {r : Ex × St}, prun (p.env (callOf p)) (loopOf p f) A k x st = some r → ∃ n, prun (p.env (sem p n).1) ((sem p n).2 f) A k x st = some r := by
 intro k x
 have hm : ∀ k x st n m r, n ≤ m → prun (p.env (sem p n).1) ((sem p n).2 f) A k x st = some r → prun (p.env (sem p m).1) ((sem p m).2 f) A k x st = some r :=
  fun k x st n m r h => prun_mono (sem_mono p h).1 ((sem_mono p h).2 f) A k x
 induction x generalizing k <;> intro st r hr <;> unfold prun at hr ⊢ <;> first | exact ⟨0, hr⟩ | skip
 case region id ops draw =>
  rw [Option.map_eq_some_iff] at hr
  obtain ⟨s, h1, h2⟩ := hr
  obtain ⟨n, hn⟩ := forksOf_lim _ h1
  exact ⟨n, by rw [hn]; simp [← h2]⟩
 case seq a b iha ihb =>
  refine bind_lim (X := fun n => prun (p.env (sem p n).1) ((sem p n).2 f) A k a st) (F := fun n (r : Ex × St) => match r.1 with
   | .normal => prun (p.env (sem p n).1) ((sem p n).2 f) A (k + nLoops a) b r.2
   | _ => some r) (fun n m r h => hm _ _ _ n m r h) (fun x n m r h hr => ?_) (fun a h => iha k h) (fun x r hr => ?_) hr
  ·obtain ⟨e, s⟩ := x
   cases e with
   | normal => exact hm _ _ _ n m r h hr
   | _ => exact hr
  ·obtain ⟨e, s⟩ := x
   cases e with
   | normal => exact ihb _ hr
   | _ => exact ⟨0, hr⟩
 case cond c0 a b iha ihb =>
  split at hr
  ·split at hr
   ·split at hr
    ·rename_i hb; simp only [if_pos hb]; exact iha _ hr
    ·rename_i hb; simp only [if_neg hb]; exact ihb _ hr
   ·split at hr
    ·rename_i hb; simp only [if_pos hb]; exact iha _ hr
    ·rename_i hb; simp only [if_neg hb]; exact ihb _ hr
  ·cases hr
 case block id a ih =>
  rw [Option.map_eq_some_iff] at hr
  obtain ⟨s, h1, h2⟩ := hr
  obtain ⟨n, hn⟩ := ih k h1
  exact ⟨n, by rw [hn]; simp [← h2]⟩
 case loop a ih => exact (Loop_eq p f k _ r).1 hr
 case scope a ih => exact ih _ hr

theorem Call_unfold (p : Prog) (f : Nat) (vs : List AV) (hp : Heap) : callOf p f vs hp = match p.fn f with
  | none => p.given f vs hp
  | some F => runFn (p.env (callOf p)) (loopOf p f) (p.ann f) F vs hp := by
 apply Option.ext
 intro r
 rw [Call_eq]
 cases hF : p.fn f with
 | none =>
  constructor
  ·rintro ⟨n, hn⟩
   cases n with
   | zero => simp [sem] at hn
   | succ n => simpa [sem, hF] using hn
  ·intro hr; exact ⟨1, by simpa [sem, hF] using hr⟩
 | some F =>
  constructor
  ·rintro ⟨n, hn⟩
   cases n with
   | zero => simp [sem] at hn
   | succ n => simp only [sem, hF] at hn; exact runFn_mono (le_Call p n) (le_Loop p n f) hn
  ·intro hr
   have : ∃ n, runFn (p.env (sem p n).1) ((sem p n).2 f) (p.ann f) F vs hp = some r := by
    simp only at hr
    unfold runFn at hr ⊢
    split at hr
    ·rename_i hc
     simp only [if_pos hc]
     simp only [Option.bind_eq_some_iff] at hr
     obtain ⟨b, h1, ⟨e, s⟩, h2, h3⟩ := hr
     obtain ⟨n, hn⟩ := prun_lim _ _ _ _ h2
     refine ⟨n, ?_⟩
     rw [h1]
     simp only [Option.bind_some, hn]
     cases e <;> exact h3
    ·cases hr
   obtain ⟨n, hn⟩ := this
   exact ⟨n + 1, by simp only [sem, hF]; exact hn⟩

theorem Loop_unfold (p : Prog) (f k : Nat) (st : St) : loopOf p f k st = match p.fn f with
  | none => none
  | some F => runLoop (p.env (callOf p)) (loopOf p f) (p.ann f) F k st := by
 apply Option.ext
 intro r
 rw [Loop_eq]
 cases hF : p.fn f with
 | none =>
  constructor
  ·rintro ⟨n, hn⟩
   cases n with
   | zero => simp [sem] at hn
   | succ n => simp [sem, hF] at hn
  ·intro hr; cases hr
 | some F =>
  constructor
  ·rintro ⟨n, hn⟩
   cases n with
   | zero => simp [sem] at hn
   | succ n => simp only [sem, hF] at hn; exact runLoop_mono (le_Call p n) (le_Loop p n f) hn
  ·intro hr
   have : ∃ n, runLoop (p.env (sem p n).1) ((sem p n).2 f) (p.ann f) F k st = some r := by
    simp only at hr
    unfold runLoop at hr ⊢
    simp only [Option.bind_eq_some_iff] at hr
    obtain ⟨b, h1, c, h2, ⟨e, s⟩, h3, h4⟩ := hr
    obtain ⟨n, hn⟩ := prun_lim _ _ _ _ h3
    have h5 : ∃ m, (match e with | .normal => (sem p m).2 f k ((p.ann f).enter k s) | _ => some (e, s)) = some r := by
     cases e with
     | normal => exact (Loop_eq p f k _ r).1 h4
     | _ => exact ⟨0, h4⟩
    obtain ⟨m, hm⟩ := h5
    refine ⟨max n m, ?_⟩
    rw [h1]
    simp only [Option.bind_some, h2, prun_mono (sem_mono p (Nat.le_max_left n m)).1 ((sem_mono p (Nat.le_max_left n m)).2 f) _ _ _ hn]
    cases e with
    | normal => exact (sem_mono p (Nat.le_max_right n m)).2 f _ _ _ hm
    | _ => exact hm
   obtain ⟨n, hn⟩ := this
   exact ⟨n + 1, by simp only [sem, hF]; exact hn⟩

end
end Go.Q
