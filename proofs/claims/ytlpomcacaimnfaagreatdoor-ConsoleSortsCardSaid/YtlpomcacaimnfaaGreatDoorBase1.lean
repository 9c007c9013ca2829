/- Lemmas for the statements of this seat: how the code of the program runs, function by function; no condition beyond what each states. -/
import Derived.Below
import Derived.Orders
import Derived.OrdersHeld
import Derived.KernelRfl
import Derived.Laws.Sem
import Derived.Laws.Entries
import Derived.ChangeKeysEq
import Derived.Maps.AppendAt
set_option linter.unusedVariables false
set_option linter.unusedSectionVars false
set_option linter.unusedSimpArgs false
namespace Bo
open Go Go.RowKit

abbrev Env := Nat → Value
theorem nbeq {a b : Nat} (h : ¬ a = b) : Nat.beq a b = false := by rw [← Bool.not_eq_true, Nat.beq_eq]; exact h
/-- The frame with one temporary written. -/
def upd (N : Nat) (ρ : Env) (d : Nat) (v : Value) : Env := fun t => bif Nat.beq t d && Nat.blt d N then v else ρ t
def updo (N : Nat) (ρ : Env) (d : Option Nat) (v : Value) : Env := match d with | some d => upd N ρ d v | none => ρ
def ev (ρ : Env) : Operand → Value
  | .tmp t => ρ t | .const v => v | .global g => .pointer (some ⟨g, 0, none⟩) | .func f => .func (.func f) #[] #[]
structure Fits (N : Nat) (ρ : Env) (a : Act) : Prop where
  d : a.defers = []
  n : a.tmps.size = N
  t : ∀ i, a.tmps.getD i undef = ρ i
theorem Fits.eval {N : Nat} {ρ : Env} {a : Act} (h : Fits N ρ a) : a.eval = ev ρ := by
  funext x
  cases x with
  | tmp t => exact h.t t
  | _ => rfl
theorem Fits.put {N : Nat} {ρ : Env} {a : Act} (h : Fits N ρ a) (d : Option Nat) (v : Value) : Fits N (updo N ρ d v) (a.put d v) := by
  cases d with
  | none => exact h
  | some d =>
    refine ⟨h.d, by simp [Act.put, h.n], fun i => ?_⟩
    have ht := h.t i
    have hn := h.n
    simp only [Act.put, updo, upd, Array.getD_eq_getD_getElem?] at ht ⊢
    by_cases hi : i = d
    · subst hi
      by_cases hlt : i < N
      · have : Nat.blt i N = true := by simpa [Nat.blt_eq] using hlt
        simp [this, hn, hlt]
      · have : Nat.blt i N = false := by rw [← Bool.not_eq_true, Nat.blt_eq]; exact hlt
        simp only [this, Bool.and_false, cond_false]
        rw [Array.getElem?_eq_none (by simp [hn]; omega)]
        rw [Array.getElem?_eq_none (by rw [hn]; omega)] at ht
        exact ht
    · have : Nat.beq i d = false := nbeq hi
      simp only [this, Bool.false_and, cond_false]
      rw [Array.getElem?_setIfInBounds_ne (Ne.symm hi)]
      exact ht

/-- The post of a region: it ends plainly, in a frame that fits. -/
def QK (N : Nat) (K : Env → World → Prop) : Exit → Act → World → Prop
  | .normal, a, w => ∃ ρ, Fits N ρ a ∧ K ρ w
  | _, _, _ => False

/-- What one operation yields. -/
def OpR (P : Program) (o : Oper) (ρ : Env) (w : World) (R : Value → World → Prop) : Prop :=
  match (execOp (ev ρ) o).run P w with
  | .ok (.value v) w' => R v w'
  | .ok .skip w' => R undef w'
  | .ok (.enter f args) w' => Calls P f args w' fun e w'' => ∃ v, e = .returned v ∧ R v w''
  | _ => False
theorem OpR.wp {P : Program} {o : Oper} {ρ : Env} {w : World} {R : Value → World → Prop} {N : Nat} {a : Act} {next : Act → World → Prop} {K : Env → World → Prop}
    (h : OpR P o ρ w R) (hf : Fits N ρ a) (hn : ∀ v w', R v w' → next (a.put o.dst v) w') : o.wp P a w next (QK N K) := by
  unfold OpR at h
  unfold Oper.wp
  rw [hf.eval]
  revert h
  cases hr : (execOp (ev ρ) o).run P w with
  | halt x w' => intro h; exact h.elim
  | ok x w' =>
    cases x with
    | value v => intro h; exact hn _ _ h
    | skip => intro h; exact hn _ _ h
    | enter f args =>
      intro h
      refine Calls.mono h ?_
      rintro e w'' ⟨v, rfl, hv⟩
      exact hn _ _ hv
    | _ => intro h; exact h.elim

def wantE (ops : Array Oper) (ρ : Env) (o : Oper) : Bool :=
  match o.guard with
  | none => true
  | some (j, want) =>
    match (ops.toList[j]?).bind (·.dst) with
    | some d => (match ρ d with | .bool b => b == want | _ => false)
    | none => false
theorem wantE_eq {N : Nat} {ρ : Env} {a : Act} (hf : Fits N ρ a) (ops : Array Oper) (o : Oper) :
    Region.wanted o (yielded ops a.tmps) = wantE ops ρ o := by
  unfold Region.wanted wantE
  cases o.guard with
  | none => rfl
  | some p =>
    obtain ⟨j, want⟩ := p
    simp only [yielded, Array.getElem?_toList]
    cases h : (ops[j]?).bind (·.dst) with
    | none => simp
    | some d =>
      have ht := hf.t d
      simp only [Array.getD_eq_getD_getElem?] at ht
      simp only [Option.bind_some]
      cases hd : a.tmps[d]? with
      | none =>
        simp [hd, undef] at ht
        rw [← ht]
        simp
      | some v =>
        simp [hd] at ht
        rw [← ht]
        cases v <;> simp

/-! ### A region in its row -/
def Wl (P : Program) (N : Nat) (ops : Array Oper) (os : List Oper) (K : Env → World → Prop) (ρ : Env) (w : World) : Prop :=
  ∀ is : List Nat, is.map (fun i => ops[i]?) = os.map some → ∀ a, Fits N ρ a → wpOps P ops (QK N K) is a w
theorem upd_same {N : Nat} {ρ : Env} {t : Nat} {v : Value} (hv : ρ t = v) : upd N ρ t v = ρ := by
  funext i
  simp only [upd]
  by_cases hi : i = t
  · subst hi; cases (Nat.beq i i && Nat.blt i N) <;> simp [hv]
  · have : Nat.beq i t = false := nbeq hi
    simp [this]
section
variable {P : Program} {N : Nat} {ops : Array Oper} {os : List Oper} {K : Env → World → Prop} {ρ : Env} {w : World}
theorem Wl.z (h : K ρ w) : Wl P N ops [] K ρ w := by
  intro is his a hf
  cases is with
  | nil => exact ⟨ρ, hf, h⟩
  | cons i is => simp at his
theorem Wl.op {o : Oper} (hw : wantE ops ρ o = true)
    (h : OpR P o ρ w fun v w' => Wl P N ops os K (updo N ρ o.dst v) w') : Wl P N ops (o :: os) K ρ w := by
  intro is his a hf
  cases is with
  | nil => simp at his
  | cons i is =>
    simp only [List.map_cons, List.cons.injEq] at his
    simp only [wpOps, his.1, wantE_eq hf, hw, if_true]
    exact .inl (h.wp hf fun v w' hr => hr _ his.2 _ (hf.put _ _))
theorem Wl.no {o : Oper} (hw : wantE ops ρ o = false)
    (h : Wl P N ops os K (updo N ρ o.dst undef) w) : Wl P N ops (o :: os) K ρ w := by
  intro is his a hf
  cases is with
  | nil => simp at his
  | cons i is =>
    simp only [List.map_cons, List.cons.injEq] at his
    simp only [wpOps, his.1, wantE_eq hf, hw, Bool.false_eq_true, if_false]
    exact h _ his.2 _ (hf.put _ _)
/-- A temporary's value spelled in another way. -/
theorem Wl.nm (t : Nat) {v : Value} (hv : ρ t = v) (h : Wl P N ops os K (upd N ρ t v) w) : Wl P N ops os K ρ w := by
  rwa [upd_same hv] at h
end

/-! ### A region in any row that its edges allow -/
def Wd (P : Program) (N : Nat) (ops : Array Oper) (S : World → Prop) (n : Nat) (l : Array Bool) (K : Env → World → Prop) (ρ : Env) (w : World) : Prop :=
  ∀ a, Fits N ρ a → wpAnyH P .any ops (QK N K) S n l a w
section
variable {P : Program} {N : Nat} {ops : Array Oper} {S : World → Prop} {n : Nat} {l : Array Bool} {K : Env → World → Prop} {ρ : Env} {w : World}
theorem Wd.z (hr : Region.ready .any ops l = []) (h : K ρ w) : Wd P N ops S n l K ρ w := fun a hf => wpAnyH_done hr ⟨ρ, hf, h⟩ n
/-- An operation that is taken first: what it yields hangs on nothing that may turn. -/
theorem Wd.q (i : Nat) {o : Oper} {v : Value} (ho : ops[i]? = some o) (hc : (Region.noSelect ops && Region.free .any ops l i && (Region.ready .any ops l).contains i) = true)
    (hw : wantE ops ρ o = true) (hv : ∀ w, S w → (execOp (ev ρ) o).run P w = .ok (.value v) w) (hS : S w)
    (h : Wd P N ops S n (l.setIfInBounds i true) K (updo N ρ o.dst v) w) : Wd P N ops S (n + 1) l K ρ w := by
  intro a hf
  simp only [Bool.and_eq_true] at hc
  refine wpAnyH_take ho hc.1.1 hc.1.2 hc.2 (fun _ _ _ h => h.elim) (.inl ⟨by rw [wantE_eq hf]; exact hw, by rw [hf.eval]; exact hv⟩) hS (h _ (hf.put _ _))
theorem Wd.no (i : Nat) {o : Oper} (ho : ops[i]? = some o) (hc : (Region.noSelect ops && Region.free .any ops l i && (Region.ready .any ops l).contains i) = true)
    (hw : wantE ops ρ o = false) (hS : S w)
    (h : Wd P N ops S n (l.setIfInBounds i true) K (updo N ρ o.dst undef) w) : Wd P N ops S (n + 1) l K ρ w := by
  intro a hf
  simp only [Bool.and_eq_true] at hc
  refine wpAnyH_take ho hc.1.1 hc.1.2 hc.2 (fun _ _ _ h => h.elim) (.inr ⟨by rw [wantE_eq hf]; exact hw, rfl⟩) hS (h _ (hf.put _ _))
/-- The one operation that may come up now. -/
theorem Wd.e (i : Nat) {o : Oper} (ho : ops[i]? = some o) (hr : Region.ready .any ops l = [i]) (hw : wantE ops ρ o = true)
    (h : OpR P o ρ w fun v w' => S w' ∧ Wd P N ops S n (l.setIfInBounds i true) K (updo N ρ o.dst v) w') : Wd P N ops S (n + 1) l K ρ w := by
  intro a hf
  refine wpAnyH_all hr (by simp) ?_
  intro j hj
  obtain rfl : j = i := by simpa using hj
  unfold wpOp
  simp only [ho, wantE_eq hf, hw, if_true]
  exact .inl (h.wp hf fun v w' hr => ⟨hr.1, hr.2 _ (hf.put _ _)⟩)
theorem Wd.nm (t : Nat) {v : Value} (hv : ρ t = v) (h : Wd P N ops S n l K (upd N ρ t v) w) : Wd P N ops S n l K ρ w := by
  rwa [upd_same hv] at h
end

/-! ### Code -/
inductive Ex where | nor | ret | ex (id : Nat)
def CK (N : Nat) (Q : Ex → Env → World → Prop) : Exit → Act → World → Prop
  | .normal, a, w => ∃ ρ, Fits N ρ a ∧ Q .nor ρ w
  | .ret, a, w => ∃ ρ, Fits N ρ a ∧ Q .ret ρ w
  | .exit id, a, w => ∃ ρ, Fits N ρ a ∧ Q (.ex id) ρ w
  | _, _, _ => False
def C (P : Program) (N : Nat) (c : Code) (Q : Ex → Env → World → Prop) (ρ : Env) (w : World) : Prop :=
  ∀ a, Fits N ρ a → c.wp P (CK N Q) a w
@[reducible] def th (f : Env → World → Prop) (Q : Ex → Env → World → Prop) : Ex → Env → World → Prop
  | .nor, ρ, w => f ρ w
  | .ret, ρ, w => Q .ret ρ w
  | .ex i, ρ, w => Q (.ex i) ρ w
@[reducible] def bl (id : Nat) (Q : Ex → Env → World → Prop) : Ex → Env → World → Prop
  | .nor, ρ, w => Q .nor ρ w
  | .ret, ρ, w => Q .ret ρ w
  | .ex i, ρ, w => bif Nat.beq i id then Q .nor ρ w else Q (.ex i) ρ w
section
variable {P : Program} {N : Nat} {Q : Ex → Env → World → Prop} {ρ : Env} {w : World}
theorem C.mono {c : Code} {Q' : Ex → Env → World → Prop} (h : C P N c Q ρ w) (hq : ∀ e ρ w, Q e ρ w → Q' e ρ w) : C P N c Q' ρ w := by
  intro a hf
  refine wp_mono (h a hf) ?_
  intro e a w h
  cases e <;> first | exact h.elim | (obtain ⟨ρ, hf, h⟩ := h; exact ⟨ρ, hf, hq _ _ _ h⟩)
theorem C.skip (h : Q .nor ρ w) : C P N .skip Q ρ w := fun a hf => wp_skip ⟨ρ, hf, h⟩
theorem C.ret (h : Q .ret ρ w) : C P N .ret Q ρ w := fun a hf => wp_ret ⟨ρ, hf, h⟩
theorem C.exit {id : Nat} (h : Q (.ex id) ρ w) : C P N (.exit id) Q ρ w := fun a hf => wp_exit ⟨ρ, hf, h⟩
theorem C.label {l : Nat} (h : Q .nor ρ w) : C P N (.label l) Q ρ w := fun a hf => wp_label ⟨ρ, hf, h⟩
theorem C.seq {x y : Code} (h : C P N x (th (C P N y Q) Q) ρ w) : C P N (.seq x y) Q ρ w := by
  intro a hf
  refine wp_seq (wp_mono (h a hf) ?_)
  intro e a w h
  cases e with
  | normal => obtain ⟨ρ, hf, h⟩ := h; exact h a hf
  | _ => exact h
theorem C.cond {c : Operand} {x y : Code} {b : Bool} (hc : ev ρ c = .bool b) (h1 : b = true → C P N x Q ρ w) (h2 : b = false → C P N y Q ρ w) : C P N (.cond c x y) Q ρ w := by
  intro a hf
  exact wp_cond_split (t := b) (by rw [hf.eval]; exact hc) (fun h => h1 h a hf) (fun h => h2 h a hf)
theorem C.cond_dec {c : Operand} {x y : Code} {p : Prop} {d : Decidable p} (hc : ev ρ c = .bool (@decide p d)) (h1 : p → C P N x Q ρ w) (h2 : ¬ p → C P N y Q ρ w) : C P N (.cond c x y) Q ρ w :=
  C.cond hc (fun h => h1 (of_decide_eq_true h)) (fun h => h2 (of_decide_eq_false h))
theorem C.yes {c : Operand} {x y : Code} (hc : ev ρ c = .bool true) (h1 : C P N x Q ρ w) : C P N (.cond c x y) Q ρ w := C.cond hc (fun _ => h1) (fun h => by cases h)
theorem C.nay {c : Operand} {x y : Code} (hc : ev ρ c = .bool false) (h1 : C P N y Q ρ w) : C P N (.cond c x y) Q ρ w := C.cond hc (fun h => by cases h) (fun _ => h1)
theorem C.block {id : Nat} {c : Code} (h : C P N c (bl id Q) ρ w) : C P N (.block id c) Q ρ w := by
  intro a hf
  refine wp_block (wp_mono (h a hf) ?_)
  intro e a w h
  cases e with
  | normal => exact h
  | ret => exact h
  | exit i =>
    obtain ⟨ρ, hf, h⟩ := h
    simp only [bl] at h
    simp only [Exit.inBlock]
    by_cases hi : i = id
    · subst hi
      simp at h
      simp only [if_true]
      exact ⟨ρ, hf, h⟩
    · have : Nat.beq i id = false := nbeq hi
      simp [this] at h
      rw [if_neg hi]
      exact ⟨ρ, hf, h⟩
  | goto l => exact h.elim
  | panic c => exact h.elim
  | outgrown => exact h.elim
theorem C.loop {c : Code} (I : Nat → Env → World → Prop) (n : Nat) (h0 : I n ρ w)
    (round : ∀ n ρ w, I n ρ w → C P N c (th (fun ρ w => ∃ m, m < n ∧ I m ρ w) Q) ρ w) : C P N (.loop c) Q ρ w := by
  intro a hf b k cs
  have key : ∀ n ρ w a, I n ρ w → Fits N ρ a → ∃ e a' w', CK N Q e a' w' ∧ Arrives P (lone (b.at a (.code c :: .inLoop c :: k)) cs w) b k cs e a' w' := by
    intro n
    induction n using Nat.strongRecOn with
    | _ n ih =>
      intro ρ w a hI hf
      obtain ⟨e, a₁, w₁, hq, harr⟩ := round n ρ w hI a hf b (.inLoop c :: k) cs
      cases e with
      | normal =>
        obtain ⟨ρ₁, hf₁, m, hm, hI₁⟩ := hq
        obtain ⟨e₂, a₂, w₂, hq₂, harr₂⟩ := ih m hm ρ₁ w₁ a₁ hI₁ hf₁
        exact ⟨e₂, a₂, w₂, hq₂, .of_steps (Steps.trans harr (.one step_inLoop)) harr₂⟩
      | exit id => exact ⟨.exit id, a₁, w₁, hq, .pass (x := .inLoop c) rfl (fun _ _ => .inl (by simp)) harr⟩
      | ret => exact ⟨.ret, a₁, w₁, hq, .pass (x := .inLoop c) rfl (fun _ _ => .inl (by simp)) harr⟩
      | goto l => exact hq.elim
      | panic ch => exact hq.elim
      | outgrown => exact hq.elim
  obtain ⟨e, a', w', hq, harr⟩ := key n ρ w a h0 hf
  exact ⟨e, a', w', hq, .of_steps (.one step_loop) harr⟩
/-- A region that is done in its row. -/
theorem range_map (ops : Array Oper) : (List.range ops.size).map (fun i => ops[i]?) = ops.toList.map some := by
  apply List.ext_getElem
  · simp
  · intro i h1 h2
    simp at h1
    simp [h1]
theorem C.reg {id : Nat} {ops : Array Oper} (h : Wl P N ops ops.toList (Q .nor) ρ w) : C P N (.region id ops false) Q ρ w := by
  intro a hf
  refine wp_mono (wp_region (h _ (range_map ops) a hf)) ?_
  intro e a w h
  cases e with
  | normal => exact h
  | _ => exact h.elim
/-- A temporary's value spelled in another way. -/
theorem C.nm {c : Code} (t : Nat) {v : Value} (hv : ρ t = v) (h : C P N c Q (upd N ρ t v) w) : C P N c Q ρ w := by
  rwa [upd_same hv] at h
theorem C.draw {id : Nat} {ops : Array Oper} (S : World → Prop) (hm : P.follows .mixedOrders = true)
    (h : Wd P N ops S ops.size (Array.replicate ops.size false) (Q .nor) ρ { w with drawn := w.drawn + 1 }) : C P N (.region id ops true) Q ρ w := by
  intro a hf
  refine wp_mono (wp_region_held (S := S) hm (h a hf)) ?_
  intro e a w h
  cases e with
  | normal => exact h
  | _ => exact h.elim
end
/-! ### Calls -/
def CallOk (P : Program) (f : FuncId) : Prop := ∃ fn, P.funcs[f]? = some fn ∧ (fn.name == "runtime.NumGoroutine") = false ∧ fn.body.isNone = false
/-- The call ends by a return. -/
def Fn (P : Program) (f : FuncId) (args : Array Value) (w : World) (R : Value → World → Prop) : Prop :=
  CallOk P f ∧ Calls P f args w fun e w' => ∃ v, e = .returned v ∧ R v w'
theorem Fn.mono {P : Program} {f : FuncId} {args : Array Value} {w : World} {R R' : Value → World → Prop} (h : Fn P f args w R) (hr : ∀ v w', R v w' → R' v w') : Fn P f args w R' :=
  ⟨h.1, Calls.mono h.2 fun _ _ ⟨v, e, hv⟩ => ⟨v, e, hr _ _ hv⟩⟩
/-- The frame as it is at a function's begin. -/
def at0 (args : List Value) : Env := fun t => args.getD t undef
def endK (P : Program) (fn : Func) (R : Value → World → Prop) : Ex → Env → World → Prop
  | .nor, ρ, w | .ret, ρ, w => ∀ a, Fits fn.ntmps ρ a → ∃ v, (results fn a.tmps).run P w = .ok v w ∧ R v w
  | .ex _, _, _ => False
theorem Fn.of {P : Program} {f : FuncId} {fn : Func} {c : Code} {args : List Value} {w : World} {R : Value → World → Prop} (hf : P.funcs[f]? = some fn) (hb : fn.body = some c)
    (hn : args.length ≤ fn.ntmps) (hm : (fn.name == "runtime.NumGoroutine") = false) (h : C P fn.ntmps c (endK P fn R) (at0 args) w) : Fn P f args.toArray w R := by
  refine ⟨⟨fn, hf, hm, by rw [hb]; rfl⟩, ?_⟩
  refine calls_of_wp hf hb (wp_mono (h _ ⟨rfl, by simp; omega, fun i => ?_⟩) ?_)
  · simp only [at0, Array.getD_eq_getD_getElem?, List.getD_eq_getElem?_getD]
    rw [Array.getElem?_append]
    by_cases hi : i < args.length
    · simp [hi]
    · simp only [List.size_toArray, hi, if_false]
      rw [List.getElem?_eq_none (by omega), Array.getElem?_replicate]
      split <;> rfl
  · intro e a w h
    cases e with
    | normal => obtain ⟨ρ, hf, h⟩ := h; obtain ⟨v, h1, h2⟩ := h a hf; exact ⟨hf.d, v, h1, v, rfl, h2⟩
    | ret => obtain ⟨ρ, hf, h⟩ := h; obtain ⟨v, h1, h2⟩ := h a hf; exact ⟨hf.d, v, h1, v, rfl, h2⟩
    | exit id => obtain ⟨ρ, hf, h⟩ := h; exact h.elim
    | goto l => exact h.elim
    | panic c => exact h.elim
    | outgrown => exact h.elim
end Bo
namespace Bo
open Go Go.RowKit

inductive Kd where
  | int (k : IntKind) | bool | str | ptr (e : TypeId) | sl (e : TypeId) | st (fs : List (Nat × TypeId × Nat)) | arr (n : Nat) (e : TypeId) | mp (k e : TypeId) | oth
structure TI where
  size : Nat
  bytes : Nat
  zero : List Value
  kd : Kd
def Lay := Nat → Option TI
def Kd.agg : Kd → Bool | .st _ | .arr _ _ => true | _ => false
def KdOk (P : Program) (T : TypeId) : Kd → Prop
  | .int k => P.underlying T = some (.int k)
  | .bool => P.underlying T = some .bool
  | .str => P.underlying T = some .string
  | .ptr e => P.underlying T = some (.pointer e)
  | .sl e => P.underlying T = some (.slice e)
  | .mp k e => P.underlying T = some (.map k e)
  | .arr n e => P.underlying T = some (.array n e)
  | .st fs => (∃ F, P.underlying T = some (.struct F) ∧ F.toList.map (fun f => (f.offset, f.type, P.cellsOf f.type)) = fs ∧ F.toList.all (fun f => (P.info? f.type).isSome) = true)
  | .oth => ∃ d, P.underlying T = some d ∧ (match d with | .struct _ | .array _ _ | .interface _ => False | _ => True)
structure TyOk (P : Program) (T : TypeId) (ti : TI) : Prop where
  info : (P.info? T).map (fun i => (i.size, i.bytes, i.zero.map fun z => z.cells.toList)) = some (ti.size, ti.bytes, some ti.zero)
  und : KdOk P T ti.kd
def LayOk (P : Program) (L : Lay) : Prop := ∀ T ti, L T = some ti → TyOk P T ti

section
variable {P : Program} {T : TypeId} {ti : TI}
theorem TyOk.cellsOf (h : TyOk P T ti) : P.cellsOf T = ti.size := by
  have := h.info
  unfold Program.cellsOf
  cases hi : P.info? T with
  | none => simp [hi] at this
  | some i => simp [hi] at this; simp [this.1]
theorem TyOk.sizeOf (h : TyOk P T ti) (w : World) : (Go.sizeOf T).run P w = .ok ti.size w := by
  have := h.info
  cases hi : P.info? T with
  | none => simp [hi] at this
  | some i => rw [run_sizeOf w hi, h.cellsOf]
theorem TyOk.isAgg (h : TyOk P T ti) (w : World) : (Go.isAgg T).run P w = .ok ti.kd.agg w := by
  have hu := h.und
  unfold Go.isAgg
  cases hk : ti.kd <;> rw [hk] at hu <;> simp only [KdOk] at hu
  case st fs => obtain ⟨F, hF, _⟩ := hu; simp [run_underlying hF, Kd.agg]
  case oth =>
    obtain ⟨d, hd, hm⟩ := hu
    cases d <;> first | exact hm.elim | simp [run_underlying hd, Kd.agg]
  all_goals simp [run_underlying hu, Kd.agg]
theorem TyOk.zeroValue (h : TyOk P T ti) (w : World) : ∃ z, (Go.zeroValue T).run P w = .ok z w ∧ z.cells.toList = ti.zero := by
  have := h.info
  cases hi : P.info? T with
  | none => simp [hi] at this
  | some i =>
    simp [hi] at this
    obtain ⟨_, _, z, hz, hc⟩ := this
    exact ⟨z, by simp [Go.zeroValue, run_typeInfo _ hi, hz], hc⟩
end

def kdo (L : Lay) (T : TypeId) : Option Kd := (L T).map TI.kd
theorem kdo_ok {P : Program} {L : Lay} (hL : LayOk P L) {T : TypeId} {k : Kd} (h : kdo L T = some k) : KdOk P T k := by
  unfold kdo at h
  cases hLT : L T with
  | none => simp [hLT] at h
  | some ti =>
    have hu := (hL T ti hLT).und
    simp [hLT] at h
    rwa [h] at hu

def poInt (op : BinOp) (k : IntKind) (a b : Int) : Option Value :=
  match op with
  | .eql => some (.bool (decide (a = b)))
  | .neq => some (.bool (decide (¬ a = b)))
  | .lss => some (.bool (decide (a < b)))
  | .leq => some (.bool (decide (a ≤ b)))
  | .gtr => some (.bool (decide (b < a)))
  | .geq => some (.bool (decide (b ≤ a)))
  | .add => some (.int k (k.wrap (a + b)))
  | .sub => some (.int k (k.wrap (a - b)))
  | .mul => some (.int k (k.wrap (a * b)))
  | .and => some (.int k (k.wrap (BitVec.ofInt k.bits a &&& BitVec.ofInt k.bits b).toNat))
  | .or => some (.int k (k.wrap (BitVec.ofInt k.bits a ||| BitVec.ofInt k.bits b).toNat))
  | .xor => some (.int k (k.wrap (BitVec.ofInt k.bits a ^^^ BitVec.ofInt k.bits b).toNat))
  | _ => none
def poBin (t : Option Kd) (op : BinOp) : Value → Value → Option Value
  | .int k a, .int k' b => if k = k' then poInt op k a b else none
  | .bool a, .bool b =>
    match t, op with
    | some .bool, .eql => some (.bool (a == b))
    | some .bool, .neq => some (.bool (!(a == b)))
    | _, _ => none
  | .string a, .string b =>
    match op with
    | .eql => some (.bool (decide (a.toList = b.toList)))
    | .neq => some (.bool (!decide (a.toList = b.toList)))
    | _ => none
  | .pointer a, .pointer none =>
    match t, op with
    | some (.ptr _), .eql => some (.bool a.isNone)
    | some (.ptr _), .neq => some (.bool !a.isNone)
    | _, _ => none
  | .slice a _ _, .slice none _ _ =>
    match t, op with
    | some (.sl _), .eql => some (.bool a.isNone)
    | some (.sl _), .neq => some (.bool !a.isNone)
    | _, _ => none
  | _, _ => none
section
variable {P : Program} {T : TypeId} (w : World)
theorem run_eq1 (d : Nat) {a b : Bool} (hu : P.underlying T = some .bool) : (Op.equalIn (d + 1) T (.bool a) (.bool b)).run P w = .ok (a == b) w := by
  unfold Op.equalIn; simp [run_underlying hu]
theorem run_eq2 (d : Nat) {a : Option Addr} {e : TypeId} (hu : P.underlying T = some (.pointer e)) : (Op.equalIn (d + 1) T (.pointer a) (.pointer none)).run P w = .ok a.isNone w := by
  unfold Op.equalIn; cases a <;> simp [run_underlying hu]
theorem run_eq3 (d : Nat) {a : Option Addr} {n c m k : Nat} {e : TypeId} (hu : P.underlying T = some (.slice e)) : (Op.equalIn (d + 1) T (.slice a n c) (.slice none m k)).run P w = .ok a.isNone w := by
  unfold Op.equalIn; cases a <;> simp [run_underlying hu]
end
theorem beq_dec (a b : List UInt8) : (a == b) = decide (a = b) := by rw [Bool.eq_iff_iff]; simp
theorem equal_def (T : TypeId) (x y : Value) : Op.equal T x y = Op.equalIn (9999 + 1) T x y := rfl
theorem poBin_sound {P : Program} {L : Lay} (hL : LayOk P L) {T : TypeId} {op : BinOp} {a b v : Value} (h : poBin (kdo L T) op a b = some v) (x y : Operand) (w : World) :
    (do eqGuard op T x y a b; binOp op T a b : Sem Value).run P w = .ok v w := by
  unfold poBin at h
  split at h
  · split at h
    · rename_i hk
      subst hk
      unfold poInt at h
      split at h <;> first | (cases h; done) | (cases h; simp [eqGuard, binOp, Op.intCmp, Op.intArith, Op.intBits]; done) | (cases h; simp [eqGuard, binOp, Op.intCmp, bne, BEq.beq])
    · cases h
  · split at h
    · rename_i hT; cases h; have hu := kdo_ok hL hT
      simp [eqGuard, binOp, equal_def, run_eq1 w 9999 hu]
    · rename_i hT; cases h; have hu := kdo_ok hL hT
      simp [eqGuard, binOp, equal_def, run_eq1 w 9999 hu]
    · cases h
  · split at h <;> first | (cases h; done) | (cases h; simp [eqGuard, binOp, Op.stringOp, beq_dec])
  · rename_i a
    split at h
    · rename_i e hT; cases h; have hu := kdo_ok hL hT
      simp [eqGuard, binOp, equal_def, run_eq2 w 9999 hu]
    · rename_i e hT; cases h; have hu := kdo_ok hL hT
      simp [eqGuard, binOp, equal_def, run_eq2 w 9999 hu]
    · cases h
  · rename_i a _ _ _ _
    split at h
    · rename_i e hT; cases h; have hu := kdo_ok hL hT
      simp [eqGuard, binOp, equal_def, run_eq3 w 9999 hu]
    · rename_i e hT; cases h; have hu := kdo_ok hL hT
      simp [eqGuard, binOp, equal_def, run_eq3 w 9999 hu]
    · cases h
  · cases h

def poBlt (L : Lay) (b : Builtin) (ts : List TypeId) (vs : List Value) : Option Value :=
  match b, ts, vs with
  | .len, [T], [.slice _ n _] => match kdo L T with | some (.sl _) => some (.int .i64 n) | _ => none
  | .len, [T], [.string s] => match kdo L T with | some .str => some (.int .i64 s.size) | _ => none
  | .cap, [T], [.slice _ _ n] => match kdo L T with | some (.sl _) => some (.int .i64 n) | _ => none
  | .min, _, [.int k a, .int _ b] => some (.int k (if b < a then b else a))
  | .max, _, [.int k a, .int _ b] => some (.int k (if a < b then b else a))
  | _, _, _ => none
theorem poBlt_sound {P : Program} {L : Lay} (hL : LayOk P L) {b : Builtin} {ts : List TypeId} {vs : List Value} {v : Value} (h : poBlt L b ts vs = some v) (t : TypeId) (cs : Array Bool) (w : World) :
    (builtin b ts.toArray t cs vs.toArray).run P w = .ok (.value v) w := by
  unfold poBlt at h
  split at h
  · split at h
    · rename_i hT; cases h; have hu := kdo_ok hL hT
      simp [builtin, Builtin.len_, run_underlying hu, goInt]
    · cases h
  · split at h
    · rename_i hT; cases h; have hu := kdo_ok hL hT
      simp [builtin, Builtin.len_, run_underlying hu, goInt]
    · cases h
  · split at h
    · rename_i hT; cases h; have hu := kdo_ok hL hT
      simp [builtin, Builtin.cap_, run_underlying hu, goInt]
    · cases h
  · cases h; simp [builtin, Builtin.min_, Builtin.min2]
  · cases h; simp [builtin, Builtin.max_, Builtin.max2]
  · cases h

/-- A value's head, seen. -/
def nf : Value → Option Value
  | .bool b => some (.bool b) | .int k n => some (.int k n) | .float k b => some (.float k b) | .complex k a b => some (.complex k a b) | .string s => some (.string s)
  | .pointer p => some (.pointer p) | .slice p n c => some (.slice p n c) | .map r => some (.map r) | .chan r => some (.chan r) | .func f a c => some (.func f a c)
  | .nilFunc => some .nilFunc | .iface t v => some (.iface t v) | .nilIface => some .nilIface | .agg cs => some (.agg cs) | .tuple vs => some (.tuple vs)
theorem nf_eq (v : Value) : nf v = some v := by cases v <;> rfl
theorem nf_of {v u : Value} (h : nf v = some u) : v = u := by rw [nf_eq] at h; exact Option.some.inj h
/-- Operations that only reckon. -/
def po (L : Lay) (ρ : Env) : Op → Option Value
  | .move x => nf (ev ρ x)
  | .assign x => nf (ev ρ x)
  | .pick c a b => match ev ρ c with | .bool true => nf (ev ρ a) | .bool false => nf (ev ρ b) | _ => none
  | .nilCheck x => match ev ρ x with | .pointer (some a) => some (.pointer (some a)) | _ => none
  | .binOp op T x y _ => poBin (kdo L T) op (ev ρ x) (ev ρ y)
  | .unOp .not _ x => match ev ρ x with | .bool b => some (.bool !b) | _ => none
  | .unOp .neg _ x => match ev ρ x with | .int k n => some (.int k (k.wrap (0 - n))) | _ => none
  | .convert src dst x =>
    match kdo L src, kdo L dst, ev ρ x with
    | some _, some (.int k), .int _ n => some (.int k (k.wrap n))
    | _, _, _ => none
  | .fieldAddr s x f =>
    match kdo L s, ev ρ x with
    | some (.st fs), .pointer (some ⟨b, o, none⟩) =>
      match fs[f]? with
      | some (off, _, _ + 1) => some (.pointer (some ⟨b, o + off, none⟩))
      | _ => none
    | _, _ => none
  | .makeInterface t x => match kdo L t with | some _ => some (.iface t (ev ρ x)) | none => none
  | .makeFunc fn first cap => some (.func fn (first.map (ev ρ)) (cap.map (ev ρ)))
  | .extract t i => match ev ρ t with | .tuple vs => vs[i]? | _ => none
  | .call c => match c.callee with | .builtin b => poBlt L b c.argTypes.toList (c.args.toList.map (ev ρ)) | _ => none
  | _ => none

theorem po_sound {P : Program} {L : Lay} (hL : LayOk P L) {ρ : Env} {o : Oper} {v : Value} (h : po L ρ o.op = some v) (w : World) :
    (execOp (ev ρ) o).run P w = .ok (.value v) w := by
  unfold execOp
  unfold po at h
  split at h
  · rename_i x hx; simp only [hx]; rw [nf_of h]; rfl
  · rename_i x hx; simp only [hx]; rw [nf_of h]; rfl
  · rename_i c a b hx
    simp only [hx]
    split at h <;> first | (cases h; done) | (rename_i hc; simp [hc, asBool, nf_of h])
  · rename_i x hx
    simp only [hx]
    split at h <;> first | (cases h; done) | (rename_i hc; cases h; simp [hc])
  · rename_i op T x y _ hx
    simp only [hx]
    have := poBin_sound hL h x y w
    simp only [Sem.run_bind] at this ⊢
    rw [this]; rfl
  · rename_i x hx
    simp only [hx]
    split at h
    · rename_i b hc; cases h; simp [hc, Op.unary]
    · cases h
  · rename_i x hx
    simp only [hx]
    split at h
    · rename_i k n hc; cases h; simp [hc, Op.unary, Op.intArith]
    · cases h
  · rename_i src dst x hx
    simp only [hx]
    split at h
    · rename_i k' k kk n h1 h2 h3
      cases h
      have hu := kdo_ok hL h2
      have hus : ∃ d, P.underlying src = some d := by
        have hus := kdo_ok hL h1
        cases k' <;> simp only [KdOk] at hus
        case st => obtain ⟨F, hF, _⟩ := hus; exact ⟨_, hF⟩
        case oth => obtain ⟨d, hF, _⟩ := hus; exact ⟨_, hF⟩
        all_goals exact ⟨_, hus⟩
      obtain ⟨d, hus⟩ := hus
      cases d <;> simp [h3, convert, run_underlying hu, run_underlying hus, Conv.intToInt]
    · cases h
  · rename_i s x f hx
    simp only [hx]
    split at h
    · rename_i fs b o hs hxv
      split at h
      · rename_i off t n hf
        cases h
        obtain ⟨F, hF, hm, hsome⟩ := kdo_ok hL hs
        rw [← hm] at hf
        simp only [List.getElem?_map, Option.map_eq_some_iff, Array.getElem?_toList] at hf
        obtain ⟨fd, hfd, he⟩ := hf
        simp only [Prod.mk.injEq] at he
        have hfs := List.all_eq_true.1 hsome fd (by rw [Array.mem_toList_iff]; exact Array.mem_of_getElem? hfd)
        cases hi : P.info? fd.type with
        | none => simp [hi] at hfs
        | some i =>
          have h0 : ¬ P.cellsOf fd.type = 0 := by omega
          by_cases hz : fd.offset = 0
          · simp [hxv, Instr.fieldAt, run_underlying hF, hfd, Instr.sureAddr, fieldPlace, run_sizeOf _ hi, h0, Addr.add, hz, ← he.1]
          · simp [hxv, Instr.fieldAt, run_underlying hF, hfd, Instr.sureAddr, fieldPlace, run_sizeOf _ hi, h0, Addr.add, hz, ← he.1]
      · cases h
    · cases h
  · rename_i t x hx
    simp only [hx]
    split at h
    · rename_i k hk
      cases h
      have hu := kdo_ok hL hk
      unfold Instr.makeInterface
      cases k <;> simp only [KdOk] at hu
      case st => obtain ⟨F, hF, _⟩ := hu; simp [run_underlying hF]
      case oth =>
        obtain ⟨d, hF, hm⟩ := hu
        cases d <;> first | exact hm.elim | simp [run_underlying hF]
      all_goals simp [run_underlying hu]
    · cases h
  · rename_i fn first cap hx; simp only [hx]; cases h; rfl
  · rename_i t i hx
    simp only [hx]
    split at h
    · rename_i vs hv
      simp [hv, Instr.extract, h]
    · cases h
  · rename_i c hx
    simp only [hx]
    split at h
    · rename_i b hb
      have := poBlt_sound hL h o.type (c.args.map fun | .const _ => true | _ => false) w
      rw [show (c.args.toList.map (ev ρ)).toArray = c.args.map (ev ρ) from by apply Array.ext'; simp] at this
      simp only [resolve, hb, Sem.run_bind, Sem.run_pure, Result.andThen_ok, invoke]
      exact this
    · cases h
  · cases h
end Bo
namespace Bo
open Go Go.RowKit

/-- What is known of the program's types, as the walk asks it. -/
class LC (P : Program) where
  L : Lay
  ok : LayOk P L
  mix : P.follows .mixedOrders = true

/-! ### Memory -/
abbrev Pf := (Nat → Prop) → World → Prop
/-- A block that is a row of cells, known whole. -/
def Bk (w : World) (b : Nat) (T : TypeId) (cs : List Value) : Prop := w.heap[b]? = some (.cells cs.toArray T (0, 0))
theorem Bk.lt {w : World} {b : Nat} {T : TypeId} {cs : List Value} (h : Bk w b T cs) : b < w.heap.size := (Array.getElem?_eq_some_iff.1 h).1
theorem Bk.cell {w : World} {b : Nat} {T : TypeId} {cs : List Value} (h : Bk w b T cs) (o : Nat) : w.cell? ⟨b, o, none⟩ = cs[o]? := by
  unfold Bk at h
  simp [World.cell?, h]
theorem Bk.to {w w' : World} {b : Nat} {T : TypeId} {cs : List Value} (h : Bk w b T cs) (e : w'.heap[b]? = w.heap[b]?) : Bk w' b T cs := by
  unfold Bk at *
  rw [e, h]
theorem Bk.xt {w w' : World} {b : Nat} {T : TypeId} {cs : List Value} (h : Bk w b T cs) (x : Below w.heap.size w w') : Bk w' b T cs := h.to (x.block b h.lt)
/-- What is the same whatever is done to other blocks. -/
class Stab (F : Pf) : Prop where
  mono : ∀ {I J : Nat → Prop} {w w' : World}, (∀ b, I b → b < w.heap.size → J b ∧ w'.heap[b]? = w.heap[b]?) → F I w → F J w'
instance Stab.const (p : Prop) : Stab (fun _ _ => p) := ⟨fun _ h => h⟩
instance Stab.and (A B : Pf) [a : Stab A] [b : Stab B] : Stab (fun J w => A J w ∧ B J w) := ⟨fun h k => ⟨a.mono h k.1, b.mono h k.2⟩⟩
instance Stab.ex {α : Type} (A : α → Pf) [a : ∀ x, Stab (A x)] : Stab (fun J w => ∃ x, A x J w) := ⟨fun h ⟨x, k⟩ => ⟨x, (a x).mono h k⟩⟩
instance Stab.all {α : Sort _} (A : α → Pf) [a : ∀ x, Stab (A x)] : Stab (fun J w => ∀ x, A x J w) := ⟨fun h k x => (a x).mono h (k x)⟩
theorem Stab.cell {w w' : World} {b : Nat} (e : w'.heap[b]? = w.heap[b]?) (o : Nat) : w'.cell? ⟨b, o, none⟩ = w.cell? ⟨b, o, none⟩ := by
  unfold World.cell?; rw [e]
theorem lt_of_cell {w : World} {b o : Nat} {v : Value} (h : w.cell? ⟨b, o, none⟩ = some v) : b < w.heap.size := by
  rcases Nat.lt_or_ge b w.heap.size with h' | h'
  · exact h'
  · simp [World.cell?, Array.getElem?_eq_none h'] at h
/-- Cells that stand from a place on, in a block of J. -/
def At (b o : Nat) (cs : List Value) : Pf := fun J w => J b ∧ b < w.heap.size ∧ ∀ j v, cs[j]? = some v → w.cell? ⟨b, o + j, none⟩ = some v
instance (b o : Nat) (cs : List Value) : Stab (At b o cs) := ⟨fun h k => ⟨(h b k.1 k.2.1).1, (by
  rename_i w w'
  have e := (h b k.1 k.2.1).2
  rcases Nat.lt_or_ge b w'.heap.size with h' | h'
  · exact h'
  · have h1 := k.2.1
    rw [Array.getElem?_eq_none h', Array.getElem?_eq_getElem h1] at e
    cases e), fun j v hj => by rw [Stab.cell (h b k.1 k.2.1).2]; exact k.2.2 j v hj⟩⟩
/-- A block of J, known whole. -/
def Im (b : Nat) (T : TypeId) (cs : List Value) : Pf := fun J w => J b ∧ Bk w b T cs
instance (b : Nat) (T : TypeId) (cs : List Value) : Stab (Im b T cs) := ⟨fun h k => ⟨(h b k.1 k.2.lt).1, k.2.to (h b k.1 k.2.lt).2⟩⟩
theorem Im.at {b : Nat} {T : TypeId} {cs : List Value} {J : Nat → Prop} {w : World} (h : Im b T cs J w) : At b 0 cs J w :=
  ⟨h.1, h.2.lt, fun j v hj => by rw [h.2.cell, Nat.zero_add]; exact hj⟩
/-- A slice whose elements' cells are these. -/
def Rc (sz : Nat) (a : Option Addr) (c : Nat) (css : List (List Value)) : Pf := fun J w =>
  css.length ≤ c ∧ (∀ cs ∈ css, cs.length = sz) ∧ (css ≠ [] → ∃ b o, a = some ⟨b, o, none⟩ ∧ J b ∧ b < w.heap.size ∧ ∀ i cs, css[i]? = some cs → ∀ j v, cs[j]? = some v → w.cell? ⟨b, o + i * sz + j, none⟩ = some v)
instance (sz : Nat) (a : Option Addr) (c : Nat) (css : List (List Value)) : Stab (Rc sz a c css) := ⟨fun h k => ⟨k.1, k.2.1, fun hne => by
  rename_i w w'
  obtain ⟨b, o, ha, hJ, hlt, hc⟩ := k.2.2 hne
  have e := (h b hJ hlt).2
  refine ⟨b, o, ha, (h b hJ hlt).1, ?_, fun i cs hi j v hj => by rw [Stab.cell e]; exact hc i cs hi j v hj⟩
  rcases Nat.lt_or_ge b w'.heap.size with h' | h'
  · exact h'
  · rw [Array.getElem?_eq_none h', Array.getElem?_eq_getElem hlt] at e
    cases e⟩⟩
theorem Rc.nil (sz : Nat) (a : Option Addr) (c : Nat) (J : Nat → Prop) (w : World) : Rc sz a c [] J w := ⟨Nat.zero_le _, by simp, fun h => absurd rfl h⟩
theorem Rc.at {sz : Nat} {a : Option Addr} {c : Nat} {css : List (List Value)} {J : Nat → Prop} {w : World} (h : Rc sz a c css J w) {i : Nat} {cs : List Value} (hi : css[i]? = some cs) :
    ∃ b o, a = some ⟨b, o, none⟩ ∧ At b (o + i * sz) cs J w := by
  obtain ⟨b, o, ha, hJ, hlt, hc⟩ := h.2.2 (by intro e; simp [e] at hi)
  exact ⟨b, o, ha, hJ, hlt, fun j v hj => hc i cs hi j v hj⟩

/-! ### The state of a walk -/
/-- What the call may write: a block that is known whole; a slice that is the call's own. -/
inductive Rs where
  | blk (b : Nat) (T : TypeId) (cs : List Value)
  | own (a : Option Addr) (c : Nat) (T : TypeId) (sz : Nat) (css : List (List Value))
def Rs.fp : Rs → Option Nat
  | .blk b _ _ => some b
  | .own (some a) _ _ _ _ => some a.block
  | .own none _ _ _ _ => none
def Rs.ok (w : World) : Rs → Prop
  | .blk b T cs => Bk w b T cs
  | .own a c T sz css => w.ownsRow 0 T sz (.slice a css.length c) css.length css.flatten ∧ ∀ cs ∈ css, cs.length = sz
theorem Rs.ok.lt {w : World} {x : Rs} (h : x.ok w) {b : Nat} (hb : x.fp = some b) : b < w.heap.size := by
  cases x with
  | blk b' T cs => cases hb; exact Bk.lt h
  | own a c T sz css =>
    obtain ⟨⟨_, h⟩, _⟩ := h
    rcases h with ⟨h, _⟩ | ⟨g, cap, cur, hv, _, hh, _⟩
    · obtain ⟨rfl, _, _⟩ := Value.slice.inj h; cases hb
    · obtain ⟨rfl, _, _⟩ := Value.slice.inj hv; cases hb; exact (Array.getElem?_eq_some_iff.1 hh).1
theorem Rs.ok.to {w w' : World} {x : Rs} (h : x.ok w) (e : ∀ b, x.fp = some b → w'.heap[b]? = w.heap[b]?) : x.ok w' := by
  cases x with
  | blk b' T cs => exact Bk.to h (e _ rfl)
  | own a c T sz css =>
    obtain ⟨⟨h0, h⟩, h1⟩ := h
    refine ⟨⟨h0, ?_⟩, h1⟩
    rcases h with h | ⟨g, cap, cur, hv, hb, hh, r⟩
    · exact .inl h
    · refine .inr ⟨g, cap, cur, hv, hb, ?_, r⟩
      obtain ⟨rfl, _, _⟩ := Value.slice.inj hv
      rw [e g rfl]; exact hh
theorem Rs.ok.xt {w w' : World} {x : Rs} (h : x.ok w) (e : Below w.heap.size w w') : x.ok w' := h.to fun b hb => e.block b (h.lt hb)
def up (I : Nat → Prop) (B : Nat) : Nat → Prop := fun b => I b ∨ B ≤ b
/-- All that stood stands, but for the blocks of D. -/
structure Mod (D : Nat → Prop) (w w' : World) : Prop where
  os : w'.os = w.os
  tape : w'.tape = w.tape
  output : w'.output = w.output
  size : w.heap.size ≤ w'.heap.size
  block : ∀ k, k < w.heap.size → ¬ D k → w'.heap[k]? = w.heap[k]?
abbrev N0 : Nat → Prop := fun _ => False
section
variable {D D' : Nat → Prop} {w w1 w2 : World}
theorem Mod.below (h : Mod N0 w w1) : Below w.heap.size w w1 := ⟨h.os, h.tape, h.output, h.size, fun k hk => h.block k hk id⟩
theorem Mod.of (h : Below w.heap.size w w1) : Mod D w w1 := ⟨h.os, h.tape, h.output, h.size, fun k hk _ => h.block k hk⟩
theorem Mod.refl (D : Nat → Prop) (w : World) : Mod D w w := ⟨rfl, rfl, rfl, Nat.le_refl _, fun _ _ _ => rfl⟩
theorem Mod.trans (a : Mod D w w1) (b : Mod D' w1 w2) (h : ∀ k, k < w.heap.size → D' k → D k) : Mod D w w2 :=
  ⟨b.os.trans a.os, b.tape.trans a.tape, b.output.trans a.output, Nat.le_trans a.size b.size, fun k hk hn =>
    (b.block k (Nat.lt_of_lt_of_le hk a.size) fun e => hn (h k hk e)).trans (a.block k hk hn)⟩
end
def Dj (x y : Rs) : Prop := ∀ b, x.fp = some b → y.fp ≠ some b
structure St (D I : Nat → Prop) (w0 : World) (J : Nat → Prop) (M : List Rs) (F : Pf) (w : World) : Prop where
  b : Mod D w0 w
  m : ∀ x ∈ M, x.ok w ∧ ∀ b, x.fp = some b → (w0.heap.size ≤ b ∨ D b) ∧ ¬ J b
  d : M.Pairwise Dj
  j : ∀ b, w.heap.size ≤ b → J b
  u : ∀ b, J b → up I w0.heap.size b ∨ D b
  f : F J w
/-- The call's own things, known at its begin. -/
def Ms (I : Nat → Prop) (M : List Rs) (w : World) : Prop := (∀ x ∈ M, x.ok w ∧ ∀ b, x.fp = some b → ¬ I b) ∧ M.Pairwise Dj
def fpD (M : List Rs) : Nat → Prop := fun b => ∃ x ∈ M, x.fp = some b
section
variable {D I : Nat → Prop} {w0 w w' : World} {J : Nat → Prop} {M : List Rs} {F G : Pf}
theorem St.s (hs : St D I w0 J M F w) : w0.heap.size ≤ w.heap.size := hs.b.size
theorem St.fresh (hs : St D I w0 J M F w) {b : Nat} (hb : w.heap.size ≤ b) : J b := hs.j b hb
theorem St.xt [Stab F] (hs : St D I w0 J M F w) (x : Below w.heap.size w w') : St D I w0 J M F w' :=
  ⟨hs.b.trans (D' := N0) (Mod.of x) (fun _ _ h => h.elim), fun y hy => ⟨(hs.m y hy).1.xt x, (hs.m y hy).2⟩, hs.d, fun b hb => hs.j b (Nat.le_trans x.size hb), hs.u, Stab.mono (fun b hb hl => ⟨hb, x.block b hl⟩) hs.f⟩
theorem St.add (hs : St D I w0 J M F w) (g : G J w) : St D I w0 J M (fun J w => G J w ∧ F J w) w := ⟨hs.b, hs.m, hs.d, hs.j, hs.u, g, hs.f⟩
theorem St.to (hs : St D I w0 J M F w) (g : F J w → G J w) : St D I w0 J M G w := ⟨hs.b, hs.m, hs.d, hs.j, hs.u, g hs.f⟩
theorem St.got [Stab G] (hs : St D I w0 J M F w') (x : Below w.heap.size w w') (hw : St D I w0 J M F w) (g : G (up J w.heap.size) w') : St D I w0 J M (fun J w => G J w ∧ F J w) w' :=
  hs.add (Stab.mono (fun b hb hl => ⟨hb.elim id fun h => hw.fresh h, rfl⟩) g)
theorem St.mk0 (I : Nat → Prop) [Stab F] (h : F I w) : St N0 I w (up I w.heap.size) [] F w :=
  ⟨.refl _ _, by simp, .nil, fun b hb => .inr hb, fun b hb => .inl hb, Stab.mono (fun b hb hl => ⟨.inl hb, rfl⟩) h⟩
theorem St.mkM (I : Nat → Prop) [Stab F] (hM : Ms I M w) (h : F I w) : St (fpD M) I w (up I w.heap.size) M F w :=
  ⟨.refl _ _, fun x hx => ⟨(hM.1 x hx).1, fun b hb => ⟨.inr ⟨x, hx, hb⟩, fun hj => by
    rcases hj with hj | hj
    · exact (hM.1 x hx).2 b hb hj
    · have := (hM.1 x hx).1.lt hb; omega⟩⟩, hM.2, fun b hb => .inr hb, fun b hb => .inl hb, Stab.mono (fun b hb hl => ⟨.inl hb, rfl⟩) h⟩
theorem Dj.symm {x y : Rs} (h : Dj x y) : Dj y x := fun b hb e => h b e hb
theorem St.ms (hs : St D I w0 J M F w) : Ms J M w := ⟨fun x hx => ⟨(hs.m x hx).1, fun b hb => ((hs.m x hx).2 b hb).2⟩, hs.d⟩
theorem St.perm (hs : St D I w0 J M F w) {M' : List Rs} (h : M'.Perm M) : St D I w0 J M' F w :=
  ⟨hs.b, fun x hx => hs.m x (h.mem_iff.1 hx), hs.d.perm h.symm Dj.symm, hs.j, hs.u, hs.f⟩
/-- A block of the call's own, as it reads. -/
theorem St.bk (hs : St D I w0 J M F w) (i : Nat) {b : Nat} {T : TypeId} {cs : List Value} (h : M[i]? = some (.blk b T cs)) : Bk w b T cs := (hs.m _ (List.mem_of_getElem? h)).1
theorem St.cut {x : Rs} (hs : St D I w0 J (x :: M) F w) : St D I w0 J M F w := ⟨hs.b, fun y hy => hs.m y (List.mem_cons_of_mem _ hy), hs.d.of_cons, hs.j, hs.u, hs.f⟩
/-- What a call has done that may write the things Mc. -/
theorem St.call [Stab F] [Stab G] {Mc R M' : List Rs} {J' : Nat → Prop} (hs : St D I w0 J (Mc ++ R) F w) (hc : St (fpD Mc) J w J' M' G w') :
    St D I w0 (fun b => J' b ∨ (J b ∧ b < w.heap.size)) (M' ++ R) (fun J w => G J w ∧ F J w) w' := by
  have hD : ∀ b, fpD Mc b → b < w.heap.size ∧ ¬ J b ∧ (w0.heap.size ≤ b ∨ D b) ∧ ∀ y ∈ R, y.fp ≠ some b := by
    rintro b ⟨x, hx, hb⟩
    have h := hs.m x (List.mem_append_left _ hx)
    exact ⟨h.1.lt hb, (h.2 b hb).2, (h.2 b hb).1, fun y hy => (List.pairwise_append.1 hs.d).2.2 x hx y hy b hb⟩
  have hR : ∀ y ∈ R, ∀ b, y.fp = some b → b < w.heap.size ∧ ¬ J' b := by
    intro y hy b hb
    have h := hs.m y (List.mem_append_right _ hy)
    have hlt := h.1.lt hb
    refine ⟨hlt, fun hj => ?_⟩
    rcases hc.u b hj with (h' | h') | h'
    · exact (h.2 b hb).2 h'
    · omega
    · exact (hD b h').2.2.2 y hy hb
  refine ⟨hs.b.trans hc.b (fun k hk h => (hD k h).2.2.1.resolve_left (by omega)), ?_, ?_, fun b hb => .inl (hc.j b hb), ?_, ?_, ?_⟩
  · intro x hx
    rcases List.mem_append.1 hx with hx | hx
    · refine ⟨(hc.m x hx).1, fun b hb => ?_⟩
      have h := (hc.m x hx).2 b hb
      refine ⟨?_, fun hj => ?_⟩
      · rcases h.1 with h1 | h1
        · exact .inl (Nat.le_trans hs.s h1)
        · exact (hD b h1).2.2.1
      · rcases hj with hj | ⟨hj, hlt⟩
        · exact h.2 hj
        · rcases h.1 with h1 | h1
          · omega
          · exact (hD b h1).2.1 hj
    · have h := hs.m x (List.mem_append_right _ hx)
      refine ⟨h.1.to fun b hb => hc.b.block b (h.1.lt hb) fun hd => (hD b hd).2.2.2 x hx hb, fun b hb => ⟨(h.2 b hb).1, fun hj => ?_⟩⟩
      rcases hj with hj | hj
      · exact (hR x hx b hb).2 hj
      · exact (h.2 b hb).2 hj.1
  · refine List.pairwise_append.2 ⟨hc.d, (List.pairwise_append.1 hs.d).2.1, ?_⟩
    intro x hx y hy b hb e
    rcases ((hc.m x hx).2 b hb).1 with h | h
    · have := (hR y hy b e).1; omega
    · exact (hD b h).2.2.2 y hy e
  · rintro b (hj | ⟨hj, hlt⟩)
    · rcases hc.u b hj with (h' | h') | h'
      · exact hs.u b h'
      · exact .inl (.inr (Nat.le_trans hs.s h'))
      · rcases (hD b h').2.2.1 with h1 | h1
        · exact .inl (.inr h1)
        · exact .inr h1
    · exact hs.u b hj
  · exact Stab.mono (fun b hb hl => ⟨.inl hb, rfl⟩) hc.f
  · exact Stab.mono (fun b hb hl => ⟨.inr ⟨hb, hl⟩, hc.b.block b hl fun hd => (hD b hd).2.1 hb⟩) hs.f
end

/-! ### Contracts -/
/-- The call ends, with one of these values; nothing that was there has turned; and this is known of what is handed back. -/
def Ct (P : Program) (f : FuncId) (args : Array Value) (I : Nat → Prop) (w : World) {α : Type} (val : α → Value) (G : α → Pf) : Prop :=
  Fn P f args w fun v w' => ∃ x, v = val x ∧ Below w.heap.size w w' ∧ G x (up I w.heap.size) w'
theorem Ct.imp {P : Program} {f : FuncId} {args : Array Value} {I : Nat → Prop} {w : World} {α β : Type} {val : α → Value} {G : α → Pf} {val' : β → Value} {G' : β → Pf}
    (h : Ct P f args I w val G) (k : ∀ x J w', G x J w' → ∃ y, val x = val' y ∧ G' y J w') : Ct P f args I w val' G' :=
  Fn.mono h fun v w' ⟨x, e, hb, g⟩ => by
    obtain ⟨y, e', g'⟩ := k x _ _ g
    exact ⟨y, e.trans e', hb, g'⟩

/-- The call ends, with one of these values; it may have written the things M, which are now M'; nothing else that was there has turned. -/
def Cm (P : Program) (f : FuncId) (args : Array Value) (I : Nat → Prop) (w : World) (M : List Rs) {α : Type} (val : α → Value) (M' : α → List Rs) (G : α → Pf) : Prop :=
  Fn P f args w fun v w' => ∃ x, v = val x ∧ ∃ J, St (fpD M) I w J (M' x) (G x) w'
theorem Cm.imp {P : Program} {f : FuncId} {args : Array Value} {I : Nat → Prop} {w : World} {M : List Rs} {α β : Type} {val : α → Value} {M' : α → List Rs} {G : α → Pf} {val' : β → Value} {M'' : β → List Rs} {G' : β → Pf}
    (h : Cm P f args I w M val M' G) (k : ∀ x J w', St (fpD M) I w J (M' x) (G x) w' → ∃ y, val x = val' y ∧ ∃ J, St (fpD M) I w J (M'' y) (G' y) w') : Cm P f args I w M val' M'' G' :=
  Fn.mono h fun v w' ⟨x, e, J, g⟩ => by
    obtain ⟨y, e', g'⟩ := k x _ _ g
    exact ⟨y, e.trans e', g'⟩

/-! ### The end of a function -/
def tupOf : List Value → Value | [v] => v | vs => .tuple vs.toArray
inductive RV (P : Program) (ρ : Env) (w : World) : ResultVar → Value → Prop where
  | t {t : Nat} {v : Value} (h : ρ t = v) : RV P ρ w (.tmp t) v
  | c {a T : Nat} {v : Value} {p : Addr} (h : ρ a = .pointer (some p)) (hl : (loadVar T p).run P w = .ok v w) : RV P ρ w (.cell a T) v
inductive RVs (P : Program) (ρ : Env) (w : World) : List ResultVar → List Value → Prop where
  | nil : RVs P ρ w [] []
  | cons {r : ResultVar} {v : Value} {rs : List ResultVar} {vs : List Value} (h : RV P ρ w r v) (t : RVs P ρ w rs vs) : RVs P ρ w (r :: rs) (v :: vs)
theorem run_resM {P : Program} {N : Nat} {ρ : Env} {w : World} {a : Act} (hf : Fits N ρ a) {rs : List ResultVar} {vs : List Value} (h : RVs P ρ w rs vs) :
    ((rs.mapM fun | .tmp t => pure (a.tmps.getD t undef) | .cell p T => do loadVar T (← asAddr (a.tmps.getD p undef)) : Sem (List Value))).run P w = .ok vs w := by
  induction h with
  | nil => rfl
  | cons h t ih =>
    cases h with
    | t h => simp only [hf.t] at ih; simp only [List.mapM_cons, Sem.run_bind, Sem.run_pure, Result.andThen_ok, hf.t, h, ih]
    | c h hl =>
      simp only [hf.t] at ih
      simp only [List.mapM_cons, hf.t, h]
      rw [Sem.run_bind, Sem.run_bind]
      simp only [asAddr, Sem.run_pure, Result.andThen_ok, hl, Sem.run_bind]
      simp only [asAddr] at ih
      rw [ih]; rfl
theorem run_results {P : Program} {fn : Func} {N : Nat} {ρ : Env} {w : World} {a : Act} (hf : Fits N ρ a) {vs : List Value} (h : RVs P ρ w fn.results.toList vs) :
    (results fn a.tmps).run P w = .ok (tupOf vs) w := by
  unfold results
  rw [Array.mapM_eq_mapM_toList]
  have := run_resM hf h
  rw [Sem.run_bind]
  have h2 : (Array.mk <$> List.mapM (fun x => match x with
      | .tmp t => pure (a.tmps.getD t undef)
      | .cell p T => do loadVar T (← asAddr (a.tmps.getD p undef))) fn.results.toList : Sem (Array Value)).run P w = .ok vs.toArray w := by
    rw [map_eq_pure_bind, Sem.run_bind, this]; rfl
  have h3 : (List.toArray <$> List.mapM (fun x => match x with
      | .tmp t => pure (a.tmps.getD t undef)
      | .cell p T => do loadVar T (← asAddr (a.tmps.getD p undef))) fn.results.toList : Sem (Array Value)).run P w = .ok vs.toArray w := h2
  refine Eq.trans (congrArg (fun r => Result.andThen r _) h3) ?_
  simp only [Result.andThen_ok]
  match vs with
  | [] => rfl
  | [v] => rfl
  | v :: u :: vs => rfl
def endC (P : Program) (fn : Func) (I : Nat → Prop) (w0 : World) {α : Type} (val : α → Value) (G : α → Pf) : Ex → Env → World → Prop :=
  endK P fn fun v w' => ∃ x, v = val x ∧ Below w0.heap.size w0 w' ∧ G x (up I w0.heap.size) w'
theorem Ct.of {P : Program} {f : FuncId} {fn : Func} {c : Code} {args : List Value} {I : Nat → Prop} {w : World} {α : Type} {val : α → Value} {G : α → Pf} {F : Pf} [Stab F]
    (hf : P.funcs[f]? = some fn) (hb : fn.body = some c) (hn : Nat.ble args.length fn.ntmps = true) (hF : F I w)
    (h : St N0 I w (up I w.heap.size) [] F w → C P fn.ntmps c (endC P fn I w val G) (at0 args) w) (hm : (fn.name == "runtime.NumGoroutine") = false := by kernel_rfl) : Ct P f args.toArray I w val G :=
  Fn.of hf hb (Nat.le_of_ble_eq_true hn) hm (h (St.mk0 I hF))
def endM (P : Program) (fn : Func) (D I : Nat → Prop) (w0 : World) {α : Type} (val : α → Value) (M' : α → List Rs) (G : α → Pf) : Ex → Env → World → Prop :=
  endK P fn fun v w' => ∃ x, v = val x ∧ ∃ J, St D I w0 J (M' x) (G x) w'
theorem Cm.of {P : Program} {f : FuncId} {fn : Func} {c : Code} {args : List Value} {I : Nat → Prop} {w : World} {M : List Rs} {α : Type} {val : α → Value} {M' : α → List Rs} {G : α → Pf} {F : Pf} [Stab F]
    (hf : P.funcs[f]? = some fn) (hb : fn.body = some c) (hn : Nat.ble args.length fn.ntmps = true) (hM : Ms I M w) (hF : F I w)
    (h : St (fpD M) I w (up I w.heap.size) M F w → C P fn.ntmps c (endM P fn (fpD M) I w val M' G) (at0 args) w) (hm : (fn.name == "runtime.NumGoroutine") = false := by kernel_rfl) : Cm P f args.toArray I w M val M' G :=
  Fn.of hf hb (Nat.le_of_ble_eq_true hn) hm (h (St.mkM I hM hF))
section
variable {P : Program} {w : World} {ρ : Env}
theorem run_loadCells {n : Nat} (a : Addr) (cs : List Value) (acc : Array Value) (i : Nat) (hl : cs.length = n) (h : ∀ j v, cs[j]? = some v → w.cell? (a.add (i + j)) = some v) :
    (loadCellsFrom a i n acc).run P w = .ok (acc ++ cs.toArray) w := by
  induction n generalizing cs acc i with
  | zero => cases cs with | nil => simp [loadCellsFrom] | cons c cs => simp at hl
  | succ n ih =>
    cases cs with
    | nil => simp at hl
    | cons c cs =>
      have h0 := h 0 c rfl
      simp only [Nat.add_zero] at h0
      simp only [loadCellsFrom, load]
      rw [Sem.run_bind]
      simp only [Sem.run, h0, Result.andThen_ok]
      rw [ih cs (acc.push c) (i + 1) (by simpa using hl) (fun j v hj => by rw [Nat.add_assoc, Nat.add_comm 1]; exact h (j + 1) v hj)]
      simp
theorem add_n (b off n : Nat) : (⟨b, off, none⟩ : Addr).add n = ⟨b, off + n, none⟩ := by unfold Addr.add; split <;> simp_all
/-- A result that lies in a block that is known whole. -/
theorem RV.b [lc : LC P] {T T' : TypeId} {ti : TI} {t b : Nat} {cs : List Value} (hT : lc.L T = some ti) (ha : ti.kd.agg = true) (h : nf (ρ t) = some (.pointer (some ⟨b, 0, none⟩))) (hb : Bk w b T' cs) (hl : cs.length = ti.size) : RV P ρ w (.cell t T) (.agg cs.toArray) := by
  refine .c (nf_of h) ?_
  have hk := lc.ok T ti hT
  simp [loadVar, hk.isAgg, ha, hk.sizeOf, loadCells, run_loadCells (P := P) ⟨b, 0, none⟩ cs #[] 0 hl (fun j v hj => by rw [add_n, Nat.zero_add, Nat.zero_add, hb.cell]; exact hj)]
theorem RV.n {t : Nat} {v : Value} (h : nf (ρ t) = some v) : RV P ρ w (.tmp t) v := .t (nf_of h)
end
section
variable {P : Program} {fn : Func} {D I J : Nat → Prop} {w0 w : World} {α : Type} {val : α → Value} {G : α → Pf} [gs : ∀ x, Stab (G x)] {M : List Rs} {F : Pf} {ρ : Env}
theorem endC.ret {vs : List Value} (hr : RVs P ρ w fn.results.toList vs) (hs : St N0 I w0 J M F w) (x : α) (hx : tupOf vs = val x) (hg : G x J w) : endC P fn I w0 val G .ret ρ w :=
  fun a hf => ⟨_, run_results hf hr, x, hx, hs.b.below, (gs x).mono (fun b hb hl => ⟨(hs.u b hb).resolve_right id, rfl⟩) hg⟩
theorem e1 {t : Nat} {v : Value} (hr : fn.results.toList = [.tmp t]) (h : nf (ρ t) = some v) (hs : St N0 I w0 J M F w) (x : α) (hx : v = val x) (hg : G x J w) : endC P fn I w0 val G .ret ρ w :=
  endC.ret (vs := [v]) (by rw [hr]; exact .cons (.t (nf_of h)) .nil) hs x hx hg
theorem e2 {t u : Nat} {v v' : Value} (hr : fn.results.toList = [.tmp t, .tmp u]) (h : nf (ρ t) = some v) (h' : nf (ρ u) = some v') (hs : St N0 I w0 J M F w) (x : α) (hx : .tuple #[v, v'] = val x) (hg : G x J w) : endC P fn I w0 val G .ret ρ w :=
  endC.ret (vs := [v, v']) (by rw [hr]; exact .cons (.t (nf_of h)) (.cons (.t (nf_of h')) .nil)) hs x hx hg
theorem e3 {t u s : Nat} {v v' v'' : Value} (hr : fn.results.toList = [.tmp t, .tmp u, .tmp s]) (h : nf (ρ t) = some v) (h' : nf (ρ u) = some v') (h'' : nf (ρ s) = some v'') (hs : St N0 I w0 J M F w) (x : α) (hx : .tuple #[v, v', v''] = val x) (hg : G x J w) : endC P fn I w0 val G .ret ρ w :=
  endC.ret (vs := [v, v', v'']) (by rw [hr]; exact .cons (.t (nf_of h)) (.cons (.t (nf_of h')) (.cons (.t (nf_of h'')) .nil))) hs x hx hg
/-- One struct. -/
theorem f1 [lc : LC P] {T T' : TypeId} {ti : TI} {t b : Nat} {cs : List Value} (hr : fn.results.toList = [.cell t T]) (h : nf (ρ t) = some (.pointer (some ⟨b, 0, none⟩))) (hs : St N0 I w0 J M F w) (hb : Bk w b T' cs) (hT : lc.L T = some ti) (ha : ti.kd.agg = true) (hl : cs.length = ti.size) (x : α) (hx : .agg cs.toArray = val x) (hg : G x J w) : endC P fn I w0 val G .ret ρ w :=
  endC.ret (vs := [.agg cs.toArray]) (by rw [hr]; exact .cons (RV.b hT ha h hb hl) .nil) hs x hx hg
/-- A struct and something more. -/
theorem f2 [lc : LC P] {T T' : TypeId} {ti : TI} {t b u : Nat} {cs : List Value} {v : Value} (hr : fn.results.toList = [.cell t T, .tmp u]) (h : nf (ρ t) = some (.pointer (some ⟨b, 0, none⟩))) (h' : nf (ρ u) = some v) (hs : St N0 I w0 J M F w) (hb : Bk w b T' cs) (hT : lc.L T = some ti) (ha : ti.kd.agg = true) (hl : cs.length = ti.size) (x : α) (hx : .tuple #[.agg cs.toArray, v] = val x) (hg : G x J w) : endC P fn I w0 val G .ret ρ w :=
  endC.ret (vs := [.agg cs.toArray, v]) (by rw [hr]; exact .cons (RV.b hT ha h hb hl) (.cons (.n h') .nil)) hs x hx hg
theorem endM.ret {M' : α → List Rs} {vs : List Value} (hr : RVs P ρ w fn.results.toList vs) (x : α) (hs : St D I w0 J (M' x) F w) (hx : tupOf vs = val x) (hg : G x J w) : endM P fn D I w0 val M' G .ret ρ w :=
  fun a hf => ⟨_, run_results hf hr, x, hx, J, hs.to fun _ => hg⟩
theorem m0 {M' : α → List Rs} (hr : fn.results.toList = []) (x : α) (hs : St D I w0 J (M' x) F w) (hx : .tuple #[] = val x) (hg : G x J w) : endM P fn D I w0 val M' G .ret ρ w :=
  endM.ret (vs := []) (by rw [hr]; exact .nil) x hs hx hg
theorem m1 {M' : α → List Rs} {t : Nat} {v : Value} (hr : fn.results.toList = [.tmp t]) (h : nf (ρ t) = some v) (x : α) (hs : St D I w0 J (M' x) F w) (hx : v = val x) (hg : G x J w) : endM P fn D I w0 val M' G .ret ρ w :=
  endM.ret (vs := [v]) (by rw [hr]; exact .cons (.t (nf_of h)) .nil) x hs hx hg
theorem m2 {M' : α → List Rs} {t u : Nat} {v v' : Value} (hr : fn.results.toList = [.tmp t, .tmp u]) (h : nf (ρ t) = some v) (h' : nf (ρ u) = some v') (x : α) (hs : St D I w0 J (M' x) F w) (hx : .tuple #[v, v'] = val x) (hg : G x J w) : endM P fn D I w0 val M' G .ret ρ w :=
  endM.ret (vs := [v, v']) (by rw [hr]; exact .cons (.t (nf_of h)) (.cons (.t (nf_of h')) .nil)) x hs hx hg
/-- A struct and something more. -/
theorem n2 [lc : LC P] {M' : α → List Rs} {T T' : TypeId} {ti : TI} {t b u : Nat} {cs : List Value} {v : Value} (hr : fn.results.toList = [.cell t T, .tmp u]) (h : nf (ρ t) = some (.pointer (some ⟨b, 0, none⟩))) (h' : nf (ρ u) = some v) (x : α) (hs : St D I w0 J (M' x) F w) (hb : Bk w b T' cs) (hT : lc.L T = some ti) (ha : ti.kd.agg = true) (hl : cs.length = ti.size) (hx : .tuple #[.agg cs.toArray, v] = val x) (hg : G x J w) : endM P fn D I w0 val M' G .ret ρ w :=
  endM.ret (vs := [.agg cs.toArray, v]) (by rw [hr]; exact .cons (RV.b hT ha h hb hl) (.cons (.n h') .nil)) x hs hx hg
end
end Bo
namespace Bo
open Go Go.RowKit

section
variable {P : Program} [lc : LC P] {N : Nat} {ops : Array Oper} {o : Oper} {os os' : List Oper} {K : Env → World → Prop} {ρ ρ' : Env} {w w0 : World} {D I J : Nat → Prop} {M : List Rs} {F : Pf}

/-- Some operations that only reckon. -/
def prun (L : Lay) (N : Nat) (ops : Array Oper) : Nat → List Oper → Env → Option (List Oper × Env)
  | 0, os, ρ => some (os, ρ)
  | _ + 1, [], _ => none
  | n + 1, o :: os, ρ =>
    match wantE ops ρ o with
    | true => match po L ρ o.op with
      | some v => prun L N ops n os (updo N ρ o.dst v)
      | none => none
    | false => prun L N ops n os (updo N ρ o.dst undef)
theorem OpR.val {v : Value} {R : Value → World → Prop} (h : (execOp (ev ρ) o).run P w = .ok (.value v) w) (hr : R v w) : OpR P o ρ w R := by
  unfold OpR; rw [h]; exact hr
theorem p (n : Nat) (h : prun lc.L N ops n os ρ = some (os', ρ')) (k : Wl P N ops os' K ρ' w) : Wl P N ops os K ρ w := by
  induction n generalizing os ρ with
  | zero => simp only [prun] at h; cases h; exact k
  | succ n ih =>
    cases os with
    | nil => simp [prun] at h
    | cons o os =>
      simp only [prun] at h
      split at h
      · rename_i hw
        split at h
        · rename_i v hv
          exact Wl.op hw (OpR.val (po_sound lc.ok hv w) (ih h))
        · cases h
      · rename_i hw
        exact Wl.no hw (ih h)
theorem z (h : K ρ w) : Wl P N ops [] K ρ w := Wl.z h

/-- Whole numbers of 64 bits, without wrapping. -/
def arq (L : Lay) (ops : Array Oper) (ρ : Env) (o : Oper) : Option Int :=
  match wantE ops ρ o with
  | true =>
    match o.op with
    | .binOp op _ x y _ =>
      match op, ev ρ x, ev ρ y with
      | .add, .int .i64 a, .int .i64 b => some (a + b)
      | .sub, .int .i64 a, .int .i64 b => some (a - b)
      | .mul, .int .i64 a, .int .i64 b => some (a * b)
      | _, _, _ => none
    | .unOp .neg _ x => match ev ρ x with | .int .i64 a => some (-a) | _ => none
    | .convert s d x => match kdo L s, kdo L d, ev ρ x with | some _, some (.int .i64), .int _ a => some a | _, _, _ => none
    | _ => none
  | false => none
theorem wrap_i64 {n : Int} (h : -9223372036854775808 ≤ n ∧ n ≤ 9223372036854775807) : IntKind.i64.wrap n = n := by
  have e : IntKind.i64.wrap n = if n % 18446744073709551616 ≥ 9223372036854775808 then n % 18446744073709551616 - 18446744073709551616 else n % 18446744073709551616 := by
    simp [IntKind.wrap, IntKind.bits, IntKind.signed]
  rw [e]; split <;> omega
theorem a {n : Int} (h : arq lc.L ops ρ o = some n) (hr : -9223372036854775808 ≤ n ∧ n ≤ 9223372036854775807) (k : Wl P N ops os K (updo N ρ o.dst (.int .i64 n)) w) : Wl P N ops (o :: os) K ρ w := by
  unfold arq at h
  split at h
  · rename_i hw
    split at h
    · rename_i op T x y T' ho
      have : poBin (kdo lc.L T) op (ev ρ x) (ev ρ y) = some (.int .i64 n) := by
        split at h <;> first | (cases h; done) | (rename_i hx hy; cases h; simp [hx, hy, poBin, poInt, wrap_i64 hr])
      exact Wl.op hw (OpR.val (po_sound lc.ok (by rw [ho]; exact this) w) k)
    · rename_i T x ho
      have : po lc.L ρ (.unOp .neg T x) = some (.int .i64 n) := by
        split at h
        · rename_i hx; cases h; simp [po, hx, wrap_i64 hr]
        · cases h
      exact Wl.op hw (OpR.val (po_sound lc.ok (by rw [ho]; exact this) w) k)
    · rename_i s d x ho
      have : po lc.L ρ (.convert s d x) = some (.int .i64 n) := by
        split at h
        · rename_i h1 h2 hx; cases h; simp [po, hx, h1, h2, wrap_i64 hr]
        · cases h
      exact Wl.op hw (OpR.val (po_sound lc.ok (by rw [ho]; exact this) w) k)
    · cases h
  · cases h
def dvq (ops : Array Oper) (ρ : Env) (o : Oper) : Option (Bool × Int × Int) :=
  match wantE ops ρ o with
  | true =>
    match o.op with
    | .binOp op _ x y _ =>
      match op, ev ρ x, ev ρ y with
      | .quo, .int .i64 a, .int .i64 b => some (true, a, b)
      | .rem, .int .i64 a, .int .i64 b => some (false, a, b)
      | _, _, _ => none
    | _ => none
  | false => none
theorem dv {x y : Int} (h : dvq ops ρ o = some (true, x, y)) (h0 : y ≠ 0) (hr : -9223372036854775808 ≤ x.tdiv y ∧ x.tdiv y ≤ 9223372036854775807) (k : Wl P N ops os K (updo N ρ o.dst (.int .i64 (x.tdiv y))) w) : Wl P N ops (o :: os) K ρ w := by
  unfold dvq at h
  split at h <;> try (cases h; done)
  rename_i hw
  split at h <;> try (cases h; done)
  rename_i op T x' y' T' ho
  split at h <;> try (cases h; done)
  rename_i hx hy
  cases h
  exact Wl.op hw (OpR.val (by simp [execOp, ho, hx, hy, eqGuard, binOp, Op.intDiv, h0, wrap_i64 hr]) k)
theorem rm {x y : Int} (h : dvq ops ρ o = some (false, x, y)) (h0 : y ≠ 0) (k : Wl P N ops os K (updo N ρ o.dst (.int .i64 (x.tmod y))) w) : Wl P N ops (o :: os) K ρ w := by
  unfold dvq at h
  split at h <;> try (cases h; done)
  rename_i hw
  split at h <;> try (cases h; done)
  rename_i op T x' y' T' ho
  split at h <;> try (cases h; done)
  rename_i hx hy
  cases h
  exact Wl.op hw (OpR.val (by simp [execOp, ho, hx, hy, eqGuard, binOp, Op.intDiv, h0]) k)

/-! ### Reading memory -/
def ldq (L : Lay) (ops : Array Oper) (ρ : Env) (o : Oper) : Option (Nat × Nat × Option Nat) :=
  match wantE ops ρ o with
  | true =>
    match o.op with
    | .load T x =>
      match L T, ev ρ x with
      | some ti, .pointer (some ⟨b, off, none⟩) => some (b, off, bif ti.kd.agg then some ti.size else none)
      | _, _ => none
    | _ => none
  | false => none
theorem ldq_run {b off : Nat} {cs : List Value} {q : Option Nat} (h : ldq lc.L ops ρ o = some (b, off, q)) :
    wantE ops ρ o = true ∧ ∃ T, (execOp (ev ρ) o) = (do pure (.value (← loadVar T ⟨b, off, none⟩))) ∧ (∀ w, (isAgg T).run P w = .ok q.isSome w) ∧ (∀ n w, q = some n → (Go.sizeOf T).run P w = .ok n w) := by
  unfold ldq at h
  split at h <;> try (cases h; done)
  rename_i hw
  split at h <;> try (cases h; done)
  rename_i T x ho
  split at h <;> try (cases h; done)
  rename_i ti b' off' hT hx
  simp only [Option.some.injEq, Prod.mk.injEq] at h
  obtain ⟨rfl, rfl, rfl⟩ := h
  refine ⟨hw, T, ?_, fun w => ?_, fun n w hq => ?_⟩
  · unfold execOp; rw [ho]; simp only [hx, Instr.loadAt, Instr.sureAddr]; rfl
  · rw [(lc.ok T ti hT).isAgg]; cases ti.kd.agg <;> rfl
  · rw [(lc.ok T ti hT).sizeOf]
    cases hk : ti.kd.agg <;> simp [hk] at hq
    rw [hq]
theorem OpR.ld1 {b off : Nat} {v : Value} {R : Value → World → Prop} (h : ldq lc.L ops ρ o = some (b, off, none)) (hc : w.cell? ⟨b, off, none⟩ = some v) (hr : R v w) : OpR P o ρ w R := by
  obtain ⟨_, T, he, ha, _⟩ := ldq_run (P := P) (cs := []) h
  refine OpR.val ?_ hr
  rw [he]; simp [loadVar, ha, load, Sem.run, hc]
theorem OpR.ldn {b off n : Nat} {cs : List Value} {R : Value → World → Prop} (h : ldq lc.L ops ρ o = some (b, off, some n)) (hl : cs.length = n) (hc : ∀ j v, cs[j]? = some v → w.cell? ⟨b, off + j, none⟩ = some v) (hr : R (.agg cs.toArray) w) : OpR P o ρ w R := by
  obtain ⟨_, T, he, ha, hs⟩ := ldq_run (P := P) (cs := []) h
  refine OpR.val ?_ hr
  rw [he]; simp [loadVar, ha, hs n w rfl, loadCells, run_loadCells (P := P) ⟨b, off, none⟩ cs #[] 0 hl (fun j v hj => by rw [add_n, Nat.zero_add]; exact hc j v hj)]
/-- One cell of a block that is known whole. -/
theorem l {b off : Nat} {T : TypeId} {cs : List Value} {v : Value} (h : ldq lc.L ops ρ o = some (b, off, none)) (hb : Bk w b T cs) (hv : cs[off]? = some v)
    (k : Wl P N ops os K (updo N ρ o.dst v) w) : Wl P N ops (o :: os) K ρ w :=
  Wl.op (ldq_run (P := P) (cs := []) h).1 (OpR.ld1 h (by rw [hb.cell]; exact hv) k)
/-- A struct that lies in a block that is known whole. -/
theorem ln {b off n : Nat} {T : TypeId} {cs : List Value} (cs' : List Value) (h : ldq lc.L ops ρ o = some (b, off, some n)) (hb : Bk w b T cs) (hl : cs'.length = n) (hv : (cs.drop off).take n = cs')
    (k : Wl P N ops os K (updo N ρ o.dst (.agg cs'.toArray)) w) : Wl P N ops (o :: os) K ρ w :=
  Wl.op (ldq_run (P := P) (cs := []) h).1 (OpR.ldn h hl (fun j v hj => by
    rw [hb.cell, ← hj, ← hv, List.getElem?_take, List.getElem?_drop, if_pos]
    have := (List.getElem?_eq_some_iff.1 hj).1
    omega) k)
/-- The same out of cells that are known. -/
theorem la {b off n : Nat} {cs : List Value} (h : ldq lc.L ops ρ o = some (b, off, some n)) (ha : At b off cs J w) (hl : cs.length = n)
    (k : Wl P N ops os K (updo N ρ o.dst (.agg cs.toArray)) w) : Wl P N ops (o :: os) K ρ w :=
  Wl.op (ldq_run (P := P) (cs := []) h).1 (OpR.ldn h hl ha.2.2 k)
theorem lc1 {b off : Nat} {v : Value} (h : ldq lc.L ops ρ o = some (b, off, none)) (hc : w.cell? ⟨b, off, none⟩ = some v)
    (k : Wl P N ops os K (updo N ρ o.dst v) w) : Wl P N ops (o :: os) K ρ w :=
  Wl.op (ldq_run (P := P) (cs := []) h).1 (OpR.ld1 h hc k)
/-- Cell j of an element that is known. -/
theorem l1 (j : Nat) {b off off' : Nat} {cs : List Value} {v : Value} (h : ldq lc.L ops ρ o = some (b, off', none)) (ha : At b off cs J w) (hj : off' = off + j) (hv : cs[j]? = some v)
    (k : Wl P N ops os K (updo N ρ o.dst v) w) : Wl P N ops (o :: os) K ρ w :=
  Wl.op (ldq_run (P := P) (cs := []) h).1 (OpR.ld1 h (by rw [hj]; exact ha.2.2 j v hv) k)
theorem At.c {b off j off' : Nat} {cs : List Value} {v : Value} (h : At b off cs J w) (hj : off' = off + j) (hv : cs[j]? = some v) : w.cell? ⟨b, off', none⟩ = some v := by
  rw [hj]; exact h.2.2 j v hv

/-! ### New blocks -/
theorem below_push (w : World) (ob : Obj) : Below w.heap.size w { w with heap := w.heap.push ob } :=
  ⟨rfl, rfl, rfl, by simp, fun k hk => by simp [Array.getElem?_push, Nat.ne_of_lt hk]⟩
theorem Bk.new (w : World) (T : TypeId) (cs : List Value) : Bk { w with heap := w.heap.push (.cells cs.toArray T) } w.heap.size T cs := by
  simp [Bk]
/-- A new block that is never written again. -/
theorem St.imm [Stab F] (hs : St D I w0 J M F w) (T : TypeId) (cs : List Value) :
    St D I w0 J M (fun J w => Im w.heap.size.pred T cs J w ∧ F J w) { w with heap := w.heap.push (.cells cs.toArray T) } :=
  (hs.xt (below_push w _)).add ⟨by
    have : ({ w with heap := w.heap.push (.cells cs.toArray T) } : World).heap.size.pred = w.heap.size := by simp
    rw [this]; exact hs.fresh (Nat.le_refl _), by
    have : ({ w with heap := w.heap.push (.cells cs.toArray T) } : World).heap.size.pred = w.heap.size := by simp
    rw [this]; exact Bk.new w T cs⟩
theorem St.imm' [Stab F] (hs : St D I w0 J M F w) (T : TypeId) (cs : List Value) :
    St D I w0 J M (fun J w' => Im w.heap.size T cs J w' ∧ F J w') { w with heap := w.heap.push (.cells cs.toArray T) } :=
  (hs.xt (below_push w _)).add ⟨hs.fresh (Nat.le_refl _), Bk.new w T cs⟩
/-- A new block that may be written. -/
theorem St.mut [Stab F] (hs : St D I w0 J M F w) (T : TypeId) (cs : List Value) :
    St D I w0 (fun b => J b ∧ b ≠ w.heap.size) (.blk w.heap.size T cs :: M) F { w with heap := w.heap.push (.cells cs.toArray T) } := by
  have h := hs.xt (below_push w (.cells cs.toArray T))
  refine ⟨h.b, ?_, ?_, ?_, ?_, ?_⟩
  · intro x hx
    rcases List.mem_cons.1 hx with rfl | hx
    · exact ⟨Bk.new w T cs, fun b hb => by cases hb; exact ⟨.inl hs.s, fun h => h.2 rfl⟩⟩
    · exact ⟨(h.m x hx).1, fun b hb => ⟨((h.m x hx).2 b hb).1, fun hj => ((h.m x hx).2 b hb).2 hj.1⟩⟩
  · refine List.Pairwise.cons (fun x hx b hb => ?_) hs.d
    cases hb
    intro hb
    have := (hs.m x hx).1.lt hb
    omega
  · intro b hb
    exact ⟨h.j b hb, by simp at hb; omega⟩
  · exact fun b hb => hs.u b hb.1
  · exact Stab.mono (fun b hb hl => ⟨⟨hb, by omega⟩, (below_push w _).block b hl⟩) hs.f
def alq (L : Lay) (ops : Array Oper) (ρ : Env) (o : Oper) : Option (TypeId × List Value) :=
  match wantE ops ρ o with
  | true =>
    match o.op with
    | .alloc T => match L T with | some ti => some (T, ti.zero) | none => none
    | .box T x => some (T, (ev ρ x).cells.toList)
    | _ => none
  | false => none
theorem OpR.alq {T : TypeId} {cs : List Value} {R : Value → World → Prop} (h : alq lc.L ops ρ o = some (T, cs))
    (hr : R (.pointer (some ⟨w.heap.size, 0, none⟩)) { w with heap := w.heap.push (.cells cs.toArray T) }) : wantE ops ρ o = true ∧ OpR P o ρ w R := by
  unfold Bo.alq at h
  split at h <;> try (cases h; done)
  rename_i hw
  refine ⟨hw, ?_⟩
  split at h
  · rename_i T' ho
    split at h <;> try (cases h; done)
    rename_i ti hT
    cases h
    obtain ⟨z, hz, hc⟩ := (lc.ok _ ti hT).zeroValue w
    unfold OpR execOp
    simp only [ho, Instr.alloc, newVar, newRow, newObj]
    rw [Sem.run_bind, Sem.run_bind, hz]
    simp only [Result.andThen_ok, Sem.run_bind, Sem.run, Sem.run_pure]
    rw [← hc] at hr
    simpa using hr
  · rename_i T' x ho
    cases h
    unfold OpR execOp
    simp only [ho, Instr.box, newVar, newRow, newObj]
    simp only [Result.andThen_ok, Sem.run_bind, Sem.run, Sem.run_pure]
    simpa using hr
  · cases h
theorem ai [Stab F] {T : TypeId} {cs : List Value} (hs : St D I w0 J M F w) (h : alq lc.L ops ρ o = some (T, cs))
    (k : ∀ b w, St D I w0 J M (fun J w => Im b T cs J w ∧ F J w) w → Wl P N ops os K (updo N ρ o.dst (.pointer (some ⟨b, 0, none⟩))) w) : Wl P N ops (o :: os) K ρ w :=
  have h' := OpR.alq (P := P) (w := w) h (k _ _ (hs.imm' T cs))
  Wl.op h'.1 h'.2
theorem am [Stab F] {T : TypeId} {cs : List Value} (hs : St D I w0 J M F w) (h : alq lc.L ops ρ o = some (T, cs))
    (k : ∀ b w, St D I w0 (fun x => J x ∧ x ≠ b) (.blk b T cs :: M) F w → Wl P N ops os K (updo N ρ o.dst (.pointer (some ⟨b, 0, none⟩))) w) : Wl P N ops (o :: os) K ρ w :=
  have h' := OpR.alq (P := P) (w := w) h (k _ _ (hs.mut T cs))
  Wl.op h'.1 h'.2

/-! ### Calls -/
def callq (ops : Array Oper) (ρ : Env) (o : Oper) : Option (FuncId × List Value) :=
  match wantE ops ρ o with
  | true =>
    match o.op with
    | .call cl =>
      match cl.callee with
      | .value f =>
        match ev ρ f with
        | .func (.func k) first cap => some (k, first.toList ++ cl.args.toList.map (ev ρ) ++ cap.toList)
        | _ => none
      | _ => none
    | _ => none
  | false => none
theorem OpR.call {f : FuncId} {args : List Value} {R : Value → World → Prop} (h : callq ops ρ o = some (f, args)) (hc : Fn P f args.toArray w R) : wantE ops ρ o = true ∧ OpR P o ρ w R := by
  unfold callq at h
  split at h <;> try (cases h; done)
  rename_i hw
  refine ⟨hw, ?_⟩
  split at h <;> try (cases h; done)
  rename_i cl ho
  split at h <;> try (cases h; done)
  rename_i fo hcl
  split at h <;> try (cases h; done)
  rename_i k first cap hf
  cases h
  obtain ⟨⟨fn, hfn, hnm, hbd⟩, hcc⟩ := hc
  have hrun : (execOp (ev ρ) o).run P w = .ok (.enter f (first ++ cl.args.map (ev ρ) ++ cap)) w := by
    unfold execOp
    simp only [ho, resolve, hcl, Deferred.ofValue, hf]
    have h1 : ¬ fn.name = "runtime.NumGoroutine" := by simpa using hnm
    have h2 : ¬ fn.body = none := by intro e; simp [e] at hbd
    simp [invoke, callFunc, program, Sem.run, hfn, h1, h2]
  unfold OpR
  rw [hrun]
  have e : (first.toList ++ cl.args.toList.map (ev ρ) ++ cap.toList).toArray = first ++ cl.args.map (ev ρ) ++ cap := by apply Array.ext'; simp
  rw [e] at hcc
  exact hcc
theorem c {f : FuncId} {args : List Value} {α : Type} {val : α → Value} {G : α → Pf} [∀ x, Stab (G x)] [Stab F] (h : callq ops ρ o = some (f, args)) (hs : St D I w0 J M F w)
    (hc : Ct P f args.toArray J w val G)
    (k : ∀ x w, St D I w0 J M (fun J w => G x J w ∧ F J w) w → Wl P N ops os K (updo N ρ o.dst (val x)) w) : Wl P N ops (o :: os) K ρ w := by
  have h' := OpR.call (P := P) (w := w) h (R := fun v w' => Wl P N ops os K (updo N ρ o.dst v) w') (Fn.mono hc fun v w' ⟨x, e, hb, g⟩ => by rw [e]; exact k x w' ((hs.xt hb).got hb hs g))
  exact Wl.op h'.1 h'.2
/-- A call of which nothing is known but what it hands back. -/
theorem c0 {f : FuncId} {args : List Value} {v : Value} [Stab F] (h : callq ops ρ o = some (f, args)) (hs : St D I w0 J M F w)
    (hc : Ct P f args.toArray J w (fun _ : Unit => v) (fun _ _ _ => True))
    (k : ∀ w, St D I w0 J M F w → Wl P N ops os K (updo N ρ o.dst v) w) : Wl P N ops (o :: os) K ρ w := by
  have h' := OpR.call (P := P) (w := w) h (R := fun v w' => Wl P N ops os K (updo N ρ o.dst v) w') (Fn.mono hc fun v w' ⟨x, e, hb, g⟩ => by rw [e]; exact k w' (hs.xt hb))
  exact Wl.op h'.1 h'.2

/-- A call that only reads, also what is the call's own. -/
theorem cr {f : FuncId} {args : List Value} {v : Value} [Stab F] (h : callq ops ρ o = some (f, args)) (hs : St D I w0 J M F w)
    (hc : Ct P f args.toArray (fun _ => True) w (fun _ : Unit => v) (fun _ _ _ => True))
    (k : ∀ w, St D I w0 J M F w → Wl P N ops os K (updo N ρ o.dst v) w) : Wl P N ops (o :: os) K ρ w := by
  have h' := OpR.call (P := P) (w := w) h (R := fun v w' => Wl P N ops os K (updo N ρ o.dst v) w') (Fn.mono hc fun v w' ⟨x, e, hb, g⟩ => by rw [e]; exact k w' (hs.xt hb))
  exact Wl.op h'.1 h'.2

/-- A call that may write some of what is the call's own. -/
theorem cm {f : FuncId} {args : List Value} {α : Type} {val : α → Value} {Mc R : List Rs} {M' : α → List Rs} {G : α → Pf} [∀ x, Stab (G x)] [Stab F] (h : callq ops ρ o = some (f, args)) (hs : St D I w0 J M F w)
    (hc : Cm P f args.toArray J w Mc val M' G) (hM : M = Mc ++ R)
    (k : ∀ x J w, St D I w0 J (M' x ++ R) (fun J w => G x J w ∧ F J w) w → Wl P N ops os K (updo N ρ o.dst (val x)) w) : Wl P N ops (o :: os) K ρ w := by
  subst hM
  have h' := OpR.call (P := P) (w := w) h (R := fun v w' => Wl P N ops os K (updo N ρ o.dst v) w') (Fn.mono hc fun v w' ⟨x, e, J', g⟩ => by rw [e]; exact k x _ w' (hs.call g))
  exact Wl.op h'.1 h'.2

/-! ### Slices -/
def ixq (L : Lay) (ops : Array Oper) (ρ : Env) (o : Oper) : Option (Option Addr × Nat × Int × Nat) :=
  match wantE ops ρ o with
  | true =>
    match o.op with
    | .indexAddr T x i =>
      match kdo L T, ev ρ x, ev ρ i with
      | some (.sl e), .slice a n _, .int _ i => match L e with | some ti => some (a, n, i, ti.size) | none => none
      | _, _, _ => none
    | _ => none
  | false => none
theorem ixq_run {a : Option Addr} {n sz : Nat} {i : Int} {b off : Nat} (h : ixq lc.L ops ρ o = some (a, n, i, sz)) (h0 : 0 ≤ i) (h1 : i < n) (ha : a = some ⟨b, off, none⟩) (w : World) :
    wantE ops ρ o = true ∧ (execOp (ev ρ) o).run P w = .ok (.value (.pointer (some ⟨b, off + i.toNat * sz, none⟩))) w := by
  unfold ixq at h
  split at h <;> try (cases h; done)
  rename_i hw
  refine ⟨hw, ?_⟩
  split at h <;> try (cases h; done)
  rename_i T x ix ho
  split at h <;> try (cases h; done)
  rename_i e a' n' c' k' i' hT hx hi
  split at h <;> try (cases h; done)
  rename_i ti he
  cases h
  have hu := kdo_ok lc.ok hT
  simp only [KdOk] at hu
  unfold execOp
  simp [ho, hx, hi, Instr.indexAt, asIntOf, run_underlying hu, ha, h0, h1, (lc.ok e ti he).sizeOf, add_n]
theorem OpR.ix {a : Option Addr} {n sz : Nat} {i : Int} {b off : Nat} {R : Value → World → Prop} (h : ixq lc.L ops ρ o = some (a, n, i, sz)) (h0 : 0 ≤ i) (h1 : i < n) (ha : a = some ⟨b, off, none⟩)
    (hr : R (.pointer (some ⟨b, off + i.toNat * sz, none⟩)) w) : wantE ops ρ o = true ∧ OpR P o ρ w R :=
  have h' := ixq_run (P := P) h h0 h1 ha w
  ⟨h'.1, OpR.val h'.2 hr⟩
/-- The place of an element. -/
theorem ix {a : Option Addr} {n sz c : Nat} {i : Int} {css : List (List Value)} {cs : List Value} (h : ixq lc.L ops ρ o = some (a, n, i, sz)) (hr : Rc sz a c css J w) (h0 : 0 ≤ i) (hn : n = css.length) (hi : css[i.toNat]? = some cs)
    (k : ∀ b off, At b off cs J w → Wl P N ops os K (updo N ρ o.dst (.pointer (some ⟨b, off, none⟩))) w) : Wl P N ops (o :: os) K ρ w := by
  obtain ⟨b, off, ha, hat⟩ := hr.at hi
  have hlt := (List.getElem?_eq_some_iff.1 hi).1
  have h' := OpR.ix (P := P) (w := w) (R := fun v w' => Wl P N ops os K (updo N ρ o.dst v) w') h h0 (by omega) ha (k b _ hat)
  exact Wl.op h'.1 h'.2
theorem ixn (i : Nat) {a : Option Addr} {n sz c : Nat} {css : List (List Value)} {cs : List Value} (h : ixq lc.L ops ρ o = some (a, n, (i : Int), sz)) (hr : Rc sz a c css J w) (hn : n = css.length) (hi : css[i]? = some cs)
    (k : ∀ b off, At b off cs J w → Wl P N ops os K (updo N ρ o.dst (.pointer (some ⟨b, off, none⟩))) w) : Wl P N ops (o :: os) K ρ w :=
  ix h hr (by omega) hn (by simpa using hi) k
/-! ### Texts -/
def sixq (L : Lay) (ops : Array Oper) (ρ : Env) (o : Oper) : Option (ByteArray × Int) :=
  match wantE ops ρ o with
  | true =>
    match o.op with
    | .index T x i => match kdo L T, ev ρ x, ev ρ i with | some .str, .string s, .int _ i => some (s, i) | _, _, _ => none
    | _ => none
  | false => none
theorem six {s : ByteArray} {i : Int} {u : UInt8} (h : sixq lc.L ops ρ o = some (s, i)) (h0 : 0 ≤ i) (hu : s.data.toList[i.toNat]? = some u)
    (k : Wl P N ops os K (updo N ρ o.dst (.int .u8 u.toNat)) w) : Wl P N ops (o :: os) K ρ w := by
  unfold sixq at h
  split at h <;> try (cases h; done)
  rename_i hw
  split at h <;> try (cases h; done)
  rename_i T x ix ho
  split at h <;> try (cases h; done)
  rename_i s' k' i' hT hx hi
  cases h
  have hk := kdo_ok lc.ok hT
  simp only [KdOk] at hk
  have hlt : i.toNat < s.size := by
    have := (List.getElem?_eq_some_iff.1 hu).1
    simpa using this
  have he : s[i.toNat] = u := by
    have := (List.getElem?_eq_some_iff.1 hu).2
    rw [← this]; rfl
  refine Wl.op hw (OpR.val ?_ k)
  unfold execOp
  simp [ho, hx, hi, Instr.index, asIntOf, run_underlying hk, h0, hlt, he]
theorem sr {id : Nat} {x : Code} {Q : Ex → Env → World → Prop} (h : Wl P N ops ops.toList (th (C P N x Q) Q .nor) ρ w) : C P N (.seq (.region id ops false) x) Q ρ w := C.seq (C.reg h)
end
end Bo
namespace Bo
open Go Go.RowKit

def lst (n i : Nat) : Array Bool := ((List.range n).map fun j => decide (j < i)).toArray
theorem lst_zero (n : Nat) : lst n 0 = Array.replicate n false := by
  apply Array.ext'
  simp only [lst]
  apply List.ext_getElem <;> simp
theorem lst_succ (n i : Nat) (h : i < n) : (lst n i).setIfInBounds i true = lst n (i + 1) := by
  apply Array.ext
  · simp [lst]
  · intro j h1 h2
    simp [lst] at h1 h2
    rw [Array.getElem_setIfInBounds (by simpa [lst] using h1)]
    simp only [lst, List.getElem_toArray, List.getElem_map, List.getElem_range]
    by_cases hj : i = j
    · subst hj; simp
    · simp only [hj, if_false, decide_eq_decide]; omega
/-- Operations that turn nothing. -/
def qk : Op → Bool
  | .move _ | .assign _ | .pick .. | .nilCheck _ | .binOp .. | .unOp .. | .convert .. | .fieldAddr .. | .field .. | .makeInterface .. | .makeFunc .. | .extract .. | .load .. | .indexAddr .. | .index .. | .slice .. | .build .. | .lookup .. => true
  | .call c => match c.callee with | .builtin .len | .builtin .cap | .builtin .min | .builtin .max => true | _ => false
  | _ => false
def lsd (n : Nat) (done : List Nat) : Array Bool := ((List.range n).map fun j => done.contains j).toArray
theorem lsd_nil (n : Nat) : lsd n [] = Array.replicate n false := by
  apply Array.ext'
  simp only [lsd]
  apply List.ext_getElem <;> simp
theorem lsd_cons (n i : Nat) (done : List Nat) : (lsd n done).setIfInBounds i true = lsd n (i :: done) := by
  apply Array.ext
  · simp [lsd]
  · intro j h1 h2
    simp [lsd] at h1 h2
    rw [Array.getElem_setIfInBounds (by simpa [lsd] using h1)]
    simp only [lsd, List.getElem_toArray, List.getElem_map, List.getElem_range, List.contains_cons]
    by_cases hj : i = j
    · subst hj; simp
    · have : (j == i) = false := by simpa using fun e => hj e.symm
      simp [hj, this]
/-- In which row operations are taken: ahead of others (q), for they hang on nothing that may turn; as the one that may come up (e); as one of two that may come up (p; in a each with a row of its own behind it). -/
inductive Tr where
  | z | q (i : Nat) (t : Tr) | e (i : Nat) (t : Tr) | p (i j : Nat) (t : Tr) | a (i : Nat) (t : Tr) (j : Nat) (u : Tr)
inductive Ob where
  | z | q (o : Oper) (t : Ob) | e (o : Oper) (t : Ob) | p (o o' : Oper) (t : Ob) | a (o : Oper) (t : Ob) (o' : Oper) (u : Ob)
/-- i: ahead of others; 500 + i: alone; 1000 + i, j: both may come up. -/
def Tr.of : List Nat → Tr
  | [] => .z
  | i :: r =>
    bif Nat.ble 1000 i then
      match r with
      | j :: r => .p (i - 1000) j (Tr.of r)
      | [] => .z
    else bif Nat.ble 500 i then .e (i - 500) (Tr.of r) else .q i (Tr.of r)
def isO (ops : Array Oper) (i : Nat) : Bool := match ops.toList[i]? with | some _ => true | none => false
def rdy (ops : Array Oper) (done : List Nat) : List Nat := Region.ready .any ops (lsd ops.size done)
def dokL (ops : Array Oper) : List Nat → Tr → Bool
  | done, .z => rdy ops done == []
  | done, .q i r => isO ops i && Region.free .any ops (lsd ops.size done) i && (rdy ops done).contains i && dokL ops (i :: done) r
  | done, .e i r => isO ops i && rdy ops done == [i] && dokL ops (i :: done) r
  | done, .p i j r => isO ops i && isO ops j && (rdy ops done == [i, j] || rdy ops done == [j, i]) && rdy ops (i :: done) == [j] && rdy ops (j :: done) == [i] && dokL ops (j :: i :: done) r
  | done, .a i r j u => isO ops i && isO ops j && (rdy ops done == [i, j] || rdy ops done == [j, i]) && dokL ops (i :: done) r && dokL ops (j :: done) u && Nat.beq (ordN r) (ordN u)
where ordN : Tr → Nat
  | .z => 0 | .q _ t => ordN t + 1 | .e _ t => ordN t + 1 | .p _ _ t => ordN t + 2 | .a _ t _ _ => ordN t + 1
abbrev ordN := dokL.ordN
def pickO (l : List Oper) : Tr → Ob
  | .z => .z
  | .q i t => match l[i]? with | some o => .q o (pickO l t) | none => .z
  | .e i t => match l[i]? with | some o => .e o (pickO l t) | none => .z
  | .p i j t => match l[i]?, l[j]? with | some o, some o' => .p o o' (pickO l t) | _, _ => .z
  | .a i t j u => match l[i]?, l[j]? with | some o, some o' => .a o (pickO l t) o' (pickO l u) | _, _ => .z
/-- All that stood at the begin stands, but for the blocks of E. -/
def Sx (E : Nat → Prop) (w : World) (w' : World) : Prop := w.heap.size ≤ w'.heap.size ∧ ∀ b, b < w.heap.size → ¬ E b → w'.heap[b]? = w.heap[b]?
section
variable {E : Nat → Prop}
theorem Sx.refl (w : World) : Sx E w w := ⟨Nat.le_refl _, fun _ _ _ => rfl⟩
theorem Sx.mod {D : Nat → Prop} {w w1 w2 : World} (h : Sx E w w1) (x : Mod D w1 w2) (hd : ∀ b, b < w.heap.size → D b → E b) : Sx E w w2 :=
  ⟨Nat.le_trans h.1 x.size, fun b hb he => (x.block b (Nat.lt_of_lt_of_le hb h.1) fun d => he (hd b hb d)).trans (h.2 b hb he)⟩
theorem Sx.below {w w1 w2 : World} (h : Sx E w w1) (x : Below w1.heap.size w1 w2) : Sx E w w2 :=
  ⟨Nat.le_trans h.1 x.size, fun b hb he => (x.block b (Nat.lt_of_lt_of_le hb h.1)).trans (h.2 b hb he)⟩
theorem Sx.cell {w w' : World} (h : Sx E w w') {b o : Nat} {v : Value} (he : ¬ E b) (hc : w.cell? ⟨b, o, none⟩ = some v) : w'.cell? ⟨b, o, none⟩ = some v := by
  rw [Stab.cell (h.2 b (lt_of_cell hc) he)]; exact hc
end

def Wa (P : Program) (N : Nat) (ops : Array Oper) (E : Nat → Prop) (ws : World) (os : Ob) (K : Env → World → Prop) (ρ : Env) (w : World) : Prop :=
  Region.noSelect ops = true → Sx E ws w → ∀ done ord, dokL ops done ord = true → pickO ops.toList ord = os → Wd P N ops (Sx E ws) (ordN ord) (lsd ops.size done) K ρ w
section
variable {P : Program} [lc : LC P] {N : Nat} {ops : Array Oper} {o o' : Oper} {os os2 : Ob} {K : Env → World → Prop} {ρ ρ' : Env} {w w0 ws : World} {E D I J : Nat → Prop} {M : List Rs} {F : Pf}
theorem isO_get {i : Nat} (h : isO ops i = true) : ∃ o, ops.toList[i]? = some o := by
  unfold isO at h
  cases ho : ops.toList[i]? with
  | none => simp [ho] at h
  | some o => exact ⟨o, rfl⟩
theorem dz (h : K ρ w) : Wa P N ops E ws .z K ρ w := by
  intro hn hS done ord hd hi
  cases ord with
  | z => exact Wd.z (by simpa [dokL, rdy] using hd) h
  | q i t => simp only [dokL, Bool.and_eq_true] at hd; obtain ⟨o, ho⟩ := isO_get hd.1.1.1; simp [pickO, ho] at hi
  | e i t => simp only [dokL, Bool.and_eq_true] at hd; obtain ⟨o, ho⟩ := isO_get hd.1.1; simp [pickO, ho] at hi
  | p i j t => simp only [dokL, Bool.and_eq_true] at hd; obtain ⟨o, ho⟩ := isO_get hd.1.1.1.1.1; obtain ⟨o', ho'⟩ := isO_get hd.1.1.1.1.2; simp [pickO, ho, ho'] at hi
  | a i t j u => simp only [dokL, Bool.and_eq_true] at hd; obtain ⟨o, ho⟩ := isO_get hd.1.1.1.1.1; obtain ⟨o', ho'⟩ := isO_get hd.1.1.1.1.2; simp [pickO, ho, ho'] at hi
theorem dokL_q {done : List Nat} {ord : Tr} (hd : dokL ops done ord = true) (hi : pickO ops.toList ord = .q o os) :
    ∃ i r, ordN ord = ordN r + 1 ∧ ops[i]? = some o ∧ pickO ops.toList r = os ∧ Region.free .any ops (lsd ops.size done) i = true ∧ (Region.ready .any ops (lsd ops.size done)).contains i = true ∧ dokL ops (i :: done) r = true := by
  cases ord with
  | z => simp [pickO] at hi
  | q i t =>
    simp only [dokL, Bool.and_eq_true] at hd
    obtain ⟨x, ho⟩ := isO_get hd.1.1.1
    simp only [pickO, ho, Ob.q.injEq] at hi
    exact ⟨i, t, rfl, by rw [← Array.getElem?_toList, ho, hi.1], hi.2, hd.1.1.2, hd.1.2, hd.2⟩
  | e i t => simp only [pickO] at hi; split at hi <;> cases hi
  | p i j t => simp only [pickO] at hi; split at hi <;> cases hi
  | a i t j u => simp only [pickO] at hi; split at hi <;> cases hi
theorem dokL_e {done : List Nat} {ord : Tr} (hd : dokL ops done ord = true) (hi : pickO ops.toList ord = .e o os) :
    ∃ i r, ordN ord = ordN r + 1 ∧ ops[i]? = some o ∧ pickO ops.toList r = os ∧ Region.ready .any ops (lsd ops.size done) = [i] ∧ dokL ops (i :: done) r = true := by
  cases ord with
  | z => simp [pickO] at hi
  | e i t =>
    simp only [dokL, Bool.and_eq_true, beq_iff_eq] at hd
    obtain ⟨x, ho⟩ := isO_get hd.1.1
    simp only [pickO, ho, Ob.e.injEq] at hi
    exact ⟨i, t, rfl, by rw [← Array.getElem?_toList, ho, hi.1], hi.2, hd.1.2, hd.2⟩
  | q i t => simp only [pickO] at hi; split at hi <;> cases hi
  | p i j t => simp only [pickO] at hi; split at hi <;> cases hi
  | a i t j u => simp only [pickO] at hi; split at hi <;> cases hi
theorem dokL_p {done : List Nat} {ord : Tr} (hd : dokL ops done ord = true) (hi : pickO ops.toList ord = .p o o' os) :
    ∃ i j r, ordN ord = ordN r + 2 ∧ ops[i]? = some o ∧ ops[j]? = some o' ∧ pickO ops.toList r = os ∧ (Region.ready .any ops (lsd ops.size done) = [i, j] ∨ Region.ready .any ops (lsd ops.size done) = [j, i]) ∧
      Region.ready .any ops (lsd ops.size (i :: done)) = [j] ∧ Region.ready .any ops (lsd ops.size (j :: done)) = [i] ∧ dokL ops (j :: i :: done) r = true := by
  cases ord with
  | z => simp [pickO] at hi
  | p i j t =>
    simp only [dokL, Bool.and_eq_true, Bool.or_eq_true, beq_iff_eq] at hd
    obtain ⟨x, ho⟩ := isO_get hd.1.1.1.1.1
    obtain ⟨y, ho'⟩ := isO_get hd.1.1.1.1.2
    simp only [pickO, ho, ho', Ob.p.injEq] at hi
    exact ⟨i, j, t, rfl, by rw [← Array.getElem?_toList, ho, hi.1], by rw [← Array.getElem?_toList, ho', hi.2.1], hi.2.2, hd.1.1.1.2, hd.1.1.2, hd.1.2, hd.2⟩
  | q i t => simp only [pickO] at hi; split at hi <;> cases hi
  | e i t => simp only [pickO] at hi; split at hi <;> cases hi
  | a i t j u => simp only [pickO] at hi; split at hi <;> cases hi
theorem dokL_a {done : List Nat} {ord : Tr} (hd : dokL ops done ord = true) (hi : pickO ops.toList ord = .a o os o' os2) :
    ∃ i j r u, ordN ord = ordN r + 1 ∧ ordN u = ordN r ∧ ops[i]? = some o ∧ ops[j]? = some o' ∧ pickO ops.toList r = os ∧ pickO ops.toList u = os2 ∧ (Region.ready .any ops (lsd ops.size done) = [i, j] ∨ Region.ready .any ops (lsd ops.size done) = [j, i]) ∧
      dokL ops (i :: done) r = true ∧ dokL ops (j :: done) u = true := by
  cases ord with
  | z => simp [pickO] at hi
  | a i t j u =>
    simp only [dokL, Bool.and_eq_true, Bool.or_eq_true, beq_iff_eq] at hd
    obtain ⟨x, ho⟩ := isO_get hd.1.1.1.1.1
    obtain ⟨y, ho'⟩ := isO_get hd.1.1.1.1.2
    simp only [pickO, ho, ho', Ob.a.injEq] at hi
    exact ⟨i, j, t, u, rfl, (Nat.eq_of_beq_eq_true hd.2).symm, by rw [← Array.getElem?_toList, ho, hi.1], by rw [← Array.getElem?_toList, ho', hi.2.2.1], hi.2.1, hi.2.2.2, hd.1.1.1.2, hd.1.1.2, hd.1.2⟩
  | q i t => simp only [pickO] at hi; split at hi <;> cases hi
  | e i t => simp only [pickO] at hi; split at hi <;> cases hi
  | p i j t => simp only [pickO] at hi; split at hi <;> cases hi
theorem Wa.q {v : Value} (hw : wantE ops ρ o = true) (hv : Sx E ws w → ∀ w', Sx E ws w' → (execOp (ev ρ) o).run P w' = .ok (.value v) w')
    (k : Wa P N ops E ws os K (updo N ρ o.dst v) w) : Wa P N ops E ws (.q o os) K ρ w := by
  intro hn hS done ord hd hi
  obtain ⟨i, r, hl, ho, ht, hc1, hc2, hd'⟩ := dokL_q hd hi
  rw [hl]
  refine Wd.q i ho (by rw [hn, hc1, hc2]; rfl) hw (hv hS) hS ?_
  rw [lsd_cons]
  exact k hn hS _ r hd' ht
theorem Wa.no (hw : wantE ops ρ o = false) (k : Wa P N ops E ws os K (updo N ρ o.dst undef) w) : Wa P N ops E ws (.q o os) K ρ w := by
  intro hn hS done ord hd hi
  obtain ⟨i, r, hl, ho, ht, hc1, hc2, hd'⟩ := dokL_q hd hi
  rw [hl]
  refine Wd.no i ho (by rw [hn, hc1, hc2]; rfl) hw hS ?_
  rw [lsd_cons]
  exact k hn hS _ r hd' ht
theorem Wa.noe (hw : wantE ops ρ o = false) (k : Wa P N ops E ws os K (updo N ρ o.dst undef) w) : Wa P N ops E ws (.e o os) K ρ w := by
  intro hn hS done ord hd hi
  obtain ⟨i, r, hl, ho, ht, hc, hd'⟩ := dokL_e hd hi
  rw [hl]
  intro a hf
  refine wpAnyH_all hc (by simp) ?_
  intro j hj
  obtain rfl : j = i := by simpa using hj
  unfold wpOp
  simp only [ho, wantE_eq hf, hw, Bool.false_eq_true, if_false]
  refine ⟨hS, ?_⟩
  rw [lsd_cons]
  exact k hn hS _ r hd' ht _ (hf.put _ _)
theorem Wa.e (hw : wantE ops ρ o = true) (h : OpR P o ρ w fun v w' => Sx E ws w' ∧ Wa P N ops E ws os K (updo N ρ o.dst v) w') : Wa P N ops E ws (.e o os) K ρ w := by
  intro hn hS done ord hd hi
  obtain ⟨i, r, hl, ho, ht, hc, hd'⟩ := dokL_e hd hi
  rw [hl]
  intro a hf
  refine wpAnyH_all hc (by simp) ?_
  intro j hj
  obtain rfl : j = i := by simpa using hj
  unfold wpOp
  simp only [ho, wantE_eq hf, hw, if_true]
  refine .inl (h.wp hf fun v w' hr => ⟨hr.1, ?_⟩)
  rw [lsd_cons]
  exact hr.2 hn hr.1 _ r hd' ht _ (hf.put _ _)
theorem lsd_perm (n i j : Nat) (done : List Nat) : lsd n (i :: j :: done) = lsd n (j :: i :: done) := by
  unfold lsd
  congr 2
  funext x
  simp only [List.contains_cons]
  cases (x == i) <;> cases (x == j) <;> rfl
theorem wantE_upd {o' : Oper} {d : Option Nat} {v : Value} : True := trivial
/-- Two that may come up: in either row. -/
theorem Wa.p (hw : wantE ops ρ o = true) (hw' : wantE ops ρ o' = true)
    (h1 : OpR P o ρ w fun v w1 => Sx E ws w1 ∧ wantE ops (updo N ρ o.dst v) o' = true ∧ OpR P o' (updo N ρ o.dst v) w1 fun v' w2 => Sx E ws w2 ∧ Wa P N ops E ws os K (updo N (updo N ρ o.dst v) o'.dst v') w2)
    (h2 : OpR P o' ρ w fun v' w1 => Sx E ws w1 ∧ wantE ops (updo N ρ o'.dst v') o = true ∧ OpR P o (updo N ρ o'.dst v') w1 fun v w2 => Sx E ws w2 ∧ Wa P N ops E ws os K (updo N (updo N ρ o'.dst v') o.dst v) w2) : Wa P N ops E ws (.p o o' os) K ρ w := by
  intro hn hS done ord hd hi
  obtain ⟨i, j, r, hl, ho, ho', ht, hc, hci, hcj, hd'⟩ := dokL_p hd hi
  rw [hl]
  intro a hf
  have key : ∀ x, x = i ∨ x = j → wpOp P ops (QK N K) x (fun a w => Sx E ws w ∧ wpAnyH P .any ops (QK N K) (Sx E ws) (ordN r + 1) ((lsd ops.size done).setIfInBounds x true) a w) a w := by
    rintro x (rfl | rfl)
    · unfold wpOp
      simp only [ho, wantE_eq hf, hw, if_true]
      refine .inl (h1.wp hf fun v w1 hr => ⟨hr.1, ?_⟩)
      rw [lsd_cons]
      refine wpAnyH_all hci (by simp) ?_
      intro y hy
      obtain rfl : y = j := by simpa using hy
      unfold wpOp
      simp only [ho', wantE_eq (hf.put _ _), hr.2.1, if_true]
      refine .inl (hr.2.2.wp (hf.put _ _) fun v' w2 hr2 => ⟨hr2.1, ?_⟩)
      rw [lsd_cons]
      exact hr2.2 hn hr2.1 _ r hd' ht _ ((hf.put _ _).put _ _)
    · unfold wpOp
      simp only [ho', wantE_eq hf, hw', if_true]
      refine .inl (h2.wp hf fun v w1 hr => ⟨hr.1, ?_⟩)
      rw [lsd_cons]
      refine wpAnyH_all hcj (by simp) ?_
      intro y hy
      obtain rfl : y = i := by simpa using hy
      unfold wpOp
      simp only [ho, wantE_eq (hf.put _ _), hr.2.1, if_true]
      refine .inl (hr.2.2.wp (hf.put _ _) fun v' w2 hr2 => ⟨hr2.1, ?_⟩)
      rw [lsd_cons, lsd_perm]
      exact hr2.2 hn hr2.1 _ r hd' ht _ ((hf.put _ _).put _ _)
  rcases hc with hc | hc
  · exact wpAnyH_all hc (by simp) (fun x hx => key x (by simpa using hx))
  · exact wpAnyH_all hc (by simp) (fun x hx => key x (by simpa [or_comm] using hx))
/-- Two that may come up, each with a row of its own behind it. -/
theorem Wa.a (hw : wantE ops ρ o = true) (hw' : wantE ops ρ o' = true)
    (h1 : OpR P o ρ w fun v w1 => Sx E ws w1 ∧ Wa P N ops E ws os K (updo N ρ o.dst v) w1)
    (h2 : OpR P o' ρ w fun v' w1 => Sx E ws w1 ∧ Wa P N ops E ws os2 K (updo N ρ o'.dst v') w1) : Wa P N ops E ws (.a o os o' os2) K ρ w := by
  intro hn hS done ord hd hi
  obtain ⟨i, j, r, u, hl, hlu, ho, ho', ht, hu, hc, hd1, hd2⟩ := dokL_a hd hi
  rw [hl]
  intro a hf
  have key : ∀ x, x = i ∨ x = j → wpOp P ops (QK N K) x (fun a w => Sx E ws w ∧ wpAnyH P .any ops (QK N K) (Sx E ws) (ordN r) ((lsd ops.size done).setIfInBounds x true) a w) a w := by
    rintro x (rfl | rfl)
    · unfold wpOp
      simp only [ho, wantE_eq hf, hw, if_true]
      refine .inl (h1.wp hf fun v w1 hr => ⟨hr.1, ?_⟩)
      rw [lsd_cons]
      exact hr.2 hn hr.1 _ r hd1 ht _ (hf.put _ _)
    · unfold wpOp
      simp only [ho', wantE_eq hf, hw', if_true]
      refine .inl (h2.wp hf fun v w1 hr => ⟨hr.1, ?_⟩)
      rw [lsd_cons, ← hlu]
      exact hr.2 hn hr.1 _ u hd2 hu _ (hf.put _ _)
  rcases hc with hc | hc
  · exact wpAnyH_all hc (by simp) (fun x hx => key x (by simpa using hx))
  · exact wpAnyH_all hc (by simp) (fun x hx => key x (by simpa [or_comm] using hx))
theorem upd_comm {d d' : Nat} {v v' : Value} (h : d ≠ d') : upd N (upd N ρ d v) d' v' = upd N (upd N ρ d' v') d v := by
  funext x
  simp only [upd]
  cases h1 : Nat.beq x d <;> cases h2 : Nat.beq x d' <;> simp
  have := Nat.eq_of_beq_eq_true h1
  have := Nat.eq_of_beq_eq_true h2
  omega

/-! ### A tail that waits for all that is ahead of it -/
def pre (ops : Array Oper) (m : Nat) : Array Oper := (ops.toList.take m).toArray
/-- The last ones wait for all ahead of position m, and for one another. -/
def tchk (ops : Array Oper) (m : Nat) : Bool :=
  Nat.ble m ops.size &&
  (List.range m).all (fun i => match ops.toList[i]? with
    | some o => o.after.toList.all (fun e => !Region.binds .any e || Nat.blt e.on i) && (match o.guard with | none => true | some (j, _) => Nat.blt j m)
    | none => false) &&
  (List.range ops.size).all (fun t => Nat.blt t m || (match ops.toList[t]? with
    | some o => (List.range m).all (fun j => o.after.toList.any fun e => Nat.beq e.on j && Region.binds .any e) && (Region.ready .any ops (lst ops.size t) == [t])
    | none => false)) &&
  (Region.ready .any ops (lst ops.size ops.size) == [])
theorem pre_get {ops : Array Oper} {m i : Nat} (h : i < m) : (pre ops m)[i]? = ops[i]? := by
  simp [pre, List.getElem?_take, h]
theorem lin_tail {ops : Array Oper} {m : Nat} (hc : tchk ops m = true) : ∀ (k i fuel t : Nat), m ≤ i → i + k = ops.size → k ≤ fuel →
    Region.linearise.go .any ops fuel t (lst ops.size i) [] = List.range' i k := by
  simp only [tchk, Bool.and_eq_true, List.all_eq_true, beq_iff_eq] at hc
  obtain ⟨⟨⟨hm, _⟩, ht⟩, hz⟩ := hc
  intro k
  induction k with
  | zero =>
    intro i fuel t hi hk hf
    obtain rfl : i = ops.size := by omega
    cases fuel with
    | zero => rfl
    | succ fuel =>
      simp only [Region.linearise.go]
      have : (List.range ops.size).filter (fun i => !(lst ops.size ops.size).getD i true && ((ops[i]?).map (·.after.all fun e => !Region.binds .any e || (lst ops.size ops.size).getD e.on false)).getD false) = [] := hz
      rw [this]; rfl
  | succ k ih =>
    intro i fuel t hi hk hf
    cases fuel with
    | zero => omega
    | succ fuel =>
      have hlt : i < ops.size := by omega
      have h1 := ht i (List.mem_range.2 hlt)
      have hnb : Nat.blt i m = false := by rw [← Bool.not_eq_true, Nat.blt_eq]; omega
      simp only [hnb, Bool.false_or] at h1
      cases ho : ops.toList[i]? with
      | none => simp [ho] at h1
      | some o =>
        simp only [ho, Bool.and_eq_true, beq_iff_eq] at h1
        simp only [Region.linearise.go]
        have : (List.range ops.size).filter (fun j => !(lst ops.size i).getD j true && ((ops[j]?).map (·.after.all fun e => !Region.binds .any e || (lst ops.size i).getD e.on false)).getD false) = [i] := h1.2
        rw [this]
        simp only [List.length_singleton, Nat.mod_one, List.getElem?_cons_zero, Nat.div_one]
        rw [linearise_go_acc, lst_succ _ _ hlt, ih (i + 1) fuel t (by omega) (by omega) (by omega)]
        rfl
theorem trunc {ops : Array Oper} {m : Nat} (hc : tchk ops m = true) {S : World → Prop} {K K' : Env → World → Prop}
    (hk : ∀ ρ w, K' ρ w → ∀ a, Fits N ρ a → wpOps P ops (QK N K) (List.range' m (ops.size - m)) a w) :
    ∀ (fuel t : Nat) (L L' : Array Bool) (a : Act) (w : World), L.size = ops.size → (∀ t, m ≤ t → t < ops.size → L[t]? = some false) → L'.size = m → (∀ i, i < m → L'[i]? = L[i]?) →
      wpAnyH P .any (pre ops m) (QK N K') S fuel L' a w → wpOps P ops (QK N K) (Region.linearise.go .any ops (fuel + (ops.size - m)) t L []) a w := by
  have hc0 := hc
  simp only [tchk, Bool.and_eq_true, List.all_eq_true, beq_iff_eq] at hc
  obtain ⟨⟨⟨hm, hp⟩, ht⟩, hz⟩ := hc
  have hm : m ≤ ops.size := Nat.le_of_ble_eq_true hm
  have hsz : (pre ops m).size = m := by simp [pre]; omega
  -- which may come up: those ahead are the same in both
  have hready : ∀ (L L' : Array Bool), L.size = ops.size → (∀ t, m ≤ t → t < ops.size → L[t]? = some false) → L'.size = m → (∀ i, i < m → L'[i]? = L[i]?) → (∃ j, j < m ∧ L[j]? = some false) →
      Region.ready .any ops L = Region.ready .any (pre ops m) L' := by
    intro L L' hL hLt hL' hLL hj
    obtain ⟨j, hj, hjf⟩ := hj
    unfold Region.ready
    rw [hsz]
    have hr : List.range ops.size = List.range m ++ List.range' m (ops.size - m) := by
      have := List.range'_append_1 (s := 0) (m := m) (n := ops.size - m)
      rw [Nat.zero_add, show m + (ops.size - m) = ops.size from by omega] at this
      rw [List.range_eq_range', List.range_eq_range']
      exact this.symm
    rw [hr, List.filter_append]
    have h2 : (List.range' m (ops.size - m)).filter (fun i => !L.getD i true && ((ops[i]?).map (·.after.all fun e => !Region.binds .any e || L.getD e.on false)).getD false) = [] := by
      rw [List.filter_eq_nil_iff]
      intro i hi
      simp only [List.mem_range'_1] at hi
      have h1 := ht i (List.mem_range.2 (by omega))
      have hnb : Nat.blt i m = false := by rw [← Bool.not_eq_true, Nat.blt_eq]; omega
      simp only [hnb, Bool.false_or, Array.getElem?_toList] at h1
      cases ho : ops[i]? with
      | none => simp
      | some o =>
        simp only [ho, Bool.and_eq_true, List.all_eq_true, List.any_eq_true] at h1
        obtain ⟨e, he, hon⟩ := h1.1 j (List.mem_range.2 hj)
        have hon1 : e.on = j := Nat.eq_of_beq_eq_true hon.1
        simp only [Option.map_some, Option.getD_some, Bool.and_eq_true, not_and, Bool.not_eq_true]
        intro _
        rw [Bool.eq_false_iff]
        intro hal
        have := Array.all_eq_true_iff_forall_mem.1 hal e (by rwa [← Array.mem_toList_iff])
        rw [hon.2, hon1] at this
        simp [hjf] at this
    rw [h2, List.append_nil]
    apply List.filter_congr
    intro i hi
    have hi := List.mem_range.1 hi
    rw [pre_get hi]
    have hg : ∀ j d, (j < m ∨ m ≤ j ∧ d = false) → L.getD j d = L'.getD j d := by
      intro j d hjd
      rw [Array.getD_eq_getD_getElem?, Array.getD_eq_getD_getElem?]
      rcases hjd with h | ⟨h, rfl⟩
      · rw [hLL j h]
      · rw [Array.getElem?_eq_none (xs := L') (by omega)]
        rcases Nat.lt_or_ge j ops.size with h' | h'
        · rw [hLt j h h']; rfl
        · rw [Array.getElem?_eq_none (by omega)]
    rw [hg i true (.inl hi)]
    congr 3
    funext o
    congr 1
    funext e
    congr 1
    exact hg _ _ ((Nat.lt_or_ge e.on m).imp id fun h => ⟨h, rfl⟩)
  intro fuel
  induction fuel with
  | zero =>
    intro t L L' a w hL hLt hL' hLL h
    by_cases hall : ∃ j, j < m ∧ L[j]? = some false
    · exact absurd h.1 (by
        obtain ⟨j, hj, hjf, hmin⟩ : ∃ j, j < m ∧ L[j]? = some false ∧ ∀ i, i < j → L[i]? ≠ some false := by
          obtain ⟨j, hj, hjf⟩ := hall
          induction j using Nat.strongRecOn with
          | _ j ih =>
            by_cases hex : ∃ i, i < j ∧ L[i]? = some false
            · obtain ⟨i, hi, hif⟩ := hex; exact ih i hi (by omega) hif
            · exact ⟨j, hj, hjf, fun i hi e => hex ⟨i, hi, e⟩⟩
        intro e
        have : j ∈ Region.ready .any (pre ops m) L' := by
          rw [mem_ready]
          have hpj := hp j (List.mem_range.2 hj)
          simp only [Array.getElem?_toList] at hpj
          cases ho : ops[j]? with
          | none => simp [ho] at hpj
          | some o =>
            simp only [ho, Bool.and_eq_true, List.all_eq_true, Bool.or_eq_true, Bool.not_eq_true'] at hpj
            refine ⟨by rw [Array.getD_eq_getD_getElem?, hLL j hj, hjf]; rfl, o, by rw [pre_get hj, ho], fun e he hb => ?_⟩
            have hlt : e.on < j := by
              have := (hpj.1 e (by rwa [Array.mem_toList_iff])).resolve_left (by simp [hb])
              rwa [Nat.blt_eq] at this
            rw [Array.getD_eq_getD_getElem?, hLL _ (by omega)]
            have hne := hmin _ hlt
            cases hx : L[e.on]? with
            | none => rw [Array.getElem?_eq_none_iff] at hx; omega
            | some x => cases x <;> simp_all
        rw [e] at this; cases this)
    · obtain ⟨ρ, hf, hK⟩ := h.2
      have hLe : L = lst ops.size m := by
        apply Array.ext
        · simp [lst, hL]
        · intro i h1 h2
          simp only [lst, List.getElem_toArray, List.getElem_map, List.getElem_range]
          by_cases hi : i < m
          · have hne : L[i]? ≠ some false := fun e => hall ⟨i, hi, e⟩
            rw [Array.getElem?_eq_getElem h1] at hne
            cases hx : L[i] <;> simp_all
          · have := hLt i (by omega) (by omega)
            rw [Array.getElem?_eq_getElem h1] at this
            simp_all
      rw [hLe, lin_tail hc0 (ops.size - m) m _ t (Nat.le_refl _) (by omega) (by omega)]
      exact hk ρ w hK a hf
  | succ fuel ih =>
    intro t L L' a w hL hLt hL' hLL h
    by_cases hall : ∃ j, j < m ∧ L[j]? = some false
    · have hr := hready L L' hL hLt hL' hLL hall
      rw [show fuel + 1 + (ops.size - m) = (fuel + (ops.size - m)) + 1 from by omega]
      simp only [Region.linearise.go]
      change wpOps P ops (QK N K) (match (Region.ready .any ops L)[t % (Region.ready .any ops L).length]? with
        | some i => Region.linearise.go .any ops (fuel + (ops.size - m)) (t / (Region.ready .any ops L).length) (L.setIfInBounds i true) [i]
        | none => [].reverse) a w
      rw [hr]
      have hne : Region.ready .any (pre ops m) L' ≠ [] := by
        obtain ⟨j, hj, hjf, hmin⟩ : ∃ j, j < m ∧ L[j]? = some false ∧ ∀ i, i < j → L[i]? ≠ some false := by
          obtain ⟨j, hj, hjf⟩ := hall
          induction j using Nat.strongRecOn with
          | _ j ih =>
            by_cases hex : ∃ i, i < j ∧ L[i]? = some false
            · obtain ⟨i, hi, hif⟩ := hex; exact ih i hi (by omega) hif
            · exact ⟨j, hj, hjf, fun i hi e => hex ⟨i, hi, e⟩⟩
        intro e
        have : j ∈ Region.ready .any (pre ops m) L' := by
          rw [mem_ready]
          have hpj := hp j (List.mem_range.2 hj)
          simp only [Array.getElem?_toList] at hpj
          cases ho : ops[j]? with
          | none => simp [ho] at hpj
          | some o =>
            simp only [ho, Bool.and_eq_true, List.all_eq_true, Bool.or_eq_true, Bool.not_eq_true'] at hpj
            refine ⟨by rw [Array.getD_eq_getD_getElem?, hLL j hj, hjf]; rfl, o, by rw [pre_get hj, ho], fun e he hb => ?_⟩
            have hlt : e.on < j := by
              have := (hpj.1 e (by rwa [Array.mem_toList_iff])).resolve_left (by simp [hb])
              rwa [Nat.blt_eq] at this
            rw [Array.getD_eq_getD_getElem?, hLL _ (by omega)]
            have hne := hmin _ hlt
            cases hx : L[e.on]? with
            | none => rw [Array.getElem?_eq_none_iff] at hx; omega
            | some x => cases x <;> simp_all
        rw [e] at this; cases this
      have hlen : 0 < (Region.ready .any (pre ops m) L').length := List.length_pos_iff.2 hne
      have hlt := Nat.mod_lt t hlen
      obtain ⟨i, hi⟩ : ∃ i, (Region.ready .any (pre ops m) L')[t % (Region.ready .any (pre ops m) L').length]? = some i := ⟨_, List.getElem?_eq_getElem hlt⟩
      rw [hi]
      simp only []
      have hmem := List.mem_of_getElem? hi
      rw [linearise_go_acc, List.reverse_singleton, List.singleton_append, wpOps_cons]
      have hw := h.2 i hmem
      obtain ⟨_, o, ho, _⟩ := mem_ready.1 hmem
      have him : i < m := by
        have := (Array.getElem?_eq_some_iff.1 ho).1
        omega
      have ho' := ho
      rw [pre_get him] at ho'
      have hpi := hp i (List.mem_range.2 him)
      simp only [Array.getElem?_toList, ho', Bool.and_eq_true] at hpi
      have hwant : Region.wanted o (yielded (pre ops m) a.tmps) = Region.wanted o (yielded ops a.tmps) := by
        unfold Region.wanted
        cases hg : o.guard with
        | none => rfl
        | some p =>
          obtain ⟨j, want⟩ := p
          have hjm : j < m := by have := hpi.2; rw [hg] at this; simpa [Nat.blt_eq] using this
          simp only [yielded, pre_get hjm]
      unfold wpOp at hw ⊢
      simp only [ho, ho', hwant] at hw ⊢
      have next : ∀ a' w', S w' ∧ wpAnyH P .any (pre ops m) (QK N K') S fuel (L'.setIfInBounds i true) a' w' →
          wpOps P ops (QK N K) (Region.linearise.go .any ops (fuel + (ops.size - m)) (t / (Region.ready .any (pre ops m) L').length) (L.setIfInBounds i true) []) a' w' := by
        intro a' w' h'
        refine ih _ _ _ a' w' (by simp [hL]) (fun t h1 h2 => ?_) (by simp [hL']) (fun x hx => ?_) h'.2
        · rw [Array.getElem?_setIfInBounds_ne (by omega)]; exact hLt t h1 h2
        · by_cases hxi : i = x
          · subst hxi
            rw [Array.getElem?_setIfInBounds_self_of_lt (by omega), Array.getElem?_setIfInBounds_self_of_lt (by omega)]
          · rw [Array.getElem?_setIfInBounds_ne hxi, Array.getElem?_setIfInBounds_ne hxi]; exact hLL x hx
      split
      · rename_i hwt
        simp only [hwt, if_true] at hw
        rcases hw with hw | ⟨_, a0, w0, hl⟩
        · refine .inl ?_
          unfold Oper.wp at hw ⊢
          generalize (execOp a.eval o).run P w = r at hw ⊢
          cases r with
          | ok x w' =>
            cases x <;> simp only [Oper.upon] at hw ⊢ <;>
              first
                | exact next _ _ hw
                | exact Calls.mono hw (fun e w'' he => by
                    cases e with
                    | returned v => exact next _ _ he
                    | panicked c => exact he.elim
                    | outgrown => obtain ⟨_, _, h⟩ := he; exact h.elim)
                | exact Rows.mono hw (fun _ _ he => next _ _ he)
          | halt x w' => cases x <;> simp only [Oper.upon] at hw ⊢ <;> exact hw
        · exact hl.elim
      · rename_i hwt
        simp only [hwt] at hw
        exact next _ _ hw
    · have hQ : ∃ ρ, Fits N ρ a ∧ K' ρ w := by
        refine h.1 ?_
        cases hr : Region.ready .any (pre ops m) L' with
        | nil => rfl
        | cons i rs =>
          have hmem : i ∈ Region.ready .any (pre ops m) L' := by rw [hr]; exact List.mem_cons_self ..
          obtain ⟨h0, o, ho, _⟩ := mem_ready.1 hmem
          have him : i < m := by have := (Array.getElem?_eq_some_iff.1 ho).1; omega
          rw [Array.getD_eq_getD_getElem?, hLL i him] at h0
          exfalso
          refine hall ⟨i, him, ?_⟩
          cases hx : L[i]? with
          | none => simp [hx] at h0
          | some x => simp [hx] at h0; rw [h0]
      obtain ⟨ρ, hf, hK⟩ := hQ
      have hLe : L = lst ops.size m := by
        apply Array.ext
        · simp [lst, hL]
        · intro i h1 h2
          simp only [lst, List.getElem_toArray, List.getElem_map, List.getElem_range]
          by_cases hi : i < m
          · have hne : L[i]? ≠ some false := fun e => hall ⟨i, hi, e⟩
            rw [Array.getElem?_eq_getElem h1] at hne
            cases hx : L[i] <;> simp_all
          · have := hLt i (by omega) (by omega)
            rw [Array.getElem?_eq_getElem h1] at this
            simp_all
      rw [hLe, lin_tail hc0 (ops.size - m) m _ t (Nat.le_refl _) (by omega) (by omega)]
      exact hk ρ w hK a hf
end
section
variable {P : Program} [lc : LC P] {N : Nat} {ops : Array Oper} {K : Env → World → Prop} {ρ : Env} {w w0 : World} {D I J : Nat → Prop} {M : List Rs} {F : Pf} {Q : Ex → Env → World → Prop}
theorem tail_map (ops : Array Oper) (m : Nat) : (List.range' m (ops.size - m)).map (fun i => ops[i]?) = (ops.toList.drop m).map some := by
  apply List.ext_getElem
  · simp
  · intro i h1 h2
    simp at h1
    simp [show m + i < ops.size from by omega]
/-- A region in any row: first the m operations that draw their order, here taken in the row 'ord', then the others in their row. In the region no block outside E is written. -/
theorem drt [Stab F] {id : Nat} (E : Nat → Prop) (m : Nat) (ord : Tr) (hs : St D I w0 J M F w)
    (k : ∀ w, St D I w0 J M F w → Wa P N (pre ops m) E w (pickO (ops.toList.take m) ord) (fun ρ w => Wl P N ops (ops.toList.drop m) (Q .nor) ρ w) ρ w)
    (hq : (tchk ops m && Region.noSelect (pre ops m) && dokL (pre ops m) [] ord && Nat.beq (ordN ord) m) = true := by kernel_rfl) : C P N (.region id ops true) Q ρ w := by
  simp only [Bool.and_eq_true] at hq
  intro a hf
  have hm : m ≤ ops.size := by
    have := hq.1.1.1
    simp only [tchk, Bool.and_eq_true] at this
    exact Nat.le_of_ble_eq_true this.1.1.1
  have hsz : (pre ops m).size = m := by simp [pre]; omega
  have hx : Below w.heap.size w { w with drawn := w.drawn + 1 } := ⟨rfl, rfl, rfl, Nat.le_refl _, fun _ _ => rfl⟩
  have h := k _ (hs.xt hx) hq.1.1.2 (Sx.refl _) [] ord hq.1.2 rfl a hf
  rw [lsd_nil, hsz, Nat.eq_of_beq_eq_true hq.2] at h
  refine wp_mono (Q := QK N (Q .nor)) (wp_region_draw fun t => ?_) ?_
  · simp only [Region.schedule, lc.mix, Bool.true_or, if_true]
    have := trunc (P := P) (N := N) hq.1.1.1 (K := Q .nor) (fun ρ w hK a hf => hK _ (tail_map ops m) a hf) m t (Array.replicate ops.size false) (Array.replicate m false) a _ (by simp) (fun t h1 h2 => by simp [h2]) (by simp) (fun i hi => by simp [hi, show i < ops.size from by omega]) h
    unfold Region.linearise
    rwa [show m + (ops.size - m) = ops.size from by omega] at this
  · intro e a w h
    cases e with
    | normal => exact h
    | _ => exact h.elim
theorem dro [Stab F] {id : Nat} (E : Nat → Prop) (m : Nat) (ord : List Nat) (hs : St D I w0 J M F w)
    (k : ∀ w, St D I w0 J M F w → Wa P N (pre ops m) E w (pickO (ops.toList.take m) (Tr.of ord)) (fun ρ w => Wl P N ops (ops.toList.drop m) (Q .nor) ρ w) ρ w)
    (hq : (tchk ops m && Region.noSelect (pre ops m) && dokL (pre ops m) [] (Tr.of ord) && Nat.beq (ordN (Tr.of ord)) m) = true := by kernel_rfl) : C P N (.region id ops true) Q ρ w := drt E m (Tr.of ord) hs k hq
end
end Bo
namespace Bo
open Go Go.RowKit
section
variable {P : Program} [lc : LC P] {N : Nat} {ops : Array Oper} {o : Oper} {os os' : List Oper} {qs qs' qs2 : Ob} {E : Nat → Prop} {K : Env → World → Prop} {ρ ρ' : Env} {w w0 ws : World} {D I J : Nat → Prop} {M : List Rs} {F : Pf}
/-- Some operations that only reckon. -/
def pdr (L : Lay) (N : Nat) (ops : Array Oper) : Nat → Ob → Env → Option (Ob × Env)
  | 0, os, ρ => some (os, ρ)
  | n + 1, .q o os, ρ =>
    match wantE ops ρ o with
    | true => match po L ρ o.op with
      | some v => pdr L N ops n os (updo N ρ o.dst v)
      | none => none
    | false => pdr L N ops n os (updo N ρ o.dst undef)
  | n + 1, .e o os, ρ =>
    match wantE ops ρ o with
    | true => none
    | false => pdr L N ops n os (updo N ρ o.dst undef)
  | _ + 1, _, _ => none
theorem dp (n : Nat) (h : pdr lc.L N ops n qs ρ = some (qs', ρ')) (k : Wa P N ops E ws qs' K ρ' w) : Wa P N ops E ws qs K ρ w := by
  induction n generalizing qs ρ with
  | zero => simp only [pdr] at h; cases h; exact k
  | succ n ih =>
    cases qs with
    | z => simp [pdr] at h
    | q o os =>
      simp only [pdr] at h
      split at h
      · rename_i hw
        split at h
        · rename_i v hv
          exact Wa.q hw (fun _ w' _ => po_sound lc.ok hv w') (ih h)
        · cases h
      · rename_i hw
        exact Wa.no hw (ih h)
    | e o os =>
      simp only [pdr] at h
      split at h
      · cases h
      · rename_i hw
        exact Wa.noe hw (ih h)
    | p o o' os => simp [pdr] at h
    | a o os o' os2 => simp [pdr] at h
theorem arq_po {n : Int} (h : arq lc.L ops ρ o = some n) (hr : -9223372036854775808 ≤ n ∧ n ≤ 9223372036854775807) : wantE ops ρ o = true ∧ po lc.L ρ o.op = some (.int .i64 n) := by
  unfold arq at h
  split at h
  · rename_i hw
    split at h
    · rename_i op T x y T' ho
      have : poBin (kdo lc.L T) op (ev ρ x) (ev ρ y) = some (.int .i64 n) := by
        split at h <;> first | (cases h; done) | (rename_i hx hy; cases h; simp [hx, hy, poBin, poInt, wrap_i64 hr])
      exact ⟨hw, by rw [ho]; exact this⟩
    · rename_i T x ho
      have : po lc.L ρ (.unOp .neg T x) = some (.int .i64 n) := by
        split at h
        · rename_i hx; cases h; simp [po, hx, wrap_i64 hr]
        · cases h
      exact ⟨hw, by rw [ho]; exact this⟩
    · rename_i s d x ho
      have : po lc.L ρ (.convert s d x) = some (.int .i64 n) := by
        split at h
        · rename_i h1 h2 hx; cases h; simp [po, hx, h1, h2, wrap_i64 hr]
        · cases h
      exact ⟨hw, by rw [ho]; exact this⟩
    · cases h
  · cases h
theorem da {n : Int} (h : arq lc.L ops ρ o = some n) (hr : -9223372036854775808 ≤ n ∧ n ≤ 9223372036854775807) (k : Wa P N ops E ws qs K (updo N ρ o.dst (.int .i64 n)) w) : Wa P N ops E ws (.q o qs) K ρ w :=
  have h' := arq_po (P := P) h hr
  Wa.q h'.1 (fun _ w' _ => po_sound lc.ok h'.2 w') k
theorem ddv {x y : Int} (h : dvq ops ρ o = some (true, x, y)) (h0 : y ≠ 0) (hr : -9223372036854775808 ≤ x.tdiv y ∧ x.tdiv y ≤ 9223372036854775807) (k : Wa P N ops E ws qs K (updo N ρ o.dst (.int .i64 (x.tdiv y))) w) : Wa P N ops E ws (.q o qs) K ρ w := by
  unfold dvq at h
  split at h <;> try (cases h; done)
  rename_i hw
  split at h <;> try (cases h; done)
  rename_i op T x' y' T' ho
  split at h <;> try (cases h; done)
  rename_i hx hy
  cases h
  exact Wa.q hw (fun _ w' _ => by simp [execOp, ho, hx, hy, eqGuard, binOp, Op.intDiv, h0, wrap_i64 hr]) k
theorem drm {x y : Int} (h : dvq ops ρ o = some (false, x, y)) (h0 : y ≠ 0) (k : Wa P N ops E ws qs K (updo N ρ o.dst (.int .i64 (x.tmod y))) w) : Wa P N ops E ws (.q o qs) K ρ w := by
  unfold dvq at h
  split at h <;> try (cases h; done)
  rename_i hw
  split at h <;> try (cases h; done)
  rename_i op T x' y' T' ho
  split at h <;> try (cases h; done)
  rename_i hx hy
  cases h
  exact Wa.q hw (fun _ w' _ => by simp [execOp, ho, hx, hy, eqGuard, binOp, Op.intDiv, h0]) k
theorem ld1_run {b off : Nat} {v : Value} (h : ldq lc.L ops ρ o = some (b, off, none)) (hc : w.cell? ⟨b, off, none⟩ = some v) : (execOp (ev ρ) o).run P w = .ok (.value v) w := by
  obtain ⟨_, T, he, ha, _⟩ := ldq_run (P := P) (cs := []) h
  rw [he]; simp [loadVar, ha, load, Sem.run, hc]
theorem ldn_run {b off n : Nat} {cs : List Value} (h : ldq lc.L ops ρ o = some (b, off, some n)) (hl : cs.length = n) (hc : ∀ j v, cs[j]? = some v → w.cell? ⟨b, off + j, none⟩ = some v) : (execOp (ev ρ) o).run P w = .ok (.value (.agg cs.toArray)) w := by
  obtain ⟨_, T, he, ha, hs⟩ := ldq_run (P := P) (cs := []) h
  rw [he]; simp [loadVar, ha, hs n w rfl, loadCells, run_loadCells (P := P) ⟨b, off, none⟩ cs #[] 0 hl (fun j v hj => by rw [add_n, Nat.zero_add]; exact hc j v hj)]
theorem dlc {b off : Nat} {v : Value} (h : ldq lc.L ops ρ o = some (b, off, none)) (hc : ws.cell? ⟨b, off, none⟩ = some v)
    (k : Wa P N ops E ws qs K (updo N ρ o.dst v) w) (he : ¬ E b := by exact id) : Wa P N ops E ws (.q o qs) K ρ w :=
  Wa.q (ldq_run (P := P) (cs := []) h).1 (fun _ w' hS => ld1_run h (hS.cell he hc)) k
theorem dl {b off : Nat} {T : TypeId} {cs : List Value} {v : Value} (h : ldq lc.L ops ρ o = some (b, off, none)) (hb : Bk ws b T cs) (hv : cs[off]? = some v)
    (k : Wa P N ops E ws qs K (updo N ρ o.dst v) w) (he : ¬ E b := by exact id) : Wa P N ops E ws (.q o qs) K ρ w := dlc h (by rw [hb.cell]; exact hv) k he
theorem dla {b off n : Nat} {cs : List Value} (h : ldq lc.L ops ρ o = some (b, off, some n)) (ha : At b off cs J ws) (hl : cs.length = n)
    (k : Wa P N ops E ws qs K (updo N ρ o.dst (.agg cs.toArray)) w) (he : ¬ E b := by exact id) : Wa P N ops E ws (.q o qs) K ρ w :=
  Wa.q (ldq_run (P := P) (cs := []) h).1 (fun _ w' hS => ldn_run h hl fun j v hj => hS.cell he (ha.2.2 j v hj)) k
theorem dln {b off n : Nat} {T : TypeId} {cs : List Value} (cs' : List Value) (h : ldq lc.L ops ρ o = some (b, off, some n)) (hb : Bk ws b T cs) (hl : cs'.length = n) (hv : (cs.drop off).take n = cs')
    (k : Wa P N ops E ws qs K (updo N ρ o.dst (.agg cs'.toArray)) w) (he : ¬ E b := by exact id) : Wa P N ops E ws (.q o qs) K ρ w :=
  Wa.q (ldq_run (P := P) (cs := []) h).1 (fun _ w' hS => ldn_run h hl fun j v hj => hS.cell he (by
    rw [hb.cell, ← hj, ← hv, List.getElem?_take, List.getElem?_drop, if_pos]
    have := (List.getElem?_eq_some_iff.1 hj).1
    omega)) k
/-- A test that parts the ways. -/
theorem Wa.nm (t : Nat) {v : Value} (hv : ρ t = v) (k : Wa P N ops E ws qs K (upd N ρ t v) w) : Wa P N ops E ws qs K ρ w := by
  rwa [upd_same hv] at k
theorem gs (t : Nat) {b : Bool} (h : nf (ρ t) = some (.bool b)) (h1 : b = true → Wl P N ops os K (upd N ρ t (.bool true)) w) (h2 : b = false → Wl P N ops os K (upd N ρ t (.bool false)) w) : Wl P N ops os K ρ w := by
  have h := nf_of h
  cases b
  · exact Wl.nm t h (h2 rfl)
  · exact Wl.nm t h (h1 rfl)
theorem gd (t : Nat) {p : Prop} {d : Decidable p} (h : nf (ρ t) = some (.bool (@decide p d))) (h1 : p → Wl P N ops os K (upd N ρ t (.bool true)) w) (h2 : ¬ p → Wl P N ops os K (upd N ρ t (.bool false)) w) : Wl P N ops os K ρ w :=
  gs t h (fun e => h1 (of_decide_eq_true e)) (fun e => h2 (of_decide_eq_false e))
theorem dgs (t : Nat) {b : Bool} (h : nf (ρ t) = some (.bool b)) (h1 : b = true → Wa P N ops E ws qs K (upd N ρ t (.bool true)) w) (h2 : b = false → Wa P N ops E ws qs K (upd N ρ t (.bool false)) w) : Wa P N ops E ws qs K ρ w := by
  have h := nf_of h
  cases b
  · exact Wa.nm t h (h2 rfl)
  · exact Wa.nm t h (h1 rfl)
theorem dgd (t : Nat) {p : Prop} {d : Decidable p} (h : nf (ρ t) = some (.bool (@decide p d))) (h1 : p → Wa P N ops E ws qs K (upd N ρ t (.bool true)) w) (h2 : ¬ p → Wa P N ops E ws qs K (upd N ρ t (.bool false)) w) : Wa P N ops E ws qs K ρ w :=
  dgs t h (fun e => h1 (of_decide_eq_true e)) (fun e => h2 (of_decide_eq_false e))
theorem dc {f : FuncId} {args : List Value} {α : Type} {val : α → Value} {G : α → Pf} [∀ x, Stab (G x)] [Stab F] (h : callq ops ρ o = some (f, args)) (hs : St D I w0 J M F w)
    (hc : Ct P f args.toArray J w val G)
    (k : ∀ x w, St D I w0 J M (fun J w => G x J w ∧ F J w) w → Wa P N ops E ws qs K (updo N ρ o.dst (val x)) w) : Wa P N ops E ws (.e o qs) K ρ w := by
  intro hn hS
  have h' := OpR.call (P := P) (w := w) h (R := fun v w' => Sx E ws w' ∧ Wa P N ops E ws qs K (updo N ρ o.dst v) w') (Fn.mono hc fun v w' ⟨x, e, hb, g⟩ => by rw [e]; exact ⟨hS.below hb, k x w' ((hs.xt hb).got hb hs g)⟩)
  exact Wa.e h'.1 h'.2 hn hS
theorem dc0 {f : FuncId} {args : List Value} {v : Value} [Stab F] (h : callq ops ρ o = some (f, args)) (hs : St D I w0 J M F w)
    (hc : Ct P f args.toArray J w (fun _ : Unit => v) (fun _ _ _ => True))
    (k : ∀ w, St D I w0 J M F w → Wa P N ops E ws qs K (updo N ρ o.dst v) w) : Wa P N ops E ws (.e o qs) K ρ w := by
  intro hn hS
  have h' := OpR.call (P := P) (w := w) h (R := fun v w' => Sx E ws w' ∧ Wa P N ops E ws qs K (updo N ρ o.dst v) w') (Fn.mono hc fun v w' ⟨x, e, hb, g⟩ => by rw [e]; exact ⟨hS.below hb, k w' (hs.xt hb)⟩)
  exact Wa.e h'.1 h'.2 hn hS
theorem dcr {f : FuncId} {args : List Value} {v : Value} [Stab F] (h : callq ops ρ o = some (f, args)) (hs : St D I w0 J M F w)
    (hc : Ct P f args.toArray (fun _ => True) w (fun _ : Unit => v) (fun _ _ _ => True))
    (k : ∀ w, St D I w0 J M F w → Wa P N ops E ws qs K (updo N ρ o.dst v) w) : Wa P N ops E ws (.e o qs) K ρ w := by
  intro hn hS
  have h' := OpR.call (P := P) (w := w) h (R := fun v w' => Sx E ws w' ∧ Wa P N ops E ws qs K (updo N ρ o.dst v) w') (Fn.mono hc fun v w' ⟨x, e, hb, g⟩ => by rw [e]; exact ⟨hS.below hb, k w' (hs.xt hb)⟩)
  exact Wa.e h'.1 h'.2 hn hS
/-- A call that may write some of what is the call's own. -/
theorem dcm {f : FuncId} {args : List Value} {α : Type} {val : α → Value} {Mc R : List Rs} {M' : α → List Rs} {G : α → Pf} [∀ x, Stab (G x)] [Stab F] (h : callq ops ρ o = some (f, args)) (hs : St D I w0 J M F w)
    (hc : Cm P f args.toArray J w Mc val M' G) (hM : M = Mc ++ R) (he : ∀ b, fpD Mc b → E b)
    (k : ∀ x J w, St D I w0 J (M' x ++ R) (fun J w => G x J w ∧ F J w) w → Wa P N ops E ws qs K (updo N ρ o.dst (val x)) w) : Wa P N ops E ws (.e o qs) K ρ w := by
  subst hM
  intro hn hS
  have h' := OpR.call (P := P) (w := w) h (R := fun v w' => Sx E ws w' ∧ Wa P N ops E ws qs K (updo N ρ o.dst v) w') (Fn.mono hc fun v w' ⟨x, e, J', g⟩ => by rw [e]; exact ⟨hS.mod g.b fun b _ hb => he b hb, k x _ w' (hs.call g)⟩)
  exact Wa.e h'.1 h'.2 hn hS
/-- The place of an element. -/
theorem dix {a : Option Addr} {n sz c : Nat} {i : Int} {css : List (List Value)} {cs : List Value} (h : ixq lc.L ops ρ o = some (a, n, i, sz)) (hr : Rc sz a c css J ws) (h0 : 0 ≤ i) (hn : n = css.length) (hi : css[i.toNat]? = some cs)
    (k : ∀ b off, At b off cs J ws → Wa P N ops E ws qs K (updo N ρ o.dst (.pointer (some ⟨b, off, none⟩))) w) : Wa P N ops E ws (.q o qs) K ρ w := by
  obtain ⟨b, off, ha, hat⟩ := hr.at hi
  have hlt := (List.getElem?_eq_some_iff.1 hi).1
  have hv : ∀ w', wantE ops ρ o = true ∧ (execOp (ev ρ) o).run P w' = .ok (.value (.pointer (some ⟨b, off + i.toNat * sz, none⟩))) w' := fun w' => ixq_run h h0 (by omega) ha w'
  exact Wa.q (hv w).1 (fun _ w' _ => (hv w').2) (k b _ hat)
theorem dixn (i : Nat) {a : Option Addr} {n sz c : Nat} {css : List (List Value)} {cs : List Value} (h : ixq lc.L ops ρ o = some (a, n, (i : Int), sz)) (hr : Rc sz a c css J ws) (hn : n = css.length) (hi : css[i]? = some cs)
    (k : ∀ b off, At b off cs J ws → Wa P N ops E ws qs K (updo N ρ o.dst (.pointer (some ⟨b, off, none⟩))) w) : Wa P N ops E ws (.q o qs) K ρ w :=
  dix h hr (by omega) hn (by simpa using hi) k
theorem dl1 (j : Nat) {b off off' : Nat} {cs : List Value} {v : Value} (h : ldq lc.L ops ρ o = some (b, off', none)) (ha : At b off cs J ws) (hj : off' = off + j) (hv : cs[j]? = some v)
    (k : Wa P N ops E ws qs K (updo N ρ o.dst v) w) (he : ¬ E b := by exact id) : Wa P N ops E ws (.q o qs) K ρ w :=
  dlc h (by rw [hj]; exact ha.2.2 j v hv) k he
/-! ### Cutting -/
/-- What is known between two pieces. -/
theorem sc {x y : Code} {Q : Ex → Env → World → Prop} (A : Env → World → Prop) (h1 : C P N x (th A Q) ρ w) (h2 : ∀ ρ w, A ρ w → C P N y Q ρ w) : C P N (.seq x y) Q ρ w :=
  C.seq (C.mono h1 fun e ρ w h => by cases e <;> first | exact h2 _ _ h | exact h)
end
end Bo
