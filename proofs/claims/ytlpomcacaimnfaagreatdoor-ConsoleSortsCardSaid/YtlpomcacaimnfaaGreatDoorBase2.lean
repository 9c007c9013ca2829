/- Lemmas for the statements of this seat: how the code of the program runs, function by function; no condition beyond what each states. -/
import Derived.Laws.CopyRow
import Derived.Laws.OwnMore
import Derived.Lib.AppendStr
import Derived.Test.YtlpomcacaimnfaaGreatDoorBase1
set_option linter.unusedVariables false
set_option linter.unusedSectionVars false
set_option linter.unusedSimpArgs false
namespace Bo
open Go Go.RowKit

/-! ### Literals -/
def spl (zs : List Value) (off : Nat) (cs : List Value) : List Value := zs.take off ++ (cs ++ zs.drop (off + cs.length))
theorem spl_length {zs cs : List Value} {off : Nat} (h : off + cs.length ≤ zs.length) : (spl zs off cs).length = zs.length := by
  simp [spl]; omega
theorem spl_get {zs cs : List Value} {off : Nat} (h : off + cs.length ≤ zs.length) (i : Nat) :
    (spl zs off cs)[i]? = if off ≤ i ∧ i < off + cs.length then cs[i - off]? else zs[i]? := by
  unfold spl
  by_cases h1 : i < off
  · rw [List.getElem?_append_left (by simp; omega), List.getElem?_take_of_lt h1, if_neg (by omega)]
  · rw [List.getElem?_append_right (by simp; omega)]
    simp only [List.length_take, Nat.min_eq_left (show off ≤ zs.length by omega)]
    by_cases h2 : i < off + cs.length
    · rw [List.getElem?_append_left (by omega), if_pos ⟨by omega, h2⟩]
    · rw [List.getElem?_append_right (by omega), List.getElem?_drop, if_neg (by omega)]
      congr 1; omega
theorem foldl_set (cs : List Value) (off k : Nat) (a : Array Value) (h : off + k + cs.length ≤ a.size) :
    ((cs.zipIdx k).foldl (fun (a : Array Value) (x : Value × Nat) => a.setIfInBounds (off + x.2) x.1) a).toList = spl a.toList (off + k) cs := by
  induction cs generalizing k a with
  | nil => simp [spl]
  | cons c cs ih =>
    simp only [List.zipIdx_cons, List.foldl_cons]
    simp only [List.length_cons] at h
    rw [ih (k + 1) _ (by simp; omega)]
    apply List.ext_getElem?
    intro i
    rw [spl_get (by simp; omega), spl_get (by simp; omega)]
    simp only [Array.toList_setIfInBounds, List.getElem?_set, List.length_cons, Array.length_toList]
    by_cases h1 : off + (k + 1) ≤ i ∧ i < off + (k + 1) + cs.length
    · rw [if_pos h1, if_pos (by omega)]
      rw [show i - (off + k) = (i - (off + (k + 1))) + 1 from by omega]; rfl
    · rw [if_neg h1]
      by_cases h2 : off + k = i
      · rw [if_pos h2, if_pos (by omega), if_pos (by omega), ← h2]; simp
      · rw [if_neg h2, if_neg (by omega)]
def fillL (place : Nat → Option (Nat × Nat)) : List (Nat × List Value) → List Value → Option (List Value)
  | [], zs => some zs
  | (i, cs) :: r, zs =>
    match place i with
    | some (off, sz) => if Nat.beq cs.length sz && Nat.ble (off + cs.length) zs.length then fillL place r (spl zs off cs) else none
    | none => none
theorem fill_sound {place place' : Nat → Option (Nat × Nat)} (hp : ∀ i r, place i = some r → place' i = some r) (ps : List (Nat × Value)) (zs : Array Value) {cs : List Value} (h : fillL place (ps.map fun x => (x.1, x.2.cells.toList)) zs.toList = some cs) :
    Instr.fill place' zs ps = some cs.toArray := by
  induction ps generalizing zs with
  | nil => simp only [List.map_nil, fillL, Option.some.injEq] at h; simp [Instr.fill, ← h]
  | cons p ps ih =>
    obtain ⟨i, v⟩ := p
    simp only [List.map_cons, fillL] at h
    split at h <;> try (cases h; done)
    rename_i off sz hpl
    split at h <;> try (cases h; done)
    rename_i hc
    simp only [Bool.and_eq_true, Array.length_toList] at hc
    have h1 : v.cells.size = sz := Nat.eq_of_beq_eq_true hc.1
    have h2 : off + v.cells.size ≤ zs.size := Nat.le_of_ble_eq_true hc.2
    simp only [Instr.fill, hp _ _ hpl]
    rw [if_neg (by simp [h1]; omega)]
    apply ih
    rw [← h]
    congr 1
    have := foldl_set v.cells.toList off 0 zs (by simpa using h2)
    rw [Nat.add_zero] at this
    rw [← this]
    congr 1
    rw [← Array.foldl_toList]
    simp [Array.toList_zipIdx]
section
variable {P : Program} [lc : LC P] {N : Nat} {ops : Array Oper} {o : Oper} {os os' : List Oper} {qs qs2 : Ob} {E : Nat → Prop} {K : Env → World → Prop} {ρ ρ' : Env} {w w0 ws : World} {D I J : Nat → Prop} {M : List Rs} {F : Pf}
def bdq (L : Lay) (ops : Array Oper) (ρ : Env) (o : Oper) : Option (List Value) :=
  match wantE ops ρ o with
  | true =>
    match o.op with
    | .build T parts =>
      match L T with
      | some ti =>
        match ti.kd with
        | .st fs => fillL (fun i => match fs[i]? with | some (off, _, sz) => some (off, sz) | none => none) (parts.toList.map fun x => (x.1, (ev ρ x.2).cells.toList)) ti.zero
        | _ => none
      | none => none
    | _ => none
  | false => none
theorem bdq_run {cs : List Value} (h : bdq lc.L ops ρ o = some cs) : wantE ops ρ o = true ∧ qk o.op = true ∧ ∀ w, (execOp (ev ρ) o).run P w = .ok (.value (.agg cs.toArray)) w := by
  unfold bdq at h
  split at h <;> try (cases h; done)
  rename_i hw
  split at h <;> try (cases h; done)
  rename_i T parts ho
  split at h <;> try (cases h; done)
  rename_i ti hT
  split at h <;> try (cases h; done)
  rename_i fs hk
  refine ⟨hw, by rw [ho]; rfl, fun w => ?_⟩
  have hu := (lc.ok T ti hT).und
  rw [hk] at hu
  obtain ⟨Fs, hF, hm, hsome⟩ := hu
  obtain ⟨z, hz, hzc⟩ := (lc.ok T ti hT).zeroValue w
  have hpl : (Fs.mapM (fun f => do pure (f.offset, ← Go.sizeOf f.type) : Field → Sem (Nat × Nat))).run P w = .ok (Fs.map fun f => (f.offset, P.cellsOf f.type)) w := by
    have : ∀ l : List Field, (∀ f ∈ l, (P.info? f.type).isSome = true) → (l.mapM (fun f => do pure (f.offset, ← Go.sizeOf f.type) : Field → Sem (Nat × Nat))).run P w = .ok (l.map fun f => (f.offset, P.cellsOf f.type)) w := by
      intro l hl
      induction l with
      | nil => rfl
      | cons f l ih =>
        obtain ⟨i, hi⟩ := Option.isSome_iff_exists.1 (hl f (List.mem_cons_self ..))
        simp only [List.mapM_cons, Sem.run_bind, Sem.run_pure, Result.andThen_ok, run_sizeOf w hi, ih (fun f hf => hl f (List.mem_cons_of_mem _ hf)), List.map_cons]
    rw [Array.mapM_eq_mapM_toList, map_eq_pure_bind, Sem.run_bind, this _ (fun f hf => List.all_eq_true.1 hsome f hf)]
    simp only [Result.andThen_ok, Sem.run_pure]
    congr 1
    apply Array.ext'; simp
  have hfill := fill_sound (place' := fun i => (Fs.map fun f => (f.offset, P.cellsOf f.type))[i]?) (place := fun i => match fs[i]? with | some (off, _, sz) => some (off, sz) | none => none) (by
    intro i r hr
    rw [← hm] at hr
    simp only [List.getElem?_map, Array.getElem?_toList] at hr
    cases hx : Fs[i]? with
    | none => simp [hx] at hr
    | some f => simp [hx] at hr; simp [hx, hr]) (parts.toList.map fun x => (x.1, ev ρ x.2)) z.cells (cs := cs) (by rw [hzc]; rw [List.map_map]; exact h)
  unfold execOp
  simp only [ho, Instr.build]
  rw [Sem.run_bind, Sem.run_bind, hz]
  simp only [Result.andThen_ok]
  rw [Sem.run_bind, run_underlying hF]
  simp only [Result.andThen_ok]
  rw [Sem.run_bind, hpl]
  simp only [Result.andThen_ok]
  have he : (parts.map fun x => (x.1, ev ρ x.2)).toList = parts.toList.map fun x => (x.1, ev ρ x.2) := by simp
  rw [he, hfill]
  simp
/-- A struct, written out. -/
theorem bd (cs : List Value) (h : bdq lc.L ops ρ o = some cs) (k : Wl P N ops os K (updo N ρ o.dst (.agg cs.toArray)) w) : Wl P N ops (o :: os) K ρ w :=
  have h' := bdq_run (P := P) h
  Wl.op h'.1 (OpR.val (h'.2.2 w) k)
theorem dbd (cs : List Value) (h : bdq lc.L ops ρ o = some cs) (k : Wa P N ops E ws qs K (updo N ρ o.dst (.agg cs.toArray)) w) : Wa P N ops E ws (.q o qs) K ρ w :=
  have h' := bdq_run (P := P) h
  Wa.q h'.1 (fun _ w' _ => h'.2.2 w') k

/-- The cells of a slice's literal: all its elements, in their row. -/
def partsL (sz : Nat) : Nat → List (Nat × List Value) → Option (List (List Value))
  | _, [] => some []
  | i, (j, cs) :: r => if Nat.beq i j && Nat.beq cs.length sz then (partsL sz (i + 1) r).map (cs :: ·) else none
theorem partsL_spec {sz : Nat} {i : Nat} {ps : List (Nat × List Value)} {css : List (List Value)} (h : partsL sz i ps = some css) :
    css.length = ps.length ∧ (∀ cs ∈ css, cs.length = sz) ∧ ps = (css.zipIdx i).map (fun x => (x.2, x.1)) := by
  induction ps generalizing i css with
  | nil => simp only [partsL, Option.some.injEq] at h; subst h; simp
  | cons p ps ih =>
    obtain ⟨j, cs⟩ := p
    simp only [partsL] at h
    split at h <;> try (cases h; done)
    rename_i hc
    simp only [Bool.and_eq_true] at hc
    obtain ⟨r, hr, rfl⟩ := Option.map_eq_some_iff.1 h
    obtain ⟨h1, h2, h3⟩ := ih hr
    refine ⟨by simp [h1], ?_, ?_⟩
    · intro x hx
      rcases List.mem_cons.1 hx with rfl | hx
      · exact Nat.eq_of_beq_eq_true hc.2
      · exact h2 x hx
    · simp only [List.zipIdx_cons, List.map_cons]
      rw [← h3, Nat.eq_of_beq_eq_true hc.1]
theorem flatten_length {sz : Nat} {css : List (List Value)} (h : ∀ cs ∈ css, cs.length = sz) : css.flatten.length = css.length * sz := by
  induction css with
  | nil => simp
  | cons c css ih =>
    simp only [List.flatten_cons, List.length_append, List.length_cons]
    rw [ih (fun x hx => h x (List.mem_cons_of_mem _ hx)), h c (List.mem_cons_self ..), Nat.succ_mul]; omega
theorem flatten_get {sz : Nat} {css : List (List Value)} (h : ∀ cs ∈ css, cs.length = sz) {i : Nat} {cs : List Value} (hi : css[i]? = some cs) {j : Nat} {v : Value} (hj : cs[j]? = some v) :
    css.flatten[i * sz + j]? = some v := by
  induction css generalizing i with
  | nil => simp at hi
  | cons c css ih =>
    have hc := h c (List.mem_cons_self ..)
    cases i with
    | zero =>
      simp only [List.getElem?_cons_zero, Option.some.injEq] at hi
      subst hi
      have := (List.getElem?_eq_some_iff.1 hj).1
      rw [List.flatten_cons, Nat.zero_mul, Nat.zero_add, List.getElem?_append_left (by omega)]; exact hj
    | succ i =>
      simp only [List.getElem?_cons_succ] at hi
      rw [List.flatten_cons, List.getElem?_append_right (by rw [hc, Nat.succ_mul]; omega), hc, show (i + 1) * sz + j - sz = i * sz + j from by rw [Nat.succ_mul]; omega]
      exact ih (fun x hx => h x (List.mem_cons_of_mem _ hx)) hi
theorem fill_all {sz : Nat} (css : List (List Value)) (hs : ∀ cs ∈ css, cs.length = sz) (done : List Value) (i : Nat) (hd : done.length = i * sz) (rest : List Value) (hr : rest.length = css.length * sz) :
    fillL (fun i => some (i * sz, sz)) ((css.zipIdx i).map fun x => (x.2, x.1)) (done ++ rest) = some (done ++ css.flatten) := by
  induction css generalizing i done rest with
  | nil => simp at hr; simp [fillL, hr]
  | cons c css ih =>
    have hc := hs c (List.mem_cons_self ..)
    simp only [List.length_cons, Nat.succ_mul] at hr
    simp only [List.zipIdx_cons, List.map_cons, fillL]
    rw [if_pos (by
      simp only [Bool.and_eq_true]
      exact ⟨by rw [hc]; exact Nat.beq_refl _, Nat.ble_eq_true_of_le (by rw [List.length_append]; omega)⟩)]
    have : spl (done ++ rest) (i * sz) c = (done ++ c) ++ rest.drop sz := by
      unfold spl
      rw [← hd, List.take_append_of_le_length (Nat.le_refl _), List.take_length, hc, List.drop_append]
      simp
    rw [this, ih (fun x hx => hs x (List.mem_cons_of_mem _ hx)) (done ++ c) (i + 1) (by rw [List.length_append, hc, Nat.succ_mul]; omega) _ (by rw [List.length_drop]; omega)]
    simp
def bsq (L : Lay) (ops : Array Oper) (ρ : Env) (o : Oper) : Option (TypeId × Nat × List (List Value)) :=
  match wantE ops ρ o with
  | true =>
    match o.op with
    | .buildSlice T n parts =>
      match kdo L T with
      | some (.sl e) =>
        match L e with
        | some ti =>
          match partsL ti.size 0 (parts.toList.map fun x => (x.1, (ev ρ x.2).cells.toList)) with
          | some css => if Nat.beq css.length n && Nat.ble (n * ti.size) 16777216 && Nat.beq ti.zero.length ti.size then some (e, ti.size, css) else none
          | none => none
        | none => none
      | _ => none
    | _ => none
  | false => none
theorem bsq_run {e sz : Nat} {css : List (List Value)} (h : bsq lc.L ops ρ o = some (e, sz, css)) : wantE ops ρ o = true ∧ qk o.op = false ∧ (∀ cs ∈ css, cs.length = sz) ∧
    ∀ w : World, (execOp (ev ρ) o).run P w = .ok (.value (.slice (some ⟨w.heap.size, 0, none⟩) css.length css.length)) { w with heap := w.heap.push (.cells css.flatten.toArray e) } := by
  unfold bsq at h
  split at h <;> try (cases h; done)
  rename_i hw
  split at h <;> try (cases h; done)
  rename_i T n parts ho
  split at h <;> try (cases h; done)
  rename_i e' hT
  split at h <;> try (cases h; done)
  rename_i ti he
  split at h <;> try (cases h; done)
  rename_i css' hp
  split at h <;> try (cases h; done)
  rename_i hc
  simp only [Option.some.injEq, Prod.mk.injEq] at h
  obtain ⟨rfl, rfl, rfl⟩ := h
  simp only [Bool.and_eq_true] at hc
  have hn : css'.length = n := Nat.eq_of_beq_eq_true hc.1.1
  have hle : n * ti.size ≤ 16777216 := Nat.le_of_ble_eq_true hc.1.2
  have hzl : ti.zero.length = ti.size := Nat.eq_of_beq_eq_true hc.2
  obtain ⟨h1, h2, h3⟩ := partsL_spec hp
  refine ⟨hw, by rw [ho]; rfl, h2, fun w => ?_⟩
  have hu := kdo_ok lc.ok hT
  simp only [KdOk] at hu
  obtain ⟨z, hz, hzc⟩ := (lc.ok _ ti he).zeroValue w
  have hzs : z.cells.size = ti.size := by rw [← hzl, ← hzc, Array.length_toList]
  have key : ∀ zs : Array Value, zs.size = css'.length * ti.size → Instr.fill (fun i => some (i * ti.size, ti.size)) zs (parts.map fun x => (x.1, ev ρ x.2)).toList = some css'.flatten.toArray := by
    intro zs hzs'
    have hf := fill_all css' h2 [] 0 (by simp) zs.toList (by simpa using hzs')
    rw [← h3] at hf
    simp only [List.nil_append] at hf
    rw [show (parts.map fun x => (x.1, ev ρ x.2)).toList = parts.toList.map fun x => (x.1, ev ρ x.2) from by simp]
    exact fill_sound (fun _ _ h => h) (parts.toList.map fun x => (x.1, ev ρ x.2)) zs (by rw [List.map_map]; exact hf)
  unfold execOp
  simp only [ho, Instr.buildSlice]
  rw [Sem.run_bind, Sem.run_bind, run_underlying hu]
  simp only [Result.andThen_ok]
  rw [Sem.run_bind, (lc.ok _ ti he).sizeOf]
  simp only [Result.andThen_ok]
  rw [if_neg (by omega)]
  by_cases h0 : n * ti.size = 0
  · rw [if_pos h0]
    have := key ((Array.range (n * ti.size)).map (#[][· % (#[] : Array Value).size]!)) (by simp [hn])
    simp only [Sem.run_bind, Sem.run_pure, Result.andThen_ok, this, hn]
    simp [newRow, newObj, Sem.run]
  · rw [if_neg h0]
    have := key ((Array.range (n * ti.size)).map (z.cells[· % z.cells.size]!)) (by simp [hn])
    simp only [Sem.run_bind, hz, Sem.run_pure, Result.andThen_ok, this, hn]
    simp [newRow, newObj, Sem.run]
/-- A slice's literal that is never written again. -/
theorem Rc.new [Stab F] {e sz : Nat} {css : List (List Value)} (hl : ∀ cs ∈ css, cs.length = sz) (hs : St D I w0 J M F w) :
    St D I w0 J M (fun J w' => Rc sz (some ⟨w.heap.size, 0, none⟩) css.length css J w' ∧ F J w') { w with heap := w.heap.push (.cells css.flatten.toArray e) } :=
  (hs.xt (below_push w _)).add ⟨Nat.le_refl _, hl, fun _ => ⟨w.heap.size, 0, rfl, hs.fresh (Nat.le_refl _), by simp, fun i cs hi j v hj => by
    rw [(Bk.new w e css.flatten).cell, Nat.zero_add]; exact flatten_get hl hi hj⟩⟩
theorem bs [Stab F] (css : List (List Value)) {e sz : Nat} (hs : St D I w0 J M F w) (h : bsq lc.L ops ρ o = some (e, sz, css))
    (k : ∀ a w, St D I w0 J M (fun J w => Rc sz a css.length css J w ∧ F J w) w → Wl P N ops os K (updo N ρ o.dst (.slice a css.length css.length)) w) : Wl P N ops (o :: os) K ρ w := by
  obtain ⟨hw, _, hl, hr⟩ := bsq_run (P := P) h
  refine Wl.op hw ?_
  unfold OpR
  rw [hr]
  exact k _ _ (Rc.new hl hs)
theorem dbs [Stab F] (css : List (List Value)) {e sz : Nat} (hs : St D I w0 J M F w) (h : bsq lc.L ops ρ o = some (e, sz, css))
    (k : ∀ a w, St D I w0 J M (fun J w => Rc sz a css.length css J w ∧ F J w) w → Wa P N ops E ws qs K (updo N ρ o.dst (.slice a css.length css.length)) w) : Wa P N ops E ws (.e o qs) K ρ w := by
  obtain ⟨hw, hq, hl, hr⟩ := bsq_run (P := P) h
  intro hd hS
  refine Wa.e hw ?_ hd hS
  unfold OpR
  rw [hr]
  exact ⟨hS.below (below_push w _), k _ _ (Rc.new hl hs)⟩
end
end Bo
namespace Bo
open Go Go.RowKit
section
variable {P : Program} [lc : LC P] {N : Nat} {ops : Array Oper} {o : Oper} {os os' : List Oper} {qs qs2 : Ob} {E : Nat → Prop} {K : Env → World → Prop} {ρ ρ' : Env} {w w0 ws : World} {D I J : Nat → Prop} {M : List Rs} {F : Pf}

/-! ### Cuts -/
def bnd (ρ : Env) : Option Operand → Option (Option Int)
  | none => some none
  | some x => match ev ρ x with | .int _ i => some (some i) | _ => none
def slq (L : Lay) (ops : Array Oper) (ρ : Env) (o : Oper) : Option (Nat × Option Addr × Nat × Nat × Option Int × Option Int) :=
  match wantE ops ρ o with
  | true =>
    match o.op with
    | .slice T x lo hi none =>
      match kdo L T, ev ρ x, bnd ρ lo, bnd ρ hi with
      | some (.sl e), .slice a n c, some lo, some hi => match L e with | some ti => some (ti.size, a, n, c, lo, hi) | none => none
      | _, _, _, _ => none
    | _ => none
  | false => none
theorem run_bound {i : Int} {k : IntKind} {y : Nat} {code : BoundsCode} (h0 : 0 ≤ i) (h1 : i ≤ y) : (Instr.sliceBound (.int k i) y code).run P w = .ok i.toNat w := by
  simp [Instr.sliceBound, asIntOf, h0, h1]
theorem slq_run {sz n c l h : Nat} {a : Option Addr} {lo hi : Option Int} (hq : slq lc.L ops ρ o = some (sz, a, n, c, lo, hi)) (hh : hi.getD n = h) (hl : lo.getD 0 = l) (hc : h ≤ c) (hlh : l ≤ h) (w : World) :
    wantE ops ρ o = true ∧ qk o.op = true ∧ (execOp (ev ρ) o).run P w = .ok (.value (.slice (if c = l then a else a.map (·.add (l * sz))) (h - l) (c - l))) w := by
  unfold slq at hq
  split at hq <;> try (cases hq; done)
  rename_i hw
  split at hq <;> try (cases hq; done)
  rename_i T x lo' hi' ho
  split at hq <;> try (cases hq; done)
  rename_i e a' n' c' lo'' hi'' hT hx hlo hhi
  split at hq <;> try (cases hq; done)
  rename_i ti he
  simp only [Option.some.injEq, Prod.mk.injEq] at hq
  obtain ⟨rfl, rfl, rfl, rfl, rfl, rfl⟩ := hq
  refine ⟨hw, by rw [ho]; rfl, ?_⟩
  have hu := kdo_ok lc.ok hT
  simp only [KdOk] at hu
  have hH : (match hi'.map (ev ρ), (none : Option Value) with
      | some v, some _ => Instr.sliceBound v c' .slice3B
      | some v, none => Instr.sliceBound v c' .sliceAcap
      | none, none => pure n'
      | none, some _ => stuck "Slice: max without high" : Sem Nat).run P w = .ok h w := by
    cases hi' with
    | none => simp only [bnd, Option.some.injEq] at hhi; subst hhi; simp only [Option.getD_none] at hh; (have hh0 : h = n' := by omega); subst hh0; rfl
    | some y =>
      simp only [bnd] at hhi
      split at hhi <;> try (cases hhi; done)
      rename_i k i hy
      simp only [Option.some.injEq] at hhi; subst hhi
      simp only [Option.getD_some] at hh
      simp only [Option.map_some, hy]
      rw [run_bound (by omega) (by omega)]
      congr 1; omega
  have hL : (match lo'.map (ev ρ) with
      | some v => Instr.sliceBound v h .sliceB
      | none => pure 0 : Sem Nat).run P w = .ok l w := by
    cases lo' with
    | none => simp only [bnd, Option.some.injEq] at hlo; subst hlo; simp only [Option.getD_none] at hl; (have hl0 : l = 0 := by omega); subst hl0; rfl
    | some y =>
      simp only [bnd] at hlo
      split at hlo <;> try (cases hlo; done)
      rename_i k i hy
      simp only [Option.some.injEq] at hlo; subst hlo
      simp only [Option.getD_some] at hl
      simp only [Option.map_some, hy]
      rw [run_bound (by omega) (by omega)]
      congr 1; omega
  have hB : (Instr.sliceBounds true n' c' (lo'.map (ev ρ)) (hi'.map (ev ρ)) none).run P w = .ok (l, h, c') w := by
    unfold Instr.sliceBounds
    simp only [Sem.run_bind, Sem.run_pure, Result.andThen_ok, if_true, Option.isSome_none, Bool.false_eq_true, if_false]
    have hH' := hH
    have hL' := hL
    cases hi' <;> cases lo' <;> simp only [Option.map_none, Option.map_some] at hH' hL' ⊢ <;> simp only [hH', Result.andThen_ok, Sem.run_pure, Sem.run_bind, hL']
    all_goals simp_all
  unfold execOp
  simp only [ho, Option.map_none]
  unfold Instr.sliceAt
  rw [Sem.run_bind, Sem.run_bind, run_underlying hu]
  simp only [Result.andThen_ok]
  unfold Instr.slice
  rw [Sem.run_bind, run_underlying hu]
  simp only [Result.andThen_ok, hx]
  rw [Sem.run_bind, hB]
  simp only [Result.andThen_ok, Sem.run_bind, (lc.ok _ ti he).sizeOf, Sem.run_pure]
theorem Rc.sub {sz n c l h : Nat} {a : Option Addr} {css : List (List Value)} (hr : Rc sz a c css J w) (hn : css.length = n) (hh : h ≤ n) (hl : l ≤ h) :
    Rc sz (if c = l then a else a.map (·.add (l * sz))) (c - l) ((css.take h).drop l) J w := by
  obtain ⟨h1, h2, h3⟩ := hr
  have hlen : ((css.take h).drop l).length = h - l := by rw [List.length_drop, List.length_take]; omega
  refine ⟨by omega, fun cs hcs => h2 cs (List.mem_of_mem_take (List.mem_of_mem_drop hcs)), fun hne => ?_⟩
  have hpos : 0 < h - l := by
    rw [← hlen]; exact List.length_pos_iff.2 hne
  obtain ⟨b, off, ha, hJ, hlt, hc⟩ := h3 (by intro e; simp [e] at hn; omega)
  rw [if_neg (by omega), ha]
  refine ⟨b, off + l * sz, by simp [add_n], hJ, hlt, fun i cs hi j v hj => ?_⟩
  rw [List.getElem?_drop, List.getElem?_take] at hi
  split at hi
  · have := hc (l + i) cs hi j v hj
    rw [Nat.add_mul] at this
    rw [show off + l * sz + i * sz + j = off + (l * sz + i * sz) + j from by omega]; exact this
  · cases hi
/-- A cut of a slice that is read. -/
theorem sl [Stab F] {sz n c : Nat} {a : Option Addr} {lo hi : Option Int} (l h : Nat) {css : List (List Value)} (hs : St D I w0 J M F w) (hq : slq lc.L ops ρ o = some (sz, a, n, c, lo, hi)) (hr : Rc sz a c css J w) (hn : css.length = n) (hh : hi.getD n = h) (hl : lo.getD 0 = l) (hc : h ≤ n) (hlh : l ≤ h)
    (k : ∀ a, Rc sz a (c - l) ((css.take h).drop l) J w → Wl P N ops os K (updo N ρ o.dst (.slice a (h - l) (c - l))) w) : Wl P N ops (o :: os) K ρ w := by
  have h1 := hr.1
  obtain ⟨hw, _, hrun⟩ := slq_run (P := P) hq hh hl (by omega) hlh w
  exact Wl.op hw (OpR.val hrun (k _ (hr.sub hn hc hlh)))
def ssq (L : Lay) (ops : Array Oper) (ρ : Env) (o : Oper) : Option (ByteArray × Option Int × Option Int) :=
  match wantE ops ρ o with
  | true =>
    match o.op with
    | .slice T x lo hi none =>
      match kdo L T, ev ρ x, bnd ρ lo, bnd ρ hi with
      | some .str, .string s, some lo, some hi => some (s, lo, hi)
      | _, _, _, _ => none
    | _ => none
  | false => none
theorem ssq_run {s : ByteArray} {l h : Nat} {lo hi : Option Int} (hq : ssq lc.L ops ρ o = some (s, lo, hi)) (hh : hi.getD s.size = h) (hl : lo.getD 0 = l) (hc : h ≤ s.size) (hlh : l ≤ h) (w : World) :
    wantE ops ρ o = true ∧ qk o.op = true ∧ (execOp (ev ρ) o).run P w = .ok (.value (.string (s.extract l h))) w := by
  unfold ssq at hq
  split at hq <;> try (cases hq; done)
  rename_i hw
  split at hq <;> try (cases hq; done)
  rename_i T x lo' hi' ho
  split at hq <;> try (cases hq; done)
  rename_i s' lo'' hi'' hT hx hlo hhi
  simp only [Option.some.injEq, Prod.mk.injEq] at hq
  obtain ⟨rfl, rfl, rfl⟩ := hq
  refine ⟨hw, by rw [ho]; rfl, ?_⟩
  have hu := kdo_ok lc.ok hT
  simp only [KdOk] at hu
  have hB : (Instr.sliceBounds false s'.size s'.size (lo'.map (ev ρ)) (hi'.map (ev ρ)) none).run P w = .ok (l, h, s'.size) w := by
    unfold Instr.sliceBounds
    simp only [Sem.run_bind, Sem.run_pure, Result.andThen_ok]
    have hH : ∀ y, hi' = some y → ∃ k i, ev ρ y = .int k i ∧ 0 ≤ i ∧ i.toNat = h ∧ i ≤ s'.size := by
      rintro y rfl
      simp only [bnd] at hhi
      split at hhi <;> try (cases hhi; done)
      rename_i k i hy
      simp only [Option.some.injEq] at hhi; subst hhi
      simp only [Option.getD_some] at hh
      exact ⟨k, i, hy, by omega, by omega, by omega⟩
    have hL : ∀ y, lo' = some y → ∃ k i, ev ρ y = .int k i ∧ 0 ≤ i ∧ i.toNat = l ∧ i ≤ h := by
      rintro y rfl
      simp only [bnd] at hlo
      split at hlo <;> try (cases hlo; done)
      rename_i k i hy
      simp only [Option.some.injEq] at hlo; subst hlo
      simp only [Option.getD_some] at hl
      exact ⟨k, i, hy, by omega, by omega, by omega⟩
    cases hi' with
    | none =>
      simp only [bnd, Option.some.injEq] at hhi; subst hhi
      simp only [Option.getD_none] at hh
      have hh' : h = s'.size := by omega
      subst hh'
      cases lo' with
      | none => simp only [bnd, Option.some.injEq] at hlo; subst hlo; simp only [Option.getD_none] at hl; (have hl0 : l = 0 := by omega); subst hl0; simp
      | some y => obtain ⟨k, i, hy, h0, h1, h2⟩ := hL y rfl; simp [hy, run_bound (P := P) (w := w) (k := k) h0 h2, h1]
    | some y' =>
      obtain ⟨k', i', hy', h0', h1', h2'⟩ := hH y' rfl
      cases lo' with
      | none => simp only [bnd, Option.some.injEq] at hlo; subst hlo; simp only [Option.getD_none] at hl; (have hl0 : l = 0 := by omega); subst hl0; simp [hy', run_bound (P := P) (w := w) (k := k') h0' h2', h1']
      | some y => obtain ⟨k, i, hy, h0, h1, h2⟩ := hL y rfl; simp [hy, hy', run_bound (P := P) (w := w) (k := k') h0' h2', h1', run_bound (P := P) (w := w) (k := k) h0 h2, h1]
  unfold execOp
  simp only [ho, Option.map_none]
  unfold Instr.sliceAt
  rw [Sem.run_bind, Sem.run_bind, run_underlying hu]
  simp only [Result.andThen_ok]
  unfold Instr.slice
  rw [Sem.run_bind, run_underlying hu]
  simp only [Result.andThen_ok, hx]
  simp [hB]
theorem ss {s : ByteArray} {lo hi : Option Int} (l h : Nat) (hq : ssq lc.L ops ρ o = some (s, lo, hi)) (hh : hi.getD s.size = h) (hl : lo.getD 0 = l) (hc : h ≤ s.size) (hlh : l ≤ h)
    (k : Wl P N ops os K (updo N ρ o.dst (.string (s.extract l h))) w) : Wl P N ops (o :: os) K ρ w :=
  have h' := ssq_run (P := P) hq hh hl hc hlh w
  Wl.op h'.1 (OpR.val h'.2.2 k)
/-! ### Texts put together -/
def ctq (ops : Array Oper) (ρ : Env) (o : Oper) : Option (ByteArray × ByteArray) :=
  match wantE ops ρ o with
  | true =>
    match o.op with
    | .binOp .add _ x y _ => match ev ρ x, ev ρ y with | .string s, .string t => some (s, t) | _, _ => none
    | _ => none
  | false => none
theorem ctq_run {s t : ByteArray} (hq : ctq ops ρ o = some (s, t)) (hl : s.size + t.size ≤ 9223372036854775807) (w : World) :
    wantE ops ρ o = true ∧ qk o.op = true ∧ (execOp (ev ρ) o).run P w = .ok (.value (.string (s ++ t))) w := by
  unfold ctq at hq
  split at hq <;> try (cases hq; done)
  rename_i hw
  split at hq <;> try (cases hq; done)
  rename_i T x y T' ho
  split at hq <;> try (cases hq; done)
  rename_i s' t' hx hy
  cases hq
  refine ⟨hw, by rw [ho]; rfl, ?_⟩
  have : ¬ ((s.size + t.size : Nat) : Int) > IntKind.i64.max := by
    have e : IntKind.i64.max = 9223372036854775807 := by simp [IntKind.max, IntKind.signed, IntKind.bits]
    rw [e]; omega
  simp [execOp, ho, hx, hy, eqGuard, binOp, Op.stringOp]
  omega
theorem ct {s t : ByteArray} (hq : ctq ops ρ o = some (s, t)) (hl : s.size + t.size ≤ 9223372036854775807)
    (k : Wl P N ops os K (updo N ρ o.dst (.string (s ++ t))) w) : Wl P N ops (o :: os) K ρ w :=
  have h' := ctq_run (P := P) hq hl w
  Wl.op h'.1 (OpR.val h'.2.2 k)
theorem dct {s t : ByteArray} (hq : ctq ops ρ o = some (s, t)) (hl : s.size + t.size ≤ 9223372036854775807)
    (k : Wa P N ops E ws qs K (updo N ρ o.dst (.string (s ++ t))) w) : Wa P N ops E ws (.q o qs) K ρ w :=
  have h' := ctq_run (P := P) hq hl w
  Wa.q h'.1 (fun _ w' _ => (ctq_run (P := P) hq hl w').2.2) k
end
end Bo
namespace Bo
open Go Go.RowKit
section
variable {P : Program} [lc : LC P] {N : Nat} {ops : Array Oper} {o : Oper} {os os' : List Oper} {K : Env → World → Prop} {ρ ρ' : Env} {w w0 ws w' : World} {D I J : Nat → Prop} {M : List Rs} {F : Pf}
theorem pw_ne {M : List Rs} {i : Nat} {x y : Rs} (d : M.Pairwise Dj) (hx : M[i]? = some x) {j : Nat} (hy : M[j]? = some y) (hij : i ≠ j) {b : Nat} (hb : x.fp = some b) : y.fp ≠ some b := by
  rw [List.pairwise_iff_getElem] at d
  obtain ⟨hi, rfl⟩ := List.getElem?_eq_some_iff.1 hx
  obtain ⟨hj, rfl⟩ := List.getElem?_eq_some_iff.1 hy
  rcases Nat.lt_or_gt_of_ne hij with h | h
  · exact d i j hi hj h b hb
  · intro e; exact d j i hj hi h b e hb
/-- One of the call's own things turns, and its place may be another; nothing else turns. -/
theorem St.turn [Stab F] (hs : St D I w0 J M F w) {i : Nat} {x y : Rs} (hx : M[i]? = some x) (hg : w.grownBy w' x.fp) (hy : y.ok w') (hfp : y.fp = x.fp ∨ ∃ b, y.fp = some b ∧ w.heap.size ≤ b) :
    ∃ J', St D I w0 J' (M.set i y) F w' := by
  have hxm := hs.m x (List.mem_of_getElem? hx)
  have hbl : ∀ k, k < w.heap.size → x.fp ≠ some k → w'.heap[k]? = w.heap[k]? := fun k hk hne => hg.block k hk (fun e => hne e.symm)
  have hbelow : Mod D w0 w' := by
    refine ⟨hg.os.trans hs.b.os, hg.tape.trans hs.b.tape, hg.output.trans hs.b.output, Nat.le_trans hs.b.size hg.size, fun k hk hn => ?_⟩
    rw [hbl k (Nat.lt_of_lt_of_le hk hs.s) (fun e => ((hxm.2 k e).1.elim (by omega) hn))]
    exact hs.b.block k hk hn
  refine ⟨fun b => J b ∧ y.fp ≠ some b, hbelow, ?_, ?_, ?_, fun b hb => hs.u b hb.1, ?_⟩
  · intro z hz
    obtain ⟨j, hj⟩ := List.mem_iff_getElem?.1 hz
    rw [List.getElem?_set] at hj
    split at hj
    · rename_i hij
      split at hj
      · cases hj
        refine ⟨hy, fun b hb => ⟨?_, fun h => h.2 hb⟩⟩
        rcases hfp with e | ⟨b', e, hb'⟩
        · exact (hxm.2 b (e ▸ hb)).1
        · rw [e] at hb; cases hb; exact .inl (Nat.le_trans hs.s hb')
      · cases hj
    · rename_i hij
      have hzm := hs.m z (List.mem_of_getElem? hj)
      refine ⟨hzm.1.to fun b hb => hbl b (hzm.1.lt hb) (fun e => pw_ne hs.d hx hj hij e hb), fun b hb => ⟨(hzm.2 b hb).1, fun h => (hzm.2 b hb).2 h.1⟩⟩
  · rw [List.pairwise_iff_getElem]
    intro a c ha hc hac b hb
    have hne : ∀ (j : Nat) (z : Rs), M[j]? = some z → i ≠ j → ∀ b, y.fp = some b → z.fp ≠ some b := by
      intro j z hj hij b hb e
      rcases hfp with h | ⟨b', h, hb'⟩
      · exact pw_ne hs.d hx hj hij (h ▸ hb) e
      · rw [h] at hb; cases hb
        have := (hs.m z (List.mem_of_getElem? hj)).1.lt e
        omega
    simp only [List.length_set] at ha hc
    rw [List.getElem_set] at hb ⊢
    split at hb
    · rename_i hia
      rw [if_neg (by omega)]
      exact hne c _ (List.getElem?_eq_getElem hc) (by omega) b hb
    · rename_i hia
      split
      · intro e; exact hne a _ (List.getElem?_eq_getElem ha) hia b e hb
      · exact (List.pairwise_iff_getElem.1 hs.d) a c ha hc hac b hb
  · intro b hb
    refine ⟨hs.j b (Nat.le_trans hg.size hb), fun e => ?_⟩
    have := hy.lt e
    omega
  · refine Stab.mono (fun b hb hl => ⟨⟨hb, fun e => ?_⟩, hbl b hl fun e => (hxm.2 b e).2 hb⟩) hs.f
    rcases hfp with h | ⟨b', h, hb'⟩
    · exact (hxm.2 b (h ▸ e)).2 hb
    · rw [h] at e; cases e; omega
/-- A slice of the call's own that is nil yet. -/
theorem St.own (T sz : Nat) (hs : St D I w0 J M F w) : St D I w0 J (.own none 0 T sz [] :: M) F w :=
  ⟨hs.b, fun x hx => by
    rcases List.mem_cons.1 hx with rfl | hx
    · exact ⟨⟨⟨by simp, .inl ⟨rfl, rfl⟩⟩, by simp⟩, fun b hb => by cases hb⟩
    · exact hs.m x hx, .cons (fun x hx b hb => by cases hb) hs.d, hs.j, hs.u, hs.f⟩
/-- What is the call's own is never written again. -/
theorem St.done [Stab F] {a : Option Addr} {c T sz : Nat} {css : List (List Value)} (hs : St D I w0 J (.own a c T sz css :: M) F w) : ∃ J, St D I w0 J M (fun J w => Rc sz a c css J w ∧ F J w) w := by
  have h0 := hs.m _ (List.mem_cons_self ..)
  obtain ⟨⟨⟨hl, h⟩, hsz⟩, hfp⟩ := h0
  rcases h with ⟨h, hn⟩ | ⟨g, cap, cur, hv, _, hh, hnc, _, hcs, htk⟩
  · have : css = [] := List.eq_nil_of_length_eq_zero hn
    subst this
    exact ⟨J, hs.cut.add (Rc.nil _ _ _ _ _)⟩
  · obtain ⟨rfl, _, rfl⟩ := Value.slice.inj hv
    have hg := hfp g rfl
    have hlt : g < w.heap.size := (Array.getElem?_eq_some_iff.1 hh).1
    refine ⟨fun b => J b ∨ b = g, hs.b, fun x hx => ⟨(hs.m x (List.mem_cons_of_mem _ hx)).1, fun b hb => ⟨((hs.m x (List.mem_cons_of_mem _ hx)).2 b hb).1, fun h => ?_⟩⟩, hs.d.of_cons, fun b hb => .inl (hs.j b hb), fun b hb => ?_, ⟨hnc, hsz, fun hne => ⟨g, 0, rfl, .inr rfl, hlt, fun i cs hi j v hj => ?_⟩⟩, Stab.mono (fun b hb hl => ⟨.inl hb, rfl⟩) hs.f⟩
    · rcases h with h | rfl
      · exact ((hs.m x (List.mem_cons_of_mem _ hx)).2 b hb).2 h
      · exact (List.pairwise_cons.1 hs.d).1 x hx b rfl hb
    · rcases hb with hb | rfl
      · exact hs.u b hb
      · exact hg.1.imp .inr id
    · have h1 := flatten_get hsz hi hj
      rw [← htk, List.getElem?_take] at h1
      split at h1
      · simp only [World.cell?, hh, Nat.zero_add]
        simpa using h1
      · cases h1
/-! ### append -/
def apq (L : Lay) (ops : Array Oper) (ρ : Env) (o : Oper) : Option (TypeId × Nat × Nat × Option Addr × Nat × Nat × Option Addr × Nat × Nat) :=
  match wantE ops ρ o with
  | true =>
    match o.op with
    | .call cl =>
      match cl.callee, cl.args.toList, cl.argTypes.toList with
      | .builtin .append, [s, x], [T, T'] =>
        match kdo L T, ev ρ s, ev ρ x with
        | some (.sl e), .slice a n c, .slice a' n' c' => match L e with | some ti => bif Nat.beq T T' && Nat.blt 0 ti.size && Nat.beq ti.zero.length ti.size then some (e, ti.size, ti.bytes, a, n, c, a', n', c') else none | none => none
        | _, _, _ => none
      | _, _, _ => none
    | _ => none
  | false => none
theorem apq_run {e sz by_ n c n' c' : Nat} {a a' : Option Addr} {css css' : List (List Value)} (hq : apq lc.L ops ρ o = some (e, sz, by_, a, n, c, a', n', c'))
    (hown : (Rs.own a c e sz css).ok w) (hn : n = css.length) (hr : Rc sz a' c' css' J w) (hn' : n' = css'.length) (h1 : ∀ cs ∈ css', ∀ v ∈ cs, v.oneCell' = true) (hb : (css.length + css'.length) * by_ ≤ 140737488355328) (hm : css.length + css'.length ≤ 9223372036854775807) :
    wantE ops ρ o = true ∧ qk o.op = false ∧ ∃ a1 c1 w', (execOp (ev ρ) o).run P w = .ok (.value (.slice a1 (css ++ css').length c1)) w' ∧ (Rs.own a1 c1 e sz (css ++ css')).ok w' ∧ w.grownBy w' (Rs.own a c e sz css).fp ∧
      ((Rs.own a1 c1 e sz (css ++ css')).fp = (Rs.own a c e sz css).fp ∨ ∃ b, (Rs.own a1 c1 e sz (css ++ css')).fp = some b ∧ w.heap.size ≤ b) := by
  unfold apq at hq
  split at hq <;> try (cases hq; done)
  rename_i hw
  split at hq <;> try (cases hq; done)
  rename_i cl ho
  split at hq <;> try (cases hq; done)
  rename_i s x T T' hcl hargs htys
  split at hq <;> try (cases hq; done)
  rename_i e1 a1 n1 c1 a2 n2 c2 hT hsv hxv
  split at hq <;> try (cases hq; done)
  rename_i ti he
  cases hcnd : (Nat.beq T T' && Nat.blt 0 ti.size && Nat.beq ti.zero.length ti.size) with
  | false => rw [hcnd] at hq; cases hq
  | true =>
  rw [hcnd] at hq
  simp only [cond_true, Option.some.injEq, Prod.mk.injEq] at hq
  obtain ⟨rfl, rfl, rfl, rfl, rfl, rfl, rfl, rfl, rfl⟩ := hq
  simp only [Bool.and_eq_true] at hcnd
  obtain ⟨⟨hTT, hpos⟩, hzl⟩ := hcnd
  have hTT : T = T' := Nat.eq_of_beq_eq_true hTT
  subst hTT
  have hpos : 0 < ti.size := by rwa [Nat.blt_eq] at hpos
  have hzl : ti.zero.length = ti.size := Nat.eq_of_beq_eq_true hzl
  refine ⟨hw, by rw [ho]; simp [qk, hcl], ?_⟩
  have hu := kdo_ok lc.ok hT
  simp only [KdOk] at hu
  have hinfo := (lc.ok _ ti he).info
  obtain ⟨i, hi⟩ : ∃ i, P.info? e1 = some i := by
    cases hi : P.info? e1 with
    | none => simp [hi] at hinfo
    | some i => exact ⟨i, rfl⟩
  simp only [hi, Option.map_some, Option.some.injEq, Prod.mk.injEq] at hinfo
  obtain ⟨hi1, hi2, hi3⟩ := hinfo
  obtain ⟨z, hz, hzc⟩ := Option.map_eq_some_iff.1 hi3
  have hzs : z.cells.size = ti.size := by rw [← hzl, ← hzc, Array.length_toList]
  subst hn hn'
  have hexec : ∀ w, (execOp (ev ρ) o).run P w = ((Builtin.append_ #[T, T] o.type #[.slice a1 css.length c1, .slice a2 css'.length c2]).run P w).andThen fun v w => .ok (.value v) w := by
    intro w
    unfold execOp
    have e1 : cl.args.map (ev ρ) = #[.slice a1 css.length c1, .slice a2 css'.length c2] := by
      apply Array.ext'; simp [hargs, hsv, hxv]
    have e2 : cl.argTypes = #[T, T] := by apply Array.ext'; simp [htys]
    simp only [ho, resolve, hcl, e1, e2, Sem.run_bind, Sem.run_pure, Result.andThen_ok, invoke, builtin]
  by_cases h0 : css' = []
  · subst h0
    -- nothing is appended
    refine ⟨a1, c1, w, ?_, by simpa using hown, ⟨rfl, rfl, rfl, Nat.le_refl _, fun _ _ _ => rfl⟩, .inl (by simp)⟩
    rw [hexec]
    obtain ⟨⟨_, h⟩, _⟩ := hown
    have hfc : (Builtin.firstCells ti.size 0 (.slice a2 0 c2)).run P w = .ok #[] w := by
      cases a2 <;> simp [Builtin.firstCells, loadCells, loadCellsFrom]
    have hle : css.length ≤ c1 := by
      rcases h with ⟨h, h'⟩ | ⟨g, cap, cur, hv, _, _, hnc, _⟩
      · omega
      · obtain ⟨_, _, rfl⟩ := Value.slice.inj hv; exact hnc
    have hst : ∀ a : Addr, (storeCells a [] 0).run P w = .ok () w := fun a => rfl
    cases a1 <;> simp [Builtin.append_, run_underlying hu, (lc.ok _ ti he).sizeOf, Builtin.lenOf, hfc, hle, hst]
  · obtain ⟨b, off, rfl, hJ, hlt, hc⟩ := hr.2.2 h0
    obtain ⟨v', w', hrun, hown', hg, _, hat⟩ := run_append_own_at (P := P) w 0 T o.type e1 i z ti.size ti.bytes hu hi hz hi1 hi2 hzs hpos (.slice a1 css.length c1) css.length css.flatten hown.1 ⟨b, off, none⟩ css'.length c2 css'.flatten (flatten_length hr.2.1)
      (fun j u hj => by
        have hlen := flatten_length hr.2.1
        have hj' := (List.getElem?_eq_some_iff.1 hj).1
        rw [hlen] at hj'
        have hq : j / ti.size < css'.length := (Nat.div_lt_iff_lt_mul hpos).2 hj'
        have hr' : j % ti.size < ti.size := Nat.mod_lt _ hpos
        have hx := List.getElem?_eq_getElem hq
        have hxl := hr.2.1 _ (List.getElem_mem hq)
        have hy := List.getElem?_eq_getElem (l := css'[j / ti.size]) (i := j % ti.size) (by omega)
        have := flatten_get hr.2.1 hx hy
        rw [Nat.div_add_mod' j ti.size, hj] at this
        rw [add_n, this]
        have h2 := hc _ _ hx _ _ hy
        rw [Nat.add_assoc, Nat.div_add_mod' j ti.size] at h2
        exact h2)
      (fun u hu => by
        obtain ⟨cs, hcs, huc⟩ := List.mem_flatten.1 hu
        have := h1 cs hcs u huc
        exact this)
      (by simp only [maxLen]; omega) hb (Nat.zero_le _)
    have hform : ∃ a3 c3, v' = .slice a3 (css ++ css').length c3 := by
      rcases hown'.2 with ⟨rfl, h⟩ | ⟨g, cap, cur, rfl, _⟩
      · exact ⟨none, 0, by rw [List.length_append, h]⟩
      · exact ⟨_, cap, by rw [List.length_append]⟩
    obtain ⟨a3, c3, rfl⟩ := hform
    refine ⟨a3, c3, w', by rw [hexec, hrun]; rfl, ⟨by rw [List.flatten_append, List.length_append]; rwa [List.length_append] at hown', fun cs hcs => ?_⟩, ?_, ?_⟩
    · rcases List.mem_append.1 hcs with h | h
      · exact hown.2 cs h
      · exact hr.2.1 cs h
    · have : (Rs.own a1 c1 e1 ti.size css).fp = (Value.slice a1 css.length c1).ownBlock := by cases a1 <;> rfl
      rw [this]; exact hg
    · have e1' : (Rs.own a1 c1 e1 ti.size css).fp = (Value.slice a1 css.length c1).ownBlock := by cases a1 <;> rfl
      have e2' : (Rs.own a3 c3 e1 ti.size (css ++ css')).fp = (Value.slice a3 (css ++ css').length c3).ownBlock := by cases a3 <;> rfl
      rw [e1', e2']
      rcases hat with h | h
      · exact .inl h
      · exact .inr ⟨_, h, Nat.le_refl _⟩
/-- append onto a slice of the call's own. -/
theorem ap [Stab F] (i : Nat) {e sz by_ n c n' c' : Nat} {a a' : Option Addr} {css css' : List (List Value)} (hs : St D I w0 J M F w) (hq : apq lc.L ops ρ o = some (e, sz, by_, a, n, c, a', n', c'))
    (hM : M[i]? = some (.own a c e sz css)) (hn : n = css.length) (hr : Rc sz a' c' css' J w) (hn' : n' = css'.length) (h1 : ∀ cs ∈ css', ∀ v ∈ cs, v.oneCell' = true) (hb : (css.length + css'.length) * by_ ≤ 140737488355328) (hm : css.length + css'.length ≤ 9223372036854775807)
    (k : ∀ a c J w, St D I w0 J (M.set i (.own a c e sz (css ++ css'))) F w → Wl P N ops os K (updo N ρ o.dst (.slice a (css ++ css').length c)) w) : Wl P N ops (o :: os) K ρ w := by
  obtain ⟨hw, _, a1, c1, w1, hrun, hok, hg, hfp⟩ := apq_run (P := P) hq (hs.m _ (List.mem_of_getElem? hM)).1 hn hr hn' h1 hb hm
  obtain ⟨J', hs'⟩ := hs.turn hM hg hok hfp
  refine Wl.op hw ?_
  unfold OpR
  rw [hrun]
  exact k a1 c1 J' w1 hs'
end
end Bo
namespace Bo
open Go Go.RowKit
section
variable {P : Program} [lc : LC P] {N : Nat} {ops : Array Oper} {o : Oper} {os os' : List Oper} {K : Env → World → Prop} {ρ ρ' : Env} {w w0 ws w' : World} {D I J : Nat → Prop} {M : List Rs} {F : Pf} {Q : Ex → Env → World → Prop}
/-- What is known behind a region. -/
theorem rc (A : Env → World → Prop) {id : Nat} (h1 : Wl P N ops ops.toList A ρ w) (h2 : ∀ ρ w, A ρ w → Q .nor ρ w) : C P N (.region id ops false) Q ρ w :=
  C.mono (C.reg (Q := th A Q) h1) fun e ρ w h => by cases e <;> first | exact h2 _ _ h | exact h
theorem src (A : Env → World → Prop) {id : Nat} {x : Code} (h1 : Wl P N ops ops.toList A ρ w) (h2 : ∀ ρ w, A ρ w → C P N x Q ρ w) : C P N (.seq (.region id ops false) x) Q ρ w :=
  C.seq (rc A h1 h2)
theorem vb {t : Nat} {b c : Bool} (h : nf (ρ t) = some (.bool b)) (e : b = c) : ρ t = .bool c := by rw [nf_of h, e]
theorem vi {t : Nat} {k : IntKind} {b c : Int} (h : nf (ρ t) = some (.int k b)) (e : b = c) : ρ t = .int k c := by rw [nf_of h, e]
theorem St.im {b : Nat} {T : TypeId} {cs : List Value} (hs : St D I w0 J M (fun J w => Im b T cs J w ∧ F J w) w) : Bk w b T cs := hs.f.1.2
theorem St.im2 {b : Nat} {T : TypeId} {cs : List Value} {A : Pf} (hs : St D I w0 J M (fun J w => A J w ∧ Im b T cs J w ∧ F J w) w) : Bk w b T cs := hs.f.2.1.2
end
end Bo
namespace Bo
open Go Go.RowKit
section
variable {P : Program} [lc : LC P] {N : Nat} {ops : Array Oper} {o : Oper} {os os' : List Oper} {K : Env → World → Prop} {ρ ρ' : Env} {w w0 ws w' : World} {D I J : Nat → Prop} {M : List Rs} {F : Pf}
/-! ### Stores -/
def stq (L : Lay) (ops : Array Oper) (ρ : Env) (o : Oper) : Option (Nat × Nat × List Value) :=
  match wantE ops ρ o with
  | true =>
    match o.op with
    | .store T x y =>
      match L T, ev ρ x with
      | some ti, .pointer (some ⟨b, off, none⟩) => bif Nat.beq (ev ρ y).cells.toList.length ti.size && (ev ρ y).cells.toList.all (·.oneCell') then some (b, off, (ev ρ y).cells.toList) else none
      | _, _ => none
    | _ => none
  | false => none
theorem stq_run {b off : Nat} {T : TypeId} {cs new : List Value} (h : stq lc.L ops ρ o = some (b, off, new)) (hb : w.heap[b]? = some (.cells cs.toArray T (0, 0))) (hl : off + new.length ≤ cs.length) :
    wantE ops ρ o = true ∧ (execOp (ev ρ) o).run P w = .ok .skip (w.setRow b (spl cs off new).toArray) := by
  unfold stq at h
  split at h <;> try (cases h; done)
  rename_i hw
  split at h <;> try (cases h; done)
  rename_i T' x y ho
  split at h <;> try (cases h; done)
  rename_i ti b' off' hT hx
  cases hc : (Nat.beq (ev ρ y).cells.toList.length ti.size && (ev ρ y).cells.toList.all (·.oneCell')) with
  | false => rw [hc] at h; cases h
  | true =>
  rw [hc] at h
  simp only [cond_true, Option.some.injEq, Prod.mk.injEq] at h
  obtain ⟨rfl, rfl, rfl⟩ := h
  simp only [Bool.and_eq_true] at hc
  refine ⟨hw, ?_⟩
  have hsz : (ev ρ y).cells.size = ti.size := by rw [← Array.length_toList]; exact Nat.eq_of_beq_eq_true hc.1
  have h1 : ∀ v ∈ (ev ρ y).cells.toList, v.oneCell' = true := List.all_eq_true.1 hc.2
  have hst := run_storeCells_at (P := P) b' off' T (ev ρ y).cells.toList 0 cs.toArray w hb (by simpa using hl) h1
  simp only [Nat.add_zero, List.toList_toArray] at hst
  unfold execOp
  simp only [ho, hx, Instr.storeAt, Instr.sureAddr, storeVar]
  simp only [Sem.run_bind, Sem.run_pure, Result.andThen_ok, (lc.ok _ ti hT).sizeOf, hsz, ne_eq, not_true, if_false]
  rw [hst]
  simp only [Result.andThen_ok]
  congr 3
  simp [spl, List.append_assoc]
theorem grown_setRow (w : World) (b : Nat) (cs : Array Value) : w.grownBy (w.setRow b cs) (some b) :=
  ⟨rfl, rfl, rfl, by simp, fun k _ hk => setRow_other w b k cs (fun e => hk (by rw [e]))⟩
/-- Into a block of the call's own. -/
theorem sb [Stab F] (i : Nat) {b off : Nat} {T : TypeId} {cs new : List Value} (hs : St D I w0 J M F w) (h : stq lc.L ops ρ o = some (b, off, new)) (hM : M[i]? = some (.blk b T cs)) (hl : Nat.ble (off + new.length) cs.length = true)
    (k : ∀ J w, St D I w0 J (M.set i (.blk b T (spl cs off new))) F w → Wl P N ops os K (updo N ρ o.dst undef) w) : Wl P N ops (o :: os) K ρ w := by
  have hb := hs.bk i hM
  obtain ⟨hw, hr⟩ := stq_run (P := P) h hb (Nat.le_of_ble_eq_true hl)
  obtain ⟨J', hs'⟩ := hs.turn (w' := w.setRow b (spl cs off new).toArray) (y := .blk b T (spl cs off new)) hM (grown_setRow w b _) (setRow_heap w b _ _ T _ hb) (.inl rfl)
  refine Wl.op hw ?_
  unfold OpR
  rw [hr]
  exact k J' _ hs'
/-- The same, with what it then reads. -/
theorem sbx [Stab F] (i : Nat) (cs' : List Value) {b off : Nat} {T : TypeId} {cs new : List Value} (hs : St D I w0 J M F w) (h : stq lc.L ops ρ o = some (b, off, new)) (hM : M[i]? = some (.blk b T cs)) (hl : Nat.ble (off + new.length) cs.length = true) (hc : spl cs off new = cs')
    (k : ∀ J w, St D I w0 J (M.set i (.blk b T cs')) F w → Wl P N ops os K (updo N ρ o.dst undef) w) : Wl P N ops (o :: os) K ρ w :=
  sb i hs h hM hl fun J w h => by rw [hc] at h; exact k J w h
/-! ### Elements of the call's own slices -/
theorem spl_spl (A B : List Value) (off : Nat) (cs : List Value) (h : off + cs.length ≤ A.length) : spl (A ++ B) off cs = spl A off cs ++ B := by
  apply List.ext_getElem?
  intro i
  rw [spl_get (by simp; omega)]
  have hl := spl_length h
  by_cases hi : i < A.length
  · rw [List.getElem?_append_left hi, List.getElem?_append_left (l₁ := spl A off cs) (by omega), spl_get h]
  · rw [List.getElem?_append_right (by omega), List.getElem?_append_right (l₁ := spl A off cs) (by omega), hl, if_neg (by omega)]
theorem flatten_set {sz : Nat} {css : List (List Value)} (h : ∀ cs ∈ css, cs.length = sz) {j : Nat} {es : List Value} (hj : css[j]? = some es) {k : Nat} {new : List Value} (hk : k + new.length ≤ sz) :
    (css.set j (spl es k new)).flatten = spl css.flatten (j * sz + k) new := by
  induction css generalizing j with
  | nil => simp at hj
  | cons c css ih =>
    have hc := h c (List.mem_cons_self ..)
    cases j with
    | zero =>
      simp only [List.getElem?_cons_zero, Option.some.injEq] at hj
      subst hj
      simp only [List.set_cons_zero, List.flatten_cons, Nat.zero_mul, Nat.zero_add]
      rw [spl_spl _ _ _ _ (by omega)]
    | succ j =>
      simp only [List.getElem?_cons_succ] at hj
      have hlt := (List.getElem?_eq_some_iff.1 hj).1
      have hlen := flatten_length (fun x hx => h x (List.mem_cons_of_mem _ hx))
      have hle : (j + 1) * sz ≤ css.length * sz := Nat.mul_le_mul_right _ hlt
      simp only [List.set_cons_succ, List.flatten_cons]
      rw [ih (fun x hx => h x (List.mem_cons_of_mem _ hx)) hj]
      apply List.ext_getElem?
      intro i
      have e : (j + 1) * sz + k = c.length + (j * sz + k) := by rw [Nat.succ_mul]; omega
      rw [Nat.succ_mul] at hle
      rw [spl_get (by rw [List.length_append, e]; omega), e]
      by_cases hi : i < c.length
      · rw [List.getElem?_append_left hi, if_neg (by omega), List.getElem?_append_left hi]
      · rw [List.getElem?_append_right (by omega), spl_get (by omega)]
        by_cases h2 : j * sz + k ≤ i - c.length ∧ i - c.length < j * sz + k + new.length
        · rw [if_pos h2, if_pos (by omega)]; congr 1; omega
        · rw [if_neg h2, if_neg (by omega), List.getElem?_append_right (by omega)]
/-- What is known of the call's own slice. -/
theorem own_at {a : Option Addr} {c T sz : Nat} {css : List (List Value)} (h : (Rs.own a c T sz css).ok w) {j : Nat} {es : List Value} (hj : css[j]? = some es) :
    ∃ g cur, a = some ⟨g, 0, none⟩ ∧ w.heap[g]? = some (.cells cur T (0, 0)) ∧ cur.toList.take (css.length * sz) = css.flatten ∧ css.length ≤ c ∧ c ≤ maxLen ∧ cur.size = c * sz := by
  obtain ⟨⟨_, h⟩, _⟩ := h
  rcases h with ⟨_, hn⟩ | ⟨g, cap, cur, hv, _, hh, hnc, hcm, hcs, htk⟩
  · rw [List.eq_nil_of_length_eq_zero hn] at hj; simp at hj
  · obtain ⟨rfl, _, rfl⟩ := Value.slice.inj hv
    exact ⟨g, cur, rfl, hh, htk, hnc, hcm, hcs⟩
theorem own_cell {g c T sz : Nat} {css : List (List Value)} (h : (Rs.own (some ⟨g, 0, none⟩) c T sz css).ok w) {j : Nat} {es : List Value} (hj : css[j]? = some es) {k : Nat} {v : Value} (hv : es[k]? = some v) :
    w.cell? ⟨g, j * sz + k, none⟩ = some v := by
  obtain ⟨g', cur, hg, hh, htk, _⟩ := own_at h hj
  cases hg
  have h1 := flatten_get h.2 hj hv
  rw [← htk, List.getElem?_take] at h1
  split at h1
  · simp only [World.cell?, hh]; simpa using h1
  · cases h1
/-- The place of an element of the call's own slice. -/
theorem ixo (i j : Nat) {a : Option Addr} {n sz c T : Nat} {css : List (List Value)} (hs : St D I w0 J M F w) (h : ixq lc.L ops ρ o = some (a, n, (j : Int), sz)) (hM : M[i]? = some (.own a c T sz css)) (hj : j < css.length) (hn : n = css.length)
    (k : ∀ g, a = some ⟨g, 0, none⟩ → Wl P N ops os K (updo N ρ o.dst (.pointer (some ⟨g, j * sz, none⟩))) w) : Wl P N ops (o :: os) K ρ w := by
  obtain ⟨g, _, ha, _⟩ := own_at (hs.m _ (List.mem_of_getElem? hM)).1 (List.getElem?_eq_getElem hj)
  have h' := OpR.ix (P := P) (w := w) (R := fun v w' => Wl P N ops os K (updo N ρ o.dst v) w') h (by omega) (by omega) ha (by
    have := k g ha
    simpa using this)
  exact Wl.op h'.1 h'.2
/-- One cell of an element. -/
theorem lo (i j k' : Nat) {g off' c T sz : Nat} {css : List (List Value)} {es : List Value} {v : Value} (hs : St D I w0 J M F w) (h : ldq lc.L ops ρ o = some (g, off', none)) (hM : M[i]? = some (.own (some ⟨g, 0, none⟩) c T sz css)) (hj : css[j]? = some es) (ho : off' = j * sz + k') (hv : es[k']? = some v)
    (k : Wl P N ops os K (updo N ρ o.dst v) w) : Wl P N ops (o :: os) K ρ w := by
  subst ho
  exact lc1 h (own_cell (hs.m _ (List.mem_of_getElem? hM)).1 hj hv) k
/-- A whole element. -/
theorem lon (i j : Nat) {g off' n c T sz : Nat} {css : List (List Value)} {es : List Value} (hs : St D I w0 J M F w) (h : ldq lc.L ops ρ o = some (g, off', some n)) (hM : M[i]? = some (.own (some ⟨g, 0, none⟩) c T sz css)) (hj : css[j]? = some es) (ho : off' = j * sz) (hn : es.length = n)
    (k : Wl P N ops os K (updo N ρ o.dst (.agg es.toArray)) w) : Wl P N ops (o :: os) K ρ w := by
  subst ho
  exact Wl.op (ldq_run (P := P) (cs := []) h).1 (OpR.ldn h hn (fun q v hq => own_cell (hs.m _ (List.mem_of_getElem? hM)).1 hj hq) k)
theorem own_set {g c T sz : Nat} {css : List (List Value)} (h : (Rs.own (some ⟨g, 0, none⟩) c T sz css).ok w) {j : Nat} {es : List Value} (hj : css[j]? = some es) {k : Nat} {new : List Value} (hk : k + new.length ≤ sz) :
    ∃ cs, w.heap[g]? = some (.cells cs.toArray T (0, 0)) ∧ j * sz + k + new.length ≤ cs.length ∧ (Rs.own (some ⟨g, 0, none⟩) c T sz (css.set j (spl es k new))).ok (w.setRow g (spl cs (j * sz + k) new).toArray) := by
  obtain ⟨g', cur, hg, hh, htk, hnc, hcm, hcs⟩ := own_at h hj
  cases hg
  have hlt := (List.getElem?_eq_some_iff.1 hj).1
  have hle : (j + 1) * sz ≤ css.length * sz := Nat.mul_le_mul_right _ hlt
  have hle2 : css.length * sz ≤ c * sz := Nat.mul_le_mul_right _ hnc
  rw [Nat.succ_mul] at hle
  have hcl : cur.toList.length = c * sz := by rw [← hcs]; exact Array.length_toList
  have hl : j * sz + k + new.length ≤ cur.toList.length := by omega
  have hes : es.length = sz := h.2 es (List.mem_of_getElem? hj)
  have hall : ∀ cs ∈ css.set j (spl es k new), cs.length = sz := by
    intro x hx
    rcases List.mem_or_eq_of_mem_set hx with hx | rfl
    · exact h.2 x hx
    · rw [spl_length (by omega), hes]
  refine ⟨cur.toList, by simpa using hh, hl, ⟨flatten_length hall, .inr ⟨g, c, (spl cur.toList (j * sz + k) new).toArray, rfl, Nat.zero_le _, setRow_heap w g _ _ T _ (by simpa using hh), by simpa using hnc, hcm, by simp [spl_length hl, hcs], ?_⟩⟩, hall⟩
  rw [flatten_set h.2 hj hk, ← htk]
  simp only [List.length_set]
  apply List.ext_getElem?
  intro q
  rw [List.getElem?_take, spl_get hl, spl_get (by rw [List.length_take]; omega), List.getElem?_take]
  by_cases hq : q < css.length * sz
  · simp only [hq, if_true]
  · rw [if_neg hq, if_neg (by omega), if_neg hq]
/-- Into an element of the call's own slice. -/
theorem so [Stab F] (i j k' : Nat) {g off' c T sz : Nat} {css : List (List Value)} {es new : List Value} (hs : St D I w0 J M F w) (h : stq lc.L ops ρ o = some (g, off', new)) (hM : M[i]? = some (.own (some ⟨g, 0, none⟩) c T sz css)) (hj : css[j]? = some es) (ho : off' = j * sz + k') (hk : Nat.ble (k' + new.length) sz = true)
    (k : ∀ J w, St D I w0 J (M.set i (.own (some ⟨g, 0, none⟩) c T sz (css.set j (spl es k' new)))) F w → Wl P N ops os K (updo N ρ o.dst undef) w) : Wl P N ops (o :: os) K ρ w := by
  subst ho
  obtain ⟨cs, hb, hl, hok⟩ := own_set (hs.m _ (List.mem_of_getElem? hM)).1 hj (Nat.le_of_ble_eq_true hk)
  obtain ⟨hw, hr⟩ := stq_run (P := P) h hb hl
  obtain ⟨J', hs'⟩ := hs.turn (w' := w.setRow g (spl cs (j * sz + k') new).toArray) (y := .own (some ⟨g, 0, none⟩) c T sz (css.set j (spl es k' new))) hM (grown_setRow w g _) hok (.inl rfl)
  refine Wl.op hw ?_
  unfold OpR
  rw [hr]
  exact k J' _ hs'
theorem sox [Stab F] (i j k' : Nat) (es' : List Value) (css' : List (List Value)) {g off' c T sz : Nat} {css : List (List Value)} {es new : List Value} (hs : St D I w0 J M F w) (h : stq lc.L ops ρ o = some (g, off', new)) (hM : M[i]? = some (.own (some ⟨g, 0, none⟩) c T sz css)) (hj : css[j]? = some es) (ho : off' = j * sz + k') (hk : Nat.ble (k' + new.length) sz = true) (hes : spl es k' new = es') (hc : css.set j es' = css')
    (k : ∀ J w, St D I w0 J (M.set i (.own (some ⟨g, 0, none⟩) c T sz css')) F w → Wl P N ops os K (updo N ρ o.dst undef) w) : Wl P N ops (o :: os) K ρ w :=
  so i j k' hs h hM hj ho hk fun J w h => by rw [hes, hc] at h; exact k J w h
/-! ### make -/
def mkq (L : Lay) (ops : Array Oper) (ρ : Env) (o : Oper) : Option (TypeId × TI × Int × Int) :=
  match wantE ops ρ o with
  | true =>
    match o.op with
    | .makeSlice T x y =>
      match kdo L T, ev ρ x, ev ρ y with
      | some (.sl e), .int _ n, .int _ m => match L e with | some ti => bif Nat.blt 0 ti.size && Nat.beq ti.zero.length ti.size then some (e, ti, n, m) else none | none => none
      | _, _, _ => none
    | _ => none
  | false => none
theorem madeCells_toList (z : Array Value) (n : Nat) (hz : 0 < z.size) : (madeCells z (n * z.size)).toList = (List.replicate n z.toList).flatten := by
  apply List.ext_getElem?
  intro i
  have hl : ∀ cs ∈ List.replicate n z.toList, cs.length = z.size := fun cs h => by rw [(List.mem_replicate.1 h).2]; simp
  by_cases hi : i < n * z.size
  · have hq : i / z.size < n := (Nat.div_lt_iff_lt_mul hz).2 hi
    have hr := Nat.mod_lt i hz
    have := flatten_get hl (i := i / z.size) (cs := z.toList) (by simp [hq]) (j := i % z.size) (v := z[i % z.size]'hr) (by simp [hr])
    rw [Nat.div_add_mod'] at this
    rw [this]
    simp [madeCells, hi, hr]
  · rw [List.getElem?_eq_none (by simp [madeCells]; omega), List.getElem?_eq_none (by rw [flatten_length hl]; simp; omega)]
theorem mk_run [Stab F] (n : Nat) {e : TypeId} {ti : TI} (hs : St D I w0 J M F w) (h : mkq lc.L ops ρ o = some (e, ti, (n : Int), (n : Int))) (hb : ti.bytes * n ≤ 281474976710656) (hn : n ≤ 9223372036854775807) :
    wantE ops ρ o = true ∧ ∃ w1 J1, (execOp (ev ρ) o).run P w = .ok (.value (.slice (some ⟨w.heap.size, 0, none⟩) n n)) w1 ∧ St D I w0 J1 (.own (some ⟨w.heap.size, 0, none⟩) n e ti.size (List.replicate n ti.zero) :: M) F w1 ∧ Below w.heap.size w w1 := by
  unfold mkq at h
  split at h <;> try (cases h; done)
  rename_i hw
  split at h <;> try (cases h; done)
  rename_i T x y ho
  split at h <;> try (cases h; done)
  rename_i e' k1 n1 k2 n2 hT hx hy
  split at h <;> try (cases h; done)
  rename_i ti' he
  cases hc : (Nat.blt 0 ti'.size && Nat.beq ti'.zero.length ti'.size) with
  | false => rw [hc] at h; cases h
  | true =>
  rw [hc] at h
  simp only [cond_true, Option.some.injEq, Prod.mk.injEq] at h
  obtain ⟨rfl, rfl, rfl, rfl⟩ := h
  simp only [Bool.and_eq_true] at hc
  have hpos : 0 < ti'.size := by rw [← Nat.blt_eq]; exact hc.1
  have hzl : ti'.zero.length = ti'.size := Nat.eq_of_beq_eq_true hc.2
  have hu := kdo_ok lc.ok hT
  simp only [KdOk] at hu
  have hinfo := (lc.ok _ ti' he).info
  obtain ⟨i, hi⟩ : ∃ i, P.info? e' = some i := by
    cases hi : P.info? e' with
    | none => simp [hi] at hinfo
    | some i => exact ⟨i, rfl⟩
  simp only [hi, Option.map_some, Option.some.injEq, Prod.mk.injEq] at hinfo
  obtain ⟨hi1, hi2, hi3⟩ := hinfo
  obtain ⟨z, hz, hzc⟩ := Option.map_eq_some_iff.1 hi3
  have hzs : z.cells.size = ti'.size := by rw [← hzl, ← hzc, Array.length_toList]
  have hr := run_makeSlice (P := P) w T e' i z hu hi hz k1 k2 n n (by omega) (by omega)
  have hcap := hr
  -- the run itself
  obtain ⟨w1, hrun, hown, hgr⟩ := run_make_full (P := P) w 0 T e' i z ti'.size hu hi hz hi1 k1 k2 n (by rw [hi2]; exact hb) (by simp only [maxLen]; omega) (Nat.zero_le _)
  rw [← hzs, madeCells_toList _ _ (by omega), hzc] at hown
  have hlen : (List.replicate n ti'.zero).length = n := by simp
  have : (execOp (ev ρ) o).run P w = .ok (.value (.slice (some ⟨w.heap.size, 0, none⟩) n n)) w1 := by
    unfold execOp
    simp only [ho, hx, hy, Sem.run_bind, hrun, Result.andThen_ok, Sem.run_pure]
  have hbel : Below w.heap.size w w1 := ⟨hgr.os, hgr.tape, hgr.output, hgr.size, fun k hk => hgr.block k hk (by simp)⟩
  have hs1 := hs.xt hbel
  have hok : (Rs.own (some ⟨w.heap.size, 0, none⟩) n e' ti'.size (List.replicate n ti'.zero)).ok w1 := by
    refine ⟨?_, fun cs h => by rw [(List.mem_replicate.1 h).2]; exact hzl⟩
    rw [hlen]; rw [hzs] at hown; exact hown
  refine ⟨hw, w1, fun b => J b ∧ b ≠ w.heap.size, this, ⟨hs1.b, ?_, ?_, ?_, fun b hb => hs1.u b hb.1, ?_⟩, hbel⟩
  · intro x hx
    rcases List.mem_cons.1 hx with rfl | hx
    · exact ⟨hok, fun b hb => by cases hb; exact ⟨.inl hs.s, fun h => h.2 rfl⟩⟩
    · exact ⟨(hs1.m x hx).1, fun b hb => ⟨((hs1.m x hx).2 b hb).1, fun hj => ((hs1.m x hx).2 b hb).2 hj.1⟩⟩
  · refine List.Pairwise.cons (fun x hx b hb => ?_) hs.d
    cases hb
    intro hb
    have := (hs.m x hx).1.lt hb
    simp at this
  · intro b hb
    have := hok.lt (b := w.heap.size) rfl
    exact ⟨hs1.j b hb, by omega⟩
  · exact Stab.mono (fun b hb hl => ⟨⟨hb, by omega⟩, hbel.block b hl⟩) hs.f
/-- A slice of so many zeros. -/
theorem mk [Stab F] (n : Nat) {e : TypeId} {ti : TI} (hs : St D I w0 J M F w) (h : mkq lc.L ops ρ o = some (e, ti, (n : Int), (n : Int))) (hb : ti.bytes * n ≤ 281474976710656) (hn : n ≤ 9223372036854775807)
    (k : ∀ g J w, St D I w0 J (.own (some ⟨g, 0, none⟩) n e ti.size (List.replicate n ti.zero) :: M) F w → Wl P N ops os K (updo N ρ o.dst (.slice (some ⟨g, 0, none⟩) n n)) w) : Wl P N ops (o :: os) K ρ w := by
  obtain ⟨hw, w1, J1, hrun, hs1, _⟩ := mk_run (P := P) n hs h hb hn
  refine Wl.op hw ?_
  unfold OpR
  rw [hrun]
  exact k _ _ _ hs1
end
end Bo
namespace Bo
open Go Go.RowKit
section
variable {P : Program} [lc : LC P] {N : Nat} {ops : Array Oper} {o o' : Oper} {os os' : List Oper} {qs qs2 : Ob} {E : Nat → Prop} {K : Env → World → Prop} {ρ ρ' : Env} {w w0 ws w' : World} {D I J J0 : Nat → Prop} {M : List Rs} {F F0 : Pf}
theorem Ms.l {A B : List Rs} (h : Ms I (A ++ B) w) : Ms I A w := ⟨fun x hx => h.1 x (List.mem_append_left _ hx), (List.pairwise_append.1 h.2).1⟩
theorem St.l {A B : List Rs} (hs : St D I w0 J (A ++ B) F w) : St D I w0 J A F w := ⟨hs.b, fun x hx => hs.m x (List.mem_append_left _ hx), (List.pairwise_append.1 hs.d).1, hs.j, hs.u, hs.f⟩
theorem own_rc {a : Option Addr} {c T sz : Nat} {css : List (List Value)} (h : (Rs.own a c T sz css).ok w) : Rc sz a c css (fun _ => True) w := by
  refine ⟨?_, h.2, fun hne => ?_⟩
  · obtain ⟨⟨_, h⟩, _⟩ := h
    rcases h with ⟨h, hn⟩ | ⟨g, cap, cur, hv, _, _, hnc, _⟩
    · omega
    · obtain ⟨_, _, rfl⟩ := Value.slice.inj hv; exact hnc
  · obtain ⟨es, hes⟩ : ∃ es, css[0]? = some es := ⟨css[0]'(List.length_pos_iff.2 hne), List.getElem?_eq_getElem _⟩
    obtain ⟨g, cur, rfl, hh, _⟩ := own_at h hes
    refine ⟨g, 0, rfl, trivial, (Array.getElem?_eq_some_iff.1 hh).1, fun i cs hi j v hj => ?_⟩
    rw [Nat.zero_add]
    exact own_cell h hi hj
theorem St.orc (hs : St D I w0 J M F w) (i : Nat) {a : Option Addr} {c T sz : Nat} {css : List (List Value)} (h : M[i]? = some (.own a c T sz css)) : Rc sz a c css (fun _ => True) w := own_rc (hs.m _ (List.mem_of_getElem? h)).1
theorem St.nJ (hs : St D I w0 J M F w) (i : Nat) {x : Rs} (h : M[i]? = some x) {b : Nat} (hb : J b) : x.fp ≠ some b := fun e => ((hs.m x (List.mem_of_getElem? h)).2 b e).2 hb
/-! ### Numbers, spelled in another way -/
theorem an (m : Int) {n : Int} (h : arq lc.L ops ρ o = some n) (e : n = m) (hr : -9223372036854775808 ≤ m ∧ m ≤ 9223372036854775807) (k : Wl P N ops os K (updo N ρ o.dst (.int .i64 m)) w) : Wl P N ops (o :: os) K ρ w := by
  subst e; exact Bo.a h hr k
theorem dan (m : Int) {n : Int} (h : arq lc.L ops ρ o = some n) (e : n = m) (hr : -9223372036854775808 ≤ m ∧ m ≤ 9223372036854775807) (k : Wa P N ops E ws qs K (updo N ρ o.dst (.int .i64 m)) w) : Wa P N ops E ws (.q o qs) K ρ w := by
  subst e; exact da h hr k
theorem dvn (m : Int) {x y : Int} (h : dvq ops ρ o = some (true, x, y)) (e : x.tdiv y = m) (h0 : y ≠ 0) (hr : -9223372036854775808 ≤ m ∧ m ≤ 9223372036854775807) (k : Wl P N ops os K (updo N ρ o.dst (.int .i64 m)) w) : Wl P N ops (o :: os) K ρ w := by
  subst e; exact dv h h0 hr k
theorem ddvn (m : Int) {x y : Int} (h : dvq ops ρ o = some (true, x, y)) (e : x.tdiv y = m) (h0 : y ≠ 0) (hr : -9223372036854775808 ≤ m ∧ m ≤ 9223372036854775807) (k : Wa P N ops E ws qs K (updo N ρ o.dst (.int .i64 m)) w) : Wa P N ops E ws (.q o qs) K ρ w := by
  subst e; exact ddv h h0 hr k
theorem rmn (m : Int) {x y : Int} (h : dvq ops ρ o = some (false, x, y)) (e : x.tmod y = m) (h0 : y ≠ 0) (k : Wl P N ops os K (updo N ρ o.dst (.int .i64 m)) w) : Wl P N ops (o :: os) K ρ w := by
  subst e; exact rm h h0 k
theorem drmn (m : Int) {x y : Int} (h : dvq ops ρ o = some (false, x, y)) (e : x.tmod y = m) (h0 : y ≠ 0) (k : Wa P N ops E ws qs K (updo N ρ o.dst (.int .i64 m)) w) : Wa P N ops E ws (.q o qs) K ρ w := by
  subst e; exact drm h h0 k
/-! ### The call's own slices and blocks in a region that draws its order -/
theorem dixo (i j : Nat) {a : Option Addr} {n sz c T : Nat} {css : List (List Value)} (hs : St D I w0 J M F w') (h : ixq lc.L ops ρ o = some (a, n, (j : Int), sz)) (hM : M[i]? = some (.own a c T sz css)) (hj : j < css.length) (hn : n = css.length)
    (k : ∀ g, a = some ⟨g, 0, none⟩ → Wa P N ops E ws qs K (updo N ρ o.dst (.pointer (some ⟨g, j * sz, none⟩))) w) : Wa P N ops E ws (.q o qs) K ρ w := by
  obtain ⟨g, _, ha, _⟩ := own_at (hs.m _ (List.mem_of_getElem? hM)).1 (List.getElem?_eq_getElem hj)
  have hv : ∀ w', wantE ops ρ o = true ∧ (execOp (ev ρ) o).run P w' = .ok (.value (.pointer (some ⟨g, j * sz, none⟩))) w' := fun w' => by
    have := ixq_run (P := P) h (by omega) (by omega) ha w'
    simpa using this
  exact Wa.q (hv w).1 (fun _ w' _ => (hv w').2) (k g ha)
theorem dlo (i j k' : Nat) {g off' c T sz : Nat} {css : List (List Value)} {es : List Value} {v : Value} (hs : St D I w0 J M F ws) (h : ldq lc.L ops ρ o = some (g, off', none)) (hM : M[i]? = some (.own (some ⟨g, 0, none⟩) c T sz css)) (hj : css[j]? = some es) (ho : off' = j * sz + k') (hv : es[k']? = some v)
    (k : Wa P N ops E ws qs K (updo N ρ o.dst v) w) (he : ¬ E g := by exact id) : Wa P N ops E ws (.q o qs) K ρ w := by
  subst ho
  exact dlc h (own_cell (hs.m _ (List.mem_of_getElem? hM)).1 hj hv) k he
theorem dlon (i j : Nat) {g off' n c T sz : Nat} {css : List (List Value)} {es : List Value} (hs : St D I w0 J M F ws) (h : ldq lc.L ops ρ o = some (g, off', some n)) (hM : M[i]? = some (.own (some ⟨g, 0, none⟩) c T sz css)) (hj : css[j]? = some es) (ho : off' = j * sz) (hn : es.length = n)
    (k : Wa P N ops E ws qs K (updo N ρ o.dst (.agg es.toArray)) w) (he : ¬ E g := by exact id) : Wa P N ops E ws (.q o qs) K ρ w := by
  subst ho
  exact Wa.q (ldq_run (P := P) (cs := []) h).1 (fun _ w' hS => ldn_run h hn fun q v hq => hS.cell he (own_cell (hs.m _ (List.mem_of_getElem? hM)).1 hj hq)) k
/-- Loads of what may be written, in the world as it is: alone, or two that may come in either row. -/
theorem dle {v : Value} (h : wantE ops ρ o = true ∧ (execOp (ev ρ) o).run P w = .ok (.value v) w) (k : Wa P N ops E ws qs K (updo N ρ o.dst v) w) : Wa P N ops E ws (.e o qs) K ρ w := by
  intro hn hS
  exact Wa.e h.1 (OpR.val h.2 ⟨hS, k⟩) hn hS
theorem dlp {v v' : Value} {d d' : Nat} (hd : o.dst = some d) (hd' : o'.dst = some d') (hne : Nat.beq d d' = false)
    (h1 : wantE ops ρ o = true ∧ (execOp (ev ρ) o).run P w = .ok (.value v) w) (h2 : wantE ops ρ o' = true ∧ (execOp (ev ρ) o').run P w = .ok (.value v') w)
    (h3 : wantE ops (updo N ρ o.dst v) o' = true ∧ (execOp (ev (updo N ρ o.dst v)) o').run P w = .ok (.value v') w) (h4 : wantE ops (updo N ρ o'.dst v') o = true ∧ (execOp (ev (updo N ρ o'.dst v')) o).run P w = .ok (.value v) w)
    (k : Wa P N ops E ws qs K (updo N (updo N ρ o.dst v) o'.dst v') w) : Wa P N ops E ws (.p o o' qs) K ρ w := by
  intro hn hS
  refine Wa.p h1.1 h2.1 (OpR.val h1.2 ⟨hS, h3.1, OpR.val h3.2 ⟨hS, k⟩⟩) (OpR.val h2.2 ⟨hS, h4.1, OpR.val h4.2 ⟨hS, ?_⟩⟩) hn hS
  rw [hd, hd'] at k ⊢
  simp only [updo] at k ⊢
  rwa [upd_comm (fun e => by subst e; simp at hne)]
/-- What a load of a whole element yields. -/
theorem lonR (i j : Nat) {g off' n c T sz : Nat} {css : List (List Value)} {es : List Value} (hs : St D I w0 J M F w) (h : ldq lc.L ops ρ o = some (g, off', some n)) (hM : M[i]? = some (.own (some ⟨g, 0, none⟩) c T sz css)) (hj : css[j]? = some es) (ho : off' = j * sz) (hn : es.length = n) :
    wantE ops ρ o = true ∧ (execOp (ev ρ) o).run P w = .ok (.value (.agg es.toArray)) w := by
  subst ho
  exact ⟨(ldq_run (P := P) (cs := []) h).1, ldn_run h hn fun q v hq => own_cell (hs.m _ (List.mem_of_getElem? hM)).1 hj hq⟩
theorem loR (i j k' : Nat) {g off' c T sz : Nat} {css : List (List Value)} {es : List Value} {v : Value} (hs : St D I w0 J M F w) (h : ldq lc.L ops ρ o = some (g, off', none)) (hM : M[i]? = some (.own (some ⟨g, 0, none⟩) c T sz css)) (hj : css[j]? = some es) (ho : off' = j * sz + k') (hv : es[k']? = some v) :
    wantE ops ρ o = true ∧ (execOp (ev ρ) o).run P w = .ok (.value v) w := by
  subst ho
  exact ⟨(ldq_run (P := P) (cs := []) h).1, ld1_run h (own_cell (hs.m _ (List.mem_of_getElem? hM)).1 hj hv)⟩
theorem bkR {b off : Nat} {T : TypeId} {cs : List Value} {v : Value} (h : ldq lc.L ops ρ o = some (b, off, none)) (hb : Bk w b T cs) (hv : cs[off]? = some v) :
    wantE ops ρ o = true ∧ (execOp (ev ρ) o).run P w = .ok (.value v) w :=
  ⟨(ldq_run (P := P) (cs := []) h).1, ld1_run h (by rw [hb.cell]; exact hv)⟩
theorem dso [Stab F] (i j k' : Nat) (es' : List Value) (css' : List (List Value)) {g off' c T sz : Nat} {css : List (List Value)} {es new : List Value} (hs : St D I w0 J M F w) (h : stq lc.L ops ρ o = some (g, off', new)) (hM : M[i]? = some (.own (some ⟨g, 0, none⟩) c T sz css)) (hj : css[j]? = some es) (ho : off' = j * sz + k') (hk : Nat.ble (k' + new.length) sz = true) (hes : spl es k' new = es') (hc : css.set j es' = css') (he : E g)
    (k : ∀ J w, St D I w0 J (M.set i (.own (some ⟨g, 0, none⟩) c T sz css')) F w → Wa P N ops E ws qs K (updo N ρ o.dst undef) w) : Wa P N ops E ws (.e o qs) K ρ w := by
  subst ho hes hc
  intro hn hS
  obtain ⟨cs, hb, hl, hok⟩ := own_set (hs.m _ (List.mem_of_getElem? hM)).1 hj (Nat.le_of_ble_eq_true hk)
  obtain ⟨hw, hr⟩ := stq_run (P := P) h hb hl
  obtain ⟨J', hs'⟩ := hs.turn (w' := w.setRow g (spl cs (j * sz + k') new).toArray) (y := .own (some ⟨g, 0, none⟩) c T sz (css.set j (spl es k' new))) hM (grown_setRow w g _) hok (.inl rfl)
  refine Wa.e hw ?_ hn hS
  unfold OpR
  rw [hr]
  refine ⟨⟨by simpa using hS.1, fun b hb' he' => ?_⟩, k J' _ hs'⟩
  rw [setRow_other w g b _ (fun e => he' (e ▸ he))]
  exact hS.2 b hb' he'
theorem dsb [Stab F] (i : Nat) (cs' : List Value) {b off : Nat} {T : TypeId} {cs new : List Value} (hs : St D I w0 J M F w) (h : stq lc.L ops ρ o = some (b, off, new)) (hM : M[i]? = some (.blk b T cs)) (hl : Nat.ble (off + new.length) cs.length = true) (hc : spl cs off new = cs') (he : E b)
    (k : ∀ J w, St D I w0 J (M.set i (.blk b T cs')) F w → Wa P N ops E ws qs K (updo N ρ o.dst undef) w) : Wa P N ops E ws (.e o qs) K ρ w := by
  subst hc
  intro hn hS
  have hb := hs.bk i hM
  obtain ⟨hw, hr⟩ := stq_run (P := P) h hb (Nat.le_of_ble_eq_true hl)
  obtain ⟨J', hs'⟩ := hs.turn (w' := w.setRow b (spl cs off new).toArray) (y := .blk b T (spl cs off new)) hM (grown_setRow w b _) (setRow_heap w b _ _ T _ hb) (.inl rfl)
  refine Wa.e hw ?_ hn hS
  unfold OpR
  rw [hr]
  refine ⟨⟨by simpa using hS.1, fun x hb' he' => ?_⟩, k J' _ hs'⟩
  rw [setRow_other w b x _ (fun e => he' (e ▸ he))]
  exact hS.2 x hb' he'
/-- append in such a region; the old row is not written outside E. -/
theorem dap [Stab F] (i : Nat) {e sz by_ n c n' c' : Nat} {a a' : Option Addr} {css css' : List (List Value)} (hs : St D I w0 J M F w) (hq : apq lc.L ops ρ o = some (e, sz, by_, a, n, c, a', n', c'))
    (hM : M[i]? = some (.own a c e sz css)) (hn : n = css.length) (hr : Rc sz a' c' css' J w) (hn' : n' = css'.length) (h1 : ∀ cs ∈ css', ∀ v ∈ cs, v.oneCell' = true) (hb : (css.length + css'.length) * by_ ≤ 140737488355328) (hm : css.length + css'.length ≤ 9223372036854775807)
    (he : ∀ b, (Rs.own a c e sz css).fp = some b → E b)
    (k : ∀ a c J w, St D I w0 J (M.set i (.own a c e sz (css ++ css'))) F w → Wa P N ops E ws qs K (updo N ρ o.dst (.slice a (css ++ css').length c)) w) : Wa P N ops E ws (.e o qs) K ρ w := by
  intro hns hS
  obtain ⟨hw, _, a1, c1, w1, hrun, hok, hg, hfp⟩ := apq_run (P := P) hq (hs.m _ (List.mem_of_getElem? hM)).1 hn hr hn' h1 hb hm
  obtain ⟨J', hs'⟩ := hs.turn hM hg hok hfp
  refine Wa.e hw ?_ hns hS
  unfold OpR
  rw [hrun]
  exact ⟨hS.mod (D := fun b => some b = (Rs.own a c e sz css).fp) ⟨hg.os, hg.tape, hg.output, hg.size, fun b hb' hd => hg.block b hb' fun e' => hd e'⟩ (fun b _ hd => he b hd.symm), k a1 c1 J' w1 hs'⟩
/-! ### What is never written again -/
theorem St.fz [Stab F] {b : Nat} {T : TypeId} {cs : List Value} (hs : St D I w0 J (.blk b T cs :: M) F w) : St D I w0 (fun x => J x ∨ x = b) M (fun J w => Im b T cs J w ∧ F J w) w := by
  have h0 := hs.m _ (List.mem_cons_self ..)
  have hb := h0.2 b rfl
  refine ⟨hs.b, fun x hx => ⟨(hs.m x (List.mem_cons_of_mem _ hx)).1, fun y hy => ⟨((hs.m x (List.mem_cons_of_mem _ hx)).2 y hy).1, fun h => ?_⟩⟩, hs.d.of_cons, fun y hy => .inl (hs.j y hy), fun y hy => ?_, ⟨.inr rfl, h0.1⟩, Stab.mono (fun y hy hl => ⟨.inl hy, rfl⟩) hs.f⟩
  · rcases h with h | rfl
    · exact ((hs.m x (List.mem_cons_of_mem _ hx)).2 y hy).2 h
    · exact (List.pairwise_cons.1 hs.d).1 x hx y rfl hy
  · rcases hy with hy | rfl
    · exact hs.u y hy
    · exact hb.1.imp .inr id
/-- A new variable, and at once its value: never written again. -/
theorem ais [Stab F] {o' : Oper} {T : TypeId} {cs new : List Value} (hs : St D I w0 J M F w) (h : alq lc.L ops ρ o = some (T, cs))
    (h' : ∀ b, stq lc.L ops (updo N ρ o.dst (.pointer (some ⟨b, 0, none⟩))) o' = some (b, 0, new)) (hl : Nat.beq new.length cs.length = true)
    (k : ∀ b J w, St D I w0 J M (fun J w => Im b T new J w ∧ F J w) w → Wl P N ops os K (updo N (updo N ρ o.dst (.pointer (some ⟨b, 0, none⟩))) o'.dst undef) w) : Wl P N ops (o :: o' :: os) K ρ w := by
  have hl := Nat.eq_of_beq_eq_true hl
  have e : spl cs 0 new = new := by simp [spl, hl]
  exact am hs h fun b w1 hs1 => sb 0 hs1 (h' b) rfl (Nat.ble_eq_true_of_le (by omega)) fun J2 w2 hs2 => k b _ w2 (St.fz (by rw [e] at hs2; exact hs2))
/-- The first ones of a slice of the call's own. -/
theorem own_take {a : Option Addr} {c T sz : Nat} {css : List (List Value)} (h : (Rs.own a c T sz css).ok w) {n : Nat} (hn : n ≤ css.length) (hne : a ≠ none) : (Rs.own a c T sz (css.take n)).ok w := by
  obtain ⟨⟨_, h⟩, hsz⟩ := h
  rcases h with ⟨h, _⟩ | ⟨g, cap, cur, hv, hb, hh, hnc, hcm, hcs, htk⟩
  · exact absurd (Value.slice.inj h).1 hne
  · obtain ⟨rfl, _, rfl⟩ := Value.slice.inj hv
    have hall : ∀ cs ∈ css.take n, cs.length = sz := fun cs hcs => hsz cs (List.mem_of_mem_take hcs)
    have hlen : (css.take n).length = n := by simp; omega
    refine ⟨⟨flatten_length hall, .inr ⟨g, c, cur, rfl, hb, hh, by omega, hcm, hcs, ?_⟩⟩, hall⟩
    rw [hlen]
    have hle : n * sz ≤ css.length * sz := Nat.mul_le_mul_right _ hn
    have h1 : css.flatten = (css.take n).flatten ++ (css.drop n).flatten := by rw [← List.flatten_append, List.take_append_drop]
    rw [h1] at htk
    have h2 := congrArg (List.take (n * sz)) htk
    rw [List.take_take, Nat.min_eq_left hle, List.take_append_of_le_length (by rw [flatten_length hall, hlen]; exact Nat.le_refl _), List.take_of_length_le (l := (css.take n).flatten) (by rw [flatten_length hall, hlen]; exact Nat.le_refl _)] at h2
    exact h2
theorem slo [Stab F] (i : Nat) (m : Nat) {sz n c T : Nat} {a : Option Addr} {hi : Option Int} {css : List (List Value)} (hs : St D I w0 J M F w) (hq : slq lc.L ops ρ o = some (sz, a, n, c, none, hi)) (hM : M[i]? = some (.own a c T sz css)) (hn : n = css.length) (hh : hi.getD n = m) (hm : m ≤ css.length) (hne : a ≠ none)
    (k : ∀ w, St D I w0 J (M.set i (.own a c T sz (css.take m))) F w → Wl P N ops os K (updo N ρ o.dst (.slice a m c)) w) : Wl P N ops (o :: os) K ρ w := by
  have hok := (hs.m _ (List.mem_of_getElem? hM)).1
  have hnc : css.length ≤ c := by
    obtain ⟨⟨_, h⟩, _⟩ := hok
    rcases h with ⟨h, _⟩ | ⟨g, cap, cur, hv, _, _, hnc, _⟩
    · exact absurd (Value.slice.inj h).1 hne
    · obtain ⟨_, _, rfl⟩ := Value.slice.inj hv; exact hnc
  have ha : ∃ g, a = some ⟨g, 0, none⟩ := by
    obtain ⟨⟨_, h⟩, _⟩ := hok
    rcases h with ⟨h, _⟩ | ⟨g, cap, cur, hv, _⟩
    · exact absurd (Value.slice.inj h).1 hne
    · exact ⟨g, (Value.slice.inj hv).1⟩
  obtain ⟨g, rfl⟩ := ha
  obtain ⟨hw, _, hrun⟩ := slq_run (P := P) (l := 0) hq hh rfl (by omega) (Nat.zero_le _) w
  have e : (Value.slice (if c = 0 then some ⟨g, 0, none⟩ else (some (⟨g, 0, none⟩ : Addr)).map (·.add (0 * sz))) (m - 0) (c - 0)) = .slice (some ⟨g, 0, none⟩) m c := by
    rw [Nat.zero_mul, Nat.sub_zero, Nat.sub_zero]
    simp [add_n]
  rw [e] at hrun
  obtain ⟨J', hs'⟩ := hs.turn (w' := w) (y := .own (some ⟨g, 0, none⟩) c T sz (css.take m)) hM ⟨rfl, rfl, rfl, Nat.le_refl _, fun _ _ _ => rfl⟩ (own_take hok hm hne) (.inl rfl)
  have hs2 : St D I w0 J (M.set i (.own (some ⟨g, 0, none⟩) c T sz (css.take m))) F w := by
    refine ⟨hs.b, fun x hx => ?_, hs'.d, hs.j, hs.u, hs.f⟩
    rcases List.mem_or_eq_of_mem_set hx with hx | rfl
    · exact hs.m x hx
    · exact ⟨own_take hok hm hne, (hs.m _ (List.mem_of_getElem? hM)).2⟩
  exact Wl.op hw (OpR.val hrun (k w hs2))
/-- A load of a block of the call's own and a slice's literal, in either row. -/
theorem dlbs [Stab F] (i : Nat) (css : List (List Value)) {d d' : Nat} {e sz b off : Nat} {T : TypeId} {cs : List Value} {v : Value} (hs : St D I w0 J M F w) (hd : o.dst = some d) (hd' : o'.dst = some d') (hne : Nat.beq d d' = false)
    (h1 : ldq lc.L ops ρ o = some (b, off, none)) (hM : M[i]? = some (.blk b T cs)) (hv : cs[off]? = some v) (h2 : bsq lc.L ops ρ o' = some (e, sz, css))
    (h3 : bsq lc.L ops (updo N ρ o.dst v) o' = some (e, sz, css)) (h4 : ∀ u, ldq lc.L ops (updo N ρ o'.dst u) o = some (b, off, none))
    (k : ∀ a w, St D I w0 J M (fun J w => Rc sz a css.length css J w ∧ F J w) w → Wa P N ops E ws qs K (updo N (updo N ρ o.dst v) o'.dst (.slice a css.length css.length)) w) : Wa P N ops E ws (.p o o' qs) K ρ w := by
  intro hn hS
  have hb := hs.bk i hM
  have r1 := bkR (P := P) h1 hb hv
  obtain ⟨hw2, _, hl, hr2⟩ := bsq_run (P := P) h2
  obtain ⟨hw3, _, _, hr3⟩ := bsq_run (P := P) h3
  have hs' := Rc.new (e := e) hl hs
  refine Wa.p r1.1 hw2 (OpR.val r1.2 ⟨hS, hw3, ?_⟩) ?_ hn hS
  · unfold OpR
    rw [hr3]
    exact ⟨hS.below (below_push w _), k _ _ hs'⟩
  · unfold OpR
    rw [hr2]
    have r4 := bkR (P := P) (h4 (.slice (some ⟨w.heap.size, 0, none⟩) css.length css.length)) (hs'.bk i hM) hv
    refine ⟨hS.below (below_push w _), r4.1, ?_⟩
    simp only
    rw [r4.2]
    refine ⟨hS.below (below_push w _), ?_⟩
    have := k _ _ hs'
    rw [hd, hd'] at this ⊢
    simp only [updo] at this ⊢
    rwa [upd_comm (fun e => by subst e; simp at hne)]
/-- make and a new variable, in either row. -/
theorem dmkal [Stab F] (n : Nat) {d d' : Nat} {e : TypeId} {ti : TI} {T : TypeId} {cs : List Value} (hs : St D I w0 J M F w) (hd : o.dst = some d) (hd' : o'.dst = some d') (hne : Nat.beq d d' = false)
    (h1 : mkq lc.L ops ρ o = some (e, ti, (n : Int), (n : Int))) (h2 : alq lc.L ops ρ o' = some (T, cs)) (h3 : ∀ u, alq lc.L ops (updo N ρ o.dst u) o' = some (T, cs)) (h4 : ∀ u, mkq lc.L ops (updo N ρ o'.dst u) o = some (e, ti, (n : Int), (n : Int)))
    (hb : ti.bytes * n ≤ 281474976710656) (hn : n ≤ 9223372036854775807)
    (k : ∀ g b J w, St D I w0 J (.blk b T cs :: .own (some ⟨g, 0, none⟩) n e ti.size (List.replicate n ti.zero) :: M) F w → Wa P N ops E ws qs K (updo N (updo N ρ o.dst (.slice (some ⟨g, 0, none⟩) n n)) o'.dst (.pointer (some ⟨b, 0, none⟩))) w) : Wa P N ops E ws (.p o o' qs) K ρ w := by
  intro hns hS
  obtain ⟨hw1, w1, J1, hrun, hs1, hbel⟩ := mk_run (P := P) n hs h1 hb hn
  have a2 := OpR.alq (P := P) (w := w) h2 (R := fun v' w1 => Sx E ws w1 ∧ wantE ops (updo N ρ o'.dst v') o = true ∧ OpR P o (updo N ρ o'.dst v') w1 fun v w2 => Sx E ws w2 ∧ Wa P N ops E ws qs K (updo N (updo N ρ o'.dst v') o.dst v) w2) (by
    refine ⟨hS.below (below_push w _), ?_⟩
    obtain ⟨hw3, w3, J3, hrun3, hs3, hbel3⟩ := mk_run (P := P) n (hs.mut T cs) (h4 (.pointer (some ⟨w.heap.size, 0, none⟩))) hb hn
    refine ⟨hw3, ?_⟩
    unfold OpR
    rw [hrun3]
    refine ⟨(hS.below (below_push w _)).below hbel3, ?_⟩
    have := k _ _ _ _ (hs3.perm (.swap ..))
    rw [hd, hd'] at this ⊢
    simp only [updo] at this ⊢
    rwa [upd_comm (fun e => by subst e; simp at hne)])
  refine Wa.p hw1 a2.1 ?_ a2.2 hns hS
  unfold OpR
  rw [hrun]
  have a3 := OpR.alq (P := P) (w := w1) (h3 (.slice (some ⟨w.heap.size, 0, none⟩) n n)) (R := fun v' w2 => Sx E ws w2 ∧ Wa P N ops E ws qs K (updo N (updo N ρ o.dst (.slice (some ⟨w.heap.size, 0, none⟩) n n)) o'.dst v') w2) ⟨(hS.below hbel).below (below_push w1 _), k _ _ _ _ (hs1.mut T cs)⟩
  exact ⟨hS.below hbel, a3.1, a3.2⟩
theorem dmk [Stab F] (n : Nat) {e : TypeId} {ti : TI} (hs : St D I w0 J M F w) (h : mkq lc.L ops ρ o = some (e, ti, (n : Int), (n : Int))) (hb : ti.bytes * n ≤ 281474976710656) (hn : n ≤ 9223372036854775807)
    (k : ∀ g J w, St D I w0 J (.own (some ⟨g, 0, none⟩) n e ti.size (List.replicate n ti.zero) :: M) F w → Wa P N ops E ws qs K (updo N ρ o.dst (.slice (some ⟨g, 0, none⟩) n n)) w) : Wa P N ops E ws (.e o qs) K ρ w := by
  intro hns hS
  obtain ⟨hw, w1, J1, hrun, hs1, hbel⟩ := mk_run (P := P) n hs h hb hn
  refine Wa.e hw ?_ hns hS
  unfold OpR
  rw [hrun]
  exact ⟨hS.below hbel, k _ _ _ hs1⟩
theorem dam [Stab F] {T : TypeId} {cs : List Value} (hs : St D I w0 J M F w) (h : alq lc.L ops ρ o = some (T, cs))
    (k : ∀ b w, St D I w0 (fun x => J x ∧ x ≠ b) (.blk b T cs :: M) F w → Wa P N ops E ws qs K (updo N ρ o.dst (.pointer (some ⟨b, 0, none⟩))) w) : Wa P N ops E ws (.e o qs) K ρ w := by
  intro hns hS
  have h' := OpR.alq (P := P) (w := w) h (R := fun v w' => Sx E ws w' ∧ Wa P N ops E ws qs K (updo N ρ o.dst v) w') ⟨hS.below (below_push w _), k _ _ (hs.mut T cs)⟩
  exact Wa.e h'.1 h'.2 hns hS
/-- make and a new variable, each with a row of its own behind it. -/
theorem dmka [Stab F] (n : Nat) {e : TypeId} {ti : TI} {T : TypeId} {cs : List Value} (hs : St D I w0 J M F w)
    (h1 : mkq lc.L ops ρ o = some (e, ti, (n : Int), (n : Int))) (h2 : alq lc.L ops ρ o' = some (T, cs)) (hb : ti.bytes * n ≤ 281474976710656) (hn : n ≤ 9223372036854775807)
    (k1 : ∀ g J w, St D I w0 J (.own (some ⟨g, 0, none⟩) n e ti.size (List.replicate n ti.zero) :: M) F w → Wa P N ops E ws qs K (updo N ρ o.dst (.slice (some ⟨g, 0, none⟩) n n)) w)
    (k2 : ∀ b w, St D I w0 (fun x => J x ∧ x ≠ b) (.blk b T cs :: M) F w → Wa P N ops E ws qs2 K (updo N ρ o'.dst (.pointer (some ⟨b, 0, none⟩))) w) : Wa P N ops E ws (.a o qs o' qs2) K ρ w := by
  intro hns hS
  obtain ⟨hw1, w1, J1, hrun, hs1, hbel⟩ := mk_run (P := P) n hs h1 hb hn
  have h' := OpR.alq (P := P) (w := w) h2 (R := fun v w' => Sx E ws w' ∧ Wa P N ops E ws qs2 K (updo N ρ o'.dst v) w') ⟨hS.below (below_push w _), k2 _ _ (hs.mut T cs)⟩
  refine Wa.a hw1 h'.1 ?_ h'.2 hns hS
  unfold OpR
  rw [hrun]
  exact ⟨hS.below hbel, k1 _ _ _ hs1⟩
end
end Bo
namespace Bo
open Go Go.RowKit
def u8c (b : UInt8) : List Value := [.int .u8 b.toNat]
theorem u8_flat (l : List UInt8) : (l.map u8c).flatten = l.map fun b => Value.int .u8 b.toNat := by
  induction l with
  | nil => rfl
  | cons b l ih => simp [u8c, ih]
section
variable {P : Program} [lc : LC P] {N : Nat} {ops : Array Oper} {o : Oper} {os : List Oper} {K : Env → World → Prop} {ρ : Env} {w w0 : World} {D I J : Nat → Prop} {M : List Rs} {F : Pf}
/-- append of a text onto bytes of the call's own. -/
def asq (L : Lay) (ops : Array Oper) (ρ : Env) (o : Oper) : Option (TypeId × Option Addr × Nat × Nat × ByteArray) :=
  match wantE ops ρ o with
  | true =>
    match o.op with
    | .call cl =>
      match cl.callee, cl.args.toList, cl.argTypes.toList with
      | .builtin .append, [s, x], [T, T'] =>
        match kdo L T, kdo L T', ev ρ s, ev ρ x with
        | some (.sl e), some .str, .slice a n c, .string t => match L e with | some ti => bif Nat.beq ti.size 1 && Nat.beq ti.bytes 1 then some (e, a, n, c, t) else none | none => none
        | _, _, _, _ => none
      | _, _, _ => none
    | _ => none
  | false => none
theorem asq_run {e n c : Nat} {a : Option Addr} {t : ByteArray} {bs : List UInt8} (hq : asq lc.L ops ρ o = some (e, a, n, c, t)) (hz : (P.info? e).map (·.zero) = some (some (.int .u8 0)))
    (hown : (Rs.own a c e 1 (bs.map u8c)).ok w) (hn : n = bs.length) (hb : bs.length + t.size ≤ 140737488355328) :
    wantE ops ρ o = true ∧ ∃ a1 c1 w', (execOp (ev ρ) o).run P w = .ok (.value (.slice a1 (bs.length + t.size) c1)) w' ∧ (Rs.own a1 c1 e 1 ((bs ++ t.data.toList).map u8c)).ok w' ∧ w.grownBy w' (Rs.own a c e 1 (bs.map u8c)).fp ∧
      ((Rs.own a1 c1 e 1 ((bs ++ t.data.toList).map u8c)).fp = (Rs.own a c e 1 (bs.map u8c)).fp ∨ ∃ b, (Rs.own a1 c1 e 1 ((bs ++ t.data.toList).map u8c)).fp = some b ∧ w.heap.size ≤ b) := by
  unfold asq at hq
  split at hq <;> try (cases hq; done)
  rename_i hw
  split at hq <;> try (cases hq; done)
  rename_i cl ho
  split at hq <;> try (cases hq; done)
  rename_i s x T T' hcl hargs htys
  split at hq <;> try (cases hq; done)
  rename_i e1 a1 n1 c1 t1 hT hT' hsv hxv
  split at hq <;> try (cases hq; done)
  rename_i ti he
  cases hcnd : (Nat.beq ti.size 1 && Nat.beq ti.bytes 1) with
  | false => rw [hcnd] at hq; cases hq
  | true =>
  rw [hcnd] at hq
  simp only [cond_true, Option.some.injEq, Prod.mk.injEq] at hq
  obtain ⟨rfl, rfl, rfl, rfl, rfl⟩ := hq
  simp only [Bool.and_eq_true] at hcnd
  have h1 : ti.size = 1 := Nat.eq_of_beq_eq_true hcnd.1
  have h2 : ti.bytes = 1 := Nat.eq_of_beq_eq_true hcnd.2
  refine ⟨hw, ?_⟩
  have hu := kdo_ok lc.ok hT
  have hu' := kdo_ok lc.ok hT'
  simp only [KdOk] at hu hu'
  have hinfo := (lc.ok _ ti he).info
  obtain ⟨i, hi⟩ : ∃ i, P.info? e1 = some i := by
    cases hi : P.info? e1 with
    | none => simp [hi] at hinfo
    | some i => exact ⟨i, rfl⟩
  simp only [hi, Option.map_some, Option.some.injEq, Prod.mk.injEq] at hinfo hz
  obtain ⟨hi1, hi2, _⟩ := hinfo
  subst hn
  have hexec : ∀ w, (execOp (ev ρ) o).run P w = ((Builtin.append_ #[T, T'] o.type #[.slice a1 bs.length c1, .string t1]).run P w).andThen fun v w => .ok (.value v) w := by
    intro w
    unfold execOp
    have e1 : cl.args.map (ev ρ) = #[.slice a1 bs.length c1, .string t1] := by apply Array.ext'; simp [hargs, hsv, hxv]
    have e2 : cl.argTypes = #[T, T'] := by apply Array.ext'; simp [htys]
    simp only [ho, resolve, hcl, e1, e2, Sem.run_bind, Sem.run_pure, Result.andThen_ok, invoke, builtin]
  obtain ⟨⟨hfl, hv⟩, hsz⟩ := hown
  have hlen : (bs.map u8c).length = bs.length := by simp
  rw [hlen] at hfl hv
  have hcells : (bs.map u8c).flatten ++ Lib.strCells t1 = ((bs ++ t1.data.toList).map u8c).flatten := by rw [u8_flat, u8_flat, List.map_append]; rfl
  have hts : t1.size = t1.data.toList.length := by rw [Array.length_toList]; rfl
  have hsz2 : ∀ cs ∈ (bs ++ t1.data.toList).map u8c, cs.length = 1 := by
    intro cs hcs
    obtain ⟨x, _, rfl⟩ := List.mem_map.1 hcs
    rfl
  have hlen2 : ((bs ++ t1.data.toList).map u8c).length = bs.length + t1.size := by rw [List.length_map, List.length_append, hts]
  have fin : ∀ base, w.ownsRow base e1 1 (.slice a1 bs.length c1) bs.length (bs.map u8c).flatten → base ≤ w.heap.size →
      ∃ a2 c2 w', (execOp (ev ρ) o).run P w = .ok (.value (.slice a2 (bs.length + t1.size) c2)) w' ∧ w'.ownsRow base e1 1 (.slice a2 (bs.length + t1.size) c2) (bs.length + t1.size) ((bs ++ t1.data.toList).map u8c).flatten ∧ w.grownBy w' (Value.slice a1 bs.length c1).ownBlock := by
    intro base hbase hbs
    obtain ⟨v', w', hrun, hown', hg, _⟩ := Lib.run_append_own_string (P := P) w base T T' o.type e1 i hu hu' hi hz (by rw [hi1, h1]) (by rw [hi2, h2]) (.slice a1 bs.length c1) bs.length (bs.map u8c).flatten hbase t1 (by simp only [maxLen]; omega) hb hbs
    rw [hcells] at hown'
    have hform : ∃ a2 c2, v' = .slice a2 (bs.length + t1.size) c2 := by
      rcases hown'.2 with ⟨rfl, h⟩ | ⟨g, cap, cur, rfl, _⟩
      · exact ⟨none, 0, by rw [h]⟩
      · exact ⟨_, cap, rfl⟩
    obtain ⟨a2, c2, rfl⟩ := hform
    exact ⟨a2, c2, w', by rw [hexec, hrun]; rfl, hown', hg⟩
  have toOk : ∀ {base : Nat} {a2 : Option Addr} {c2 : Nat} {w' : World}, w'.ownsRow base e1 1 (.slice a2 (bs.length + t1.size) c2) (bs.length + t1.size) ((bs ++ t1.data.toList).map u8c).flatten → (Rs.own a2 c2 e1 1 ((bs ++ t1.data.toList).map u8c)).ok w' := by
    intro base a2 c2 w' h
    refine ⟨?_, hsz2⟩
    rw [hlen2]
    refine ⟨h.1, ?_⟩
    rcases h.2 with h | ⟨g, cap, cur, hv, hb, r⟩
    · exact .inl h
    · exact .inr ⟨g, cap, cur, hv, Nat.zero_le _, r⟩
  have efp : ∀ (a2 : Option Addr) (c2 : Nat) (l : List UInt8) (k : Nat), (Rs.own a2 c2 e1 1 (l.map u8c)).fp = (Value.slice a2 k c2).ownBlock := by intro a2 c2 l k; cases a2 <;> rfl
  rcases hv with ⟨hv, hn0⟩ | ⟨g, cap, cur, hv, _, hh, hnc, hcm, hcs, htk⟩
  · obtain ⟨rfl, _, rfl⟩ := Value.slice.inj hv
    obtain ⟨a2, c2, w', hrun, ho', hg⟩ := fin w.heap.size ⟨hfl, .inl ⟨hv, hn0⟩⟩ (Nat.le_refl _)
    refine ⟨a2, c2, w', hrun, toOk ho', by rw [efp _ _ _ bs.length]; exact hg, ?_⟩
    rcases ho'.2 with ⟨h, _⟩ | ⟨g', cap', cur', h, hb', _⟩
    · obtain ⟨rfl, _, _⟩ := Value.slice.inj h; exact .inl rfl
    · obtain ⟨rfl, _, _⟩ := Value.slice.inj h; exact .inr ⟨g', rfl, hb'⟩
  · obtain ⟨rfl, _, rfl⟩ := Value.slice.inj hv
    obtain ⟨a2, c2, w', hrun, ho', hg⟩ := fin 0 ⟨hfl, .inr ⟨g, c1, cur, rfl, Nat.zero_le _, hh, hnc, hcm, hcs, htk⟩⟩ (Nat.zero_le _)
    refine ⟨a2, c2, w', hrun, toOk ho', by rw [efp _ _ _ bs.length]; exact hg, ?_⟩
    by_cases hroom : bs.length + t1.size ≤ c1
    · have hr := Lib.run_append_room_string (P := P) w T T' o.type e1 i hu hu' hi (by rw [hi1, h1]) g bs.length c1 cur hh t1 hroom (by omega)
      rw [hexec, hr] at hrun
      simp only [Result.andThen_ok, Result.ok.injEq, Next.value.injEq] at hrun
      obtain ⟨rfl, _, _⟩ := Value.slice.inj hrun.1
      exact .inl rfl
    · have hr := Lib.run_append_grow_string (P := P) w T T' o.type e1 i (.int .u8 0) hu hu' hi hz ⟨g, 0, none⟩ bs.length c1 (bs.map u8c).flatten (by rw [hi1, h1]; exact hfl) (fun j v hj => by
        rw [add_n, Nat.zero_add, ← htk, List.getElem?_take] at *
        split at hj
        · simp only [World.cell?, hh]; simpa using hj
        · cases hj) t1 (by omega) (by omega) (by
          rw [hi2, h2, Nat.mul_one]
          have := nextslicecap_le (need := bs.length + t1.size) (old := c1) (by omega)
          omega)
      rw [hexec, hr] at hrun
      simp only [Result.andThen_ok, Result.ok.injEq, Next.value.injEq] at hrun
      obtain ⟨rfl, _, _⟩ := Value.slice.inj hrun.1
      exact .inr ⟨w.heap.size, rfl, Nat.le_refl _⟩
/-- append of a text onto bytes of the call's own. -/
theorem aps [Stab F] (i : Nat) (bs' : List UInt8) {e n c : Nat} {a : Option Addr} {t : ByteArray} {bs : List UInt8} (hs : St D I w0 J M F w) (hq : asq lc.L ops ρ o = some (e, a, n, c, t)) (hM : M[i]? = some (.own a c e 1 (bs.map u8c))) (hn : n = bs.length) (hb : bs.length + t.size ≤ 140737488355328) (hz : (P.info? e).map (·.zero) = some (some (.int .u8 0))) (hbs : bs ++ t.data.toList = bs')
    (k : ∀ a c J w, St D I w0 J (M.set i (.own a c e 1 (bs'.map u8c))) F w → Wl P N ops os K (updo N ρ o.dst (.slice a bs'.length c)) w) : Wl P N ops (o :: os) K ρ w := by
  subst hbs
  obtain ⟨hw, a1, c1, w1, hrun, hok, hg, hfp⟩ := asq_run (P := P) hq hz (hs.m _ (List.mem_of_getElem? hM)).1 hn hb
  obtain ⟨J', hs'⟩ := hs.turn hM hg hok hfp
  refine Wl.op hw ?_
  unfold OpR
  rw [hrun]
  have := k a1 c1 J' w1 hs'
  rw [List.length_append] at this
  have hts : t.size = t.data.toList.length := by rw [Array.length_toList]; rfl
  rw [hts]; exact this
end
end Bo
namespace Bo
open Go Go.RowKit
section
variable {P : Program} [lc : LC P] {N : Nat} {ops : Array Oper} {o : Oper} {os : List Oper} {K : Env → World → Prop} {ρ : Env} {w : World}
def shq (ops : Array Oper) (ρ : Env) (o : Oper) : Option (Int × Int) :=
  match wantE ops ρ o with
  | true =>
    match o.op with
    | .binOp .shl _ x y _ => match ev ρ x, ev ρ y with | .int .i64 a, .int _ n => some (a, n) | _, _ => none
    | _ => none
  | false => none
theorem shn (m : Int) {a : Int} (n : Nat) (h : shq ops ρ o = some (a, (n : Int))) (hn : n ≤ 64) (e : a * 2 ^ n = m) (hr : -9223372036854775808 ≤ m ∧ m ≤ 9223372036854775807) (k : Wl P N ops os K (updo N ρ o.dst (.int .i64 m)) w) : Wl P N ops (o :: os) K ρ w := by
  unfold shq at h
  split at h <;> try (cases h; done)
  rename_i hw
  split at h <;> try (cases h; done)
  rename_i T x y T' ho
  split at h <;> try (cases h; done)
  rename_i a' kk n' hx hy
  simp only [Option.some.injEq, Prod.mk.injEq] at h
  obtain ⟨rfl, rfl⟩ := h
  have hmin : min n 64 = n := by omega
  refine Wl.op hw (OpR.val ?_ k)
  have hb : IntKind.i64.bits = 64 := rfl
  have hneg : ¬ ((n : Int) < 0) := by omega
  simp [execOp, ho, hx, hy, eqGuard, binOp, Op.shift, hb, hmin, e, wrap_i64 hr, hneg]
def btq (ops : Array Oper) (ρ : Env) (o : Oper) : Option (BinOp × Int × Int) :=
  match wantE ops ρ o with
  | true =>
    match o.op with
    | .binOp op _ x y _ => match ev ρ x, ev ρ y with | .int .i64 a, .int .i64 b => some (op, a, b) | _, _ => none
    | _ => none
  | false => none
theorem toNat_of {x : Nat} (h : x < 9223372036854775808) : (BitVec.ofInt 64 (x : Int)).toNat = x := by
  rw [BitVec.toNat_ofInt]; omega
theorem btq_run {op : BinOp} {x y : Nat} (h : btq ops ρ o = some (op, (x : Int), (y : Int))) {v : Value} (hv : (Op.intBits op .i64 (x : Int) (y : Int)).run P w = .ok v w) (hop : op = .and ∨ op = .or ∨ op = .xor) :
    wantE ops ρ o = true ∧ (execOp (ev ρ) o).run P w = .ok (.value v) w := by
  unfold btq at h
  split at h <;> try (cases h; done)
  rename_i hw
  split at h <;> try (cases h; done)
  rename_i op' T x' y' T' ho
  split at h <;> try (cases h; done)
  rename_i a' b' hx hy
  simp only [Option.some.injEq, Prod.mk.injEq] at h
  obtain ⟨rfl, rfl, rfl⟩ := h
  refine ⟨hw, ?_⟩
  rcases hop with rfl | rfl | rfl <;> simp [execOp, ho, hx, hy, eqGuard, binOp, hv]
theorem bxor (x y : Nat) (h : btq ops ρ o = some (.xor, (x : Int), (y : Int))) (hx : x < 9223372036854775808) (hy : y < 9223372036854775808) (k : Wl P N ops os K (updo N ρ o.dst (.int .i64 ((x ^^^ y : Nat) : Int))) w) : Wl P N ops (o :: os) K ρ w := by
  have hlt : x ^^^ y < 2 ^ 63 := Nat.xor_lt_two_pow (by omega) (by omega)
  have h' := btq_run (P := P) (w := w) (v := .int .i64 ((x ^^^ y : Nat) : Int)) h (by
    simp only [Op.intBits]
    have : (BitVec.ofInt IntKind.i64.bits (x : Int) ^^^ BitVec.ofInt IntKind.i64.bits (y : Int)).toNat = x ^^^ y := by
      show (BitVec.ofInt 64 (x : Int) ^^^ BitVec.ofInt 64 (y : Int)).toNat = _
      rw [BitVec.toNat_xor, toNat_of hx, toNat_of hy]
    rw [this, wrap_i64 (by omega)]; rfl) (.inr (.inr rfl))
  exact Wl.op h'.1 (OpR.val h'.2 k)
theorem band (x y : Nat) (h : btq ops ρ o = some (.and, (x : Int), (y : Int))) (hx : x < 9223372036854775808) (hy : y < 9223372036854775808) (k : Wl P N ops os K (updo N ρ o.dst (.int .i64 ((x &&& y : Nat) : Int))) w) : Wl P N ops (o :: os) K ρ w := by
  have hlt : x &&& y < 2 ^ 63 := Nat.and_lt_two_pow _ (by omega)
  have h' := btq_run (P := P) (w := w) (v := .int .i64 ((x &&& y : Nat) : Int)) h (by
    simp only [Op.intBits]
    have : (BitVec.ofInt IntKind.i64.bits (x : Int) &&& BitVec.ofInt IntKind.i64.bits (y : Int)).toNat = x &&& y := by
      show (BitVec.ofInt 64 (x : Int) &&& BitVec.ofInt 64 (y : Int)).toNat = _
      rw [BitVec.toNat_and, toNat_of hx, toNat_of hy]
    rw [this, wrap_i64 (by omega)]; rfl) (.inl rfl)
  exact Wl.op h'.1 (OpR.val h'.2 k)
end
end Bo
