/- Lemmas for the statements of this seat: how the code of the program runs, function by function; no condition beyond what each states. -/
import Derived.Laws.CopyRow
import Derived.Maps.AppendAt
import Derived.Lib.Overlaps
import Derived.Laws.IdiomStrings
import Derived.Test.YtlpomcacaimnfaaGreatDoorBase5
set_option linter.unusedVariables false
set_option linter.unusedSectionVars false
set_option linter.unusedSimpArgs false
namespace Bo
open Go Go.RowKit
section
variable {P : Program} [lc : LC P] {N : Nat} {ops : Array Oper} {o o' : Oper} {os os' : List Oper} {qs qs2 : Ob} {E : Nat → Prop} {K : Env → World → Prop} {ρ ρ' : Env} {w w0 ws w' : World} {D I J : Nat → Prop} {M : List Rs} {F : Pf}
/-! ### A slice of the call's own, as the block in which it lies -/
theorem own_open {g c T sz : Nat} {css : List (List Value)} (h : (Rs.own (some ⟨g, 0, none⟩) c T sz css).ok w) :
    ∃ rest, Bk w g T (css.flatten ++ rest) ∧ (css.flatten ++ rest).length = c * sz ∧ css.length ≤ c ∧ c ≤ 9223372036854775807 ∧ ∀ x ∈ css, x.length = sz := by
  obtain ⟨⟨hl, h⟩, hsz⟩ := h
  rcases h with ⟨h, _⟩ | ⟨g', cap, cur, hv, _, hh, hnc, hcm, hcs, htk⟩
  · cases h
  · obtain ⟨e1, _, e2⟩ := Value.slice.inj hv
    cases e1
    subst e2
    have e : css.flatten ++ cur.toList.drop (css.length * sz) = cur.toList := by rw [← htk, List.take_append_drop]
    refine ⟨cur.toList.drop (css.length * sz), ?_, ?_, hnc, by simpa [maxLen] using hcm, hsz⟩
    · unfold Bk; rw [e]; exact hh
    · rw [e]; simpa using hcs
theorem own_shut {g c T sz : Nat} {cs rest : List Value} {css : List (List Value)} (hb : Bk w g T cs) (e : cs = css.flatten ++ rest) (hl : cs.length = c * sz) (hn : css.length ≤ c) (hc : c ≤ 9223372036854775807) (hsz : ∀ x ∈ css, x.length = sz) :
    (Rs.own (some ⟨g, 0, none⟩) c T sz css).ok w := by
  have hf := flatten_length hsz
  refine ⟨⟨hf, .inr ⟨g, c, cs.toArray, rfl, Nat.zero_le _, hb, hn, by simpa [maxLen] using hc, by simpa using hl, ?_⟩⟩, hsz⟩
  simp only [e, ← hf]
  exact List.take_left
theorem St.re [Stab F] (hs : St D I w0 J M F w) {i : Nat} {x y : Rs} (hx : M[i]? = some x) (hy : y.ok w) (hfp : y.fp = x.fp) : ∃ J', St D I w0 J' (M.set i y) F w :=
  hs.turn hx ⟨rfl, rfl, rfl, Nat.le_refl _, fun _ _ _ => rfl⟩ hy (.inl hfp)
theorem St.open [Stab F] {g c T sz : Nat} {css : List (List Value)} (hs : St D I w0 J M F w) (i : Nat) (hM : M[i]? = some (.own (some ⟨g, 0, none⟩) c T sz css)) :
    ∃ rest J', St D I w0 J' (M.set i (.blk g T (css.flatten ++ rest))) F w ∧ (css.flatten ++ rest).length = c * sz ∧ css.length ≤ c ∧ c ≤ 9223372036854775807 ∧ ∀ x ∈ css, x.length = sz := by
  obtain ⟨rest, hb, h⟩ := own_open (hs.m _ (List.mem_of_getElem? hM)).1
  obtain ⟨J', hs'⟩ := hs.re (y := .blk g T (css.flatten ++ rest)) hM hb rfl
  exact ⟨rest, J', hs', h⟩
theorem St.shut [Stab F] {g T : Nat} {cs : List Value} (hs : St D I w0 J M F w) (i : Nat) (c sz : Nat) (css : List (List Value)) (rest : List Value) (hM : M[i]? = some (.blk g T cs)) (e : cs = css.flatten ++ rest) (hl : cs.length = c * sz) (hn : css.length ≤ c) (hc : c ≤ 9223372036854775807) (hsz : ∀ x ∈ css, x.length = sz) :
    ∃ J', St D I w0 J' (M.set i (.own (some ⟨g, 0, none⟩) c T sz css)) F w :=
  hs.re hM (own_shut (hs.bk i hM) e hl hn hc hsz) rfl
/-- A slice's literal that is never written again, as the block in which it lies. -/
theorem bsi [Stab F] (css : List (List Value)) {e sz : Nat} (hs : St D I w0 J M F w) (h : bsq lc.L ops ρ o = some (e, sz, css))
    (k : ∀ b w, St D I w0 J M (fun J w => Im b e css.flatten J w ∧ F J w) w → Wl P N ops os K (updo N ρ o.dst (.slice (some ⟨b, 0, none⟩) css.length css.length)) w) : Wl P N ops (o :: os) K ρ w := by
  obtain ⟨hw, _, hl, hr⟩ := bsq_run (P := P) h
  refine Wl.op hw ?_
  unfold OpR
  rw [hr]
  exact k _ _ (hs.imm' e css.flatten)
/-- A cut, of which its place alone is told. -/
theorem slv {g off n c sz : Nat} {lo hi : Option Int} (l h : Nat) (hq : slq lc.L ops ρ o = some (sz, some ⟨g, off, none⟩, n, c, lo, hi)) (hh : hi.getD n = h) (hl : lo.getD 0 = l) (hc : h ≤ c) (hlh : l ≤ h)
    (k : Wl P N ops os K (updo N ρ o.dst (.slice (some ⟨g, if c = l then off else off + l * sz, none⟩) (h - l) (c - l))) w) : Wl P N ops (o :: os) K ρ w := by
  obtain ⟨hw, _, hr⟩ := slq_run (P := P) hq hh hl hc hlh w
  refine Wl.op hw (OpR.val hr ?_)
  have e : (if c = l then some (⟨g, off, none⟩ : Addr) else (some (⟨g, off, none⟩ : Addr)).map (·.add (l * sz))) = some ⟨g, if c = l then off else off + l * sz, none⟩ := by
    split <;> simp [add_n]
  rw [e]; exact k
theorem dslv {g off n c sz : Nat} {lo hi : Option Int} (l h : Nat) (hq : slq lc.L ops ρ o = some (sz, some ⟨g, off, none⟩, n, c, lo, hi)) (hh : hi.getD n = h) (hl : lo.getD 0 = l) (hc : h ≤ c) (hlh : l ≤ h)
    (k : Wa P N ops E ws qs K (updo N ρ o.dst (.slice (some ⟨g, if c = l then off else off + l * sz, none⟩) (h - l) (c - l))) w) : Wa P N ops E ws (.q o qs) K ρ w := by
  have e : (if c = l then some (⟨g, off, none⟩ : Addr) else (some (⟨g, off, none⟩ : Addr)).map (·.add (l * sz))) = some ⟨g, if c = l then off else off + l * sz, none⟩ := by
    split <;> simp [add_n]
  refine Wa.q (slq_run (P := P) hq hh hl hc hlh w).1 (fun _ w' _ => (slq_run (P := P) hq hh hl hc hlh w').2.2) ?_
  rw [e]; exact k
/-! ### copy -/
def cpq (L : Lay) (ops : Array Oper) (ρ : Env) (o : Oper) : Option (Nat × Nat × Nat × Nat × Option Addr × Nat) :=
  match wantE ops ρ o with
  | true =>
    match o.op with
    | .call cl =>
      match cl.callee, cl.args.toList, cl.argTypes.toList with
      | .builtin .copy, [d, s], [T, T'] =>
        match kdo L T, ev ρ d, ev ρ s with
        | some (.sl e), .slice (some ⟨b, off, none⟩) dn _, .slice a' sn _ => match L e with | some ti => some (ti.size, b, off, dn, a', sn) | none => none
        | _, _, _ => none
      | _, _, _ => none
    | _ => none
  | false => none
theorem cpq_run {sz b off dn sn : Nat} {a' : Option Addr} {T : TypeId} {cs new : List Value} (hq : cpq lc.L ops ρ o = some (sz, b, off, dn, a', sn)) (hb : Bk w b T cs) (hn : new.length = Nat.min sn dn * sz)
    (hsrc : new ≠ [] → ∃ b' off', a' = some ⟨b', off', none⟩ ∧ ∀ j v, new[j]? = some v → w.cell? ⟨b', off' + j, none⟩ = some v) (hfit : off + new.length ≤ cs.length) (h1 : ∀ v ∈ new, v.oneCell' = true) :
    wantE ops ρ o = true ∧ (execOp (ev ρ) o).run P w = .ok (.value (.int .i64 (Nat.min sn dn : Nat))) (w.setRow b (spl cs off new).toArray) := by
  unfold cpq at hq
  split at hq <;> try (cases hq; done)
  rename_i hw
  split at hq <;> try (cases hq; done)
  rename_i cl ho
  split at hq <;> try (cases hq; done)
  rename_i d s T1 T2 hcl hargs htys
  split at hq <;> try (cases hq; done)
  rename_i e1 b1 off1 dn1 dc1 a1 sn1 sc1 hT hdv hsv
  split at hq <;> try (cases hq; done)
  rename_i ti he
  simp only [Option.some.injEq, Prod.mk.injEq] at hq
  obtain ⟨rfl, rfl, rfl, rfl, rfl, rfl⟩ := hq
  refine ⟨hw, ?_⟩
  have hu := kdo_ok lc.ok hT
  simp only [KdOk] at hu
  have hf : (Builtin.firstCells ti.size (Nat.min sn1 dn1) (.slice a1 sn1 sc1)).run P w = .ok new.toArray w := by
    by_cases h0 : new = []
    · subst h0
      simp only [List.length_nil] at hn
      cases a1 with
      | none => simp [Builtin.firstCells]
      | some a => simp [Builtin.firstCells, ← hn, loadCells, loadCellsFrom]
    · obtain ⟨b', off', rfl, hc⟩ := hsrc h0
      exact run_firstCells_some w ti.size _ ⟨b', off', none⟩ _ _ new hn fun j v hj => by rw [add_n]; exact hc j v hj
  have hst := run_storeCells_at (P := P) b1 off1 T new 0 cs.toArray w hb (by simpa using hfit) h1
  simp only [Nat.add_zero, List.toList_toArray] at hst
  have e1 : cl.args.map (ev ρ) = #[.slice (some ⟨b1, off1, none⟩) dn1 dc1, .slice a1 sn1 sc1] := by apply Array.ext'; simp [hargs, hdv, hsv]
  have e2 : cl.argTypes = #[T1, T2] := by apply Array.ext'; simp [htys]
  have hsp : spl cs off1 new = cs.take off1 ++ new ++ cs.drop (off1 + new.length) := by simp [spl, List.append_assoc]
  unfold execOp
  simp only [ho, resolve, hcl, e1, e2, Sem.run_bind, Sem.run_pure, Result.andThen_ok, invoke, builtin]
  rw [hsp]
  simp [Builtin.copy_, run_underlying hu, Builtin.lenOf, (lc.ok _ ti he).sizeOf, hf, hst, goInt]
theorem cp [Stab F] (i : Nat) (new cs' : List Value) {sz b off dn sn : Nat} {a' : Option Addr} {T : TypeId} {cs : List Value} (hs : St D I w0 J M F w) (hq : cpq lc.L ops ρ o = some (sz, b, off, dn, a', sn)) (hM : M[i]? = some (.blk b T cs)) (hn : new.length = Nat.min sn dn * sz)
    (hsrc : new ≠ [] → ∃ b' off', a' = some ⟨b', off', none⟩ ∧ ∀ j v, new[j]? = some v → w.cell? ⟨b', off' + j, none⟩ = some v) (hfit : off + new.length ≤ cs.length) (h1 : ∀ v ∈ new, v.oneCell' = true) (hc : spl cs off new = cs')
    (k : ∀ J w, St D I w0 J (M.set i (.blk b T cs')) F w → Wl P N ops os K (updo N ρ o.dst (.int .i64 (Nat.min sn dn : Nat))) w) : Wl P N ops (o :: os) K ρ w := by
  subst hc
  have hb := hs.bk i hM
  obtain ⟨hw, hr⟩ := cpq_run (P := P) hq hb hn hsrc hfit h1
  obtain ⟨J', hs'⟩ := hs.turn (w' := w.setRow b (spl cs off new).toArray) (y := .blk b T (spl cs off new)) hM (grown_setRow w b _) (setRow_heap w b _ _ T _ hb) (.inl rfl)
  refine Wl.op hw ?_
  unfold OpR
  rw [hr]
  exact k J' _ hs'
theorem dcp [Stab F] (i : Nat) (new cs' : List Value) {sz b off dn sn : Nat} {a' : Option Addr} {T : TypeId} {cs : List Value} (hs : St D I w0 J M F w) (hq : cpq lc.L ops ρ o = some (sz, b, off, dn, a', sn)) (hM : M[i]? = some (.blk b T cs)) (hn : new.length = Nat.min sn dn * sz)
    (hsrc : new ≠ [] → ∃ b' off', a' = some ⟨b', off', none⟩ ∧ ∀ j v, new[j]? = some v → w.cell? ⟨b', off' + j, none⟩ = some v) (hfit : off + new.length ≤ cs.length) (h1 : ∀ v ∈ new, v.oneCell' = true) (hc : spl cs off new = cs') (he : E b)
    (k : ∀ J w, St D I w0 J (M.set i (.blk b T cs')) F w → Wa P N ops E ws qs K (updo N ρ o.dst (.int .i64 (Nat.min sn dn : Nat))) w) : Wa P N ops E ws (.e o qs) K ρ w := by
  subst hc
  intro hns hS
  have hb := hs.bk i hM
  obtain ⟨hw, hr⟩ := cpq_run (P := P) hq hb hn hsrc hfit h1
  obtain ⟨J', hs'⟩ := hs.turn (w' := w.setRow b (spl cs off new).toArray) (y := .blk b T (spl cs off new)) hM (grown_setRow w b _) (setRow_heap w b _ _ T _ hb) (.inl rfl)
  refine Wa.e hw ?_ hns hS
  unfold OpR
  rw [hr]
  refine ⟨⟨by simpa using hS.1, fun x hb' he' => ?_⟩, k J' _ hs'⟩
  rw [setRow_other w b x _ (fun e => he' (e ▸ he))]
  exact hS.2 x hb' he'
/-! ### clear -/
def clq (L : Lay) (ops : Array Oper) (ρ : Env) (o : Oper) : Option (Nat × Nat × Nat × List Value) :=
  match wantE ops ρ o with
  | true =>
    match o.op with
    | .call cl =>
      match cl.callee, cl.args.toList, cl.argTypes.toList with
      | .builtin .clear, [d], [T] =>
        match kdo L T, ev ρ d with
        | some (.sl e), .slice (some ⟨b, off, none⟩) dn _ => match L e with | some ti => bif Nat.blt 0 ti.zero.length && ti.zero.all (·.oneCell') then some (b, off, dn, ti.zero) else none | none => none
        | _, _ => none
      | _, _, _ => none
    | _ => none
  | false => none
theorem zeroCells_toList (z : Array Value) (n : Nat) (hz : 0 < z.size) : (Builtin.zeroCells z n).toList = (List.replicate n z.toList).flatten := madeCells_toList z n hz
theorem clq_run {b off dn : Nat} {z : List Value} {T : TypeId} {cs : List Value} (hq : clq lc.L ops ρ o = some (b, off, dn, z)) (hb : Bk w b T cs) (hfit : off + dn * z.length ≤ cs.length) :
    wantE ops ρ o = true ∧ (execOp (ev ρ) o).run P w = .ok (.value (.tuple #[])) (w.setRow b (spl cs off (List.replicate dn z).flatten).toArray) := by
  unfold clq at hq
  split at hq <;> try (cases hq; done)
  rename_i hw
  split at hq <;> try (cases hq; done)
  rename_i cl ho
  split at hq <;> try (cases hq; done)
  rename_i d T1 hcl hargs htys
  split at hq <;> try (cases hq; done)
  rename_i e1 b1 off1 dn1 dc1 hT hdv
  split at hq <;> try (cases hq; done)
  rename_i ti he
  cases hcnd : (Nat.blt 0 ti.zero.length && ti.zero.all (·.oneCell')) with
  | false => rw [hcnd] at hq; cases hq
  | true =>
  rw [hcnd] at hq
  simp only [cond_true, Option.some.injEq, Prod.mk.injEq] at hq
  obtain ⟨rfl, rfl, rfl, rfl⟩ := hq
  simp only [Bool.and_eq_true] at hcnd
  have hpos : 0 < ti.zero.length := by rw [← Nat.blt_eq]; exact hcnd.1
  refine ⟨hw, ?_⟩
  have hu := kdo_ok lc.ok hT
  simp only [KdOk] at hu
  obtain ⟨z, hz, hzc⟩ := (lc.ok _ ti he).zeroValue w
  have hzs : z.cells.size = ti.zero.length := by rw [← hzc, Array.length_toList]
  have hzl := zeroCells_toList z.cells dn1 (by omega)
  rw [hzc] at hzl
  have hfl : (List.replicate dn1 ti.zero).flatten.length = dn1 * ti.zero.length := by
    rw [flatten_length (sz := ti.zero.length) (fun cs h => by rw [(List.mem_replicate.1 h).2])]; simp
  have h1 : ∀ v ∈ (List.replicate dn1 ti.zero).flatten, v.oneCell' = true := by
    intro v hv
    obtain ⟨l, hl, hv⟩ := List.mem_flatten.1 hv
    rw [(List.mem_replicate.1 hl).2] at hv
    exact List.all_eq_true.1 hcnd.2 v hv
  have hst := run_storeCells_at (P := P) b1 off1 T (List.replicate dn1 ti.zero).flatten 0 cs.toArray w hb (by simp only [List.size_toArray]; omega) h1
  simp only [Nat.add_zero, List.toList_toArray] at hst
  have hsp : spl cs off1 (List.replicate dn1 ti.zero).flatten = cs.take off1 ++ (List.replicate dn1 ti.zero).flatten ++ cs.drop (off1 + (List.replicate dn1 ti.zero).flatten.length) := by simp only [spl, List.append_assoc]
  have e1 : cl.args.map (ev ρ) = #[.slice (some ⟨b1, off1, none⟩) dn1 dc1] := by apply Array.ext'; simp [hargs, hdv]
  have e2 : cl.argTypes = #[T1] := by apply Array.ext'; simp [htys]
  unfold execOp
  simp only [ho, resolve, hcl, e1, e2, Sem.run_bind, Sem.run_pure, Result.andThen_ok, invoke, builtin]
  rw [hsp]
  cases dn1 with
  | zero =>
    have : w.setRow b1 cs.toArray = w := setRow_self w b1 cs.toArray T (0, 0) hb
    simp [Builtin.clear_, run_underlying hu, this]
  | succ n =>
    simp only [Builtin.clear_, List.getElem?_toArray, List.getElem?_cons_zero, Sem.run_bind, run_underlying hu, Result.andThen_ok, hz, hzl, hst, Sem.run_pure]
theorem clr [Stab F] (i : Nat) (cs' : List Value) {b off dn : Nat} {z : List Value} {T : TypeId} {cs : List Value} (hs : St D I w0 J M F w) (hq : clq lc.L ops ρ o = some (b, off, dn, z)) (hM : M[i]? = some (.blk b T cs)) (hfit : off + dn * z.length ≤ cs.length) (hc : spl cs off (List.replicate dn z).flatten = cs')
    (k : ∀ J w, St D I w0 J (M.set i (.blk b T cs')) F w → Wl P N ops os K (updo N ρ o.dst (.tuple #[])) w) : Wl P N ops (o :: os) K ρ w := by
  subst hc
  have hb := hs.bk i hM
  obtain ⟨hw, hr⟩ := clq_run (P := P) hq hb hfit
  obtain ⟨J', hs'⟩ := hs.turn (w' := w.setRow b (spl cs off (List.replicate dn z).flatten).toArray) (y := .blk b T (spl cs off (List.replicate dn z).flatten)) hM (grown_setRow w b _) (setRow_heap w b _ _ T _ hb) (.inl rfl)
  refine Wl.op hw ?_
  unfold OpR
  rw [hr]
  exact k J' _ hs'
end
end Bo
namespace Bo
open Go Go.RowKit
section
variable {P : Program} [lc : LC P] {N : Nat} {ops : Array Oper} {o o' : Oper} {os os' : List Oper} {qs qs2 : Ob} {E : Nat → Prop} {K : Env → World → Prop} {ρ ρ' : Env} {w w0 ws w' : World} {D I J : Nat → Prop} {M : List Rs} {F : Pf}
/-! ### append where there is room -/
theorem apr_run {e sz by_ n c n' c' g : Nat} {a' : Option Addr} {cs new : List Value} (hq : apq lc.L ops ρ o = some (e, sz, by_, some ⟨g, 0, none⟩, n, c, a', n', c')) (hb : Bk w g e cs) (hl : new.length = n' * sz)
    (hsrc : ∃ b' off', a' = some ⟨b', off', none⟩ ∧ ∀ j v, new[j]? = some v → w.cell? ⟨b', off' + j, none⟩ = some v) (h1 : ∀ v ∈ new, v.oneCell' = true) (hroom : n + n' ≤ c) (hfit : n * sz + new.length ≤ cs.length) :
    wantE ops ρ o = true ∧ (execOp (ev ρ) o).run P w = .ok (.value (.slice (some ⟨g, 0, none⟩) (n + n') c)) (w.setRow g (spl cs (n * sz) new).toArray) := by
  unfold apq at hq
  split at hq <;> try (cases hq; done)
  rename_i hw
  split at hq <;> try (cases hq; done)
  rename_i cl ho
  split at hq <;> try (cases hq; done)
  rename_i s x T T' hcl hargs htys
  split at hq <;> try (cases hq; done)
  rename_i e1 a1 n1 c1 a2 n2 c2 hT hsv hxv
  split at hq <;> try (cases hq; done)
  rename_i ti he
  cases hcnd : (Nat.beq T T' && Nat.blt 0 ti.size && Nat.beq ti.zero.length ti.size) with
  | false => rw [hcnd] at hq; cases hq
  | true =>
  rw [hcnd] at hq
  simp only [cond_true, Option.some.injEq, Prod.mk.injEq] at hq
  obtain ⟨rfl, rfl, rfl, rfl, rfl, rfl, rfl, rfl, rfl⟩ := hq
  simp only [Bool.and_eq_true] at hcnd
  have hTT : T = T' := Nat.eq_of_beq_eq_true hcnd.1.1
  subst hTT
  refine ⟨hw, ?_⟩
  have hu := kdo_ok lc.ok hT
  simp only [KdOk] at hu
  have hinfo := (lc.ok _ ti he).info
  obtain ⟨i, hi⟩ : ∃ i, P.info? e1 = some i := by
    cases hi : P.info? e1 with
    | none => simp [hi] at hinfo
    | some i => exact ⟨i, rfl⟩
  simp only [hi, Option.map_some, Option.some.injEq, Prod.mk.injEq] at hinfo
  obtain ⟨hi1, hi2, hi3⟩ := hinfo
  obtain ⟨b', off', rfl, hc⟩ := hsrc
  have hr := run_append_room (P := P) w T o.type e1 i hu hi g n1 c1 cs.toArray hb ⟨b', off', none⟩ n2 c2 new (by rw [hl, hi1]) (fun j v hj => by rw [add_n]; exact hc j v hj) h1 hroom (by simpa [hi1] using hfit)
  have e1 : cl.args.map (ev ρ) = #[.slice (some ⟨g, 0, none⟩) n1 c1, .slice (some ⟨b', off', none⟩) n2 c2] := by apply Array.ext'; simp [hargs, hsv, hxv]
  have e2 : cl.argTypes = #[T, T] := by apply Array.ext'; simp [htys]
  have hsp : spl cs (n1 * ti.size) new = cs.take (n1 * ti.size) ++ new ++ cs.drop (n1 * ti.size + new.length) := by simp [spl, List.append_assoc]
  unfold execOp
  simp only [ho, resolve, hcl, e1, e2, Sem.run_bind, Sem.run_pure, Result.andThen_ok, invoke, builtin]
  rw [hr, hsp, hi1]
  rfl
theorem apr [Stab F] (i : Nat) (new cs' : List Value) {e sz by_ n c n' c' g : Nat} {a' : Option Addr} {cs : List Value} (hs : St D I w0 J M F w) (hq : apq lc.L ops ρ o = some (e, sz, by_, some ⟨g, 0, none⟩, n, c, a', n', c')) (hM : M[i]? = some (.blk g e cs)) (hl : new.length = n' * sz)
    (hsrc : ∃ b' off', a' = some ⟨b', off', none⟩ ∧ ∀ j v, new[j]? = some v → w.cell? ⟨b', off' + j, none⟩ = some v) (h1 : ∀ v ∈ new, v.oneCell' = true) (hroom : n + n' ≤ c) (hfit : n * sz + new.length ≤ cs.length) (hc : spl cs (n * sz) new = cs')
    (k : ∀ J w, St D I w0 J (M.set i (.blk g e cs')) F w → Wl P N ops os K (updo N ρ o.dst (.slice (some ⟨g, 0, none⟩) (n + n') c)) w) : Wl P N ops (o :: os) K ρ w := by
  subst hc
  have hb := hs.bk i hM
  obtain ⟨hw, hr⟩ := apr_run (P := P) hq hb hl hsrc h1 hroom hfit
  obtain ⟨J', hs'⟩ := hs.turn (w' := w.setRow g (spl cs (n * sz) new).toArray) (y := .blk g e (spl cs (n * sz) new)) hM (grown_setRow w g _) (setRow_heap w g _ _ e _ hb) (.inl rfl)
  refine Wl.op hw ?_
  unfold OpR
  rw [hr]
  exact k J' _ hs'
/-! ### append of zeros where there is no room -/
def azq (L : Lay) (ops : Array Oper) (ρ : Env) (o : Oper) : Option (Nat × TI × Nat × Nat × Nat × Nat × Int) :=
  match wantE ops ρ o with
  | true =>
    match o.op with
    | .call cl =>
      match cl.callee, cl.args.toList, cl.argTypes.toList with
      | .builtin .append, [s, x], [T, T'] =>
        match kdo L T, kdo L T', ev ρ s, ev ρ x with
        | some (.sl e), some (.int _), .slice (some ⟨g, off, none⟩) n c, .int _ m => match L e with | some ti => bif Nat.blt 0 ti.size && Nat.beq ti.zero.length ti.size then some (e, ti, g, off, n, c, m) else none | none => none
        | _, _, _, _ => none
      | _, _, _ => none
    | _ => none
  | false => none
theorem azq_run (m : Nat) {e g off n c : Nat} {ti : TI} {css : List (List Value)} (hq : azq lc.L ops ρ o = some (e, ti, g, off, n, c, (m : Int))) (hn : css.length = n) (hsz : ∀ x ∈ css, x.length = ti.size)
    (hold : ∀ j v, css.flatten[j]? = some v → w.cell? ⟨g, off + j, none⟩ = some v) (hc : c < n + m) (hm : 0 < m) (h63 : n + m ≤ 9223372036854775807) (hby : (n + m) * ti.bytes ≤ 140737488355328) :
    wantE ops ρ o = true ∧ ∃ c1 w1, (execOp (ev ρ) o).run P w = .ok (.value (.slice (some ⟨w.heap.size, 0, none⟩) (n + m) c1)) w1 ∧ (Rs.own (some ⟨w.heap.size, 0, none⟩) c1 e ti.size (css ++ List.replicate m ti.zero)).ok w1 ∧ Below w.heap.size w w1 := by
  unfold azq at hq
  split at hq <;> try (cases hq; done)
  rename_i hw
  split at hq <;> try (cases hq; done)
  rename_i cl ho
  split at hq <;> try (cases hq; done)
  rename_i s x T T' hcl hargs htys
  split at hq <;> try (cases hq; done)
  rename_i e1 kx g1 off1 n1 c1 k1 m1 hT hT' hsv hxv
  split at hq <;> try (cases hq; done)
  rename_i ti1 he
  cases hcnd : (Nat.blt 0 ti1.size && Nat.beq ti1.zero.length ti1.size) with
  | false => rw [hcnd] at hq; cases hq
  | true =>
  rw [hcnd] at hq
  simp only [cond_true, Option.some.injEq, Prod.mk.injEq] at hq
  obtain ⟨rfl, rfl, rfl, rfl, rfl, rfl, rfl⟩ := hq
  simp only [Bool.and_eq_true] at hcnd
  have hpos : 0 < ti1.size := by rw [← Nat.blt_eq]; exact hcnd.1
  have hzl : ti1.zero.length = ti1.size := Nat.eq_of_beq_eq_true hcnd.2
  refine ⟨hw, ?_⟩
  have hu := kdo_ok lc.ok hT
  have hu' := kdo_ok lc.ok hT'
  simp only [KdOk] at hu hu'
  have hinfo := (lc.ok _ ti1 he).info
  obtain ⟨i, hi⟩ : ∃ i, P.info? e1 = some i := by
    cases hi : P.info? e1 with
    | none => simp [hi] at hinfo
    | some i => exact ⟨i, rfl⟩
  simp only [hi, Option.map_some, Option.some.injEq, Prod.mk.injEq] at hinfo
  obtain ⟨hi1, hi2, hi3⟩ := hinfo
  obtain ⟨z, hz, hzc⟩ := Option.map_eq_some_iff.1 hi3
  have hzs : z.cells.size = ti1.size := by rw [← hzl, ← hzc, Array.length_toList]
  have hfl := flatten_length hsz
  rw [hn] at hfl
  have hfo := run_firstCells_some (P := P) w.drew i.size n1 ⟨g1, off1, none⟩ n1 c1 css.flatten (by rw [hfl, hi1]) (fun j v hj => by rw [add_n]; exact hold j v hj)
  have hn1 : ¬ (n1 + m ≤ c1) := by omega
  have h63' : ¬ (9223372036854775807 < ((n1 : Int) + (m : Int))) := by omega
  have h48' : ¬ (281474976710656 < Builtin.nextslicecap (n1 + m) c1 * i.bytes) := by have := growslice_fits (old := c1) (need := n1 + m) (by omega) hby; rw [hi2]; omega
  have hwr : IntKind.i64.wrap (m : Int) = m := wrap_i64 (by omega)
  have hmb : ¬ (281474976710656 < (m : Int) * (i.bytes : Int)) := by
    rw [hi2]
    have : m * ti1.bytes ≤ (n1 + m) * ti1.bytes := Nat.mul_le_mul_right _ (by omega)
    have h2 : ((m * ti1.bytes : Nat) : Int) ≤ 140737488355328 := by omega
    rw [Int.natCast_mul] at h2
    omega
  have hm0 : ¬ ((m : Int) < 0) := by omega
  have hms : ¬(m * i.size = 0) := by
    have : 0 < m * i.size := Nat.mul_pos hm (by omega)
    omega
  have hrun : (Builtin.append_ #[T, T'] o.type #[.slice (some ⟨g1, off1, none⟩) n1 c1, .int k1 m]).run P w =
      .ok (.slice (some ⟨w.heap.size, 0, none⟩) (n1 + m) (grownCap w (n1 + m) c1 e1)) (w.drew.alloc (.cells (css.flatten.toArray ++ Builtin.zeroCells z.cells m ++ Builtin.zeroCells z.cells (grownCap w (n1 + m) c1 e1 - (n1 + m))) e1)) := by
    simp [Builtin.append_, run_underlying hu, run_underlying hu', Go.sizeOf, Go.typeInfo, Go.zeroValue, hi, hz, asInt, asIntOf, hwr, hm0, hmb, hn1, h63', h48', Question.forced, hfo, newRow, grownCap, hms]
  have hge := grownCap_ge w (n1 + m) c1 e1
  have hcm : grownCap w (n1 + m) c1 e1 ≤ maxLen := grownCap_le_maxLen w (n1 + m) c1 e1 (by simp only [maxLen]; omega)
  have hzl1 : (Builtin.zeroCells z.cells m).toList = (List.replicate m ti1.zero).flatten := by rw [zeroCells_toList _ _ (by omega), hzc]
  have e1' : cl.args.map (ev ρ) = #[.slice (some ⟨g1, off1, none⟩) n1 c1, .int k1 m] := by apply Array.ext'; simp [hargs, hsv, hxv]
  have e2 : cl.argTypes = #[T, T'] := by apply Array.ext'; simp [htys]
  refine ⟨grownCap w (n1 + m) c1 e1, w.drew.alloc (.cells (css.flatten.toArray ++ Builtin.zeroCells z.cells m ++ Builtin.zeroCells z.cells (grownCap w (n1 + m) c1 e1 - (n1 + m))) e1), ?_, ?_, ⟨rfl, rfl, rfl, by simp, fun k hk => by show (w.heap.push _)[k]? = w.heap[k]?; rw [Array.getElem?_push, if_neg (Nat.ne_of_lt hk)]⟩⟩
  · unfold execOp
    simp only [ho, resolve, hcl, e1', e2, Sem.run_bind, Sem.run_pure, Result.andThen_ok, invoke, builtin, hrun]
  · have hsz' : ∀ x ∈ css ++ List.replicate m ti1.zero, x.length = ti1.size := by
      intro x hx
      rcases List.mem_append.1 hx with hx | hx
      · exact hsz x hx
      · rw [(List.mem_replicate.1 hx).2, hzl]
    refine own_shut (rest := (Builtin.zeroCells z.cells (grownCap w (n1 + m) c1 e1 - (n1 + m))).toList) (cs := (css ++ List.replicate m ti1.zero).flatten ++ (Builtin.zeroCells z.cells (grownCap w (n1 + m) c1 e1 - (n1 + m))).toList) ?_ rfl ?_ ?_ (by simpa [maxLen] using hcm) hsz'
    · unfold Bk
      have : (w.drew.alloc (.cells (css.flatten.toArray ++ Builtin.zeroCells z.cells m ++ Builtin.zeroCells z.cells (grownCap w (n1 + m) c1 e1 - (n1 + m))) e1)).heap[w.heap.size]? = some (.cells (css.flatten.toArray ++ Builtin.zeroCells z.cells m ++ Builtin.zeroCells z.cells (grownCap w (n1 + m) c1 e1 - (n1 + m))) e1) := by show (w.heap.push _)[w.heap.size]? = _; simp
      refine Eq.trans this ?_
      congr 2
      apply Array.ext'
      simp [hzl1, List.append_assoc]
    · have hg : n1 + m + (grownCap w (n1 + m) c1 e1 - (n1 + m)) = grownCap w (n1 + m) c1 e1 := by omega
      have hx : (Builtin.zeroCells z.cells (grownCap w (n1 + m) c1 e1 - (n1 + m))).toList.length = (grownCap w (n1 + m) c1 e1 - (n1 + m)) * ti1.size := by rw [Array.length_toList, size_zeroCells, hzs]
      rw [List.length_append, flatten_length hsz', hx, List.length_append, List.length_replicate, hn, ← Nat.add_mul, hg]
    · simp only [List.length_append, List.length_replicate, hn]; omega
/-- A new slice of the call's own comes to the others. -/
theorem St.more [Stab F] {y : Rs} (hs : St D I w0 J M F w) (hbel : Below w.heap.size w w') (hok : y.ok w') (hy : ∀ b, y.fp = some b → w.heap.size ≤ b) : ∃ J', St D I w0 J' (y :: M) F w' := by
  have hs1 := hs.xt hbel
  refine ⟨fun b => J b ∧ y.fp ≠ some b, hs1.b, ?_, ?_, ?_, fun b hb => hs1.u b hb.1, ?_⟩
  · intro x hx
    rcases List.mem_cons.1 hx with rfl | hx
    · exact ⟨hok, fun b hb => ⟨.inl (Nat.le_trans hs.s (hy b hb)), fun h => h.2 hb⟩⟩
    · exact ⟨(hs1.m x hx).1, fun b hb => ⟨((hs1.m x hx).2 b hb).1, fun hj => ((hs1.m x hx).2 b hb).2 hj.1⟩⟩
  · refine List.Pairwise.cons (fun x hx b hb e => ?_) hs.d
    have := (hs.m x hx).1.lt e
    have := hy b hb
    omega
  · intro b hb
    refine ⟨hs1.j b hb, fun e => ?_⟩
    have := hok.lt e
    omega
  · exact Stab.mono (fun b hb hl => ⟨⟨hb, fun e => by have := hy b e; omega⟩, hbel.block b hl⟩) hs.f
theorem az [Stab F] (m : Nat) {e g off n c : Nat} {ti : TI} {css : List (List Value)} (hs : St D I w0 J M F w) (hq : azq lc.L ops ρ o = some (e, ti, g, off, n, c, (m : Int))) (hn : css.length = n) (hsz : ∀ x ∈ css, x.length = ti.size)
    (hold : ∀ j v, css.flatten[j]? = some v → w.cell? ⟨g, off + j, none⟩ = some v) (hc : c < n + m) (hm : 0 < m) (h63 : n + m ≤ 9223372036854775807) (hby : (n + m) * ti.bytes ≤ 140737488355328)
    (k : ∀ g1 c1 J w, St D I w0 J (.own (some ⟨g1, 0, none⟩) c1 e ti.size (css ++ List.replicate m ti.zero) :: M) F w → Wl P N ops os K (updo N ρ o.dst (.slice (some ⟨g1, 0, none⟩) (n + m) c1)) w) : Wl P N ops (o :: os) K ρ w := by
  obtain ⟨hw, c1, w1, hr, hok, hbel⟩ := azq_run (P := P) m hq hn hsz hold hc hm h63 hby
  obtain ⟨J', hs'⟩ := hs.more (y := .own (some ⟨w.heap.size, 0, none⟩) c1 e ti.size (css ++ List.replicate m ti.zero)) hbel hok (fun b hb => by cases hb; exact Nat.le_refl _)
  refine Wl.op hw ?_
  unfold OpR
  rw [hr]
  exact k _ _ J' _ hs'
end
end Bo
namespace Bo
open Go Go.Proofs Go.RowKit
section
variable {P : Program} [lc : LC P] {N : Nat} {ops : Array Oper} {o o' : Oper} {os os' : List Oper} {qs qs2 : Ob} {E : Nat → Prop} {K : Env → World → Prop} {ρ ρ' : Env} {w w0 ws w' : World} {D I J : Nat → Prop} {M : List Rs} {F : Pf}
/-- A call of a function without a body, of which it is known what it yields. -/
theorem cx {f : FuncId} {args : List Value} {v : Value} (h : callq ops ρ o = some (f, args)) (hr : (callFunc f args.toArray).run P w = .ok (.value v) w)
    (k : Wl P N ops os K (updo N ρ o.dst v) w) : Wl P N ops (o :: os) K ρ w := by
  unfold callq at h
  split at h <;> try (cases h; done)
  rename_i hw
  split at h <;> try (cases h; done)
  rename_i cl ho
  split at h <;> try (cases h; done)
  rename_i fo hcl
  split at h <;> try (cases h; done)
  rename_i kf first cap hf
  cases h
  refine Wl.op hw (OpR.val ?_ k)
  have e : (first.toList ++ cl.args.toList.map (ev ρ) ++ cap.toList).toArray = first ++ cl.args.map (ev ρ) ++ cap := by apply Array.ext'; simp
  rw [e] at hr
  unfold execOp
  simp only [ho, resolve, hcl, Deferred.ofValue, hf]
  simp only [Sem.run_bind, Sem.run_pure, Result.andThen_ok, invoke, hr]
theorem slg {a : Option Addr} {n c sz : Nat} {lo hi : Option Int} (l h : Nat) (hq : slq lc.L ops ρ o = some (sz, a, n, c, lo, hi)) (hh : hi.getD n = h) (hl : lo.getD 0 = l) (hc : h ≤ c) (hlh : l ≤ h)
    (k : ∀ a', Wl P N ops os K (updo N ρ o.dst (.slice a' (h - l) (c - l))) w) : Wl P N ops (o :: os) K ρ w :=
  Wl.op (slq_run (P := P) hq hh hl hc hlh w).1 (OpR.val (slq_run (P := P) hq hh hl hc hlh w).2.2 (k _))
/-- A cut from the begin on. -/
theorem slh {a : Option Addr} {n c sz : Nat} {hi : Option Int} (h : Nat) (hq : slq lc.L ops ρ o = some (sz, a, n, c, none, hi)) (hh : hi.getD n = h) (hc : h ≤ c)
    (k : Wl P N ops os K (updo N ρ o.dst (.slice a h c)) w) : Wl P N ops (o :: os) K ρ w := by
  have := (slq_run (P := P) (l := 0) hq hh rfl hc (Nat.zero_le _) w)
  refine Wl.op this.1 (OpR.val this.2.2 ?_)
  have e : (if c = 0 then a else a.map (·.add (0 * sz))) = a := by
    split
    · rfl
    · cases a with
      | none => rfl
      | some a => simp [Addr.add]
  rw [e]; exact k
/-- A cut up to the end. -/
theorem slt {g off n c sz : Nat} {lo : Option Int} (l : Nat) (hq : slq lc.L ops ρ o = some (sz, some ⟨g, off, none⟩, n, c, lo, none)) (hl : lo.getD 0 = l) (hlc : l < c) (hc : n ≤ c) (hlh : l ≤ n)
    (k : Wl P N ops os K (updo N ρ o.dst (.slice (some ⟨g, off + l * sz, none⟩) (n - l) (c - l))) w) : Wl P N ops (o :: os) K ρ w := by
  refine slv l n hq rfl hl hc hlh ?_
  rw [if_neg (by omega)]; exact k
theorem dslt {g off n c sz : Nat} {lo : Option Int} (l : Nat) (hq : slq lc.L ops ρ o = some (sz, some ⟨g, off, none⟩, n, c, lo, none)) (hl : lo.getD 0 = l) (hlc : l < c) (hc : n ≤ c) (hlh : l ≤ n)
    (k : Wa P N ops E ws qs K (updo N ρ o.dst (.slice (some ⟨g, off + l * sz, none⟩) (n - l) (c - l))) w) : Wa P N ops E ws (.q o qs) K ρ w := by
  refine dslv l n hq rfl hl hc hlh ?_
  rw [if_neg (by omega)]; exact k
end
theorem spl_at (A B C B' : List Value) (h : B'.length = B.length) : spl (A ++ (B ++ C)) A.length B' = A ++ (B' ++ C) := by
  unfold spl
  rw [List.take_left, h, ← List.append_assoc A B C, ← List.length_append, List.drop_left]
theorem spl_at' {A B C B' cs : List Value} {n : Nat} (e : cs = A ++ (B ++ C)) (hn : n = A.length) (h : B'.length = B.length) : spl cs n B' = A ++ (B' ++ C) := by
  subst e hn; exact spl_at A B C B' h
theorem own_le {w : World} {a : Option Addr} {c T sz : Nat} {css : List (List Value)} (h : (Rs.own a c T sz css).ok w) : css.length ≤ c := by
  obtain ⟨⟨_, h⟩, _⟩ := h
  rcases h with ⟨_, hn⟩ | ⟨g, cap, cur, hv, _, _, hnc, _⟩
  · omega
  · obtain ⟨_, _, rfl⟩ := Value.slice.inj hv; exact hnc
theorem own_some {w : World} {a : Option Addr} {c T sz : Nat} {css : List (List Value)} (h : (Rs.own a c T sz css).ok w) (hne : css ≠ []) : ∃ g, a = some ⟨g, 0, none⟩ := by
  obtain ⟨⟨_, h⟩, _⟩ := h
  rcases h with ⟨_, hn⟩ | ⟨g, cap, cur, hv, _, _, hnc, _⟩
  · exact absurd (List.eq_nil_of_length_eq_zero hn) hne
  · obtain ⟨rfl, _, rfl⟩ := Value.slice.inj hv; exact ⟨g, rfl⟩
theorem Im.rc1 {b : Nat} {T : TypeId} {v : List Value} {J : Nat → Prop} {w : World} (h : Im b T v J w) : Rc v.length (some ⟨b, 0, none⟩) 1 [v] J w :=
  ⟨by simp, by simp, fun _ => ⟨b, 0, rfl, h.1, h.2.lt, fun i cs hi j u hj => by
    cases i with
    | zero => simp at hi; subst hi; rw [h.2.cell]; simpa using hj
    | succ i => simp at hi⟩⟩
theorem ov_run {w : World} {vb g off n c T T' : Nat} {v cs : List Value} (hv : Bk w vb T v) (hg : Bk w g T' cs) (hne : vb ≠ g) (hcs : cs ≠ []) :
    (callFunc 171 #[.slice (some ⟨vb, 0, none⟩) 1 1, .slice (some ⟨g, off, none⟩) n c]).run Tryz.prog w = .ok (.value (.bool false)) w := by
  rw [run_callFunc_extern (P := Tryz.prog) Tryz.func171 (by kernel_rfl) (by kernel_rfl) (by kernel_rfl) (e := Extern.SlicesOverlaps.overlaps #[84, 84] #[4]) (by kernel_rfl)]
  have hlen : cs.length ≠ 0 := fun e => hcs (List.eq_nil_of_length_eq_zero e)
  rw [Lib.run_overlaps_apart w 84 4 90 Tryz.underlying84 15 (fun w => by kernel_rfl) ⟨vb, 0, none⟩ ⟨g, off, none⟩ 1 1 n c hne T T' v.length cs.length
    (by unfold Bk at hv; simp [World.shape?, hv]) (by unfold Bk at hg; simp [World.shape?, hg]) hlen (by unfold Bk at hv; simp [World.frozen?, hv]) (by unfold Bk at hv; simp [World.frozen?, hv])]
  rfl
end Bo
namespace Bo
open Go Go.Proofs Go.RowKit
theorem flat_split (css : List (List Value)) (i : Nat) : css.flatten = (css.take i).flatten ++ (css.drop i).flatten := by
  rw [← List.flatten_append, List.take_append_drop]
theorem take_sz {css : List (List Value)} {sz : Nat} (h : ∀ x ∈ css, x.length = sz) (i : Nat) : ∀ x ∈ css.take i, x.length = sz := fun x hx => h x (List.mem_of_mem_take hx)
theorem drop_sz {css : List (List Value)} {sz : Nat} (h : ∀ x ∈ css, x.length = sz) (i : Nat) : ∀ x ∈ css.drop i, x.length = sz := fun x hx => h x (List.mem_of_mem_drop hx)
theorem own_cellT {g c T sz : Nat} {css : List (List Value)} {w : World} (h : (Rs.own (some ⟨g, 0, none⟩) c T sz css).ok w) (i : Nat) {j : Nat} {u : Value} (hj : (css.take i).flatten[j]? = some u) : w.cell? ⟨g, 0 + j, none⟩ = some u := by
  obtain ⟨rest, hb, _⟩ := own_open h
  have hjl := (List.getElem?_eq_some_iff.1 hj).1
  rw [Nat.zero_add, hb.cell, flat_split css i, List.append_assoc, List.getElem?_append_left hjl]
  exact hj
theorem own_cellD {g c T sz : Nat} {css : List (List Value)} {w : World} (h : (Rs.own (some ⟨g, 0, none⟩) c T sz css).ok w) (i : Nat) (hi : i ≤ css.length) {j : Nat} {u : Value} (hj : (css.drop i).flatten[j]? = some u) : w.cell? ⟨g, 0 + i * sz + j, none⟩ = some u := by
  obtain ⟨rest, hb, _, _, _, hsz⟩ := own_open h
  have hjl := (List.getElem?_eq_some_iff.1 hj).1
  have htf : (css.take i).flatten.length = i * sz := by rw [flatten_length (take_sz hsz i), List.length_take, Nat.min_eq_left hi]
  rw [Nat.zero_add, hb.cell, flat_split css i, List.append_assoc, List.getElem?_append_right (by omega), htf, Nat.add_sub_cancel_left, List.getElem?_append_left hjl]
  exact hj
theorem slices_InsertS {I : Nat → Prop} {w : World} {a : Option Addr} {c vb T : Nat} (css : List (List Value)) (v : List Value) (i : Nat) (hM : Ms I [.own a c 90 15 css] w) (hV : Im vb T v I w) (hvl : v.length = 15) (hv1 : ∀ x ∈ v, x.oneCell' = true) (hc1 : ∀ y ∈ css, ∀ x ∈ y, x.oneCell' = true) (hi : i ≤ css.length) (hl : css.length ≤ 1000000) :
    Cm Tryz.prog 170 #[.slice a css.length c, .int .i64 i, .slice (some ⟨vb, 0, none⟩) 1 1] I w [.own a c 90 15 css] (fun r : Option Addr × Nat => .slice r.1 (css.length + 1) r.2) (fun r => [.own r.1 r.2 90 15 (css.take i ++ v :: css.drop i)]) (fun _ _ _ => True) := by
  refine Cm.of (args := [_, _, _]) (F := Im vb T v) Tryz.func170 rfl rfl hM hV fun hs => ?_
  generalize fpD [Rs.own a c 90 15 css] = D at hs
  have hle := own_le (hs.m _ (List.mem_of_getElem? (i := 0) rfl)).1
  have hsz : ∀ x ∈ css, x.length = 15 := (hs.m _ (List.mem_of_getElem? (i := 0) rfl)).1.2
  refine sr (p 1 rfl (z ?_))
  refine sr (p 2 rfl (slg i css.length rfl rfl rfl hle hi fun a' => z ?_))
  refine sr (p 3 rfl (z ?_))
  refine C.seq ?_
  refine sr (p 2 rfl (z ?_))
  refine C.cond_dec rfl (fun h1 => absurd h1 (by decide)) fun h1 => ?_ -- t16
  refine C.skip ?_
  refine sr (p 3 rfl (z ?_))
  refine C.seq ?_
  refine sr (p 3 rfl (z ?_))
  have hr : Rc 15 (some ⟨vb, 0, none⟩) 1 [v] (up I w.heap.size) w := by have := hs.f.rc1; rw [hvl] at this; exact this
  refine C.cond_dec rfl (fun h2 => ?_) fun h2 => ?_ -- t22
  · have hin : i = css.length := by omega
    have el : css ++ [v] = css.take i ++ v :: css.drop i := by rw [hin, List.take_length, List.drop_length]
    have en : (css ++ [v]).length = css.length + 1 := by simp
    refine sr (p 2 rfl (ap 0 hs rfl rfl rfl hr rfl (by simpa using hv1) (by show (_ + _) * 136 ≤ _; simp; omega) (by simp; omega) fun a c J w hs => ?_))
    rw [el] at hs
    rw [en]
    refine p 1 rfl (z ?_)
    refine C.ret ?_
    exact m1 rfl rfl (a, c) hs rfl trivial
  · have hlt : i < css.length := by omega
    obtain ⟨g, rfl⟩ := own_some (hs.m _ (List.mem_of_getElem? (i := 0) rfl)).1 (by intro e; rw [e] at hlt; simp at hlt)
    have hne : vb ≠ g := fun e => ((hs.m _ (List.mem_of_getElem? (i := 0) rfl)).2 g rfl).2 (e ▸ hs.f.1)
    have htl : (css.take i).length = i := by simp; omega
    have htf : (css.take i).flatten.length = i * 15 := by rw [flatten_length (take_sz hsz i), htl]
    have hdl : (css.drop i).length = css.length - i := by simp
    have hdf : (css.drop i).flatten.length = (css.length - i) * 15 := by rw [flatten_length (drop_sz hsz i), hdl]
    have hrsz : ∀ x ∈ css.take i ++ v :: css.drop i, x.length = 15 := by
      intro x hx
      rcases List.mem_append.1 hx with hx | hx
      · exact take_sz hsz i x hx
      · rcases List.mem_cons.1 hx with rfl | hx
        · exact hvl
        · exact drop_sz hsz i x hx
    have hrl : (css.take i ++ v :: css.drop i).length = css.length + 1 := by simp; omega
    have hd1 : ∀ x ∈ (css.drop i).flatten, x.oneCell' = true := by
      intro x hx
      obtain ⟨y, hy, hx⟩ := List.mem_flatten.1 hx
      exact hc1 y (List.mem_of_mem_drop hy) x hx
    refine C.skip ?_
    refine C.seq ?_
    refine sr (p 2 rfl (an ((css.length + 1 : Nat) : Int) rfl (by simp) (by omega) (p 3 rfl (z ?_))))
    refine C.cond_dec rfl (fun h3 => ?_) fun h3 => ?_ -- t31
    · have hold : ∀ j u, (css.take i).flatten[j]? = some u → w.cell? ⟨g, 0 + j, none⟩ = some u := fun j u hj => own_cellT (hs.m _ (List.mem_of_getElem? (i := 0) rfl)).1 i hj
      refine sr (p 2 rfl (slh i rfl rfl (by omega) (p 2 rfl (an ((css.length + 1 : Nat) : Int) rfl (by simp) (by omega) (p 1 rfl (an ((css.length + 1 - i : Nat) : Int) rfl (by omega) (by omega) ?_))))))
      refine az (css.length + 1 - i) hs rfl htl (take_sz hsz i) hold (by omega) (by omega) (by omega) (by show _ * 136 ≤ _; omega) fun g1 c1 J w1 hs => p 1 rfl (z ?_)
      have hg1 : i + (css.length + 1 - i) = css.length + 1 := by omega
      rw [hg1]
      have hne1 : g1 ≠ g := fun e => by
        have := List.rel_of_pairwise_cons hs.d (List.mem_singleton.2 rfl) g1 rfl
        exact this (e ▸ rfl)
      have hne2 : vb ≠ g1 := fun e => ((hs.m _ (List.mem_of_getElem? (i := 0) rfl)).2 g1 rfl).2 (e ▸ hs.f.1)
      obtain ⟨rest, J1, hs, hcl, hnc, hc63, _⟩ := hs.open 0 rfl
      have hrepl : (css.take i ++ List.replicate (css.length + 1 - i) y90.zero).length = css.length + 1 := by simp; omega
      rw [hrepl] at hnc
      have hcs : (css.take i ++ List.replicate (css.length + 1 - i) y90.zero).flatten ++ rest = (css.take i).flatten ++ (y90.zero ++ ((List.replicate (css.length - i) y90.zero).flatten ++ rest)) := by
        rw [show css.length + 1 - i = (css.length - i) + 1 by omega, List.replicate_succ]; simp only [List.flatten_append, List.flatten_cons, List.append_assoc]
      have hz2 : (List.replicate (css.length - i) y90.zero).flatten.length = (css.length - i) * 15 := by rw [flatten_length (sz := 15) (fun x hx => by rw [(List.mem_replicate.1 hx).2]; rfl), List.length_replicate]
      rw [hcs] at hs hcl
      have hy : y90.size = 15 := rfl
      have hmin1 : Nat.min 1 (css.length + 1 - i) = 1 := Nat.min_eq_left (by omega)
      refine sr (p 2 rfl (slt i rfl rfl (by omega) (by omega) (by omega) (p 1 rfl ?_)))
      refine cp 0 v ((css.take i).flatten ++ (v ++ ((List.replicate (css.length - i) y90.zero).flatten ++ rest))) hs rfl rfl (by rw [hvl, hmin1]; rfl) (fun _ => ⟨vb, 0, rfl, fun j u hj => by rw [hs.f.2.cell, Nat.zero_add]; exact hj⟩) (by simp only [List.length_append, htf, hvl, hy]; have : y90.zero.length = 15 := rfl; omega) hv1 (spl_at' rfl (by rw [htf, Nat.zero_add]; rfl) (by rw [hvl]; rfl)) fun J w1 hs => z ?_
      refine C.seq ?_
      refine dro (fun q => q = g1) 9 [0, 1, 2, 3, 4, 5, 6, 7, 508] hs fun w2 hs => dp 3 rfl (dan ((i + 1 : Nat) : Int) rfl (by simp) (by omega) (dslt (i + 1) rfl rfl (by omega) (by omega) (by omega) (dp 2 rfl (dslt i rfl rfl (by omega) (by omega) (by omega) ?_))))
      have hmin2 : Nat.min (css.length - i) (css.length + 1 - (i + 1)) = css.length - i := Nat.min_eq_left (by omega)
      refine dcp 0 (css.drop i).flatten ((css.take i).flatten ++ (v ++ ((css.drop i).flatten ++ rest))) hs rfl rfl (by rw [hmin2, hdf]; rfl) (fun _ => ⟨g, _, rfl, fun j u hj => own_cellD (hs.m _ (List.mem_of_getElem? (i := 1) rfl)).1 i hi hj⟩) (by simp only [List.length_append, htf, hvl, hdf, hz2, hy]; omega) hd1 ?_ rfl fun J w2 hs => dz (z ?_)
      · exact (spl_at' (A := (css.take i).flatten ++ v) (B := (List.replicate (css.length - i) y90.zero).flatten) (C := rest) (by simp only [List.append_assoc]) (by rw [List.length_append, htf, hvl, hy]; omega) (by rw [hdf, hz2])).trans (by simp only [List.append_assoc])
      refine sr (p 2 rfl (z ?_))
      refine C.ret ?_
      obtain ⟨J3, hs⟩ := hs.shut 0 c1 15 (css.take i ++ v :: css.drop i) rest rfl (by simp [List.append_assoc]) (by
        simp only [List.length_append, htf, hvl, hdf, hz2, hy] at hcl ⊢
        have : y90.zero.length = 15 := rfl
        omega) (by rw [hrl]; exact hnc) hc63 hrsz
      exact m1 rfl rfl (some ⟨g1, 0, none⟩, c1) (hs.perm (List.Perm.swap ..)).cut rfl trivial
    · obtain ⟨rest, J1, hs, hcl, hnc, hc63, _⟩ := hs.open 0 rfl
      have hdl1 : css.drop i ≠ [] := by intro e; rw [e] at hdl; simp at hdl; omega
      have hdf1 : (css.drop i).flatten = css[i] ++ (css.drop (i + 1)).flatten := by rw [List.drop_eq_getElem_cons hlt, List.flatten_cons]
      have hei : css[i].length = 15 := hsz _ (List.getElem_mem _)
      have hd2f : (css.drop (i + 1)).flatten.length = (css.length - (i + 1)) * 15 := by rw [flatten_length (drop_sz hsz (i + 1))]; simp
      have hrest : rest.length = (c - css.length) * 15 := by
        have hf := flatten_length hsz
        rw [List.length_append, hf] at hcl
        omega
      have hcs : css.flatten ++ rest = ((css.take i).flatten ++ css[i]) ++ (((css.drop (i + 1)).flatten ++ rest.take 15) ++ rest.drop 15) := by
        rw [flat_split css i, hdf1]
        simp only [List.append_assoc, List.take_append_drop]
      have hr15 : (rest.take 15).length = 15 := by rw [List.length_take]; omega
      refine C.skip ?_
      refine sr (p 3 rfl (an ((css.length + 1 : Nat) : Int) rfl (by simp) (by omega) (slh (css.length + 1) rfl rfl (by omega) (p 1 rfl (z ?_)))))
      refine C.seq ?_
      refine sr (p 4 rfl (an ((i + 1 : Nat) : Int) rfl (by simp) (by omega) (slt (i + 1) rfl rfl (by omega) (by omega) (by omega) (cx rfl (ov_run hs.f.2 (hs.bk 0 rfl) hne (by intro e; rw [e] at hcl; simp at hcl; omega)) (p 1 rfl (z ?_))))))
      refine C.yes rfl ?_ -- t68
      refine C.seq ?_
      refine dro (fun q => q = g) 9 [0, 1, 2, 3, 4, 5, 6, 7, 508] hs fun w2 hs => dp 3 rfl (dan ((i + 1 : Nat) : Int) rfl (by simp) (by omega) (dslt (i + 1) rfl rfl (by omega) (by omega) (by omega) (dp 2 rfl (dslt i rfl rfl (by omega) (by omega) (by omega) ?_))))
      have hmin2 : Nat.min (css.length + 1 - i) (css.length + 1 - (i + 1)) = css.length - i := by
        have : css.length + 1 - (i + 1) = css.length - i := by omega
        rw [this]; exact Nat.min_eq_right (by omega)
      have hy : y90.size = 15 := rfl
      have hmin1 : Nat.min 1 (css.length + 1 - i) = 1 := Nat.min_eq_left (by omega)
      have hcs0 : css.flatten ++ rest = (css.take i).flatten ++ ((css.drop i).flatten ++ rest) := by rw [flat_split css i, List.append_assoc]
      refine dcp 0 (css.drop i).flatten ((css.take i).flatten ++ (css[i] ++ ((css.drop i).flatten ++ rest.drop 15))) hs rfl rfl (by rw [hmin2, hdf]; rfl) (fun _ => ⟨g, _, rfl, fun j u hj => ?_⟩) (by rw [hcl, hdf, hy]; omega) hd1 ?_ rfl fun J w2 hs => dz (z ?_)
      · have hjl := (List.getElem?_eq_some_iff.1 hj).1
        rw [(hs.bk 0 rfl).cell, hcs0, hy, Nat.zero_add, List.getElem?_append_right (by omega), htf, Nat.add_sub_cancel_left, List.getElem?_append_left hjl]
        exact hj
      · exact (spl_at' (B' := (css.drop i).flatten) hcs (by rw [List.length_append, htf, hei, hy]; omega) (by rw [hdf, List.length_append, hd2f, hr15]; omega)).trans (by simp only [List.append_assoc])
      refine sr (p 2 rfl (slt i rfl rfl (by omega) (by omega) (by omega) (p 1 rfl ?_)))
      refine cp 0 v ((css.take i).flatten ++ (v ++ ((css.drop i).flatten ++ rest.drop 15))) hs rfl rfl (by rw [hvl, hmin1]; rfl) (fun _ => ⟨vb, 0, rfl, fun j u hj => by rw [hs.f.2.cell, Nat.zero_add]; exact hj⟩) (by simp only [List.length_append, htf, hvl, hy, hei]; omega) hv1 (spl_at' rfl (by rw [htf, Nat.zero_add]; rfl) (by rw [hvl, hei])) fun J w1 hs => z ?_
      refine sr (p 2 rfl (z ?_))
      refine C.ret ?_
      obtain ⟨J3, hs⟩ := hs.shut 0 c 15 (css.take i ++ v :: css.drop i) (rest.drop 15) rfl (by simp [List.append_assoc]) (by
        simp only [List.length_append, htf, hvl, hdf, List.length_drop, hrest] at hcl ⊢
        omega) (by rw [hrl]; omega) hc63 hrsz
      exact m1 rfl rfl (some ⟨g, 0, none⟩, c) hs rfl trivial
end Bo
namespace Bo
open Go Go.Proofs Go.RowKit
section
variable {P : Program} [lc : LC P] {N : Nat} {ops : Array Oper} {o : Oper} {qs : Ob} {E : Nat → Prop} {K : Env → World → Prop} {ρ : Env} {w ws : World}
theorem dslh {a : Option Addr} {n c sz : Nat} {hi : Option Int} (h : Nat) (hq : slq lc.L ops ρ o = some (sz, a, n, c, none, hi)) (hh : hi.getD n = h) (hc : h ≤ c)
    (k : Wa P N ops E ws qs K (updo N ρ o.dst (.slice a h c)) w) : Wa P N ops E ws (.q o qs) K ρ w := by
  have e : (if c = 0 then a else a.map (·.add (0 * sz))) = a := by
    split
    · rfl
    · cases a with
      | none => rfl
      | some a => simp [Addr.add]
  refine Wa.q (slq_run (P := P) (l := 0) hq hh rfl hc (Nat.zero_le _) w).1 (fun _ w' _ => (slq_run (P := P) (l := 0) hq hh rfl hc (Nat.zero_le _) w').2.2) ?_
  rw [e]; exact k
end
theorem spl_tail {A X Z : List Value} {off : Nat} (h : A.length ≤ off ∨ Z = []) (hf : off + Z.length ≤ (A ++ X).length) : ∃ X', spl (A ++ X) off Z = A ++ X' ∧ X'.length = X.length := by
  rcases h with h | rfl
  · refine ⟨spl X (off - A.length) Z, ?_, ?_⟩
    · unfold spl
      rw [List.take_append, List.drop_append, List.take_of_length_le h, List.drop_of_length_le (by omega), List.append_assoc, List.nil_append]
      congr 4
      omega
    · rw [spl_length]; rw [List.length_append] at hf; omega
  · exact ⟨X, by simp [spl], rfl⟩
theorem slices_ReplaceS {I : Nat → Prop} {w : World} {a : Option Addr} {c vb T : Nat} (css : List (List Value)) (v : List Value) (i j : Nat) (hM : Ms I [.own a c 90 15 css] w) (hV : Im vb T v I w) (hvl : v.length = 15) (hv1 : ∀ x ∈ v, x.oneCell' = true) (hc1 : ∀ y ∈ css, ∀ x ∈ y, x.oneCell' = true) (hij : i ≤ j) (hj : j ≤ css.length) (hl : css.length ≤ 1000000) :
    Cm Tryz.prog 153 #[.slice a css.length c, .int .i64 i, .int .i64 j, .slice (some ⟨vb, 0, none⟩) 1 1] I w [.own a c 90 15 css] (fun r : Option Addr × Nat => .slice r.1 (css.take i ++ v :: css.drop j).length r.2) (fun r => [.own r.1 r.2 90 15 (css.take i ++ v :: css.drop j)]) (fun _ _ _ => True) := by
  refine Cm.of (args := [_, _, _, _]) (F := Im vb T v) Tryz.func153 rfl rfl hM hV fun hs => ?_
  have hle := own_le (hs.m _ (List.mem_of_getElem? (i := 0) rfl)).1
  have hsz : ∀ x ∈ css, x.length = 15 := (hs.m _ (List.mem_of_getElem? (i := 0) rfl)).1.2
  refine sr (p 1 rfl (z ?_))
  refine sr (p 3 rfl (slg i j rfl rfl rfl (by omega) hij fun a' => z ?_))
  refine C.seq ?_
  refine sr (p 3 rfl (z ?_))
  refine C.cond_dec rfl (fun h1 => ?_) fun h1 => ?_ -- t21
  · have : i = j := by omega
    subst this
    have hrl : (css.take i ++ v :: css.drop i).length = css.length + 1 := by simp; omega
    refine sr (p 3 rfl (cm rfl hs (slices_InsertS css v i hs.ms hs.f hvl hv1 hc1 hj hl) rfl fun r J w1 hs => p 1 rfl (z ?_)))
    refine C.ret ?_
    exact m1 rfl rfl r (hs.to fun h => h.2) (by rw [hrl]) trivial
  generalize fpD [Rs.own a c 90 15 css] = D at hs
  have hlt : i < css.length := by omega
  obtain ⟨g, rfl⟩ := own_some (hs.m _ (List.mem_of_getElem? (i := 0) rfl)).1 (by intro e; rw [e] at hlt; simp at hlt)
  have htl : (css.take i).length = i := by simp; omega
  have htf : (css.take i).flatten.length = i * 15 := by rw [flatten_length (take_sz hsz i), htl]
  have hdl : (css.drop j).length = css.length - j := by simp
  have hdf : (css.drop j).flatten.length = (css.length - j) * 15 := by rw [flatten_length (drop_sz hsz j), hdl]
  have hdf1 : (css.drop i).flatten = css[i] ++ (css.drop (i + 1)).flatten := by rw [List.drop_eq_getElem_cons hlt, List.flatten_cons]
  have hei : css[i].length = 15 := hsz _ (List.getElem_mem _)
  have hd2f : (css.drop (i + 1)).flatten.length = (css.length - (i + 1)) * 15 := by rw [flatten_length (drop_sz hsz (i + 1))]; simp
  have hrsz : ∀ x ∈ css.take i ++ v :: css.drop j, x.length = 15 := by
    intro x hx
    rcases List.mem_append.1 hx with hx | hx
    · exact take_sz hsz i x hx
    · rcases List.mem_cons.1 hx with rfl | hx
      · exact hvl
      · exact drop_sz hsz j x hx
  have hrl : (css.take i ++ v :: css.drop j).length = i + 1 + (css.length - j) := by simp; omega
  have hd1 : ∀ x ∈ (css.drop j).flatten, x.oneCell' = true := by
    intro x hx
    obtain ⟨y, hy, hx⟩ := List.mem_flatten.1 hx
    exact hc1 y (List.mem_of_mem_drop hy) x hx
  have hy : y90.size = 15 := rfl
  have hyz : y90.zero.length = 15 := rfl
  obtain ⟨rest, J1, hs, hcl, hnc, hc63, _⟩ := hs.open 0 rfl
  have hcs : css.flatten ++ rest = (css.take i).flatten ++ (css[i] ++ ((css.drop (i + 1)).flatten ++ rest)) := by
    rw [flat_split css i, hdf1]
    simp only [List.append_assoc]
  rw [hcs] at hs hcl
  have hrest : rest.length = (c - css.length) * 15 := by
    simp only [List.length_append, htf, hei, hd2f] at hcl
    omega
  have hsv : ∀ {J : Nat → Prop} {w : World}, Im vb T v J w → v ≠ [] → ∃ b' off', some (⟨vb, 0, none⟩ : Addr) = some ⟨b', off', none⟩ ∧ ∀ j u, v[j]? = some u → w.cell? ⟨b', off' + j, none⟩ = some u :=
    fun h _ => ⟨vb, 0, rfl, fun j u hj => by rw [h.2.cell, Nat.zero_add]; exact hj⟩
  have hvne : v ≠ [] := by intro e; rw [e] at hvl; simp at hvl
  refine C.skip ?_
  refine C.seq ?_
  refine sr (p 4 rfl (z ?_))
  refine C.cond_dec rfl (fun h2 => ?_) fun h2 => ?_ -- t29
  · have : j = css.length := by omega
    subst this
    rw [List.drop_length] at hrsz hrl ⊢
    refine sr (p 2 rfl (slh i rfl rfl (by omega) (p 1 rfl ?_)))
    refine apr 0 v ((css.take i).flatten ++ (v ++ ((css.drop (i + 1)).flatten ++ rest))) hs rfl rfl (by rw [hvl]; rfl) (hsv hs.f hvne) hv1 (by omega) (by rw [hcl, hvl, hy]; omega) (spl_at' rfl (by rw [htf]; rfl) (by rw [hvl, hei])) fun J w1 hs => p 1 rfl (z ?_)
    refine sc (fun ρ w' => ρ 9 = .slice (some ⟨g, 0, none⟩) (i + 1) c ∧ ∃ R J, R.length = ((css.drop (i + 1)).flatten ++ rest).length ∧ St D I w J [.blk g 90 ((css.take i).flatten ++ (v ++ R))] (Im vb T v) w') ?_ ?_
    · refine sr (p 5 rfl (z ?_))
      refine C.cond_dec rfl (fun h3 => ?_) fun h3 => ?_ -- t39
      · refine C.reg (p 3 rfl (slt (i + 1) rfl rfl (by omega) (by omega) (by omega) ?_))
        have hzf : (List.replicate (css.length - (i + 1)) y90.zero).flatten.length = (css.length - (i + 1)) * 15 := by rw [flatten_length (sz := 15) (fun x hx => by rw [(List.mem_replicate.1 hx).2]; rfl), List.length_replicate]
        refine clr 0 ((css.take i).flatten ++ (v ++ ((List.replicate (css.length - (i + 1)) y90.zero).flatten ++ rest))) hs rfl rfl (by simp only [List.length_append, htf, hvl, hd2f, hyz, hy]; omega) ?_ fun J w1 hs => z ⟨rfl, _, _, by simp only [List.length_append, hzf, hd2f], hs⟩
        exact (spl_at' (A := (css.take i).flatten ++ v) (B := (css.drop (i + 1)).flatten) (C := rest) (by simp only [List.append_assoc]) (by rw [List.length_append, htf, hvl, hy]; omega) (by rw [hzf, hd2f])).trans (by simp only [List.append_assoc])
      · exact C.skip ⟨rfl, _, _, rfl, hs⟩
    rintro ρ w2 ⟨h9, R, J2, hRl, hs⟩
    refine C.nm 9 h9 ?_
    refine sr (p 2 rfl (z ?_))
    refine C.ret ?_
    rw [List.length_append, hd2f, hrest] at hRl
    obtain ⟨J3, hs⟩ := hs.shut 0 c 15 (css.take i ++ [v]) R rfl (by simp [List.append_assoc]) (by simp only [List.length_append, htf, hvl, hRl]; omega) (by rw [hrl]; omega) hc63 hrsz
    refine m1 rfl rfl (some ⟨g, 0, none⟩, c) hs ?_ trivial
    rw [hrl, Nat.sub_self]
  · refine C.skip ?_
    have hjl : j < css.length := by omega
    refine C.seq ?_
    refine dro N0 12 [0, 1, 2, 3, 4, 5, 6, 7, 8, 9, 10, 11] hs fun w2 hs => dp 2 rfl (dslh i rfl rfl (by omega) (dp 3 rfl ?_))
    refine dan ((i + 1 : Nat) : Int) rfl (by simp) (by omega) (dp 2 rfl (dslt j rfl rfl (by omega) (by omega) (by omega) (dp 1 rfl ?_)))
    refine dan ((i + 1 + (css.length - j) : Nat) : Int) rfl (by simp) (by omega) (dz (p 1 rfl (z ?_)))
    generalize ht : i + 1 + (css.length - j) = t at hrl ⊢
    refine C.seq ?_
    refine sr (p 4 rfl (z ?_))
    refine C.cond_dec rfl (fun h3 => absurd h3 (by omega)) fun h3 => ?_ -- t60
    refine C.skip ?_
    refine sr (p 2 rfl (slh t rfl rfl (by omega) (p 1 rfl (z ?_))))
    refine C.seq ?_
    refine sr (p 3 rfl (an ((i + 1 : Nat) : Int) rfl (by simp) (by omega) (p 2 rfl (z ?_))))
    refine C.cond_dec rfl (fun h4 => ?_) fun h4 => absurd (show ((i + 1 : Nat) : Int) ≤ j by omega) h4 -- t92
    have hmin1 : Nat.min 1 (t - i) = 1 := Nat.min_eq_left (by omega)
    refine sr (p 2 rfl (slt i rfl rfl (by omega) (by omega) (by omega) (p 1 rfl ?_)))
    refine cp 0 v ((css.take i).flatten ++ (v ++ ((css.drop (i + 1)).flatten ++ rest))) hs rfl rfl (by rw [hvl, hmin1]; rfl) (hsv hs.f) (by rw [hcl, hvl, hy]; omega) hv1 (spl_at' rfl (by rw [htf, Nat.zero_add]; rfl) (by rw [hvl, hei])) fun J w1 hs => z ?_
    have hdj : (css.drop (i + 1)).flatten = ((css.drop (i + 1)).take (j - (i + 1))).flatten ++ (css.drop j).flatten := by
      rw [← List.flatten_append]
      congr 1
      rw [show css.drop j = (css.drop (i + 1)).drop (j - (i + 1)) by rw [List.drop_drop]; congr 1; omega, List.take_append_drop]
    have hmf : ((css.drop (i + 1)).take (j - (i + 1))).flatten.length = (j - (i + 1)) * 15 := by
      rw [flatten_length (take_sz (drop_sz hsz (i + 1)) _)]; congr 1; simp; omega
    have hmin2 : Nat.min (css.length - j) (t - (i + 1)) = css.length - j := Nat.min_eq_left (by omega)
    refine C.seq ?_
    refine dro (fun q => q = g) 10 [0, 1, 2, 3, 4, 5, 6, 7, 8, 509] hs fun w2 hs => dp 4 rfl (dan ((i + 1 : Nat) : Int) rfl (by simp) (by omega) (dslt (i + 1) rfl rfl (by omega) (by omega) (by omega) (dp 2 rfl (dslt j rfl rfl (by omega) (by omega) (by omega) ?_))))
    refine dcp 0 (css.drop j).flatten ((css.take i).flatten ++ (v ++ ((css.drop j).flatten ++ (((css.drop (i + 1)).flatten ++ rest).drop ((css.length - j) * 15))))) hs rfl rfl (by rw [hmin2, hdf]; rfl) (fun _ => ⟨g, _, rfl, fun q u hq => ?_⟩) (by simp only [List.length_append, htf, hvl, hd2f, hdf, hy]; omega) hd1 ?_ rfl fun J w2 hs => dz (z ?_)
    · have hql := (List.getElem?_eq_some_iff.1 hq).1
      have e : (css.take i).flatten ++ (v ++ ((css.drop (i + 1)).flatten ++ rest)) = ((css.take i).flatten ++ (v ++ ((css.drop (i + 1)).take (j - (i + 1))).flatten)) ++ ((css.drop j).flatten ++ rest) := by rw [hdj]; simp only [List.append_assoc]
      have el : ((css.take i).flatten ++ (v ++ ((css.drop (i + 1)).take (j - (i + 1))).flatten)).length = j * 15 := by simp only [List.length_append, htf, hvl, hmf]; omega
      rw [(hs.bk 0 rfl).cell, e, hy, Nat.zero_add, List.getElem?_append_right (by omega), el, Nat.add_sub_cancel_left, List.getElem?_append_left hql]
      exact hq
    · refine (spl_at' (A := (css.take i).flatten ++ v) (B := ((css.drop (i + 1)).flatten ++ rest).take ((css.length - j) * 15)) (C := ((css.drop (i + 1)).flatten ++ rest).drop ((css.length - j) * 15)) (by rw [List.take_append_drop]; simp only [List.append_assoc]) (by rw [List.length_append, htf, hvl, hy]; omega) ?_).trans (by simp only [List.append_assoc])
      rw [hdf, List.length_take, List.length_append, hd2f]; omega
    generalize hX : ((css.drop (i + 1)).flatten ++ rest).drop ((css.length - j) * 15) = X at hs
    have hXl : X.length = (c - t) * 15 := by rw [← hX, List.length_drop, List.length_append, hd2f, hrest]; omega
    have hA : ((css.take i).flatten ++ (v ++ (css.drop j).flatten)).length = t * 15 := by simp only [List.length_append, htf, hvl, hdf]; omega
    refine sr (p 2 rfl (slv t css.length rfl rfl rfl (by omega) (by omega) ?_))
    have hzf : (List.replicate (css.length - t) y90.zero).flatten.length = (css.length - t) * 15 := by rw [flatten_length (sz := 15) (fun x hx => by rw [(List.mem_replicate.1 hx).2]; rfl), List.length_replicate]
    have hoff : ∃ X', spl (((css.take i).flatten ++ (v ++ (css.drop j).flatten)) ++ X) (if c = t then 0 else 0 + t * y90.size) (List.replicate (css.length - t) y90.zero).flatten = ((css.take i).flatten ++ (v ++ (css.drop j).flatten)) ++ X' ∧ X'.length = X.length := by
      refine spl_tail ?_ ?_
      · by_cases hct : c = t
        · right
          rw [show css.length - t = 0 by omega]; rfl
        · left
          rw [if_neg hct, hA, hy]; omega
      · rw [List.length_append, hA, hXl, hzf]
        split
        · omega
        · rw [hy]; omega
    obtain ⟨X', hX', hXl'⟩ := hoff
    refine clr 0 ((css.take i).flatten ++ (v ++ ((css.drop j).flatten ++ X'))) hs rfl rfl ?_ ?_ fun J w1 hs => z ?_
    · rw [show (css.take i).flatten ++ (v ++ ((css.drop j).flatten ++ X)) = ((css.take i).flatten ++ (v ++ (css.drop j).flatten)) ++ X by simp only [List.append_assoc], List.length_append, hA, hXl, hyz]
      split
      · omega
      · rw [hy]; omega
    · rw [show (css.take i).flatten ++ (v ++ ((css.drop j).flatten ++ X)) = ((css.take i).flatten ++ (v ++ (css.drop j).flatten)) ++ X by simp only [List.append_assoc]]
      rw [hX']
      simp only [List.append_assoc]
    refine sr (p 2 rfl (z ?_))
    refine C.ret ?_
    obtain ⟨J3, hs⟩ := hs.shut 0 c 15 (css.take i ++ v :: css.drop j) X' rfl (by simp [List.append_assoc]) (by
      simp only [List.length_append, htf, hvl, hdf, hXl', hXl] at hA ⊢
      omega) (by rw [hrl]; omega) hc63 hrsz
    refine m1 rfl rfl (some ⟨g, 0, none⟩, c) hs ?_ trivial
    rw [hrl]
end Bo
namespace Bo
open Go Go.Proofs Go.RowKit
theorem tw_step {α : Type} {p : α → Bool} {l : List α} {i : Nat} (hi : i ≤ (l.takeWhile p).length) {x : α} (hx : l[i]? = some x) (hp : p x = true) : i + 1 ≤ (l.takeWhile p).length := by
  induction l generalizing i with
  | nil => simp at hx
  | cons y l ih =>
    cases i with
    | zero => simp at hx; subst hx; simp [hp]
    | succ i =>
      simp only [List.getElem?_cons_succ] at hx
      by_cases hy : p y = true
      · simp only [List.takeWhile_cons, hy, if_true, List.length_cons] at hi ⊢
        have := ih (by omega) hx
        omega
      · simp [hy] at hi
theorem tw_stop {α : Type} {p : α → Bool} {l : List α} {i : Nat} (hi : i ≤ (l.takeWhile p).length) (hx : ∀ x, l[i]? = some x → p x = false) : i = (l.takeWhile p).length := by
  induction l generalizing i with
  | nil => simp at hi ⊢; exact hi
  | cons y l ih =>
    cases i with
    | zero =>
      have := hx y rfl
      simp [this]
    | succ i =>
      by_cases hy : p y = true
      · simp only [List.takeWhile_cons, hy, if_true, List.length_cons] at hi ⊢
        have := ih (i := i) (by omega) (fun x h => hx x (by simpa using h))
        omega
      · simp [hy] at hi
theorem tw_take {α : Type} (p : α → Bool) (l : List α) : l.takeWhile p = l.take (l.takeWhile p).length := List.prefix_iff_eq_take.1 (List.takeWhile_prefix p)
theorem idxAft_from (ss : List SM) (t : Int) : (idxAft ss t < 0 → fromS (ss.map SM.s) t = ss.length) ∧ (¬ idxAft ss t < 0 → idxAft ss t = fromS (ss.map SM.s) t) := by
  have e : fromS (ss.map SM.s) t = ss.findIdx fun x => decide (t < x.s.last) := by
    unfold fromS; rw [List.findIdx_map]; rfl
  rw [e]
  unfold idxAft
  cases h : ss.findIdx? (fun x => decide (t < x.s.last)) with
  | none =>
    refine ⟨fun _ => ?_, fun h' => absurd (show (-1 : Int) < 0 by decide) h'⟩
    rw [List.findIdx_eq_length]
    intro x hx
    exact List.findIdx?_eq_none_iff.1 h x hx
  | some i =>
    refine ⟨fun h' => by simp only at h'; omega, fun _ => ?_⟩
    obtain ⟨hi, hp, hn⟩ := List.findIdx?_eq_some_iff_getElem.1 h
    have := (List.findIdx_eq (p := fun x : SM => decide (t < x.s.last)) hi).2 ⟨hp, fun j hj => by simpa using hn j hj⟩
    simp only [this]
theorem AM.one1 (x : AM) : ∀ v ∈ x.c, v.oneCell' = true := List.all_eq_true.1 (show x.c.all (·.oneCell') = true from rfl)
theorem AM.one (xs : List AM) : ∀ cs ∈ xs.map AM.c, ∀ v ∈ cs, v.oneCell' = true := by
  intro cs hcs
  obtain ⟨x, _, rfl⟩ := List.mem_map.1 hcs
  exact x.one1
theorem SM.one1 (x : SM) : ∀ v ∈ x.c, v.oneCell' = true := List.all_eq_true.1 (show x.c.all (·.oneCell') = true from rfl)
section
variable {P : Program} [lc : LC P] {N : Nat} {ops : Array Oper} {o : Oper} {os : List Oper} {K : Env → World → Prop} {ρ : Env} {w w0 : World} {D I J : Nat → Prop} {M : List Rs} {F : Pf}
/-- A part of an element of the call's own slice. -/
theorem lop (i j k' : Nat) (cs' : List Value) {g off' n c T sz : Nat} {css : List (List Value)} {es : List Value} (hs : St D I w0 J M F w) (h : ldq lc.L ops ρ o = some (g, off', some n)) (hM : M[i]? = some (.own (some ⟨g, 0, none⟩) c T sz css)) (hj : css[j]? = some es) (ho : off' = j * sz + k') (hn : cs'.length = n) (hv : (es.drop k').take n = cs')
    (k : Wl P N ops os K (updo N ρ o.dst (.agg cs'.toArray)) w) : Wl P N ops (o :: os) K ρ w :=
  Wl.op (ldq_run (P := P) (cs := []) h).1 (OpR.ldn h hn (fun q v hq => by
    subst ho
    rw [Nat.add_assoc]
    refine own_cell (hs.m _ (List.mem_of_getElem? hM)).1 hj ?_
    rw [← hv, List.getElem?_take] at hq
    split at hq
    · rwa [List.getElem?_drop] at hq
    · cases hq) k)
end
def SM.am (s : SM) : AM := ⟨s.s.acc, s.p, s.k⟩
structure PutR where
  v : Value
  a : Option Addr
  c : Nat
  ss : List SM
theorem session_put {I : Nat → Prop} {w : World} {a ab : Option Addr} {c cb : Nat} (bs : List Int) (gap : Int) (ss : List SM) (x : Item) (hM : Ms I [.own a c 90 15 (ss.map SM.c)] w) (hS : ∀ s, s ∈ ss → RI s.p s.k s.s.acc.hist I w) (hB : RI ab cb bs I w)
    (hgap : 1 ≤ gap ∧ gap ≤ 1073741824) (hx : x.ok) (hbo : bdOk bs) (hl : ss.length ≤ 900000) (hh : ∀ s ∈ ss, s.s.acc.hist.length ≤ 1000000) :
    Cm Tryz.prog 117 #[.slice a ss.length c, .int .i64 gap, .slice ab bs.length cb, .agg x.c.toArray] I w [.own a c 90 15 (ss.map SM.c)] (fun r : PutR => .tuple #[r.v, .int .i64 (putP bs gap (ss.map SM.s) x).e]) (fun r => [.own r.a r.c 90 15 (r.ss.map SM.c)])
      (fun r J w => (r.v = if (putP bs gap (ss.map SM.s) x).e = 0 then .slice r.a r.ss.length r.c else .slice none 0 0) ∧ ((putP bs gap (ss.map SM.s) x).e = 0 → r.ss.map SM.s = putS bs gap (ss.map SM.s) x ∧ ∀ s, s ∈ r.ss → RI s.p s.k s.s.acc.hist J w)) := by
  refine Cm.of (args := [_, _, _, _]) (F := fun J w => (∀ s, s ∈ ss → RI s.p s.k s.s.acc.hist J w) ∧ RI ab cb bs J w) Tryz.func117 rfl rfl hM ⟨hS, hB⟩ fun hs => ?_
  generalize fpD [Rs.own a c 90 15 (ss.map SM.c)] = D at hs
  have hxt := hx.2.2.1
  have hml : (ss.map SM.c).length = ss.length := by simp
  refine sr (ai hs rfl fun b5 w1 hs => ai hs rfl fun b7 w1 hs => p 2 rfl (z ?_))
  have hR : RSes a c ss (fun _ => True) w1 := ⟨own_rc (hs.m _ (List.mem_of_getElem? (i := 0) rfl)).1, fun s h => Stab.mono (fun b _ _ => ⟨trivial, rfl⟩) (hs.f.2.2.1 s h)⟩
  have h7 : Im b7 82 x.c (fun _ => True) w1 := Stab.mono (fun b _ _ => ⟨trivial, rfl⟩) hs.f.1
  have h5 : Im b5 3 (ic gap) (fun _ => True) w1 := Stab.mono (fun b _ _ => ⟨trivial, rfl⟩) hs.f.2.1
  refine sr (p 2 rfl (Wl.nm 18 (v := .func (.func 150) #[] #[.pointer (some ⟨b7, 0, none⟩), .pointer (some ⟨b5, 0, none⟩)]) ?_ ?_))
  · show Value.func _ (Array.map (ev _) #[]) (Array.map (ev _) #[Operand.tmp 7, Operand.tmp 5]) = _
    rw [List.map_toArray, List.map_toArray]
    rfl
  refine cr rfl hs (IndexFunc ss x gap hR h7 h5 hxt hgap (by omega)) fun w2 hs => p 1 rfl (z ?_)
  have hft := idxAft_from ss (x.time - gap)
  have hfl := fromS_le (ss.map SM.s) (x.time - gap)
  rw [List.length_map] at hfl
  refine sc (fun ρ w' => ρ 0 = .slice a ss.length c ∧ ρ 2 = .slice ab bs.length cb ∧ ρ 5 = .pointer (some ⟨b5, 0, none⟩) ∧ ρ 7 = .pointer (some ⟨b7, 0, none⟩) ∧ ρ 10 = .int .i64 (fromS (ss.map SM.s) (x.time - gap)) ∧ ∃ J, St D I w J [.own a c 90 15 (ss.map SM.c)] (fun J w => Im b7 82 x.c J w ∧ Im b5 3 (ic gap) J w ∧ (∀ s, s ∈ ss → RI s.p s.k s.s.acc.hist J w) ∧ RI ab cb bs J w) w') ?_ ?_
  · refine sr (p 2 rfl (z ?_))
    refine C.cond_dec rfl (fun h1 => ?_) fun h1 => ?_ -- t21
    · refine C.reg (p 3 rfl (z ⟨rfl, rfl, rfl, rfl, vi rfl (by rw [hft.1 h1]), _, hs⟩))
    · exact C.skip ⟨rfl, rfl, rfl, rfl, vi rfl (hft.2 h1), _, hs⟩
  rintro ρ w3 ⟨h0, h2, h5, h7, h10, J, hs⟩
  refine C.nm 0 h0 (C.nm 2 h2 (C.nm 5 h5 (C.nm 7 h7 (C.nm 10 h10 ?_))))
  generalize hfr : fromS (ss.map SM.s) (x.time - gap) = fr at hfl ⊢
  refine sr (p 2 rfl (z ?_))
  refine sr (p 1 rfl (z ?_))
  have hs1 := hs.own 88 13
  have hsl : segL (ss.map SM.s) fr (x.time + gap) = ((ss.drop fr).takeWhile fun s => decide (s.s.first < x.time + gap)).map SM.s := by
    unfold segL; rw [← List.map_drop, List.takeWhile_map]; rfl
  generalize hLdef : (ss.drop fr).takeWhile (fun s => decide (s.s.first < x.time + gap)) = L at hsl
  have hLt : L = (ss.drop fr).take L.length := by rw [← hLdef]; exact tw_take _ _
  have aml : ∀ i, fr + i ≤ ss.length → (((ss.drop fr).take i).map SM.am).length = i := fun i hi => by simp; omega
  refine C.seq ?_
  refine C.block ?_ -- BLOCK 0
  refine C.loop (fun n ρ w' => ∃ (i : Nat) (a1 : Option Addr) (c1 : Nat) (J : Nat → Prop), n = ss.length - (fr + i) ∧ fr + i ≤ ss.length ∧ i ≤ L.length ∧ ρ 0 = .slice a ss.length c ∧ ρ 2 = .slice ab bs.length cb ∧ ρ 5 = .pointer (some ⟨b5, 0, none⟩) ∧ ρ 7 = .pointer (some ⟨b7, 0, none⟩) ∧ ρ 10 = .int .i64 fr ∧ ρ 11 = .int .i64 (fr + i : Nat) ∧ ρ 12 = .slice a1 (((ss.drop fr).take i).map SM.am).length c1 ∧ St D I w J [.own a1 c1 88 13 ((((ss.drop fr).take i).map SM.am).map AM.c), .own a c 90 15 (ss.map SM.c)] (fun J w => Im b7 82 x.c J w ∧ Im b5 3 (ic gap) J w ∧ (∀ s, s ∈ ss → RI s.p s.k s.s.acc.hist J w) ∧ RI ab cb bs J w) w') _ ⟨0, none, 0, _, rfl, by omega, by omega, rfl, rfl, rfl, rfl, rfl, rfl, rfl, hs1⟩ ?_
  rintro n ρ w4 ⟨i, a1, c1, J, hn, hi, hiL, h0, h2, h5, h7, h10, h11, h12, hs⟩
  have hal := aml i hi
  refine C.nm 0 h0 (C.nm 2 h2 (C.nm 5 h5 (C.nm 7 h7 (C.nm 10 h10 (C.nm 11 h11 (C.nm 12 h12 ?_))))))
  refine C.seq ?_
  refine sc (fun ρ w' => ρ 0 = .slice a ss.length c ∧ ρ 2 = .slice ab bs.length cb ∧ ρ 5 = .pointer (some ⟨b5, 0, none⟩) ∧ ρ 7 = .pointer (some ⟨b7, 0, none⟩) ∧ ρ 10 = .int .i64 fr ∧ ρ 11 = .int .i64 (fr + i : Nat) ∧ ρ 12 = .slice a1 (((ss.drop fr).take i).map SM.am).length c1 ∧ (∃ r, ρ 40 = .bool r ∧ (r = true ↔ ∃ s, ss[fr + i]? = some s ∧ s.s.first < x.time + gap)) ∧ ∃ J, St D I w J [.own a1 c1 88 13 ((((ss.drop fr).take i).map SM.am).map AM.c), .own a c 90 15 (ss.map SM.c)] (fun J w => Im b7 82 x.c J w ∧ Im b5 3 (ic gap) J w ∧ (∀ s, s ∈ ss → RI s.p s.k s.s.acc.hist J w) ∧ RI ab cb bs J w) w') ?_ ?_
  · refine dro N0 16 [0, 1, 2, 3, 4, 5, 6, 7, 8, 9, 10, 11, 12, 13, 14, 15] hs fun w5 hs => ?_
    refine dp 5 rfl (dgd 29 rfl (fun h1 => ?_) fun h1 => ?_)
    · have hsx := List.getElem?_eq_getElem (show fr + i < ss.length by omega)
      generalize ss[fr + i] = s at hsx
      refine dp 2 rfl ?_
      refine dixo 1 (fr + i) hs rfl rfl (by rw [hml]; omega) (by rw [hml]) fun g hg => ?_
      subst hg
      refine dp 1 rfl (dlo 1 (fr + i) 0 hs rfl rfl (map_get hsx) rfl rfl (dp 1 rfl (dl rfl hs.f.1.2 rfl (dl rfl hs.f.2.1.2 rfl (da rfl (by omega) (dp 2 rfl (dz (z ⟨rfl, rfl, rfl, rfl, rfl, rfl, rfl, ⟨_, rfl, iffd ?_⟩, _, hs⟩))))))))
      exact ⟨fun h => ⟨s, hsx, h⟩, fun ⟨s', hs', h⟩ => by rw [hsx] at hs'; cases hs'; exact h⟩
    · refine dp 11 rfl (dz (z ⟨rfl, rfl, rfl, rfl, rfl, rfl, rfl, ⟨_, rfl, ifff ?_⟩, _, hs⟩))
      rintro ⟨s, hs', _⟩
      have := (List.getElem?_eq_some_iff.1 hs').1
      omega
  rintro ρ w5 ⟨h0, h2, h5, h7, h10, h11, h12, ⟨r, hr, hri⟩, J5, hs⟩
  refine C.nm 0 h0 (C.nm 2 h2 (C.nm 5 h5 (C.nm 7 h7 (C.nm 10 h10 (C.nm 11 h11 (C.nm 12 h12 (C.nm 40 hr ?_)))))))
  refine C.cond rfl (fun h3 => ?_) fun h3 => ?_ -- t40
  · obtain ⟨s, hsx, hlt⟩ := hri.1 h3
    have hxl := (List.getElem?_eq_some_iff.1 hsx).1
    have hsd : (ss.drop fr)[i]? = some s := by rw [List.getElem?_drop]; exact hsx
    have hiL' : i + 1 ≤ L.length := by rw [← hLdef] at hiL ⊢; exact tw_step hiL hsd (decide_eq_true hlt)
    have hap : (((ss.drop fr).take i).map SM.am).map AM.c ++ [s.am].map AM.c = (((ss.drop fr).take (i + 1)).map SM.am).map AM.c := by
      rw [List.take_add_one, hsd]; simp
    have hal' : ((((ss.drop fr).take (i + 1)).map SM.am).map AM.c).length = (((ss.drop fr).take (i + 1)).map SM.am).length := by simp
    refine C.skip ?_
    refine C.block ?_ -- BLOCK 1
    refine sr (p 3 rfl ?_)
    refine ixo 1 (fr + i) hs rfl rfl (by rw [hml]; omega) (by rw [hml]) fun g hg => ?_
    subst hg
    refine p 1 rfl (lop 1 (fr + i) 2 s.am.c hs rfl rfl (map_get hsx) rfl rfl rfl (Bo.bs ([s.am].map AM.c) hs rfl fun a2 w6 hs => ?_))
    refine ap 0 hs rfl rfl (by simp) hs.f.1 rfl (AM.one [s.am]) (by show (_ + _) * 120 ≤ _; simp; omega) (by simp; omega) fun a3 c3 J3 w7 hs => ?_
    rw [hap] at hs ⊢
    rw [hal']
    refine p 1 rfl (z ?_)
    refine C.reg (p 1 rfl (an ((fr + (i + 1) : Nat) : Int) rfl (by omega) (by omega) (p 1 rfl (z ?_))))
    exact ⟨_, by omega, i + 1, a3, c3, J3, rfl, by omega, hiL', rfl, rfl, rfl, rfl, rfl, rfl, rfl, hs.to fun h => h.2⟩
  · have hiE : i = L.length := by
      rw [← hLdef] at hiL ⊢
      refine tw_stop hiL fun s hsd => ?_
      rw [List.getElem?_drop] at hsd
      exact decide_eq_false fun h => by have := hri.2 ⟨s, hsd, h⟩; rw [h3] at this; cases this
    subst hiE
    rw [← hLt] at hs ⊢
    refine C.exit ?_ -- EXIT 0
    have hLl : L.length ≤ ss.length := by omega
    refine sr (ln x.c rfl hs.f.1.2 rfl rfl (p 1 rfl (Bo.c rfl hs (acc_One x bs hs.f.2.2.2) fun q w6 hs => p 3 rfl (ais hs rfl (fun _ => rfl) rfl fun b13 J6 w6 hs => p 1 rfl (z ?_)))))
    have hq : q.ok = true := hs.f.2.1.1.2 ⟨hx, hbo⟩
    generalize hit : (if q.ok then oneA x bs else zeroA) = it at hs ⊢
    have hit' : it = oneA x bs := by rw [← hit, hq]; rfl
    refine sr (p 2 rfl (ln (it.c q.p q.k) rfl hs.im rfl rfl (Bo.bs ([(⟨it, q.p, q.k⟩ : AM)].map AM.c) hs rfl fun a2 w7 hs => ?_)))
    have hlen2 : (L.map SM.am).length = L.length := by simp
    refine ap 0 hs rfl rfl (by simp) hs.f.1 rfl (AM.one _) (by show (_ + _) * 120 ≤ _; simp; omega) (by simp; omega) fun a3 c3 J7 w8 hs => ?_
    have hap : (L.map SM.am).map AM.c ++ [(⟨it, q.p, q.k⟩ : AM)].map AM.c = (L.map SM.am ++ [(⟨it, q.p, q.k⟩ : AM)]).map AM.c := by simp
    have hal2 : ((L.map SM.am ++ [(⟨it, q.p, q.k⟩ : AM)]).map AM.c).length = (L.map SM.am ++ [(⟨it, q.p, q.k⟩ : AM)]).length := by simp
    rw [hap] at hs ⊢
    rw [hal2]
    obtain ⟨J8, hs⟩ := hs.done
    have hLm : ∀ s ∈ L, s ∈ ss := fun s hs => by rw [hLt] at hs; exact List.mem_of_mem_drop (List.mem_of_mem_take hs)
    have hRA : RAcc a3 c3 (L.map SM.am ++ [⟨it, q.p, q.k⟩]) J8 w8 := by
      refine ⟨hs.f.1, fun y hy => ?_⟩
      rcases List.mem_append.1 hy with hy | hy
      · obtain ⟨s, hsL, rfl⟩ := List.mem_map.1 hy
        exact hs.f.2.2.2.2.2.2.1 s (hLm s hsL)
      · rw [List.mem_singleton.1 hy]; exact hs.f.2.2.2.1.2
    have hmapA : (L.map SM.am ++ [(⟨it, q.p, q.k⟩ : AM)]).map AM.a = (L.map SM.s).map Session.acc ++ [oneA x bs] := by simp [hit', Function.comp_def, SM.am]
    have hP : putP bs gap (ss.map SM.s) x = ⟨fr, fr + L.length, joinEA bs ((L.map SM.s).map Session.acc ++ [oneA x bs]), joinFA bs.length ((L.map SM.s).map Session.acc ++ [oneA x bs])⟩ := by
      unfold putP
      simp only [hfr, hsl, List.length_map]
    have eE : joinE bs (L.map SM.am ++ [⟨it, q.p, q.k⟩]) = (putP bs gap (ss.map SM.s) x).e := by rw [joinE_A, hmapA, hP]
    have hJ := acc_Join (I := J8) (w := w8) bs (L.map SM.am ++ [⟨it, q.p, q.k⟩]) hs.f.2.2.2.2.2.2.2 hRA (by simp; omega) (fun y hy => by
      rcases List.mem_append.1 hy with hy | hy
      · obtain ⟨s, hsL, rfl⟩ := List.mem_map.1 hy
        have := hh s (hLm s hsL)
        show s.s.acc.hist.length ≤ _
        omega
      · rw [List.mem_singleton.1 hy]
        show it.hist.length ≤ _
        have := hbo.1
        rw [hit']; simp [oneA]; omega)
    rw [eE] at hJ
    have eA : joinA bs (L.map SM.am ++ [⟨it, q.p, q.k⟩]) = if (putP bs gap (ss.map SM.s) x).e = 0 then (putP bs gap (ss.map SM.s) x).acc else zeroA := by
      unfold joinA; rw [eE, joinF_A, hmapA, hP]
    rw [eA] at hJ
    generalize hal : (if (putP bs gap (ss.map SM.s) x).e = 0 then (putP bs gap (ss.map SM.s) x).acc else zeroA) = al at hJ
    refine Bo.c rfl hs hJ fun jr w9 hs => p 3 rfl (ais hs rfl (fun _ => rfl) rfl fun b15 J9 w9 hs => p 1 rfl (z ?_))
    refine C.seq ?_
    refine sr (p 2 rfl (z ?_))
    refine C.cond_dec rfl (fun h4 => ?_) fun h4 => ?_ -- t67
    · refine sr (p 3 rfl (z ?_))
      refine C.ret ?_
      exact m2 rfl rfl rfl ⟨.slice none 0 0, a, c, ss⟩ hs rfl ⟨by rw [if_neg h4], fun h => absurd h h4⟩
    · have h4 : (putP bs gap (ss.map SM.s) x).e = 0 := Classical.not_not.1 h4
      rw [if_pos h4] at hal
      refine C.skip ?_
      refine sr (p 5 rfl (l rfl hs.im rfl (p 2 rfl (l rfl hs.im rfl (ln (al.c jr.1 jr.2) rfl hs.im rfl rfl (bd (SM.c ⟨sesOf al, jr.1, jr.2⟩) rfl ?_))))))
      refine bsi [SM.c ⟨sesOf al, jr.1, jr.2⟩] hs rfl fun bv w10 hs => ?_
      have efl : [SM.c ⟨sesOf al, jr.1, jr.2⟩].flatten = SM.c ⟨sesOf al, jr.1, jr.2⟩ := by simp
      have hRep := slices_ReplaceS (ss.map SM.c) (SM.c ⟨sesOf al, jr.1, jr.2⟩) fr (fr + L.length) hs.ms (by have := hs.f.1; rw [efl] at this; exact this) rfl (SM.one1 _) (fun y hy => by obtain ⟨s, _, rfl⟩ := List.mem_map.1 hy; exact s.one1) (by omega) (by rw [hml]; omega) (by rw [hml]; omega)
      have ess : (ss.map SM.c).take fr ++ SM.c ⟨sesOf al, jr.1, jr.2⟩ :: (ss.map SM.c).drop (fr + L.length) = (ss.take fr ++ (⟨sesOf al, jr.1, jr.2⟩ : SM) :: ss.drop (fr + L.length)).map SM.c := by simp
      rw [ess, hml] at hRep
      generalize hN : ss.take fr ++ (⟨sesOf al, jr.1, jr.2⟩ : SM) :: ss.drop (fr + L.length) = ssN at hRep
      refine cm rfl hs hRep rfl fun r J11 w11 hs => p 2 rfl (z ?_)
      refine C.ret ?_
      refine m2 rfl rfl rfl ⟨.slice r.1 ssN.length r.2, r.1, r.2, ssN⟩ hs (by simp [h4]) ⟨by rw [if_pos h4], fun _ => ⟨?_, fun s hs' => ?_⟩⟩
      · rw [← hN]
        unfold putS
        rw [hP] at hal ⊢
        rw [← hal]
        simp
      · rw [← hN] at hs'
        rcases List.mem_append.1 hs' with hs' | hs'
        · exact hs.f.2.2.2.2.2.2.2.2.2.2.1 s (List.mem_of_mem_take hs')
        · rcases List.mem_cons.1 hs' with rfl | hs'
          · exact hs.f.2.2.2.1
          · exact hs.f.2.2.2.2.2.2.2.2.2.2.1 s (List.mem_of_mem_drop hs')
end Bo
namespace Bo
open Go Go.Proofs Go.RowKit
theorem session_May0 {I : Nat → Prop} {w : World} {ab : Option Addr} {cb : Nat} (bs : List Int) (gap : Int) (hB : RI ab cb bs I w) :
    Ct Tryz.prog 113 #[.slice none 0 0, .int .i64 gap, .slice ab bs.length cb] I w (fun r : Bool => .bool r) (fun r _ _ => (r = true ↔ gapOk gap ∧ bdOk bs)) := by
  refine Ct.of (args := [_, _, _]) (F := RI ab cb bs) Tryz.func113 rfl rfl hB fun hs => ?_
  refine sr (p 1 rfl (z ?_))
  refine C.seq ?_
  refine src (fun ρ w' => ρ 0 = .slice none 0 0 ∧ (∃ r, ρ 16 = .bool r ∧ (r = true ↔ ¬ (gapOk gap ∧ bdOk bs))) ∧ ∃ F, St N0 I w (up I w.heap.size) [] F w') ?_ ?_
  · refine p 1 rfl (c0 rfl hs (session_GapMay gap) fun w2 hs => p 2 rfl (gs 12 rfl (fun h1 => ?_) fun h1 => ?_))
    · have h1 : ¬ gapOk gap := by unfold gapOk; simp at h1; omega
      exact p 4 rfl (z ⟨rfl, ⟨_, rfl, ifft fun h => h1 h.1⟩, _, hs⟩)
    · have h1 : gapOk gap := by unfold gapOk; simpa using h1
      refine p 1 rfl (Bo.c rfl hs (acc_BoundsMay bs hs.f) fun y w2 hs => p 2 rfl (z ⟨rfl, ⟨_, rfl, ?_⟩, _, hs⟩))
      have := hs.f.1
      cases y
      · exact ifft fun h => by have := this.2 h.2; cases this
      · exact ifff fun h => h ⟨h1, this.1 rfl⟩
  rintro ρ w' ⟨h0, ⟨r, hr, hri⟩, F, hs⟩
  refine C.nm 0 h0 (C.nm 16 hr ?_)
  refine C.cond rfl (fun h3 => ?_) fun h3 => ?_ -- t16
  · refine sr (p 1 rfl (z ?_))
    refine C.ret ?_
    exact e1 rfl rfl hs false rfl (ifff (hri.1 h3))
  · have hok : gapOk gap ∧ bdOk bs := Classical.not_not.1 fun hn => by have := hri.2 hn; rw [h3] at this; cases this
    refine C.skip ?_
    refine C.seq ?_
    refine sr (p 3 rfl (z ?_))
    refine C.block ?_ -- BLOCK 0
    refine C.loop (fun n ρ w'' => n = 0 ∧ ρ 18 = .int .i64 0 ∧ ρ 19 = .int .i64 0 ∧ w'' = w') _ ⟨rfl, rfl, rfl, rfl⟩ ?_
    rintro n ρ w2 ⟨hn, h18, h19, rfl⟩
    refine C.nm 18 h18 (C.nm 19 h19 ?_)
    refine sr (p 1 rfl (z ?_))
    refine C.seq ?_
    refine C.cond_dec rfl (fun h2 => absurd h2 (by decide)) fun h2 => ?_ -- t20
    refine C.exit ?_
    refine sr (p 1 rfl (z ?_))
    refine C.ret ?_
    exact e1 rfl rfl hs true rfl (ifft hok)
theorem slices_CloneS0 {I : Nat → Prop} {w : World} :
    Ct Tryz.prog 115 #[.slice none 0 0] I w (fun _ : Unit => .slice none 0 0) (fun _ _ _ => True) := by
  refine Ct.of (args := [_]) (F := fun _ _ => True) Tryz.func115 rfl rfl trivial fun hs => ?_
  refine sr (p 1 rfl (z ?_))
  refine C.seq ?_
  refine sr (p 2 rfl (z ?_))
  refine C.yes rfl ?_
  refine sr (p 1 rfl (z ?_))
  refine C.ret ?_
  exact e1 rfl rfl hs () rfl trivial
structure AddR where
  a : Option Addr
  c : Nat
  ss : List SM
theorem session_Add0 {I : Nat → Prop} {w : World} {ab a' : Option Addr} {cb c' : Nat} (bs : List Int) (gap : Int) (xs : List Item) (hB : RI ab cb bs I w) (hX : RItem a' c' xs I w) (hl : xs.length ≤ 900000) :
    Ct Tryz.prog 76 #[.slice none 0 0, .int .i64 gap, .slice ab bs.length cb, .slice a' xs.length c'] I w (fun r : AddR => .tuple #[.slice r.a r.ss.length r.c, .int .i64 (addS0 bs gap xs).1])
      (fun r J w => r.ss.map SM.s = (addS0 bs gap xs).2 ∧ (∀ s ∈ (addS0 bs gap xs).2, sesOk bs.length s) ∧ (addS0 bs gap xs).2.length ≤ xs.length ∧ RSes r.a r.c r.ss J w) := by
  refine Ct.of (args := [_, _, _, _]) (F := fun J w => RI ab cb bs J w ∧ RItem a' c' xs J w) Tryz.func76 rfl rfl ⟨hB, hX⟩ fun hs => ?_
  refine sr (p 2 rfl (z ?_))
  refine C.seq ?_
  refine src (fun ρ w' => ρ 0 = .slice none 0 0 ∧ ρ 1 = .int .i64 gap ∧ ρ 2 = .slice ab bs.length cb ∧ ρ 3 = .slice a' xs.length c' ∧ (∃ r, ρ 26 = .bool r ∧ (r = true ↔ ¬ (gapOk gap ∧ bdOk bs ∧ oneF (-1) xs))) ∧ St N0 I w (up I w.heap.size) [] (fun J w => RI ab cb bs J w ∧ RItem a' c' xs J w) w') ?_ ?_
  · refine p 3 rfl (Bo.c rfl hs (session_May0 bs gap hs.f.1) fun y w2 hs => p 2 rfl (gs 21 rfl (fun h1 => ?_) fun h1 => ?_))
    · have h1 : y = false := by simpa using h1
      have := hs.f.1
      exact p 5 rfl (z ⟨rfl, rfl, rfl, rfl, ⟨_, rfl, ifft fun h => by have := this.2 ⟨h.1, h.2.1⟩; rw [h1] at this; cases this⟩, hs.to fun h => h.2⟩)
    · have h1 : y = true := by simpa using h1
      have hgb := hs.f.1.1 h1
      have hone := session_one (I := up I w.heap.size) (w := w2) (a := none) (c := 0) [] xs ⟨Rc.nil _ _ _ _ _, fun x h => by cases h⟩ hs.f.2.2 (by omega)
      refine p 2 rfl (Bo.c rfl hs hone fun q w3 hs => p 2 rfl (z ⟨rfl, rfl, rfl, rfl, ⟨_, rfl, ?_⟩, hs.to fun h => h.2.2⟩))
      have := hs.f.1
      cases q
      · exact ifft fun h => by have := this.2 h.2.2; cases this
      · exact ifff fun h => h ⟨hgb.1, hgb.2, this.1 rfl⟩
  rintro ρ w' ⟨h0, h1, h2, h3, ⟨r, hr, hri⟩, hs⟩
  refine C.nm 0 h0 (C.nm 1 h1 (C.nm 2 h2 (C.nm 3 h3 (C.nm 26 hr ?_))))
  refine C.cond rfl (fun h4 => ?_) fun h4 => ?_ -- t26
  · have hno := hri.1 h4
    have e : addS0 bs gap xs = (600, []) := if_neg hno
    rw [e]
    refine sr (p 2 rfl (z ?_))
    refine C.ret ?_
    exact e2 rfl rfl rfl hs ⟨none, 0, []⟩ rfl ⟨rfl, by simp, by simp, Rc.nil _ _ _ _ _, fun x h => by cases h⟩
  · have hok : gapOk gap ∧ bdOk bs ∧ oneF (-1) xs := Classical.not_not.1 fun hn => by have := hri.2 hn; rw [h4] at this; cases this
    have e : addS0 bs gap xs = addG bs gap [] xs := if_pos hok
    rw [e]
    have hall : ∀ (s : Int) (ys : List Item), oneF s ys → ∀ y ∈ ys, y.ok := by
      intro s ys
      induction ys generalizing s with
      | nil => simp
      | cons y ys ih =>
        intro h z hz
        rcases List.mem_cons.1 hz with rfl | hz
        · exact h.1
        · exact ih _ h.2.2 z hz
    have hxo := hall _ _ hok.2.2
    refine C.skip ?_
    refine sr (p 1 rfl (c0 rfl hs slices_CloneS0 fun w3 hs => p 1 rfl (z ?_)))
    refine sc (fun ρ w' => ρ 1 = .int .i64 gap ∧ ρ 2 = .slice ab bs.length cb ∧ ρ 3 = .slice a' xs.length c' ∧ ρ 10 = .slice none 0 0 ∧ St N0 I w (up I w.heap.size) [] (fun J w => RI ab cb bs J w ∧ RItem a' c' xs J w) w') ?_ ?_
    · refine sr (p 3 rfl (z ?_))
      refine C.block ?_ -- BLOCK 0
      refine C.loop (fun n ρ w'' => n = 0 ∧ ρ 1 = .int .i64 gap ∧ ρ 2 = .slice ab bs.length cb ∧ ρ 3 = .slice a' xs.length c' ∧ ρ 10 = .slice none 0 0 ∧ ρ 30 = .int .i64 0 ∧ ρ 31 = .int .i64 0 ∧ St N0 I w (up I w.heap.size) [] (fun J w => RI ab cb bs J w ∧ RItem a' c' xs J w) w'') _ ⟨rfl, rfl, rfl, rfl, rfl, rfl, rfl, hs⟩ ?_
      rintro n ρ w2 ⟨hn, h1, h2, h3, h10, h30, h31, hs⟩
      refine C.nm 1 h1 (C.nm 2 h2 (C.nm 3 h3 (C.nm 10 h10 (C.nm 30 h30 (C.nm 31 h31 ?_)))))
      refine sr (p 1 rfl (z ?_))
      refine C.seq ?_
      refine C.cond_dec rfl (fun h2 => absurd h2 (by decide)) fun h2 => ?_ -- t32
      exact C.exit ⟨rfl, rfl, rfl, rfl, hs⟩
    rintro ρ w4 ⟨h1, h2, h3, h10, hs⟩
    refine C.nm 1 h1 (C.nm 2 h2 (C.nm 3 h3 (C.nm 10 h10 ?_)))
    have hs0 : St N0 I w (up I w.heap.size) [.own none 0 90 15 (([] : List SM).map SM.c)] (fun J w => (∀ s, s ∈ ([] : List SM) → RI s.p s.k s.s.acc.hist J w) ∧ RI ab cb bs J w ∧ RItem a' c' xs J w) w4 := (hs.own 90 15).to fun h => ⟨fun s hs => absurd hs (by simp), h⟩
    refine C.seq ?_
    refine sr (p 3 rfl (z ?_))
    refine C.block ?_ -- BLOCK 2
    refine C.loop (fun n ρ w' => ∃ (i : Nat) (a1 : Option Addr) (c1 : Nat) (sms : List SM) (J : Nat → Prop), n = xs.length - i ∧ i ≤ xs.length ∧ addG bs gap (sms.map SM.s) (xs.drop i) = addG bs gap [] xs ∧ (∀ s ∈ sms.map SM.s, sesOk bs.length s) ∧ sms.length ≤ i ∧ ρ 1 = .int .i64 gap ∧ ρ 2 = .slice ab bs.length cb ∧ ρ 10 = .slice a1 sms.length c1 ∧ ρ 45 = .slice a' xs.length c' ∧ ρ 46 = .int .i64 xs.length ∧ ρ 47 = .int .i64 i ∧ St N0 I w J [.own a1 c1 90 15 (sms.map SM.c)] (fun J w => (∀ s, s ∈ sms → RI s.p s.k s.s.acc.hist J w) ∧ RI ab cb bs J w ∧ RItem a' c' xs J w) w') _ ⟨0, none, 0, [], _, rfl, by omega, rfl, by simp, by simp, rfl, rfl, rfl, rfl, rfl, rfl, hs0⟩ ?_
    rintro n ρ w5 ⟨i, a1, c1, sms, J, hn, hi, hG, hso, hsl, h1, h2, h10, h45, h46, h47, hs⟩
    refine C.nm 1 h1 (C.nm 2 h2 (C.nm 10 h10 (C.nm 45 h45 (C.nm 46 h46 (C.nm 47 h47 ?_)))))
    refine sr (p 1 rfl (z ?_))
    refine C.seq ?_
    refine C.cond_dec rfl (fun h5 => ?_) fun h5 => ?_ -- t48
    · have hx := List.getElem?_eq_getElem (show i < xs.length by omega)
      have hd := List.drop_eq_getElem_cons (show i < xs.length by omega)
      generalize xs[i] = x at hx hd
      rw [hd] at hG
      refine C.skip ?_
      refine C.seq ?_
      refine C.block ?_ -- BLOCK 3
      refine sr (ixn i rfl hs.f.2.2 (by simp) (map_get hx) fun b off hat => la rfl hat rfl (ais hs rfl (fun _ => rfl) rfl fun b13 J w3 hs => z ?_))
      have hput := session_put (I := J) (w := w3) (a := a1) (c := c1) (ab := ab) (cb := cb) bs gap sms x hs.ms hs.f.2.1 hs.f.2.2.1 hok.1 (hxo x (List.mem_of_getElem? hx)) hok.2.1 (by omega) (fun s hs' => by have := (hso s.s (List.mem_map_of_mem hs')).1; have := hok.2.1.1; omega)
      generalize hE : (putP bs gap (sms.map SM.s) x).e = e at hput
      refine sr (p 3 rfl (ln x.c rfl hs.im rfl rfl (cm rfl hs hput rfl fun q J2 w6 hs => ?_)))
      obtain ⟨qv, qa, qc, qs⟩ := q
      obtain ⟨hqv, hq⟩ := hs.f.1
      by_cases he : e = 0
      · rw [if_pos he] at hqv
        obtain ⟨hqs, hqr⟩ := hq he
        simp only at hqv hqs hqr
        subst hqv
        have hG' : addG bs gap (qs.map SM.s) (xs.drop (i + 1)) = addG bs gap [] xs := by
          rw [← hG, hqs]
          show _ = if (putP bs gap (sms.map SM.s) x).e = 0 then _ else _
          rw [if_pos (hE.trans he)]
        refine p 5 rfl (z ?_)
        refine C.seq ?_
        refine sr (p 2 rfl (z ?_))
        refine C.cond_dec rfl (fun h6 => absurd he h6) fun h6 => ?_ -- t60
        refine C.skip ?_
        refine C.reg (p 2 rfl (z ?_))
        refine C.reg (Bo.a rfl (by omega) (p 1 rfl (z ?_)))
        have hql : qs.length ≤ i + 1 := by
          have := putS_len bs gap (sms.map SM.s) x
          rw [← hqs] at this
          simp at this; omega
        exact ⟨_, by omega, i + 1, qa, qc, qs, J2, rfl, by omega, hG', by rw [hqs]; exact putS_ok (hE.trans he) hso, hql, rfl, rfl, rfl, rfl, rfl, rfl, hs.to fun h => ⟨(h.1.2 he).2, h.2.2.2⟩⟩
      · rw [if_neg he] at hqv
        simp only at hqv
        subst hqv
        have hGe : addG bs gap [] xs = (e, []) := by
          rw [← hG]
          show (if (putP bs gap (sms.map SM.s) x).e = 0 then _ else _) = _
          rw [hE, if_neg he]
        refine p 5 rfl (z ?_)
        refine C.seq ?_
        refine sr (p 2 rfl (z ?_))
        refine C.cond_dec rfl (fun h6 => ?_) fun h6 => absurd he h6 -- t60
        refine sr (p 3 rfl (z ?_))
        refine C.ret ?_
        rw [hGe]
        exact e2 rfl rfl rfl hs.cut ⟨none, 0, []⟩ rfl ⟨rfl, by simp, by simp, Rc.nil _ _ _ _ _, fun x h => by cases h⟩
    · rw [List.drop_of_length_le (by omega)] at hG
      have hG : addG bs gap [] xs = (0, sms.map SM.s) := hG.symm
      rw [hG]
      obtain ⟨J2, hs⟩ := hs.done
      refine C.exit ?_ -- EXIT 2
      refine sr (p 3 rfl (z ?_))
      refine C.ret ?_
      exact e2 rfl rfl rfl hs ⟨a1, c1, sms⟩ rfl ⟨rfl, hso, by simp; omega, hs.f.1, hs.f.2.1⟩
end Bo
namespace Bo
open Go Go.Proofs Go.RowKit
section
variable {P : Program} [lc : LC P] {N : Nat} {ops : Array Oper} {o : Oper} {qs : Ob} {E : Nat → Prop} {K : Env → World → Prop} {ρ : Env} {w ws : World} {J : Nat → Prop}
theorem dsl {sz n c : Nat} {a : Option Addr} {lo hi : Option Int} (l h : Nat) {css : List (List Value)} (hq : slq lc.L ops ρ o = some (sz, a, n, c, lo, hi)) (hr : Rc sz a c css J ws) (hn : css.length = n) (hh : hi.getD n = h) (hl : lo.getD 0 = l) (hc : h ≤ n) (hlh : l ≤ h)
    (k : ∀ a, Rc sz a (c - l) ((css.take h).drop l) J ws → Wa P N ops E ws qs K (updo N ρ o.dst (.slice a (h - l) (c - l))) w) : Wa P N ops E ws (.q o qs) K ρ w := by
  have h1 := hr.1
  exact Wa.q (slq_run (P := P) hq hh hl (by omega) hlh w).1 (fun _ w' _ => (slq_run (P := P) hq hh hl (by omega) hlh w').2.2) (k _ (hr.sub hn hc hlh))
end
/-- What 'sessions' tells. -/
def sesR (g : Int) (ts : List Int) : Int × List Session := addS0 [] g (itemsOf ts)
def ends2 (ss : List Session) : List Int := ss.flatMap fun s => [s.first, s.last]
def sesS (g : Int) (ts : List Int) : List UInt8 := toldS (ends2 (sesR g ts).2)
theorem ends2_len (ss : List Session) : (ends2 ss).length = 2 * ss.length := by
  unfold ends2
  induction ss with
  | nil => rfl
  | cons s ss ih => simp [List.flatMap_cons] at ih ⊢; omega
theorem ends2_take (ss : List Session) (i : Nat) (s : Session) (h : ss[i]? = some s) : ends2 (ss.take (i + 1)) = ends2 (ss.take i) ++ [s.first, s.last] := by
  unfold ends2
  rw [List.take_add_one, h, List.flatMap_append]; simp
theorem console_sessions {I : Nat → Prop} {w : World} {p0 : Option Addr} {c : Nat} (g : Int) (ts : List Int) (hR : RI p0 c (g :: ts) I w) (hG : Gl I w) (hl : ts.length ≤ 400000) :
    Ct Tryz.prog 53 #[.slice p0 (g :: ts).length c] I w (fun _ : Unit => .tuple #[.string (bs8 (sesS g ts)), .int .i64 (sesR g ts).1]) (fun _ _ _ => True) := by
  refine Ct.of (args := [_]) (F := fun J w => RI p0 c (g :: ts) J w ∧ Gl J w) Tryz.func53 rfl rfl ⟨hR, hG⟩ fun hs => ?_
  refine sr (p 2 rfl (z ?_))
  refine C.seq ?_
  have hml : ((g :: ts).map ic).length = (g :: ts).length := by simp
  refine dro N0 11 [0, 1, 2, 3, 4, 505, 506, 7, 8, 9, 10] hs fun w1 hs1 => dp 1 rfl (dixn 0 rfl hs1.f.1 hml.symm rfl fun b off hat => dl1 0 rfl hat rfl rfl (dp 1 rfl (dsl 1 (g :: ts).length rfl hs1.f.1 hml rfl rfl (by omega) (by simp) fun a1 hr1 => ?_)))
  have e1 : (((g :: ts).map ic).take (g :: ts).length).drop 1 = ts.map ic := by
    rw [← hml, List.take_length]; rfl
  rw [e1] at hr1
  have hit := console_items (I := up I w.heap.size) (w := w1) ts hr1 (by omega)
  refine dc rfl hs1 hit fun r w2 hs2 => ?_
  have hil := itemsOf_length ts
  have hadd := session_Add0 (I := up I w.heap.size) (w := w2) (ab := none) (cb := 0) [] g (itemsOf ts) (Rc.nil _ _ _ _ _) hs2.f.1 (by omega)
  rw [hil] at hadd
  refine dc rfl hs2 hadd fun q w3 hs => dp 4 rfl (dz (p 1 rfl (z ?_)))
  obtain ⟨hq1, hq2, hq3, hq4⟩ := hs.f.1
  change q.ss.map SM.s = (sesR g ts).2 at hq1
  change ∀ s ∈ (sesR g ts).2, _ at hq2
  change (sesR g ts).2.length ≤ _ at hq3
  rw [← hq1] at hq2 hq3
  have hsS : sesS g ts = toldS (ends2 (q.ss.map SM.s)) := by unfold sesS; rw [hq1]
  rw [hsS]
  have hqL : q.ss.length ≤ ts.length := by simpa using hq3
  refine sr (p 1 rfl (z ?_))
  have hs0 : St N0 I w (up I w.heap.size) [.own none 0 3 1 ((ends2 ((q.ss.map SM.s).take 0)).map ic)] (fun J w => RSes q.a q.c q.ss J w ∧ Gl J w) w3 := (hs.own 3 1).to fun h => ⟨h.1.2.2.2, h.2.2.2⟩
  refine C.seq ?_
  refine sr (p 3 rfl (z ?_))
  refine C.block ?_ -- BLOCK 0
  refine C.loop (fun n ρ w' => ∃ (i : Nat) (a1 : Option Addr) (c1 : Nat) (J : Nat → Prop), n = q.ss.length - i ∧ i ≤ q.ss.length ∧ ρ 5 = .int .i64 (sesR g ts).1 ∧ ρ 6 = .slice a1 (ends2 ((q.ss.map SM.s).take i)).length c1 ∧ ρ 19 = .slice q.a q.ss.length q.c ∧ ρ 20 = .int .i64 q.ss.length ∧ ρ 21 = .int .i64 i ∧ St N0 I w J [.own a1 c1 3 1 ((ends2 ((q.ss.map SM.s).take i)).map ic)] (fun J w => RSes q.a q.c q.ss J w ∧ Gl J w) w') _ ⟨0, none, 0, _, rfl, by omega, rfl, rfl, rfl, rfl, rfl, hs0⟩ ?_
  rintro n ρ w4 ⟨i, a1, c1, J, hn, hi, h5, h6, h19, h20, h21, hs⟩
  have htl : (ends2 ((q.ss.map SM.s).take i)).length = 2 * i := by rw [ends2_len]; simp; omega
  refine C.nm 5 h5 (C.nm 6 h6 (C.nm 19 h19 (C.nm 20 h20 (C.nm 21 h21 ?_))))
  refine sr (p 1 rfl (z ?_))
  refine C.seq ?_
  refine C.cond_dec rfl (fun h1 => ?_) fun h1 => ?_ -- t22
  · have hx := List.getElem?_eq_getElem (show i < q.ss.length by omega)
    generalize q.ss[i] = s at hx
    have e2 : (ends2 ((q.ss.map SM.s).take i)).map ic ++ [s.s.first, s.s.last].map ic = (ends2 ((q.ss.map SM.s).take (i + 1))).map ic := by
      rw [ends2_take _ i s.s (by simp [hx])]; simp
    have e3 : ((ends2 ((q.ss.map SM.s).take (i + 1))).map ic).length = (ends2 ((q.ss.map SM.s).take (i + 1))).length := by simp
    refine C.skip ?_
    refine C.seq ?_
    refine C.block ?_ -- BLOCK 1
    refine sr (ixn i rfl hs.f.1.1 (by simp) (map_get hx) fun b off hat => la rfl hat rfl (ais hs rfl (fun _ => rfl) rfl fun b8 J w5 hs => z ?_))
    refine C.reg (p 2 rfl (l rfl hs.im rfl (p 1 rfl (l rfl hs.im rfl (bs ([s.s.first, s.s.last].map ic) hs rfl fun a2 w6 hs => ?_)))))
    refine ap 0 hs rfl rfl (by simp) hs.f.1 rfl (ic_one _) (by show (_ + _) * 8 ≤ _; simp [htl]; omega) (by simp [htl]; omega) fun a3 c3 J3 w7 hs => ?_
    rw [e2] at hs ⊢
    rw [e3]
    refine p 1 rfl (z ?_)
    refine C.reg (Bo.a rfl (by omega) (p 1 rfl (z ?_)))
    exact ⟨_, by omega, i + 1, a3, c3, J3, rfl, by omega, rfl, rfl, rfl, rfl, rfl, hs.to fun h => h.2.2⟩
  · have : i = q.ss.length := by omega
    subst this
    have et : (q.ss.map SM.s).take q.ss.length = q.ss.map SM.s := List.take_of_length_le (by simp)
    rw [et] at hs htl ⊢
    obtain ⟨J2, hs⟩ := hs.done
    refine C.exit ?_ -- EXIT 0
    refine sr (p 1 rfl (c0 rfl hs (console_told _ hs.f.1 hs.f.2.2 ?_ (by rw [htl]; omega)) fun w8 hs => p 3 rfl (z ?_)))
    · intro x hx
      obtain ⟨s, hs', hx⟩ := List.mem_flatMap.1 hx
      have := hq2 s hs'
      have h1 := this.2.1
      have h2 := this.2.2
      simp only [List.mem_cons, List.not_mem_nil, or_false] at hx
      rcases hx with rfl | rfl <;> constructor <;> omega
    refine C.ret ?_
    exact e2 rfl rfl rfl hs () rfl trivial
end Bo
namespace Bo
open Go Go.Proofs Go.RowKit
structure Cmd where
  w : List UInt8
  least : Int
  most : Int
  f : Nat
  does : List Int → Int × List UInt8
def Cmd.c (x : Cmd) : List Value := [.string (bs8 x.w), .int .i64 x.least, .int .i64 x.most, .func (.func x.f) #[] #[]]
def floorC : Cmd := ⟨[102, 108, 111, 111, 114], 2, 2, 51, fun | [a, b] => (if b < 1 then 300 else 0, divS a b) | _ => (0, [])⟩
def windowsC : Cmd := ⟨[119, 105, 110, 100, 111, 119, 115], 3, 3, 52, fun | [a, b, t] => (if ofOk (sldQ a b) t then 0 else 400, winS a b t) | _ => (0, [])⟩
def sessionsC : Cmd := ⟨[115, 101, 115, 115, 105, 111, 110, 115], 1, 65536, 53, fun | g :: ts => ((sesR g ts).1, sesS g ts) | _ => (0, [])⟩
def sortC : Cmd := ⟨[115, 111, 114, 116], 0, 65536, 54, fun xs => (if 8192 < xs.length then 1501 else 0, if 8192 < xs.length then [] else toldS (sortedN xs))⟩
def cmds : List Cmd := [floorC, windowsC, sessionsC, sortC]
theorem console_commands {I : Nat → Prop} {w : World} :
    Ct Tryz.prog 36 #[] I w (fun a : Option Addr => .slice a 4 4) (fun a => Rc 4 a 4 (cmds.map Cmd.c)) := by
  refine Ct.of (args := []) (F := fun _ _ => True) Tryz.func36 rfl rfl trivial fun hs => ?_
  refine sr (p 1 rfl (z ?_))
  refine sr (bd floorC.c rfl (bd windowsC.c rfl (bd sessionsC.c rfl (bd sortC.c rfl (bs (cmds.map Cmd.c) hs rfl fun a w1 hs => p 1 rfl (z ?_))))))
  refine C.ret ?_
  exact e1 rfl rfl hs a rfl hs.f.1
/-- Does a line's first word, with so many numbers, ask for this? -/
def Cmd.fits (x : Cmd) (w : List UInt8) (n : Nat) : Prop := x.w = w ∧ x.least ≤ n ∧ (n : Int) ≤ x.most
instance (x : Cmd) (w : List UInt8) (n : Nat) : Decidable (x.fits w n) := by unfold Cmd.fits; infer_instance
theorem cmd_call {I : Nat → Prop} {w : World} {p0 : Option Addr} {c : Nat} (x : Cmd) (hx : x ∈ cmds) (v : List UInt8) (xs : List Int) (hf : x.fits v xs.length) (hR : RI p0 c xs I w) (hG : Gl I w) (hb : ∀ y ∈ xs, -1000000 ≤ y ∧ y ≤ 1000000) (hl : xs.length ≤ 400000) :
    Ct Tryz.prog x.f #[.slice p0 xs.length c] I w (fun _ : Unit => .tuple #[.string (bs8 (x.does xs).2), .int .i64 (x.does xs).1]) (fun _ _ _ => True) := by
  obtain ⟨_, h1, h2⟩ := hf
  simp only [cmds, List.mem_cons, List.not_mem_nil, or_false] at hx
  rcases hx with rfl | rfl | rfl | rfl
  · simp only [floorC] at h1 h2
    match xs, h1, h2, hR, hb with
    | [a, b], _, _, hR, hb => exact console_divided a b hR hG (hb a (by simp)) (hb b (by simp))
    | [], h1, _, _, _ => simp at h1
    | [_], h1, _, _, _ => simp at h1
    | _ :: _ :: _ :: _, _, h2, _, _ => simp at h2; omega
  · simp only [windowsC] at h1 h2
    match xs, h1, h2, hR, hb with
    | [a, b, t], _, _, hR, hb => exact console_windows a b t hR hG (hb b (by simp))
    | [], h1, _, _, _ => simp at h1
    | [_], h1, _, _, _ => simp at h1
    | [_, _], h1, _, _, _ => simp at h1
    | _ :: _ :: _ :: _ :: _, _, h2, _, _ => simp at h2; omega
  · simp only [sessionsC] at h1 h2
    cases xs with
    | nil => simp at h1
    | cons g ts => exact console_sessions g ts hR hG (by simp at hl; omega)
  · have h := console_sorted (I := I) (w := w) xs hR hG hb (by omega)
    exact h
end Bo
namespace Bo
open Go Go.Proofs Go.RowKit
theorem join_nil (l : List (List UInt8)) : Lib.join l [] = l.flatten := by
  show [].intercalate l = l.flatten
  induction l with
  | nil => rfl
  | cons x l ih =>
    cases l with
    | nil => simp [List.intercalate]
    | cons y l => rw [List.intercalate_cons_cons, ih]; simp
theorem find_at {α : Type} {p : α → Bool} : ∀ {l : List α} {i : Nat} {x : α}, l[i]? = some x → p x = true → (∀ j y, j < i → l[j]? = some y → p y = false) → l.find? p = some x
  | [], i, x, h, _, _ => by simp at h
  | y :: l, 0, x, h, hp, _ => by simp at h; subst h; simp [hp]
  | y :: l, i + 1, x, h, hp, hn => by
    have := hn 0 y (by omega) rfl
    simp only [List.find?_cons, this]
    exact find_at (by simpa using h) hp fun j z hj hz => hn (j + 1) z (by omega) (by simpa using hz)
theorem joinEA_bd (bs : List Int) (xs : List Acc) : 0 ≤ joinEA bs xs ∧ joinEA bs xs ≤ 600 := by
  unfold joinEA
  split
  · split <;> omega
  · omega
theorem addG_bd (bs : List Int) (gap : Int) : ∀ (xs : List Item) (ss : List Session), 0 ≤ (addG bs gap ss xs).1 ∧ (addG bs gap ss xs).1 ≤ 600
  | [], ss => by show (0 : Int) ≤ 0 ∧ (0 : Int) ≤ 600; omega
  | x :: xs, ss => by
    unfold addG
    split
    · exact addG_bd bs gap xs _
    · exact joinEA_bd ..
theorem sesR_bd (g : Int) (ts : List Int) : 0 ≤ (sesR g ts).1 ∧ (sesR g ts).1 ≤ 600 := by
  unfold sesR addS0
  split
  · exact addG_bd ..
  · show (0 : Int) ≤ 600 ∧ (600 : Int) ≤ 600; omega
theorem does_bd (x : Cmd) (hx : x ∈ cmds) (xs : List Int) : 0 ≤ (x.does xs).1 ∧ (x.does xs).1 ≤ 2000 := by
  simp only [cmds, List.mem_cons, List.not_mem_nil, or_false] at hx
  rcases hx with rfl | rfl | rfl | rfl
  · match xs with
    | [a, b] => show (0 : Int) ≤ (if b < 1 then 300 else 0) ∧ (if b < 1 then 300 else 0) ≤ (2000 : Int); split <;> omega
    | [] => show (0 : Int) ≤ 0 ∧ (0 : Int) ≤ 2000; omega
    | [_] => show (0 : Int) ≤ 0 ∧ (0 : Int) ≤ 2000; omega
    | _ :: _ :: _ :: _ => show (0 : Int) ≤ 0 ∧ (0 : Int) ≤ 2000; omega
  · match xs with
    | [a, b, t] => show (0 : Int) ≤ (if ofOk (sldQ a b) t then 0 else 400) ∧ (if ofOk (sldQ a b) t then 0 else 400) ≤ (2000 : Int); split <;> omega
    | [] => show (0 : Int) ≤ 0 ∧ (0 : Int) ≤ 2000; omega
    | [_] => show (0 : Int) ≤ 0 ∧ (0 : Int) ≤ 2000; omega
    | [_, _] => show (0 : Int) ≤ 0 ∧ (0 : Int) ≤ 2000; omega
    | _ :: _ :: _ :: _ :: _ => show (0 : Int) ≤ 0 ∧ (0 : Int) ≤ 2000; omega
  · cases xs with
    | nil => show (0 : Int) ≤ 0 ∧ (0 : Int) ≤ 2000; omega
    | cons g ts => have := sesR_bd g ts; exact ⟨this.1, Int.le_trans this.2 (by decide)⟩
  · show (0 : Int) ≤ (if 8192 < xs.length then 1501 else 0) ∧ (if 8192 < xs.length then 1501 else 0) ≤ (2000 : Int); split <;> omega
def outS (x : Cmd) (xs : List Int) : List UInt8 := if (x.does xs).1 = 0 then (x.does xs).2 else faultS (x.does xs).1
/-- What a line tells. -/
def lineS (v : List UInt8) (r : List (List UInt8)) : List UInt8 :=
  if v = [115, 117, 109] then Lib.itoa (sumS r.flatten)
  else match cmds.find? fun x => decide (numsOk r = true ∧ x.fits v (numsL r).length) with
    | some x => outS x (numsL r)
    | none => faultS 2500
theorem sumS_lt (l : List UInt8) : sumS l < 65536 := by
  unfold sumS
  have : ∀ (l : List UInt8) (x : Nat), x < 65536 → l.foldl crcByte x < 65536 := by
    intro l
    induction l with
    | nil => intro x h; exact h
    | cons b l ih =>
      intro x h
      refine ih _ (crcBits_lt 8 _ ?_)
      have hb := b.toNat_lt
      exact Nat.xor_lt_two_pow (n := 16) h (by omega)
  exact this l 65535 (by omega)
theorem console_line {I : Nat → Prop} {w : World} {a : Option Addr} {c : Nat} (v : List UInt8) (r : List (List UInt8)) (hR : RT a c ((v :: r).map bs8) I w) (hG : Gl I w) (hl : r.length ≤ 100000) (hw : ∀ x ∈ r, x.length ≤ 1000000) (hfl : r.flatten.length ≤ 1000000) :
    Ct Tryz.prog 19 #[.slice a (v :: r).length c] I w (fun _ : Unit => .string (bs8 (lineS v r))) (fun _ _ _ => True) := by
  refine Ct.of (args := [_]) (F := fun J w => RT a c ((v :: r).map bs8) J w ∧ Gl J w) Tryz.func19 rfl rfl ⟨hR, hG⟩ fun hs => ?_
  have hml : (((v :: r).map bs8).map tc).length = (v :: r).length := by simp
  have hdr : ((((v :: r).map bs8).map tc).take (v :: r).length).drop 1 = (r.map bs8).map tc := by rw [← hml, List.take_length]; rfl
  have hlr : (r.map bs8).length = r.length := by simp
  refine sr (p 1 rfl (z ?_))
  refine C.seq ?_
  refine sr (p 1 rfl (ixn 0 rfl hs.f.1 hml.symm rfl fun b off hat => l1 0 rfl hat rfl rfl (p 1 rfl (z ?_))))
  refine C.cond_dec rfl (fun h1 => ?_) fun h1 => ?_ -- t12
  · have h1 : v = [115, 117, 109] := by simpa [ByteArray.toList_eq] using h1
    have e : lineS v r = Lib.itoa (sumS r.flatten) := if_pos h1
    rw [e]
    refine sr (p 1 rfl (sl 1 (v :: r).length hs rfl hs.f.1 hml rfl rfl (by omega) (by simp) fun a1 hr1 => ?_))
    rw [hdr] at hr1
    have emap : (r.map bs8).map (·.data.toList) = r := by rw [List.map_map, show ((fun x : ByteArray => x.data.toList) ∘ bs8) = id from by funext l; simp, List.map_id]
    have hJ := lib_Join (I := up I w.heap.size) (w := w) (r.map bs8) (bs8 []) hr1 (by simp; omega) (by rw [emap]; show (Lib.join r []).length ≤ _; rw [join_nil]; omega)
    rw [hlr, emap] at hJ
    have ej : Lib.join r (bs8 []).data.toList = r.flatten := join_nil r
    rw [ej] at hJ
    refine c0 rfl hs hJ fun w2 hs => ?_
    have hlt := sumS_lt r.flatten
    refine c0 rfl hs (frame_Sum r.flatten (by omega)) fun w3 hs => c0 rfl hs (lib_Itoa (sumS r.flatten) (by omega) hs.f.2) fun w4 hs => p 1 rfl (z ?_)
    refine C.ret ?_
    exact e1 rfl rfl hs () rfl trivial
  · have h1 : ¬ v = [115, 117, 109] := by simpa [ByteArray.toList_eq] using h1
    have e : lineS v r = match cmds.find? fun x => decide (numsOk r = true ∧ x.fits v (numsL r).length) with
      | some x => outS x (numsL r)
      | none => faultS 2500 := if_neg h1
    rw [e]
    refine C.skip ?_
    refine sr (p 1 rfl (sl 1 (v :: r).length hs rfl hs.f.1 hml rfl rfl (by omega) (by simp) fun a1 hr1 => ?_))
    rw [hdr] at hr1
    have hN := console_numbers (I := up I w.heap.size) (w := w) r hr1 (by omega) hw
    refine Bo.c rfl hs hN fun q w2 hs => p 5 rfl (z ?_)
    have hnl := numsL_len r
    have hnb := @numsL_bd r
    refine C.seq ?_
    refine sr (Bo.c rfl hs console_commands fun ac w3 hs => p 2 rfl (z ?_))
    refine C.block ?_ -- BLOCK 0
    refine C.loop (fun n ρ w' => ∃ (i : Nat) (J : Nat → Prop), n = 4 - i ∧ i ≤ 4 ∧ (∀ j x, j < i → cmds[j]? = some x → ¬ (numsOk r = true ∧ x.fits v (numsL r).length)) ∧ ρ 0 = .slice a (v :: r).length c ∧ ρ 3 = .slice q.1 (numsL r).length q.2 ∧ ρ 4 = .bool (numsOk r) ∧ ρ 24 = .slice ac 4 4 ∧ ρ 25 = .int .i64 4 ∧ ρ 26 = .int .i64 i ∧ St N0 I w J [] (fun J w => Rc 4 ac 4 (cmds.map Cmd.c) J w ∧ RI q.1 q.2 (numsL r) J w ∧ RT a c ((v :: r).map bs8) J w ∧ Gl J w) w') _ ⟨0, _, rfl, by omega, by omega, rfl, rfl, rfl, rfl, rfl, rfl, hs⟩ ?_
    rintro n ρ w4 ⟨i, J, hn, hi, hno, h0, h3, h4, h24, h25, h26, hs⟩
    refine C.nm 0 h0 (C.nm 3 h3 (C.nm 4 h4 (C.nm 24 h24 (C.nm 25 h25 (C.nm 26 h26 ?_)))))
    refine sr (p 1 rfl (z ?_))
    refine C.seq ?_
    refine C.cond_dec rfl (fun h5 => ?_) fun h5 => ?_ -- t27
    · obtain ⟨x, hx⟩ : ∃ x, cmds[i]? = some x := ⟨_, List.getElem?_eq_getElem (show i < cmds.length by show i < 4; omega)⟩
      have hxm := List.mem_of_getElem? hx
      refine C.skip ?_
      refine C.seq ?_
      refine C.block ?_ -- BLOCK 1
      refine sr (ixn i rfl hs.f.1 rfl (map_get hx) fun b off hat => la rfl hat rfl (ais hs rfl (fun _ => rfl) rfl fun b6 J w5 hs => z ?_))
      refine C.seq ?_
      refine sc (fun ρ w' => ρ 0 = .slice a (v :: r).length c ∧ ρ 3 = .slice q.1 (numsL r).length q.2 ∧ ρ 4 = .bool (numsOk r) ∧ ρ 6 = .pointer (some ⟨b6, 0, none⟩) ∧ ρ 24 = .slice ac 4 4 ∧ ρ 25 = .int .i64 4 ∧ ρ 26 = .int .i64 i ∧ (∃ z, ρ 53 = .bool z ∧ (z = true ↔ ¬ (numsOk r = true ∧ x.fits v (numsL r).length))) ∧ ∃ J, St N0 I w J [] (fun J w => Im b6 68 x.c J w ∧ Rc 4 ac 4 (cmds.map Cmd.c) J w ∧ RI q.1 q.2 (numsL r) J w ∧ RT a c ((v :: r).map bs8) J w ∧ Gl J w) w') ?_ ?_
      · refine dro N0 24 (List.range 24) hs fun w7 hs => ?_
        refine dp 1 rfl (dl rfl hs.im rfl (dp 1 rfl (dixn 0 rfl hs.f.2.2.2.1 hml.symm rfl fun b1 off1 hat1 => dl1 0 rfl hat1 rfl rfl (dp 2 rfl (dgs 36 rfl (fun h6 => ?_) fun h6 => ?_)))))
        · have h6 : ¬ x.w = v := by simpa [ByteArray.toList_eq] using h6
          exact dp 17 rfl (dz (z ⟨rfl, rfl, rfl, rfl, rfl, rfl, rfl, ⟨_, rfl, ifft fun h => h6 h.2.1⟩, _, hs⟩))
        · have h6 : x.w = v := by simpa [ByteArray.toList_eq] using h6
          refine dp 4 rfl (dgs 40 rfl (fun h7 => ?_) fun h7 => ?_)
          · have h7 : numsOk r = false := by simpa using h7
            exact dp 13 rfl (dz (z ⟨rfl, rfl, rfl, rfl, rfl, rfl, rfl, ⟨_, rfl, ifft fun h => by rw [h7] at h; cases h.1⟩, _, hs⟩))
          · have h7 : numsOk r = true := by simpa using h7
            refine dp 3 rfl (dl rfl hs.im rfl (dp 3 rfl (dgd 47 rfl (fun h8 => ?_) fun h8 => ?_)))
            · exact dp 6 rfl (dz (z ⟨rfl, rfl, rfl, rfl, rfl, rfl, rfl, ⟨_, rfl, ifft fun h => by have := h.2.2.1; omega⟩, _, hs⟩))
            · refine dp 3 rfl (dl rfl hs.im rfl (dp 2 rfl (dz (z ⟨rfl, rfl, rfl, rfl, rfl, rfl, rfl, ⟨_, rfl, iffd ?_⟩, _, hs⟩))))
              exact ⟨fun h h' => by have := h'.2.2.2; omega, fun h => Classical.byContradiction fun h' => h ⟨h7, h6, by omega, by omega⟩⟩
      rintro ρ w8 ⟨h0, h3, h4, h6, h24, h25, h26, ⟨zz, hz, hzi⟩, J8, hs⟩
      refine C.nm 0 h0 (C.nm 3 h3 (C.nm 4 h4 (C.nm 6 h6 (C.nm 24 h24 (C.nm 25 h25 (C.nm 26 h26 (C.nm 53 hz ?_)))))))
      refine C.cond rfl (fun h9 => ?_) fun h9 => ?_ -- t53
      · refine C.exit ?_ -- EXIT 1
        refine C.reg (Bo.a rfl (by omega) (p 1 rfl (z ?_)))
        refine ⟨_, by omega, i + 1, J8, rfl, by omega, fun j y hj hy => ?_, rfl, rfl, rfl, rfl, rfl, rfl, hs.to fun h => h.2⟩
        by_cases hji : j = i
        · subst hji; rw [hx] at hy; cases hy; exact hzi.1 h9
        · exact hno j y (by omega) hy
      · have hfit : numsOk r = true ∧ x.fits v (numsL r).length := Classical.not_not.1 fun hn => by have := hzi.2 hn; rw [h9] at this; cases this
        have hfind : cmds.find? (fun x => decide (numsOk r = true ∧ x.fits v (numsL r).length)) = some x := find_at hx (decide_eq_true hfit) fun j y hj hy => decide_eq_false (hno j y hj hy)
        rw [hfind]
        have hbd := does_bd x hxm (numsL r)
        refine C.skip ?_
        refine sr (p 1 rfl (l rfl hs.im rfl (p 1 rfl (c0 rfl hs (cmd_call x hxm v (numsL r) hfit.2 hs.f.2.2.1 hs.f.2.2.2.2 hnb (by omega)) fun w9 hs => p 5 rfl (z ?_)))))
        refine C.seq ?_
        refine sr (p 2 rfl (z ?_))
        refine C.cond_dec rfl (fun h10 => ?_) fun h10 => ?_ -- t62
        · refine sr (p 1 rfl (c0 rfl hs (console_failed _ (by omega) hs.f.2.2.2.2) fun w10 hs => p 1 rfl (z ?_)))
          refine C.ret ?_
          exact e1 rfl rfl hs () (by show _ = Value.string (bs8 (outS x (numsL r))); unfold outS; rw [if_neg h10]) trivial
        · have h10 : (x.does (numsL r)).1 = 0 := Classical.not_not.1 h10
          refine C.skip ?_
          refine sr (p 2 rfl (z ?_))
          refine C.ret ?_
          exact e1 rfl rfl hs () (by show _ = Value.string (bs8 (outS x (numsL r))); unfold outS; rw [if_pos h10]) trivial
    · have hnone : cmds.find? (fun x => decide (numsOk r = true ∧ x.fits v (numsL r).length)) = none := by
        rw [List.find?_eq_none]
        intro x hx
        obtain ⟨j, hj⟩ := List.mem_iff_getElem?.1 hx
        have := (List.getElem?_eq_some_iff.1 hj).1
        have h4 : cmds.length = 4 := rfl
        simpa using hno j x (by omega) hj
      rw [hnone]
      refine C.exit ?_ -- EXIT 0
      refine sr (c0 rfl hs (console_failed 2500 (by omega) hs.f.2.2.2) fun w10 hs => p 1 rfl (z ?_))
      refine C.ret ?_
      exact e1 rfl rfl hs () rfl trivial
end Bo
namespace Bo
open Go Go.Proofs Go.RowKit
/-! ### How long what is told may be -/
theorem addG_ok (bs : List Int) (gap : Int) : ∀ (xs : List Item) (ss : List Session), (∀ s ∈ ss, sesOk bs.length s) → (∀ s ∈ (addG bs gap ss xs).2, sesOk bs.length s) ∧ (addG bs gap ss xs).2.length ≤ ss.length + xs.length
  | [], ss, h => ⟨h, by show ss.length ≤ _; simp⟩
  | x :: xs, ss, h => by
    unfold addG
    split
    · rename_i he
      have ih := addG_ok bs gap xs (putS bs gap ss x) (putS_ok he h)
      have hl := putS_len bs gap ss x
      exact ⟨ih.1, by simp only [List.length_cons]; omega⟩
    · exact ⟨by simp, by simp⟩
theorem sesR_ok (g : Int) (ts : List Int) : (∀ s ∈ (sesR g ts).2, sesOk 0 s) ∧ (sesR g ts).2.length ≤ ts.length := by
  unfold sesR addS0
  split
  · have := addG_ok [] g (itemsOf ts) [] (by simp)
    rw [itemsOf_length] at this
    exact ⟨this.1, by simpa using this.2⟩
  · exact ⟨by simp, by simp⟩
theorem toldS_len {xs : List Int} (h : ∀ x ∈ xs, I64 x) : (toldS xs).length ≤ xs.length * 21 := by
  have := join_bd (l := xs.map Lib.itoa) (sep := [32]) (k := 20) (by intro y hy; obtain ⟨z, hz, rfl⟩ := List.mem_map.1 hy; exact itoa_length z (h z hz))
  rw [List.length_map] at this
  exact this
theorem faultS_len (e : Int) (h : I64 e) : (faultS e).length ≤ 26 := by
  unfold faultS
  have := itoa_length e h
  simp; omega
theorem does_len (x : Cmd) (hx : x ∈ cmds) (v : List UInt8) (xs : List Int) (hf : x.fits v xs.length) (hb : ∀ y ∈ xs, -1000000 ≤ y ∧ y ≤ 1000000) (hl : xs.length ≤ 400000) : (x.does xs).2.length ≤ 30000000 := by
  obtain ⟨_, h1, h2⟩ := hf
  simp only [cmds, List.mem_cons, List.not_mem_nil, or_false] at hx
  rcases hx with rfl | rfl | rfl | rfl
  · match xs with
    | [a, b] =>
      show (divS a b).length ≤ _
      unfold divS
      split
      · simp
      · have h3 := ediv_bd (a := a) (show 1 ≤ b by omega)
        have h4 := Int.emod_nonneg a (show b ≠ 0 by omega)
        have h5 := Int.emod_lt_of_pos a (show 0 < b by omega)
        have ha := hb a (by simp)
        have hb := hb b (by simp)
        have := toldS_len (xs := [a / b, a % b]) (by
          intro x hx
          simp only [List.mem_cons, List.not_mem_nil, or_false] at hx
          rcases hx with rfl | rfl <;> constructor <;> omega)
        simp at this; omega
    | [] => simp [floorC]
    | [_] => simp [floorC]
    | _ :: _ :: _ :: _ => simp [floorC]
  · match xs with
    | [a, b, t] =>
      show (winS a b t).length ≤ _
      unfold winS winX
      split
      · rename_i ho
        have hw := wins_bd ho
        have hn := winN_sl ho
        have := toldS_len (xs := (wins (sldQ a b) t).map Span.start) (by
          intro x hx
          obtain ⟨y, hy, rfl⟩ := List.mem_map.1 hx
          have := hw y hy
          constructor <;> omega)
        have hl : ((wins (sldQ a b) t).map Span.start).length = winN (sldQ a b) t := by simp [wins]
        rw [hl] at this
        omega
      · have := toldS_len (xs := ([] : List Span).map Span.start) (by simp)
        simp at this
        simp [this]
    | [] => simp [windowsC]
    | [_] => simp [windowsC]
    | [_, _] => simp [windowsC]
    | _ :: _ :: _ :: _ :: _ => simp [windowsC]
  · cases xs with
    | nil => simp [sessionsC]
    | cons g ts =>
      show (sesS g ts).length ≤ _
      unfold sesS
      have ho := sesR_ok g ts
      have := toldS_len (xs := ends2 (sesR g ts).2) (by
        intro x hx
        obtain ⟨s, hs', hx⟩ := List.mem_flatMap.1 hx
        have := ho.1 s hs'
        have h1 := this.2.1
        have h2 := this.2.2
        simp only [List.mem_cons, List.not_mem_nil, or_false] at hx
        rcases hx with rfl | rfl <;> constructor <;> omega)
      rw [ends2_len] at this
      simp at hl
      omega
  · show (if 8192 < xs.length then [] else toldS (sortedN xs)).length ≤ _
    split
    · simp
    · have hp := srtI_perm (itemsOf xs)
      have hlen : (sortedN xs).length = xs.length := by unfold sortedN; rw [List.length_map, hp.length_eq, itemsOf_length]
      have := toldS_len (xs := sortedN xs) (by
        intro x hx
        obtain ⟨y, hy, rfl⟩ := List.mem_map.1 hx
        have hy := hp.mem_iff.1 hy
        obtain ⟨z, hz, rfl⟩ := List.mem_map.1 hy
        have := hb z.1 (by obtain ⟨a, b⟩ := z; exact (List.mem_zipIdx hz).2.2 ▸ List.getElem_mem _)
        show I64 z.1
        constructor <;> omega)
      rw [hlen] at this
      omega
theorem lineS_len (v : List UInt8) (r : List (List UInt8)) (hl : r.length ≤ 400000) : (lineS v r).length ≤ 30000000 := by
  unfold lineS
  split
  · have := sumS_lt r.flatten
    have := itoa_length (sumS r.flatten) (by constructor <;> omega)
    omega
  · split
    · rename_i x hx
      have hxm := List.mem_of_find?_eq_some hx
      have hxp := List.find?_some hx
      have hxp := of_decide_eq_true hxp
      have hnl := numsL_len r
      have hnb := @numsL_bd r
      unfold outS
      split
      · exact does_len x hxm v _ hxp.2 hnb (by omega)
      · have := does_bd x hxm (numsL r)
        have := faultS_len _ (show I64 (x.does (numsL r)).1 by constructor <;> omega)
        omega
    · have := faultS_len 2500 (by constructor <;> omega)
      omega
/-! ### A script -/
def tellL (l : List UInt8) : List UInt8 := match wordsL [] l with | [] => [] | v :: r => if v.head? = some 35 then [] else lineS v r ++ [10]
def runS (s : List UInt8) : List UInt8 := (linesL [] s).flatMap tellL
theorem wordsL_len : ∀ (l cur : List UInt8), (wordsL cur l).flatten.length ≤ cur.length + l.length ∧ (wordsL cur l).length ≤ (wordsL cur l).flatten.length
  | [], cur => by
    unfold wordsL
    split
    · simp
    · rename_i h
      have : cur.length ≠ 0 := fun e => h (List.eq_nil_of_length_eq_zero e)
      simp; omega
  | b :: l, cur => by
    unfold wordsL
    have h1 := wordsL_len l []
    have h2 := wordsL_len l (cur ++ [b])
    split
    · split
      · simp at h1 ⊢; omega
      · rename_i h
        have : cur.length ≠ 0 := fun e => h (List.eq_nil_of_length_eq_zero e)
        simp only [List.flatten_cons, List.length_append, List.length_cons, List.length_nil] at h1 ⊢
        omega
    · simp only [List.length_append, List.length_cons, List.length_nil] at h2 ⊢
      omega
theorem linesL_len : ∀ (l cur : List UInt8), (linesL cur l).length ≤ l.length + 1 ∧ ∀ x ∈ linesL cur l, x.length ≤ cur.length + l.length
  | [], cur => by simp [linesL]
  | b :: l, cur => by
    unfold linesL
    have h1 := linesL_len l []
    have h2 := linesL_len l (cur ++ [b])
    split
    · refine ⟨by simp only [List.length_cons]; omega, fun x hx => ?_⟩
      rcases List.mem_cons.1 hx with rfl | hx
      · omega
      · have := h1.2 x hx; simp at this ⊢; omega
    · refine ⟨by simp only [List.length_cons]; omega, fun x hx => ?_⟩
      have := h2.2 x hx; simp at this ⊢; omega
theorem tellL_len (l : List UInt8) (h : l.length ≤ 100000) : (tellL l).length ≤ 30000001 := by
  unfold tellL
  have h1 := wordsL_len l []
  split
  · simp
  · rename_i v r hw
    rw [hw] at h1
    split
    · simp
    · have := lineS_len v r (by simp at h1; omega)
      simp; omega
theorem tells_len (ls : List (List UInt8)) (h : ∀ l ∈ ls, l.length ≤ 100000) : (ls.flatMap tellL).length ≤ ls.length * 30000001 := by
  induction ls with
  | nil => simp
  | cons l ls ih =>
    have h1 := ih fun x hx => h x (List.mem_cons_of_mem _ hx)
    have h2 := tellL_len l (h l List.mem_cons_self)
    simp only [List.flatMap_cons, List.length_append, List.length_cons]
    omega
end Bo
namespace Bo
open Go Go.Proofs Go.RowKit
section
variable {P : Program} [lc : LC P] {N : Nat} {ops : Array Oper} {o : Oper} {os : List Oper} {K : Env → World → Prop} {ρ : Env} {w : World}
theorem cf {f : FuncId} {args : List Value} {R : Value → World → Prop} (h : callq ops ρ o = some (f, args)) (hc : Fn P f args.toArray w R) (k : ∀ v w', R v w' → Wl P N ops os K (updo N ρ o.dst v) w') : Wl P N ops (o :: os) K ρ w := by
  have h' := OpR.call (P := P) (R := fun v w' => Wl P N ops os K (updo N ρ o.dst v) w') h (Fn.mono hc k)
  exact Wl.op h'.1 h'.2
end
theorem bs8_data (s : ByteArray) : bs8 s.data.toList = s := by
  apply ByteArray.ext; show s.data.toList.toArray = s.data; simp
theorem map_bs8_data (xs : List ByteArray) : (xs.map (·.data.toList)).map bs8 = xs := by
  rw [List.map_map]
  conv => rhs; rw [← List.map_id xs]
  exact List.map_congr_left fun x _ => bs8_data x
theorem wordsB_map (s : ByteArray) : wordsB s = (wordsL [] s.data.toList).map bs8 := by
  rw [← fields_words]
  exact (map_bs8_data _).symm
def runV (s : List UInt8) : Value := .tuple #[.string (bs8 (if 65536 < s.length then [] else runS s)), .int .i64 (if 65536 < s.length then 2501 else 0)]
theorem console_Run {I : Nat → Prop} {w : World} (s : List UInt8) (hG : Gl I w) (hl : s.length ≤ 9223372036854775807) :
    Ct Tryz.prog 9 #[.string (bs8 s)] I w (fun _ : Unit => runV s) (fun _ _ _ => True) := by
  refine Ct.of (args := [_]) (F := Gl) Tryz.func9 rfl rfl hG fun hs => ?_
  have hsz : (bs8 s).size = s.length := bs8_size s
  refine sr (p 2 rfl (z ?_))
  refine C.seq ?_
  refine sr (p 3 rfl (z ?_))
  refine C.cond_dec rfl (fun h1 => ?_) fun h1 => ?_ -- t10
  · rw [hsz] at h1
    refine sr (p 2 rfl (z ?_))
    refine C.ret ?_
    exact e2 rfl rfl rfl hs () (by unfold runV; rw [if_pos (by omega), if_pos (by omega)]) trivial
  · rw [hsz] at h1
    have e : runV s = .tuple #[.string (bs8 (runS s)), .int .i64 0] := by unfold runV; rw [if_neg (by omega), if_neg (by omega)]
    rw [e]
    refine C.skip ?_
    refine sr (am hs rfl fun b4 w1 hs => z ?_)
    have hsp := lib_Split (I := fun b => up I w.heap.size b ∧ b ≠ b4) (w := w1) (bs8 s) ⟨#[10]⟩ (by rw [hsz]; omega) (by decide) hs.f
    have hsd := split_lines (bs8 s)
    have hL8 := map_bs8_data (Lib.splitB ⟨#[10]⟩ 0 (Lib.countB (bs8 s) ⟨#[10]⟩) (bs8 s))
    rw [hsd] at hL8
    generalize Lib.splitB ⟨#[10]⟩ 0 (Lib.countB (bs8 s) ⟨#[10]⟩) (bs8 s) = L at hsp hL8
    have hdl : (bs8 s).data.toList = s := by simp
    rw [hdl] at hL8
    generalize hL : linesL [] s = ls at hL8
    subst hL8
    have hll := linesL_len s []
    rw [hL] at hll
    have hlm : (ls.map bs8).length = ls.length := by simp
    rw [hlm] at hsp
    have hrun : runS s = ls.flatMap tellL := by unfold runS; rw [hL]
    rw [hrun]
    refine C.seq ?_
    refine sr (p 1 rfl (Bo.c rfl hs hsp fun a1 w2 hs => p 2 rfl (z ?_)))
    have hs0 : St N0 I w _ (bldM b4 none none 0 ((ls.take 0).flatMap tellL)) (fun J w => RT a1 ls.length (ls.map bs8) J w ∧ Gl J w) w2 := (hs.own 5 1).perm (List.Perm.swap ..)
    refine C.block ?_ -- BLOCK 0
    refine C.loop (fun n ρ w' => ∃ (i : Nat) (p a : Option Addr) (c : Nat) (J : Nat → Prop), n = ls.length - i ∧ i ≤ ls.length ∧ (p = none ∨ p = some ⟨b4, 0, none⟩) ∧ ρ 4 = .pointer (some ⟨b4, 0, none⟩) ∧ ρ 12 = .slice a1 ls.length ls.length ∧ ρ 13 = .int .i64 ls.length ∧ ρ 14 = .int .i64 i ∧ St N0 I w J (bldM b4 p a c ((ls.take i).flatMap tellL)) (fun J w => RT a1 ls.length (ls.map bs8) J w ∧ Gl J w) w') _ ⟨0, none, none, 0, _, rfl, by omega, .inl rfl, rfl, rfl, rfl, rfl, hs0⟩ ?_
    rintro n ρ w3 ⟨i, pp, a, c, J, hn, hi, hpp, h4, h12, h13, h14, hs⟩
    refine C.nm 4 h4 (C.nm 12 h12 (C.nm 13 h13 (C.nm 14 h14 ?_)))
    refine sr (p 1 rfl (z ?_))
    refine C.seq ?_
    refine C.cond_dec rfl (fun h5 => ?_) fun h5 => ?_ -- t15
    · have hx := List.getElem?_eq_getElem (show i < ls.length by omega)
      have hxm := List.getElem_mem (show i < ls.length by omega)
      generalize ls[i] = l at hx hxm
      have htk : (ls.take (i + 1)).flatMap tellL = (ls.take i).flatMap tellL ++ tellL l := by
        rw [List.take_add_one, hx, List.flatMap_append]; simp
      have hlb := hll.2 l hxm
      simp only [List.length_nil, Nat.zero_add] at hlb
      refine C.skip ?_
      refine C.seq ?_
      refine C.block ?_ -- BLOCK 1
      refine sr (ixn i rfl hs.f.1 (by simp) (map_get (x := bs8 l) (by simp [hx])) fun b off hat => l1 0 rfl hat rfl rfl (p 1 rfl (z ?_)))
      have hw := lib_words (I := J) (w := w3) (bs8 l) (by rw [bs8_size]; omega)
      rw [wordsB_map, show (bs8 l).data.toList = l by simp, List.length_map] at hw
      have hwl := wordsL_len l []
      have hwn := wordsL_ne l []
      have htell : tellL l = match wordsL [] l with | [] => [] | v :: r => if v.head? = some 35 then [] else lineS v r ++ [10] := rfl
      generalize wordsL [] l = ws at hw hwl hwn htell
      refine sr (p 1 rfl (Bo.c rfl hs hw fun a2 w4 hs => p 1 rfl (z ?_)))
      refine src (fun ρ w' => ρ 4 = .pointer (some ⟨b4, 0, none⟩) ∧ ρ 7 = .slice a2 ws.length ws.length ∧ ρ 12 = .slice a1 ls.length ls.length ∧ ρ 13 = .int .i64 ls.length ∧ ρ 14 = .int .i64 i ∧ (∃ q, ρ 29 = .bool q ∧ (q = true ↔ ∃ v r, ws = v :: r ∧ v.head? ≠ some 35)) ∧ St N0 I w J (bldM b4 pp a c ((ls.take i).flatMap tellL)) (fun J w => RT a2 ws.length (ws.map bs8) J w ∧ RT a1 ls.length (ls.map bs8) J w ∧ Gl J w) w') ?_ ?_
      · refine p 4 rfl (gd 23 rfl (fun h6 => ?_) fun h6 => ?_)
        · cases ws with
          | nil => simp at h6
          | cons v r =>
            obtain ⟨b1, t1, rfl⟩ : ∃ b t, v = b :: t := by
              cases v with
              | nil => exact absurd rfl (hwn [] (by simp))
              | cons b t => exact ⟨b, t, rfl⟩
            refine p 1 rfl (ixn 0 rfl hs.f.1 (by simp) (map_get (x := bs8 (b1 :: t1)) rfl) fun b off hat => l1 0 rfl hat rfl rfl (six (u := b1) rfl (by omega) rfl (p 2 rfl (z ⟨rfl, rfl, rfl, rfl, rfl, ⟨_, rfl, iffd ?_⟩, hs⟩))))
            constructor
            · intro h
              refine ⟨_, _, rfl, fun e => h ?_⟩
              simp at e; subst e; rfl
            · rintro ⟨v, r', e, h⟩ h'
              cases e
              refine h ?_
              have : b1 = 35 := by
                apply UInt8.toNat_inj.1
                have h2 : (b1.toNat : Int) = 35 := h'
                show b1.toNat = 35
                omega
              simp [this]
        · refine p 6 rfl (z ⟨rfl, rfl, rfl, rfl, rfl, ⟨_, rfl, ifff ?_⟩, hs⟩)
          rintro ⟨v, r, rfl, _⟩
          simp at h6
      rintro ρ w5 ⟨h4, h7, h12, h13, h14, ⟨q, hq, hqi⟩, hs⟩
      refine C.nm 4 h4 (C.nm 7 h7 (C.nm 12 h12 (C.nm 13 h13 (C.nm 14 h14 (C.nm 29 hq ?_)))))
      refine C.cond rfl (fun h6 => ?_) fun h6 => ?_ -- t29
      · obtain ⟨v, r, rfl, hv⟩ := hqi.1 h6
        have ht : tellL l = lineS v r ++ [10] := by rw [htell]; simp only [if_neg hv]
        have hrl : r.length ≤ 65536 := by have h1 := hwl.1; have h2 := hwl.2; simp only [List.length_cons, List.length_nil, Nat.zero_add] at h1 h2; omega
        have hrf : r.flatten.length ≤ 65536 := by have := hwl.1; simp only [List.flatten_cons, List.length_append, List.length_nil, Nat.zero_add] at this; omega
        have hlin := console_line (I := J) (w := w5) v r hs.f.1 hs.f.2.2 (by omega) (fun x hx => ?_) (by omega)
        · have hll1 := lineS_len v r (by omega)
          have htl := tells_len (ls.take i) fun y hy => by have := hll.2 y (List.mem_of_mem_take hy); simp at this; omega
          have htl2 : (ls.take i).length ≤ ls.length := by simp; omega
          have hll2 := hll.1
          refine C.reg (p 1 rfl (c0 rfl hs hlin fun w6 hs => ct (s := bs8 (lineS v r)) (t := bs8 [10]) rfl (by rw [bs8_size, bs8_size]; simp; omega) ?_))
          rw [bs8_append, ← ht]
          refine cm rfl hs (bld_Write (tellL l) hpp (by rw [ht]; simp only [List.length_append, List.length_singleton]; omega) hs.ms) rfl fun q2 J2 w7 hs => z ?_
          rw [← htk] at hs
          refine C.reg (Bo.a rfl (by omega) (p 1 rfl (z ?_)))
          exact ⟨_, by omega, i + 1, _, _, _, J2, rfl, by omega, .inr rfl, rfl, rfl, rfl, rfl, hs.to fun h => h.2.2⟩
        · have h1 : x.length ≤ r.flatten.length := by
            obtain ⟨k, hk⟩ := List.mem_iff_getElem?.1 hx
            exact (List.sublist_flatten_of_mem hx).length_le
          omega
      · have ht : tellL l = [] := by
          rw [htell]
          cases ws with
          | nil => rfl
          | cons v r =>
            by_cases hv : v.head? = some 35
            · simp only [if_pos hv]
            · have := hqi.2 ⟨v, r, rfl, hv⟩
              rw [h6] at this; cases this
        rw [ht, List.append_nil] at htk
        rw [← htk] at hs
        refine C.skip ?_
        refine C.reg (Bo.a rfl (by omega) (p 1 rfl (z ?_)))
        exact ⟨_, by omega, i + 1, pp, a, c, J, rfl, by omega, hpp, rfl, rfl, rfl, rfl, hs.to fun h => h.2⟩
    · have : i = ls.length := by omega
      subst this
      rw [List.take_length] at hs
      refine C.exit ?_ -- EXIT 0
      refine sr (cf rfl (bld_String hpp hs) fun v w9 hv => ?_)
      obtain ⟨rfl, hs⟩ := hv
      refine p 2 rfl (z ?_)
      refine C.ret ?_
      exact e2 rfl rfl rfl hs () rfl trivial
end Bo
namespace Bo
open Go Go.Proofs Go.RowKit
section
variable {P : Program} [lc : LC P] {N : Nat} {ops : Array Oper} {o : Oper} {os : List Oper} {K : Env → World → Prop} {ρ : Env} {w w0 : World} {D I J : Nat → Prop} {M : List Rs} {F : Pf}
/-- A slice's literal of the call's own. -/
theorem bsm [Stab F] (css : List (List Value)) {e sz : Nat} (hs : St D I w0 J M F w) (h : bsq lc.L ops ρ o = some (e, sz, css)) (hl : css.length ≤ 9223372036854775807)
    (k : ∀ g J w, St D I w0 J (.own (some ⟨g, 0, none⟩) css.length e sz css :: M) F w → Wl P N ops os K (updo N ρ o.dst (.slice (some ⟨g, 0, none⟩) css.length css.length)) w) : Wl P N ops (o :: os) K ρ w := by
  obtain ⟨hw, _, hsz, hr⟩ := bsq_run (P := P) h
  have hok : (Rs.own (some ⟨w.heap.size, 0, none⟩) css.length e sz css).ok { w with heap := w.heap.push (.cells css.flatten.toArray e) } :=
    own_shut (rest := []) (Bk.new w e css.flatten) (by simp) (flatten_length hsz) (Nat.le_refl _) hl hsz
  obtain ⟨J', hs'⟩ := hs.more (below_push w _) hok (fun b hb => by cases hb; exact Nat.le_refl _)
  refine Wl.op hw ?_
  unfold OpR
  rw [hr]
  exact k _ J' _ hs'
/-- Bytes into a text. -/
def cvq (L : Lay) (ops : Array Oper) (ρ : Env) (o : Oper) : Option (Addr × Nat × TypeId) :=
  match wantE ops ρ o with
  | true =>
    match o.op with
    | .convert src dst x =>
      match kdo L src, kdo L dst, ev ρ x with
      | some (.sl e), some .str, .slice (some a) n _ => match kdo L e with | some (.int .u8) => some (a, n, e) | _ => none
      | _, _, _ => none
    | _ => none
  | false => none
theorem cvs {a : Addr} {n c e : Nat} (l : List UInt8) (hq : cvq lc.L ops ρ o = some (a, n, e)) (hr : Rc 1 (some a) c (l.map u8c) J w) (hn : n = l.length) (hne : l ≠ [])
    (k : Wl P N ops os K (updo N ρ o.dst (.string (bs8 l))) w) : Wl P N ops (o :: os) K ρ w := by
  unfold cvq at hq
  split at hq <;> try (cases hq; done)
  rename_i hw
  split at hq <;> try (cases hq; done)
  rename_i src dst x ho
  split at hq <;> try (cases hq; done)
  rename_i e1 a1 n1 c1 h1 h2 h3
  split at hq <;> try (cases hq; done)
  rename_i h4
  simp only [Option.some.injEq, Prod.mk.injEq] at hq
  obtain ⟨rfl, rfl, rfl⟩ := hq
  subst hn
  have hu1 := kdo_ok lc.ok h1
  have hu2 := kdo_ok lc.ok h2
  have hu3 := kdo_ok lc.ok h4
  simp only [KdOk] at hu1 hu2 hu3
  obtain ⟨b, off, ha, _, _, hc⟩ := hr.2.2 (by simpa using hne)
  cases ha
  have hrun := run_convert_bytes_back (P := P) w src dst e1 ⟨b, off, none⟩ c1 l hu1 hu3 hu2 (fun j hj => by
    have := hc j (u8c l[j]) (by simp [List.getElem?_eq_getElem hj]) 0 _ rfl
    rw [add_n]
    simpa using this)
  refine Wl.op hw (OpR.val ?_ k)
  unfold execOp
  simp only [ho, h3, Sem.run_bind, hrun, Result.andThen_ok, Sem.run_pure]
/-- Numbers of 64 bits without a sign: what is left, and a quotient. -/
def unq (ops : Array Oper) (ρ : Env) (o : Oper) : Option (Bool × Int × Int) :=
  match wantE ops ρ o with
  | true =>
    match o.op with
    | .binOp op _ x y _ =>
      match op, ev ρ x, ev ρ y with
      | .quo, .int .u64 a, .int .u64 b => some (true, a, b)
      | .rem, .int .u64 a, .int .u64 b => some (false, a, b)
      | _, _, _ => none
    | _ => none
  | false => none
theorem wrap_u64 {n : Int} (h : 0 ≤ n ∧ n ≤ 18446744073709551615) : IntKind.u64.wrap n = n := by
  simp [IntKind.wrap, IntKind.bits, IntKind.signed]
  omega
theorem um {x y : Nat} (h : unq ops ρ o = some (false, (x : Int), (y : Int))) (h0 : y ≠ 0) (k : Wl P N ops os K (updo N ρ o.dst (.int .u64 (x % y : Nat))) w) : Wl P N ops (o :: os) K ρ w := by
  unfold unq at h
  split at h <;> try (cases h; done)
  rename_i hw
  split at h <;> try (cases h; done)
  rename_i op T x' y' T' ho
  split at h <;> try (cases h; done)
  rename_i hx hy
  simp only [Option.some.injEq, Prod.mk.injEq, true_and] at h
  obtain ⟨rfl, rfl⟩ := h
  have h0' : ¬ ((y : Int) = 0) := by omega
  have e : (x : Int).tmod (y : Int) = ((x % y : Nat) : Int) := by rw [Int.tmod_eq_emod_of_nonneg (by omega)]; rfl
  exact Wl.op hw (OpR.val (by simp only [execOp, ho, hx, hy, eqGuard, binOp, Op.intDiv, h0']; simp [e]) k)
theorem uv {x y : Nat} (h : unq ops ρ o = some (true, (x : Int), (y : Int))) (h0 : y ≠ 0) (hx63 : x ≤ 18446744073709551615) (k : Wl P N ops os K (updo N ρ o.dst (.int .u64 (x / y : Nat))) w) : Wl P N ops (o :: os) K ρ w := by
  unfold unq at h
  split at h <;> try (cases h; done)
  rename_i hw
  split at h <;> try (cases h; done)
  rename_i op T x' y' T' ho
  split at h <;> try (cases h; done)
  rename_i hx hy
  simp only [Option.some.injEq, Prod.mk.injEq, true_and] at h
  obtain ⟨rfl, rfl⟩ := h
  have h0' : ¬ ((y : Int) = 0) := by omega
  have e : (x : Int).tdiv (y : Int) = ((x / y : Nat) : Int) := by rw [Int.tdiv_eq_ediv_of_nonneg (by omega)]; rfl
  have hle : x / y ≤ x := Nat.div_le_self x y
  have hw' : ∀ q : Nat, q ≤ x → IntKind.u64.wrap (q : Int) = q := fun q h => wrap_u64 (by omega)
  have hw64 := hw' _ hle
  exact Wl.op hw (OpR.val (by simp only [execOp, ho, hx, hy, eqGuard, binOp, Op.intDiv, h0']; simp only [e, hw64]; simp) k)
end
def digU (u : Nat) : UInt8 := UInt8.ofNat (48 + u % 10)
theorem digU_nat (u : Nat) : (digU u).toNat = 48 + u % 10 := by
  unfold digU
  rw [UInt8.toNat_ofNat_of_lt']
  show 48 + u % 10 < 256
  omega
theorem dec_small {u : Nat} (h : u < 10) : Lib.decDigits u = [digU u] := by
  rw [Lib.decDigits, dif_pos h]
  unfold digU
  rw [Nat.mod_eq_of_lt h]
theorem dec_big {u : Nat} (h : ¬ u < 10) : Lib.decDigits u = Lib.decDigits (u / 10) ++ [digU u] := by
  rw [Lib.decDigits, dif_neg h]; rfl
theorem ref_Decimal {I : Nat → Prop} {w : World} (n : Nat) (hn : n ≤ 100000000000000) :
    Ct Tryz.prog 21 #[.int .i64 n] I w (fun _ : Unit => .string (bs8 (Lib.decDigits n))) (fun _ _ _ => True) := by
  refine Ct.of (args := [_]) (F := fun _ _ => True) Tryz.func21 rfl rfl trivial fun hs => ?_
  refine sr (p 1 rfl (z ?_))
  refine src (fun ρ w' => ρ 0 = .int .i64 n ∧ ρ 3 = .int .u64 n ∧ St N0 I w (up I w.heap.size) [] (fun _ _ => True) w') ?_ ?_
  · exact p 3 rfl (z ⟨rfl, vi rfl (wrap_u64 (by omega)), hs⟩)
  rintro ρ w0 ⟨h0, h3, hs⟩
  refine C.nm 0 h0 (C.nm 3 h3 ?_)
  refine C.seq ?_
  refine sr (p 2 rfl (z ?_))
  refine C.cond_dec rfl (fun h1 => absurd h1 (by omega)) fun h1 => ?_ -- t8
  refine C.skip ?_
  refine sr (p 1 rfl (z ?_))
  have hs0 : St N0 I w (up I w.heap.size) [] (Rc 1 none 0 (([] : List UInt8).map u8c)) w0 := hs.to fun _ => Rc.nil _ _ _ _ _
  refine C.seq ?_
  refine C.block ?_ -- BLOCK 0
  refine C.loop (fun m ρ w' => ∃ (u : Nat) (out : List UInt8) (a : Option Addr) (c : Nat) (J : Nat → Prop), m = u + (if out = [] then 1 else 0) ∧ out.length + u ≤ n + 1 ∧ Lib.decDigits n = (if u = 0 ∧ out ≠ [] then out else Lib.decDigits u ++ out) ∧ ρ 0 = .int .i64 n ∧ ρ 3 = .int .u64 u ∧ ρ 4 = .slice a out.length c ∧ St N0 I w J [] (Rc 1 a c (out.map u8c)) w') _ ⟨n, [], none, 0, _, rfl, by simp, by simp, rfl, rfl, rfl, hs0⟩ ?_
  rintro m ρ w1 ⟨u, out, a, c, J, hm, hlen, hdec, h0, h3, h4, hs⟩
  refine C.nm 0 h0 (C.nm 3 h3 (C.nm 4 h4 ?_))
  refine C.seq ?_
  refine src (fun ρ w' => ρ 0 = .int .i64 n ∧ ρ 3 = .int .u64 u ∧ ρ 4 = .slice a out.length c ∧ (∃ r, ρ 20 = .bool r ∧ (r = true ↔ 0 < u ∨ out = [])) ∧ St N0 I w J [] (Rc 1 a c (out.map u8c)) w') ?_ ?_
  · refine p 3 rfl (gd 16 rfl (fun h2 => ?_) fun h2 => ?_)
    · exact p 4 rfl (z ⟨rfl, rfl, rfl, ⟨_, rfl, ifft (.inl (by omega))⟩, hs⟩)
    · refine p 4 rfl (z ⟨rfl, rfl, rfl, ⟨_, rfl, iffd ?_⟩, hs⟩)
      constructor
      · intro h; exact .inr (List.eq_nil_of_length_eq_zero (by omega))
      · rintro (h | h)
        · omega
        · rw [h]; rfl
  rintro ρ w2 ⟨h0, h3, h4, ⟨r, hr, hri⟩, hs⟩
  refine C.nm 0 h0 (C.nm 3 h3 (C.nm 4 h4 (C.nm 20 hr ?_)))
  refine C.cond rfl (fun h5 => ?_) fun h5 => ?_ -- t20
  · have hgo := hri.1 h5
    have hdec' : Lib.decDigits n = Lib.decDigits u ++ out := by
      rw [hdec, if_neg]
      rintro ⟨h1, h2⟩
      rcases hgo with h | h
      · omega
      · exact h2 h
    refine C.skip ?_
    refine C.block ?_ -- BLOCK 1
    refine sr (p 1 rfl (um rfl (by decide) (p 2 rfl (Wl.nm 24 (v := .int .u8 ((digU u).toNat : Int)) ?_ ?_))))
    · have e : IntKind.u8.wrap (IntKind.u64.wrap (48 + ((u % 10 : Nat) : Int))) = ((digU u).toNat : Int) := by
        rw [wrap_u64 (by omega), digU_nat]
        simp [IntKind.wrap, IntKind.bits, IntKind.signed]
        omega
      exact vi rfl e
    refine bsm ([digU u].map u8c) hs rfl (by simp) fun g J2 w2 hs => ?_
    refine p 1 rfl ?_
    refine ap 0 hs rfl rfl rfl hs.f (by simp) (fun cs hcs v hv => by obtain ⟨b, _, rfl⟩ := List.mem_map.1 hcs; simp [u8c] at hv; subst hv; rfl) (by show (_ + _) * 1 ≤ _; simp; omega) (by simp; omega) fun a3 c3 J3 w3 hs => ?_
    have e1 : [digU u].map u8c ++ out.map u8c = (digU u :: out).map u8c := rfl
    have e2 : ((digU u :: out).map u8c).length = (digU u :: out).length := by simp
    rw [e1] at hs ⊢
    rw [e2]
    obtain ⟨J4, hs⟩ := hs.done
    refine p 1 rfl (z ?_)
    refine C.reg (p 1 rfl (uv rfl (by decide) (by omega) (p 1 rfl (z ?_))))
    refine ⟨_, ?_, u / 10, digU u :: out, a3, c3, J4, rfl, ?_, ?_, rfl, rfl, rfl, hs.to fun h => h.1⟩
    · rw [if_neg (by simp)]
      rcases hgo with h | h
      · omega
      · rw [hm, if_pos h]; omega
    · simp only [List.length_cons]
      rcases hgo with h | h
      · omega
      · rw [h] at hlen ⊢; simp at hlen ⊢; omega
    · rw [hdec']
      by_cases hlt : u < 10
      · rw [dec_small hlt, if_pos ⟨by omega, by simp⟩]; rfl
      · rw [dec_big hlt, if_neg (by omega), List.append_assoc]; rfl
  · have hno : u = 0 ∧ out ≠ [] := by
      constructor
      · exact Classical.byContradiction fun h => by have := hri.2 (.inl (by omega)); rw [h5] at this; cases this
      · intro h; have := hri.2 (.inr h); rw [h5] at this; cases this
    rw [if_pos hno] at hdec
    refine C.exit ?_ -- EXIT 0
    refine C.seq ?_
    refine sr (p 2 rfl (z ?_))
    refine C.cond_dec rfl (fun h1 => absurd h1 (by omega)) fun h1 => ?_ -- t31
    refine C.skip ?_
    obtain ⟨ad, rfl⟩ : ∃ ad, a = some ad := by
      obtain ⟨b, o, ha, _⟩ := hs.f.2.2 (by simpa using hno.2)
      exact ⟨_, ha⟩
    refine sr (p 1 rfl (cvs out rfl hs.f rfl hno.2 (p 1 rfl (z ?_))))
    refine C.ret ?_
    rw [hdec]
    exact e1 rfl rfl hs () rfl trivial
end Bo
