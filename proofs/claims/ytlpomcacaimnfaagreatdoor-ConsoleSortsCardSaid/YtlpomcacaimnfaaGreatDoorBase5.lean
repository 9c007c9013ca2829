/- Lemmas for the statements of this seat: how the code of the program runs, function by function; no condition beyond what each states. -/
import Derived.Lib.FieldsP
import Derived.Lib.SplitLaws
import Derived.Laws.StructEq
import Derived.Test.YtlpomcacaimnfaaGreatDoorBase4
set_option linter.unusedVariables false
set_option linter.unusedSectionVars false
set_option linter.unusedSimpArgs false
namespace Bo
open Go Go.Proofs
abbrev TB (t : Int) : Prop := -4398046511104 ≤ t ∧ t ≤ 4398046511104
theorem ediv_mul (t k : Int) : t / k * k = t - t % k := by
  have := Int.mul_ediv_add_emod t k
  rw [Int.mul_comm]; omega
theorem window_LastOf {I : Nat → Prop} {w : World} {b bk : Nat} {bp : Option Addr} (q : Query) (t : Int) (hI : QI b q bp bk I w) (hk : 1 ≤ stepQ q ∧ stepQ q ≤ 1073741824) (ht : TB t) :
    Ct Tryz.prog 144 #[.pointer (some ⟨b, 0, none⟩), .int .i64 t] I w (fun _ : Unit => .int .i64 (t - t % stepQ q)) (fun _ _ _ => True) := by
  refine Ct.of (args := [_, _]) (F := QI b q bp bk) Tryz.func144 rfl rfl hI fun hs => ?_
  have hd := ediv_bd (a := t) hk.1
  have hm0 := Int.emod_nonneg t (show stepQ q ≠ 0 by omega)
  have hm1 := Int.emod_lt_of_pos t (show 0 < stepQ q by omega)
  refine sr (p 1 rfl (z ?_))
  refine sr (p 2 rfl (c0 rfl hs (window_Step q hs.f) fun w hs => c0 rfl hs (floor_Div1 t (stepQ q) (by omega) (by omega)) fun w hs => p 5 rfl (z ?_)))
  refine sr (p 2 rfl (c0 rfl hs (window_Step q hs.f) fun w hs => an (t - t % stepQ q) rfl (ediv_mul t (stepQ q)) (by omega) (p 1 rfl (z ?_))))
  refine C.ret ?_
  exact e1 rfl rfl hs () rfl trivial
def firstQ (q : Query) (t : Int) : Int := (t - q.size) - (t - q.size) % stepQ q + stepQ q
theorem window_FirstOf {I : Nat → Prop} {w : World} {b bk : Nat} {bp : Option Addr} (q : Query) (t : Int) (hI : QI b q bp bk I w) (hk : 1 ≤ stepQ q ∧ stepQ q ≤ q.size) (hz : q.size ≤ 1073741824) (ht : -2199023255552 ≤ t ∧ t ≤ 2199023255552) :
    Ct Tryz.prog 111 #[.pointer (some ⟨b, 0, none⟩), .int .i64 t] I w (fun _ : Unit => .int .i64 (firstQ q t)) (fun _ _ _ => True) := by
  refine Ct.of (args := [_, _]) (F := QI b q bp bk) Tryz.func111 rfl rfl hI fun hs => ?_
  have hm0 := Int.emod_nonneg (t - q.size) (show stepQ q ≠ 0 by omega)
  have hm1 := Int.emod_lt_of_pos (t - q.size) (show 0 < stepQ q by omega)
  refine sr (p 1 rfl (z ?_))
  refine sr (p 5 rfl (l rfl hs.f.2 rfl (Bo.a rfl (by omega) (c0 rfl hs (window_LastOf q (t - q.size) hs.f (by omega) (by omega)) fun w hs => p 1 rfl (c0 rfl hs (window_Step q hs.f) fun w hs => an (firstQ q t) rfl rfl (by unfold firstQ; omega) (p 1 rfl (z ?_)))))))
  refine C.ret ?_
  exact e1 rfl rfl hs () rfl trivial
/-- The windows that hold a time. -/
def winN (q : Query) (t : Int) : Nat := ((t - firstQ q t) / stepQ q + 1).toNat
def winAt (q : Query) (t : Int) (i : Nat) : Span := ⟨firstQ q t + i * stepQ q, firstQ q t + i * stepQ q + q.size⟩
def wins (q : Query) (t : Int) : List Span := (List.range (winN q t)).map (winAt q t)
theorem winN_lt {q : Query} {t : Int} (hk : 1 ≤ stepQ q) (i : Nat) : i < winN q t ↔ firstQ q t + i * stepQ q ≤ t := by
  unfold winN
  have h := Int.le_ediv_iff_mul_le (a := (i : Int)) (b := t - firstQ q t) (show 0 < stepQ q by omega)
  constructor
  · intro hi
    have := h.1 (by omega)
    omega
  · intro hi
    have := h.2 (by omega)
    omega
theorem winN_le {q : Query} {t : Int} (hk : 1 ≤ stepQ q ∧ stepQ q ≤ q.size) (hz : q.size ≤ 1073741824) : winN q t ≤ 1073741825 := by
  rcases Nat.lt_or_ge 1073741825 (winN q t) with h | h
  · have h1 := (winN_lt (t := t) hk.1 1073741825).1 h
    have hm1 := Int.emod_lt_of_pos (t - q.size) (show 0 < stepQ q by omega)
    have h2 : (1073741825 : Int) * 1 ≤ 1073741825 * stepQ q := Int.mul_le_mul_of_nonneg_left hk.1 (by omega)
    unfold firstQ at h1
    have h3 : ((1073741825 : Nat) : Int) * stepQ q = 1073741825 * stepQ q := rfl
    rw [h3] at h1
    omega
  · exact h
theorem Span.one (xs : List Span) : ∀ cs ∈ xs.map Span.c, ∀ v ∈ cs, v.oneCell' = true := by
  intro cs hcs v hv
  obtain ⟨x, _, rfl⟩ := List.mem_map.1 hcs
  simp only [Span.c, List.mem_cons, List.not_mem_nil, or_false] at hv
  rcases hv with rfl | rfl <;> rfl
def ofOk (q : Query) (t : Int) : Prop := mayQ q ∧ q.kind ≠ 2 ∧ -1099511627776 ≤ t ∧ t ≤ 1099511627776
structure WR where
  ok : Bool
  a : Option Addr
  c : Nat
theorem window_Of {I : Nat → Prop} {w : World} {bk : Nat} {bp : Option Addr} (q : Query) (t : Int) (hB : RI bp bk q.bounds I w) (hsl : I64 q.slide) :
    Ct Tryz.prog 75 #[.agg (q.c bp bk).toArray, .int .i64 t] I w (fun r : WR => .tuple #[.slice r.a (if r.ok then (wins q t).length else 0) r.c, .int .i64 (if r.ok then 0 else 400)])
      (fun r J w => (r.ok = true ↔ ofOk q t) ∧ RSpan r.a r.c (if r.ok then wins q t else []) J w) := by
  refine Ct.of (args := [_, _]) (F := RI bp bk q.bounds) Tryz.func75 rfl rfl hB fun hs => ?_
  refine sr (ai hs rfl fun b2 w1 hs => p 2 rfl (z ?_))
  refine C.seq ?_
  refine src (fun ρ w' => ρ 1 = .int .i64 t ∧ ρ 2 = .pointer (some ⟨b2, 0, none⟩) ∧ (∃ x, ρ 20 = .bool x ∧ (x = true ↔ ¬ ofOk q t)) ∧ St N0 I w (up I w.heap.size) [] (QI b2 q bp bk) w') ?_ ?_
  · refine ln (q.c bp bk) rfl hs.im rfl rfl (Bo.c rfl hs (window_May q hs.f.2 hsl) fun y w2 hs => p 2 rfl (gs 11 rfl (fun h1 => ?_) fun h1 => ?_))
    · have h1 : ¬ mayQ q := fun h => by have := hs.f.1.2 h; simp [this] at h1
      exact p 9 rfl (z ⟨rfl, rfl, ⟨_, rfl, ifft fun h => h1 h.1⟩, hs.to fun h => h.2.1⟩)
    · have h1 : mayQ q := hs.f.1.1 (by simpa using h1)
      refine p 1 rfl (l rfl hs.im2 rfl (p 3 rfl (gd 16 rfl (fun h2 => ?_) fun h2 => ?_)))
      · exact p 4 rfl (z ⟨rfl, rfl, ⟨_, rfl, ifft fun h => h.2.1 h2⟩, hs.to fun h => h.2.1⟩)
      · refine p 1 rfl (c0 rfl hs (window_TimeMay t) fun w2 hs => p 2 rfl (z ⟨rfl, rfl, ⟨_, rfl, iffn ?_⟩, hs.to fun h => h.2.1⟩))
        exact ⟨fun h h' => h h'.2.2, fun h h' => h ⟨h1, h2, h'⟩⟩
  rintro ρ w' ⟨h1, h2, ⟨x, hx, hxi⟩, hs⟩
  refine C.nm 1 h1 (C.nm 2 h2 (C.nm 20 hx ?_))
  refine C.cond rfl (fun h3 => ?_) fun h3 => ?_ -- t20
  · refine sr (p 2 rfl (z ?_))
    refine C.ret ?_
    exact e2 rfl rfl rfl hs ⟨false, none, 0⟩ rfl ⟨ifff (hxi.1 h3), Rc.nil _ _ _ _ _⟩
  · have hok : ofOk q t := Classical.not_not.1 fun hn => by have := hxi.2 hn; rw [h3] at this; cases this
    have hst := hok.1.step hok.2.1
    have hz := hok.1.1
    have hm0 := Int.emod_nonneg (t - q.size) (show stepQ q ≠ 0 by omega)
    have hm1 := Int.emod_lt_of_pos (t - q.size) (show 0 < stepQ q by omega)
    have hN := winN_le (t := t) hst hz.2.1
    have hf : firstQ q t = (t - q.size) - (t - q.size) % stepQ q + stepQ q := rfl
    refine C.skip ?_
    refine sr (p 1 rfl (z ?_))
    refine C.seq ?_
    refine sr (p 1 rfl (c0 rfl hs (window_FirstOf q t hs.f hst hz.2.1 (by have := hok.2.2; omega)) fun w9 hs => p 1 rfl (z ?_)))
    refine C.block ?_ -- BLOCK 0
    refine C.loop (fun n ρ w' => ∃ (i : Nat) (a1 : Option Addr) (c1 : Nat) (J : Nat → Prop), n = winN q t - i ∧ i ≤ winN q t ∧ ρ 1 = .int .i64 t ∧ ρ 2 = .pointer (some ⟨b2, 0, none⟩) ∧ ρ 6 = .slice a1 i c1 ∧ ρ 7 = .int .i64 (firstQ q t + i * stepQ q) ∧ St N0 I w J [.own a1 c1 79 2 (((List.range i).map (winAt q t)).map Span.c)] (QI b2 q bp bk) w') _ ⟨0, none, 0, _, rfl, by omega, rfl, rfl, rfl, by simp; rfl, hs.own 79 2⟩ ?_
    rintro n ρ w1 ⟨i, a1, c1, J, hn, hi, h1, h2, h6, h7, hs⟩
    refine C.nm 1 h1 (C.nm 2 h2 (C.nm 6 h6 (C.nm 7 h7 ?_)))
    refine C.seq ?_
    refine sr (p 3 rfl (z ?_))
    refine C.cond_dec rfl (fun h4 => ?_) fun h4 => ?_ -- t25
    · have hlt := (winN_lt hst.1 i).2 h4
      have hge : (0 : Int) ≤ i * stepQ q := Int.mul_nonneg (by omega) (by omega)
      have ht := hok.2.2
      refine C.skip ?_
      refine C.seq ?_
      refine C.block ?_ -- BLOCK 1
      refine C.reg (p 4 rfl (l rfl hs.f.2 rfl (Bo.a rfl (by omega) (bd (winAt q t i).c rfl ?_))))
      refine bs ([winAt q t i].map Span.c) hs rfl fun a2 w2 hs => ?_
      have e1 : ((List.range i).map (winAt q t)).map Span.c ++ [winAt q t i].map Span.c = ((List.range (i + 1)).map (winAt q t)).map Span.c := by rw [List.range_succ]; simp
      have e2 : (((List.range (i + 1)).map (winAt q t)).map Span.c).length = i + 1 := by simp
      refine ap 0 hs rfl rfl (by simp) hs.f.1 rfl (Span.one [_]) (by show (_ + _) * 16 ≤ _; simp; omega) (by simp; omega) fun a3 c3 J3 w2 hs => ?_
      rw [e1] at hs ⊢
      rw [e2]
      refine p 1 rfl (z ?_)
      refine C.reg (p 1 rfl (c0 rfl hs (window_Step q hs.f.2) fun w3 hs => an (firstQ q t + ((i + 1 : Nat) : Int) * stepQ q) rfl ?_ ?_ (p 1 rfl (z ?_))))
      · show firstQ q t + i * stepQ q + stepQ q = _
        rw [Int.natCast_add, Int.add_mul]; omega
      · rw [Int.natCast_add, Int.add_mul]; omega
      · exact ⟨_, by omega, i + 1, a3, c3, J3, rfl, by omega, rfl, rfl, rfl, rfl, hs.to fun h => h.2⟩
    · have : i = winN q t := by
        rcases Nat.lt_or_ge i (winN q t) with h | h
        · exact absurd ((winN_lt hst.1 i).1 h) h4
        · omega
      subst this
      obtain ⟨J2, hs⟩ := hs.done
      refine C.exit ?_ -- EXIT 0
      refine sr (p 3 rfl (z ?_))
      refine C.ret ?_
      refine e2 rfl rfl rfl hs ⟨true, a1, c1⟩ (by simp [wins]) ⟨ifft hok, ?_⟩
      simp only [if_true]
      exact hs.f.1
end Bo
namespace Bo
open Go Go.Proofs Go.RowKit
instance (bs : List Int) (i : Nat) : Decidable (bdAt bs i) := by unfold bdAt; infer_instance
instance (bs : List Int) : Decidable (bdOk bs) := by unfold bdOk; infer_instance
instance (q : Query) : Decidable (rankOk q) := by unfold rankOk; infer_instance
instance (q : Query) : Decidable (asksOk q) := by unfold asksOk; infer_instance
instance (q : Query) : Decidable (slOk q) := by unfold slOk; infer_instance
instance (q : Query) : Decidable (mayQ q) := by unfold mayQ; infer_instance
instance (q : Query) (t : Int) : Decidable (ofOk q t) := by unfold ofOk; infer_instance
def sldQ (a b : Int) : Query := ⟨1, 0, a, b, [], 0⟩
def winX (a b t : Int) : List Span := if ofOk (sldQ a b) t then wins (sldQ a b) t else []
def winS (a b t : Int) : List UInt8 := toldS ((winX a b t).map Span.start)
theorem wins_bd {q : Query} {t : Int} (h : ofOk q t) : ∀ x ∈ wins q t, -2199023255552 ≤ x.start ∧ x.start ≤ 1099511627776 := by
  intro x hx
  have hst := h.1.step h.2.1
  have hz := h.1.1
  have ht := h.2.2
  obtain ⟨i, hi, rfl⟩ := List.mem_map.1 hx
  have hi := (winN_lt (t := t) hst.1 i).1 (List.mem_range.1 hi)
  have hge : (0 : Int) ≤ i * stepQ q := Int.mul_nonneg (by omega) (by omega)
  have hm1 := Int.emod_lt_of_pos (t - q.size) (show 0 < stepQ q by omega)
  have hf : firstQ q t = (t - q.size) - (t - q.size) % stepQ q + stepQ q := rfl
  simp only [winAt]
  omega
theorem winN_sl {a b t : Int} (h : ofOk (sldQ a b) t) : winN (sldQ a b) t ≤ 1000000 := by
  have hst := h.1.step h.2.1
  rcases Nat.lt_or_ge 1000000 (winN (sldQ a b) t) with hn | hn
  · exfalso
    have h1 := (winN_lt (t := t) hst.1 64).1 (by omega)
    have hsl : slOk (sldQ a b) := by
      rcases h.1.2 with h' | h'
      · exact h'.2
      · have := h'.1; simp [sldQ] at this
    have hd := hsl.2.2.1
    have hk : stepQ (sldQ a b) = b := by simp [stepQ, sldQ]
    have hz : (sldQ a b).size = a := rfl
    have hs : (sldQ a b).slide = b := rfl
    rw [hz, hs] at hd
    rw [hk] at h1 hst
    have hm1 := Int.emod_lt_of_pos (t - a) (show 0 < b by omega)
    have hf : firstQ (sldQ a b) t = (t - a) - (t - a) % b + b := by unfold firstQ; rw [hk, hz]
    have h2 : ¬ (64 : Int) ≤ (a - 1) / b := by omega
    have h3 : ¬ (64 : Int) * b ≤ a - 1 := fun h => h2 ((Int.le_ediv_iff_mul_le (by omega)).2 h)
    have h4 : ((64 : Nat) : Int) * b = 64 * b := rfl
    rw [h4, hf] at h1
    omega
  · exact hn
theorem console_windows {I : Nat → Prop} {w : World} {p0 : Option Addr} {c : Nat} (a b t : Int) (hR : RI p0 c [a, b, t] I w) (hG : Gl I w) (hb : -1000000 ≤ b ∧ b ≤ 1000000) :
    Ct Tryz.prog 52 #[.slice p0 3 c] I w (fun _ : Unit => .tuple #[.string (bs8 (winS a b t)), .int .i64 (if ofOk (sldQ a b) t then 0 else 400)]) (fun _ _ _ => True) := by
  refine Ct.of (args := [_]) (F := fun J w => RI p0 c [a, b, t] J w ∧ Gl J w) Tryz.func52 rfl rfl ⟨hR, hG⟩ fun hs => ?_
  refine sr (p 2 rfl (z ?_))
  refine C.seq ?_
  refine dro N0 15 [0, 1, 2, 3, 4, 5, 6, 7, 8, 9, 510, 11, 12, 13, 14] hs fun w1 hs => dp 1 rfl (dixn 0 rfl hs.f.1 rfl rfl fun b1 off hat => dl1 0 rfl hat rfl rfl (dp 1 rfl (dixn 1 rfl hs.f.1 rfl rfl fun b1 off hat => dl1 0 rfl hat rfl rfl (dbd ((sldQ a b).c none 0) rfl (dp 1 rfl (dixn 2 rfl hs.f.1 rfl rfl fun b1 off hat => dl1 0 rfl hat rfl rfl ?_))))))
  refine dc rfl hs (window_Of (sldQ a b) t (bp := none) (bk := 0) (Rc.nil _ _ _ _ _) (by show I64 b; omega)) fun r w2 hs => dp 4 rfl (dz (p 1 rfl (z ?_)))
  obtain ⟨hrok, hrs⟩ := hs.f.1
  have hr : r.ok = decide (ofOk (sldQ a b) t) := by
    rw [Bool.eq_iff_iff, hrok, decide_eq_true_eq]
  have hX : (if r.ok then wins (sldQ a b) t else []) = winX a b t := by
    unfold winX; rw [hr]
    by_cases h : ofOk (sldQ a b) t <;> simp [h]
  have hXl : (if r.ok then (wins (sldQ a b) t).length else 0) = (winX a b t).length := by rw [← hX]; split <;> rfl
  have hE : (if r.ok then (0 : Int) else 400) = if ofOk (sldQ a b) t then 0 else 400 := by
    rw [hr]; by_cases h : ofOk (sldQ a b) t <;> simp [h]
  have hXn : (winX a b t).length ≤ 1000000 := by
    unfold winX
    split
    · rename_i h; simp only [wins, List.length_map, List.length_range]; exact winN_sl h
    · simp
  have hXb : ∀ x ∈ winX a b t, I64 x.start := by
    intro x hx
    unfold winX at hx
    split at hx
    · rename_i h; have := wins_bd h x hx; constructor <;> omega
    · cases hx
  rw [hX] at hrs
  rw [hXl, hE]
  have hs' := hs.to (G := fun J w => RSpan r.a r.c (winX a b t) J w ∧ Gl J w) fun h => by
    have h1 := h.1.2
    rw [hX] at h1
    exact ⟨h1, h.2.2⟩
  clear hs
  refine sr (p 1 rfl (z ?_))
  refine C.seq ?_
  refine sr (p 3 rfl (z ?_))
  refine C.block ?_ -- BLOCK 0
  refine C.loop (fun n ρ w' => ∃ (i : Nat) (a1 : Option Addr) (c1 : Nat) (J : Nat → Prop), n = (winX a b t).length - i ∧ i ≤ (winX a b t).length ∧ ρ 5 = .int .i64 (if ofOk (sldQ a b) t then 0 else 400) ∧ ρ 6 = .slice a1 i c1 ∧ ρ 23 = .slice r.a (winX a b t).length r.c ∧ ρ 24 = .int .i64 (winX a b t).length ∧ ρ 25 = .int .i64 i ∧ St N0 I w J [.own a1 c1 3 1 ((((winX a b t).take i).map Span.start).map ic)] (fun J w => RSpan r.a r.c (winX a b t) J w ∧ Gl J w) w') _ ⟨0, none, 0, _, rfl, by omega, rfl, rfl, rfl, rfl, rfl, hs'.own 3 1⟩ ?_
  rintro n ρ w3 ⟨i, a1, c1, J, hn, hi, h5, h6, h23, h24, h25, hs⟩
  refine C.nm 5 h5 (C.nm 6 h6 (C.nm 23 h23 (C.nm 24 h24 (C.nm 25 h25 ?_))))
  refine sr (p 1 rfl (z ?_))
  refine C.seq ?_
  refine C.cond_dec rfl (fun h1 => ?_) fun h1 => ?_ -- t26
  · have hxi := List.getElem?_eq_getElem (show i < (winX a b t).length by omega)
    generalize (winX a b t)[i] = x at hxi
    refine C.skip ?_
    refine C.seq ?_
    refine C.block ?_ -- BLOCK 1
    refine sr (ixn i rfl hs.f.1 (by simp) (map_get hxi) fun b9 off hat => la rfl hat rfl (ais hs rfl (fun _ => rfl) rfl fun b8 J w2 hs => z ?_))
    refine C.reg (p 2 rfl (l rfl hs.im rfl ?_))
    refine bs ([x.start].map ic) hs rfl fun a2 w4 hs => ?_
    have e1 : (((winX a b t).take i).map Span.start).map ic ++ [x.start].map ic = (((winX a b t).take (i + 1)).map Span.start).map ic := by
      rw [List.take_add_one, hxi]; simp
    have e2 : ((((winX a b t).take (i + 1)).map Span.start).map ic).length = i + 1 := by simp; omega
    refine ap 0 hs rfl rfl (by simp; omega) hs.f.1 rfl (ic_one [x.start]) (by show (_ + _) * 8 ≤ _; simp; omega) (by simp; omega) fun a3 c3 J3 w4 hs => ?_
    rw [e1] at hs ⊢
    rw [e2]
    refine p 1 rfl (z ?_)
    refine C.reg (Bo.a rfl (by omega) (p 1 rfl (z ?_)))
    exact ⟨_, by omega, i + 1, a3, c3, J3, rfl, by omega, rfl, rfl, rfl, rfl, rfl, hs.to fun h => h.2.2⟩
  · have : i = (winX a b t).length := by omega
    subst this
    rw [List.take_length] at hs
    obtain ⟨J2, hs⟩ := hs.done
    refine C.exit ?_ -- EXIT 0
    have hT := console_told (w := w3) ((winX a b t).map Span.start) hs.f.1 hs.f.2.2 (fun x hx => by
      obtain ⟨y, hy, rfl⟩ := List.mem_map.1 hx
      exact hXb y hy) (by simpa using hXn)
    rw [List.length_map] at hT
    refine sr (p 1 rfl (c0 rfl hs hT fun w4 hs => p 3 rfl (z ?_)))
    refine C.ret ?_
    exact Bo.e2 rfl rfl rfl hs () rfl trivial
end Bo
namespace Bo
open Go Go.Proofs
def crcBit (x : Nat) : Nat := if x &&& 32768 = 0 then x * 2 % 65536 else (x * 2 % 65536) ^^^ 4129
def crcBits : Nat → Nat → Nat
  | 0, x => x
  | k + 1, x => crcBits k (crcBit x)
def crcByte (x : Nat) (b : UInt8) : Nat := crcBits 8 (x ^^^ (b.toNat * 256))
def sumS (l : List UInt8) : Nat := l.foldl crcByte 65535
theorem crcBit_lt (x : Nat) : crcBit x < 65536 := by
  unfold crcBit
  split
  · omega
  · exact Nat.xor_lt_two_pow (n := 16) (by omega) (by omega)
theorem crcBits_lt (k x : Nat) (h : x < 65536) : crcBits k x < 65536 := by
  induction k generalizing x with
  | zero => exact h
  | succ k ih => exact ih _ (crcBit_lt x)
theorem frame_Sum {I : Nat → Prop} {w : World} (l : List UInt8) (hl : l.length ≤ 1000000000) :
    Ct Tryz.prog 33 #[.string (bs8 l)] I w (fun _ : Unit => .int .i64 (sumS l)) (fun _ _ _ => True) := by
  refine Ct.of (args := [_]) (F := fun _ _ => True) Tryz.func33 rfl rfl trivial fun hs => ?_
  refine sr (p 1 rfl (z ?_))
  refine sr (p 1 rfl (z ?_))
  refine C.seq ?_
  refine sr (p 3 rfl (z ?_))
  refine C.block ?_ -- BLOCK 0
  refine C.loop (fun n ρ w' => ∃ i x : Nat, n = l.length - i ∧ i ≤ l.length ∧ x < 65536 ∧ (l.drop i).foldl crcByte x = sumS l ∧ ρ 0 = .string (bs8 l) ∧ ρ 3 = .int .i64 x ∧ ρ 7 = .int .i64 l.length ∧ ρ 8 = .int .i64 i ∧ St N0 I w (up I w.heap.size) [] (fun _ _ => True) w') _ ⟨0, 65535, rfl, by omega, by omega, rfl, rfl, rfl, by simp; exact congrArg (Value.int IntKind.i64) (by rw [bs8_size]), rfl, hs⟩ ?_
  rintro n ρ w1 ⟨i, x, hn, hi, hx, hsum, h0, h3, h7, h8, hs⟩
  refine C.nm 0 h0 (C.nm 3 h3 (C.nm 7 h7 (C.nm 8 h8 ?_)))
  refine sr (p 1 rfl (z ?_))
  refine C.seq ?_
  refine C.cond_dec rfl (fun h1 => ?_) fun h1 => ?_ -- t9
  · have hb := List.getElem?_eq_getElem (show i < l.length by omega)
    have hd := List.drop_eq_getElem_cons (show i < l.length by omega)
    generalize l[i] = b at hb hd
    rw [hd, List.foldl_cons] at hsum
    have hbl := UInt8.toNat_lt b
    have hxx : x ^^^ (b.toNat * 256) < 65536 := Nat.xor_lt_two_pow (n := 16) (by omega) (by omega)
    refine C.skip ?_
    refine C.seq ?_
    refine C.block ?_ -- BLOCK 1
    refine sr (p 2 rfl (z ?_))
    refine sr (p 3 rfl (six (u := b) rfl (by omega) (by simpa using hb) (Bo.a rfl (by omega) (shn ((b.toNat * 256 : Nat) : Int) 8 rfl (by omega) (by omega) (by omega) (bxor x (b.toNat * 256) rfl (by omega) (by omega) (p 1 rfl (z ?_)))))))
    refine sr (p 1 rfl (z ?_))
    refine C.block ?_ -- BLOCK 2
    refine C.loop (fun n ρ w' => ∃ j y : Nat, n = 8 - j ∧ j ≤ 8 ∧ y < 65536 ∧ crcBits (8 - j) y = crcByte x b ∧ ρ 0 = .string (bs8 l) ∧ ρ 3 = .int .i64 y ∧ ρ 7 = .int .i64 l.length ∧ ρ 8 = .int .i64 i ∧ ρ 18 = .int .i64 j ∧ St N0 I w (up I w.heap.size) [] (fun _ _ => True) w') _ ⟨0, x ^^^ (b.toNat * 256), rfl, by omega, hxx, rfl, rfl, rfl, rfl, rfl, rfl, hs⟩ ?_
    rintro n ρ w2 ⟨j, y, hn, hj, hy, hbits, h0, h3, h7, h8, h18, hs⟩
    refine C.nm 0 h0 (C.nm 3 h3 (C.nm 7 h7 (C.nm 8 h8 (C.nm 18 h18 ?_))))
    refine sr (p 1 rfl (z ?_))
    refine C.seq ?_
    refine C.cond_dec rfl (fun h2 => ?_) fun h2 => ?_ -- t19
    · have hk : crcBits (8 - (j + 1)) (crcBit y) = crcByte x b := by
        rw [← hbits, show 8 - j = (8 - (j + 1)) + 1 from by omega]; rfl
      refine C.skip ?_
      refine C.seq ?_
      refine C.block ?_ -- BLOCK 3
      refine sr (p 1 rfl (band y 32768 rfl (by omega) (by omega) (p 1 rfl (z ?_))))
      refine sr (p 1 rfl (shn ((y * 2 : Nat) : Int) 1 rfl (by omega) (by omega) (by omega) (rmn ((y * 2 % 65536 : Nat) : Int) rfl (by rw [Int.tmod_eq_emod_of_nonneg (by omega)]; omega) (by omega) (p 1 rfl (z ?_)))))
      refine sr (p 2 rfl (z ?_))
      have hy2 : y &&& 32768 < 9223372036854775808 := Nat.lt_of_le_of_lt Nat.and_le_left (by omega)
      refine C.cond_dec rfl (fun h3 => ?_) fun h3 => ?_ -- t26
      · have h4 : y &&& 32768 ≠ 0 := fun e => h3 (by rw [e]; rfl)
        have hcb : crcBit y = (y * 2 % 65536) ^^^ 4129 := by unfold crcBit; rw [if_neg h4]
        refine C.reg (p 1 rfl (bxor (y * 2 % 65536) 4129 rfl (by omega) (by omega) (p 1 rfl (z ?_))))
        refine C.reg (Bo.a rfl (by omega) (p 1 rfl (z ?_)))
        exact ⟨_, by omega, j + 1, crcBit y, rfl, by omega, crcBit_lt y, hk, rfl, by rw [hcb]; rfl, rfl, rfl, rfl, hs⟩
      · have h4 : y &&& 32768 = 0 := by
          rcases Nat.eq_zero_or_pos (y &&& 32768) with h | h
          · exact h
          · exact absurd (by omega) h3
        have hcb : crcBit y = y * 2 % 65536 := by unfold crcBit; rw [if_pos h4]
        refine C.skip ?_
        refine C.reg (Bo.a rfl (by omega) (p 1 rfl (z ?_)))
        exact ⟨_, by omega, j + 1, crcBit y, rfl, by omega, crcBit_lt y, hk, rfl, by rw [hcb]; rfl, rfl, rfl, rfl, hs⟩
    · have : j = 8 := by omega
      subst this
      have hbits : y = crcByte x b := hbits
      refine C.exit ?_ -- EXIT 2
      refine C.reg (Bo.a rfl (by omega) (p 1 rfl (z ?_)))
      exact ⟨_, by omega, i + 1, y, rfl, by omega, hy, by rw [hbits]; exact hsum, rfl, rfl, rfl, rfl, hs⟩
  · refine C.exit ?_ -- EXIT 0
    rw [List.drop_of_length_le (by omega)] at hsum
    refine sr (p 2 rfl (z ?_))
    refine C.ret ?_
    exact e1 rfl rfl hs () (by rw [← hsum]; rfl) trivial
end Bo
namespace Bo
open Go Go.Proofs Go.RowKit
theorem lays240 : Lays.n240 Tryz.prog Tryz.lays156_ren := {
  mixed := Tryz.lays156.mixed
  f240 := Tryz.lays156.f240
  f276 := Tryz.lays156.f276
  t0 := Tryz.lays156.t0
  a0 := Tryz.lays156.a0
  z0 := Tryz.lays156.z0
  v0 := Tryz.lays156.v0
  t4 := Tryz.lays156.t4
  a4 := Tryz.lays156.a4
  z4 := Tryz.lays156.z4
  v4 := Tryz.lays156.v4
  t9 := Tryz.lays156.t9
  a9 := Tryz.lays156.a9
  z9 := Tryz.lays156.z9
  v9 := Tryz.lays156.v9
  t20 := Tryz.lays156.t20
  a20 := Tryz.lays156.a20
  z20 := Tryz.lays156.z20
  v20 := Tryz.lays156.v20
  t70 := Tryz.lays156.t70
  a70 := Tryz.lays156.a70
  z70 := Tryz.lays156.z70
  v70 := Tryz.lays156.v70
  t72 := Tryz.lays156.t72
  a72 := Tryz.lays156.a72
  z72 := Tryz.lays156.z72
  v72 := Tryz.lays156.v72
  t164 := Tryz.lays156.t164
  a164 := Tryz.lays156.a164
  z164 := Tryz.lays156.z164
  v164 := Tryz.lays156.v164 }
def bldM (bb : Nat) (p : Option Addr) (a : Option Addr) (c : Nat) (bs : List UInt8) : List Rs :=
  [.blk bb 42 [.pointer p, .slice a bs.length c], .own a c 5 1 (bs.map u8c)]
theorem setCell_row {w : World} {b : Nat} {T : TypeId} {x v : Value} {cs : List Value} (h : Bk w b T (x :: cs)) : w.setCell ⟨b, 0, none⟩ v = w.setRow b (v :: cs).toArray := by
  rw [setCell_eq_setRow w b 0 (x :: cs).toArray T (0, 0) v h]
  rfl
theorem bld_copyCheck {I : Nat → Prop} {w : World} {bb : Nat} {p : Option Addr} {v : Value} (hp : p = none ∨ p = some ⟨bb, 0, none⟩) (hM : Ms I [.blk bb 42 [.pointer p, v]] w) :
    Cm Tryz.prog 31 #[.pointer (some ⟨bb, 0, none⟩)] I w [.blk bb 42 [.pointer p, v]] (fun _ : Unit => .tuple #[]) (fun _ => [.blk bb 42 [.pointer (some ⟨bb, 0, none⟩), v]]) (fun _ _ _ => True) := by
  have hs := St.mkM (F := fun _ _ => True) I hM trivial
  have hb := hs.bk 0 rfl
  have hk : CallOk Tryz.prog 31 := ⟨_, Tryz.func31, by kernel_rfl, by kernel_rfl⟩
  have hc0 : w.cell? ⟨bb, 0, none⟩ = some (.pointer p) := by rw [hb.cell]; rfl
  rcases hp with rfl | rfl
  · refine ⟨hk, Calls.mono (Any.Builder_copyCheck_fresh lays240 Tryz.Builder_Extra_156.toX72 bb w hc0 (by unfold Bk at hb; simp [World.shape?, hb]; rfl) (by unfold Bk at hb; simp [World.frozen?, hb])) ?_⟩
    rintro e w' ⟨he, rfl⟩
    obtain ⟨J, hs'⟩ := hs.turn (i := 0) (w' := w.setCell ⟨bb, 0, none⟩ (.pointer (some ⟨bb, 0, none⟩))) (y := .blk bb 42 [.pointer (some ⟨bb, 0, none⟩), v]) rfl (by rw [setCell_row hb]; exact grown_setRow w bb _) (by rw [setCell_row hb]; exact setRow_heap w bb _ _ _ _ hb) (.inl rfl)
    exact ⟨_, he, (), rfl, J, hs'⟩
  · refine ⟨hk, Calls.mono (Any.Builder_copyCheck_used lays240 Tryz.Builder_Extra_156.toX72 bb w hc0) ?_⟩
    rintro e w' ⟨he, rfl⟩
    exact ⟨_, he, (), rfl, _, hs⟩
theorem bld_Write {I : Nat → Prop} {w : World} {bb c : Nat} {p a : Option Addr} {bs : List UInt8} (t : List UInt8) (hp : p = none ∨ p = some ⟨bb, 0, none⟩) (hl : bs.length + t.length ≤ 140737488355328) (hM : Ms I (bldM bb p a c bs) w) :
    Cm Tryz.prog 18 #[.pointer (some ⟨bb, 0, none⟩), .string (bs8 t)] I w (bldM bb p a c bs) (fun _ : Option Addr × Nat => .tuple #[.int .i64 t.length, .nilIface]) (fun r => bldM bb (some ⟨bb, 0, none⟩) r.1 r.2 (bs ++ t)) (fun _ _ _ => True) := by
  refine Cm.of (args := [_, _]) (F := fun _ _ => True) Tryz.func18 rfl rfl hM trivial fun hs => ?_
  refine sr (Bo.p 2 rfl (z ?_))
  refine sr (Bo.p 1 rfl (cm rfl hs (bld_copyCheck hp (Ms.l (A := [_]) hs.ms)) rfl fun _ J w1 hs => z ?_))
  refine sr (Bo.p 4 rfl (l rfl (hs.bk 0 rfl) rfl (Bo.p 1 rfl ?_)))
  refine aps 1 (bs ++ t) hs rfl rfl rfl (by rw [bs8_size]; exact hl) (by kernel_rfl) rfl fun a1 c1 J1 w1 hs => ?_
  refine Bo.p 2 rfl (sbx 0 [.pointer (some ⟨bb, 0, none⟩), .slice a1 (bs ++ t).length c1] hs rfl rfl rfl rfl fun J2 w1 hs => z ?_)
  refine sr (Bo.p 4 rfl (z ?_))
  refine C.ret ?_
  exact m2 rfl rfl rfl (a1, c1) hs (by rw [bs8_size]) trivial
/-- The text that has been put together: behind this call the builder is not written any more. -/
theorem bld_String {I : Nat → Prop} {w w0 : World} {J : Nat → Prop} {F : Pf} {bb c : Nat} {p a : Option Addr} {bs : List UInt8} (hp : p = none ∨ p = some ⟨bb, 0, none⟩) (hs : St N0 I w0 J (bldM bb p a c bs) F w) :
    Fn Tryz.prog 20 #[.pointer (some ⟨bb, 0, none⟩)] w fun v w' => v = .string (bs8 bs) ∧ St N0 I w0 (up I w0.heap.size) [] (fun _ _ => True) w' := by
  have h0 := hs.m _ (List.mem_of_getElem? (i := 0) rfl)
  have h1 := hs.m _ (List.mem_of_getElem? (i := 1) rfl)
  have hbb : w0.heap.size ≤ bb := (h0.2 bb rfl).1.resolve_right id
  have hown : w.ownsRow w0.heap.size 5 1 (.slice a bs.length c) bs.length (bs.map u8c).flatten := by
    obtain ⟨⟨hf, hv⟩, _⟩ := h1.1
    rw [List.length_map] at hf hv
    refine ⟨hf, ?_⟩
    rcases hv with h | ⟨g, cap, cur, hv, _, r⟩
    · exact .inl h
    · have hg := (h1.2 g (by obtain ⟨rfl, _, _⟩ := Value.slice.inj hv; rfl)).1.resolve_right id
      exact .inr ⟨g, cap, cur, hv, hg, r⟩
  have hB : Lib.BuilderAt 42 5 w0.heap.size bb (.pointer p) (Lib.byteCells bs) w := by
    have e : Lib.byteCells bs = (bs.map u8c).flatten := by rw [u8_flat]; rfl
    rw [e]
    refine ⟨hbb, .slice a bs.length c, hs.bk 0 rfl, ?_, fun e => ?_⟩
    · rw [show ((bs.map u8c).flatten).length = bs.length from by rw [u8_flat]; simp]; exact hown
    · refine (List.pairwise_cons.1 hs.d).1 _ (List.mem_cons_self ..) bb rfl ?_
      cases a with
      | none => cases e
      | some a => exact e
  refine ⟨⟨_, Tryz.func20, by kernel_rfl, by kernel_rfl⟩, Calls.mono (Tryz.Builder_String_any w0.heap.size bb bs w (by rcases hp with rfl | rfl; exact .inl hB; exact .inr hB) hs.s) ?_⟩
  rintro e w' ⟨he, hb⟩
  exact ⟨_, he, rfl, ⟨hs.b.trans (D' := fun k => w0.heap.size ≤ k) ⟨hb.os, hb.tape, hb.output, hb.size, fun k hk hn => hb.block k (by omega)⟩ (fun k hk h => by omega), by simp, .nil, fun b hb' => .inr (Nat.le_trans (Nat.le_trans hs.s hb.size) hb'), fun b hb' => .inl hb', trivial⟩⟩
end Bo
namespace Bo
open Go Go.Lib
def blankP (r : Nat) : Bool := decide (r = 32 ∨ r = 9)
/-! ### Words, byte by byte -/
def isBl (b : UInt8) : Bool := decide (b.toNat = 32 ∨ b.toNat = 9)
theorem isBl_high {x : UInt8} (h : 128 ≤ x.toNat) : isBl x = false := decide_eq_false (by omega)
theorem mem_take_getD {l : List UInt8} {k : Nat} {x : UInt8} (h : x ∈ l.take k) : ∃ j, j < k ∧ j < l.length ∧ l.getD j 0 = x := by
  obtain ⟨j, hj⟩ := List.mem_iff_getElem?.1 h
  rw [List.getElem?_take] at hj
  split at hj
  · exact ⟨j, by assumption, (List.getElem?_eq_some_iff.1 hj).1, by rw [List.getD_eq_getElem?_getD, hj]; rfl⟩
  · cases hj
theorem decN_bl (n b0 b1 b2 b3 : Nat) (hn : 1 ≤ n) :
    (decodeN n b0 b1 b2 b3).2 ≤ 4 ∧ 1 ≤ (decodeN n b0 b1 b2 b3).2 ∧ (decodeN n b0 b1 b2 b3).2 ≤ n ∧ (b0 < 128 → decodeN n b0 b1 b2 b3 = (b0, 1)) ∧
    (128 ≤ b0 → 128 ≤ (decodeN n b0 b1 b2 b3).1 ∧ (2 ≤ (decodeN n b0 b1 b2 b3).2 → 128 ≤ b1) ∧ (3 ≤ (decodeN n b0 b1 b2 b3).2 → 128 ≤ b2) ∧ (4 ≤ (decodeN n b0 b1 b2 b3).2 → 128 ≤ b3)) := by
  unfold decodeN
  repeat' split
  all_goals (refine ⟨by omega, by omega, by omega, ?_, ?_⟩)
  all_goals first | (intro h; first | rfl | omega) | skip
  all_goals (refine ⟨?_, ?_, ?_, ?_⟩ <;> omega)
theorem dec_bl (b : UInt8) (t : List UInt8) : blankP (decodeL (b :: t)).1 = isBl b ∧ 1 ≤ (decodeL (b :: t)).2 ∧ (decodeL (b :: t)).2 ≤ (b :: t).length ∧ (isBl b = true → (decodeL (b :: t)).2 = 1) ∧ (isBl b = false → ∀ x ∈ (b :: t).take (decodeL (b :: t)).2, isBl x = false) := by
  rw [decodeL_N]
  have h := decN_bl (b :: t).length ((b :: t).getD 0 0).toNat ((b :: t).getD 1 0).toNat ((b :: t).getD 2 0).toNat ((b :: t).getD 3 0).toNat (by simp)
  have hb : ((b :: t).getD 0 0) = b := rfl
  rw [hb] at h ⊢
  generalize hd : decodeN (b :: t).length b.toNat ((b :: t).getD 1 0).toNat ((b :: t).getD 2 0).toNat ((b :: t).getD 3 0).toNat = d at h ⊢
  obtain ⟨h4, h1, hn, ha, hh⟩ := h
  refine ⟨?_, h1, hn, ?_, ?_⟩
  · by_cases hlt : b.toNat < 128
    · rw [ha hlt]; rfl
    · have := hh (by omega)
      rw [isBl_high (by omega)]
      exact decide_eq_false (by omega)
  · intro hbl
    have : b.toNat < 128 := by
      have := of_decide_eq_true hbl
      omega
    rw [ha this]
  · intro hbl x hx
    obtain ⟨j, hj, _, rfl⟩ := mem_take_getD hx
    by_cases hlt : b.toNat < 128
    · rw [ha hlt] at hj
      obtain rfl : j = 0 := by simp only at hj; omega
      exact hbl
    · obtain ⟨_, h2, h3, h4'⟩ := hh (by omega)
      have : j = 0 ∨ j = 1 ∨ j = 2 ∨ j = 3 := by omega
      rcases this with rfl | rfl | rfl | rfl
      · exact hbl
      · exact isBl_high (h2 (by omega))
      · exact isBl_high (h3 (by omega))
      · exact isBl_high (h4' (by omega))
def wordsL : List UInt8 → List UInt8 → List (List UInt8)
  | cur, [] => if cur = [] then [] else [cur]
  | cur, b :: l => if isBl b then (if cur = [] then wordsL [] l else cur :: wordsL [] l) else wordsL (cur ++ [b]) l
theorem wordsL_skip : ∀ (xs cur ys : List UInt8), (∀ x ∈ xs, isBl x = false) → wordsL cur (xs ++ ys) = wordsL (cur ++ xs) ys
  | [], cur, ys, _ => by simp
  | x :: xs, cur, ys, h => by
    rw [List.cons_append, wordsL, if_neg (by rw [h x (by simp)]; simp), wordsL_skip xs _ ys (fun y hy => h y (by simp [hy]))]
    simp
theorem wordsL_ne : ∀ (l cur : List UInt8), ∀ x ∈ wordsL cur l, x ≠ []
  | [], cur => by
    unfold wordsL
    split
    · simp
    · intro x hx; simp at hx; subst hx; assumption
  | b :: l, cur => by
    unfold wordsL
    split
    · split
      · exact wordsL_ne l []
      · intro x hx
        rcases List.mem_cons.1 hx with rfl | hx
        · assumption
        · exact wordsL_ne l [] x hx
    · exact wordsL_ne l _
theorem spans_words (s : ByteArray) : ∀ (f pos : Nat) (st : Option Nat) (acc : List (Nat × Nat)), s.size ≤ pos + f → pos ≤ s.size → (∀ a, st = some a → a < pos) →
    acc.map (fun p => pieceU s.data.toList p.1 p.2) ++ wordsL (openPiece s.data.toList st pos) (s.data.toList.drop pos) = (closeSpans s (spansFromP blankP s f pos st acc)).map (fun p => pieceU s.data.toList p.1 p.2)
  | 0, pos, st, acc, h, hp, hst => by
    obtain rfl : pos = s.size := by omega
    have hd : s.data.toList.drop s.size = [] := List.drop_eq_nil_of_le (by rw [← size_eq]; exact Nat.le_refl _)
    rw [hd, wordsL]
    cases st with
    | none => simp [spansFromP, closeSpans, openPiece]
    | some a =>
      have := pieceU_ne s.data.toList a s.size (hst a rfl) (by rw [← size_eq]; exact Nat.le_refl _)
      simp [spansFromP, closeSpans, openPiece, this]
  | f + 1, pos, st, acc, h, hp, hst => by
    by_cases hlt : pos < s.size
    · obtain ⟨b, t, hbt⟩ : ∃ b t, s.data.toList.drop pos = b :: t := by
        cases hd : s.data.toList.drop pos with
        | nil =>
          have := congrArg List.length hd
          rw [List.length_drop, ← size_eq] at this
          simp at this; omega
        | cons b t => exact ⟨b, t, rfl⟩
      have hdec := decodeL_drop s pos
      rw [hbt] at hdec
      have hk := dec_bl b t
      rw [hdec] at hk
      obtain ⟨hr, hw, hwn, hk1, hk2⟩ := hk
      have hlen : (b :: t).length = s.size - pos := by rw [← hbt, List.length_drop, ← size_eq]
      rw [hlen] at hwn
      simp only [spansFromP, if_pos hlt, hr]
      cases hbl : isBl b with
      | true =>
        have hw1 := hk1 hbl
        have hdt : s.data.toList.drop (pos + 1) = t := by rw [← List.drop_drop, hbt]; rfl
        simp only [if_true, hw1]
        rw [hbt, wordsL, if_pos hbl]
        cases st with
        | none =>
          have ih := spans_words s f (pos + 1) none acc (by omega) (by omega) (fun a h => by cases h)
          rw [hdt] at ih
          simpa [openPiece] using ih
        | some a =>
          have hpn := pieceU_ne s.data.toList a pos (hst a rfl) (by rw [← size_eq]; omega)
          have ih := spans_words s f (pos + 1) none (acc ++ [(a, pos)]) (by omega) (by omega) (fun a h => by cases h)
          rw [hdt] at ih
          simpa [openPiece, hpn] using ih
      | false =>
        have hsk := hk2 hbl
        rw [← hbt] at hsk
        generalize hwd : (Utf8.decode s pos).2 = k at hw hwn hsk
        have hsp : s.data.toList.drop pos = (s.data.toList.drop pos).take k ++ s.data.toList.drop (pos + k) := by rw [← List.drop_drop, List.take_append_drop]
        simp only [Bool.false_eq_true, if_false]
        rw [hsp, wordsL_skip _ _ _ hsk]
        cases st with
        | none =>
          have ih := spans_words s f (pos + k) (some pos) acc (by omega) (by omega) (fun a h => by cases h; omega)
          have e : ([] : List UInt8) ++ (s.data.toList.drop pos).take k = pieceU s.data.toList pos (pos + k) := by
            unfold pieceU
            rw [List.nil_append, Nat.add_sub_cancel_left]
          simp only [openPiece] at ih ⊢
          rw [e]
          exact ih
        | some a =>
          have ih := spans_words s f (pos + k) (some a) acc (by omega) (by omega) (fun b h => by cases h; have := hst a rfl; omega)
          simp only [openPiece] at ih ⊢
          rw [pieceU_grow _ _ _ _ (Nat.le_of_lt (hst a rfl))]
          exact ih
    · obtain rfl : pos = s.size := by omega
      have hd : s.data.toList.drop s.size = [] := List.drop_eq_nil_of_le (by rw [← size_eq]; exact Nat.le_refl _)
      rw [hd, wordsL, spansFromP_end blankP s _ _ _ _ hlt]
      cases st with
      | none => simp [closeSpans, openPiece]
      | some a =>
        have := pieceU_ne s.data.toList a s.size (hst a rfl) (by rw [← size_eq]; exact Nat.le_refl _)
        simp [closeSpans, openPiece, this]
/-- What strings.FieldsFunc gives at blanks: the words. -/
theorem fields_words (s : ByteArray) : (goFieldsP blankP s).map (·.data.toList) = wordsL [] s.data.toList := by
  have h := spans_words s s.size 0 none [] (by omega) (Nat.zero_le _) (fun a h => by cases h)
  simp only [List.map_nil, List.nil_append, openPiece, List.drop_zero] at h
  rw [h]
  unfold goFieldsP spansOfP
  rw [List.map_map]
  congr 1
  funext p
  simp [pieceU]
/-! ### Lines -/
def linesL : List UInt8 → List UInt8 → List (List UInt8)
  | cur, [] => [cur]
  | cur, b :: l => if b = 10 then cur :: linesL [] l else linesL (cur ++ [b]) l
theorem linesL_skip : ∀ (xs cur ys : List UInt8), (∀ x ∈ xs, x ≠ 10) → linesL cur (xs ++ ys) = linesL (cur ++ xs) ys
  | [], cur, ys, _ => by simp
  | x :: xs, cur, ys, h => by
    rw [List.cons_append, linesL, if_neg (h x (by simp)), linesL_skip xs _ ys (fun y hy => h y (by simp [hy]))]
    simp
theorem ib_spec (c : UInt8) : ∀ l : List UInt8, (indexByte l c = -1 ∧ ∀ x ∈ l, x ≠ c) ∨ (∃ a b, l = a ++ c :: b ∧ indexByte l c = (a.length : Int) ∧ ∀ x ∈ a, x ≠ c)
  | [] => .inl ⟨rfl, by simp⟩
  | y :: l => by
    unfold indexByte
    by_cases hy : y = c
    · subst hy
      exact .inr ⟨[], l, rfl, by simp, by simp⟩
    · rw [if_neg (by simpa using hy)]
      rcases ib_spec c l with ⟨h, hn⟩ | ⟨a, b, rfl, h, hn⟩
      · rw [h]
        refine .inl ⟨rfl, fun x hx => ?_⟩
        rcases List.mem_cons.1 hx with rfl | hx
        · exact hy
        · exact hn x hx
      · rw [h, if_neg (by simp)]
        refine .inr ⟨y :: a, b, rfl, by simp, fun x hx => ?_⟩
        rcases List.mem_cons.1 hx with rfl | hx
        · exact hy
        · exact hn x hx
theorem split_linesL : ∀ (n : Nat) (s : List UInt8), s.length ≤ n → splitK [10] 0 (count s [10]) s = linesL [] s := by
  intro n
  induction n with
  | zero =>
    intro s h
    have : s = [] := List.eq_nil_of_length_eq_zero (by omega)
    subst this
    rfl
  | succ n ih =>
    intro s h
    rcases ib_spec 10 s with ⟨h1, hn⟩ | ⟨a, b, rfl, h1, hn⟩
    · have hm : index s [10] = -1 := by rw [index_one, h1]
      have hc : count s [10] = 0 := count_miss hm
      have := linesL_skip s [] [] hn
      rw [List.append_nil] at this
      rw [hc, this]
      simp [splitK, linesL]
    · have hm : index (a ++ 10 :: b) [10] = (a.length : Int) := by rw [index_one, h1]
      have hc := count_hit (sub := [10]) (by simp) hm
      have hd : (a ++ 10 :: b).drop (a.length + [(10 : UInt8)].length) = b := by
        rw [List.length_singleton, ← List.drop_drop, List.drop_left]; rfl
      rw [hd] at hc
      have ht : (a ++ 10 :: b).take (a.length + 0) = a := by rw [Nat.add_zero, List.take_left]
      have hne : ¬ ((index (a ++ 10 :: b) [10] == -1) = true) := by rw [hm]; simp
      rw [hc, Nat.add_comm 1, splitK, if_neg hne, hm]
      simp only [Int.toNat_natCast]
      rw [ht, hd, ih b (by simp at h; omega), linesL_skip a [] _ hn, linesL]
      simp
theorem split_lines (s : ByteArray) : (splitB ⟨#[10]⟩ 0 (countB s ⟨#[10]⟩) s).map (·.data.toList) = linesL [] s.data.toList := by
  rw [splitB_data]
  exact split_linesL _ _ (Nat.le_refl _)
end Bo
namespace Bo
open Go Go.Proofs Go.RowKit

theorem console_blank (W : World) (x : Nat) : Fn Tryz.prog 17 #[.int .i32 x] W (fun v w' => v = .bool (blankP x) ∧ w' = W) := by
  refine Fn.of (args := [_]) Tryz.func17 rfl (Nat.le_of_ble_eq_true rfl) (by kernel_rfl) ?_
  refine sr (p 1 rfl (z ?_))
  refine src (fun ρ w' => ρ 2 = .bool (blankP x) ∧ w' = W) ?_ ?_
  · refine p 3 rfl (gd 5 rfl (fun h1 => ?_) fun h1 => ?_)
    · have h1 : (x : Int) = 32 := h1
      exact p 4 rfl (z ⟨vb rfl (by have : x = 32 := by omega
                                   simp [blankP, this]), rfl⟩)
    · have h1 : ¬ (x : Int) = 32 := h1
      refine p 4 rfl (z ⟨vb rfl ?_, rfl⟩)
      show decide ((x : Int) = 9) = decide (x = 32 ∨ x = 9)
      rw [decide_eq_decide]
      omega
  rintro ρ _ ⟨h, rfl⟩
  exact C.ret fun a hf => ⟨_, run_results hf (.cons (.t h) .nil), rfl, rfl⟩
theorem callFunc_enter {P : Program} {f : FuncId} (h : CallOk P f) (args : Array Value) (w : World) : (callFunc f args).run P w = .ok (.enter f args) w := by
  obtain ⟨fn, hfn, hnm, hbd⟩ := h
  have h1 : ¬ fn.name = "runtime.NumGoroutine" := by simpa using hnm
  have h2 : ¬ fn.body = none := by intro e; simp [e] at hbd
  simp [callFunc, program, Sem.run, hfn, h1, h2]
/-- The words of a line. -/
def wordsB (s : ByteArray) : List ByteArray := Lib.goFieldsP blankP s
theorem lib_words {I : Nat → Prop} {w : World} (s : ByteArray) (hs : s.size ≤ 4294967296) :
    Ct Tryz.prog 16 #[.string s, .func (.func 17) #[] #[]] I w (fun a : Option Addr => .slice a (wordsB s).length (wordsB s).length) (fun a => RT a (wordsB s).length (wordsB s)) := by
  refine lib_Fields 17 blankP s hs (fun args w => ?_) fun W x => Calls.mono (console_blank W x).2 ?_
  · exact callFunc_enter (console_blank w 0).1 args w
  · rintro e w' ⟨v, he, hv, rfl⟩
    exact ⟨by rw [he, hv], 0, by simp [World.drewN]⟩
end Bo
namespace Bo
open Go Go.Proofs
def bkt (bs : List Int) (v : Int) : Nat := bs.findIdx fun b => decide (v ≤ b)
theorem bkt_le (bs : List Int) (v : Int) : bkt bs v ≤ bs.length := List.findIdx_le_length
theorem acc_bucket {I : Nat → Prop} {w : World} {a : Option Addr} {c : Nat} (bs : List Int) (v : Int) (hR : RI a c bs I w) (hl : bs.length ≤ 1000000) :
    Ct Tryz.prog 167 #[.slice a bs.length c, .int .i64 v] I w (fun _ : Unit => .int .i64 (bkt bs v)) (fun _ _ _ => True) := by
  refine Ct.of (args := [_, _]) (F := RI a c bs) Tryz.func167 rfl rfl hR fun hs => ?_
  refine sr (p 1 rfl (z ?_))
  refine C.seq ?_
  refine sr (p 3 rfl (z ?_))
  refine C.block ?_ -- BLOCK 0
  refine C.loop (fun n ρ w' => ∃ i : Nat, n = bs.length - i ∧ i ≤ bs.length ∧ (∀ j x, j < i → bs[j]? = some x → ¬ v ≤ x) ∧ ρ 0 = .slice a bs.length c ∧ ρ 1 = .int .i64 v ∧ ρ 7 = .slice a bs.length c ∧ ρ 8 = .int .i64 bs.length ∧ ρ 9 = .int .i64 i ∧ St N0 I w (up I w.heap.size) [] (RI a c bs) w') _ ⟨0, rfl, by omega, by omega, rfl, rfl, rfl, rfl, rfl, hs⟩ ?_
  rintro n ρ w1 ⟨i, hn, hi, hno, h0, h1, h7, h8, h9, hs⟩
  refine C.nm 0 h0 (C.nm 1 h1 (C.nm 7 h7 (C.nm 8 h8 (C.nm 9 h9 ?_))))
  refine sr (p 1 rfl (z ?_))
  refine C.seq ?_
  refine C.cond_dec rfl (fun h2 => ?_) fun h2 => ?_ -- t10
  · have hx := List.getElem?_eq_getElem (show i < bs.length by omega)
    have hxg : bs[i] = bs[i] := rfl
    generalize hxe : bs[i] = x at hx
    refine C.skip ?_
    refine C.seq ?_
    refine C.block ?_ -- BLOCK 1
    refine sr (p 1 rfl (ixn i rfl hs.f (by simp) (map_get hx) fun b off hat => l1 0 rfl hat rfl rfl (p 2 rfl (z ?_))))
    refine sr (p 3 rfl (z ?_))
    refine C.cond_dec rfl (fun h3 => ?_) fun h3 => ?_ -- t16
    · refine sr (p 2 rfl (z ?_))
      refine C.ret ?_
      have hb : bkt bs v = i := by
        unfold bkt
        rw [List.findIdx_eq (by omega)]
        refine ⟨by rw [hxe]; exact decide_eq_true h3, fun j hj => ?_⟩
        exact decide_eq_false (hno j _ hj (List.getElem?_eq_getElem (by omega)))
      exact e1 rfl rfl hs () (by rw [hb]) trivial
    · refine C.skip ?_
      refine C.reg (Bo.a rfl (by omega) (p 1 rfl (z ?_)))
      refine ⟨_, by omega, i + 1, rfl, by omega, fun j y hj hy => ?_, rfl, rfl, rfl, rfl, rfl, hs⟩
      by_cases hji : j = i
      · subst hji; rw [hx] at hy; cases hy; exact h3
      · exact hno j y (by omega) hy
  · refine C.exit ?_ -- EXIT 0
    refine sr (p 3 rfl (z ?_))
    refine C.ret ?_
    have hb : bkt bs v = bs.length := by
      unfold bkt
      rw [List.findIdx_eq_length]
      intro x hx
      obtain ⟨j, hj⟩ := List.mem_iff_getElem?.1 hx
      have := (List.getElem?_eq_some_iff.1 hj).1
      exact decide_eq_false (hno j x (by omega) hj)
    exact e1 rfl rfl hs () (by rw [hb]) trivial
end Bo
namespace Bo
open Go Go.Proofs
def zeroI : Item := ⟨0, 0, 0, 0⟩
def zeroA : Acc := ⟨0, 0, 0, 0, zeroI, zeroI, []⟩
def oneA (x : Item) (bs : List Int) : Acc := ⟨1, x.value, x.value, x.value, x, x, (List.replicate (bs.length + 1) 0).set (bkt bs x.value) 1⟩
def oneC (x : Item) (g n : Nat) : List Value := [.int .i64 1, .int .i64 x.value, .int .i64 x.value, .int .i64 x.value, .int .i64 x.series, .int .i64 x.time, .int .i64 x.seq, .int .i64 x.value, .int .i64 x.series, .int .i64 x.time, .int .i64 x.seq, .int .i64 x.value, .slice (some ⟨g, 0, none⟩) n n]
structure AR where
  ok : Bool
  p : Option Addr
  k : Nat
theorem acc_One {I : Nat → Prop} {w : World} {a : Option Addr} {c : Nat} (x : Item) (bs : List Int) (hR : RI a c bs I w) :
    Ct Tryz.prog 151 #[.agg x.c.toArray, .slice a bs.length c] I w (fun r : AR => .tuple #[.agg ((if r.ok then oneA x bs else zeroA).c r.p r.k).toArray, .int .i64 (if r.ok then 0 else 100)])
      (fun r J w => (r.ok = true ↔ x.ok ∧ bdOk bs) ∧ RI r.p r.k (if r.ok then oneA x bs else zeroA).hist J w) := by
  refine Ct.of (args := [_, _]) (F := RI a c bs) Tryz.func151 rfl rfl hR fun hs => ?_
  refine sr (ai hs rfl fun b2 w1 hs => am hs rfl fun b4 w1 hs => p 1 rfl (z ?_))
  refine C.seq ?_
  refine src (fun ρ w' => ρ 1 = .slice a bs.length c ∧ ρ 2 = .pointer (some ⟨b2, 0, none⟩) ∧ ρ 4 = .pointer (some ⟨b4, 0, none⟩) ∧ (∃ y, ρ 14 = .bool y ∧ (y = true ↔ ¬ (x.ok ∧ bdOk bs))) ∧ ∃ J, St N0 I w J [.blk b4 88 (zeroA.c none 0)] (fun J w => Im b2 82 x.c J w ∧ RI a c bs J w) w') ?_ ?_
  · refine ln x.c rfl hs.im rfl rfl (c0 rfl hs (acc_ItemMay x) fun w2 hs => p 2 rfl (gs 10 rfl (fun h1 => ?_) fun h1 => ?_))
    · have h1 : ¬ x.ok := by simpa using h1
      exact p 4 rfl (z ⟨rfl, rfl, rfl, ⟨_, rfl, ifft fun h => h1 h.1⟩, _, hs⟩)
    · have h1 : x.ok := by simpa using h1
      refine p 1 rfl (Bo.c rfl hs (acc_BoundsMay bs hs.f.2) fun y w2 hs => p 2 rfl (z ⟨rfl, rfl, rfl, ⟨_, rfl, ?_⟩, _, hs.to fun h => h.2⟩))
      have := hs.f.1
      cases y
      · exact ifft fun h => by have := this.2 h.2; cases this
      · exact ifff fun h => h ⟨h1, this.1 rfl⟩
  rintro ρ w' ⟨h1, h2, h4, ⟨y, hy, hyi⟩, J, hs⟩
  refine C.nm 1 h1 (C.nm 2 h2 (C.nm 4 h4 (C.nm 14 hy ?_)))
  refine C.cond rfl (fun h3 => ?_) fun h3 => ?_ -- t14
  · refine sr (bd (zeroA.c none 0) rfl (sbx 0 (zeroA.c none 0) hs rfl rfl rfl rfl fun J w hs => p 1 rfl (z ?_)))
    refine C.ret ?_
    exact f2 rfl rfl rfl hs (hs.bk 0 rfl) rfl rfl rfl ⟨false, none, 0⟩ rfl ⟨ifff (hyi.1 h3), Rc.nil _ _ _ _ _⟩
  · obtain ⟨hxo, hbo⟩ : x.ok ∧ bdOk bs := Classical.not_not.1 fun hn => by have := hyi.2 hn; rw [h3] at this; cases this
    have hbl := hbo.1
    have hbk := bkt_le bs x.value
    have e0 : (List.replicate (bs.length + 1) (0 : Int)).length = bs.length + 1 := by simp
    refine C.skip ?_
    refine sc (fun ρ w' => ∃ (b6 g : Nat) (J : Nat → Prop), ρ 1 = .slice a bs.length c ∧ ρ 2 = .pointer (some ⟨b2, 0, none⟩) ∧ ρ 4 = .pointer (some ⟨b4, 0, none⟩) ∧ ρ 6 = .pointer (some ⟨b6, 0, none⟩) ∧
      St N0 I w J [.blk b6 88 (oneC x g (bs.length + 1)), .own (some ⟨g, 0, none⟩) (bs.length + 1) 3 1 (List.replicate (bs.length + 1) (ic 0)), .blk b4 88 (zeroA.c none 0)] (fun J w => Im b2 82 x.c J w ∧ RI a c bs J w) w') ?_ ?_
    · refine drt N0 14 (.q 0 (.q 1 (.q 2 (.q 3 (.q 4 (.q 5 (.q 6 (.q 7 (.q 8 (.q 9 (.q 10 (.a 11 (.q 12 (.e 13 .z)) 13 (.e 11 (.q 12 .z)))))))))))))) hs fun w1 hs => ?_
      refine dp 1 rfl (dl rfl hs.im rfl (dp 1 rfl (dl rfl hs.im rfl (dp 1 rfl (dl rfl hs.im rfl (dln x.c rfl hs.im rfl rfl (dln x.c rfl hs.im rfl rfl (dp 2 rfl (dan ((bs.length + 1 : Nat) : Int) rfl (by simp) (by omega) ?_)))))))))
      refine dmka (bs.length + 1) hs rfl rfl (by show 8 * _ ≤ _; omega) (by omega) (fun g J w1 hs => ?_) fun b6 w1 hs => ?_
      · refine dbd (oneC x g (bs.length + 1)) rfl ?_
        refine dam hs rfl fun b6 w1 hs => dz ?_
        refine sbx 0 (oneC x g (bs.length + 1)) hs rfl rfl rfl rfl fun J w1 hs => z ⟨b6, g, J, rfl, rfl, rfl, rfl, hs⟩
      · refine dmk (bs.length + 1) hs rfl (by show 8 * _ ≤ _; omega) (by omega) fun g J w1 hs => ?_
        refine dbd (oneC x g (bs.length + 1)) rfl (dz ?_)
        refine sbx 1 (oneC x g (bs.length + 1)) hs rfl rfl rfl rfl fun J w1 hs => z ⟨b6, g, J, rfl, rfl, rfl, rfl, hs.perm (.swap ..)⟩
    rintro ρ w1 ⟨b6, g, J, h1, h2, h4, h6, hs⟩
    refine C.nm 1 h1 (C.nm 2 h2 (C.nm 4 h4 (C.nm 6 h6 ?_)))
    refine C.seq ?_
    refine dro N0 6 [0, 1, 2, 3, 4, 505] hs fun w1 hs => dp 1 rfl (dl rfl (hs.bk 0 rfl) rfl (dp 2 rfl (dl rfl hs.f.1.2 rfl (dc0 rfl hs (acc_bucket bs x.value hs.f.2 (by omega)) fun w1 hs => dz ?_))))
    refine ixo 1 (bkt bs x.value) hs rfl rfl (by simp; omega) (by simp) fun g' hg => ?_
    cases hg
    have er : (List.replicate (bs.length + 1) (ic 0)).set (bkt bs x.value) (ic 1) = ((List.replicate (bs.length + 1) (0 : Int)).set (bkt bs x.value) 1).map ic := by rw [List.map_set, List.map_replicate]
    refine sox 1 (bkt bs x.value) 0 (ic 1) (((List.replicate (bs.length + 1) (0 : Int)).set (bkt bs x.value) 1).map ic) hs rfl rfl (es := ic 0) (by rw [List.getElem?_replicate, if_pos (by omega)]) rfl rfl rfl er fun J w1 hs => z ?_
    refine sr (ln (oneC x g (bs.length + 1)) rfl (hs.bk 0 rfl) rfl rfl (sbx 2 (oneC x g (bs.length + 1)) hs rfl rfl rfl rfl fun J w1 hs => p 1 rfl (z ?_)))
    refine C.ret ?_
    obtain ⟨J2, hs⟩ := (hs.perm (List.Perm.swap ..)).done
    have hlen : ((List.replicate (bs.length + 1) (0 : Int)).set (bkt bs x.value) 1).length = bs.length + 1 := by simp
    refine f2 rfl rfl rfl hs (hs.bk 1 rfl) rfl rfl rfl ⟨true, some ⟨g, 0, none⟩, bs.length + 1⟩ ?_ ⟨ifft ⟨hxo, hbo⟩, hs.f.1⟩
    simp only [if_true, oneA, Acc.c, hlen]
    rfl
end Bo
namespace Bo
open Go Go.Proofs
def histOk (x : Acc) (m : Nat) : Prop := (∀ n ∈ x.hist, 0 ≤ n ∧ n ≤ 8192) ∧ x.hist.length = m + 1 ∧ x.hist.sum = x.count
theorem sum_take (l : List Int) (i : Nat) (x : Int) (h : l[i]? = some x) : (l.take (i + 1)).sum = (l.take i).sum + x := by
  rw [List.take_add_one, h]; simp
theorem acc_hist {I : Nat → Prop} {w : World} {b k c : Nat} {p0 a : Option Addr} (x : Acc) (m : Nat) (hI : Im b 88 (x.c p0 k) I w) (hR : RI p0 k x.hist I w) (hl : x.hist.length ≤ 1000000) (hm : m ≤ 1000000) :
    Ct Tryz.prog 164 #[.pointer (some ⟨b, 0, none⟩), .slice a m c] I w (fun r : Bool => .bool r) (fun r _ _ => (r = true ↔ histOk x m)) := by
  refine Ct.of (args := [_, _]) (F := fun J w => Im b 88 (x.c p0 k) J w ∧ RI p0 k x.hist J w) Tryz.func164 rfl rfl ⟨hI, hR⟩ fun hs => ?_
  refine sr (p 1 rfl (z ?_))
  refine sr (p 1 rfl (z ?_))
  refine C.seq ?_
  refine sr (p 3 rfl (l rfl hs.f.1.2 rfl (p 2 rfl (z ?_))))
  refine C.block ?_ -- BLOCK 0
  refine C.loop (fun n ρ w' => ∃ i : Nat, n = x.hist.length - i ∧ i ≤ x.hist.length ∧ (∀ y ∈ x.hist.take i, 0 ≤ y ∧ y ≤ 8192) ∧ (0 ≤ (x.hist.take i).sum ∧ (x.hist.take i).sum ≤ 8192 * i) ∧ ρ 0 = .pointer (some ⟨b, 0, none⟩) ∧ ρ 1 = .slice a m c ∧ ρ 5 = .int .i64 (x.hist.take i).sum ∧ ρ 11 = .slice p0 x.hist.length k ∧ ρ 12 = .int .i64 x.hist.length ∧ ρ 13 = .int .i64 i ∧ St N0 I w (up I w.heap.size) [] (fun J w => Im b 88 (x.c p0 k) J w ∧ RI p0 k x.hist J w) w') _ ⟨0, rfl, by omega, by simp, by simp, rfl, rfl, rfl, rfl, rfl, rfl, hs⟩ ?_
  rintro n ρ w1 ⟨i, hn, hi, hall, hsum, h0, h1, h5, h11, h12, h13, hs⟩
  refine C.nm 0 h0 (C.nm 1 h1 (C.nm 5 h5 (C.nm 11 h11 (C.nm 12 h12 (C.nm 13 h13 ?_)))))
  refine sr (p 1 rfl (z ?_))
  refine C.seq ?_
  refine C.cond_dec rfl (fun h2 => ?_) fun h2 => ?_ -- t14
  · have hx := List.getElem?_eq_getElem (show i < x.hist.length by omega)
    generalize x.hist[i] = y at hx
    refine C.skip ?_
    refine C.seq ?_
    refine C.block ?_ -- BLOCK 1
    refine sr (ixn i rfl hs.f.2 (by simp) (map_get hx) fun b9 off hat => l1 0 rfl hat rfl rfl (p 1 rfl (z ?_)))
    refine C.seq ?_
    refine src (fun ρ w' => ρ 0 = .pointer (some ⟨b, 0, none⟩) ∧ ρ 1 = .slice a m c ∧ ρ 5 = .int .i64 (x.hist.take i).sum ∧ ρ 7 = .int .i64 y ∧ ρ 11 = .slice p0 x.hist.length k ∧ ρ 12 = .int .i64 x.hist.length ∧ ρ 13 = .int .i64 i ∧ (∃ z, ρ 22 = .bool z ∧ (z = true ↔ ¬ (0 ≤ y ∧ y ≤ 8192))) ∧ St N0 I w (up I w.heap.size) [] (fun J w => Im b 88 (x.c p0 k) J w ∧ RI p0 k x.hist J w) w') ?_ ?_
    · refine p 3 rfl (gd 19 rfl (fun h3 => ?_) fun h3 => ?_)
      · exact p 3 rfl (z ⟨rfl, rfl, rfl, rfl, rfl, rfl, rfl, ⟨_, rfl, ifft (by omega)⟩, hs⟩)
      · exact p 3 rfl (z ⟨rfl, rfl, rfl, rfl, rfl, rfl, rfl, ⟨_, rfl, iffd (by omega)⟩, hs⟩)
    rintro ρ w' ⟨h0, h1, h5, h7, h11, h12, h13, ⟨z', hz, hzi⟩, hs⟩
    refine C.nm 0 h0 (C.nm 1 h1 (C.nm 5 h5 (C.nm 7 h7 (C.nm 11 h11 (C.nm 12 h12 (C.nm 13 h13 (C.nm 22 hz ?_)))))))
    refine C.cond rfl (fun h3 => ?_) fun h3 => ?_ -- t22
    · refine sr (p 1 rfl (z ?_))
      refine C.ret ?_
      exact e1 rfl rfl hs false rfl (ifff fun h => hzi.1 h3 (h.1 y (List.mem_of_getElem? hx)))
    · have hy : 0 ≤ y ∧ y ≤ 8192 := Classical.not_not.1 fun hn => by have := hzi.2 hn; rw [h3] at this; cases this
      have hst := sum_take x.hist i y hx
      refine C.skip ?_
      refine C.reg (p 2 rfl (an (x.hist.take (i + 1)).sum rfl hst.symm (by omega) (p 1 rfl (z ?_))))
      refine C.reg (Bo.a rfl (by omega) (p 1 rfl (z ?_)))
      refine ⟨_, by omega, i + 1, rfl, by omega, fun q hq => ?_, by omega, rfl, rfl, rfl, rfl, rfl, rfl, hs⟩
      rw [List.take_add_one, hx] at hq
      rcases List.mem_append.1 hq with hq | hq
      · exact hall q hq
      · simp at hq; rw [hq]; exact hy
  · have : i = x.hist.length := by omega
    subst this
    rw [List.take_length] at hall hsum
    refine C.exit ?_ -- EXIT 0
    refine src (fun ρ w' => (∃ r, ρ 4 = .bool r ∧ (r = true ↔ histOk x m)) ∧ ∃ F, St N0 I w (up I w.heap.size) [] F w') ?_ ?_
    · refine p 3 rfl (l rfl hs.f.1.2 rfl (p 3 rfl (an ((m + 1 : Nat) : Int) rfl (by simp) (by omega) (p 2 rfl (gd 36 rfl (fun h4 => ?_) fun h4 => ?_)))))
      · refine p 4 rfl (l rfl hs.f.1.2 rfl (p 3 rfl (z ⟨⟨_, rfl, iffd ?_⟩, _, hs⟩)))
        rw [List.take_length]
        exact ⟨fun h => ⟨hall, by omega, h⟩, fun h => h.2.2⟩
      · exact p 8 rfl (z ⟨⟨_, rfl, ifff fun h => h4 (by have := h.2.1; omega)⟩, _, hs⟩)
    rintro ρ w' ⟨⟨r, hr, hri⟩, F, hs⟩
    refine C.nm 4 hr ?_
    refine C.ret ?_
    exact e1 rfl rfl hs r rfl hri
end Bo
namespace Bo
open Go Go.Proofs Go.RowKit
theorem own_RI {w w' : World} {I : Nat → Prop} {v : Value} {xs : List Int} (h : w'.ownsRow w.heap.size 3 1 v xs.length (xs.map (Value.int .i64))) :
    ∃ a c, v = .slice a xs.length c ∧ RI a c xs (up I w.heap.size) w' := by
  rcases h.2 with ⟨rfl, h0⟩ | ⟨g, cap, cur, rfl, hg, hh, hnc, _, hcs, htk⟩
  · have : xs = [] := List.eq_nil_of_length_eq_zero h0
    subst this
    exact ⟨none, 0, rfl, Rc.nil _ _ _ _ _⟩
  · refine ⟨_, cap, rfl, by simpa using hnc, by simp [ic], fun hne => ⟨g, 0, rfl, .inr hg, (Array.getElem?_eq_some_iff.1 hh).1, fun i cs hi j v hj => ?_⟩⟩
    rw [List.getElem?_map] at hi
    obtain ⟨x, hx, rfl⟩ := Option.map_eq_some_iff.1 hi
    cases j with
    | succ j => simp [ic] at hj
    | zero =>
      simp only [ic, List.getElem?_cons_zero, Option.some.injEq] at hj
      subst hj
      have h1 : (xs.map (Value.int .i64))[i]? = some (.int .i64 x) := by simp [hx]
      rw [← htk, List.getElem?_take] at h1
      split at h1
      · simp only [World.cell?, hh, Nat.zero_add, Nat.mul_one, Nat.add_zero]
        simpa using h1
      · cases h1
theorem lib_CloneI {I : Nat → Prop} {w : World} {a : Option Addr} {c : Nat} (xs : List Int) (hR : RI a c xs I w) (hl : xs.length ≤ 1000000) :
    Ct Tryz.prog 148 #[.slice a xs.length c] I w (fun r : Option Addr × Nat => .slice r.1 xs.length r.2) (fun r => RI r.1 r.2 xs) := by
  have hk : CallOk Tryz.prog 148 := ⟨_, Tryz.func148, by kernel_rfl, by kernel_rfl⟩
  by_cases h0 : xs = []
  · subst h0
    cases a with
    | none =>
      refine ⟨hk, Calls.mono (Tryz.slices_Clone_int_nil 0 c w) ?_⟩
      rintro e w' ⟨he, rfl⟩
      exact ⟨_, he, (none, 0), rfl, below_self _, Rc.nil _ _ _ _ _⟩
    | some ad =>
      refine ⟨hk, Calls.mono (Tryz.slices_Clone_int_zero ad c w) ?_⟩
      rintro e w' ⟨v', he, ho, _, hb⟩
      obtain ⟨a1, c1, rfl, h⟩ := own_RI (I := I) (xs := []) ho
      exact ⟨_, he, (a1, c1), rfl, hb, h⟩
  · obtain ⟨b, o, rfl, _, hlt, hc⟩ := hR.2.2 (by simpa using h0)
    refine ⟨hk, Calls.mono (Tryz.slices_Clone_int b o xs.length c xs w (Nat.le_refl _) (by omega) (fun j hj => ?_)) ?_⟩
    · have hx := List.getElem?_eq_getElem hj
      have := hc j (ic xs[j]) (map_get hx) 0 _ rfl
      rw [List.getD_eq_getElem?_getD, hx]
      simpa using this
    · rintro e w' ⟨v', he, ho, _, hb⟩
      rw [List.take_length] at ho
      obtain ⟨a1, c1, rfl, h⟩ := own_RI (I := I) ho
      exact ⟨_, he, (a1, c1), rfl, hb, h⟩
theorem acc_Copy {I : Nat → Prop} {w : World} {p0 : Option Addr} {k : Nat} (x : Acc) (hR : RI p0 k x.hist I w) (hl : x.hist.length ≤ 1000000) :
    Ct Tryz.prog 116 #[.agg (x.c p0 k).toArray] I w (fun r : Option Addr × Nat => .agg (x.c r.1 r.2).toArray) (fun r => RI r.1 r.2 x.hist) := by
  refine Ct.of (args := [_]) (F := RI p0 k x.hist) Tryz.func116 rfl rfl hR fun hs => ?_
  refine sr (am hs rfl fun b1 w1 hs => am hs rfl fun b2 w1 hs => z ?_)
  refine sr (p 1 rfl (l rfl (hs.bk 1 rfl) rfl (Bo.c rfl hs (lib_CloneI x.hist hs.f hl) fun r w1 hs => p 1 rfl (sbx 1 (x.c r.1 r.2) hs rfl rfl rfl rfl fun J w1 hs => z ?_))))
  refine sr (ln (x.c r.1 r.2) rfl (hs.bk 1 rfl) rfl rfl (sbx 0 (x.c r.1 r.2) hs rfl rfl rfl rfl fun J w1 hs => z ?_))
  refine C.ret ?_
  exact f1 rfl rfl hs (hs.bk 0 rfl) rfl rfl rfl r rfl hs.f.1
end Bo
namespace Bo
open Go Go.Proofs
theorem eqF_int {P : Program} (w : World) (d : Nat) (k : IntKind) (xs ys : Array Value) (f : Field) (fs : List Field) (a b : Int) (hn : (f.name == "_") = false) (hu : P.underlying f.type = some (.int k)) (hx : xs[f.offset]? = some (.int k a)) (hy : ys[f.offset]? = some (.int k b)) :
    (Op.eqFields (d + 1) xs ys (f :: fs)).run P w = if a = b then (Op.eqFields (d + 1) xs ys fs).run P w else .ok false w := by
  have hn' : f.name ≠ "_" := by simpa using hn
  have hag : (Go.isAgg f.type).run P w = .ok false w := by simp [Go.isAgg, run_underlying hu]
  simp only [Op.eqFields, if_pos hn']
  simp [part, hag, hx, hy, run_equalIn_int w d f.type k k a b hu]
theorem item_eq (w : World) (a b : Item) : (Op.equalIn 10000 82 (.agg a.c.toArray) (.agg b.c.toArray)).run Tryz.prog w = .ok (decide (a = b)) w := by
  rw [run_equalIn_agg w 9999 82 a.c.toArray b.c.toArray (by kernel_rfl) (by kernel_rfl)]
  have hm : (Tryz.prog.fieldsOf 82).toList.map (fun f => (f.type, f.offset, f.name == "_")) = [(3, 0, false), (3, 1, false), (3, 2, false), (3, 3, false)] := by kernel_rfl
  generalize (Tryz.prog.fieldsOf 82).toList = fs at hm
  obtain ⟨f0, r0, rfl, ⟨t0, o0, n0⟩, hm⟩ : ∃ f r, fs = f :: r ∧ (f.type = 3 ∧ f.offset = 0 ∧ (f.name == "_") = false) ∧ r.map (fun f => (f.type, f.offset, f.name == "_")) = [(3, 1, false), (3, 2, false), (3, 3, false)] := by
    cases fs with
    | nil => simp at hm
    | cons f r => exact ⟨f, r, rfl, by simpa using (List.cons.inj hm).1, (List.cons.inj hm).2⟩
  obtain ⟨f1, r1, rfl, ⟨t1, o1, n1⟩, hm⟩ : ∃ f r, r0 = f :: r ∧ (f.type = 3 ∧ f.offset = 1 ∧ (f.name == "_") = false) ∧ r.map (fun f => (f.type, f.offset, f.name == "_")) = [(3, 2, false), (3, 3, false)] := by
    cases r0 with
    | nil => simp at hm
    | cons f r => exact ⟨f, r, rfl, by simpa using (List.cons.inj hm).1, (List.cons.inj hm).2⟩
  obtain ⟨f2, r2, rfl, ⟨t2, o2, n2⟩, hm⟩ : ∃ f r, r1 = f :: r ∧ (f.type = 3 ∧ f.offset = 2 ∧ (f.name == "_") = false) ∧ r.map (fun f => (f.type, f.offset, f.name == "_")) = [(3, 3, false)] := by
    cases r1 with
    | nil => simp at hm
    | cons f r => exact ⟨f, r, rfl, by simpa using (List.cons.inj hm).1, (List.cons.inj hm).2⟩
  obtain ⟨f3, r3, rfl, ⟨t3, o3, n3⟩, hm⟩ : ∃ f r, r2 = f :: r ∧ (f.type = 3 ∧ f.offset = 3 ∧ (f.name == "_") = false) ∧ r.map (fun f => (f.type, f.offset, f.name == "_")) = [] := by
    cases r2 with
    | nil => simp at hm
    | cons f r => exact ⟨f, r, rfl, by simpa using (List.cons.inj hm).1, (List.cons.inj hm).2⟩
  obtain rfl := List.map_eq_nil_iff.1 hm
  have hu := Tryz.underlying3
  rw [eqF_int w 9998 .i64 _ _ f0 _ a.series b.series n0 (t0 ▸ hu) (by rw [o0]; rfl) (by rw [o0]; rfl),
    eqF_int w 9998 .i64 _ _ f1 _ a.time b.time n1 (t1 ▸ hu) (by rw [o1]; rfl) (by rw [o1]; rfl),
    eqF_int w 9998 .i64 _ _ f2 _ a.seq b.seq n2 (t2 ▸ hu) (by rw [o2]; rfl) (by rw [o2]; rfl),
    eqF_int w 9998 .i64 _ _ f3 _ a.value b.value n3 (t3 ▸ hu) (by rw [o3]; rfl) (by rw [o3]; rfl)]
  cases a; cases b
  simp only [Item.mk.injEq, Op.eqFields, Sem.run_pure]
  repeat' split
  all_goals simp_all
section
variable {N : Nat} {ops : Array Oper} {o : Oper} {os : List Oper} {qs : Ob} {E : Nat → Prop} {K : Env → World → Prop} {ρ : Env} {w ws : World}
def eqq (ops : Array Oper) (ρ : Env) (o : Oper) : Option (TypeId × List Value × List Value) :=
  match wantE ops ρ o with
  | true => match o.op with
    | .binOp .eql T x y _ => match ev ρ x, ev ρ y with | .agg a, .agg b => some (T, a.toList, b.toList) | _, _ => none
    | _ => none
  | false => none
theorem eqq_run {a b : Item} (h : eqq ops ρ o = some (82, a.c, b.c)) (w : World) : wantE ops ρ o = true ∧ (execOp (ev ρ) o).run Tryz.prog w = .ok (.value (.bool (decide (a = b)))) w := by
  unfold eqq at h
  split at h <;> try (cases h; done)
  rename_i hw
  split at h <;> try (cases h; done)
  rename_i T x y T' ho
  split at h <;> try (cases h; done)
  rename_i a' b' hx hy
  simp only [Option.some.injEq, Prod.mk.injEq] at h
  obtain ⟨rfl, ha, hb⟩ := h
  have ha' : a' = a.c.toArray := by apply Array.ext'; simpa using ha
  have hb' : b' = b.c.toArray := by apply Array.ext'; simpa using hb
  subst ha' hb'
  refine ⟨hw, ?_⟩
  unfold execOp
  simp only [ho, hx, hy]
  rw [Sem.run_bind, Sem.run_bind, run_eqGuard_agg w .eql 82 x y _ _ (by kernel_rfl)]
  simp only [Result.andThen_ok]
  rw [run_eql_struct, item_eq]
  rfl
theorem deq {a b : Item} (h : eqq ops ρ o = some (82, a.c, b.c)) (k : Wa Tryz.prog N ops E ws qs K (updo N ρ o.dst (.bool (decide (a = b)))) w) : Wa Tryz.prog N ops E ws (.q o qs) K ρ w :=
  Wa.q (eqq_run h w).1 (fun _ w' _ => (eqq_run h w').2) k
theorem eqi {a b : Item} (h : eqq ops ρ o = some (82, a.c, b.c)) (k : Wl Tryz.prog N ops os K (updo N ρ o.dst (.bool (decide (a = b)))) w) : Wl Tryz.prog N ops (o :: os) K ρ w :=
  Wl.op (eqq_run h w).1 (OpR.val (eqq_run h w).2 k)
end
end Bo
namespace Bo
open Go Go.Proofs
def bareOk (x : Acc) : Prop := x.sum = 0 ∧ x.min = 0 ∧ x.max = 0 ∧ x.first = zeroI ∧ x.last = zeroI
theorem acc_bare {I : Nat → Prop} {w : World} {b k : Nat} {p0 : Option Addr} (x : Acc) (hI : Im b 88 (x.c p0 k) I w) :
    Ct Tryz.prog 165 #[.pointer (some ⟨b, 0, none⟩)] I w (fun r : Bool => .bool r) (fun r _ _ => (r = true ↔ bareOk x)) := by
  refine Ct.of (args := [_]) (F := Im b 88 (x.c p0 k)) Tryz.func165 rfl rfl hI fun hs => ?_
  refine sr (p 1 rfl (z ?_))
  refine sr (bd zeroI.c rfl (ais hs rfl (fun _ => rfl) rfl fun b3 J w1 hs => z ?_))
  refine sc (fun ρ w' => (∃ r, ρ 2 = .bool r ∧ (r = true ↔ bareOk x)) ∧ ∃ J F, St N0 I w J [] F w') ?_ ?_
  · refine dro N0 35 (List.range 35) hs fun w1 hs => ?_
    refine dp 3 rfl (dl rfl hs.f.2.2 rfl (dp 2 rfl (dgd 10 rfl (fun h1 => ?_) fun h1 => ?_)))
    · refine dp 3 rfl (dl rfl hs.f.2.2 rfl (dp 3 rfl (dgd 17 rfl (fun h2 => ?_) fun h2 => ?_)))
      · refine dp 3 rfl (dl rfl hs.f.2.2 rfl (dp 3 rfl (dgd 24 rfl (fun h3 => ?_) fun h3 => ?_)))
        · refine dp 3 rfl (dln x.first.c rfl hs.f.2.2 rfl rfl (dln zeroI.c rfl hs.im rfl rfl (deq rfl (dp 2 rfl (dgd 32 rfl (fun h4 => ?_) fun h4 => ?_)))))
          · refine dp 3 rfl (dln x.last.c rfl hs.f.2.2 rfl rfl (dln zeroI.c rfl hs.im rfl rfl (deq rfl (dp 1 rfl (dz (p 1 rfl (z ⟨⟨_, rfl, iffd ?_⟩, _, _, hs⟩)))))))
            exact ⟨fun h => ⟨h1, h2, h3, h4, h⟩, fun h => h.2.2.2.2⟩
          · exact dp 7 rfl (dz (p 1 rfl (z ⟨⟨_, rfl, ifff fun h => h4 h.2.2.2.1⟩, _, _, hs⟩)))
        · exact dp 15 rfl (dz (p 1 rfl (z ⟨⟨_, rfl, ifff fun h => h3 h.2.2.1⟩, _, _, hs⟩)))
      · exact dp 22 rfl (dz (p 1 rfl (z ⟨⟨_, rfl, ifff fun h => h2 h.2.1⟩, _, _, hs⟩)))
    · exact dp 29 rfl (dz (p 1 rfl (z ⟨⟨_, rfl, ifff fun h => h1 h.1⟩, _, _, hs⟩)))
  rintro ρ w2 ⟨⟨r, hr, hri⟩, J, F, hs⟩
  refine C.nm 2 hr ?_
  refine C.ret ?_
  exact e1 rfl rfl hs r rfl hri
end Bo
namespace Bo
open Go Go.Proofs
def inMM (x : Acc) (y : Item) : Prop := y.ok ∧ x.min ≤ y.value ∧ y.value ≤ x.max
def endsOk (x : Acc) : Prop := (∀ y ∈ [x.first, x.last], inMM x y) ∧ x.first.series = x.last.series ∧ ordI x.first x.last ≤ 0
theorem acc_ends {I : Nat → Prop} {w : World} {b k : Nat} {p0 : Option Addr} (x : Acc) (hI : Im b 88 (x.c p0 k) I w) :
    Ct Tryz.prog 166 #[.pointer (some ⟨b, 0, none⟩)] I w (fun r : Bool => .bool r) (fun r _ _ => (r = true ↔ endsOk x)) := by
  refine Ct.of (args := [_]) (F := Im b 88 (x.c p0 k)) Tryz.func166 rfl rfl hI fun hs => ?_
  refine sr (p 1 rfl (z ?_))
  refine C.seq ?_
  refine C.seq ?_
  refine dro N0 11 [0, 1, 2, 3, 4, 5, 6, 7, 10, 508, 9] hs fun w1 hs => dp 3 rfl (dln x.first.c rfl hs.f.2 rfl rfl (dp 3 rfl (dln x.last.c rfl hs.f.2 rfl rfl (dp 1 rfl (dbs ([x.first, x.last].map Item.c) hs rfl fun a w1 hs => dp 1 rfl (dz (z ?_)))))))
  refine C.block ?_ -- BLOCK 0
  refine C.loop (fun n ρ w' => ∃ (i : Nat) (J : Nat → Prop), n = 2 - i ∧ i ≤ 2 ∧ (∀ y ∈ [x.first, x.last].take i, inMM x y) ∧ ρ 0 = .pointer (some ⟨b, 0, none⟩) ∧ ρ 13 = .slice a 2 2 ∧ ρ 14 = .int .i64 2 ∧ ρ 15 = .int .i64 i ∧ St N0 I w J [] (fun J w => Rc 4 a 2 ([x.first, x.last].map Item.c) J w ∧ Im b 88 (x.c p0 k) J w) w') _ ⟨0, _, rfl, by omega, by simp, rfl, rfl, rfl, rfl, hs⟩ ?_
  rintro n ρ w2 ⟨i, J, hn, hi, hall, h0, h13, h14, h15, hs⟩
  refine C.nm 0 h0 (C.nm 13 h13 (C.nm 14 h14 (C.nm 15 h15 ?_)))
  refine sr (p 1 rfl (z ?_))
  refine C.seq ?_
  refine C.cond_dec rfl (fun h1 => ?_) fun h1 => ?_ -- t16
  · obtain ⟨y, hy⟩ : ∃ y, [x.first, x.last][i]? = some y := ⟨_, List.getElem?_eq_getElem (by simp; omega)⟩
    refine C.skip ?_
    refine C.seq ?_
    refine C.block ?_ -- BLOCK 1
    refine sr (ixn i rfl hs.f.1 rfl (map_get hy) fun b9 off hat => la rfl hat rfl (ais hs rfl (fun _ => rfl) rfl fun b4 J w3 hs => z ?_))
    refine sc (fun ρ w' => ρ 0 = .pointer (some ⟨b, 0, none⟩) ∧ ρ 13 = .slice a 2 2 ∧ ρ 14 = .int .i64 2 ∧ ρ 15 = .int .i64 i ∧ (∃ r, ρ 39 = .bool r ∧ (r = true ↔ ¬ inMM x y)) ∧ ∃ J, St N0 I w J [] (fun J w => Rc 4 a 2 ([x.first, x.last].map Item.c) J w ∧ Im b 88 (x.c p0 k) J w) w') ?_ ?_
    · refine dro N0 21 [0, 501, 2, 3, 4, 5, 6, 7, 8, 9, 10, 11, 12, 13, 14, 15, 16, 17, 18, 19, 20] hs fun w4 hs4 => ?_
      refine dln y.c rfl hs4.im rfl rfl (dc0 rfl hs4 (acc_ItemMay y) fun w5 hs => dp 2 rfl (dgs 22 rfl (fun h2 => ?_) fun h2 => ?_))
      · have h2 : ¬ y.ok := by simpa using h2
        exact dp 17 rfl (dz (z ⟨rfl, rfl, rfl, rfl, ⟨_, rfl, ifft fun h => h2 h.1⟩, _, hs.to fun h => h.2⟩))
      · have h2 : y.ok := by simpa using h2
        refine dp 1 rfl (dl rfl hs4.im rfl (dp 3 rfl (dl rfl hs4.f.2.2.2 rfl (dp 3 rfl (dgd 31 rfl (fun h3 => ?_) fun h3 => ?_)))))
        · exact dp 8 rfl (dz (z ⟨rfl, rfl, rfl, rfl, ⟨_, rfl, ifft fun h => by have := h.2.1; omega⟩, _, hs.to fun h => h.2⟩))
        · refine dp 1 rfl (dl rfl hs4.im rfl (dp 3 rfl (dl rfl hs4.f.2.2.2 rfl (dp 2 rfl (dz (z ⟨rfl, rfl, rfl, rfl, ⟨_, rfl, iffd ?_⟩, _, hs.to fun h => h.2⟩))))))
          exact ⟨fun h h' => by have := h'.2.2; omega, fun h => Classical.byContradiction fun h' => h ⟨h2, by omega, by omega⟩⟩
    rintro ρ w' ⟨h0, h13, h14, h15, ⟨r, hr, hri⟩, J2, hs⟩
    refine C.nm 0 h0 (C.nm 13 h13 (C.nm 14 h14 (C.nm 15 h15 (C.nm 39 hr ?_))))
    refine C.cond rfl (fun h4 => ?_) fun h4 => ?_ -- t39
    · refine sr (p 1 rfl (z ?_))
      refine C.ret ?_
      exact e1 rfl rfl hs false rfl (ifff fun h => hri.1 h4 (h.1 y (List.mem_of_getElem? hy)))
    · have hin : inMM x y := Classical.not_not.1 fun hn => by have := hri.2 hn; rw [h4] at this; cases this
      refine C.skip ?_
      refine C.reg (Bo.a rfl (by omega) (p 1 rfl (z ?_)))
      refine ⟨_, by omega, i + 1, J2, rfl, by omega, fun q hq => ?_, rfl, rfl, rfl, rfl, hs⟩
      rw [List.take_add_one, hy] at hq
      rcases List.mem_append.1 hq with hq | hq
      · exact hall q hq
      · simp at hq; rw [hq]; exact hin
  · have : i = 2 := by omega
    subst this
    refine C.exit ?_ -- EXIT 0
    refine sc (fun ρ w' => (∃ r, ρ 2 = .bool r ∧ (r = true ↔ endsOk x)) ∧ ∃ J F, St N0 I w J [] F w') ?_ ?_
    · refine dro N0 23 [0, 1, 2, 3, 4, 5, 6, 7, 8, 9, 10, 11, 12, 13, 14, 15, 16, 17, 18, 19, 520, 21, 22] hs fun w4 hs => ?_
      refine dp 4 rfl (dl rfl hs.f.2.2 rfl (dp 4 rfl (dl rfl hs.f.2.2 rfl (dp 2 rfl (dgd 52 rfl (fun h5 => ?_) fun h5 => ?_)))))
      · refine dp 3 rfl (dln x.first.c rfl hs.f.2.2 rfl rfl (dp 3 rfl (dln x.last.c rfl hs.f.2.2 rfl rfl (dc0 rfl hs (acc_Order x.first x.last) fun w hs => dp 2 rfl (dz (p 1 rfl (z ⟨⟨_, rfl, iffd ?_⟩, _, _, hs⟩)))))))
        exact ⟨fun h => ⟨fun y hy => hall y hy, h5, h⟩, fun h => h.2.2⟩
      · exact dp 11 rfl (dz (p 1 rfl (z ⟨⟨_, rfl, ifff fun h => h5 h.2.1⟩, _, _, hs⟩)))
    rintro ρ w' ⟨⟨r, hr, hri⟩, J, F, hs⟩
    refine C.nm 2 hr ?_
    refine C.ret ?_
    exact e1 rfl rfl hs r rfl hri
end Bo
namespace Bo
open Go Go.Proofs
theorem mul_bd {c m : Int} (C M : Int) (h0 : 0 ≤ c) (hc : c ≤ C) (hM : 0 ≤ M) (hm : -M ≤ m ∧ m ≤ M) : -(C * M) ≤ c * m ∧ c * m ≤ C * M := by
  have h1 := Int.mul_le_mul_of_nonneg_left hm.2 h0
  have h2 := Int.mul_le_mul_of_nonneg_left hm.1 h0
  have h3 := Int.mul_le_mul_of_nonneg_right hc hM
  rw [Int.mul_neg] at h2
  omega
def mayA1 (x : Acc) (m : Nat) : Prop := x.hist.length ≤ m + 1 ∧ histOk x m ∧ 0 ≤ x.count ∧ x.count ≤ 8192
def mayA2 (x : Acc) : Prop := (-1099511627776 ≤ x.min ∧ x.min ≤ 1099511627776) ∧ (-1099511627776 ≤ x.max ∧ x.max ≤ 1099511627776) ∧ x.min ≤ x.max ∧ endsOk x ∧ x.count * x.min ≤ x.sum ∧ x.sum ≤ x.count * x.max
def mayA (x : Acc) (bs : List Int) : Prop := (bdOk bs ∧ mayA1 x bs.length) ∧ ((x.count = 0 ∧ bareOk x) ∨ (x.count ≠ 0 ∧ mayA2 x))
theorem acc_May {I : Nat → Prop} {w : World} {k c : Nat} {p0 a : Option Addr} (x : Acc) (bs : List Int) (hX : RI p0 k x.hist I w) (hB : RI a c bs I w) (hlx : x.hist.length ≤ 140737488355328) :
    Ct Tryz.prog 147 #[.agg (x.c p0 k).toArray, .slice a bs.length c] I w (fun r : Bool => .bool r) (fun r _ _ => (r = true ↔ mayA x bs)) := by
  refine Ct.of (args := [_, _]) (F := fun J w => RI p0 k x.hist J w ∧ RI a c bs J w) Tryz.func147 rfl rfl ⟨hX, hB⟩ fun hs => ?_
  refine sr (ai hs rfl fun b2 w1 hs => p 1 rfl (z ?_))
  refine C.seq ?_
  refine C.block ?_ -- BLOCK 0
  refine src (fun ρ w' => ρ 2 = .pointer (some ⟨b2, 0, none⟩) ∧ (∃ r, ρ 5 = .bool r ∧ (r = true ↔ ¬ (bdOk bs ∧ mayA1 x bs.length))) ∧ St N0 I w (up I w.heap.size) [] (fun J w => Im b2 88 (x.c p0 k) J w ∧ RI p0 k x.hist J w ∧ RI a c bs J w) w') ?_ ?_
  · refine p 1 rfl (Bo.c rfl hs (acc_BoundsMay bs hs.f.2.2) fun y w2 hs => p 2 rfl (gs 9 rfl (fun h1 => ?_) fun h1 => ?_))
    · have h1 : y = false := by simpa using h1
      have := hs.f.1
      exact p 24 rfl (z ⟨rfl, ⟨_, rfl, ifft fun h => by have := this.2 h.1; rw [h1] at this; cases this⟩, hs.to fun h => h.2⟩)
    · have h1 : y = true := by simpa using h1
      have hbo := hs.f.1.1 h1
      have hbl : bs.length ≤ 8 := hbo.1
      refine p 1 rfl (l rfl hs.f.2.1.2 rfl (p 3 rfl (Bo.a rfl (by omega) (p 3 rfl (gd 18 rfl (fun h2 => ?_) fun h2 => ?_)))))
      · exact p 15 rfl (z ⟨rfl, ⟨_, rfl, ifft fun h => by have := h.2.1; omega⟩, hs.to fun h => h.2⟩)
      · refine p 1 rfl (Bo.c rfl hs (acc_hist x bs.length hs.f.2.1 hs.f.2.2.1 (by omega) (by omega)) fun q w2 hs => p 3 rfl (gs 23 rfl (fun h3 => ?_) fun h3 => ?_))
        · have h3 : q = false := by simpa using h3
          have := hs.f.1
          exact p 10 rfl (z ⟨rfl, ⟨_, rfl, ifft fun h => by have := this.2 h.2.2.1; rw [h3] at this; cases this⟩, hs.to fun h => h.2.2⟩)
        · have h3 : q = true := by simpa using h3
          have hho := hs.f.1.1 h3
          refine p 1 rfl (l rfl hs.f.2.2.1.2 rfl (p 3 rfl (gd 28 rfl (fun h4 => ?_) fun h4 => ?_)))
          · exact p 5 rfl (z ⟨rfl, ⟨_, rfl, ifft fun h => by have := h.2.2.2.1; omega⟩, hs.to fun h => h.2.2⟩)
          · refine p 1 rfl (l rfl hs.f.2.2.1.2 rfl (p 3 rfl (z ⟨rfl, ⟨_, rfl, iffd ?_⟩, hs.to fun h => h.2.2⟩)))
            exact ⟨fun h h' => by have := h'.2.2.2.2; omega, fun h => Classical.byContradiction fun h' => h ⟨hbo, by omega, hho, by omega, by omega⟩⟩
  rintro ρ w' ⟨h2, ⟨r, hr, hri⟩, hs⟩
  refine C.nm 2 h2 (C.nm 5 hr ?_)
  refine C.cond rfl (fun h5 => ?_) fun h5 => ?_ -- t5
  · refine sr (p 1 rfl (z ?_))
    refine C.ret ?_
    exact e1 rfl rfl hs false rfl (ifff fun h => hri.1 h5 h.1)
  · have hp : bdOk bs ∧ mayA1 x bs.length := Classical.not_not.1 fun hn => by have := hri.2 hn; rw [h5] at this; cases this
    have hcn := hp.2.2.2
    refine sr (p 1 rfl (l rfl hs.f.1.2 rfl (p 2 rfl (z ?_))))
    refine C.cond_dec rfl (fun h6 => ?_) fun h6 => ?_ -- t33
    · refine sr (Bo.c rfl hs (acc_bare x hs.f.1) fun q w2 hs => p 1 rfl (z ?_))
      refine C.ret ?_
      have := hs.f.1
      exact e1 rfl rfl hs q rfl ⟨fun h => ⟨hp, .inl ⟨h6, this.1 h⟩⟩, fun h => this.2 (h.2.resolve_right fun h' => h'.1 h6).2⟩
    · refine C.skip ?_
      have key : ∀ {P : Prop}, (P ↔ mayA2 x) → (P ↔ mayA x bs) := fun h => ⟨fun h' => ⟨hp, .inr ⟨h6, h.1 h'⟩⟩, fun h' => h.2 (h'.2.resolve_left fun h'' => h6 h''.1).2⟩
      refine src (fun ρ w' => (∃ r, ρ 4 = .bool r ∧ (r = true ↔ mayA2 x)) ∧ ∃ F, St N0 I w (up I w.heap.size) [] F w') ?_ ?_
      · refine p 1 rfl (l rfl hs.f.1.2 rfl (c0 rfl hs (acc_within _ _ (by omega)) fun w3 hs => p 1 rfl (gd 41 rfl (fun h7 => ?_) fun h7 => ?_)))
        · refine p 1 rfl (l rfl hs.f.1.2 rfl (c0 rfl hs (acc_within _ _ (by omega)) fun w3 hs => p 2 rfl (gd 46 rfl (fun h8 => ?_) fun h8 => ?_)))
          · refine p 1 rfl (l rfl hs.f.1.2 rfl (p 1 rfl (l rfl hs.f.1.2 rfl (p 3 rfl (gd 53 rfl (fun h9 => ?_) fun h9 => ?_)))))
            · refine Bo.c rfl hs (acc_ends x hs.f.1) fun q w3 hs => p 2 rfl (gs 56 rfl (fun h10 => ?_) fun h10 => ?_)
              · have he := hs.f.1.1 h10
                have hm1 := mul_bd (m := x.min) 8192 1099511627776 hcn.1 hcn.2 (by omega) (by omega)
                have hm2 := mul_bd (m := x.max) 8192 1099511627776 hcn.1 hcn.2 (by omega) (by omega)
                refine p 1 rfl (l rfl hs.f.2.1.2 rfl (p 1 rfl (l rfl hs.f.2.1.2 rfl (p 1 rfl (l rfl hs.f.2.1.2 rfl (Bo.a rfl (by omega) (p 3 rfl (gd 66 rfl (fun h11 => ?_) fun h11 => ?_))))))))
                · refine p 1 rfl (l rfl hs.f.2.1.2 rfl (p 1 rfl (l rfl hs.f.2.1.2 rfl (p 1 rfl (l rfl hs.f.2.1.2 rfl (Bo.a rfl (by omega) (p 3 rfl (z ⟨⟨_, rfl, iffd ?_⟩, _, hs⟩))))))))
                  exact ⟨fun h => ⟨h7, h8, h9, he, h11, h⟩, fun h => h.2.2.2.2.2⟩
                · exact p 10 rfl (z ⟨⟨_, rfl, ifff fun h => h11 h.2.2.2.2.1⟩, _, hs⟩)
              · have := hs.f.1
                exact p 20 rfl (z ⟨⟨_, rfl, ifff fun h => by have := this.2 h.2.2.2.1; rw [h10] at this; cases this⟩, _, hs⟩)
            · exact p 23 rfl (z ⟨⟨_, rfl, ifff fun h => h9 h.2.2.1⟩, _, hs⟩)
          · exact p 30 rfl (z ⟨⟨_, rfl, ifff fun h => h8 h.2.1⟩, _, hs⟩)
        · exact p 35 rfl (z ⟨⟨_, rfl, ifff fun h => h7 h.1⟩, _, hs⟩)
      rintro ρ w' ⟨⟨r, hr, hri⟩, F, hs⟩
      refine C.nm 4 hr ?_
      refine C.ret ?_
      exact e1 rfl rfl hs r rfl (key hri)
end Bo
namespace Bo
open Go Go.Proofs
/-- What is known of some items, as it lies: where its buckets lie. -/
structure AM where
  a : Acc
  p : Option Addr
  k : Nat
def AM.c (x : AM) : List Value := x.a.c x.p x.k
def RAcc (a : Option Addr) (c : Nat) (xs : List AM) : Pf := fun J w => Rc 13 a c (xs.map AM.c) J w ∧ ∀ x, x ∈ xs → RI x.p x.k x.a.hist J w
instance (a : Option Addr) (c : Nat) (xs : List AM) : Stab (RAcc a c xs) := Stab.and _ _
def nextS (s : Int) (x : AM) : Int := if 0 < x.a.count then x.a.first.series else s
def okS (bs : List Int) (s : Int) (x : AM) : Prop := mayA x.a bs ∧ (0 < x.a.count → 0 ≤ s → x.a.first.series = s)
def allF (bs : List Int) : Int → List AM → Prop
  | _, [] => True
  | s, x :: xs => okS bs s x ∧ allF bs (nextS s x) xs
theorem acc_allMay {I : Nat → Prop} {w : World} {a a' : Option Addr} {c c' : Nat} (bs : List Int) (xs : List AM) (hB : RI a c bs I w) (hX : RAcc a' c' xs I w) (hl : xs.length ≤ 1000000) (hh : ∀ x ∈ xs, x.a.hist.length ≤ 140737488355328) :
    Ct Tryz.prog 168 #[.slice a bs.length c, .slice a' xs.length c'] I w (fun r : Bool => .bool r) (fun r _ _ => (r = true ↔ allF bs (-1) xs ∧ bdOk bs)) := by
  refine Ct.of (args := [_, _]) (F := fun J w => RI a c bs J w ∧ RAcc a' c' xs J w) Tryz.func168 rfl rfl ⟨hB, hX⟩ fun hs => ?_
  refine sr (p 1 rfl (z ?_))
  refine sr (p 1 rfl (z ?_))
  refine C.seq ?_
  refine sr (p 3 rfl (z ?_))
  refine C.block ?_ -- BLOCK 0
  refine C.loop (fun n ρ w' => ∃ (i : Nat) (s : Int) (J : Nat → Prop), n = xs.length - i ∧ i ≤ xs.length ∧ (allF bs s (xs.drop i) ↔ allF bs (-1) xs) ∧ ρ 0 = .slice a bs.length c ∧ ρ 5 = .int .i64 s ∧ ρ 8 = .slice a' xs.length c' ∧ ρ 9 = .int .i64 xs.length ∧ ρ 10 = .int .i64 i ∧ St N0 I w J [] (fun J w => RI a c bs J w ∧ RAcc a' c' xs J w) w') _ ⟨0, -1, _, rfl, by omega, .rfl, rfl, rfl, rfl, rfl, rfl, hs⟩ ?_
  rintro n ρ w2 ⟨i, s, J, hn, hi, hiff, h0, h5, h8, h9, h10, hs⟩
  refine C.nm 0 h0 (C.nm 5 h5 (C.nm 8 h8 (C.nm 9 h9 (C.nm 10 h10 ?_))))
  refine sr (p 1 rfl (z ?_))
  refine C.seq ?_
  refine C.cond_dec rfl (fun h2 => ?_) fun h2 => ?_ -- t11
  · have hx := List.getElem?_eq_getElem (show i < xs.length by omega)
    have hd := List.drop_eq_getElem_cons (show i < xs.length by omega)
    generalize xs[i] = x at hx hd
    have hxm := List.mem_of_getElem? hx
    rw [hd] at hiff
    refine C.skip ?_
    refine C.seq ?_
    refine C.block ?_ -- BLOCK 1
    refine sr (ixn i rfl hs.f.2.1 (by simp) (map_get hx) fun b off hat => la rfl hat rfl (ais hs rfl (fun _ => rfl) rfl fun b7 J w3 hs => z ?_))
    refine C.seq ?_
    refine src (fun ρ w' => ρ 0 = .slice a bs.length c ∧ ρ 5 = .int .i64 s ∧ ρ 7 = .pointer (some ⟨b7, 0, none⟩) ∧ ρ 8 = .slice a' xs.length c' ∧ ρ 9 = .int .i64 xs.length ∧ ρ 10 = .int .i64 i ∧ (∃ r, ρ 33 = .bool r ∧ (r = true ↔ ¬ okS bs s x)) ∧ ∃ J, St N0 I w J [] (fun J w => Im b7 88 x.c J w ∧ RI a c bs J w ∧ RAcc a' c' xs J w) w') ?_ ?_
    · refine ln x.c rfl hs.im rfl rfl (p 1 rfl (Bo.c rfl hs (acc_May x.a bs (hs.f.2.2.2 x hxm) hs.f.2.1 (hh x hxm)) fun y w9 hs => p 2 rfl (gs 18 rfl (fun h3 => ?_) fun h3 => ?_)))
      · have h3 : y = false := by simpa using h3
        have := hs.f.1
        exact p 15 rfl (z ⟨rfl, rfl, rfl, rfl, rfl, rfl, ⟨_, rfl, ifft fun h => by have := this.2 h.1; rw [h3] at this; cases this⟩, _, hs.to fun h => h.2⟩)
      · have h3 : y = true := by simpa using h3
        have hm := hs.f.1.1 h3
        refine p 1 rfl (l rfl hs.f.2.1.2 rfl (p 2 rfl (gd 22 rfl (fun h4 => ?_) fun h4 => ?_)))
        · refine p 4 rfl (gd 26 rfl (fun h6 => ?_) fun h6 => ?_)
          · refine p 2 rfl (l rfl hs.f.2.1.2 rfl (p 4 rfl (z ⟨rfl, rfl, rfl, rfl, rfl, rfl, ⟨_, rfl, iffd ?_⟩, _, hs.to fun h => h.2⟩)))
            exact ⟨fun h h' => h (h'.2 h4 h6), fun h h' => h ⟨hm, fun _ _ => h'⟩⟩
          · exact p 7 rfl (z ⟨rfl, rfl, rfl, rfl, rfl, rfl, ⟨_, rfl, ifff fun h => h ⟨hm, fun _ h' => absurd h' (by omega)⟩⟩, _, hs.to fun h => h.2⟩)
        · exact p 11 rfl (z ⟨rfl, rfl, rfl, rfl, rfl, rfl, ⟨_, rfl, ifff fun h => h ⟨hm, fun h' => absurd h' (by omega)⟩⟩, _, hs.to fun h => h.2⟩)
    rintro ρ w' ⟨h0, h5, h7, h8, h9, h10, ⟨r, hr, hri⟩, J2, hs⟩
    refine C.nm 0 h0 (C.nm 5 h5 (C.nm 7 h7 (C.nm 8 h8 (C.nm 9 h9 (C.nm 10 h10 (C.nm 33 hr ?_))))))
    refine C.cond rfl (fun h6 => ?_) fun h6 => ?_ -- t33
    · refine sr (p 1 rfl (z ?_))
      refine C.ret ?_
      exact e1 rfl rfl hs false rfl (ifff fun h => hri.1 h6 (hiff.2 h.1).1)
    · have hok : okS bs s x := Classical.not_not.1 fun hn => by have := hri.2 hn; rw [h6] at this; cases this
      have hiff2 : allF bs (nextS s x) (xs.drop (i + 1)) ↔ allF bs (-1) xs := ⟨fun h => hiff.1 ⟨hok, h⟩, fun h => (hiff.2 h).2⟩
      refine C.skip ?_
      refine sr (p 1 rfl (l rfl hs.im rfl (p 1 rfl (z ?_))))
      refine C.cond_dec rfl (fun h7 => ?_) fun h7 => ?_ -- t36
      · have e : nextS s x = x.a.first.series := if_pos h7
        rw [e] at hiff2
        refine C.reg (p 2 rfl (l rfl hs.im rfl (p 1 rfl (z ?_))))
        refine C.reg (Bo.a rfl (by omega) (p 1 rfl (z ?_)))
        exact ⟨_, by omega, i + 1, _, J2, rfl, by omega, hiff2, rfl, rfl, rfl, rfl, rfl, hs.to fun h => h.2⟩
      · have e : nextS s x = s := if_neg h7
        rw [e] at hiff2
        refine C.skip ?_
        refine C.reg (Bo.a rfl (by omega) (p 1 rfl (z ?_)))
        exact ⟨_, by omega, i + 1, _, J2, rfl, by omega, hiff2, rfl, rfl, rfl, rfl, rfl, hs.to fun h => h.2⟩
  · rw [List.drop_of_length_le (by omega)] at hiff
    refine C.exit ?_ -- EXIT 0
    refine sr (p 1 rfl (Bo.c rfl hs (acc_BoundsMay bs hs.f.1) fun y w2 hs => p 1 rfl (z ?_)))
    refine C.ret ?_
    have := hs.f.1
    exact e1 rfl rfl hs y rfl ⟨fun h => ⟨hiff.1 trivial, this.1 h⟩, fun h => this.2 h.2⟩
end Bo
namespace Bo
open Go Go.Proofs
def Tr.qs (l : List Nat) (t : Tr) : Tr := l.foldr Tr.q t
section
variable {P : Program} [lc : LC P] {N : Nat} {ops : Array Oper} {o o' : Oper} {qs qs2 : Ob} {E : Nat → Prop} {K : Env → World → Prop} {ρ : Env} {w ws : World}
/-- Two that only read, each with a row of its own behind it. -/
theorem dra {v v' : Value} (h1 : wantE ops ρ o = true ∧ (execOp (ev ρ) o).run P w = .ok (.value v) w) (h2 : wantE ops ρ o' = true ∧ (execOp (ev ρ) o').run P w = .ok (.value v') w)
    (k1 : Wa P N ops E ws qs K (updo N ρ o.dst v) w) (k2 : Wa P N ops E ws qs2 K (updo N ρ o'.dst v') w) : Wa P N ops E ws (.a o qs o' qs2) K ρ w := by
  intro hn hS
  exact Wa.a h1.1 h2.1 (OpR.val h1.2 ⟨hS, k1⟩) (OpR.val h2.2 ⟨hS, k2⟩) hn hS
/-- One alone that only reads. -/
theorem dre {v : Value} (h1 : wantE ops ρ o = true ∧ (execOp (ev ρ) o).run P w = .ok (.value v) w)
    (k1 : Wa P N ops E ws qs K (updo N ρ o.dst v) w) : Wa P N ops E ws (.e o qs) K ρ w := by
  intro hn hS
  exact Wa.e h1.1 (OpR.val h1.2 ⟨hS, k1⟩) hn hS
end
theorem At.sub {b off i n : Nat} {cs : List Value} {J : Nat → Prop} {w : World} (h : At b off cs J w) (cs' : List Value) (e : (cs.drop i).take n = cs') : At b (off + i) cs' J w :=
  ⟨h.1, h.2.1, fun j v hj => by
    rw [Nat.add_assoc]
    refine h.2.2 _ v ?_
    rw [← e, List.getElem?_take] at hj
    split at hj
    · rwa [List.getElem?_drop] at hj
    · cases hj⟩
def startA (o x : Acc) : Acc := if o.count = 0 then { o with min := x.min, max := x.max, first := x.first, last := x.last } else o
def mergeF (o x : Item) : Item := if ordI x o < 0 then x else o
def mergeL (o x : Item) : Item := if 0 ≤ ordI x o then x else o
def addA (o x : Acc) : Acc :=
  ⟨o.count + x.count, o.sum + x.sum, if x.min < (startA o x).min then x.min else (startA o x).min, if (startA o x).max < x.max then x.max else (startA o x).max, mergeF (startA o x).first x.first, mergeL (startA o x).last x.last, List.zipWith (· + ·) o.hist x.hist⟩
def accM (ob g c : Nat) (o : Acc) (hs : List Int) : List Rs := [.blk ob 88 (o.c (some ⟨g, 0, none⟩) c), .own (some ⟨g, 0, none⟩) c 3 1 (hs.map ic)]
def addS (I : Nat → Prop) (w0 : World) (D : Nat → Prop) (ob g c b off k : Nat) (pa : Option Addr) (x o : Acc) (ys : List Int) : Env → World → Prop := fun ρ w' =>
  ρ 0 = .pointer (some ⟨ob, 0, none⟩) ∧ ρ 1 = .pointer (some ⟨b, off, none⟩) ∧ ∃ J, St D I w0 J (accM ob g c o ys) (fun J w => At b off (x.c pa k) J w ∧ RI pa k x.hist J w) w'
theorem addS.ne {I D J : Nat → Prop} {w0 w : World} {ob g c b off k : Nat} {pa : Option Addr} {x o : Acc} {ys : List Int} (hs : St D I w0 J (accM ob g c o ys) (fun J w => At b off (x.c pa k) J w ∧ RI pa k x.hist J w) w) : b ≠ ob := by
  intro e
  have := ((hs.m _ (List.mem_of_getElem? (i := 0) rfl)).2 ob rfl).2
  exact this (e ▸ hs.f.1.1)
theorem acc_add {I : Nat → Prop} {w : World} {ob g c b off k : Nat} {pa : Option Addr} (o x : Acc) (hM : Ms I (accM ob g c o o.hist) w) (hA : At b off (x.c pa k) I w) (hX : RI pa k x.hist I w) (hlen : x.hist.length = o.hist.length) (hl : o.hist.length ≤ 1000000)
    (hc1 : 0 ≤ o.count ∧ o.count ≤ 1000000) (hc2 : 0 ≤ x.count ∧ x.count ≤ 1000000) (hs1 : -1152921504606846976 ≤ o.sum ∧ o.sum ≤ 1152921504606846976) (hs2 : -1152921504606846976 ≤ x.sum ∧ x.sum ≤ 1152921504606846976)
    (hh1 : ∀ y ∈ o.hist, 0 ≤ y ∧ y ≤ 1000000000000) (hh2 : ∀ y ∈ x.hist, 0 ≤ y ∧ y ≤ 1000000000000) :
    Cm Tryz.prog 169 #[.pointer (some ⟨ob, 0, none⟩), .pointer (some ⟨b, off, none⟩)] I w (accM ob g c o o.hist) (fun _ : Unit => .tuple #[]) (fun _ => accM ob g c (addA o x) (addA o x).hist) (fun _ _ _ => True) := by
  refine Cm.of (args := [_, _]) (F := fun J w => At b off (x.c pa k) J w ∧ RI pa k x.hist J w) Tryz.func169 rfl rfl hM ⟨hA, hX⟩ fun hs => ?_
  generalize fpD (accM ob g c o o.hist) = D at hs
  have hst : (startA o x).count = o.count ∧ (startA o x).sum = o.sum ∧ (startA o x).hist = o.hist := by unfold startA; split <;> exact ⟨rfl, rfl, rfl⟩
  refine sc (addS I w D ob g c b off k pa x (startA o x) o.hist) ?_ ?_
  · refine sr (p 3 rfl (l rfl (hs.bk 0 rfl) rfl (p 1 rfl (z ?_))))
    refine C.cond_dec rfl (fun h1 => ?_) fun h1 => ?_ -- t10
    · have e : startA o x = { o with min := x.min, max := x.max, first := x.first, last := x.last } := if_pos h1
      rw [e]
      refine dro (fun q => q = ob) 29 [0, 1, 2, 3, 4, 5, 6, 7, 8, 9, 10, 11, 12, 13, 14, 15, 16, 17, 18, 19, 20, 21, 522, 23, 24, 525, 26, 27, 528] hs fun w1 hs => ?_
      have hne := addS.ne hs
      refine dp 7 rfl (dl1 2 rfl hs.f.1 rfl rfl (he := hne) (dp 3 rfl (dl1 3 rfl hs.f.1 rfl rfl (he := hne) (dp 3 rfl (dla rfl (hs.f.1.sub (n := 4) x.first.c rfl) rfl (he := hne) (dp 3 rfl (dla rfl (hs.f.1.sub (n := 4) x.last.c rfl) rfl (he := hne) (dp 2 rfl ?_))))))))
      refine dsb 0 ({ o with min := x.min }.c (some ⟨g, 0, none⟩) c) hs rfl rfl rfl rfl rfl fun J w1 hs => dp 2 rfl ?_
      refine dsb 0 ({ o with min := x.min, max := x.max }.c (some ⟨g, 0, none⟩) c) hs rfl rfl rfl rfl rfl fun J w1 hs => dp 2 rfl ?_
      refine dsb 0 ({ o with min := x.min, max := x.max, first := x.first }.c (some ⟨g, 0, none⟩) c) hs rfl rfl rfl rfl rfl fun J w1 hs => dz (p 2 rfl ?_)
      exact sbx 0 ({ o with min := x.min, max := x.max, first := x.first, last := x.last }.c (some ⟨g, 0, none⟩) c) hs rfl rfl rfl rfl fun J w1 hs => z ⟨rfl, rfl, _, hs⟩
    · have e : startA o x = o := if_neg h1
      rw [e]
      exact C.skip ⟨rfl, rfl, _, hs⟩
  have eA : addA o x = ⟨o.count + x.count, o.sum + x.sum, if x.min < (startA o x).min then x.min else (startA o x).min, if (startA o x).max < x.max then x.max else (startA o x).max, mergeF (startA o x).first x.first, mergeL (startA o x).last x.last, List.zipWith (· + ·) o.hist x.hist⟩ := rfl
  generalize startA o x = o1 at hst eA
  obtain ⟨hc, hsu, hh⟩ := hst
  rw [← hc, ← hsu] at eA
  rw [← hc] at hc1
  rw [← hsu] at hs1
  clear hc hsu
  rintro ρ w1 ⟨h0, h1, J, hs⟩
  refine C.nm 0 h0 (C.nm 1 h1 ?_)
  generalize e2 : ({ o1 with count := o1.count + x.count } : Acc) = o2
  refine sc (addS I w D ob g c b off k pa x o2 o.hist) ?_ ?_
  · refine dro N0 9 [0, 1, 2, 3, 4, 5, 6, 7, 8] hs fun w2 hs => dp 3 rfl (dl rfl (hs.bk 0 rfl) rfl (dp 3 rfl (dl1 0 rfl hs.f.1 rfl rfl (da rfl (by omega) (dz (p 2 rfl ?_))))))
    subst e2
    exact sbx 0 ({ o1 with count := o1.count + x.count }.c (some ⟨g, 0, none⟩) c) hs rfl rfl rfl rfl fun J w3 hs => z ⟨rfl, rfl, _, hs⟩
  rintro ρ w2 ⟨h0, h1, J2, hs⟩
  refine C.nm 0 h0 (C.nm 1 h1 ?_)
  generalize e3 : ({ o2 with sum := o1.sum + x.sum } : Acc) = o3
  have s2 : o2.sum = o1.sum := by subst e2; rfl
  refine sc (addS I w D ob g c b off k pa x o3 o.hist) ?_ ?_
  · refine dro N0 9 [0, 1, 2, 3, 4, 5, 6, 7, 8] hs fun w2 hs => dp 3 rfl (dl rfl (hs.bk 0 rfl) rfl (dp 3 rfl (dl1 1 rfl hs.f.1 rfl rfl (dan (o1.sum + x.sum) rfl (by rw [s2]) (by omega) (dz (p 2 rfl ?_))))))
    subst e3
    exact sbx 0 ({ o2 with sum := o1.sum + x.sum }.c (some ⟨g, 0, none⟩) c) hs rfl rfl rfl rfl fun J w3 hs => z ⟨rfl, rfl, _, hs⟩
  rintro ρ w3 ⟨h0, h1, J3, hs⟩
  refine C.nm 0 h0 (C.nm 1 h1 ?_)
  generalize e4 : ({ o3 with min := if x.min < o3.min then x.min else o3.min, max := if o3.max < x.max then x.max else o3.max } : Acc) = o4
  refine sc (addS I w D ob g c b off k pa x o4 o.hist) ?_ ?_
  · refine drt (fun q => q = ob) 23 (.qs [0, 1, 2, 3, 4, 6, 7, 8, 9, 11, 12, 13, 15, 16, 17, 18] (.a 5 (.q 10 (.e 14 (.qs [19, 20, 21] (.e 22 .z)))) 14 (.q 19 (.e 5 (.qs [10, 20, 21] (.e 22 .z)))))) hs fun w4 hs => ?_
    have hne := addS.ne hs
    refine dp 8 rfl (dl1 2 rfl hs.f.1 rfl rfl (he := hne) (dp 6 rfl (dl1 3 rfl hs.f.1 rfl rfl (he := hne) ?_)))
    subst e4
    refine dra (bkR rfl (hs.bk 0 rfl) rfl) (bkR rfl (hs.bk 0 rfl) rfl) ?_ ?_
    · refine dp 1 rfl (dre (bkR rfl (hs.bk 0 rfl) rfl) (dp 3 rfl ?_))
      refine dsb 0 ({ o3 with min := if x.min < o3.min then x.min else o3.min }.c (some ⟨g, 0, none⟩) c) hs rfl rfl rfl rfl rfl fun J w1 hs => dz (p 2 rfl ?_)
      exact sbx 0 ({ o3 with min := if x.min < o3.min then x.min else o3.min, max := if o3.max < x.max then x.max else o3.max }.c (some ⟨g, 0, none⟩) c) hs rfl rfl rfl rfl fun J w3 hs => z ⟨rfl, rfl, _, hs⟩
    · refine dp 1 rfl (dre (bkR rfl (hs.bk 0 rfl) rfl) (dp 3 rfl ?_))
      refine dsb 0 ({ o3 with min := if x.min < o3.min then x.min else o3.min }.c (some ⟨g, 0, none⟩) c) hs rfl rfl rfl rfl rfl fun J w1 hs => dz (p 2 rfl ?_)
      exact sbx 0 ({ o3 with min := if x.min < o3.min then x.min else o3.min, max := if o3.max < x.max then x.max else o3.max }.c (some ⟨g, 0, none⟩) c) hs rfl rfl rfl rfl fun J w3 hs => z ⟨rfl, rfl, _, hs⟩
  rintro ρ w4 ⟨h0, h1, J4, hs⟩
  refine C.nm 0 h0 (C.nm 1 h1 ?_)
  generalize e5 : ({ o4 with first := mergeF o4.first x.first } : Acc) = o5
  refine sc (addS I w D ob g c b off k pa x o5 o.hist) ?_ ?_
  · refine C.seq ?_
    refine dro N0 10 [0, 1, 2, 3, 4, 5, 6, 7, 508, 9] hs fun w5 hs => dp 3 rfl (dla rfl (hs.f.1.sub (n := 4) x.first.c rfl) rfl (dp 3 rfl (dln o4.first.c rfl (hs.bk 0 rfl) rfl rfl (dc0 rfl hs (acc_Order x.first o4.first) fun w6 hs => dp 1 rfl (dz (z ?_))))))
    refine C.cond_dec rfl (fun h1 => ?_) fun h1 => ?_ -- t94
    · refine C.reg (p 4 rfl (la rfl (hs.f.1.sub (n := 4) x.first.c rfl) rfl (p 2 rfl ?_)))
      have e : mergeF o4.first x.first = x.first := if_pos h1
      rw [e] at e5
      subst e5
      exact sbx 0 ({ o4 with first := x.first }.c (some ⟨g, 0, none⟩) c) hs rfl rfl rfl rfl fun J w3 hs => z ⟨rfl, rfl, _, hs⟩
    · have e : mergeF o4.first x.first = o4.first := if_neg h1
      rw [e] at e5
      subst e5
      exact C.skip ⟨rfl, rfl, _, hs⟩
  rintro ρ w5 ⟨h0, h1, J5, hs⟩
  refine C.nm 0 h0 (C.nm 1 h1 ?_)
  generalize e6 : ({ o5 with last := mergeL o5.last x.last } : Acc) = o6
  refine sc (addS I w D ob g c b off k pa x o6 o.hist) ?_ ?_
  · refine C.seq ?_
    refine dro N0 10 [0, 1, 2, 3, 4, 5, 6, 7, 508, 9] hs fun w5 hs => dp 3 rfl (dla rfl (hs.f.1.sub (n := 4) x.last.c rfl) rfl (dp 3 rfl (dln o5.last.c rfl (hs.bk 0 rfl) rfl rfl (dc0 rfl hs (acc_Order x.last o5.last) fun w6 hs => dp 1 rfl (dz (z ?_))))))
    refine C.cond_dec rfl (fun h1 => ?_) fun h1 => ?_ -- t111
    · refine C.reg (p 4 rfl (la rfl (hs.f.1.sub (n := 4) x.last.c rfl) rfl (p 2 rfl ?_)))
      have e : mergeL o5.last x.last = x.last := if_pos h1
      rw [e] at e6
      subst e6
      exact sbx 0 ({ o5 with last := x.last }.c (some ⟨g, 0, none⟩) c) hs rfl rfl rfl rfl fun J w3 hs => z ⟨rfl, rfl, _, hs⟩
    · have e : mergeL o5.last x.last = o5.last := if_neg h1
      rw [e] at e6
      subst e6
      exact C.skip ⟨rfl, rfl, _, hs⟩
  rintro ρ w6 ⟨h0, h1, J6, hs⟩
  refine C.nm 0 h0 (C.nm 1 h1 ?_)
  have eo : addA o x = { o6 with hist := List.zipWith (· + ·) o.hist x.hist } := by rw [eA]; subst e2 e3 e4 e5 e6; rfl
  have hh6 : o6.hist = o.hist := by subst e2 e3 e4 e5 e6; exact hh
  rw [eo]
  clear eo eA e2 e3 e4 e5 e6 s2
  have hzl : (List.zipWith (· + ·) o.hist x.hist).length = o.hist.length := by simp [hlen]
  refine sr (p 3 rfl (l1 12 rfl hs.f.1 rfl rfl (p 2 rfl (z ?_))))
  refine C.block ?_ -- BLOCK 0
  refine C.loop (fun n ρ w' => ∃ (i : Nat) (ys : List Int) (J : Nat → Prop), n = x.hist.length - i ∧ i ≤ x.hist.length ∧ ys.length = o.hist.length ∧ (∀ j, ys[j]? = if j < i then (List.zipWith (· + ·) o.hist x.hist)[j]? else o.hist[j]?) ∧ ρ 0 = .pointer (some ⟨ob, 0, none⟩) ∧ ρ 122 = .slice pa x.hist.length k ∧ ρ 123 = .int .i64 x.hist.length ∧ ρ 124 = .int .i64 i ∧ St D I w J (accM ob g c o6 ys) (fun J w => At b off (x.c pa k) J w ∧ RI pa k x.hist J w) w') _ ⟨0, o.hist, _, rfl, by omega, rfl, by simp, rfl, rfl, rfl, rfl, hs⟩ ?_
  rintro n ρ w7 ⟨i, ys, J, hn, hi, hyl, hys, h0, h122, h123, h124, hs⟩
  refine C.nm 0 h0 (C.nm 122 h122 (C.nm 123 h123 (C.nm 124 h124 ?_)))
  refine sr (p 1 rfl (z ?_))
  refine C.seq ?_
  refine C.cond_dec rfl (fun h4 => ?_) fun h4 => ?_ -- t125
  · have hx := List.getElem?_eq_getElem (show i < x.hist.length by omega)
    have ho := List.getElem?_eq_getElem (show i < o.hist.length by omega)
    generalize x.hist[i] = u at hx
    generalize o.hist[i] = v at ho
    have hu := hh2 u (List.mem_of_getElem? hx)
    have hv := hh1 v (List.mem_of_getElem? ho)
    have hyi : ys[i]? = some v := by rw [hys, if_neg (by omega), ho]
    refine C.skip ?_
    refine C.seq ?_
    refine C.block ?_ -- BLOCK 1
    refine sr (p 1 rfl (ixn i rfl hs.f.2 (by simp) (map_get hx) fun b1 off1 hat => l1 0 rfl hat rfl rfl (p 2 rfl (z ?_))))
    refine C.reg (p 3 rfl (l rfl (hs.bk 0 rfl) rfl (p 1 rfl ?_)))
    refine ixo 1 i hs rfl rfl (by simp; omega) (by simp [hh6, hyl]) fun g' hg => ?_
    cases hg
    refine lo 1 i 0 hs rfl rfl (map_get hyi) rfl rfl (p 1 rfl (Bo.a rfl (by omega) ?_))
    refine ixo 1 i hs rfl rfl (by simp; omega) (by simp [hh6, hyl]) fun g' hg => ?_
    cases hg
    refine sox 1 i 0 (ic (v + u)) ((ys.set i (v + u)).map ic) hs rfl rfl (map_get hyi) rfl rfl rfl (by rw [List.map_set]) fun J w1 hs => z ?_
    refine C.reg (Bo.a rfl (by omega) (p 1 rfl (z ?_)))
    refine ⟨_, by omega, i + 1, ys.set i (v + u), J, rfl, by omega, by simp [hyl], fun j => ?_, rfl, rfl, rfl, rfl, hs⟩
    rw [List.getElem?_set]
    by_cases hji : i = j
    · subst hji
      rw [if_pos rfl, if_pos (by omega), if_pos (by omega), List.getElem?_zipWith, ho, hx]
    · rw [if_neg hji, hys]
      by_cases hlt : j < i
      · rw [if_pos hlt, if_pos (by omega)]
      · rw [if_neg hlt, if_neg (by omega)]
  · have : i = x.hist.length := by omega
    subst this
    have ey : ys = List.zipWith (· + ·) o.hist x.hist := by
      apply List.ext_getElem?
      intro j
      rw [hys]
      split
      · rfl
      · rw [List.getElem?_eq_none (by omega), List.getElem?_eq_none (by omega)]
    refine C.exit ?_ -- EXIT 0
    refine m0 (J := J) rfl () (F := fun _ _ => True) ?_ rfl trivial
    have := hs.to (G := fun _ _ => True) fun _ => trivial
    rw [ey] at this
    simp only [accM, Acc.c, hh6, hzl] at this ⊢
    exact this
end Bo
namespace Bo
open Go Go.Proofs
theorem allF_may {bs : List Int} : ∀ {s : Int} {xs : List AM}, allF bs s xs → ∀ x ∈ xs, mayA x.a bs
  | _, [], _ => by simp
  | s, y :: ys, h => by
    intro x hx
    rcases List.mem_cons.1 hx with rfl | hx
    · exact h.1.1
    · exact allF_may h.2 x hx
def zeroH (m : Nat) : Acc := { zeroA with hist := List.replicate (m + 1) 0 }
def zeroC (g n : Nat) : List Value := [.int .i64 0, .int .i64 0, .int .i64 0, .int .i64 0, .int .i64 0, .int .i64 0, .int .i64 0, .int .i64 0, .int .i64 0, .int .i64 0, .int .i64 0, .int .i64 0, .slice (some ⟨g, 0, none⟩) n n]
def joinN (o : Acc) (x : AM) : Acc := if 0 < x.a.count then addA o x.a else o
def cntL (xs : List AM) : Int := (xs.map fun x => x.a.count).sum
def joinF (m : Nat) (xs : List AM) : Acc := xs.foldl joinN (zeroH m)
structure Jok (m i : Nat) (cnt : Int) (o : Acc) : Prop where
  len : o.hist.length = m + 1
  cnt : o.count = cnt
  pos : 0 ≤ o.count
  sum : -(1099511627776 * o.count) ≤ o.sum ∧ o.sum ≤ 1099511627776 * o.count
  hist : ∀ y ∈ o.hist, 0 ≤ y ∧ y ≤ 8192 * i
theorem Jok.zero (m : Nat) : Jok m 0 0 (zeroH m) := ⟨by simp [zeroH], rfl, by simp [zeroH, zeroA], by simp [zeroH, zeroA], by
  intro y hy
  have := (List.mem_replicate.1 (show y ∈ List.replicate (m + 1) (0 : Int) from hy)).2
  omega⟩
theorem mayA.sum {x : Acc} {bs : List Int} (h : mayA x bs) (h0 : 0 < x.count) : -(1099511627776 * x.count) ≤ x.sum ∧ x.sum ≤ 1099511627776 * x.count := by
  rcases h.2 with h' | ⟨_, h1, h2, _, _, h5, h6⟩
  · omega
  · have e1 := Int.mul_le_mul_of_nonneg_left h1.1 (Int.le_of_lt h0)
    have e2 := Int.mul_le_mul_of_nonneg_left h2.2 (Int.le_of_lt h0)
    omega
theorem Jok.step {bs : List Int} {i : Nat} {cnt : Int} {o : Acc} {x : AM} (h : Jok bs.length i cnt o) (hx : mayA x.a bs) : Jok bs.length (i + 1) (cnt + x.a.count) (joinN o x) := by
  have hc := hx.1.2.2.2
  have hh := hx.1.2.2.1
  unfold joinN
  split
  · rename_i h0
    have hs := hx.sum h0
    have h1 := h.sum
    have h2 := h.pos
    refine ⟨?_, ?_, ?_, ?_, ?_⟩
    · show (List.zipWith _ _ _).length = _
      have := h.len; have := hh.2.1
      simp; omega
    · show o.count + x.a.count = _
      rw [h.cnt]
    · show 0 ≤ o.count + x.a.count
      omega
    · show -(1099511627776 * (o.count + x.a.count)) ≤ o.sum + x.a.sum ∧ o.sum + x.a.sum ≤ 1099511627776 * (o.count + x.a.count)
      omega
    · intro y hy
      obtain ⟨j, hj⟩ := List.mem_iff_getElem?.1 (show y ∈ List.zipWith (· + ·) o.hist x.a.hist from hy)
      rw [List.getElem?_zipWith] at hj
      split at hj
      · rename_i u v hu hv
        cases hj
        have h3 := h.hist u (List.mem_of_getElem? hu)
        have h4 := hh.1 v (List.mem_of_getElem? hv)
        omega
      · cases hj
  · have : x.a.count = 0 := by omega
    rw [this, Int.add_zero]
    exact ⟨h.len, h.cnt, h.pos, h.sum, fun y hy => by have := h.hist y hy; omega⟩
theorem cntL_take (xs : List AM) (i : Nat) (x : AM) (h : xs[i]? = some x) : cntL (xs.take (i + 1)) = cntL (xs.take i) + x.a.count := by
  unfold cntL
  rw [List.take_add_one, h]; simp
theorem joinF_take (m : Nat) (xs : List AM) (i : Nat) (x : AM) (h : xs[i]? = some x) : joinF m (xs.take (i + 1)) = joinN (joinF m (xs.take i)) x := by
  unfold joinF
  rw [List.take_add_one, h]; simp
theorem cntL_bd {bs : List Int} {xs : List AM} (h : ∀ x ∈ xs, mayA x.a bs) : 0 ≤ cntL xs ∧ cntL xs ≤ 8192 * xs.length := by
  induction xs with
  | nil => simp [cntL]
  | cons x xs ih =>
    have h1 := ih fun y hy => h y (List.mem_cons_of_mem _ hy)
    have h2 := (h x List.mem_cons_self).1.2.2.2
    have : cntL (x :: xs) = x.a.count + cntL xs := by simp [cntL]
    simp only [List.length_cons]
    omega
theorem cntL_mono {bs : List Int} {xs : List AM} (h : ∀ x ∈ xs, mayA x.a bs) (i : Nat) : cntL (xs.take i) ≤ cntL xs := by
  have := cntL_bd (bs := bs) (xs := xs.drop i) fun y hy => h y (List.mem_of_mem_drop hy)
  have e : cntL xs = cntL (xs.take i) + cntL (xs.drop i) := by
    unfold cntL; rw [← List.sum_append, ← List.map_append, List.take_append_drop]
  omega
theorem Jok.take {bs : List Int} {xs : List AM} (h : ∀ x ∈ xs, mayA x.a bs) : ∀ i, i ≤ xs.length → Jok bs.length i (cntL (xs.take i)) (joinF bs.length (xs.take i))
  | 0, _ => by simpa [cntL, joinF] using Jok.zero bs.length
  | i + 1, hi => by
    have hx := List.getElem?_eq_getElem (show i < xs.length by omega)
    rw [cntL_take _ _ _ hx, joinF_take _ _ _ _ hx]
    exact (Jok.take h i (by omega)).step (h _ (List.getElem_mem _))
open Classical in
noncomputable def joinE (bs : List Int) (xs : List AM) : Int := if allF bs (-1) xs ∧ bdOk bs then (if 8192 < cntL xs then 101 else 0) else 100
open Classical in
noncomputable def joinA (bs : List Int) (xs : List AM) : Acc := if joinE bs xs = 0 then joinF bs.length xs else zeroA
theorem acc_Join {I : Nat → Prop} {w : World} {a a' : Option Addr} {c c' : Nat} (bs : List Int) (xs : List AM) (hB : RI a c bs I w) (hX : RAcc a' c' xs I w) (hl : xs.length ≤ 1000000) (hh : ∀ x ∈ xs, x.a.hist.length ≤ 140737488355328) :
    Ct Tryz.prog 152 #[.slice a bs.length c, .slice a' xs.length c'] I w (fun r : Option Addr × Nat => .tuple #[.agg ((joinA bs xs).c r.1 r.2).toArray, .int .i64 (joinE bs xs)]) (fun r J w => RI r.1 r.2 (joinA bs xs).hist J w) := by
  refine Ct.of (args := [_, _]) (F := fun J w => RI a c bs J w ∧ RAcc a' c' xs J w) Tryz.func152 rfl rfl ⟨hB, hX⟩ fun hs => ?_
  refine sr (am hs rfl fun b4 w1 hs => p 1 rfl (z ?_))
  refine C.seq ?_
  refine sr (p 2 rfl (Bo.c rfl hs (acc_allMay bs xs hs.f.1 hs.f.2 hl hh) fun y w1 hs => p 1 rfl (z ?_)))
  have hy := hs.f.1
  refine C.cond rfl (fun h1 => ?_) fun h1 => ?_ -- t14
  · have h1 : y = false := by simpa using h1
    have hno : ¬ (allF bs (-1) xs ∧ bdOk bs) := fun h => by have := hy.2 h; rw [h1] at this; cases this
    have eE : joinE bs xs = 100 := if_neg hno
    have eA : joinA bs xs = zeroA := if_neg (by rw [eE]; decide)
    rw [eE, eA]
    refine sr (bd (zeroA.c none 0) rfl (sbx 0 (zeroA.c none 0) hs rfl rfl rfl rfl fun J w hs => p 1 rfl (z ?_)))
    refine C.ret ?_
    exact f2 rfl rfl rfl hs (hs.bk 0 rfl) rfl rfl rfl (none, 0) rfl (Rc.nil _ _ _ _ _)
  · have h1 : y = true := by simpa using h1
    obtain ⟨hall, hbo⟩ := hy.1 h1
    have hmay := allF_may hall
    have hbl : bs.length ≤ 8 := hbo.1
    refine C.skip ?_
    refine sr (p 1 rfl (z ?_))
    refine C.seq ?_
    refine sr (p 3 rfl (z ?_))
    refine C.block ?_ -- BLOCK 0
    refine C.loop (fun n ρ w' => ∃ (i : Nat) (J : Nat → Prop), n = xs.length - i ∧ i ≤ xs.length ∧ ρ 0 = .slice a bs.length c ∧ ρ 1 = .slice a' xs.length c' ∧ ρ 4 = .pointer (some ⟨b4, 0, none⟩) ∧ ρ 6 = .int .i64 (cntL (xs.take i)) ∧ ρ 16 = .slice a' xs.length c' ∧ ρ 17 = .int .i64 xs.length ∧ ρ 18 = .int .i64 i ∧ St N0 I w J [.blk b4 88 (zeroA.c none 0)] (fun J w => RI a c bs J w ∧ RAcc a' c' xs J w) w') _ ⟨0, _, rfl, by omega, rfl, rfl, rfl, rfl, rfl, rfl, rfl, hs.to fun h => h.2⟩ ?_
    rintro n ρ w2 ⟨i, J, hn, hi, h0, h1, h4, h6, h16, h17, h18, hs⟩
    refine C.nm 0 h0 (C.nm 1 h1 (C.nm 4 h4 (C.nm 6 h6 (C.nm 16 h16 (C.nm 17 h17 (C.nm 18 h18 ?_))))))
    refine sr (p 1 rfl (z ?_))
    refine C.seq ?_
    refine C.cond_dec rfl (fun h2 => ?_) fun h2 => ?_ -- t19
    · have hx := List.getElem?_eq_getElem (show i < xs.length by omega)
      have hxm := List.getElem_mem (show i < xs.length by omega)
      generalize xs[i] = x at hx hxm
      have hb1 := cntL_bd (bs := bs) (xs := xs.take i) fun y hy => hmay y (List.mem_of_mem_take hy)
      have hb2 := (hmay x hxm).1.2.2.2
      have hct := cntL_take _ _ _ hx
      have hb3 : (xs.take i).length = i := by simp; omega
      refine C.skip ?_
      refine C.seq ?_
      refine C.block ?_ -- BLOCK 1
      refine sr (ixn i rfl hs.f.2.1 (by simp) (map_get hx) fun b off hat => la rfl hat rfl (ais hs rfl (fun _ => rfl) rfl fun b8 J w3 hs => z ?_))
      refine C.reg (p 2 rfl (l rfl hs.im rfl (an (cntL (xs.take (i + 1))) rfl (cntL_take _ _ _ hx).symm (by rw [hb3] at hb1; omega) (p 1 rfl (z ?_)))))
      refine C.reg (Bo.a rfl (by omega) (p 1 rfl (z ?_)))
      exact ⟨_, by omega, i + 1, J, rfl, by omega, rfl, rfl, rfl, rfl, rfl, rfl, rfl, hs.to fun h => h.2⟩
    · have : i = xs.length := by omega
      subst this
      rw [List.take_length]
      refine C.exit ?_ -- EXIT 0
      refine C.seq ?_
      refine sr (p 2 rfl (z ?_))
      refine C.cond_dec rfl (fun h3 => ?_) fun h3 => ?_ -- t28
      · have eE : joinE bs xs = 101 := by unfold joinE; rw [if_pos ⟨hall, hbo⟩, if_pos h3]
        have eA : joinA bs xs = zeroA := if_neg (by rw [eE]; decide)
        rw [eE, eA]
        refine sr (bd (zeroA.c none 0) rfl (sbx 0 (zeroA.c none 0) hs rfl rfl rfl rfl fun J w hs => p 1 rfl (z ?_)))
        refine C.ret ?_
        exact f2 rfl rfl rfl hs (hs.bk 0 rfl) rfl rfl rfl (none, 0) rfl (Rc.nil _ _ _ _ _)
      · have eE : joinE bs xs = 0 := by unfold joinE; rw [if_pos ⟨hall, hbo⟩, if_neg h3]
        have eA : joinA bs xs = joinF bs.length xs := if_pos eE
        rw [eE, eA]
        refine C.skip ?_
        refine sr (p 2 rfl (an ((bs.length + 1 : Nat) : Int) rfl (by simp) (by omega) (mk (bs.length + 1) hs rfl (by show 8 * _ ≤ _; omega) (by omega) fun g J w3 hs => bd (zeroC g (bs.length + 1)) rfl (am hs rfl fun b9 w3 hs => sbx 0 (zeroC g (bs.length + 1)) hs rfl rfl rfl rfl fun J w3 hs => z ?_))))
        have eC : zeroC g (bs.length + 1) = (zeroH bs.length).c (some ⟨g, 0, none⟩) (bs.length + 1) := by simp [zeroC, zeroH, zeroA, zeroI, Acc.c]
        have hs : St N0 I w J (accM b9 g (bs.length + 1) (joinF bs.length (xs.take 0)) (joinF bs.length (xs.take 0)).hist ++ [.blk b4 88 (zeroA.c none 0)]) (fun J w => RI a c bs J w ∧ RAcc a' c' xs J w) w3 := by
          have e1 : joinF bs.length (xs.take 0) = zeroH bs.length := rfl
          rw [e1]
          unfold accM
          rw [← eC, show (zeroH bs.length).hist = List.replicate (bs.length + 1) 0 from rfl, List.map_replicate]
          exact hs
        refine C.seq ?_
        refine sr (p 3 rfl (z ?_))
        refine C.block ?_ -- BLOCK 2
        refine C.loop (fun n ρ w' => ∃ (i : Nat) (J : Nat → Prop), n = xs.length - i ∧ i ≤ xs.length ∧ ρ 1 = .slice a' xs.length c' ∧ ρ 4 = .pointer (some ⟨b4, 0, none⟩) ∧ ρ 9 = .pointer (some ⟨b9, 0, none⟩) ∧ ρ 36 = .int .i64 xs.length ∧ ρ 37 = .int .i64 i ∧ St N0 I w J (accM b9 g (bs.length + 1) (joinF bs.length (xs.take i)) (joinF bs.length (xs.take i)).hist ++ [.blk b4 88 (zeroA.c none 0)]) (fun J w => RI a c bs J w ∧ RAcc a' c' xs J w) w') _ ⟨0, _, rfl, by omega, rfl, rfl, rfl, rfl, rfl, hs⟩ ?_
        rintro n ρ w4 ⟨i, J, hn, hi, h1, h4, h9, h36, h37, hs⟩
        refine C.nm 1 h1 (C.nm 4 h4 (C.nm 9 h9 (C.nm 36 h36 (C.nm 37 h37 ?_))))
        refine sr (p 1 rfl (z ?_))
        refine C.seq ?_
        refine C.cond_dec rfl (fun h5 => ?_) fun h5 => ?_ -- t38
        · have hx := List.getElem?_eq_getElem (show i < xs.length by omega)
          have hxm := List.getElem_mem (show i < xs.length by omega)
          generalize xs[i] = x at hx hxm
          have hm := hmay x hxm
          have hj := Jok.take hmay i (by omega)
          have hmo := cntL_mono hmay i
          have hft := joinF_take bs.length xs i x hx
          generalize joinF bs.length (xs.take i) = oi at hs hj hft
          have hjc := hj.cnt
          have hjp := hj.pos
          have hjs := hj.sum
          have hmc := hm.1.2.2.2
          have hmh := hm.1.2.2.1
          refine C.skip ?_
          refine C.seq ?_
          refine C.block ?_ -- BLOCK 3
          refine sr (p 2 rfl (z ?_))
          refine sr (p 2 rfl (ixn i rfl hs.f.2.1 (by simp) (map_get hx) fun b off hat => p 1 rfl (l1 0 rfl hat rfl rfl (p 1 rfl (z ?_)))))
          refine C.cond_dec rfl (fun h6 => ?_) fun h6 => ?_ -- t45
          · have ej : joinN oi x = addA oi x.a := if_pos h6
            rw [ej] at hft
            have hms := hm.sum h6
            refine C.reg (p 2 rfl (ixn i rfl hs.f.2.1 (by simp) (map_get hx) fun b off hat => cm rfl hs (acc_add oi x.a hs.ms.l hat (hs.f.2.2 x hxm) (by rw [hj.len, hmh.2.1]) (by rw [hj.len]; omega) (by omega) (by omega) (by omega) (by omega) (fun y hy => by have := hj.hist y hy; omega) (fun y hy => by have := hmh.1 y hy; omega)) rfl fun _ J2 w5 hs => z ?_))
            refine C.reg (Bo.a rfl (by omega) (p 1 rfl (z ?_)))
            exact ⟨_, by omega, i + 1, J2, rfl, by omega, rfl, rfl, rfl, rfl, rfl, by rw [hft]; exact hs.to fun h => h.2⟩
          · have ej : joinN oi x = oi := if_neg h6
            rw [ej] at hft
            refine C.skip ?_
            refine C.reg (Bo.a rfl (by omega) (p 1 rfl (z ?_)))
            exact ⟨_, by omega, i + 1, J, rfl, by omega, rfl, rfl, rfl, rfl, rfl, by rw [hft]; exact hs⟩
        · have : i = xs.length := by omega
          subst this
          rw [List.take_length] at hs
          have hj := Jok.take hmay xs.length (by omega)
          rw [List.take_length] at hj
          generalize joinF bs.length xs = oi at hs hj ⊢
          refine C.exit ?_ -- EXIT 2
          refine sr (ln (oi.c (some ⟨g, 0, none⟩) (bs.length + 1)) rfl (hs.bk 0 rfl) rfl rfl (sbx 2 (oi.c (some ⟨g, 0, none⟩) (bs.length + 1)) hs rfl rfl rfl rfl fun J w5 hs => p 1 rfl (z ?_)))
          refine C.ret ?_
          obtain ⟨J2, hs⟩ := (hs.perm (List.Perm.swap ..)).done
          exact f2 rfl rfl rfl hs (hs.bk 1 rfl) rfl rfl rfl (some ⟨g, 0, none⟩, bs.length + 1) rfl hs.f.1
end Bo
namespace Bo
open Go Go.Proofs Go.RowKit
theorem session_GapMay {I : Nat → Prop} {w : World} (g : Int) :
    Ct Tryz.prog 145 #[.int .i64 g] I w (fun _ : Unit => .bool (decide (1 ≤ g ∧ g ≤ 1073741824))) (fun _ _ _ => True) := by
  refine Ct.of (args := [_]) (F := fun _ _ => True) Tryz.func145 rfl rfl trivial fun hs => ?_
  refine sr (p 1 rfl (z ?_))
  refine src (fun ρ w' => ρ 2 = .bool (decide (1 ≤ g ∧ g ≤ 1073741824)) ∧ w' = w) ?_ ?_
  · refine p 3 rfl (gd 5 rfl (fun h1 => ?_) fun h1 => ?_)
    · exact p 4 rfl (z ⟨vb rfl (by simp [h1]), rfl⟩)
    · exact p 4 rfl (z ⟨vb rfl (by simp [h1]), rfl⟩)
  rintro ρ _ ⟨h, rfl⟩
  exact C.nm 2 h (C.ret (e1 rfl rfl hs () rfl trivial))
/-- A session as it lies: where its buckets lie. -/
structure SM where
  s : Session
  p : Option Addr
  k : Nat
def SM.c (x : SM) : List Value := x.s.c x.p x.k
/-- Sessions in a row. -/
def RSes (a : Option Addr) (c : Nat) (xs : List SM) : Pf := fun J w => Rc 15 a c (xs.map SM.c) J w ∧ ∀ x, x ∈ xs → RI x.p x.k x.s.acc.hist J w
instance (a : Option Addr) (c : Nat) (xs : List SM) : Stab (RSes a c xs) := Stab.and _ _
theorem session_put1 {I : Nat → Prop} {w : World} {bx bg : Nat} {Tx Tg : Nat} (x : SM) (it : Item) (gap : Int) (hx : Im bx Tx it.c I w) (hg : Im bg Tg (ic gap) I w) (hi : -1099511627776 ≤ it.time ∧ it.time ≤ 1099511627776) (hgap : 1 ≤ gap ∧ gap ≤ 1073741824) :
    Ct Tryz.prog 150 #[.agg x.c.toArray, .pointer (some ⟨bx, 0, none⟩), .pointer (some ⟨bg, 0, none⟩)] I w (fun _ : Unit => .bool (decide (it.time - gap < x.s.last))) (fun _ _ _ => True) := by
  refine Ct.of (args := [_, _, _]) (F := fun J w => Im bx Tx it.c J w ∧ Im bg Tg (ic gap) J w) Tryz.func150 rfl rfl ⟨hx, hg⟩ fun hs => ?_
  refine sr (ai hs rfl fun b3 w hs => p 1 rfl (z ?_))
  refine sr (p 1 rfl (l rfl hs.im rfl (p 1 rfl (l rfl hs.f.2.1.2 rfl (l rfl hs.f.2.2.2 rfl (Bo.a rfl (by omega) (p 2 rfl (z ?_))))))))
  refine C.ret ?_
  exact e1 rfl rfl hs () rfl trivial
def idxAft (xs : List SM) (t : Int) : Int := match xs.findIdx? fun x => decide (t < x.s.last) with | some i => i | none => -1
theorem IndexFunc {I : Nat → Prop} {w : World} {bx bg c : Nat} {Tx Tg : Nat} {a : Option Addr} (xs : List SM) (it : Item) (gap : Int) (hR : RSes a c xs I w) (hx : Im bx Tx it.c I w) (hg : Im bg Tg (ic gap) I w) (hi : -1099511627776 ≤ it.time ∧ it.time ≤ 1099511627776) (hgap : 1 ≤ gap ∧ gap ≤ 1073741824) (hl : xs.length ≤ 1000000) :
    Ct Tryz.prog 149 #[.slice a xs.length c, .func (.func 150) #[] #[.pointer (some ⟨bx, 0, none⟩), .pointer (some ⟨bg, 0, none⟩)]] I w (fun _ : Unit => .int .i64 (idxAft xs (it.time - gap))) (fun _ _ _ => True) := by
  refine Ct.of (args := [_, _]) (F := fun J w => RSes a c xs J w ∧ Im bx Tx it.c J w ∧ Im bg Tg (ic gap) J w) Tryz.func149 rfl rfl ⟨hR, hx, hg⟩ fun hs => ?_
  refine sr (p 1 rfl (z ?_))
  refine C.seq ?_
  refine sr (p 3 rfl (z ?_))
  refine C.block ?_ -- BLOCK 0
  refine C.loop (fun n ρ w' => ∃ i : Nat, n = xs.length - i ∧ i ≤ xs.length ∧ (∀ j x, j < i → xs[j]? = some x → ¬ it.time - gap < x.s.last) ∧ ρ 0 = .slice a xs.length c ∧ ρ 1 = .func (.func 150) #[] #[.pointer (some ⟨bx, 0, none⟩), .pointer (some ⟨bg, 0, none⟩)] ∧ ρ 7 = .int .i64 xs.length ∧ ρ 8 = .int .i64 i ∧ St N0 I w (up I w.heap.size) [] (fun J w => RSes a c xs J w ∧ Im bx Tx it.c J w ∧ Im bg Tg (ic gap) J w) w') _ ⟨0, rfl, by omega, by omega, rfl, rfl, rfl, rfl, hs⟩ ?_
  rintro n ρ w1 ⟨i, hn, hi', hno, h0, h1, h7, h8, hs⟩
  refine C.nm 0 h0 (C.nm 1 h1 (C.nm 7 h7 (C.nm 8 h8 ?_)))
  refine sr (p 1 rfl (z ?_))
  refine C.seq ?_
  refine C.cond_dec rfl (fun h2 => ?_) fun h2 => ?_ -- t9
  · have hx := List.getElem?_eq_getElem (show i < xs.length by omega)
    generalize hxe : xs[i] = x at hx
    refine C.skip ?_
    refine C.seq ?_
    refine C.block ?_ -- BLOCK 1
    refine sr (p 2 rfl (z ?_))
    refine sr (p 3 rfl (ixn i rfl hs.f.1.1 (by simp) (map_get hx) fun b off hat => la rfl hat rfl (c0 rfl hs (session_put1 x it gap hs.f.2.1 hs.f.2.2 hi hgap) fun w2 hs => z ?_)))
    refine C.cond_dec rfl (fun h3 => ?_) fun h3 => ?_ -- t16
    · refine sr (p 2 rfl (z ?_))
      refine C.ret ?_
      have hb : xs.findIdx? (fun x => decide (it.time - gap < x.s.last)) = some i := by
        rw [List.findIdx?_eq_some_iff_getElem]
        refine ⟨by omega, by rw [hxe]; exact decide_eq_true h3, fun j hj => ?_⟩
        have := hno j _ hj (List.getElem?_eq_getElem (by omega))
        simpa using this
      exact e1 rfl rfl hs () (by simp [idxAft, hb]) trivial
    · refine C.skip ?_
      refine C.reg (Bo.a rfl (by omega) (p 1 rfl (z ?_)))
      refine ⟨_, by omega, i + 1, rfl, by omega, fun j y hj hy => ?_, rfl, rfl, rfl, rfl, hs⟩
      by_cases hji : j = i
      · subst hji; rw [hx] at hy; cases hy; exact h3
      · exact hno j y (by omega) hy
  · refine C.exit ?_ -- EXIT 0
    refine sr (p 1 rfl (z ?_))
    refine C.ret ?_
    have hb : xs.findIdx? (fun x => decide (it.time - gap < x.s.last)) = none := by
      rw [List.findIdx?_eq_none_iff]
      intro x hx
      obtain ⟨j, hj⟩ := List.mem_iff_getElem?.1 hx
      have := (List.getElem?_eq_some_iff.1 hj).1
      exact decide_eq_false (hno j x (by omega) hj)
    exact e1 rfl rfl hs () (by simp [idxAft, hb]) trivial
end Bo
namespace Bo
open Go Go.Proofs Go.RowKit
/-- May items follow a series (-1: none yet)? -/
def oneF : Int → List Item → Prop
  | _, [] => True
  | s, x :: xs => x.ok ∧ (0 ≤ s → x.series = s) ∧ oneF x.series xs
instance : (s : Int) → (xs : List Item) → Decidable (oneF s xs)
  | _, [] => .isTrue trivial
  | s, x :: xs => by
    have := instDecidableOneF x.series xs
    unfold oneF; infer_instance
def baseS (ss : List SM) : Int := match ss with | [] => -1 | x :: _ => x.s.acc.first.series
theorem session_one {I : Nat → Prop} {w : World} {a a' : Option Addr} {c c' : Nat} (ss : List SM) (xs : List Item) (hS : RSes a c ss I w) (hX : RItem a' c' xs I w) (hl : xs.length ≤ 1000000) :
    Ct Tryz.prog 114 #[.slice a ss.length c, .slice a' xs.length c'] I w (fun r : Bool => .bool r) (fun r _ _ => (r = true ↔ oneF (baseS ss) xs)) := by
  refine Ct.of (args := [_, _]) (F := fun J w => RSes a c ss J w ∧ RItem a' c' xs J w) Tryz.func114 rfl rfl ⟨hS, hX⟩ fun hs => ?_
  refine sr (p 1 rfl (z ?_))
  refine sr (p 1 rfl (z ?_))
  refine sc (fun ρ w' => ρ 1 = .slice a' xs.length c' ∧ ρ 5 = .int .i64 (baseS ss) ∧ St N0 I w (up I w.heap.size) [] (fun J w => RSes a c ss J w ∧ RItem a' c' xs J w) w') ?_ ?_
  · refine sr (p 3 rfl (z ?_))
    refine C.cond_dec rfl (fun h1 => ?_) fun h1 => ?_ -- t10
    · cases ss with
      | nil => simp at h1
      | cons s0 ss =>
        refine C.reg (p 1 rfl (ixn 0 rfl hs.f.1.1 (by simp) (map_get (x := s0) rfl) fun b off hat => p 3 rfl (l1 6 rfl hat rfl rfl (p 1 rfl (z ⟨rfl, rfl, hs⟩)))))
    · cases ss with
      | nil => exact C.skip ⟨rfl, rfl, hs⟩
      | cons s0 ss => exact absurd (by simp) h1
  rintro ρ w1 ⟨h1, h5, hs⟩
  refine C.nm 1 h1 (C.nm 5 h5 ?_)
  refine C.seq ?_
  refine sr (p 3 rfl (z ?_))
  refine C.block ?_ -- BLOCK 0
  refine C.loop (fun n ρ w' => ∃ (i : Nat) (s : Int) (J : Nat → Prop), n = xs.length - i ∧ i ≤ xs.length ∧ (oneF s (xs.drop i) ↔ oneF (baseS ss) xs) ∧ ρ 5 = .int .i64 s ∧ ρ 17 = .slice a' xs.length c' ∧ ρ 18 = .int .i64 xs.length ∧ ρ 19 = .int .i64 i ∧ St N0 I w J [] (fun J w => RSes a c ss J w ∧ RItem a' c' xs J w) w') _ ⟨0, baseS ss, _, rfl, by omega, .rfl, rfl, rfl, rfl, rfl, hs⟩ ?_
  rintro n ρ w2 ⟨i, s, J, hn, hi, hiff, h5, h17, h18, h19, hs⟩
  refine C.nm 5 h5 (C.nm 17 h17 (C.nm 18 h18 (C.nm 19 h19 ?_)))
  refine sr (p 1 rfl (z ?_))
  refine C.seq ?_
  refine C.cond_dec rfl (fun h2 => ?_) fun h2 => ?_ -- t20
  · have hx := List.getElem?_eq_getElem (show i < xs.length by omega)
    have hd := List.drop_eq_getElem_cons (show i < xs.length by omega)
    generalize xs[i] = x at hx hd
    rw [hd] at hiff
    refine C.skip ?_
    refine C.seq ?_
    refine C.block ?_ -- BLOCK 1
    refine sr (ixn i rfl hs.f.2 (by simp) (map_get hx) fun b off hat => la rfl hat rfl (ais hs rfl (fun _ => rfl) rfl fun b7 J w3 hs => z ?_))
    refine C.seq ?_
    refine src (fun ρ w' => ρ 7 = .pointer (some ⟨b7, 0, none⟩) ∧ ρ 17 = .slice a' xs.length c' ∧ ρ 18 = .int .i64 xs.length ∧ ρ 19 = .int .i64 i ∧ (∃ r, ρ 35 = .bool r ∧ (r = true ↔ ¬ (x.ok ∧ (0 ≤ s → x.series = s)))) ∧ ∃ J, St N0 I w J [] (fun J w => Im b7 82 x.c J w ∧ RSes a c ss J w ∧ RItem a' c' xs J w) w') ?_ ?_
    · refine ln x.c rfl hs.im rfl rfl (c0 rfl hs (acc_ItemMay x) fun w9 hs => p 2 rfl (gs 26 rfl (fun h3 => ?_) fun h3 => ?_))
      · have h3 : ¬ x.ok := by simpa using h3
        exact p 9 rfl (z ⟨rfl, rfl, rfl, rfl, ⟨_, rfl, ifft fun h => h3 h.1⟩, _, hs⟩)
      · have h3 : x.ok := by simpa using h3
        refine p 3 rfl (gd 29 rfl (fun h4 => ?_) fun h4 => ?_)
        · refine p 1 rfl (l rfl hs.im rfl (p 4 rfl (z ⟨rfl, rfl, rfl, rfl, ⟨_, rfl, iffd ?_⟩, _, hs⟩)))
          exact ⟨fun h h' => h (h'.2 (by omega)), fun h h' => h ⟨h3, fun _ => h'⟩⟩
        · exact p 6 rfl (z ⟨rfl, rfl, rfl, rfl, ⟨_, rfl, ifff fun h => h ⟨h3, fun h' => absurd h' (by omega)⟩⟩, _, hs⟩)
    rintro ρ w' ⟨h7, h17, h18, h19, ⟨r, hr, hri⟩, J2, hs⟩
    refine C.nm 7 h7 (C.nm 17 h17 (C.nm 18 h18 (C.nm 19 h19 (C.nm 35 hr ?_))))
    refine C.cond rfl (fun h6 => ?_) fun h6 => ?_ -- t35
    · refine sr (p 1 rfl (z ?_))
      refine C.ret ?_
      exact e1 rfl rfl hs false rfl (ifff fun h => by
        have := hiff.2 h
        exact hri.1 h6 ⟨this.1, this.2.1⟩)
    · have hok : x.ok ∧ (0 ≤ s → x.series = s) := Classical.not_not.1 fun hn => by have := hri.2 hn; rw [h6] at this; cases this
      refine C.skip ?_
      refine C.reg (p 1 rfl (l rfl hs.im rfl (p 1 rfl (z ?_))))
      refine C.reg (Bo.a rfl (by omega) (p 1 rfl (z ?_)))
      refine ⟨_, by omega, i + 1, x.series, J2, rfl, by omega, ⟨fun h => hiff.1 ⟨hok.1, hok.2, h⟩, fun h => (hiff.2 h).2.2⟩, rfl, rfl, rfl, rfl, hs.to fun h => h.2⟩
  · rw [List.drop_of_length_le (by omega)] at hiff
    refine C.exit ?_ -- EXIT 0
    refine sr (p 1 rfl (z ?_))
    refine C.ret ?_
    exact e1 rfl rfl hs true rfl (ifft (hiff.1 trivial))
end Bo
namespace Bo
/-! ### Joining, over what is known alone -/
def nextSA (s : Int) (x : Acc) : Int := if 0 < x.count then x.first.series else s
def okSA (bs : List Int) (s : Int) (x : Acc) : Prop := mayA x bs ∧ (0 < x.count → 0 ≤ s → x.first.series = s)
def allFA (bs : List Int) : Int → List Acc → Prop
  | _, [] => True
  | s, x :: xs => okSA bs s x ∧ allFA bs (nextSA s x) xs
instance (x : Acc) (m : Nat) : Decidable (histOk x m) := by unfold histOk; infer_instance
instance (x : Acc) : Decidable (bareOk x) := by unfold bareOk; infer_instance
instance (x : Acc) (y : Item) : Decidable (inMM x y) := by unfold inMM; infer_instance
instance (x : Acc) : Decidable (endsOk x) := by unfold endsOk; infer_instance
instance (x : Acc) (m : Nat) : Decidable (mayA1 x m) := by unfold mayA1; infer_instance
instance (x : Acc) : Decidable (mayA2 x) := by unfold mayA2; infer_instance
instance (bs : List Int) (i : Nat) : Decidable (bdAt bs i) := by unfold bdAt; infer_instance
instance (bs : List Int) : Decidable (bdOk bs) := by unfold bdOk; infer_instance
instance (x : Acc) (bs : List Int) : Decidable (mayA x bs) := by unfold mayA; infer_instance
instance (bs : List Int) (s : Int) (x : Acc) : Decidable (okSA bs s x) := by unfold okSA; infer_instance
instance decAllFA (bs : List Int) : (s : Int) → (xs : List Acc) → Decidable (allFA bs s xs)
  | _, [] => .isTrue trivial
  | s, x :: xs => by
    have := decAllFA bs (nextSA s x) xs
    unfold allFA; infer_instance
def joinNA (o x : Acc) : Acc := if 0 < x.count then addA o x else o
def joinFA (m : Nat) (xs : List Acc) : Acc := xs.foldl joinNA (zeroH m)
def cntA (xs : List Acc) : Int := (xs.map Acc.count).sum
def joinEA (bs : List Int) (xs : List Acc) : Int := if allFA bs (-1) xs ∧ bdOk bs then (if 8192 < cntA xs then 101 else 0) else 100
theorem allF_A (bs : List Int) : ∀ (s : Int) (xs : List AM), allF bs s xs ↔ allFA bs s (xs.map AM.a)
  | _, [] => .rfl
  | s, x :: xs => by
    show okS bs s x ∧ allF bs (nextS s x) xs ↔ okSA bs s x.a ∧ allFA bs (nextSA s x.a) (xs.map AM.a)
    rw [allF_A bs]; rfl
theorem cntL_A (xs : List AM) : cntL xs = cntA (xs.map AM.a) := by simp [cntL, cntA, Function.comp_def]
theorem joinF_A (m : Nat) (xs : List AM) : joinF m xs = joinFA m (xs.map AM.a) := by
  unfold joinF joinFA
  rw [List.foldl_map]
  rfl
theorem joinE_A (bs : List Int) (xs : List AM) : joinE bs xs = joinEA bs (xs.map AM.a) := by
  unfold joinE joinEA
  simp only [allF_A, cntL_A]
theorem joinE0 {bs : List Int} {xs : List Acc} (h : joinEA bs xs = 0) : (allFA bs (-1) xs ∧ bdOk bs) ∧ cntA xs ≤ 8192 := by
  unfold joinEA at h
  split at h
  · rename_i h1
    split at h
    · cases h
    · exact ⟨h1, by omega⟩
  · cases h
theorem allFA_may {bs : List Int} : ∀ {s : Int} {xs : List Acc}, allFA bs s xs → ∀ x ∈ xs, mayA x bs
  | _, [], _ => by simp
  | s, y :: ys, h => by
    intro x hx
    rcases List.mem_cons.1 hx with rfl | hx
    · exact h.1.1
    · exact allFA_may h.2 x hx
/-- Both ends may be, once something was there. -/
def endOk (o : Acc) : Prop := 0 < o.count → o.first.ok ∧ o.last.ok
theorem addA_end {bs : List Int} {o x : Acc} (h : endOk o) (h0 : 0 ≤ o.count) (hx : mayA x bs) (hc : 0 < x.count) : (addA o x).first.ok ∧ (addA o x).last.ok := by
  have he : x.first.ok ∧ x.last.ok := by
    rcases hx.2 with h' | ⟨_, _, _, _, h4, _⟩
    · omega
    · exact ⟨(h4.1 _ (by simp)).1, (h4.1 _ (by simp)).1⟩
  have hs : (startA o x).first.ok ∧ (startA o x).last.ok := by
    unfold startA
    split
    · exact he
    · exact h (by omega)
  refine ⟨?_, ?_⟩
  · show (mergeF _ _).ok
    unfold mergeF; split
    · exact he.1
    · exact hs.1
  · show (mergeL _ _).ok
    unfold mergeL; split
    · exact he.2
    · exact hs.2
theorem joinFA_spec {bs : List Int} (m : Nat) : ∀ (xs : List Acc) (o : Acc), (∀ x ∈ xs, mayA x bs) → endOk o → 0 ≤ o.count → o.hist.length = m + 1 → bs.length = m →
    endOk (xs.foldl joinNA o) ∧ 0 ≤ (xs.foldl joinNA o).count ∧ (xs.foldl joinNA o).hist.length = m + 1 ∧ (xs.foldl joinNA o).count = o.count + cntA xs
  | [], o, _, h1, h2, h3, _ => ⟨h1, h2, h3, by simp [cntA]⟩
  | x :: xs, o, hm, h1, h2, h3, hb => by
    have hx := hm x List.mem_cons_self
    have hxc := hx.1.2.2.2
    have hxh := hx.1.2.2.1.2.1
    have key : endOk (joinNA o x) ∧ 0 ≤ (joinNA o x).count ∧ (joinNA o x).hist.length = m + 1 ∧ (joinNA o x).count = o.count + x.count := by
      unfold joinNA
      split
      · rename_i hc
        refine ⟨fun _ => addA_end h1 h2 hx hc, ?_, ?_, rfl⟩
        · show 0 ≤ o.count + x.count; omega
        · show (List.zipWith _ _ _).length = _; simp; omega
      · exact ⟨h1, h2, h3, by omega⟩
    have := joinFA_spec m xs (joinNA o x) (fun y hy => hm y (List.mem_cons_of_mem _ hy)) key.1 key.2.1 key.2.2.1 hb
    refine ⟨this.1, this.2.1, this.2.2.1, ?_⟩
    show (xs.foldl joinNA (joinNA o x)).count = _
    rw [this.2.2.2, key.2.2.2]
    simp [cntA]; omega
/-! ### Putting an item among sessions -/
def fromS (ss : List Session) (t : Int) : Nat := ss.findIdx fun s => decide (t < s.last)
def segL (ss : List Session) (n : Nat) (t : Int) : List Session := (ss.drop n).takeWhile fun s => decide (s.first < t)
def joinAA (bs : List Int) (xs : List Acc) : Acc := joinFA bs.length xs
structure PutP where
  fr : Nat
  till : Nat
  e : Int
  acc : Acc
def putP (bs : List Int) (gap : Int) (ss : List Session) (x : Item) : PutP :=
  let fr := fromS ss (x.time - gap)
  let seg := segL ss fr (x.time + gap)
  let ys := seg.map Session.acc ++ [oneA x bs]
  ⟨fr, fr + seg.length, joinEA bs ys, joinFA bs.length ys⟩
def sesOf (a : Acc) : Session := ⟨a.first.time, a.last.time, a⟩
def putS (bs : List Int) (gap : Int) (ss : List Session) (x : Item) : List Session :=
  let r := putP bs gap ss x
  ss.take r.fr ++ sesOf r.acc :: ss.drop r.till
/-- What Add gives out of no sessions: an error's number, or sessions. -/
def addG (bs : List Int) (gap : Int) : List Session → List Item → Int × List Session
  | ss, [] => (0, ss)
  | ss, x :: xs => if (putP bs gap ss x).e = 0 then addG bs gap (putS bs gap ss x) xs else ((putP bs gap ss x).e, [])
def gapOk (g : Int) : Prop := 1 ≤ g ∧ g ≤ 1073741824
instance (g : Int) : Decidable (gapOk g) := by unfold gapOk; infer_instance
def addS0 (bs : List Int) (gap : Int) (xs : List Item) : Int × List Session :=
  if gapOk gap ∧ bdOk bs ∧ oneF (-1) xs then addG bs gap [] xs else (600, [])
theorem segL_le (ss : List Session) (n : Nat) (t : Int) (hn : n ≤ ss.length) : n + (segL ss n t).length ≤ ss.length := by
  unfold segL
  have := (List.takeWhile_sublist (fun s : Session => decide (s.first < t)) (l := ss.drop n)).length_le
  rw [List.length_drop] at this
  omega
theorem fromS_le (ss : List Session) (t : Int) : fromS ss t ≤ ss.length := List.findIdx_le_length
/-- What is kept of sessions. -/
def sesOk (m : Nat) (s : Session) : Prop := s.acc.hist.length = m + 1 ∧ (-1099511627776 ≤ s.first ∧ s.first ≤ 1099511627776) ∧ (-1099511627776 ≤ s.last ∧ s.last ≤ 1099511627776)
theorem putP_acc {bs : List Int} {gap : Int} {ss : List Session} {x : Item} (h : (putP bs gap ss x).e = 0) : sesOk bs.length (sesOf (putP bs gap ss x).acc) := by
  have h0 := joinE0 h
  have hm := allFA_may h0.1.1
  have := joinFA_spec bs.length _ (zeroH bs.length) hm (fun h => by simp [zeroH, zeroA] at h) (by simp [zeroH, zeroA]) (by simp [zeroH]) rfl
  have hpos : 0 < cntA ((segL ss (fromS ss (x.time - gap)) (x.time + gap)).map Session.acc ++ [oneA x bs]) := by
    unfold cntA
    rw [List.map_append, List.sum_append]
    have hn : ∀ l : List Acc, (∀ y ∈ l, mayA y bs) → 0 ≤ (l.map Acc.count).sum := by
      intro l
      induction l with
      | nil => simp
      | cons y l ih =>
        intro hl
        have h1 := ih fun z hz => hl z (List.mem_cons_of_mem _ hz)
        have h2 := (hl y List.mem_cons_self).1.2.2.2
        simp only [List.map_cons, List.sum_cons]
        omega
    have := hn _ (fun y hy => hm y (List.mem_append_left _ hy))
    simp only [List.map_cons, List.map_nil, List.sum_cons, List.sum_nil, oneA]
    omega
  have hend := this.1 (by rw [this.2.2.2]; simp only [zeroH, zeroA]; omega)
  exact ⟨this.2.2.1, hend.1.2.2.1, hend.2.2.2.1⟩
theorem putS_ok {bs : List Int} {gap : Int} {ss : List Session} {x : Item} (h : (putP bs gap ss x).e = 0) (hs : ∀ s ∈ ss, sesOk bs.length s) : ∀ s ∈ putS bs gap ss x, sesOk bs.length s := by
  intro s hm
  rcases List.mem_append.1 hm with hm | hm
  · exact hs s (List.mem_of_mem_take hm)
  · rcases List.mem_cons.1 hm with rfl | hm
    · exact putP_acc h
    · exact hs s (List.mem_of_mem_drop hm)
theorem putS_len (bs : List Int) (gap : Int) (ss : List Session) (x : Item) : (putS bs gap ss x).length ≤ ss.length + 1 := by
  unfold putS
  have h1 := fromS_le ss (x.time - gap)
  have h2 := segL_le ss (fromS ss (x.time - gap)) (x.time + gap) h1
  simp only [List.length_append, List.length_cons, List.length_take, List.length_drop, putP]
  omega
end Bo
