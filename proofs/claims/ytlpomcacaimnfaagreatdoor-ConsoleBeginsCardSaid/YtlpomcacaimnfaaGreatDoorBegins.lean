/- Called with any text and any text, in whatever memory, bournelaw25.ConsoleBegins returns true and leaves all that was there as it was: the tied card. Condition: the listed package-level variables hold what the program's text lays in them (the card ties them). -/
import Derived.Test.YtlpomcacaimnfaaGreatDoorBase7
set_option linter.unusedVariables false
set_option linter.unusedSectionVars false
set_option linter.unusedSimpArgs false
namespace Bo
open Go Go.Proofs Go.RowKit
theorem lines_split (t : List UInt8) : ∀ (s cur : List UInt8), linesL cur (s ++ 10 :: t) = linesL cur s ++ linesL [] t
  | [], cur => by simp [linesL]
  | b :: s, cur => by
    rw [List.cons_append]
    simp only [linesL]
    split
    · rw [lines_split t s []]; rfl
    · rw [lines_split t s _]
theorem runS_split (s t : List UInt8) : runS (s ++ 10 :: t) = runS s ++ runS t := by
  unfold runS; rw [lines_split, List.flatMap_append]
theorem runS_nil : runS [] = [] := by
  unfold runS
  show tellL [] ++ [] = []
  rw [awake3]; rfl
theorem law_ConsoleBegins {I : Nat → Prop} {w : World} (f r : List UInt8) (hf : f.length ≤ 140737488355328) (hr : r.length ≤ 140737488355328) (hG : Gl I w) :
    Ct Tryz.prog 4 #[.string (bs8 f), .string (bs8 r)] I w (fun _ : Unit => .bool true) (fun _ _ _ => True) := by
  refine Ct.of (args := [_, _]) (F := Gl) Tryz.func4 rfl rfl hG fun hs => ?_
  refine sr (p 1 rfl (z ?_))
  refine C.seq ?_
  refine sr (c0 rfl hs (law_awake hs.f) fun w1 hs => p 1 rfl (z ?_))
  refine C.nay rfl ?_
  refine C.skip ?_
  refine sr (p 1 rfl (ct (s := bs8 f) (t := bs8 [10]) rfl (by rw [bs8_size, bs8_size]; simp; omega) ?_))
  rw [bs8_append]
  refine p 1 rfl (z ?_)
  generalize hA : f ++ [10] = A
  have hAl : A.length = f.length + 1 := by rw [← hA]; simp
  have hrA := console_Run (I := up I w.heap.size) (w := w1) A hs.f (by omega)
  unfold runV at hrA
  generalize hsA : (if 65536 < A.length then ([] : List UInt8) else runS A) = sA at hrA
  generalize heA : (if 65536 < A.length then (2501 : Int) else 0) = eA at hrA
  refine sr (p 1 rfl (c0 rfl hs hrA fun w2 hs => p 5 rfl (z ?_)))
  refine sr (p 2 rfl (ct (s := bs8 A) (t := bs8 r) rfl (by rw [bs8_size, bs8_size]; omega) ?_))
  rw [bs8_append]
  have hBl : (A ++ r).length = f.length + 1 + r.length := by rw [List.length_append, hAl]
  have hrB := console_Run (I := up I w.heap.size) (w := w2) (A ++ r) hs.f (by omega)
  unfold runV at hrB
  generalize hsB : (if 65536 < (A ++ r).length then ([] : List UInt8) else runS (A ++ r)) = sB at hrB
  generalize heB : (if 65536 < (A ++ r).length then (2501 : Int) else 0) = eB at hrB
  refine c0 rfl hs hrB fun w3 hs => p 5 rfl (z ?_)
  refine C.seq ?_
  refine sr (p 1 rfl (c0 rfl hs (law_Num eB) fun w4 hs => p 1 rfl (z ?_)))
  refine C.cond_dec rfl (fun h1 => ?_) fun h1 => ?_ -- t28
  · have hbig : 65536 < (A ++ r).length := Classical.byContradiction fun h => h1 (by rw [← heB, if_neg h])
    have eB0 : eB = 2501 := by rw [← heB, if_pos hbig]
    have sB0 : sB = [] := by rw [← hsB, if_pos hbig]
    subst eB0 sB0
    refine src (fun ρ w' => ρ 4 = .bool true ∧ ∃ F, St N0 I w (up I w.heap.size) [] F w') ?_ ?_
    · refine p 2 rfl (ct (s := bs8 A) (t := bs8 r) rfl (by rw [bs8_size, bs8_size]; omega) ?_)
      rw [bs8_append]
      refine p 3 rfl (gd 34 rfl (fun h => ?_) fun h => absurd (by rw [bs8_size]; omega) h)
      refine p 1 rfl (c0 rfl hs (law_Num 2501) fun w5 hs => p 3 rfl (gd 39 rfl (fun h => ?_) fun h => absurd rfl h))
      exact p 4 rfl (z ⟨vb rfl (decide_eq_true rfl), _, hs⟩)
    rintro ρ w' ⟨h0, F, hs⟩
    refine C.nm 4 h0 ?_
    refine C.ret ?_
    exact e1 rfl rfl hs () rfl trivial
  · have hno : ¬ 65536 < (A ++ r).length := fun h => h1 (by rw [← heB, if_pos h]; decide)
    have eA0 : eA = 0 := by rw [← heA, if_neg (by omega)]
    have sA0 : sA = runS A := by rw [← hsA, if_neg (by omega)]
    have sB0 : sB = sA ++ runS r := by
      rw [← hsB, if_neg hno, sA0, ← hA, List.append_assoc]
      show runS (f ++ 10 :: r) = runS (f ++ 10 :: []) ++ runS r
      rw [runS_split, runS_split, runS_nil, List.append_nil]
    subst eA0
    refine C.skip ?_
    refine src (fun ρ w' => ρ 4 = .bool true ∧ ∃ F, St N0 I w (up I w.heap.size) [] F w') ?_ ?_
    · refine p 1 rfl (c0 rfl hs (law_Num 0) fun w5 hs => p 2 rfl (gd 46 rfl (fun h => ?_) fun h => absurd rfl h))
      refine p 7 rfl (gd 53 rfl (fun h => ?_) fun h => absurd (by rw [bs8_size, bs8_size, sB0, List.length_append]; omega) h)
      refine p 3 rfl (ss 0 sA.length rfl (by rw [bs8_size]; rfl) rfl (by rw [bs8_size, sB0]; simp) (Nat.zero_le _) ?_)
      refine p 4 rfl (z ⟨vb rfl (decide_eq_true ?_), _, hs⟩)
      rw [ByteArray.toList_eq, ByteArray.toList_eq, Lib.extract_from_zero, sB0]
      simp
    rintro ρ w' ⟨h0, F, hs⟩
    refine C.nm 4 h0 ?_
    refine C.ret ?_
    exact e1 rfl rfl hs () rfl trivial
end Bo
namespace Go.Proofs.YtlpomcacaimnfaaGreatDoor
open Go.ChangeShapes Go.WideShapes Go.ChangeAt Go.RowKit
namespace begins
theorem laidOut : laidOutB Tryz.prog = true := by kernel_rfl
set_option maxRecDepth 100000 in
/-- What the walk gives, for all arguments and every world that holds the list. -/
theorem contract (H : Type) (enc : TypeId × Value → H) (W : World) (base : Nat) (args : Array Value) (ds gs : List (DataW H)) (before : List MemPlace)
    (hval : ∀ (j : Nat) t v, Tryz.f4.params[j]? = some t → args[j]? = some v → Value.okWide Tryz.prog W .any base t v)
    (hW : DataW.Whole enc Tryz.prog Tryz.f4.params.toList Rows.consoleBeginsSpec.vars false W args.toList ds gs before)
    (hsz : (DataW.weightsEach Tryz.prog (Tryz.f4.params.toList ++ (OpenSpec.ofChange Rows.consoleBeginsSpec).bare.plain.varTypes Tryz.prog) (ds ++ gs)).all (· ≤ reachBytes) = true) (hG : Bo.Gl (fun _ => True) W) :
    Calls Tryz.prog 4 args W fun e W' => ∃ v, e = .returned v ∧ Rows.consoleBeginsSpec.post enc Tryz.prog Tryz.f4 false true false false W args v W' := by
  have hW' := hW
  obtain ⟨p, q, hA0, hV, rfl, hfz, hnd⟩ := hW
  have hA : DataW.TrodAll enc Tryz.prog W 0 (fun _ => true) true Tryz.f4.params.toList args.toList ds p := hA0
  rw [Tryz.params4] at hA hval
  rw [Tryz.params4] at hsz
  obtain ⟨v0, vs0, d0, ds0, p0, q0, hargs, rfl, hp, h0, r0⟩ := trodAll_cons hA
  obtain ⟨v1, vs1, d1, ds1, p1, q1, rfl, rfl, rfl, h1, r1⟩ := trodAll_cons r0
  obtain ⟨rfl, rfl, rfl⟩ := trodAll_nil r1
  obtain rfl : args = #[v0, v1] := by cases args; simp_all
  obtain ⟨rfl, rfl⟩ := trodVars_none hV
  subst hp
  clear hA0
  simp only [List.append_nil] at hW'
  have hlt : ∀ x ∈ p0 ++ p1, x.block < W.heap.size := fun x hx => by simpa using hW'.lt x hx
  have k0 : ∀ (W' : World), Below W.heap.size W W' → DataW.Trod enc Tryz.prog W' 0 (fun b => decide (b < W.heap.size)) true 9 v0 d0 p0 :=
    fun W' hn => Below.trod laidOut (by kernel_rfl) (of_decide_eq_true (by kernel_rfl)) h0 hn fun x hx => hlt x (by simp [hx])
  have k1 : ∀ (W' : World), Below W.heap.size W W' → DataW.Trod enc Tryz.prog W' 0 (fun b => decide (b < W.heap.size)) true 9 v1 d1 p1 :=
    fun W' hn => Below.trod laidOut (by kernel_rfl) (of_decide_eq_true (by kernel_rfl)) h1 hn fun x hx => hlt x (by simp [hx])
  obtain ⟨s0, rfl, rfl, rfl, w0⟩ := Go.ChangeMaps.open_string Tryz.underlying9 (hval 0 9 v0 (by simp) (by simp)) h0
  obtain ⟨s1, rfl, rfl, rfl, w1⟩ := Go.ChangeMaps.open_string Tryz.underlying9 (hval 1 9 v1 (by simp) (by simp)) h1
  simp [DataW.weightsEach, DataW.weights, reachBytes] at hsz
  obtain ⟨z0, z1⟩ := hsz
  have l0 : s0.data.toList.length ≤ 140737488355328 := by
    have := of_decide_eq_true z0
    rw [Array.length_toList]
    exact Nat.le_trans this (by decide)
  have e0 := Bo.bs8_data s0
  have l1 : s1.data.toList.length ≤ 140737488355328 := by
    have := of_decide_eq_true z1
    rw [Array.length_toList]
    exact Nat.le_trans this (by decide)
  have e1 := Bo.bs8_data s1
  have hlaw := Bo.law_ConsoleBegins (I := fun _ => True) (w := W) s0.data.toList s1.data.toList l0 l1 hG
  rw [e0] at hlaw
  rw [e1] at hlaw
  refine hlaw.2.mono fun e W' ⟨v, he, _, hv, hb, _⟩ => ?_
  subst he hv
  exact ⟨_, rfl, _, _, _, [], _, [], hW', trodAll_mk1 (shut_bool Tryz.underlying4 _), trodAll_cons_mk (k0 _ hb) (trodAll_cons_mk (k1 _ hb) trodAll_mk0), rfl, hb.frame _, fun h => by cases h⟩
abbrev wit : Array Value := #[.string (Bo.bs8 []), .string (Bo.bs8 [])]
noncomputable abbrev start (os : Os) : World := World.laidAll Tryz.prog os Rows.consoleBeginsRow.laid
theorem shaped (os : Os) : ((start os).forCall (fun _ _ => 0) ⟨#[], wit, []⟩).Shaped Tryz.prog := World.shaped_of_ZipB (by kernel_rfl) (by kernel_rfl)
theorem laid_met (os : Os) : laidMet Tryz.prog Rows.consoleBeginsRow.laid ((start os).forCall (fun _ _ => 0) ⟨#[], wit, []⟩).memory := laidMet_laidAll _ (by kernel_rfl) (by kernel_rfl)
theorem reads (os : Os) {H : Type} (enc : TypeId × Value → H) : ∃ places, DataW.whole enc Tryz.prog ((start os).forCall (fun _ _ => 0) ⟨#[], wit, []⟩).memory Tryz.f4.params.toList Rows.consoleBeginsSpec.vars false wit.toList 8 = some ([.lit (.string []), .lit (.string [])], [], places) :=
  ⟨[], by kernel_rfl⟩
theorem okw (os : Os) : Input.okWideB Tryz.prog ((start os).forCall (fun _ _ => 0) ⟨#[], wit, []⟩) 4 ⟨#[], wit, []⟩ = true := by kernel_rfl
set_option maxRecDepth 100000 in
theorem lifted (os : Os) (started : os.Started) (H : Type) (enc : TypeId × Value → H) (F : Stop.Interp) :
    ReturnsInHanded {} Tryz.checked os 4 .any ((OpenSpec.ofChange Rows.consoleBeginsSpec).preRow enc Tryz.prog Tryz.f4 Rows.consoleBeginsRow.domain false Rows.consoleBeginsRow.laid) (((OpenSpec.ofChange Rows.consoleBeginsSpec).at F).post enc Tryz.prog Tryz.f4 false true false false) := by
  obtain ⟨places, hx⟩ := reads os enc
  refine returnsInHanded_of_row (C := Tryz.checked) (s := OpenSpec.ofChange Rows.consoleBeginsSpec) own started (by kernel_rfl) Tryz.func4 ?_ ?_
  · refine ⟨start os, fun _ _ => 0, ⟨#[], wit, []⟩, World.laidAll_os _ _ _, shaped os, (Input.okWide_of_okWideB (base := 0) (okw os)).1, (Input.okWide_of_okWideB (okw os)).2,
      OpenSpec.preRow_of_cond 8 hx (by kernel_rfl) (fun k hk => by cases hk) (by kernel_rfl) (laid_met os), ?_⟩
    simp only [Assume.holds]
    exact ⟨by simp, by simp, fun _ => Modest.zero, by simp, by simp⟩
  · intro W base args ds gs before hval hW _ _ hsz hL hS _
    exact contract H enc W base args ds gs before hval hW hsz (gl_of hL hS)
theorem said : Rows.ConsoleBeginsSaid :=
  OpenClaim.holds_of_cond 4 Tryz.f4 rfl rfl rfl rfl rfl rfl rfl ⟨rfl, rfl, rfl, rfl, rfl⟩ rfl rfl rfl rfl rfl (by kernel_rfl) Tryz.func4 (by kernel_rfl)
    (of_decide_eq_true (by kernel_rfl)) (by unfold Func.isWrapper; first | (rw [if_pos (by decide +kernel)]; kernel_rfl) | (rw [if_neg (by decide +kernel)]; exact ⟨rfl, rfl⟩))
    (fun os started H enc _ F => by rw [OpenClaim.pre_eq_preRow]; exact lifted os started H enc F)
/-- No parameter wants a stand-in; the program's own looks are off. -/
theorem plain (f : FuncId) (fn : Func) (hf : Tryz.pinned.checked.prog.funcNamed "bourne/bournelaw25.ConsoleBegins" = some f) (hfn : Tryz.pinned.checked.prog.funcs[f]? = some fn) :
    true = Tryz.pinned.checked.prog.looks [] ∧ ∀ (j : Nat) t, fn.params[j]? = some t → Tryz.pinned.checked.prog.wantsStandIn t = false := by
  obtain rfl : f = 4 := Option.some.inj ((show Tryz.prog.funcNamed "bourne/bournelaw25.ConsoleBegins" = some 4 by kernel_rfl).symm.trans hf) |>.symm
  obtain rfl : fn = Tryz.f4 := (Option.some.inj (Tryz.func4.symm.trans hfn)).symm
  refine ⟨by kernel_rfl, fun j t ht => ?_⟩
  rw [Tryz.params4] at ht
  have hm : t ∈ [9, 9] := by simpa using Array.mem_of_getElem? ht
  obtain rfl : t = 9 := by simpa using hm
  exact (show Tryz.prog.wantsStandIn 9 = false by kernel_rfl)
theorem card : Rows.ConsoleBeginsCardSaid :=
  Claim7.holds_tied_plain_at .later [] _ _ _ _ said (fun _ h => by cases h) (by kernel_rfl) (fun _ h => by cases h) consoleBegins_row_tie rfl ⟨rfl, rfl⟩ (by kernel_rfl) rfl plain (by kernel_rfl)
#print axioms card
end begins
end Go.Proofs.YtlpomcacaimnfaaGreatDoor
