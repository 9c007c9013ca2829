/- Called with any whole number, in whatever memory, bournelaw25.ConsoleWrong returns true and leaves all that was there as it was: the tied card. Condition: the listed package-level variables hold what the program's text lays in them (the card ties them). -/
import Derived.Test.YtlpomcacaimnfaaGreatDoorBase7
set_option linter.unusedVariables false
set_option linter.unusedSectionVars false
set_option linter.unusedSimpArgs false
namespace Bo
open Go Go.Proofs Go.RowKit
def lsW : List (List UInt8) := [[102, 108, 111, 111, 114, 32, 49], [102, 108, 111, 111, 114, 32, 49, 32, 50, 32, 51], [102, 108, 111, 111, 114, 32, 97, 32, 49], [70, 108, 111, 111, 114, 32, 49, 32, 50], [119, 105, 110, 100, 111, 119, 115, 32, 49, 32, 50], [115, 101, 115, 115, 105, 111, 110, 115], [115, 111, 114, 116, 32, 49, 32, 45, 45, 50], [115, 111, 114, 116, 32, 49, 50, 51, 52, 53, 54, 55], [102, 108, 111, 111, 114, 32, 49, 32, 45], [115, 117, 109, 120], [48], [102, 108, 111, 111, 114, 32, 52, 32, 48], [119, 105, 110, 100, 111, 119, 115, 32, 48, 32, 49, 32, 53], [119, 105, 110, 100, 111, 119, 115, 32, 53, 32, 54, 32, 49], [115, 101, 115, 115, 105, 111, 110, 115, 32, 48]]
def wantW : List (List UInt8) := [[101, 114, 114, 111, 114, 32, 50, 53, 48, 48], [101, 114, 114, 111, 114, 32, 50, 53, 48, 48], [101, 114, 114, 111, 114, 32, 50, 53, 48, 48], [101, 114, 114, 111, 114, 32, 50, 53, 48, 48], [101, 114, 114, 111, 114, 32, 50, 53, 48, 48], [101, 114, 114, 111, 114, 32, 50, 53, 48, 48], [101, 114, 114, 111, 114, 32, 50, 53, 48, 48], [101, 114, 114, 111, 114, 32, 50, 53, 48, 48], [101, 114, 114, 111, 114, 32, 50, 53, 48, 48], [101, 114, 114, 111, 114, 32, 50, 53, 48, 48], [101, 114, 114, 111, 114, 32, 50, 53, 48, 48], [101, 114, 114, 111, 114, 32, 51, 48, 48], [101, 114, 114, 111, 114, 32, 52, 48, 48], [101, 114, 114, 111, 114, 32, 52, 48, 48], [101, 114, 114, 111, 114, 32, 54, 48, 48]]
theorem fault400 : faultS 400 = [101, 114, 114, 111, 114, 32, 52, 48, 48] := by unfold faultS; simp [Lib.itoa, Lib.decDigits]
theorem fault600 : faultS 600 = [101, 114, 114, 111, 114, 32, 54, 48, 48] := by unfold faultS; simp [Lib.itoa, Lib.decDigits]
theorem wrong0 : tellL [102, 108, 111, 111, 114, 32, 49] = [101, 114, 114, 111, 114, 32, 50, 53, 48, 48, 10] := by
  refine tellL_of (v := [102, 108, 111, 111, 114]) (r := [[49]]) (s := [101, 114, 114, 111, 114, 32, 50, 53, 48, 48]) (by decide +kernel) (by decide) ?_
  rw [lineS_bad (xs := [1]) (by decide) (by decide +kernel) (by rfl), fault2500]
theorem wrong1 : tellL [102, 108, 111, 111, 114, 32, 49, 32, 50, 32, 51] = [101, 114, 114, 111, 114, 32, 50, 53, 48, 48, 10] := by
  refine tellL_of (v := [102, 108, 111, 111, 114]) (r := [[49], [50], [51]]) (s := [101, 114, 114, 111, 114, 32, 50, 53, 48, 48]) (by decide +kernel) (by decide) ?_
  rw [lineS_bad (xs := [1, 2, 3]) (by decide) (by decide +kernel) (by rfl), fault2500]
theorem wrong2 : tellL [102, 108, 111, 111, 114, 32, 97, 32, 49] = [101, 114, 114, 111, 114, 32, 50, 53, 48, 48, 10] := by
  refine tellL_of (v := [102, 108, 111, 111, 114]) (r := [[97], [49]]) (s := [101, 114, 114, 111, 114, 32, 50, 53, 48, 48]) (by decide +kernel) (by decide) ?_
  rw [lineS_bad (xs := []) (by decide) (by decide +kernel) (by rfl), fault2500]
theorem wrong3 : tellL [70, 108, 111, 111, 114, 32, 49, 32, 50] = [101, 114, 114, 111, 114, 32, 50, 53, 48, 48, 10] := by
  refine tellL_of (v := [70, 108, 111, 111, 114]) (r := [[49], [50]]) (s := [101, 114, 114, 111, 114, 32, 50, 53, 48, 48]) (by decide +kernel) (by decide) ?_
  rw [lineS_bad (xs := [1, 2]) (by decide) (by decide +kernel) (by rfl), fault2500]
theorem wrong4 : tellL [119, 105, 110, 100, 111, 119, 115, 32, 49, 32, 50] = [101, 114, 114, 111, 114, 32, 50, 53, 48, 48, 10] := by
  refine tellL_of (v := [119, 105, 110, 100, 111, 119, 115]) (r := [[49], [50]]) (s := [101, 114, 114, 111, 114, 32, 50, 53, 48, 48]) (by decide +kernel) (by decide) ?_
  rw [lineS_bad (xs := [1, 2]) (by decide) (by decide +kernel) (by rfl), fault2500]
theorem wrong5 : tellL [115, 101, 115, 115, 105, 111, 110, 115] = [101, 114, 114, 111, 114, 32, 50, 53, 48, 48, 10] := by
  refine tellL_of (v := [115, 101, 115, 115, 105, 111, 110, 115]) (r := []) (s := [101, 114, 114, 111, 114, 32, 50, 53, 48, 48]) (by decide +kernel) (by decide) ?_
  rw [lineS_bad (xs := []) (by decide) (by decide +kernel) (by rfl), fault2500]
theorem wrong6 : tellL [115, 111, 114, 116, 32, 49, 32, 45, 45, 50] = [101, 114, 114, 111, 114, 32, 50, 53, 48, 48, 10] := by
  refine tellL_of (v := [115, 111, 114, 116]) (r := [[49], [45, 45, 50]]) (s := [101, 114, 114, 111, 114, 32, 50, 53, 48, 48]) (by decide +kernel) (by decide) ?_
  rw [lineS_bad (xs := []) (by decide) (by decide +kernel) (by rfl), fault2500]
theorem wrong7 : tellL [115, 111, 114, 116, 32, 49, 50, 51, 52, 53, 54, 55] = [101, 114, 114, 111, 114, 32, 50, 53, 48, 48, 10] := by
  refine tellL_of (v := [115, 111, 114, 116]) (r := [[49, 50, 51, 52, 53, 54, 55]]) (s := [101, 114, 114, 111, 114, 32, 50, 53, 48, 48]) (by decide +kernel) (by decide) ?_
  rw [lineS_bad (xs := []) (by decide) (by decide +kernel) (by rfl), fault2500]
theorem wrong8 : tellL [102, 108, 111, 111, 114, 32, 49, 32, 45] = [101, 114, 114, 111, 114, 32, 50, 53, 48, 48, 10] := by
  refine tellL_of (v := [102, 108, 111, 111, 114]) (r := [[49], [45]]) (s := [101, 114, 114, 111, 114, 32, 50, 53, 48, 48]) (by decide +kernel) (by decide) ?_
  rw [lineS_bad (xs := []) (by decide) (by decide +kernel) (by rfl), fault2500]
theorem wrong9 : tellL [115, 117, 109, 120] = [101, 114, 114, 111, 114, 32, 50, 53, 48, 48, 10] := by
  refine tellL_of (v := [115, 117, 109, 120]) (r := []) (s := [101, 114, 114, 111, 114, 32, 50, 53, 48, 48]) (by decide +kernel) (by decide) ?_
  rw [lineS_bad (xs := []) (by decide) (by decide +kernel) (by rfl), fault2500]
theorem wrong10 : tellL [48] = [101, 114, 114, 111, 114, 32, 50, 53, 48, 48, 10] := by
  refine tellL_of (v := [48]) (r := []) (s := [101, 114, 114, 111, 114, 32, 50, 53, 48, 48]) (by decide +kernel) (by decide) ?_
  rw [lineS_bad (xs := []) (by decide) (by decide +kernel) (by rfl), fault2500]
theorem wrong11 : tellL [102, 108, 111, 111, 114, 32, 52, 32, 48] = [101, 114, 114, 111, 114, 32, 51, 48, 48, 10] := by
  refine tellL_of (v := [102, 108, 111, 111, 114]) (r := [[52], [48]]) (s := [101, 114, 114, 111, 114, 32, 51, 48, 48]) (by decide +kernel) (by decide) ?_
  rw [lineS_cmd (xs := [4, 0]) floorC (by decide) (by decide +kernel) (by rfl)]
  have h0 : (floorC.does [4, 0]).1 = 300 := by decide +kernel
  unfold outS
  rw [if_neg (by rw [h0]; decide), h0]
  exact fault300
theorem wrong12 : tellL [119, 105, 110, 100, 111, 119, 115, 32, 48, 32, 49, 32, 53] = [101, 114, 114, 111, 114, 32, 52, 48, 48, 10] := by
  refine tellL_of (v := [119, 105, 110, 100, 111, 119, 115]) (r := [[48], [49], [53]]) (s := [101, 114, 114, 111, 114, 32, 52, 48, 48]) (by decide +kernel) (by decide) ?_
  rw [lineS_cmd (xs := [0, 1, 5]) windowsC (by decide) (by decide +kernel) (by rfl)]
  have h0 : (windowsC.does [0, 1, 5]).1 = 400 := by decide +kernel
  unfold outS
  rw [if_neg (by rw [h0]; decide), h0]
  exact fault400
theorem wrong13 : tellL [119, 105, 110, 100, 111, 119, 115, 32, 53, 32, 54, 32, 49] = [101, 114, 114, 111, 114, 32, 52, 48, 48, 10] := by
  refine tellL_of (v := [119, 105, 110, 100, 111, 119, 115]) (r := [[53], [54], [49]]) (s := [101, 114, 114, 111, 114, 32, 52, 48, 48]) (by decide +kernel) (by decide) ?_
  rw [lineS_cmd (xs := [5, 6, 1]) windowsC (by decide) (by decide +kernel) (by rfl)]
  have h0 : (windowsC.does [5, 6, 1]).1 = 400 := by decide +kernel
  unfold outS
  rw [if_neg (by rw [h0]; decide), h0]
  exact fault400
theorem wrong14 : tellL [115, 101, 115, 115, 105, 111, 110, 115, 32, 48] = [101, 114, 114, 111, 114, 32, 54, 48, 48, 10] := by
  refine tellL_of (v := [115, 101, 115, 115, 105, 111, 110, 115]) (r := [[48]]) (s := [101, 114, 114, 111, 114, 32, 54, 48, 48]) (by decide +kernel) (by decide) ?_
  rw [lineS_cmd (xs := [0]) sessionsC (by decide) (by decide +kernel) (by rfl)]
  have h0 : (sessionsC.does [0]).1 = 600 := by decide +kernel
  unfold outS
  rw [if_neg (by rw [h0]; decide), h0]
  exact fault600
theorem wrong_tab : ∀ q ∈ lsW.zip wantW, tellL q.1 = q.2 ++ [10] ∧ ∀ b ∈ q.1, b ≠ 10 := by
  simp only [lsW, wantW, List.zip_cons_cons, List.zip_nil_right, List.mem_cons, List.not_mem_nil, or_false]
  rintro q (rfl | rfl | rfl | rfl | rfl | rfl | rfl | rfl | rfl | rfl | rfl | rfl | rfl | rfl | rfl)
  · exact ⟨wrong0, by decide⟩
  · exact ⟨wrong1, by decide⟩
  · exact ⟨wrong2, by decide⟩
  · exact ⟨wrong3, by decide⟩
  · exact ⟨wrong4, by decide⟩
  · exact ⟨wrong5, by decide⟩
  · exact ⟨wrong6, by decide⟩
  · exact ⟨wrong7, by decide⟩
  · exact ⟨wrong8, by decide⟩
  · exact ⟨wrong9, by decide⟩
  · exact ⟨wrong10, by decide⟩
  · exact ⟨wrong11, by decide⟩
  · exact ⟨wrong12, by decide⟩
  · exact ⟨wrong13, by decide⟩
  · exact ⟨wrong14, by decide⟩
theorem wrong_run {k : Nat} {l v : List UInt8} (hl : lsW[k]? = some l) (hv : wantW[k]? = some v) : runS ([102, 108, 111, 111, 114, 32, 57, 32, 50, 10] ++ l) = [52, 32, 49, 10] ++ v ++ [10] := by
  have hz : (lsW.zip wantW)[k]? = some (l, v) := by rw [List.getElem?_zip_eq_some]; exact ⟨hl, hv⟩
  obtain ⟨h1, h2⟩ := wrong_tab _ (List.mem_of_getElem? hz)
  have e : ([102, 108, 111, 111, 114, 32, 57, 32, 50, 10] : List UInt8) ++ l = [102, 108, 111, 111, 114, 32, 57, 32, 50] ++ 10 :: l := by simp
  rw [e, runS_cons l (by decide), runS_one h2, h1]
  have h3 : tellL [102, 108, 111, 111, 114, 32, 57, 32, 50] = [52, 32, 49, 10] := by
    refine tellL_of (v := [102, 108, 111, 111, 114]) (r := [[57], [50]]) (s := [52, 32, 49]) (by decide +kernel) (by decide) ?_
    rw [lineS_cmd (xs := [9, 2]) floorC (by decide) (by decide +kernel) (by rfl)]
    show divS 9 2 = _
    unfold divS toldS
    simp [Lib.itoa, Lib.decDigits, Lib.join, List.intercalate, List.intersperse]
  rw [h3]
  simp
theorem u64_nat (n : Int) : ∃ m : Nat, m ≤ 18446744073709551615 ∧ IntKind.u64.wrap n = (m : Int) := by
  refine ⟨(IntKind.u64.wrap n).toNat, ?_, ?_⟩ <;> simp [IntKind.wrap, IntKind.bits, IntKind.signed] <;> omega
theorem law_ConsoleWrong {I : Nat → Prop} {w : World} (n : Int) (hG : Gl I w) :
    Ct Tryz.prog 7 #[.int .i64 n] I w (fun _ : Unit => .bool true) (fun _ _ _ => True) := by
  refine Ct.of (args := [_]) (F := Gl) Tryz.func7 rfl rfl hG fun hs => ?_
  refine sr (p 1 rfl (z ?_))
  refine C.seq ?_
  refine sr (c0 rfl hs (law_awake hs.f) fun w1 hs => p 1 rfl (z ?_))
  refine C.nay rfl ?_
  refine C.skip ?_
  refine sr (bs ((lsW.map bs8).map tc) hs rfl fun a1 w2 hs => p 1 rfl (z ?_))
  refine sr (bs ((wantW.map bs8).map tc) hs rfl fun a2 w3 hs => p 1 rfl (z ?_))
  obtain ⟨m, hm, hw⟩ := u64_nat n
  refine src (fun ρ w' => ρ 3 = .slice a1 15 15 ∧ ρ 4 = .slice a2 15 15 ∧ ρ 5 = .int .i64 (m % 15 : Nat) ∧ St N0 I w (up I w.heap.size) [] (fun J w => Rc 1 a2 15 ((wantW.map bs8).map tc) J w ∧ Rc 1 a1 15 ((lsW.map bs8).map tc) J w ∧ Gl J w) w') ?_ ?_
  · refine p 2 rfl (Wl.nm 13 (v := .int .u64 (m : Int)) (vi rfl hw) (um rfl (by decide) (p 2 rfl (z ⟨rfl, rfl, vi rfl ?_, hs⟩))))
    have h15 := Nat.mod_lt m (show 0 < 15 by decide)
    show IntKind.i64.wrap ((m % 15 : Nat) : Int) = _
    exact wrap_i64 (by omega)
  rintro ρ w4 ⟨h3, h4, h5, hs⟩
  have hk : m % 15 < 15 := Nat.mod_lt _ (by decide)
  generalize m % 15 = k at hk h5
  refine C.nm 3 h3 (C.nm 4 h4 (C.nm 5 h5 ?_))
  obtain ⟨l, hl⟩ : ∃ l, lsW[k]? = some l := ⟨_, List.getElem?_eq_getElem (show k < lsW.length from hk)⟩
  obtain ⟨v, hv⟩ : ∃ v, wantW[k]? = some v := ⟨_, List.getElem?_eq_getElem (show k < wantW.length from hk)⟩
  have hll : l.length ≤ 1000 := (show ∀ x ∈ lsW, x.length ≤ 1000 by decide) l (List.mem_of_getElem? hl)
  have hvl : v.length ≤ 1000 := (show ∀ x ∈ wantW, x.length ≤ 1000 by decide) v (List.mem_of_getElem? hv)
  have hrun := wrong_run hl hv
  refine sr (p 2 rfl (ixn k rfl hs.f.2.1 rfl (map_get (enc := tc) (x := bs8 l) (by simp [hl])) fun b off hat => l1 0 rfl hat rfl rfl ?_))
  refine ct (s := bs8 [102, 108, 111, 111, 114, 32, 57, 32, 50, 10]) (t := bs8 l) rfl (by rw [bs8_size, bs8_size]; simp; omega) ?_
  rw [bs8_append]
  refine c0 rfl hs (console_Run0 _ hs.f.2.2 (by simp; omega)) fun w7 hs => ?_
  rw [hrun]
  refine p 5 rfl (z ?_)
  refine src (fun ρ w' => ρ 2 = .bool true ∧ ∃ F, St N0 I w (up I w.heap.size) [] F w') ?_ ?_
  · refine p 1 rfl (c0 rfl hs (law_Num 0) fun w8 hs => p 2 rfl (gd 28 rfl (fun h => ?_) fun h => absurd rfl h))
    refine p 3 rfl (ixn k rfl hs.f.1 rfl (map_get (enc := tc) (x := bs8 v) (by simp [hv])) fun b off hat => l1 0 rfl hat rfl rfl ?_)
    refine ct (s := bs8 [52, 32, 49, 10]) (t := bs8 v) rfl (by rw [bs8_size, bs8_size]; simp; omega) ?_
    rw [bs8_append]
    refine ct (s := bs8 ([52, 32, 49, 10] ++ v)) (t := bs8 [10]) rfl (by rw [bs8_size, bs8_size]; simp; omega) ?_
    rw [bs8_append]
    exact p 3 rfl (z ⟨vb rfl (decide_eq_true rfl), _, hs⟩)
  rintro ρ w' ⟨h0, F, hs⟩
  refine C.nm 2 h0 ?_
  refine C.ret ?_
  exact e1 rfl rfl hs () rfl trivial
end Bo
namespace Go.Proofs.YtlpomcacaimnfaaGreatDoor
open Go.ChangeShapes Go.WideShapes Go.ChangeAt Go.RowKit
namespace wrong
theorem laidOut : laidOutB Tryz.prog = true := by kernel_rfl
set_option maxRecDepth 100000 in
/-- What the walk gives, for all arguments and every world that holds the list. -/
theorem contract (H : Type) (enc : TypeId × Value → H) (W : World) (base : Nat) (args : Array Value) (ds gs : List (DataW H)) (before : List MemPlace)
    (hval : ∀ (j : Nat) t v, Tryz.f7.params[j]? = some t → args[j]? = some v → Value.okWide Tryz.prog W .any base t v)
    (hW : DataW.Whole enc Tryz.prog Tryz.f7.params.toList Rows.consoleWrongSpec.vars false W args.toList ds gs before)
    (hsz : (DataW.weightsEach Tryz.prog (Tryz.f7.params.toList ++ (OpenSpec.ofChange Rows.consoleWrongSpec).bare.plain.varTypes Tryz.prog) (ds ++ gs)).all (· ≤ reachBytes) = true) (hG : Bo.Gl (fun _ => True) W) :
    Calls Tryz.prog 7 args W fun e W' => ∃ v, e = .returned v ∧ Rows.consoleWrongSpec.post enc Tryz.prog Tryz.f7 false true false false W args v W' := by
  have hW' := hW
  obtain ⟨p, q, hA0, hV, rfl, hfz, hnd⟩ := hW
  have hA : DataW.TrodAll enc Tryz.prog W 0 (fun _ => true) true Tryz.f7.params.toList args.toList ds p := hA0
  rw [Tryz.params7] at hA hval
  rw [Tryz.params7] at hsz
  obtain ⟨v0, vs0, d0, ds0, p0, q0, hargs, rfl, hp, h0, r0⟩ := trodAll_cons hA
  obtain ⟨rfl, rfl, rfl⟩ := trodAll_nil r0
  obtain rfl : args = #[v0] := by cases args; simp_all
  obtain ⟨rfl, rfl⟩ := trodVars_none hV
  subst hp
  clear hA0
  simp only [List.append_nil] at hW'
  have hlt : ∀ x ∈ p0, x.block < W.heap.size := fun x hx => by simpa using hW'.lt x hx
  have k0 : ∀ (W' : World), Below W.heap.size W W' → DataW.Trod enc Tryz.prog W' 0 (fun b => decide (b < W.heap.size)) true 3 v0 d0 p0 :=
    fun W' hn => Below.trod laidOut (by kernel_rfl) (of_decide_eq_true (by kernel_rfl)) h0 hn fun x hx => hlt x (by simp [hx])
  obtain ⟨x0, rfl, rfl, rfl, w0⟩ := open_int Tryz.underlying3 (hval 0 3 v0 (by simp) (by simp)) h0
  have hlaw := Bo.law_ConsoleWrong (I := fun _ => True) (w := W) x0 hG
  refine hlaw.2.mono fun e W' ⟨v, he, _, hv, hb, _⟩ => ?_
  subst he hv
  exact ⟨_, rfl, _, _, _, [], _, [], hW', trodAll_mk1 (shut_bool Tryz.underlying4 _), trodAll_cons_mk (k0 _ hb) trodAll_mk0, rfl, hb.frame _, fun h => by cases h⟩
abbrev wit : Array Value := #[.int .i64 0]
noncomputable abbrev start (os : Os) : World := World.laidAll Tryz.prog os Rows.consoleWrongRow.laid
theorem shaped (os : Os) : ((start os).forCall (fun _ _ => 0) ⟨#[], wit, []⟩).Shaped Tryz.prog := World.shaped_of_ZipB (by kernel_rfl) (by kernel_rfl)
theorem laid_met (os : Os) : laidMet Tryz.prog Rows.consoleWrongRow.laid ((start os).forCall (fun _ _ => 0) ⟨#[], wit, []⟩).memory := laidMet_laidAll _ (by kernel_rfl) (by kernel_rfl)
theorem reads (os : Os) {H : Type} (enc : TypeId × Value → H) : ∃ places, DataW.whole enc Tryz.prog ((start os).forCall (fun _ _ => 0) ⟨#[], wit, []⟩).memory Tryz.f7.params.toList Rows.consoleWrongSpec.vars false wit.toList 8 = some ([.lit (.int .i64 0)], [], places) :=
  ⟨[], by kernel_rfl⟩
theorem okw (os : Os) : Input.okWideB Tryz.prog ((start os).forCall (fun _ _ => 0) ⟨#[], wit, []⟩) 7 ⟨#[], wit, []⟩ = true := by kernel_rfl
set_option maxRecDepth 100000 in
theorem lifted (os : Os) (started : os.Started) (H : Type) (enc : TypeId × Value → H) (F : Stop.Interp) :
    ReturnsInHanded {} Tryz.checked os 7 .any ((OpenSpec.ofChange Rows.consoleWrongSpec).preRow enc Tryz.prog Tryz.f7 Rows.consoleWrongRow.domain false Rows.consoleWrongRow.laid) (((OpenSpec.ofChange Rows.consoleWrongSpec).at F).post enc Tryz.prog Tryz.f7 false true false false) := by
  obtain ⟨places, hx⟩ := reads os enc
  refine returnsInHanded_of_row (C := Tryz.checked) (s := OpenSpec.ofChange Rows.consoleWrongSpec) own started (by kernel_rfl) Tryz.func7 ?_ ?_
  · refine ⟨start os, fun _ _ => 0, ⟨#[], wit, []⟩, World.laidAll_os _ _ _, shaped os, (Input.okWide_of_okWideB (base := 0) (okw os)).1, (Input.okWide_of_okWideB (okw os)).2,
      OpenSpec.preRow_of_cond 8 hx (by kernel_rfl) (fun k hk => by cases hk) (by kernel_rfl) (laid_met os), ?_⟩
    simp only [Assume.holds]
    exact ⟨by simp, by simp, fun _ => Modest.zero, by simp, by simp⟩
  · intro W base args ds gs before hval hW _ _ hsz hL hS _
    exact contract H enc W base args ds gs before hval hW hsz (gl_of hL hS)
theorem said : Rows.ConsoleWrongSaid :=
  OpenClaim.holds_of_cond 7 Tryz.f7 rfl rfl rfl rfl rfl rfl rfl ⟨rfl, rfl, rfl, rfl, rfl⟩ rfl rfl rfl rfl rfl (by kernel_rfl) Tryz.func7 (by kernel_rfl)
    (of_decide_eq_true (by kernel_rfl)) (by unfold Func.isWrapper; first | (rw [if_pos (by decide +kernel)]; kernel_rfl) | (rw [if_neg (by decide +kernel)]; exact ⟨rfl, rfl⟩))
    (fun os started H enc _ F => by rw [OpenClaim.pre_eq_preRow]; exact lifted os started H enc F)
/-- No parameter wants a stand-in; the program's own looks are off. -/
theorem plain (f : FuncId) (fn : Func) (hf : Tryz.pinned.checked.prog.funcNamed "bourne/bournelaw25.ConsoleWrong" = some f) (hfn : Tryz.pinned.checked.prog.funcs[f]? = some fn) :
    true = Tryz.pinned.checked.prog.looks [] ∧ ∀ (j : Nat) t, fn.params[j]? = some t → Tryz.pinned.checked.prog.wantsStandIn t = false := by
  obtain rfl : f = 7 := Option.some.inj ((show Tryz.prog.funcNamed "bourne/bournelaw25.ConsoleWrong" = some 7 by kernel_rfl).symm.trans hf) |>.symm
  obtain rfl : fn = Tryz.f7 := (Option.some.inj (Tryz.func7.symm.trans hfn)).symm
  refine ⟨by kernel_rfl, fun j t ht => ?_⟩
  rw [Tryz.params7] at ht
  have hm : t ∈ [3] := by simpa using Array.mem_of_getElem? ht
  obtain rfl : t = 3 := by simpa using hm
  exact (show Tryz.prog.wantsStandIn 3 = false by kernel_rfl)
theorem card : Rows.ConsoleWrongCardSaid :=
  Claim7.holds_tied_plain_at .later [] _ _ _ _ said (fun _ h => by cases h) (by kernel_rfl) (fun _ h => by cases h) consoleWrong_row_tie rfl ⟨rfl, rfl⟩ (by kernel_rfl) rfl plain (by kernel_rfl)
#print axioms card
end wrong
end Go.Proofs.YtlpomcacaimnfaaGreatDoor
