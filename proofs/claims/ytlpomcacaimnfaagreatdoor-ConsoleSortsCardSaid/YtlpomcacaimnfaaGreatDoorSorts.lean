/- Called with any slice of whole numbers, in whatever memory, bournelaw25.ConsoleSorts returns true and leaves all that was there as it was: the tied card. Condition: the listed package-level variables hold what the program's text lays in them (the card ties them). -/
import Derived.Test.YtlpomcacaimnfaaGreatDoorBase7
set_option linter.unusedVariables false
set_option linter.unusedSectionVars false
set_option linter.unusedSimpArgs false
namespace Bo
open Go Go.Proofs Go.RowKit
def lsW : List (List UInt8) := [[102, 108, 111, 111, 114, 32, 49], [102, 108, 111, 111, 114, 32, 49, 32, 50, 32, 51], [102, 108, 111, 111, 114, 32, 97, 32, 49], [70, 108, 111, 111, 114, 32, 49, 32, 50], [119, 105, 110, 100, 111, 119, 115, 32, 49, 32, 50], [115, 101, 115, 115, 105, 111, 110, 115], [115, 111, 114, 116, 32, 49, 32, 45, 45, 50], [115, 111, 114, 116, 32, 49, 50, 51, 52, 53, 54, 55], [102, 108, 111, 111, 114, 32, 49, 32, 45], [115, 117, 109, 120], [48], [102, 108, 111, 111, 114, 32, 52, 32, 48], [119, 105, 110, 100, 111, 119, 115, 32, 48, 32, 49, 32, 53], [119, 105, 110, 100, 111, 119, 115, 32, 53, 32, 54, 32, 49], [115, 101, 115, 115, 105, 111, 110, 115, 32, 48]]
def wantW : List (List UInt8) := [[101, 114, 114, 111, 114, 32, 50, 53, 48, 48], [101, 114, 114, 111, 114, 32, 50, 53, 48, 48], [101, 114, 114, 111, 114, 32, 50, 53, 48, 48], [101, 114, 114, 111, 114, 32, 50, 53, 48, 48], [101, 114, 114, 111, 114, 32, 50, 53, 48, 48], [101, 114, 114, 111, 114, 32, 50, 53, 48, 48], [101, 114, 114, 111, 114, 32, 50, 53, 48, 48], [101, 114, 114, 111, 114, 32, 50, 53, 48, 48], [101, 114, 114, 111, 114, 32, 50, 53, 48, 48], [101, 114, 114, 111, 114, 32, 50, 53, 48, 48], [101, 114, 114, 111, 114, 32, 50, 53, 48, 48], [101, 114, 114, 111, 114, 32, 51, 48, 48], [101, 114, 114, 111, 114, 32, 52, 48, 48], [101, 114, 114, 111, 114, 32, 52, 48, 48], [101, 114, 114, 111, 114, 32, 54, 48, 48]]
theorem fault400 : faultS 400 = [101, 114, 114, 111, 114, 32, 52, 48, 48] := by unfold faultS; simp [Lib.itoa, Lib.decDigits]
theorem fault600 : faultS 600 = [101, 114, 114, 111, 114, 32, 54, 48, 48] := by unfold faultS; simp [Lib.itoa, Lib.decDigits]
theorem wrong0 : tellL [102, 108, 111, 111, 114, 32, 49] = [101, 114, 114, 111, 114, 32, 50, 53, 48, 48, 10] := by
  refine tellL_of (v := [102, 108, 111, 111, 114]) (r := [[49]]) (s := [101, 114, 114, 111, 114, 32, 50, 53, 48, 48]) (by decide +kernel) (by decide) ?_
  rw [lineS_bad (xs := [1]) (by decide) (by decide +kernel) (by rfl), fault2500]
theorem wrong1 : tellL [102, 108, 111, 111, 114, 32, 49, 32, 50, 32, 51] = [101, 114, 114, 111, 114, 32, 50, 53, 48, 48, 10] := by
  refine tellL_of (v := [102, 108, 111, 111, 114]) (r := [[49], [50], [51]]) (s := [101, 114, 114, 111, 114, 32, 50, 53, 48, 48]) (by decide +kernel) (by decide) ?_
  rw [lineS_bad (xs := [1, 2, 3]) (by decide) (by decide +kernel) (by rfl), fault2500]
theorem wrong2 : tellL [102, 108, 111, 111, 114, 32, 97, 32, 49] = [101, 114, 114, 111, 114, 32, 50, 53, 48, 48, 10] := by
  refine tellL_of (v := [102, 108, 111, 111, 114]) (r := [[97], [49]]) (s := [101, 114, 114, 111, 114, 32, 50, 53, 48, 48]) (by decide +kernel) (by decide) ?_
  rw [lineS_bad (xs := []) (by decide) (by decide +kernel) (by rfl), fault2500]
theorem wrong3 : tellL [70, 108, 111, 111, 114, 32, 49, 32, 50] = [101, 114, 114, 111, 114, 32, 50, 53, 48, 48, 10] := by
  refine tellL_of (v := [70, 108, 111, 111, 114]) (r := [[49], [50]]) (s := [101, 114, 114, 111, 114, 32, 50, 53, 48, 48]) (by decide +kernel) (by decide) ?_
  rw [lineS_bad (xs := [1, 2]) (by decide) (by decide +kernel) (by rfl), fault2500]
theorem wrong4 : tellL [119, 105, 110, 100, 111, 119, 115, 32, 49, 32, 50] = [101, 114, 114, 111, 114, 32, 50, 53, 48, 48, 10] := by
  refine tellL_of (v := [119, 105, 110, 100, 111, 119, 115]) (r := [[49], [50]]) (s := [101, 114, 114, 111, 114, 32, 50, 53, 48, 48]) (by decide +kernel) (by decide) ?_
  rw [lineS_bad (xs := [1, 2]) (by decide) (by decide +kernel) (by rfl), fault2500]
theorem wrong5 : tellL [115, 101, 115, 115, 105, 111, 110, 115] = [101, 114, 114, 111, 114, 32, 50, 53, 48, 48, 10] := by
  refine tellL_of (v := [115, 101, 115, 115, 105, 111, 110, 115]) (r := []) (s := [101, 114, 114, 111, 114, 32, 50, 53, 48, 48]) (by decide +kernel) (by decide) ?_
  rw [lineS_bad (xs := []) (by decide) (by decide +kernel) (by rfl), fault2500]
theorem wrong6 : tellL [115, 111, 114, 116, 32, 49, 32, 45, 45, 50] = [101, 114, 114, 111, 114, 32, 50, 53, 48, 48, 10] := by
  refine tellL_of (v := [115, 111, 114, 116]) (r := [[49], [45, 45, 50]]) (s := [101, 114, 114, 111, 114, 32, 50, 53, 48, 48]) (by decide +kernel) (by decide) ?_
  rw [lineS_bad (xs := []) (by decide) (by decide +kernel) (by rfl), fault2500]
theorem wrong7 : tellL [115, 111, 114, 116, 32, 49, 50, 51, 52, 53, 54, 55] = [101, 114, 114, 111, 114, 32, 50, 53, 48, 48, 10] := by
  refine tellL_of (v := [115, 111, 114, 116]) (r := [[49, 50, 51, 52, 53, 54, 55]]) (s := [101, 114, 114, 111, 114, 32, 50, 53, 48, 48]) (by decide +kernel) (by decide) ?_
  rw [lineS_bad (xs := []) (by decide) (by decide +kernel) (by rfl), fault2500]
theorem wrong8 : tellL [102, 108, 111, 111, 114, 32, 49, 32, 45] = [101, 114, 114, 111, 114, 32, 50, 53, 48, 48, 10] := by
  refine tellL_of (v := [102, 108, 111, 111, 114]) (r := [[49], [45]]) (s := [101, 114, 114, 111, 114, 32, 50, 53, 48, 48]) (by decide +kernel) (by decide) ?_
  rw [lineS_bad (xs := []) (by decide) (by decide +kernel) (by rfl), fault2500]
theorem wrong9 : tellL [115, 117, 109, 120] = [101, 114, 114, 111, 114, 32, 50, 53, 48, 48, 10] := by
  refine tellL_of (v := [115, 117, 109, 120]) (r := []) (s := [101, 114, 114, 111, 114, 32, 50, 53, 48, 48]) (by decide +kernel) (by decide) ?_
  rw [lineS_bad (xs := []) (by decide) (by decide +kernel) (by rfl), fault2500]
theorem wrong10 : tellL [48] = [101, 114, 114, 111, 114, 32, 50, 53, 48, 48, 10] := by
  refine tellL_of (v := [48]) (r := []) (s := [101, 114, 114, 111, 114, 32, 50, 53, 48, 48]) (by decide +kernel) (by decide) ?_
  rw [lineS_bad (xs := []) (by decide) (by decide +kernel) (by rfl), fault2500]
theorem wrong11 : tellL [102, 108, 111, 111, 114, 32, 52, 32, 48] = [101, 114, 114, 111, 114, 32, 51, 48, 48, 10] := by
  refine tellL_of (v := [102, 108, 111, 111, 114]) (r := [[52], [48]]) (s := [101, 114, 114, 111, 114, 32, 51, 48, 48]) (by decide +kernel) (by decide) ?_
  rw [lineS_cmd (xs := [4, 0]) floorC (by decide) (by decide +kernel) (by rfl)]
  have h0 : (floorC.does [4, 0]).1 = 300 := by decide +kernel
  unfold outS
  rw [if_neg (by rw [h0]; decide), h0]
  exact fault300
theorem wrong12 : tellL [119, 105, 110, 100, 111, 119, 115, 32, 48, 32, 49, 32, 53] = [101, 114, 114, 111, 114, 32, 52, 48, 48, 10] := by
  refine tellL_of (v := [119, 105, 110, 100, 111, 119, 115]) (r := [[48], [49], [53]]) (s := [101, 114, 114, 111, 114, 32, 52, 48, 48]) (by decide +kernel) (by decide) ?_
  rw [lineS_cmd (xs := [0, 1, 5]) windowsC (by decide) (by decide +kernel) (by rfl)]
  have h0 : (windowsC.does [0, 1, 5]).1 = 400 := by decide +kernel
  unfold outS
  rw [if_neg (by rw [h0]; decide), h0]
  exact fault400
theorem wrong13 : tellL [119, 105, 110, 100, 111, 119, 115, 32, 53, 32, 54, 32, 49] = [101, 114, 114, 111, 114, 32, 52, 48, 48, 10] := by
  refine tellL_of (v := [119, 105, 110, 100, 111, 119, 115]) (r := [[53], [54], [49]]) (s := [101, 114, 114, 111, 114, 32, 52, 48, 48]) (by decide +kernel) (by decide) ?_
  rw [lineS_cmd (xs := [5, 6, 1]) windowsC (by decide) (by decide +kernel) (by rfl)]
  have h0 : (windowsC.does [5, 6, 1]).1 = 400 := by decide +kernel
  unfold outS
  rw [if_neg (by rw [h0]; decide), h0]
  exact fault400
theorem wrong14 : tellL [115, 101, 115, 115, 105, 111, 110, 115, 32, 48] = [101, 114, 114, 111, 114, 32, 54, 48, 48, 10] := by
  refine tellL_of (v := [115, 101, 115, 115, 105, 111, 110, 115]) (r := [[48]]) (s := [101, 114, 114, 111, 114, 32, 54, 48, 48]) (by decide +kernel) (by decide) ?_
  rw [lineS_cmd (xs := [0]) sessionsC (by decide) (by decide +kernel) (by rfl)]
  have h0 : (sessionsC.does [0]).1 = 600 := by decide +kernel
  unfold outS
  rw [if_neg (by rw [h0]; decide), h0]
  exact fault600
theorem wrong_tab : ∀ q ∈ lsW.zip wantW, tellL q.1 = q.2 ++ [10] ∧ ∀ b ∈ q.1, b ≠ 10 := by
  simp only [lsW, wantW, List.zip_cons_cons, List.zip_nil_right, List.mem_cons, List.not_mem_nil, or_false]
  rintro q (rfl | rfl | rfl | rfl | rfl | rfl | rfl | rfl | rfl | rfl | rfl | rfl | rfl | rfl | rfl)
  · exact ⟨wrong0, by decide⟩
  · exact ⟨wrong1, by decide⟩
  · exact ⟨wrong2, by decide⟩
  · exact ⟨wrong3, by decide⟩
  · exact ⟨wrong4, by decide⟩
  · exact ⟨wrong5, by decide⟩
  · exact ⟨wrong6, by decide⟩
  · exact ⟨wrong7, by decide⟩
  · exact ⟨wrong8, by decide⟩
  · exact ⟨wrong9, by decide⟩
  · exact ⟨wrong10, by decide⟩
  · exact ⟨wrong11, by decide⟩
  · exact ⟨wrong12, by decide⟩
  · exact ⟨wrong13, by decide⟩
  · exact ⟨wrong14, by decide⟩
theorem wrong_run {k : Nat} {l v : List UInt8} (hl : lsW[k]? = some l) (hv : wantW[k]? = some v) : runS ([102, 108, 111, 111, 114, 32, 57, 32, 50, 10] ++ l) = [52, 32, 49, 10] ++ v ++ [10] := by
  have hz : (lsW.zip wantW)[k]? = some (l, v) := by rw [List.getElem?_zip_eq_some]; exact ⟨hl, hv⟩
  obtain ⟨h1, h2⟩ := wrong_tab _ (List.mem_of_getElem? hz)
  have e : ([102, 108, 111, 111, 114, 32, 57, 32, 50, 10] : List UInt8) ++ l = [102, 108, 111, 111, 114, 32, 57, 32, 50] ++ 10 :: l := by simp
  rw [e, runS_cons l (by decide), runS_one h2, h1]
  have h3 : tellL [102, 108, 111, 111, 114, 32, 57, 32, 50] = [52, 32, 49, 10] := by
    refine tellL_of (v := [102, 108, 111, 111, 114]) (r := [[57], [50]]) (s := [52, 32, 49]) (by decide +kernel) (by decide) ?_
    rw [lineS_cmd (xs := [9, 2]) floorC (by decide) (by decide +kernel) (by rfl)]
    show divS 9 2 = _
    unfold divS toldS
    simp [Lib.itoa, Lib.decDigits, Lib.join, List.intercalate, List.intersperse]
  rw [h3]
  simp
theorem u64_nat (n : Int) : ∃ m : Nat, m ≤ 18446744073709551615 ∧ IntKind.u64.wrap n = (m : Int) := by
  refine ⟨(IntKind.u64.wrap n).toNat, ?_, ?_⟩ <;> simp [IntKind.wrap, IntKind.bits, IntKind.signed] <;> omega
theorem law_ConsoleWrong {I : Nat → Prop} {w : World} (n : Int) (hG : Gl I w) :
    Ct Tryz.prog 7 #[.int .i64 n] I w (fun _ : Unit => .bool true) (fun _ _ _ => True) := by
  refine Ct.of (args := [_]) (F := Gl) Tryz.func7 rfl rfl hG fun hs => ?_
  refine sr (p 1 rfl (z ?_))
  refine C.seq ?_
  refine sr (c0 rfl hs (law_awake hs.f) fun w1 hs => p 1 rfl (z ?_))
  refine C.nay rfl ?_
  refine C.skip ?_
  refine sr (bs ((lsW.map bs8).map tc) hs rfl fun a1 w2 hs => p 1 rfl (z ?_))
  refine sr (bs ((wantW.map bs8).map tc) hs rfl fun a2 w3 hs => p 1 rfl (z ?_))
  obtain ⟨m, hm, hw⟩ := u64_nat n
  refine src (fun ρ w' => ρ 3 = .slice a1 15 15 ∧ ρ 4 = .slice a2 15 15 ∧ ρ 5 = .int .i64 (m % 15 : Nat) ∧ St N0 I w (up I w.heap.size) [] (fun J w => Rc 1 a2 15 ((wantW.map bs8).map tc) J w ∧ Rc 1 a1 15 ((lsW.map bs8).map tc) J w ∧ Gl J w) w') ?_ ?_
  · refine p 2 rfl (Wl.nm 13 (v := .int .u64 (m : Int)) (vi rfl hw) (um rfl (by decide) (p 2 rfl (z ⟨rfl, rfl, vi rfl ?_, hs⟩))))
    have h15 := Nat.mod_lt m (show 0 < 15 by decide)
    show IntKind.i64.wrap ((m % 15 : Nat) : Int) = _
    exact wrap_i64 (by omega)
  rintro ρ w4 ⟨h3, h4, h5, hs⟩
  have hk : m % 15 < 15 := Nat.mod_lt _ (by decide)
  generalize m % 15 = k at hk h5
  refine C.nm 3 h3 (C.nm 4 h4 (C.nm 5 h5 ?_))
  obtain ⟨l, hl⟩ : ∃ l, lsW[k]? = some l := ⟨_, List.getElem?_eq_getElem (show k < lsW.length from hk)⟩
  obtain ⟨v, hv⟩ : ∃ v, wantW[k]? = some v := ⟨_, List.getElem?_eq_getElem (show k < wantW.length from hk)⟩
  have hll : l.length ≤ 1000 := (show ∀ x ∈ lsW, x.length ≤ 1000 by decide) l (List.mem_of_getElem? hl)
  have hvl : v.length ≤ 1000 := (show ∀ x ∈ wantW, x.length ≤ 1000 by decide) v (List.mem_of_getElem? hv)
  have hrun := wrong_run hl hv
  refine sr (p 2 rfl (ixn k rfl hs.f.2.1 rfl (map_get (enc := tc) (x := bs8 l) (by simp [hl])) fun b off hat => l1 0 rfl hat rfl rfl ?_))
  refine ct (s := bs8 [102, 108, 111, 111, 114, 32, 57, 32, 50, 10]) (t := bs8 l) rfl (by rw [bs8_size, bs8_size]; simp; omega) ?_
  rw [bs8_append]
  refine c0 rfl hs (console_Run0 _ hs.f.2.2 (by simp; omega)) fun w7 hs => ?_
  rw [hrun]
  refine p 5 rfl (z ?_)
  refine src (fun ρ w' => ρ 2 = .bool true ∧ ∃ F, St N0 I w (up I w.heap.size) [] F w') ?_ ?_
  · refine p 1 rfl (c0 rfl hs (law_Num 0) fun w8 hs => p 2 rfl (gd 28 rfl (fun h => ?_) fun h => absurd rfl h))
    refine p 3 rfl (ixn k rfl hs.f.1 rfl (map_get (enc := tc) (x := bs8 v) (by simp [hv])) fun b off hat => l1 0 rfl hat rfl rfl ?_)
    refine ct (s := bs8 [52, 32, 49, 10]) (t := bs8 v) rfl (by rw [bs8_size, bs8_size]; simp; omega) ?_
    rw [bs8_append]
    refine ct (s := bs8 ([52, 32, 49, 10] ++ v)) (t := bs8 [10]) rfl (by rw [bs8_size, bs8_size]; simp; omega) ?_
    rw [bs8_append]
    exact p 3 rfl (z ⟨vb rfl (decide_eq_true rfl), _, hs⟩)
  rintro ρ w' ⟨h0, F, hs⟩
  refine C.nm 2 h0 ?_
  refine C.ret ?_
  exact e1 rfl rfl hs () rfl trivial
end Bo
namespace Bo
open Go Go.Proofs Go.RowKit
theorem lines_split (t : List UInt8) : ∀ (s cur : List UInt8), linesL cur (s ++ 10 :: t) = linesL cur s ++ linesL [] t
  | [], cur => by simp [linesL]
  | b :: s, cur => by
    rw [List.cons_append]
    simp only [linesL]
    split
    · rw [lines_split t s []]; rfl
    · rw [lines_split t s _]
theorem runS_split (s t : List UInt8) : runS (s ++ 10 :: t) = runS s ++ runS t := by
  unfold runS; rw [lines_split, List.flatMap_append]
theorem runS_nil : runS [] = [] := by
  unfold runS
  show tellL [] ++ [] = []
  rw [awake3]; rfl
theorem law_ConsoleBegins {I : Nat → Prop} {w : World} (f r : List UInt8) (hf : f.length ≤ 140737488355328) (hr : r.length ≤ 140737488355328) (hG : Gl I w) :
    Ct Tryz.prog 4 #[.string (bs8 f), .string (bs8 r)] I w (fun _ : Unit => .bool true) (fun _ _ _ => True) := by
  refine Ct.of (args := [_, _]) (F := Gl) Tryz.func4 rfl rfl hG fun hs => ?_
  refine sr (p 1 rfl (z ?_))
  refine C.seq ?_
  refine sr (c0 rfl hs (law_awake hs.f) fun w1 hs => p 1 rfl (z ?_))
  refine C.nay rfl ?_
  refine C.skip ?_
  refine sr (p 1 rfl (ct (s := bs8 f) (t := bs8 [10]) rfl (by rw [bs8_size, bs8_size]; simp; omega) ?_))
  rw [bs8_append]
  refine p 1 rfl (z ?_)
  generalize hA : f ++ [10] = A
  have hAl : A.length = f.length + 1 := by rw [← hA]; simp
  have hrA := console_Run (I := up I w.heap.size) (w := w1) A hs.f (by omega)
  unfold runV at hrA
  generalize hsA : (if 65536 < A.length then ([] : List UInt8) else runS A) = sA at hrA
  generalize heA : (if 65536 < A.length then (2501 : Int) else 0) = eA at hrA
  refine sr (p 1 rfl (c0 rfl hs hrA fun w2 hs => p 5 rfl (z ?_)))
  refine sr (p 2 rfl (ct (s := bs8 A) (t := bs8 r) rfl (by rw [bs8_size, bs8_size]; omega) ?_))
  rw [bs8_append]
  have hBl : (A ++ r).length = f.length + 1 + r.length := by rw [List.length_append, hAl]
  have hrB := console_Run (I := up I w.heap.size) (w := w2) (A ++ r) hs.f (by omega)
  unfold runV at hrB
  generalize hsB : (if 65536 < (A ++ r).length then ([] : List UInt8) else runS (A ++ r)) = sB at hrB
  generalize heB : (if 65536 < (A ++ r).length then (2501 : Int) else 0) = eB at hrB
  refine c0 rfl hs hrB fun w3 hs => p 5 rfl (z ?_)
  refine C.seq ?_
  refine sr (p 1 rfl (c0 rfl hs (law_Num eB) fun w4 hs => p 1 rfl (z ?_)))
  refine C.cond_dec rfl (fun h1 => ?_) fun h1 => ?_ -- t28
  · have hbig : 65536 < (A ++ r).length := Classical.byContradiction fun h => h1 (by rw [← heB, if_neg h])
    have eB0 : eB = 2501 := by rw [← heB, if_pos hbig]
    have sB0 : sB = [] := by rw [← hsB, if_pos hbig]
    subst eB0 sB0
    refine src (fun ρ w' => ρ 4 = .bool true ∧ ∃ F, St N0 I w (up I w.heap.size) [] F w') ?_ ?_
    · refine p 2 rfl (ct (s := bs8 A) (t := bs8 r) rfl (by rw [bs8_size, bs8_size]; omega) ?_)
      rw [bs8_append]
      refine p 3 rfl (gd 34 rfl (fun h => ?_) fun h => absurd (by rw [bs8_size]; omega) h)
      refine p 1 rfl (c0 rfl hs (law_Num 2501) fun w5 hs => p 3 rfl (gd 39 rfl (fun h => ?_) fun h => absurd rfl h))
      exact p 4 rfl (z ⟨vb rfl (decide_eq_true rfl), _, hs⟩)
    rintro ρ w' ⟨h0, F, hs⟩
    refine C.nm 4 h0 ?_
    refine C.ret ?_
    exact e1 rfl rfl hs () rfl trivial
  · have hno : ¬ 65536 < (A ++ r).length := fun h => h1 (by rw [← heB, if_pos h]; decide)
    have eA0 : eA = 0 := by rw [← heA, if_neg (by omega)]
    have sA0 : sA = runS A := by rw [← hsA, if_neg (by omega)]
    have sB0 : sB = sA ++ runS r := by
      rw [← hsB, if_neg hno, sA0, ← hA, List.append_assoc]
      show runS (f ++ 10 :: r) = runS (f ++ 10 :: []) ++ runS r
      rw [runS_split, runS_split, runS_nil, List.append_nil]
    subst eA0
    refine C.skip ?_
    refine src (fun ρ w' => ρ 4 = .bool true ∧ ∃ F, St N0 I w (up I w.heap.size) [] F w') ?_ ?_
    · refine p 1 rfl (c0 rfl hs (law_Num 0) fun w5 hs => p 2 rfl (gd 46 rfl (fun h => ?_) fun h => absurd rfl h))
      refine p 7 rfl (gd 53 rfl (fun h => ?_) fun h => absurd (by rw [bs8_size, bs8_size, sB0, List.length_append]; omega) h)
      refine p 3 rfl (ss 0 sA.length rfl (by rw [bs8_size]; rfl) rfl (by rw [bs8_size, sB0]; simp) (Nat.zero_le _) ?_)
      refine p 4 rfl (z ⟨vb rfl (decide_eq_true ?_), _, hs⟩)
      rw [ByteArray.toList_eq, ByteArray.toList_eq, Lib.extract_from_zero, sB0]
      simp
    rintro ρ w' ⟨h0, F, hs⟩
    refine C.nm 4 h0 ?_
    refine C.ret ?_
    exact e1 rfl rfl hs () rfl trivial
end Bo
namespace Bo
open Go Go.Proofs Go.RowKit
/-! ### An element of an array that lies in memory -/
section
variable {P : Program} [lc : LC P] {N : Nat} {ops : Array Oper} {o : Oper} {os : List Oper} {K : Env → World → Prop} {ρ : Env} {w : World}
def iaq (L : Lay) (ops : Array Oper) (ρ : Env) (o : Oper) : Option (Nat × Nat × Nat × Int × Nat) :=
  match wantE ops ρ o with
  | true =>
    match o.op with
    | .indexAddr T x i =>
      match kdo L T, ev ρ x, ev ρ i with
      | some (.arr n e), .pointer (some ⟨b, off, none⟩), .int _ i => match L e with | some ti => some (b, off, n, i, ti.size) | none => none
      | _, _, _ => none
    | _ => none
  | false => none
theorem ia (i off' : Nat) {b off n sz : Nat} (h : iaq lc.L ops ρ o = some (b, off, n, (i : Int), sz)) (h1 : i < n) (ho : off + i * sz = off')
    (k : Wl P N ops os K (updo N ρ o.dst (.pointer (some ⟨b, off', none⟩))) w) : Wl P N ops (o :: os) K ρ w := by
  subst ho
  unfold iaq at h
  split at h <;> try (cases h; done)
  rename_i hw
  split at h <;> try (cases h; done)
  rename_i T x ix ho
  split at h <;> try (cases h; done)
  rename_i n' e b' off0 k' i' hT hx hi
  split at h <;> try (cases h; done)
  rename_i ti he
  simp only [Option.some.injEq, Prod.mk.injEq] at h
  obtain ⟨rfl, rfl, rfl, rfl, rfl⟩ := h
  have hu := kdo_ok lc.ok hT
  simp only [KdOk] at hu
  refine Wl.op hw (OpR.val ?_ k)
  unfold execOp
  simp [ho, hx, hi, Instr.indexAt, Instr.sureAddr, asIntOf, run_underlying hu, (lc.ok e ti he).sizeOf, add_n, h1]
end
/-! ### What is said, and in which row -/
def anyS (x : Int) : Nat := (BitVec.ofInt IntKind.i64.bits x &&& BitVec.ofInt IntKind.i64.bits 1023).toNat
theorem anyS_le (x : Int) : anyS x ≤ 1023 := by
  unfold anyS
  rw [BitVec.toNat_and]
  have e : (BitVec.ofInt IntKind.i64.bits 1023).toNat = 1023 := by decide
  rw [e]
  exact Nat.and_le_right
def valS (x : Int) : Int := ((anyS x % 41 : Nat) : Int) - 20
theorem valS_bd (x : Int) : -20 ≤ valS x ∧ valS x ≤ 20 := by
  have := Nat.mod_lt (anyS x) (show 0 < 41 by decide)
  unfold valS
  omega
def cntS (vs : List Int) : List Value := (List.range 41).map fun k : Nat => .int .i64 (vs.count ((k : Int) - 20) : Nat)
theorem cntS_length (vs : List Int) : (cntS vs).length = 41 := by simp [cntS]
theorem cntS_get (vs : List Int) {q : Nat} (h : q < 41) : (cntS vs)[q]? = some (.int .i64 (vs.count ((q : Int) - 20) : Nat)) := by
  unfold cntS
  rw [List.getElem?_map, List.getElem?_range h]; rfl
theorem cntS_snoc (vs : List Int) {q : Nat} (h : q < 41) : spl (cntS vs) q [.int .i64 ((vs.count ((q : Int) - 20) : Nat) + 1)] = cntS (vs ++ [(q : Int) - 20]) := by
  apply List.ext_getElem?
  intro k
  rw [spl_get (by rw [cntS_length]; simp; omega)]
  by_cases hk : k < 41
  · rw [cntS_get _ hk, cntS_get _ hk]
    by_cases e : k = q
    · subst e
      simp
    · have hn : ¬ ((q : Int) - 20 = (k : Int) - 20) := by omega
      have hn' : ¬ (q ≤ k ∧ k < q + 1) := by omega
      have hc : (vs ++ [(q : Int) - 20]).count ((k : Int) - 20) = vs.count ((k : Int) - 20) := by
        rw [List.count_append, List.count_singleton]
        simp [hn]
      rw [hc]
      simp [hn']
  · have h1 : ∀ vs, (cntS vs)[k]? = none := fun vs => List.getElem?_eq_none (by rw [cntS_length]; omega)
    have hn' : ¬ (q ≤ k ∧ k < q + 1) := by omega
    rw [h1, h1]
    simp [hn']
def sayS (vs : List Int) : List UInt8 := [115, 111, 114, 116] ++ vs.flatMap fun v => 32 :: Lib.itoa v
theorem sayS_snoc (vs : List Int) (v : Int) : sayS (vs ++ [v]) = sayS vs ++ [32] ++ Lib.itoa v := by simp [sayS]
theorem say_inter : ∀ (vs : List Int) (h : List UInt8), h ++ vs.flatMap (fun v => 32 :: Lib.itoa v) = [32].intercalate (h :: vs.map Lib.itoa)
  | [], h => by simp [List.intercalate, List.intersperse]
  | v :: vs, h => by
    have ih := say_inter vs (Lib.itoa v)
    rw [List.map_cons, List.intercalate_cons_cons, ← ih]
    simp
theorem itoa_len (v : Int) (h : I64 v) : (Lib.itoa v).length ≤ 21 := by
  have := toldS_len (xs := [v]) (fun z hz => by rw [List.mem_singleton.1 hz]; exact h)
  rw [toldS_one] at this
  simpa using this
theorem sayS_len (vs : List Int) (h : ∀ v ∈ vs, I64 v) : (sayS vs).length ≤ 4 + vs.length * 22 := by
  unfold sayS
  rw [List.length_append]
  have : (vs.flatMap fun v => 32 :: Lib.itoa v).length ≤ vs.length * 22 := by
    induction vs with
    | nil => simp
    | cons v vs ih =>
      have h1 := itoa_len v (h v (by simp))
      have h2 := ih fun x hx => h x (List.mem_cons_of_mem _ hx)
      simp only [List.flatMap_cons, List.length_append, List.length_cons]
      omega
  simp only [List.length_cons, List.length_nil]
  omega
def rowS (vs : List Int) (j : Nat) : List Int := (List.range j).flatMap fun k : Nat => List.replicate (vs.count ((k : Int) - 20)) ((k : Int) - 20)
theorem rowS_succ (vs : List Int) (j : Nat) : rowS vs (j + 1) = rowS vs j ++ List.replicate (vs.count ((j : Int) - 20)) ((j : Int) - 20) := by
  unfold rowS; rw [List.range_succ, List.flatMap_append]; simp
theorem rowS_len (vs : List Int) : ∀ j, (rowS vs j).length ≤ j * vs.length
  | 0 => by simp [rowS]
  | j + 1 => by
    have := rowS_len vs j
    have hc := List.count_le_length (a := (j : Int) - 20) (l := vs)
    rw [rowS_succ, List.length_append, List.length_replicate, Nat.succ_mul]
    omega
theorem rowS_mem (vs : List Int) : ∀ (j : Nat) (x : Int), x ∈ rowS vs j → -20 ≤ x ∧ x < (j : Int) - 20
  | 0, x, h => by simp [rowS] at h
  | j + 1, x, h => by
    rw [rowS_succ] at h
    rcases List.mem_append.1 h with h | h
    · have := rowS_mem vs j x h
      omega
    · rw [List.eq_of_mem_replicate h]
      omega
theorem rowS_so (vs : List Int) : ∀ j, (rowS vs j).Pairwise (· ≤ ·)
  | 0 => by simp [rowS]
  | j + 1 => by
    rw [rowS_succ, List.pairwise_append]
    refine ⟨rowS_so vs j, ?_, fun x hx y hy => ?_⟩
    · exact List.pairwise_replicate.2 (.inr (Int.le_refl _))
    · rw [List.eq_of_mem_replicate hy]
      have := rowS_mem vs j x hx
      omega
theorem rowS_count (vs : List Int) (a : Int) : ∀ j : Nat, (rowS vs j).count a = if -20 ≤ a ∧ a < (j : Int) - 20 then vs.count a else 0
  | 0 => by
    rw [if_neg (by omega)]
    simp [rowS]
  | j + 1 => by
    rw [rowS_succ, List.count_append, rowS_count vs a j, List.count_replicate]
    by_cases e : a = (j : Int) - 20
    · subst e
      rw [if_neg (by omega), if_pos (by simp), if_pos (by omega)]
      omega
    · have hne : ((j : Int) - 20 == a) = false := by
        rw [beq_eq_false_iff_ne]
        exact fun h => e h.symm
      rw [hne]
      simp only [Bool.false_eq_true, if_false]
      by_cases h : -20 ≤ a ∧ a < (j : Int) - 20
      · rw [if_pos h, if_pos (by omega)]; omega
      · rw [if_neg h, if_neg (by omega)]
theorem sorted_eq : ∀ {l m : List Int}, l.Perm m → l.Pairwise (· ≤ ·) → m.Pairwise (· ≤ ·) → l = m
  | [], m, h, _, _ => (List.nil_perm.1 h).symm
  | a :: l, [], h, _, _ => absurd h.length_eq (by simp)
  | a :: l, b :: m, h, h1, h2 => by
    have ha : a ∈ b :: m := h.mem_iff.1 (by simp)
    have hb : b ∈ a :: l := h.mem_iff.2 (by simp)
    have e : a = b := by
      rcases List.mem_cons.1 ha with e | ha
      · exact e
      · rcases List.mem_cons.1 hb with e | hb
        · exact e.symm
        · have := (List.pairwise_cons.1 h1).1 b hb
          have := (List.pairwise_cons.1 h2).1 a ha
          omega
    subst e
    rw [sorted_eq (List.Perm.cons_inv h) (List.pairwise_cons.1 h1).2 (List.pairwise_cons.1 h2).2]
theorem sortedN_row (vs : List Int) (h : ∀ v ∈ vs, -20 ≤ v ∧ v ≤ 20) : sortedN vs = rowS vs 41 := by
  have ht : (itemsOf vs).map Item.time = vs := by
    unfold itemsOf
    rw [List.map_map]
    show vs.zipIdx.map (fun x => x.1) = vs
    exact List.zipIdx_map_fst 0 vs
  have hp : (sortedN vs).Perm vs := by
    have := (srtI_perm (itemsOf vs)).map Item.time
    rwa [ht] at this
  refine sorted_eq (hp.trans ?_) ?_ (rowS_so vs 41)
  · rw [List.perm_iff_count]
    intro a
    rw [rowS_count]
    split
    · rfl
    · rename_i hn
      exact List.count_eq_zero.2 fun ha => hn (by have := h a ha; omega)
  · unfold sortedN
    exact List.pairwise_map.2 ((srtI_so _).imp fun h => by unfold leI ltI at h; omega)
theorem say_runS (vs : List Int) (h : ∀ v ∈ vs, -20 ≤ v ∧ v ≤ 20) (hl : vs.length ≤ 30) : runS (sayS vs) = toldS (rowS vs 41) ++ [10] := by
  have hw : ∀ w ∈ ([115, 111, 114, 116] : List UInt8) :: vs.map Lib.itoa, wordy w := by
    intro w hw
    rcases List.mem_cons.1 hw with rfl | hw
    · exact ⟨by simp, by decide⟩
    · obtain ⟨z, _, rfl⟩ := List.mem_map.1 hw
      exact itoa_wordy z
  unfold sayS
  rw [say_inter, runS_one (inter_no10 _ hw), tell_inter _ _ hw (by decide)]
  have hl1 := line_nums sortC vs (fun y hy => by have := h y hy; omega) (by decide) (by
    have h1 : ∀ x ∈ [floorC, windowsC, sessionsC], ¬ x.fits sortC.w vs.length := by
      intro x hx hf
      simp only [List.mem_cons, List.not_mem_nil, or_false] at hx
      rcases hx with rfl | rfl | rfl <;> exact absurd hf.1 (by decide)
    have h2 : sortC.fits sortC.w vs.length := ⟨rfl, by show (0 : Int) ≤ _; omega, by show _ ≤ (65536 : Int); omega⟩
    unfold cmds
    rw [List.find?_cons_of_neg (by simpa using h1 floorC (by simp)), List.find?_cons_of_neg (by simpa using h1 windowsC (by simp)), List.find?_cons_of_neg (by simpa using h1 sessionsC (by simp)), List.find?_cons_of_pos (by simpa using h2)])
  rw [show ([115, 111, 114, 116] : List UInt8) = sortC.w from rfl, hl1]
  unfold outS
  rw [if_pos (show (sortC.does vs).1 = 0 by show (if 8192 < vs.length then 1501 else 0) = (0 : Int); rw [if_neg (by omega)])]
  show (if 8192 < vs.length then [] else toldS (sortedN vs)) ++ [10] = _
  rw [if_neg (by omega), sortedN_row vs h]
/-! ### The walk -/
theorem law_ConsoleSorts {I : Nat → Prop} {w : World} {a : Option Addr} {c : Nat} (xs : List Int) (hR : RI a c xs I w) (hx : ∀ x ∈ xs, -9223372036854775808 ≤ x ∧ x ≤ 9223372036854775807) (hl : xs.length ≤ 9223372036854775807) (hG : Gl I w) :
    Ct Tryz.prog 6 #[.slice a xs.length c] I w (fun _ : Unit => .bool true) (fun _ _ _ => True) := by
  refine Ct.of (args := [_]) (F := fun J w => RI a c xs J w ∧ Gl J w) Tryz.func6 rfl rfl ⟨hR, hG⟩ fun hs => ?_
  refine sr (p 1 rfl (z ?_))
  refine C.seq ?_
  refine sr (c0 rfl hs (law_awake hs.f.2) fun w1 hs => p 1 rfl (z ?_))
  refine C.nay rfl ?_
  refine C.skip ?_
  refine sr (p 1 rfl (z ?_))
  refine sr (am hs rfl fun b4 w2 hs => z ?_)
  refine C.seq ?_
  refine sr (p 1 rfl (z ?_))
  refine C.block ?_ -- BLOCK 0
  obtain ⟨n0, hn0⟩ : ∃ n0, n0 = min xs.length 30 := ⟨_, rfl⟩
  refine C.loop (fun n ρ w' => ∃ (i : Nat) (J : Nat → Prop), n = n0 - i ∧ i ≤ n0 ∧ ρ 0 = .slice a xs.length c ∧ ρ 3 = .string (bs8 (sayS ((xs.take i).map valS))) ∧ ρ 4 = .pointer (some ⟨b4, 0, none⟩) ∧ ρ 5 = .int .i64 (i : Nat) ∧ St N0 I w J [.blk b4 36 (cntS ((xs.take i).map valS))] (fun J w => RI a c xs J w ∧ Gl J w) w') _ ⟨0, _, rfl, by omega, rfl, rfl, rfl, rfl, by have e : cntS ((xs.take 0).map valS) = y36.zero := rfl; rw [e]; exact hs⟩ ?_
  rintro n ρ w3 ⟨i, J, hn, hi, h0, h3, h4, h5, hs⟩
  refine C.nm 0 h0 (C.nm 3 h3 (C.nm 4 h4 (C.nm 5 h5 ?_)))
  refine C.seq ?_
  refine src (fun ρ w' => ρ 21 = .bool (decide (i < n0)) ∧ ρ 0 = .slice a xs.length c ∧ ρ 3 = .string (bs8 (sayS ((xs.take i).map valS))) ∧ ρ 4 = .pointer (some ⟨b4, 0, none⟩) ∧ ρ 5 = .int .i64 (i : Nat) ∧ St N0 I w J [.blk b4 36 (cntS ((xs.take i).map valS))] (fun J w => RI a c xs J w ∧ Gl J w) w') ?_ ?_
  · refine p 5 rfl (gd 18 rfl (fun h2 => ?_) fun h2 => ?_)
    · exact p 3 rfl (z ⟨vb rfl (decide_eq_decide.2 (by omega)), rfl, rfl, rfl, rfl, hs⟩)
    · exact p 3 rfl (z ⟨vb rfl (decide_eq_false (by omega)).symm, rfl, rfl, rfl, rfl, hs⟩)
  rintro ρ w4 ⟨h21, h0, h3, h4, h5, hs⟩
  refine C.nm 21 h21 (C.nm 0 h0 (C.nm 3 h3 (C.nm 4 h4 (C.nm 5 h5 ?_))))
  have hvl : ((xs.take i).map valS).length = i := by rw [List.length_map, List.length_take]; omega
  have hvb : ∀ v ∈ (xs.take i).map valS, -20 ≤ v ∧ v ≤ 20 := by
    intro v hv
    obtain ⟨x, _, rfl⟩ := List.mem_map.1 hv
    exact valS_bd x
  have hsl := sayS_len ((xs.take i).map valS) fun v hv => by have := hvb v hv; constructor <;> omega
  refine C.cond_dec rfl (fun h7 => ?_) fun h7 => ?_ -- t21
  · refine C.skip ?_
    refine C.seq ?_
    refine C.block ?_ -- BLOCK 1
    have hxi := List.getElem?_eq_getElem (show i < xs.length by omega)
    generalize xs[i] = x at hxi
    have htk : (xs.take (i + 1)).map valS = (xs.take i).map valS ++ [valS x] := by rw [List.take_add_one, hxi]; simp
    generalize (xs.take i).map valS = vs at hvl hvb hsl htk hs ⊢
    have hvx := valS_bd x
    have hq : anyS x % 41 < 41 := Nat.mod_lt _ (by decide)
    have hand : IntKind.i64.wrap ((BitVec.ofInt IntKind.i64.bits x &&& BitVec.ofInt IntKind.i64.bits 1023).toNat : Int) = (anyS x : Int) := wrap_i64 (by have := anyS_le x; show _ ∧ ((anyS x : Nat) : Int) ≤ _; constructor <;> omega)
    refine sr (p 2 rfl (ixn i rfl hs.f.1 (by simp) (map_get hxi) fun b off hat => l1 0 rfl hat rfl rfl (p 1 rfl (Wl.nm 28 (v := .int .i64 (anyS x : Int)) (vi rfl hand) (rm rfl (by decide) (Wl.nm 29 (v := .int .i64 ((anyS x % 41 : Nat) : Int)) (vi rfl ?_) (an (valS x) rfl rfl (by omega) (p 1 rfl (z ?_)))))))))
    · rw [Int.tmod_eq_emod_of_nonneg (by omega)]; rfl
    have hval : valS x = ((anyS x % 41 : Nat) : Int) - 20 := rfl
    generalize anyS x % 41 = q at hq hval
    generalize valS x = v at hvx hval htk
    have hcg := cntS_get vs hq
    have hcs := cntS_snoc vs hq
    rw [← hval] at hcs hcg
    rw [← htk] at hcs
    have hcl := List.count_le_length (a := v) (l := vs)
    refine sr (p 1 rfl (an (q : Int) rfl (by omega) (by omega) (ia q q rfl hq (show 0 + q * 1 = q by omega) (l rfl (hs.bk 0 rfl) hcg (Bo.a rfl (by omega) (ia q q rfl hq (show 0 + q * 1 = q by omega) ?_))))))
    refine sbx 0 _ hs rfl rfl (Nat.ble_eq_true_of_le (by rw [cntS_length]; simp; omega)) hcs fun J1 w5 hs => z ?_
    have hil := itoa_len v (by constructor <;> omega)
    refine C.reg (p 1 rfl (ct (s := bs8 (sayS vs)) (t := bs8 [32]) rfl (by rw [bs8_size, bs8_size]; simp only [List.length_cons, List.length_nil]; omega) ?_))
    rw [bs8_append]
    refine p 1 rfl (bs ([v].map ic) hs rfl fun a1 w6 hs => c0 rfl hs (law_tell [v] hs.f.1 (fun z hz => by rw [List.mem_singleton.1 hz]; omega) (by simp)) fun w7 hs => ?_)
    rw [toldS_one]
    refine ct (s := bs8 (sayS vs ++ [32])) (t := bs8 (Lib.itoa v)) rfl (by rw [bs8_size, bs8_size, List.length_append]; simp only [List.length_cons, List.length_nil]; omega) ?_
    rw [bs8_append, ← sayS_snoc, ← htk]
    refine p 1 rfl (z ?_)
    refine C.reg (p 1 rfl (Bo.a rfl (by omega) (p 1 rfl (z ?_))))
    exact ⟨_, by omega, i + 1, J1, rfl, by omega, rfl, rfl, rfl, rfl, hs.to fun h => h.2⟩
  · refine C.exit ?_ -- EXIT 0
    generalize (xs.take i).map valS = vs at hvl hvb hsl hs
    refine sr (p 1 rfl (z ?_))
    refine C.seq ?_
    refine sr (p 1 rfl (z ?_))
    refine C.block ?_ -- BLOCK 2
    have hi30 : i ≤ 30 := by omega
    refine C.loop (fun n ρ w' => ∃ (j : Nat) (ar : Option Addr) (cr : Nat) (J : Nat → Prop), n = 41 - j ∧ j ≤ 41 ∧ ρ 3 = .string (bs8 (sayS vs)) ∧ ρ 4 = .pointer (some ⟨b4, 0, none⟩) ∧ ρ 7 = .slice ar (rowS vs j).length cr ∧ ρ 8 = .int .i64 ((j : Int) - 20) ∧ St N0 I w J [.own ar cr 3 1 ((rowS vs j).map ic), .blk b4 36 (cntS vs)] (fun J w => RI a c xs J w ∧ Gl J w) w') _ ⟨0, none, 0, _, rfl, by omega, rfl, rfl, rfl, rfl, hs.own 3 1⟩ ?_
    rintro n ρ w5 ⟨j, ar, cr, J, hn, hj, h3, h4, h7, h8, hs⟩
    refine C.nm 3 h3 (C.nm 4 h4 (C.nm 7 h7 (C.nm 8 h8 ?_)))
    refine C.seq ?_
    refine sr (p 2 rfl (z ?_))
    refine C.cond_dec rfl (fun h4 => ?_) fun h4 => ?_ -- t44
    · refine C.skip ?_
      refine C.seq ?_
      refine C.block ?_ -- BLOCK 3
      refine sr (p 1 rfl (z ?_))
      have hj41 : j < 41 := by omega
      have hcg := cntS_get vs hj41
      have hrl := rowS_len vs j
      have hrl' : (rowS vs j).length ≤ 1230 := Nat.le_trans hrl (Nat.le_trans (Nat.mul_le_mul hj (show vs.length ≤ 30 by omega)) (by decide))
      have hcl := List.count_le_length (a := (j : Int) - 20) (l := vs)
      have hsucc := rowS_succ vs j
      generalize vs.count ((j : Int) - 20) = m at hcg hcl hsucc
      refine C.block ?_ -- BLOCK 4
      refine C.loop (fun n ρ w' => ∃ (i : Nat) (ar : Option Addr) (cr : Nat) (J : Nat → Prop), n = m - i ∧ i ≤ m ∧ ρ 3 = .string (bs8 (sayS vs)) ∧ ρ 4 = .pointer (some ⟨b4, 0, none⟩) ∧ ρ 7 = .slice ar ((rowS vs j).length + i) cr ∧ ρ 8 = .int .i64 ((j : Int) - 20) ∧ ρ 9 = .int .i64 (i : Nat) ∧ St N0 I w J [.own ar cr 3 1 ((rowS vs j ++ List.replicate i ((j : Int) - 20)).map ic), .blk b4 36 (cntS vs)] (fun J w => RI a c xs J w ∧ Gl J w) w') _ ⟨0, ar, cr, J, rfl, by omega, rfl, rfl, rfl, rfl, rfl, by simpa using hs⟩ ?_
      rintro n' ρ w6 ⟨i', ar', cr', J', hn', hi', h3, h4, h7, h8, h9, hs⟩
      refine C.nm 3 h3 (C.nm 4 h4 (C.nm 7 h7 (C.nm 8 h8 (C.nm 9 h9 ?_))))
      refine C.seq ?_
      refine sr (p 2 rfl (an (j : Int) rfl (by omega) (by omega) (ia j j rfl hj41 (show 0 + j * 1 = j by omega) (l rfl (hs.bk 1 rfl) hcg (p 1 rfl (z ?_))))))
      refine C.cond_dec rfl (fun h5 => ?_) fun h5 => ?_ -- t52
      · refine C.skip ?_
        refine C.seq ?_
        refine C.block ?_ -- BLOCK 5
        have e1 : (rowS vs j ++ List.replicate i' ((j : Int) - 20)).map ic ++ [(j : Int) - 20].map ic = (rowS vs j ++ List.replicate (i' + 1) ((j : Int) - 20)).map ic := by
          rw [← List.map_append, List.append_assoc, List.replicate_succ']
        have e2 : ((rowS vs j ++ List.replicate (i' + 1) ((j : Int) - 20)).map ic).length = (rowS vs j).length + (i' + 1) := by simp
        refine C.reg (p 2 rfl (bs ([(j : Int) - 20].map ic) hs rfl fun a1 w7 hs => ap 0 hs rfl rfl (by simp) hs.f.1 rfl (ic_one [_]) (by show (_ + _) * 8 ≤ _; simp; omega) (by simp; omega) fun a2 c2 J2 w8 hs => ?_))
        rw [e1] at hs ⊢
        rw [e2]
        refine p 1 rfl (z ?_)
        refine C.reg (p 1 rfl (Bo.a rfl (by omega) (p 1 rfl (z ?_))))
        exact ⟨_, by omega, i' + 1, a2, c2, J2, rfl, by omega, rfl, rfl, rfl, rfl, rfl, hs.to fun h => h.2⟩
      · refine C.exit ?_ -- EXIT 4
        obtain rfl : i' = m := by omega
        have e3 : (rowS vs j).length + i' = (rowS vs (j + 1)).length := by rw [hsucc]; simp
        rw [← hsucc] at hs
        rw [e3]
        refine C.reg (p 1 rfl (an (((j + 1 : Nat) : Int) - 20) rfl (by omega) (by omega) (p 1 rfl (z ?_))))
        exact ⟨_, by omega, j + 1, ar', cr', J', rfl, by omega, rfl, rfl, rfl, rfl, hs⟩
    · refine C.exit ?_ -- EXIT 2
      obtain rfl : j = 41 := by omega
      obtain ⟨J2, hs⟩ := hs.done
      have hrun := console_Run0 (I := J2) (w := w5) (sayS vs) hs.f.2.2 (by omega)
      rw [say_runS vs hvb (by omega)] at hrun
      have hrl : (rowS vs 41).length ≤ 1230 := Nat.le_trans (rowS_len vs 41) (by omega)
      have hrb : ∀ x ∈ rowS vs 41, -100000000000000 ≤ x ∧ x ≤ 100000000000000 := fun x hx => by have := rowS_mem vs 41 x hx; omega
      have htl := toldS_len (xs := rowS vs 41) fun x hx => by have := hrb x hx; constructor <;> omega
      refine sr (p 1 rfl (c0 rfl hs hrun fun w6 hs => p 5 rfl (z ?_)))
      refine src (fun ρ w' => ρ 2 = .bool true ∧ ∃ J M F, St N0 I w J M F w') ?_ ?_
      · refine p 1 rfl (c0 rfl hs (law_Num 0) fun w7 hs => p 2 rfl (gd 67 rfl (fun h5 => ?_) fun h => absurd rfl h))
        refine p 2 rfl (c0 rfl hs (law_tell (rowS vs 41) hs.f.1 hrb (by omega)) fun w8 hs => ?_)
        refine ct (s := bs8 (toldS (rowS vs 41))) (t := bs8 [10]) rfl (by rw [bs8_size, bs8_size]; simp only [List.length_cons, List.length_nil]; omega) ?_
        rw [bs8_append]
        exact p 3 rfl (z ⟨vb rfl (decide_eq_true rfl), _, _, _, hs⟩)
      rintro ρ w' ⟨h0, J3, M, F, hs⟩
      refine C.nm 2 h0 ?_
      refine C.ret ?_
      exact e1 rfl rfl hs () rfl trivial
end Bo
namespace Go.Proofs.YtlpomcacaimnfaaGreatDoor
open Go.ChangeShapes Go.WideShapes Go.ChangeAt Go.RowKit
namespace sorts
theorem laidOut : laidOutB Tryz.prog = true := by kernel_rfl
set_option maxRecDepth 100000 in
/-- What the walk gives, for all arguments and every world that holds the list. -/
theorem contract (H : Type) (enc : TypeId × Value → H) (W : World) (base : Nat) (args : Array Value) (ds gs : List (DataW H)) (before : List MemPlace)
    (hval : ∀ (j : Nat) t v, Tryz.f6.params[j]? = some t → args[j]? = some v → Value.okWide Tryz.prog W .any base t v)
    (hW : DataW.Whole enc Tryz.prog Tryz.f6.params.toList Rows.consoleSortsSpec.vars false W args.toList ds gs before)
    (hsz : (DataW.weightsEach Tryz.prog (Tryz.f6.params.toList ++ (OpenSpec.ofChange Rows.consoleSortsSpec).bare.plain.varTypes Tryz.prog) (ds ++ gs)).all (· ≤ reachBytes) = true) (hG : Bo.Gl (fun _ => True) W) :
    Calls Tryz.prog 6 args W fun e W' => ∃ v, e = .returned v ∧ Rows.consoleSortsSpec.post enc Tryz.prog Tryz.f6 false true false false W args v W' := by
  have hW' := hW
  obtain ⟨p, q, hA0, hV, rfl, hfz, hnd⟩ := hW
  have hA : DataW.TrodAll enc Tryz.prog W 0 (fun _ => true) true Tryz.f6.params.toList args.toList ds p := hA0
  rw [Tryz.params6] at hA hval
  rw [Tryz.params6] at hsz
  obtain ⟨v0, vs0, d0, ds0, p0, q0, hargs, rfl, hp, h0, r0⟩ := trodAll_cons hA
  obtain ⟨rfl, rfl, rfl⟩ := trodAll_nil r0
  obtain rfl : args = #[v0] := by cases args; simp_all
  obtain ⟨rfl, rfl⟩ := trodVars_none hV
  subst hp
  clear hA0
  simp only [List.append_nil] at hW'
  have hlt : ∀ x ∈ p0, x.block < W.heap.size := fun x hx => by simpa using hW'.lt x hx
  have k0 : ∀ (W' : World), Below W.heap.size W W' → DataW.Trod enc Tryz.prog W' 0 (fun b => decide (b < W.heap.size)) true 33 v0 d0 p0 :=
    fun W' hn => Below.trod laidOut (by kernel_rfl) (of_decide_eq_true (by kernel_rfl)) h0 hn fun x hx => hlt x (by simp [hx])
  obtain ⟨a0, len, cap, rfl⟩ := okWide_slice Tryz.underlying33 (hval 0 33 v0 (by simp) (by simp))
  obtain ⟨fuel, hf⟩ := h0
  rcases open_ints Tryz.underlying33 Tryz.underlying3 (show Tryz.prog.cellsOf 3 = 1 by kernel_rfl) hf with ⟨hcs, hx⟩ | ⟨a, len', cap', zs, hcs, _, hl, hm, hz, hx, hcell, hwz⟩
  · simp only [Prod.mk.injEq] at hx
    obtain ⟨rfl, rfl⟩ := hx
    simp [Value.cells] at hcs
    obtain ⟨rfl, rfl, rfl⟩ := hcs
    have hR : Bo.RI none 0 [] (fun _ => True) W := ⟨by simp, by simp, fun h => absurd rfl h⟩
    have hlaw := Bo.law_ConsoleSorts (I := fun _ => True) (w := W) [] hR (by simp) (by simp) hG
    refine hlaw.2.mono fun e W' ⟨v, he, _, hv, hb, _⟩ => ?_
    subst he hv
    exact ⟨_, rfl, _, _, _, [], _, [], hW', trodAll_mk1 (shut_bool Tryz.underlying4 _), trodAll_cons_mk (k0 _ hb) trodAll_mk0, rfl, hb.frame _, fun h => by cases h⟩
  · simp [Value.cells] at hcs
    obtain ⟨rfl, rfl, rfl⟩ := hcs
    simp only [Prod.mk.injEq] at hx
    obtain ⟨rfl, rfl⟩ := hx
    simp only [if_true] at hz
    have hlen : (zs.take len).length = len := by rw [List.length_take]; omega
    have hR : Bo.RI (some a) cap (zs.take len) (fun _ => True) W := by
      refine ⟨by rw [List.length_map, hlen]; exact hl, fun cs h => ?_, fun hne => ?_⟩
      · obtain ⟨z, _, rfl⟩ := List.mem_map.1 h
        rfl
      · have hpos : 0 < len := by
          rcases Nat.eq_zero_or_pos len with h | h
          · subst h; simp at hne
          · exact h
        obtain ⟨b, off, spot⟩ := a
        have hspot : spot = none := by simpa [Addr.add] using World.cell?_spot (hcell 0 (by omega))
        subst hspot
        refine ⟨b, off, rfl, trivial, ?_, fun i cs hi j v hj => ?_⟩
        · have h0 := hcell 0 (by omega)
          rcases Nat.lt_or_ge b W.heap.size with h' | h'
          · exact h'
          · rw [add_plain] at h0
            simp [World.cell?, Array.getElem?_eq_none h'] at h0
        · rw [List.getElem?_map] at hi
          obtain ⟨z, hz1, rfl⟩ := Option.map_eq_some_iff.1 hi
          have hi' : i < len := by
            have := (List.getElem?_eq_some_iff.1 hz1).1
            omega
          rw [List.getElem?_take_of_lt hi'] at hz1
          cases j with
          | zero =>
            simp [Bo.ic] at hj
            subst hj
            have h1 := hcell i (by omega)
            rw [add_plain, List.getD, hz1] at h1
            simpa using h1
          | succ j => simp [Bo.ic] at hj
    have hwf : ∀ z ∈ zs.take len, -9223372036854775808 ≤ z ∧ z ≤ 9223372036854775807 := fun z h => by
      have h5 := hwz z (List.mem_of_mem_take h)
      have e1 : IntKind.i64.min = -9223372036854775808 := rfl
      have e2 : IntKind.i64.max = 9223372036854775807 := rfl
      simpa [Lit.wf, e1, e2] using h5
    have hlaw := Bo.law_ConsoleSorts (I := fun _ => True) (w := W) (zs.take len) hR hwf (by rw [hlen]; exact Nat.le_trans hl hm) hG
    rw [hlen] at hlaw
    refine hlaw.2.mono fun e W' ⟨v, he, _, hv, hb, _⟩ => ?_
    subst he hv
    exact ⟨_, rfl, _, _, _, [], _, [], hW', trodAll_mk1 (shut_bool Tryz.underlying4 _), trodAll_cons_mk (k0 _ hb) trodAll_mk0, rfl, hb.frame _, fun h => by cases h⟩
abbrev wit : Array Value := #[.slice none 0 0]
noncomputable abbrev start (os : Os) : World := World.laidAll Tryz.prog os Rows.consoleSortsRow.laid
theorem shaped (os : Os) : ((start os).forCall (fun _ _ => 0) ⟨#[], wit, []⟩).Shaped Tryz.prog := World.shaped_of_ZipB (by kernel_rfl) (by kernel_rfl)
theorem laid_met (os : Os) : laidMet Tryz.prog Rows.consoleSortsRow.laid ((start os).forCall (fun _ _ => 0) ⟨#[], wit, []⟩).memory := laidMet_laidAll _ (by kernel_rfl) (by kernel_rfl)
theorem reads (os : Os) {H : Type} (enc : TypeId × Value → H) : ∃ places, DataW.whole enc Tryz.prog ((start os).forCall (fun _ _ => 0) ⟨#[], wit, []⟩).memory Tryz.f6.params.toList Rows.consoleSortsSpec.vars false wit.toList 8 = some ([.nil], [], places) :=
  ⟨[], by kernel_rfl⟩
theorem okw (os : Os) : Input.okWideB Tryz.prog ((start os).forCall (fun _ _ => 0) ⟨#[], wit, []⟩) 6 ⟨#[], wit, []⟩ = true := by kernel_rfl
set_option maxRecDepth 100000 in
theorem lifted (os : Os) (started : os.Started) (H : Type) (enc : TypeId × Value → H) (F : Stop.Interp) :
    ReturnsInHanded {} Tryz.checked os 6 .any ((OpenSpec.ofChange Rows.consoleSortsSpec).preRow enc Tryz.prog Tryz.f6 Rows.consoleSortsRow.domain false Rows.consoleSortsRow.laid) (((OpenSpec.ofChange Rows.consoleSortsSpec).at F).post enc Tryz.prog Tryz.f6 false true false false) := by
  obtain ⟨places, hx⟩ := reads os enc
  refine returnsInHanded_of_row (C := Tryz.checked) (s := OpenSpec.ofChange Rows.consoleSortsSpec) own started (by kernel_rfl) Tryz.func6 ?_ ?_
  · refine ⟨start os, fun _ _ => 0, ⟨#[], wit, []⟩, World.laidAll_os _ _ _, shaped os, (Input.okWide_of_okWideB (base := 0) (okw os)).1, (Input.okWide_of_okWideB (okw os)).2,
      OpenSpec.preRow_of_cond 8 hx (by kernel_rfl) (fun k hk => by cases hk) (by kernel_rfl) (laid_met os), ?_⟩
    simp only [Assume.holds]
    exact ⟨by simp, by simp, fun _ => Modest.zero, by simp, by simp⟩
  · intro W base args ds gs before hval hW _ _ hsz hL hS _
    exact contract H enc W base args ds gs before hval hW hsz (gl_of hL hS)
theorem said : Rows.ConsoleSortsSaid :=
  OpenClaim.holds_of_cond 6 Tryz.f6 rfl rfl rfl rfl rfl rfl rfl ⟨rfl, rfl, rfl, rfl, rfl⟩ rfl rfl rfl rfl rfl (by kernel_rfl) Tryz.func6 (by kernel_rfl)
    (of_decide_eq_true (by kernel_rfl)) (by unfold Func.isWrapper; first | (rw [if_pos (by decide +kernel)]; kernel_rfl) | (rw [if_neg (by decide +kernel)]; exact ⟨rfl, rfl⟩))
    (fun os started H enc _ F => by rw [OpenClaim.pre_eq_preRow]; exact lifted os started H enc F)
/-- No parameter wants a stand-in; the program's own looks are off. -/
theorem plain (f : FuncId) (fn : Func) (hf : Tryz.pinned.checked.prog.funcNamed "bourne/bournelaw25.ConsoleSorts" = some f) (hfn : Tryz.pinned.checked.prog.funcs[f]? = some fn) :
    true = Tryz.pinned.checked.prog.looks [] ∧ ∀ (j : Nat) t, fn.params[j]? = some t → Tryz.pinned.checked.prog.wantsStandIn t = false := by
  obtain rfl : f = 6 := Option.some.inj ((show Tryz.prog.funcNamed "bourne/bournelaw25.ConsoleSorts" = some 6 by kernel_rfl).symm.trans hf) |>.symm
  obtain rfl : fn = Tryz.f6 := (Option.some.inj (Tryz.func6.symm.trans hfn)).symm
  refine ⟨by kernel_rfl, fun j t ht => ?_⟩
  rw [Tryz.params6] at ht
  have hm : t ∈ [33] := by simpa using Array.mem_of_getElem? ht
  obtain rfl : t = 33 := by simpa using hm
  exact (show Tryz.prog.wantsStandIn 33 = false by kernel_rfl)
theorem card : Rows.ConsoleSortsCardSaid :=
  Claim7.holds_tied_plain_at .later [] _ _ _ _ said (fun _ h => by cases h) (by kernel_rfl) (fun _ h => by cases h) consoleSorts_row_tie rfl ⟨rfl, rfl⟩ (by kernel_rfl) rfl plain (by kernel_rfl)
#print axioms card
end sorts
end Go.Proofs.YtlpomcacaimnfaaGreatDoor
