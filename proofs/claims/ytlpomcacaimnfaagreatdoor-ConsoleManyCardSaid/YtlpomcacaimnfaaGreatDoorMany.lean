/- Called with any slice of whole numbers, in whatever memory, bournelaw25.ConsoleMany returns true and leaves all that was there as it was: the tied card. Condition: the listed package-level variables hold what the program's text lays in them (the card ties them). -/
import Derived.Test.YtlpomcacaimnfaaGreatDoorBase7
set_option linter.unusedVariables false
set_option linter.unusedSectionVars false
set_option linter.unusedSimpArgs false
namespace Bo
open Go Go.Proofs Go.RowKit
def lsW : List (List UInt8) := [[102, 108, 111, 111, 114, 32, 49], [102, 108, 111, 111, 114, 32, 49, 32, 50, 32, 51], [102, 108, 111, 111, 114, 32, 97, 32, 49], [70, 108, 111, 111, 114, 32, 49, 32, 50], [119, 105, 110, 100, 111, 119, 115, 32, 49, 32, 50], [115, 101, 115, 115, 105, 111, 110, 115], [115, 111, 114, 116, 32, 49, 32, 45, 45, 50], [115, 111, 114, 116, 32, 49, 50, 51, 52, 53, 54, 55], [102, 108, 111, 111, 114, 32, 49, 32, 45], [115, 117, 109, 120], [48], [102, 108, 111, 111, 114, 32, 52, 32, 48], [119, 105, 110, 100, 111, 119, 115, 32, 48, 32, 49, 32, 53], [119, 105, 110, 100, 111, 119, 115, 32, 53, 32, 54, 32, 49], [115, 101, 115, 115, 105, 111, 110, 115, 32, 48]]
def wantW : List (List UInt8) := [[101, 114, 114, 111, 114, 32, 50, 53, 48, 48], [101, 114, 114, 111, 114, 32, 50, 53, 48, 48], [101, 114, 114, 111, 114, 32, 50, 53, 48, 48], [101, 114, 114, 111, 114, 32, 50, 53, 48, 48], [101, 114, 114, 111, 114, 32, 50, 53, 48, 48], [101, 114, 114, 111, 114, 32, 50, 53, 48, 48], [101, 114, 114, 111, 114, 32, 50, 53, 48, 48], [101, 114, 114, 111, 114, 32, 50, 53, 48, 48], [101, 114, 114, 111, 114, 32, 50, 53, 48, 48], [101, 114, 114, 111, 114, 32, 50, 53, 48, 48], [101, 114, 114, 111, 114, 32, 50, 53, 48, 48], [101, 114, 114, 111, 114, 32, 51, 48, 48], [101, 114, 114, 111, 114, 32, 52, 48, 48], [101, 114, 114, 111, 114, 32, 52, 48, 48], [101, 114, 114, 111, 114, 32, 54, 48, 48]]
theorem fault400 : faultS 400 = [101, 114, 114, 111, 114, 32, 52, 48, 48] := by unfold faultS; simp [Lib.itoa, Lib.decDigits]
theorem fault600 : faultS 600 = [101, 114, 114, 111, 114, 32, 54, 48, 48] := by unfold faultS; simp [Lib.itoa, Lib.decDigits]
theorem wrong0 : tellL [102, 108, 111, 111, 114, 32, 49] = [101, 114, 114, 111, 114, 32, 50, 53, 48, 48, 10] := by
  refine tellL_of (v := [102, 108, 111, 111, 114]) (r := [[49]]) (s := [101, 114, 114, 111, 114, 32, 50, 53, 48, 48]) (by decide +kernel) (by decide) ?_
  rw [lineS_bad (xs := [1]) (by decide) (by decide +kernel) (by rfl), fault2500]
theorem wrong1 : tellL [102, 108, 111, 111, 114, 32, 49, 32, 50, 32, 51] = [101, 114, 114, 111, 114, 32, 50, 53, 48, 48, 10] := by
  refine tellL_of (v := [102, 108, 111, 111, 114]) (r := [[49], [50], [51]]) (s := [101, 114, 114, 111, 114, 32, 50, 53, 48, 48]) (by decide +kernel) (by decide) ?_
  rw [lineS_bad (xs := [1, 2, 3]) (by decide) (by decide +kernel) (by rfl), fault2500]
theorem wrong2 : tellL [102, 108, 111, 111, 114, 32, 97, 32, 49] = [101, 114, 114, 111, 114, 32, 50, 53, 48, 48, 10] := by
  refine tellL_of (v := [102, 108, 111, 111, 114]) (r := [[97], [49]]) (s := [101, 114, 114, 111, 114, 32, 50, 53, 48, 48]) (by decide +kernel) (by decide) ?_
  rw [lineS_bad (xs := []) (by decide) (by decide +kernel) (by rfl), fault2500]
theorem wrong3 : tellL [70, 108, 111, 111, 114, 32, 49, 32, 50] = [101, 114, 114, 111, 114, 32, 50, 53, 48, 48, 10] := by
  refine tellL_of (v := [70, 108, 111, 111, 114]) (r := [[49], [50]]) (s := [101, 114, 114, 111, 114, 32, 50, 53, 48, 48]) (by decide +kernel) (by decide) ?_
  rw [lineS_bad (xs := [1, 2]) (by decide) (by decide +kernel) (by rfl), fault2500]
theorem wrong4 : tellL [119, 105, 110, 100, 111, 119, 115, 32, 49, 32, 50] = [101, 114, 114, 111, 114, 32, 50, 53, 48, 48, 10] := by
  refine tellL_of (v := [119, 105, 110, 100, 111, 119, 115]) (r := [[49], [50]]) (s := [101, 114, 114, 111, 114, 32, 50, 53, 48, 48]) (by decide +kernel) (by decide) ?_
  rw [lineS_bad (xs := [1, 2]) (by decide) (by decide +kernel) (by rfl), fault2500]
theorem wrong5 : tellL [115, 101, 115, 115, 105, 111, 110, 115] = [101, 114, 114, 111, 114, 32, 50, 53, 48, 48, 10] := by
  refine tellL_of (v := [115, 101, 115, 115, 105, 111, 110, 115]) (r := []) (s := [101, 114, 114, 111, 114, 32, 50, 53, 48, 48]) (by decide +kernel) (by decide) ?_
  rw [lineS_bad (xs := []) (by decide) (by decide +kernel) (by rfl), fault2500]
theorem wrong6 : tellL [115, 111, 114, 116, 32, 49, 32, 45, 45, 50] = [101, 114, 114, 111, 114, 32, 50, 53, 48, 48, 10] := by
  refine tellL_of (v := [115, 111, 114, 116]) (r := [[49], [45, 45, 50]]) (s := [101, 114, 114, 111, 114, 32, 50, 53, 48, 48]) (by decide +kernel) (by decide) ?_
  rw [lineS_bad (xs := []) (by decide) (by decide +kernel) (by rfl), fault2500]
theorem wrong7 : tellL [115, 111, 114, 116, 32, 49, 50, 51, 52, 53, 54, 55] = [101, 114, 114, 111, 114, 32, 50, 53, 48, 48, 10] := by
  refine tellL_of (v := [115, 111, 114, 116]) (r := [[49, 50, 51, 52, 53, 54, 55]]) (s := [101, 114, 114, 111, 114, 32, 50, 53, 48, 48]) (by decide +kernel) (by decide) ?_
  rw [lineS_bad (xs := []) (by decide) (by decide +kernel) (by rfl), fault2500]
theorem wrong8 : tellL [102, 108, 111, 111, 114, 32, 49, 32, 45] = [101, 114, 114, 111, 114, 32, 50, 53, 48, 48, 10] := by
  refine tellL_of (v := [102, 108, 111, 111, 114]) (r := [[49], [45]]) (s := [101, 114, 114, 111, 114, 32, 50, 53, 48, 48]) (by decide +kernel) (by decide) ?_
  rw [lineS_bad (xs := []) (by decide) (by decide +kernel) (by rfl), fault2500]
theorem wrong9 : tellL [115, 117, 109, 120] = [101, 114, 114, 111, 114, 32, 50, 53, 48, 48, 10] := by
  refine tellL_of (v := [115, 117, 109, 120]) (r := []) (s := [101, 114, 114, 111, 114, 32, 50, 53, 48, 48]) (by decide +kernel) (by decide) ?_
  rw [lineS_bad (xs := []) (by decide) (by decide +kernel) (by rfl), fault2500]
theorem wrong10 : tellL [48] = [101, 114, 114, 111, 114, 32, 50, 53, 48, 48, 10] := by
  refine tellL_of (v := [48]) (r := []) (s := [101, 114, 114, 111, 114, 32, 50, 53, 48, 48]) (by decide +kernel) (by decide) ?_
  rw [lineS_bad (xs := []) (by decide) (by decide +kernel) (by rfl), fault2500]
theorem wrong11 : tellL [102, 108, 111, 111, 114, 32, 52, 32, 48] = [101, 114, 114, 111, 114, 32, 51, 48, 48, 10] := by
  refine tellL_of (v := [102, 108, 111, 111, 114]) (r := [[52], [48]]) (s := [101, 114, 114, 111, 114, 32, 51, 48, 48]) (by decide +kernel) (by decide) ?_
  rw [lineS_cmd (xs := [4, 0]) floorC (by decide) (by decide +kernel) (by rfl)]
  have h0 : (floorC.does [4, 0]).1 = 300 := by decide +kernel
  unfold outS
  rw [if_neg (by rw [h0]; decide), h0]
  exact fault300
theorem wrong12 : tellL [119, 105, 110, 100, 111, 119, 115, 32, 48, 32, 49, 32, 53] = [101, 114, 114, 111, 114, 32, 52, 48, 48, 10] := by
  refine tellL_of (v := [119, 105, 110, 100, 111, 119, 115]) (r := [[48], [49], [53]]) (s := [101, 114, 114, 111, 114, 32, 52, 48, 48]) (by decide +kernel) (by decide) ?_
  rw [lineS_cmd (xs := [0, 1, 5]) windowsC (by decide) (by decide +kernel) (by rfl)]
  have h0 : (windowsC.does [0, 1, 5]).1 = 400 := by decide +kernel
  unfold outS
  rw [if_neg (by rw [h0]; decide), h0]
  exact fault400
theorem wrong13 : tellL [119, 105, 110, 100, 111, 119, 115, 32, 53, 32, 54, 32, 49] = [101, 114, 114, 111, 114, 32, 52, 48, 48, 10] := by
  refine tellL_of (v := [119, 105, 110, 100, 111, 119, 115]) (r := [[53], [54], [49]]) (s := [101, 114, 114, 111, 114, 32, 52, 48, 48]) (by decide +kernel) (by decide) ?_
  rw [lineS_cmd (xs := [5, 6, 1]) windowsC (by decide) (by decide +kernel) (by rfl)]
  have h0 : (windowsC.does [5, 6, 1]).1 = 400 := by decide +kernel
  unfold outS
  rw [if_neg (by rw [h0]; decide), h0]
  exact fault400
theorem wrong14 : tellL [115, 101, 115, 115, 105, 111, 110, 115, 32, 48] = [101, 114, 114, 111, 114, 32, 54, 48, 48, 10] := by
  refine tellL_of (v := [115, 101, 115, 115, 105, 111, 110, 115]) (r := [[48]]) (s := [101, 114, 114, 111, 114, 32, 54, 48, 48]) (by decide +kernel) (by decide) ?_
  rw [lineS_cmd (xs := [0]) sessionsC (by decide) (by decide +kernel) (by rfl)]
  have h0 : (sessionsC.does [0]).1 = 600 := by decide +kernel
  unfold outS
  rw [if_neg (by rw [h0]; decide), h0]
  exact fault600
theorem wrong_tab : ∀ q ∈ lsW.zip wantW, tellL q.1 = q.2 ++ [10] ∧ ∀ b ∈ q.1, b ≠ 10 := by
  simp only [lsW, wantW, List.zip_cons_cons, List.zip_nil_right, List.mem_cons, List.not_mem_nil, or_false]
  rintro q (rfl | rfl | rfl | rfl | rfl | rfl | rfl | rfl | rfl | rfl | rfl | rfl | rfl | rfl | rfl)
  · exact ⟨wrong0, by decide⟩
  · exact ⟨wrong1, by decide⟩
  · exact ⟨wrong2, by decide⟩
  · exact ⟨wrong3, by decide⟩
  · exact ⟨wrong4, by decide⟩
  · exact ⟨wrong5, by decide⟩
  · exact ⟨wrong6, by decide⟩
  · exact ⟨wrong7, by decide⟩
  · exact ⟨wrong8, by decide⟩
  · exact ⟨wrong9, by decide⟩
  · exact ⟨wrong10, by decide⟩
  · exact ⟨wrong11, by decide⟩
  · exact ⟨wrong12, by decide⟩
  · exact ⟨wrong13, by decide⟩
  · exact ⟨wrong14, by decide⟩
theorem wrong_run {k : Nat} {l v : List UInt8} (hl : lsW[k]? = some l) (hv : wantW[k]? = some v) : runS ([102, 108, 111, 111, 114, 32, 57, 32, 50, 10] ++ l) = [52, 32, 49, 10] ++ v ++ [10] := by
  have hz : (lsW.zip wantW)[k]? = some (l, v) := by rw [List.getElem?_zip_eq_some]; exact ⟨hl, hv⟩
  obtain ⟨h1, h2⟩ := wrong_tab _ (List.mem_of_getElem? hz)
  have e : ([102, 108, 111, 111, 114, 32, 57, 32, 50, 10] : List UInt8) ++ l = [102, 108, 111, 111, 114, 32, 57, 32, 50] ++ 10 :: l := by simp
  rw [e, runS_cons l (by decide), runS_one h2, h1]
  have h3 : tellL [102, 108, 111, 111, 114, 32, 57, 32, 50] = [52, 32, 49, 10] := by
    refine tellL_of (v := [102, 108, 111, 111, 114]) (r := [[57], [50]]) (s := [52, 32, 49]) (by decide +kernel) (by decide) ?_
    rw [lineS_cmd (xs := [9, 2]) floorC (by decide) (by decide +kernel) (by rfl)]
    show divS 9 2 = _
    unfold divS toldS
    simp [Lib.itoa, Lib.decDigits, Lib.join, List.intercalate, List.intersperse]
  rw [h3]
  simp
theorem u64_nat (n : Int) : ∃ m : Nat, m ≤ 18446744073709551615 ∧ IntKind.u64.wrap n = (m : Int) := by
  refine ⟨(IntKind.u64.wrap n).toNat, ?_, ?_⟩ <;> simp [IntKind.wrap, IntKind.bits, IntKind.signed] <;> omega
theorem law_ConsoleWrong {I : Nat → Prop} {w : World} (n : Int) (hG : Gl I w) :
    Ct Tryz.prog 7 #[.int .i64 n] I w (fun _ : Unit => .bool true) (fun _ _ _ => True) := by
  refine Ct.of (args := [_]) (F := Gl) Tryz.func7 rfl rfl hG fun hs => ?_
  refine sr (p 1 rfl (z ?_))
  refine C.seq ?_
  refine sr (c0 rfl hs (law_awake hs.f) fun w1 hs => p 1 rfl (z ?_))
  refine C.nay rfl ?_
  refine C.skip ?_
  refine sr (bs ((lsW.map bs8).map tc) hs rfl fun a1 w2 hs => p 1 rfl (z ?_))
  refine sr (bs ((wantW.map bs8).map tc) hs rfl fun a2 w3 hs => p 1 rfl (z ?_))
  obtain ⟨m, hm, hw⟩ := u64_nat n
  refine src (fun ρ w' => ρ 3 = .slice a1 15 15 ∧ ρ 4 = .slice a2 15 15 ∧ ρ 5 = .int .i64 (m % 15 : Nat) ∧ St N0 I w (up I w.heap.size) [] (fun J w => Rc 1 a2 15 ((wantW.map bs8).map tc) J w ∧ Rc 1 a1 15 ((lsW.map bs8).map tc) J w ∧ Gl J w) w') ?_ ?_
  · refine p 2 rfl (Wl.nm 13 (v := .int .u64 (m : Int)) (vi rfl hw) (um rfl (by decide) (p 2 rfl (z ⟨rfl, rfl, vi rfl ?_, hs⟩))))
    have h15 := Nat.mod_lt m (show 0 < 15 by decide)
    show IntKind.i64.wrap ((m % 15 : Nat) : Int) = _
    exact wrap_i64 (by omega)
  rintro ρ w4 ⟨h3, h4, h5, hs⟩
  have hk : m % 15 < 15 := Nat.mod_lt _ (by decide)
  generalize m % 15 = k at hk h5
  refine C.nm 3 h3 (C.nm 4 h4 (C.nm 5 h5 ?_))
  obtain ⟨l, hl⟩ : ∃ l, lsW[k]? = some l := ⟨_, List.getElem?_eq_getElem (show k < lsW.length from hk)⟩
  obtain ⟨v, hv⟩ : ∃ v, wantW[k]? = some v := ⟨_, List.getElem?_eq_getElem (show k < wantW.length from hk)⟩
  have hll : l.length ≤ 1000 := (show ∀ x ∈ lsW, x.length ≤ 1000 by decide) l (List.mem_of_getElem? hl)
  have hvl : v.length ≤ 1000 := (show ∀ x ∈ wantW, x.length ≤ 1000 by decide) v (List.mem_of_getElem? hv)
  have hrun := wrong_run hl hv
  refine sr (p 2 rfl (ixn k rfl hs.f.2.1 rfl (map_get (enc := tc) (x := bs8 l) (by simp [hl])) fun b off hat => l1 0 rfl hat rfl rfl ?_))
  refine ct (s := bs8 [102, 108, 111, 111, 114, 32, 57, 32, 50, 10]) (t := bs8 l) rfl (by rw [bs8_size, bs8_size]; simp; omega) ?_
  rw [bs8_append]
  refine c0 rfl hs (console_Run0 _ hs.f.2.2 (by simp; omega)) fun w7 hs => ?_
  rw [hrun]
  refine p 5 rfl (z ?_)
  refine src (fun ρ w' => ρ 2 = .bool true ∧ ∃ F, St N0 I w (up I w.heap.size) [] F w') ?_ ?_
  · refine p 1 rfl (c0 rfl hs (law_Num 0) fun w8 hs => p 2 rfl (gd 28 rfl (fun h => ?_) fun h => absurd rfl h))
    refine p 3 rfl (ixn k rfl hs.f.1 rfl (map_get (enc := tc) (x := bs8 v) (by simp [hv])) fun b off hat => l1 0 rfl hat rfl rfl ?_)
    refine ct (s := bs8 [52, 32, 49, 10]) (t := bs8 v) rfl (by rw [bs8_size, bs8_size]; simp; omega) ?_
    rw [bs8_append]
    refine ct (s := bs8 ([52, 32, 49, 10] ++ v)) (t := bs8 [10]) rfl (by rw [bs8_size, bs8_size]; simp; omega) ?_
    rw [bs8_append]
    exact p 3 rfl (z ⟨vb rfl (decide_eq_true rfl), _, hs⟩)
  rintro ρ w' ⟨h0, F, hs⟩
  refine C.nm 2 h0 ?_
  refine C.ret ?_
  exact e1 rfl rfl hs () rfl trivial
end Bo
namespace Bo
open Go Go.Proofs Go.RowKit
theorem lines_split (t : List UInt8) : ∀ (s cur : List UInt8), linesL cur (s ++ 10 :: t) = linesL cur s ++ linesL [] t
  | [], cur => by simp [linesL]
  | b :: s, cur => by
    rw [List.cons_append]
    simp only [linesL]
    split
    · rw [lines_split t s []]; rfl
    · rw [lines_split t s _]
theorem runS_split (s t : List UInt8) : runS (s ++ 10 :: t) = runS s ++ runS t := by
  unfold runS; rw [lines_split, List.flatMap_append]
theorem runS_nil : runS [] = [] := by
  unfold runS
  show tellL [] ++ [] = []
  rw [awake3]; rfl
theorem law_ConsoleBegins {I : Nat → Prop} {w : World} (f r : List UInt8) (hf : f.length ≤ 140737488355328) (hr : r.length ≤ 140737488355328) (hG : Gl I w) :
    Ct Tryz.prog 4 #[.string (bs8 f), .string (bs8 r)] I w (fun _ : Unit => .bool true) (fun _ _ _ => True) := by
  refine Ct.of (args := [_, _]) (F := Gl) Tryz.func4 rfl rfl hG fun hs => ?_
  refine sr (p 1 rfl (z ?_))
  refine C.seq ?_
  refine sr (c0 rfl hs (law_awake hs.f) fun w1 hs => p 1 rfl (z ?_))
  refine C.nay rfl ?_
  refine C.skip ?_
  refine sr (p 1 rfl (ct (s := bs8 f) (t := bs8 [10]) rfl (by rw [bs8_size, bs8_size]; simp; omega) ?_))
  rw [bs8_append]
  refine p 1 rfl (z ?_)
  generalize hA : f ++ [10] = A
  have hAl : A.length = f.length + 1 := by rw [← hA]; simp
  have hrA := console_Run (I := up I w.heap.size) (w := w1) A hs.f (by omega)
  unfold runV at hrA
  generalize hsA : (if 65536 < A.length then ([] : List UInt8) else runS A) = sA at hrA
  generalize heA : (if 65536 < A.length then (2501 : Int) else 0) = eA at hrA
  refine sr (p 1 rfl (c0 rfl hs hrA fun w2 hs => p 5 rfl (z ?_)))
  refine sr (p 2 rfl (ct (s := bs8 A) (t := bs8 r) rfl (by rw [bs8_size, bs8_size]; omega) ?_))
  rw [bs8_append]
  have hBl : (A ++ r).length = f.length + 1 + r.length := by rw [List.length_append, hAl]
  have hrB := console_Run (I := up I w.heap.size) (w := w2) (A ++ r) hs.f (by omega)
  unfold runV at hrB
  generalize hsB : (if 65536 < (A ++ r).length then ([] : List UInt8) else runS (A ++ r)) = sB at hrB
  generalize heB : (if 65536 < (A ++ r).length then (2501 : Int) else 0) = eB at hrB
  refine c0 rfl hs hrB fun w3 hs => p 5 rfl (z ?_)
  refine C.seq ?_
  refine sr (p 1 rfl (c0 rfl hs (law_Num eB) fun w4 hs => p 1 rfl (z ?_)))
  refine C.cond_dec rfl (fun h1 => ?_) fun h1 => ?_ -- t28
  · have hbig : 65536 < (A ++ r).length := Classical.byContradiction fun h => h1 (by rw [← heB, if_neg h])
    have eB0 : eB = 2501 := by rw [← heB, if_pos hbig]
    have sB0 : sB = [] := by rw [← hsB, if_pos hbig]
    subst eB0 sB0
    refine src (fun ρ w' => ρ 4 = .bool true ∧ ∃ F, St N0 I w (up I w.heap.size) [] F w') ?_ ?_
    · refine p 2 rfl (ct (s := bs8 A) (t := bs8 r) rfl (by rw [bs8_size, bs8_size]; omega) ?_)
      rw [bs8_append]
      refine p 3 rfl (gd 34 rfl (fun h => ?_) fun h => absurd (by rw [bs8_size]; omega) h)
      refine p 1 rfl (c0 rfl hs (law_Num 2501) fun w5 hs => p 3 rfl (gd 39 rfl (fun h => ?_) fun h => absurd rfl h))
      exact p 4 rfl (z ⟨vb rfl (decide_eq_true rfl), _, hs⟩)
    rintro ρ w' ⟨h0, F, hs⟩
    refine C.nm 4 h0 ?_
    refine C.ret ?_
    exact e1 rfl rfl hs () rfl trivial
  · have hno : ¬ 65536 < (A ++ r).length := fun h => h1 (by rw [← heB, if_pos h]; decide)
    have eA0 : eA = 0 := by rw [← heA, if_neg (by omega)]
    have sA0 : sA = runS A := by rw [← hsA, if_neg (by omega)]
    have sB0 : sB = sA ++ runS r := by
      rw [← hsB, if_neg hno, sA0, ← hA, List.append_assoc]
      show runS (f ++ 10 :: r) = runS (f ++ 10 :: []) ++ runS r
      rw [runS_split, runS_split, runS_nil, List.append_nil]
    subst eA0
    refine C.skip ?_
    refine src (fun ρ w' => ρ 4 = .bool true ∧ ∃ F, St N0 I w (up I w.heap.size) [] F w') ?_ ?_
    · refine p 1 rfl (c0 rfl hs (law_Num 0) fun w5 hs => p 2 rfl (gd 46 rfl (fun h => ?_) fun h => absurd rfl h))
      refine p 7 rfl (gd 53 rfl (fun h => ?_) fun h => absurd (by rw [bs8_size, bs8_size, sB0, List.length_append]; omega) h)
      refine p 3 rfl (ss 0 sA.length rfl (by rw [bs8_size]; rfl) rfl (by rw [bs8_size, sB0]; simp) (Nat.zero_le _) ?_)
      refine p 4 rfl (z ⟨vb rfl (decide_eq_true ?_), _, hs⟩)
      rw [ByteArray.toList_eq, ByteArray.toList_eq, Lib.extract_from_zero, sB0]
      simp
    rintro ρ w' ⟨h0, F, hs⟩
    refine C.nm 4 h0 ?_
    refine C.ret ?_
    exact e1 rfl rfl hs () rfl trivial
end Bo
namespace Bo
open Go Go.Proofs Go.RowKit
def psM : List (List UInt8) := [[102, 108, 111, 111, 114, 32, 55, 32, 51], [102, 108, 111, 111, 114, 32, 55], [119, 105, 110, 100, 111, 119, 115, 32, 52, 32, 52, 32, 57], [119, 105, 110, 100, 111, 119, 115, 32, 48, 32, 52, 32, 57], [115, 101, 115, 115, 105, 111, 110, 115, 32, 53], [115, 101, 115, 115, 105, 111, 110, 115, 32, 48, 32, 49], [115, 101, 115, 115, 105, 111, 110, 115, 32, 53, 32, 49, 32, 57, 32, 52], [115, 117, 109], [115, 117, 109, 32, 97, 32, 98], [115, 111, 114, 116, 32, 51, 32, 49, 32, 50], [115, 111, 114, 116, 32, 120], [35, 32, 99], [83, 111, 114, 116, 32, 49], [102, 108, 111, 111, 114, 32, 49, 50, 51, 52, 53, 54, 55, 32, 49]]
theorem psM_no10 : ∀ s ∈ psM, (∀ b ∈ s, b ≠ 10) ∧ s.length ≤ 100 := by decide
def pickM (x : Int) : List UInt8 := (psM[(IntKind.u64.wrap x).toNat % 14]?).getD []
theorem pickM_mem (x : Int) : psM[(IntKind.u64.wrap x).toNat % 14]? = some (pickM x) := by
  unfold pickM
  rw [List.getElem?_eq_getElem (show (IntKind.u64.wrap x).toNat % 14 < psM.length from Nat.mod_lt _ (by decide))]
  rfl
def askM (xs : List Int) : List UInt8 := xs.flatMap fun x => pickM x ++ [10]
def wantM (xs : List Int) : List UInt8 := xs.flatMap fun x => tellL (pickM x)
theorem askM_runS : ∀ xs, runS (askM xs) = wantM xs
  | [] => runS_nil
  | x :: xs => by
    have h := (psM_no10 _ (List.mem_of_getElem? (pickM_mem x))).1
    show runS ((pickM x ++ [10]) ++ askM xs) = tellL (pickM x) ++ wantM xs
    rw [List.append_assoc, List.singleton_append, runS_cons _ h, askM_runS xs]
theorem askM_len : ∀ xs, (askM xs).length ≤ xs.length * 101
  | [] => by simp [askM]
  | x :: xs => by
    have h := (psM_no10 _ (List.mem_of_getElem? (pickM_mem x))).2
    have := askM_len xs
    show ((pickM x ++ [10]) ++ askM xs).length ≤ _
    simp only [List.length_append, List.length_cons, List.length_nil]
    omega
theorem wantM_len : ∀ xs, (wantM xs).length ≤ xs.length * 30000001
  | [] => by simp [wantM]
  | x :: xs => by
    have h := tellL_len (pickM x) (by have := (psM_no10 _ (List.mem_of_getElem? (pickM_mem x))).2; omega)
    have := wantM_len xs
    show (tellL (pickM x) ++ wantM xs).length ≤ _
    simp only [List.length_append, List.length_cons]
    omega
theorem askM_take (xs : List Int) {i : Nat} {x : Int} (h : xs[i]? = some x) : askM (xs.take (i + 1)) = askM (xs.take i) ++ (pickM x ++ [10]) := by
  rw [List.take_add_one, h]; simp [askM]
theorem wantM_take (xs : List Int) {i : Nat} {x : Int} (h : xs[i]? = some x) : wantM (xs.take (i + 1)) = wantM (xs.take i) ++ tellL (pickM x) := by
  rw [List.take_add_one, h]; simp [wantM]
theorem law_ConsoleMany {I : Nat → Prop} {w : World} {a : Option Addr} {c : Nat} (xs : List Int) (hR : RI a c xs I w) (hx : ∀ x ∈ xs, -9223372036854775808 ≤ x ∧ x ≤ 9223372036854775807) (hl : xs.length ≤ 9223372036854775807) (hG : Gl I w) :
    Ct Tryz.prog 5 #[.slice a xs.length c] I w (fun _ : Unit => .bool true) (fun _ _ _ => True) := by
  refine Ct.of (args := [_]) (F := fun J w => RI a c xs J w ∧ Gl J w) Tryz.func5 rfl rfl ⟨hR, hG⟩ fun hs => ?_
  refine sr (p 1 rfl (z ?_))
  refine C.seq ?_
  refine sr (c0 rfl hs (law_awake hs.f.2) fun w1 hs => p 1 rfl (z ?_))
  refine C.nay rfl ?_
  refine C.skip ?_
  refine sr (bs ((psM.map bs8).map tc) hs rfl fun a1 w2 hs => p 1 rfl (z ?_))
  refine sr (p 2 rfl (z ?_))
  refine C.seq ?_
  refine sr (p 1 rfl (z ?_))
  refine C.block ?_ -- BLOCK 0
  obtain ⟨n0, hn0⟩ : ∃ n0, n0 = min xs.length 30 := ⟨_, rfl⟩
  refine C.loop (fun n ρ w' => ∃ i : Nat, n = n0 - i ∧ i ≤ n0 ∧ ρ 0 = .slice a xs.length c ∧ ρ 3 = .slice a1 14 14 ∧ ρ 4 = .string (bs8 (askM (xs.take i))) ∧ ρ 5 = .string (bs8 (wantM (xs.take i))) ∧ ρ 6 = .int .i64 (i : Nat) ∧ St N0 I w (up I w.heap.size) [] (fun J w => Rc 1 a1 14 ((psM.map bs8).map tc) J w ∧ RI a c xs J w ∧ Gl J w) w') _ ⟨0, rfl, by omega, rfl, rfl, rfl, rfl, rfl, hs⟩ ?_
  rintro n ρ w3 ⟨i, hn, hi, h0, h3, h4, h5, h6, hs⟩
  refine C.nm 0 h0 (C.nm 3 h3 (C.nm 4 h4 (C.nm 5 h5 (C.nm 6 h6 ?_))))
  refine C.seq ?_
  refine src (fun ρ w' => ρ 22 = .bool (decide (i < n0)) ∧ ρ 0 = .slice a xs.length c ∧ ρ 3 = .slice a1 14 14 ∧ ρ 4 = .string (bs8 (askM (xs.take i))) ∧ ρ 5 = .string (bs8 (wantM (xs.take i))) ∧ ρ 6 = .int .i64 (i : Nat) ∧ St N0 I w (up I w.heap.size) [] (fun J w => Rc 1 a1 14 ((psM.map bs8).map tc) J w ∧ RI a c xs J w ∧ Gl J w) w') ?_ ?_
  · refine p 5 rfl (gd 19 rfl (fun h2 => ?_) fun h2 => ?_)
    · exact p 3 rfl (z ⟨vb rfl (decide_eq_decide.2 (by omega)), rfl, rfl, rfl, rfl, rfl, hs⟩)
    · exact p 3 rfl (z ⟨vb rfl (decide_eq_false (by omega)).symm, rfl, rfl, rfl, rfl, rfl, hs⟩)
  rintro ρ w4 ⟨h22, h0, h3, h4, h5, h6, hs⟩
  refine C.nm 22 h22 (C.nm 0 h0 (C.nm 3 h3 (C.nm 4 h4 (C.nm 5 h5 (C.nm 6 h6 ?_)))))
  have hal := askM_len (xs.take i)
  have hwl := wantM_len (xs.take i)
  rw [List.length_take] at hal hwl
  refine C.cond_dec rfl (fun h7 => ?_) fun h7 => ?_ -- t22
  · refine C.skip ?_
    refine C.seq ?_
    refine C.block ?_ -- BLOCK 1
    have hxi := List.getElem?_eq_getElem (show i < xs.length by omega)
    generalize xs[i] = x at hxi
    have hta := askM_take xs hxi
    have hwt := wantM_take xs hxi
    have hsm := pickM_mem x
    obtain ⟨m, hm, hw⟩ := u64_nat x
    rw [hw, Int.toNat_natCast] at hsm
    have hpk := psM_no10 _ (List.mem_of_getElem? hsm)
    have hk : m % 14 < 14 := Nat.mod_lt _ (by decide)
    have hrun := console_Run0 (I := up I w.heap.size) (w := w4) (pickM x) hs.f.2.2 (by have := hpk.2; omega)
    rw [runS_one hpk.1] at hrun
    have htl := tellL_len (pickM x) (by have := hpk.2; omega)
    generalize pickM x = s at hsm hpk hrun hta hwt htl
    refine sr (p 3 rfl (ixn i rfl hs.f.2.1 (by simp) (map_get hxi) fun b off hat => l1 0 rfl hat rfl rfl (p 1 rfl (Wl.nm 30 (v := .int .u64 (m : Int)) (vi rfl hw) (um rfl (by decide) (p 1 rfl (Wl.nm 32 (v := .int .i64 (m % 14 : Nat)) (vi rfl ?_) ?_)))))))
    · show IntKind.i64.wrap ((m % 14 : Nat) : Int) = _
      exact wrap_i64 (by omega)
    refine ixn (m % 14) rfl hs.f.1 rfl (map_get (enc := tc) (x := bs8 s) (by rw [List.getElem?_map, hsm]; rfl)) fun b off hat => l1 0 rfl hat rfl rfl (p 1 rfl (z ?_))
    refine sr (p 2 rfl (ct (s := bs8 (askM (xs.take i))) (t := bs8 s) rfl (by rw [bs8_size, bs8_size]; have := hpk.2; omega) ?_))
    rw [bs8_append]
    refine ct (s := bs8 (askM (xs.take i) ++ s)) (t := bs8 [10]) rfl (by rw [bs8_size, bs8_size, List.length_append]; have := hpk.2; simp only [List.length_cons, List.length_nil]; omega) ?_
    rw [bs8_append, List.append_assoc, ← hta]
    refine p 1 rfl (z ?_)
    refine sr (p 1 rfl (c0 rfl hs hrun fun w5 hs => p 5 rfl (z ?_)))
    refine C.seq ?_
    refine sr (p 1 rfl (c0 rfl hs (law_Num 0) fun w6 hs => p 1 rfl (z ?_)))
    refine C.nay rfl ?_
    refine C.skip ?_
    refine C.reg (p 2 rfl (ct (s := bs8 (wantM (xs.take i))) (t := bs8 (tellL s)) rfl (by rw [bs8_size, bs8_size]; omega) ?_))
    rw [bs8_append, ← hwt]
    refine p 1 rfl (z ?_)
    refine C.reg (p 1 rfl (Bo.a rfl (by omega) (p 1 rfl (z ?_))))
    exact ⟨_, by omega, i + 1, rfl, by omega, rfl, rfl, rfl, rfl, rfl, hs⟩
  · refine C.exit ?_ -- EXIT 0
    have hrun := console_Run0 (I := up I w.heap.size) (w := w4) (askM (xs.take i)) hs.f.2.2 (by omega)
    rw [askM_runS] at hrun
    refine sr (p 1 rfl (c0 rfl hs hrun fun w5 hs => p 5 rfl (z ?_)))
    refine src (fun ρ w' => ρ 2 = .bool true ∧ ∃ F, St N0 I w (up I w.heap.size) [] F w') ?_ ?_
    · refine p 1 rfl (c0 rfl hs (law_Num 0) fun w6 hs => p 2 rfl (gd 58 rfl (fun h5 => ?_) fun h => absurd rfl h))
      exact p 5 rfl (z ⟨vb rfl (decide_eq_true rfl), _, hs⟩)
    rintro ρ w' ⟨h0, F, hs⟩
    refine C.nm 2 h0 ?_
    refine C.ret ?_
    exact e1 rfl rfl hs () rfl trivial
end Bo
namespace Go.Proofs.YtlpomcacaimnfaaGreatDoor
open Go.ChangeShapes Go.WideShapes Go.ChangeAt Go.RowKit
namespace many
theorem laidOut : laidOutB Tryz.prog = true := by kernel_rfl
set_option maxRecDepth 100000 in
/-- What the walk gives, for all arguments and every world that holds the list. -/
theorem contract (H : Type) (enc : TypeId × Value → H) (W : World) (base : Nat) (args : Array Value) (ds gs : List (DataW H)) (before : List MemPlace)
    (hval : ∀ (j : Nat) t v, Tryz.f5.params[j]? = some t → args[j]? = some v → Value.okWide Tryz.prog W .any base t v)
    (hW : DataW.Whole enc Tryz.prog Tryz.f5.params.toList Rows.consoleManySpec.vars false W args.toList ds gs before)
    (hsz : (DataW.weightsEach Tryz.prog (Tryz.f5.params.toList ++ (OpenSpec.ofChange Rows.consoleManySpec).bare.plain.varTypes Tryz.prog) (ds ++ gs)).all (· ≤ reachBytes) = true) (hG : Bo.Gl (fun _ => True) W) :
    Calls Tryz.prog 5 args W fun e W' => ∃ v, e = .returned v ∧ Rows.consoleManySpec.post enc Tryz.prog Tryz.f5 false true false false W args v W' := by
  have hW' := hW
  obtain ⟨p, q, hA0, hV, rfl, hfz, hnd⟩ := hW
  have hA : DataW.TrodAll enc Tryz.prog W 0 (fun _ => true) true Tryz.f5.params.toList args.toList ds p := hA0
  rw [Tryz.params5] at hA hval
  rw [Tryz.params5] at hsz
  obtain ⟨v0, vs0, d0, ds0, p0, q0, hargs, rfl, hp, h0, r0⟩ := trodAll_cons hA
  obtain ⟨rfl, rfl, rfl⟩ := trodAll_nil r0
  obtain rfl : args = #[v0] := by cases args; simp_all
  obtain ⟨rfl, rfl⟩ := trodVars_none hV
  subst hp
  clear hA0
  simp only [List.append_nil] at hW'
  have hlt : ∀ x ∈ p0, x.block < W.heap.size := fun x hx => by simpa using hW'.lt x hx
  have k0 : ∀ (W' : World), Below W.heap.size W W' → DataW.Trod enc Tryz.prog W' 0 (fun b => decide (b < W.heap.size)) true 33 v0 d0 p0 :=
    fun W' hn => Below.trod laidOut (by kernel_rfl) (of_decide_eq_true (by kernel_rfl)) h0 hn fun x hx => hlt x (by simp [hx])
  obtain ⟨a0, len, cap, rfl⟩ := okWide_slice Tryz.underlying33 (hval 0 33 v0 (by simp) (by simp))
  obtain ⟨fuel, hf⟩ := h0
  rcases open_ints Tryz.underlying33 Tryz.underlying3 (show Tryz.prog.cellsOf 3 = 1 by kernel_rfl) hf with ⟨hcs, hx⟩ | ⟨a, len', cap', zs, hcs, _, hl, hm, hz, hx, hcell, hwz⟩
  · simp only [Prod.mk.injEq] at hx
    obtain ⟨rfl, rfl⟩ := hx
    simp [Value.cells] at hcs
    obtain ⟨rfl, rfl, rfl⟩ := hcs
    have hR : Bo.RI none 0 [] (fun _ => True) W := ⟨by simp, by simp, fun h => absurd rfl h⟩
    have hlaw := Bo.law_ConsoleMany (I := fun _ => True) (w := W) [] hR (by simp) (by simp) hG
    refine hlaw.2.mono fun e W' ⟨v, he, _, hv, hb, _⟩ => ?_
    subst he hv
    exact ⟨_, rfl, _, _, _, [], _, [], hW', trodAll_mk1 (shut_bool Tryz.underlying4 _), trodAll_cons_mk (k0 _ hb) trodAll_mk0, rfl, hb.frame _, fun h => by cases h⟩
  · simp [Value.cells] at hcs
    obtain ⟨rfl, rfl, rfl⟩ := hcs
    simp only [Prod.mk.injEq] at hx
    obtain ⟨rfl, rfl⟩ := hx
    simp only [if_true] at hz
    have hlen : (zs.take len).length = len := by rw [List.length_take]; omega
    have hR : Bo.RI (some a) cap (zs.take len) (fun _ => True) W := by
      refine ⟨by rw [List.length_map, hlen]; exact hl, fun cs h => ?_, fun hne => ?_⟩
      · obtain ⟨z, _, rfl⟩ := List.mem_map.1 h
        rfl
      · have hpos : 0 < len := by
          rcases Nat.eq_zero_or_pos len with h | h
          · subst h; simp at hne
          · exact h
        obtain ⟨b, off, spot⟩ := a
        have hspot : spot = none := by simpa [Addr.add] using World.cell?_spot (hcell 0 (by omega))
        subst hspot
        refine ⟨b, off, rfl, trivial, ?_, fun i cs hi j v hj => ?_⟩
        · have h0 := hcell 0 (by omega)
          rcases Nat.lt_or_ge b W.heap.size with h' | h'
          · exact h'
          · rw [add_plain] at h0
            simp [World.cell?, Array.getElem?_eq_none h'] at h0
        · rw [List.getElem?_map] at hi
          obtain ⟨z, hz1, rfl⟩ := Option.map_eq_some_iff.1 hi
          have hi' : i < len := by
            have := (List.getElem?_eq_some_iff.1 hz1).1
            omega
          rw [List.getElem?_take_of_lt hi'] at hz1
          cases j with
          | zero =>
            simp [Bo.ic] at hj
            subst hj
            have h1 := hcell i (by omega)
            rw [add_plain, List.getD, hz1] at h1
            simpa using h1
          | succ j => simp [Bo.ic] at hj
    have hwf : ∀ z ∈ zs.take len, -9223372036854775808 ≤ z ∧ z ≤ 9223372036854775807 := fun z h => by
      have h5 := hwz z (List.mem_of_mem_take h)
      have e1 : IntKind.i64.min = -9223372036854775808 := rfl
      have e2 : IntKind.i64.max = 9223372036854775807 := rfl
      simpa [Lit.wf, e1, e2] using h5
    have hlaw := Bo.law_ConsoleMany (I := fun _ => True) (w := W) (zs.take len) hR hwf (by rw [hlen]; exact Nat.le_trans hl hm) hG
    rw [hlen] at hlaw
    refine hlaw.2.mono fun e W' ⟨v, he, _, hv, hb, _⟩ => ?_
    subst he hv
    exact ⟨_, rfl, _, _, _, [], _, [], hW', trodAll_mk1 (shut_bool Tryz.underlying4 _), trodAll_cons_mk (k0 _ hb) trodAll_mk0, rfl, hb.frame _, fun h => by cases h⟩
abbrev wit : Array Value := #[.slice none 0 0]
noncomputable abbrev start (os : Os) : World := World.laidAll Tryz.prog os Rows.consoleManyRow.laid
theorem shaped (os : Os) : ((start os).forCall (fun _ _ => 0) ⟨#[], wit, []⟩).Shaped Tryz.prog := World.shaped_of_ZipB (by kernel_rfl) (by kernel_rfl)
theorem laid_met (os : Os) : laidMet Tryz.prog Rows.consoleManyRow.laid ((start os).forCall (fun _ _ => 0) ⟨#[], wit, []⟩).memory := laidMet_laidAll _ (by kernel_rfl) (by kernel_rfl)
theorem reads (os : Os) {H : Type} (enc : TypeId × Value → H) : ∃ places, DataW.whole enc Tryz.prog ((start os).forCall (fun _ _ => 0) ⟨#[], wit, []⟩).memory Tryz.f5.params.toList Rows.consoleManySpec.vars false wit.toList 8 = some ([.nil], [], places) :=
  ⟨[], by kernel_rfl⟩
theorem okw (os : Os) : Input.okWideB Tryz.prog ((start os).forCall (fun _ _ => 0) ⟨#[], wit, []⟩) 5 ⟨#[], wit, []⟩ = true := by kernel_rfl
set_option maxRecDepth 100000 in
theorem lifted (os : Os) (started : os.Started) (H : Type) (enc : TypeId × Value → H) (F : Stop.Interp) :
    ReturnsInHanded {} Tryz.checked os 5 .any ((OpenSpec.ofChange Rows.consoleManySpec).preRow enc Tryz.prog Tryz.f5 Rows.consoleManyRow.domain false Rows.consoleManyRow.laid) (((OpenSpec.ofChange Rows.consoleManySpec).at F).post enc Tryz.prog Tryz.f5 false true false false) := by
  obtain ⟨places, hx⟩ := reads os enc
  refine returnsInHanded_of_row (C := Tryz.checked) (s := OpenSpec.ofChange Rows.consoleManySpec) own started (by kernel_rfl) Tryz.func5 ?_ ?_
  · refine ⟨start os, fun _ _ => 0, ⟨#[], wit, []⟩, World.laidAll_os _ _ _, shaped os, (Input.okWide_of_okWideB (base := 0) (okw os)).1, (Input.okWide_of_okWideB (okw os)).2,
      OpenSpec.preRow_of_cond 8 hx (by kernel_rfl) (fun k hk => by cases hk) (by kernel_rfl) (laid_met os), ?_⟩
    simp only [Assume.holds]
    exact ⟨by simp, by simp, fun _ => Modest.zero, by simp, by simp⟩
  · intro W base args ds gs before hval hW _ _ hsz hL hS _
    exact contract H enc W base args ds gs before hval hW hsz (gl_of hL hS)
theorem said : Rows.ConsoleManySaid :=
  OpenClaim.holds_of_cond 5 Tryz.f5 rfl rfl rfl rfl rfl rfl rfl ⟨rfl, rfl, rfl, rfl, rfl⟩ rfl rfl rfl rfl rfl (by kernel_rfl) Tryz.func5 (by kernel_rfl)
    (of_decide_eq_true (by kernel_rfl)) (by unfold Func.isWrapper; first | (rw [if_pos (by decide +kernel)]; kernel_rfl) | (rw [if_neg (by decide +kernel)]; exact ⟨rfl, rfl⟩))
    (fun os started H enc _ F => by rw [OpenClaim.pre_eq_preRow]; exact lifted os started H enc F)
/-- No parameter wants a stand-in; the program's own looks are off. -/
theorem plain (f : FuncId) (fn : Func) (hf : Tryz.pinned.checked.prog.funcNamed "bourne/bournelaw25.ConsoleMany" = some f) (hfn : Tryz.pinned.checked.prog.funcs[f]? = some fn) :
    true = Tryz.pinned.checked.prog.looks [] ∧ ∀ (j : Nat) t, fn.params[j]? = some t → Tryz.pinned.checked.prog.wantsStandIn t = false := by
  obtain rfl : f = 5 := Option.some.inj ((show Tryz.prog.funcNamed "bourne/bournelaw25.ConsoleMany" = some 5 by kernel_rfl).symm.trans hf) |>.symm
  obtain rfl : fn = Tryz.f5 := (Option.some.inj (Tryz.func5.symm.trans hfn)).symm
  refine ⟨by kernel_rfl, fun j t ht => ?_⟩
  rw [Tryz.params5] at ht
  have hm : t ∈ [33] := by simpa using Array.mem_of_getElem? ht
  obtain rfl : t = 33 := by simpa using hm
  exact (show Tryz.prog.wantsStandIn 33 = false by kernel_rfl)
theorem card : Rows.ConsoleManyCardSaid :=
  Claim7.holds_tied_plain_at .later [] _ _ _ _ said (fun _ h => by cases h) (by kernel_rfl) (fun _ h => by cases h) consoleMany_row_tie rfl ⟨rfl, rfl⟩ (by kernel_rfl) rfl plain (by kernel_rfl)
#print axioms card
end many
end Go.Proofs.YtlpomcacaimnfaaGreatDoor
