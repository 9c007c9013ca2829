/- Lemmas for the statements of this seat: how the code of the program runs, function by function; no condition beyond what each states. -/
import Derived.Test.YtlpomcacaimnfaaGreatDoorCards
import Derived.Test.YtlpomcacaimnfaaGreatDoorTie
import Derived.WalkKit
import Derived.ProofKit
import Derived.OpenShut
import Derived.Deep.DeepHandedRow
import Derived.Lib.LaidTab
import Derived.Lib.LaidU8
import Derived.Shelf.Vars
import Derived.Lay
import Derived.LaidOnce
import Derived.SevenTiedAt
import Derived.Test.YtlpomcacaimnfaaGreatDoorBase6
set_option linter.unusedVariables false
set_option linter.unusedSectionVars false
set_option linter.unusedSimpArgs false
namespace Bo
open Go Go.Proofs
def awakeIn : List UInt8 := [102, 108, 111, 111, 114, 32, 45, 55, 32, 50, 10, 35, 32, 120, 10, 10, 119, 105, 110, 100, 111, 119, 115, 32, 53, 32, 50, 32, 52, 10, 115, 101, 115, 115, 105, 111, 110, 115, 32, 51, 32, 49, 48, 32, 49, 51, 32, 49, 50, 10, 115, 117, 109, 32, 49, 50, 51, 52, 32, 53, 54, 55, 56, 57, 10, 115, 111, 114, 116, 32, 53, 32, 45, 50, 32, 52, 10, 102, 114, 111, 98, 10, 102, 108, 111, 111, 114, 32, 49, 32, 48, 10, 115, 111, 114, 116]
def awakeOut : List UInt8 := [45, 52, 32, 49, 10, 48, 32, 50, 32, 52, 10, 49, 48, 32, 49, 51, 10, 49, 48, 54, 55, 51, 10, 45, 50, 32, 52, 32, 53, 10, 101, 114, 114, 111, 114, 32, 50, 53, 48, 48, 10, 101, 114, 114, 111, 114, 32, 51, 48, 48, 10, 10]
/-! ### Single lines -/
theorem tellL_of {l v : List UInt8} {r : List (List UInt8)} {s : List UInt8} (hw : wordsL [] l = v :: r) (h : v.head? ≠ some 35) (hs : lineS v r = s) : tellL l = s ++ [10] := by
  unfold tellL; rw [hw]; simp only [if_neg h, hs]
theorem lineS_cmd {v : List UInt8} {r : List (List UInt8)} {xs : List Int} (x : Cmd) (hv : v ≠ [115, 117, 109]) (hn : numsL r = xs) (hf : cmds.find? (fun x => decide (numsOk r = true ∧ x.fits v xs.length)) = some x) : lineS v r = outS x xs := by
  unfold lineS
  rw [if_neg hv, hn, hf]
theorem lineS_bad {v : List UInt8} {r : List (List UInt8)} {xs : List Int} (hv : v ≠ [115, 117, 109]) (hn : numsL r = xs) (hf : cmds.find? (fun x => decide (numsOk r = true ∧ x.fits v xs.length)) = none) : lineS v r = faultS 2500 := by
  unfold lineS
  rw [if_neg hv, hn, hf]
theorem tellL_none {l : List UInt8} (hw : wordsL [] l = []) : tellL l = [] := by unfold tellL; rw [hw]
theorem tellL_hash {l v : List UInt8} {r : List (List UInt8)} (hw : wordsL [] l = v :: r) (h : v.head? = some 35) : tellL l = [] := by unfold tellL; rw [hw]; simp only [if_pos h]
theorem awake1 : tellL [102, 108, 111, 111, 114, 32, 45, 55, 32, 50] = [45, 52, 32, 49, 10] := by
  refine tellL_of (v := [102, 108, 111, 111, 114]) (r := [[45, 55], [50]]) (s := [45, 52, 32, 49]) (by decide +kernel) (by decide) ?_
  rw [lineS_cmd (xs := [-7, 2]) floorC (by decide) (by decide +kernel) (by rfl)]
  show divS (-7) 2 = _
  unfold divS toldS
  simp [Lib.itoa, Lib.decDigits, Lib.join, List.intercalate, List.intersperse]
theorem awake2 : tellL [35, 32, 120] = [] := tellL_hash (v := [35]) (r := [[120]]) (by decide +kernel) rfl
theorem awake3 : tellL [] = [] := tellL_none rfl
theorem awake4 : tellL [119, 105, 110, 100, 111, 119, 115, 32, 53, 32, 50, 32, 52] = [48, 32, 50, 32, 52, 10] := by
  refine tellL_of (v := [119, 105, 110, 100, 111, 119, 115]) (r := [[53], [50], [52]]) (s := [48, 32, 50, 32, 52]) (by decide +kernel) (by decide) ?_
  rw [lineS_cmd (xs := [5, 2, 4]) windowsC (by decide) (by decide +kernel) (by rfl)]
  have h0 : ofOk (sldQ 5 2) 4 := by decide +kernel
  have h1 : (winX 5 2 4).map Span.start = [0, 2, 4] := by decide +kernel
  unfold outS
  rw [if_pos (show (windowsC.does [5, 2, 4]).1 = 0 by show (if ofOk (sldQ 5 2) 4 then 0 else 400) = (0 : Int); exact if_pos h0)]
  show toldS ((winX 5 2 4).map Span.start) = _
  rw [h1]
  unfold toldS
  simp [Lib.itoa, Lib.decDigits, Lib.join, List.intercalate, List.intersperse]
theorem awake5 : tellL [115, 101, 115, 115, 105, 111, 110, 115, 32, 51, 32, 49, 48, 32, 49, 51, 32, 49, 50] = [49, 48, 32, 49, 51, 10] := by
  refine tellL_of (v := [115, 101, 115, 115, 105, 111, 110, 115]) (r := [[51], [49, 48], [49, 51], [49, 50]]) (s := [49, 48, 32, 49, 51]) (by decide +kernel) (by decide) ?_
  rw [lineS_cmd (xs := [3, 10, 13, 12]) sessionsC (by decide) (by decide +kernel) (by rfl)]
  have h0 : (sesR 3 [10, 13, 12]).1 = 0 := by decide +kernel
  have h1 : ends2 (sesR 3 [10, 13, 12]).2 = [10, 13] := by decide +kernel
  unfold outS
  rw [if_pos (show (sessionsC.does [3, 10, 13, 12]).1 = 0 from h0)]
  show toldS (ends2 (sesR 3 [10, 13, 12]).2) = _
  rw [h1]
  unfold toldS
  simp [Lib.itoa, Lib.decDigits, Lib.join, List.intercalate, List.intersperse]
theorem awake6 : tellL [115, 117, 109, 32, 49, 50, 51, 52, 32, 53, 54, 55, 56, 57] = [49, 48, 54, 55, 51, 10] := by
  refine tellL_of (v := [115, 117, 109]) (r := [[49, 50, 51, 52], [53, 54, 55, 56, 57]]) (s := [49, 48, 54, 55, 51]) (by decide +kernel) (by decide) ?_
  have h1 : sumS [[49, 50, 51, 52], [53, 54, 55, 56, 57]].flatten = 10673 := by decide +kernel
  unfold lineS
  rw [if_pos rfl, h1]
  simp [Lib.itoa, Lib.decDigits]
theorem awake7 : tellL [115, 111, 114, 116, 32, 53, 32, 45, 50, 32, 52] = [45, 50, 32, 52, 32, 53, 10] := by
  refine tellL_of (v := [115, 111, 114, 116]) (r := [[53], [45, 50], [52]]) (s := [45, 50, 32, 52, 32, 53]) (by decide +kernel) (by decide) ?_
  rw [lineS_cmd (xs := [5, -2, 4]) sortC (by decide) (by decide +kernel) (by rfl)]
  have h1 : sortedN [5, -2, 4] = [-2, 4, 5] := by decide +kernel
  unfold outS
  rw [if_pos (show (sortC.does [5, -2, 4]).1 = 0 by decide)]
  show (if 8192 < [(5 : Int), -2, 4].length then [] else toldS (sortedN [5, -2, 4])) = _
  rw [if_neg (by decide), h1]
  unfold toldS
  simp [Lib.itoa, Lib.decDigits, Lib.join, List.intercalate, List.intersperse]
theorem fault2500 : faultS 2500 = [101, 114, 114, 111, 114, 32, 50, 53, 48, 48] := by unfold faultS; simp [Lib.itoa, Lib.decDigits]
theorem fault300 : faultS 300 = [101, 114, 114, 111, 114, 32, 51, 48, 48] := by unfold faultS; simp [Lib.itoa, Lib.decDigits]
theorem awake8 : tellL [102, 114, 111, 98] = [101, 114, 114, 111, 114, 32, 50, 53, 48, 48, 10] := by
  refine tellL_of (v := [102, 114, 111, 98]) (r := []) (s := [101, 114, 114, 111, 114, 32, 50, 53, 48, 48]) (by decide +kernel) (by decide) ?_
  rw [lineS_bad (xs := []) (by decide) (by decide +kernel) (by rfl), fault2500]
theorem awake9 : tellL [102, 108, 111, 111, 114, 32, 49, 32, 48] = [101, 114, 114, 111, 114, 32, 51, 48, 48, 10] := by
  refine tellL_of (v := [102, 108, 111, 111, 114]) (r := [[49], [48]]) (s := [101, 114, 114, 111, 114, 32, 51, 48, 48]) (by decide +kernel) (by decide) ?_
  rw [lineS_cmd (xs := [1, 0]) floorC (by decide) (by decide +kernel) (by rfl)]
  unfold outS
  rw [if_neg (show ¬ (floorC.does [1, 0]).1 = 0 by decide)]
  exact fault300
theorem awake10 : tellL [115, 111, 114, 116] = [10] := by
  refine tellL_of (v := [115, 111, 114, 116]) (r := []) (s := []) (by decide +kernel) (by decide) ?_
  rw [lineS_cmd (xs := []) sortC (by decide) (by decide +kernel) (by rfl)]
  rfl
theorem awakeL : linesL [] awakeIn = [[102, 108, 111, 111, 114, 32, 45, 55, 32, 50], [35, 32, 120], [], [119, 105, 110, 100, 111, 119, 115, 32, 53, 32, 50, 32, 52], [115, 101, 115, 115, 105, 111, 110, 115, 32, 51, 32, 49, 48, 32, 49, 51, 32, 49, 50], [115, 117, 109, 32, 49, 50, 51, 52, 32, 53, 54, 55, 56, 57], [115, 111, 114, 116, 32, 53, 32, 45, 50, 32, 52], [102, 114, 111, 98], [102, 108, 111, 111, 114, 32, 49, 32, 48], [115, 111, 114, 116]] := by decide +kernel
theorem awake_runS : runS awakeIn = awakeOut := by
  unfold runS
  rw [awakeL]
  simp only [List.flatMap_cons, List.flatMap_nil, awake1, awake2, awake3, awake4, awake5, awake6, awake7, awake8, awake9, awake10]
  rfl
end Bo
namespace Bo
open Go Go.Proofs Go.RowKit
theorem inter_snoc (sep y : List UInt8) : ∀ xs : List (List UInt8), xs ≠ [] → sep.intercalate (xs ++ [y]) = sep.intercalate xs ++ sep ++ y
  | [], h => absurd rfl h
  | [x], _ => by simp [List.intercalate, List.intersperse]
  | x :: x' :: xs, _ => by
    rw [List.cons_append, List.cons_append, List.intercalate_cons_cons, List.intercalate_cons_cons, ← List.cons_append, inter_snoc sep y (x' :: xs) (by simp)]
    simp [List.append_assoc]
theorem toldS_take (xs : List Int) (i : Nat) (x : Int) (h : xs[i]? = some x) : toldS (xs.take (i + 1)) = toldS (xs.take i) ++ (if 0 < i then [32] else []) ++ Lib.itoa x := by
  have hl := (List.getElem?_eq_some_iff.1 h).1
  have e : toldS (xs.take (i + 1)) = [32].intercalate ((xs.take i).map Lib.itoa ++ [Lib.itoa x]) := by
    unfold toldS Lib.join
    rw [List.take_add_one, h]; simp
  rw [e]
  cases i with
  | zero => simp [toldS, Lib.join, List.intercalate, List.intersperse]
  | succ i =>
    rw [inter_snoc _ _ _ (by cases xs with | nil => simp at hl | cons y ys => simp), if_pos (by omega)]
    rfl
theorem law_tell {I : Nat → Prop} {w : World} {a : Option Addr} {c : Nat} (xs : List Int) (hR : RI a c xs I w) (hx : ∀ x ∈ xs, -100000000000000 ≤ x ∧ x ≤ 100000000000000) (hl : xs.length ≤ 1000000) :
    Ct Tryz.prog 14 #[.slice a xs.length c] I w (fun _ : Unit => .string (bs8 (toldS xs))) (fun _ _ _ => True) := by
  refine Ct.of (args := [_]) (F := RI a c xs) Tryz.func14 rfl rfl hR fun hs => ?_
  refine sr (p 1 rfl (z ?_))
  refine sr (p 1 rfl (z ?_))
  refine C.seq ?_
  refine sr (p 1 rfl (z ?_))
  refine C.block ?_ -- BLOCK 0
  refine C.loop (fun n ρ w' => ∃ i : Nat, n = xs.length - i ∧ i ≤ xs.length ∧ ρ 0 = .slice a xs.length c ∧ ρ 3 = .string (bs8 (toldS (xs.take i))) ∧ ρ 4 = .int .i64 i ∧ St N0 I w (up I w.heap.size) [] (RI a c xs) w') _ ⟨0, rfl, by omega, rfl, rfl, rfl, hs⟩ ?_
  rintro n ρ w1 ⟨i, hn, hi, h0, h3, h4, hs⟩
  refine C.nm 0 h0 (C.nm 3 h3 (C.nm 4 h4 ?_))
  refine C.seq ?_
  refine sr (p 4 rfl (z ?_))
  refine C.cond_dec rfl (fun h1 => ?_) fun h1 => ?_ -- t8
  · have hxi := List.getElem?_eq_getElem (show i < xs.length by omega)
    have hxm := hx _ (List.getElem_mem (show i < xs.length by omega))
    generalize xs[i] = x at hxi hxm
    have htk := toldS_take xs i x hxi
    have hlen := toldS_len (xs := xs.take i) (fun y hy => by have := hx y (List.mem_of_mem_take hy); constructor <;> omega)
    have hlt : (xs.take i).length = i := by simp; omega
    rw [hlt] at hlen
    have hil := itoa_length x (by constructor <;> omega)
    generalize toldS (xs.take i) = s at htk hlen ⊢
    refine C.skip ?_
    refine C.seq ?_
    refine C.block ?_ -- BLOCK 1
    refine sc (fun ρ w' => ρ 0 = .slice a xs.length c ∧ ρ 3 = .string (bs8 (s ++ (if 0 < i then [32] else []))) ∧ ρ 4 = .int .i64 i ∧ St N0 I w (up I w.heap.size) [] (RI a c xs) w') ?_ ?_
    · refine sr (p 2 rfl (z ?_))
      refine C.cond_dec rfl (fun h2 => ?_) fun h2 => ?_ -- t12
      · refine C.reg (p 1 rfl (ct (s := bs8 s) (t := bs8 [32]) rfl (by rw [bs8_size, bs8_size]; simp; omega) (p 1 rfl (z ⟨rfl, ?_, rfl, hs⟩))))
        rw [if_pos (by omega), ← bs8_append]; rfl
      · refine C.skip ⟨rfl, ?_, rfl, hs⟩
        rw [if_neg (by omega), List.append_nil]; rfl
    rintro ρ w2 ⟨h0, h3, h4, hs⟩
    have hsl : (s ++ (if 0 < i then [(32 : UInt8)] else [])).length ≤ i * 21 + 1 := by split <;> simp <;> omega
    generalize s ++ (if 0 < i then [(32 : UInt8)] else []) = s2 at htk h3 hsl
    refine C.nm 0 h0 (C.nm 3 h3 (C.nm 4 h4 ?_))
    refine sr (p 2 rfl (ixn i rfl hs.f (by simp) (map_get hxi) fun b off hat => l1 0 rfl hat rfl rfl (p 1 rfl (z ?_))))
    have hs2 : s2 ++ Lib.itoa x = toldS (xs.take (i + 1)) := htk.symm
    refine C.cond_dec rfl (fun h6 => ?_) fun h6 => ?_ -- t19
    · have e : Lib.itoa x = 45 :: Lib.decDigits x.natAbs := if_pos h6
      have hd : (Lib.decDigits x.natAbs).length ≤ 20 := by rw [e] at hil; simp at hil; omega
      refine C.reg (p 1 rfl (ct (s := bs8 s2) (t := bs8 [45]) rfl (by rw [bs8_size, bs8_size]; simp; omega) (p 2 rfl (ixn i rfl hs.f (by simp) (map_get hxi) fun b off hat => l1 0 rfl hat rfl rfl (an ((x.natAbs : Nat) : Int) rfl (by omega) (by omega) (c0 rfl hs (ref_Decimal x.natAbs (by omega)) fun w3 hs => ?_))))))
      rw [bs8_append]
      refine ct (s := bs8 (s2 ++ [45])) (t := bs8 (Lib.decDigits x.natAbs)) rfl (by rw [bs8_size, bs8_size]; simp; omega) (p 1 rfl (z ?_))
      refine C.reg (p 1 rfl (Bo.a rfl (by omega) (p 1 rfl (z ?_))))
      refine ⟨_, by omega, i + 1, rfl, by omega, rfl, ?_, rfl, hs⟩
      show Value.string (bs8 (s2 ++ [45]) ++ bs8 (Lib.decDigits x.natAbs)) = _
      rw [bs8_append, ← hs2, e, List.append_assoc]; rfl
    · have e : Lib.itoa x = Lib.decDigits x.toNat := if_neg h6
      have hd : (Lib.decDigits x.toNat).length ≤ 20 := by rw [e] at hil; omega
      refine C.reg (p 3 rfl (ixn i rfl hs.f (by simp) (map_get hxi) fun b off hat => l1 0 rfl hat rfl rfl (c0 rfl hs (by have h := ref_Decimal (I := up I w.heap.size) (w := w2) x.toNat (by omega); rw [show ((x.toNat : Nat) : Int) = x by omega] at h; exact h) fun w3 hs => ct (s := bs8 s2) (t := bs8 (Lib.decDigits x.toNat)) rfl (by rw [bs8_size, bs8_size]; omega) (p 1 rfl (z ?_)))))
      refine C.reg (p 1 rfl (Bo.a rfl (by omega) (p 1 rfl (z ?_))))
      refine ⟨_, by omega, i + 1, rfl, by omega, rfl, ?_, rfl, hs⟩
      show Value.string (bs8 s2 ++ bs8 (Lib.decDigits x.toNat)) = _
      rw [bs8_append, ← hs2, e]
  · have : i = xs.length := by omega
    subst this
    rw [List.take_length]
    refine C.exit ?_ -- EXIT 0
    refine sr (p 2 rfl (z ?_))
    refine C.ret ?_
    exact e1 rfl rfl hs () rfl trivial
end Bo
namespace Bo
open Go Go.Proofs Go.RowKit
/-! ### A number, told and read -/
theorem decFrom_append (l m : List UInt8) : ∀ acc, Lib.decFrom acc (l ++ m) = (Lib.decFrom acc l).bind fun a => Lib.decFrom a m := by
  induction l with
  | nil => intro acc; rfl
  | cons b l ih =>
    intro acc
    rw [List.cons_append]
    simp only [Lib.decFrom]
    cases Lib.digitVal b with
    | none => rfl
    | some d => exact ih _
theorem digU_dig (u : Nat) : isDig (digU u) = true ∧ digU u ≠ 45 ∧ digU u ≠ 10 ∧ isBl (digU u) = false := by
  have h := digU_nat u
  have hlt : u % 10 < 10 := Nat.mod_lt _ (by decide)
  refine ⟨decide_eq_true (by omega), fun e => ?_, fun e => ?_, decide_eq_false (by omega)⟩
  · rw [e] at h
    have : (45 : UInt8).toNat = 45 := rfl
    omega
  · rw [e] at h
    have : (10 : UInt8).toNat = 10 := rfl
    omega
theorem digU_val (u : Nat) : Lib.digitVal (digU u) = some (u % 10) := by
  have h := digU_nat u
  have hlt : u % 10 < 10 := Nat.mod_lt _ (by decide)
  unfold Lib.digitVal
  rw [if_pos ⟨by omega, by omega⟩]
  exact congrArg some (by omega)
theorem dec_from : ∀ (n u : Nat), u ≤ n → Lib.decFrom 0 (Lib.decDigits u) = some u := by
  intro n
  induction n with
  | zero =>
    intro u hu
    obtain rfl : u = 0 := by omega
    rw [dec_small (by decide)]
    simp only [Lib.decFrom, digU_val]
  | succ n ih =>
    intro u hu
    by_cases h : u < 10
    · rw [dec_small h]
      simp only [Lib.decFrom, digU_val]
      exact congrArg some (by omega)
    · rw [dec_big h, decFrom_append, ih (u / 10) (by omega)]
      simp only [Option.bind_some, Lib.decFrom, digU_val]
      exact congrArg some (by omega)
theorem dec_all (P : UInt8 → Prop) (hP : ∀ u, P (digU u)) : ∀ (n u : Nat), u ≤ n → ∀ b ∈ Lib.decDigits u, P b := by
  intro n
  induction n with
  | zero =>
    intro u hu b hb
    obtain rfl : u = 0 := by omega
    rw [dec_small (by decide)] at hb
    rw [List.mem_singleton.1 hb]; exact hP _
  | succ n ih =>
    intro u hu b hb
    by_cases h : u < 10
    · rw [dec_small h] at hb
      rw [List.mem_singleton.1 hb]; exact hP _
    · rw [dec_big h] at hb
      rcases List.mem_append.1 hb with hb | hb
      · exact ih (u / 10) (by omega) b hb
      · rw [List.mem_singleton.1 hb]; exact hP _
theorem dec_ne (u : Nat) : Lib.decDigits u ≠ [] := by
  by_cases h : u < 10
  · rw [dec_small h]; simp
  · rw [dec_big h]; simp
/-- A word: bytes without blanks and line ends. -/
def wordy (l : List UInt8) : Prop := l ≠ [] ∧ ∀ b ∈ l, isBl b = false ∧ b ≠ 10
theorem itoa_wordy (x : Int) : wordy (Lib.itoa x) := by
  have hd : ∀ u, ∀ b ∈ Lib.decDigits u, isBl b = false ∧ b ≠ 10 := fun u => dec_all (fun b => isBl b = false ∧ b ≠ 10) (fun u => ⟨(digU_dig u).2.2.2, (digU_dig u).2.2.1⟩) u u (Nat.le_refl _)
  unfold Lib.itoa
  split
  · refine ⟨by simp, fun b hb => ?_⟩
    rcases List.mem_cons.1 hb with rfl | hb
    · decide
    · exact hd _ b hb
  · exact ⟨dec_ne _, hd _⟩
theorem numS_itoa (x : Int) (h : -999999 ≤ x ∧ x ≤ 999999) : numS (Lib.itoa x) = some x := by
  have hdig : ∀ u, (Lib.decDigits u).all isDig = true := fun u => List.all_eq_true.2 fun b hb => dec_all (fun b => isDig b = true) (fun u => (digU_dig u).1) u u (Nat.le_refl _) b hb
  have hn45 : ∀ u, ∀ b ∈ Lib.decDigits u, b ≠ 45 := fun u => dec_all (fun b => b ≠ 45) (fun u => (digU_dig u).2.1) u u (Nat.le_refl _)
  have hlen : ∀ u, u < 1000000 → (Lib.decDigits u).length ≤ 6 := fun u hu => decDigits_length 6 u (by decide) (by simpa using hu)
  have hnat : ∀ u, Lib.decNat (Lib.decDigits u) = some u := fun u => by
    unfold Lib.decNat
    rw [if_neg (by have := dec_ne u; simpa using this)]
    exact dec_from u u (Nat.le_refl _)
  by_cases h0 : x < 0
  · have e : Lib.itoa x = 45 :: Lib.decDigits x.natAbs := if_pos h0
    rw [e]
    have hdo : digitsOf (45 :: Lib.decDigits x.natAbs) = Lib.decDigits x.natAbs := by
      unfold digitsOf Lib.trimPrefix Lib.hasPrefix
      simp
    have hok : numOk (45 :: Lib.decDigits x.natAbs) = true := by
      unfold numOk
      rw [hdo, hdig]
      have h1 := hlen x.natAbs (by omega)
      have h2 := dec_ne x.natAbs
      simp [h1, h2]
    unfold numS
    rw [if_pos hok]
    simp only [Lib.atoi, hnat]
    simp; omega
  · have e : Lib.itoa x = Lib.decDigits x.toNat := if_neg h0
    rw [e]
    have hne := dec_ne x.toNat
    have h45 := hn45 x.toNat
    have hd := hdig x.toNat
    have hl := hlen x.toNat (by omega)
    have hn := hnat x.toNat
    cases hdd : Lib.decDigits x.toNat with
    | nil => exact absurd hdd hne
    | cons b r =>
      rw [hdd] at h45 hd hl hn
      have hb : b ≠ 45 := h45 b (by simp)
      have hdo : digitsOf (b :: r) = b :: r := by
        unfold digitsOf Lib.trimPrefix Lib.hasPrefix
        rw [if_neg (by simp [List.isPrefixOf]; exact fun e => hb e.symm)]
      have hok : numOk (b :: r) = true := by
        unfold numOk
        rw [hdo, hd]
        simp only [List.isEmpty_cons, Bool.not_false, Bool.true_and, Bool.and_true]
        exact decide_eq_true hl
      have hb43 : ¬ b = 43 := by
        intro e
        have := List.all_eq_true.1 hd b (by simp)
        rw [e] at this; exact absurd this (by decide)
      unfold numS
      rw [if_pos hok]
      simp only [Lib.atoi, hn]
      rw [if_neg (by simpa using hb), if_neg (by simpa using hb43)]
      simp; omega
/-! ### One line, and lines -/
theorem words_inter : ∀ ws : List (List UInt8), (∀ w ∈ ws, wordy w) → wordsL [] ([32].intercalate ws) = ws
  | [], _ => rfl
  | [w], h => by
    have hw := h w (by simp)
    have e : [(32 : UInt8)].intercalate [w] = w ++ [] := by simp [List.intercalate, List.intersperse]
    rw [e, wordsL_skip w [] [] (fun b hb => (hw.2 b hb).1), wordsL, if_neg (by simpa using hw.1)]
    simp
  | w :: v :: ws, h => by
    have hw := h w (by simp)
    have ih := words_inter (v :: ws) fun x hx => h x (List.mem_cons_of_mem _ hx)
    rw [List.intercalate_cons_cons, List.append_assoc, wordsL_skip w [] _ (fun b hb => (hw.2 b hb).1)]
    show wordsL ([] ++ w) (32 :: [32].intercalate (v :: ws)) = _
    rw [wordsL, if_pos (by decide), if_neg (by simpa using hw.1), ih]
    simp
theorem lines_one {s : List UInt8} (h : ∀ b ∈ s, b ≠ 10) : linesL [] s = [s] := by
  have := linesL_skip s [] [] h
  rw [List.append_nil] at this
  rw [this]; simp [linesL]
theorem lines_cons {s : List UInt8} (t : List UInt8) (h : ∀ b ∈ s, b ≠ 10) : linesL [] (s ++ 10 :: t) = s :: linesL [] t := by
  rw [linesL_skip s [] _ h, linesL, if_pos rfl]; simp
theorem runS_one {s : List UInt8} (h : ∀ b ∈ s, b ≠ 10) : runS s = tellL s := by
  unfold runS; rw [lines_one h]; simp
theorem runS_cons {s : List UInt8} (t : List UInt8) (h : ∀ b ∈ s, b ≠ 10) : runS (s ++ 10 :: t) = tellL s ++ runS t := by
  unfold runS; rw [lines_cons t h]; simp
theorem inter_no10 : ∀ ws : List (List UInt8), (∀ w ∈ ws, wordy w) → ∀ b ∈ [32].intercalate ws, b ≠ 10
  | [], _ => by simp [List.intercalate]
  | [w], h => by
    have e : [(32 : UInt8)].intercalate [w] = w := by simp [List.intercalate, List.intersperse]
    rw [e]; exact fun b hb => ((h w (by simp)).2 b hb).2
  | w :: v :: ws, h => by
    have ih := inter_no10 (v :: ws) fun x hx => h x (List.mem_cons_of_mem _ hx)
    rw [List.intercalate_cons_cons]
    intro b hb
    rcases List.mem_append.1 hb with hb | hb
    · rcases List.mem_append.1 hb with hb | hb
      · exact ((h w (by simp)).2 b hb).2
      · rw [List.mem_singleton.1 hb]; decide
    · exact ih b hb
theorem tell_inter (v : List UInt8) (r : List (List UInt8)) (h : ∀ w ∈ v :: r, wordy w) (h35 : v.head? ≠ some 35) : tellL ([32].intercalate (v :: r)) = lineS v r ++ [10] :=
  tellL_of (words_inter _ h) h35 rfl
theorem nums_itoa (xs : List Int) (h : ∀ x ∈ xs, -999999 ≤ x ∧ x ≤ 999999) : numsOk (xs.map Lib.itoa) = true ∧ numsL (xs.map Lib.itoa) = xs := by
  have hok : numsOk (xs.map Lib.itoa) = true := by
    unfold numsOk
    rw [List.all_eq_true]
    intro w hw
    obtain ⟨x, hx, rfl⟩ := List.mem_map.1 hw
    rw [numS_itoa x (h x hx)]; rfl
  refine ⟨hok, ?_⟩
  unfold numsL
  rw [if_pos hok, List.filterMap_map]
  induction xs with
  | nil => rfl
  | cons x xs ih =>
    rw [List.filterMap_cons]
    simp only [Function.comp, numS_itoa x (h x (by simp))]
    congr 1
    exact ih (fun y hy => h y (by simp [hy])) (by
      unfold numsOk at hok ⊢
      simp only [List.map_cons, List.all_cons, Bool.and_eq_true] at hok
      exact hok.2)
theorem toldS_inter (xs : List Int) : toldS xs = [32].intercalate (xs.map Lib.itoa) := rfl
theorem toldS_one (x : Int) : toldS [x] = Lib.itoa x := by simp [toldS, Lib.join, List.intercalate]
/-- What a line of a command and numbers tells. -/
theorem line_nums (x : Cmd) (xs : List Int) (hx : ∀ y ∈ xs, -999999 ≤ y ∧ y ≤ 999999) (hv : x.w ≠ [115, 117, 109]) (hf : cmds.find? (fun c => decide (c.fits x.w xs.length)) = some x) : lineS x.w (xs.map Lib.itoa) = outS x xs := by
  have hn := nums_itoa xs hx
  refine lineS_cmd x hv hn.2 ?_
  simp only [hn.1, true_and]
  exact hf
end Bo
namespace Bo
open Go Go.Proofs Go.RowKit
theorem law_Num {I : Nat → Prop} {w : World} (e : Int) : Ct Tryz.prog 10 #[.int .i64 e] I w (fun _ : Unit => .int .i64 e) (fun _ _ _ => True) := by
  refine Ct.of (args := [_]) (F := fun _ _ => True) Tryz.func10 rfl rfl trivial fun hs => ?_
  refine sr (p 1 rfl (z ?_))
  refine sr (p 2 rfl (z ?_))
  refine C.ret ?_
  exact e1 rfl rfl hs () rfl trivial
theorem console_Run0 {I : Nat → Prop} {w : World} (s : List UInt8) (hG : Gl I w) (hl : s.length ≤ 65536) :
    Ct Tryz.prog 9 #[.string (bs8 s)] I w (fun _ : Unit => .tuple #[.string (bs8 (runS s)), .int .i64 0]) (fun _ _ _ => True) := by
  have h := console_Run (I := I) (w := w) s hG (by omega)
  have e : runV s = .tuple #[.string (bs8 (runS s)), .int .i64 0] := by unfold runV; rw [if_neg (by omega), if_neg (by omega)]
  rwa [e] at h
theorem law_awake {I : Nat → Prop} {w : World} (hG : Gl I w) : Ct Tryz.prog 11 #[] I w (fun _ : Unit => .bool true) (fun _ _ _ => True) := by
  refine Ct.of (args := []) (F := Gl) Tryz.func11 rfl rfl hG fun hs => ?_
  refine sr (p 1 rfl (z ?_))
  have hr := console_Run0 (I := up I w.heap.size) (w := w) awakeIn hs.f (by decide)
  rw [awake_runS] at hr
  refine sr (c0 rfl hs hr fun w1 hs => p 5 rfl (z ?_))
  refine src (fun ρ w' => ρ 0 = .bool true ∧ ∃ F, St N0 I w (up I w.heap.size) [] F w') ?_ ?_
  · refine p 1 rfl (c0 rfl hs (law_Num 0) fun w2 hs => p 2 rfl (gd 10 rfl (fun h => ?_) fun h => absurd rfl h))
    refine p 4 rfl (z ⟨vb rfl ?_, _, hs⟩)
    exact decide_eq_true rfl
  rintro ρ w' ⟨h0, F, hs⟩
  refine C.nm 0 h0 ?_
  refine C.ret ?_
  exact e1 rfl rfl hs () rfl trivial
/-! ### ConsoleFloors -/
theorem floors_run (x y : Int) (hx : -999 ≤ x ∧ x ≤ 999) (hy : 1 ≤ y ∧ y ≤ 256) :
    runS ([102, 108, 111, 111, 114, 32] ++ toldS [x] ++ [32] ++ toldS [y]) = toldS [x / y, x % y] ++ [10] := by
  have e : [102, 108, 111, 111, 114, 32] ++ toldS [x] ++ [32] ++ toldS [y] = [(32 : UInt8)].intercalate ([102, 108, 111, 111, 114] :: [x, y].map Lib.itoa) := by
    rw [toldS_one, toldS_one]
    simp [List.intercalate, List.intersperse, List.append_assoc]
  have hw : ∀ w ∈ ([102, 108, 111, 111, 114] : List UInt8) :: [x, y].map Lib.itoa, wordy w := by
    intro w hw
    rcases List.mem_cons.1 hw with rfl | hw
    · exact ⟨by simp, by decide⟩
    · obtain ⟨z, _, rfl⟩ := List.mem_map.1 hw
      exact itoa_wordy z
  rw [e, runS_one (inter_no10 _ hw), tell_inter _ _ hw (by decide)]
  have hl := line_nums floorC [x, y] (by
    intro z hz
    simp only [List.mem_cons, List.not_mem_nil, or_false] at hz
    rcases hz with rfl | rfl <;> omega) (by decide) (by rfl)
  rw [show ([102, 108, 111, 111, 114] : List UInt8) = floorC.w from rfl, hl]
  unfold outS
  have h0 : (floorC.does [x, y]).1 = 0 := by show (if y < 1 then 300 else 0) = (0 : Int); rw [if_neg (by omega)]
  rw [if_pos h0]
  show divS x y ++ [10] = _
  unfold divS
  rw [if_neg (by omega)]
theorem and255 (b : Int) : ∃ m : Nat, m ≤ 255 ∧ IntKind.i64.wrap ((BitVec.ofInt IntKind.i64.bits b &&& BitVec.ofInt IntKind.i64.bits 255).toNat : Int) = (m : Int) := by
  have h : (BitVec.ofInt IntKind.i64.bits b &&& BitVec.ofInt IntKind.i64.bits 255).toNat ≤ 255 := by
    rw [BitVec.toNat_and]
    have e : (BitVec.ofInt IntKind.i64.bits 255).toNat = 255 := by decide
    rw [e]
    exact Nat.and_le_right
  refine ⟨_, h, ?_⟩
  rw [wrap_i64 (by omega)]
theorem tdiv_q (x y : Int) (hy : 1 ≤ y) : (if x < x.tdiv y * y then x.tdiv y - 1 else x.tdiv y) = x / y := by
  have h1 := Int.tdiv_mul_add_tmod x y
  rw [tdiv_ediv hy]
  by_cases h : x.tmod y < 0
  · rw [if_pos h, if_pos (by omega)]
  · rw [if_neg h, if_neg (by omega)]
theorem law_ConsoleFloors {I : Nat → Prop} {w : World} (a b : Int) (hG : Gl I w) :
    Ct Tryz.prog 8 #[.int .i64 a, .int .i64 b] I w (fun _ : Unit => .bool true) (fun _ _ _ => True) := by
  refine Ct.of (args := [_, _]) (F := Gl) Tryz.func8 rfl rfl hG fun hs => ?_
  refine sr (p 1 rfl (z ?_))
  refine C.seq ?_
  refine sr (c0 rfl hs (law_awake hs.f) fun w1 hs => p 1 rfl (z ?_))
  refine C.nay rfl ?_
  refine C.skip ?_
  obtain ⟨m, hm, hand⟩ := and255 b
  have hx : -999 ≤ a.tmod 1000 ∧ a.tmod 1000 ≤ 999 := by
    have := Int.tmod_lt_of_pos a (show (0 : Int) < 1000 by decide)
    have := Int.lt_tmod_of_pos a (show (0 : Int) < 1000 by decide)
    omega
  refine sr (p 1 rfl (rm rfl (by decide) (p 2 rfl (Wl.nm 15 (v := .int .i64 (m : Int)) (vi rfl hand) (an (1 + (m : Int)) rfl rfl (by omega) (p 2 rfl (z ?_)))))))
  have hy : 1 ≤ 1 + (m : Int) ∧ 1 + (m : Int) ≤ 256 := by omega
  generalize a.tmod 1000 = x at hx
  generalize 1 + (m : Int) = y at hy
  have hdb := tdiv_bd (a := x) hy.1
  have hmul := Int.tdiv_mul_add_tmod x y
  have hmb : -256 < x.tmod y ∧ x.tmod y < 256 := by
    have := Int.tmod_lt_of_pos x (show 0 < y by omega)
    have := Int.lt_tmod_of_pos x (show 0 < y by omega)
    omega
  have hq := tdiv_q x y hy.1
  have hem := Int.emod_add_mul_ediv x y
  have hen := Int.emod_nonneg x (show y ≠ 0 by omega)
  have hel := Int.emod_lt_of_pos x (show 0 < y by omega)
  refine sr (p 2 rfl (dv rfl (by omega) (by omega) (p 1 rfl (z ?_))))
  refine sc (fun ρ w' => ρ 5 = .int .i64 x ∧ ρ 6 = .int .i64 y ∧ ρ 7 = .int .i64 (x / y) ∧ St N0 I w (up I w.heap.size) [] Gl w') ?_ ?_
  · refine sr (p 2 rfl (Bo.a rfl (by omega) (p 2 rfl (z ?_))))
    refine C.cond_dec rfl (fun h1 => ?_) fun h1 => ?_
    · rw [if_pos h1] at hq
      exact C.reg (p 1 rfl (an (x / y) rfl hq (by omega) (p 1 rfl (z ⟨rfl, rfl, rfl, hs⟩))))
    · rw [if_neg h1] at hq
      exact C.skip ⟨rfl, rfl, vi rfl hq, hs⟩
  rintro ρ w2 ⟨h5, h6, h7, hs⟩
  refine C.nm 5 h5 (C.nm 6 h6 (C.nm 7 h7 ?_))
  have hbd1 : ∀ z ∈ [x], -100000000000000 ≤ z ∧ z ≤ 100000000000000 := by intro z hz; rw [List.mem_singleton.1 hz]; omega
  have hbd2 : ∀ z ∈ [y], -100000000000000 ≤ z ∧ z ≤ 100000000000000 := by intro z hz; rw [List.mem_singleton.1 hz]; omega
  have hbd3 : ∀ z ∈ [x / y, x % y], -100000000000000 ≤ z ∧ z ≤ 100000000000000 := by
    intro z hz
    simp only [List.mem_cons, List.not_mem_nil, or_false] at hz
    rcases hz with rfl | rfl <;> omega
  have hl1 := toldS_len (xs := [x]) (fun z hz => by have := hbd1 z hz; constructor <;> omega)
  have hl2 := toldS_len (xs := [y]) (fun z hz => by have := hbd2 z hz; constructor <;> omega)
  have hl3 := toldS_len (xs := [x / y, x % y]) (fun z hz => by have := hbd3 z hz; constructor <;> omega)
  simp only [List.length_cons, List.length_nil] at hl1 hl2 hl3
  have hfr := floors_run x y hx hy
  refine sr (p 1 rfl (bs ([x].map ic) hs rfl fun a1 w3 hs => c0 rfl hs (law_tell [x] hs.f.1 hbd1 (by simp)) fun w4 hs => ?_))
  refine ct (s := bs8 [102, 108, 111, 111, 114, 32]) (t := bs8 (toldS [x])) rfl (by rw [bs8_size, bs8_size]; simp; omega) ?_
  rw [bs8_append]
  refine ct (s := bs8 ([102, 108, 111, 111, 114, 32] ++ toldS [x])) (t := bs8 [32]) rfl (by rw [bs8_size, bs8_size]; simp; omega) ?_
  rw [bs8_append]
  refine p 1 rfl (bs ([y].map ic) hs rfl fun a2 w5 hs => c0 rfl hs (law_tell [y] hs.f.1 hbd2 (by simp)) fun w6 hs => ?_)
  refine ct (s := bs8 ([102, 108, 111, 111, 114, 32] ++ toldS [x] ++ [32])) (t := bs8 (toldS [y])) rfl (by rw [bs8_size, bs8_size]; simp; omega) ?_
  rw [bs8_append]
  refine c0 rfl hs (console_Run0 _ hs.f.2.2 (by simp; omega)) fun w7 hs => ?_
  rw [hfr]
  refine p 5 rfl (z ?_)
  refine src (fun ρ w' => ρ 4 = .bool true ∧ ∃ F, St N0 I w (up I w.heap.size) [] F w') ?_ ?_
  · refine p 1 rfl (c0 rfl hs (law_Num 0) fun w8 hs => p 2 rfl (gd 43 rfl (fun h => ?_) fun h => absurd rfl h))
    refine p 5 rfl (an (x / y * y) rfl rfl (by rw [Int.mul_comm]; omega) (an (x % y) rfl (by rw [Int.mul_comm]; omega) (by omega) ?_))
    refine bs ([x / y, x % y].map ic) hs rfl fun a3 w9 hs => c0 rfl hs (law_tell [x / y, x % y] hs.f.1 hbd3 (by simp)) fun w10 hs => ?_
    refine ct (s := bs8 (toldS [x / y, x % y])) (t := bs8 [10]) rfl (by rw [bs8_size, bs8_size]; simp; omega) ?_
    rw [bs8_append]
    exact p 3 rfl (z ⟨vb rfl (decide_eq_true rfl), _, hs⟩)
  rintro ρ w' ⟨h0, F, hs⟩
  refine C.nm 4 h0 ?_
  refine C.ret ?_
  exact e1 rfl rfl hs () rfl trivial
end Bo
namespace Go.Proofs.YtlpomcacaimnfaaGreatDoor
open Go.ChangeShapes Go.WideShapes Go.ChangeAt Go.RowKit
theorem own : ownKnob Tryz.prog.godebug = none := by kernel_rfl
theorem gPow : Tryz.prog.globalNamed "internal/strconv.uint64pow10" = some 3 := by kernel_rfl
theorem gPowType : (Tryz.prog.globals[3]?).map (·.type) = some 169 := by kernel_rfl
theorem cellsTab : Tryz.prog.cellsOf 169 = 20 := by kernel_rfl
theorem cellsU64 : Tryz.prog.cellsOf 71 = 1 := by kernel_rfl
theorem laid_plain : (Rows.consoleFloorsRow.laid.all fun x => x.2.handleName?.isNone) = true := by kernel_rfl
/-- What the list gives the walks. -/
theorem gl_of {W : World} (h : laidMetH Tryz.prog Rows.consoleFloorsRow.laid W) (hs : W.ShapedOpen Tryz.prog) : Bo.Gl (fun _ => True) W := by
  rw [MakeChecks.laidMetH_plain _ _ _ laid_plain] at h
  obtain ⟨m, hm⟩ := cell_of_shapedOpen_int (P := Tryz.prog) (g := 0) (zero := #[.int .i64 0]) (t := 3) hs (of_decide_eq_true (by kernel_rfl)) (by kernel_rfl) rfl (by kernel_rfl) (by kernel_rfl) Tryz.underlying3
  obtain ⟨g', t', cs, fuel, p, hg', ht', hvar, hd⟩ := Lib.laidMet.reads h (.tail _ (.tail _ (.head _)))
  obtain rfl := Option.some.inj (gPow.symm.trans hg')
  obtain rfl := Option.some.inj (gPowType.symm.trans ht')
  have ed : (Rows.laid_internal_strconv_uint64pow10 : DataW Unit) = Lib.tabData .u64 Lib.pow10Tab := by kernel_rfl
  rw [ed] at hd
  have hlt3 : 3 < W.heap.size := by
    have h0 := World.var?_cell gPow hvar 0
    rcases Nat.lt_or_ge 3 W.heap.size with h' | h'
    · exact h'
    · unfold World.var? at hvar
      rw [gPow] at hvar
      simp [Array.getElem?_eq_none h'] at hvar
  refine ⟨⟨m, trivial, ?_, fun j v hj => ?_⟩, 3, gPow, trivial, hlt3, ?_⟩
  · omega
  · cases j with
    | zero => simp at hj; subst hj; exact hm
    | succ j => simp at hj
  · unfold Lib.TabIs
    rw [hvar, ← Lib.cells_of_tab Tryz.underlying169 Tryz.underlying71 cellsU64 cellsTab hd]
end Go.Proofs.YtlpomcacaimnfaaGreatDoor
