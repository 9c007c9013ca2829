/-
  DERIVED. GIVEN WITH THE SEED: THE CARDS: each row of YtlpomcacaimnfaaGreatDoorRows.lean that lists a variable, with what it lists TIED to the program's text (the seventh form; the later family's looks); each row that meets fmt, with fmt's text TOLD by the authors' own Lean function (tested against real Go, not proved from fmt's source: count such statements apart). THE CARD IS WHAT COUNTS. Prove the row's statement (the work); the ties are given (YtlpomcacaimnfaaGreatDoorTie.lean); close each card by the builder's one call (the guide's Derived/Test/ToyasCard.lean, 'card_holds'). Laid BY PROGRAM, IN A SANDBOX (cutbox-door.mjs). By AI agents, Wed Nov 11 2026. No macro, syntax, notation, axiom, sorry.
-/
import Derived.Test.YtlpomcacaimnfaaGreatDoorRows
import GoSem.ClaimSeven
namespace Go.Proofs.YtlpomcacaimnfaaGreatDoor
namespace Rows

/-- THE TIED CARD OF 'bournelaw25.ConsoleRuns'. -/
def consoleRunsCard : Claim7 := { stood := { row := consoleRunsRow, standIns := [], harness := (true, "9b1aefdad1e5314ad807385d68c591ba019325e4b7d47f2b246c085a21f7f9db"), looks := true }, kinds := [], alts := [], laidByText := true, laidKinds := [.data, .data, .data, .data, .sentinel, .sentinel, .pinned], laidTests := true, laidLooks := .later }
def ConsoleRunsCardSaid : Prop := Claim7.holds Tryz.pinned (.plain (OpenSpec.ofChange consoleRunsSpec)) consoleRunsCard

/-- THE TIED CARD OF 'bournelaw25.ConsoleBegins'. -/
def consoleBeginsCard : Claim7 := { stood := { row := consoleBeginsRow, standIns := [], harness := (true, "9b1aefdad1e5314ad807385d68c591ba019325e4b7d47f2b246c085a21f7f9db"), looks := true }, kinds := [], alts := [], laidByText := true, laidKinds := [.data, .data, .data, .data, .sentinel, .sentinel, .pinned], laidTests := true, laidLooks := .later }
def ConsoleBeginsCardSaid : Prop := Claim7.holds Tryz.pinned (.plain (OpenSpec.ofChange consoleBeginsSpec)) consoleBeginsCard

/-- THE TIED CARD OF 'bournelaw25.ConsoleMany'. -/
def consoleManyCard : Claim7 := { stood := { row := consoleManyRow, standIns := [], harness := (true, "9b1aefdad1e5314ad807385d68c591ba019325e4b7d47f2b246c085a21f7f9db"), looks := true }, kinds := [], alts := [], laidByText := true, laidKinds := [.data, .data, .data, .data, .sentinel, .sentinel, .pinned], laidTests := true, laidLooks := .later }
def ConsoleManyCardSaid : Prop := Claim7.holds Tryz.pinned (.plain (OpenSpec.ofChange consoleManySpec)) consoleManyCard

/-- THE TIED CARD OF 'bournelaw25.ConsoleSorts'. -/
def consoleSortsCard : Claim7 := { stood := { row := consoleSortsRow, standIns := [], harness := (true, "9b1aefdad1e5314ad807385d68c591ba019325e4b7d47f2b246c085a21f7f9db"), looks := true }, kinds := [], alts := [], laidByText := true, laidKinds := [.data, .data, .data, .data, .sentinel, .sentinel, .pinned], laidTests := true, laidLooks := .later }
def ConsoleSortsCardSaid : Prop := Claim7.holds Tryz.pinned (.plain (OpenSpec.ofChange consoleSortsSpec)) consoleSortsCard

/-- THE TIED CARD OF 'bournelaw25.ConsoleWrong'. -/
def consoleWrongCard : Claim7 := { stood := { row := consoleWrongRow, standIns := [], harness := (true, "9b1aefdad1e5314ad807385d68c591ba019325e4b7d47f2b246c085a21f7f9db"), looks := true }, kinds := [], alts := [], laidByText := true, laidKinds := [.data, .data, .data, .data, .sentinel, .sentinel, .pinned], laidTests := true, laidLooks := .later }
def ConsoleWrongCardSaid : Prop := Claim7.holds Tryz.pinned (.plain (OpenSpec.ofChange consoleWrongSpec)) consoleWrongCard

/-- THE TIED CARD OF 'bournelaw25.ConsoleFloors'. -/
def consoleFloorsCard : Claim7 := { stood := { row := consoleFloorsRow, standIns := [], harness := (true, "9b1aefdad1e5314ad807385d68c591ba019325e4b7d47f2b246c085a21f7f9db"), looks := true }, kinds := [], alts := [], laidByText := true, laidKinds := [.data, .data, .data, .data, .sentinel, .sentinel, .pinned], laidTests := true, laidLooks := .later }
def ConsoleFloorsCardSaid : Prop := Claim7.holds Tryz.pinned (.plain (OpenSpec.ofChange consoleFloorsSpec)) consoleFloorsCard

/-- THE SECOND FORM's CARD OF 'bournelaw25.ConsoleRuns'. -/
def consoleRunsUptoCard : Claim7 := { stood := { row := consoleRunsUptoRow, standIns := [], harness := (true, "9b1aefdad1e5314ad807385d68c591ba019325e4b7d47f2b246c085a21f7f9db"), looks := true }, kinds := [], alts := [], laidByText := true, laidKinds := [.data, .data, .data, .data, .sentinel, .sentinel, .pinned], laidTests := true, laidLooks := .later }
def ConsoleRunsUptoCardSaid : Prop := Claim7.holds Tryz.pinned (.plain (OpenSpec.upto consoleRunsSpec)) consoleRunsUptoCard

/-- THE SECOND FORM's CARD OF 'bournelaw25.ConsoleBegins'. -/
def consoleBeginsUptoCard : Claim7 := { stood := { row := consoleBeginsUptoRow, standIns := [], harness := (true, "9b1aefdad1e5314ad807385d68c591ba019325e4b7d47f2b246c085a21f7f9db"), looks := true }, kinds := [], alts := [], laidByText := true, laidKinds := [.data, .data, .data, .data, .sentinel, .sentinel, .pinned], laidTests := true, laidLooks := .later }
def ConsoleBeginsUptoCardSaid : Prop := Claim7.holds Tryz.pinned (.plain (OpenSpec.upto consoleBeginsSpec)) consoleBeginsUptoCard

/-- THE SECOND FORM's CARD OF 'bournelaw25.ConsoleMany'. -/
def consoleManyUptoCard : Claim7 := { stood := { row := consoleManyUptoRow, standIns := [], harness := (true, "9b1aefdad1e5314ad807385d68c591ba019325e4b7d47f2b246c085a21f7f9db"), looks := true }, kinds := [], alts := [], laidByText := true, laidKinds := [.data, .data, .data, .data, .sentinel, .sentinel, .pinned], laidTests := true, laidLooks := .later }
def ConsoleManyUptoCardSaid : Prop := Claim7.holds Tryz.pinned (.plain (OpenSpec.upto consoleManySpec)) consoleManyUptoCard

/-- THE SECOND FORM's CARD OF 'bournelaw25.ConsoleSorts'. -/
def consoleSortsUptoCard : Claim7 := { stood := { row := consoleSortsUptoRow, standIns := [], harness := (true, "9b1aefdad1e5314ad807385d68c591ba019325e4b7d47f2b246c085a21f7f9db"), looks := true }, kinds := [], alts := [], laidByText := true, laidKinds := [.data, .data, .data, .data, .sentinel, .sentinel, .pinned], laidTests := true, laidLooks := .later }
def ConsoleSortsUptoCardSaid : Prop := Claim7.holds Tryz.pinned (.plain (OpenSpec.upto consoleSortsSpec)) consoleSortsUptoCard

/-- THE SECOND FORM's CARD OF 'bournelaw25.ConsoleWrong'. -/
def consoleWrongUptoCard : Claim7 := { stood := { row := consoleWrongUptoRow, standIns := [], harness := (true, "9b1aefdad1e5314ad807385d68c591ba019325e4b7d47f2b246c085a21f7f9db"), looks := true }, kinds := [], alts := [], laidByText := true, laidKinds := [.data, .data, .data, .data, .sentinel, .sentinel, .pinned], laidTests := true, laidLooks := .later }
def ConsoleWrongUptoCardSaid : Prop := Claim7.holds Tryz.pinned (.plain (OpenSpec.upto consoleWrongSpec)) consoleWrongUptoCard

/-- THE SECOND FORM's CARD OF 'bournelaw25.ConsoleFloors'. -/
def consoleFloorsUptoCard : Claim7 := { stood := { row := consoleFloorsUptoRow, standIns := [], harness := (true, "9b1aefdad1e5314ad807385d68c591ba019325e4b7d47f2b246c085a21f7f9db"), looks := true }, kinds := [], alts := [], laidByText := true, laidKinds := [.data, .data, .data, .data, .sentinel, .sentinel, .pinned], laidTests := true, laidLooks := .later }
def ConsoleFloorsUptoCardSaid : Prop := Claim7.holds Tryz.pinned (.plain (OpenSpec.upto consoleFloorsSpec)) consoleFloorsUptoCard
end Rows
end Go.Proofs.YtlpomcacaimnfaaGreatDoor
