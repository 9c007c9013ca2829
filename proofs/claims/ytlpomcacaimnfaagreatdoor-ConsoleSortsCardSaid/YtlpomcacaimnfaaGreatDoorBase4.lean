/- Lemmas for the statements of this seat: how the code of the program runs, function by function; no condition beyond what each states. -/
import Derived.KernelRfl
import Derived.Test.YtlpomcacaimnfaaGreatDoorProg
import Derived.Shelf.Strings.SlTrimAscii
import Derived.Lib.SplitLaws
import Derived.Test.YtlpomcacaimnfaaGreatDoorBase3
set_option linter.unusedVariables false
set_option linter.unusedSectionVars false
set_option linter.unusedSimpArgs false
set_option maxRecDepth 100000
namespace Bo
open Go Go.Proofs
def y2 : TI := ⟨1, 8, [.int .i64 0], .int .i64⟩
theorem y2ok : TyOk Tryz.prog 2 y2 := ⟨by kernel_rfl, Tryz.underlying2⟩
def y3 : TI := ⟨1, 8, [.int .i64 0], .int .i64⟩
theorem y3ok : TyOk Tryz.prog 3 y3 := ⟨by kernel_rfl, Tryz.underlying3⟩
def y4 : TI := ⟨1, 1, [.bool false], .bool⟩
theorem y4ok : TyOk Tryz.prog 4 y4 := ⟨by kernel_rfl, Tryz.underlying4⟩
def y5 : TI := ⟨1, 1, [.int .u8 0], .int .u8⟩
theorem y5ok : TyOk Tryz.prog 5 y5 := ⟨by kernel_rfl, Tryz.underlying5⟩
def y6 : TI := ⟨1, 1, [.int .u8 0], .int .u8⟩
theorem y6ok : TyOk Tryz.prog 6 y6 := ⟨by kernel_rfl, Tryz.underlying6⟩
def y8 : TI := ⟨4, 24, [.int .i64 0, .int .i64 0, .bool false, .int .u8 0], .st [(0, 2, 1), (1, 3, 1), (2, 4, 1), (3, 6, 1)]⟩
theorem y8ok : TyOk Tryz.prog 8 y8 := ⟨by kernel_rfl, ⟨_, Tryz.underlying8, by kernel_rfl, by kernel_rfl⟩⟩
def y9 : TI := ⟨1, 16, [.string ⟨#[]⟩], .str⟩
theorem y9ok : TyOk Tryz.prog 9 y9 := ⟨by kernel_rfl, Tryz.underlying9⟩
def y10 : TI := ⟨1, 16, [.string ⟨#[]⟩], .str⟩
theorem y10ok : TyOk Tryz.prog 10 y10 := ⟨by kernel_rfl, Tryz.underlying10⟩
def y11 : TI := ⟨1, 16, [.string ⟨#[]⟩], .str⟩
theorem y11ok : TyOk Tryz.prog 11 y11 := ⟨by kernel_rfl, Tryz.underlying11⟩
def y12 : TI := ⟨1, 8, [.int .u64 0], .int .u64⟩
theorem y12ok : TyOk Tryz.prog 12 y12 := ⟨by kernel_rfl, Tryz.underlying12⟩
def y14 : TI := ⟨2, 24, [.string ⟨#[]⟩, .int .u64 0], .st [(0, 9, 1), (1, 12, 1)]⟩
theorem y14ok : TyOk Tryz.prog 14 y14 := ⟨by kernel_rfl, ⟨_, Tryz.underlying14, by kernel_rfl, by kernel_rfl⟩⟩
def y15 : TI := ⟨1, 8, [.pointer none], .ptr 217⟩
theorem y15ok : TyOk Tryz.prog 15 y15 := ⟨by kernel_rfl, Tryz.underlying15⟩
def y16 : TI := ⟨1, 8, [.pointer none], .ptr 220⟩
theorem y16ok : TyOk Tryz.prog 16 y16 := ⟨by kernel_rfl, Tryz.underlying16⟩
def y17 : TI := ⟨1, 8, [.pointer none], .ptr 227⟩
theorem y17ok : TyOk Tryz.prog 17 y17 := ⟨by kernel_rfl, Tryz.underlying17⟩
def y19 : TI := ⟨1, 8, [.pointer none], .st [(0, 17, 1)]⟩
theorem y19ok : TyOk Tryz.prog 19 y19 := ⟨by kernel_rfl, ⟨_, Tryz.underlying19, by kernel_rfl, by kernel_rfl⟩⟩
def y21 : TI := ⟨1, 4, [.int .i32 0], .int .i32⟩
theorem y21ok : TyOk Tryz.prog 21 y21 := ⟨by kernel_rfl, Tryz.underlying21⟩
def y22 : TI := ⟨1, 8, [.int .i64 0], .int .i64⟩
theorem y22ok : TyOk Tryz.prog 22 y22 := ⟨by kernel_rfl, Tryz.underlying22⟩
def y27 : TI := ⟨1, 24, [.slice none 0 0], .sl 5⟩
theorem y27ok : TyOk Tryz.prog 27 y27 := ⟨by kernel_rfl, Tryz.underlying27⟩
def y28 : TI := ⟨1, 24, [.slice none 0 0], .sl 9⟩
theorem y28ok : TyOk Tryz.prog 28 y28 := ⟨by kernel_rfl, Tryz.underlying28⟩
def y33 : TI := ⟨1, 24, [.slice none 0 0], .sl 3⟩
theorem y33ok : TyOk Tryz.prog 33 y33 := ⟨by kernel_rfl, Tryz.underlying33⟩
def y34 : TI := ⟨1, 8, [.int .u64 0], .int .u64⟩
theorem y34ok : TyOk Tryz.prog 34 y34 := ⟨by kernel_rfl, Tryz.underlying34⟩
def y36 : TI := ⟨41, 328, [.int .i64 0, .int .i64 0, .int .i64 0, .int .i64 0, .int .i64 0, .int .i64 0, .int .i64 0, .int .i64 0, .int .i64 0, .int .i64 0, .int .i64 0, .int .i64 0, .int .i64 0, .int .i64 0, .int .i64 0, .int .i64 0, .int .i64 0, .int .i64 0, .int .i64 0, .int .i64 0, .int .i64 0, .int .i64 0, .int .i64 0, .int .i64 0, .int .i64 0, .int .i64 0, .int .i64 0, .int .i64 0, .int .i64 0, .int .i64 0, .int .i64 0, .int .i64 0, .int .i64 0, .int .i64 0, .int .i64 0, .int .i64 0, .int .i64 0, .int .i64 0, .int .i64 0, .int .i64 0, .int .i64 0], .arr 41 3⟩
theorem y36ok : TyOk Tryz.prog 36 y36 := ⟨by kernel_rfl, Tryz.underlying36⟩
def y40 : TI := ⟨1, 8, [.pointer none], .ptr 42⟩
theorem y40ok : TyOk Tryz.prog 40 y40 := ⟨by kernel_rfl, Tryz.underlying40⟩
def y42 : TI := ⟨2, 32, [.pointer none, .slice none 0 0], .st [(0, 40, 1), (1, 27, 1)]⟩
theorem y42ok : TyOk Tryz.prog 42 y42 := ⟨by kernel_rfl, ⟨_, Tryz.underlying42, by kernel_rfl, by kernel_rfl⟩⟩
def y45 : TI := ⟨1, 8, [.nilFunc], .oth⟩
theorem y45ok : TyOk Tryz.prog 45 y45 := ⟨by kernel_rfl, ⟨_, Tryz.underlying45, trivial⟩⟩
def y58 : TI := ⟨1, 24, [.slice none 0 0], .sl 60⟩
theorem y58ok : TyOk Tryz.prog 58 y58 := ⟨by kernel_rfl, Tryz.underlying58⟩
def y60 : TI := ⟨2, 16, [.int .i64 0, .int .i64 0], .st [(0, 3, 1), (1, 3, 1)]⟩
theorem y60ok : TyOk Tryz.prog 60 y60 := ⟨by kernel_rfl, ⟨_, Tryz.underlying60, by kernel_rfl, by kernel_rfl⟩⟩
def y64 : TI := ⟨1, 24, [.slice none 0 0], .sl 68⟩
theorem y64ok : TyOk Tryz.prog 64 y64 := ⟨by kernel_rfl, Tryz.underlying64⟩
def y66 : TI := ⟨1, 8, [.nilFunc], .oth⟩
theorem y66ok : TyOk Tryz.prog 66 y66 := ⟨by kernel_rfl, ⟨_, Tryz.underlying66, trivial⟩⟩
def y68 : TI := ⟨4, 40, [.string ⟨#[]⟩, .int .i64 0, .int .i64 0, .nilFunc], .st [(0, 9, 1), (1, 3, 1), (2, 3, 1), (3, 66, 1)]⟩
theorem y68ok : TyOk Tryz.prog 68 y68 := ⟨by kernel_rfl, ⟨_, Tryz.underlying68, by kernel_rfl, by kernel_rfl⟩⟩
def y70 : TI := ⟨1, 8, [.pointer none], .ptr 5⟩
theorem y70ok : TyOk Tryz.prog 70 y70 := ⟨by kernel_rfl, Tryz.underlying70⟩
def y71 : TI := ⟨1, 8, [.int .u64 0], .int .u64⟩
theorem y71ok : TyOk Tryz.prog 71 y71 := ⟨by kernel_rfl, Tryz.underlying71⟩
def y73 : TI := ⟨1, 24, [.slice none 0 0], .sl 79⟩
theorem y73ok : TyOk Tryz.prog 73 y73 := ⟨by kernel_rfl, Tryz.underlying73⟩
def y77 : TI := ⟨6, 64, [.int .i64 0, .int .i64 0, .int .i64 0, .int .i64 0, .slice none 0 0, .int .i64 0], .st [(0, 3, 1), (1, 3, 1), (2, 3, 1), (3, 3, 1), (4, 33, 1), (5, 3, 1)]⟩
theorem y77ok : TyOk Tryz.prog 77 y77 := ⟨by kernel_rfl, ⟨_, Tryz.underlying77, by kernel_rfl, by kernel_rfl⟩⟩
def y79 : TI := ⟨2, 16, [.int .i64 0, .int .i64 0], .st [(0, 3, 1), (1, 3, 1)]⟩
theorem y79ok : TyOk Tryz.prog 79 y79 := ⟨by kernel_rfl, ⟨_, Tryz.underlying79, by kernel_rfl, by kernel_rfl⟩⟩
def y80 : TI := ⟨1, 24, [.slice none 0 0], .sl 82⟩
theorem y80ok : TyOk Tryz.prog 80 y80 := ⟨by kernel_rfl, Tryz.underlying80⟩
def y82 : TI := ⟨4, 32, [.int .i64 0, .int .i64 0, .int .i64 0, .int .i64 0], .st [(0, 3, 1), (1, 3, 1), (2, 3, 1), (3, 3, 1)]⟩
theorem y82ok : TyOk Tryz.prog 82 y82 := ⟨by kernel_rfl, ⟨_, Tryz.underlying82, by kernel_rfl, by kernel_rfl⟩⟩
def y84 : TI := ⟨1, 24, [.slice none 0 0], .sl 90⟩
theorem y84ok : TyOk Tryz.prog 84 y84 := ⟨by kernel_rfl, Tryz.underlying84⟩
def y88 : TI := ⟨13, 120, [.int .i64 0, .int .i64 0, .int .i64 0, .int .i64 0, .int .i64 0, .int .i64 0, .int .i64 0, .int .i64 0, .int .i64 0, .int .i64 0, .int .i64 0, .int .i64 0, .slice none 0 0], .st [(0, 3, 1), (1, 3, 1), (2, 3, 1), (3, 3, 1), (4, 82, 4), (8, 82, 4), (12, 33, 1)]⟩
theorem y88ok : TyOk Tryz.prog 88 y88 := ⟨by kernel_rfl, ⟨_, Tryz.underlying88, by kernel_rfl, by kernel_rfl⟩⟩
def y90 : TI := ⟨15, 136, [.int .i64 0, .int .i64 0, .int .i64 0, .int .i64 0, .int .i64 0, .int .i64 0, .int .i64 0, .int .i64 0, .int .i64 0, .int .i64 0, .int .i64 0, .int .i64 0, .int .i64 0, .int .i64 0, .slice none 0 0], .st [(0, 3, 1), (1, 3, 1), (2, 88, 13)]⟩
theorem y90ok : TyOk Tryz.prog 90 y90 := ⟨by kernel_rfl, ⟨_, Tryz.underlying90, by kernel_rfl, by kernel_rfl⟩⟩
def y91 : TI := ⟨1, 8, [.pointer none], .ptr 96⟩
theorem y91ok : TyOk Tryz.prog 91 y91 := ⟨by kernel_rfl, Tryz.underlying91⟩
def y96 : TI := ⟨2, 32, [.int .i64 0, .slice none 0 0], .st [(0, 3, 1), (1, 80, 1)]⟩
theorem y96ok : TyOk Tryz.prog 96 y96 := ⟨by kernel_rfl, ⟨_, Tryz.underlying96, by kernel_rfl, by kernel_rfl⟩⟩
def y122 : TI := ⟨1, 8, [.pointer none], .ptr 157⟩
theorem y122ok : TyOk Tryz.prog 122 y122 := ⟨by kernel_rfl, Tryz.underlying122⟩
def y132 : TI := ⟨1, 24, [.slice none 0 0], .sl 88⟩
theorem y132ok : TyOk Tryz.prog 132 y132 := ⟨by kernel_rfl, Tryz.underlying132⟩
def y136 : TI := ⟨24, 24, [.int .u8 0, .int .u8 0, .int .u8 0, .int .u8 0, .int .u8 0, .int .u8 0, .int .u8 0, .int .u8 0, .int .u8 0, .int .u8 0, .int .u8 0, .int .u8 0, .int .u8 0, .int .u8 0, .int .u8 0, .int .u8 0, .int .u8 0, .int .u8 0, .int .u8 0, .int .u8 0, .int .u8 0, .int .u8 0, .int .u8 0, .int .u8 0], .arr 24 5⟩
theorem y136ok : TyOk Tryz.prog 136 y136 := ⟨by kernel_rfl, Tryz.underlying136⟩
def y144 : TI := ⟨256, 256, [.bool false, .bool false, .bool false, .bool false, .bool false, .bool false, .bool false, .bool false, .bool false, .bool false, .bool false, .bool false, .bool false, .bool false, .bool false, .bool false, .bool false, .bool false, .bool false, .bool false, .bool false, .bool false, .bool false, .bool false, .bool false, .bool false, .bool false, .bool false, .bool false, .bool false, .bool false, .bool false, .bool false, .bool false, .bool false, .bool false, .bool false, .bool false, .bool false, .bool false, .bool false, .bool false, .bool false, .bool false, .bool false, .bool false, .bool false, .bool false, .bool false, .bool false, .bool false, .bool false, .bool false, .bool false, .bool false, .bool false, .bool false, .bool false, .bool false, .bool false, .bool false, .bool false, .bool false, .bool false, .bool false, .bool false, .bool false, .bool false, .bool false, .bool false, .bool false, .bool false, .bool false, .bool false, .bool false, .bool false, .bool false, .bool false, .bool false, .bool false, .bool false, .bool false, .bool false, .bool false, .bool false, .bool false, .bool false, .bool false, .bool false, .bool false, .bool false, .bool false, .bool false, .bool false, .bool false, .bool false, .bool false, .bool false, .bool false, .bool false, .bool false, .bool false, .bool false, .bool false, .bool false, .bool false, .bool false, .bool false, .bool false, .bool false, .bool false, .bool false, .bool false, .bool false, .bool false, .bool false, .bool false, .bool false, .bool false, .bool false, .bool false, .bool false, .bool false, .bool false, .bool false, .bool false, .bool false, .bool false, .bool false, .bool false, .bool false, .bool false, .bool false, .bool false, .bool false, .bool false, .bool false, .bool false, .bool false, .bool false, .bool false, .bool false, .bool false, .bool false, .bool false, .bool false, .bool false, .bool false, .bool false, .bool false, .bool false, .bool false, .bool false, .bool false, .bool false, .bool false, .bool false, .bool false, .bool false, .bool false, .bool false, .bool false, .bool false, .bool false, .bool false, .bool false, .bool false, .bool false, .bool false, .bool false, .bool false, .bool false, .bool false, .bool false, .bool false, .bool false, .bool false, .bool false, .bool false, .bool false, .bool false, .bool false, .bool false, .bool false, .bool false, .bool false, .bool false, .bool false, .bool false, .bool false, .bool false, .bool false, .bool false, .bool false, .bool false, .bool false, .bool false, .bool false, .bool false, .bool false, .bool false, .bool false, .bool false, .bool false, .bool false, .bool false, .bool false, .bool false, .bool false, .bool false, .bool false, .bool false, .bool false, .bool false, .bool false, .bool false, .bool false, .bool false, .bool false, .bool false, .bool false, .bool false, .bool false, .bool false, .bool false, .bool false, .bool false, .bool false, .bool false, .bool false, .bool false, .bool false, .bool false, .bool false, .bool false, .bool false, .bool false, .bool false, .bool false, .bool false, .bool false, .bool false, .bool false, .bool false, .bool false, .bool false, .bool false, .bool false, .bool false, .bool false, .bool false, .bool false, .bool false, .bool false, .bool false, .bool false], .arr 256 4⟩
theorem y144ok : TyOk Tryz.prog 144 y144 := ⟨by kernel_rfl, Tryz.underlying144⟩
def y148 : TI := ⟨1, 8, [.pointer none], .ptr 144⟩
theorem y148ok : TyOk Tryz.prog 148 y148 := ⟨by kernel_rfl, Tryz.underlying148⟩
def y151 : TI := ⟨1, 8, [.pointer none], .ptr 77⟩
theorem y151ok : TyOk Tryz.prog 151 y151 := ⟨by kernel_rfl, Tryz.underlying151⟩
def y157 : TI := ⟨2, 32, [.int .i64 0, .slice none 0 0], .st [(0, 3, 1), (1, 80, 1)]⟩
theorem y157ok : TyOk Tryz.prog 157 y157 := ⟨by kernel_rfl, ⟨_, Tryz.underlying157, by kernel_rfl, by kernel_rfl⟩⟩
def y161 : TI := ⟨256, 256, [.int .u8 0, .int .u8 0, .int .u8 0, .int .u8 0, .int .u8 0, .int .u8 0, .int .u8 0, .int .u8 0, .int .u8 0, .int .u8 0, .int .u8 0, .int .u8 0, .int .u8 0, .int .u8 0, .int .u8 0, .int .u8 0, .int .u8 0, .int .u8 0, .int .u8 0, .int .u8 0, .int .u8 0, .int .u8 0, .int .u8 0, .int .u8 0, .int .u8 0, .int .u8 0, .int .u8 0, .int .u8 0, .int .u8 0, .int .u8 0, .int .u8 0, .int .u8 0, .int .u8 0, .int .u8 0, .int .u8 0, .int .u8 0, .int .u8 0, .int .u8 0, .int .u8 0, .int .u8 0, .int .u8 0, .int .u8 0, .int .u8 0, .int .u8 0, .int .u8 0, .int .u8 0, .int .u8 0, .int .u8 0, .int .u8 0, .int .u8 0, .int .u8 0, .int .u8 0, .int .u8 0, .int .u8 0, .int .u8 0, .int .u8 0, .int .u8 0, .int .u8 0, .int .u8 0, .int .u8 0, .int .u8 0, .int .u8 0, .int .u8 0, .int .u8 0, .int .u8 0, .int .u8 0, .int .u8 0, .int .u8 0, .int .u8 0, .int .u8 0, .int .u8 0, .int .u8 0, .int .u8 0, .int .u8 0, .int .u8 0, .int .u8 0, .int .u8 0, .int .u8 0, .int .u8 0, .int .u8 0, .int .u8 0, .int .u8 0, .int .u8 0, .int .u8 0, .int .u8 0, .int .u8 0, .int .u8 0, .int .u8 0, .int .u8 0, .int .u8 0, .int .u8 0, .int .u8 0, .int .u8 0, .int .u8 0, .int .u8 0, .int .u8 0, .int .u8 0, .int .u8 0, .int .u8 0, .int .u8 0, .int .u8 0, .int .u8 0, .int .u8 0, .int .u8 0, .int .u8 0, .int .u8 0, .int .u8 0, .int .u8 0, .int .u8 0, .int .u8 0, .int .u8 0, .int .u8 0, .int .u8 0, .int .u8 0, .int .u8 0, .int .u8 0, .int .u8 0, .int .u8 0, .int .u8 0, .int .u8 0, .int .u8 0, .int .u8 0, .int .u8 0, .int .u8 0, .int .u8 0, .int .u8 0, .int .u8 0, .int .u8 0, .int .u8 0, .int .u8 0, .int .u8 0, .int .u8 0, .int .u8 0, .int .u8 0, .int .u8 0, .int .u8 0, .int .u8 0, .int .u8 0, .int .u8 0, .int .u8 0, .int .u8 0, .int .u8 0, .int .u8 0, .int .u8 0, .int .u8 0, .int .u8 0, .int .u8 0, .int .u8 0, .int .u8 0, .int .u8 0, .int .u8 0, .int .u8 0, .int .u8 0, .int .u8 0, .int .u8 0, .int .u8 0, .int .u8 0, .int .u8 0, .int .u8 0, .int .u8 0, .int .u8 0, .int .u8 0, .int .u8 0, .int .u8 0, .int .u8 0, .int .u8 0, .int .u8 0, .int .u8 0, .int .u8 0, .int .u8 0, .int .u8 0, .int .u8 0, .int .u8 0, .int .u8 0, .int .u8 0, .int .u8 0, .int .u8 0, .int .u8 0, .int .u8 0, .int .u8 0, .int .u8 0, .int .u8 0, .int .u8 0, .int .u8 0, .int .u8 0, .int .u8 0, .int .u8 0, .int .u8 0, .int .u8 0, .int .u8 0, .int .u8 0, .int .u8 0, .int .u8 0, .int .u8 0, .int .u8 0, .int .u8 0, .int .u8 0, .int .u8 0, .int .u8 0, .int .u8 0, .int .u8 0, .int .u8 0, .int .u8 0, .int .u8 0, .int .u8 0, .int .u8 0, .int .u8 0, .int .u8 0, .int .u8 0, .int .u8 0, .int .u8 0, .int .u8 0, .int .u8 0, .int .u8 0, .int .u8 0, .int .u8 0, .int .u8 0, .int .u8 0, .int .u8 0, .int .u8 0, .int .u8 0, .int .u8 0, .int .u8 0, .int .u8 0, .int .u8 0, .int .u8 0, .int .u8 0, .int .u8 0, .int .u8 0, .int .u8 0, .int .u8 0, .int .u8 0, .int .u8 0, .int .u8 0, .int .u8 0, .int .u8 0, .int .u8 0, .int .u8 0, .int .u8 0, .int .u8 0, .int .u8 0, .int .u8 0, .int .u8 0, .int .u8 0, .int .u8 0, .int .u8 0, .int .u8 0, .int .u8 0, .int .u8 0, .int .u8 0, .int .u8 0, .int .u8 0, .int .u8 0, .int .u8 0, .int .u8 0, .int .u8 0], .arr 256 5⟩
theorem y161ok : TyOk Tryz.prog 161 y161 := ⟨by kernel_rfl, Tryz.underlying161⟩
def y163 : TI := ⟨2, 2, [.int .u8 0, .int .u8 0], .st [(0, 5, 1), (1, 5, 1)]⟩
theorem y163ok : TyOk Tryz.prog 163 y163 := ⟨by kernel_rfl, ⟨_, Tryz.underlying163, by kernel_rfl, by kernel_rfl⟩⟩
def y164 : TI := ⟨32, 32, [.int .u8 0, .int .u8 0, .int .u8 0, .int .u8 0, .int .u8 0, .int .u8 0, .int .u8 0, .int .u8 0, .int .u8 0, .int .u8 0, .int .u8 0, .int .u8 0, .int .u8 0, .int .u8 0, .int .u8 0, .int .u8 0, .int .u8 0, .int .u8 0, .int .u8 0, .int .u8 0, .int .u8 0, .int .u8 0, .int .u8 0, .int .u8 0, .int .u8 0, .int .u8 0, .int .u8 0, .int .u8 0, .int .u8 0, .int .u8 0, .int .u8 0, .int .u8 0], .arr 16 163⟩
theorem y164ok : TyOk Tryz.prog 164 y164 := ⟨by kernel_rfl, Tryz.underlying164⟩
def y165 : TI := ⟨1, 4, [.int .u32 0], .int .u32⟩
theorem y165ok : TyOk Tryz.prog 165 y165 := ⟨by kernel_rfl, Tryz.underlying165⟩
def y169 : TI := ⟨20, 160, [.int .u64 0, .int .u64 0, .int .u64 0, .int .u64 0, .int .u64 0, .int .u64 0, .int .u64 0, .int .u64 0, .int .u64 0, .int .u64 0, .int .u64 0, .int .u64 0, .int .u64 0, .int .u64 0, .int .u64 0, .int .u64 0, .int .u64 0, .int .u64 0, .int .u64 0, .int .u64 0], .arr 20 71⟩
theorem y169ok : TyOk Tryz.prog 169 y169 := ⟨by kernel_rfl, Tryz.underlying169⟩
def y170 : TI := ⟨65, 65, [.int .u8 0, .int .u8 0, .int .u8 0, .int .u8 0, .int .u8 0, .int .u8 0, .int .u8 0, .int .u8 0, .int .u8 0, .int .u8 0, .int .u8 0, .int .u8 0, .int .u8 0, .int .u8 0, .int .u8 0, .int .u8 0, .int .u8 0, .int .u8 0, .int .u8 0, .int .u8 0, .int .u8 0, .int .u8 0, .int .u8 0, .int .u8 0, .int .u8 0, .int .u8 0, .int .u8 0, .int .u8 0, .int .u8 0, .int .u8 0, .int .u8 0, .int .u8 0, .int .u8 0, .int .u8 0, .int .u8 0, .int .u8 0, .int .u8 0, .int .u8 0, .int .u8 0, .int .u8 0, .int .u8 0, .int .u8 0, .int .u8 0, .int .u8 0, .int .u8 0, .int .u8 0, .int .u8 0, .int .u8 0, .int .u8 0, .int .u8 0, .int .u8 0, .int .u8 0, .int .u8 0, .int .u8 0, .int .u8 0, .int .u8 0, .int .u8 0, .int .u8 0, .int .u8 0, .int .u8 0, .int .u8 0, .int .u8 0, .int .u8 0, .int .u8 0, .int .u8 0], .arr 65 5⟩
theorem y170ok : TyOk Tryz.prog 170 y170 := ⟨by kernel_rfl, Tryz.underlying170⟩
def y174 : TI := ⟨1, 8, [.int .i64 0], .int .i64⟩
theorem y174ok : TyOk Tryz.prog 174 y174 := ⟨by kernel_rfl, Tryz.underlying174⟩
def y177 : TI := ⟨1, 8, [.pointer none], .ptr 194⟩
theorem y177ok : TyOk Tryz.prog 177 y177 := ⟨by kernel_rfl, Tryz.underlying177⟩
def y183 : TI := ⟨1, 8, [.nilFunc], .oth⟩
theorem y183ok : TyOk Tryz.prog 183 y183 := ⟨by kernel_rfl, ⟨_, Tryz.underlying183, trivial⟩⟩
def y197 : TI := ⟨1, 8, [.pointer none], .ptr 88⟩
theorem y197ok : TyOk Tryz.prog 197 y197 := ⟨by kernel_rfl, Tryz.underlying197⟩
def y208 : TI := ⟨32, 32, [.int .u8 0, .int .u8 0, .int .u8 0, .int .u8 0, .int .u8 0, .int .u8 0, .int .u8 0, .int .u8 0, .int .u8 0, .int .u8 0, .int .u8 0, .int .u8 0, .int .u8 0, .int .u8 0, .int .u8 0, .int .u8 0, .int .u8 0, .int .u8 0, .int .u8 0, .int .u8 0, .int .u8 0, .int .u8 0, .int .u8 0, .int .u8 0, .int .u8 0, .int .u8 0, .int .u8 0, .int .u8 0, .int .u8 0, .int .u8 0, .int .u8 0, .int .u8 0], .arr 32 5⟩
theorem y208ok : TyOk Tryz.prog 208 y208 := ⟨by kernel_rfl, Tryz.underlying208⟩
def y209 : TI := ⟨64, 64, [.int .u8 0, .int .u8 0, .int .u8 0, .int .u8 0, .int .u8 0, .int .u8 0, .int .u8 0, .int .u8 0, .int .u8 0, .int .u8 0, .int .u8 0, .int .u8 0, .int .u8 0, .int .u8 0, .int .u8 0, .int .u8 0, .int .u8 0, .int .u8 0, .int .u8 0, .int .u8 0, .int .u8 0, .int .u8 0, .int .u8 0, .int .u8 0, .int .u8 0, .int .u8 0, .int .u8 0, .int .u8 0, .int .u8 0, .int .u8 0, .int .u8 0, .int .u8 0, .int .u8 0, .int .u8 0, .int .u8 0, .int .u8 0, .int .u8 0, .int .u8 0, .int .u8 0, .int .u8 0, .int .u8 0, .int .u8 0, .int .u8 0, .int .u8 0, .int .u8 0, .int .u8 0, .int .u8 0, .int .u8 0, .int .u8 0, .int .u8 0, .int .u8 0, .int .u8 0, .int .u8 0, .int .u8 0, .int .u8 0, .int .u8 0, .int .u8 0, .int .u8 0, .int .u8 0, .int .u8 0, .int .u8 0, .int .u8 0, .int .u8 0, .int .u8 0], .arr 64 5⟩
theorem y209ok : TyOk Tryz.prog 209 y209 := ⟨by kernel_rfl, Tryz.underlying209⟩
def y211 : TI := ⟨1, 8, [.pointer none], .ptr 213⟩
theorem y211ok : TyOk Tryz.prog 211 y211 := ⟨by kernel_rfl, Tryz.underlying211⟩
def y213 : TI := ⟨1, 16, [.string ⟨#[]⟩], .st [(0, 9, 1)]⟩
theorem y213ok : TyOk Tryz.prog 213 y213 := ⟨by kernel_rfl, ⟨_, Tryz.underlying213, by kernel_rfl, by kernel_rfl⟩⟩
def y214 : TI := ⟨1, 8, [.pointer none], .ptr 90⟩
theorem y214ok : TyOk Tryz.prog 214 y214 := ⟨by kernel_rfl, Tryz.underlying214⟩
def y217 : TI := ⟨4, 40, [.pointer none, .pointer none, .pointer none, .string ⟨#[]⟩], .st [(0, 17, 1), (1, 17, 1), (2, 17, 1), (3, 9, 1)]⟩
theorem y217ok : TyOk Tryz.prog 217 y217 := ⟨by kernel_rfl, ⟨_, Tryz.underlying217, by kernel_rfl, by kernel_rfl⟩⟩
def y218 : TI := ⟨0, 0, [], .arr 0 16⟩
theorem y218ok : TyOk Tryz.prog 218 y218 := ⟨by kernel_rfl, Tryz.underlying218⟩
def y220 : TI := ⟨0, 0, [], .st [(0, 218, 0)]⟩
theorem y220ok : TyOk Tryz.prog 220 y220 := ⟨by kernel_rfl, ⟨_, Tryz.underlying220, by kernel_rfl, by kernel_rfl⟩⟩
def y221 : TI := ⟨1, 1, [.int .u8 0], .int .u8⟩
theorem y221ok : TyOk Tryz.prog 221 y221 := ⟨by kernel_rfl, Tryz.underlying221⟩
def y222 : TI := ⟨1, 1, [.int .u8 0], .int .u8⟩
theorem y222ok : TyOk Tryz.prog 222 y222 := ⟨by kernel_rfl, Tryz.underlying222⟩
def y223 : TI := ⟨1, 8, [.nilFunc], .oth⟩
theorem y223ok : TyOk Tryz.prog 223 y223 := ⟨by kernel_rfl, ⟨_, Tryz.underlying223, trivial⟩⟩
def y224 : TI := ⟨1, 4, [.int .i32 0], .int .i32⟩
theorem y224ok : TyOk Tryz.prog 224 y224 := ⟨by kernel_rfl, Tryz.underlying224⟩
def y225 : TI := ⟨1, 4, [.int .i32 0], .int .i32⟩
theorem y225ok : TyOk Tryz.prog 225 y225 := ⟨by kernel_rfl, Tryz.underlying225⟩
def y227 : TI := ⟨11, 48, [.int .u64 0, .int .u64 0, .int .u32 0, .int .u8 0, .int .u8 0, .int .u8 0, .int .u8 0, .nilFunc, .pointer none, .int .i32 0, .int .i32 0], .st [(0, 12, 1), (1, 12, 1), (2, 165, 1), (3, 221, 1), (4, 5, 1), (5, 5, 1), (6, 222, 1), (7, 223, 1), (8, 70, 1), (9, 224, 1), (10, 225, 1)]⟩
theorem y227ok : TyOk Tryz.prog 227 y227 := ⟨by kernel_rfl, ⟨_, Tryz.underlying227, by kernel_rfl, by kernel_rfl⟩⟩
def lay : Lay := fun T => match T with
  | 2 => some y2
  | 3 => some y3
  | 4 => some y4
  | 5 => some y5
  | 6 => some y6
  | 8 => some y8
  | 9 => some y9
  | 10 => some y10
  | 11 => some y11
  | 12 => some y12
  | 14 => some y14
  | 15 => some y15
  | 16 => some y16
  | 17 => some y17
  | 19 => some y19
  | 21 => some y21
  | 22 => some y22
  | 27 => some y27
  | 28 => some y28
  | 33 => some y33
  | 34 => some y34
  | 36 => some y36
  | 40 => some y40
  | 42 => some y42
  | 45 => some y45
  | 58 => some y58
  | 60 => some y60
  | 64 => some y64
  | 66 => some y66
  | 68 => some y68
  | 70 => some y70
  | 71 => some y71
  | 73 => some y73
  | 77 => some y77
  | 79 => some y79
  | 80 => some y80
  | 82 => some y82
  | 84 => some y84
  | 88 => some y88
  | 90 => some y90
  | 91 => some y91
  | 96 => some y96
  | 122 => some y122
  | 132 => some y132
  | 136 => some y136
  | 144 => some y144
  | 148 => some y148
  | 151 => some y151
  | 157 => some y157
  | 161 => some y161
  | 163 => some y163
  | 164 => some y164
  | 165 => some y165
  | 169 => some y169
  | 170 => some y170
  | 174 => some y174
  | 177 => some y177
  | 183 => some y183
  | 197 => some y197
  | 208 => some y208
  | 209 => some y209
  | 211 => some y211
  | 213 => some y213
  | 214 => some y214
  | 217 => some y217
  | 218 => some y218
  | 220 => some y220
  | 221 => some y221
  | 222 => some y222
  | 223 => some y223
  | 224 => some y224
  | 225 => some y225
  | 227 => some y227
  | _ => none
theorem layok : LayOk Tryz.prog lay := by
  intro T ti h
  unfold lay at h
  split at h
  · cases h; exact y2ok
  · cases h; exact y3ok
  · cases h; exact y4ok
  · cases h; exact y5ok
  · cases h; exact y6ok
  · cases h; exact y8ok
  · cases h; exact y9ok
  · cases h; exact y10ok
  · cases h; exact y11ok
  · cases h; exact y12ok
  · cases h; exact y14ok
  · cases h; exact y15ok
  · cases h; exact y16ok
  · cases h; exact y17ok
  · cases h; exact y19ok
  · cases h; exact y21ok
  · cases h; exact y22ok
  · cases h; exact y27ok
  · cases h; exact y28ok
  · cases h; exact y33ok
  · cases h; exact y34ok
  · cases h; exact y36ok
  · cases h; exact y40ok
  · cases h; exact y42ok
  · cases h; exact y45ok
  · cases h; exact y58ok
  · cases h; exact y60ok
  · cases h; exact y64ok
  · cases h; exact y66ok
  · cases h; exact y68ok
  · cases h; exact y70ok
  · cases h; exact y71ok
  · cases h; exact y73ok
  · cases h; exact y77ok
  · cases h; exact y79ok
  · cases h; exact y80ok
  · cases h; exact y82ok
  · cases h; exact y84ok
  · cases h; exact y88ok
  · cases h; exact y90ok
  · cases h; exact y91ok
  · cases h; exact y96ok
  · cases h; exact y122ok
  · cases h; exact y132ok
  · cases h; exact y136ok
  · cases h; exact y144ok
  · cases h; exact y148ok
  · cases h; exact y151ok
  · cases h; exact y157ok
  · cases h; exact y161ok
  · cases h; exact y163ok
  · cases h; exact y164ok
  · cases h; exact y165ok
  · cases h; exact y169ok
  · cases h; exact y170ok
  · cases h; exact y174ok
  · cases h; exact y177ok
  · cases h; exact y183ok
  · cases h; exact y197ok
  · cases h; exact y208ok
  · cases h; exact y209ok
  · cases h; exact y211ok
  · cases h; exact y213ok
  · cases h; exact y214ok
  · cases h; exact y217ok
  · cases h; exact y218ok
  · cases h; exact y220ok
  · cases h; exact y221ok
  · cases h; exact y222ok
  · cases h; exact y223ok
  · cases h; exact y224ok
  · cases h; exact y225ok
  · cases h; exact y227ok
  · cases h
instance : LC Tryz.prog := ⟨lay, layok, by kernel_rfl⟩
end Bo
namespace Bo
open Go Go.Proofs Go.RowKit
/-! ### The library's contracts, in the walk's words -/
theorem Ct.lib {f : FuncId} {args : Array Value} {I : Nat → Prop} {w : World} {v : Value} (hk : CallOk Tryz.prog f)
    (h : Calls Tryz.prog f args w fun e w' => e = .returned v ∧ Below w.heap.size w w') : Ct Tryz.prog f args I w (fun _ : Unit => v) (fun _ _ _ => True) :=
  ⟨hk, Calls.mono h fun e w' ⟨he, hb⟩ => ⟨v, he, (), rfl, hb, trivial⟩⟩
theorem below_self (w : World) : Below w.heap.size w w := .refl _ _
/-- What is known of the program's own variables: that a table is as its text lays it, and that another one holds a number. -/
def Gl : Pf := fun J w => (∃ m : Int, At 0 0 [.int .i64 m] J w) ∧ ∃ g, Tryz.prog.globalNamed "internal/strconv.uint64pow10" = some g ∧ J g ∧ g < w.heap.size ∧ Lib.TabIs Tryz.prog w "internal/strconv.uint64pow10" .u64 Lib.pow10Tab
theorem Gl.mono {I J : Nat → Prop} {w w' : World} (h : ∀ b, I b → b < w.heap.size → J b ∧ w'.heap[b]? = w.heap[b]?) (k : Gl I w) : Gl J w' := by
  obtain ⟨⟨m, hm⟩, g, hg, hJ, hl, ht⟩ := k
  have e := (h g hJ hl).2
  refine ⟨⟨m, Stab.mono h hm⟩, g, hg, (h g hJ hl).1, ?_, ?_⟩
  · rcases Nat.lt_or_ge g w'.heap.size with h' | h'
    · exact h'
    · rw [Array.getElem?_eq_none h', Array.getElem?_eq_getElem hl] at e; cases e
  · unfold Lib.TabIs World.var? at ht ⊢
    rw [hg] at ht ⊢
    simp only [Option.bind_some] at ht ⊢
    rw [e]; exact ht
instance : Stab Gl := ⟨Gl.mono⟩
theorem lib_Itoa {I : Nat → Prop} {w : World} (n : Int) (hn : -9223372036854775808 ≤ n ∧ n ≤ 9223372036854775807) (hG : Gl I w) :
    Ct Tryz.prog 32 #[.int .i64 n] I w (fun _ : Unit => .string ⟨(Lib.itoa n).toArray⟩) (fun _ _ _ => True) := by
  obtain ⟨_, g, _, _, _, ht⟩ := hG
  refine Ct.lib ⟨_, Tryz.func32, by kernel_rfl, by kernel_rfl⟩ (Calls.mono (Tryz.strconv_Itoa n hn.1 hn.2 w ht) ?_)
  rintro e w' ⟨he, k, os, rfl⟩
  exact ⟨he, ⟨rfl, rfl, rfl, by simp [Go.Sort.grow, World.drewN], fun j hj => by show (w.heap ++ os)[j]? = _; rw [Array.getElem?_append_left hj]⟩⟩
theorem lib_Join {I : Nat → Prop} {w : World} {a : Option Addr} {c : Nat} (xs : List ByteArray) (sep : ByteArray) (hR : RT a c xs I w) (hN : xs.length ≤ 140737488355328) (hlen : (Lib.join (xs.map (·.data.toList)) sep.data.toList).length ≤ 140737488355328) :
    Ct Tryz.prog 34 #[.slice a xs.length c, .string sep] I w (fun _ : Unit => .string ⟨(Lib.join (xs.map (·.data.toList)) sep.data.toList).toArray⟩) (fun _ _ _ => True) := by
  have hk : CallOk Tryz.prog 34 := ⟨_, Tryz.func34, by kernel_rfl, by kernel_rfl⟩
  by_cases h0 : xs = []
  · subst h0
    refine Ct.lib hk (Calls.mono (Tryz.strings_Join_none a c sep w) ?_)
    rintro e w' ⟨he, rfl⟩
    exact ⟨he, below_self _⟩
  · obtain ⟨b, o, rfl, _, hlt, hc⟩ := hR.2.2 (by simpa using h0)
    refine Ct.lib hk (Tryz.strings_Join b o c xs sep w (fun j x hx => ?_) hlt hN (by simpa using hR.1) hlen)
    have := hc j (tc x) (map_get hx) 0 (.string x) rfl
    simpa using this
theorem lib_TrimPrefix {I : Nat → Prop} {w : World} (s p : ByteArray) :
    Ct Tryz.prog 69 #[.string s, .string p] I w (fun _ : Unit => .string ⟨(Lib.trimPrefix s.data.toList p.data.toList).toArray⟩) (fun _ _ _ => True) := by
  refine Ct.lib ⟨_, Tryz.func69, by kernel_rfl, by kernel_rfl⟩ (Calls.mono (Tryz.strings_TrimPrefix s p w) ?_)
  rintro e w' ⟨he, rfl⟩
  exact ⟨he, below_self _⟩
theorem lib_Trim {I : Nat → Prop} {w : World} (s cut : ByteArray) (hs : s.size ≤ 9223372036854775807) (hc : cut.size < 4294967281) (ha : ∀ (j : Nat) b, cut.data.toList[j]? = some b → b.toNat < 128) :
    Ct Tryz.prog 70 #[.string s, .string cut] I w (fun _ : Unit => .string ⟨(Lib.trimS s.data.toList cut.data.toList).toArray⟩) (fun _ _ _ => True) := by
  refine Ct.lib ⟨_, Tryz.func70, by kernel_rfl, by kernel_rfl⟩ (Calls.mono (Any.strings_Trim_laid Tryz.lays160 (by kernel_rfl) s cut w hs hc ha) ?_)
  rintro e w' ⟨he, hb⟩
  exact ⟨he, hb⟩
theorem lib_Atoi {I : Nat → Prop} {w : World} (s : ByteArray) (n : Int) (hl : s.size ≤ 18) (h : Lib.atoi s.data.toList = some n) :
    Ct Tryz.prog 71 #[.string s] I w (fun _ : Unit => .tuple #[.int .i64 n, .nilIface]) (fun _ _ _ => True) := by
  refine Ct.lib ⟨_, Tryz.func71, by kernel_rfl, by kernel_rfl⟩ (Calls.mono (Tryz.strconv_Atoi s n hl h w) ?_)
  rintro e w' ⟨he, t, rfl⟩
  exact ⟨he, ⟨rfl, rfl, rfl, by rw [Lib.bytesWorld_size]; omega, fun k hk => Lib.bytesWorld_at_old w _ t k hk⟩⟩
/-- What strings.Split gives. -/
theorem lib_Split {I : Nat → Prop} {w : World} (s sep : ByteArray) (hs : s.size < 4294967281) (h1 : 1 ≤ sep.size) (hG : Gl I w) :
    Ct Tryz.prog 15 #[.string s, .string sep] I w (fun a : Option Addr => .slice a (Lib.splitB sep 0 (Lib.countB s sep) s).length (Lib.splitB sep 0 (Lib.countB s sep) s).length) (fun a => RT a (Lib.splitB sep 0 (Lib.countB s sep) s).length (Lib.splitB sep 0 (Lib.countB s sep) s)) := by
  obtain ⟨⟨m, hm⟩, _⟩ := hG
  refine ⟨⟨_, Tryz.func15, by kernel_rfl, by kernel_rfl⟩, Calls.mono (Tryz.strings_Split s sep m w hs (hm.2.2 0 _ rfl) h1) ?_⟩
  rintro e w' ⟨he, rfl⟩
  have hlen := Lib.splitB_all sep h1 0 _ s rfl
  rw [hlen]
  refine ⟨_, he, some ⟨w.heap.size, 0, none⟩, rfl, below_push w _, by simp [hlen], by simp [tc], fun _ => ⟨w.heap.size, 0, rfl, .inr (Nat.le_refl _), by show w.heap.size < (w.heap.push _).size; simp, fun i cs hi j v hj => ?_⟩⟩
  obtain ⟨x, hx, rfl⟩ : ∃ x, (Lib.splitB sep 0 (Lib.countB s sep) s)[i]? = some x ∧ tc x = cs := by
    rw [List.getElem?_map] at hi
    obtain ⟨x, hx, h⟩ := Option.map_eq_some_iff.1 hi
    exact ⟨x, hx, h⟩
  cases j with
  | succ j => simp [tc] at hj
  | zero =>
    simp only [tc, List.getElem?_cons_zero, Option.some.injEq] at hj
    subst hj
    have e : (w.alloc (.cells ((Lib.splitB sep 0 (Lib.countB s sep) s).map Value.string).toArray 9)).heap[w.heap.size]? = some (.cells ((Lib.splitB sep 0 (Lib.countB s sep) s).map Value.string).toArray 9) := by show (w.heap.push _)[w.heap.size]? = _; simp
    unfold World.cell?
    simp only [e]
    simp [hx]
/-- What strings.FieldsFunc gives, at a function that only reckons. -/
theorem lib_Fields {I : Nat → Prop} {w : World} (g : Nat) (p : Nat → Bool) (s : ByteArray) (hs : s.size ≤ 4294967296) (eg : ∀ args w, (callFunc g args).run Tryz.prog w = .ok (.enter g args) w)
    (hp : ∀ (W : World) (x : Nat), Calls Tryz.prog g #[.int .i32 x] W fun e w' => e = .returned (.bool (p x)) ∧ ∃ q, w' = W.drewN q) :
    Ct Tryz.prog 16 #[.string s, .func (.func g) #[] #[]] I w (fun a : Option Addr => .slice a (Lib.goFieldsP p s).length (Lib.goFieldsP p s).length) (fun a => RT a (Lib.goFieldsP p s).length (Lib.goFieldsP p s)) := by
  refine ⟨⟨_, Tryz.func16, by kernel_rfl, by kernel_rfl⟩, Calls.mono (Tryz.strings_FieldsFunc g #[] eg p s w hs fun W x hW => by simpa [FnGives] using hp W x) ?_⟩
  rintro e w' ⟨A, he, hA, ho, hb⟩
  refine ⟨_, he, some ⟨A, 0, none⟩, rfl, hb, by simp, by simp [tc], fun hne => ?_⟩
  obtain ⟨_, h⟩ := ho
  rcases h with ⟨h, _⟩ | ⟨g', cap, cur, hv, hb', hh, hnc, _, hcs, htk⟩
  · cases h
  · obtain ⟨ha, _, rfl⟩ := Value.slice.inj hv
    cases ha
    refine ⟨A, 0, rfl, .inr hA, (Array.getElem?_eq_some_iff.1 hh).1, fun i cs hi j v hj => ?_⟩
    obtain ⟨x, hx, rfl⟩ : ∃ x, (Lib.goFieldsP p s)[i]? = some x ∧ tc x = cs := by
      rw [List.getElem?_map] at hi
      obtain ⟨x, hx, h⟩ := Option.map_eq_some_iff.1 hi
      exact ⟨x, hx, h⟩
    cases j with
    | succ j => simp [tc] at hj
    | zero =>
      simp only [tc, List.getElem?_cons_zero, Option.some.injEq] at hj
      subst hj
      have h1 : ((Lib.goFieldsP p s).map Value.string)[i]? = some (.string x) := by simp [hx]
      rw [← htk, List.getElem?_take] at h1
      split at h1
      · simp only [World.cell?, hh, Nat.zero_add, Nat.mul_one, Nat.add_zero]
        simpa using h1
      · cases h1
end Bo
namespace Bo
open Go Go.Proofs
theorem floor_Div {I : Nat → Prop} {w : World} (a b : Int) (ha : I64 a) :
    Ct Tryz.prog 72 #[.int .i64 a, .int .i64 b] I w (fun _ : Unit => .tuple #[.int .i64 (if b < 1 then 0 else a / b), .int .i64 (if b < 1 then 300 else 0)]) (fun _ _ _ => True) := by
  refine Ct.of (args := [_, _]) (F := fun _ _ => True) Tryz.func72 rfl rfl trivial fun hs => ?_
  refine sr (p 2 rfl (z ?_))
  refine C.seq (sr (p 2 rfl (z ?_)))
  refine C.cond_dec rfl (fun h1 => ?_) fun h1 => ?_
  · refine sr (p 2 rfl (z (C.ret ?_)))
    exact e2 rfl rfl rfl hs () (by simp [h1]) trivial
  · have h2 := tdiv_ediv (a := a) (show 1 ≤ b by omega)
    have h3 := tdiv_bd (a := a) (show 1 ≤ b by omega)
    have h4 := ediv_bd (a := a) (show 1 ≤ b by omega)
    refine C.skip (sr (p 2 rfl (dv rfl (by omega) (by omega) (p 1 rfl (z ?_)))))
    refine C.seq (sr (p 2 rfl (rm rfl (by omega) (p 1 rfl (z ?_)))))
    refine C.cond_dec rfl (fun h5 => ?_) fun h5 => ?_
    · rw [if_pos h5] at h2
      refine C.reg (p 1 rfl (Bo.a rfl (by omega) (p 1 rfl (z ?_))))
      refine sr (p 3 rfl (z (C.ret ?_)))
      exact e2 rfl rfl rfl hs () (by simp [h1, h2]) trivial
    · rw [if_neg h5] at h2
      refine C.skip (sr (p 3 rfl (z (C.ret ?_))))
      exact e2 rfl rfl rfl hs () (by simp [h1, h2]) trivial
theorem floor_Mod {I : Nat → Prop} {w : World} (a b : Int) (ha : I64 a) (hb : I64 b) :
    Ct Tryz.prog 73 #[.int .i64 a, .int .i64 b] I w (fun _ : Unit => .tuple #[.int .i64 (if b < 1 then 0 else a % b), .int .i64 (if b < 1 then 300 else 0)]) (fun _ _ _ => True) := by
  refine Ct.of (args := [_, _]) (F := fun _ _ => True) Tryz.func73 rfl rfl trivial fun hs => ?_
  refine sr (p 2 rfl (z ?_))
  refine C.seq (sr (p 2 rfl (z ?_)))
  refine C.cond_dec rfl (fun h1 => ?_) fun h1 => ?_
  · refine sr (p 2 rfl (z (C.ret ?_)))
    exact e2 rfl rfl rfl hs () (by simp [h1]) trivial
  · have h2 := tmod_emod (a := a) (show 1 ≤ b by omega)
    have h3 := Int.emod_nonneg a (show b ≠ 0 by omega)
    have h4 := Int.emod_lt_of_pos a (show 0 < b by omega)
    refine C.skip (sr (p 2 rfl (rm rfl (by omega) (p 1 rfl (z ?_)))))
    refine C.seq (sr (p 2 rfl (z ?_)))
    refine C.cond_dec rfl (fun h5 => ?_) fun h5 => ?_
    · rw [if_pos h5] at h2
      refine C.reg (p 2 rfl (Bo.a rfl (by omega) (p 1 rfl (z ?_))))
      refine sr (p 3 rfl (z (C.ret ?_)))
      exact e2 rfl rfl rfl hs () (by simp [h1, h2]) trivial
    · rw [if_neg h5] at h2
      refine C.skip (sr (p 3 rfl (z (C.ret ?_))))
      exact e2 rfl rfl rfl hs () (by simp [h1, h2]) trivial
theorem floor_Gcd {I : Nat → Prop} {w : World} (a b : Int) :
    Ct Tryz.prog 163 #[.int .i64 a, .int .i64 b] I w (fun _ : Unit => .tuple #[.int .i64 (if a < 1 ∨ b < 1 then 0 else Int.gcd a b), .int .i64 (if a < 1 ∨ b < 1 then 300 else 0)]) (fun _ _ _ => True) := by
  refine Ct.of (args := [_, _]) (F := fun _ _ => True) Tryz.func163 rfl rfl trivial fun hs => ?_
  refine sr (p 2 rfl (z ?_))
  refine C.seq (sc (fun ρ w' => ρ 0 = .int .i64 a ∧ ρ 1 = .int .i64 b ∧ ρ 11 = .bool (decide (a < 1 ∨ b < 1)) ∧ St N0 I w (up I w.heap.size) [] (fun _ _ => True) w') ?_ ?_)
  · refine C.reg (p 3 rfl (gd 8 rfl (fun h => ?_) fun h => ?_))
    · exact p 3 rfl (z ⟨rfl, rfl, by simp [h]; rfl, hs⟩)
    · exact p 3 rfl (z ⟨rfl, rfl, by simp [h]; rfl, hs⟩)
  rintro ρ w1 ⟨h0, h1, h11, hs⟩
  refine C.nm 0 h0 (C.nm 1 h1 (C.nm 11 h11 ?_))
  refine C.cond_dec rfl (fun h2 => ?_) fun h2 => ?_
  · refine sr (p 2 rfl (z (C.ret ?_)))
    exact e2 rfl rfl rfl hs () (by simp [h2]) trivial
  · refine C.skip (C.seq (C.block ?_))
    refine C.loop (fun n ρ w' => ∃ x y : Int, n = y.toNat ∧ 0 < x ∧ 0 ≤ y ∧ Int.gcd x y = Int.gcd a b ∧ ρ 0 = .int .i64 x ∧ ρ 1 = .int .i64 y ∧ St N0 I w (up I w.heap.size) [] (fun _ _ => True) w') _ ⟨a, b, rfl, by omega, by omega, rfl, rfl, rfl, hs⟩ ?_
    rintro n ρ w2 ⟨x, y, hn, hx, hy, hg, h0, h1, hs⟩
    refine C.nm 0 h0 (C.nm 1 h1 ?_)
    refine C.seq (sr (p 2 rfl (z ?_)))
    refine C.cond_dec rfl (fun h3 => ?_) fun h3 => ?_
    · refine C.skip (C.block (dro N0 6 [0, 1, 2, 3, 4, 5] hs fun w3 hs => dp 3 rfl (drm rfl (by omega) (dp 2 rfl (dz (z ?_))))))
      have h4 := Int.tmod_nonneg y (show 0 ≤ x by omega)
      have h5 := Int.tmod_lt_of_pos x h3
      refine ⟨_, ?_, y, x.tmod y, rfl, h3, h4, by rw [← hg, ← gcd_step (by omega) h3], rfl, rfl, hs⟩
      omega
    · obtain rfl : y = 0 := by omega
      refine C.exit ?_
      refine sr (p 3 rfl (z (C.ret ?_)))
      refine e2 rfl rfl rfl hs () ?_ trivial
      simp only [h2, if_false]
      rw [← hg]
      simp
      omega
end Bo
namespace Bo
open Go Go.Proofs
theorem acc_within {I : Nat → Prop} {w : World} (x m : Int) (hm : I64 m ∧ 0 ≤ m) :
    Ct Tryz.prog 154 #[.int .i64 x, .int .i64 m] I w (fun _ : Unit => .bool (decide (-m ≤ x ∧ x ≤ m))) (fun _ _ _ => True) := by
  refine Ct.of (args := [_, _]) (F := fun _ _ => True) Tryz.func154 rfl rfl trivial fun hs => ?_
  refine sr (p 1 rfl (z ?_))
  refine src (fun ρ w' => ρ 4 = .bool (decide (-m ≤ x ∧ x ≤ m)) ∧ w' = w) (p 2 rfl (Bo.a rfl (by omega) (p 2 rfl (gd 9 rfl (fun h => p 5 rfl (z ⟨vb rfl (by simp [h]), rfl⟩)) fun h => p 5 rfl (z ⟨vb rfl (by simp [h]), rfl⟩))))) ?_
  rintro ρ _ ⟨h, rfl⟩
  exact C.nm 4 h (C.ret (e1 rfl rfl hs () rfl trivial))
theorem cmp_isNaN {I : Nat → Prop} {w : World} (x : Int) :
    Ct Tryz.prog 182 #[.int .i64 x] I w (fun _ : Unit => .bool false) (fun _ _ _ => True) := by
  refine Ct.of (args := [_]) (F := fun _ _ => True) Tryz.func182 rfl rfl trivial fun hs => ?_
  refine sr (p 1 rfl (z ?_))
  refine sr (p 4 rfl (z (C.ret ?_)))
  exact e1 rfl rfl hs () (by simp) trivial
def cmp3 (x y : Int) : Int := if x < y then -1 else if y < x then 1 else 0
theorem cmp_Compare {I : Nat → Prop} {w : World} (x y : Int) :
    Ct Tryz.prog 176 #[.int .i64 x, .int .i64 y] I w (fun _ : Unit => .int .i64 (cmp3 x y)) (fun _ _ _ => True) := by
  refine Ct.of (args := [_, _]) (F := fun _ _ => True) Tryz.func176 rfl rfl trivial fun hs => ?_
  refine sr (p 1 rfl (z ?_))
  refine sr (p 1 rfl (c0 rfl hs (cmp_isNaN _) fun w hs => p 1 rfl (z ?_)))
  refine sr (p 1 rfl (c0 rfl hs (cmp_isNaN _) fun w hs => p 1 rfl (z ?_)))
  refine C.seq (sr (p 1 rfl (z (C.nay rfl (C.skip ?_)))))
  refine C.seq (sr (p 1 rfl (z (C.nay rfl (C.skip ?_)))))
  refine C.seq (sr (p 3 rfl (z (C.cond_dec rfl (fun h1 => ?_) fun h1 => ?_))))
  · refine sr (p 1 rfl (z (C.ret ?_)))
    exact e1 rfl rfl hs () (by simp [cmp3, h1]) trivial
  refine C.skip (C.seq (sr (p 3 rfl (z (C.cond_dec rfl (fun h2 => ?_) fun h2 => ?_)))))
  · refine sr (p 1 rfl (z (C.ret ?_)))
    exact e1 rfl rfl hs () (by simp [cmp3, h1, h2]) trivial
  · refine C.skip (sr (p 1 rfl (z (C.ret ?_))))
    exact e1 rfl rfl hs () (by simp [cmp3, h1, h2]) trivial
def orL : List Int → Int | [] => 0 | x :: xs => if x = 0 then orL xs else x
theorem orL_drop (xs : List Int) (i : Nat) (x : Int) (h : xs[i]? = some x) : orL (xs.drop i) = if x = 0 then orL (xs.drop (i + 1)) else x := by
  rw [List.drop_eq_getElem_cons (List.getElem?_eq_some_iff.1 h).1, (List.getElem?_eq_some_iff.1 h).2]; rfl
theorem cmp_Or {I : Nat → Prop} {w : World} (xs : List Int) {a : Option Addr} {c : Nat} (hr : RI a c xs I w) (hl : xs.length ≤ 1000) :
    Ct Tryz.prog 174 #[.slice a xs.length c] I w (fun _ : Unit => .int .i64 (orL xs)) (fun _ _ _ => True) := by
  refine Ct.of (args := [_]) (F := RI a c xs) Tryz.func174 rfl rfl hr fun hs => ?_
  refine sr (p 1 rfl (z ?_))
  refine sr (p 1 rfl (z ?_))
  refine C.seq (sr (p 3 rfl (z (C.block ?_))))
  refine C.loop (fun n ρ w' => ∃ i : Nat, n = xs.length - i ∧ i ≤ xs.length ∧ orL (xs.drop i) = orL xs ∧ ρ 3 = .int .i64 0 ∧ ρ 6 = .slice a xs.length c ∧ ρ 7 = .int .i64 xs.length ∧ ρ 8 = .int .i64 i ∧ St N0 I w (up I w.heap.size) [] (RI a c xs) w') _ ⟨0, rfl, by omega, rfl, rfl, rfl, rfl, rfl, hs⟩ ?_
  rintro n ρ w1 ⟨i, hn, hi, hor, h3, h6, h7, h8, hs⟩
  refine C.nm 3 h3 (C.nm 6 h6 (C.nm 7 h7 (C.nm 8 h8 ?_)))
  refine sr (p 1 rfl (z ?_))
  refine C.seq (C.cond_dec rfl (fun h1 => ?_) fun h1 => ?_)
  · obtain ⟨x, hx⟩ : ∃ x, xs[i]? = some x := ⟨_, List.getElem?_eq_getElem (by omega)⟩
    rw [orL_drop xs i x hx] at hor
    refine C.skip (C.seq (C.block ?_))
    refine sr (ixn i rfl hs.f (by simp) (map_get hx) fun b off hat => l1 0 rfl hat rfl rfl (p 1 rfl (z ?_)))
    refine sr (p 3 rfl (z (C.cond_dec rfl (fun h2 => ?_) fun h2 => ?_)))
    · rw [if_neg h2] at hor
      refine sr (p 2 rfl (z (C.ret ?_)))
      exact e1 rfl rfl hs () (by simp [hor]) trivial
    · rw [if_pos (by omega)] at hor
      refine C.skip (C.reg (Bo.a rfl (by omega) (p 1 rfl (z ?_))))
      exact ⟨_, by omega, i + 1, rfl, by omega, hor, rfl, rfl, rfl, rfl, hs⟩
  · rw [List.drop_of_length_le (by omega)] at hor
    refine C.exit ?_
    refine sr (p 2 rfl (z (C.ret ?_)))
    exact e1 rfl rfl hs () (by simp [← hor, orL]) trivial
end Bo
namespace Bo
/-! The row of items; heaps of them: no program. -/
def ltI (a b : Item) : Prop := a.time < b.time ∨ (a.time = b.time ∧ (a.seq < b.seq ∨ (a.seq = b.seq ∧ (a.series < b.series ∨ (a.series = b.series ∧ a.value < b.value)))))
instance (a b : Item) : Decidable (ltI a b) := by unfold ltI; infer_instance
def leI (a b : Item) : Prop := ¬ ltI b a
instance (a b : Item) : Decidable (leI a b) := by unfold leI; infer_instance
theorem leI.refl (a : Item) : leI a a := by unfold leI ltI; omega
theorem leI.trans {a b c : Item} (h : leI a b) (k : leI b c) : leI a c := by unfold leI ltI at *; omega
theorem leI.total (a b : Item) : leI a b ∨ leI b a := by unfold leI ltI at *; omega
theorem leI.antisymm {a b : Item} (h : leI a b) (k : leI b a) : a = b := by
  cases a; cases b; unfold leI ltI at *; simp only at *; simp only [Item.mk.injEq]; omega
theorem leI.of_lt {a b : Item} (h : ltI a b) : leI a b := by unfold leI ltI at *; omega
def Hp (xs : List Item) : Prop := ∀ i a b, 0 < i → xs[(i - 1) / 2]? = some a → xs[i]? = some b → leI a b
def AUp (xs : List Item) (i : Nat) : Prop :=
  (∀ k a b, 0 < k → k ≠ i → xs[(k - 1) / 2]? = some a → xs[k]? = some b → leI a b) ∧
  (∀ k a b, 0 < i → 0 < k → (k - 1) / 2 = i → xs[(i - 1) / 2]? = some a → xs[k]? = some b → leI a b)
def ADn (xs : List Item) (i : Nat) : Prop :=
  (∀ k a b, 0 < k → (k - 1) / 2 ≠ i → xs[(k - 1) / 2]? = some a → xs[k]? = some b → leI a b) ∧
  (∀ k a b, 0 < i → 0 < k → (k - 1) / 2 = i → xs[(i - 1) / 2]? = some a → xs[k]? = some b → leI a b)
def swp (xs : List Item) (i j : Nat) (x y : Item) : List Item := (xs.set i y).set j x
theorem swp_length (xs : List Item) (i j : Nat) (x y : Item) : (swp xs i j x y).length = xs.length := by simp [swp]
theorem swp_get {xs : List Item} {i j : Nat} {x y : Item} (hi : xs[i]? = some x) (hj : xs[j]? = some y) (hne : i ≠ j) (k : Nat) :
    (swp xs i j x y)[k]? = if k = j then some x else if k = i then some y else xs[k]? := by
  have h1 := (List.getElem?_eq_some_iff.1 hi).1
  have h2 := (List.getElem?_eq_some_iff.1 hj).1
  unfold swp
  by_cases e1 : k = j
  · subst e1; rw [if_pos rfl]; simp [h2]
  · rw [if_neg e1, List.getElem?_set_ne (fun e => e1 e.symm)]
    by_cases e2 : k = i
    · subst e2; rw [if_pos rfl]; simp [h1]
    · rw [if_neg e2, List.getElem?_set_ne (fun e => e2 e.symm)]
theorem set_perm {xs : List Item} {i : Nat} {x y : Item} (hi : xs[i]? = some x) : (x :: xs.set i y).Perm (y :: xs) := by
  induction xs generalizing i with
  | nil => simp at hi
  | cons z xs ih =>
    cases i with
    | zero => simp at hi; subst hi; simp only [List.set_cons_zero]; exact List.Perm.swap ..
    | succ i =>
      simp only [List.getElem?_cons_succ] at hi
      simp only [List.set_cons_succ]
      exact (List.Perm.swap ..).trans (((ih hi).cons z).trans (List.Perm.swap ..))
theorem swp_perm {xs : List Item} {i j : Nat} {x y : Item} (hi : xs[i]? = some x) (hj : xs[j]? = some y) (hne : i ≠ j) : (swp xs i j x y).Perm xs := by
  have h1 : (x :: xs.set i y).Perm (y :: xs) := set_perm hi
  have h2 : (xs.set i y)[j]? = some y := by rw [List.getElem?_set, if_neg hne]; exact hj
  have h3 : (y :: (xs.set i y).set j x).Perm (x :: xs.set i y) := set_perm h2
  exact (h3.trans h1).cons_inv
theorem AUp.done {xs : List Item} {i : Nat} {x : Item} (h : AUp xs i) (hx : xs[i]? = some x) (hd : i = 0 ∨ ∀ p, xs[(i - 1) / 2]? = some p → leI p x) : Hp xs := by
  intro k a b hk ha hb
  by_cases e : k = i
  · subst e
    rcases hd with rfl | hd
    · omega
    · rw [hx] at hb; cases hb; exact hd a ha
  · exact h.1 k a b hk e ha hb
theorem AUp.step {xs : List Item} {i : Nat} {x p : Item} (h : AUp xs i) (hi : 0 < i) (hx : xs[i]? = some x) (hp : xs[(i - 1) / 2]? = some p) (hlt : ltI x p) : AUp (swp xs i ((i - 1) / 2) x p) ((i - 1) / 2) := by
  have hne : i ≠ (i - 1) / 2 := by omega
  have hxp := leI.of_lt hlt
  constructor
  · intro k a b hk hkn ha hb
    rw [swp_get hx hp hne] at ha hb
    rw [if_neg hkn] at hb
    by_cases e1 : k = i
    · subst e1
      rw [if_pos rfl] at ha; cases ha
      rw [if_pos rfl] at hb; cases hb
      exact hxp
    · rw [if_neg e1] at hb
      by_cases e2 : (k - 1) / 2 = (i - 1) / 2
      · rw [if_pos e2] at ha; cases ha
        rw [← e2] at hp
        exact hxp.trans (h.1 k p b hk e1 hp hb)
      · rw [if_neg e2] at ha
        by_cases e3 : (k - 1) / 2 = i
        · rw [if_pos e3] at ha; cases ha
          exact h.2 k p b hi hk e3 hp hb
        · rw [if_neg e3] at ha
          exact h.1 k a b hk e1 ha hb
  · intro k a b hj hk hpar ha hb
    rw [swp_get hx hp hne] at ha hb
    rw [if_neg (by omega), if_neg (by omega)] at ha
    have hap := h.1 ((i - 1) / 2) a p hj (by omega) ha hp
    rw [if_neg (by omega)] at hb
    by_cases e1 : k = i
    · rw [if_pos e1] at hb; cases hb; exact hap
    · rw [if_neg e1] at hb
      have : xs[(k - 1) / 2]? = some p := by rw [hpar]; exact hp
      exact hap.trans (h.1 k p b hk e1 this hb)
theorem AUp.push {xs : List Item} {x : Item} (h : Hp xs) : AUp (xs ++ [x]) xs.length := by
  constructor
  · intro k a b hk hne ha hb
    have hlt : k < xs.length := by
      have := (List.getElem?_eq_some_iff.1 hb).1
      simp at this; omega
    rw [List.getElem?_append_left (by omega)] at ha hb
    exact h k a b hk ha hb
  · intro k a b hi hk hpar ha hb
    have := (List.getElem?_eq_some_iff.1 hb).1
    simp at this; omega
theorem ADn.done {xs : List Item} {i : Nat} (h : ADn xs i) (hd : ∀ k a b, 0 < k → (k - 1) / 2 = i → xs[i]? = some a → xs[k]? = some b → leI a b) : Hp xs := by
  intro k a b hk ha hb
  by_cases e : (k - 1) / 2 = i
  · exact hd k a b hk e (e ▸ ha) hb
  · exact h.1 k a b hk e ha hb
/-- The lesser child goes up. -/
theorem ADn.step {xs : List Item} {i c : Nat} {x y : Item} (h : ADn xs i) (hx : xs[i]? = some x) (hc : xs[c]? = some y) (hpar : (c - 1) / 2 = i) (h0 : 0 < c) (hlt : ltI y x) (hmin : ∀ k b, 0 < k → (k - 1) / 2 = i → xs[k]? = some b → leI y b) : ADn (swp xs i c x y) c := by
  have hne : i ≠ c := by omega
  have hyx := leI.of_lt hlt
  constructor
  · intro k a b hk hkn ha hb
    rw [swp_get hx hc hne] at ha hb
    rw [if_neg hkn] at ha
    by_cases e1 : (k - 1) / 2 = i
    · rw [if_pos e1] at ha; cases ha
      by_cases e2 : k = c
      · rw [if_pos e2] at hb; cases hb; exact hyx
      · rw [if_neg e2, if_neg (by omega)] at hb
        exact hmin k b hk e1 hb
    · rw [if_neg e1] at ha
      by_cases e2 : k = c
      · omega
      · rw [if_neg e2] at hb
        by_cases e3 : k = i
        · rw [if_pos e3] at hb; cases hb
          subst e3
          exact h.2 c a y hk h0 hpar ha hc
        · rw [if_neg e3] at hb
          exact h.1 k a b hk e1 ha hb
  · intro k a b _ hk hpk ha hb
    rw [swp_get hx hc hne] at ha hb
    rw [if_neg (by omega), if_pos hpar] at ha; cases ha
    rw [if_neg (by omega), if_neg (by omega)] at hb
    have : xs[(k - 1) / 2]? = some y := by rw [hpk]; exact hc
    exact h.1 k y b hk (by omega) this hb
theorem ADn.pop {xs : List Item} {z : Item} (h : Hp xs) (hl : 0 < xs.length) : ADn ((xs.set 0 z).take (xs.length - 1)) 0 := by
  constructor
  · intro k a b hk hne ha hb
    rw [List.getElem?_take] at ha hb
    split at ha
    case isFalse => cases ha
    split at hb
    case isFalse => cases hb
    rw [List.getElem?_set_ne (fun e => hne e.symm)] at ha
    rw [List.getElem?_set_ne (by omega)] at hb
    exact h k a b hk ha hb
  · intro k a b h0; omega
theorem Hp.min {xs : List Item} {m x : Item} (h : Hp xs) (hm : xs[0]? = some m) (hx : x ∈ xs) : leI m x := by
  obtain ⟨i, hi⟩ := List.mem_iff_getElem?.1 hx
  clear hx
  induction i using Nat.strongRecOn generalizing x with
  | _ i ih =>
    by_cases h0 : i = 0
    · subst h0; rw [hm] at hi; cases hi; exact leI.refl _
    · have hlt := (List.getElem?_eq_some_iff.1 hi).1
      have hp := List.getElem?_eq_getElem (show (i - 1) / 2 < xs.length by omega)
      exact (ih ((i - 1) / 2) (by omega) hp).trans (h i _ _ (by omega) hp hi)
/-! ### Sorted rows -/
def insI (x : Item) : List Item → List Item
  | [] => [x]
  | y :: ys => if ltI x y then x :: y :: ys else y :: insI x ys
def srtI : List Item → List Item := List.foldl (fun l x => insI x l) []
def SoI (xs : List Item) : Prop := xs.Pairwise leI
theorem insI_perm (x : Item) (ys : List Item) : (insI x ys).Perm (x :: ys) := by
  induction ys with
  | nil => exact .refl _
  | cons y ys ih =>
    simp only [insI]
    split
    · exact .refl _
    · exact (ih.cons y).trans (List.Perm.swap ..)
theorem insI_so {x : Item} {ys : List Item} (h : SoI ys) : SoI (insI x ys) := by
  induction ys with
  | nil => exact List.pairwise_singleton ..
  | cons y ys ih =>
    have h1 := List.pairwise_cons.1 h
    simp only [insI]
    split
    · rename_i hlt
      refine List.pairwise_cons.2 ⟨fun z hz => ?_, h⟩
      rcases List.mem_cons.1 hz with rfl | hz
      · exact leI.of_lt hlt
      · exact (leI.of_lt hlt).trans (h1.1 z hz)
    · rename_i hlt
      refine List.pairwise_cons.2 ⟨fun z hz => ?_, ih h1.2⟩
      rcases List.mem_cons.1 ((insI_perm x ys).mem_iff.1 hz) with rfl | hz
      · exact hlt
      · exact h1.1 z hz
theorem so_unique {xs ys : List Item} (h : xs.Perm ys) (hx : SoI xs) (hy : SoI ys) : xs = ys := by
  induction xs generalizing ys with
  | nil => exact (List.nil_perm.1 h).symm
  | cons x xs ih =>
    cases ys with
    | nil => exact absurd h.symm (by simp)
    | cons y ys =>
      have h1 := List.pairwise_cons.1 hx
      have h2 := List.pairwise_cons.1 hy
      have hxy : x = y := by
        rcases List.mem_cons.1 (h.mem_iff.1 (List.mem_cons_self ..)) with e | e
        · exact e
        · rcases List.mem_cons.1 (h.mem_iff.2 (List.mem_cons_self ..)) with e' | e'
          · exact e'.symm
          · exact leI.antisymm (h1.1 y e') (h2.1 x e)
      subst hxy
      rw [ih h.cons_inv h1.2 h2.2]
/-- What a heap's first one is, and what is left of it. -/
theorem Hp.head {xs L : List Item} {m : Item} (h : Hp xs) (hp : xs.Perm L) (hL : SoI L) (hm : xs[0]? = some m) : ∃ r, L = m :: r := by
  cases L with
  | nil => have := List.perm_nil.1 hp; subst this; simp at hm
  | cons l L =>
    have h1 := List.pairwise_cons.1 hL
    have hml : leI m l := h.min hm (hp.mem_iff.2 (List.mem_cons_self ..))
    have hlm : leI l m := by
      rcases List.mem_cons.1 (hp.mem_iff.1 (List.mem_of_getElem? hm)) with e | e
      · rw [e]; exact leI.refl _
      · exact h1.1 m e
    exact ⟨L, by rw [leI.antisymm hml hlm]⟩
end Bo
namespace Bo
open Go Go.Proofs
theorem Item.agg (x : Item) : (Value.agg x.c.toArray).cells.toList = x.c := rfl
theorem acc_ItemMay {I : Nat → Prop} {w : World} (x : Item) :
    Ct Tryz.prog 118 #[.agg x.c.toArray] I w (fun _ : Unit => .bool (decide x.ok)) (fun _ _ _ => True) := by
  refine Ct.of (args := [_]) (F := fun _ _ => True) Tryz.func118 rfl rfl trivial fun hs => ?_
  refine sr (ai hs rfl fun b w1 hs => p 1 rfl (z ?_))
  refine src (fun ρ w' => ρ 2 = .bool (decide x.ok) ∧ ∃ F, St N0 I w (up I w.heap.size) [] F w') ?_ ?_
  · refine p 1 rfl (l rfl hs.im rfl (p 2 rfl (gd 6 rfl (fun h1 => ?_) fun h1 => ?_)))
    · refine p 1 rfl (l rfl hs.im rfl (p 3 rfl (gd 11 rfl (fun h2 => ?_) fun h2 => ?_)))
      · refine p 1 rfl (l rfl hs.im rfl (c0 rfl hs (acc_within _ _ (by omega)) fun w2 hs => p 2 rfl (gd 16 rfl (fun h3 => ?_) fun h3 => ?_)))
        · refine p 1 rfl (l rfl hs.im rfl (p 3 rfl (gd 21 rfl (fun h4 => ?_) fun h4 => ?_)))
          · refine p 1 rfl (l rfl hs.im rfl (p 3 rfl (gd 26 rfl (fun h5 => ?_) fun h5 => ?_)))
            · refine p 1 rfl (l rfl hs.im rfl (c0 rfl hs (acc_within _ _ (by omega)) fun w2 hs => p 2 rfl (z ⟨vb rfl ?_, _, hs⟩)))
              simp [Item.ok, h1, h2, h3, h4, h5]
            · exact p 5 rfl (z ⟨vb rfl (by simp [Item.ok, h5]), _, hs⟩)
          · exact p 10 rfl (z ⟨vb rfl (by simp [Item.ok, h4]), _, hs⟩)
        · exact p 15 rfl (z ⟨vb rfl (by simp [Item.ok, h3]), _, hs⟩)
      · exact p 20 rfl (z ⟨vb rfl (by simp [Item.ok, h2]), _, hs⟩)
    · exact p 25 rfl (z ⟨vb rfl (by simp [Item.ok, h1]), _, hs⟩)
  rintro ρ w2 ⟨h, F, hs⟩
  exact C.nm 2 h (C.ret (e1 rfl rfl hs () rfl trivial))
def ordI (a b : Item) : Int := orL [cmp3 a.time b.time, cmp3 a.seq b.seq]
theorem acc_Order {I : Nat → Prop} {w : World} (x y : Item) :
    Ct Tryz.prog 175 #[.agg x.c.toArray, .agg y.c.toArray] I w (fun _ : Unit => .int .i64 (ordI x y)) (fun _ _ _ => True) := by
  refine Ct.of (args := [_, _]) (F := fun _ _ => True) Tryz.func175 rfl rfl trivial fun hs => ?_
  refine sr (ai hs rfl fun b w1 hs => ai hs rfl fun b' w1 hs => p 1 rfl (z ?_))
  refine C.seq ?_
  refine dro N0 12 [0, 1, 2, 3, 5, 6, 7, 8, 504, 509, 510, 511] hs fun w hs => dp 1 rfl (dl rfl hs.im2 rfl (dp 1 rfl (dl rfl hs.im rfl (dp 1 rfl (dl rfl hs.im2 rfl (dp 1 rfl (dl rfl hs.im rfl (dc0 rfl hs (cmp_Compare _ _) fun w hs => dc0 rfl hs (cmp_Compare _ _) fun w hs => ?_))))))))
  refine dbs ([cmp3 x.time y.time, cmp3 x.seq y.seq].map ic) hs rfl fun a w hs => dc0 rfl hs (cmp_Or [cmp3 x.time y.time, cmp3 x.seq y.seq] hs.f.1 (by simp)) fun w hs => dz (p 1 rfl (z ?_))
  refine C.ret ?_
  exact e1 rfl rfl hs () rfl trivial
theorem ordI_lt (a b : Item) : orL [ordI a b, cmp3 a.series b.series, cmp3 a.value b.value] < 0 ↔ ltI a b := by
  simp only [ordI, orL, cmp3, ltI]
  repeat' split
  all_goals omega
theorem heap_less {I : Nat → Prop} {w : World} (x y : Item) :
    Ct Tryz.prog 155 #[.agg x.c.toArray, .agg y.c.toArray] I w (fun _ : Unit => .bool (decide (ltI x y))) (fun _ _ _ => True) := by
  refine Ct.of (args := [_, _]) (F := fun _ _ => True) Tryz.func155 rfl rfl trivial fun hs => ?_
  refine sr (ai hs rfl fun b2 w hs => ai hs rfl fun b3 w hs => p 1 rfl (z ?_))
  refine C.seq ?_
  refine dro N0 16 [0, 1, 3, 4, 5, 6, 8, 9, 10, 11, 502, 507, 512, 513, 514, 15] hs fun w hs => dln x.c rfl hs.im2 rfl rfl (dln y.c rfl hs.im rfl rfl (dp 1 rfl (dl rfl hs.im2 rfl (dp 1 rfl (dl rfl hs.im rfl (dp 1 rfl (dl rfl hs.im2 rfl (dp 1 rfl (dl rfl hs.im rfl (dc0 rfl hs (acc_Order _ _) fun w hs => dc0 rfl hs (cmp_Compare _ _) fun w hs => dc0 rfl hs (cmp_Compare _ _) fun w hs => ?_))))))))))
  refine dbs ([ordI x y, cmp3 x.series y.series, cmp3 x.value y.value].map ic) hs rfl fun a w hs => dc0 rfl hs (cmp_Or [ordI x y, cmp3 x.series y.series, cmp3 x.value y.value] hs.f.1 (by simp)) fun w hs => dp 1 rfl (dz (p 1 rfl (z ?_)))
  refine C.ret ?_
  exact e1 rfl rfl hs () (by rw [decide_eq_decide.2 (ordI_lt x y)]) trivial
end Bo
namespace Bo
open Go Go.Proofs
def hpM (hb : Nat) (most : Int) (a : Option Addr) (c : Nat) (xs : List Item) : List Rs :=
  [.blk hb 157 [.int .i64 most, .slice a xs.length c], .own a c 82 4 (xs.map Item.c)]
theorem half {i : Nat} (h : 0 < i) : ((i : Int) - 1).tdiv 2 = (((i - 1) / 2 : Nat) : Int) := by
  rw [Int.tdiv_eq_ediv_of_nonneg (by omega)]; omega
theorem hpM_ne {D I J : Nat → Prop} {w0 w : World} {F : Pf} {hb c g : Nat} {most : Int} {xs : List Item} (hs : St D I w0 J (hpM hb most (some ⟨g, 0, none⟩) c xs) F w) : hb ≠ g := by
  intro e
  have := (List.pairwise_cons.1 hs.d).1 _ (List.mem_cons_self ..) hb rfl
  exact this (by rw [e]; rfl)
theorem map_set {α β : Type} (f : α → β) (xs : List α) (i : Nat) (x : α) : (xs.map f).set i (f x) = (xs.set i x).map f := by simp
theorem spl_all (x y : Item) : spl x.c 0 y.c = y.c := rfl
theorem heap_up {I : Nat → Prop} {w : World} {hb c : Nat} {most : Int} {a : Option Addr} {xs : List Item} (i : Nat) (hi : i < xs.length) (hl : xs.length ≤ 8192) (hM : Ms I (hpM hb most a c xs) w) (hA : AUp xs i) :
    Cm Tryz.prog 119 #[.pointer (some ⟨hb, 0, none⟩), .int .i64 i] I w (hpM hb most a c xs) (fun _ : List Item => .tuple #[]) (fun ys => hpM hb most a c ys) (fun ys _ _ => ys.Perm xs ∧ Hp ys) := by
  refine Cm.of (args := [_, _]) (F := fun _ _ => True) Tryz.func119 rfl rfl hM trivial fun hs => ?_
  refine C.block ?_ -- BLOCK 0
  refine C.loop (fun n ρ w' => ∃ (i : Nat) (ys : List Item) (J : Nat → Prop), n = i ∧ i < ys.length ∧ ys.Perm xs ∧ AUp ys i ∧ ρ 0 = .pointer (some ⟨hb, 0, none⟩) ∧ ρ 1 = .int .i64 i ∧ St (fpD (hpM hb most a c xs)) I w J (hpM hb most a c ys) (fun _ _ => True) w') _ ⟨i, xs, _, rfl, hi, .refl _, hA, rfl, rfl, hs⟩ ?_
  rintro n ρ w1 ⟨i, ys, J, hn, hi, hp, hA, h0, h1, hs⟩
  have hyl := hp.length_eq
  have hx := List.getElem?_eq_getElem hi
  have hp' := List.getElem?_eq_getElem (show (i - 1) / 2 < ys.length by omega)
  generalize ys[i] = x at hx
  generalize ys[(i - 1) / 2] = q at hp'
  refine C.nm 0 h0 (C.nm 1 h1 ?_)
  refine C.seq (sc (fun ρ w' => ρ 0 = .pointer (some ⟨hb, 0, none⟩) ∧ ρ 1 = .int .i64 i ∧ (∃ b, ρ 24 = .bool b ∧ (b = true → 0 < i ∧ ltI x q) ∧ (b = false → i = 0 ∨ leI q x)) ∧ ∃ J, St (fpD (hpM hb most a c xs)) I w J (hpM hb most a c ys) (fun _ _ => True) w') ?_ ?_)
  · refine dro N0 21 [0, 1, 2, 3, 4, 5, 6, 7, 8, 9, 10, 11, 12, 13, 14, 15, 16, 17, 18, 519, 20] hs fun w hs => ?_
    refine dp 3 rfl (dgd 6 rfl (fun h1 => ?_) fun h1 => ?_)
    · refine dp 3 rfl (dl rfl (hs.bk 0 rfl) rfl (dp 1 rfl (dixo 1 i hs rfl rfl (by simpa using hi) (by simp) fun g hg => ?_)))
      subst hg
      refine dlon 1 i hs rfl rfl (map_get hx) rfl rfl (dp 3 rfl (dl rfl (hs.bk 0 rfl) rfl (dp 1 rfl (da rfl (by omega) (ddvn ((i - 1) / 2 : Nat) rfl (half (by omega)) (by omega) (by omega) ?_)))))
      refine dixo 1 ((i - 1) / 2) hs rfl rfl (by simp; omega) (by simp) fun g hg => ?_
      cases hg
      refine dlon 1 ((i - 1) / 2) hs rfl rfl (map_get hp') rfl rfl (dc0 rfl hs (heap_less x q) fun w hs => dp 1 rfl (dz (z ?_)))
      refine ⟨rfl, rfl, ⟨_, rfl, fun h => ⟨by omega, of_decide_eq_true h⟩, fun h => .inr (of_decide_eq_false h)⟩, _, hs⟩
    · refine dp 18 rfl (dz (z ?_))
      exact ⟨rfl, rfl, ⟨false, rfl, by simp, fun _ => .inl (by omega)⟩, _, hs⟩
  rintro ρ w2 ⟨h0, h1, ⟨b, hb24, hbt, hbf⟩, J2, hs⟩
  refine C.nm 0 h0 (C.nm 1 h1 (C.nm 24 hb24 ?_))
  refine C.cond rfl (fun hb => ?_) fun hb => ?_
  · obtain ⟨hi0, hlt⟩ := hbt hb
    have hne : i ≠ (i - 1) / 2 := by omega
    refine C.skip (C.block ?_)
    obtain ⟨g, _, hg, _⟩ := own_at (hs.m _ (List.mem_of_getElem? (i := 1) rfl)).1 (map_get hx)
    subst hg
    have hne2 := hpM_ne hs
    refine C.seq ?_
    refine dro (fun b => b = g) 30 [0, 1, 2, 3, 4, 5, 6, 7, 8, 9, 10, 11, 12, 13, 14, 15, 16, 17, 18, 19, 21, 22, 23, 24, 25, 26, 1020, 27, 28, 529] hs fun w hs => ?_
    refine dp 3 rfl (dl rfl (hs.bk 0 rfl) rfl (he := hne2) (dp 4 rfl (dl rfl (hs.bk 0 rfl) rfl (he := hne2) (dp 1 rfl (da rfl (by omega) (ddvn ((i - 1) / 2 : Nat) rfl (half (by omega)) (by omega) (by omega) (dp 3 rfl (dl rfl (hs.bk 0 rfl) rfl (he := hne2) (dp 1 rfl (da rfl (by omega) (ddvn ((i - 1) / 2 : Nat) rfl (half (by omega)) (by omega) (by omega) ?_)))))))))))
    refine dixo 1 ((i - 1) / 2) hs rfl rfl (by simp; omega) (by simp) fun g hg => ?_
    cases hg
    refine dp 3 rfl (dl rfl (hs.bk 0 rfl) rfl (he := hne2) (dp 1 rfl ?_))
    refine dixo 1 i hs rfl rfl (by simpa using hi) (by simp) fun g hg => ?_
    cases hg
    refine dlp rfl rfl rfl (lonR 1 ((i - 1) / 2) hs rfl rfl (map_get hp') rfl rfl) (lonR 1 i hs rfl rfl (map_get hx) rfl rfl) (lonR 1 i hs rfl rfl (map_get hx) rfl rfl) (lonR 1 ((i - 1) / 2) hs rfl rfl (map_get hp') rfl rfl) ?_
    refine dixo 1 i hs rfl rfl (by simpa using hi) (by simp) fun g hg => ?_
    cases hg
    refine dso 1 i 0 q.c ((ys.set i q).map Item.c) hs rfl rfl (map_get hx) rfl rfl rfl (map_set ..) rfl fun J w hs => dz ?_
    refine ixo 1 ((i - 1) / 2) hs rfl rfl (by simp; omega) (by simp) fun g hg => ?_
    cases hg
    refine sox 1 ((i - 1) / 2) 0 x.c ((swp ys i ((i - 1) / 2) x q).map Item.c) hs rfl rfl (map_get (x := q) (by rw [List.getElem?_set_ne hne]; exact hp')) rfl rfl rfl (map_set ..) fun J3 w hs => z ?_
    refine C.reg (p 1 rfl (Bo.a rfl (by omega) (dvn ((i - 1) / 2 : Nat) rfl (half (by omega)) (by omega) (by omega) (p 1 rfl (z ?_)))))
    refine ⟨_, by omega, (i - 1) / 2, swp ys i ((i - 1) / 2) x q, J3, rfl, by rw [swp_length]; omega, (swp_perm hx hp' hne).trans hp, hA.step hi0 hx hp' hlt, rfl, rfl, ?_⟩
    simpa [hpM, swp_length] using hs
  · refine C.exit ?_
    exact m0 rfl ys hs rfl ⟨hp, hA.done hx ((hbf hb).imp id fun h p' hp'' => by rw [hp'] at hp''; cases hp''; exact h)⟩
theorem heap_down {I : Nat → Prop} {w : World} {hb c : Nat} {most : Int} {a : Option Addr} {xs : List Item} (i : Nat) (hi : i < xs.length ∨ i = 0) (hl : xs.length ≤ 8192) (hM : Ms I (hpM hb most a c xs) w) (hA : ADn xs i) :
    Cm Tryz.prog 121 #[.pointer (some ⟨hb, 0, none⟩), .int .i64 i] I w (hpM hb most a c xs) (fun _ : List Item => .tuple #[]) (fun ys => hpM hb most a c ys) (fun ys _ _ => ys.Perm xs ∧ Hp ys) := by
  refine Cm.of (args := [_, _]) (F := fun _ _ => True) Tryz.func121 rfl rfl hM trivial fun hs => ?_
  refine C.block ?_ -- BLOCK 0
  refine C.loop (fun n ρ w' => ∃ (i : Nat) (ys : List Item) (J : Nat → Prop), n = xs.length + 1 - i ∧ (i < ys.length ∨ i = 0) ∧ ys.Perm xs ∧ ADn ys i ∧ ρ 0 = .pointer (some ⟨hb, 0, none⟩) ∧ ρ 1 = .int .i64 i ∧ St (fpD (hpM hb most a c xs)) I w J (hpM hb most a c ys) (fun _ _ => True) w') _ ⟨i, xs, _, rfl, hi, .refl _, hA, rfl, rfl, hs⟩ ?_
  rintro n ρ w1 ⟨i, ys, J, hn, hi, hp, hA, h0, h1, hs⟩
  have hyl := hp.length_eq
  refine C.nm 0 h0 (C.nm 1 h1 ?_)
  refine C.block ?_ -- BLOCK 1
  refine sr (p 1 rfl (Bo.a rfl (by omega) (Bo.a rfl (by omega) (p 1 rfl (z ?_)))))
  refine sc (fun ρ w' => ∃ (c' : Nat) (J : Nat → Prop), ρ 0 = .pointer (some ⟨hb, 0, none⟩) ∧ ρ 1 = .int .i64 i ∧ ρ 4 = .int .i64 c' ∧ 2 * i < c' ∧ c' ≤ 2 * i + 2 ∧ (ys.length ≤ c' → ys.length ≤ 2 * i + 1) ∧ (∀ k a b, 0 < k → (k - 1) / 2 = i → ys[c']? = some a → ys[k]? = some b → leI a b) ∧ St (fpD (hpM hb most a c xs)) I w J (hpM hb most a c ys) (fun _ _ => True) w') ?_ ?_
  · refine sc (fun ρ w' => ρ 0 = .pointer (some ⟨hb, 0, none⟩) ∧ ρ 1 = .int .i64 i ∧ ρ 4 = .int .i64 (2 * i + 1 : Nat) ∧ (∃ b, ρ 33 = .bool b ∧ (b = true → 2 * i + 2 < ys.length ∧ ∀ x y, ys[2 * i + 2]? = some x → ys[2 * i + 1]? = some y → ltI x y) ∧ (b = false → ∀ x y, ys[2 * i + 2]? = some x → ys[2 * i + 1]? = some y → leI y x)) ∧ ∃ J, St (fpD (hpM hb most a c xs)) I w J (hpM hb most a c ys) (fun _ _ => True) w') ?_ ?_
    · refine dro N0 26 [0, 1, 2, 3, 4, 5, 6, 7, 8, 9, 10, 11, 12, 13, 14, 15, 16, 17, 18, 19, 20, 21, 22, 23, 524, 25] hs fun w hs => ?_
      refine dp 1 rfl (da rfl (by omega) (dp 3 rfl (dl rfl (hs.bk 0 rfl) rfl (dp 3 rfl (dgd 16 rfl (fun h1 => ?_) fun h1 => ?_)))))
      · have hlt : 2 * i + 2 < ys.length := by omega
        have hx := List.getElem?_eq_getElem hlt
        have hy := List.getElem?_eq_getElem (show 2 * i + 1 < ys.length by omega)
        generalize ys[2 * i + 2] = x at hx
        generalize ys[2 * i + 1] = y at hy
        refine dp 3 rfl (dl rfl (hs.bk 0 rfl) rfl (dp 1 rfl (dan (2 * i + 2 : Nat) rfl (by omega) (by omega) ?_)))
        refine dixo 1 (2 * i + 2) hs rfl rfl (by simpa using hlt) (by simp) fun g hg => ?_
        subst hg
        refine dlon 1 (2 * i + 2) hs rfl rfl (map_get hx) rfl rfl (dp 3 rfl (dl rfl (hs.bk 0 rfl) rfl (dp 1 rfl ?_)))
        refine dixo 1 (2 * i + 1) hs rfl rfl (by simp; omega) (by simp) fun g hg => ?_
        cases hg
        refine dlon 1 (2 * i + 1) hs rfl rfl (map_get hy) rfl rfl (dc0 rfl hs (heap_less x y) fun w hs => dp 1 rfl (dz (z ?_)))
        refine ⟨rfl, rfl, rfl, ⟨_, rfl, fun h => ⟨hlt, fun x' y' hx' hy' => ?_⟩, fun h x' y' hx' hy' => ?_⟩, _, hs⟩
        · rw [hx] at hx'; rw [hy] at hy'; cases hx'; cases hy'; exact of_decide_eq_true h
        · rw [hx] at hx'; rw [hy] at hy'; cases hx'; cases hy'; exact of_decide_eq_false h
      · refine dp 17 rfl (dz (z ?_))
        refine ⟨rfl, rfl, rfl, ⟨false, rfl, by simp, fun _ x' y' hx' hy' => ?_⟩, _, hs⟩
        have := (List.getElem?_eq_some_iff.1 hx').1
        omega
    rintro ρ w2 ⟨h0, h1, h4, ⟨b, hb33, hbt, hbf⟩, J2, hs⟩
    refine C.nm 0 h0 (C.nm 1 h1 (C.nm 4 h4 (C.nm 33 hb33 ?_)))
    refine C.cond rfl (fun hb => ?_) fun hb => ?_
    · obtain ⟨hlt, hxy⟩ := hbt hb
      refine C.reg (p 1 rfl (an (2 * i + 2 : Nat) rfl (by omega) (by omega) (p 1 rfl (z ?_))))
      refine ⟨2 * i + 2, J2, rfl, rfl, rfl, by omega, by omega, by omega, fun k a' b' hk hpar ha hb' => ?_, hs⟩
      have : k = 2 * i + 1 ∨ k = 2 * i + 2 := by omega
      rcases this with rfl | rfl
      · exact leI.of_lt (hxy _ _ ha hb')
      · rw [ha] at hb'; cases hb'; exact leI.refl _
    · refine C.skip ⟨2 * i + 1, J2, rfl, rfl, rfl, by omega, by omega, by omega, fun k a' b' hk hpar ha hb' => ?_, hs⟩
      have : k = 2 * i + 1 ∨ k = 2 * i + 2 := by omega
      rcases this with rfl | rfl
      · rw [ha] at hb'; cases hb'; exact leI.refl _
      · exact hbf hb _ _ hb' ha
  rintro ρ w2 ⟨c', J2, h0, h1, h4, hc1, hc2, hc3, hmin, hs⟩
  refine C.nm 0 h0 (C.nm 1 h1 (C.nm 4 h4 ?_))
  refine C.seq (sc (fun ρ w' => ρ 0 = .pointer (some ⟨hb, 0, none⟩) ∧ ρ 1 = .int .i64 i ∧ ρ 4 = .int .i64 c' ∧ (∃ b, ρ 60 = .bool b ∧ (b = true → ys.length ≤ c' ∨ ∀ y x, ys[c']? = some y → ys[i]? = some x → leI x y) ∧ (b = false → c' < ys.length ∧ ∀ y x, ys[c']? = some y → ys[i]? = some x → ltI y x)) ∧ ∃ J, St (fpD (hpM hb most a c xs)) I w J (hpM hb most a c ys) (fun _ _ => True) w') ?_ ?_)
  · refine dro N0 25 [0, 1, 2, 3, 4, 5, 6, 7, 8, 9, 10, 11, 12, 13, 14, 15, 16, 17, 18, 19, 20, 21, 522, 23, 24] hs fun w hs => ?_
    refine dp 4 rfl (dl rfl (hs.bk 0 rfl) rfl (dp 3 rfl (dgd 43 rfl (fun h3 => ?_) fun h3 => ?_)))
    · refine dp 17 rfl (dz (z ?_))
      exact ⟨rfl, rfl, rfl, ⟨true, rfl, fun _ => .inl (by omega), by simp⟩, _, hs⟩
    · have hlt : c' < ys.length := by omega
      have hx := List.getElem?_eq_getElem hlt
      have hy := List.getElem?_eq_getElem (show i < ys.length by omega)
      generalize ys[c'] = x at hx
      generalize ys[i] = y at hy
      refine dp 3 rfl (dl rfl (hs.bk 0 rfl) rfl (dp 1 rfl ?_))
      refine dixo 1 c' hs rfl rfl (by simpa using hlt) (by simp) fun g hg => ?_
      subst hg
      refine dlon 1 c' hs rfl rfl (map_get hx) rfl rfl (dp 3 rfl (dl rfl (hs.bk 0 rfl) rfl (dp 1 rfl ?_)))
      refine dixo 1 i hs rfl rfl (by simp; omega) (by simp) fun g hg => ?_
      cases hg
      refine dlon 1 i hs rfl rfl (map_get hy) rfl rfl (dc0 rfl hs (heap_less x y) fun w hs => dp 2 rfl (dz (z ?_)))
      refine ⟨rfl, rfl, rfl, ⟨_, rfl, fun h => .inr fun x' y' hx' hy' => ?_, fun h => ⟨hlt, fun x' y' hx' hy' => ?_⟩⟩, _, hs⟩
      · rw [hx] at hx'; rw [hy] at hy'; cases hx'; cases hy'; simpa [leI] using h
      · rw [hx] at hx'; rw [hy] at hy'; cases hx'; cases hy'; simpa using h
  rintro ρ w3 ⟨h0, h1, h4, ⟨b, hb60, hbt, hbf⟩, J3, hs⟩
  refine C.nm 0 h0 (C.nm 1 h1 (C.nm 4 h4 (C.nm 60 hb60 ?_)))
  refine C.cond rfl (fun hb => ?_) fun hb => ?_
  · refine C.ret ?_
    refine m0 rfl ys hs rfl ⟨hp, hA.done fun k a' b' hk hpar ha hb' => ?_⟩
    have hkl := (List.getElem?_eq_some_iff.1 hb').1
    have hcl : c' < ys.length := by
      rcases Nat.lt_or_ge c' ys.length with h | h
      · exact h
      · have := hc3 h; omega
    have hcx := List.getElem?_eq_getElem hcl
    exact ((hbt hb).resolve_left (by omega) _ _ hcx ha).trans (hmin k _ _ hk hpar hcx hb')
  · obtain ⟨hlt, hyx⟩ := hbf hb
    have hne : i ≠ c' := by omega
    have hx := List.getElem?_eq_getElem (show i < ys.length by omega)
    have hy := List.getElem?_eq_getElem hlt
    generalize ys[c'] = y at hy
    generalize ys[i] = x at hx
    refine C.skip ?_
    obtain ⟨g, _, hg, _⟩ := own_at (hs.m _ (List.mem_of_getElem? (i := 1) rfl)).1 (map_get hx)
    subst hg
    have hne2 := hpM_ne hs
    refine C.seq ?_
    refine dro (fun b => b = g) 26 [0, 1, 2, 3, 4, 5, 6, 7, 8, 9, 10, 11, 12, 13, 14, 15, 17, 18, 19, 20, 21, 22, 1016, 23, 24, 525] hs fun w hs => ?_
    refine dp 3 rfl (dl rfl (hs.bk 0 rfl) rfl (he := hne2) (dp 4 rfl (dl rfl (hs.bk 0 rfl) rfl (he := hne2) (dp 4 rfl (dl rfl (hs.bk 0 rfl) rfl (he := hne2) (dp 1 rfl ?_))))))
    refine dixo 1 c' hs rfl rfl (by simpa using hlt) (by simp) fun g hg => ?_
    cases hg
    refine dp 3 rfl (dl rfl (hs.bk 0 rfl) rfl (he := hne2) (dp 1 rfl ?_))
    refine dixo 1 i hs rfl rfl (by simp; omega) (by simp) fun g hg => ?_
    cases hg
    refine dlp rfl rfl rfl (lonR 1 c' hs rfl rfl (map_get hy) rfl rfl) (lonR 1 i hs rfl rfl (map_get hx) rfl rfl) (lonR 1 i hs rfl rfl (map_get hx) rfl rfl) (lonR 1 c' hs rfl rfl (map_get hy) rfl rfl) ?_
    refine dixo 1 i hs rfl rfl (by simp; omega) (by simp) fun g hg => ?_
    cases hg
    refine dso 1 i 0 y.c ((ys.set i y).map Item.c) hs rfl rfl (map_get hx) rfl rfl rfl (map_set ..) rfl fun J w hs => dz ?_
    refine ixo 1 c' hs rfl rfl (by simpa using hlt) (by simp) fun g hg => ?_
    cases hg
    refine sox 1 c' 0 x.c ((swp ys i c' x y).map Item.c) hs rfl rfl (map_get (x := y) (by rw [List.getElem?_set_ne hne]; exact hy)) rfl rfl rfl (map_set ..) fun J3 w hs => z ?_
    refine C.reg (p 2 rfl (z ?_))
    refine ⟨_, ?_, c', swp ys i c' x y, J3, rfl, .inl (by rw [swp_length]; omega), (swp_perm hx hy hne).trans hp, hA.step hx hy (by omega) (by omega) (hyx _ _ hy hx) fun k b' hk hpar hb' => hmin k _ _ hk hpar hy hb', rfl, rfl, ?_⟩
    · omega
    · simpa [hpM, swp_length] using hs
end Bo
namespace Bo
open Go Go.Proofs
theorem Item.one (xs : List Item) : ∀ cs ∈ xs.map Item.c, ∀ v ∈ cs, v.oneCell' = true := by
  intro cs hcs v hv
  obtain ⟨x, _, rfl⟩ := List.mem_map.1 hcs
  simp only [Item.c, List.mem_cons, List.not_mem_nil, or_false] at hv
  rcases hv with rfl | rfl | rfl | rfl <;> rfl
theorem heap_New {I : Nat → Prop} {w : World} (most : Int) (h0 : 1 ≤ most ∧ most ≤ 8192) :
    Cm Tryz.prog 78 #[.int .i64 most] I w [] (fun hb : Nat => .tuple #[.pointer (some ⟨hb, 0, none⟩), .int .i64 0]) (fun hb => hpM hb most none 0 []) (fun _ _ _ => True) := by
  refine Cm.of (args := [_]) (F := fun _ _ => True) Tryz.func78 rfl rfl ⟨by simp, .nil⟩ trivial fun hs => ?_
  refine sr (p 2 rfl (z ?_))
  refine C.seq ?_
  refine src (fun ρ w' => ρ 9 = .bool false ∧ ρ 0 = .int .i64 most ∧ ∃ J, St (fpD []) I w J [] (fun _ _ => True) w') ?_ ?_
  · refine p 3 rfl (gd 6 rfl (fun h1 => by omega) fun h1 => ?_)
    exact p 3 rfl (z ⟨vb rfl (by simp; omega), rfl, _, hs⟩)
  rintro ρ w' ⟨h, h0, J, hs⟩
  refine C.nm 9 h (C.nm 0 h0 ?_)
  refine C.nay rfl (C.skip ?_)
  refine sr (p 1 rfl (bd [.int .i64 most, .slice none 0 0] rfl (am hs rfl fun b w hs => p 2 rfl (z ?_))))
  refine C.ret ?_
  exact m2 rfl rfl rfl b ((hs.own 82 4).perm (.swap ..)) rfl trivial
/-- How many items a heap holds. -/
theorem heap_Len {I : Nat → Prop} {w : World} {hb c n : Nat} {most : Int} {a : Option Addr} (hI : Im hb 157 [.int .i64 most, .slice a n c] I w) :
    Ct Tryz.prog 80 #[.pointer (some ⟨hb, 0, none⟩)] I w (fun _ : Unit => .int .i64 n) (fun _ _ _ => True) := by
  refine Ct.of (args := [_]) (F := Im hb 157 [.int .i64 most, .slice a n c]) Tryz.func80 rfl rfl hI fun hs => ?_
  refine sr (p 1 rfl (z ?_))
  refine C.seq (sr (p 2 rfl (z ?_)))
  refine C.nay rfl (C.skip ?_)
  refine sr (p 3 rfl (l rfl hs.f.2 rfl (p 2 rfl (z ?_))))
  exact C.ret (e1 rfl rfl hs () rfl trivial)
def pushE (most : Int) (k : Nat) (ns : List Item) : Int := if ∃ x ∈ ns, ¬ x.ok then 1500 else if most < k + ns.length then 1501 else 0
structure PR where
  e : Int
  ys : List Item
  a : Option Addr
  c : Nat
theorem heap_Push {I : Nat → Prop} {w : World} {hb c c' : Nat} {most : Int} {a a' : Option Addr} (xs ns : List Item) (hl : xs.length ≤ 8192) (hm : most ≤ 8192) (hnl : ns.length ≤ 140737488355328) (hM : Ms I (hpM hb most a c xs) w) (hA : Hp xs) (hR : RItem a' c' ns I w) :
    Cm Tryz.prog 79 #[.pointer (some ⟨hb, 0, none⟩), .slice a' ns.length c'] I w (hpM hb most a c xs) (fun r : PR => .int .i64 r.e) (fun r => hpM hb most r.a r.c r.ys)
      (fun r _ _ => r.e = pushE most xs.length ns ∧ (r.e ≠ 0 → r.ys = xs ∧ r.a = a ∧ r.c = c) ∧ (r.e = 0 → r.ys.Perm (xs ++ ns) ∧ Hp r.ys)) := by
  refine Cm.of (args := [_, _]) (F := RItem a' c' ns) Tryz.func79 rfl rfl hM hR fun hs => ?_
  refine sr (p 1 rfl (z ?_))
  refine C.seq ?_
  refine sr (p 2 rfl (z ?_))
  refine C.nay rfl (C.skip ?_)
  -- all may be?
  refine sc (fun ρ w' => ρ 0 = .pointer (some ⟨hb, 0, none⟩) ∧ ρ 1 = .slice a' ns.length c' ∧ (∀ x ∈ ns, x.ok) ∧ ∃ J, St (fpD (hpM hb most a c xs)) I w J (hpM hb most a c xs) (RItem a' c' ns) w') ?_ ?_
  · refine sr (p 3 rfl (z ?_))
    refine C.block ?_ -- BLOCK 0
    refine C.loop (fun n ρ w' => ∃ (i : Nat) (J : Nat → Prop), n = ns.length - i ∧ i ≤ ns.length ∧ (∀ x ∈ ns.take i, x.ok) ∧ ρ 0 = .pointer (some ⟨hb, 0, none⟩) ∧ ρ 1 = .slice a' ns.length c' ∧ ρ 11 = .slice a' ns.length c' ∧ ρ 12 = .int .i64 ns.length ∧ ρ 13 = .int .i64 i ∧ St (fpD (hpM hb most a c xs)) I w J (hpM hb most a c xs) (RItem a' c' ns) w') _ ⟨0, _, rfl, by omega, by simp, rfl, rfl, rfl, rfl, rfl, hs⟩ ?_
    rintro n ρ w1 ⟨i, J, hn, hi, hok, h0, h1, h11, h12, h13, hs⟩
    refine C.nm 0 h0 (C.nm 1 h1 (C.nm 11 h11 (C.nm 12 h12 (C.nm 13 h13 ?_))))
    refine sr (p 1 rfl (z ?_))
    refine C.seq ?_
    refine C.cond_dec rfl (fun h2 => ?_) fun h2 => ?_ -- t14
    · have hx := List.getElem?_eq_getElem (show i < ns.length by omega)
      generalize ns[i] = x at hx
      refine C.skip ?_
      refine C.seq ?_
      refine C.block ?_ -- BLOCK 1
      refine sr (ixn i rfl hs.f (by simp) (map_get hx) fun b off hat => la rfl hat rfl (ais hs rfl (fun _ => rfl) rfl fun b6 J w hs => z ?_))
      refine sr (ln x.c rfl hs.im rfl rfl (c0 rfl hs (acc_ItemMay x) fun w hs => p 1 rfl (z ?_)))
      refine C.cond rfl (fun h3 => ?_) fun h3 => ?_ -- t19
      · have h3 : ¬ x.ok := by simpa using h3
        refine sr (p 1 rfl (z ?_))
        refine C.ret ?_
        exact m1 rfl rfl ⟨1500, xs, a, c⟩ hs rfl ⟨by simp only [pushE]; rw [if_pos ⟨x, List.mem_of_getElem? hx, h3⟩], fun _ => ⟨rfl, rfl, rfl⟩, fun h => by simp at h⟩
      · have h3 : x.ok := by simpa using h3
        refine C.skip ?_
        refine C.reg (Bo.a rfl (by omega) (p 1 rfl (z ?_)))
        refine ⟨_, ?_, i + 1, _, rfl, by omega, ?_, rfl, rfl, rfl, rfl, rfl, hs.to fun h => h.2⟩
        · omega
        · intro y hy
          rw [List.take_add_one, hx] at hy
          rcases List.mem_append.1 hy with hy | hy
          · exact hok y hy
          · simp at hy; rw [hy]; exact h3
    · refine C.exit ⟨rfl, rfl, ?_, _, hs⟩
      rwa [List.take_of_length_le (by omega)] at hok
  rintro ρ w1 ⟨h0, h1, hok, J, hs⟩
  refine C.nm 0 h0 (C.nm 1 h1 ?_)
  have hno : ¬ ∃ x ∈ ns, ¬ x.ok := fun ⟨x, hx, h⟩ => h (hok x hx)
  refine C.seq ?_
  refine C.seq ?_
  refine dro N0 13 [0, 1, 2, 3, 4, 5, 6, 7, 8, 9, 10, 11, 12] hs fun w2 hs => dp 3 rfl (dl rfl (hs.bk 0 rfl) rfl (dp 3 rfl (da rfl (by omega) (dp 3 rfl (dl rfl (hs.bk 0 rfl) rfl (dp 1 rfl (dz (z ?_))))))))
  refine C.cond_dec rfl (fun h4 => ?_) fun h4 => ?_ -- t33
  · refine sr (p 1 rfl (z ?_))
    refine C.ret ?_
    exact m1 rfl rfl ⟨1501, xs, a, c⟩ hs rfl ⟨by simp only [pushE]; rw [if_neg hno, if_pos (by omega)], fun _ => ⟨rfl, rfl, rfl⟩, fun h => by simp at h⟩
  refine C.skip ?_
  refine C.seq ?_
  refine sr (p 3 rfl (z ?_))
  refine C.block ?_ -- BLOCK 2
  refine C.loop (fun n ρ w' => ∃ (i : Nat) (ys : List Item) (a1 : Option Addr) (c1 : Nat) (J : Nat → Prop), n = ns.length - i ∧ i ≤ ns.length ∧ ys.Perm (xs ++ ns.take i) ∧ Hp ys ∧ ρ 0 = .pointer (some ⟨hb, 0, none⟩) ∧ ρ 34 = .slice a' ns.length c' ∧ ρ 35 = .int .i64 ns.length ∧ ρ 36 = .int .i64 i ∧ St (fpD (hpM hb most a c xs)) I w J (hpM hb most a1 c1 ys) (RItem a' c' ns) w') _ ⟨0, xs, a, c, J, rfl, by omega, by simp, hA, rfl, rfl, rfl, rfl, hs⟩ ?_
  rintro n ρ w1 ⟨i, ys, a2, c2, J, hn, hi, hp, hA, h0, h34, h35, h36, hs⟩
  refine C.nm 0 h0 (C.nm 34 h34 (C.nm 35 h35 (C.nm 36 h36 ?_)))
  have hyl : ys.length = xs.length + i := by rw [hp.length_eq]; simp; omega
  refine sr (p 1 rfl (z ?_))
  refine C.seq ?_
  refine C.cond_dec rfl (fun h5 => ?_) fun h5 => ?_ -- t37
  · have hx := List.getElem?_eq_getElem (show i < ns.length by omega)
    generalize ns[i] = x at hx
    refine C.skip ?_
    refine C.seq ?_
    refine C.block ?_ -- BLOCK 3
    refine sr (ixn i rfl hs.f (by simp) (map_get hx) fun b off hat => la rfl hat rfl (ais hs rfl (fun _ => rfl) rfl fun b8 J w2 hs => z ?_))
    have hE : (Rs.own a2 c2 82 4 (ys.map Item.c)).fp ≠ some hb := (List.pairwise_cons.1 hs.d).1 _ (List.mem_cons_self ..) hb rfl
    refine C.seq ?_
    refine dro (fun b => (Rs.own a2 c2 82 4 (ys.map Item.c)).fp = some b) 8 [0, 1, 2, 3, 4, 5, 506, 507] hs fun w3 hs => ?_
    refine dp 4 rfl (dl rfl (hs.bk 0 rfl) rfl (he := hE) (dln x.c rfl hs.im rfl rfl (he := hs.nJ 1 rfl hs.f.1.1) ?_))
    refine dbs ([x].map Item.c) hs rfl fun a3 w hs => ?_
    refine dap 1 hs rfl rfl (by simp) hs.f.1 rfl (Item.one [x]) (by show (_ + _) * 32 ≤ _; simp; omega) (by simp; omega) (fun b h => h) fun a4 c4 J4 w hs => dz ?_
    have e1 : ys.map Item.c ++ [x].map Item.c = (ys ++ [x]).map Item.c := by simp
    rw [e1] at hs ⊢
    have e2 : ((ys ++ [x]).map Item.c).length = (ys ++ [x]).length := by simp
    rw [e2]
    refine p 2 rfl (sbx 0 [.int .i64 most, .slice a4 (ys ++ [x]).length c4] hs rfl rfl rfl rfl fun J5 w hs => z ?_)
    have hlen : (ys ++ [x]).length = ys.length + 1 := by simp
    refine C.reg (p 4 rfl (l rfl (hs.bk 0 rfl) rfl (p 1 rfl (an (ys.length : Nat) rfl (by simp) (by omega) ?_))))
    refine cm rfl hs (heap_up ys.length (by simp) (by rw [hlen]; omega) hs.ms (AUp.push hA)) rfl fun zs J6 w hs => z ?_
    refine C.reg (Bo.a rfl (by omega) (p 1 rfl (z ?_)))
    refine ⟨_, ?_, i + 1, zs, a4, c4, J6, rfl, by omega, ?_, hs.f.1.2, rfl, rfl, rfl, rfl, hs.to fun h => h.2.2.2⟩
    · omega
    · refine hs.f.1.1.trans ?_
      rw [List.take_add_one, hx, ← List.append_assoc]
      exact hp.append_right _
  · refine C.exit ?_ -- EXIT 2
    refine sr (p 1 rfl (z ?_))
    refine C.ret ?_
    exact m1 rfl rfl ⟨0, ys, a2, c2⟩ hs rfl ⟨by simp only [pushE]; rw [if_neg hno, if_neg (by omega)], fun h => absurd rfl h, fun _ => ⟨by rwa [List.take_of_length_le (by omega)] at hp, hA⟩⟩
/-- The least one. -/
theorem heap_Peek {I : Nat → Prop} {w : World} {hb c : Nat} {most : Int} {a : Option Addr} {xs : List Item} {x : Item} (hI : Im hb 157 [.int .i64 most, .slice a xs.length c] I w) (hR : RItem a c xs I w) (hx : xs[0]? = some x) :
    Ct Tryz.prog 120 #[.pointer (some ⟨hb, 0, none⟩)] I w (fun _ : Unit => .tuple #[.agg x.c.toArray, .int .i64 0]) (fun _ _ _ => True) := by
  have hlt := (List.getElem?_eq_some_iff.1 hx).1
  refine Ct.of (args := [_]) (F := fun J w => Im hb 157 [.int .i64 most, .slice a xs.length c] J w ∧ RItem a c xs J w) Tryz.func120 rfl rfl ⟨hI, hR⟩ fun hs => ?_
  refine sr (am hs rfl fun b2 w hs => p 1 rfl (z ?_))
  refine C.seq ?_
  refine C.block ?_ -- BLOCK 0
  refine sr (p 3 rfl (z ?_))
  refine C.nay rfl ?_
  refine sr (p 3 rfl (l rfl hs.f.1.2 rfl (p 1 rfl (p 2 rfl (z ?_)))))
  refine C.cond_dec rfl (fun h2 => by omega) fun h2 => C.skip ?_ -- t8
  refine sr (p 3 rfl (l rfl hs.f.1.2 rfl (ixn 0 rfl hs.f.2 (by simp) (map_get hx) fun b off hat => la rfl hat rfl (sbx 0 x.c hs rfl rfl rfl rfl fun J w hs => p 1 rfl (z ?_)))))
  refine C.ret ?_
  exact f2 rfl rfl rfl hs (hs.bk 0 rfl) rfl rfl rfl () rfl trivial
/-- The least one is taken out. -/
theorem heap_Pop {I : Nat → Prop} {w : World} {hb c : Nat} {most : Int} {a : Option Addr} {xs L : List Item} {m : Item} (hl : xs.length ≤ 8192) (hM : Ms I (hpM hb most a c xs) w) (hA : Hp xs) (hp : xs.Perm (m :: L)) (hL : SoI (m :: L)) :
    Cm Tryz.prog 81 #[.pointer (some ⟨hb, 0, none⟩)] I w (hpM hb most a c xs) (fun _ : List Item => .tuple #[.agg m.c.toArray, .int .i64 0]) (fun ys => hpM hb most a c ys)
      (fun ys _ _ => ys.Perm L ∧ Hp ys) := by
  have hlen := hp.length_eq
  simp only [List.length_cons] at hlen
  have hx := List.getElem?_eq_getElem (show 0 < xs.length by omega)
  obtain ⟨r, hr⟩ := hA.head hp hL hx
  injection hr with hr1 hr2
  rw [← hr1] at hx
  have hz := List.getElem?_eq_getElem (show L.length < xs.length by omega)
  generalize xs[L.length] = zl at hz
  refine Cm.of (args := [_]) (F := fun _ _ => True) Tryz.func81 rfl rfl hM trivial fun hs => ?_
  refine sr (am hs rfl fun b2 w hs => p 1 rfl (z ?_))
  refine sr (p 1 rfl (cr rfl hs (heap_Peek ⟨trivial, hs.bk 1 rfl⟩ (hs.orc 2 rfl) hx) fun w hs => p 3 rfl ?_))
  refine ais hs rfl (fun _ => rfl) rfl fun b4 J w hs => p 1 rfl (z ?_)
  refine C.seq ?_
  refine sr (p 2 rfl (z ?_))
  refine C.nay rfl (C.skip ?_)
  refine sr (p 3 rfl (l rfl (hs.bk 1 rfl) rfl (p 1 rfl (an (L.length : Nat) rfl (by rw [hlen]; simp) (by omega) (p 1 rfl (z ?_))))))
  refine C.seq ?_
  refine dro N0 11 [0, 1, 2, 3, 4, 5, 6, 7, 8, 9, 10] hs fun w hs => dp 3 rfl (dl rfl (hs.bk 1 rfl) rfl (dp 3 rfl (dl rfl (hs.bk 1 rfl) rfl (dp 1 rfl ?_))))
  refine dixo 2 L.length hs rfl rfl (by simp; omega) (by simp) fun g hg => ?_
  subst hg
  refine dlon 2 L.length hs rfl rfl (map_get hz) rfl rfl (dz ?_)
  refine ixo 2 0 hs rfl rfl (by simp; omega) (by simp) fun g hg => ?_
  cases hg
  refine sox 2 0 0 zl.c ((xs.set 0 zl).map Item.c) hs rfl rfl (map_get hx) rfl rfl rfl (map_set ..) fun J w hs => z ?_
  have e1 : ((xs.set 0 zl).map Item.c).take L.length = ((xs.set 0 zl).take L.length).map Item.c := by rw [List.map_take]
  refine sr (p 4 rfl (l rfl (hs.bk 1 rfl) rfl (p 1 rfl (slo 2 L.length hs rfl rfl (by simp) rfl (by simp; omega) (by simp) fun w hs => ?_))))
  have e2 : ((xs.set 0 zl).take L.length).length = L.length := by simp; omega
  rw [e1] at hs
  refine p 2 rfl (sbx 1 [.int .i64 most, .slice (some ⟨g, 0, none⟩) L.length c] hs rfl rfl rfl rfl fun J w hs => z ?_)
  have hADn : ADn ((xs.set 0 zl).take L.length) 0 := by
    have := ADn.pop (z := zl) hA (by omega)
    rwa [show xs.length - 1 = L.length from by omega] at this
  have hs2 := hs.perm (M' := hpM hb most (some ⟨g, 0, none⟩) c ((xs.set 0 zl).take L.length) ++ [.blk b2 82 (Item.c ⟨0, 0, 0, 0⟩)]) (by
    unfold hpM; rw [e2]
    exact (List.Perm.swap ..).trans ((List.Perm.swap ..).cons _) |>.symm)
  refine sr (p 1 rfl (cm rfl hs2 (heap_down 0 (.inr rfl) (by omega) hs2.ms.l hADn) rfl fun ys J w hs => z ?_))
  refine sr (ln m.c rfl hs.f.2.1.2 rfl rfl (sbx 2 m.c hs rfl rfl rfl rfl fun J w hs => p 1 rfl (z ?_)))
  refine C.ret ?_
  refine n2 rfl rfl rfl ys (St.l (A := hpM hb most (some ⟨g, 0, none⟩) c ys) hs) (hs.bk 2 rfl) rfl rfl rfl rfl ⟨hs.f.1.1.trans ?_, hs.f.1.2⟩
  have h1 : (xs.set 0 zl).Perm (zl :: L) := ((set_perm hx).trans ((hp.cons zl).trans (.swap ..))).cons_inv
  have h2 : (xs.set 0 zl)[L.length]? = some zl := by
    rw [List.getElem?_set]
    split
    · rw [if_pos (by omega)]
    · exact hz
  have h3 : xs.set 0 zl = (xs.set 0 zl).take L.length ++ [zl] := by
    have hl2 : L.length < (xs.set 0 zl).length := by simp; omega
    have := List.take_append_drop L.length (xs.set 0 zl)
    rw [List.drop_eq_getElem_cons hl2, (List.getElem?_eq_some_iff.1 h2).2, List.drop_of_length_le (by simp; omega)] at this
    exact this.symm
  rw [h3] at h1
  exact ((List.perm_append_comm (l₁ := [zl])).trans h1).cons_inv
end Bo
namespace Bo
open Go Go.Proofs Go.RowKit
abbrev bs8 (l : List UInt8) : ByteArray := ⟨l.toArray⟩
theorem decDigits_length (k : Nat) (u : Nat) (hk : 1 ≤ k) (h : u < 10 ^ k) : (Lib.decDigits u).length ≤ k := by
  induction k generalizing u with
  | zero => omega
  | succ k ih =>
    unfold Lib.decDigits
    split
    · simp
    · rename_i hu
      have hk1 : 1 ≤ k := by
        rcases Nat.eq_zero_or_pos k with rfl | h'
        · simp at h; omega
        · exact h'
      have := ih (u / 10) hk1 (by rw [Nat.pow_succ] at h; omega)
      simp; omega
theorem itoa_length (n : Int) (hn : I64 n) : (Lib.itoa n).length ≤ 20 := by
  unfold Lib.itoa
  split
  · have := decDigits_length 19 n.natAbs (by omega) (by omega)
    simp; omega
  · have := decDigits_length 19 n.toNat (by omega) (by omega)
    omega
/-- Numbers with blanks between. -/
def toldS (xs : List Int) : List UInt8 := Lib.join (xs.map Lib.itoa) [32]
theorem flat_bd {l : List (List UInt8)} {k : Nat} (h : ∀ x ∈ l, x.length ≤ k) : l.flatten.length ≤ l.length * k := by
  induction l with
  | nil => simp
  | cons x l ih =>
    have h1 := h x (List.mem_cons_self ..)
    have h2 := ih fun y hy => h y (List.mem_cons_of_mem _ hy)
    simp only [List.flatten_cons, List.length_append, List.length_cons, Nat.succ_mul]
    omega
theorem join_bd {l : List (List UInt8)} {sep : List UInt8} {k : Nat} (h : ∀ x ∈ l, x.length ≤ k) : (Lib.join l sep).length ≤ l.length * (k + sep.length) := by
  cases l with
  | nil => simp [Lib.join_nil]
  | cons x r =>
    rw [Lib.join_cons]
    have h1 := h x (List.mem_cons_self ..)
    have h2 : (Lib.joinTail sep r).length ≤ r.length * (k + sep.length) := by
      unfold Lib.joinTail
      have := flat_bd (l := r.map (sep ++ ·)) (k := k + sep.length) (by
        intro y hy
        obtain ⟨z, hz, rfl⟩ := List.mem_map.1 hy
        have := h z (List.mem_cons_of_mem _ hz)
        simp; omega)
      simpa using this
    simp only [List.length_append, List.length_cons, Nat.succ_mul]
    omega
theorem tc_one (xs : List ByteArray) : ∀ cs ∈ xs.map tc, ∀ v ∈ cs, v.oneCell' = true := by
  intro cs hcs v hv
  obtain ⟨x, _, rfl⟩ := List.mem_map.1 hcs
  simp only [tc, List.mem_cons, List.not_mem_nil, or_false] at hv
  subst hv; rfl
theorem ic_one (xs : List Int) : ∀ cs ∈ xs.map ic, ∀ v ∈ cs, v.oneCell' = true := by
  intro cs hcs v hv
  obtain ⟨x, _, rfl⟩ := List.mem_map.1 hcs
  simp only [ic, List.mem_cons, List.not_mem_nil, or_false] at hv
  subst hv; rfl
theorem console_told {I : Nat → Prop} {w : World} {a : Option Addr} {c : Nat} (xs : List Int) (hR : RI a c xs I w) (hG : Gl I w) (hx : ∀ x ∈ xs, I64 x) (hl : xs.length ≤ 1000000) :
    Ct Tryz.prog 74 #[.slice a xs.length c] I w (fun _ : Unit => .string (bs8 (toldS xs))) (fun _ _ _ => True) := by
  refine Ct.of (args := [_]) (F := fun J w => RI a c xs J w ∧ Gl J w) Tryz.func74 rfl rfl ⟨hR, hG⟩ fun hs => ?_
  refine sr (p 1 rfl (z ?_))
  refine sr (p 1 rfl (z ?_))
  refine C.seq ?_
  refine sr (p 3 rfl (z ?_))
  refine C.block ?_ -- BLOCK 0
  refine C.loop (fun n ρ w' => ∃ (i : Nat) (a1 : Option Addr) (c1 : Nat) (J : Nat → Prop), n = xs.length - i ∧ i ≤ xs.length ∧ ρ 3 = .slice a1 i c1 ∧ ρ 6 = .slice a xs.length c ∧ ρ 7 = .int .i64 xs.length ∧ ρ 8 = .int .i64 i ∧ St N0 I w J [.own a1 c1 9 1 (((xs.take i).map fun x => bs8 (Lib.itoa x)).map tc)] (fun J w => RI a c xs J w ∧ Gl J w) w') _ ⟨0, none, 0, _, rfl, by omega, rfl, rfl, rfl, rfl, hs.own 9 1⟩ ?_
  rintro n ρ w1 ⟨i, a1, c1, J, hn, hi, h3, h6, h7, h8, hs⟩
  refine C.nm 3 h3 (C.nm 6 h6 (C.nm 7 h7 (C.nm 8 h8 ?_)))
  refine sr (p 1 rfl (z ?_))
  refine C.seq ?_
  refine C.cond_dec rfl (fun h1 => ?_) fun h1 => ?_ -- t9
  · have hxi := List.getElem?_eq_getElem (show i < xs.length by omega)
    have hxm := hx _ (List.getElem_mem (show i < xs.length by omega))
    generalize xs[i] = x at hxi hxm
    refine C.skip ?_
    refine C.seq ?_
    refine C.block ?_ -- BLOCK 1
    refine sr (ixn i rfl hs.f.1 (by simp) (map_get hxi) fun b off hat => l1 0 rfl hat rfl rfl (p 1 rfl (z ?_)))
    refine C.reg (p 2 rfl (c0 rfl hs (lib_Itoa x hxm hs.f.2) fun w2 hs => ?_))
    refine bs ([bs8 (Lib.itoa x)].map tc) hs rfl fun a2 w2 hs => ?_
    have e1 : ((xs.take i).map fun x => bs8 (Lib.itoa x)).map tc ++ [bs8 (Lib.itoa x)].map tc = ((xs.take (i + 1)).map fun x => bs8 (Lib.itoa x)).map tc := by
      rw [List.take_add_one, hxi]; simp
    have e2 : (((xs.take (i + 1)).map fun x => bs8 (Lib.itoa x)).map tc).length = i + 1 := by simp; omega
    refine ap 0 hs rfl rfl (by simp; omega) hs.f.1 rfl (tc_one [bs8 (Lib.itoa x)]) (by show (_ + _) * 16 ≤ _; simp; omega) (by simp; omega) fun a3 c3 J3 w2 hs => ?_
    rw [e1] at hs ⊢
    rw [e2]
    refine p 1 rfl (z ?_)
    refine C.reg (Bo.a rfl (by omega) (p 1 rfl (z ?_)))
    exact ⟨_, by omega, i + 1, a3, c3, J3, rfl, by omega, rfl, rfl, rfl, rfl, hs.to fun h => h.2⟩
  · refine C.exit ?_ -- EXIT 0
    have : i = xs.length := by omega
    subst this
    rw [List.take_length] at hs
    obtain ⟨J2, hs⟩ := hs.done
    have hl2 : (xs.map fun x => bs8 (Lib.itoa x)).length = xs.length := by simp
    have e : (xs.map fun x => bs8 (Lib.itoa x)).map (·.data.toList) = xs.map Lib.itoa := by simp
    have hj := join_bd (l := xs.map Lib.itoa) (sep := [32]) (k := 20) (by intro y hy; obtain ⟨z, hz, rfl⟩ := List.mem_map.1 hy; exact itoa_length z (hx z hz))
    simp only [List.length_map, List.length_singleton] at hj
    have hJ := lib_Join (w := w1) (xs.map fun x => bs8 (Lib.itoa x)) (bs8 [32]) hs.f.1 (by simp; omega) (by rw [e]; show (Lib.join _ [32]).length ≤ _; omega)
    rw [hl2, e] at hJ
    refine sr (p 1 rfl (c0 rfl hs hJ fun w3 hs => p 1 rfl (z ?_)))
    refine C.ret ?_
    exact e1 rfl rfl hs () rfl trivial
end Bo
namespace Bo
open Go Go.Proofs Go.RowKit
def itemsOf (xs : List Int) : List Item := xs.zipIdx.map fun x => ⟨0, x.1, (x.2 : Int) + 1, 0⟩
theorem itemsOf_length (xs : List Int) : (itemsOf xs).length = xs.length := by simp [itemsOf]
theorem itemsOf_take (xs : List Int) (i : Nat) (x : Int) (h : xs[i]? = some x) : itemsOf (xs.take (i + 1)) = itemsOf (xs.take i) ++ [⟨0, x, (i : Int) + 1, 0⟩] := by
  have hl : i < xs.length := (List.getElem?_eq_some_iff.1 h).1
  rw [List.take_add_one, h]
  unfold itemsOf
  simp [List.zipIdx_append]
  omega
theorem console_items {I : Nat → Prop} {w : World} {a : Option Addr} {c : Nat} (xs : List Int) (hR : RI a c xs I w) (hl : xs.length ≤ 1000000) :
    Ct Tryz.prog 77 #[.slice a xs.length c] I w (fun r : Option Addr × Nat => .slice r.1 xs.length r.2) (fun r => RItem r.1 r.2 (itemsOf xs)) := by
  refine Ct.of (args := [_]) (F := RI a c xs) Tryz.func77 rfl rfl hR fun hs => ?_
  refine sr (p 1 rfl (z ?_))
  refine sr (p 1 rfl (z ?_))
  refine C.seq ?_
  refine sr (p 3 rfl (z ?_))
  refine C.block ?_ -- BLOCK 0
  refine C.loop (fun n ρ w' => ∃ (i : Nat) (a1 : Option Addr) (c1 : Nat) (J : Nat → Prop), n = xs.length - i ∧ i ≤ xs.length ∧ ρ 3 = .slice a1 i c1 ∧ ρ 6 = .slice a xs.length c ∧ ρ 7 = .int .i64 xs.length ∧ ρ 8 = .int .i64 i ∧ St N0 I w J [.own a1 c1 82 4 ((itemsOf (xs.take i)).map Item.c)] (RI a c xs) w') _ ⟨0, none, 0, _, rfl, by omega, rfl, rfl, rfl, rfl, hs.own 82 4⟩ ?_
  rintro n ρ w1 ⟨i, a1, c1, J, hn, hi, h3, h6, h7, h8, hs⟩
  refine C.nm 3 h3 (C.nm 6 h6 (C.nm 7 h7 (C.nm 8 h8 ?_)))
  refine sr (p 1 rfl (z ?_))
  refine C.seq ?_
  refine C.cond_dec rfl (fun h1 => ?_) fun h1 => ?_ -- t9
  · have hxi := List.getElem?_eq_getElem (show i < xs.length by omega)
    generalize xs[i] = x at hxi
    refine C.skip ?_
    refine C.seq ?_
    refine C.block ?_ -- BLOCK 1
    refine sr (p 1 rfl (ixn i rfl hs.f (by simp) (map_get hxi) fun b off hat => l1 0 rfl hat rfl rfl (p 2 rfl (z ?_))))
    refine C.reg (p 3 rfl (Bo.a rfl (by omega) (bd (Item.c ⟨0, x, (i : Int) + 1, 0⟩) rfl ?_)))
    refine bs ([(⟨0, x, (i : Int) + 1, 0⟩ : Item)].map Item.c) hs rfl fun a2 w2 hs => ?_
    have e1 : (itemsOf (xs.take i)).map Item.c ++ [(⟨0, x, (i : Int) + 1, 0⟩ : Item)].map Item.c = (itemsOf (xs.take (i + 1))).map Item.c := by
      rw [itemsOf_take xs i x hxi]; simp
    have e2 : ((itemsOf (xs.take (i + 1))).map Item.c).length = i + 1 := by simp [itemsOf_length]; omega
    refine ap 0 hs rfl rfl (by simp [itemsOf_length]; omega) hs.f.1 rfl (Item.one [_]) (by show (_ + _) * 32 ≤ _; simp [itemsOf_length]; omega) (by simp [itemsOf_length]; omega) fun a3 c3 J3 w2 hs => ?_
    rw [e1] at hs ⊢
    rw [e2]
    refine p 1 rfl (z ?_)
    refine C.reg (Bo.a rfl (by omega) (p 1 rfl (z ?_)))
    exact ⟨_, by omega, i + 1, a3, c3, J3, rfl, by omega, rfl, rfl, rfl, rfl, hs.to fun h => h.2⟩
  · refine C.exit ?_ -- EXIT 0
    have : i = xs.length := by omega
    subst this
    rw [List.take_length] at hs
    obtain ⟨J2, hs⟩ := hs.done
    refine sr (p 2 rfl (z ?_))
    refine C.ret ?_
    exact Bo.e1 rfl rfl hs (a1, c1) rfl hs.f.1
theorem srtI_foldl (xs : List Item) : ∀ l, SoI l → (List.foldl (fun l x => insI x l) l xs).Perm (xs ++ l) ∧ SoI (List.foldl (fun l x => insI x l) l xs) := by
  induction xs with
  | nil => intro l h; exact ⟨.refl _, h⟩
  | cons x xs ih =>
    intro l h
    obtain ⟨h1, h2⟩ := ih (insI x l) (insI_so h)
    refine ⟨h1.trans (((insI_perm x l).append_left xs).trans ?_), h2⟩
    exact List.perm_middle
theorem srtI_perm (xs : List Item) : (srtI xs).Perm xs := by have := (srtI_foldl xs [] .nil).1; rw [List.append_nil] at this; exact this
theorem srtI_so (xs : List Item) : SoI (srtI xs) := (srtI_foldl xs [] .nil).2
/-- What 'sort' tells. -/
def sortedN (xs : List Int) : List Int := (srtI (itemsOf xs)).map Item.time
theorem console_sorted {I : Nat → Prop} {w : World} {a : Option Addr} {c : Nat} (xs : List Int) (hR : RI a c xs I w) (hG : Gl I w) (hx : ∀ x ∈ xs, -1000000 ≤ x ∧ x ≤ 1000000) (hl : xs.length ≤ 1000000) :
    Ct Tryz.prog 54 #[.slice a xs.length c] I w (fun _ : Unit => .tuple #[.string (bs8 (if 8192 < xs.length then [] else toldS (sortedN xs))), .int .i64 (if 8192 < xs.length then 1501 else 0)]) (fun _ _ _ => True) := by
  have hok : ¬ ∃ x ∈ itemsOf xs, ¬ x.ok := by
    rintro ⟨y, hy, hn⟩
    obtain ⟨⟨t, i⟩, hti, rfl⟩ := List.mem_map.1 hy
    have h1 := List.mem_zipIdx hti
    have h2 := hx t (by rw [h1.2.2]; exact List.getElem_mem _)
    refine hn ?_
    unfold Item.ok
    simp only
    omega
  refine Ct.of (args := [_]) (F := fun J w => RI a c xs J w ∧ Gl J w) Tryz.func54 rfl rfl ⟨hR, hG⟩ fun hs => ?_
  refine sr (p 2 rfl (z ?_))
  refine sr (cm rfl hs (heap_New 8192 (by omega)) rfl fun hb J w1 hs => p 5 rfl (z ?_))
  refine C.seq ?_
  refine sr (p 2 rfl (Bo.c rfl hs (console_items xs hs.f.2.1 hl) fun r w1 hs => ?_))
  have hP := heap_Push (w := w1) (hb := hb) (most := 8192) [] (itemsOf xs) (by simp) (by omega) (by rw [itemsOf_length]; omega) hs.ms.l (by intro i a b h0 ha hb; simp at hb) hs.f.1
  rw [itemsOf_length] at hP
  refine cm rfl hs hP rfl fun r2 J w1 hs => p 1 rfl (z ?_)
  obtain ⟨⟨he, h0, h1⟩, hs⟩ : (r2.e = pushE 8192 0 (itemsOf xs) ∧ (r2.e ≠ 0 → r2.ys = [] ∧ r2.a = none ∧ r2.c = 0) ∧ (r2.e = 0 → r2.ys.Perm ([] ++ itemsOf xs) ∧ Hp r2.ys)) ∧ St N0 I w J (hpM hb 8192 r2.a r2.c r2.ys) (fun J w => RI a c xs J w ∧ Gl J w) w1 := ⟨hs.f.1, by simpa using hs.to fun h => h.2.2.2⟩
  simp only [pushE, if_neg hok, itemsOf_length] at he
  refine sr (p 2 rfl (z ?_))
  refine C.cond_dec rfl (fun h4 => ?_) fun h4 => ?_ -- t19
  · have h5 : 8192 < xs.length := by
      by_cases h : 8192 < xs.length
      · exact h
      · rw [if_neg (by omega)] at he; exact absurd he h4
    rw [if_pos (by omega)] at he
    refine sr (p 3 rfl (z ?_))
    refine C.ret ?_
    refine e2 rfl rfl rfl hs () ?_ trivial
    simp [h5, he]
  have h6 : r2.e = 0 := by omega
  have h5 : ¬ 8192 < xs.length := by
    intro h
    rw [if_pos (by omega)] at he; omega
  obtain ⟨hp, hA⟩ := h1 h6
  rw [List.nil_append] at hp
  obtain ⟨L, hLd⟩ : ∃ L, L = srtI (itemsOf xs) := ⟨_, rfl⟩
  have hL : r2.ys.Perm L := hp.trans (hLd ▸ (srtI_perm _).symm)
  have hSo : SoI L := hLd ▸ srtI_so _
  have hLl : L.length = xs.length := by rw [← hL.length_eq, hp.length_eq, itemsOf_length]
  refine C.skip ?_
  refine sr (p 1 rfl (z ?_))
  refine C.seq ?_
  refine C.block ?_ -- BLOCK 0
  refine C.loop (fun n ρ w' => ∃ (k : Nat) (ys : List Item) (a1 a2 : Option Addr) (c1 c2 : Nat) (J : Nat → Prop), n = L.length - k ∧ k ≤ L.length ∧ ys.Perm (L.drop k) ∧ Hp ys ∧ ρ 4 = .pointer (some ⟨hb, 0, none⟩) ∧ ρ 7 = .slice a2 k c2 ∧ St N0 I w J (hpM hb 8192 a1 c1 ys ++ [.own a2 c2 3 1 (((L.take k).map Item.time).map ic)]) (fun J w => RI a c xs J w ∧ Gl J w) w') _
    ⟨0, r2.ys, r2.a, none, r2.c, 0, J, rfl, by omega, by simpa using hL, hA, rfl, rfl, (hs.own 3 1).perm (List.perm_append_comm (l₁ := hpM hb 8192 r2.a r2.c r2.ys) (l₂ := [_]))⟩ ?_
  rintro n ρ w1 ⟨k, ys, a1, a2, c1, c2, J, hn, hk, hyp, hyA, h4, h7, hs⟩
  have hyl : ys.length = L.length - k := by rw [hyp.length_eq]; simp
  refine C.nm 4 h4 (C.nm 7 h7 ?_)
  refine C.seq ?_
  refine sr (p 1 rfl (cr rfl hs (heap_Len ⟨trivial, hs.bk 0 rfl⟩) fun w2 hs => p 1 rfl (z ?_)))
  refine C.cond_dec rfl (fun h8 => ?_) fun h8 => ?_ -- t23
  · have hmk := List.getElem?_eq_getElem (show k < L.length by omega)
    have hdk := List.drop_eq_getElem_cons (show k < L.length by omega)
    generalize L[k] = m at hmk hdk
    rw [hdk] at hyp
    have hSk : SoI (m :: L.drop (k + 1)) := by rw [← hdk]; exact List.Pairwise.sublist (List.drop_sublist _ _) hSo
    refine C.skip ?_
    refine C.block ?_ -- BLOCK 1
    refine sr (p 1 rfl (cm rfl hs (heap_Pop (by omega) hs.ms.l hyA hyp hSk) rfl fun zs J3 w2 hs => p 3 rfl ?_))
    refine ais hs rfl (fun _ => rfl) rfl fun b8 J4 w2 hs => p 1 rfl (z ?_)
    refine C.reg (p 2 rfl (l rfl hs.im rfl ?_))
    refine bs ([m.time].map ic) hs rfl fun a3 w3 hs => ?_
    have e1 : ((L.take k).map Item.time).map ic ++ [m.time].map ic = ((L.take (k + 1)).map Item.time).map ic := by rw [List.take_add_one, hmk]; simp
    have e2 : (((L.take (k + 1)).map Item.time).map ic).length = k + 1 := by simp; omega
    refine ap 2 hs rfl rfl (by simp; omega) hs.f.1 rfl (ic_one [m.time]) (by show (_ + _) * 8 ≤ _; simp; omega) (by simp; omega) fun a4 c4 J5 w3 hs => ?_
    rw [e1] at hs ⊢
    rw [e2]
    refine p 1 rfl (z ?_)
    refine ⟨_, ?_, k + 1, zs, a1, a4, c1, c4, J5, rfl, by omega, hs.f.2.2.1.1, hs.f.2.2.1.2, rfl, rfl, hs.to fun h => h.2.2.2⟩
    omega
  · have : k = L.length := by omega
    subst this
    refine C.exit ?_ -- EXIT 0
    rw [List.take_length] at hs
    obtain ⟨J3, hs⟩ := (hs.perm (List.perm_append_comm (l₁ := [_]) (l₂ := hpM hb 8192 a1 c1 ys))).done
    have hT := console_told (w := w2) (L.map Item.time) hs.f.1 hs.f.2.2 (fun x hx' => by
      obtain ⟨y, hy, rfl⟩ := List.mem_map.1 hx'
      have hy2 : y ∈ itemsOf xs := (srtI_perm _).mem_iff.1 (hLd ▸ hy)
      have := not_exists.1 hok y
      have hyo : y.ok := Classical.not_not.1 fun h => this ⟨hy2, h⟩
      unfold Item.ok at hyo
      constructor <;> omega) (by simp; omega)
    have e3 : (L.map Item.time).length = L.length := by simp
    rw [e3] at hT
    refine sr (p 1 rfl (c0 rfl hs hT fun w3 hs => p 2 rfl (z ?_)))
    refine C.ret ?_
    refine Bo.e2 rfl rfl rfl hs () ?_ trivial
    rw [if_neg h5, if_neg h5, hLd]; rfl
end Bo
namespace Bo
open Go Go.Proofs Go.RowKit
/-! ### Numbers -/
def isDig (b : UInt8) : Bool := decide (48 ≤ b.toNat ∧ b.toNat ≤ 57)
def digitsOf (l : List UInt8) : List UInt8 := Lib.trimPrefix l [45]
def numOk (l : List UInt8) : Bool := !(digitsOf l).isEmpty && decide ((digitsOf l).length ≤ 6) && (digitsOf l).all isDig
def numS (l : List UInt8) : Option Int := if numOk l then Lib.atoi l else none
abbrev digs : List UInt8 := [48, 49, 50, 51, 52, 53, 54, 55, 56, 57]
theorem dig_contains (b : UInt8) : digs.contains b = isDig b := by
  rw [Bool.eq_iff_iff]
  simp only [isDig, List.contains_cons, List.contains_nil, Bool.or_false, Bool.or_eq_true, beq_iff_eq, ← UInt8.toNat_inj, decide_eq_true_eq]
  simp
  omega
theorem dropWhile_nil {α : Type} (p : α → Bool) (l : List α) : l.dropWhile p = [] ↔ l.all p = true := by
  induction l with
  | nil => simp
  | cons x l ih =>
    simp only [List.dropWhile_cons, List.all_cons, Bool.and_eq_true]
    split
    · rename_i h; rw [ih]; simp [h]
    · rename_i h; simp [h]
theorem trimS_nil (l : List UInt8) : Lib.trimS l digs = [] ↔ l.all isDig = true := by
  unfold Lib.trimS Lib.trimLeftS Lib.trimRightS
  have hp : (fun b => digs.contains b) = isDig := funext dig_contains
  rw [dropWhile_nil]
  simp only [dig_contains]
  rw [List.all_reverse]
  constructor
  · intro h
    have h2 : l.reverse.all isDig = true := by
      have : l.reverse = l.reverse.takeWhile isDig ++ l.reverse.dropWhile isDig := (List.takeWhile_append_dropWhile ..).symm
      rw [this, List.all_append, h, List.all_takeWhile]; rfl
    rwa [List.all_reverse] at h2
  · intro h
    have : l.reverse.dropWhile isDig = [] := by rw [dropWhile_nil, List.all_reverse]; exact h
    rw [this]; rfl
theorem decFrom_dig (d : List UInt8) : ∀ acc, d.all isDig = true → ∃ m, Lib.decFrom acc d = some m ∧ m < (acc + 1) * 10 ^ d.length := by
  induction d with
  | nil => intro acc _; exact ⟨acc, rfl, by simp⟩
  | cons b d ih =>
    intro acc h
    simp only [List.all_cons, Bool.and_eq_true] at h
    have hb : 48 ≤ b.toNat ∧ b.toNat ≤ 57 := of_decide_eq_true h.1
    obtain ⟨m, hm, hlt⟩ := ih (acc * 10 + (b.toNat - 48)) h.2
    refine ⟨m, by simp only [Lib.decFrom, Lib.digitVal, if_pos hb]; exact hm, Nat.lt_of_lt_of_le hlt ?_⟩
    rw [List.length_cons, Nat.pow_succ, Nat.mul_comm (10 ^ d.length) 10, ← Nat.mul_assoc]
    exact Nat.mul_le_mul_right _ (by omega)
theorem decNat_dig (d : List UInt8) (h0 : d ≠ []) (h6 : d.length ≤ 6) (h : d.all isDig = true) : ∃ m, Lib.decNat d = some m ∧ m < 1000000 := by
  obtain ⟨m, hm, hlt⟩ := decFrom_dig d 0 h
  refine ⟨m, by unfold Lib.decNat; rw [if_neg (by simpa using h0)]; exact hm, Nat.lt_of_lt_of_le hlt ?_⟩
  have := Nat.pow_le_pow_right (show 0 < 10 by omega) h6
  omega
theorem numOk_atoi (l : List UInt8) (h : numOk l = true) : ∃ n, Lib.atoi l = some n ∧ -1000000 ≤ n ∧ n ≤ 1000000 ∧ l.length ≤ 7 := by
  simp only [numOk, Bool.and_eq_true, Bool.not_eq_true', decide_eq_true_eq] at h
  obtain ⟨⟨h0, h6⟩, hd⟩ := h
  have h0 : digitsOf l ≠ [] := by intro e; simp [e] at h0
  obtain ⟨m, hm, hlt⟩ := decNat_dig _ h0 h6 hd
  unfold digitsOf Lib.trimPrefix Lib.hasPrefix at h0 h6 hd hm
  cases l with
  | nil => exact absurd rfl h0
  | cons b r =>
    by_cases hb : b = 45
    · subst hb
      simp at h0 h6 hd hm
      refine ⟨-(m : Int), by simp [Lib.atoi, hm], by omega, by omega, by simp; omega⟩
    · have hp : List.isPrefixOf [45] (b :: r) = false := by simp [List.isPrefixOf]; exact fun e => hb e.symm
      rw [hp] at h0 h6 hd hm
      simp only [Bool.false_eq_true, if_false] at h0 h6 hd hm
      have hb43 : b ≠ 43 := by
        rintro rfl
        simp only [List.all_cons, Bool.and_eq_true] at hd
        exact absurd hd.1 (by decide)
      refine ⟨(m : Int), by simp [Lib.atoi, hm, hb, hb43], by omega, by omega, by omega⟩
def ptext (r : Option Int) : Value := .tuple #[.int .i64 (r.getD 0), .bool r.isSome]
theorem console_number {I : Nat → Prop} {w : World} (l : List UInt8) (hl : l.length ≤ 1000000) :
    Ct Tryz.prog 50 #[.string (bs8 l)] I w (fun _ : Unit => ptext (numS l)) (fun _ _ _ => True) := by
  refine Ct.of (args := [_]) (F := fun _ _ => True) Tryz.func50 rfl rfl trivial fun hs => ?_
  refine sr (p 2 rfl (z ?_))
  have hdl : (digitsOf l).length ≤ l.length := by unfold digitsOf Lib.trimPrefix; split <;> simp
  refine sr (p 1 rfl (c0 rfl hs (lib_TrimPrefix (bs8 l) (bs8 [45])) fun w1 hs => p 1 rfl (z ?_)))
  refine C.seq ?_
  refine src (fun ρ w' => ρ 20 = .bool (!numOk l) ∧ ρ 0 = .string (bs8 l) ∧ St N0 I w (up I w.heap.size) [] (fun _ _ => True) w') ?_ ?_
  · refine p 3 rfl (gd 11 rfl (fun h1 => ?_) fun h1 => ?_)
    · have h1 : digitsOf l = [] := by
        have h1' : Lib.trimPrefix l [45] = [] := by simpa [ByteArray.toList_eq] using h1
        exact h1'
      exact p 9 rfl (z ⟨vb rfl (by simp [numOk, h1]), rfl, hs⟩)
    · have h1 : digitsOf l ≠ [] := by
        have h1' : ¬ Lib.trimPrefix l [45] = [] := by simpa [ByteArray.toList_eq] using h1
        exact h1'
      refine p 5 rfl (gd 16 rfl (fun h2 => ?_) fun h2 => ?_)
      · have h2 : ¬ (digitsOf l).length ≤ 6 := by
          have : (6 : Int) < (((digitsOf l).toArray.size : Nat) : Int) := h2
          rw [List.size_toArray] at this; omega
        exact p 4 rfl (z ⟨vb rfl (by simp [numOk, h2]), rfl, hs⟩)
      · have h2 : (digitsOf l).length ≤ 6 := by
          have : ¬ (6 : Int) < (((digitsOf l).toArray.size : Nat) : Int) := h2
          rw [List.size_toArray] at this; omega
        refine p 1 rfl (c0 rfl hs (lib_Trim (bs8 (digitsOf l)) (bs8 digs) (by show (digitsOf l).toArray.size ≤ _; simp; omega) (by decide) (ascii_of_all (by decide))) fun w2 hs => p 2 rfl (z ⟨vb rfl ?_, rfl, hs⟩))
        have e : (Lib.trimS (digitsOf l) digs = []) = ((digitsOf l).all isDig = true) := propext (trimS_nil _)
        simp only [ByteArray.toList_eq, numOk]
        have h1' : (digitsOf l).isEmpty = false := by simpa using h1
        rw [h1', decide_eq_true h2]
        simp only [Bool.not_false, Bool.true_and]
        by_cases hd : (digitsOf l).all isDig = true
        · have := (trimS_nil _).2 hd
          rw [hd]; simp [this]
        · have h3 : Lib.trimS (digitsOf l) digs ≠ [] := fun h => hd ((trimS_nil _).1 h)
          have hd' : (digitsOf l).all isDig = false := by simpa using hd
          rw [hd']; simp [h3]
  rintro ρ w' ⟨h, h0, hs⟩
  refine C.nm 20 h (C.nm 0 h0 ?_)
  refine C.cond rfl (fun h3 => ?_) fun h3 => ?_ -- t20
  · have h3 : numOk l = false := by simpa using h3
    refine sr (p 2 rfl (z ?_))
    refine C.ret ?_
    exact e2 rfl rfl rfl hs () (by simp [ptext, numS, h3]) trivial
  · have h3 : numOk l = true := by simpa using h3
    obtain ⟨n, hn, hb1, hb2, hl7⟩ := numOk_atoi l h3
    refine C.skip ?_
    refine sr (p 1 rfl (c0 rfl hs (lib_Atoi (bs8 l) n (by show l.toArray.size ≤ _; simp; omega) hn) fun w hs => p 5 rfl (z ?_)))
    refine sr (p 3 rfl (z ?_))
    refine C.ret ?_
    exact e2 rfl rfl rfl hs () (by simp [ptext, numS, h3, hn]) trivial
end Bo
namespace Bo
open Go Go.Proofs Go.RowKit
def numsOk (ws : List (List UInt8)) : Bool := ws.all fun w => (numS w).isSome
def numsL (ws : List (List UInt8)) : List Int := if numsOk ws then ws.filterMap numS else []
theorem numS_bd {l : List UInt8} {n : Int} (h : numS l = some n) : -1000000 ≤ n ∧ n ≤ 1000000 := by
  unfold numS at h
  split at h
  · rename_i ho
    obtain ⟨m, hm, h1, h2, _⟩ := numOk_atoi l ho
    rw [hm] at h; cases h; exact ⟨h1, h2⟩
  · cases h
theorem numsL_bd {ws : List (List UInt8)} : ∀ x ∈ numsL ws, -1000000 ≤ x ∧ x ≤ 1000000 := by
  intro x hx
  unfold numsL at hx
  split at hx
  · obtain ⟨w, _, hw⟩ := List.mem_filterMap.1 hx
    exact numS_bd hw
  · cases hx
theorem numsL_len (ws : List (List UInt8)) : (numsL ws).length ≤ ws.length := by
  unfold numsL
  split
  · exact List.length_filterMap_le ..
  · simp
theorem console_numbers {I : Nat → Prop} {w : World} {a : Option Addr} {c : Nat} (ws : List (List UInt8)) (hR : RT a c (ws.map bs8) I w) (hl : ws.length ≤ 1000000) (hw : ∀ x ∈ ws, x.length ≤ 1000000) :
    Ct Tryz.prog 35 #[.slice a ws.length c] I w (fun r : Option Addr × Nat => .tuple #[.slice r.1 (numsL ws).length r.2, .bool (numsOk ws)]) (fun r => RI r.1 r.2 (numsL ws)) := by
  refine Ct.of (args := [_]) (F := RT a c (ws.map bs8)) Tryz.func35 rfl rfl hR fun hs => ?_
  refine sr (p 2 rfl (z ?_))
  refine sr (p 1 rfl (z ?_))
  refine C.seq ?_
  refine sr (p 3 rfl (z ?_))
  refine C.block ?_ -- BLOCK 0
  refine C.loop (fun n ρ w' => ∃ (i : Nat) (a1 : Option Addr) (c1 : Nat) (J : Nat → Prop), n = ws.length - i ∧ i ≤ ws.length ∧ (∀ x ∈ ws.take i, (numS x).isSome = true) ∧ ρ 4 = .slice a1 ((ws.take i).filterMap numS).length c1 ∧ ρ 9 = .slice a ws.length c ∧ ρ 10 = .int .i64 ws.length ∧ ρ 11 = .int .i64 i ∧ St N0 I w J [.own a1 c1 3 1 (((ws.take i).filterMap numS).map ic)] (RT a c (ws.map bs8)) w') _ ⟨0, none, 0, _, rfl, by omega, by simp, rfl, rfl, rfl, rfl, hs.own 3 1⟩ ?_
  rintro n ρ w1 ⟨i, a1, c1, J, hn, hi, hsome, h4, h9, h10, h11, hs⟩
  have hfl : ((ws.take i).filterMap numS).length ≤ i := Nat.le_trans (List.length_filterMap_le ..) (by simp; omega)
  refine C.nm 4 h4 (C.nm 9 h9 (C.nm 10 h10 (C.nm 11 h11 ?_)))
  refine sr (p 1 rfl (z ?_))
  refine C.seq ?_
  refine C.cond_dec rfl (fun h1 => ?_) fun h1 => ?_ -- t12
  · have hxi := List.getElem?_eq_getElem (show i < ws.length by omega)
    have hxm := List.getElem_mem (show i < ws.length by omega)
    generalize ws[i] = x at hxi hxm
    refine C.skip ?_
    refine C.seq ?_
    refine C.block ?_ -- BLOCK 1
    refine sr (ixn i rfl hs.f (by simp) (map_get (enc := tc) (x := bs8 x) (by simp [hxi])) fun b off hat => l1 0 rfl hat rfl rfl (p 1 rfl (z ?_)))
    refine sr (p 1 rfl (c0 rfl hs (console_number x (hw x hxm)) fun w2 hs => p 5 rfl (z ?_)))
    refine C.seq ?_
    refine sr (p 2 rfl (z ?_))
    refine C.cond rfl (fun h2 => ?_) fun h2 => ?_ -- t21
    · have h2 : (numS x).isSome = false := by simpa using h2
      have hno : numsOk ws = false := by
        rw [← Bool.not_eq_true]
        intro h
        have := List.all_eq_true.1 h x hxm
        rw [h2] at this; cases this
      refine sr (p 2 rfl (z ?_))
      refine C.ret ?_
      refine Bo.e2 rfl rfl rfl hs.cut (none, 0) (by simp [numsL, hno]) ?_
      simp only [numsL, hno]
      exact Rc.nil _ _ _ _ _
    · have h2 : (numS x).isSome = true := by simpa using h2
      obtain ⟨v, hv⟩ := Option.isSome_iff_exists.1 h2
      have e0 : (ws.take (i + 1)).filterMap numS = (ws.take i).filterMap numS ++ [v] := by
        rw [List.take_add_one, hxi, List.filterMap_append]; simp [hv]
      have hv0 : (numS x).getD 0 = v := by rw [hv]; rfl
      rw [hv0]
      refine C.skip ?_
      refine C.reg (p 2 rfl ?_)
      refine bs ([v].map ic) hs rfl fun a2 w2 hs => ?_
      have e1 : ((ws.take i).filterMap numS).map ic ++ [v].map ic = ((ws.take (i + 1)).filterMap numS).map ic := by rw [e0]; simp
      have e2 : (((ws.take (i + 1)).filterMap numS).map ic).length = ((ws.take (i + 1)).filterMap numS).length := by simp
      refine ap 0 hs rfl rfl (by simp) hs.f.1 rfl (ic_one [v]) (by show (_ + _) * 8 ≤ _; simp; omega) (by simp; omega) fun a3 c3 J3 w2 hs => ?_
      rw [e1] at hs ⊢
      rw [e2]
      refine p 1 rfl (z ?_)
      refine C.reg (Bo.a rfl (by omega) (p 1 rfl (z ?_)))
      refine ⟨_, by omega, i + 1, a3, c3, J3, rfl, by omega, ?_, rfl, rfl, rfl, rfl, hs.to fun h => h.2⟩
      intro y hy
      rw [List.take_add_one, hxi] at hy
      rcases List.mem_append.1 hy with hy | hy
      · exact hsome y hy
      · simp at hy; rw [hy]; exact h2
  · have : i = ws.length := by omega
    subst this
    rw [List.take_length] at hs hsome
    have hok : numsOk ws = true := List.all_eq_true.2 hsome
    obtain ⟨J2, hs⟩ := hs.done
    refine C.exit ?_ -- EXIT 0
    refine sr (p 3 rfl (z ?_))
    refine C.ret ?_
    refine Bo.e2 rfl rfl rfl hs (a1, c1) (by simp [numsL, hok]) ?_
    simp only [numsL, hok, if_true]
    exact hs.f.1
/-- An error's line. -/
def faultS (e : Int) : List UInt8 := [101, 114, 114, 111, 114, 32] ++ Lib.itoa e
theorem bs8_append (l m : List UInt8) : bs8 l ++ bs8 m = bs8 (l ++ m) := by
  apply ByteArray.ext
  rw [ByteArray.data_append]
  show l.toArray ++ m.toArray = (l ++ m).toArray
  simp
theorem bs8_size (l : List UInt8) : (bs8 l).size = l.length := by show l.toArray.size = _; simp
theorem console_failed {I : Nat → Prop} {w : World} (e : Int) (he : I64 e) (hG : Gl I w) :
    Ct Tryz.prog 37 #[.int .i64 e] I w (fun _ : Unit => .string (bs8 (faultS e))) (fun _ _ _ => True) := by
  refine Ct.of (args := [_]) (F := Gl) Tryz.func37 rfl rfl hG fun hs => ?_
  refine sr (p 1 rfl (z ?_))
  have hl := itoa_length e he
  refine sr (p 1 rfl (c0 rfl hs (lib_Itoa e he hs.f) fun w hs => ct (s := bs8 [101, 114, 114, 111, 114, 32]) rfl (by rw [bs8_size, bs8_size]; simp; omega) (p 1 rfl (z ?_))))
  refine C.ret ?_
  exact e1 rfl rfl hs () (by rw [bs8_append]; rfl) trivial
def divS (a b : Int) : List UInt8 := if b < 1 then [] else toldS [a / b, a % b]
theorem floor_Div0 {I : Nat → Prop} {w : World} (a b : Int) (ha : I64 a) (hb : b < 1) : Ct Tryz.prog 72 #[.int .i64 a, .int .i64 b] I w (fun _ : Unit => .tuple #[.int .i64 0, .int .i64 300]) (fun _ _ _ => True) := by
  have := floor_Div (I := I) (w := w) a b ha
  simpa only [if_pos hb] using this
theorem floor_Div1 {I : Nat → Prop} {w : World} (a b : Int) (ha : I64 a) (hb : ¬ b < 1) : Ct Tryz.prog 72 #[.int .i64 a, .int .i64 b] I w (fun _ : Unit => .tuple #[.int .i64 (a / b), .int .i64 0]) (fun _ _ _ => True) := by
  have := floor_Div (I := I) (w := w) a b ha
  simpa only [if_neg hb] using this
theorem floor_Mod1 {I : Nat → Prop} {w : World} (a b : Int) (ha : I64 a) (hb' : I64 b) (hb : ¬ b < 1) : Ct Tryz.prog 73 #[.int .i64 a, .int .i64 b] I w (fun _ : Unit => .tuple #[.int .i64 (a % b), .int .i64 0]) (fun _ _ _ => True) := by
  have := floor_Mod (I := I) (w := w) a b ha hb'
  simpa only [if_neg hb] using this
theorem console_divided {I : Nat → Prop} {w : World} {p : Option Addr} {c : Nat} (a b : Int) (hR : RI p c [a, b] I w) (hG : Gl I w) (ha : -1000000 ≤ a ∧ a ≤ 1000000) (hb : -1000000 ≤ b ∧ b ≤ 1000000) :
    Ct Tryz.prog 51 #[.slice p 2 c] I w (fun _ : Unit => .tuple #[.string (bs8 (divS a b)), .int .i64 (if b < 1 then 300 else 0)]) (fun _ _ _ => True) := by
  refine Ct.of (args := [_]) (F := fun J w => RI p c [a, b] J w ∧ Gl J w) Tryz.func51 rfl rfl ⟨hR, hG⟩ fun hs => ?_
  refine sr (Bo.p 2 rfl (z ?_))
  refine C.seq ?_
  by_cases hb1 : b < 1
  · refine dro N0 11 [0, 1, 2, 3, 4, 5, 506, 7, 8, 9, 10] hs fun w hs => dp 1 rfl (dixn 0 rfl hs.f.1 rfl rfl fun b1 off hat => dl1 0 rfl hat rfl rfl (dp 1 rfl (dixn 1 rfl hs.f.1 rfl rfl fun b2 off hat => dl1 0 rfl hat rfl rfl (dc0 rfl hs (floor_Div0 a b (by omega) hb1) fun w hs => dp 4 rfl (dz (Bo.p 1 rfl (z ?_)))))))
    refine C.seq ?_
    refine sr (Bo.p 2 rfl (z ?_))
    refine C.yes rfl ?_ -- t18
    refine sr (Bo.p 3 rfl (z ?_))
    refine C.ret ?_
    exact e2 rfl rfl rfl hs () (by simp [divS, hb1]) trivial
  · have h3 := ediv_bd (a := a) (show 1 ≤ b by omega)
    have h4 := Int.emod_nonneg a (show b ≠ 0 by omega)
    have h5 := Int.emod_lt_of_pos a (show 0 < b by omega)
    refine dro N0 11 [0, 1, 2, 3, 4, 5, 506, 7, 8, 9, 10] hs fun w hs => dp 1 rfl (dixn 0 rfl hs.f.1 rfl rfl fun b1 off hat => dl1 0 rfl hat rfl rfl (dp 1 rfl (dixn 1 rfl hs.f.1 rfl rfl fun b2 off hat => dl1 0 rfl hat rfl rfl (dc0 rfl hs (floor_Div1 a b (by omega) hb1) fun w hs => dp 4 rfl (dz (Bo.p 1 rfl (z ?_)))))))
    refine C.seq ?_
    refine sr (Bo.p 2 rfl (z ?_))
    refine C.nay rfl (C.skip ?_) -- t18
    refine C.seq ?_
    refine dro N0 11 [0, 1, 2, 3, 4, 5, 506, 7, 8, 9, 10] hs fun w hs => dp 1 rfl (dixn 0 rfl hs.f.1 rfl rfl fun b1 off hat => dl1 0 rfl hat rfl rfl (dp 1 rfl (dixn 1 rfl hs.f.1 rfl rfl fun b2 off hat => dl1 0 rfl hat rfl rfl (dc0 rfl hs (floor_Mod1 a b (by omega) (by omega) hb1) fun w hs => dp 4 rfl (dz (Bo.p 1 rfl (z ?_)))))))
    refine sr (Bo.p 2 rfl (bs ([a / b, a % b].map ic) hs rfl fun a3 w hs => ?_))
    refine c0 rfl hs (console_told [a / b, a % b] hs.f.1 hs.f.2.2 ?_ (by simp)) fun w hs => Bo.p 3 rfl (z ?_)
    · intro x hx
      simp only [List.mem_cons, List.not_mem_nil, or_false] at hx
      rcases hx with rfl | rfl <;> constructor <;> omega
    refine C.ret ?_
    exact e2 rfl rfl rfl hs () (by simp [divS, hb1]) trivial
end Bo
namespace Bo
open Go Go.Proofs
theorem ifft {P : Prop} (h : P) : (true = true ↔ P) := ⟨fun _ => h, fun _ => rfl⟩
theorem ifff {P : Prop} (h : ¬ P) : (false = true ↔ P) := Iff.intro (fun e => Bool.noConfusion e) (fun e => absurd e h)
theorem iffd {p P : Prop} {d : Decidable p} (h : p ↔ P) : (@decide p d = true ↔ P) := by rw [decide_eq_true_eq]; exact h
theorem iffn {p P : Prop} {d : Decidable p} (h : ¬ p ↔ P) : ((!@decide p d) = true ↔ P) := by rw [Bool.not_eq_true', decide_eq_false_iff_not]; exact h
/-- May bounds be, up to a place? -/
def bdAt (bs : List Int) (i : Nat) : Prop := (-1099511627776 ≤ bs.getD i 0 ∧ bs.getD i 0 ≤ 1099511627776) ∧ (0 < i → bs.getD (i - 1) 0 < bs.getD i 0)
def bdOk (bs : List Int) : Prop := bs.length ≤ 8 ∧ ∀ i, i < bs.length → bdAt bs i
theorem getD_of {bs : List Int} {i : Nat} {x : Int} (h : bs[i]? = some x) : bs.getD i 0 = x := by rw [List.getD_eq_getElem?_getD, h]; rfl
theorem acc_BoundsMay {I : Nat → Prop} {w : World} {a : Option Addr} {c : Nat} (bs : List Int) (hR : RI a c bs I w) :
    Ct Tryz.prog 146 #[.slice a bs.length c] I w (fun b : Bool => .bool b) (fun b _ _ => (b = true ↔ bdOk bs)) := by
  refine Ct.of (args := [_]) (F := RI a c bs) Tryz.func146 rfl rfl hR fun hs => ?_
  refine sr (p 1 rfl (z ?_))
  refine C.seq ?_
  refine sr (p 3 rfl (z ?_))
  refine C.cond_dec rfl (fun h1 => ?_) fun h1 => ?_ -- t7
  · refine sr (p 1 rfl (z ?_))
    refine C.ret ?_
    exact e1 rfl rfl hs false rfl (ifff fun h => by have := h.1; omega)
  · refine C.skip ?_
    refine C.seq ?_
    refine sr (p 3 rfl (z ?_))
    refine C.block ?_ -- BLOCK 0
    refine C.loop (fun n ρ w' => ∃ i : Nat, n = bs.length - i ∧ i ≤ bs.length ∧ (∀ j, j < i → bdAt bs j) ∧ ρ 0 = .slice a bs.length c ∧ ρ 8 = .slice a bs.length c ∧ ρ 9 = .int .i64 bs.length ∧ ρ 10 = .int .i64 i ∧ St N0 I w (up I w.heap.size) [] (RI a c bs) w') _ ⟨0, rfl, by omega, by omega, rfl, rfl, rfl, rfl, hs⟩ ?_
    rintro n ρ w1 ⟨i, hn, hi, hok, h0, h8, h9, h10, hs⟩
    refine C.nm 0 h0 (C.nm 8 h8 (C.nm 9 h9 (C.nm 10 h10 ?_)))
    refine sr (p 1 rfl (z ?_))
    refine C.seq ?_
    refine C.cond_dec rfl (fun h2 => ?_) fun h2 => ?_ -- t11
    · have hx := List.getElem?_eq_getElem (show i < bs.length by omega)
      generalize bs[i] = x at hx
      have hxd := getD_of hx
      refine C.skip ?_
      refine C.seq ?_
      refine C.block ?_ -- BLOCK 1
      refine sr (p 1 rfl (ixn i rfl hs.f (by simp) (map_get hx) fun b off hat => l1 0 rfl hat rfl rfl (p 2 rfl (z ?_))))
      refine src (fun ρ w' => (∃ b, ρ 30 = .bool b ∧ (b = true ↔ ¬ bdAt bs i)) ∧ ρ 0 = .slice a bs.length c ∧ ρ 8 = .slice a bs.length c ∧ ρ 9 = .int .i64 bs.length ∧ ρ 10 = .int .i64 i ∧ St N0 I w (up I w.heap.size) [] (RI a c bs) w') ?_ ?_
      · refine p 1 rfl (c0 rfl hs (acc_within x _ (by omega)) fun w hs => p 2 rfl (gs 18 rfl (fun h3 => ?_) fun h3 => ?_))
        · have h3 : ¬ (-1099511627776 ≤ x ∧ x ≤ 1099511627776) := by simp at h3; omega
          exact p 12 rfl (z ⟨⟨_, rfl, ifft fun h => h3 (hxd ▸ h.1)⟩, rfl, rfl, rfl, rfl, hs⟩)
        · have h3 : -1099511627776 ≤ x ∧ x ≤ 1099511627776 := by simpa using h3
          refine p 3 rfl (gd 21 rfl (fun h4 => ?_) fun h4 => ?_)
          · have hy := List.getElem?_eq_getElem (show i - 1 < bs.length by omega)
            generalize bs[i - 1] = y at hy
            have hyd := getD_of hy
            refine p 2 rfl (an (i - 1 : Nat) rfl (by omega) (by omega) (ixn (i - 1) rfl hs.f (by simp) (map_get hy) fun b off hat => l1 0 rfl hat rfl rfl (p 4 rfl (z ⟨⟨_, rfl, iffd ?_⟩, rfl, rfl, rfl, rfl, hs⟩))))
            unfold bdAt
            rw [hxd, hyd]
            omega
          · refine p 9 rfl (z ⟨⟨_, rfl, ifff ?_⟩, rfl, rfl, rfl, rfl, hs⟩)
            unfold bdAt
            rw [hxd]
            omega
      rintro ρ w' ⟨⟨b, h, hb⟩, h0, h8, h9, h10, hs⟩
      refine C.nm 30 h (C.nm 0 h0 (C.nm 8 h8 (C.nm 9 h9 (C.nm 10 h10 ?_))))
      refine C.cond rfl (fun h6 => ?_) fun h6 => ?_ -- t30
      · refine sr (p 1 rfl (z ?_))
        refine C.ret ?_
        exact e1 rfl rfl hs false rfl (ifff fun h' => hb.1 h6 (h'.2 i (by omega)))
      · refine C.skip ?_
        refine C.reg (Bo.a rfl (by omega) (p 1 rfl (z ?_)))
        refine ⟨_, by omega, i + 1, rfl, by omega, fun j hj => ?_, rfl, rfl, rfl, rfl, hs⟩
        by_cases hji : j = i
        · subst hji
          exact Classical.not_not.1 fun hn => by have := hb.2 hn; rw [h6] at this; cases this
        · exact hok j (by omega)
    · refine C.exit ?_ -- EXIT 0
      refine sr (p 1 rfl (z ?_))
      refine C.ret ?_
      exact e1 rfl rfl hs true rfl (ifft ⟨by omega, fun j hj => hok j (by omega)⟩)
theorem window_TimeMay {I : Nat → Prop} {w : World} (t : Int) :
    Ct Tryz.prog 110 #[.int .i64 t] I w (fun _ : Unit => .bool (decide (-1099511627776 ≤ t ∧ t ≤ 1099511627776))) (fun _ _ _ => True) := by
  refine Ct.of (args := [_]) (F := fun _ _ => True) Tryz.func110 rfl rfl trivial fun hs => ?_
  refine sr (p 1 rfl (z ?_))
  refine src (fun ρ w' => ρ 2 = .bool (decide (-1099511627776 ≤ t ∧ t ≤ 1099511627776)) ∧ w' = w) ?_ ?_
  · refine p 3 rfl (gd 5 rfl (fun h1 => ?_) fun h1 => ?_)
    · exact p 4 rfl (z ⟨vb rfl (by simp [h1]), rfl⟩)
    · exact p 4 rfl (z ⟨vb rfl (by simp [h1]), rfl⟩)
  rintro ρ _ ⟨h, rfl⟩
  exact C.nm 2 h (C.ret (e1 rfl rfl hs () rfl trivial))
end Bo
namespace Bo
open Go Go.Proofs
def slOk (q : Query) : Prop := 1 ≤ q.slide ∧ q.slide ≤ q.size ∧ (q.size - 1) / q.slide < 64 ∧ q.size / (Int.gcd q.size q.slide : Int) ≤ 256
abbrev QI (b : Nat) (q : Query) (bp : Option Addr) (bk : Nat) : Pf := Im b 77 (q.c bp bk)
theorem floor_Gcd1 {I : Nat → Prop} {w : World} (a b : Int) (ha : 1 ≤ a) (hb : 1 ≤ b) : Ct Tryz.prog 163 #[.int .i64 a, .int .i64 b] I w (fun _ : Unit => .tuple #[.int .i64 (Int.gcd a b), .int .i64 0]) (fun _ _ _ => True) := by
  have := floor_Gcd (I := I) (w := w) a b
  have h : ¬ (a < 1 ∨ b < 1) := by omega
  simpa only [if_neg h] using this
theorem window_sliding {I : Nat → Prop} {w : World} {b bk : Nat} {bp : Option Addr} (q : Query) (hI : QI b q bp bk I w) (hs1 : 1 ≤ q.size ∧ q.size ≤ 1073741824) (hs2 : I64 q.slide) :
    Ct Tryz.prog 143 #[.pointer (some ⟨b, 0, none⟩)] I w (fun x : Bool => .bool x) (fun x _ _ => (x = true ↔ slOk q)) := by
  refine Ct.of (args := [_]) (F := QI b q bp bk) Tryz.func143 rfl rfl hI fun hs => ?_
  refine sr (p 1 rfl (z ?_))
  refine C.seq ?_
  have hd : ∀ y, 1 ≤ y → (q.size - 1).tdiv y = (q.size - 1) / y := fun y hy => Int.tdiv_eq_ediv_of_nonneg (by omega)
  have hd2 := ediv_bd (a := q.size - 1) (b := q.slide)
  refine sc (fun ρ w' => ρ 0 = .pointer (some ⟨b, 0, none⟩) ∧ (∃ x, ρ 33 = .bool x ∧ (x = true ↔ ¬ (1 ≤ q.slide ∧ q.slide ≤ q.size ∧ (q.size - 1) / q.slide < 64))) ∧ St N0 I w (up I w.heap.size) [] (QI b q bp bk) w') ?_ ?_
  · refine dro N0 29 [0, 1, 2, 3, 4, 5, 6, 7, 8, 9, 10, 11, 12, 13, 14, 15, 16, 17, 18, 19, 20, 21, 22, 23, 24, 25, 26, 27, 28] hs fun w hs => ?_
    refine dp 3 rfl (dl rfl hs.f.2 rfl (dp 2 rfl (dgd 10 rfl (fun h1 => ?_) fun h1 => ?_)))
    · exact dp 23 rfl (dz (z ⟨rfl, ⟨_, rfl, ifft (by omega)⟩, hs⟩))
    · refine dp 3 rfl (dl rfl hs.f.2 rfl (dp 3 rfl (dl rfl hs.f.2 rfl (dp 3 rfl (dgd 21 rfl (fun h2 => ?_) fun h2 => ?_)))))
      · exact dp 12 rfl (dz (z ⟨rfl, ⟨_, rfl, ifft (by omega)⟩, hs⟩))
      · have h3 := hd2 (by omega)
        refine dp 3 rfl (dl rfl hs.f.2 rfl (da rfl (by omega) (dp 3 rfl (dl rfl hs.f.2 rfl (ddvn ((q.size - 1) / q.slide) rfl (hd _ (by omega)) (by omega) (by omega) (dp 2 rfl (dz (z ⟨rfl, ⟨_, rfl, iffd ?_⟩, hs⟩))))))))
        omega
  rintro ρ w1 ⟨h0, ⟨x, hx, hxi⟩, hs⟩
  refine C.nm 0 h0 (C.nm 33 hx ?_)
  refine C.cond rfl (fun h3 => ?_) fun h3 => ?_ -- t33
  · refine sr (p 1 rfl (z ?_))
    refine C.ret ?_
    exact e1 rfl rfl hs false rfl (ifff fun h => hxi.1 h3 ⟨h.1, h.2.1, h.2.2.1⟩)
  · obtain ⟨h4, h5, h6⟩ : 1 ≤ q.slide ∧ q.slide ≤ q.size ∧ (q.size - 1) / q.slide < 64 := Classical.not_not.1 fun hn => by have := hxi.2 hn; rw [h3] at this; cases this
    have hg : (0 : Int) < Int.gcd q.size q.slide := by
      have : 0 < Int.gcd q.size q.slide := Int.gcd_pos_of_ne_zero_left _ (by omega)
      omega
    refine C.skip ?_
    refine C.seq ?_
    refine dro N0 13 [0, 1, 2, 3, 4, 5, 6, 7, 508, 9, 10, 11, 12] hs fun w hs => dp 3 rfl (dl rfl hs.f.2 rfl (dp 3 rfl (dl rfl hs.f.2 rfl ?_)))
    refine dc0 rfl hs (floor_Gcd1 q.size q.slide hs1.1 h4) fun w hs => dp 4 rfl (dz (p 1 rfl (z ?_)))
    have hb3 := ediv_bd (a := q.size) (b := (Int.gcd q.size q.slide : Int)) (by omega)
    refine sr (p 3 rfl (l rfl hs.f.2 rfl (p 1 rfl (dvn (q.size / (Int.gcd q.size q.slide : Int)) rfl (Int.tdiv_eq_ediv_of_nonneg (by omega)) (by omega) (by omega) (p 2 rfl (z ?_))))))
    refine C.ret ?_
    exact e1 rfl rfl hs _ rfl (iffd ⟨fun h => ⟨h4, h5, h6, h⟩, fun h => h.2.2.2⟩)
theorem window_Step {I : Nat → Prop} {w : World} {b bk : Nat} {bp : Option Addr} (q : Query) (hI : QI b q bp bk I w) :
    Ct Tryz.prog 112 #[.pointer (some ⟨b, 0, none⟩)] I w (fun _ : Unit => .int .i64 (if q.kind = 1 then q.slide else q.size)) (fun _ _ _ => True) := by
  refine Ct.of (args := [_]) (F := QI b q bp bk) Tryz.func112 rfl rfl hI fun hs => ?_
  refine sr (p 1 rfl (z ?_))
  refine C.seq ?_
  refine sr (p 3 rfl (l rfl hs.f.2 rfl (p 1 rfl (z ?_))))
  refine C.cond_dec rfl (fun h1 => ?_) fun h1 => ?_ -- t7
  · refine sr (p 3 rfl (l rfl hs.f.2 rfl (p 1 rfl (z ?_))))
    refine C.ret ?_
    exact e1 rfl rfl hs () (by rw [if_pos h1]) trivial
  · refine C.skip ?_
    refine sr (p 3 rfl (l rfl hs.f.2 rfl (p 1 rfl (z ?_))))
    refine C.ret ?_
    exact e1 rfl rfl hs () (by rw [if_neg h1]) trivial
end Bo
namespace Bo
open Go Go.Proofs
def rankOk (q : Query) : Prop := 0 ≤ q.agg ∧ q.agg ≤ 7 ∧ (q.agg ≠ 7 → q.rank = 0) ∧ 0 ≤ q.rank ∧ q.rank ≤ 1000
def asksOk (q : Query) : Prop := rankOk q ∧ ((q.agg = 6 ∨ q.agg = 7) ↔ 0 < q.bounds.length) ∧ bdOk q.bounds
theorem window_asks {I : Nat → Prop} {w : World} {b bk : Nat} {bp : Option Addr} (q : Query) (hI : QI b q bp bk I w) (hB : RI bp bk q.bounds I w) :
    Ct Tryz.prog 142 #[.pointer (some ⟨b, 0, none⟩)] I w (fun x : Bool => .bool x) (fun x _ _ => (x = true ↔ asksOk q)) := by
  refine Ct.of (args := [_]) (F := fun J w => QI b q bp bk J w ∧ RI bp bk q.bounds J w) Tryz.func142 rfl rfl ⟨hI, hB⟩ fun hs => ?_
  refine sr (p 1 rfl (z ?_))
  refine C.seq ?_
  refine src (fun ρ w' => ρ 0 = .pointer (some ⟨b, 0, none⟩) ∧ (∃ x, ρ 43 = .bool x ∧ (x = true ↔ ¬ rankOk q)) ∧ St N0 I w (up I w.heap.size) [] (fun J w => QI b q bp bk J w ∧ RI bp bk q.bounds J w) w') ?_ ?_
  · refine p 3 rfl (l rfl hs.f.1.2 rfl (p 2 rfl (gd 9 rfl (fun h1 => ?_) fun h1 => ?_)))
    · exact p 34 rfl (z ⟨rfl, ⟨_, rfl, ifft (by unfold rankOk; omega)⟩, hs⟩)
    · refine p 3 rfl (l rfl hs.f.1.2 rfl (p 3 rfl (gd 16 rfl (fun h3 => ?_) fun h3 => ?_)))
      · exact p 27 rfl (z ⟨rfl, ⟨_, rfl, ifft (by unfold rankOk; omega)⟩, hs⟩)
      · refine p 3 rfl (l rfl hs.f.1.2 rfl (p 2 rfl (gd 22 rfl (fun h5 => ?_) fun h5 => ?_)))
        · refine p 3 rfl (l rfl hs.f.1.2 rfl (p 4 rfl (gd 30 rfl (fun h6 => ?_) fun h6 => ?_)))
          · exact p 13 rfl (z ⟨rfl, ⟨_, rfl, ifft (by unfold rankOk; omega)⟩, hs⟩)
          · refine p 3 rfl (l rfl hs.f.1.2 rfl (p 3 rfl (gd 37 rfl (fun h7 => ?_) fun h7 => ?_)))
            · exact p 6 rfl (z ⟨rfl, ⟨_, rfl, ifft (by unfold rankOk; omega)⟩, hs⟩)
            · exact p 3 rfl (l rfl hs.f.1.2 rfl (p 2 rfl (z ⟨rfl, ⟨_, rfl, iffd (by unfold rankOk; omega)⟩, hs⟩)))
        · refine p 11 rfl (l rfl hs.f.1.2 rfl (p 3 rfl (gd 37 rfl (fun h8 => ?_) fun h8 => ?_)))
          · exact p 6 rfl (z ⟨rfl, ⟨_, rfl, ifft (by unfold rankOk; omega)⟩, hs⟩)
          · exact p 3 rfl (l rfl hs.f.1.2 rfl (p 2 rfl (z ⟨rfl, ⟨_, rfl, iffd (by unfold rankOk; omega)⟩, hs⟩)))
  rintro ρ w' ⟨h0, ⟨x, hx, hxi⟩, hs⟩
  refine C.nm 0 h0 (C.nm 43 hx ?_)
  refine C.cond rfl (fun h9 => ?_) fun h9 => ?_ -- t43
  · refine sr (p 1 rfl (z ?_))
    refine C.ret ?_
    exact e1 rfl rfl hs false rfl (ifff fun h => hxi.1 h9 h.1)
  · have hr : rankOk q := Classical.not_not.1 fun hn => by have := hxi.2 hn; rw [h9] at this; cases this
    refine C.skip ?_
    refine src (fun ρ w' => ρ 0 = .pointer (some ⟨b, 0, none⟩) ∧ ρ 3 = .bool (decide (q.agg = 6 ∨ q.agg = 7)) ∧ St N0 I w (up I w.heap.size) [] (fun J w => QI b q bp bk J w ∧ RI bp bk q.bounds J w) w') ?_ ?_
    · refine p 3 rfl (l rfl hs.f.1.2 rfl (p 2 rfl (gd 49 rfl (fun h10 => ?_) fun h10 => ?_)))
      · exact p 7 rfl (z ⟨rfl, vb rfl (by simp [h10]), hs⟩)
      · exact p 3 rfl (l rfl hs.f.1.2 rfl (p 3 rfl (z ⟨rfl, vb rfl (by simp [h10]), hs⟩)))
    rintro ρ w' ⟨h0, h3, hs⟩
    refine C.nm 0 h0 (C.nm 3 h3 ?_)
    refine src (fun ρ w' => (∃ x, ρ 2 = .bool x ∧ (x = true ↔ ((q.agg = 6 ∨ q.agg = 7) ↔ 0 < q.bounds.length) ∧ bdOk q.bounds)) ∧ ∃ F, St N0 I w (up I w.heap.size) [] F w') ?_ ?_
    · refine p 4 rfl (l rfl hs.f.1.2 rfl (p 4 rfl (gs 64 rfl (fun h11 => ?_) fun h11 => ?_)))
      · refine p 3 rfl (l rfl hs.f.1.2 rfl (Bo.c rfl hs (acc_BoundsMay q.bounds hs.f.2) fun y w hs => p 2 rfl (z ⟨⟨_, rfl, ?_⟩, _, hs⟩)))
        have h12 : (q.agg = 6 ∨ q.agg = 7) ↔ 0 < q.bounds.length := by
          have := of_decide_eq_true (p := (decide (q.agg = 6 ∨ q.agg = 7) = decide ((0 : Int) < (q.bounds.length : Int)))) (by simpa using h11)
          rw [decide_eq_decide] at this
          omega
        exact ⟨fun h => ⟨h12, hs.f.1.1 h⟩, fun h => hs.f.1.2 h.2⟩
      · refine p 7 rfl (z ⟨⟨_, rfl, ifff fun h => ?_⟩, _, hs⟩)
        have h13 : decide (q.agg = 6 ∨ q.agg = 7) = decide ((0 : Int) < (q.bounds.length : Int)) := by
          rw [decide_eq_decide]; omega
        simp [h13] at h11
    rintro ρ w' ⟨⟨x, h, hx⟩, F, hs⟩
    refine C.nm 2 h ?_
    refine C.ret ?_
    exact e1 rfl rfl hs x rfl ⟨fun e => ⟨hr, hx.1 e⟩, fun e => hx.2 e.2⟩
end Bo
namespace Bo
open Go Go.Proofs
def stepQ (q : Query) : Int := if q.kind = 1 then q.slide else q.size
def mayQ (q : Query) : Prop := (1 ≤ q.size ∧ q.size ≤ 1073741824 ∧ asksOk q) ∧ ((q.kind = 1 ∧ slOk q) ∨ ((q.kind = 0 ∨ q.kind = 2) ∧ q.slide = 0))
theorem mayQ.step {q : Query} (h : mayQ q) : q.kind ≠ 2 → 1 ≤ stepQ q ∧ stepQ q ≤ q.size := by
  intro h2
  unfold stepQ
  rcases h.2 with ⟨h1, hs⟩ | ⟨h0, hs⟩
  · rw [if_pos h1]; exact ⟨hs.1, hs.2.1⟩
  · rw [if_neg (by omega)]; have := h.1.1; omega
theorem window_May {I : Nat → Prop} {w : World} {bk : Nat} {bp : Option Addr} (q : Query) (hB : RI bp bk q.bounds I w) (hsl : I64 q.slide) :
    Ct Tryz.prog 109 #[.agg (q.c bp bk).toArray] I w (fun x : Bool => .bool x) (fun x _ _ => (x = true ↔ mayQ q)) := by
  refine Ct.of (args := [_]) (F := RI bp bk q.bounds) Tryz.func109 rfl rfl hB fun hs => ?_
  refine sr (ai hs rfl fun b1 w1 hs => p 1 rfl (z ?_))
  refine C.seq ?_
  refine src (fun ρ w' => ρ 1 = .pointer (some ⟨b1, 0, none⟩) ∧ (∃ x, ρ 14 = .bool x ∧ (x = true ↔ ¬ (1 ≤ q.size ∧ q.size ≤ 1073741824 ∧ asksOk q))) ∧ St N0 I w (up I w.heap.size) [] (fun J w => QI b1 q bp bk J w ∧ RI bp bk q.bounds J w) w') ?_ ?_
  · refine p 1 rfl (l rfl hs.im rfl (p 2 rfl (gd 6 rfl (fun h1 => ?_) fun h1 => ?_)))
    · exact p 8 rfl (z ⟨rfl, ⟨_, rfl, ifft (by omega)⟩, hs⟩)
    · refine p 1 rfl (l rfl hs.im rfl (p 3 rfl (gd 11 rfl (fun h2 => ?_) fun h2 => ?_)))
      · exact p 3 rfl (z ⟨rfl, ⟨_, rfl, ifft (by omega)⟩, hs⟩)
      · refine Bo.c rfl hs (window_asks q hs.f.1 hs.f.2) fun y w hs => p 2 rfl (z ⟨rfl, ⟨_, rfl, ?_⟩, hs.to fun h => h.2⟩)
        have := hs.f.1
        cases y
        · exact ifft fun h => by have := this.2 h.2.2; cases this
        · exact ifff fun h => h ⟨by omega, by omega, this.1 rfl⟩
  rintro ρ w' ⟨hb, ⟨x, hx, hxi⟩, hs⟩
  refine C.nm 1 hb (C.nm 14 hx ?_)
  refine C.cond rfl (fun h3 => ?_) fun h3 => ?_ -- t14
  · refine sr (p 1 rfl (z ?_))
    refine C.ret ?_
    exact e1 rfl rfl hs false rfl (ifff fun h => hxi.1 h3 h.1)
  · have hq : 1 ≤ q.size ∧ q.size ≤ 1073741824 ∧ asksOk q := Classical.not_not.1 fun hn => by have := hxi.2 hn; rw [h3] at this; cases this
    refine C.skip ?_
    refine C.seq ?_
    refine sr (p 1 rfl (l rfl hs.f.1.2 rfl (z ?_)))
    refine C.block ?_ -- BLOCK 0
    refine sr (p 2 rfl (z ?_))
    refine C.cond_dec rfl (fun h4 => ?_) fun h4 => ?_ -- t17
    · refine sr (Bo.c rfl hs (window_sliding q hs.f.1 ⟨hq.1, hq.2.1⟩ hsl) fun y w hs => p 1 rfl (z ?_))
      refine C.ret ?_
      refine e1 rfl rfl hs y rfl ⟨fun h => ⟨hq, .inl ⟨h4, hs.f.1.1 h⟩⟩, fun h => hs.f.1.2 ?_⟩
      rcases h.2 with h | ⟨h, _⟩
      · exact h.2
      · omega
    · refine C.seq ?_
      refine sr (p 2 rfl (z ?_))
      refine C.cond_dec rfl (fun h5 => ?_) fun h5 => ?_ -- t20
      · refine C.skip ?_
        refine C.yes (by simp [ev, upd, updo, h5]; rfl) ?_
        refine sr (p 1 rfl (l rfl hs.f.1.2 rfl (p 2 rfl (z ?_))))
        refine C.ret ?_
        exact e1 rfl rfl hs _ rfl (iffd ⟨fun h => ⟨hq, .inr ⟨.inl h5, h⟩⟩, fun h => h.2.elim (fun h => absurd h.1 h4) (fun h => h.2)⟩)
      · refine C.reg (p 2 rfl (z ?_))
        refine C.cond_dec rfl (fun h7 => ?_) fun h7 => ?_ -- t20
        · refine sr (p 1 rfl (l rfl hs.f.1.2 rfl (p 2 rfl (z ?_))))
          refine C.ret ?_
          exact e1 rfl rfl hs _ rfl (iffd ⟨fun h => ⟨hq, .inr ⟨.inr h7, h⟩⟩, fun h => h.2.elim (fun h => absurd h.1 h4) (fun h => h.2)⟩)
        · refine C.skip ?_
          refine sr (p 1 rfl (z ?_))
          refine C.ret ?_
          exact e1 rfl rfl hs false rfl (ifff fun h => by rcases h.2 with h | h <;> omega)
end Bo
