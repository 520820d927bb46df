/- Closed facts on the tables of the program that the walks name. -/
import Derived.Test.YtakehdnblmonlaaRows
import Derived.Test.YtakehdnblmonlaaDD
set_option linter.unusedVariables false
set_option linter.unusedSimpArgs false
namespace Go.Proofs.Ytakehdnblmonlaa
open Go.RowKit Go.Fp

theorem mixed : Try.prog.follows .mixedOrders = true := by kernel_rfl
theorem agg26 : aggT Try.prog 26 5 = true := by kernel_rfl
theorem agg34 : aggT Try.prog 34 3 = true := by kernel_rfl
theorem agg37 : aggT Try.prog 37 1 = true := by kernel_rfl
theorem agg54 : aggT Try.prog 54 3 = true := by kernel_rfl
theorem agg58 : aggT Try.prog 58 3 = true := by kernel_rfl
theorem agg83 : aggT Try.prog 83 4 = true := by kernel_rfl
theorem fld26_0 : fldT Try.prog 26 0 0 = true := by kernel_rfl
theorem fld26_1 : fldT Try.prog 26 1 1 = true := by kernel_rfl
theorem fld26_2 : fldT Try.prog 26 2 2 = true := by kernel_rfl
theorem fld26_3 : fldT Try.prog 26 3 3 = true := by kernel_rfl
theorem fld26_4 : fldT Try.prog 26 4 4 = true := by kernel_rfl
theorem fld34_0 : fldT Try.prog 34 0 0 = true := by kernel_rfl
theorem fld34_1 : fldT Try.prog 34 1 1 = true := by kernel_rfl
theorem fld34_2 : fldT Try.prog 34 2 2 = true := by kernel_rfl
theorem fld37_0 : fldT Try.prog 37 0 0 = true := by kernel_rfl
theorem fld54_0 : fldT Try.prog 54 0 0 = true := by kernel_rfl
theorem fld54_1 : fldT Try.prog 54 1 1 = true := by kernel_rfl
theorem fld54_2 : fldT Try.prog 54 2 2 = true := by kernel_rfl
theorem fld58_0 : fldT Try.prog 58 0 0 = true := by kernel_rfl
theorem fld58_1 : fldT Try.prog 58 1 1 = true := by kernel_rfl
theorem fld58_2 : fldT Try.prog 58 2 2 = true := by kernel_rfl
theorem fld73_0 : fldT Try.prog 73 0 0 = true := by kernel_rfl
theorem fld73_1 : fldT Try.prog 73 1 1 = true := by kernel_rfl
theorem fld73_2 : fldT Try.prog 73 2 2 = true := by kernel_rfl
theorem fld83_0 : fldT Try.prog 83 0 0 = true := by kernel_rfl
theorem fld83_1 : fldT Try.prog 83 1 1 = true := by kernel_rfl
theorem fld83_2 : fldT Try.prog 83 2 2 = true := by kernel_rfl
theorem fld83_3 : fldT Try.prog 83 3 3 = true := by kernel_rfl
theorem inf22 : (Try.prog.info? 22).map (fun i => (i.zero, i.size, i.bytes)) = some (some (.slice none 0 0), 1, 24) := by kernel_rfl
theorem inf23 : (Try.prog.info? 23).map (fun i => (i.zero, i.size, i.bytes)) = some (some (.slice none 0 0), 1, 24) := by kernel_rfl
theorem inf3 : (Try.prog.info? 3).map (fun i => (i.zero, i.size, i.bytes)) = some (some (.int .i64 0), 1, 8) := by kernel_rfl
theorem inf34 : (Try.prog.info? 34).map (fun i => (i.zero, i.size, i.bytes)) = some (some (.agg #[.int .i64 0, .int .i64 0, .int .i64 0]), 3, 24) := by kernel_rfl
theorem inf4 : (Try.prog.info? 4).map (fun i => (i.zero, i.size, i.bytes)) = some (some (.bool false), 1, 1) := by kernel_rfl
theorem inf58 : (Try.prog.info? 58).map (fun i => (i.zero, i.size, i.bytes)) = some (some (.agg #[.int .i64 0, .int .i64 0, .int .i64 0]), 3, 24) := by kernel_rfl
theorem int103_u64 : intT Try.prog 103 .u64 = true := by kernel_rfl
theorem int3_i64 : intT Try.prog 3 .i64 = true := by kernel_rfl
theorem one116 : oneT Try.prog 116 = true := by kernel_rfl
theorem one22 : oneT Try.prog 22 = true := by kernel_rfl
theorem one23 : oneT Try.prog 23 = true := by kernel_rfl
theorem one24 : oneT Try.prog 24 = true := by kernel_rfl
theorem one3 : oneT Try.prog 3 = true := by kernel_rfl
theorem one35 : oneT Try.prog 35 = true := by kernel_rfl
theorem one4 : oneT Try.prog 4 = true := by kernel_rfl
theorem one45 : oneT Try.prog 45 = true := by kernel_rfl
theorem one52 : oneT Try.prog 52 = true := by kernel_rfl
theorem one69 : oneT Try.prog 69 = true := by kernel_rfl
theorem one88 : oneT Try.prog 88 = true := by kernel_rfl
theorem siz116 : sizT Try.prog 116 1 = true := by kernel_rfl
theorem siz22 : sizT Try.prog 22 1 = true := by kernel_rfl
theorem siz23 : sizT Try.prog 23 1 = true := by kernel_rfl
theorem siz3 : sizT Try.prog 3 1 = true := by kernel_rfl
theorem siz34 : sizT Try.prog 34 3 = true := by kernel_rfl
theorem siz37 : sizT Try.prog 37 1 = true := by kernel_rfl
theorem siz4 : sizT Try.prog 4 1 = true := by kernel_rfl
theorem siz54 : sizT Try.prog 54 3 = true := by kernel_rfl
theorem siz58 : sizT Try.prog 58 3 = true := by kernel_rfl
theorem siz69 : sizT Try.prog 69 1 = true := by kernel_rfl
theorem siz83 : sizT Try.prog 83 4 = true := by kernel_rfl
theorem siz88 : sizT Try.prog 88 1 = true := by kernel_rfl
theorem sl22 : slT Try.prog 22 3 1 = true := by kernel_rfl
theorem sl23 : slT Try.prog 23 34 3 = true := by kernel_rfl
theorem sl24 : slT Try.prog 24 37 1 = true := by kernel_rfl
theorem sl35 : slT Try.prog 35 23 1 = true := by kernel_rfl
theorem sl45 : slT Try.prog 45 22 1 = true := by kernel_rfl
theorem sl52 : slT Try.prog 52 83 4 = true := by kernel_rfl
theorem sl55 : slT Try.prog 55 58 3 = true := by kernel_rfl
theorem sl88 : slT Try.prog 88 4 1 = true := by kernel_rfl
theorem sl94 : slT Try.prog 94 45 1 = true := by kernel_rfl
theorem zero116 : (Try.prog.info? 116).bind (·.zero) = some (.nilFunc) := by kernel_rfl
theorem zero22 : (Try.prog.info? 22).bind (·.zero) = some (.slice none 0 0) := by kernel_rfl
theorem zero3 : (Try.prog.info? 3).bind (·.zero) = some (.int .i64 0) := by kernel_rfl
theorem zero34 : (Try.prog.info? 34).bind (·.zero) = some (.agg #[.int .i64 0, .int .i64 0, .int .i64 0]) := by kernel_rfl
theorem zero37 : (Try.prog.info? 37).bind (·.zero) = some (.agg #[.slice none 0 0]) := by kernel_rfl
theorem zero4 : (Try.prog.info? 4).bind (·.zero) = some (.bool false) := by kernel_rfl
theorem zero54 : (Try.prog.info? 54).bind (·.zero) = some (.agg #[.int .i64 0, .slice none 0 0, .slice none 0 0]) := by kernel_rfl
theorem zero58 : (Try.prog.info? 58).bind (·.zero) = some (.agg #[.int .i64 0, .int .i64 0, .int .i64 0]) := by kernel_rfl
theorem zero69 : (Try.prog.info? 69).bind (·.zero) = some (.pointer none) := by kernel_rfl
theorem zero83 : (Try.prog.info? 83).bind (·.zero) = some (.agg #[.int .i64 0, .int .i64 0, .int .i64 0, .int .i64 0]) := by kernel_rfl
theorem zero88 : (Try.prog.info? 88).bind (·.zero) = some (.slice none 0 0) := by kernel_rfl
theorem call7 : callable Try.prog 7 = true := by kernel_rfl
theorem call10 : callable Try.prog 10 = true := by kernel_rfl
theorem call11 : callable Try.prog 11 = true := by kernel_rfl
theorem call12 : callable Try.prog 12 = true := by kernel_rfl
theorem call18 : callable Try.prog 18 = true := by kernel_rfl
theorem call22 : callable Try.prog 22 = true := by kernel_rfl
theorem call24 : callable Try.prog 24 = true := by kernel_rfl
theorem call25 : callable Try.prog 25 = true := by kernel_rfl
theorem call26 : callable Try.prog 26 = true := by kernel_rfl
theorem call27 : callable Try.prog 27 = true := by kernel_rfl
theorem call28 : callable Try.prog 28 = true := by kernel_rfl
theorem call29 : callable Try.prog 29 = true := by kernel_rfl
theorem call30 : callable Try.prog 30 = true := by kernel_rfl
theorem call31 : callable Try.prog 31 = true := by kernel_rfl
theorem call33 : callable Try.prog 33 = true := by kernel_rfl
theorem call34 : callable Try.prog 34 = true := by kernel_rfl
theorem call36 : callable Try.prog 36 = true := by kernel_rfl
theorem call37 : callable Try.prog 37 = true := by kernel_rfl
theorem call41 : callable Try.prog 41 = true := by kernel_rfl
theorem call42 : callable Try.prog 42 = true := by kernel_rfl
theorem call47 : callable Try.prog 47 = true := by kernel_rfl
theorem call48 : callable Try.prog 48 = true := by kernel_rfl
theorem call49 : callable Try.prog 49 = true := by kernel_rfl
theorem call50 : callable Try.prog 50 = true := by kernel_rfl
theorem call51 : callable Try.prog 51 = true := by kernel_rfl
theorem call52 : callable Try.prog 52 = true := by kernel_rfl
theorem call53 : callable Try.prog 53 = true := by kernel_rfl
theorem call54 : callable Try.prog 54 = true := by kernel_rfl
theorem call55 : callable Try.prog 55 = true := by kernel_rfl
theorem call56 : callable Try.prog 56 = true := by kernel_rfl
theorem call57 : callable Try.prog 57 = true := by kernel_rfl
theorem call59 : callable Try.prog 59 = true := by kernel_rfl
theorem call60 : callable Try.prog 60 = true := by kernel_rfl
theorem call61 : callable Try.prog 61 = true := by kernel_rfl
theorem call62 : callable Try.prog 62 = true := by kernel_rfl
theorem call65 : callable Try.prog 65 = true := by kernel_rfl
theorem call66 : callable Try.prog 66 = true := by kernel_rfl
theorem call67 : callable Try.prog 67 = true := by kernel_rfl
theorem call68 : callable Try.prog 68 = true := by kernel_rfl
theorem call71 : callable Try.prog 71 = true := by kernel_rfl
theorem call72 : callable Try.prog 72 = true := by kernel_rfl
theorem boo4 : boolT Try.prog 4 = true := by kernel_rfl

end Go.Proofs.Ytakehdnblmonlaa
