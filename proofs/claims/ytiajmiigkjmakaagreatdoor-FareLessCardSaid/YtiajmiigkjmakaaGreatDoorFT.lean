/- Closed facts on the tables of the program that the walks name. -/
import Derived.Test.YtiajmiigkjmakaaGreatDoorRows
import Derived.Test.YtiajmiigkjmakaaGreatDoorFD
set_option linter.unusedVariables false
set_option linter.unusedSimpArgs false
namespace Go.Proofs.YtiajmiigkjmakaaGreatDoor
open Go.RowKit Go.Fp

theorem mixed : Tryz.prog.follows .mixedOrders = true := by kernel_rfl
theorem agg25 : aggT Tryz.prog 25 4 = true := by kernel_rfl
theorem agg29 : aggT Tryz.prog 29 3 = true := by kernel_rfl
theorem agg38 : aggT Tryz.prog 38 6 = true := by kernel_rfl
theorem agg45 : aggT Tryz.prog 45 2 = true := by kernel_rfl
theorem agg48 : aggT Tryz.prog 48 4 = true := by kernel_rfl
theorem agg50 : aggT Tryz.prog 50 7 = true := by kernel_rfl
theorem agg58 : aggT Tryz.prog 58 2 = true := by kernel_rfl
theorem fld25_0 : fldT Tryz.prog 25 0 0 = true := by kernel_rfl
theorem fld25_1 : fldT Tryz.prog 25 1 1 = true := by kernel_rfl
theorem fld25_2 : fldT Tryz.prog 25 2 2 = true := by kernel_rfl
theorem fld25_3 : fldT Tryz.prog 25 3 3 = true := by kernel_rfl
theorem fld29_0 : fldT Tryz.prog 29 0 0 = true := by kernel_rfl
theorem fld29_1 : fldT Tryz.prog 29 1 1 = true := by kernel_rfl
theorem fld29_2 : fldT Tryz.prog 29 2 2 = true := by kernel_rfl
theorem fld38_0 : fldT Tryz.prog 38 0 0 = true := by kernel_rfl
theorem fld38_1 : fldT Tryz.prog 38 1 1 = true := by kernel_rfl
theorem fld38_2 : fldT Tryz.prog 38 2 2 = true := by kernel_rfl
theorem fld38_3 : fldT Tryz.prog 38 3 3 = true := by kernel_rfl
theorem fld38_4 : fldT Tryz.prog 38 4 4 = true := by kernel_rfl
theorem fld38_5 : fldT Tryz.prog 38 5 5 = true := by kernel_rfl
theorem fld45_0 : fldT Tryz.prog 45 0 0 = true := by kernel_rfl
theorem fld45_1 : fldT Tryz.prog 45 1 1 = true := by kernel_rfl
theorem fld48_0 : fldT Tryz.prog 48 0 0 = true := by kernel_rfl
theorem fld48_1 : fldT Tryz.prog 48 1 1 = true := by kernel_rfl
theorem fld48_2 : fldT Tryz.prog 48 2 2 = true := by kernel_rfl
theorem fld48_3 : fldT Tryz.prog 48 3 3 = true := by kernel_rfl
theorem fld50_0 : fldT Tryz.prog 50 0 0 = true := by kernel_rfl
theorem fld50_1 : fldT Tryz.prog 50 1 4 = true := by kernel_rfl
theorem fld50_2 : fldT Tryz.prog 50 2 5 = true := by kernel_rfl
theorem fld50_3 : fldT Tryz.prog 50 3 6 = true := by kernel_rfl
theorem fld58_0 : fldT Tryz.prog 58 0 0 = true := by kernel_rfl
theorem fld58_1 : fldT Tryz.prog 58 1 1 = true := by kernel_rfl
theorem inf3 : (Tryz.prog.info? 3).map (fun i => (i.zero, i.size, i.bytes)) = some (some (.int .i64 0), 1, 8) := by kernel_rfl
theorem inf58 : (Tryz.prog.info? 58).map (fun i => (i.zero, i.size, i.bytes)) = some (some (.agg #[.int .i64 0, .int .i64 0]), 2, 16) := by kernel_rfl
theorem one22 : oneT Tryz.prog 22 = true := by kernel_rfl
theorem one23 : oneT Tryz.prog 23 = true := by kernel_rfl
theorem one27 : oneT Tryz.prog 27 = true := by kernel_rfl
theorem one3 : oneT Tryz.prog 3 = true := by kernel_rfl
theorem one33 : oneT Tryz.prog 33 = true := by kernel_rfl
theorem one4 : oneT Tryz.prog 4 = true := by kernel_rfl
theorem one46 : oneT Tryz.prog 46 = true := by kernel_rfl
theorem siz25 : sizT Tryz.prog 25 4 = true := by kernel_rfl
theorem siz29 : sizT Tryz.prog 29 3 = true := by kernel_rfl
theorem siz3 : sizT Tryz.prog 3 1 = true := by kernel_rfl
theorem siz38 : sizT Tryz.prog 38 6 = true := by kernel_rfl
theorem siz45 : sizT Tryz.prog 45 2 = true := by kernel_rfl
theorem siz48 : sizT Tryz.prog 48 4 = true := by kernel_rfl
theorem siz50 : sizT Tryz.prog 50 7 = true := by kernel_rfl
theorem siz58 : sizT Tryz.prog 58 2 = true := by kernel_rfl
theorem sl22 : slT Tryz.prog 22 45 2 = true := by kernel_rfl
theorem sl23 : slT Tryz.prog 23 50 7 = true := by kernel_rfl
theorem sl26 : slT Tryz.prog 26 38 6 = true := by kernel_rfl
theorem sl27 : slT Tryz.prog 27 3 1 = true := by kernel_rfl
theorem sl33 : slT Tryz.prog 33 29 3 = true := by kernel_rfl
theorem sl34 : slT Tryz.prog 34 58 2 = true := by kernel_rfl
theorem sl46 : slT Tryz.prog 46 48 4 = true := by kernel_rfl
theorem zero25 : (Tryz.prog.info? 25).bind (·.zero) = some (.agg #[.bool false, .slice none 0 0, .int .i64 0, .slice none 0 0]) := by kernel_rfl
theorem zero29 : (Tryz.prog.info? 29).bind (·.zero) = some (.agg #[.int .i64 0, .int .i64 0, .slice none 0 0]) := by kernel_rfl
theorem zero3 : (Tryz.prog.info? 3).bind (·.zero) = some (.int .i64 0) := by kernel_rfl
theorem zero38 : (Tryz.prog.info? 38).bind (·.zero) = some (.agg #[.int .i64 0, .int .i64 0, .int .i64 0, .int .i64 0, .bool false, .slice none 0 0]) := by kernel_rfl
theorem zero45 : (Tryz.prog.info? 45).bind (·.zero) = some (.agg #[.int .i64 0, .int .i64 0]) := by kernel_rfl
theorem zero48 : (Tryz.prog.info? 48).bind (·.zero) = some (.agg #[.int .i64 0, .int .i64 0, .int .i64 0, .slice none 0 0]) := by kernel_rfl
theorem zero50 : (Tryz.prog.info? 50).bind (·.zero) = some (.agg #[.int .i64 0, .int .i64 0, .int .i64 0, .slice none 0 0, .int .i64 0, .int .i64 0, .bool false]) := by kernel_rfl
theorem zero58 : (Tryz.prog.info? 58).bind (·.zero) = some (.agg #[.int .i64 0, .int .i64 0]) := by kernel_rfl
theorem call4 : callable Tryz.prog 4 = true := by kernel_rfl
theorem call5 : callable Tryz.prog 5 = true := by kernel_rfl
theorem call6 : callable Tryz.prog 6 = true := by kernel_rfl
theorem call7 : callable Tryz.prog 7 = true := by kernel_rfl
theorem call8 : callable Tryz.prog 8 = true := by kernel_rfl
theorem call10 : callable Tryz.prog 10 = true := by kernel_rfl
theorem call11 : callable Tryz.prog 11 = true := by kernel_rfl
theorem call12 : callable Tryz.prog 12 = true := by kernel_rfl
theorem call13 : callable Tryz.prog 13 = true := by kernel_rfl
theorem call14 : callable Tryz.prog 14 = true := by kernel_rfl
theorem call15 : callable Tryz.prog 15 = true := by kernel_rfl
theorem call16 : callable Tryz.prog 16 = true := by kernel_rfl
theorem call17 : callable Tryz.prog 17 = true := by kernel_rfl
theorem call18 : callable Tryz.prog 18 = true := by kernel_rfl
theorem call19 : callable Tryz.prog 19 = true := by kernel_rfl
theorem call20 : callable Tryz.prog 20 = true := by kernel_rfl
theorem call21 : callable Tryz.prog 21 = true := by kernel_rfl
theorem call22 : callable Tryz.prog 22 = true := by kernel_rfl
theorem call23 : callable Tryz.prog 23 = true := by kernel_rfl
theorem call24 : callable Tryz.prog 24 = true := by kernel_rfl
theorem call27 : callable Tryz.prog 27 = true := by kernel_rfl
theorem call28 : callable Tryz.prog 28 = true := by kernel_rfl
theorem call29 : callable Tryz.prog 29 = true := by kernel_rfl
theorem call30 : callable Tryz.prog 30 = true := by kernel_rfl
theorem call31 : callable Tryz.prog 31 = true := by kernel_rfl
theorem call32 : callable Tryz.prog 32 = true := by kernel_rfl
theorem call33 : callable Tryz.prog 33 = true := by kernel_rfl
theorem call34 : callable Tryz.prog 34 = true := by kernel_rfl
theorem call35 : callable Tryz.prog 35 = true := by kernel_rfl
theorem call36 : callable Tryz.prog 36 = true := by kernel_rfl
theorem call37 : callable Tryz.prog 37 = true := by kernel_rfl
theorem call46 : callable Tryz.prog 46 = true := by kernel_rfl
theorem call47 : callable Tryz.prog 47 = true := by kernel_rfl
theorem call48 : callable Tryz.prog 48 = true := by kernel_rfl
theorem call49 : callable Tryz.prog 49 = true := by kernel_rfl
theorem call50 : callable Tryz.prog 50 = true := by kernel_rfl
theorem call51 : callable Tryz.prog 51 = true := by kernel_rfl
theorem call52 : callable Tryz.prog 52 = true := by kernel_rfl
theorem call53 : callable Tryz.prog 53 = true := by kernel_rfl
theorem call54 : callable Tryz.prog 54 = true := by kernel_rfl
theorem call55 : callable Tryz.prog 55 = true := by kernel_rfl
theorem call66 : callable Tryz.prog 66 = true := by kernel_rfl
theorem call67 : callable Tryz.prog 67 = true := by kernel_rfl
theorem call68 : callable Tryz.prog 68 = true := by kernel_rfl

end Go.Proofs.YtiajmiigkjmakaaGreatDoor
