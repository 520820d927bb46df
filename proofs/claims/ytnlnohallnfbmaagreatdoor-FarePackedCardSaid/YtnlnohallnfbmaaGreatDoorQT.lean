/- Closed facts on the tables of the program that the walks name. -/
import Derived.Test.YtnlnohallnfbmaaGreatDoorRows
import Derived.Test.YtnlnohallnfbmaaGreatDoorQD
set_option linter.unusedVariables false
set_option linter.unusedSimpArgs false
namespace Go.Proofs.YtnlnohallnfbmaaGreatDoor
open Go.RowKit Go.Fp

theorem mixed : Tryz.prog.follows .mixedOrders = true := by kernel_rfl
theorem agg46 : aggT Tryz.prog 46 2 = true := by kernel_rfl
theorem agg52 : aggT Tryz.prog 52 4 = true := by kernel_rfl
theorem agg60 : aggT Tryz.prog 60 2 = true := by kernel_rfl
theorem agg63 : aggT Tryz.prog 63 4 = true := by kernel_rfl
theorem agg65 : aggT Tryz.prog 65 7 = true := by kernel_rfl
theorem agg69 : aggT Tryz.prog 69 6 = true := by kernel_rfl
theorem fld46_0 : fldT Tryz.prog 46 0 0 = true := by kernel_rfl
theorem fld46_1 : fldT Tryz.prog 46 1 1 = true := by kernel_rfl
theorem fld52_0 : fldT Tryz.prog 52 0 0 = true := by kernel_rfl
theorem fld52_1 : fldT Tryz.prog 52 1 1 = true := by kernel_rfl
theorem fld52_2 : fldT Tryz.prog 52 2 2 = true := by kernel_rfl
theorem fld52_3 : fldT Tryz.prog 52 3 3 = true := by kernel_rfl
theorem fld60_0 : fldT Tryz.prog 60 0 0 = true := by kernel_rfl
theorem fld60_1 : fldT Tryz.prog 60 1 1 = true := by kernel_rfl
theorem fld63_0 : fldT Tryz.prog 63 0 0 = true := by kernel_rfl
theorem fld63_1 : fldT Tryz.prog 63 1 1 = true := by kernel_rfl
theorem fld63_2 : fldT Tryz.prog 63 2 2 = true := by kernel_rfl
theorem fld63_3 : fldT Tryz.prog 63 3 3 = true := by kernel_rfl
theorem fld65_0 : fldT Tryz.prog 65 0 0 = true := by kernel_rfl
theorem fld65_1 : fldT Tryz.prog 65 1 4 = true := by kernel_rfl
theorem fld65_2 : fldT Tryz.prog 65 2 5 = true := by kernel_rfl
theorem fld65_3 : fldT Tryz.prog 65 3 6 = true := by kernel_rfl
theorem fld69_0 : fldT Tryz.prog 69 0 0 = true := by kernel_rfl
theorem fld69_1 : fldT Tryz.prog 69 1 1 = true := by kernel_rfl
theorem fld69_2 : fldT Tryz.prog 69 2 2 = true := by kernel_rfl
theorem fld69_3 : fldT Tryz.prog 69 3 3 = true := by kernel_rfl
theorem fld69_4 : fldT Tryz.prog 69 4 4 = true := by kernel_rfl
theorem fld69_5 : fldT Tryz.prog 69 5 5 = true := by kernel_rfl
theorem inf3 : (Tryz.prog.info? 3).map (fun i => (i.zero, i.size, i.bytes)) = some (some (.int .i64 0), 1, 8) := by kernel_rfl
theorem int101_u64 : intT Tryz.prog 101 .u64 = true := by kernel_rfl
theorem int3_i64 : intT Tryz.prog 3 .i64 = true := by kernel_rfl
theorem one22 : oneT Tryz.prog 22 = true := by kernel_rfl
theorem one3 : oneT Tryz.prog 3 = true := by kernel_rfl
theorem one4 : oneT Tryz.prog 4 = true := by kernel_rfl
theorem one43 : oneT Tryz.prog 43 = true := by kernel_rfl
theorem one49 : oneT Tryz.prog 49 = true := by kernel_rfl
theorem one50 : oneT Tryz.prog 50 = true := by kernel_rfl
theorem one61 : oneT Tryz.prog 61 = true := by kernel_rfl
theorem siz3 : sizT Tryz.prog 3 1 = true := by kernel_rfl
theorem siz46 : sizT Tryz.prog 46 2 = true := by kernel_rfl
theorem siz52 : sizT Tryz.prog 52 4 = true := by kernel_rfl
theorem siz60 : sizT Tryz.prog 60 2 = true := by kernel_rfl
theorem siz63 : sizT Tryz.prog 63 4 = true := by kernel_rfl
theorem siz65 : sizT Tryz.prog 65 7 = true := by kernel_rfl
theorem sl22 : slT Tryz.prog 22 3 1 = true := by kernel_rfl
theorem sl43 : slT Tryz.prog 43 46 2 = true := by kernel_rfl
theorem sl49 : slT Tryz.prog 49 60 2 = true := by kernel_rfl
theorem sl50 : slT Tryz.prog 50 65 7 = true := by kernel_rfl
theorem sl61 : slT Tryz.prog 61 63 4 = true := by kernel_rfl
theorem zero3 : (Tryz.prog.info? 3).bind (·.zero) = some (.int .i64 0) := by kernel_rfl
theorem zero46 : (Tryz.prog.info? 46).bind (·.zero) = some (.agg #[.int .i64 0, .int .i64 0]) := by kernel_rfl
theorem zero52 : (Tryz.prog.info? 52).bind (·.zero) = some (.agg #[.bool false, .slice none 0 0, .int .i64 0, .slice none 0 0]) := by kernel_rfl
theorem zero60 : (Tryz.prog.info? 60).bind (·.zero) = some (.agg #[.int .i64 0, .int .i64 0]) := by kernel_rfl
theorem zero63 : (Tryz.prog.info? 63).bind (·.zero) = some (.agg #[.int .i64 0, .int .i64 0, .int .i64 0, .slice none 0 0]) := by kernel_rfl
theorem zero65 : (Tryz.prog.info? 65).bind (·.zero) = some (.agg #[.int .i64 0, .int .i64 0, .int .i64 0, .slice none 0 0, .int .i64 0, .int .i64 0, .bool false]) := by kernel_rfl
theorem call6 : callable Tryz.prog 6 = true := by kernel_rfl
theorem call8 : callable Tryz.prog 8 = true := by kernel_rfl
theorem call15 : callable Tryz.prog 15 = true := by kernel_rfl
theorem call16 : callable Tryz.prog 16 = true := by kernel_rfl
theorem call17 : callable Tryz.prog 17 = true := by kernel_rfl
theorem call19 : callable Tryz.prog 19 = true := by kernel_rfl
theorem call22 : callable Tryz.prog 22 = true := by kernel_rfl
theorem call27 : callable Tryz.prog 27 = true := by kernel_rfl
theorem call32 : callable Tryz.prog 32 = true := by kernel_rfl
theorem call34 : callable Tryz.prog 34 = true := by kernel_rfl
theorem call35 : callable Tryz.prog 35 = true := by kernel_rfl
theorem call36 : callable Tryz.prog 36 = true := by kernel_rfl
theorem call37 : callable Tryz.prog 37 = true := by kernel_rfl
theorem call38 : callable Tryz.prog 38 = true := by kernel_rfl
theorem call39 : callable Tryz.prog 39 = true := by kernel_rfl
theorem call42 : callable Tryz.prog 42 = true := by kernel_rfl
theorem call43 : callable Tryz.prog 43 = true := by kernel_rfl
theorem call44 : callable Tryz.prog 44 = true := by kernel_rfl
theorem call45 : callable Tryz.prog 45 = true := by kernel_rfl
theorem call54 : callable Tryz.prog 54 = true := by kernel_rfl
theorem call55 : callable Tryz.prog 55 = true := by kernel_rfl
theorem call56 : callable Tryz.prog 56 = true := by kernel_rfl
theorem call63 : callable Tryz.prog 63 = true := by kernel_rfl
theorem call64 : callable Tryz.prog 64 = true := by kernel_rfl
theorem call65 : callable Tryz.prog 65 = true := by kernel_rfl
theorem call66 : callable Tryz.prog 66 = true := by kernel_rfl
theorem call67 : callable Tryz.prog 67 = true := by kernel_rfl
theorem call72 : callable Tryz.prog 72 = true := by kernel_rfl
theorem call73 : callable Tryz.prog 73 = true := by kernel_rfl
theorem call75 : callable Tryz.prog 75 = true := by kernel_rfl
theorem call82 : callable Tryz.prog 82 = true := by kernel_rfl
theorem call83 : callable Tryz.prog 83 = true := by kernel_rfl
theorem call84 : callable Tryz.prog 84 = true := by kernel_rfl
theorem call85 : callable Tryz.prog 85 = true := by kernel_rfl
theorem call86 : callable Tryz.prog 86 = true := by kernel_rfl
theorem call87 : callable Tryz.prog 87 = true := by kernel_rfl
theorem call88 : callable Tryz.prog 88 = true := by kernel_rfl
theorem call99 : callable Tryz.prog 99 = true := by kernel_rfl
theorem call106 : callable Tryz.prog 106 = true := by kernel_rfl
theorem call107 : callable Tryz.prog 107 = true := by kernel_rfl
theorem call108 : callable Tryz.prog 108 = true := by kernel_rfl
theorem call123 : callable Tryz.prog 123 = true := by kernel_rfl

end Go.Proofs.YtnlnohallnfbmaaGreatDoor
