/- Closed facts on the tables of the program that the walks name. -/
import Derived.Test.YtglmhaihgpnogaaGreatDoorRows
import Derived.Test.YtglmhaihgpnogaaGreatDoorZD
set_option linter.unusedVariables false
set_option linter.unusedSimpArgs false
namespace Go.Proofs.YtglmhaihgpnogaaGreatDoor
open Go.RowKit Go.Fp

theorem mixed : Tryz.prog.follows .mixedOrders = true := by kernel_rfl
theorem agg24 : aggT Tryz.prog 24 6 = true := by kernel_rfl
theorem agg27 : aggT Tryz.prog 27 3 = true := by kernel_rfl
theorem agg42 : aggT Tryz.prog 42 4 = true := by kernel_rfl
theorem agg50 : aggT Tryz.prog 50 2 = true := by kernel_rfl
theorem agg53 : aggT Tryz.prog 53 4 = true := by kernel_rfl
theorem agg55 : aggT Tryz.prog 55 7 = true := by kernel_rfl
theorem agg59 : aggT Tryz.prog 59 6 = true := by kernel_rfl
theorem fld24_0 : fldT Tryz.prog 24 0 0 = true := by kernel_rfl
theorem fld24_1 : fldT Tryz.prog 24 1 1 = true := by kernel_rfl
theorem fld24_2 : fldT Tryz.prog 24 2 2 = true := by kernel_rfl
theorem fld24_3 : fldT Tryz.prog 24 3 3 = true := by kernel_rfl
theorem fld24_4 : fldT Tryz.prog 24 4 4 = true := by kernel_rfl
theorem fld24_5 : fldT Tryz.prog 24 5 5 = true := by kernel_rfl
theorem fld27_0 : fldT Tryz.prog 27 0 0 = true := by kernel_rfl
theorem fld27_1 : fldT Tryz.prog 27 1 1 = true := by kernel_rfl
theorem fld27_2 : fldT Tryz.prog 27 2 2 = true := by kernel_rfl
theorem fld42_0 : fldT Tryz.prog 42 0 0 = true := by kernel_rfl
theorem fld42_1 : fldT Tryz.prog 42 1 1 = true := by kernel_rfl
theorem fld42_2 : fldT Tryz.prog 42 2 2 = true := by kernel_rfl
theorem fld42_3 : fldT Tryz.prog 42 3 3 = true := by kernel_rfl
theorem fld50_0 : fldT Tryz.prog 50 0 0 = true := by kernel_rfl
theorem fld50_1 : fldT Tryz.prog 50 1 1 = true := by kernel_rfl
theorem fld53_0 : fldT Tryz.prog 53 0 0 = true := by kernel_rfl
theorem fld53_1 : fldT Tryz.prog 53 1 1 = true := by kernel_rfl
theorem fld53_2 : fldT Tryz.prog 53 2 2 = true := by kernel_rfl
theorem fld53_3 : fldT Tryz.prog 53 3 3 = true := by kernel_rfl
theorem fld55_0 : fldT Tryz.prog 55 0 0 = true := by kernel_rfl
theorem fld55_1 : fldT Tryz.prog 55 1 4 = true := by kernel_rfl
theorem fld55_2 : fldT Tryz.prog 55 2 5 = true := by kernel_rfl
theorem fld55_3 : fldT Tryz.prog 55 3 6 = true := by kernel_rfl
theorem fld59_0 : fldT Tryz.prog 59 0 0 = true := by kernel_rfl
theorem fld59_1 : fldT Tryz.prog 59 1 1 = true := by kernel_rfl
theorem fld59_2 : fldT Tryz.prog 59 2 2 = true := by kernel_rfl
theorem fld59_3 : fldT Tryz.prog 59 3 3 = true := by kernel_rfl
theorem fld59_4 : fldT Tryz.prog 59 4 4 = true := by kernel_rfl
theorem fld59_5 : fldT Tryz.prog 59 5 5 = true := by kernel_rfl
theorem inf3 : (Tryz.prog.info? 3).map (fun i => (i.zero, i.size, i.bytes)) = some (some (.int .i64 0), 1, 8) := by kernel_rfl
theorem inf9 : (Tryz.prog.info? 9).map (fun i => (i.zero, i.size, i.bytes)) = some (some (.string ByteArray.empty), 1, 16) := by kernel_rfl
theorem int3_i64 : intT Tryz.prog 3 .i64 = true := by kernel_rfl
theorem int5_u8 : intT Tryz.prog 5 .u8 = true := by kernel_rfl
theorem one22 : oneT Tryz.prog 22 = true := by kernel_rfl
theorem one3 : oneT Tryz.prog 3 = true := by kernel_rfl
theorem one39 : oneT Tryz.prog 39 = true := by kernel_rfl
theorem one4 : oneT Tryz.prog 4 = true := by kernel_rfl
theorem one40 : oneT Tryz.prog 40 = true := by kernel_rfl
theorem one51 : oneT Tryz.prog 51 = true := by kernel_rfl
theorem one9 : oneT Tryz.prog 9 = true := by kernel_rfl
theorem siz24 : sizT Tryz.prog 24 6 = true := by kernel_rfl
theorem siz27 : sizT Tryz.prog 27 3 = true := by kernel_rfl
theorem siz3 : sizT Tryz.prog 3 1 = true := by kernel_rfl
theorem siz4 : sizT Tryz.prog 4 1 = true := by kernel_rfl
theorem siz42 : sizT Tryz.prog 42 4 = true := by kernel_rfl
theorem siz50 : sizT Tryz.prog 50 2 = true := by kernel_rfl
theorem siz53 : sizT Tryz.prog 53 4 = true := by kernel_rfl
theorem siz55 : sizT Tryz.prog 55 7 = true := by kernel_rfl
theorem siz9 : sizT Tryz.prog 9 1 = true := by kernel_rfl
theorem sl22 : slT Tryz.prog 22 3 1 = true := by kernel_rfl
theorem sl37 : slT Tryz.prog 37 5 1 = true := by kernel_rfl
theorem sl39 : slT Tryz.prog 39 50 2 = true := by kernel_rfl
theorem sl40 : slT Tryz.prog 40 55 7 = true := by kernel_rfl
theorem sl51 : slT Tryz.prog 51 53 4 = true := by kernel_rfl
theorem sl84 : slT Tryz.prog 84 9 1 = true := by kernel_rfl
theorem str9 : strT Tryz.prog 9 = true := by kernel_rfl
theorem zero24 : (Tryz.prog.info? 24).bind (·.zero) = some (.agg #[.int .i64 0, .int .i64 0, .int .i64 0, .int .i64 0, .int .i64 0, .slice none 0 0]) := by kernel_rfl
theorem zero27 : (Tryz.prog.info? 27).bind (·.zero) = some (.agg #[.int .i64 0, .int .i64 0, .int .i64 0]) := by kernel_rfl
theorem zero3 : (Tryz.prog.info? 3).bind (·.zero) = some (.int .i64 0) := by kernel_rfl
theorem zero4 : (Tryz.prog.info? 4).bind (·.zero) = some (.bool false) := by kernel_rfl
theorem zero42 : (Tryz.prog.info? 42).bind (·.zero) = some (.agg #[.bool false, .slice none 0 0, .int .i64 0, .slice none 0 0]) := by kernel_rfl
theorem zero50 : (Tryz.prog.info? 50).bind (·.zero) = some (.agg #[.int .i64 0, .int .i64 0]) := by kernel_rfl
theorem zero53 : (Tryz.prog.info? 53).bind (·.zero) = some (.agg #[.int .i64 0, .int .i64 0, .int .i64 0, .slice none 0 0]) := by kernel_rfl
theorem zero55 : (Tryz.prog.info? 55).bind (·.zero) = some (.agg #[.int .i64 0, .int .i64 0, .int .i64 0, .slice none 0 0, .int .i64 0, .int .i64 0, .bool false]) := by kernel_rfl
theorem call4 : callable Tryz.prog 4 = true := by kernel_rfl
theorem call5 : callable Tryz.prog 5 = true := by kernel_rfl
theorem call6 : callable Tryz.prog 6 = true := by kernel_rfl
theorem call7 : callable Tryz.prog 7 = true := by kernel_rfl
theorem call8 : callable Tryz.prog 8 = true := by kernel_rfl
theorem call9 : callable Tryz.prog 9 = true := by kernel_rfl
theorem call10 : callable Tryz.prog 10 = true := by kernel_rfl
theorem call12 : callable Tryz.prog 12 = true := by kernel_rfl
theorem call13 : callable Tryz.prog 13 = true := by kernel_rfl
theorem call14 : callable Tryz.prog 14 = true := by kernel_rfl
theorem call15 : callable Tryz.prog 15 = true := by kernel_rfl
theorem call16 : callable Tryz.prog 16 = true := by kernel_rfl
theorem call17 : callable Tryz.prog 17 = true := by kernel_rfl
theorem call18 : callable Tryz.prog 18 = true := by kernel_rfl
theorem call19 : callable Tryz.prog 19 = true := by kernel_rfl
theorem call20 : callable Tryz.prog 20 = true := by kernel_rfl
theorem call21 : callable Tryz.prog 21 = true := by kernel_rfl
theorem call22 : callable Tryz.prog 22 = true := by kernel_rfl
theorem call23 : callable Tryz.prog 23 = true := by kernel_rfl
theorem call24 : callable Tryz.prog 24 = true := by kernel_rfl
theorem call27 : callable Tryz.prog 27 = true := by kernel_rfl
theorem call28 : callable Tryz.prog 28 = true := by kernel_rfl
theorem call29 : callable Tryz.prog 29 = true := by kernel_rfl
theorem call30 : callable Tryz.prog 30 = true := by kernel_rfl
theorem call32 : callable Tryz.prog 32 = true := by kernel_rfl
theorem call33 : callable Tryz.prog 33 = true := by kernel_rfl
theorem call35 : callable Tryz.prog 35 = true := by kernel_rfl
theorem call36 : callable Tryz.prog 36 = true := by kernel_rfl
theorem call37 : callable Tryz.prog 37 = true := by kernel_rfl
theorem call38 : callable Tryz.prog 38 = true := by kernel_rfl
theorem call45 : callable Tryz.prog 45 = true := by kernel_rfl
theorem call46 : callable Tryz.prog 46 = true := by kernel_rfl
theorem call47 : callable Tryz.prog 47 = true := by kernel_rfl
theorem call48 : callable Tryz.prog 48 = true := by kernel_rfl
theorem call49 : callable Tryz.prog 49 = true := by kernel_rfl
theorem call51 : callable Tryz.prog 51 = true := by kernel_rfl
theorem call52 : callable Tryz.prog 52 = true := by kernel_rfl
theorem call60 : callable Tryz.prog 60 = true := by kernel_rfl
theorem call61 : callable Tryz.prog 61 = true := by kernel_rfl
theorem call62 : callable Tryz.prog 62 = true := by kernel_rfl
theorem call63 : callable Tryz.prog 63 = true := by kernel_rfl
theorem call64 : callable Tryz.prog 64 = true := by kernel_rfl
theorem call65 : callable Tryz.prog 65 = true := by kernel_rfl
theorem call66 : callable Tryz.prog 66 = true := by kernel_rfl
theorem call71 : callable Tryz.prog 71 = true := by kernel_rfl
theorem call73 : callable Tryz.prog 73 = true := by kernel_rfl
theorem call74 : callable Tryz.prog 74 = true := by kernel_rfl
theorem call83 : callable Tryz.prog 83 = true := by kernel_rfl
theorem call84 : callable Tryz.prog 84 = true := by kernel_rfl
theorem call85 : callable Tryz.prog 85 = true := by kernel_rfl
theorem call94 : callable Tryz.prog 94 = true := by kernel_rfl
theorem call106 : callable Tryz.prog 106 = true := by kernel_rfl
theorem eqt27 : eqT Tryz.prog 27 [.int .i64, .int .i64, .int .i64] := ⟨by kernel_rfl, by kernel_rfl, by kernel_rfl⟩
theorem ext114_1 : Tryz.prog.funcs[114]? = some Tryz.f114 := Tryz.func114
theorem ext114_2 : (Tryz.f114.name == "runtime.NumGoroutine") = false := by kernel_rfl
theorem ext114_3 : Tryz.f114.body.isNone = true := by kernel_rfl
theorem ext114_4 : Extern.findNext Tryz.f114 = none := by kernel_rfl
theorem ext114_5 : Extern.find Tryz.f114 = some Extern.BytealgIndexByte.indexByte := by kernel_rfl
theorem ext93_1 : Tryz.prog.funcs[93]? = some Tryz.f93 := Tryz.func93
theorem ext93_2 : (Tryz.f93.name == "runtime.NumGoroutine") = false := by kernel_rfl
theorem ext93_3 : Tryz.f93.body.isNone = true := by kernel_rfl
theorem ext93_4 : Extern.findNext Tryz.f93 = none := by kernel_rfl
theorem ext93_5 : Extern.find Tryz.f93 = some Extern.BytealgCount.count := by kernel_rfl

end Go.Proofs.YtglmhaihgpnogaaGreatDoor
