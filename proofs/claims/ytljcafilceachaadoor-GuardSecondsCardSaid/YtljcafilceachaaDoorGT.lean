/- Closed facts on the tables of the program that the walks name. -/
import Derived.Test.YtljcafilceachaaDoorRows
import Derived.Test.YtljcafilceachaaDoorGD
set_option linter.unusedVariables false
set_option linter.unusedSimpArgs false
namespace Go.Proofs.YtljcafilceachaaDoor
open Go.RowKit Go.Fp

theorem mixed : Tryd.prog.follows .mixedOrders = true := by kernel_rfl
theorem agg122 : aggT Tryd.prog 122 9 = true := by kernel_rfl
theorem agg36 : aggT Tryd.prog 36 8 = true := by kernel_rfl
theorem agg43 : aggT Tryd.prog 43 10 = true := by kernel_rfl
theorem agg82 : aggT Tryd.prog 82 3 = true := by kernel_rfl
theorem agg97 : aggT Tryd.prog 97 3 = true := by kernel_rfl
theorem agg99 : aggT Tryd.prog 99 3 = true := by kernel_rfl
theorem fld170_0 : fldT Tryd.prog 170 0 0 = true := by kernel_rfl
theorem fld170_1 : fldT Tryd.prog 170 1 10 = true := by kernel_rfl
theorem fld170_2 : fldT Tryd.prog 170 2 11 = true := by kernel_rfl
theorem fld170_3 : fldT Tryd.prog 170 3 12 = true := by kernel_rfl
theorem fld170_4 : fldT Tryd.prog 170 4 13 = true := by kernel_rfl
theorem fld170_5 : fldT Tryd.prog 170 5 14 = true := by kernel_rfl
theorem fld174_0 : fldT Tryd.prog 174 0 0 = true := by kernel_rfl
theorem fld174_1 : fldT Tryd.prog 174 1 10 = true := by kernel_rfl
theorem fld174_2 : fldT Tryd.prog 174 2 11 = true := by kernel_rfl
theorem fld36_0 : fldT Tryd.prog 36 0 0 = true := by kernel_rfl
theorem fld36_1 : fldT Tryd.prog 36 1 1 = true := by kernel_rfl
theorem fld36_2 : fldT Tryd.prog 36 2 2 = true := by kernel_rfl
theorem fld36_3 : fldT Tryd.prog 36 3 3 = true := by kernel_rfl
theorem fld36_4 : fldT Tryd.prog 36 4 4 = true := by kernel_rfl
theorem fld36_5 : fldT Tryd.prog 36 5 5 = true := by kernel_rfl
theorem fld36_6 : fldT Tryd.prog 36 6 6 = true := by kernel_rfl
theorem fld36_7 : fldT Tryd.prog 36 7 7 = true := by kernel_rfl
theorem fld43_0 : fldT Tryd.prog 43 0 0 = true := by kernel_rfl
theorem fld43_1 : fldT Tryd.prog 43 1 1 = true := by kernel_rfl
theorem fld43_2 : fldT Tryd.prog 43 2 2 = true := by kernel_rfl
theorem fld43_3 : fldT Tryd.prog 43 3 3 = true := by kernel_rfl
theorem fld43_4 : fldT Tryd.prog 43 4 4 = true := by kernel_rfl
theorem fld43_5 : fldT Tryd.prog 43 5 5 = true := by kernel_rfl
theorem fld43_6 : fldT Tryd.prog 43 6 6 = true := by kernel_rfl
theorem fld43_7 : fldT Tryd.prog 43 7 7 = true := by kernel_rfl
theorem fld43_8 : fldT Tryd.prog 43 8 8 = true := by kernel_rfl
theorem fld43_9 : fldT Tryd.prog 43 9 9 = true := by kernel_rfl
theorem fld82_0 : fldT Tryd.prog 82 0 0 = true := by kernel_rfl
theorem fld82_1 : fldT Tryd.prog 82 1 1 = true := by kernel_rfl
theorem fld82_2 : fldT Tryd.prog 82 2 2 = true := by kernel_rfl
theorem fld97_0 : fldT Tryd.prog 97 0 0 = true := by kernel_rfl
theorem fld97_1 : fldT Tryd.prog 97 1 1 = true := by kernel_rfl
theorem fld97_2 : fldT Tryd.prog 97 2 2 = true := by kernel_rfl
theorem fld99_0 : fldT Tryd.prog 99 0 0 = true := by kernel_rfl
theorem fld99_1 : fldT Tryd.prog 99 1 1 = true := by kernel_rfl
theorem fld99_2 : fldT Tryd.prog 99 2 2 = true := by kernel_rfl
theorem inf3 : (Tryd.prog.info? 3).map (fun i => (i.zero, i.size, i.bytes)) = some (some (.int .i64 0), 1, 8) := by kernel_rfl
theorem inf9 : (Tryd.prog.info? 9).map (fun i => (i.zero, i.size, i.bytes)) = some (some (.string ByteArray.empty), 1, 16) := by kernel_rfl
theorem int5_u8 : intT Tryd.prog 5 .u8 = true := by kernel_rfl
theorem one168 : oneT Tryd.prog 168 = true := by kernel_rfl
theorem one24 : oneT Tryd.prog 24 = true := by kernel_rfl
theorem one3 : oneT Tryd.prog 3 = true := by kernel_rfl
theorem one5 : oneT Tryd.prog 5 = true := by kernel_rfl
theorem one80 : oneT Tryd.prog 80 = true := by kernel_rfl
theorem one9 : oneT Tryd.prog 9 = true := by kernel_rfl
theorem siz121 : sizT Tryd.prog 121 18 = true := by kernel_rfl
theorem siz122 : sizT Tryd.prog 122 9 = true := by kernel_rfl
theorem siz24 : sizT Tryd.prog 24 1 = true := by kernel_rfl
theorem siz3 : sizT Tryd.prog 3 1 = true := by kernel_rfl
theorem siz36 : sizT Tryd.prog 36 8 = true := by kernel_rfl
theorem siz82 : sizT Tryd.prog 82 3 = true := by kernel_rfl
theorem siz9 : sizT Tryd.prog 9 1 = true := by kernel_rfl
theorem siz97 : sizT Tryd.prog 97 3 = true := by kernel_rfl
theorem siz99 : sizT Tryd.prog 99 3 = true := by kernel_rfl
theorem sl109 : slT Tryd.prog 109 9 1 = true := by kernel_rfl
theorem sl24 : slT Tryd.prog 24 3 1 = true := by kernel_rfl
theorem sl26 : slT Tryd.prog 26 5 1 = true := by kernel_rfl
theorem sl80 : slT Tryd.prog 80 97 3 = true := by kernel_rfl
theorem sl95 : slT Tryd.prog 95 99 3 = true := by kernel_rfl
theorem str9 : strT Tryd.prog 9 = true := by kernel_rfl
theorem zero121 : (Tryd.prog.info? 121).bind (·.zero) = some (.agg #[.int .i64 0, .int .i64 0, .int .i64 0, .int .i64 0, .int .i64 0, .int .i64 0, .int .i64 0, .int .i64 0, .int .i64 0, .int .i64 0, .int .i64 0, .int .i64 0, .int .i64 0, .int .i64 0, .int .i64 0, .int .i64 0, .int .i64 0, .int .i64 0]) := by kernel_rfl
theorem zero122 : (Tryd.prog.info? 122).bind (·.zero) = some (.agg #[.int .i64 0, .int .i64 0, .int .i64 0, .int .i64 0, .int .i64 0, .int .i64 0, .int .i64 0, .int .i64 0, .int .i64 0]) := by kernel_rfl
theorem zero24 : (Tryd.prog.info? 24).bind (·.zero) = some (.slice none 0 0) := by kernel_rfl
theorem zero36 : (Tryd.prog.info? 36).bind (·.zero) = some (.agg #[.int .i64 0, .int .i64 0, .int .i64 0, .int .i64 0, .int .i64 0, .int .i64 0, .int .i64 0, .int .i64 0]) := by kernel_rfl
theorem zero82 : (Tryd.prog.info? 82).bind (·.zero) = some (.agg #[.int .i64 0, .int .i64 0, .int .i64 0]) := by kernel_rfl
theorem zero97 : (Tryd.prog.info? 97).bind (·.zero) = some (.agg #[.int .i64 0, .int .i64 0, .int .i64 0]) := by kernel_rfl
theorem zero99 : (Tryd.prog.info? 99).bind (·.zero) = some (.agg #[.int .i64 0, .int .i64 0, .int .i64 0]) := by kernel_rfl
theorem call14 : callable Tryd.prog 14 = true := by kernel_rfl
theorem call20 : callable Tryd.prog 20 = true := by kernel_rfl
theorem call22 : callable Tryd.prog 22 = true := by kernel_rfl
theorem call23 : callable Tryd.prog 23 = true := by kernel_rfl
theorem call24 : callable Tryd.prog 24 = true := by kernel_rfl
theorem call40 : callable Tryd.prog 40 = true := by kernel_rfl
theorem call41 : callable Tryd.prog 41 = true := by kernel_rfl
theorem call46 : callable Tryd.prog 46 = true := by kernel_rfl
theorem call47 : callable Tryd.prog 47 = true := by kernel_rfl
theorem call51 : callable Tryd.prog 51 = true := by kernel_rfl
theorem call54 : callable Tryd.prog 54 = true := by kernel_rfl
theorem call55 : callable Tryd.prog 55 = true := by kernel_rfl
theorem call57 : callable Tryd.prog 57 = true := by kernel_rfl
theorem call58 : callable Tryd.prog 58 = true := by kernel_rfl
theorem call59 : callable Tryd.prog 59 = true := by kernel_rfl
theorem call60 : callable Tryd.prog 60 = true := by kernel_rfl
theorem call63 : callable Tryd.prog 63 = true := by kernel_rfl
theorem call69 : callable Tryd.prog 69 = true := by kernel_rfl
theorem call70 : callable Tryd.prog 70 = true := by kernel_rfl
theorem call71 : callable Tryd.prog 71 = true := by kernel_rfl
theorem call72 : callable Tryd.prog 72 = true := by kernel_rfl
theorem call73 : callable Tryd.prog 73 = true := by kernel_rfl
theorem call75 : callable Tryd.prog 75 = true := by kernel_rfl
theorem call80 : callable Tryd.prog 80 = true := by kernel_rfl
theorem call81 : callable Tryd.prog 81 = true := by kernel_rfl
theorem call84 : callable Tryd.prog 84 = true := by kernel_rfl
theorem call95 : callable Tryd.prog 95 = true := by kernel_rfl
theorem call96 : callable Tryd.prog 96 = true := by kernel_rfl
theorem call97 : callable Tryd.prog 97 = true := by kernel_rfl
theorem call98 : callable Tryd.prog 98 = true := by kernel_rfl
theorem call103 : callable Tryd.prog 103 = true := by kernel_rfl
theorem call106 : callable Tryd.prog 106 = true := by kernel_rfl
theorem call107 : callable Tryd.prog 107 = true := by kernel_rfl
theorem call111 : callable Tryd.prog 111 = true := by kernel_rfl
theorem call112 : callable Tryd.prog 112 = true := by kernel_rfl
theorem call113 : callable Tryd.prog 113 = true := by kernel_rfl
theorem call126 : callable Tryd.prog 126 = true := by kernel_rfl
theorem call141 : callable Tryd.prog 141 = true := by kernel_rfl
theorem arr120 : arrT Tryd.prog 120 2 3 1 = true := by kernel_rfl
theorem arr121 : arrT Tryd.prog 121 9 120 2 = true := by kernel_rfl
theorem arr122 : arrT Tryd.prog 122 9 3 1 = true := by kernel_rfl
theorem eqt36 : eqT Tryd.prog 36 [.int .i64, .int .i64, .int .i64, .int .i64, .int .i64, .int .i64, .int .i64, .int .i64] := ⟨by kernel_rfl, by kernel_rfl, by kernel_rfl⟩
theorem eqt82 : eqT Tryd.prog 82 [.int .i64, .int .i64, .int .i64] := ⟨by kernel_rfl, by kernel_rfl, by kernel_rfl⟩
theorem ext125_1 : Tryd.prog.funcs[125]? = some Tryd.f125 := Tryd.func125
theorem ext125_2 : (Tryd.f125.name == "runtime.NumGoroutine") = false := by kernel_rfl
theorem ext125_3 : Tryd.f125.body.isNone = true := by kernel_rfl
theorem ext125_4 : Extern.findNext Tryd.f125 = none := by kernel_rfl
theorem ext125_5 : Extern.find Tryd.f125 = some Extern.BytealgCount.count := by kernel_rfl
theorem ext151_1 : Tryd.prog.funcs[151]? = some Tryd.f151 := Tryd.func151
theorem ext151_2 : (Tryd.f151.name == "runtime.NumGoroutine") = false := by kernel_rfl
theorem ext151_3 : Tryd.f151.body.isNone = true := by kernel_rfl
theorem ext151_4 : Extern.findNext Tryd.f151 = none := by kernel_rfl
theorem ext151_5 : Extern.find Tryd.f151 = some Extern.BytealgIndexByte.indexByte := by kernel_rfl
theorem kok3 : KeyOk Tryd.prog 3 (RT.int .i64) false := keyok_int (by kernel_rfl) (by kernel_rfl)
theorem mapt168 : Tryd.prog.underlying 168 = some (.map 3 24) := by kernel_rfl
theorem ift149 : ifT Tryd.prog 149 := by unfold ifT; kernel_rfl

end Go.Proofs.YtljcafilceachaaDoor
