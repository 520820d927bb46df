/- Closed facts on the tables of the program that the walks name. -/
import Derived.Test.YtbggpdpcndpaoaaDoorRows
import Derived.Test.YtbggpdpcndpaoaaDoorZD
set_option linter.unusedVariables false
set_option linter.unusedSimpArgs false
namespace Go.Proofs.YtbggpdpcndpaoaaDoor
open Go.RowKit Go.Fp

theorem mixed : Tryd.prog.follows .mixedOrders = true := by kernel_rfl
theorem agg31 : aggT Tryd.prog 31 5 = true := by kernel_rfl
theorem agg33 : aggT Tryd.prog 33 8 = true := by kernel_rfl
theorem agg47 : aggT Tryd.prog 47 4 = true := by kernel_rfl
theorem agg49 : aggT Tryd.prog 49 10 = true := by kernel_rfl
theorem agg71 : aggT Tryd.prog 71 3 = true := by kernel_rfl
theorem fld31_0 : fldT Tryd.prog 31 0 0 = true := by kernel_rfl
theorem fld31_1 : fldT Tryd.prog 31 1 1 = true := by kernel_rfl
theorem fld31_2 : fldT Tryd.prog 31 2 2 = true := by kernel_rfl
theorem fld31_3 : fldT Tryd.prog 31 3 3 = true := by kernel_rfl
theorem fld31_4 : fldT Tryd.prog 31 4 4 = true := by kernel_rfl
theorem fld33_0 : fldT Tryd.prog 33 0 0 = true := by kernel_rfl
theorem fld33_1 : fldT Tryd.prog 33 1 1 = true := by kernel_rfl
theorem fld33_2 : fldT Tryd.prog 33 2 2 = true := by kernel_rfl
theorem fld33_3 : fldT Tryd.prog 33 3 3 = true := by kernel_rfl
theorem fld33_4 : fldT Tryd.prog 33 4 4 = true := by kernel_rfl
theorem fld33_5 : fldT Tryd.prog 33 5 5 = true := by kernel_rfl
theorem fld33_6 : fldT Tryd.prog 33 6 6 = true := by kernel_rfl
theorem fld33_7 : fldT Tryd.prog 33 7 7 = true := by kernel_rfl
theorem fld45_0 : fldT Tryd.prog 45 0 0 = true := by kernel_rfl
theorem fld45_1 : fldT Tryd.prog 45 1 1 = true := by kernel_rfl
theorem fld45_2 : fldT Tryd.prog 45 2 2 = true := by kernel_rfl
theorem fld45_3 : fldT Tryd.prog 45 3 3 = true := by kernel_rfl
theorem fld45_4 : fldT Tryd.prog 45 4 4 = true := by kernel_rfl
theorem fld49_0 : fldT Tryd.prog 49 0 0 = true := by kernel_rfl
theorem fld49_1 : fldT Tryd.prog 49 1 1 = true := by kernel_rfl
theorem fld49_2 : fldT Tryd.prog 49 2 2 = true := by kernel_rfl
theorem fld49_3 : fldT Tryd.prog 49 3 3 = true := by kernel_rfl
theorem fld49_4 : fldT Tryd.prog 49 4 4 = true := by kernel_rfl
theorem fld49_5 : fldT Tryd.prog 49 5 5 = true := by kernel_rfl
theorem fld49_6 : fldT Tryd.prog 49 6 6 = true := by kernel_rfl
theorem fld64_0 : fldT Tryd.prog 64 0 0 = true := by kernel_rfl
theorem fld64_1 : fldT Tryd.prog 64 1 1 = true := by kernel_rfl
theorem fld71_0 : fldT Tryd.prog 71 0 0 = true := by kernel_rfl
theorem fld71_1 : fldT Tryd.prog 71 1 1 = true := by kernel_rfl
theorem fld71_2 : fldT Tryd.prog 71 2 2 = true := by kernel_rfl
theorem inf26 : (Tryd.prog.info? 26).map (fun i => (i.zero, i.size, i.bytes)) = some (some (.pointer none), 1, 8) := by kernel_rfl
theorem inf3 : (Tryd.prog.info? 3).map (fun i => (i.zero, i.size, i.bytes)) = some (some (.int .i64 0), 1, 8) := by kernel_rfl
theorem inf33 : (Tryd.prog.info? 33).map (fun i => (i.zero, i.size, i.bytes)) = some (some (.agg #[.int .i64 0, .int .i64 0, .int .i64 0, .int .i64 0, .int .i64 0, .int .i64 0, .int .i64 0, .int .i64 0]), 8, 64) := by kernel_rfl
theorem inf71 : (Tryd.prog.info? 71).map (fun i => (i.zero, i.size, i.bytes)) = some (some (.agg #[.int .i64 0, .int .i64 0, .bool false]), 3, 24) := by kernel_rfl
theorem inf9 : (Tryd.prog.info? 9).map (fun i => (i.zero, i.size, i.bytes)) = some (some (.string ByteArray.empty), 1, 16) := by kernel_rfl
theorem one26 : oneT Tryd.prog 26 = true := by kernel_rfl
theorem one3 : oneT Tryd.prog 3 = true := by kernel_rfl
theorem one4 : oneT Tryd.prog 4 = true := by kernel_rfl
theorem one46 : oneT Tryd.prog 46 = true := by kernel_rfl
theorem one9 : oneT Tryd.prog 9 = true := by kernel_rfl
theorem siz3 : sizT Tryd.prog 3 1 = true := by kernel_rfl
theorem siz31 : sizT Tryd.prog 31 5 = true := by kernel_rfl
theorem siz33 : sizT Tryd.prog 33 8 = true := by kernel_rfl
theorem siz45 : sizT Tryd.prog 45 5 = true := by kernel_rfl
theorem siz46 : sizT Tryd.prog 46 1 = true := by kernel_rfl
theorem siz47 : sizT Tryd.prog 47 4 = true := by kernel_rfl
theorem siz49 : sizT Tryd.prog 49 10 = true := by kernel_rfl
theorem siz71 : sizT Tryd.prog 71 3 = true := by kernel_rfl
theorem siz9 : sizT Tryd.prog 9 1 = true := by kernel_rfl
theorem sl22 : slT Tryd.prog 22 31 5 = true := by kernel_rfl
theorem sl28 : slT Tryd.prog 28 26 1 = true := by kernel_rfl
theorem sl29 : slT Tryd.prog 29 33 8 = true := by kernel_rfl
theorem sl46 : slT Tryd.prog 46 71 3 = true := by kernel_rfl
theorem sl54 : slT Tryd.prog 54 3 1 = true := by kernel_rfl
theorem sl57 : slT Tryd.prog 57 9 1 = true := by kernel_rfl
theorem str9 : strT Tryd.prog 9 = true := by kernel_rfl
theorem zero31 : (Tryd.prog.info? 31).bind (·.zero) = some (.agg #[.int .i64 0, .int .i64 0, .int .i64 0, .int .i64 0, .int .i64 0]) := by kernel_rfl
theorem zero33 : (Tryd.prog.info? 33).bind (·.zero) = some (.agg #[.int .i64 0, .int .i64 0, .int .i64 0, .int .i64 0, .int .i64 0, .int .i64 0, .int .i64 0, .int .i64 0]) := by kernel_rfl
theorem zero49 : (Tryd.prog.info? 49).bind (·.zero) = some (.agg #[.int .i64 0, .int .i64 0, .int .i64 0, .int .i64 0, .int .i64 0, .slice none 0 0, .int .i64 0, .int .i64 0, .int .i64 0, .int .i64 0]) := by kernel_rfl
theorem zero60 : (Tryd.prog.info? 60).bind (·.zero) = some (.nilFunc) := by kernel_rfl
theorem zero71 : (Tryd.prog.info? 71).bind (·.zero) = some (.agg #[.int .i64 0, .int .i64 0, .bool false]) := by kernel_rfl
theorem call4 : callable Tryd.prog 4 = true := by kernel_rfl
theorem call5 : callable Tryd.prog 5 = true := by kernel_rfl
theorem call6 : callable Tryd.prog 6 = true := by kernel_rfl
theorem call7 : callable Tryd.prog 7 = true := by kernel_rfl
theorem call8 : callable Tryd.prog 8 = true := by kernel_rfl
theorem call9 : callable Tryd.prog 9 = true := by kernel_rfl
theorem call10 : callable Tryd.prog 10 = true := by kernel_rfl
theorem call11 : callable Tryd.prog 11 = true := by kernel_rfl
theorem call12 : callable Tryd.prog 12 = true := by kernel_rfl
theorem call13 : callable Tryd.prog 13 = true := by kernel_rfl
theorem call14 : callable Tryd.prog 14 = true := by kernel_rfl
theorem call15 : callable Tryd.prog 15 = true := by kernel_rfl
theorem call16 : callable Tryd.prog 16 = true := by kernel_rfl
theorem call17 : callable Tryd.prog 17 = true := by kernel_rfl
theorem call18 : callable Tryd.prog 18 = true := by kernel_rfl
theorem call19 : callable Tryd.prog 19 = true := by kernel_rfl
theorem call20 : callable Tryd.prog 20 = true := by kernel_rfl
theorem call21 : callable Tryd.prog 21 = true := by kernel_rfl
theorem call22 : callable Tryd.prog 22 = true := by kernel_rfl
theorem call23 : callable Tryd.prog 23 = true := by kernel_rfl
theorem call24 : callable Tryd.prog 24 = true := by kernel_rfl
theorem call25 : callable Tryd.prog 25 = true := by kernel_rfl
theorem call26 : callable Tryd.prog 26 = true := by kernel_rfl
theorem call27 : callable Tryd.prog 27 = true := by kernel_rfl
theorem call28 : callable Tryd.prog 28 = true := by kernel_rfl
theorem call29 : callable Tryd.prog 29 = true := by kernel_rfl
theorem call30 : callable Tryd.prog 30 = true := by kernel_rfl
theorem call31 : callable Tryd.prog 31 = true := by kernel_rfl
theorem call32 : callable Tryd.prog 32 = true := by kernel_rfl
theorem call33 : callable Tryd.prog 33 = true := by kernel_rfl
theorem call34 : callable Tryd.prog 34 = true := by kernel_rfl
theorem call35 : callable Tryd.prog 35 = true := by kernel_rfl
theorem call36 : callable Tryd.prog 36 = true := by kernel_rfl
theorem call37 : callable Tryd.prog 37 = true := by kernel_rfl
theorem call39 : callable Tryd.prog 39 = true := by kernel_rfl
theorem call40 : callable Tryd.prog 40 = true := by kernel_rfl
theorem call44 : callable Tryd.prog 44 = true := by kernel_rfl
theorem call48 : callable Tryd.prog 48 = true := by kernel_rfl
theorem call55 : callable Tryd.prog 55 = true := by kernel_rfl
theorem call57 : callable Tryd.prog 57 = true := by kernel_rfl
theorem eqt33 : eqT Tryd.prog 33 [.int .i64, .int .i64, .int .i64, .int .i64, .int .i64, .int .i64, .int .i64, .int .i64] := ⟨by kernel_rfl, by kernel_rfl, by kernel_rfl⟩
theorem ext47_1 : Tryd.prog.funcs[47]? = some Tryd.f47 := Tryd.func47
theorem ext47_2 : (Tryd.f47.name == "runtime.NumGoroutine") = false := by kernel_rfl
theorem ext47_3 : Tryd.f47.body.isNone = true := by kernel_rfl
theorem ext47_4 : Extern.findNext Tryd.f47 = none := by kernel_rfl
theorem ext47_5 : Extern.find Tryd.f47 = some Extern.BytealgCount.count := by kernel_rfl
theorem ext68_1 : Tryd.prog.funcs[68]? = some Tryd.f68 := Tryd.func68
theorem ext68_2 : (Tryd.f68.name == "runtime.NumGoroutine") = false := by kernel_rfl
theorem ext68_3 : Tryd.f68.body.isNone = true := by kernel_rfl
theorem ext68_4 : Extern.findNext Tryd.f68 = none := by kernel_rfl
theorem ext68_5 : Extern.find Tryd.f68 = some Extern.BytealgIndexByte.indexByte := by kernel_rfl
theorem kok3 : KeyOk Tryd.prog 3 (RT.int .i64) false := keyok_int (by kernel_rfl) (by kernel_rfl)
theorem mapt61 : Tryd.prog.underlying 61 = some (.map 3 60) := by kernel_rfl
theorem ift73 : ifT Tryd.prog 73 := by unfold ifT; kernel_rfl
theorem fnt60 : fnT Tryd.prog 60 = true := by kernel_rfl

end Go.Proofs.YtbggpdpcndpaoaaDoor
