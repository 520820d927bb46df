/- Closed facts on the tables of the program that the walks name. -/
import Derived.Test.YtljcafilceachaaDoorRows
import Derived.Test.YtljcafilceachaaDoorFD
set_option linter.unusedVariables false
set_option linter.unusedSimpArgs false
namespace Go.Proofs.YtljcafilceachaaDoor
open Go.RowKit Go.Fp

theorem mixed : Tryd.prog.follows .mixedOrders = true := by kernel_rfl
theorem agg23 : aggT Tryd.prog 23 3 = true := by kernel_rfl
theorem agg36 : aggT Tryd.prog 36 8 = true := by kernel_rfl
theorem fld23_0 : fldT Tryd.prog 23 0 0 = true := by kernel_rfl
theorem fld23_1 : fldT Tryd.prog 23 1 1 = true := by kernel_rfl
theorem fld23_2 : fldT Tryd.prog 23 2 2 = true := by kernel_rfl
theorem fld36_0 : fldT Tryd.prog 36 0 0 = true := by kernel_rfl
theorem fld36_1 : fldT Tryd.prog 36 1 1 = true := by kernel_rfl
theorem fld36_2 : fldT Tryd.prog 36 2 2 = true := by kernel_rfl
theorem fld36_3 : fldT Tryd.prog 36 3 3 = true := by kernel_rfl
theorem fld36_4 : fldT Tryd.prog 36 4 4 = true := by kernel_rfl
theorem fld36_5 : fldT Tryd.prog 36 5 5 = true := by kernel_rfl
theorem fld36_6 : fldT Tryd.prog 36 6 6 = true := by kernel_rfl
theorem fld36_7 : fldT Tryd.prog 36 7 7 = true := by kernel_rfl
theorem inf5 : (Tryd.prog.info? 5).map (fun i => (i.zero, i.size, i.bytes)) = some (some (.int .u8 0), 1, 1) := by kernel_rfl
theorem inf9 : (Tryd.prog.info? 9).map (fun i => (i.zero, i.size, i.bytes)) = some (some (.string ByteArray.empty), 1, 16) := by kernel_rfl
theorem int142_u16 : intT Tryd.prog 142 .u16 = true := by kernel_rfl
theorem int3_i64 : intT Tryd.prog 3 .i64 = true := by kernel_rfl
theorem int5_u8 : intT Tryd.prog 5 .u8 = true := by kernel_rfl
theorem one3 : oneT Tryd.prog 3 = true := by kernel_rfl
theorem one5 : oneT Tryd.prog 5 = true := by kernel_rfl
theorem one9 : oneT Tryd.prog 9 = true := by kernel_rfl
theorem siz106 : sizT Tryd.prog 106 8 = true := by kernel_rfl
theorem siz23 : sizT Tryd.prog 23 3 = true := by kernel_rfl
theorem siz3 : sizT Tryd.prog 3 1 = true := by kernel_rfl
theorem siz36 : sizT Tryd.prog 36 8 = true := by kernel_rfl
theorem siz5 : sizT Tryd.prog 5 1 = true := by kernel_rfl
theorem siz9 : sizT Tryd.prog 9 1 = true := by kernel_rfl
theorem sl109 : slT Tryd.prog 109 9 1 = true := by kernel_rfl
theorem sl24 : slT Tryd.prog 24 3 1 = true := by kernel_rfl
theorem sl26 : slT Tryd.prog 26 5 1 = true := by kernel_rfl
theorem str9 : strT Tryd.prog 9 = true := by kernel_rfl
theorem zero106 : (Tryd.prog.info? 106).bind (·.zero) = some (.agg #[.int .u8 0, .int .u8 0, .int .u8 0, .int .u8 0, .int .u8 0, .int .u8 0, .int .u8 0, .int .u8 0]) := by kernel_rfl
theorem zero23 : (Tryd.prog.info? 23).bind (·.zero) = some (.agg #[.int .i64 0, .int .i64 0, .int .i64 0]) := by kernel_rfl
theorem zero36 : (Tryd.prog.info? 36).bind (·.zero) = some (.agg #[.int .i64 0, .int .i64 0, .int .i64 0, .int .i64 0, .int .i64 0, .int .i64 0, .int .i64 0, .int .i64 0]) := by kernel_rfl
theorem call14 : callable Tryd.prog 14 = true := by kernel_rfl
theorem call15 : callable Tryd.prog 15 = true := by kernel_rfl
theorem call16 : callable Tryd.prog 16 = true := by kernel_rfl
theorem call17 : callable Tryd.prog 17 = true := by kernel_rfl
theorem call18 : callable Tryd.prog 18 = true := by kernel_rfl
theorem call20 : callable Tryd.prog 20 = true := by kernel_rfl
theorem call48 : callable Tryd.prog 48 = true := by kernel_rfl
theorem call49 : callable Tryd.prog 49 = true := by kernel_rfl
theorem call50 : callable Tryd.prog 50 = true := by kernel_rfl
theorem call51 : callable Tryd.prog 51 = true := by kernel_rfl
theorem call54 : callable Tryd.prog 54 = true := by kernel_rfl
theorem call55 : callable Tryd.prog 55 = true := by kernel_rfl
theorem call63 : callable Tryd.prog 63 = true := by kernel_rfl
theorem call75 : callable Tryd.prog 75 = true := by kernel_rfl
theorem call80 : callable Tryd.prog 80 = true := by kernel_rfl
theorem call81 : callable Tryd.prog 81 = true := by kernel_rfl
theorem call103 : callable Tryd.prog 103 = true := by kernel_rfl
theorem call106 : callable Tryd.prog 106 = true := by kernel_rfl
theorem call107 : callable Tryd.prog 107 = true := by kernel_rfl
theorem call126 : callable Tryd.prog 126 = true := by kernel_rfl
theorem call141 : callable Tryd.prog 141 = true := by kernel_rfl
theorem arr106 : arrT Tryd.prog 106 8 5 1 = true := by kernel_rfl
theorem eqt23 : eqT Tryd.prog 23 [.int .i64, .int .i64, .int .i64] := ⟨by kernel_rfl, by kernel_rfl, by kernel_rfl⟩
theorem eqt36 : eqT Tryd.prog 36 [.int .i64, .int .i64, .int .i64, .int .i64, .int .i64, .int .i64, .int .i64, .int .i64] := ⟨by kernel_rfl, by kernel_rfl, by kernel_rfl⟩
theorem ext125_1 : Tryd.prog.funcs[125]? = some Tryd.f125 := Tryd.func125
theorem ext125_2 : (Tryd.f125.name == "runtime.NumGoroutine") = false := by kernel_rfl
theorem ext125_3 : Tryd.f125.body.isNone = true := by kernel_rfl
theorem ext125_4 : Extern.findNext Tryd.f125 = none := by kernel_rfl
theorem ext125_5 : Extern.find Tryd.f125 = some Extern.BytealgCount.count := by kernel_rfl
theorem ext151_1 : Tryd.prog.funcs[151]? = some Tryd.f151 := Tryd.func151
theorem ext151_2 : (Tryd.f151.name == "runtime.NumGoroutine") = false := by kernel_rfl
theorem ext151_3 : Tryd.f151.body.isNone = true := by kernel_rfl
theorem ext151_4 : Extern.findNext Tryd.f151 = none := by kernel_rfl
theorem ext151_5 : Extern.find Tryd.f151 = some Extern.BytealgIndexByte.indexByte := by kernel_rfl
theorem ift149 : ifT Tryd.prog 149 := by unfold ifT; kernel_rfl

end Go.Proofs.YtljcafilceachaaDoor
