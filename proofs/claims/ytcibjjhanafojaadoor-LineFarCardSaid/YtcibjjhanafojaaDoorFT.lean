/- Closed facts on the tables of the program that the walks name. -/
import Derived.Test.YtcibjjhanafojaaDoorRows
import Derived.Test.YtcibjjhanafojaaDoorFD
set_option linter.unusedVariables false
set_option linter.unusedSimpArgs false
namespace Go.Proofs.YtcibjjhanafojaaDoor
open Go.RowKit Go.Fp

theorem mixed : Tryd.prog.follows .mixedOrders = true := by kernel_rfl
theorem agg28 : aggT Tryd.prog 28 5 = true := by kernel_rfl
theorem agg58 : aggT Tryd.prog 58 7 = true := by kernel_rfl
theorem agg61 : aggT Tryd.prog 61 4 = true := by kernel_rfl
theorem agg64 : aggT Tryd.prog 64 2 = true := by kernel_rfl
theorem agg67 : aggT Tryd.prog 67 2 = true := by kernel_rfl
theorem agg77 : aggT Tryd.prog 77 2 = true := by kernel_rfl
theorem fld28_0 : fldT Tryd.prog 28 0 0 = true := by kernel_rfl
theorem fld28_1 : fldT Tryd.prog 28 1 1 = true := by kernel_rfl
theorem fld28_2 : fldT Tryd.prog 28 2 2 = true := by kernel_rfl
theorem fld28_3 : fldT Tryd.prog 28 3 3 = true := by kernel_rfl
theorem fld28_4 : fldT Tryd.prog 28 4 4 = true := by kernel_rfl
theorem fld58_0 : fldT Tryd.prog 58 0 0 = true := by kernel_rfl
theorem fld58_1 : fldT Tryd.prog 58 1 1 = true := by kernel_rfl
theorem fld58_2 : fldT Tryd.prog 58 2 2 = true := by kernel_rfl
theorem fld58_3 : fldT Tryd.prog 58 3 3 = true := by kernel_rfl
theorem fld58_4 : fldT Tryd.prog 58 4 4 = true := by kernel_rfl
theorem fld58_5 : fldT Tryd.prog 58 5 5 = true := by kernel_rfl
theorem fld61_0 : fldT Tryd.prog 61 0 0 = true := by kernel_rfl
theorem fld61_1 : fldT Tryd.prog 61 1 1 = true := by kernel_rfl
theorem fld61_2 : fldT Tryd.prog 61 2 2 = true := by kernel_rfl
theorem fld61_3 : fldT Tryd.prog 61 3 3 = true := by kernel_rfl
theorem fld64_0 : fldT Tryd.prog 64 0 0 = true := by kernel_rfl
theorem fld64_1 : fldT Tryd.prog 64 1 1 = true := by kernel_rfl
theorem fld67_0 : fldT Tryd.prog 67 0 0 = true := by kernel_rfl
theorem fld67_1 : fldT Tryd.prog 67 1 1 = true := by kernel_rfl
theorem fld77_0 : fldT Tryd.prog 77 0 0 = true := by kernel_rfl
theorem fld77_1 : fldT Tryd.prog 77 1 1 = true := by kernel_rfl
theorem inf22 : (Tryd.prog.info? 22).map (fun i => (i.zero, i.size, i.bytes)) = some (some (.slice none 0 0), 1, 24) := by kernel_rfl
theorem inf3 : (Tryd.prog.info? 3).map (fun i => (i.zero, i.size, i.bytes)) = some (some (.int .i64 0), 1, 8) := by kernel_rfl
theorem inf48 : (Tryd.prog.info? 48).map (fun i => (i.zero, i.size, i.bytes)) = some (some (.slice none 0 0), 1, 24) := by kernel_rfl
theorem inf77 : (Tryd.prog.info? 77).map (fun i => (i.zero, i.size, i.bytes)) = some (some (.agg #[.int .i64 0, .int .i64 0]), 2, 16) := by kernel_rfl
theorem inf9 : (Tryd.prog.info? 9).map (fun i => (i.zero, i.size, i.bytes)) = some (some (.string ByteArray.empty), 1, 16) := by kernel_rfl
theorem int115_u64 : intT Tryd.prog 115 .u64 = true := by kernel_rfl
theorem int3_i64 : intT Tryd.prog 3 .i64 = true := by kernel_rfl
theorem int5_u8 : intT Tryd.prog 5 .u8 = true := by kernel_rfl
theorem one118 : oneT Tryd.prog 118 = true := by kernel_rfl
theorem one22 : oneT Tryd.prog 22 = true := by kernel_rfl
theorem one23 : oneT Tryd.prog 23 = true := by kernel_rfl
theorem one24 : oneT Tryd.prog 24 = true := by kernel_rfl
theorem one25 : oneT Tryd.prog 25 = true := by kernel_rfl
theorem one26 : oneT Tryd.prog 26 = true := by kernel_rfl
theorem one3 : oneT Tryd.prog 3 = true := by kernel_rfl
theorem one48 : oneT Tryd.prog 48 = true := by kernel_rfl
theorem one5 : oneT Tryd.prog 5 = true := by kernel_rfl
theorem one52 : oneT Tryd.prog 52 = true := by kernel_rfl
theorem one86 : oneT Tryd.prog 86 = true := by kernel_rfl
theorem one9 : oneT Tryd.prog 9 = true := by kernel_rfl
theorem siz118 : sizT Tryd.prog 118 1 = true := by kernel_rfl
theorem siz28 : sizT Tryd.prog 28 5 = true := by kernel_rfl
theorem siz3 : sizT Tryd.prog 3 1 = true := by kernel_rfl
theorem siz48 : sizT Tryd.prog 48 1 = true := by kernel_rfl
theorem siz58 : sizT Tryd.prog 58 7 = true := by kernel_rfl
theorem siz61 : sizT Tryd.prog 61 4 = true := by kernel_rfl
theorem siz64 : sizT Tryd.prog 64 2 = true := by kernel_rfl
theorem siz67 : sizT Tryd.prog 67 2 = true := by kernel_rfl
theorem siz77 : sizT Tryd.prog 77 2 = true := by kernel_rfl
theorem siz86 : sizT Tryd.prog 86 1 = true := by kernel_rfl
theorem siz9 : sizT Tryd.prog 9 1 = true := by kernel_rfl
theorem sl103 : slT Tryd.prog 103 22 1 = true := by kernel_rfl
theorem sl118 : slT Tryd.prog 118 77 2 = true := by kernel_rfl
theorem sl22 : slT Tryd.prog 22 9 1 = true := by kernel_rfl
theorem sl23 : slT Tryd.prog 23 58 7 = true := by kernel_rfl
theorem sl24 : slT Tryd.prog 24 61 4 = true := by kernel_rfl
theorem sl25 : slT Tryd.prog 25 64 2 = true := by kernel_rfl
theorem sl26 : slT Tryd.prog 26 67 2 = true := by kernel_rfl
theorem sl45 : slT Tryd.prog 45 48 1 = true := by kernel_rfl
theorem sl48 : slT Tryd.prog 48 3 1 = true := by kernel_rfl
theorem sl90 : slT Tryd.prog 90 5 1 = true := by kernel_rfl
theorem str9 : strT Tryd.prog 9 = true := by kernel_rfl
theorem zero118 : (Tryd.prog.info? 118).bind (·.zero) = some (.slice none 0 0) := by kernel_rfl
theorem zero28 : (Tryd.prog.info? 28).bind (·.zero) = some (.agg #[.slice none 0 0, .slice none 0 0, .slice none 0 0, .slice none 0 0, .slice none 0 0]) := by kernel_rfl
theorem zero3 : (Tryd.prog.info? 3).bind (·.zero) = some (.int .i64 0) := by kernel_rfl
theorem zero4 : (Tryd.prog.info? 4).bind (·.zero) = some (.bool false) := by kernel_rfl
theorem zero58 : (Tryd.prog.info? 58).bind (·.zero) = some (.agg #[.int .i64 0, .int .i64 0, .int .i64 0, .int .i64 0, .int .i64 0, .int .i64 0, .bool false]) := by kernel_rfl
theorem zero61 : (Tryd.prog.info? 61).bind (·.zero) = some (.agg #[.int .i64 0, .int .i64 0, .int .i64 0, .int .i64 0]) := by kernel_rfl
theorem zero64 : (Tryd.prog.info? 64).bind (·.zero) = some (.agg #[.int .i64 0, .int .i64 0]) := by kernel_rfl
theorem zero67 : (Tryd.prog.info? 67).bind (·.zero) = some (.agg #[.int .i64 0, .int .i64 0]) := by kernel_rfl
theorem zero77 : (Tryd.prog.info? 77).bind (·.zero) = some (.agg #[.int .i64 0, .int .i64 0]) := by kernel_rfl
theorem zero86 : (Tryd.prog.info? 86).bind (·.zero) = some (.map none) := by kernel_rfl
theorem call7 : callable Tryd.prog 7 = true := by kernel_rfl
theorem call13 : callable Tryd.prog 13 = true := by kernel_rfl
theorem call15 : callable Tryd.prog 15 = true := by kernel_rfl
theorem call16 : callable Tryd.prog 16 = true := by kernel_rfl
theorem call24 : callable Tryd.prog 24 = true := by kernel_rfl
theorem call26 : callable Tryd.prog 26 = true := by kernel_rfl
theorem call27 : callable Tryd.prog 27 = true := by kernel_rfl
theorem call29 : callable Tryd.prog 29 = true := by kernel_rfl
theorem call30 : callable Tryd.prog 30 = true := by kernel_rfl
theorem call31 : callable Tryd.prog 31 = true := by kernel_rfl
theorem call35 : callable Tryd.prog 35 = true := by kernel_rfl
theorem call36 : callable Tryd.prog 36 = true := by kernel_rfl
theorem call37 : callable Tryd.prog 37 = true := by kernel_rfl
theorem call38 : callable Tryd.prog 38 = true := by kernel_rfl
theorem call39 : callable Tryd.prog 39 = true := by kernel_rfl
theorem call40 : callable Tryd.prog 40 = true := by kernel_rfl
theorem call41 : callable Tryd.prog 41 = true := by kernel_rfl
theorem call46 : callable Tryd.prog 46 = true := by kernel_rfl
theorem call47 : callable Tryd.prog 47 = true := by kernel_rfl
theorem call50 : callable Tryd.prog 50 = true := by kernel_rfl
theorem call51 : callable Tryd.prog 51 = true := by kernel_rfl
theorem call55 : callable Tryd.prog 55 = true := by kernel_rfl
theorem call56 : callable Tryd.prog 56 = true := by kernel_rfl
theorem call57 : callable Tryd.prog 57 = true := by kernel_rfl
theorem call58 : callable Tryd.prog 58 = true := by kernel_rfl
theorem call59 : callable Tryd.prog 59 = true := by kernel_rfl
theorem call65 : callable Tryd.prog 65 = true := by kernel_rfl
theorem call69 : callable Tryd.prog 69 = true := by kernel_rfl
theorem call70 : callable Tryd.prog 70 = true := by kernel_rfl
theorem call71 : callable Tryd.prog 71 = true := by kernel_rfl
theorem call80 : callable Tryd.prog 80 = true := by kernel_rfl
theorem call82 : callable Tryd.prog 82 = true := by kernel_rfl
theorem call83 : callable Tryd.prog 83 = true := by kernel_rfl
theorem call97 : callable Tryd.prog 97 = true := by kernel_rfl
theorem call108 : callable Tryd.prog 108 = true := by kernel_rfl
theorem arr102 : arrT Tryd.prog 102 3 52 1 = true := by kernel_rfl
theorem ext120_1 : Tryd.prog.funcs[120]? = some Tryd.f120 := Tryd.func120
theorem ext120_2 : (Tryd.f120.name == "runtime.NumGoroutine") = false := by kernel_rfl
theorem ext120_3 : Tryd.f120.body.isNone = true := by kernel_rfl
theorem ext120_4 : Extern.findNext Tryd.f120 = none := by kernel_rfl
theorem ext120_5 : Extern.find Tryd.f120 = some Extern.BytealgIndexByte.indexByte := by kernel_rfl
theorem ext96_1 : Tryd.prog.funcs[96]? = some Tryd.f96 := Tryd.func96
theorem ext96_2 : (Tryd.f96.name == "runtime.NumGoroutine") = false := by kernel_rfl
theorem ext96_3 : Tryd.f96.body.isNone = true := by kernel_rfl
theorem ext96_4 : Extern.findNext Tryd.f96 = none := by kernel_rfl
theorem ext96_5 : Extern.find Tryd.f96 = some Extern.BytealgCount.count := by kernel_rfl
theorem kok77 : KeyOk Tryd.prog 77 rLineEnd true := ⟨⟨[.int .i64, .int .i64], by kernel_rfl, fun w cs a hr => by obtain ⟨_, _, rfl, rfl, rfl⟩ := hr; exact ⟨⟨_, rfl⟩, ⟨⟨_, rfl⟩, trivial⟩⟩⟩, by kernel_rfl, fun w w' cs ds a c h1 h2 => by
    obtain ⟨_, _, rfl, rfl, rfl⟩ := h1
    obtain ⟨_, _, rfl, rfl, rfl⟩ := h2
    cases a; cases c
    simp [eqCells, eqCell, beq_dec, Bool.decide_and]⟩
theorem mapt127 : Tryd.prog.underlying 127 = some (.map 77 4) := by kernel_rfl
theorem mapt86 : Tryd.prog.underlying 86 = some (.map 77 3) := by kernel_rfl

end Go.Proofs.YtcibjjhanafojaaDoor
