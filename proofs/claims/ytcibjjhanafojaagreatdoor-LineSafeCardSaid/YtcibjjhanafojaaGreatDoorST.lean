/- Closed facts on the tables of the program that the walks name. -/
import Derived.Test.YtcibjjhanafojaaGreatDoorRows
import Derived.Test.YtcibjjhanafojaaGreatDoorSD
set_option linter.unusedVariables false
set_option linter.unusedSimpArgs false
namespace Go.Proofs.YtcibjjhanafojaaGreatDoor
open Go.RowKit Go.Fp

theorem mixed : Tryz.prog.follows .mixedOrders = true := by kernel_rfl
theorem agg109 : aggT Tryz.prog 109 2 = true := by kernel_rfl
theorem agg118 : aggT Tryz.prog 118 4 = true := by kernel_rfl
theorem agg120 : aggT Tryz.prog 120 2 = true := by kernel_rfl
theorem agg28 : aggT Tryz.prog 28 5 = true := by kernel_rfl
theorem agg42 : aggT Tryz.prog 42 4 = true := by kernel_rfl
theorem agg54 : aggT Tryz.prog 54 3 = true := by kernel_rfl
theorem agg56 : aggT Tryz.prog 56 3 = true := by kernel_rfl
theorem agg91 : aggT Tryz.prog 91 7 = true := by kernel_rfl
theorem agg96 : aggT Tryz.prog 96 2 = true := by kernel_rfl
theorem fld106_0 : fldT Tryz.prog 106 0 0 = true := by kernel_rfl
theorem fld106_1 : fldT Tryz.prog 106 1 5 = true := by kernel_rfl
theorem fld106_2 : fldT Tryz.prog 106 2 6 = true := by kernel_rfl
theorem fld106_3 : fldT Tryz.prog 106 3 7 = true := by kernel_rfl
theorem fld109_0 : fldT Tryz.prog 109 0 0 = true := by kernel_rfl
theorem fld109_1 : fldT Tryz.prog 109 1 1 = true := by kernel_rfl
theorem fld118_0 : fldT Tryz.prog 118 0 0 = true := by kernel_rfl
theorem fld118_1 : fldT Tryz.prog 118 1 1 = true := by kernel_rfl
theorem fld118_2 : fldT Tryz.prog 118 2 2 = true := by kernel_rfl
theorem fld118_3 : fldT Tryz.prog 118 3 3 = true := by kernel_rfl
theorem fld120_0 : fldT Tryz.prog 120 0 0 = true := by kernel_rfl
theorem fld120_1 : fldT Tryz.prog 120 1 1 = true := by kernel_rfl
theorem fld28_0 : fldT Tryz.prog 28 0 0 = true := by kernel_rfl
theorem fld28_1 : fldT Tryz.prog 28 1 1 = true := by kernel_rfl
theorem fld28_2 : fldT Tryz.prog 28 2 2 = true := by kernel_rfl
theorem fld28_3 : fldT Tryz.prog 28 3 3 = true := by kernel_rfl
theorem fld28_4 : fldT Tryz.prog 28 4 4 = true := by kernel_rfl
theorem fld40_0 : fldT Tryz.prog 40 0 0 = true := by kernel_rfl
theorem fld40_1 : fldT Tryz.prog 40 1 1 = true := by kernel_rfl
theorem fld42_0 : fldT Tryz.prog 42 0 0 = true := by kernel_rfl
theorem fld42_1 : fldT Tryz.prog 42 1 1 = true := by kernel_rfl
theorem fld42_2 : fldT Tryz.prog 42 2 2 = true := by kernel_rfl
theorem fld54_0 : fldT Tryz.prog 54 0 0 = true := by kernel_rfl
theorem fld54_1 : fldT Tryz.prog 54 1 1 = true := by kernel_rfl
theorem fld54_2 : fldT Tryz.prog 54 2 2 = true := by kernel_rfl
theorem fld56_0 : fldT Tryz.prog 56 0 0 = true := by kernel_rfl
theorem fld56_1 : fldT Tryz.prog 56 1 1 = true := by kernel_rfl
theorem fld56_2 : fldT Tryz.prog 56 2 2 = true := by kernel_rfl
theorem fld86_0 : fldT Tryz.prog 86 0 0 = true := by kernel_rfl
theorem fld86_1 : fldT Tryz.prog 86 1 5 = true := by kernel_rfl
theorem fld86_2 : fldT Tryz.prog 86 2 8 = true := by kernel_rfl
theorem fld86_3 : fldT Tryz.prog 86 3 9 = true := by kernel_rfl
theorem fld86_4 : fldT Tryz.prog 86 4 10 = true := by kernel_rfl
theorem fld91_0 : fldT Tryz.prog 91 0 0 = true := by kernel_rfl
theorem fld91_1 : fldT Tryz.prog 91 1 1 = true := by kernel_rfl
theorem fld91_2 : fldT Tryz.prog 91 2 2 = true := by kernel_rfl
theorem fld91_3 : fldT Tryz.prog 91 3 3 = true := by kernel_rfl
theorem fld91_4 : fldT Tryz.prog 91 4 4 = true := by kernel_rfl
theorem fld91_5 : fldT Tryz.prog 91 5 5 = true := by kernel_rfl
theorem fld96_0 : fldT Tryz.prog 96 0 0 = true := by kernel_rfl
theorem fld96_1 : fldT Tryz.prog 96 1 1 = true := by kernel_rfl
theorem inf22 : (Tryz.prog.info? 22).map (fun i => (i.zero, i.size, i.bytes)) = some (some (.slice none 0 0), 1, 24) := by kernel_rfl
theorem inf3 : (Tryz.prog.info? 3).map (fun i => (i.zero, i.size, i.bytes)) = some (some (.int .i64 0), 1, 8) := by kernel_rfl
theorem inf40 : (Tryz.prog.info? 40).map (fun i => (i.zero, i.size, i.bytes)) = some (some (.agg #[.slice none 0 0, .slice none 0 0]), 2, 48) := by kernel_rfl
theorem inf42 : (Tryz.prog.info? 42).map (fun i => (i.zero, i.size, i.bytes)) = some (some (.agg #[.int .i64 0, .int .i64 0, .int .i64 0, .int .i64 0]), 4, 32) := by kernel_rfl
theorem inf54 : (Tryz.prog.info? 54).map (fun i => (i.zero, i.size, i.bytes)) = some (some (.agg #[.int .i64 0, .int .i64 0, .slice none 0 0]), 3, 40) := by kernel_rfl
theorem inf56 : (Tryz.prog.info? 56).map (fun i => (i.zero, i.size, i.bytes)) = some (some (.agg #[.int .i64 0, .int .i64 0, .int .i64 0]), 3, 24) := by kernel_rfl
theorem inf9 : (Tryz.prog.info? 9).map (fun i => (i.zero, i.size, i.bytes)) = some (some (.string ByteArray.empty), 1, 16) := by kernel_rfl
theorem int5_u8 : intT Tryz.prog 5 .u8 = true := by kernel_rfl
theorem one104 : oneT Tryz.prog 104 = true := by kernel_rfl
theorem one125 : oneT Tryz.prog 125 = true := by kernel_rfl
theorem one22 : oneT Tryz.prog 22 = true := by kernel_rfl
theorem one23 : oneT Tryz.prog 23 = true := by kernel_rfl
theorem one24 : oneT Tryz.prog 24 = true := by kernel_rfl
theorem one25 : oneT Tryz.prog 25 = true := by kernel_rfl
theorem one26 : oneT Tryz.prog 26 = true := by kernel_rfl
theorem one3 : oneT Tryz.prog 3 = true := by kernel_rfl
theorem one37 : oneT Tryz.prog 37 = true := by kernel_rfl
theorem one38 : oneT Tryz.prog 38 = true := by kernel_rfl
theorem one4 : oneT Tryz.prog 4 = true := by kernel_rfl
theorem one47 : oneT Tryz.prog 47 = true := by kernel_rfl
theorem one5 : oneT Tryz.prog 5 = true := by kernel_rfl
theorem one52 : oneT Tryz.prog 52 = true := by kernel_rfl
theorem one72 : oneT Tryz.prog 72 = true := by kernel_rfl
theorem one81 : oneT Tryz.prog 81 = true := by kernel_rfl
theorem one82 : oneT Tryz.prog 82 = true := by kernel_rfl
theorem one84 : oneT Tryz.prog 84 = true := by kernel_rfl
theorem one9 : oneT Tryz.prog 9 = true := by kernel_rfl
theorem siz109 : sizT Tryz.prog 109 2 = true := by kernel_rfl
theorem siz118 : sizT Tryz.prog 118 4 = true := by kernel_rfl
theorem siz120 : sizT Tryz.prog 120 2 = true := by kernel_rfl
theorem siz125 : sizT Tryz.prog 125 1 = true := by kernel_rfl
theorem siz28 : sizT Tryz.prog 28 5 = true := by kernel_rfl
theorem siz3 : sizT Tryz.prog 3 1 = true := by kernel_rfl
theorem siz37 : sizT Tryz.prog 37 1 = true := by kernel_rfl
theorem siz38 : sizT Tryz.prog 38 1 = true := by kernel_rfl
theorem siz4 : sizT Tryz.prog 4 1 = true := by kernel_rfl
theorem siz42 : sizT Tryz.prog 42 4 = true := by kernel_rfl
theorem siz47 : sizT Tryz.prog 47 1 = true := by kernel_rfl
theorem siz54 : sizT Tryz.prog 54 3 = true := by kernel_rfl
theorem siz56 : sizT Tryz.prog 56 3 = true := by kernel_rfl
theorem siz81 : sizT Tryz.prog 81 1 = true := by kernel_rfl
theorem siz9 : sizT Tryz.prog 9 1 = true := by kernel_rfl
theorem siz91 : sizT Tryz.prog 91 7 = true := by kernel_rfl
theorem siz96 : sizT Tryz.prog 96 2 = true := by kernel_rfl
theorem sl135 : slT Tryz.prog 135 5 1 = true := by kernel_rfl
theorem sl22 : slT Tryz.prog 22 9 1 = true := by kernel_rfl
theorem sl23 : slT Tryz.prog 23 91 7 = true := by kernel_rfl
theorem sl24 : slT Tryz.prog 24 118 4 = true := by kernel_rfl
theorem sl25 : slT Tryz.prog 25 96 2 = true := by kernel_rfl
theorem sl26 : slT Tryz.prog 26 120 2 = true := by kernel_rfl
theorem sl33 : slT Tryz.prog 33 40 2 = true := by kernel_rfl
theorem sl37 : slT Tryz.prog 37 3 1 = true := by kernel_rfl
theorem sl38 : slT Tryz.prog 38 42 4 = true := by kernel_rfl
theorem sl47 : slT Tryz.prog 47 54 3 = true := by kernel_rfl
theorem sl52 : slT Tryz.prog 52 56 3 = true := by kernel_rfl
theorem sl74 : slT Tryz.prog 74 22 1 = true := by kernel_rfl
theorem str9 : strT Tryz.prog 9 = true := by kernel_rfl
theorem zero109 : (Tryz.prog.info? 109).bind (·.zero) = some (.agg #[.int .i64 0, .int .i64 0]) := by kernel_rfl
theorem zero118 : (Tryz.prog.info? 118).bind (·.zero) = some (.agg #[.int .i64 0, .int .i64 0, .int .i64 0, .int .i64 0]) := by kernel_rfl
theorem zero120 : (Tryz.prog.info? 120).bind (·.zero) = some (.agg #[.int .i64 0, .int .i64 0]) := by kernel_rfl
theorem zero125 : (Tryz.prog.info? 125).bind (·.zero) = some (.nilFunc) := by kernel_rfl
theorem zero28 : (Tryz.prog.info? 28).bind (·.zero) = some (.agg #[.slice none 0 0, .slice none 0 0, .slice none 0 0, .slice none 0 0, .slice none 0 0]) := by kernel_rfl
theorem zero3 : (Tryz.prog.info? 3).bind (·.zero) = some (.int .i64 0) := by kernel_rfl
theorem zero4 : (Tryz.prog.info? 4).bind (·.zero) = some (.bool false) := by kernel_rfl
theorem zero42 : (Tryz.prog.info? 42).bind (·.zero) = some (.agg #[.int .i64 0, .int .i64 0, .int .i64 0, .int .i64 0]) := by kernel_rfl
theorem zero54 : (Tryz.prog.info? 54).bind (·.zero) = some (.agg #[.int .i64 0, .int .i64 0, .slice none 0 0]) := by kernel_rfl
theorem zero56 : (Tryz.prog.info? 56).bind (·.zero) = some (.agg #[.int .i64 0, .int .i64 0, .int .i64 0]) := by kernel_rfl
theorem zero81 : (Tryz.prog.info? 81).bind (·.zero) = some (.nilFunc) := by kernel_rfl
theorem zero91 : (Tryz.prog.info? 91).bind (·.zero) = some (.agg #[.int .i64 0, .int .i64 0, .int .i64 0, .int .i64 0, .int .i64 0, .int .i64 0, .bool false]) := by kernel_rfl
theorem zero96 : (Tryz.prog.info? 96).bind (·.zero) = some (.agg #[.int .i64 0, .int .i64 0]) := by kernel_rfl
theorem call5 : callable Tryz.prog 5 = true := by kernel_rfl
theorem call6 : callable Tryz.prog 6 = true := by kernel_rfl
theorem call7 : callable Tryz.prog 7 = true := by kernel_rfl
theorem call8 : callable Tryz.prog 8 = true := by kernel_rfl
theorem call10 : callable Tryz.prog 10 = true := by kernel_rfl
theorem call13 : callable Tryz.prog 13 = true := by kernel_rfl
theorem call14 : callable Tryz.prog 14 = true := by kernel_rfl
theorem call15 : callable Tryz.prog 15 = true := by kernel_rfl
theorem call16 : callable Tryz.prog 16 = true := by kernel_rfl
theorem call17 : callable Tryz.prog 17 = true := by kernel_rfl
theorem call19 : callable Tryz.prog 19 = true := by kernel_rfl
theorem call25 : callable Tryz.prog 25 = true := by kernel_rfl
theorem call26 : callable Tryz.prog 26 = true := by kernel_rfl
theorem call27 : callable Tryz.prog 27 = true := by kernel_rfl
theorem call28 : callable Tryz.prog 28 = true := by kernel_rfl
theorem call30 : callable Tryz.prog 30 = true := by kernel_rfl
theorem call31 : callable Tryz.prog 31 = true := by kernel_rfl
theorem call32 : callable Tryz.prog 32 = true := by kernel_rfl
theorem call33 : callable Tryz.prog 33 = true := by kernel_rfl
theorem call34 : callable Tryz.prog 34 = true := by kernel_rfl
theorem call35 : callable Tryz.prog 35 = true := by kernel_rfl
theorem call36 : callable Tryz.prog 36 = true := by kernel_rfl
theorem call37 : callable Tryz.prog 37 = true := by kernel_rfl
theorem call40 : callable Tryz.prog 40 = true := by kernel_rfl
theorem call41 : callable Tryz.prog 41 = true := by kernel_rfl
theorem call42 : callable Tryz.prog 42 = true := by kernel_rfl
theorem call43 : callable Tryz.prog 43 = true := by kernel_rfl
theorem call44 : callable Tryz.prog 44 = true := by kernel_rfl
theorem call45 : callable Tryz.prog 45 = true := by kernel_rfl
theorem call46 : callable Tryz.prog 46 = true := by kernel_rfl
theorem call47 : callable Tryz.prog 47 = true := by kernel_rfl
theorem call48 : callable Tryz.prog 48 = true := by kernel_rfl
theorem call49 : callable Tryz.prog 49 = true := by kernel_rfl
theorem call50 : callable Tryz.prog 50 = true := by kernel_rfl
theorem call52 : callable Tryz.prog 52 = true := by kernel_rfl
theorem call53 : callable Tryz.prog 53 = true := by kernel_rfl
theorem call54 : callable Tryz.prog 54 = true := by kernel_rfl
theorem call55 : callable Tryz.prog 55 = true := by kernel_rfl
theorem call56 : callable Tryz.prog 56 = true := by kernel_rfl
theorem call57 : callable Tryz.prog 57 = true := by kernel_rfl
theorem call58 : callable Tryz.prog 58 = true := by kernel_rfl
theorem call59 : callable Tryz.prog 59 = true := by kernel_rfl
theorem call60 : callable Tryz.prog 60 = true := by kernel_rfl
theorem call61 : callable Tryz.prog 61 = true := by kernel_rfl
theorem call62 : callable Tryz.prog 62 = true := by kernel_rfl
theorem call64 : callable Tryz.prog 64 = true := by kernel_rfl
theorem call65 : callable Tryz.prog 65 = true := by kernel_rfl
theorem call66 : callable Tryz.prog 66 = true := by kernel_rfl
theorem call67 : callable Tryz.prog 67 = true := by kernel_rfl
theorem call68 : callable Tryz.prog 68 = true := by kernel_rfl
theorem call69 : callable Tryz.prog 69 = true := by kernel_rfl
theorem call70 : callable Tryz.prog 70 = true := by kernel_rfl
theorem call71 : callable Tryz.prog 71 = true := by kernel_rfl
theorem call72 : callable Tryz.prog 72 = true := by kernel_rfl
theorem call75 : callable Tryz.prog 75 = true := by kernel_rfl
theorem call76 : callable Tryz.prog 76 = true := by kernel_rfl
theorem call77 : callable Tryz.prog 77 = true := by kernel_rfl
theorem call78 : callable Tryz.prog 78 = true := by kernel_rfl
theorem call80 : callable Tryz.prog 80 = true := by kernel_rfl
theorem call81 : callable Tryz.prog 81 = true := by kernel_rfl
theorem call88 : callable Tryz.prog 88 = true := by kernel_rfl
theorem call94 : callable Tryz.prog 94 = true := by kernel_rfl
theorem arr103 : arrT Tryz.prog 103 3 72 1 = true := by kernel_rfl
theorem boo4 : boolT Tryz.prog 4 = true := by kernel_rfl
theorem eqt96 : eqT Tryz.prog 96 [.int .i64, .int .i64] := ⟨by kernel_rfl, by kernel_rfl, by kernel_rfl⟩
theorem ext105_1 : Tryz.prog.funcs[105]? = some Tryz.f105 := Tryz.func105
theorem ext105_2 : (Tryz.f105.name == "runtime.NumGoroutine") = false := by kernel_rfl
theorem ext105_3 : Tryz.f105.body.isNone = true := by kernel_rfl
theorem ext105_4 : Extern.findNext Tryz.f105 = none := by kernel_rfl
theorem ext105_5 : Extern.find Tryz.f105 = some Extern.BytealgIndexByte.indexByte := by kernel_rfl
theorem ext87_1 : Tryz.prog.funcs[87]? = some Tryz.f87 := Tryz.func87
theorem ext87_2 : (Tryz.f87.name == "runtime.NumGoroutine") = false := by kernel_rfl
theorem ext87_3 : Tryz.f87.body.isNone = true := by kernel_rfl
theorem ext87_4 : Extern.findNext Tryz.f87 = none := by kernel_rfl
theorem ext87_5 : Extern.find Tryz.f87 = some Extern.BytealgCount.count := by kernel_rfl
theorem kok109 : KeyOk Tryz.prog 109 rLineEnd true := ⟨⟨[.int .i64, .int .i64], by kernel_rfl, fun w cs a hr => by obtain ⟨_, _, rfl, rfl, rfl⟩ := hr; exact ⟨⟨_, rfl⟩, ⟨⟨_, rfl⟩, trivial⟩⟩⟩, by kernel_rfl, fun w w' cs ds a c h1 h2 => by
    obtain ⟨_, _, rfl, rfl, rfl⟩ := h1
    obtain ⟨_, _, rfl, rfl, rfl⟩ := h2
    cases a; cases c
    simp [eqCells, eqCell, beq_dec, Bool.decide_and]⟩
theorem kok42 : KeyOk Tryz.prog 42 rApiNeed true := ⟨⟨[.int .i64, .int .i64, .int .i64, .int .i64], by kernel_rfl, fun w cs a hr => by obtain ⟨_, _, rfl, rfl, ⟨_, _, rfl, rfl, ⟨_, _, rfl, rfl, rfl⟩⟩⟩ := hr; exact ⟨⟨_, rfl⟩, ⟨⟨_, rfl⟩, ⟨⟨_, rfl⟩, ⟨⟨_, rfl⟩, trivial⟩⟩⟩⟩⟩, by kernel_rfl, fun w w' cs ds a c h1 h2 => by
    obtain ⟨_, _, rfl, rfl, ⟨_, _, rfl, rfl, ⟨_, _, rfl, rfl, rfl⟩⟩⟩ := h1
    obtain ⟨_, _, rfl, rfl, ⟨_, _, rfl, rfl, ⟨_, _, rfl, rfl, rfl⟩⟩⟩ := h2
    cases a; cases c
    simp [eqCells, eqCell, beq_dec, Bool.decide_and]⟩
theorem mapt137 : Tryz.prog.underlying 137 = some (.map 109 4) := by kernel_rfl
theorem mapt84 : Tryz.prog.underlying 84 = some (.map 42 4) := by kernel_rfl

end Go.Proofs.YtcibjjhanafojaaGreatDoor
