/- Closed facts on the tables of the program that the walks name. -/
import Derived.Test.YtnmhabgnfifkdaaRows
import Derived.Test.YtnmhabgnfifkdaaZD
set_option linter.unusedVariables false
set_option linter.unusedSimpArgs false
namespace Go.Proofs.Ytnmhabgnfifkdaa
open Go.RowKit Go.Fp

theorem mixed : Try.prog.follows .mixedOrders = true := by kernel_rfl
theorem agg108 : aggT Try.prog 108 7 = true := by kernel_rfl
theorem agg25 : aggT Try.prog 25 2 = true := by kernel_rfl
theorem agg27 : aggT Try.prog 27 7 = true := by kernel_rfl
theorem agg35 : aggT Try.prog 35 4 = true := by kernel_rfl
theorem agg37 : aggT Try.prog 37 4 = true := by kernel_rfl
theorem agg39 : aggT Try.prog 39 6 = true := by kernel_rfl
theorem agg47 : aggT Try.prog 47 3 = true := by kernel_rfl
theorem agg54 : aggT Try.prog 54 2 = true := by kernel_rfl
theorem fld25_0 : fldT Try.prog 25 0 0 = true := by kernel_rfl
theorem fld25_1 : fldT Try.prog 25 1 1 = true := by kernel_rfl
theorem fld27_0 : fldT Try.prog 27 0 0 = true := by kernel_rfl
theorem fld27_1 : fldT Try.prog 27 1 1 = true := by kernel_rfl
theorem fld27_2 : fldT Try.prog 27 2 2 = true := by kernel_rfl
theorem fld27_3 : fldT Try.prog 27 3 3 = true := by kernel_rfl
theorem fld27_4 : fldT Try.prog 27 4 4 = true := by kernel_rfl
theorem fld27_5 : fldT Try.prog 27 5 5 = true := by kernel_rfl
theorem fld27_6 : fldT Try.prog 27 6 6 = true := by kernel_rfl
theorem fld35_0 : fldT Try.prog 35 0 0 = true := by kernel_rfl
theorem fld35_1 : fldT Try.prog 35 1 1 = true := by kernel_rfl
theorem fld35_2 : fldT Try.prog 35 2 2 = true := by kernel_rfl
theorem fld35_3 : fldT Try.prog 35 3 3 = true := by kernel_rfl
theorem fld37_0 : fldT Try.prog 37 0 0 = true := by kernel_rfl
theorem fld37_1 : fldT Try.prog 37 1 1 = true := by kernel_rfl
theorem fld37_2 : fldT Try.prog 37 2 2 = true := by kernel_rfl
theorem fld37_3 : fldT Try.prog 37 3 3 = true := by kernel_rfl
theorem fld39_0 : fldT Try.prog 39 0 0 = true := by kernel_rfl
theorem fld39_1 : fldT Try.prog 39 1 1 = true := by kernel_rfl
theorem fld39_2 : fldT Try.prog 39 2 2 = true := by kernel_rfl
theorem fld39_3 : fldT Try.prog 39 3 3 = true := by kernel_rfl
theorem fld39_4 : fldT Try.prog 39 4 4 = true := by kernel_rfl
theorem fld39_5 : fldT Try.prog 39 5 5 = true := by kernel_rfl
theorem fld47_0 : fldT Try.prog 47 0 0 = true := by kernel_rfl
theorem fld47_1 : fldT Try.prog 47 1 1 = true := by kernel_rfl
theorem fld47_2 : fldT Try.prog 47 2 2 = true := by kernel_rfl
theorem fld54_0 : fldT Try.prog 54 0 0 = true := by kernel_rfl
theorem fld54_1 : fldT Try.prog 54 1 1 = true := by kernel_rfl
theorem fld65_0 : fldT Try.prog 65 0 0 = true := by kernel_rfl
theorem fld65_1 : fldT Try.prog 65 1 1 = true := by kernel_rfl
theorem fld65_2 : fldT Try.prog 65 2 8 = true := by kernel_rfl
theorem fld65_3 : fldT Try.prog 65 3 9 = true := by kernel_rfl
theorem inf3 : (Try.prog.info? 3).map (fun i => (i.zero, i.size, i.bytes)) = some (some (.int .i64 0), 1, 8) := by kernel_rfl
theorem inf39 : (Try.prog.info? 39).map (fun i => (i.zero, i.size, i.bytes)) = some (some (.agg #[.int .i64 0, .int .i64 0, .int .i64 0, .int .i64 0, .int .i64 0, .int .i64 0]), 6, 48) := by kernel_rfl
theorem inf4 : (Try.prog.info? 4).map (fun i => (i.zero, i.size, i.bytes)) = some (some (.bool false), 1, 1) := by kernel_rfl
theorem inf42 : (Try.prog.info? 42).map (fun i => (i.zero, i.size, i.bytes)) = some (some (.slice none 0 0), 1, 24) := by kernel_rfl
theorem inf47 : (Try.prog.info? 47).map (fun i => (i.zero, i.size, i.bytes)) = some (some (.agg #[.int .i64 0, .int .i64 0, .int .i64 0]), 3, 24) := by kernel_rfl
theorem int102_u64 : intT Try.prog 102 .u64 = true := by kernel_rfl
theorem int121_u64 : intT Try.prog 121 .u64 = true := by kernel_rfl
theorem int3_i64 : intT Try.prog 3 .i64 = true := by kernel_rfl
theorem int5_u8 : intT Try.prog 5 .u8 = true := by kernel_rfl
theorem int79_u64 : intT Try.prog 79 .u64 = true := by kernel_rfl
theorem one121 : oneT Try.prog 121 = true := by kernel_rfl
theorem one22 : oneT Try.prog 22 = true := by kernel_rfl
theorem one23 : oneT Try.prog 23 = true := by kernel_rfl
theorem one3 : oneT Try.prog 3 = true := by kernel_rfl
theorem one32 : oneT Try.prog 32 = true := by kernel_rfl
theorem one33 : oneT Try.prog 33 = true := by kernel_rfl
theorem one4 : oneT Try.prog 4 = true := by kernel_rfl
theorem one42 : oneT Try.prog 42 = true := by kernel_rfl
theorem one45 : oneT Try.prog 45 = true := by kernel_rfl
theorem one63 : oneT Try.prog 63 = true := by kernel_rfl
theorem one70 : oneT Try.prog 70 = true := by kernel_rfl
theorem one76 : oneT Try.prog 76 = true := by kernel_rfl
theorem one77 : oneT Try.prog 77 = true := by kernel_rfl
theorem siz108 : sizT Try.prog 108 7 = true := by kernel_rfl
theorem siz121 : sizT Try.prog 121 1 = true := by kernel_rfl
theorem siz23 : sizT Try.prog 23 1 = true := by kernel_rfl
theorem siz3 : sizT Try.prog 3 1 = true := by kernel_rfl
theorem siz32 : sizT Try.prog 32 1 = true := by kernel_rfl
theorem siz35 : sizT Try.prog 35 4 = true := by kernel_rfl
theorem siz37 : sizT Try.prog 37 4 = true := by kernel_rfl
theorem siz39 : sizT Try.prog 39 6 = true := by kernel_rfl
theorem siz4 : sizT Try.prog 4 1 = true := by kernel_rfl
theorem siz42 : sizT Try.prog 42 1 = true := by kernel_rfl
theorem siz47 : sizT Try.prog 47 3 = true := by kernel_rfl
theorem siz54 : sizT Try.prog 54 2 = true := by kernel_rfl
theorem siz70 : sizT Try.prog 70 1 = true := by kernel_rfl
theorem siz76 : sizT Try.prog 76 1 = true := by kernel_rfl
theorem siz77 : sizT Try.prog 77 1 = true := by kernel_rfl
theorem sl22 : slT Try.prog 22 35 4 = true := by kernel_rfl
theorem sl23 : slT Try.prog 23 42 1 = true := by kernel_rfl
theorem sl28 : slT Try.prog 28 54 2 = true := by kernel_rfl
theorem sl32 : slT Try.prog 32 39 6 = true := by kernel_rfl
theorem sl33 : slT Try.prog 33 37 4 = true := by kernel_rfl
theorem sl42 : slT Try.prog 42 3 1 = true := by kernel_rfl
theorem sl45 : slT Try.prog 45 47 3 = true := by kernel_rfl
theorem sl63 : slT Try.prog 63 4 1 = true := by kernel_rfl
theorem str9 : strT Try.prog 9 = true := by kernel_rfl
theorem zero108 : (Try.prog.info? 108).bind (·.zero) = some (.agg #[.int .i64 0, .int .i64 0, .int .i64 0, .int .i64 0, .int .i64 0, .int .i64 0, .int .i64 0]) := by kernel_rfl
theorem zero121 : (Try.prog.info? 121).bind (·.zero) = some (.int .u64 0) := by kernel_rfl
theorem zero23 : (Try.prog.info? 23).bind (·.zero) = some (.slice none 0 0) := by kernel_rfl
theorem zero3 : (Try.prog.info? 3).bind (·.zero) = some (.int .i64 0) := by kernel_rfl
theorem zero32 : (Try.prog.info? 32).bind (·.zero) = some (.slice none 0 0) := by kernel_rfl
theorem zero35 : (Try.prog.info? 35).bind (·.zero) = some (.agg #[.int .i64 0, .int .i64 0, .slice none 0 0, .slice none 0 0]) := by kernel_rfl
theorem zero37 : (Try.prog.info? 37).bind (·.zero) = some (.agg #[.int .i64 0, .int .i64 0, .int .i64 0, .int .i64 0]) := by kernel_rfl
theorem zero39 : (Try.prog.info? 39).bind (·.zero) = some (.agg #[.int .i64 0, .int .i64 0, .int .i64 0, .int .i64 0, .int .i64 0, .int .i64 0]) := by kernel_rfl
theorem zero4 : (Try.prog.info? 4).bind (·.zero) = some (.bool false) := by kernel_rfl
theorem zero42 : (Try.prog.info? 42).bind (·.zero) = some (.slice none 0 0) := by kernel_rfl
theorem zero47 : (Try.prog.info? 47).bind (·.zero) = some (.agg #[.int .i64 0, .int .i64 0, .int .i64 0]) := by kernel_rfl
theorem zero54 : (Try.prog.info? 54).bind (·.zero) = some (.agg #[.int .i64 0, .int .i64 0]) := by kernel_rfl
theorem zero70 : (Try.prog.info? 70).bind (·.zero) = some (.nilFunc) := by kernel_rfl
theorem zero76 : (Try.prog.info? 76).bind (·.zero) = some (.map none) := by kernel_rfl
theorem zero77 : (Try.prog.info? 77).bind (·.zero) = some (.map none) := by kernel_rfl
theorem call4 : callable Try.prog 4 = true := by kernel_rfl
theorem call5 : callable Try.prog 5 = true := by kernel_rfl
theorem call6 : callable Try.prog 6 = true := by kernel_rfl
theorem call7 : callable Try.prog 7 = true := by kernel_rfl
theorem call8 : callable Try.prog 8 = true := by kernel_rfl
theorem call9 : callable Try.prog 9 = true := by kernel_rfl
theorem call10 : callable Try.prog 10 = true := by kernel_rfl
theorem call11 : callable Try.prog 11 = true := by kernel_rfl
theorem call12 : callable Try.prog 12 = true := by kernel_rfl
theorem call13 : callable Try.prog 13 = true := by kernel_rfl
theorem call14 : callable Try.prog 14 = true := by kernel_rfl
theorem call15 : callable Try.prog 15 = true := by kernel_rfl
theorem call16 : callable Try.prog 16 = true := by kernel_rfl
theorem call17 : callable Try.prog 17 = true := by kernel_rfl
theorem call18 : callable Try.prog 18 = true := by kernel_rfl
theorem call19 : callable Try.prog 19 = true := by kernel_rfl
theorem call20 : callable Try.prog 20 = true := by kernel_rfl
theorem call21 : callable Try.prog 21 = true := by kernel_rfl
theorem call22 : callable Try.prog 22 = true := by kernel_rfl
theorem call23 : callable Try.prog 23 = true := by kernel_rfl
theorem call24 : callable Try.prog 24 = true := by kernel_rfl
theorem call25 : callable Try.prog 25 = true := by kernel_rfl
theorem call26 : callable Try.prog 26 = true := by kernel_rfl
theorem call27 : callable Try.prog 27 = true := by kernel_rfl
theorem call28 : callable Try.prog 28 = true := by kernel_rfl
theorem call29 : callable Try.prog 29 = true := by kernel_rfl
theorem call30 : callable Try.prog 30 = true := by kernel_rfl
theorem call31 : callable Try.prog 31 = true := by kernel_rfl
theorem call32 : callable Try.prog 32 = true := by kernel_rfl
theorem call33 : callable Try.prog 33 = true := by kernel_rfl
theorem call34 : callable Try.prog 34 = true := by kernel_rfl
theorem call35 : callable Try.prog 35 = true := by kernel_rfl
theorem call36 : callable Try.prog 36 = true := by kernel_rfl
theorem call37 : callable Try.prog 37 = true := by kernel_rfl
theorem call38 : callable Try.prog 38 = true := by kernel_rfl
theorem call39 : callable Try.prog 39 = true := by kernel_rfl
theorem call40 : callable Try.prog 40 = true := by kernel_rfl
theorem call41 : callable Try.prog 41 = true := by kernel_rfl
theorem call42 : callable Try.prog 42 = true := by kernel_rfl
theorem call43 : callable Try.prog 43 = true := by kernel_rfl
theorem call44 : callable Try.prog 44 = true := by kernel_rfl
theorem call45 : callable Try.prog 45 = true := by kernel_rfl
theorem call46 : callable Try.prog 46 = true := by kernel_rfl
theorem call47 : callable Try.prog 47 = true := by kernel_rfl
theorem call49 : callable Try.prog 49 = true := by kernel_rfl
theorem call50 : callable Try.prog 50 = true := by kernel_rfl
theorem call51 : callable Try.prog 51 = true := by kernel_rfl
theorem call52 : callable Try.prog 52 = true := by kernel_rfl
theorem call53 : callable Try.prog 53 = true := by kernel_rfl
theorem call54 : callable Try.prog 54 = true := by kernel_rfl
theorem call55 : callable Try.prog 55 = true := by kernel_rfl
theorem call56 : callable Try.prog 56 = true := by kernel_rfl
theorem call57 : callable Try.prog 57 = true := by kernel_rfl
theorem call58 : callable Try.prog 58 = true := by kernel_rfl
theorem call59 : callable Try.prog 59 = true := by kernel_rfl
theorem call60 : callable Try.prog 60 = true := by kernel_rfl
theorem call61 : callable Try.prog 61 = true := by kernel_rfl
theorem call62 : callable Try.prog 62 = true := by kernel_rfl
theorem call63 : callable Try.prog 63 = true := by kernel_rfl
theorem call64 : callable Try.prog 64 = true := by kernel_rfl
theorem call66 : callable Try.prog 66 = true := by kernel_rfl
theorem call67 : callable Try.prog 67 = true := by kernel_rfl
theorem call68 : callable Try.prog 68 = true := by kernel_rfl
theorem call69 : callable Try.prog 69 = true := by kernel_rfl
theorem call70 : callable Try.prog 70 = true := by kernel_rfl
theorem call71 : callable Try.prog 71 = true := by kernel_rfl
theorem call72 : callable Try.prog 72 = true := by kernel_rfl
theorem call73 : callable Try.prog 73 = true := by kernel_rfl
theorem call74 : callable Try.prog 74 = true := by kernel_rfl
theorem call75 : callable Try.prog 75 = true := by kernel_rfl
theorem call76 : callable Try.prog 76 = true := by kernel_rfl
theorem call77 : callable Try.prog 77 = true := by kernel_rfl
theorem call78 : callable Try.prog 78 = true := by kernel_rfl
theorem arr108 : arrT Try.prog 108 7 3 1 = true := by kernel_rfl
theorem arr92 : arrT Try.prog 92 6 3 1 = true := by kernel_rfl
theorem boo4 : boolT Try.prog 4 = true := by kernel_rfl
theorem eqt54 : eqT Try.prog 54 [.int .i64, .int .i64] := ⟨by kernel_rfl, by kernel_rfl, by kernel_rfl⟩
theorem kok3 : KeyOk Try.prog 3 (RT.int .i64) false := keyok_int (by kernel_rfl) (by kernel_rfl)
theorem kok54 : KeyOk Try.prog 54 rFleetAbsence true := ⟨⟨[.int .i64, .int .i64], by kernel_rfl, fun w cs a hr => by obtain ⟨_, _, rfl, rfl, rfl⟩ := hr; exact ⟨⟨_, rfl⟩, ⟨⟨_, rfl⟩, trivial⟩⟩⟩, by kernel_rfl, fun w w' cs ds a c h1 h2 => by
    obtain ⟨_, _, rfl, rfl, rfl⟩ := h1
    obtain ⟨_, _, rfl, rfl, rfl⟩ := h2
    cases a; cases c
    simp [eqCells, eqCell, beq_dec, Bool.decide_and]⟩
theorem mapt76 : Try.prog.underlying 76 = some (.map 54 4) := by kernel_rfl
theorem mapt77 : Try.prog.underlying 77 = some (.map 3 3) := by kernel_rfl

end Go.Proofs.Ytnmhabgnfifkdaa
