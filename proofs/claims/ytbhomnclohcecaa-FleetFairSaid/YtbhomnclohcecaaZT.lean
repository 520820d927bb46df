/- Closed facts on the tables of the program that the walks name. -/
import Derived.Test.YtbhomnclohcecaaRows
import Derived.Test.YtbhomnclohcecaaZD
set_option linter.unusedVariables false
set_option linter.unusedSimpArgs false
namespace Go.Proofs.Ytbhomnclohcecaa
open Go.RowKit Go.Fp

theorem mixed : Try.prog.follows .mixedOrders = true := by kernel_rfl
theorem agg24 : aggT Try.prog 24 7 = true := by kernel_rfl
theorem agg41 : aggT Try.prog 41 2 = true := by kernel_rfl
theorem agg43 : aggT Try.prog 43 3 = true := by kernel_rfl
theorem agg48 : aggT Try.prog 48 6 = true := by kernel_rfl
theorem agg80 : aggT Try.prog 80 7 = true := by kernel_rfl
theorem fld24_0 : fldT Try.prog 24 0 0 = true := by kernel_rfl
theorem fld24_1 : fldT Try.prog 24 1 1 = true := by kernel_rfl
theorem fld24_2 : fldT Try.prog 24 2 2 = true := by kernel_rfl
theorem fld24_3 : fldT Try.prog 24 3 3 = true := by kernel_rfl
theorem fld24_4 : fldT Try.prog 24 4 4 = true := by kernel_rfl
theorem fld24_5 : fldT Try.prog 24 5 5 = true := by kernel_rfl
theorem fld24_6 : fldT Try.prog 24 6 6 = true := by kernel_rfl
theorem fld41_0 : fldT Try.prog 41 0 0 = true := by kernel_rfl
theorem fld41_1 : fldT Try.prog 41 1 1 = true := by kernel_rfl
theorem fld43_0 : fldT Try.prog 43 0 0 = true := by kernel_rfl
theorem fld43_1 : fldT Try.prog 43 1 1 = true := by kernel_rfl
theorem fld43_2 : fldT Try.prog 43 2 2 = true := by kernel_rfl
theorem fld48_0 : fldT Try.prog 48 0 0 = true := by kernel_rfl
theorem fld48_1 : fldT Try.prog 48 1 1 = true := by kernel_rfl
theorem fld48_2 : fldT Try.prog 48 2 2 = true := by kernel_rfl
theorem fld48_3 : fldT Try.prog 48 3 3 = true := by kernel_rfl
theorem fld48_4 : fldT Try.prog 48 4 4 = true := by kernel_rfl
theorem fld48_5 : fldT Try.prog 48 5 5 = true := by kernel_rfl
theorem inf3 : (Try.prog.info? 3).map (fun i => (i.zero, i.size, i.bytes)) = some (some (.int .i64 0), 1, 8) := by kernel_rfl
theorem inf33 : (Try.prog.info? 33).map (fun i => (i.zero, i.size, i.bytes)) = some (some (.slice none 0 0), 1, 24) := by kernel_rfl
theorem int3_i64 : intT Try.prog 3 .i64 = true := by kernel_rfl
theorem int5_u8 : intT Try.prog 5 .u8 = true := by kernel_rfl
theorem int76_u64 : intT Try.prog 76 .u64 = true := by kernel_rfl
theorem int94_u64 : intT Try.prog 94 .u64 = true := by kernel_rfl
theorem int96_u64 : intT Try.prog 96 .u64 = true := by kernel_rfl
theorem one22 : oneT Try.prog 22 = true := by kernel_rfl
theorem one27 : oneT Try.prog 27 = true := by kernel_rfl
theorem one3 : oneT Try.prog 3 = true := by kernel_rfl
theorem one33 : oneT Try.prog 33 = true := by kernel_rfl
theorem one49 : oneT Try.prog 49 = true := by kernel_rfl
theorem one54 : oneT Try.prog 54 = true := by kernel_rfl
theorem one61 : oneT Try.prog 61 = true := by kernel_rfl
theorem one62 : oneT Try.prog 62 = true := by kernel_rfl
theorem one96 : oneT Try.prog 96 = true := by kernel_rfl
theorem siz27 : sizT Try.prog 27 1 = true := by kernel_rfl
theorem siz3 : sizT Try.prog 3 1 = true := by kernel_rfl
theorem siz33 : sizT Try.prog 33 1 = true := by kernel_rfl
theorem siz41 : sizT Try.prog 41 2 = true := by kernel_rfl
theorem siz43 : sizT Try.prog 43 3 = true := by kernel_rfl
theorem siz48 : sizT Try.prog 48 6 = true := by kernel_rfl
theorem siz54 : sizT Try.prog 54 1 = true := by kernel_rfl
theorem siz61 : sizT Try.prog 61 1 = true := by kernel_rfl
theorem siz62 : sizT Try.prog 62 1 = true := by kernel_rfl
theorem siz80 : sizT Try.prog 80 7 = true := by kernel_rfl
theorem siz96 : sizT Try.prog 96 1 = true := by kernel_rfl
theorem sl22 : slT Try.prog 22 43 3 = true := by kernel_rfl
theorem sl25 : slT Try.prog 25 41 2 = true := by kernel_rfl
theorem sl27 : slT Try.prog 27 33 1 = true := by kernel_rfl
theorem sl33 : slT Try.prog 33 3 1 = true := by kernel_rfl
theorem sl49 : slT Try.prog 49 48 6 = true := by kernel_rfl
theorem str9 : strT Try.prog 9 = true := by kernel_rfl
theorem zero27 : (Try.prog.info? 27).bind (·.zero) = some (.slice none 0 0) := by kernel_rfl
theorem zero3 : (Try.prog.info? 3).bind (·.zero) = some (.int .i64 0) := by kernel_rfl
theorem zero33 : (Try.prog.info? 33).bind (·.zero) = some (.slice none 0 0) := by kernel_rfl
theorem zero4 : (Try.prog.info? 4).bind (·.zero) = some (.bool false) := by kernel_rfl
theorem zero41 : (Try.prog.info? 41).bind (·.zero) = some (.agg #[.int .i64 0, .int .i64 0]) := by kernel_rfl
theorem zero43 : (Try.prog.info? 43).bind (·.zero) = some (.agg #[.int .i64 0, .int .i64 0, .int .i64 0]) := by kernel_rfl
theorem zero48 : (Try.prog.info? 48).bind (·.zero) = some (.agg #[.int .i64 0, .int .i64 0, .int .i64 0, .int .i64 0, .int .i64 0, .int .i64 0]) := by kernel_rfl
theorem zero54 : (Try.prog.info? 54).bind (·.zero) = some (.nilFunc) := by kernel_rfl
theorem zero61 : (Try.prog.info? 61).bind (·.zero) = some (.map none) := by kernel_rfl
theorem zero62 : (Try.prog.info? 62).bind (·.zero) = some (.map none) := by kernel_rfl
theorem zero80 : (Try.prog.info? 80).bind (·.zero) = some (.agg #[.int .i64 0, .int .i64 0, .int .i64 0, .int .i64 0, .int .i64 0, .int .i64 0, .int .i64 0]) := by kernel_rfl
theorem zero96 : (Try.prog.info? 96).bind (·.zero) = some (.int .u64 0) := by kernel_rfl
theorem call4 : callable Try.prog 4 = true := by kernel_rfl
theorem call5 : callable Try.prog 5 = true := by kernel_rfl
theorem call6 : callable Try.prog 6 = true := by kernel_rfl
theorem call7 : callable Try.prog 7 = true := by kernel_rfl
theorem call8 : callable Try.prog 8 = true := by kernel_rfl
theorem call9 : callable Try.prog 9 = true := by kernel_rfl
theorem call10 : callable Try.prog 10 = true := by kernel_rfl
theorem call11 : callable Try.prog 11 = true := by kernel_rfl
theorem call12 : callable Try.prog 12 = true := by kernel_rfl
theorem call13 : callable Try.prog 13 = true := by kernel_rfl
theorem call14 : callable Try.prog 14 = true := by kernel_rfl
theorem call15 : callable Try.prog 15 = true := by kernel_rfl
theorem call16 : callable Try.prog 16 = true := by kernel_rfl
theorem call17 : callable Try.prog 17 = true := by kernel_rfl
theorem call18 : callable Try.prog 18 = true := by kernel_rfl
theorem call19 : callable Try.prog 19 = true := by kernel_rfl
theorem call20 : callable Try.prog 20 = true := by kernel_rfl
theorem call21 : callable Try.prog 21 = true := by kernel_rfl
theorem call22 : callable Try.prog 22 = true := by kernel_rfl
theorem call23 : callable Try.prog 23 = true := by kernel_rfl
theorem call24 : callable Try.prog 24 = true := by kernel_rfl
theorem call25 : callable Try.prog 25 = true := by kernel_rfl
theorem call26 : callable Try.prog 26 = true := by kernel_rfl
theorem call27 : callable Try.prog 27 = true := by kernel_rfl
theorem call28 : callable Try.prog 28 = true := by kernel_rfl
theorem call29 : callable Try.prog 29 = true := by kernel_rfl
theorem call30 : callable Try.prog 30 = true := by kernel_rfl
theorem call31 : callable Try.prog 31 = true := by kernel_rfl
theorem call32 : callable Try.prog 32 = true := by kernel_rfl
theorem call33 : callable Try.prog 33 = true := by kernel_rfl
theorem call34 : callable Try.prog 34 = true := by kernel_rfl
theorem call35 : callable Try.prog 35 = true := by kernel_rfl
theorem call36 : callable Try.prog 36 = true := by kernel_rfl
theorem call37 : callable Try.prog 37 = true := by kernel_rfl
theorem call38 : callable Try.prog 38 = true := by kernel_rfl
theorem call39 : callable Try.prog 39 = true := by kernel_rfl
theorem call40 : callable Try.prog 40 = true := by kernel_rfl
theorem call41 : callable Try.prog 41 = true := by kernel_rfl
theorem call42 : callable Try.prog 42 = true := by kernel_rfl
theorem call43 : callable Try.prog 43 = true := by kernel_rfl
theorem call44 : callable Try.prog 44 = true := by kernel_rfl
theorem call45 : callable Try.prog 45 = true := by kernel_rfl
theorem call46 : callable Try.prog 46 = true := by kernel_rfl
theorem call47 : callable Try.prog 47 = true := by kernel_rfl
theorem call48 : callable Try.prog 48 = true := by kernel_rfl
theorem call49 : callable Try.prog 49 = true := by kernel_rfl
theorem call50 : callable Try.prog 50 = true := by kernel_rfl
theorem call52 : callable Try.prog 52 = true := by kernel_rfl
theorem call53 : callable Try.prog 53 = true := by kernel_rfl
theorem call54 : callable Try.prog 54 = true := by kernel_rfl
theorem call55 : callable Try.prog 55 = true := by kernel_rfl
theorem call56 : callable Try.prog 56 = true := by kernel_rfl
theorem call57 : callable Try.prog 57 = true := by kernel_rfl
theorem call58 : callable Try.prog 58 = true := by kernel_rfl
theorem call59 : callable Try.prog 59 = true := by kernel_rfl
theorem call60 : callable Try.prog 60 = true := by kernel_rfl
theorem call61 : callable Try.prog 61 = true := by kernel_rfl
theorem call62 : callable Try.prog 62 = true := by kernel_rfl
theorem call63 : callable Try.prog 63 = true := by kernel_rfl
theorem call64 : callable Try.prog 64 = true := by kernel_rfl
theorem arr69 : arrT Try.prog 69 6 3 1 = true := by kernel_rfl
theorem arr80 : arrT Try.prog 80 7 3 1 = true := by kernel_rfl
theorem eqt41 : eqT Try.prog 41 [.int .i64, .int .i64] := ⟨by kernel_rfl, by kernel_rfl, by kernel_rfl⟩
theorem kok3 : KeyOk Try.prog 3 (RT.int .i64) false := keyok_int (by kernel_rfl) (by kernel_rfl)
theorem kok41 : KeyOk Try.prog 41 rFleetAbsence true := ⟨⟨[.int .i64, .int .i64], by kernel_rfl, fun w cs a hr => by obtain ⟨_, _, rfl, rfl, rfl⟩ := hr; exact ⟨⟨_, rfl⟩, ⟨⟨_, rfl⟩, trivial⟩⟩⟩, by kernel_rfl, fun w w' cs ds a c h1 h2 => by
    obtain ⟨_, _, rfl, rfl, rfl⟩ := h1
    obtain ⟨_, _, rfl, rfl, rfl⟩ := h2
    cases a; cases c
    simp [eqCells, eqCell, beq_dec, Bool.decide_and]⟩
theorem mapt61 : Try.prog.underlying 61 = some (.map 41 4) := by kernel_rfl
theorem mapt62 : Try.prog.underlying 62 = some (.map 3 3) := by kernel_rfl

end Go.Proofs.Ytbhomnclohcecaa
