/- Closed facts on the tables of the program that the walks name. -/
import Derived.Test.YtaagdbecijhkmaaDoorRows
import Derived.Test.YtaagdbecijhkmaaDoorTD
set_option linter.unusedVariables false
set_option linter.unusedSimpArgs false
namespace Go.Proofs.YtaagdbecijhkmaaDoor
open Go.RowKit Go.Fp

theorem mixed : Tryd.prog.follows .mixedOrders = true := by kernel_rfl
theorem agg28 : aggT Tryd.prog 28 5 = true := by kernel_rfl
theorem agg39 : aggT Tryd.prog 39 7 = true := by kernel_rfl
theorem agg42 : aggT Tryd.prog 42 4 = true := by kernel_rfl
theorem agg45 : aggT Tryd.prog 45 2 = true := by kernel_rfl
theorem agg48 : aggT Tryd.prog 48 2 = true := by kernel_rfl
theorem agg79 : aggT Tryd.prog 79 2 = true := by kernel_rfl
theorem fld28_0 : fldT Tryd.prog 28 0 0 = true := by kernel_rfl
theorem fld28_1 : fldT Tryd.prog 28 1 1 = true := by kernel_rfl
theorem fld28_2 : fldT Tryd.prog 28 2 2 = true := by kernel_rfl
theorem fld28_3 : fldT Tryd.prog 28 3 3 = true := by kernel_rfl
theorem fld28_4 : fldT Tryd.prog 28 4 4 = true := by kernel_rfl
theorem fld39_0 : fldT Tryd.prog 39 0 0 = true := by kernel_rfl
theorem fld39_1 : fldT Tryd.prog 39 1 1 = true := by kernel_rfl
theorem fld39_2 : fldT Tryd.prog 39 2 2 = true := by kernel_rfl
theorem fld39_3 : fldT Tryd.prog 39 3 3 = true := by kernel_rfl
theorem fld39_4 : fldT Tryd.prog 39 4 4 = true := by kernel_rfl
theorem fld39_5 : fldT Tryd.prog 39 5 5 = true := by kernel_rfl
theorem fld39_6 : fldT Tryd.prog 39 6 6 = true := by kernel_rfl
theorem fld42_0 : fldT Tryd.prog 42 0 0 = true := by kernel_rfl
theorem fld42_1 : fldT Tryd.prog 42 1 1 = true := by kernel_rfl
theorem fld42_2 : fldT Tryd.prog 42 2 2 = true := by kernel_rfl
theorem fld42_3 : fldT Tryd.prog 42 3 3 = true := by kernel_rfl
theorem fld45_0 : fldT Tryd.prog 45 0 0 = true := by kernel_rfl
theorem fld45_1 : fldT Tryd.prog 45 1 1 = true := by kernel_rfl
theorem fld48_0 : fldT Tryd.prog 48 0 0 = true := by kernel_rfl
theorem fld48_1 : fldT Tryd.prog 48 1 1 = true := by kernel_rfl
theorem fld79_0 : fldT Tryd.prog 79 0 0 = true := by kernel_rfl
theorem fld79_1 : fldT Tryd.prog 79 1 1 = true := by kernel_rfl
theorem inf22 : (Tryd.prog.info? 22).map (fun i => (i.zero, i.size, i.bytes)) = some (some (.slice none 0 0), 1, 24) := by kernel_rfl
theorem inf3 : (Tryd.prog.info? 3).map (fun i => (i.zero, i.size, i.bytes)) = some (some (.int .i64 0), 1, 8) := by kernel_rfl
theorem inf39 : (Tryd.prog.info? 39).map (fun i => (i.zero, i.size, i.bytes)) = some (some (.agg #[.int .i64 0, .int .i64 0, .int .i64 0, .int .i64 0, .int .i64 0, .int .i64 0, .bool false]), 7, 56) := by kernel_rfl
theorem inf42 : (Tryd.prog.info? 42).map (fun i => (i.zero, i.size, i.bytes)) = some (some (.agg #[.int .i64 0, .int .i64 0, .int .i64 0, .int .i64 0]), 4, 32) := by kernel_rfl
theorem inf45 : (Tryd.prog.info? 45).map (fun i => (i.zero, i.size, i.bytes)) = some (some (.agg #[.int .i64 0, .int .i64 0]), 2, 16) := by kernel_rfl
theorem inf48 : (Tryd.prog.info? 48).map (fun i => (i.zero, i.size, i.bytes)) = some (some (.agg #[.int .i64 0, .int .i64 0]), 2, 16) := by kernel_rfl
theorem inf9 : (Tryd.prog.info? 9).map (fun i => (i.zero, i.size, i.bytes)) = some (some (.string ByteArray.empty), 1, 16) := by kernel_rfl
theorem int5_u8 : intT Tryd.prog 5 .u8 = true := by kernel_rfl
theorem one20 : oneT Tryd.prog 20 = true := by kernel_rfl
theorem one22 : oneT Tryd.prog 22 = true := by kernel_rfl
theorem one23 : oneT Tryd.prog 23 = true := by kernel_rfl
theorem one24 : oneT Tryd.prog 24 = true := by kernel_rfl
theorem one25 : oneT Tryd.prog 25 = true := by kernel_rfl
theorem one26 : oneT Tryd.prog 26 = true := by kernel_rfl
theorem one3 : oneT Tryd.prog 3 = true := by kernel_rfl
theorem one33 : oneT Tryd.prog 33 = true := by kernel_rfl
theorem one4 : oneT Tryd.prog 4 = true := by kernel_rfl
theorem one5 : oneT Tryd.prog 5 = true := by kernel_rfl
theorem one9 : oneT Tryd.prog 9 = true := by kernel_rfl
theorem siz22 : sizT Tryd.prog 22 1 = true := by kernel_rfl
theorem siz23 : sizT Tryd.prog 23 1 = true := by kernel_rfl
theorem siz24 : sizT Tryd.prog 24 1 = true := by kernel_rfl
theorem siz25 : sizT Tryd.prog 25 1 = true := by kernel_rfl
theorem siz26 : sizT Tryd.prog 26 1 = true := by kernel_rfl
theorem siz28 : sizT Tryd.prog 28 5 = true := by kernel_rfl
theorem siz3 : sizT Tryd.prog 3 1 = true := by kernel_rfl
theorem siz39 : sizT Tryd.prog 39 7 = true := by kernel_rfl
theorem siz4 : sizT Tryd.prog 4 1 = true := by kernel_rfl
theorem siz42 : sizT Tryd.prog 42 4 = true := by kernel_rfl
theorem siz45 : sizT Tryd.prog 45 2 = true := by kernel_rfl
theorem siz48 : sizT Tryd.prog 48 2 = true := by kernel_rfl
theorem siz79 : sizT Tryd.prog 79 2 = true := by kernel_rfl
theorem siz9 : sizT Tryd.prog 9 1 = true := by kernel_rfl
theorem sl22 : slT Tryd.prog 22 9 1 = true := by kernel_rfl
theorem sl23 : slT Tryd.prog 23 39 7 = true := by kernel_rfl
theorem sl24 : slT Tryd.prog 24 42 4 = true := by kernel_rfl
theorem sl25 : slT Tryd.prog 25 45 2 = true := by kernel_rfl
theorem sl26 : slT Tryd.prog 26 48 2 = true := by kernel_rfl
theorem sl51 : slT Tryd.prog 51 5 1 = true := by kernel_rfl
theorem sl64 : slT Tryd.prog 64 22 1 = true := by kernel_rfl
theorem sl69 : slT Tryd.prog 69 20 1 = true := by kernel_rfl
theorem sl88 : slT Tryd.prog 88 3 1 = true := by kernel_rfl
theorem str9 : strT Tryd.prog 9 = true := by kernel_rfl
theorem zero28 : (Tryd.prog.info? 28).bind (·.zero) = some (.agg #[.slice none 0 0, .slice none 0 0, .slice none 0 0, .slice none 0 0, .slice none 0 0]) := by kernel_rfl
theorem zero3 : (Tryd.prog.info? 3).bind (·.zero) = some (.int .i64 0) := by kernel_rfl
theorem zero39 : (Tryd.prog.info? 39).bind (·.zero) = some (.agg #[.int .i64 0, .int .i64 0, .int .i64 0, .int .i64 0, .int .i64 0, .int .i64 0, .bool false]) := by kernel_rfl
theorem zero4 : (Tryd.prog.info? 4).bind (·.zero) = some (.bool false) := by kernel_rfl
theorem zero42 : (Tryd.prog.info? 42).bind (·.zero) = some (.agg #[.int .i64 0, .int .i64 0, .int .i64 0, .int .i64 0]) := by kernel_rfl
theorem zero45 : (Tryd.prog.info? 45).bind (·.zero) = some (.agg #[.int .i64 0, .int .i64 0]) := by kernel_rfl
theorem zero48 : (Tryd.prog.info? 48).bind (·.zero) = some (.agg #[.int .i64 0, .int .i64 0]) := by kernel_rfl
theorem zero53 : (Tryd.prog.info? 53).bind (·.zero) = some (.agg #[.pointer none, .slice none 0 0]) := by kernel_rfl
theorem zero79 : (Tryd.prog.info? 79).bind (·.zero) = some (.agg #[.int .i64 0, .int .i64 0]) := by kernel_rfl
theorem zero9 : (Tryd.prog.info? 9).bind (·.zero) = some (.string ByteArray.empty) := by kernel_rfl
theorem call4 : callable Tryd.prog 4 = true := by kernel_rfl
theorem call5 : callable Tryd.prog 5 = true := by kernel_rfl
theorem call6 : callable Tryd.prog 6 = true := by kernel_rfl
theorem call7 : callable Tryd.prog 7 = true := by kernel_rfl
theorem call8 : callable Tryd.prog 8 = true := by kernel_rfl
theorem call9 : callable Tryd.prog 9 = true := by kernel_rfl
theorem call10 : callable Tryd.prog 10 = true := by kernel_rfl
theorem call11 : callable Tryd.prog 11 = true := by kernel_rfl
theorem call12 : callable Tryd.prog 12 = true := by kernel_rfl
theorem call13 : callable Tryd.prog 13 = true := by kernel_rfl
theorem call14 : callable Tryd.prog 14 = true := by kernel_rfl
theorem call15 : callable Tryd.prog 15 = true := by kernel_rfl
theorem call16 : callable Tryd.prog 16 = true := by kernel_rfl
theorem call17 : callable Tryd.prog 17 = true := by kernel_rfl
theorem call18 : callable Tryd.prog 18 = true := by kernel_rfl
theorem call19 : callable Tryd.prog 19 = true := by kernel_rfl
theorem call20 : callable Tryd.prog 20 = true := by kernel_rfl
theorem call21 : callable Tryd.prog 21 = true := by kernel_rfl
theorem call22 : callable Tryd.prog 22 = true := by kernel_rfl
theorem call23 : callable Tryd.prog 23 = true := by kernel_rfl
theorem call25 : callable Tryd.prog 25 = true := by kernel_rfl
theorem call26 : callable Tryd.prog 26 = true := by kernel_rfl
theorem call27 : callable Tryd.prog 27 = true := by kernel_rfl
theorem call28 : callable Tryd.prog 28 = true := by kernel_rfl
theorem call29 : callable Tryd.prog 29 = true := by kernel_rfl
theorem call30 : callable Tryd.prog 30 = true := by kernel_rfl
theorem call31 : callable Tryd.prog 31 = true := by kernel_rfl
theorem call32 : callable Tryd.prog 32 = true := by kernel_rfl
theorem call33 : callable Tryd.prog 33 = true := by kernel_rfl
theorem call34 : callable Tryd.prog 34 = true := by kernel_rfl
theorem call35 : callable Tryd.prog 35 = true := by kernel_rfl
theorem call36 : callable Tryd.prog 36 = true := by kernel_rfl
theorem call40 : callable Tryd.prog 40 = true := by kernel_rfl
theorem call41 : callable Tryd.prog 41 = true := by kernel_rfl
theorem call42 : callable Tryd.prog 42 = true := by kernel_rfl
theorem call43 : callable Tryd.prog 43 = true := by kernel_rfl
theorem call46 : callable Tryd.prog 46 = true := by kernel_rfl
theorem call48 : callable Tryd.prog 48 = true := by kernel_rfl
theorem call49 : callable Tryd.prog 49 = true := by kernel_rfl
theorem call50 : callable Tryd.prog 50 = true := by kernel_rfl
theorem call51 : callable Tryd.prog 51 = true := by kernel_rfl
theorem call60 : callable Tryd.prog 60 = true := by kernel_rfl
theorem call63 : callable Tryd.prog 63 = true := by kernel_rfl
theorem call70 : callable Tryd.prog 70 = true := by kernel_rfl
theorem call79 : callable Tryd.prog 79 = true := by kernel_rfl
theorem arr63 : arrT Tryd.prog 63 3 33 1 = true := by kernel_rfl
theorem eqt39 : eqT Tryd.prog 39 [.int .i64, .int .i64, .int .i64, .int .i64, .int .i64, .int .i64, .bool] := ⟨by kernel_rfl, by kernel_rfl, by kernel_rfl⟩
theorem eqt42 : eqT Tryd.prog 42 [.int .i64, .int .i64, .int .i64, .int .i64] := ⟨by kernel_rfl, by kernel_rfl, by kernel_rfl⟩
theorem eqt45 : eqT Tryd.prog 45 [.int .i64, .int .i64] := ⟨by kernel_rfl, by kernel_rfl, by kernel_rfl⟩
theorem eqt48 : eqT Tryd.prog 48 [.int .i64, .int .i64] := ⟨by kernel_rfl, by kernel_rfl, by kernel_rfl⟩
theorem ext59_1 : Tryd.prog.funcs[59]? = some Tryd.f59 := Tryd.func59
theorem ext59_2 : (Tryd.f59.name == "runtime.NumGoroutine") = false := by kernel_rfl
theorem ext59_3 : Tryd.f59.body.isNone = true := by kernel_rfl
theorem ext59_4 : Extern.findNext Tryd.f59 = none := by kernel_rfl
theorem ext59_5 : Extern.find Tryd.f59 = some Extern.BytealgCount.count := by kernel_rfl
theorem ext82_1 : Tryd.prog.funcs[82]? = some Tryd.f82 := Tryd.func82
theorem ext82_2 : (Tryd.f82.name == "runtime.NumGoroutine") = false := by kernel_rfl
theorem ext82_3 : Tryd.f82.body.isNone = true := by kernel_rfl
theorem ext82_4 : Extern.findNext Tryd.f82 = none := by kernel_rfl
theorem ext82_5 : Extern.find Tryd.f82 = some Extern.BytealgIndexByte.indexByte := by kernel_rfl
theorem kok4 : KeyOk Tryd.prog 4 RT.bool false := keyok_bool (by kernel_rfl) (by kernel_rfl)
theorem kok79 : KeyOk Tryd.prog 79 rLineEnd true := ⟨⟨[.int .i64, .int .i64], by kernel_rfl, fun w cs a hr => by obtain ⟨_, _, rfl, rfl, rfl⟩ := hr; exact ⟨⟨_, rfl⟩, ⟨⟨_, rfl⟩, trivial⟩⟩⟩, by kernel_rfl, fun w w' cs ds a c h1 h2 => by
    obtain ⟨_, _, rfl, rfl, rfl⟩ := h1
    obtain ⟨_, _, rfl, rfl, rfl⟩ := h2
    cases a; cases c
    simp [eqCells, eqCell, beq_dec, Bool.decide_and]⟩
theorem kok9 : KeyOk Tryd.prog 9 RT.str false := keyok_str (by kernel_rfl) (by kernel_rfl)
theorem mapt71 : Tryd.prog.underlying 71 = some (.map 4 9) := by kernel_rfl
theorem mapt77 : Tryd.prog.underlying 77 = some (.map 79 4) := by kernel_rfl
theorem mapt91 : Tryd.prog.underlying 91 = some (.map 9 3) := by kernel_rfl
theorem ift55 : ifT Tryd.prog 55 := by unfold ifT; kernel_rfl
theorem dyb4 : Tryd.prog.underlying 4 = some (.bool) := by kernel_rfl
theorem dyi3 : Tryd.prog.underlying 3 = some (.int .i64) := by kernel_rfl
theorem dys9 : Tryd.prog.underlying 9 = some (.string) := by kernel_rfl

end Go.Proofs.YtaagdbecijhkmaaDoor
