/- Closed facts on the tables of the program that the walks name. -/
import Derived.Test.YtckgfeglhjiflaaDoorRows
import Derived.Test.YtckgfeglhjiflaaDoorWD
set_option linter.unusedVariables false
set_option linter.unusedSimpArgs false
namespace Go.Proofs.YtckgfeglhjiflaaDoor
open Go.RowKit Go.Fp

theorem mixed : Tryd.prog.follows .mixedOrders = true := by kernel_rfl
theorem agg106 : aggT Tryd.prog 106 4 = true := by kernel_rfl
theorem agg113 : aggT Tryd.prog 113 2 = true := by kernel_rfl
theorem agg119 : aggT Tryd.prog 119 11 = true := by kernel_rfl
theorem agg138 : aggT Tryd.prog 138 3 = true := by kernel_rfl
theorem agg25 : aggT Tryd.prog 25 2 = true := by kernel_rfl
theorem agg33 : aggT Tryd.prog 33 1 = true := by kernel_rfl
theorem agg42 : aggT Tryd.prog 42 3 = true := by kernel_rfl
theorem agg47 : aggT Tryd.prog 47 4 = true := by kernel_rfl
theorem agg68 : aggT Tryd.prog 68 5 = true := by kernel_rfl
theorem agg71 : aggT Tryd.prog 71 6 = true := by kernel_rfl
theorem agg83 : aggT Tryd.prog 83 4 = true := by kernel_rfl
theorem agg86 : aggT Tryd.prog 86 3 = true := by kernel_rfl
theorem agg91 : aggT Tryd.prog 91 3 = true := by kernel_rfl
theorem fld113_0 : fldT Tryd.prog 113 0 0 = true := by kernel_rfl
theorem fld113_1 : fldT Tryd.prog 113 1 1 = true := by kernel_rfl
theorem fld116_0 : fldT Tryd.prog 116 0 0 = true := by kernel_rfl
theorem fld116_1 : fldT Tryd.prog 116 1 3 = true := by kernel_rfl
theorem fld116_2 : fldT Tryd.prog 116 2 4 = true := by kernel_rfl
theorem fld116_3 : fldT Tryd.prog 116 3 5 = true := by kernel_rfl
theorem fld119_0 : fldT Tryd.prog 119 0 0 = true := by kernel_rfl
theorem fld119_1 : fldT Tryd.prog 119 1 6 = true := by kernel_rfl
theorem fld119_2 : fldT Tryd.prog 119 2 7 = true := by kernel_rfl
theorem fld119_3 : fldT Tryd.prog 119 3 8 = true := by kernel_rfl
theorem fld119_4 : fldT Tryd.prog 119 4 9 = true := by kernel_rfl
theorem fld119_5 : fldT Tryd.prog 119 5 10 = true := by kernel_rfl
theorem fld25_0 : fldT Tryd.prog 25 0 0 = true := by kernel_rfl
theorem fld25_1 : fldT Tryd.prog 25 1 1 = true := by kernel_rfl
theorem fld33_0 : fldT Tryd.prog 33 0 0 = true := by kernel_rfl
theorem fld42_0 : fldT Tryd.prog 42 0 0 = true := by kernel_rfl
theorem fld42_1 : fldT Tryd.prog 42 1 1 = true := by kernel_rfl
theorem fld42_2 : fldT Tryd.prog 42 2 2 = true := by kernel_rfl
theorem fld47_0 : fldT Tryd.prog 47 0 0 = true := by kernel_rfl
theorem fld47_1 : fldT Tryd.prog 47 1 1 = true := by kernel_rfl
theorem fld47_2 : fldT Tryd.prog 47 2 2 = true := by kernel_rfl
theorem fld47_3 : fldT Tryd.prog 47 3 3 = true := by kernel_rfl
theorem fld68_0 : fldT Tryd.prog 68 0 0 = true := by kernel_rfl
theorem fld68_1 : fldT Tryd.prog 68 1 1 = true := by kernel_rfl
theorem fld68_3 : fldT Tryd.prog 68 3 3 = true := by kernel_rfl
theorem fld71_0 : fldT Tryd.prog 71 0 0 = true := by kernel_rfl
theorem fld71_1 : fldT Tryd.prog 71 1 1 = true := by kernel_rfl
theorem fld71_2 : fldT Tryd.prog 71 2 2 = true := by kernel_rfl
theorem fld71_3 : fldT Tryd.prog 71 3 3 = true := by kernel_rfl
theorem fld71_4 : fldT Tryd.prog 71 4 4 = true := by kernel_rfl
theorem fld71_5 : fldT Tryd.prog 71 5 5 = true := by kernel_rfl
theorem fld83_0 : fldT Tryd.prog 83 0 0 = true := by kernel_rfl
theorem fld83_1 : fldT Tryd.prog 83 1 1 = true := by kernel_rfl
theorem fld83_2 : fldT Tryd.prog 83 2 2 = true := by kernel_rfl
theorem fld83_3 : fldT Tryd.prog 83 3 3 = true := by kernel_rfl
theorem fld86_0 : fldT Tryd.prog 86 0 0 = true := by kernel_rfl
theorem fld86_1 : fldT Tryd.prog 86 1 1 = true := by kernel_rfl
theorem fld86_2 : fldT Tryd.prog 86 2 2 = true := by kernel_rfl
theorem fld91_0 : fldT Tryd.prog 91 0 0 = true := by kernel_rfl
theorem fld91_1 : fldT Tryd.prog 91 1 2 = true := by kernel_rfl
theorem inf119 : (Tryd.prog.info? 119).map (fun i => (i.zero, i.size, i.bytes)) = some (some (.agg #[.int .i64 0, .int .i64 0, .int .i64 0, .int .i64 0, .int .i64 0, .slice none 0 0, .slice none 0 0, .slice none 0 0, .slice none 0 0, .int .i64 0, .int .i64 0]), 11, 152) := by kernel_rfl
theorem inf3 : (Tryd.prog.info? 3).map (fun i => (i.zero, i.size, i.bytes)) = some (some (.int .i64 0), 1, 8) := by kernel_rfl
theorem inf4 : (Tryd.prog.info? 4).map (fun i => (i.zero, i.size, i.bytes)) = some (some (.bool false), 1, 1) := by kernel_rfl
theorem inf42 : (Tryd.prog.info? 42).map (fun i => (i.zero, i.size, i.bytes)) = some (some (.agg #[.int .i64 0, .int .i64 0, .int .i64 0]), 3, 24) := by kernel_rfl
theorem inf47 : (Tryd.prog.info? 47).map (fun i => (i.zero, i.size, i.bytes)) = some (some (.agg #[.int .i64 0, .int .i64 0, .slice none 0 0, .slice none 0 0]), 4, 64) := by kernel_rfl
theorem inf49 : (Tryd.prog.info? 49).map (fun i => (i.zero, i.size, i.bytes)) = some (some (.slice none 0 0), 1, 24) := by kernel_rfl
theorem inf68 : (Tryd.prog.info? 68).map (fun i => (i.zero, i.size, i.bytes)) = some (some (.agg #[.int .i64 0, .int .i64 0, .int .i64 0, .int .i64 0, .int .i64 0]), 5, 40) := by kernel_rfl
theorem inf71 : (Tryd.prog.info? 71).map (fun i => (i.zero, i.size, i.bytes)) = some (some (.agg #[.int .i64 0, .int .i64 0, .int .i64 0, .int .i64 0, .int .i64 0, .slice none 0 0]), 6, 64) := by kernel_rfl
theorem inf83 : (Tryd.prog.info? 83).map (fun i => (i.zero, i.size, i.bytes)) = some (some (.agg #[.int .i64 0, .int .i64 0, .int .i64 0, .int .i64 0]), 4, 32) := by kernel_rfl
theorem inf86 : (Tryd.prog.info? 86).map (fun i => (i.zero, i.size, i.bytes)) = some (some (.agg #[.int .i64 0, .int .i64 0, .int .i64 0]), 3, 24) := by kernel_rfl
theorem int145_u64 : intT Tryd.prog 145 .u64 = true := by kernel_rfl
theorem int173_u64 : intT Tryd.prog 173 .u64 = true := by kernel_rfl
theorem int3_i64 : intT Tryd.prog 3 .i64 = true := by kernel_rfl
theorem int5_u8 : intT Tryd.prog 5 .u8 = true := by kernel_rfl
theorem one105 : oneT Tryd.prog 105 = true := by kernel_rfl
theorem one114 : oneT Tryd.prog 114 = true := by kernel_rfl
theorem one117 : oneT Tryd.prog 117 = true := by kernel_rfl
theorem one120 : oneT Tryd.prog 120 = true := by kernel_rfl
theorem one136 : oneT Tryd.prog 136 = true := by kernel_rfl
theorem one141 : oneT Tryd.prog 141 = true := by kernel_rfl
theorem one22 : oneT Tryd.prog 22 = true := by kernel_rfl
theorem one23 : oneT Tryd.prog 23 = true := by kernel_rfl
theorem one3 : oneT Tryd.prog 3 = true := by kernel_rfl
theorem one31 : oneT Tryd.prog 31 = true := by kernel_rfl
theorem one4 : oneT Tryd.prog 4 = true := by kernel_rfl
theorem one45 : oneT Tryd.prog 45 = true := by kernel_rfl
theorem one49 : oneT Tryd.prog 49 = true := by kernel_rfl
theorem one55 : oneT Tryd.prog 55 = true := by kernel_rfl
theorem one58 : oneT Tryd.prog 58 = true := by kernel_rfl
theorem ptr55 : ptrT Tryd.prog 55 = true := by kernel_rfl
theorem siz105 : sizT Tryd.prog 105 1 = true := by kernel_rfl
theorem siz106 : sizT Tryd.prog 106 4 = true := by kernel_rfl
theorem siz113 : sizT Tryd.prog 113 2 = true := by kernel_rfl
theorem siz114 : sizT Tryd.prog 114 1 = true := by kernel_rfl
theorem siz119 : sizT Tryd.prog 119 11 = true := by kernel_rfl
theorem siz120 : sizT Tryd.prog 120 1 = true := by kernel_rfl
theorem siz136 : sizT Tryd.prog 136 1 = true := by kernel_rfl
theorem siz138 : sizT Tryd.prog 138 3 = true := by kernel_rfl
theorem siz141 : sizT Tryd.prog 141 1 = true := by kernel_rfl
theorem siz22 : sizT Tryd.prog 22 1 = true := by kernel_rfl
theorem siz23 : sizT Tryd.prog 23 1 = true := by kernel_rfl
theorem siz25 : sizT Tryd.prog 25 2 = true := by kernel_rfl
theorem siz3 : sizT Tryd.prog 3 1 = true := by kernel_rfl
theorem siz31 : sizT Tryd.prog 31 1 = true := by kernel_rfl
theorem siz33 : sizT Tryd.prog 33 1 = true := by kernel_rfl
theorem siz4 : sizT Tryd.prog 4 1 = true := by kernel_rfl
theorem siz42 : sizT Tryd.prog 42 3 = true := by kernel_rfl
theorem siz45 : sizT Tryd.prog 45 1 = true := by kernel_rfl
theorem siz47 : sizT Tryd.prog 47 4 = true := by kernel_rfl
theorem siz49 : sizT Tryd.prog 49 1 = true := by kernel_rfl
theorem siz58 : sizT Tryd.prog 58 1 = true := by kernel_rfl
theorem siz68 : sizT Tryd.prog 68 5 = true := by kernel_rfl
theorem siz71 : sizT Tryd.prog 71 6 = true := by kernel_rfl
theorem siz83 : sizT Tryd.prog 83 4 = true := by kernel_rfl
theorem siz86 : sizT Tryd.prog 86 3 = true := by kernel_rfl
theorem siz91 : sizT Tryd.prog 91 3 = true := by kernel_rfl
theorem sl114 : slT Tryd.prog 114 119 11 = true := by kernel_rfl
theorem sl117 : slT Tryd.prog 117 4 1 = true := by kernel_rfl
theorem sl22 : slT Tryd.prog 22 47 4 = true := by kernel_rfl
theorem sl23 : slT Tryd.prog 23 49 1 = true := by kernel_rfl
theorem sl31 : slT Tryd.prog 31 86 3 = true := by kernel_rfl
theorem sl38 : slT Tryd.prog 38 42 3 = true := by kernel_rfl
theorem sl45 : slT Tryd.prog 45 83 4 = true := by kernel_rfl
theorem sl49 : slT Tryd.prog 49 3 1 = true := by kernel_rfl
theorem sl53 : slT Tryd.prog 53 25 2 = true := by kernel_rfl
theorem sl54 : slT Tryd.prog 54 33 1 = true := by kernel_rfl
theorem sl58 : slT Tryd.prog 58 68 5 = true := by kernel_rfl
theorem sl59 : slT Tryd.prog 59 71 6 = true := by kernel_rfl
theorem str9 : strT Tryd.prog 9 = true := by kernel_rfl
theorem zero106 : (Tryd.prog.info? 106).bind (·.zero) = some (.agg #[.map none, .map none, .map none, .map none]) := by kernel_rfl
theorem zero113 : (Tryd.prog.info? 113).bind (·.zero) = some (.agg #[.int .i64 0, .int .i64 0]) := by kernel_rfl
theorem zero119 : (Tryd.prog.info? 119).bind (·.zero) = some (.agg #[.int .i64 0, .int .i64 0, .int .i64 0, .int .i64 0, .int .i64 0, .slice none 0 0, .slice none 0 0, .slice none 0 0, .slice none 0 0, .int .i64 0, .int .i64 0]) := by kernel_rfl
theorem zero120 : (Tryd.prog.info? 120).bind (·.zero) = some (.nilFunc) := by kernel_rfl
theorem zero136 : (Tryd.prog.info? 136).bind (·.zero) = some (.map none) := by kernel_rfl
theorem zero138 : (Tryd.prog.info? 138).bind (·.zero) = some (.agg #[.int .i64 0, .int .i64 0, .int .i64 0]) := by kernel_rfl
theorem zero141 : (Tryd.prog.info? 141).bind (·.zero) = some (.map none) := by kernel_rfl
theorem zero179 : (Tryd.prog.info? 179).bind (·.zero) = some (.agg #[.pointer none, .slice none 0 0]) := by kernel_rfl
theorem zero25 : (Tryd.prog.info? 25).bind (·.zero) = some (.agg #[.slice none 0 0, .slice none 0 0]) := by kernel_rfl
theorem zero3 : (Tryd.prog.info? 3).bind (·.zero) = some (.int .i64 0) := by kernel_rfl
theorem zero31 : (Tryd.prog.info? 31).bind (·.zero) = some (.slice none 0 0) := by kernel_rfl
theorem zero33 : (Tryd.prog.info? 33).bind (·.zero) = some (.agg #[.slice none 0 0]) := by kernel_rfl
theorem zero4 : (Tryd.prog.info? 4).bind (·.zero) = some (.bool false) := by kernel_rfl
theorem zero42 : (Tryd.prog.info? 42).bind (·.zero) = some (.agg #[.int .i64 0, .int .i64 0, .int .i64 0]) := by kernel_rfl
theorem zero47 : (Tryd.prog.info? 47).bind (·.zero) = some (.agg #[.int .i64 0, .int .i64 0, .slice none 0 0, .slice none 0 0]) := by kernel_rfl
theorem zero68 : (Tryd.prog.info? 68).bind (·.zero) = some (.agg #[.int .i64 0, .int .i64 0, .int .i64 0, .int .i64 0, .int .i64 0]) := by kernel_rfl
theorem zero71 : (Tryd.prog.info? 71).bind (·.zero) = some (.agg #[.int .i64 0, .int .i64 0, .int .i64 0, .int .i64 0, .int .i64 0, .slice none 0 0]) := by kernel_rfl
theorem zero83 : (Tryd.prog.info? 83).bind (·.zero) = some (.agg #[.int .i64 0, .int .i64 0, .int .i64 0, .int .i64 0]) := by kernel_rfl
theorem zero86 : (Tryd.prog.info? 86).bind (·.zero) = some (.agg #[.int .i64 0, .int .i64 0, .int .i64 0]) := by kernel_rfl
theorem zero91 : (Tryd.prog.info? 91).bind (·.zero) = some (.agg #[.slice none 0 0, .slice none 0 0, .int .i64 0]) := by kernel_rfl
theorem call7 : callable Tryd.prog 7 = true := by kernel_rfl
theorem call8 : callable Tryd.prog 8 = true := by kernel_rfl
theorem call12 : callable Tryd.prog 12 = true := by kernel_rfl
theorem call14 : callable Tryd.prog 14 = true := by kernel_rfl
theorem call16 : callable Tryd.prog 16 = true := by kernel_rfl
theorem call19 : callable Tryd.prog 19 = true := by kernel_rfl
theorem call21 : callable Tryd.prog 21 = true := by kernel_rfl
theorem call22 : callable Tryd.prog 22 = true := by kernel_rfl
theorem call23 : callable Tryd.prog 23 = true := by kernel_rfl
theorem call24 : callable Tryd.prog 24 = true := by kernel_rfl
theorem call25 : callable Tryd.prog 25 = true := by kernel_rfl
theorem call26 : callable Tryd.prog 26 = true := by kernel_rfl
theorem call27 : callable Tryd.prog 27 = true := by kernel_rfl
theorem call28 : callable Tryd.prog 28 = true := by kernel_rfl
theorem call31 : callable Tryd.prog 31 = true := by kernel_rfl
theorem call33 : callable Tryd.prog 33 = true := by kernel_rfl
theorem call35 : callable Tryd.prog 35 = true := by kernel_rfl
theorem call36 : callable Tryd.prog 36 = true := by kernel_rfl
theorem call37 : callable Tryd.prog 37 = true := by kernel_rfl
theorem call38 : callable Tryd.prog 38 = true := by kernel_rfl
theorem call39 : callable Tryd.prog 39 = true := by kernel_rfl
theorem call41 : callable Tryd.prog 41 = true := by kernel_rfl
theorem call43 : callable Tryd.prog 43 = true := by kernel_rfl
theorem call44 : callable Tryd.prog 44 = true := by kernel_rfl
theorem call45 : callable Tryd.prog 45 = true := by kernel_rfl
theorem call49 : callable Tryd.prog 49 = true := by kernel_rfl
theorem call50 : callable Tryd.prog 50 = true := by kernel_rfl
theorem call52 : callable Tryd.prog 52 = true := by kernel_rfl
theorem call54 : callable Tryd.prog 54 = true := by kernel_rfl
theorem call55 : callable Tryd.prog 55 = true := by kernel_rfl
theorem call56 : callable Tryd.prog 56 = true := by kernel_rfl
theorem call57 : callable Tryd.prog 57 = true := by kernel_rfl
theorem call58 : callable Tryd.prog 58 = true := by kernel_rfl
theorem call59 : callable Tryd.prog 59 = true := by kernel_rfl
theorem call60 : callable Tryd.prog 60 = true := by kernel_rfl
theorem call61 : callable Tryd.prog 61 = true := by kernel_rfl
theorem call62 : callable Tryd.prog 62 = true := by kernel_rfl
theorem call67 : callable Tryd.prog 67 = true := by kernel_rfl
theorem call72 : callable Tryd.prog 72 = true := by kernel_rfl
theorem call73 : callable Tryd.prog 73 = true := by kernel_rfl
theorem call74 : callable Tryd.prog 74 = true := by kernel_rfl
theorem call75 : callable Tryd.prog 75 = true := by kernel_rfl
theorem call76 : callable Tryd.prog 76 = true := by kernel_rfl
theorem call77 : callable Tryd.prog 77 = true := by kernel_rfl
theorem call78 : callable Tryd.prog 78 = true := by kernel_rfl
theorem call80 : callable Tryd.prog 80 = true := by kernel_rfl
theorem call82 : callable Tryd.prog 82 = true := by kernel_rfl
theorem call83 : callable Tryd.prog 83 = true := by kernel_rfl
theorem call84 : callable Tryd.prog 84 = true := by kernel_rfl
theorem call85 : callable Tryd.prog 85 = true := by kernel_rfl
theorem call86 : callable Tryd.prog 86 = true := by kernel_rfl
theorem call87 : callable Tryd.prog 87 = true := by kernel_rfl
theorem call94 : callable Tryd.prog 94 = true := by kernel_rfl
theorem call95 : callable Tryd.prog 95 = true := by kernel_rfl
theorem call98 : callable Tryd.prog 98 = true := by kernel_rfl
theorem call99 : callable Tryd.prog 99 = true := by kernel_rfl
theorem call100 : callable Tryd.prog 100 = true := by kernel_rfl
theorem call101 : callable Tryd.prog 101 = true := by kernel_rfl
theorem call102 : callable Tryd.prog 102 = true := by kernel_rfl
theorem call103 : callable Tryd.prog 103 = true := by kernel_rfl
theorem call104 : callable Tryd.prog 104 = true := by kernel_rfl
theorem call105 : callable Tryd.prog 105 = true := by kernel_rfl
theorem call107 : callable Tryd.prog 107 = true := by kernel_rfl
theorem call116 : callable Tryd.prog 116 = true := by kernel_rfl
theorem call118 : callable Tryd.prog 118 = true := by kernel_rfl
theorem call119 : callable Tryd.prog 119 = true := by kernel_rfl
theorem call120 : callable Tryd.prog 120 = true := by kernel_rfl
theorem call121 : callable Tryd.prog 121 = true := by kernel_rfl
theorem arr106 : arrT Tryd.prog 106 4 105 1 = true := by kernel_rfl
theorem boo4 : boolT Tryd.prog 4 = true := by kernel_rfl
theorem eqt68 : eqT Tryd.prog 68 [.int .i64, .int .i64, .int .i64, .int .i64, .int .i64] := ⟨by kernel_rfl, by kernel_rfl, by kernel_rfl⟩
theorem eqt86 : eqT Tryd.prog 86 [.int .i64, .int .i64, .int .i64] := ⟨by kernel_rfl, by kernel_rfl, by kernel_rfl⟩
theorem fdv83_0 : fldV Tryd.prog 83 0 0 3 = true := by kernel_rfl
theorem fdv83_1 : fldV Tryd.prog 83 1 1 3 = true := by kernel_rfl
theorem fdv83_2 : fldV Tryd.prog 83 2 2 3 = true := by kernel_rfl
theorem fdv83_3 : fldV Tryd.prog 83 3 3 3 = true := by kernel_rfl
theorem kok113 : KeyOk Tryd.prog 113 rGuidePlace true := ⟨⟨[.int .i64, .int .i64], by kernel_rfl, fun w cs a hr => by obtain ⟨_, _, rfl, rfl, rfl⟩ := hr; exact ⟨⟨_, rfl⟩, ⟨⟨_, rfl⟩, trivial⟩⟩⟩, by kernel_rfl, fun w w' cs ds a c h1 h2 => by
    obtain ⟨_, _, rfl, rfl, rfl⟩ := h1
    obtain ⟨_, _, rfl, rfl, rfl⟩ := h2
    cases a; cases c
    simp [eqCells, eqCell, beq_dec, Bool.decide_and]⟩
theorem kok138 : KeyOk Tryd.prog 138 (RT.arr 3 (RT.int .i64)) true := ⟨⟨_, by kernel_rfl, lv_arr (lv_int)⟩, by kernel_rfl, eq_arr (eq_int)⟩
theorem kok3 : KeyOk Tryd.prog 3 (RT.int .i64) false := keyok_int (by kernel_rfl) (by kernel_rfl)
theorem kok42 : KeyOk Tryd.prog 42 rGuidePoint true := ⟨⟨[.int .i64, .int .i64, .int .i64], by kernel_rfl, fun w cs a hr => by obtain ⟨_, _, rfl, rfl, ⟨_, _, rfl, rfl, rfl⟩⟩ := hr; exact ⟨⟨_, rfl⟩, ⟨⟨_, rfl⟩, ⟨⟨_, rfl⟩, trivial⟩⟩⟩⟩, by kernel_rfl, fun w w' cs ds a c h1 h2 => by
    obtain ⟨_, _, rfl, rfl, ⟨_, _, rfl, rfl, rfl⟩⟩ := h1
    obtain ⟨_, _, rfl, rfl, ⟨_, _, rfl, rfl, rfl⟩⟩ := h2
    cases a; cases c
    simp [eqCells, eqCell, beq_dec, Bool.decide_and]⟩
theorem mapt105 : Tryd.prog.underlying 105 = some (.map 113 4) := by kernel_rfl
theorem mapt121 : Tryd.prog.underlying 121 = some (.map 3 3) := by kernel_rfl
theorem mapt136 : Tryd.prog.underlying 136 = some (.map 138 4) := by kernel_rfl
theorem mapt141 : Tryd.prog.underlying 141 = some (.map 3 31) := by kernel_rfl
theorem mapt142 : Tryd.prog.underlying 142 = some (.map 42 4) := by kernel_rfl
theorem mapt156 : Tryd.prog.underlying 156 = some (.map 3 4) := by kernel_rfl

end Go.Proofs.YtckgfeglhjiflaaDoor
