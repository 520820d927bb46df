/- Closed facts on the tables of the program that the walks name. -/
import Derived.Test.YtajmocgpjkhjlaaRows
import Derived.Test.YtajmocgpjkhjlaaHD
set_option linter.unusedVariables false
set_option linter.unusedSimpArgs false
namespace Go.Proofs.Ytajmocgpjkhjlaa
open Go.RowKit Go.Fp

theorem mixed : Try.prog.follows .mixedOrders = true := by kernel_rfl
theorem agg113 : aggT Try.prog 113 16 = true := by kernel_rfl
theorem agg122 : aggT Try.prog 122 4 = true := by kernel_rfl
theorem agg126 : aggT Try.prog 126 2 = true := by kernel_rfl
theorem agg36 : aggT Try.prog 36 6 = true := by kernel_rfl
theorem agg63 : aggT Try.prog 63 2 = true := by kernel_rfl
theorem fld119_0 : fldT Try.prog 119 0 0 = true := by kernel_rfl
theorem fld122_0 : fldT Try.prog 122 0 0 = true := by kernel_rfl
theorem fld122_1 : fldT Try.prog 122 1 2 = true := by kernel_rfl
theorem fld122_2 : fldT Try.prog 122 2 3 = true := by kernel_rfl
theorem fld126_0 : fldT Try.prog 126 0 0 = true := by kernel_rfl
theorem fld126_1 : fldT Try.prog 126 1 1 = true := by kernel_rfl
theorem fld36_0 : fldT Try.prog 36 0 0 = true := by kernel_rfl
theorem fld36_1 : fldT Try.prog 36 1 1 = true := by kernel_rfl
theorem fld36_2 : fldT Try.prog 36 2 2 = true := by kernel_rfl
theorem fld36_3 : fldT Try.prog 36 3 3 = true := by kernel_rfl
theorem fld36_4 : fldT Try.prog 36 4 4 = true := by kernel_rfl
theorem fld36_5 : fldT Try.prog 36 5 5 = true := by kernel_rfl
theorem fld63_0 : fldT Try.prog 63 0 0 = true := by kernel_rfl
theorem fld63_1 : fldT Try.prog 63 1 1 = true := by kernel_rfl
theorem inf122 : (Try.prog.info? 122).map (fun i => (i.zero, i.size, i.bytes)) = some (some (.agg #[.slice none 0 0, .slice none 0 0, .int .i64 0, .slice none 0 0]), 4, 80) := by kernel_rfl
theorem inf126 : (Try.prog.info? 126).map (fun i => (i.zero, i.size, i.bytes)) = some (some (.agg #[.int .i64 0, .int .i64 0]), 2, 16) := by kernel_rfl
theorem inf3 : (Try.prog.info? 3).map (fun i => (i.zero, i.size, i.bytes)) = some (some (.int .i64 0), 1, 8) := by kernel_rfl
theorem inf45 : (Try.prog.info? 45).map (fun i => (i.zero, i.size, i.bytes)) = some (some (.slice none 0 0), 1, 24) := by kernel_rfl
theorem int167_u64 : intT Try.prog 167 .u64 = true := by kernel_rfl
theorem int3_i64 : intT Try.prog 3 .i64 = true := by kernel_rfl
theorem one117 : oneT Try.prog 117 = true := by kernel_rfl
theorem one22 : oneT Try.prog 22 = true := by kernel_rfl
theorem one26 : oneT Try.prog 26 = true := by kernel_rfl
theorem one3 : oneT Try.prog 3 = true := by kernel_rfl
theorem one45 : oneT Try.prog 45 = true := by kernel_rfl
theorem one65 : oneT Try.prog 65 = true := by kernel_rfl
theorem siz113 : sizT Try.prog 113 16 = true := by kernel_rfl
theorem siz117 : sizT Try.prog 117 1 = true := by kernel_rfl
theorem siz122 : sizT Try.prog 122 4 = true := by kernel_rfl
theorem siz126 : sizT Try.prog 126 2 = true := by kernel_rfl
theorem siz26 : sizT Try.prog 26 1 = true := by kernel_rfl
theorem siz3 : sizT Try.prog 3 1 = true := by kernel_rfl
theorem siz36 : sizT Try.prog 36 6 = true := by kernel_rfl
theorem siz45 : sizT Try.prog 45 1 = true := by kernel_rfl
theorem siz63 : sizT Try.prog 63 2 = true := by kernel_rfl
theorem sl117 : slT Try.prog 117 122 4 = true := by kernel_rfl
theorem sl22 : slT Try.prog 22 36 6 = true := by kernel_rfl
theorem sl26 : slT Try.prog 26 45 1 = true := by kernel_rfl
theorem sl45 : slT Try.prog 45 3 1 = true := by kernel_rfl
theorem sl65 : slT Try.prog 65 126 2 = true := by kernel_rfl
theorem zero113 : (Try.prog.info? 113).bind (·.zero) = some (.agg #[.int .i64 0, .int .i64 0, .int .i64 0, .int .i64 0, .int .i64 0, .int .i64 0, .int .i64 0, .int .i64 0, .int .i64 0, .int .i64 0, .int .i64 0, .int .i64 0, .int .i64 0, .int .i64 0, .int .i64 0, .int .i64 0]) := by kernel_rfl
theorem zero122 : (Try.prog.info? 122).bind (·.zero) = some (.agg #[.slice none 0 0, .slice none 0 0, .int .i64 0, .slice none 0 0]) := by kernel_rfl
theorem zero126 : (Try.prog.info? 126).bind (·.zero) = some (.agg #[.int .i64 0, .int .i64 0]) := by kernel_rfl
theorem zero36 : (Try.prog.info? 36).bind (·.zero) = some (.agg #[.int .i64 0, .int .i64 0, .int .i64 0, .int .i64 0, .int .i64 0, .int .i64 0]) := by kernel_rfl
theorem zero4 : (Try.prog.info? 4).bind (·.zero) = some (.bool false) := by kernel_rfl
theorem zero63 : (Try.prog.info? 63).bind (·.zero) = some (.agg #[.slice none 0 0, .slice none 0 0]) := by kernel_rfl
theorem call10 : callable Try.prog 10 = true := by kernel_rfl
theorem call11 : callable Try.prog 11 = true := by kernel_rfl
theorem call13 : callable Try.prog 13 = true := by kernel_rfl
theorem call20 : callable Try.prog 20 = true := by kernel_rfl
theorem call27 : callable Try.prog 27 = true := by kernel_rfl
theorem call29 : callable Try.prog 29 = true := by kernel_rfl
theorem call30 : callable Try.prog 30 = true := by kernel_rfl
theorem call31 : callable Try.prog 31 = true := by kernel_rfl
theorem call34 : callable Try.prog 34 = true := by kernel_rfl
theorem call42 : callable Try.prog 42 = true := by kernel_rfl
theorem call43 : callable Try.prog 43 = true := by kernel_rfl
theorem call44 : callable Try.prog 44 = true := by kernel_rfl
theorem call45 : callable Try.prog 45 = true := by kernel_rfl
theorem call46 : callable Try.prog 46 = true := by kernel_rfl
theorem call47 : callable Try.prog 47 = true := by kernel_rfl
theorem call51 : callable Try.prog 51 = true := by kernel_rfl
theorem call57 : callable Try.prog 57 = true := by kernel_rfl
theorem call58 : callable Try.prog 58 = true := by kernel_rfl
theorem call59 : callable Try.prog 59 = true := by kernel_rfl
theorem call60 : callable Try.prog 60 = true := by kernel_rfl
theorem call61 : callable Try.prog 61 = true := by kernel_rfl
theorem call62 : callable Try.prog 62 = true := by kernel_rfl
theorem call63 : callable Try.prog 63 = true := by kernel_rfl
theorem call64 : callable Try.prog 64 = true := by kernel_rfl
theorem call65 : callable Try.prog 65 = true := by kernel_rfl
theorem call66 : callable Try.prog 66 = true := by kernel_rfl
theorem call79 : callable Try.prog 79 = true := by kernel_rfl
theorem call80 : callable Try.prog 80 = true := by kernel_rfl
theorem call81 : callable Try.prog 81 = true := by kernel_rfl
theorem call96 : callable Try.prog 96 = true := by kernel_rfl
theorem call102 : callable Try.prog 102 = true := by kernel_rfl
theorem call103 : callable Try.prog 103 = true := by kernel_rfl
theorem call119 : callable Try.prog 119 = true := by kernel_rfl
theorem call120 : callable Try.prog 120 = true := by kernel_rfl
theorem call128 : callable Try.prog 128 = true := by kernel_rfl
theorem call130 : callable Try.prog 130 = true := by kernel_rfl
theorem arr111 : arrT Try.prog 111 4 3 1 = true := by kernel_rfl
theorem arr113 : arrT Try.prog 113 4 111 4 = true := by kernel_rfl
theorem kok113 : KeyOk Try.prog 113 (RT.arr 4 (RT.arr 4 (RT.int .i64))) true := ⟨⟨_, by kernel_rfl, lv_arr (lv_arr (lv_int))⟩, by kernel_rfl, eq_arr (eq_arr (eq_int))⟩
theorem kok3 : KeyOk Try.prog 3 (RT.int .i64) false := keyok_int (by kernel_rfl) (by kernel_rfl)
theorem mapt115 : Try.prog.underlying 115 = some (.map 113 4) := by kernel_rfl
theorem mapt161 : Try.prog.underlying 161 = some (.map 3 4) := by kernel_rfl

end Go.Proofs.Ytajmocgpjkhjlaa
