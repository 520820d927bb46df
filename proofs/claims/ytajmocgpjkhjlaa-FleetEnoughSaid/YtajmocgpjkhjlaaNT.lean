/- Closed facts on the tables of the program that the walks name. -/
import Derived.Test.YtajmocgpjkhjlaaRows
import Derived.Test.YtajmocgpjkhjlaaND
set_option linter.unusedVariables false
set_option linter.unusedSimpArgs false
namespace Go.Proofs.Ytajmocgpjkhjlaa
open Go.RowKit Go.Fp

theorem mixed : Try.prog.follows .mixedOrders = true := by kernel_rfl
theorem agg33 : aggT Try.prog 33 3 = true := by kernel_rfl
theorem agg36 : aggT Try.prog 36 6 = true := by kernel_rfl
theorem fld33_1 : fldT Try.prog 33 1 1 = true := by kernel_rfl
theorem fld33_2 : fldT Try.prog 33 2 2 = true := by kernel_rfl
theorem fld36_0 : fldT Try.prog 36 0 0 = true := by kernel_rfl
theorem fld36_1 : fldT Try.prog 36 1 1 = true := by kernel_rfl
theorem fld36_2 : fldT Try.prog 36 2 2 = true := by kernel_rfl
theorem fld36_3 : fldT Try.prog 36 3 3 = true := by kernel_rfl
theorem fld36_4 : fldT Try.prog 36 4 4 = true := by kernel_rfl
theorem fld36_5 : fldT Try.prog 36 5 5 = true := by kernel_rfl
theorem inf3 : (Try.prog.info? 3).map (fun i => (i.zero, i.size, i.bytes)) = some (some (.int .i64 0), 1, 8) := by kernel_rfl
theorem inf33 : (Try.prog.info? 33).map (fun i => (i.zero, i.size, i.bytes)) = some (some (.agg #[.int .i64 0, .int .i64 0, .int .i64 0]), 3, 24) := by kernel_rfl
theorem inf36 : (Try.prog.info? 36).map (fun i => (i.zero, i.size, i.bytes)) = some (some (.agg #[.int .i64 0, .int .i64 0, .int .i64 0, .int .i64 0, .int .i64 0, .int .i64 0]), 6, 48) := by kernel_rfl
theorem inf45 : (Try.prog.info? 45).map (fun i => (i.zero, i.size, i.bytes)) = some (some (.slice none 0 0), 1, 24) := by kernel_rfl
theorem int167_u64 : intT Try.prog 167 .u64 = true := by kernel_rfl
theorem int3_i64 : intT Try.prog 3 .i64 = true := by kernel_rfl
theorem one22 : oneT Try.prog 22 = true := by kernel_rfl
theorem one3 : oneT Try.prog 3 = true := by kernel_rfl
theorem one45 : oneT Try.prog 45 = true := by kernel_rfl
theorem siz3 : sizT Try.prog 3 1 = true := by kernel_rfl
theorem siz33 : sizT Try.prog 33 3 = true := by kernel_rfl
theorem siz36 : sizT Try.prog 36 6 = true := by kernel_rfl
theorem siz45 : sizT Try.prog 45 1 = true := by kernel_rfl
theorem sl22 : slT Try.prog 22 36 6 = true := by kernel_rfl
theorem sl26 : slT Try.prog 26 45 1 = true := by kernel_rfl
theorem sl29 : slT Try.prog 29 33 3 = true := by kernel_rfl
theorem sl45 : slT Try.prog 45 3 1 = true := by kernel_rfl
theorem zero33 : (Try.prog.info? 33).bind (·.zero) = some (.agg #[.int .i64 0, .int .i64 0, .int .i64 0]) := by kernel_rfl
theorem zero36 : (Try.prog.info? 36).bind (·.zero) = some (.agg #[.int .i64 0, .int .i64 0, .int .i64 0, .int .i64 0, .int .i64 0, .int .i64 0]) := by kernel_rfl
theorem call10 : callable Try.prog 10 = true := by kernel_rfl
theorem call11 : callable Try.prog 11 = true := by kernel_rfl
theorem call12 : callable Try.prog 12 = true := by kernel_rfl
theorem call13 : callable Try.prog 13 = true := by kernel_rfl
theorem call14 : callable Try.prog 14 = true := by kernel_rfl
theorem call15 : callable Try.prog 15 = true := by kernel_rfl
theorem call16 : callable Try.prog 16 = true := by kernel_rfl
theorem call20 : callable Try.prog 20 = true := by kernel_rfl
theorem call34 : callable Try.prog 34 = true := by kernel_rfl
theorem call42 : callable Try.prog 42 = true := by kernel_rfl
theorem call43 : callable Try.prog 43 = true := by kernel_rfl
theorem call44 : callable Try.prog 44 = true := by kernel_rfl
theorem call45 : callable Try.prog 45 = true := by kernel_rfl
theorem call46 : callable Try.prog 46 = true := by kernel_rfl
theorem call47 : callable Try.prog 47 = true := by kernel_rfl
theorem call51 : callable Try.prog 51 = true := by kernel_rfl
theorem call79 : callable Try.prog 79 = true := by kernel_rfl
theorem call80 : callable Try.prog 80 = true := by kernel_rfl
theorem call81 : callable Try.prog 81 = true := by kernel_rfl
theorem call102 : callable Try.prog 102 = true := by kernel_rfl
theorem call103 : callable Try.prog 103 = true := by kernel_rfl
theorem call119 : callable Try.prog 119 = true := by kernel_rfl
theorem call120 : callable Try.prog 120 = true := by kernel_rfl
theorem call128 : callable Try.prog 128 = true := by kernel_rfl
theorem call130 : callable Try.prog 130 = true := by kernel_rfl

end Go.Proofs.Ytajmocgpjkhjlaa
