/- Closed facts on the tables of the program that the walks name. -/
import Derived.Test.YtajmocgpjkhjlaaRows
import Derived.Test.YtajmocgpjkhjlaaED
set_option linter.unusedVariables false
set_option linter.unusedSimpArgs false
namespace Go.Proofs.Ytajmocgpjkhjlaa
open Go.RowKit Go.Fp

theorem mixed : Try.prog.follows .mixedOrders = true := by kernel_rfl
theorem agg36 : aggT Try.prog 36 6 = true := by kernel_rfl
theorem fld101_0 : fldT Try.prog 101 0 0 = true := by kernel_rfl
theorem fld101_1 : fldT Try.prog 101 1 1 = true := by kernel_rfl
theorem fld101_2 : fldT Try.prog 101 2 2 = true := by kernel_rfl
theorem fld36_0 : fldT Try.prog 36 0 0 = true := by kernel_rfl
theorem fld36_1 : fldT Try.prog 36 1 1 = true := by kernel_rfl
theorem fld36_2 : fldT Try.prog 36 2 2 = true := by kernel_rfl
theorem fld36_3 : fldT Try.prog 36 3 3 = true := by kernel_rfl
theorem fld36_4 : fldT Try.prog 36 4 4 = true := by kernel_rfl
theorem fld36_5 : fldT Try.prog 36 5 5 = true := by kernel_rfl
theorem inf104 : (Try.prog.info? 104).map (fun i => (i.zero, i.size, i.bytes)) = some (some (.slice none 0 0), 1, 24) := by kernel_rfl
theorem inf3 : (Try.prog.info? 3).map (fun i => (i.zero, i.size, i.bytes)) = some (some (.int .i64 0), 1, 8) := by kernel_rfl
theorem inf36 : (Try.prog.info? 36).map (fun i => (i.zero, i.size, i.bytes)) = some (some (.agg #[.int .i64 0, .int .i64 0, .int .i64 0, .int .i64 0, .int .i64 0, .int .i64 0]), 6, 48) := by kernel_rfl
theorem inf4 : (Try.prog.info? 4).map (fun i => (i.zero, i.size, i.bytes)) = some (some (.bool false), 1, 1) := by kernel_rfl
theorem inf45 : (Try.prog.info? 45).map (fun i => (i.zero, i.size, i.bytes)) = some (some (.slice none 0 0), 1, 24) := by kernel_rfl
theorem int167_u64 : intT Try.prog 167 .u64 = true := by kernel_rfl
theorem int3_i64 : intT Try.prog 3 .i64 = true := by kernel_rfl
theorem one104 : oneT Try.prog 104 = true := by kernel_rfl
theorem one22 : oneT Try.prog 22 = true := by kernel_rfl
theorem one26 : oneT Try.prog 26 = true := by kernel_rfl
theorem one3 : oneT Try.prog 3 = true := by kernel_rfl
theorem one4 : oneT Try.prog 4 = true := by kernel_rfl
theorem one45 : oneT Try.prog 45 = true := by kernel_rfl
theorem one99 : oneT Try.prog 99 = true := by kernel_rfl
theorem siz3 : sizT Try.prog 3 1 = true := by kernel_rfl
theorem siz36 : sizT Try.prog 36 6 = true := by kernel_rfl
theorem siz4 : sizT Try.prog 4 1 = true := by kernel_rfl
theorem siz45 : sizT Try.prog 45 1 = true := by kernel_rfl
theorem siz99 : sizT Try.prog 99 1 = true := by kernel_rfl
theorem sl104 : slT Try.prog 104 4 1 = true := by kernel_rfl
theorem sl22 : slT Try.prog 22 36 6 = true := by kernel_rfl
theorem sl26 : slT Try.prog 26 45 1 = true := by kernel_rfl
theorem sl45 : slT Try.prog 45 3 1 = true := by kernel_rfl
theorem sl99 : slT Try.prog 99 104 1 = true := by kernel_rfl
theorem zero36 : (Try.prog.info? 36).bind (·.zero) = some (.agg #[.int .i64 0, .int .i64 0, .int .i64 0, .int .i64 0, .int .i64 0, .int .i64 0]) := by kernel_rfl
theorem call10 : callable Try.prog 10 = true := by kernel_rfl
theorem call11 : callable Try.prog 11 = true := by kernel_rfl
theorem call12 : callable Try.prog 12 = true := by kernel_rfl
theorem call13 : callable Try.prog 13 = true := by kernel_rfl
theorem call16 : callable Try.prog 16 = true := by kernel_rfl
theorem call23 : callable Try.prog 23 = true := by kernel_rfl
theorem call24 : callable Try.prog 24 = true := by kernel_rfl
theorem call34 : callable Try.prog 34 = true := by kernel_rfl
theorem call42 : callable Try.prog 42 = true := by kernel_rfl
theorem call43 : callable Try.prog 43 = true := by kernel_rfl
theorem call44 : callable Try.prog 44 = true := by kernel_rfl
theorem call45 : callable Try.prog 45 = true := by kernel_rfl
theorem call46 : callable Try.prog 46 = true := by kernel_rfl
theorem call47 : callable Try.prog 47 = true := by kernel_rfl
theorem call52 : callable Try.prog 52 = true := by kernel_rfl
theorem call53 : callable Try.prog 53 = true := by kernel_rfl
theorem call79 : callable Try.prog 79 = true := by kernel_rfl
theorem call80 : callable Try.prog 80 = true := by kernel_rfl
theorem call81 : callable Try.prog 81 = true := by kernel_rfl
theorem call87 : callable Try.prog 87 = true := by kernel_rfl
theorem call88 : callable Try.prog 88 = true := by kernel_rfl
theorem call89 : callable Try.prog 89 = true := by kernel_rfl
theorem call90 : callable Try.prog 90 = true := by kernel_rfl
theorem call91 : callable Try.prog 91 = true := by kernel_rfl
theorem call92 : callable Try.prog 92 = true := by kernel_rfl
theorem call102 : callable Try.prog 102 = true := by kernel_rfl
theorem call103 : callable Try.prog 103 = true := by kernel_rfl
theorem call104 : callable Try.prog 104 = true := by kernel_rfl
theorem call105 : callable Try.prog 105 = true := by kernel_rfl
theorem call106 : callable Try.prog 106 = true := by kernel_rfl
theorem call119 : callable Try.prog 119 = true := by kernel_rfl
theorem call120 : callable Try.prog 120 = true := by kernel_rfl
theorem call122 : callable Try.prog 122 = true := by kernel_rfl
theorem call128 : callable Try.prog 128 = true := by kernel_rfl
theorem call130 : callable Try.prog 130 = true := by kernel_rfl

end Go.Proofs.Ytajmocgpjkhjlaa
