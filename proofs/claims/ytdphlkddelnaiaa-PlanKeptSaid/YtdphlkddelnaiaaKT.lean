/- Closed facts on the tables of the program that the walks name. -/
import Derived.Test.YtdphlkddelnaiaaRows
import Derived.Test.YtdphlkddelnaiaaKD
set_option linter.unusedVariables false
set_option linter.unusedSimpArgs false
namespace Go.Proofs.Ytdphlkddelnaiaa
open Go.RowKit Go.Fp

theorem mixed : Try.prog.follows .mixedOrders = true := by kernel_rfl
theorem agg24 : aggT Try.prog 24 3 = true := by kernel_rfl
theorem agg29 : aggT Try.prog 29 5 = true := by kernel_rfl
theorem agg76 : aggT Try.prog 76 64 = true := by kernel_rfl
theorem fld24_0 : fldT Try.prog 24 0 0 = true := by kernel_rfl
theorem fld24_1 : fldT Try.prog 24 1 1 = true := by kernel_rfl
theorem fld24_2 : fldT Try.prog 24 2 2 = true := by kernel_rfl
theorem fld29_0 : fldT Try.prog 29 0 0 = true := by kernel_rfl
theorem fld29_1 : fldT Try.prog 29 1 1 = true := by kernel_rfl
theorem fld29_2 : fldT Try.prog 29 2 2 = true := by kernel_rfl
theorem fld29_3 : fldT Try.prog 29 3 3 = true := by kernel_rfl
theorem fld29_4 : fldT Try.prog 29 4 4 = true := by kernel_rfl
theorem fld63_0 : fldT Try.prog 63 0 0 = true := by kernel_rfl
theorem fld63_1 : fldT Try.prog 63 1 3 = true := by kernel_rfl
theorem fld63_2 : fldT Try.prog 63 2 4 = true := by kernel_rfl
theorem fld63_3 : fldT Try.prog 63 3 5 = true := by kernel_rfl
theorem fld63_4 : fldT Try.prog 63 4 6 = true := by kernel_rfl
theorem inf3 : (Try.prog.info? 3).map (fun i => (i.zero, i.size, i.bytes)) = some (some (.int .i64 0), 1, 8) := by kernel_rfl
theorem inf4 : (Try.prog.info? 4).map (fun i => (i.zero, i.size, i.bytes)) = some (some (.bool false), 1, 1) := by kernel_rfl
theorem int3_i64 : intT Try.prog 3 .i64 = true := by kernel_rfl
theorem int79_u64 : intT Try.prog 79 .u64 = true := by kernel_rfl
theorem one22 : oneT Try.prog 22 = true := by kernel_rfl
theorem one3 : oneT Try.prog 3 = true := by kernel_rfl
theorem one30 : oneT Try.prog 30 = true := by kernel_rfl
theorem one4 : oneT Try.prog 4 = true := by kernel_rfl
theorem one56 : oneT Try.prog 56 = true := by kernel_rfl
theorem one58 : oneT Try.prog 58 = true := by kernel_rfl
theorem one59 : oneT Try.prog 59 = true := by kernel_rfl
theorem one60 : oneT Try.prog 60 = true := by kernel_rfl
theorem one61 : oneT Try.prog 61 = true := by kernel_rfl
theorem siz24 : sizT Try.prog 24 3 = true := by kernel_rfl
theorem siz29 : sizT Try.prog 29 5 = true := by kernel_rfl
theorem siz3 : sizT Try.prog 3 1 = true := by kernel_rfl
theorem siz30 : sizT Try.prog 30 1 = true := by kernel_rfl
theorem siz4 : sizT Try.prog 4 1 = true := by kernel_rfl
theorem siz56 : sizT Try.prog 56 1 = true := by kernel_rfl
theorem siz59 : sizT Try.prog 59 1 = true := by kernel_rfl
theorem siz60 : sizT Try.prog 60 1 = true := by kernel_rfl
theorem siz76 : sizT Try.prog 76 64 = true := by kernel_rfl
theorem sl22 : slT Try.prog 22 29 5 = true := by kernel_rfl
theorem sl30 : slT Try.prog 30 3 1 = true := by kernel_rfl
theorem sl61 : slT Try.prog 61 4 1 = true := by kernel_rfl
theorem zero24 : (Try.prog.info? 24).bind (·.zero) = some (.agg #[.int .i64 0, .int .i64 0, .slice none 0 0]) := by kernel_rfl
theorem zero29 : (Try.prog.info? 29).bind (·.zero) = some (.agg #[.int .i64 0, .int .i64 0, .int .i64 0, .int .i64 0, .int .i64 0]) := by kernel_rfl
theorem zero3 : (Try.prog.info? 3).bind (·.zero) = some (.int .i64 0) := by kernel_rfl
theorem zero30 : (Try.prog.info? 30).bind (·.zero) = some (.slice none 0 0) := by kernel_rfl
theorem zero56 : (Try.prog.info? 56).bind (·.zero) = some (.pointer none) := by kernel_rfl
theorem zero76 : (Try.prog.info? 76).bind (·.zero) = some (.agg #[.int .i64 0, .int .i64 0, .int .i64 0, .int .i64 0, .int .i64 0, .int .i64 0, .int .i64 0, .int .i64 0, .int .i64 0, .int .i64 0, .int .i64 0, .int .i64 0, .int .i64 0, .int .i64 0, .int .i64 0, .int .i64 0, .int .i64 0, .int .i64 0, .int .i64 0, .int .i64 0, .int .i64 0, .int .i64 0, .int .i64 0, .int .i64 0, .int .i64 0, .int .i64 0, .int .i64 0, .int .i64 0, .int .i64 0, .int .i64 0, .int .i64 0, .int .i64 0, .int .i64 0, .int .i64 0, .int .i64 0, .int .i64 0, .int .i64 0, .int .i64 0, .int .i64 0, .int .i64 0, .int .i64 0, .int .i64 0, .int .i64 0, .int .i64 0, .int .i64 0, .int .i64 0, .int .i64 0, .int .i64 0, .int .i64 0, .int .i64 0, .int .i64 0, .int .i64 0, .int .i64 0, .int .i64 0, .int .i64 0, .int .i64 0, .int .i64 0, .int .i64 0, .int .i64 0, .int .i64 0, .int .i64 0, .int .i64 0, .int .i64 0, .int .i64 0]) := by kernel_rfl
theorem call6 : callable Try.prog 6 = true := by kernel_rfl
theorem call7 : callable Try.prog 7 = true := by kernel_rfl
theorem call8 : callable Try.prog 8 = true := by kernel_rfl
theorem call9 : callable Try.prog 9 = true := by kernel_rfl
theorem call10 : callable Try.prog 10 = true := by kernel_rfl
theorem call11 : callable Try.prog 11 = true := by kernel_rfl
theorem call16 : callable Try.prog 16 = true := by kernel_rfl
theorem call17 : callable Try.prog 17 = true := by kernel_rfl
theorem call18 : callable Try.prog 18 = true := by kernel_rfl
theorem call19 : callable Try.prog 19 = true := by kernel_rfl
theorem call20 : callable Try.prog 20 = true := by kernel_rfl
theorem call21 : callable Try.prog 21 = true := by kernel_rfl
theorem call22 : callable Try.prog 22 = true := by kernel_rfl
theorem call23 : callable Try.prog 23 = true := by kernel_rfl
theorem call24 : callable Try.prog 24 = true := by kernel_rfl
theorem call25 : callable Try.prog 25 = true := by kernel_rfl
theorem call26 : callable Try.prog 26 = true := by kernel_rfl
theorem call27 : callable Try.prog 27 = true := by kernel_rfl
theorem call28 : callable Try.prog 28 = true := by kernel_rfl
theorem call31 : callable Try.prog 31 = true := by kernel_rfl
theorem call32 : callable Try.prog 32 = true := by kernel_rfl
theorem call33 : callable Try.prog 33 = true := by kernel_rfl
theorem call34 : callable Try.prog 34 = true := by kernel_rfl
theorem call35 : callable Try.prog 35 = true := by kernel_rfl
theorem call36 : callable Try.prog 36 = true := by kernel_rfl
theorem call37 : callable Try.prog 37 = true := by kernel_rfl
theorem call38 : callable Try.prog 38 = true := by kernel_rfl
theorem call39 : callable Try.prog 39 = true := by kernel_rfl
theorem call40 : callable Try.prog 40 = true := by kernel_rfl
theorem call41 : callable Try.prog 41 = true := by kernel_rfl
theorem call42 : callable Try.prog 42 = true := by kernel_rfl
theorem call43 : callable Try.prog 43 = true := by kernel_rfl
theorem call44 : callable Try.prog 44 = true := by kernel_rfl
theorem call45 : callable Try.prog 45 = true := by kernel_rfl
theorem call47 : callable Try.prog 47 = true := by kernel_rfl
theorem call48 : callable Try.prog 48 = true := by kernel_rfl
theorem call50 : callable Try.prog 50 = true := by kernel_rfl
theorem call51 : callable Try.prog 51 = true := by kernel_rfl
theorem call52 : callable Try.prog 52 = true := by kernel_rfl
theorem call53 : callable Try.prog 53 = true := by kernel_rfl
theorem call54 : callable Try.prog 54 = true := by kernel_rfl
theorem call55 : callable Try.prog 55 = true := by kernel_rfl
theorem call57 : callable Try.prog 57 = true := by kernel_rfl
theorem arr64 : arrT Try.prog 64 8 3 1 = true := by kernel_rfl
theorem arr76 : arrT Try.prog 76 8 64 8 = true := by kernel_rfl

end Go.Proofs.Ytdphlkddelnaiaa
