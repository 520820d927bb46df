/- Closed facts on the tables of the program that the walks name. -/
import Derived.Test.YthcgoaejnpelbaaGreatDoorRows
import Derived.Test.YthcgoaejnpelbaaGreatDoorOD
set_option linter.unusedVariables false
set_option linter.unusedSimpArgs false
namespace Go.Proofs.YthcgoaejnpelbaaGreatDoor
open Go.RowKit Go.Fp

theorem mixed : Tryz.prog.follows .mixedOrders = true := by kernel_rfl
theorem agg32 : aggT Tryz.prog 32 4 = true := by kernel_rfl
theorem agg42 : aggT Tryz.prog 42 2 = true := by kernel_rfl
theorem agg48 : aggT Tryz.prog 48 4 = true := by kernel_rfl
theorem agg56 : aggT Tryz.prog 56 2 = true := by kernel_rfl
theorem agg59 : aggT Tryz.prog 59 4 = true := by kernel_rfl
theorem agg61 : aggT Tryz.prog 61 7 = true := by kernel_rfl
theorem agg65 : aggT Tryz.prog 65 6 = true := by kernel_rfl
theorem fld32_1 : fldT Tryz.prog 32 1 1 = true := by kernel_rfl
theorem fld32_2 : fldT Tryz.prog 32 2 2 = true := by kernel_rfl
theorem fld32_3 : fldT Tryz.prog 32 3 3 = true := by kernel_rfl
theorem fld42_0 : fldT Tryz.prog 42 0 0 = true := by kernel_rfl
theorem fld42_1 : fldT Tryz.prog 42 1 1 = true := by kernel_rfl
theorem fld48_0 : fldT Tryz.prog 48 0 0 = true := by kernel_rfl
theorem fld48_1 : fldT Tryz.prog 48 1 1 = true := by kernel_rfl
theorem fld48_2 : fldT Tryz.prog 48 2 2 = true := by kernel_rfl
theorem fld48_3 : fldT Tryz.prog 48 3 3 = true := by kernel_rfl
theorem fld54_0 : fldT Tryz.prog 54 0 0 = true := by kernel_rfl
theorem fld54_1 : fldT Tryz.prog 54 1 1 = true := by kernel_rfl
theorem fld54_2 : fldT Tryz.prog 54 2 2 = true := by kernel_rfl
theorem fld54_3 : fldT Tryz.prog 54 3 3 = true := by kernel_rfl
theorem fld54_4 : fldT Tryz.prog 54 4 4 = true := by kernel_rfl
theorem fld56_0 : fldT Tryz.prog 56 0 0 = true := by kernel_rfl
theorem fld56_1 : fldT Tryz.prog 56 1 1 = true := by kernel_rfl
theorem fld59_0 : fldT Tryz.prog 59 0 0 = true := by kernel_rfl
theorem fld59_1 : fldT Tryz.prog 59 1 1 = true := by kernel_rfl
theorem fld59_2 : fldT Tryz.prog 59 2 2 = true := by kernel_rfl
theorem fld59_3 : fldT Tryz.prog 59 3 3 = true := by kernel_rfl
theorem fld61_0 : fldT Tryz.prog 61 0 0 = true := by kernel_rfl
theorem fld61_1 : fldT Tryz.prog 61 1 4 = true := by kernel_rfl
theorem fld61_2 : fldT Tryz.prog 61 2 5 = true := by kernel_rfl
theorem fld61_3 : fldT Tryz.prog 61 3 6 = true := by kernel_rfl
theorem fld65_0 : fldT Tryz.prog 65 0 0 = true := by kernel_rfl
theorem fld65_1 : fldT Tryz.prog 65 1 1 = true := by kernel_rfl
theorem fld65_2 : fldT Tryz.prog 65 2 2 = true := by kernel_rfl
theorem fld65_3 : fldT Tryz.prog 65 3 3 = true := by kernel_rfl
theorem fld65_4 : fldT Tryz.prog 65 4 4 = true := by kernel_rfl
theorem fld65_5 : fldT Tryz.prog 65 5 5 = true := by kernel_rfl
theorem inf22 : (Tryz.prog.info? 22).map (fun i => (i.zero, i.size, i.bytes)) = some (some (.slice none 0 0), 1, 24) := by kernel_rfl
theorem inf3 : (Tryz.prog.info? 3).map (fun i => (i.zero, i.size, i.bytes)) = some (some (.int .i64 0), 1, 8) := by kernel_rfl
theorem inf32 : (Tryz.prog.info? 32).map (fun i => (i.zero, i.size, i.bytes)) = some (some (.agg #[.int .i64 0, .int .i64 0, .int .i64 0, .slice none 0 0]), 4, 48) := by kernel_rfl
theorem inf4 : (Tryz.prog.info? 4).map (fun i => (i.zero, i.size, i.bytes)) = some (some (.bool false), 1, 1) := by kernel_rfl
theorem inf42 : (Tryz.prog.info? 42).map (fun i => (i.zero, i.size, i.bytes)) = some (some (.agg #[.int .i64 0, .int .i64 0]), 2, 16) := by kernel_rfl
theorem int110_u64 : intT Tryz.prog 110 .u64 = true := by kernel_rfl
theorem int144_u64 : intT Tryz.prog 144 .u64 = true := by kernel_rfl
theorem int3_i64 : intT Tryz.prog 3 .i64 = true := by kernel_rfl
theorem int5_u8 : intT Tryz.prog 5 .u8 = true := by kernel_rfl
theorem one22 : oneT Tryz.prog 22 = true := by kernel_rfl
theorem one24 : oneT Tryz.prog 24 = true := by kernel_rfl
theorem one3 : oneT Tryz.prog 3 = true := by kernel_rfl
theorem one36 : oneT Tryz.prog 36 = true := by kernel_rfl
theorem one37 : oneT Tryz.prog 37 = true := by kernel_rfl
theorem one4 : oneT Tryz.prog 4 = true := by kernel_rfl
theorem one45 : oneT Tryz.prog 45 = true := by kernel_rfl
theorem one46 : oneT Tryz.prog 46 = true := by kernel_rfl
theorem one52 : oneT Tryz.prog 52 = true := by kernel_rfl
theorem one57 : oneT Tryz.prog 57 = true := by kernel_rfl
theorem ptr24 : ptrT Tryz.prog 24 = true := by kernel_rfl
theorem siz22 : sizT Tryz.prog 22 1 = true := by kernel_rfl
theorem siz3 : sizT Tryz.prog 3 1 = true := by kernel_rfl
theorem siz32 : sizT Tryz.prog 32 4 = true := by kernel_rfl
theorem siz37 : sizT Tryz.prog 37 1 = true := by kernel_rfl
theorem siz4 : sizT Tryz.prog 4 1 = true := by kernel_rfl
theorem siz42 : sizT Tryz.prog 42 2 = true := by kernel_rfl
theorem siz48 : sizT Tryz.prog 48 4 = true := by kernel_rfl
theorem siz52 : sizT Tryz.prog 52 1 = true := by kernel_rfl
theorem siz56 : sizT Tryz.prog 56 2 = true := by kernel_rfl
theorem siz59 : sizT Tryz.prog 59 4 = true := by kernel_rfl
theorem siz61 : sizT Tryz.prog 61 7 = true := by kernel_rfl
theorem sl22 : slT Tryz.prog 22 3 1 = true := by kernel_rfl
theorem sl36 : slT Tryz.prog 36 42 2 = true := by kernel_rfl
theorem sl37 : slT Tryz.prog 37 32 4 = true := by kernel_rfl
theorem sl45 : slT Tryz.prog 45 56 2 = true := by kernel_rfl
theorem sl46 : slT Tryz.prog 46 61 7 = true := by kernel_rfl
theorem sl52 : slT Tryz.prog 52 4 1 = true := by kernel_rfl
theorem sl57 : slT Tryz.prog 57 59 4 = true := by kernel_rfl
theorem sl84 : slT Tryz.prog 84 22 1 = true := by kernel_rfl
theorem str9 : strT Tryz.prog 9 = true := by kernel_rfl
theorem zero3 : (Tryz.prog.info? 3).bind (·.zero) = some (.int .i64 0) := by kernel_rfl
theorem zero32 : (Tryz.prog.info? 32).bind (·.zero) = some (.agg #[.int .i64 0, .int .i64 0, .int .i64 0, .slice none 0 0]) := by kernel_rfl
theorem zero42 : (Tryz.prog.info? 42).bind (·.zero) = some (.agg #[.int .i64 0, .int .i64 0]) := by kernel_rfl
theorem zero48 : (Tryz.prog.info? 48).bind (·.zero) = some (.agg #[.bool false, .slice none 0 0, .int .i64 0, .slice none 0 0]) := by kernel_rfl
theorem zero56 : (Tryz.prog.info? 56).bind (·.zero) = some (.agg #[.int .i64 0, .int .i64 0]) := by kernel_rfl
theorem zero59 : (Tryz.prog.info? 59).bind (·.zero) = some (.agg #[.int .i64 0, .int .i64 0, .int .i64 0, .slice none 0 0]) := by kernel_rfl
theorem zero61 : (Tryz.prog.info? 61).bind (·.zero) = some (.agg #[.int .i64 0, .int .i64 0, .int .i64 0, .slice none 0 0, .int .i64 0, .int .i64 0, .bool false]) := by kernel_rfl
theorem call4 : callable Tryz.prog 4 = true := by kernel_rfl
theorem call5 : callable Tryz.prog 5 = true := by kernel_rfl
theorem call6 : callable Tryz.prog 6 = true := by kernel_rfl
theorem call7 : callable Tryz.prog 7 = true := by kernel_rfl
theorem call8 : callable Tryz.prog 8 = true := by kernel_rfl
theorem call9 : callable Tryz.prog 9 = true := by kernel_rfl
theorem call10 : callable Tryz.prog 10 = true := by kernel_rfl
theorem call11 : callable Tryz.prog 11 = true := by kernel_rfl
theorem call12 : callable Tryz.prog 12 = true := by kernel_rfl
theorem call13 : callable Tryz.prog 13 = true := by kernel_rfl
theorem call14 : callable Tryz.prog 14 = true := by kernel_rfl
theorem call16 : callable Tryz.prog 16 = true := by kernel_rfl
theorem call17 : callable Tryz.prog 17 = true := by kernel_rfl
theorem call18 : callable Tryz.prog 18 = true := by kernel_rfl
theorem call19 : callable Tryz.prog 19 = true := by kernel_rfl
theorem call20 : callable Tryz.prog 20 = true := by kernel_rfl
theorem call21 : callable Tryz.prog 21 = true := by kernel_rfl
theorem call22 : callable Tryz.prog 22 = true := by kernel_rfl
theorem call23 : callable Tryz.prog 23 = true := by kernel_rfl
theorem call24 : callable Tryz.prog 24 = true := by kernel_rfl
theorem call25 : callable Tryz.prog 25 = true := by kernel_rfl
theorem call26 : callable Tryz.prog 26 = true := by kernel_rfl
theorem call27 : callable Tryz.prog 27 = true := by kernel_rfl
theorem call30 : callable Tryz.prog 30 = true := by kernel_rfl
theorem call31 : callable Tryz.prog 31 = true := by kernel_rfl
theorem call32 : callable Tryz.prog 32 = true := by kernel_rfl
theorem call33 : callable Tryz.prog 33 = true := by kernel_rfl
theorem call34 : callable Tryz.prog 34 = true := by kernel_rfl
theorem call35 : callable Tryz.prog 35 = true := by kernel_rfl
theorem call36 : callable Tryz.prog 36 = true := by kernel_rfl
theorem call37 : callable Tryz.prog 37 = true := by kernel_rfl
theorem call38 : callable Tryz.prog 38 = true := by kernel_rfl
theorem call39 : callable Tryz.prog 39 = true := by kernel_rfl
theorem call40 : callable Tryz.prog 40 = true := by kernel_rfl
theorem call49 : callable Tryz.prog 49 = true := by kernel_rfl
theorem call50 : callable Tryz.prog 50 = true := by kernel_rfl
theorem call51 : callable Tryz.prog 51 = true := by kernel_rfl
theorem call52 : callable Tryz.prog 52 = true := by kernel_rfl
theorem call53 : callable Tryz.prog 53 = true := by kernel_rfl
theorem call54 : callable Tryz.prog 54 = true := by kernel_rfl
theorem call55 : callable Tryz.prog 55 = true := by kernel_rfl
theorem call56 : callable Tryz.prog 56 = true := by kernel_rfl
theorem call57 : callable Tryz.prog 57 = true := by kernel_rfl
theorem call58 : callable Tryz.prog 58 = true := by kernel_rfl
theorem call59 : callable Tryz.prog 59 = true := by kernel_rfl
theorem call70 : callable Tryz.prog 70 = true := by kernel_rfl
theorem call71 : callable Tryz.prog 71 = true := by kernel_rfl
theorem call72 : callable Tryz.prog 72 = true := by kernel_rfl
theorem call73 : callable Tryz.prog 73 = true := by kernel_rfl
theorem call74 : callable Tryz.prog 74 = true := by kernel_rfl
theorem call75 : callable Tryz.prog 75 = true := by kernel_rfl
theorem call76 : callable Tryz.prog 76 = true := by kernel_rfl
theorem call82 : callable Tryz.prog 82 = true := by kernel_rfl
theorem call86 : callable Tryz.prog 86 = true := by kernel_rfl
theorem call87 : callable Tryz.prog 87 = true := by kernel_rfl
theorem call100 : callable Tryz.prog 100 = true := by kernel_rfl
theorem call101 : callable Tryz.prog 101 = true := by kernel_rfl
theorem call107 : callable Tryz.prog 107 = true := by kernel_rfl

end Go.Proofs.YthcgoaejnpelbaaGreatDoor
