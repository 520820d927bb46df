import Derived.Test.YtdbehipjelcmbaaGreatDoorRows
import Derived.Test.YtdbehipjelcmbaaGreatDoorQZD
import Derived.Test.YtdbehipjelcmbaaGreatDoorQXZ
import Derived.Shelf.SlIterI.Nil
import Derived.Shelf.SortM.Plain
import Derived.Shelf.SortM.SortNone
import Derived.Ground.GgzProg
import Derived.Ground.SlgmProg
import Derived.Test.YtdbehipjelcmbaaGreatDoorProg
import Derived.WideShapes
import Derived.Test.YtdbehipjelcmbaaGreatDoorF3
set_option linter.unusedVariables false
set_option linter.unusedSimpArgs false
set_option linter.unusedSectionVars false
namespace Go.Proofs.YtdbehipjelcmbaaGreatDoor
open Go.RowKit Go.Fp
theorem Q5 : Tryz.prog.follows .mixedOrders = true := by kernel_rfl
theorem z5Q : q8A Tryz.prog 106 4 = true := by kernel_rfl
theorem z3P : q8A Tryz.prog 109 2 = true := by kernel_rfl
theorem z5P : q8A Tryz.prog 112 2 = true := by kernel_rfl
theorem q2y : q8A Tryz.prog 120 2 = true := by kernel_rfl
theorem q3r : q8A Tryz.prog 125 3 = true := by kernel_rfl
theorem j0T : q8A Tryz.prog 127 3 = true := by kernel_rfl
theorem G9 : q8A Tryz.prog 28 5 = true := by kernel_rfl
theorem j4x : q8A Tryz.prog 39 4 = true := by kernel_rfl
theorem q6S : q8A Tryz.prog 59 5 = true := by kernel_rfl
theorem Y1 : q8A Tryz.prog 72 4 = true := by kernel_rfl
theorem z6G : q8A Tryz.prog 80 3 = true := by kernel_rfl
theorem j4w : q8A Tryz.prog 99 7 = true := by kernel_rfl
theorem q2S : q0u Tryz.prog 106 0 0 = true := by kernel_rfl
theorem q7p : q0u Tryz.prog 106 1 1 = true := by kernel_rfl
theorem q4u : q0u Tryz.prog 106 2 2 = true := by kernel_rfl
theorem z2r : q0u Tryz.prog 106 3 3 = true := by kernel_rfl
theorem q3z : q0u Tryz.prog 109 0 0 = true := by kernel_rfl
theorem q7o : q0u Tryz.prog 109 1 1 = true := by kernel_rfl
theorem q5j : q0u Tryz.prog 112 0 0 = true := by kernel_rfl
theorem z2q : q0u Tryz.prog 112 1 1 = true := by kernel_rfl
theorem q9l : q0u Tryz.prog 117 0 0 = true := by kernel_rfl
theorem z2p : q0u Tryz.prog 117 1 5 = true := by kernel_rfl
theorem z2o : q0u Tryz.prog 117 2 6 = true := by kernel_rfl
theorem q6q : q0u Tryz.prog 117 3 7 = true := by kernel_rfl
theorem q1r : q0u Tryz.prog 120 0 0 = true := by kernel_rfl
theorem q4t : q0u Tryz.prog 120 1 1 = true := by kernel_rfl
theorem Q2 : q0u Tryz.prog 125 0 0 = true := by kernel_rfl
theorem z5w : q0u Tryz.prog 125 1 1 = true := by kernel_rfl
theorem q9k : q0u Tryz.prog 125 2 2 = true := by kernel_rfl
theorem q6p : q0u Tryz.prog 127 0 0 = true := by kernel_rfl
theorem q5i : q0u Tryz.prog 127 1 1 = true := by kernel_rfl
theorem q6o : q0u Tryz.prog 127 2 2 = true := by kernel_rfl
theorem q9j : q0u Tryz.prog 165 0 0 = true := by kernel_rfl
theorem q9i : q0u Tryz.prog 165 1 5 = true := by kernel_rfl
theorem z5v : q0u Tryz.prog 165 2 8 = true := by kernel_rfl
theorem q9h : q0u Tryz.prog 165 3 9 = true := by kernel_rfl
theorem z5u : q0u Tryz.prog 165 4 10 = true := by kernel_rfl
theorem q9R : q0u Tryz.prog 28 0 0 = true := by kernel_rfl
theorem P7 : q0u Tryz.prog 28 1 1 = true := by kernel_rfl
theorem q8k : q0u Tryz.prog 28 2 2 = true := by kernel_rfl
theorem q2F : q0u Tryz.prog 28 3 3 = true := by kernel_rfl
theorem q5h : q0u Tryz.prog 28 4 4 = true := by kernel_rfl
theorem z7X : q0u Tryz.prog 39 0 0 = true := by kernel_rfl
theorem q3T : q0u Tryz.prog 39 1 1 = true := by kernel_rfl
theorem z4C : q0u Tryz.prog 39 2 2 = true := by kernel_rfl
theorem j1M : q0u Tryz.prog 39 3 3 = true := by kernel_rfl
theorem q5g : q0u Tryz.prog 57 0 0 = true := by kernel_rfl
theorem z4B : q0u Tryz.prog 57 1 5 = true := by kernel_rfl
theorem z4A : q0u Tryz.prog 57 2 6 = true := by kernel_rfl
theorem Q6 : q0u Tryz.prog 57 3 7 = true := by kernel_rfl
theorem q3l : q0u Tryz.prog 57 4 8 = true := by kernel_rfl
theorem q1h : q0u Tryz.prog 57 5 9 = true := by kernel_rfl
theorem q2s : q0u Tryz.prog 59 0 0 = true := by kernel_rfl
theorem q8j : q0u Tryz.prog 59 1 1 = true := by kernel_rfl
theorem q3S : q0u Tryz.prog 59 2 2 = true := by kernel_rfl
theorem q3k : q0u Tryz.prog 59 3 3 = true := by kernel_rfl
theorem q5O : q0u Tryz.prog 59 4 4 = true := by kernel_rfl
theorem P6 : q0u Tryz.prog 72 0 0 = true := by kernel_rfl
theorem q2r : q0u Tryz.prog 72 1 1 = true := by kernel_rfl
theorem P5 : q0u Tryz.prog 72 2 2 = true := by kernel_rfl
theorem z7W : q0u Tryz.prog 72 3 3 = true := by kernel_rfl
theorem q5N : q0u Tryz.prog 80 0 0 = true := by kernel_rfl
theorem q5M : q0u Tryz.prog 80 1 1 = true := by kernel_rfl
theorem q0j : q0u Tryz.prog 80 2 2 = true := by kernel_rfl
theorem q1U : q0u Tryz.prog 85 0 0 = true := by kernel_rfl
theorem j1L : q0u Tryz.prog 85 1 3 = true := by kernel_rfl
theorem q1T : q0u Tryz.prog 85 2 4 = true := by kernel_rfl
theorem q8i : q0u Tryz.prog 85 3 5 = true := by kernel_rfl
theorem z2n : q0u Tryz.prog 85 4 6 = true := by kernel_rfl
theorem z7V : q0u Tryz.prog 85 5 7 = true := by kernel_rfl
theorem q5f : q0u Tryz.prog 85 6 8 = true := by kernel_rfl
theorem z4z : q0u Tryz.prog 85 7 9 = true := by kernel_rfl
theorem z4y : q0u Tryz.prog 85 8 10 = true := by kernel_rfl
theorem q3R : q0u Tryz.prog 99 0 0 = true := by kernel_rfl
theorem z7U : q0u Tryz.prog 99 1 1 = true := by kernel_rfl
theorem q9Q : q0u Tryz.prog 99 2 2 = true := by kernel_rfl
theorem z7T : q0u Tryz.prog 99 3 3 = true := by kernel_rfl
theorem z7S : q0u Tryz.prog 99 4 4 = true := by kernel_rfl
theorem z2m : q0u Tryz.prog 99 5 5 = true := by kernel_rfl
theorem z7R : q0u Tryz.prog 99 6 6 = true := by kernel_rfl
theorem j3l : (Tryz.prog.info? 106).map (fun i => (i.zero, i.size, i.bytes)) = some (some (.agg #[.int .i64 0, .int .i64 0, .int .i64 0, .int .i64 0]), 4, 32) := by kernel_rfl
theorem j3k : (Tryz.prog.info? 109).map (fun i => (i.zero, i.size, i.bytes)) = some (some (.agg #[.int .i64 0, .int .i64 0]), 2, 16) := by kernel_rfl
theorem j3j : (Tryz.prog.info? 112).map (fun i => (i.zero, i.size, i.bytes)) = some (some (.agg #[.int .i64 0, .int .i64 0]), 2, 16) := by kernel_rfl
theorem z5q : (Tryz.prog.info? 125).map (fun i => (i.zero, i.size, i.bytes)) = some (some (.agg #[.int .i64 0, .int .i64 0, .int .i64 0]), 3, 24) := by kernel_rfl
theorem q5L : (Tryz.prog.info? 127).map (fun i => (i.zero, i.size, i.bytes)) = some (some (.agg #[.int .i64 0, .bool false, .bool false]), 3, 16) := by kernel_rfl
theorem j5o : (Tryz.prog.info? 22).map (fun i => (i.zero, i.size, i.bytes)) = some (some (.slice none 0 0), 1, 24) := by kernel_rfl
theorem j5n : (Tryz.prog.info? 3).map (fun i => (i.zero, i.size, i.bytes)) = some (some (.int .i64 0), 1, 8) := by kernel_rfl
theorem j4H : (Tryz.prog.info? 4).map (fun i => (i.zero, i.size, i.bytes)) = some (some (.bool false), 1, 1) := by kernel_rfl
theorem q9L : (Tryz.prog.info? 59).map (fun i => (i.zero, i.size, i.bytes)) = some (some (.agg #[.int .i64 0, .bool false, .int .i64 0, .int .i64 0, .bool false]), 5, 40) := by kernel_rfl
theorem j3i : (Tryz.prog.info? 60).map (fun i => (i.zero, i.size, i.bytes)) = some (some (.slice none 0 0), 1, 24) := by kernel_rfl
theorem z9H : (Tryz.prog.info? 72).map (fun i => (i.zero, i.size, i.bytes)) = some (some (.agg #[.int .i64 0, .int .i64 0, .int .i64 0, .int .i64 0]), 4, 32) := by kernel_rfl
theorem j5m : (Tryz.prog.info? 80).map (fun i => (i.zero, i.size, i.bytes)) = some (some (.agg #[.int .i64 0, .int .i64 0, .slice none 0 0]), 3, 40) := by kernel_rfl
theorem j5l : (Tryz.prog.info? 82).map (fun i => (i.zero, i.size, i.bytes)) = some (some (.pointer none), 1, 8) := by kernel_rfl
theorem j5O : (Tryz.prog.info? 9).map (fun i => (i.zero, i.size, i.bytes)) = some (some (.string ByteArray.empty), 1, 16) := by kernel_rfl
theorem j5k : (Tryz.prog.info? 99).map (fun i => (i.zero, i.size, i.bytes)) = some (some (.agg #[.int .i64 0, .int .i64 0, .int .i64 0, .int .i64 0, .int .i64 0, .int .i64 0, .bool false]), 7, 56) := by kernel_rfl
theorem j1I : j4G Tryz.prog 5 .u8 = true := by kernel_rfl
theorem q5G : q5u Tryz.prog 115 = true := by kernel_rfl
theorem z7t : q5u Tryz.prog 131 = true := by kernel_rfl
theorem q5v : q5u Tryz.prog 161 = true := by kernel_rfl
theorem j0z : q5u Tryz.prog 163 = true := by kernel_rfl
theorem j0y : q5u Tryz.prog 183 = true := by kernel_rfl
theorem z6i : q5u Tryz.prog 22 = true := by kernel_rfl
theorem q4K : q5u Tryz.prog 23 = true := by kernel_rfl
theorem z6h : q5u Tryz.prog 24 = true := by kernel_rfl
theorem q7X : q5u Tryz.prog 25 = true := by kernel_rfl
theorem z2e : q5u Tryz.prog 26 = true := by kernel_rfl
theorem j4 : q5u Tryz.prog 3 = true := by kernel_rfl
theorem z6g : q5u Tryz.prog 31 = true := by kernel_rfl
theorem z7s : q5u Tryz.prog 35 = true := by kernel_rfl
theorem q4b : q5u Tryz.prog 4 = true := by kernel_rfl
theorem j2W : q5u Tryz.prog 41 = true := by kernel_rfl
theorem j6j : q5u Tryz.prog 5 = true := by kernel_rfl
theorem j1z : q5u Tryz.prog 51 = true := by kernel_rfl
theorem q1v : q5u Tryz.prog 53 = true := by kernel_rfl
theorem q8H : q5u Tryz.prog 54 = true := by kernel_rfl
theorem q5F : q5u Tryz.prog 55 = true := by kernel_rfl
theorem z2X : q5u Tryz.prog 60 = true := by kernel_rfl
theorem q3J : q5u Tryz.prog 78 = true := by kernel_rfl
theorem z9C : q5u Tryz.prog 82 = true := by kernel_rfl
theorem q4C : q5u Tryz.prog 83 = true := by kernel_rfl
theorem j5i : q5u Tryz.prog 9 = true := by kernel_rfl
theorem j2T : j4F Tryz.prog 31 = true := by kernel_rfl
theorem z7a : q5s Tryz.prog 106 4 = true := by kernel_rfl
theorem z6Z : q5s Tryz.prog 109 2 = true := by kernel_rfl
theorem z5e : q5s Tryz.prog 112 2 = true := by kernel_rfl
theorem q3n : q5s Tryz.prog 120 2 = true := by kernel_rfl
theorem q5t : q5s Tryz.prog 125 3 = true := by kernel_rfl
theorem j2R : q5s Tryz.prog 131 1 = true := by kernel_rfl
theorem j2Q : q5s Tryz.prog 183 1 = true := by kernel_rfl
theorem z5X : q5s Tryz.prog 28 5 = true := by kernel_rfl
theorem z0D : q5s Tryz.prog 3 1 = true := by kernel_rfl
theorem j5d : q5s Tryz.prog 35 1 = true := by kernel_rfl
theorem j5c : q5s Tryz.prog 39 4 = true := by kernel_rfl
theorem z1o : q5s Tryz.prog 4 1 = true := by kernel_rfl
theorem j5b : q5s Tryz.prog 41 1 = true := by kernel_rfl
theorem j2P : q5s Tryz.prog 59 5 = true := by kernel_rfl
theorem j2O : q5s Tryz.prog 60 1 = true := by kernel_rfl
theorem q6Z : q5s Tryz.prog 72 4 = true := by kernel_rfl
theorem j5a : q5s Tryz.prog 80 3 = true := by kernel_rfl
theorem j5B : q5s Tryz.prog 9 1 = true := by kernel_rfl
theorem j4Z : q5s Tryz.prog 99 7 = true := by kernel_rfl
theorem z1X : slT Tryz.prog 133 82 1 = true := by kernel_rfl
theorem j1p : slT Tryz.prog 152 5 1 = true := by kernel_rfl
theorem z4b : slT Tryz.prog 22 9 1 = true := by kernel_rfl
theorem z0y : slT Tryz.prog 23 99 7 = true := by kernel_rfl
theorem z8R : slT Tryz.prog 24 106 4 = true := by kernel_rfl
theorem z2T : slT Tryz.prog 25 109 2 = true := by kernel_rfl
theorem z5d : slT Tryz.prog 26 112 2 = true := by kernel_rfl
theorem j4D : slT Tryz.prog 29 39 4 = true := by kernel_rfl
theorem z6Y : slT Tryz.prog 35 80 3 = true := by kernel_rfl
theorem z8Q : slT Tryz.prog 41 60 1 = true := by kernel_rfl
theorem q4e : slT Tryz.prog 53 59 5 = true := by kernel_rfl
theorem q9E : slT Tryz.prog 54 127 3 = true := by kernel_rfl
theorem q4J : slT Tryz.prog 60 72 4 = true := by kernel_rfl
theorem z4a : slT Tryz.prog 67 3 1 = true := by kernel_rfl
theorem q6w : slT Tryz.prog 78 125 3 = true := by kernel_rfl
theorem q8E : slT Tryz.prog 83 4 1 = true := by kernel_rfl
theorem j4Y : slT Tryz.prog 91 22 1 = true := by kernel_rfl
theorem q8Z : j1m Tryz.prog 9 = true := by kernel_rfl
theorem z3X : (Tryz.prog.info? 106).bind (·.zero) = some (.agg #[.int .i64 0, .int .i64 0, .int .i64 0, .int .i64 0]) := by kernel_rfl
theorem z3W : (Tryz.prog.info? 109).bind (·.zero) = some (.agg #[.int .i64 0, .int .i64 0]) := by kernel_rfl
theorem z1H : (Tryz.prog.info? 112).bind (·.zero) = some (.agg #[.int .i64 0, .int .i64 0]) := by kernel_rfl
theorem q2z : (Tryz.prog.info? 120).bind (·.zero) = some (.agg #[.int .i64 0, .int .i64 0]) := by kernel_rfl
theorem q3G : (Tryz.prog.info? 125).bind (·.zero) = some (.agg #[.int .i64 0, .int .i64 0, .int .i64 0]) := by kernel_rfl
theorem j0X : (Tryz.prog.info? 131).bind (·.zero) = some (.nilFunc) := by kernel_rfl
theorem j0W : (Tryz.prog.info? 183).bind (·.zero) = some (.nilFunc) := by kernel_rfl
theorem z4U : (Tryz.prog.info? 28).bind (·.zero) = some (.agg #[.slice none 0 0, .slice none 0 0, .slice none 0 0, .slice none 0 0, .slice none 0 0]) := by kernel_rfl
theorem j4N : (Tryz.prog.info? 3).bind (·.zero) = some (.int .i64 0) := by kernel_rfl
theorem j2y : (Tryz.prog.info? 39).bind (·.zero) = some (.agg #[.int .i64 0, .int .i64 0, .int .i64 0, .int .i64 0]) := by kernel_rfl
theorem z8U : (Tryz.prog.info? 4).bind (·.zero) = some (.bool false) := by kernel_rfl
theorem j0q : (Tryz.prog.info? 59).bind (·.zero) = some (.agg #[.int .i64 0, .bool false, .int .i64 0, .int .i64 0, .bool false]) := by kernel_rfl
theorem q4F : (Tryz.prog.info? 72).bind (·.zero) = some (.agg #[.int .i64 0, .int .i64 0, .int .i64 0, .int .i64 0]) := by kernel_rfl
theorem j2x : (Tryz.prog.info? 80).bind (·.zero) = some (.agg #[.int .i64 0, .int .i64 0, .slice none 0 0]) := by kernel_rfl
theorem z2N : (Tryz.prog.info? 82).bind (·.zero) = some (.pointer none) := by kernel_rfl
theorem j2w : (Tryz.prog.info? 99).bind (·.zero) = some (.agg #[.int .i64 0, .int .i64 0, .int .i64 0, .int .i64 0, .int .i64 0, .int .i64 0, .bool false]) := by kernel_rfl
theorem j3T : q8 Tryz.prog 5 = true := by kernel_rfl
theorem j3I : q8 Tryz.prog 6 = true := by kernel_rfl
theorem j0g : q8 Tryz.prog 7 = true := by kernel_rfl
theorem j5v : q8 Tryz.prog 8 = true := by kernel_rfl
theorem j5u : q8 Tryz.prog 9 = true := by kernel_rfl
theorem j4u : q8 Tryz.prog 10 = true := by kernel_rfl
theorem j4t : q8 Tryz.prog 11 = true := by kernel_rfl
theorem j4s : q8 Tryz.prog 14 = true := by kernel_rfl
theorem z5I : q8 Tryz.prog 15 = true := by kernel_rfl
theorem q5U : q8 Tryz.prog 16 = true := by kernel_rfl
theorem j4r : q8 Tryz.prog 17 = true := by kernel_rfl
theorem j4q : q8 Tryz.prog 18 = true := by kernel_rfl
theorem j4p : q8 Tryz.prog 19 = true := by kernel_rfl
theorem j4o : q8 Tryz.prog 20 = true := by kernel_rfl
theorem j4n : q8 Tryz.prog 21 = true := by kernel_rfl
theorem j4m : q8 Tryz.prog 22 = true := by kernel_rfl
theorem j4l : q8 Tryz.prog 23 = true := by kernel_rfl
theorem j4k : q8 Tryz.prog 24 = true := by kernel_rfl
theorem j4j : q8 Tryz.prog 25 = true := by kernel_rfl
theorem z8n : q8 Tryz.prog 26 = true := by kernel_rfl
theorem z8m : q8 Tryz.prog 27 = true := by kernel_rfl
theorem j4i : q8 Tryz.prog 28 = true := by kernel_rfl
theorem j4h : q8 Tryz.prog 29 = true := by kernel_rfl
theorem j4g : q8 Tryz.prog 30 = true := by kernel_rfl
theorem j0Q : q8 Tryz.prog 31 = true := by kernel_rfl
theorem j4f : q8 Tryz.prog 32 = true := by kernel_rfl
theorem j0P : q8 Tryz.prog 33 = true := by kernel_rfl
theorem j0O : q8 Tryz.prog 34 = true := by kernel_rfl
theorem j4e : q8 Tryz.prog 35 = true := by kernel_rfl
theorem j4d : q8 Tryz.prog 36 = true := by kernel_rfl
theorem j4c : q8 Tryz.prog 37 = true := by kernel_rfl
theorem j4b : q8 Tryz.prog 39 = true := by kernel_rfl
theorem j4a : q8 Tryz.prog 40 = true := by kernel_rfl
theorem j3Z : q8 Tryz.prog 41 = true := by kernel_rfl
theorem j3Y : q8 Tryz.prog 42 = true := by kernel_rfl
theorem j3X : q8 Tryz.prog 45 = true := by kernel_rfl
theorem j3W : q8 Tryz.prog 47 = true := by kernel_rfl
theorem j3V : q8 Tryz.prog 48 = true := by kernel_rfl
theorem j3U : q8 Tryz.prog 49 = true := by kernel_rfl
theorem j3S : q8 Tryz.prog 50 = true := by kernel_rfl
theorem j3R : q8 Tryz.prog 51 = true := by kernel_rfl
theorem j3Q : q8 Tryz.prog 52 = true := by kernel_rfl
theorem j3P : q8 Tryz.prog 53 = true := by kernel_rfl
theorem j3O : q8 Tryz.prog 54 = true := by kernel_rfl
theorem j3N : q8 Tryz.prog 55 = true := by kernel_rfl
theorem j3M : q8 Tryz.prog 56 = true := by kernel_rfl
theorem j3L : q8 Tryz.prog 57 = true := by kernel_rfl
theorem j3K : q8 Tryz.prog 58 = true := by kernel_rfl
theorem j3J : q8 Tryz.prog 59 = true := by kernel_rfl
theorem j0N : q8 Tryz.prog 60 = true := by kernel_rfl
theorem q8w : q8 Tryz.prog 61 = true := by kernel_rfl
theorem j3H : q8 Tryz.prog 62 = true := by kernel_rfl
theorem z5H : q8 Tryz.prog 63 = true := by kernel_rfl
theorem q6A : q8 Tryz.prog 64 = true := by kernel_rfl
theorem j3G : q8 Tryz.prog 65 = true := by kernel_rfl
theorem z5G : q8 Tryz.prog 66 = true := by kernel_rfl
theorem j3F : q8 Tryz.prog 67 = true := by kernel_rfl
theorem j3E : q8 Tryz.prog 68 = true := by kernel_rfl
theorem j0M : q8 Tryz.prog 69 = true := by kernel_rfl
theorem j3D : q8 Tryz.prog 70 = true := by kernel_rfl
theorem z8l : q8 Tryz.prog 71 = true := by kernel_rfl
theorem z5F : q8 Tryz.prog 72 = true := by kernel_rfl
theorem j3C : q8 Tryz.prog 73 = true := by kernel_rfl
theorem j0L : q8 Tryz.prog 74 = true := by kernel_rfl
theorem j0K : q8 Tryz.prog 75 = true := by kernel_rfl
theorem z5E : q8 Tryz.prog 76 = true := by kernel_rfl
theorem j3B : q8 Tryz.prog 77 = true := by kernel_rfl
theorem z8k : q8 Tryz.prog 78 = true := by kernel_rfl
theorem z5D : q8 Tryz.prog 79 = true := by kernel_rfl
theorem z5C : q8 Tryz.prog 80 = true := by kernel_rfl
theorem z5B : q8 Tryz.prog 81 = true := by kernel_rfl
theorem j0J : q8 Tryz.prog 82 = true := by kernel_rfl
theorem j0I : q8 Tryz.prog 83 = true := by kernel_rfl
theorem z8j : q8 Tryz.prog 84 = true := by kernel_rfl
theorem j0H : q8 Tryz.prog 85 = true := by kernel_rfl
theorem j3A : q8 Tryz.prog 86 = true := by kernel_rfl
theorem j0G : q8 Tryz.prog 87 = true := by kernel_rfl
theorem j3z : q8 Tryz.prog 89 = true := by kernel_rfl
theorem z8i : q8 Tryz.prog 90 = true := by kernel_rfl
theorem q5w : q8 Tryz.prog 91 = true := by kernel_rfl
theorem z8h : q8 Tryz.prog 92 = true := by kernel_rfl
theorem j0F : q8 Tryz.prog 93 = true := by kernel_rfl
theorem z5A : q8 Tryz.prog 94 = true := by kernel_rfl
theorem z3x : q8 Tryz.prog 95 = true := by kernel_rfl
theorem j0E : q8 Tryz.prog 96 = true := by kernel_rfl
theorem z3w : q8 Tryz.prog 97 = true := by kernel_rfl
theorem j0D : q8 Tryz.prog 98 = true := by kernel_rfl
theorem j3y : q8 Tryz.prog 99 = true := by kernel_rfl
theorem z8v : q8 Tryz.prog 100 = true := by kernel_rfl
theorem q5l : q8 Tryz.prog 101 = true := by kernel_rfl
theorem z8u : q8 Tryz.prog 102 = true := by kernel_rfl
theorem z8t : q8 Tryz.prog 103 = true := by kernel_rfl
theorem z8s : q8 Tryz.prog 104 = true := by kernel_rfl
theorem j2o : q8 Tryz.prog 105 = true := by kernel_rfl
theorem j2n : q8 Tryz.prog 106 = true := by kernel_rfl
theorem z4K : q8 Tryz.prog 107 = true := by kernel_rfl
theorem z8r : q8 Tryz.prog 108 = true := by kernel_rfl
theorem j2m : q8 Tryz.prog 109 = true := by kernel_rfl
theorem j2l : q8 Tryz.prog 113 = true := by kernel_rfl
theorem j2k : q8 Tryz.prog 114 = true := by kernel_rfl
theorem j2j : q8 Tryz.prog 115 = true := by kernel_rfl
theorem j2i : q8 Tryz.prog 116 = true := by kernel_rfl
theorem z8q : q8 Tryz.prog 118 = true := by kernel_rfl
theorem z8p : q8 Tryz.prog 119 = true := by kernel_rfl
theorem j2h : q8 Tryz.prog 120 = true := by kernel_rfl
theorem j2g : q8 Tryz.prog 121 = true := by kernel_rfl
theorem z4J : q8 Tryz.prog 123 = true := by kernel_rfl
theorem j2f : q8 Tryz.prog 124 = true := by kernel_rfl
theorem j2e : q8 Tryz.prog 125 = true := by kernel_rfl
theorem j2d : q8 Tryz.prog 126 = true := by kernel_rfl
theorem j2c : q8 Tryz.prog 130 = true := by kernel_rfl
theorem j2b : q8 Tryz.prog 131 = true := by kernel_rfl
theorem j2a : q8 Tryz.prog 132 = true := by kernel_rfl
theorem j1Z : q8 Tryz.prog 134 = true := by kernel_rfl
theorem z8o : q8 Tryz.prog 135 = true := by kernel_rfl
theorem j1Y : q8 Tryz.prog 139 = true := by kernel_rfl
theorem z4I : q8 Tryz.prog 140 = true := by kernel_rfl
theorem j1X : q8 Tryz.prog 155 = true := by kernel_rfl
theorem j1W : q8 Tryz.prog 166 = true := by kernel_rfl
theorem z8I : j4J Tryz.prog 101 3 51 1 = true := by kernel_rfl
theorem j3q : eqT Tryz.prog 109 [.int .i64, .int .i64] := ⟨by kernel_rfl, by kernel_rfl, by kernel_rfl⟩
theorem z9W : Tryz.prog.funcs[154]? = some Tryz.f154 := Tryz.func154
theorem z9V : (Tryz.f154.name == "runtime.NumGoroutine") = false := by kernel_rfl
theorem z9U : Tryz.f154.body.isNone = true := by kernel_rfl
theorem z9T : Extern.findNext Tryz.f154 = none := by kernel_rfl
theorem z9S : Extern.find Tryz.f154 = some Extern.BytealgCount.count := by kernel_rfl
theorem z9R : Tryz.prog.funcs[178]? = some Tryz.f178 := Tryz.func178
theorem z9Q : (Tryz.f178.name == "runtime.NumGoroutine") = false := by kernel_rfl
theorem z9P : Tryz.f178.body.isNone = true := by kernel_rfl
theorem z9O : Extern.findNext Tryz.f178 = none := by kernel_rfl
theorem z9N : Extern.find Tryz.f178 = some Extern.BytealgIndexByte.indexByte := by kernel_rfl
theorem z5p : KeyOk Tryz.prog 120 z2a true := ⟨⟨[.int .i64, .int .i64], by kernel_rfl, fun w cs a hr => by obtain ⟨_, _, rfl, rfl, rfl⟩ := hr; exact ⟨⟨_, rfl⟩, ⟨⟨_, rfl⟩, trivial⟩⟩⟩, by kernel_rfl, fun w w' cs ds a c h1 h2 => by
  obtain ⟨_, _, rfl, rfl, rfl⟩ := h1
  obtain ⟨_, _, rfl, rfl, rfl⟩ := h2
  cases a; cases c
  simp [J2, q3U, z4P, Bool.decide_and]⟩
theorem z8S : KeyOk Tryz.prog 3 (RT.int .i64) false := z7G (by kernel_rfl) (by kernel_rfl)
theorem j3f : KeyOk Tryz.prog 72 z4 true := ⟨⟨[.int .i64, .int .i64, .int .i64, .int .i64], by kernel_rfl, fun w cs a hr => by obtain ⟨_, _, rfl, rfl, ⟨_, _, rfl, rfl, ⟨_, _, rfl, rfl, rfl⟩⟩⟩ := hr; exact ⟨⟨_, rfl⟩, ⟨⟨_, rfl⟩, ⟨⟨_, rfl⟩, ⟨⟨_, rfl⟩, trivial⟩⟩⟩⟩⟩, by kernel_rfl, fun w w' cs ds a c h1 h2 => by
  obtain ⟨_, _, rfl, rfl, ⟨_, _, rfl, rfl, ⟨_, _, rfl, rfl, rfl⟩⟩⟩ := h1
  obtain ⟨_, _, rfl, rfl, ⟨_, _, rfl, rfl, ⟨_, _, rfl, rfl, rfl⟩⟩⟩ := h2
  cases a; cases c
  simp [J2, q3U, z4P, Bool.decide_and]⟩
theorem z2g : Tryz.prog.underlying 155 = some (.map 120 4) := by kernel_rfl
theorem z7B : Tryz.prog.underlying 163 = some (.map 72 4) := by kernel_rfl
theorem q3o : Tryz.prog.underlying 55 = some (.map 3 82) := by kernel_rfl
theorem z9w : ptT Tryz.prog 82 = true := by kernel_rfl
end Go.Proofs.YtdbehipjelcmbaaGreatDoor
namespace Go.Proofs.YtdbehipjelcmbaaGreatDoor
open Go.RowKit Go.Maps Go.Sort Go.Shelf Go.WideElems Go.Fp
section
variable {ν : Type} {vo : OT ν} {va : Bool} {g : Nat} {l : List (Int × ν)} {hs : Hp} {P : Program} {kt : TypeId}
def z4O : Value → Option (DataW Unit × List MemPlace) := fun _ => some (.nil, [])
theorem j3h {x : Int} (h : -9223372036854775808 ≤ x ∧ x ≤ 9223372036854775807) : (Lit.int .i64 x).wf = true := by
  simp [Lit.wf, IntKind.min, IntKind.max, IntKind.signed, IntKind.bits]
  omega
theorem j1A {b : Base} {hp : Hp} {w : World} (ho : Own b hp w) (hsub : hs.Sublist hp) (h : OM (RT.int .i64) vo false va b.w g l hs) (hk : P.underlying kt = some (.int .i64)) (hwf : ∀ p ∈ l, -9223372036854775808 ≤ p.1 ∧ p.1 ≤ 9223372036854775807) (hlen : l.length ≤ maxLen) :
    ∃ D : DataW Unit, w.ownsMap P kt z4O g l.length D ∧ (intKeys D).Perm (l.map (·.1)) ∧ Maps.size D = l.length := by
  obtain ⟨es, cl, hss, h1, h2, h3, h4⟩ := h
  have hb : w.heap[g]? = some (.map es.toArray cl) := (ho.blk g _ (hsub.subset (by rw [h1]; simp))).2
  have hkeys : All2 (fun (e : MapEntry) (p : Int × ν) => e.key = .int .i64 p.1) es l := q6g (fun e p q hh => by
    have h5 : [e.key] = [Value.int .i64 p.1] := hh.1
    injection h5) h2
  have hlen2 : es.length = l.length := hkeys.length
  have hrd : All2 (fun (e : MapEntry) (p : Int × ν) => WideElems.rd P kt z4O e = some (.int .i64 p.1, .nil)) es l := by
    clear h2 h3 h4 hb h1 hlen hlen2
    induction es generalizing l with
    | nil => match l, hkeys with | [], _ => trivial
    | cons e es ih =>
      match l, hkeys with
      | p :: l, hkeys =>
        refine ⟨?_, ih (fun q hq => hwf q (by simp [hq])) hkeys.2⟩
        have hw : (Lit.int .i64 p.1).wf = true := by
          have := hwf p (by simp)
          exact j3h this
        have hko : keyOf P kt e.key = some (.int .i64 p.1) := by
          rw [hkeys.1]
          exact keyOf_int_mk hk hw
        show WideElems.rd P kt z4O e = _
        unfold WideElems.rd
        rw [hko]
        rfl
  have hrg : (es.map (rg P kt z4O)) = l.map fun p => (Lit.int .i64 p.1, DataW.nil) := by
    clear h2 h3 h4 hb h1 hlen hlen2 hkeys hwf
    induction es generalizing l with
    | nil => match l, hrd with | [], _ => rfl
    | cons e es ih =>
      match l, hrd with
      | p :: l, hrd => rw [List.map_cons, List.map_cons, ih hrd.2, rg_of hrd.1]
  have hek : es.map (·.key) = l.map fun p => Value.int .i64 p.1 := by
    clear h2 h3 h4 hb h1 hlen hlen2 hrd hrg hwf
    induction es generalizing l with
    | nil => match l, hkeys with | [], _ => rfl
    | cons e es ih =>
      match l, hkeys with
      | p :: l, hkeys => rw [List.map_cons, List.map_cons, ih hkeys.2, hkeys.1]
  refine ⟨.map ((es.toArray.toList.map (rg P kt z4O)).foldr DataW.insert []), ⟨es.toArray, cl, hb, ⟨by simpa [hlen2] using hlen, ⟨fun x hx => h4.1 x (by simpa using hx), by simpa using h4.2, ?_⟩, fun x hx => ?_⟩, by simp [hlen2], rfl⟩, ?_, ?_⟩
  · rw [List.toList_toArray, hek]
    have h6 : (l.map fun p => Value.int .i64 p.1) = (l.map (·.1)).map (Value.int .i64) := by simp
    rw [h6]
    exact List.Pairwise.map _ (fun a c hne e => hne (by injection e)) h3
  · rw [List.toList_toArray] at hx
    obtain ⟨j, hj, rfl⟩ := List.getElem_of_mem hx
    obtain ⟨e, he, hq⟩ := hrd.get (List.getElem?_eq_getElem (hlen2 ▸ hj))
    rw [List.getElem?_eq_getElem hj] at he
    injection he with he
    rw [← he] at hq
    exact ⟨_, hq⟩
  · show (List.map (fun (p : Lit × DataW Unit) => Go.intOf p.1) ((es.toArray.toList.map (rg P kt z4O)).foldr DataW.insert [])).Perm _
    rw [List.toList_toArray, hrg]
    refine ((Go.WideShapes.sorted_perm _).map _).trans ?_
    rw [List.map_map]
    exact .refl _
  · show ((es.toArray.toList.map (rg P kt z4O)).foldr DataW.insert []).length = _
    rw [length_sorted, List.length_map, List.toList_toArray, hlen2]
end
def keysL_ren : Go.Shelf.Ren := ⟨fun | 7 => 75 | 10 => 112 | n => n, fun | 23 => 55 | 26 => 3 | 3 => 82 | 28 => 138 | 0 => 0 | 27 => 137 | 33 => 121 | 4 => 4 | n => n, fun | n => n⟩
theorem keysL : Go.Proofs.SlLaysZI.n7 Tryz.prog keysL_ren := {
  mixed := by kernel_rfl
  f7 := ⟨Tryz.f75.name, by decide, Tryz.func75.trans (congrArg some (by kernel_rfl))⟩
  f10 := ⟨Tryz.f112.name, by decide, Tryz.func112.trans (congrArg some (by kernel_rfl))⟩
  t0 := Tryz.underlying0
  a0 := Tryz.isAgg0
  z0 := Tryz.sizeOf0
  v0 := Tryz.zeroValue0
  t4 := Tryz.underlying4
  a4 := Tryz.isAgg4
  z4 := Tryz.sizeOf4
  v4 := Tryz.zeroValue4
  t23 := Tryz.underlying55
  a23 := Tryz.isAgg55
  z23 := Tryz.sizeOf55
  v23 := Tryz.zeroValue55
  t26 := Tryz.underlying3
  a26 := Tryz.isAgg3
  z26 := Tryz.sizeOf3
  v26 := Tryz.zeroValue3
  t27 := Tryz.underlying137
  a27 := Tryz.isAgg137
  z27 := Tryz.sizeOf137
  v27 := Tryz.zeroValue137
  t28 := Tryz.underlying138
  a28 := Tryz.isAgg138
  z28 := Tryz.sizeOf138
  v28 := Tryz.zeroValue138
  t33 := Tryz.underlying121
  a33 := Tryz.isAgg121
  z33 := Tryz.sizeOf121
  v33 := Tryz.zeroValue121 }
def sortedL_ren : Go.Shelf.Ren := ⟨fun | 6 => 74 | 8 => 110 | 9 => 111 | 11 => 127 | 13 => 129 | 12 => 128 | 23 => 150 | 24 => 151 | 14 => 141 | 15 => 142 | 16 => 143 | 17 => 144 | 18 => 145 | 19 => 146 | 20 => 147 | 21 => 148 | 22 => 149 | 25 => 160 | 26 => 161 | 27 => 162 | 28 => 163 | 29 => 164 | 30 => 118 | 31 => 177 | n => n, fun | 26 => 3 | 28 => 138 | 24 => 67 | 0 => 0 | 3 => 3 | 37 => 192 | 48 => 211 | 50 => 213 | 4 => 4 | 40 => 205 | 39 => 204 | 45 => 151 | 5 => 5 | 9 => 9 | 51 => 219 | 55 => 223 | 57 => 232 | 58 => 233 | 33 => 121 | n => n, fun | n => n⟩
theorem sortedL : Go.Proofs.SlLaysZI.n6 Tryz.prog sortedL_ren := {
  mixed := by kernel_rfl
  f6 := ⟨Tryz.f74.name, by decide, Tryz.func74.trans (congrArg some (by kernel_rfl))⟩
  f8 := ⟨Tryz.f110.name, by decide, Tryz.func110.trans (congrArg some (by kernel_rfl))⟩
  f11 := ⟨Tryz.f127.name, by decide, Tryz.func127.trans (congrArg some (by kernel_rfl))⟩
  t0 := Tryz.underlying0
  a0 := Tryz.isAgg0
  z0 := Tryz.sizeOf0
  v0 := Tryz.zeroValue0
  t24 := Tryz.underlying67
  a24 := Tryz.isAgg67
  z24 := Tryz.sizeOf67
  v24 := Tryz.zeroValue67
  t26 := Tryz.underlying3
  a26 := Tryz.isAgg3
  z26 := Tryz.sizeOf3
  v26 := Tryz.zeroValue3
  t28 := Tryz.underlying138
  a28 := Tryz.isAgg138
  z28 := Tryz.sizeOf138
  v28 := Tryz.zeroValue138
  i26 := by kernel_rfl }
def sortL_ren : Go.Shelf.Ren := ⟨fun | 5 => 111 | 8 => 129 | 7 => 128 | 19 => 150 | 20 => 151 | 10 => 141 | 11 => 142 | 12 => 143 | 13 => 144 | 14 => 145 | 15 => 146 | 16 => 147 | 17 => 148 | 18 => 149 | 30 => 160 | 31 => 161 | 32 => 162 | 33 => 163 | 34 => 164 | 35 => 118 | 40 => 177 | n => n, fun | 23 => 67 | 25 => 3 | 3 => 3 | 32 => 192 | 22 => 67 | 0 => 0 | 44 => 211 | 46 => 213 | 4 => 4 | 36 => 205 | 35 => 204 | 41 => 151 | 5 => 5 | 9 => 9 | 53 => 219 | 57 => 223 | 63 => 232 | 64 => 233 | n => n, fun | n => n⟩
theorem sortL : Go.Proofs.SlLaysM.n5 Tryz.prog sortL_ren := {
  mixed := by kernel_rfl
  f5 := ⟨Tryz.f111.name, by decide, Tryz.func111.trans (congrArg some (by kernel_rfl))⟩
  f7 := ⟨Tryz.f128.name, by decide, Tryz.func128.trans (congrArg some (by kernel_rfl))⟩
  f8 := Tryz.func129.trans (congrArg some (by kernel_rfl))
  f10 := ⟨Tryz.f141.name, by decide, Tryz.func141.trans (congrArg some (by kernel_rfl))⟩
  f11 := ⟨Tryz.f142.name, by decide, Tryz.func142.trans (congrArg some (by kernel_rfl))⟩
  f12 := ⟨Tryz.f143.name, by decide, Tryz.func143.trans (congrArg some (by kernel_rfl))⟩
  f13 := ⟨Tryz.f144.name, by decide, Tryz.func144.trans (congrArg some (by kernel_rfl))⟩
  f14 := ⟨Tryz.f145.name, by decide, Tryz.func145.trans (congrArg some (by kernel_rfl))⟩
  f15 := ⟨Tryz.f146.name, by decide, Tryz.func146.trans (congrArg some (by kernel_rfl))⟩
  f16 := ⟨Tryz.f147.name, by decide, Tryz.func147.trans (congrArg some (by kernel_rfl))⟩
  f17 := ⟨Tryz.f148.name, by decide, Tryz.func148.trans (congrArg some (by kernel_rfl))⟩
  f18 := ⟨Tryz.f149.name, by decide, Tryz.func149.trans (congrArg some (by kernel_rfl))⟩
  f19 := Tryz.func150.trans (congrArg some (by kernel_rfl))
  f20 := Tryz.func151.trans (congrArg some (by kernel_rfl))
  f30 := ⟨Tryz.f160.name, by decide, Tryz.func160.trans (congrArg some (by kernel_rfl))⟩
  f31 := Tryz.func161.trans (congrArg some (by kernel_rfl))
  f32 := Tryz.func162.trans (congrArg some (by kernel_rfl))
  f33 := ⟨Tryz.f163.name, by decide, Tryz.func163.trans (congrArg some (by kernel_rfl))⟩
  f34 := ⟨Tryz.f164.name, by decide, Tryz.func164.trans (congrArg some (by kernel_rfl))⟩
  f35 := ⟨Tryz.f118.name, by decide, Tryz.func118.trans (congrArg some (by kernel_rfl))⟩
  f40 := ⟨Tryz.f177.name, by decide, Tryz.func177.trans (congrArg some (by kernel_rfl))⟩
  t0 := Tryz.underlying0
  a0 := Tryz.isAgg0
  z0 := Tryz.sizeOf0
  v0 := Tryz.zeroValue0
  t3 := Tryz.underlying3
  a3 := Tryz.isAgg3
  z3 := Tryz.sizeOf3
  v3 := Tryz.zeroValue3
  t4 := Tryz.underlying4
  a4 := Tryz.isAgg4
  z4 := Tryz.sizeOf4
  v4 := Tryz.zeroValue4
  t5 := Tryz.underlying5
  a5 := Tryz.isAgg5
  z5 := Tryz.sizeOf5
  v5 := Tryz.zeroValue5
  t9 := Tryz.underlying9
  a9 := Tryz.isAgg9
  z9 := Tryz.sizeOf9
  v9 := Tryz.zeroValue9
  t22 := Tryz.underlying67
  a22 := Tryz.isAgg67
  z22 := Tryz.sizeOf67
  v22 := Tryz.zeroValue67
  t23 := Tryz.underlying67
  a23 := Tryz.isAgg67
  z23 := Tryz.sizeOf67
  v23 := Tryz.zeroValue67
  t25 := Tryz.underlying3
  a25 := Tryz.isAgg3
  z25 := Tryz.sizeOf3
  v25 := Tryz.zeroValue3
  t32 := Tryz.underlying192
  a32 := Tryz.isAgg192
  z32 := Tryz.sizeOf192
  v32 := Tryz.zeroValue192
  t35 := Tryz.underlying204
  a35 := Tryz.isAgg204
  z35 := Tryz.sizeOf204
  v35 := Tryz.zeroValue204
  t36 := Tryz.underlying205
  a36 := Tryz.isAgg205
  z36 := Tryz.sizeOf205
  v36 := Tryz.zeroValue205
  t41 := Tryz.underlying151
  a41 := Tryz.isAgg151
  z41 := Tryz.sizeOf151
  v41 := Tryz.zeroValue151
  t44 := Tryz.underlying211
  a44 := Tryz.isAgg211
  z44 := Tryz.sizeOf211
  v44 := Tryz.zeroValue211
  t46 := Tryz.underlying213
  a46 := Tryz.isAgg213
  z46 := Tryz.sizeOf213
  v46 := Tryz.zeroValue213
  t53 := Tryz.underlying219
  a53 := Tryz.isAgg219
  z53 := Tryz.sizeOf219
  v53 := Tryz.zeroValue219
  t57 := Tryz.underlying223
  a57 := Tryz.isAgg223
  z57 := Tryz.sizeOf223
  v57 := Tryz.zeroValue223
  t63 := Tryz.underlying232
  a63 := Tryz.isAgg232
  z63 := Tryz.sizeOf232
  v63 := Tryz.zeroValue232
  t64 := Tryz.underlying233
  a64 := Tryz.isAgg233
  z64 := Tryz.sizeOf233
  v64 := Tryz.zeroValue233 }
theorem j2M (m : Nat) : AnyZI.SortsIn Tryz.prog sortedL_ren Fence.wide m :=
  ⟨fun blk off cap ss W hH hblk hsz => callsIn_wide.2 (AnyM.slices_Sort_int sortL blk off cap ss W hH hblk hsz),
   fun p cap W => callsIn_wide.2 (AnyM.slices_Sort_int_none sortL p cap W)⟩
set_option maxHeartbeats 1000000 in
theorem z9p {b : Base} {g gm : Nat} {ads : Int → Nat} {l : List (Int × Option Int)} {hs R : Hp} {q : List Int} (hm : z1W l = some q) (h : OM (RT.int .i64) (OT.fr (RT.key ads)) false false b.w gm l hs) :
 CallsG Tryz.prog 74 [.func (.func 112) #[] #[.pointer (some ⟨g, 0, none⟩)]] b ((g, Cl 55 [.map (some gm)]) :: (hs ++ R)) (fun v b' hp' => ∃ (A : Option Addr) (c : Nat) (hs' : Hp), .slice A q.length c = v ∧ (g, Cl 55 [.map (some gm)]) :: (hs' ++ (hs ++ R)) = hp' ∧ OS 3 (OT.fr (RT.int .i64)) b'.w (.slice A q.length c) q hs') := fun w ho => by
  obtain ⟨_, hroom, hm⟩ := q8S hm
  have hroom := Q9 hroom
  split at hm
  · rename_i hall
    injection hm with hm
    subst hm
    have hml : maxLen = 9223372036854775807 := by decide
    obtain ⟨D, hown, hperm, hsize⟩ := j1A (kt := 3) ho ((List.sublist_append_left _ _).trans (List.sublist_cons_self _ _)) h (by kernel_rfl) (fun p hp => of_decide_eq_true (List.all_eq_true.1 hall p hp)) (by omega)
    have hcell : w.cell? ⟨g, 0, none⟩ = some (.map (some gm)) := ho.cell (i := 0) (t := 55) (cs := [.map (some gm)]) rfl 0
    have hlt : g < w.heap.size := ho.lt (List.mem_cons_self ..)
    have hseq : SeqGives Fence.wide 2 Tryz.prog 112 #[.pointer (some ⟨g, 0, none⟩)] encZ (fun ss => ss.Perm (intKeys D)) (Maps.size D) w :=
      AnyZI.keys_gives (ρ := keysL_ren) { keysL with } Fence.wide _ trivial rfl (by omega) g gm l.length D w hlt hcell hown
    have cS := AnyZI.sorted_in sortedL Fence.wide 5 trivial trivial trivial trivial rfl (by omega) (j2M _) (enters_of Tryz.func111 (by kernel_rfl) rfl) 112 #[.pointer (some ⟨g, 0, none⟩)] trivial (enters_of Tryz.func112 (by kernel_rfl) rfl) _ _ (by omega) (by omega) w hseq
    change CallsIn _ _ Tryz.prog 74 _ _ _ at cS
    refine (callsIn_wide (n := 5)).1 (cS.mono ?_)
    rintro e w' ⟨v, ss, rfl, hS, hrow, hnil, hb⟩
    have hms : ss.mergeSort (fun x y => decide (x ≤ y)) = (l.map (·.1)).mergeSort leI := mergeSort_of_perm_i (hS.trans hperm)
    rw [hms] at hrow
    have hlen : ss.length = ((l.map (·.1)).mergeSort leI).length := by rw [← hms, List.length_mergeSort]
    rw [hlen] at hrow
    generalize (l.map (·.1)).mergeSort leI = q at *
    have hfl : ∀ m : List Int, (m.map fun x => [encZ x]).flatten = m.map encZ := fun m => by induction m with
      | nil => rfl
      | cons a m ih => rw [List.map_cons, List.flatten_cons, ih]; rfl
    have hall2 : ∀ (w : World) (m : List Int), All2 ((RT.int .i64).rep w) (m.map fun x => [encZ x]) m := fun w m => by induction m with
      | nil => trivial
      | cons a m ih => exact ⟨rfl, ih⟩
    obtain ⟨_, h1 | ⟨g2, cap, cur, h1, h2, h3, h4, h5, h6, h7⟩⟩ := hrow
    · obtain ⟨h1, h0⟩ := h1
      have hq0 : q = [] := List.length_eq_zero_iff.1 h0
      subst hq0
      subst h1
      refine ⟨_, b, _, rfl, Base.Le.refl _, ho.below_ hb, none, 0, [], rfl, rfl, OS.nil⟩
    · have hown2 : Own (w : Base) [(g2, Cl 3 cur.toList)] w' := ⟨Nat.le_refl _, hb, z0t hb, by simp, fun g' o' hm => by
          simp at hm
          obtain ⟨rfl, rfl⟩ := hm
          exact ⟨h2, h3⟩, fun g' o' hm p hp => by
          simp at hm
          obtain ⟨rfl, rfl⟩ := hm
          exact q3W _ _ (by rw [hp]; exact h2), fun g' o' hm => absurd hm (by simp)⟩
      have ho2 := ho.grow hown2
      refine ⟨v, b, (g, Cl 55 [.map (some gm)]) :: ([(g2, Cl 3 cur.toList)] ++ (hs ++ R)), rfl, Base.Le.refl _, ho2.perm (List.Perm.swap _ _ _), some ⟨g2, 0, none⟩, cap, [(g2, Cl 3 cur.toList)], h1.symm, rfl, ?_⟩
      refine ⟨q.map fun x => [encZ x], List.replicate q.length [], [(g2, Cl 3 cur.toList)], .inr ⟨g2, cap, [], cur.toList.drop q.length, rfl, ?_, ?_, ?_, h4, h5, Front.nil⟩, q5p (hall2 _ _), by simp⟩
      · rw [hfl, ← h7, Nat.mul_one, List.nil_append, List.take_append_drop]
      · rw [hfl]; show (q.map encZ).length = q.length * 1; simp
      · rw [hfl, ← h7, Nat.mul_one, List.take_append_drop]
        show cap * 1 ≤ _
        simp [h6]
  · cases hm
end Go.Proofs.YtdbehipjelcmbaaGreatDoor
namespace Go.Proofs.YtdbehipjelcmbaaGreatDoor
open Go.RowKit Go.Fp
def j1n (s : ApiStep) : Value := .agg #[.int .i64 s.Section, .int .i64 s.In, .int .i64 s.Out]
theorem z7P {N : Nat} : ∀ (k m : Nat), forM (σ := Unit) (τ := Empty) (fun _ _ => some (.inl ())) m k () = some (.inl ())
  | _, 0 => rfl
  | k, m + 1 => z7P (N := N) (k + 1) m
def z8M : Prop := ∀ (b : Base) (R : Hp) (s1 : ApiNet) (s17 : LineEnd) (A2 : Option Addr) (c3 : Nat) (A5 : Option Addr) (c6 : Nat) (A8 : Option Addr) (c9 : Nat) (A11 : Option Addr) (c12 : Nat) (A14 : Option Addr) (c15 : Nat) (h4 : FZ RT.str b.w A2 c3 s1.Stations) (h7 : FZ rApiSection b.w A5 c6 s1.Sections) (h10 : FZ rApiLink b.w A8 c9 s1.Links) (h13 : FZ rApiSignal b.w A11 c12 s1.Signals) (h16 : FZ rApiGate b.w A14 c15 s1.Gates) (x : Int) (y : Int) (q : Bool) (hm : W0 s1 s17 = some (x, y, q)),
  CallsG Tryz.prog 95 [.agg #[.slice A2 (s1.Stations).length c3, .slice A5 (s1.Sections).length c6, .slice A8 (s1.Links).length c9, .slice A11 (s1.Signals).length c12, .slice A14 (s1.Gates).length c15], .agg #[.int .i64 (s17.section_), .int .i64 (s17.end_)]] b (R) (fun v b' hp' => .tuple #[.agg #[.int .i64 (x), .int .i64 (y)], .bool (q)] = v ∧ R = hp')
def j4A : Prop := ∀ (b : Base) (R : Hp) (x1 : Int) (x2 : Int) (l : (List Int)) (hm : q1G x1 x2 = some l),
  CallsG Tryz.prog 121 [.int .i64 (x1), .int .i64 (x2)] b (R) (fun v b' hp' => ∃ (A : Option Addr), ∃ (c : Nat), .slice A (l).length c = v ∧ R = hp' ∧ FZ (RT.int .i64) b'.w A c l)
set_option maxRecDepth 20000 in
theorem z5T (cj : z8M) (co : j4A) {b : Base} {s1 : ApiNet} {s17 : LineEnd} {A2 : Option Addr} {c3 : Nat} {A5 : Option Addr} {c6 : Nat} {A8 : Option Addr} {c9 : Nat} {A11 : Option Addr} {c12 : Nat} {A14 : Option Addr} {c15 : Nat} (h4 : FZ RT.str b.w A2 c3 s1.Stations) (h7 : FZ rApiSection b.w A5 c6 s1.Sections) (h10 : FZ rApiLink b.w A8 c9 s1.Links) (h13 : FZ rApiSignal b.w A11 c12 s1.Signals) (h16 : FZ rApiGate b.w A14 c15 s1.Gates)
    {Bn Bf : Nat} (hn : ∀ (i : Nat) (u : Value), ([.slice A2 (s1.Stations).length c3, .slice A5 (s1.Sections).length c6, .slice A8 (s1.Links).length c9, .slice A11 (s1.Signals).length c12, .slice A14 (s1.Gates).length c15] : List Value)[i]? = some u → b.w.cell? ((⟨Bn, 0, none⟩ : Addr).add i) = some u)
    (hf : ∀ (i : Nat) (u : Value), ([.int .i64 (s17.section_), .int .i64 (s17.end_)] : List Value)[i]? = some u → b.w.cell? ((⟨Bf, 0, none⟩ : Addr).add i) = some u) {xs : List ApiStep} (hm : q0t s1 s17 = some xs) :
    j4B Tryz.prog 122 #[.pointer (some ⟨Bn, 0, none⟩), .pointer (some ⟨Bf, 0, none⟩)] b (xs.map j1n) := by
  have G9 : q8A Tryz.prog 28 5 = true := by kernel_rfl
  have agg77 : q8A Tryz.prog 120 2 = true := by kernel_rfl
  have z8m : q8 Tryz.prog 95 = true := by kernel_rfl
  have z8n : q8 Tryz.prog 121 = true := by kernel_rfl
  have zero77 : ((Tryz.prog.info? 120).bind (·.zero)) = some (.agg #[.int .i64 0, .int .i64 0]) := by kernel_rfl
  have siz77 : q5s Tryz.prog 120 2 = true := by kernel_rfl
  have P7 : q0u Tryz.prog 28 1 1 = true := by kernel_rfl
  have fld77_0 : q0u Tryz.prog 120 0 0 = true := by kernel_rfl
  have fld77_1 : q0u Tryz.prog 120 1 1 = true := by kernel_rfl
  have fld58_0 : q0u Tryz.prog 99 0 0 = true := by kernel_rfl
  have q4K : q5u Tryz.prog 23 = true := by kernel_rfl
  have j4 : q5u Tryz.prog 3 = true := by kernel_rfl
  have z0y : slT Tryz.prog 23 99 7 = true := by kernel_rfl
  have sl48 : slT Tryz.prog 67 3 1 = true := by kernel_rfl
  have Q5 : Tryz.prog.follows .mixedOrders = true := by kernel_rfl
  intro b0 hp0 w hle how l Rd Rx hY h0
  have h4 := h4.le hle
  have h7 := h7.le hle
  have h10 := h10.le hle
  have h13 := h13.le hle
  have h16 := h16.le hle
  have hn := z8F hn hle
  have hf := z8F hf hle
  unfold q0t at hm
  refine j1O (fn := Tryz.f122) (args := [.func (.yield l) #[] #[], .pointer (some ((⟨Bn, 0, none⟩ : Addr).add 0)), .pointer (some ((⟨Bf, 0, none⟩ : Addr).add 0))]) (w0 := b0) (hp := hp0) 41 Tryz.func122 rfl Tryz.ntmps122 rfl ?_ w how
  refine q2J ?_
  refine q0k ?_
  refine q6E rfl (q9y (vs := [.slice A2 (s1.Stations).length c3, .slice A5 (s1.Sections).length c6, .slice A8 (s1.Links).length c9, .slice A11 (s1.Signals).length c12, .slice A14 (s1.Gates).length c15]) 5 rfl G9 rfl (fun j u hu => by rw [Nat.zero_add]; exact hn j u hu)) ?_
  refine q6E rfl (q9y (vs := [.int .i64 (s17.section_), .int .i64 (s17.end_)]) 2 rfl agg77 rfl (fun j u hu => by rw [Nat.zero_add]; exact hf j u hu)) ?_
  obtain ⟨⟨x, y, q⟩, hcl4, hm⟩ := q8S hm
  have hm := (q4U hm)
  refine q6F _ rfl z8m rfl (cj _ _ s1 s17 A2 c3 A5 c6 A8 c9 A11 c12 A14 c15 h4 h7 h10 h13 h16 x y q hcl4) ?_
  rintro _ b5 _ hle6 ⟨rfl, rfl⟩
  refine q6E rfl (q3h rfl) ?_
  refine q6E rfl (z5 rfl rfl) ?_
  refine q6E rfl (z5 rfl rfl) ?_
  refine z1j rfl (q7Q [.int .i64 0, .int .i64 0] zero77 rfl) ?_
  rintro _ _ ⟨g7, rfl, rfl⟩
  refine z1j rfl (q4V (vs := [_, _]) 0 2 rfl rfl rfl siz77 rfl (by intro u hu; simp only [List.mem_cons, List.not_mem_nil, or_false] at hu; rcases hu with rfl | rfl <;> rfl) rfl (by simp)) ?_
  rintro _ _ rfl
  refine q6E rfl (q1z rfl) ?_
  refine q6u ?_
  refine j5 ?_
  refine z8w 0 rfl ?_
  intro b7 hle8 hz
  have hq := j2r hz
  refine q2J ?_
  refine q2J ?_
  refine q0k ?_
  refine q6E rfl (q3h rfl) ?_
  refine q6E rfl (q5E rfl) ?_
  refine q6u ?_
  refine j5 ?_
  refine z5N _ rfl (fun hc => ?_) (fun hc => ?_)
  · have hqf : q = false := by simpa using hc
    subst hqf
    obtain rfl := z2S hm
    refine q3X ?_
    refine J3 ?_
    intro a w' hft ho'
    exact z4q hft ⟨_, results_none rfl _ _ _, ⟨_, rfl⟩, b0, hp0, Base.Le.refl _, (hle6.trans hle8).back _ _ ho', .inl h0⟩
  have hqt : q = true := by simpa using hc
  subst hqt
  obtain ⟨p, hp, hm⟩ := q8S (by simpa using hm)
  obtain ⟨o, hom, hm⟩ := q8S hm
  obtain rfl := z2S hm
  refine q3q ?_
  refine j5 ?_
  refine q2J ?_
  have h7' := h7.le (hle6.trans hle8)
  have hn' := z8F hn (hle6.trans hle8)
  refine z4T (hp0) Q5 ?_
  refine j2t (Base.Le.refl _) (.refl _) ?_
  refine z6J 0 rfl (q3I rfl P7) ?_
  refine j0n 1 rfl (q4I rfl q4K (hn' 1 _ rfl)) ?_
  refine z6J 2 rfl (q3I (p := ⟨g7, 0, none⟩) (k := 0) rfl fld77_0) ?_
  refine j0n 3 rfl (q4I rfl j4 (hq 0 _ rfl)) ?_
  obtain ⟨j20, hj21, hx22⟩ := q5c hp
  obtain ⟨cs23, hr24, hcs25, hA26, hlt27⟩ := FZ.get (sz := 7) rfl (by decide) h7' hx22
  obtain ⟨_, _, rfl, rfl, ⟨_, _, rfl, rfl, ⟨_, _, rfl, rfl, ⟨_, _, rfl, rfl, ⟨_, _, rfl, rfl, ⟨_, _, rfl, rfl, rfl⟩⟩⟩⟩⟩⟩ := hr24
  refine z6J 4 rfl (q0O j20 rfl rfl hj21 hlt27 hA26 z0y) ?_
  refine z6J 5 rfl (q1V rfl hA26 fld58_0) ?_
  refine j0n 6 rfl (q1O rfl j4 (hcs25 0 _ rfl)) ?_
  refine z6J 7 rfl (q3I (p := ⟨g7, 0, none⟩) (k := 0) rfl fld77_1) ?_
  refine j0n 8 rfl (q4I rfl j4 (hq 1 _ rfl)) ?_
  refine z6J 11 rfl (q3h rfl) ?_
  refine z4S ?_
  refine z8O [9] (by kernel_rfl) rfl ?_
  refine q9m (Base.Le.refl _) rfl rfl _ z8n rfl (co _ _ p.Kind y o hom) ?_ ?_
  case refine_2 => exact z8L
  rintro _ b30 _ hle31 ⟨A32, c33, rfl, rfl, h34⟩
  refine ⟨.inr (.refl _), ?_⟩
  refine j2t hle31 (.refl _) ?_
  refine z6J 10 rfl (z1m rfl sl48) ?_
  refine z4S ?_
  refine z1G (by kernel_rfl) ?_
  refine j5 ?_
  refine q6P ?_
  have hle : b0.Le b30 := (hle6.trans hle8).trans hle31
  have hb : o.length ≤ 9223372036854775807 := h34.bd
  refine z8x (τ := Empty) (Inv := fun k _ b e' hp' => (∃ b1, Rd k b1 hp' ∧ b0.Le b1 ∧ b1.Le b) ∧ b30.Le b ∧ [(0, .func (.yield l) #[] #[]), (4, .pointer (some ((⟨g7, 0, none⟩ : Addr).add 0))), (25, .slice A32 (o).length c33), (26, .int .i64 ((o.length : Int))), (27, .int .i64 (k : Int))] = e') (z7P (N := 0) 0 o.length)
    (e' := [(0, .func (.yield l) #[] #[]), (4, .pointer (some ((⟨g7, 0, none⟩ : Addr).add 0))), (25, .slice A32 (o).length c33), (26, .int .i64 ((o.length : Int))), (27, .int .i64 ((0 : Nat) : Int))]) (hp' := hp0) ⟨rfl, rfl, rfl, rfl, rfl, trivial⟩ (.refl _) ⟨⟨b0, h0, Base.Le.refl _, hle⟩, Base.Le.refl _, rfl⟩ ?_ ?_
  ·
    rintro k _ bk _ hpk oo hk ⟨⟨b1, hr, hb1, hb2⟩, hb3, rfl⟩ hoo _
    obtain rfl := (Option.some.inj hoo)
    refine q2J ?_
    refine q0k ?_
    refine q6E rfl (q6j rfl rfl (by omega)) ?_
    refine q6u ?_
    refine j5 ?_
    refine q2J ?_
    refine j1 rfl ?_
    refine q3q ?_
    refine j5 ?_
    refine q2J ?_
    refine q6P ?_
    refine q2J ?_
    refine q0k ?_
    have hx12 : o[k]? = some o[k] := List.getElem?_eq_getElem hk
    obtain ⟨cs13, hr14, hcs15, hA16, hlt17⟩ := FZ.get (sz := 1) rfl (by decide) (h34.le hb3) hx12
    obtain rfl := hr14
    refine q6E rfl (q0O k rfl rfl rfl hlt17 hA16 sl48) ?_
    refine q6E rfl (q1O rfl j4 (hcs15 0 _ rfl)) ?_
    refine q6E rfl (q1z rfl) ?_
    refine q6u ?_
    refine j5 ?_
    refine q2J ?_
    refine q0k ?_
    have hq := z8F hq (hle31.trans hb3)
    refine q6E rfl (q3h rfl) ?_
    refine q6E rfl (q3I (p := ⟨g7, 0, none⟩) (k := 0) rfl fld77_0) ?_
    refine q6E rfl (q4I rfl j4 (hq 0 _ rfl)) ?_
    refine q6E rfl (q3I (p := ⟨g7, 0, none⟩) (k := 0) rfl fld77_1) ?_
    refine q6E rfl (q4I rfl j4 (hq 1 _ rfl)) ?_
    refine q6E rfl (q3h rfl) ?_
    refine q6E rfl (q9b (v := .agg #[.int .i64 (x), .int .i64 (y), .int .i64 (o[k])]) [(0, .int .i64 (x)), (1, .int .i64 (y)), (2, .int .i64 (o[k]))] rfl (fun _ => by kernel_rfl)) ?_
    refine j1l (K := fun q b3 hp3 => (q = true ∧ Rd (k + 1) b3 hp3) ∨ (q = false ∧ Rx b3 hp3)) rfl rfl rfl (fun W hW => ?_) ?_
    · obtain ⟨fn, tmps, assign, body, g1, g2⟩ := hY k (j1n ⟨x, y, o[k]⟩) b1 hpk (by simp [hk]) hb1 hr bk hb2 W hW
      refine ⟨fn, tmps, assign, body, g1, g2.mono ?_⟩
      rintro e w' ⟨b3, hp3, k1, k2, ⟨rfl, k3⟩ | ⟨rfl, k3⟩⟩
      · exact ⟨true, b3, hp3, rfl, k1, k2, .inl ⟨rfl, k3⟩⟩
      · exact ⟨false, b3, hp3, rfl, k1, k2, .inr ⟨rfl, k3⟩⟩
    · rintro q b3 hp3 hbb (⟨rfl, hr3⟩ | ⟨rfl, hx3⟩)
      · refine q6E rfl (q5E rfl) ?_
        refine q6u ?_
        refine j5 ?_
        refine j0 rfl ?_
        refine q3q ?_
        refine q0w ?_
        refine j5 ?_
        refine q0k ?_
        refine q6E rfl (z1n rfl rfl (by omega)) ?_
        refine q6E rfl (q3h rfl) ?_
        refine q6u ?_
        exact z4X () rfl (e' := [(0, .func (.yield l) #[] #[]), (4, .pointer (some ((⟨g7, 0, none⟩ : Addr).add 0))), (25, .slice A32 (o).length c33), (26, .int .i64 ((o.length : Int))), (27, .int .i64 ((k : Int) + 1))]) (hp' := hp3) ⟨rfl, rfl, rfl, rfl, rfl, trivial⟩ (.refl _) ⟨⟨b3, hr3, (hb1.trans hb2).trans hbb, Base.Le.refl _⟩, hb3.trans hbb, rfl⟩
      · refine q6E rfl (q5E rfl) ?_
        refine q6u ?_
        refine j5 ?_
        refine j1 rfl ?_
        refine q3X ?_
        refine q1N ?_
        refine J3 ?_
        refine J3 ?_
        refine q1N ?_
        intro a w' hft ho'
        exact z4q hft ⟨_, results_none rfl _ _ _, ⟨_, rfl⟩, b3, hp3, (hb1.trans hb2).trans hbb, ho', .inr hx3⟩
  ·
    rintro _ bk _ hpk ⟨⟨b1, hr, hb1, hb2⟩, hb3, rfl⟩ _
    refine q2J ?_
    refine q0k ?_
    refine q6E rfl (q6k rfl rfl (by omega)) ?_
    refine q6u ?_
    refine j5 ?_
    refine q2J ?_
    refine j0 rfl ?_
    refine z1A ?_
    refine q1M ?_
    refine q1M ?_
    refine q2A ?_
    intro a w' hft ho'
    exact z4q hft ⟨_, results_none rfl _ _ _, ⟨_, rfl⟩, b1, hpk, hb1, hb2.back _ _ ho', .inl (by simpa using hr)⟩
set_option maxRecDepth 20000 in
theorem j1c (cj : z8M) (co : j4A) {b : Base} {R : Hp} {s1 : ApiNet} {s17 : LineEnd} {A2 : Option Addr} {c3 : Nat} {A5 : Option Addr} {c6 : Nat} {A8 : Option Addr} {c9 : Nat} {A11 : Option Addr} {c12 : Nat} {A14 : Option Addr} {c15 : Nat} (h4 : FZ RT.str b.w A2 c3 s1.Stations) (h7 : FZ rApiSection b.w A5 c6 s1.Sections) (h10 : FZ rApiLink b.w A8 c9 s1.Links) (h13 : FZ rApiSignal b.w A11 c12 s1.Signals) (h16 : FZ rApiGate b.w A14 c15 s1.Gates) {xs : List ApiStep} (hm : q0t s1 s17 = some xs) :
 CallsG Tryz.prog 100 [.agg #[.slice A2 (s1.Stations).length c3, .slice A5 (s1.Sections).length c6, .slice A8 (s1.Links).length c9, .slice A11 (s1.Signals).length c12, .slice A14 (s1.Gates).length c15], .agg #[.int .i64 (s17.section_), .int .i64 (s17.end_)]] b (R) (fun v b' hp' => ∃ (v10 : Value), v10 = v ∧ R = hp' ∧ IterV Tryz.prog b' v10 (xs.map j1n)) := by
  refine q3Q 6 Tryz.func100 rfl Tryz.ntmps100 rfl ?_
  refine q2J ?_
  refine q0k ?_
  refine z1j rfl (z2Q _ rfl rfl) ?_
  rintro _ _ ⟨g1, rfl, rfl⟩
  refine z1j rfl (z2Q _ rfl rfl) ?_
  rintro _ _ ⟨g2, rfl, rfl⟩
  refine q6E rfl (q1z rfl) ?_
  refine q6u ?_
  refine j5 ?_
  refine z8w 0 rfl ?_
  intro b1 hle1 hz1
  have hf := j2r hz1
  refine z8w 0 rfl ?_
  intro b2 hle2 hz2
  have hn := j2r hz2
  have hf := z8F hf hle2
  refine q2J ?_
  refine q0k ?_
  refine q6E rfl (q4A _ _ rfl rfl) ?_
  refine q6E rfl (q1z rfl) ?_
  refine q6u ?_
  refine j5 ?_
  refine q3X ?_
  have hle := hle1.trans hle2
  exact j5C (rs := [.tmp 4]) [.func (.func 122) #[] #[.pointer (some ⟨g1, 0, none⟩), .pointer (some ⟨g2, 0, none⟩)]] hle (by decide) rfl ⟨rfl, trivial⟩ rfl (hp' := R) (.refl _) ⟨_, rfl, rfl, _, _, rfl, by kernel_rfl, z5T cj co (b := b2.over b) (h4.le hle.over) (h7.le hle.over) (h10.le hle.over) (h13.le hle.over) (h16.le hle.over) hn hf hm⟩
end Go.Proofs.YtdbehipjelcmbaaGreatDoor
namespace Go.Fp
open Go.RowKit
section
variable {P : Program} {n : NT} {b : Base} {Q : Exit → Act → World → Prop} {e : Env}
theorem j3x {c : Code} {a0 : Nat × Obj} (h1 h2 : Hp) {R : Hp} (h : SLc P n b Q c e ([a0] ++ (h2 ++ (h1 ++ R)))) : SLc P n b Q c e ([a0] ++ (h1 ++ (h2 ++ R))) := z5M _ h1 h2 R rfl h
theorem j3w {c : Code} {a0 a1 a2 : Nat × Obj} (h1 h2 : Hp) {R : Hp} (h : SLc P n b Q c e ([a0, a1, a2] ++ (h2 ++ (h1 ++ R)))) : SLc P n b Q c e ([a0, a1, a2] ++ (h1 ++ (h2 ++ R))) := z5M _ h1 h2 R rfl h
theorem j1U {c : Code} {a0 : Nat × Obj} (h1 h2 h3 : Hp) {R : Hp} (h : SLc P n b Q c e ([a0] ++ (h3 ++ (h1 ++ (h2 ++ R))))) : SLc P n b Q c e ([a0] ++ (h1 ++ (h2 ++ (h3 ++ R)))) := q7v _ h1 h2 h3 R rfl h
theorem q5T {c : Code} {a0 a1 : Nat × Obj} (h1 h2 h3 : Hp) {R : Hp} (h : SLc P n b Q c e ([a0, a1] ++ (h3 ++ (h1 ++ (h2 ++ R))))) : SLc P n b Q c e ([a0, a1] ++ (h1 ++ (h2 ++ (h3 ++ R)))) := q7v _ h1 h2 h3 R rfl h
theorem z2y {c : Code} {a0 a1 a2 : Nat × Obj} (h1 h2 h3 : Hp) {R : Hp} (h : SLc P n b Q c e ([a0, a1, a2] ++ (h3 ++ (h1 ++ (h2 ++ R))))) : SLc P n b Q c e ([a0, a1, a2] ++ (h1 ++ (h2 ++ (h3 ++ R)))) := q7v _ h1 h2 h3 R rfl h
theorem j1T {c : Code} {a0 a1 a2 a3 : Nat × Obj} (h1 h2 h3 : Hp) {R : Hp} (h : SLc P n b Q c e ([a0, a1, a2, a3] ++ (h3 ++ (h1 ++ (h2 ++ R))))) : SLc P n b Q c e ([a0, a1, a2, a3] ++ (h1 ++ (h2 ++ (h3 ++ R)))) := q7v _ h1 h2 h3 R rfl h
theorem z6A {c : Code} {a0 a1 a2 a3 a4 : Nat × Obj} (h1 h2 h3 : Hp) {R : Hp} (h : SLc P n b Q c e ([a0, a1, a2, a3, a4] ++ (h3 ++ (h1 ++ (h2 ++ R))))) : SLc P n b Q c e ([a0, a1, a2, a3, a4] ++ (h1 ++ (h2 ++ (h3 ++ R)))) := q7v _ h1 h2 h3 R rfl h
theorem H6 {c : Code} {a0 : Nat × Obj} (h1 h2 h3 h4 : Hp) {R : Hp} (h : SLc P n b Q c e ([a0] ++ (h4 ++ (h1 ++ (h2 ++ (h3 ++ R)))))) : SLc P n b Q c e ([a0] ++ (h1 ++ (h2 ++ (h3 ++ (h4 ++ R))))) := z2A _ h1 h2 h3 h4 R rfl h
theorem z3v {c : Code} {a0 a1 : Nat × Obj} (h1 h2 h3 h4 : Hp) {R : Hp} (h : SLc P n b Q c e ([a0, a1] ++ (h4 ++ (h1 ++ (h2 ++ (h3 ++ R)))))) : SLc P n b Q c e ([a0, a1] ++ (h1 ++ (h2 ++ (h3 ++ (h4 ++ R))))) := z2A _ h1 h2 h3 h4 R rfl h
theorem z3u {c : Code} {a0 a1 a2 : Nat × Obj} (h1 h2 h3 h4 : Hp) {R : Hp} (h : SLc P n b Q c e ([a0, a1, a2] ++ (h4 ++ (h1 ++ (h2 ++ (h3 ++ R)))))) : SLc P n b Q c e ([a0, a1, a2] ++ (h1 ++ (h2 ++ (h3 ++ (h4 ++ R))))) := z2A _ h1 h2 h3 h4 R rfl h
theorem K0 {c : Code} {a0 : Nat × Obj} (h1 h2 h3 h4 h5 : Hp) {R : Hp} (h : SLc P n b Q c e ([a0] ++ (h5 ++ (h1 ++ (h2 ++ (h3 ++ (h4 ++ R))))))) : SLc P n b Q c e ([a0] ++ (h1 ++ (h2 ++ (h3 ++ (h4 ++ (h5 ++ R)))))) := z5L _ h1 h2 h3 h4 h5 R rfl h
theorem q0v {c : Code} {a0 a1 : Nat × Obj} (h1 h2 h3 h4 h5 : Hp) {R : Hp} (h : SLc P n b Q c e ([a0, a1] ++ (h5 ++ (h1 ++ (h2 ++ (h3 ++ (h4 ++ R))))))) : SLc P n b Q c e ([a0, a1] ++ (h1 ++ (h2 ++ (h3 ++ (h4 ++ (h5 ++ R)))))) := z5L _ h1 h2 h3 h4 h5 R rfl h
theorem z8e {c : Code} {a0 : Nat × Obj} (h1 h2 h3 h4 h5 h6 : Hp) {R : Hp} (h : SLc P n b Q c e ([a0] ++ (h6 ++ (h1 ++ (h2 ++ (h3 ++ (h4 ++ (h5 ++ R)))))))) : SLc P n b Q c e ([a0] ++ (h1 ++ (h2 ++ (h3 ++ (h4 ++ (h5 ++ (h6 ++ R))))))) := z5K _ h1 h2 h3 h4 h5 h6 R rfl h
theorem z4H {c : Code} {a0 a1 : Nat × Obj} (h1 h2 h3 h4 h5 h6 : Hp) {R : Hp} (h : SLc P n b Q c e ([a0, a1] ++ (h6 ++ (h1 ++ (h2 ++ (h3 ++ (h4 ++ (h5 ++ R)))))))) : SLc P n b Q c e ([a0, a1] ++ (h1 ++ (h2 ++ (h3 ++ (h4 ++ (h5 ++ (h6 ++ R))))))) := z5K _ h1 h2 h3 h4 h5 h6 R rfl h
theorem j3v {c : Code} {a0 a1 : Nat × Obj} (h1 h2 h3 h4 h5 h6 h7 : Hp) {R : Hp} (h : SLc P n b Q c e ([a0, a1] ++ (h7 ++ (h1 ++ (h2 ++ (h3 ++ (h4 ++ (h5 ++ (h6 ++ R))))))))) : SLc P n b Q c e ([a0, a1] ++ (h1 ++ (h2 ++ (h3 ++ (h4 ++ (h5 ++ (h6 ++ (h7 ++ R)))))))) := j0h _ h1 h2 h3 h4 h5 h6 h7 R rfl h
theorem j5s {w0 : Base} {ops : Array Oper} {S : Hp} {fuel : Nat} {listed : Array Bool} {a0 a1 a2 : Nat × Obj} (h1 h2 : Hp) {R : Hp} (h : SLA P n w0 b ops S Q fuel listed e ([a0, a1, a2] ++ (h2 ++ (h1 ++ R)))) : SLA P n w0 b ops S Q fuel listed e ([a0, a1, a2] ++ (h1 ++ (h2 ++ R))) := z5z _ h1 h2 R rfl h
theorem j5r {w0 : Base} {ops : Array Oper} {S : Hp} {fuel : Nat} {listed : Array Bool} {a0 a1 : Nat × Obj} (h1 h2 h3 : Hp) {R : Hp} (h : SLA P n w0 b ops S Q fuel listed e ([a0, a1] ++ (h3 ++ (h1 ++ (h2 ++ R))))) : SLA P n w0 b ops S Q fuel listed e ([a0, a1] ++ (h1 ++ (h2 ++ (h3 ++ R)))) := q7r _ h1 h2 h3 R rfl h
theorem j0a {w0 : Base} {ops : Array Oper} {S : Hp} {fuel : Nat} {listed : Array Bool} {a0 a1 a2 : Nat × Obj} (h1 h2 h3 : Hp) {R : Hp} (h : SLA P n w0 b ops S Q fuel listed e ([a0, a1, a2] ++ (h3 ++ (h1 ++ (h2 ++ R))))) : SLA P n w0 b ops S Q fuel listed e ([a0, a1, a2] ++ (h1 ++ (h2 ++ (h3 ++ R)))) := q7r _ h1 h2 h3 R rfl h
theorem z6v {w0 : Base} {ops : Array Oper} {S : Hp} {fuel : Nat} {listed : Array Bool} {a0 a1 a2 a3 : Nat × Obj} (h1 h2 h3 : Hp) {R : Hp} (h : SLA P n w0 b ops S Q fuel listed e ([a0, a1, a2, a3] ++ (h3 ++ (h1 ++ (h2 ++ R))))) : SLA P n w0 b ops S Q fuel listed e ([a0, a1, a2, a3] ++ (h1 ++ (h2 ++ (h3 ++ R)))) := q7r _ h1 h2 h3 R rfl h
theorem q9T {w0 : Base} {ops : Array Oper} {S : Hp} {fuel : Nat} {listed : Array Bool} {a0 a1 a2 : Nat × Obj} (h1 h2 h3 h4 : Hp) {R : Hp} (h : SLA P n w0 b ops S Q fuel listed e ([a0, a1, a2] ++ (h4 ++ (h1 ++ (h2 ++ (h3 ++ R)))))) : SLA P n w0 b ops S Q fuel listed e ([a0, a1, a2] ++ (h1 ++ (h2 ++ (h3 ++ (h4 ++ R))))) := z2w _ h1 h2 h3 h4 R rfl h
theorem j1Q {w0 : Base} {ops : Array Oper} {S : Hp} {fuel : Nat} {listed : Array Bool} {a0 a1 : Nat × Obj} (h1 h2 h3 h4 h5 : Hp) {R : Hp} (h : SLA P n w0 b ops S Q fuel listed e ([a0, a1] ++ (h5 ++ (h1 ++ (h2 ++ (h3 ++ (h4 ++ R))))))) : SLA P n w0 b ops S Q fuel listed e ([a0, a1] ++ (h1 ++ (h2 ++ (h3 ++ (h4 ++ (h5 ++ R)))))) := j0c _ h1 h2 h3 h4 h5 R rfl h
theorem z0M {w0 : Base} {ops : Array Oper} {S : Hp} {fuel : Nat} {listed : Array Bool} {a0 a1 : Nat × Obj} (h1 h2 h3 h4 h5 h6 : Hp) {R : Hp} (h : SLA P n w0 b ops S Q fuel listed e ([a0, a1] ++ (h6 ++ (h1 ++ (h2 ++ (h3 ++ (h4 ++ (h5 ++ R)))))))) : SLA P n w0 b ops S Q fuel listed e ([a0, a1] ++ (h1 ++ (h2 ++ (h3 ++ (h4 ++ (h5 ++ (h6 ++ R))))))) := z5y _ h1 h2 h3 h4 h5 h6 R rfl h
theorem j3r {w0 : Base} {ops : Array Oper} {S : Hp} {fuel : Nat} {listed : Array Bool} {a0 a1 a2 : Nat × Obj} (h1 h2 h3 h4 h5 h6 : Hp) {R : Hp} (h : SLA P n w0 b ops S Q fuel listed e ([a0, a1, a2] ++ (h6 ++ (h1 ++ (h2 ++ (h3 ++ (h4 ++ (h5 ++ R)))))))) : SLA P n w0 b ops S Q fuel listed e ([a0, a1, a2] ++ (h1 ++ (h2 ++ (h3 ++ (h4 ++ (h5 ++ (h6 ++ R))))))) := z5y _ h1 h2 h3 h4 h5 h6 R rfl h
theorem z7Z {w0 : Base} {ops : Array Oper} {S : Hp} {fuel : Nat} {listed : Array Bool} {a0 a1 : Nat × Obj} (h1 h2 h3 h4 h5 h6 h7 : Hp) {R : Hp} (h : SLA P n w0 b ops S Q fuel listed e ([a0, a1] ++ (h7 ++ (h1 ++ (h2 ++ (h3 ++ (h4 ++ (h5 ++ (h6 ++ R))))))))) : SLA P n w0 b ops S Q fuel listed e ([a0, a1] ++ (h1 ++ (h2 ++ (h3 ++ (h4 ++ (h5 ++ (h6 ++ (h7 ++ R)))))))) := j0b _ h1 h2 h3 h4 h5 h6 h7 R rfl h
theorem j1k {ops : Array Oper} {l : List Oper} {a0 : Nat × Obj} (h1 h2 : Hp) {R : Hp} (h : SLo P n b ops Q l e ([a0] ++ (h2 ++ (h1 ++ R)))) : SLo P n b ops Q l e ([a0] ++ (h1 ++ (h2 ++ R))) := z1P _ h1 h2 R rfl h
theorem z0B {ops : Array Oper} {l : List Oper} {a0 a1 : Nat × Obj} (h1 h2 : Hp) {R : Hp} (h : SLo P n b ops Q l e ([a0, a1] ++ (h2 ++ (h1 ++ R)))) : SLo P n b ops Q l e ([a0, a1] ++ (h1 ++ (h2 ++ R))) := z1P _ h1 h2 R rfl h
theorem j2G {ops : Array Oper} {l : List Oper} {a0 a1 a2 : Nat × Obj} (h1 h2 : Hp) {R : Hp} (h : SLo P n b ops Q l e ([a0, a1, a2] ++ (h2 ++ (h1 ++ R)))) : SLo P n b ops Q l e ([a0, a1, a2] ++ (h1 ++ (h2 ++ R))) := z1P _ h1 h2 R rfl h
theorem z6S {ops : Array Oper} {l : List Oper} {a0 : Nat × Obj} (h1 h2 h3 : Hp) {R : Hp} (h : SLo P n b ops Q l e ([a0] ++ (h3 ++ (h1 ++ (h2 ++ R))))) : SLo P n b ops Q l e ([a0] ++ (h1 ++ (h2 ++ (h3 ++ R)))) := q8W _ h1 h2 h3 R rfl h
theorem z1N {ops : Array Oper} {l : List Oper} {a0 a1 : Nat × Obj} (h1 h2 h3 : Hp) {R : Hp} (h : SLo P n b ops Q l e ([a0, a1] ++ (h3 ++ (h1 ++ (h2 ++ R))))) : SLo P n b ops Q l e ([a0, a1] ++ (h1 ++ (h2 ++ (h3 ++ R)))) := q8W _ h1 h2 h3 R rfl h
theorem j1j {ops : Array Oper} {l : List Oper} {a0 a1 a2 : Nat × Obj} (h1 h2 h3 : Hp) {R : Hp} (h : SLo P n b ops Q l e ([a0, a1, a2] ++ (h3 ++ (h1 ++ (h2 ++ R))))) : SLo P n b ops Q l e ([a0, a1, a2] ++ (h1 ++ (h2 ++ (h3 ++ R)))) := q8W _ h1 h2 h3 R rfl h
theorem q6D {ops : Array Oper} {l : List Oper} {a0 a1 a2 a3 a4 : Nat × Obj} (h1 h2 h3 : Hp) {R : Hp} (h : SLo P n b ops Q l e ([a0, a1, a2, a3, a4] ++ (h3 ++ (h1 ++ (h2 ++ R))))) : SLo P n b ops Q l e ([a0, a1, a2, a3, a4] ++ (h1 ++ (h2 ++ (h3 ++ R)))) := q8W _ h1 h2 h3 R rfl h
theorem v5 {ops : Array Oper} {l : List Oper} {a0 : Nat × Obj} (h1 h2 h3 h4 : Hp) {R : Hp} (h : SLo P n b ops Q l e ([a0] ++ (h4 ++ (h1 ++ (h2 ++ (h3 ++ R)))))) : SLo P n b ops Q l e ([a0] ++ (h1 ++ (h2 ++ (h3 ++ (h4 ++ R))))) := q8V _ h1 h2 h3 h4 R rfl h
theorem Q4 {ops : Array Oper} {l : List Oper} {a0 a1 : Nat × Obj} (h1 h2 h3 h4 : Hp) {R : Hp} (h : SLo P n b ops Q l e ([a0, a1] ++ (h4 ++ (h1 ++ (h2 ++ (h3 ++ R)))))) : SLo P n b ops Q l e ([a0, a1] ++ (h1 ++ (h2 ++ (h3 ++ (h4 ++ R))))) := q8V _ h1 h2 h3 h4 R rfl h
theorem q8D {ops : Array Oper} {l : List Oper} {a0 a1 a2 : Nat × Obj} (h1 h2 h3 h4 : Hp) {R : Hp} (h : SLo P n b ops Q l e ([a0, a1, a2] ++ (h4 ++ (h1 ++ (h2 ++ (h3 ++ R)))))) : SLo P n b ops Q l e ([a0, a1, a2] ++ (h1 ++ (h2 ++ (h3 ++ (h4 ++ R))))) := q8V _ h1 h2 h3 h4 R rfl h
theorem z9e {ops : Array Oper} {l : List Oper} {a0 a1 a2 a3 : Nat × Obj} (h1 h2 h3 h4 : Hp) {R : Hp} (h : SLo P n b ops Q l e ([a0, a1, a2, a3] ++ (h4 ++ (h1 ++ (h2 ++ (h3 ++ R)))))) : SLo P n b ops Q l e ([a0, a1, a2, a3] ++ (h1 ++ (h2 ++ (h3 ++ (h4 ++ R))))) := q8V _ h1 h2 h3 h4 R rfl h
theorem q1Z {ops : Array Oper} {l : List Oper} {a0 : Nat × Obj} (h1 h2 h3 h4 h5 : Hp) {R : Hp} (h : SLo P n b ops Q l e ([a0] ++ (h5 ++ (h1 ++ (h2 ++ (h3 ++ (h4 ++ R))))))) : SLo P n b ops Q l e ([a0] ++ (h1 ++ (h2 ++ (h3 ++ (h4 ++ (h5 ++ R)))))) := q4W _ h1 h2 h3 h4 h5 R rfl h
theorem z9d {ops : Array Oper} {l : List Oper} {a0 a1 a2 : Nat × Obj} (h1 h2 h3 h4 h5 : Hp) {R : Hp} (h : SLo P n b ops Q l e ([a0, a1, a2] ++ (h5 ++ (h1 ++ (h2 ++ (h3 ++ (h4 ++ R))))))) : SLo P n b ops Q l e ([a0, a1, a2] ++ (h1 ++ (h2 ++ (h3 ++ (h4 ++ (h5 ++ R)))))) := q4W _ h1 h2 h3 h4 h5 R rfl h
theorem z1M {ops : Array Oper} {l : List Oper} {a0 : Nat × Obj} (h1 h2 h3 h4 h5 h6 : Hp) {R : Hp} (h : SLo P n b ops Q l e ([a0] ++ (h6 ++ (h1 ++ (h2 ++ (h3 ++ (h4 ++ (h5 ++ R)))))))) : SLo P n b ops Q l e ([a0] ++ (h1 ++ (h2 ++ (h3 ++ (h4 ++ (h5 ++ (h6 ++ R))))))) := z5b _ h1 h2 h3 h4 h5 h6 R rfl h
theorem q9u {ops : Array Oper} {l : List Oper} {a0 a1 : Nat × Obj} (h1 h2 h3 h4 h5 h6 : Hp) {R : Hp} (h : SLo P n b ops Q l e ([a0, a1] ++ (h6 ++ (h1 ++ (h2 ++ (h3 ++ (h4 ++ (h5 ++ R)))))))) : SLo P n b ops Q l e ([a0, a1] ++ (h1 ++ (h2 ++ (h3 ++ (h4 ++ (h5 ++ (h6 ++ R))))))) := z5b _ h1 h2 h3 h4 h5 h6 R rfl h
theorem z9c {ops : Array Oper} {l : List Oper} {a0 a1 : Nat × Obj} (h1 h2 h3 h4 h5 h6 h7 : Hp) {R : Hp} (h : SLo P n b ops Q l e ([a0, a1] ++ (h7 ++ (h1 ++ (h2 ++ (h3 ++ (h4 ++ (h5 ++ (h6 ++ R))))))))) : SLo P n b ops Q l e ([a0, a1] ++ (h1 ++ (h2 ++ (h3 ++ (h4 ++ (h5 ++ (h6 ++ (h7 ++ R)))))))) := z9g _ h1 h2 h3 h4 h5 h6 h7 R rfl h
theorem j4O {ex : Exit} {a0 : Nat × Obj} (h1 h2 : Hp) {R : Hp} (h : SLx n b Q ex e ([a0] ++ (h2 ++ (h1 ++ R)))) : SLx n b Q ex e ([a0] ++ (h1 ++ (h2 ++ R))) := q8U _ h1 h2 R rfl h
theorem j2z {ex : Exit} {a0 a1 : Nat × Obj} (h1 h2 : Hp) {R : Hp} (h : SLx n b Q ex e ([a0, a1] ++ (h2 ++ (h1 ++ R)))) : SLx n b Q ex e ([a0, a1] ++ (h1 ++ (h2 ++ R))) := q8U _ h1 h2 R rfl h
theorem Z7 {ex : Exit} {a0 a1 : Nat × Obj} (h1 h2 h3 : Hp) {R : Hp} (h : SLx n b Q ex e ([a0, a1] ++ (h3 ++ (h1 ++ (h2 ++ R))))) : SLx n b Q ex e ([a0, a1] ++ (h1 ++ (h2 ++ (h3 ++ R)))) := q6U _ h1 h2 h3 R rfl h
theorem V8 {ex : Exit} {a0 a1 a2 : Nat × Obj} (h1 h2 h3 : Hp) {R : Hp} (h : SLx n b Q ex e ([a0, a1, a2] ++ (h3 ++ (h1 ++ (h2 ++ R))))) : SLx n b Q ex e ([a0, a1, a2] ++ (h1 ++ (h2 ++ (h3 ++ R)))) := q6U _ h1 h2 h3 R rfl h
theorem q5y {ex : Exit} {a0 : Nat × Obj} (h1 h2 h3 h4 : Hp) {R : Hp} (h : SLx n b Q ex e ([a0] ++ (h4 ++ (h1 ++ (h2 ++ (h3 ++ R)))))) : SLx n b Q ex e ([a0] ++ (h1 ++ (h2 ++ (h3 ++ (h4 ++ R))))) := q6T _ h1 h2 h3 h4 R rfl h
theorem q7N {ex : Exit} {a0 a1 : Nat × Obj} (h1 h2 h3 h4 : Hp) {R : Hp} (h : SLx n b Q ex e ([a0, a1] ++ (h4 ++ (h1 ++ (h2 ++ (h3 ++ R)))))) : SLx n b Q ex e ([a0, a1] ++ (h1 ++ (h2 ++ (h3 ++ (h4 ++ R))))) := q6T _ h1 h2 h3 h4 R rfl h
theorem z8X {ex : Exit} {a0 : Nat × Obj} (h1 h2 h3 h4 h5 : Hp) {R : Hp} (h : SLx n b Q ex e ([a0] ++ (h5 ++ (h1 ++ (h2 ++ (h3 ++ (h4 ++ R))))))) : SLx n b Q ex e ([a0] ++ (h1 ++ (h2 ++ (h3 ++ (h4 ++ (h5 ++ R)))))) := q8T _ h1 h2 h3 h4 h5 R rfl h
theorem z8W {ex : Exit} {a0 a1 : Nat × Obj} (h1 h2 h3 h4 h5 : Hp) {R : Hp} (h : SLx n b Q ex e ([a0, a1] ++ (h5 ++ (h1 ++ (h2 ++ (h3 ++ (h4 ++ R))))))) : SLx n b Q ex e ([a0, a1] ++ (h1 ++ (h2 ++ (h3 ++ (h4 ++ (h5 ++ R)))))) := q8T _ h1 h2 h3 h4 h5 R rfl h
theorem j0Y {ex : Exit} {a0 : Nat × Obj} (h1 h2 h3 h4 h5 h6 : Hp) {R : Hp} (h : SLx n b Q ex e ([a0] ++ (h6 ++ (h1 ++ (h2 ++ (h3 ++ (h4 ++ (h5 ++ R)))))))) : SLx n b Q ex e ([a0] ++ (h1 ++ (h2 ++ (h3 ++ (h4 ++ (h5 ++ (h6 ++ R))))))) := z4W _ h1 h2 h3 h4 h5 h6 R rfl h
end
end Go.Fp
namespace Go.Fp
open Go.RowKit
abbrev pb (g : Nat) : Value := .pointer (some ⟨g, 0, none⟩)
abbrev iv (i : Int) : Value := .int .i64 i
abbrev bv (b : Bool) : Value := .bool b
abbrev sv {α : Type} (A : Option Addr) (l : List α) (c : Nat) : Value := .slice A l.length c
abbrev sn : Value := .slice none 0 0
abbrev rI : RT Int := RT.int .i64
abbrev OA : Type := Option Addr
theorem lr {b : Base} : b.Le b := Base.Le.refl b
section
variable {P : Program} {n : NT} {m : Nat} {dk0 : Nat × Obj → Prop} {rq : Option Nat} {b w0 : Base} {Q : Exit → Act → World → Prop} {e : Env} {hp : Hp}
theorem cS {σ : Type} {body : Nat → σ → Option σ} (Inv : Nat → σ → Base → Env → Hp → Prop) {c : Code} {s0 : σ} {N : Nat} {t : σ} (hl : q4M body N 0 s0 = some t) {e' : Env} {hp' : Hp} (h0 : Inv 0 s0 w0 e' hp') (hh : hp'.Sublist hp)
  (round : ∀ k s b e hp o, k < N → Inv k s b e hp → body k s = some o → SLc P n b (Exit.then (fun a w => q6v n (Inv (k + 1) o) a w) Q) c e hp)
  (done : ∀ b e hp, Inv N t b e hp → SLc P n b (Exit.then (fun _ _ => False) Q) c e hp) (he : Sub e' e := by repeat (first | exact trivial | refine ⟨rfl, ?_⟩)) : SLc P n w0 Q (.loop c) e hp := j0R Inv hl he hh h0 round done
theorem rM {b1 : Base} {fn : Func} {Φ : Value → Base → Hp → Prop} {rs : List ResultVar} {vs : List Value} (hv : All2 (j4M P (b1.over w0) e hp) rs vs) {hp' : Hp} (hΦ : Φ (z2b vs) (b1.over w0) hp') (hh : hp'.Sublist hp) (hle : w0.Le b1)
  (hn : rs.length ≤ 5 := by decide) (hr : fn.results = rs.toArray := by rfl) : SLx ⟨m, fun x => x ∈ w0.dk, none⟩ b1 (q8G P fn (z2M w0 Φ)) .ret e hp := j5C vs hle hn hr hv rfl hh hΦ
end
end Go.Fp
namespace Go.Fp
open Go.RowKit
section
variable {P : Program} {n : NT} {m : Nat} {dk0 : Hp} {rq : Option Nat} {b w0 : Base} {ops : Array Oper} {Q : Exit → Act → World → Prop} {e : Env} {hp : Hp} {op : Op} {ty : TypeId} {d : Option Tmp} {pos : String} {af : Array Edge} {rest : List Oper} {dk1 : Nat × Obj → Prop}
def noB (ops : Array Oper) (e : Env) (j : Nat) (t : Bool) (m : Nat) (d : Option Tmp) : Bool := match (ops[j]?).bind (·.dst) with
 | none => false
 | some dj => match look e dj with
  | none => false
  | some v => Nat.blt dj m && !isB v t && okD d m
theorem z5j {j : Nat} {t : Bool} (h : noB ops e j t m d = true) : ∃ dj v, (ops[j]?).bind (·.dst) = some dj ∧ look e dj = some v ∧ Nat.blt dj m = true ∧ isB v t = false ∧ okD d m = true := by
 unfold noB at h
 split at h
 ·cases h
 ·rename_i dj h1
  split at h
  ·cases h
  ·rename_i v h2
   simp only [Bool.and_eq_true, Bool.not_eq_true'] at h
   exact ⟨dj, v, h1, h2, h.1.1, h.1.2, h.2⟩
theorem nO {j : Nat} {t : Bool} (h : SLo P (NT.mk m dk1 rq) w0 ops Q rest (putE d undef e) hp) (hc : noB ops e j t m d = true := by kernel_rfl) : SLo P (NT.mk m dk1 rq) w0 ops Q (⟨d, op, ty, pos, af, some (j, t)⟩ :: rest) e hp :=
 let ⟨dj, _, h1, h2, h3, h4, h5⟩ := z5j hc
 j5Y dj h1 h2 h3 h4 h5 h
def ysB (ops : Array Oper) (e : Env) (j : Nat) (t : Bool) (m : Nat) : Bool := match (ops[j]?).bind (·.dst) with
 | none => false
 | some dj => match look e dj with
  | some (.bool v) => Nat.blt dj m && (v == t)
  | _ => false
theorem z8V {j : Nat} {t : Bool} (h : ysB ops e j t m = true) : ∃ dj, (ops[j]?).bind (·.dst) = some dj ∧ look e dj = some (.bool t) ∧ Nat.blt dj m = true := by
 unfold ysB at h
 split at h
 ·cases h
 ·rename_i dj h1
  split at h
  ·rename_i v h2
   simp only [Bool.and_eq_true, beq_iff_eq] at h
   exact ⟨dj, h1, h.2 ▸ h2, h.1⟩
  ·cases h
theorem yS {j : Nat} {t : Bool} (h : SLo P (NT.mk m dk1 rq) w0 ops Q (⟨d, op, ty, pos, af, none⟩ :: rest) e hp) (hc : ysB ops e j t m = true := by kernel_rfl) : SLo P (NT.mk m dk1 rq) w0 ops Q (⟨d, op, ty, pos, af, some (j, t)⟩ :: rest) e hp :=
 let ⟨dj, h1, h2, h3⟩ := z8V hc
 j4U dj h1 h2 h3 h
theorem mV {v : Value} {k : Nat} {x : Operand} (hx : val e x = some v) (h : SLo P (NT.mk m dk1 rq) w0 ops Q rest ((k, v) :: e) hp) (hd : Nat.blt k m = true := by kernel_rfl) : SLo P (NT.mk m dk1 rq) w0 ops Q (⟨some k, .move x, ty, pos, af, none⟩ :: rest) e hp := z3Z hd hx h
theorem aS {v : Value} {k : Nat} {x : Operand} (hx : val e x = some v) (h : SLo P (NT.mk m dk1 rq) w0 ops Q rest ((k, v) :: e) hp) (hd : Nat.blt k m = true := by kernel_rfl) : SLo P (NT.mk m dk1 rq) w0 ops Q (⟨some k, .assign x, ty, pos, af, none⟩ :: rest) e hp := z0x hd hx h
theorem tS {v : Value} {k : Nat} (hst : Stable P (NT.mk m dk1 rq) w0 op ty e hp v) (h : SLo P (NT.mk m dk1 rq) w0 ops Q rest ((k, v) :: e) hp) (hd : Nat.blt k m = true := by kernel_rfl) : SLo P (NT.mk m dk1 rq) w0 ops Q (⟨some k, op, ty, pos, af, none⟩ :: rest) e hp := q6E hd hst h
theorem tD {Ψ : Value → Hp → Prop} (hdo : Does P (NT.mk m dk1 rq) w0 op ty e hp Ψ) (h : ∀ v hp', Ψ v hp' → SLo P (NT.mk m dk1 rq) w0 ops Q rest (putE d v e) hp') (hd : okD d m = true := by kernel_rfl) :
  SLo P (NT.mk m dk1 rq) w0 ops Q (⟨d, op, ty, pos, af, none⟩ :: rest) e hp := z1j hd hdo h
theorem cI {τ : Type} {p : Prop} {i1 i2 : Decidable p} {A B t : Option τ} {c : Operand} {x y : Code} (hm : (@ite _ p i1 A B) = t) (hc : val e c = some (.bool (@decide p i2))) (ht : A = t → SLc P n w0 Q x e hp) (hf : B = t → SLc P n w0 Q y e hp) : SLc P n w0 Q (.cond c x y) e hp :=
 z5N _ hc (fun h => ht (by rw [if_pos (of_decide_eq_true h)] at hm; exact hm)) (fun h => hf (by rw [if_neg (of_decide_eq_false h)] at hm; exact hm))
theorem cB {τ : Type} {q : Bool} {i1 : Decidable (q = true)} {A B t : Option τ} {c : Operand} {x y : Code} (hm : (@ite _ (q = true) i1 A B) = t) (hc : val e c = some (.bool q)) (ht : A = t → SLc P n w0 Q x e hp) (hf : B = t → SLc P n w0 Q y e hp) : SLc P n w0 Q (.cond c x y) e hp :=
 z5N _ hc (fun h => ht (by rw [if_pos h] at hm; exact hm)) (fun h => hf (by rw [if_neg (by rw [h]; exact Bool.false_ne_true)] at hm; exact hm))
theorem cM {τ : Type} {q : Bool} {i1 : Decidable (q = true)} {A B t : Option τ} {c : Operand} {x y : Code} (hm : (@ite _ (q = true) i1 A B) = t) (hc : val e c = some (.bool (!q))) (ht : B = t → SLc P n w0 Q x e hp) (hf : A = t → SLc P n w0 Q y e hp) : SLc P n w0 Q (.cond c x y) e hp :=
 z5N _ hc (fun h => ht (by rw [if_neg (by rw [j5M h]; exact Bool.false_ne_true)] at hm; exact hm)) (fun h => hf (by rw [if_pos (j5N h)] at hm; exact hm))
theorem iR {A B : Prop} {S hp' : Hp} (h : B) (hs : S.Sublist hp' := by repeat (first | exact List.Sublist.refl _ | exact List.nil_sublist _ | apply List.Sublist.cons_cons | apply z1Q | apply List.Sublist.cons | apply q6i)) : (A ∨ S.Sublist hp') ∧ B := ⟨.inr hs, h⟩
def Lk (l m : Hp) : Prop := ∃ k, m.Perm k ∧ l.Sublist k
def Ex (q m r : Hp) : Prop := m.Perm (q ++ r)
def EC (x : Nat × Obj) (m r : Hp) : Prop := m.Perm (x :: r)
theorem Ex.here (q r : Hp) : Ex q (q ++ r) r := .refl _
theorem Ex.skip {q m r : Hp} (a : Hp) (h : Ex q m r) : Ex q (a ++ m) (a ++ r) := (List.Perm.append_left a h).trans (by
 rw [← List.append_assoc, ← List.append_assoc]
 exact List.Perm.append_right r List.perm_append_comm)
theorem Ex.skipC {q m r : Hp} (x : Nat × Obj) (h : Ex q m r) : Ex q (x :: m) (x :: r) := (List.Perm.cons x h).trans (List.perm_middle (l₁ := q)).symm
theorem EC.here (x : Nat × Obj) (r : Hp) : EC x (x :: r) r := .refl _
theorem EC.skip {x : Nat × Obj} {m r : Hp} (a : Hp) (h : EC x m r) : EC x (a ++ m) (a ++ r) := (List.Perm.append_left a h).trans (List.perm_middle (l₁ := a))
theorem EC.skipC {x : Nat × Obj} {m r : Hp} (y : Nat × Obj) (h : EC x m r) : EC x (y :: m) (y :: r) := (List.Perm.cons y h).trans (List.Perm.swap x y r)
theorem Lk.refl (l : Hp) : Lk l l := ⟨l, .refl _, .refl _⟩
theorem Lk.nil (l : Hp) : Lk [] l := ⟨l, .refl _, List.nil_sublist _⟩
theorem Lk.app {q l m r : Hp} (he : Ex q m r) (h : Lk l r) : Lk (q ++ l) m := let ⟨k, h1, h2⟩ := h; ⟨q ++ k, List.Perm.trans he (List.Perm.append_left q h1), List.Sublist.append_left h2 q⟩
theorem Lk.cons {x : Nat × Obj} {l m r : Hp} (he : EC x m r) (h : Lk l r) : Lk (x :: l) m := let ⟨k, h1, h2⟩ := h; ⟨x :: k, List.Perm.trans he (List.Perm.cons x h1), List.Sublist.cons_cons x h2⟩
theorem Lk.dropC {l m : Hp} (x : Nat × Obj) (h : Lk l m) : Lk l (x :: m) := let ⟨k, h1, h2⟩ := h; ⟨x :: k, List.Perm.cons x h1, List.Sublist.cons x h2⟩
theorem Lk.drop {l m : Hp} (a : Hp) (h : Lk l m) : Lk l (a ++ m) := let ⟨k, h1, h2⟩ := h; ⟨a ++ k, List.Perm.append_left a h1, h2.trans (List.sublist_append_right a k)⟩
theorem Own.lk {w : World} {l m : Hp} (h : Own b m w) (hl : Lk l m) : Own b l w := let ⟨_, h1, h2⟩ := hl; (h.perm h1.symm).sub h2
theorem rO {b1 : Base} {fn : Func} {Φ : Value → Base → Hp → Prop} {k : Nat} {v : Value} {hp' : Hp} (hΦ : Φ v (b1.over w0) hp') (hle : w0.Le b1)
  (hr : fn.results = #[.tmp k] := by rfl) (hv : look e k = some v := by rfl) (hh : Lk hp' hp := by repeat (first | exact Lk.refl _ | exact Lk.nil _ | (apply Lk.app; · repeat (first | exact Ex.here _ _ | apply Ex.skip | apply Ex.skipC)) | (apply Lk.cons; · repeat (first | exact EC.here _ _ | apply EC.skipC | apply EC.skip)) | apply Lk.dropC | apply Lk.drop)) :
  SLx ⟨m, fun x => x ∈ w0.dk, none⟩ b1 (q8G P fn (z2M w0 Φ)) .ret e hp := fun a w hf ho => rM (rs := [.tmp k]) (vs := [v]) ⟨hv, trivial⟩ hΦ (.refl _) hle (by simp) hr a w hf (ho.lk hh)
theorem rZ {b1 : Base} {fn : Func} {Φ : Value → Base → Hp → Prop} {hp' : Hp} (hΦ : Φ (.tuple #[]) (b1.over w0) hp') (hle : w0.Le b1)
  (hr : fn.results = #[] := by rfl) (hh : Lk hp' hp := by repeat (first | exact Lk.refl _ | exact Lk.nil _ | (apply Lk.app; · repeat (first | exact Ex.here _ _ | apply Ex.skip | apply Ex.skipC)) | (apply Lk.cons; · repeat (first | exact EC.here _ _ | apply EC.skipC | apply EC.skip)) | apply Lk.dropC | apply Lk.drop)) :
  SLx ⟨m, fun x => x ∈ w0.dk, none⟩ b1 (q8G P fn (z2M w0 Φ)) .ret e hp := fun a w hf ho => rM (rs := []) (vs := []) trivial hΦ (.refl _) hle (by simp) hr a w hf (ho.lk hh)
theorem eZ {b1 : Base} {fn : Func} {Φ : Value → Base → Hp → Prop} {hp' : Hp} (hΦ : Φ (.tuple #[]) (b1.over w0) hp') (hle : w0.Le b1)
  (hr : fn.results = #[] := by rfl) (hh : Lk hp' hp := by repeat (first | exact Lk.refl _ | exact Lk.nil _ | (apply Lk.app; · repeat (first | exact Ex.here _ _ | apply Ex.skip | apply Ex.skipC)) | (apply Lk.cons; · repeat (first | exact EC.here _ _ | apply EC.skipC | apply EC.skip)) | apply Lk.dropC | apply Lk.drop)) :
  SLx ⟨m, fun x => x ∈ w0.dk, none⟩ b1 (q8G P fn (z2M w0 Φ)) .normal e hp := fun a w hf ho => j6n hle hr (.refl _) hΦ a w hf (ho.lk hh)
theorem rT {b1 : Base} {fn : Func} {Φ : Value → Base → Hp → Prop} {k l : Nat} {v u : Value} {hp' : Hp} (hΦ : Φ (.tuple #[v, u]) (b1.over w0) hp') (hle : w0.Le b1)
  (hr : fn.results = #[.tmp k, .tmp l] := by rfl) (hv : look e k = some v := by rfl) (hu : look e l = some u := by rfl) (hh : Lk hp' hp := by repeat (first | exact Lk.refl _ | exact Lk.nil _ | (apply Lk.app; · repeat (first | exact Ex.here _ _ | apply Ex.skip | apply Ex.skipC)) | (apply Lk.cons; · repeat (first | exact EC.here _ _ | apply EC.skipC | apply EC.skip)) | apply Lk.dropC | apply Lk.drop)) :
  SLx ⟨m, fun x => x ∈ w0.dk, none⟩ b1 (q8G P fn (z2M w0 Φ)) .ret e hp := fun a w hf ho => rM (rs := [.tmp k, .tmp l]) (vs := [v, u]) ⟨hv, hu, trivial⟩ hΦ (.refl _) hle (by simp) hr a w hf (ho.lk hh)
theorem jJ {Inv : Base → Env → Hp → Prop} {e' : Env} {hp' : Hp} (hi : Inv b e' hp') (hh : Lk hp' hp := by repeat (first | exact Lk.refl _ | exact Lk.nil _ | (apply Lk.app; · repeat (first | exact Ex.here _ _ | apply Ex.skip | apply Ex.skipC)) | (apply Lk.cons; · repeat (first | exact EC.here _ _ | apply EC.skipC | apply EC.skip)) | apply Lk.dropC | apply Lk.drop)) (he : Sub e' e := by repeat (first | exact trivial | refine ⟨rfl, ?_⟩)) : SLx n b (Exit.then (q6v n Inv) Q) .normal e hp := fun a w hf ho => j2A he (.refl _) hi a w hf (ho.lk hh)
theorem jS {Inv : Base → Env → Hp → Prop} {e' : Env} {hp' : Hp} (hi : Inv b e' hp') (hh : Lk hp' hp := by repeat (first | exact Lk.refl _ | exact Lk.nil _ | (apply Lk.app; · repeat (first | exact Ex.here _ _ | apply Ex.skip | apply Ex.skipC)) | (apply Lk.cons; · repeat (first | exact EC.here _ _ | apply EC.skipC | apply EC.skip)) | apply Lk.dropC | apply Lk.drop)) (he : Sub e' e := by repeat (first | exact trivial | refine ⟨rfl, ?_⟩)) : SLx n b (Exit.then (fun a w => q6v n Inv a w) Q) .normal e hp := fun a w hf ho => z8Y he (.refl _) hi a w hf (ho.lk hh)
theorem jM {σ τ : Type} {o : σ ⊕ τ} {Inv : σ → Base → Env → Hp → Prop} {s' : σ} (hm : some (.inl s') = some o) {e' : Env} {hp' : Hp} (hi : Inv s' b e' hp') (hh : Lk hp' hp := by repeat (first | exact Lk.refl _ | exact Lk.nil _ | (apply Lk.app; · repeat (first | exact Ex.here _ _ | apply Ex.skip | apply Ex.skipC)) | (apply Lk.cons; · repeat (first | exact EC.here _ _ | apply EC.skipC | apply EC.skip)) | apply Lk.dropC | apply Lk.drop)) (he : Sub e' e := by repeat (first | exact trivial | refine ⟨rfl, ?_⟩)) : SLx n b (Exit.then (fun a w => ∃ s', o = .inl s' ∧ q6v n (Inv s') a w) Q) .normal e hp := fun a w hf ho => z4X s' (Option.some.inj hm).symm he (.refl _) hi a w hf (ho.lk hh)
theorem lL {σ τ : Type} {step : σ → Option (σ ⊕ τ)} (Inv : σ → Base → Env → Hp → Prop) {c : Code} {s0 : σ} {t : τ} (hl : q7i step s0 = some t) {e' : Env} {hp' : Hp} (h0 : Inv s0 w0 e' hp')
  (round : ∀ s b e hp o, Inv s b e hp → step s = some o → (∀ t', o = .inr t' → t' = t) → SLc P n b (Exit.then (fun a w => ∃ s', o = .inl s' ∧ q6v n (Inv s') a w) Q) c e hp) (hh : Lk hp' hp := by repeat (first | exact Lk.refl _ | exact Lk.nil _ | (apply Lk.app; · repeat (first | exact Ex.here _ _ | apply Ex.skip | apply Ex.skipC)) | (apply Lk.cons; · repeat (first | exact EC.here _ _ | apply EC.skipC | apply EC.skip)) | apply Lk.dropC | apply Lk.drop)) (he : Sub e' e := by repeat (first | exact trivial | refine ⟨rfl, ?_⟩)) : SLc P n w0 Q (.loop c) e hp := fun a w hf ho => j2p Inv hl he (.refl _) h0 round a w hf (ho.lk hh)
theorem lF {σ τ : Type} {body : Nat → σ → Option (σ ⊕ τ)} (Inv : Nat → σ → Base → Env → Hp → Prop) {c : Code} {s0 : σ} {N : Nat} {t : σ ⊕ τ} (hl : forM body N 0 s0 = some t) {e' : Env} {hp' : Hp} (h0 : Inv 0 s0 w0 e' hp')
  (round : ∀ k s b e hp o, k < N → Inv k s b e hp → body k s = some o → (∀ t', o = .inr t' → t = .inr t') → SLc P n b (Exit.then (fun a w => ∃ s', o = .inl s' ∧ q6v n (Inv (k + 1) s') a w) Q) c e hp)
  (done : ∀ s b e hp, Inv N s b e hp → t = .inl s → SLc P n b (Exit.then (fun _ _ => False) Q) c e hp) (hh : Lk hp' hp := by repeat (first | exact Lk.refl _ | exact Lk.nil _ | (apply Lk.app; · repeat (first | exact Ex.here _ _ | apply Ex.skip | apply Ex.skipC)) | (apply Lk.cons; · repeat (first | exact EC.here _ _ | apply EC.skipC | apply EC.skip)) | apply Lk.dropC | apply Lk.drop)) (he : Sub e' e := by repeat (first | exact trivial | refine ⟨rfl, ?_⟩)) : SLc P n w0 Q (.loop c) e hp := fun a w hf ho => z8x Inv hl he (.refl _) h0 round done a w hf (ho.lk hh)
theorem lS {σ : Type} {body : Nat → σ → Option σ} (Inv : Nat → σ → Base → Env → Hp → Prop) {c : Code} {s0 : σ} {N : Nat} {t : σ} (hl : q4M body N 0 s0 = some t) {e' : Env} {hp' : Hp} (h0 : Inv 0 s0 w0 e' hp')
  (round : ∀ k s b e hp o, k < N → Inv k s b e hp → body k s = some o → SLc P n b (Exit.then (fun a w => q6v n (Inv (k + 1) o) a w) Q) c e hp)
  (done : ∀ b e hp, Inv N t b e hp → SLc P n b (Exit.then (fun _ _ => False) Q) c e hp) (hh : Lk hp' hp := by repeat (first | exact Lk.refl _ | exact Lk.nil _ | (apply Lk.app; · repeat (first | exact Ex.here _ _ | apply Ex.skip | apply Ex.skipC)) | (apply Lk.cons; · repeat (first | exact EC.here _ _ | apply EC.skipC | apply EC.skip)) | apply Lk.dropC | apply Lk.drop)) (he : Sub e' e := by repeat (first | exact trivial | refine ⟨rfl, ?_⟩)) : SLc P n w0 Q (.loop c) e hp := fun a w hf ho => j0R Inv hl he (.refl _) h0 round done a w hf (ho.lk hh)
theorem eN (i : Nat) {fuel : Nat} {listed : Array Bool} {S : Hp} {k j : Nat} {t : Bool} (hi : ops[i]? = some ⟨some k, op, ty, pos, af, some (j, t)⟩) (h : SLB P (NT.mk m dk1 rq) w0 b ops S Q fuel (listed.setIfInBounds i true) ((k, undef) :: e) hp)
  (hc : noB ops e j t m (some k) = true := by kernel_rfl)
  (hs : Region.noSelect ops = true := by kernel_rfl) (hfr : Region.free .any ops listed i = true := by kernel_rfl) (hr : (Region.ready .any ops listed).contains i = true := by kernel_rfl)
  (hcl : q5S .any ops listed = true := by kernel_rfl) : SLB P (NT.mk m dk1 rq) w0 b ops S Q (fuel + 1) listed e hp :=
 let ⟨dj, _, h1, h2, h3, h4, h5⟩ := z5j hc
 j6q i dj hi h2 h4 h hs hfr hr h5 h1 h3 hcl
theorem dG {I : Base → Env → Hp → Prop} {S : Hp} {fuel fuel' : Nat} {listed listed' : Array Bool} (ht : ∀ b' e' hp', w0.Le b' → I b' e' hp' → SLA P n w0 b' ops S Q fuel' listed' e' hp') {e' : Env} {hp' : Hp} (hi : I b e' hp') (hle : w0.Le b)
  (hf : fuel = fuel' := by kernel_rfl) (hl : listed = listed' := by kernel_rfl) (he : Sub e' e := by repeat (first | exact trivial | refine ⟨rfl, ?_⟩)) (hh : Lk hp' hp := by repeat (first | exact Lk.refl _ | exact Lk.nil _ | (apply Lk.app; · repeat (first | exact Ex.here _ _ | apply Ex.skip | apply Ex.skipC)) | (apply Lk.cons; · repeat (first | exact EC.here _ _ | apply EC.skipC | apply EC.skip)) | apply Lk.dropC | apply Lk.drop)) : SLA P n w0 b ops S Q fuel listed e hp := fun a w hfit ho => by
 subst hf hl
 exact ht b e' hp' hle hi a w (hfit.sub he) (ho.lk hh)
theorem bF {α β : Type} {r : RT α} {w : World} {A : Option Addr} {c sz : Nat} {l : List α} {i : Int} {f : α → Option β} {t : β} (hm : (idx l i).bind f = some t) (h : FZ r w A c l) (hs : r.sz = sz := by rfl) (h0 : 0 < sz := by decide) :
  ∃ (x : α) (j : Nat) (cs : List Value), i = (j : Int) ∧ l[j]? = some x ∧ r.rep w cs x ∧ (∀ (i : Nat) (u : Value), cs[i]? = some u → q2I w A (j * sz + i) = some u) ∧ A.isSome = true ∧ j < l.length ∧ f x = some t := by
 obtain ⟨x, hx, h1⟩ := q8S hm
 obtain ⟨j, hj, hx⟩ := q5c hx
 obtain ⟨cs, h2, h3, h4, h5⟩ := FZ.get hs h0 h hx
 exact ⟨x, j, cs, hj, hx, h2, h3, h4, h5, h1⟩
end
end Go.Fp
