import Derived.Test.YtjlollifgeggdaaGreatDoorRows
import Derived.Test.YtjlollifgeggdaaGreatDoorQZD
import Derived.Test.YtjlollifgeggdaaGreatDoorQXZ
import Derived.Shelf.SlIterI.Nil
import Derived.Shelf.SortM.Plain
import Derived.Shelf.SortM.SortNone
import Derived.Ground.GgzProg
import Derived.Ground.SlgmProg
import Derived.Test.YtjlollifgeggdaaGreatDoorProg
import Derived.WideShapes
import Derived.Test.YtjlollifgeggdaaGreatDoorF3
set_option linter.unusedVariables false
set_option linter.unusedSimpArgs false
set_option linter.unusedSectionVars false
namespace Go.Proofs.YtjlollifgeggdaaGreatDoor
open Go.RowKit Go.Fp
theorem mixed : Tryz.prog.follows .mixedOrders = true := by kernel_rfl
theorem z9m : q7V Tryz.prog 108 7 = true := by kernel_rfl
theorem z1X : q7V Tryz.prog 128 2 = true := by kernel_rfl
theorem q1P : q7V Tryz.prog 131 2 = true := by kernel_rfl
theorem z7a : q7V Tryz.prog 145 4 = true := by kernel_rfl
theorem z9l : q7V Tryz.prog 149 2 = true := by kernel_rfl
theorem G7 : q7V Tryz.prog 28 5 = true := by kernel_rfl
theorem z0Y : q7V Tryz.prog 36 3 = true := by kernel_rfl
theorem K8 : q7V Tryz.prog 55 4 = true := by kernel_rfl
theorem q8Q : q7V Tryz.prog 62 3 = true := by kernel_rfl
theorem z2Y : q7V Tryz.prog 80 5 = true := by kernel_rfl
theorem q2l : q0s Tryz.prog 108 0 0 = true := by kernel_rfl
theorem z3S : q0s Tryz.prog 108 1 1 = true := by kernel_rfl
theorem q6n : q0s Tryz.prog 108 2 2 = true := by kernel_rfl
theorem z3R : q0s Tryz.prog 108 3 3 = true := by kernel_rfl
theorem z3Q : q0s Tryz.prog 108 4 4 = true := by kernel_rfl
theorem q7S : q0s Tryz.prog 108 5 5 = true := by kernel_rfl
theorem q7R : q0s Tryz.prog 126 0 0 = true := by kernel_rfl
theorem z0J : q0s Tryz.prog 126 1 5 = true := by kernel_rfl
theorem z0I : q0s Tryz.prog 126 2 6 = true := by kernel_rfl
theorem q5h : q0s Tryz.prog 126 3 7 = true := by kernel_rfl
theorem q3n : q0s Tryz.prog 128 0 0 = true := by kernel_rfl
theorem q6m : q0s Tryz.prog 128 1 1 = true := by kernel_rfl
theorem q0V : q0s Tryz.prog 131 0 0 = true := by kernel_rfl
theorem q3m : q0s Tryz.prog 131 1 1 = true := by kernel_rfl
theorem q7Q : q0s Tryz.prog 136 0 0 = true := by kernel_rfl
theorem q7P : q0s Tryz.prog 136 1 5 = true := by kernel_rfl
theorem z3P : q0s Tryz.prog 136 2 8 = true := by kernel_rfl
theorem q7O : q0s Tryz.prog 136 3 9 = true := by kernel_rfl
theorem z3O : q0s Tryz.prog 136 4 10 = true := by kernel_rfl
theorem q4d : q0s Tryz.prog 145 0 0 = true := by kernel_rfl
theorem q6l : q0s Tryz.prog 145 1 1 = true := by kernel_rfl
theorem q6k : q0s Tryz.prog 145 2 2 = true := by kernel_rfl
theorem z0H : q0s Tryz.prog 145 3 3 = true := by kernel_rfl
theorem q6j : q0s Tryz.prog 149 0 0 = true := by kernel_rfl
theorem z3N : q0s Tryz.prog 149 1 1 = true := by kernel_rfl
theorem q8x : q0s Tryz.prog 28 0 0 = true := by kernel_rfl
theorem q0J : q0s Tryz.prog 28 1 1 = true := by kernel_rfl
theorem q8w : q0s Tryz.prog 28 2 2 = true := by kernel_rfl
theorem q3z : q0s Tryz.prog 28 3 3 = true := by kernel_rfl
theorem q6U : q0s Tryz.prog 28 4 4 = true := by kernel_rfl
theorem q4M : q0s Tryz.prog 36 0 0 = true := by kernel_rfl
theorem q2V : q0s Tryz.prog 36 1 1 = true := by kernel_rfl
theorem q1I : q0s Tryz.prog 36 2 2 = true := by kernel_rfl
theorem q6T : q0s Tryz.prog 48 0 0 = true := by kernel_rfl
theorem z2P : q0s Tryz.prog 48 1 1 = true := by kernel_rfl
theorem q1b : q0s Tryz.prog 55 0 0 = true := by kernel_rfl
theorem q4L : q0s Tryz.prog 55 1 1 = true := by kernel_rfl
theorem q1H : q0s Tryz.prog 55 2 2 = true := by kernel_rfl
theorem j0p : q0s Tryz.prog 55 3 3 = true := by kernel_rfl
theorem Y6 : q0s Tryz.prog 62 0 0 = true := by kernel_rfl
theorem z6n : q0s Tryz.prog 62 1 1 = true := by kernel_rfl
theorem z0G : q0s Tryz.prog 62 2 2 = true := by kernel_rfl
theorem j0o : q0s Tryz.prog 78 0 0 = true := by kernel_rfl
theorem z2O : q0s Tryz.prog 78 1 5 = true := by kernel_rfl
theorem z2N : q0s Tryz.prog 78 2 6 = true := by kernel_rfl
theorem q2s : q0s Tryz.prog 78 3 7 = true := by kernel_rfl
theorem z2M : q0s Tryz.prog 78 4 8 = true := by kernel_rfl
theorem q2U : q0s Tryz.prog 78 5 9 = true := by kernel_rfl
theorem j0n : q0s Tryz.prog 80 0 0 = true := by kernel_rfl
theorem j0m : q0s Tryz.prog 80 1 1 = true := by kernel_rfl
theorem q4K : q0s Tryz.prog 80 2 2 = true := by kernel_rfl
theorem q4c : q0s Tryz.prog 80 3 3 = true := by kernel_rfl
theorem z6m : q0s Tryz.prog 80 4 4 = true := by kernel_rfl
theorem q6S : q0s Tryz.prog 90 0 0 = true := by kernel_rfl
theorem j0l : q0s Tryz.prog 90 1 3 = true := by kernel_rfl
theorem q3y : q0s Tryz.prog 90 2 4 = true := by kernel_rfl
theorem z0F : q0s Tryz.prog 90 3 5 = true := by kernel_rfl
theorem z0E : q0s Tryz.prog 90 4 6 = true := by kernel_rfl
theorem z0D : q0s Tryz.prog 90 6 8 = true := by kernel_rfl
theorem z2L : q0s Tryz.prog 90 7 9 = true := by kernel_rfl
theorem z2K : q0s Tryz.prog 90 8 10 = true := by kernel_rfl
theorem z0C : q0s Tryz.prog 94 0 0 = true := by kernel_rfl
theorem q8v : q0s Tryz.prog 94 1 1 = true := by kernel_rfl
theorem j0k : q0s Tryz.prog 94 2 2 = true := by kernel_rfl
theorem j1M : (Tryz.prog.info? 108).map (fun i => (i.zero, i.size, i.bytes)) = some (some (.agg #[.int .i64 0, .int .i64 0, .int .i64 0, .int .i64 0, .int .i64 0, .int .i64 0, .bool false]), 7, 56) := by kernel_rfl
theorem j1L : (Tryz.prog.info? 128).map (fun i => (i.zero, i.size, i.bytes)) = some (some (.agg #[.int .i64 0, .int .i64 0]), 2, 16) := by kernel_rfl
theorem j1K : (Tryz.prog.info? 145).map (fun i => (i.zero, i.size, i.bytes)) = some (some (.agg #[.int .i64 0, .int .i64 0, .int .i64 0, .int .i64 0]), 4, 32) := by kernel_rfl
theorem j1J : (Tryz.prog.info? 149).map (fun i => (i.zero, i.size, i.bytes)) = some (some (.agg #[.int .i64 0, .int .i64 0]), 2, 16) := by kernel_rfl
theorem j3v : (Tryz.prog.info? 22).map (fun i => (i.zero, i.size, i.bytes)) = some (some (.slice none 0 0), 1, 24) := by kernel_rfl
theorem j4g : (Tryz.prog.info? 3).map (fun i => (i.zero, i.size, i.bytes)) = some (some (.int .i64 0), 1, 8) := by kernel_rfl
theorem j3u : (Tryz.prog.info? 36).map (fun i => (i.zero, i.size, i.bytes)) = some (some (.agg #[.int .i64 0, .int .i64 0, .slice none 0 0]), 3, 40) := by kernel_rfl
theorem j2N : (Tryz.prog.info? 4).map (fun i => (i.zero, i.size, i.bytes)) = some (some (.bool false), 1, 1) := by kernel_rfl
theorem j1I : (Tryz.prog.info? 46).map (fun i => (i.zero, i.size, i.bytes)) = some (some (.slice none 0 0), 1, 24) := by kernel_rfl
theorem j3t : (Tryz.prog.info? 48).map (fun i => (i.zero, i.size, i.bytes)) = some (some (.agg #[.slice none 0 0, .slice none 0 0]), 2, 48) := by kernel_rfl
theorem z7T : (Tryz.prog.info? 55).map (fun i => (i.zero, i.size, i.bytes)) = some (some (.agg #[.int .i64 0, .int .i64 0, .int .i64 0, .int .i64 0]), 4, 32) := by kernel_rfl
theorem z7S : (Tryz.prog.info? 62).map (fun i => (i.zero, i.size, i.bytes)) = some (some (.agg #[.int .i64 0, .int .i64 0, .int .i64 0]), 3, 24) := by kernel_rfl
theorem q8t : (Tryz.prog.info? 80).map (fun i => (i.zero, i.size, i.bytes)) = some (some (.agg #[.int .i64 0, .bool false, .int .i64 0, .int .i64 0, .bool false]), 5, 40) := by kernel_rfl
theorem j3s : (Tryz.prog.info? 83).map (fun i => (i.zero, i.size, i.bytes)) = some (some (.pointer none), 1, 8) := by kernel_rfl
theorem j3T : (Tryz.prog.info? 9).map (fun i => (i.zero, i.size, i.bytes)) = some (some (.string ByteArray.empty), 1, 16) := by kernel_rfl
theorem q8s : (Tryz.prog.info? 94).map (fun i => (i.zero, i.size, i.bytes)) = some (some (.agg #[.int .i64 0, .bool false, .bool false]), 3, 16) := by kernel_rfl
theorem j0h : j2M Tryz.prog 5 .u8 = true := by kernel_rfl
theorem q4C : q4n Tryz.prog 124 = true := by kernel_rfl
theorem q4o : q4n Tryz.prog 132 = true := by kernel_rfl
theorem z8S : q4n Tryz.prog 134 = true := by kernel_rfl
theorem z8R : q4n Tryz.prog 181 = true := by kernel_rfl
theorem z4K : q4n Tryz.prog 22 = true := by kernel_rfl
theorem q4B : q4n Tryz.prog 23 = true := by kernel_rfl
theorem z5N : q4n Tryz.prog 24 = true := by kernel_rfl
theorem q9f : q4n Tryz.prog 25 = true := by kernel_rfl
theorem z4J : q4n Tryz.prog 26 = true := by kernel_rfl
theorem Q3 : q4n Tryz.prog 3 = true := by kernel_rfl
theorem z5M : q4n Tryz.prog 30 = true := by kernel_rfl
theorem q4u : q4n Tryz.prog 34 = true := by kernel_rfl
theorem q7k : q4n Tryz.prog 4 = true := by kernel_rfl
theorem j1v : q4n Tryz.prog 45 = true := by kernel_rfl
theorem q5j : q4n Tryz.prog 46 = true := by kernel_rfl
theorem j1u : q4n Tryz.prog 49 = true := by kernel_rfl
theorem j4e : q4n Tryz.prog 5 = true := by kernel_rfl
theorem z9Z : q4n Tryz.prog 71 = true := by kernel_rfl
theorem q7t : q4n Tryz.prog 74 = true := by kernel_rfl
theorem z9Y : q4n Tryz.prog 75 = true := by kernel_rfl
theorem q8m : q4n Tryz.prog 76 = true := by kernel_rfl
theorem z9X : q4n Tryz.prog 83 = true := by kernel_rfl
theorem z9W : q4n Tryz.prog 86 = true := by kernel_rfl
theorem q5W : q4n Tryz.prog 88 = true := by kernel_rfl
theorem j3p : q4n Tryz.prog 9 = true := by kernel_rfl
theorem j1o : q3X Tryz.prog 108 7 = true := by kernel_rfl
theorem z5A : q3X Tryz.prog 128 2 = true := by kernel_rfl
theorem q2v : q3X Tryz.prog 131 2 = true := by kernel_rfl
theorem z5z : q3X Tryz.prog 145 4 = true := by kernel_rfl
theorem z8L : q3X Tryz.prog 149 2 = true := by kernel_rfl
theorem j1n : q3X Tryz.prog 181 1 = true := by kernel_rfl
theorem z4z : q3X Tryz.prog 28 5 = true := by kernel_rfl
theorem z7l : q3X Tryz.prog 3 1 = true := by kernel_rfl
theorem j3j : q3X Tryz.prog 30 1 = true := by kernel_rfl
theorem z4y : q3X Tryz.prog 36 3 = true := by kernel_rfl
theorem z5y : q3X Tryz.prog 4 1 = true := by kernel_rfl
theorem j3i : q3X Tryz.prog 45 1 = true := by kernel_rfl
theorem z9P : q3X Tryz.prog 46 1 = true := by kernel_rfl
theorem j3h : q3X Tryz.prog 49 1 = true := by kernel_rfl
theorem q9b : q3X Tryz.prog 55 4 = true := by kernel_rfl
theorem z0p : q3X Tryz.prog 62 3 = true := by kernel_rfl
theorem j3g : q3X Tryz.prog 80 5 = true := by kernel_rfl
theorem j3f : q3X Tryz.prog 86 1 = true := by kernel_rfl
theorem j3J : q3X Tryz.prog 9 1 = true := by kernel_rfl
theorem z9O : slT Tryz.prog 115 22 1 = true := by kernel_rfl
theorem z9N : slT Tryz.prog 168 5 1 = true := by kernel_rfl
theorem z2n : slT Tryz.prog 22 9 1 = true := by kernel_rfl
theorem z0o : slT Tryz.prog 23 108 7 = true := by kernel_rfl
theorem z8K : slT Tryz.prog 24 145 4 = true := by kernel_rfl
theorem z3s : slT Tryz.prog 25 128 2 = true := by kernel_rfl
theorem z7F : slT Tryz.prog 26 149 2 = true := by kernel_rfl
theorem z2b : slT Tryz.prog 30 36 3 = true := by kernel_rfl
theorem q8T : slT Tryz.prog 34 62 3 = true := by kernel_rfl
theorem z4x : slT Tryz.prog 37 48 2 = true := by kernel_rfl
theorem z5x : slT Tryz.prog 45 3 1 = true := by kernel_rfl
theorem q3C : slT Tryz.prog 46 55 4 = true := by kernel_rfl
theorem z5d : slT Tryz.prog 49 46 1 = true := by kernel_rfl
theorem q8j : slT Tryz.prog 74 80 5 = true := by kernel_rfl
theorem z3r : slT Tryz.prog 75 94 3 = true := by kernel_rfl
theorem z1c : slT Tryz.prog 88 4 1 = true := by kernel_rfl
theorem z9M : slT Tryz.prog 95 83 1 = true := by kernel_rfl
theorem q7E : z9G Tryz.prog 9 = true := by kernel_rfl
theorem z9r : (Tryz.prog.info? 108).bind (·.zero) = some (.agg #[.int .i64 0, .int .i64 0, .int .i64 0, .int .i64 0, .int .i64 0, .int .i64 0, .bool false]) := by kernel_rfl
theorem z2e : (Tryz.prog.info? 128).bind (·.zero) = some (.agg #[.int .i64 0, .int .i64 0]) := by kernel_rfl
theorem q1Q : (Tryz.prog.info? 131).bind (·.zero) = some (.agg #[.int .i64 0, .int .i64 0]) := by kernel_rfl
theorem z2d : (Tryz.prog.info? 145).bind (·.zero) = some (.agg #[.int .i64 0, .int .i64 0, .int .i64 0, .int .i64 0]) := by kernel_rfl
theorem z5j : (Tryz.prog.info? 149).bind (·.zero) = some (.agg #[.int .i64 0, .int .i64 0]) := by kernel_rfl
theorem z9q : (Tryz.prog.info? 181).bind (·.zero) = some (.nilFunc) := by kernel_rfl
theorem z3b : (Tryz.prog.info? 28).bind (·.zero) = some (.agg #[.slice none 0 0, .slice none 0 0, .slice none 0 0, .slice none 0 0, .slice none 0 0]) := by kernel_rfl
theorem j2V : (Tryz.prog.info? 3).bind (·.zero) = some (.int .i64 0) := by kernel_rfl
theorem q9v : (Tryz.prog.info? 36).bind (·.zero) = some (.agg #[.int .i64 0, .int .i64 0, .slice none 0 0]) := by kernel_rfl
theorem z7o : (Tryz.prog.info? 4).bind (·.zero) = some (.bool false) := by kernel_rfl
theorem q5F : (Tryz.prog.info? 55).bind (·.zero) = some (.agg #[.int .i64 0, .int .i64 0, .int .i64 0, .int .i64 0]) := by kernel_rfl
theorem q7h : (Tryz.prog.info? 62).bind (·.zero) = some (.agg #[.int .i64 0, .int .i64 0, .int .i64 0]) := by kernel_rfl
theorem j0U : (Tryz.prog.info? 80).bind (·.zero) = some (.agg #[.int .i64 0, .bool false, .int .i64 0, .int .i64 0, .bool false]) := by kernel_rfl
theorem z5i : (Tryz.prog.info? 83).bind (·.zero) = some (.pointer none) := by kernel_rfl
theorem j0T : (Tryz.prog.info? 86).bind (·.zero) = some (.nilFunc) := by kernel_rfl
theorem j3F : j0 Tryz.prog 5 = true := by kernel_rfl
theorem z8t : j0 Tryz.prog 6 = true := by kernel_rfl
theorem j3E : j0 Tryz.prog 7 = true := by kernel_rfl
theorem j3D : j0 Tryz.prog 8 = true := by kernel_rfl
theorem j1Y : j0 Tryz.prog 9 = true := by kernel_rfl
theorem j2D : j0 Tryz.prog 10 = true := by kernel_rfl
theorem z9i : j0 Tryz.prog 11 = true := by kernel_rfl
theorem j2C : j0 Tryz.prog 12 = true := by kernel_rfl
theorem z6E : j0 Tryz.prog 13 = true := by kernel_rfl
theorem z6C : j0 Tryz.prog 14 = true := by kernel_rfl
theorem j2B : j0 Tryz.prog 21 = true := by kernel_rfl
theorem j2A : j0 Tryz.prog 22 = true := by kernel_rfl
theorem j2z : j0 Tryz.prog 23 = true := by kernel_rfl
theorem z6B : j0 Tryz.prog 24 = true := by kernel_rfl
theorem j2y : j0 Tryz.prog 25 = true := by kernel_rfl
theorem z4b : j0 Tryz.prog 26 = true := by kernel_rfl
theorem z6A : j0 Tryz.prog 27 = true := by kernel_rfl
theorem q4R : j0 Tryz.prog 28 = true := by kernel_rfl
theorem j2x : j0 Tryz.prog 29 = true := by kernel_rfl
theorem z9h : j0 Tryz.prog 30 = true := by kernel_rfl
theorem j2w : j0 Tryz.prog 31 = true := by kernel_rfl
theorem j2v : j0 Tryz.prog 32 = true := by kernel_rfl
theorem z9g : j0 Tryz.prog 33 = true := by kernel_rfl
theorem j2u : j0 Tryz.prog 34 = true := by kernel_rfl
theorem q9Q : j0 Tryz.prog 35 = true := by kernel_rfl
theorem z9f : j0 Tryz.prog 36 = true := by kernel_rfl
theorem z6z : j0 Tryz.prog 37 = true := by kernel_rfl
theorem j2t : j0 Tryz.prog 38 = true := by kernel_rfl
theorem j2s : j0 Tryz.prog 39 = true := by kernel_rfl
theorem z6y : j0 Tryz.prog 40 = true := by kernel_rfl
theorem j2r : j0 Tryz.prog 48 = true := by kernel_rfl
theorem z9e : j0 Tryz.prog 49 = true := by kernel_rfl
theorem z9d : j0 Tryz.prog 50 = true := by kernel_rfl
theorem z9c : j0 Tryz.prog 51 = true := by kernel_rfl
theorem j2q : j0 Tryz.prog 52 = true := by kernel_rfl
theorem j2p : j0 Tryz.prog 54 = true := by kernel_rfl
theorem j2o : j0 Tryz.prog 55 = true := by kernel_rfl
theorem j2n : j0 Tryz.prog 56 = true := by kernel_rfl
theorem j2m : j0 Tryz.prog 57 = true := by kernel_rfl
theorem j2l : j0 Tryz.prog 58 = true := by kernel_rfl
theorem j2k : j0 Tryz.prog 59 = true := by kernel_rfl
theorem z9b : j0 Tryz.prog 60 = true := by kernel_rfl
theorem z9a : j0 Tryz.prog 61 = true := by kernel_rfl
theorem z1K : j0 Tryz.prog 62 = true := by kernel_rfl
theorem z8Z : j0 Tryz.prog 63 = true := by kernel_rfl
theorem j2j : j0 Tryz.prog 64 = true := by kernel_rfl
theorem z4a : j0 Tryz.prog 65 = true := by kernel_rfl
theorem j2i : j0 Tryz.prog 66 = true := by kernel_rfl
theorem j2h : j0 Tryz.prog 67 = true := by kernel_rfl
theorem j2g : j0 Tryz.prog 68 = true := by kernel_rfl
theorem j2f : j0 Tryz.prog 69 = true := by kernel_rfl
theorem j2e : j0 Tryz.prog 70 = true := by kernel_rfl
theorem j2d : j0 Tryz.prog 71 = true := by kernel_rfl
theorem j2c : j0 Tryz.prog 72 = true := by kernel_rfl
theorem j2b : j0 Tryz.prog 73 = true := by kernel_rfl
theorem z1J : j0 Tryz.prog 74 = true := by kernel_rfl
theorem j2a : j0 Tryz.prog 75 = true := by kernel_rfl
theorem z6x : j0 Tryz.prog 76 = true := by kernel_rfl
theorem z3Z : j0 Tryz.prog 77 = true := by kernel_rfl
theorem z3Y : j0 Tryz.prog 78 = true := by kernel_rfl
theorem q4p : j0 Tryz.prog 79 = true := by kernel_rfl
theorem q6s : j0 Tryz.prog 82 = true := by kernel_rfl
theorem j1Z : j0 Tryz.prog 89 = true := by kernel_rfl
theorem j1X : j0 Tryz.prog 90 = true := by kernel_rfl
theorem z8Y : j0 Tryz.prog 91 = true := by kernel_rfl
theorem j1W : j0 Tryz.prog 93 = true := by kernel_rfl
theorem z6w : j0 Tryz.prog 94 = true := by kernel_rfl
theorem z6v : j0 Tryz.prog 95 = true := by kernel_rfl
theorem z8X : j0 Tryz.prog 96 = true := by kernel_rfl
theorem z3X : j0 Tryz.prog 97 = true := by kernel_rfl
theorem z1I : j0 Tryz.prog 98 = true := by kernel_rfl
theorem z8W : j0 Tryz.prog 99 = true := by kernel_rfl
theorem z6J : j0 Tryz.prog 100 = true := by kernel_rfl
theorem z6I : j0 Tryz.prog 101 = true := by kernel_rfl
theorem z6H : j0 Tryz.prog 102 = true := by kernel_rfl
theorem z6G : j0 Tryz.prog 103 = true := by kernel_rfl
theorem j0I : j0 Tryz.prog 104 = true := by kernel_rfl
theorem j0H : j0 Tryz.prog 105 = true := by kernel_rfl
theorem j0G : j0 Tryz.prog 107 = true := by kernel_rfl
theorem j0F : j0 Tryz.prog 108 = true := by kernel_rfl
theorem j0E : j0 Tryz.prog 117 = true := by kernel_rfl
theorem j0D : j0 Tryz.prog 118 = true := by kernel_rfl
theorem z6F : j0 Tryz.prog 120 = true := by kernel_rfl
theorem j0C : j0 Tryz.prog 122 = true := by kernel_rfl
theorem j0B : j0 Tryz.prog 123 = true := by kernel_rfl
theorem j0A : j0 Tryz.prog 124 = true := by kernel_rfl
theorem j0z : j0 Tryz.prog 136 = true := by kernel_rfl
theorem j0y : j0 Tryz.prog 138 = true := by kernel_rfl
theorem z6D : j0 Tryz.prog 139 = true := by kernel_rfl
theorem j0x : j0 Tryz.prog 151 = true := by kernel_rfl
theorem j0w : j0 Tryz.prog 158 = true := by kernel_rfl
theorem z6X : j2P Tryz.prog 123 3 71 1 = true := by kernel_rfl
theorem j1R : eqT Tryz.prog 128 [.int .i64, .int .i64] := ⟨by kernel_rfl, by kernel_rfl, by kernel_rfl⟩
theorem j3w : eqT Tryz.prog 55 [.int .i64, .int .i64, .int .i64, .int .i64] := ⟨by kernel_rfl, by kernel_rfl, by kernel_rfl⟩
theorem z8i : Tryz.prog.funcs[150]? = some Tryz.f150 := Tryz.func150
theorem z8h : (Tryz.f150.name == "runtime.NumGoroutine") = false := by kernel_rfl
theorem z8g : Tryz.f150.body.isNone = true := by kernel_rfl
theorem z8f : Extern.findNext Tryz.f150 = none := by kernel_rfl
theorem z8e : Extern.find Tryz.f150 = some Extern.BytealgCount.count := by kernel_rfl
theorem z8d : Tryz.prog.funcs[169]? = some Tryz.f169 := Tryz.func169
theorem z8c : (Tryz.f169.name == "runtime.NumGoroutine") = false := by kernel_rfl
theorem z8b : Tryz.f169.body.isNone = true := by kernel_rfl
theorem z8a : Extern.findNext Tryz.f169 = none := by kernel_rfl
theorem z7Z : Extern.find Tryz.f169 = some Extern.BytealgIndexByte.indexByte := by kernel_rfl
theorem z3G : q3d Tryz.prog 131 z0s true := ⟨⟨[.int .i64, .int .i64], by kernel_rfl, fun w cs a hr => by obtain ⟨_, _, rfl, rfl, rfl⟩ := hr; exact ⟨⟨_, rfl⟩, ⟨⟨_, rfl⟩, trivial⟩⟩⟩, by kernel_rfl, fun w w' cs ds a c h1 h2 => by
  obtain ⟨_, _, rfl, rfl, rfl⟩ := h1
  obtain ⟨_, _, rfl, rfl, rfl⟩ := h2
  cases a; cases c
  simp [J4, q2x, z0V, Bool.decide_and]⟩
theorem j0g : q3d Tryz.prog 3 (RT.int .i64) false := z6b (by kernel_rfl) (by kernel_rfl)
theorem j1F : q3d Tryz.prog 55 j4 true := ⟨⟨[.int .i64, .int .i64, .int .i64, .int .i64], by kernel_rfl, fun w cs a hr => by obtain ⟨_, _, rfl, rfl, ⟨_, _, rfl, rfl, ⟨_, _, rfl, rfl, rfl⟩⟩⟩ := hr; exact ⟨⟨_, rfl⟩, ⟨⟨_, rfl⟩, ⟨⟨_, rfl⟩, ⟨⟨_, rfl⟩, trivial⟩⟩⟩⟩⟩, by kernel_rfl, fun w w' cs ds a c h1 h2 => by
  obtain ⟨_, _, rfl, rfl, ⟨_, _, rfl, rfl, ⟨_, _, rfl, rfl, rfl⟩⟩⟩ := h1
  obtain ⟨_, _, rfl, rfl, ⟨_, _, rfl, rfl, ⟨_, _, rfl, rfl, rfl⟩⟩⟩ := h2
  cases a; cases c
  simp [J4, q2x, z0V, Bool.decide_and]⟩
theorem z5W : Tryz.prog.underlying 134 = some (.map 55 4) := by kernel_rfl
theorem z0z : Tryz.prog.underlying 170 = some (.map 131 4) := by kernel_rfl
theorem q5n : Tryz.prog.underlying 76 = some (.map 3 83) := by kernel_rfl
theorem j1r : ptT Tryz.prog 83 = true := by kernel_rfl
end Go.Proofs.YtjlollifgeggdaaGreatDoor
namespace Go.Proofs.YtjlollifgeggdaaGreatDoor
open Go.RowKit Go.Maps Go.Sort Go.Shelf Go.WideElems Go.Fp
section
variable {ν : Type} {vo : OT ν} {va : Bool} {g : Nat} {l : List (Int × ν)} {hs : Hp} {P : Program} {kt : TypeId}
def z1V : Value → Option (DataW Unit × List MemPlace) := fun _ => some (.nil, [])
theorem j1H {x : Int} (h : -9223372036854775808 ≤ x ∧ x ≤ 9223372036854775807) : (Lit.int .i64 x).wf = true := by
  simp [Lit.wf, IntKind.min, IntKind.max, IntKind.signed, IntKind.bits]
  omega
theorem z7M {b : v7} {hp : Hp} {w : World} (ho : Own b hp w) (hsub : hs.Sublist hp) (h : OM0 (RT.int .i64) vo false va b.w g l hs) (hk : P.underlying kt = some (.int .i64)) (hwf : ∀ p ∈ l, -9223372036854775808 ≤ p.1 ∧ p.1 ≤ 9223372036854775807) (hlen : l.length ≤ maxLen) :
    ∃ D : DataW Unit, w.ownsMap P kt z1V g l.length D ∧ (intKeys D).Perm (l.map (·.1)) ∧ Maps.size D = l.length := by
  obtain ⟨es, cl, hss, h1, h2, h3, h4⟩ := h
  have hb : w.heap[g]? = some (.map es.toArray cl) := (ho.blk g _ (hsub.subset (by rw [h1]; simp))).2
  have hkeys : K9 (fun (e : MapEntry) (p : Int × ν) => e.key = .int .i64 p.1) es l := q5c (fun e p q hh => by
    have h5 : [e.key] = [Value.int .i64 p.1] := hh.1
    injection h5) h2
  have hlen2 : es.length = l.length := hkeys.length
  have hrd : K9 (fun (e : MapEntry) (p : Int × ν) => WideElems.rd P kt z1V e = some (.int .i64 p.1, .nil)) es l := by
    clear h2 h3 h4 hb h1 hlen hlen2
    induction es generalizing l with
    | nil => match l, hkeys with | [], _ => trivial
    | cons e es ih =>
      match l, hkeys with
      | p :: l, hkeys =>
        refine ⟨?_, ih (fun q hq => hwf q (by simp [hq])) hkeys.2⟩
        have hw : (Lit.int .i64 p.1).wf = true := by
          have := hwf p (by simp)
          exact j1H this
        have hko : keyOf P kt e.key = some (.int .i64 p.1) := by
          rw [hkeys.1]
          exact keyOf_int_mk hk hw
        show WideElems.rd P kt z1V e = _
        unfold WideElems.rd
        rw [hko]
        rfl
  have hrg : (es.map (rg P kt z1V)) = l.map fun p => (Lit.int .i64 p.1, DataW.nil) := by
    clear h2 h3 h4 hb h1 hlen hlen2 hkeys hwf
    induction es generalizing l with
    | nil => match l, hrd with | [], _ => rfl
    | cons e es ih =>
      match l, hrd with
      | p :: l, hrd => rw [List.map_cons, List.map_cons, ih hrd.2, rg_of hrd.1]
  have hek : es.map (·.key) = l.map fun p => Value.int .i64 p.1 := by
    clear h2 h3 h4 hb h1 hlen hlen2 hrd hrg hwf
    induction es generalizing l with
    | nil => match l, hkeys with | [], _ => rfl
    | cons e es ih =>
      match l, hkeys with
      | p :: l, hkeys => rw [List.map_cons, List.map_cons, ih hkeys.2, hkeys.1]
  refine ⟨.map ((es.toArray.toList.map (rg P kt z1V)).foldr DataW.insert []), ⟨es.toArray, cl, hb, ⟨by simpa [hlen2] using hlen, ⟨fun x hx => h4.1 x (by simpa using hx), by simpa using h4.2, ?_⟩, fun x hx => ?_⟩, by simp [hlen2], rfl⟩, ?_, ?_⟩
  · rw [List.toList_toArray, hek]
    have h6 : (l.map fun p => Value.int .i64 p.1) = (l.map (·.1)).map (Value.int .i64) := by simp
    rw [h6]
    exact List.Pairwise.map _ (fun a c hne e => hne (by injection e)) h3
  · rw [List.toList_toArray] at hx
    obtain ⟨j, hj, rfl⟩ := List.getElem_of_mem hx
    obtain ⟨e, he, hq⟩ := hrd.get (Kf (hlen2 ▸ hj))
    rw [Kf hj] at he
    injection he with he
    rw [← he] at hq
    exact ⟨_, hq⟩
  · show (List.map (fun (p : Lit × DataW Unit) => Go.intOf p.1) ((es.toArray.toList.map (rg P kt z1V)).foldr DataW.insert [])).Perm _
    rw [List.toList_toArray, hrg]
    refine ((Go.WideShapes.sorted_perm _).map _).trans ?_
    rw [List.map_map]
    exact .refl _
  · show ((es.toArray.toList.map (rg P kt z1V)).foldr DataW.insert []).length = _
    rw [length_sorted, List.length_map, List.toList_toArray, hlen2]
theorem j0a {b : v7} {hp : Hp} {w : World} (ho : Own b hp w) (hsub : hs.Sublist hp) (h : OM (RT.int .i64) vo false va b.w g l hs) (hk : P.underlying kt = some (.int .i64)) (hwf : ∀ p ∈ l, -9223372036854775808 ≤ p.1 ∧ p.1 ≤ 9223372036854775807) (hlen : l.length ≤ maxLen) :
    ∃ D : DataW Unit, w.ownsMap P kt z1V g l.length D ∧ (intKeys D).Perm (l.map (·.1)) ∧ Maps.size D = l.length := by
  obtain ⟨l0, hp0, h⟩ := h
  obtain ⟨D, h1, h2, h3⟩ := z7M ho hsub h hk (fun p hp => hwf p (hp0.subset hp)) (by rw [hp0.length_eq]; exact hlen)
  rw [hp0.length_eq] at h1 h3
  exact ⟨D, h1, h2.trans (hp0.map _), h3⟩
end
def z1w : Go.Shelf.Ren := ⟨fun | 7 => 50 | 10 => 88 | n => n, fun | 23 => 76 | 26 => 3 | 3 => 83 | 28 => 112 | 0 => 0 | 27 => 111 | 33 => 82 | 4 => 4 | n => n, fun | n => n⟩
theorem j3r : Go.Proofs.SlLaysZI.n7 Tryz.prog z1w := {
  mixed := by kernel_rfl
  f7 := ⟨Tryz.f50.name, by decide, Tryz.func50.trans (congrArg some (by kernel_rfl))⟩
  f10 := ⟨Tryz.f88.name, by decide, Tryz.func88.trans (congrArg some (by kernel_rfl))⟩
  t0 := Tryz.underlying0
  a0 := Tryz.isAgg0
  z0 := Tryz.sizeOf0
  v0 := Tryz.zeroValue0
  t4 := Tryz.underlying4
  a4 := Tryz.isAgg4
  z4 := Tryz.sizeOf4
  v4 := Tryz.zeroValue4
  t23 := Tryz.underlying76
  a23 := Tryz.isAgg76
  z23 := Tryz.sizeOf76
  v23 := Tryz.zeroValue76
  t26 := Tryz.underlying3
  a26 := Tryz.isAgg3
  z26 := Tryz.sizeOf3
  v26 := Tryz.zeroValue3
  t27 := Tryz.underlying111
  a27 := Tryz.isAgg111
  z27 := Tryz.sizeOf111
  v27 := Tryz.zeroValue111
  t28 := Tryz.underlying112
  a28 := Tryz.isAgg112
  z28 := Tryz.sizeOf112
  v28 := Tryz.zeroValue112
  t33 := Tryz.underlying82
  a33 := Tryz.isAgg82
  z33 := Tryz.sizeOf82
  v33 := Tryz.zeroValue82 }
def q8i : Go.Shelf.Ren := ⟨fun | 6 => 49 | 8 => 86 | 9 => 87 | 11 => 114 | 13 => 116 | 12 => 115 | 23 => 134 | 24 => 135 | 14 => 125 | 15 => 126 | 16 => 127 | 17 => 128 | 18 => 129 | 19 => 130 | 20 => 131 | 21 => 132 | 22 => 133 | 25 => 143 | 26 => 144 | 27 => 145 | 28 => 146 | 29 => 147 | 30 => 120 | 31 => 156 | n => n, fun | 26 => 3 | 28 => 112 | 24 => 45 | 0 => 0 | 3 => 3 | 37 => 190 | 48 => 203 | 50 => 205 | 4 => 4 | 40 => 197 | 39 => 196 | 45 => 167 | 5 => 5 | 9 => 9 | 51 => 215 | 55 => 219 | 57 => 226 | 58 => 227 | 33 => 82 | n => n, fun | n => n⟩
theorem z9K : Go.Proofs.SlLaysZI.n6 Tryz.prog q8i := {
  mixed := by kernel_rfl
  f6 := ⟨Tryz.f49.name, by decide, Tryz.func49.trans (congrArg some (by kernel_rfl))⟩
  f8 := ⟨Tryz.f86.name, by decide, Tryz.func86.trans (congrArg some (by kernel_rfl))⟩
  f11 := ⟨Tryz.f114.name, by decide, Tryz.func114.trans (congrArg some (by kernel_rfl))⟩
  t0 := Tryz.underlying0
  a0 := Tryz.isAgg0
  z0 := Tryz.sizeOf0
  v0 := Tryz.zeroValue0
  t24 := Tryz.underlying45
  a24 := Tryz.isAgg45
  z24 := Tryz.sizeOf45
  v24 := Tryz.zeroValue45
  t26 := Tryz.underlying3
  a26 := Tryz.isAgg3
  z26 := Tryz.sizeOf3
  v26 := Tryz.zeroValue3
  t28 := Tryz.underlying112
  a28 := Tryz.isAgg112
  z28 := Tryz.sizeOf112
  v28 := Tryz.zeroValue112
  i26 := by kernel_rfl }
def z5w : Go.Shelf.Ren := ⟨fun | 5 => 87 | 8 => 116 | 7 => 115 | 19 => 134 | 20 => 135 | 10 => 125 | 11 => 126 | 12 => 127 | 13 => 128 | 14 => 129 | 15 => 130 | 16 => 131 | 17 => 132 | 18 => 133 | 30 => 143 | 31 => 144 | 32 => 145 | 33 => 146 | 34 => 147 | 35 => 120 | 40 => 156 | n => n, fun | 23 => 45 | 25 => 3 | 3 => 3 | 32 => 190 | 22 => 45 | 0 => 0 | 44 => 203 | 46 => 205 | 4 => 4 | 36 => 197 | 35 => 196 | 41 => 167 | 5 => 5 | 9 => 9 | 53 => 215 | 57 => 219 | 63 => 226 | 64 => 227 | n => n, fun | n => n⟩
theorem j1l : Go.Proofs.SlLaysM.n5 Tryz.prog z5w := {
  mixed := by kernel_rfl
  f5 := ⟨Tryz.f87.name, by decide, Tryz.func87.trans (congrArg some (by kernel_rfl))⟩
  f7 := ⟨Tryz.f115.name, by decide, Tryz.func115.trans (congrArg some (by kernel_rfl))⟩
  f8 := Tryz.func116.trans (congrArg some (by kernel_rfl))
  f10 := ⟨Tryz.f125.name, by decide, Tryz.func125.trans (congrArg some (by kernel_rfl))⟩
  f11 := ⟨Tryz.f126.name, by decide, Tryz.func126.trans (congrArg some (by kernel_rfl))⟩
  f12 := ⟨Tryz.f127.name, by decide, Tryz.func127.trans (congrArg some (by kernel_rfl))⟩
  f13 := ⟨Tryz.f128.name, by decide, Tryz.func128.trans (congrArg some (by kernel_rfl))⟩
  f14 := ⟨Tryz.f129.name, by decide, Tryz.func129.trans (congrArg some (by kernel_rfl))⟩
  f15 := ⟨Tryz.f130.name, by decide, Tryz.func130.trans (congrArg some (by kernel_rfl))⟩
  f16 := ⟨Tryz.f131.name, by decide, Tryz.func131.trans (congrArg some (by kernel_rfl))⟩
  f17 := ⟨Tryz.f132.name, by decide, Tryz.func132.trans (congrArg some (by kernel_rfl))⟩
  f18 := ⟨Tryz.f133.name, by decide, Tryz.func133.trans (congrArg some (by kernel_rfl))⟩
  f19 := Tryz.func134.trans (congrArg some (by kernel_rfl))
  f20 := Tryz.func135.trans (congrArg some (by kernel_rfl))
  f30 := ⟨Tryz.f143.name, by decide, Tryz.func143.trans (congrArg some (by kernel_rfl))⟩
  f31 := Tryz.func144.trans (congrArg some (by kernel_rfl))
  f32 := Tryz.func145.trans (congrArg some (by kernel_rfl))
  f33 := ⟨Tryz.f146.name, by decide, Tryz.func146.trans (congrArg some (by kernel_rfl))⟩
  f34 := ⟨Tryz.f147.name, by decide, Tryz.func147.trans (congrArg some (by kernel_rfl))⟩
  f35 := ⟨Tryz.f120.name, by decide, Tryz.func120.trans (congrArg some (by kernel_rfl))⟩
  f40 := ⟨Tryz.f156.name, by decide, Tryz.func156.trans (congrArg some (by kernel_rfl))⟩
  t0 := Tryz.underlying0
  a0 := Tryz.isAgg0
  z0 := Tryz.sizeOf0
  v0 := Tryz.zeroValue0
  t3 := Tryz.underlying3
  a3 := Tryz.isAgg3
  z3 := Tryz.sizeOf3
  v3 := Tryz.zeroValue3
  t4 := Tryz.underlying4
  a4 := Tryz.isAgg4
  z4 := Tryz.sizeOf4
  v4 := Tryz.zeroValue4
  t5 := Tryz.underlying5
  a5 := Tryz.isAgg5
  z5 := Tryz.sizeOf5
  v5 := Tryz.zeroValue5
  t9 := Tryz.underlying9
  a9 := Tryz.isAgg9
  z9 := Tryz.sizeOf9
  v9 := Tryz.zeroValue9
  t22 := Tryz.underlying45
  a22 := Tryz.isAgg45
  z22 := Tryz.sizeOf45
  v22 := Tryz.zeroValue45
  t23 := Tryz.underlying45
  a23 := Tryz.isAgg45
  z23 := Tryz.sizeOf45
  v23 := Tryz.zeroValue45
  t25 := Tryz.underlying3
  a25 := Tryz.isAgg3
  z25 := Tryz.sizeOf3
  v25 := Tryz.zeroValue3
  t32 := Tryz.underlying190
  a32 := Tryz.isAgg190
  z32 := Tryz.sizeOf190
  v32 := Tryz.zeroValue190
  t35 := Tryz.underlying196
  a35 := Tryz.isAgg196
  z35 := Tryz.sizeOf196
  v35 := Tryz.zeroValue196
  t36 := Tryz.underlying197
  a36 := Tryz.isAgg197
  z36 := Tryz.sizeOf197
  v36 := Tryz.zeroValue197
  t41 := Tryz.underlying167
  a41 := Tryz.isAgg167
  z41 := Tryz.sizeOf167
  v41 := Tryz.zeroValue167
  t44 := Tryz.underlying203
  a44 := Tryz.isAgg203
  z44 := Tryz.sizeOf203
  v44 := Tryz.zeroValue203
  t46 := Tryz.underlying205
  a46 := Tryz.isAgg205
  z46 := Tryz.sizeOf205
  v46 := Tryz.zeroValue205
  t53 := Tryz.underlying215
  a53 := Tryz.isAgg215
  z53 := Tryz.sizeOf215
  v53 := Tryz.zeroValue215
  t57 := Tryz.underlying219
  a57 := Tryz.isAgg219
  z57 := Tryz.sizeOf219
  v57 := Tryz.zeroValue219
  t63 := Tryz.underlying226
  a63 := Tryz.isAgg226
  z63 := Tryz.sizeOf226
  v63 := Tryz.zeroValue226
  t64 := Tryz.underlying227
  a64 := Tryz.isAgg227
  z64 := Tryz.sizeOf227
  v64 := Tryz.zeroValue227 }
theorem j1k (m : Nat) : AnyZI.SortsIn Tryz.prog q8i Fence.wide m :=
  ⟨fun blk off cap ss W hH hblk hsz => callsIn_wide.2 (AnyM.slices_Sort_int j1l blk off cap ss W hH hblk hsz),
   fun p cap W => callsIn_wide.2 (AnyM.slices_Sort_int_none j1l p cap W)⟩
set_option maxHeartbeats 1000000 in
theorem z7D {b : v7} {g gm : Nat} {ads : Int → Nat} {l : List (Int × Option Int)} {hs R : Hp} {q : List Int} (hm : z0n l = some q) (h : OM (RT.int .i64) (OT.fr (RT.key ads)) false false b.w gm l hs) :
 w5 Tryz.prog 49 [.func (.func 88) #[] #[.pointer (some ⟨g, 0, none⟩)]] b ((g, Cl 76 [.map (some gm)]) :: (hs ++ R)) (fun v b' hp' => ∃ (A : Option Addr) (c : Nat) (hs' : Hp), .slice A q.length c = v ∧ (g, Cl 76 [.map (some gm)]) :: (hs' ++ (hs ++ R)) = hp' ∧ OS 3 (OT.fr (RT.int .i64)) b'.w (.slice A q.length c) q hs') := fun w ho => by
  obtain ⟨_, hroom, hm⟩ := q9t hm
  have hroom := J9 hroom
  split at hm
  · rename_i hall
    injection hm with hm
    subst hm
    have hml : maxLen = 9223372036854775807 := by decide
    obtain ⟨D, hown, hperm, hsize⟩ := j0a (kt := 3) ho ((Kb _ _).trans (List.sublist_cons_self _ _)) h (by kernel_rfl) (fun p hp => of_decide_eq_true (List.all_eq_true.1 hall p hp)) (by omega)
    have hcell : w.cell? ⟨g, 0, none⟩ = some (.map (some gm)) := ho.cell (i := 0) (t := 76) (cs := [.map (some gm)]) rfl 0
    have hlt : g < w.heap.size := ho.lt (List.mem_cons_self ..)
    have hseq : SeqGives Fence.wide 2 Tryz.prog 88 #[.pointer (some ⟨g, 0, none⟩)] encZ (fun ss => ss.Perm (intKeys D)) (Maps.size D) w :=
      AnyZI.keys_gives (ρ := z1w) { j3r with } Fence.wide _ trivial rfl (by omega) g gm l.length D w hlt hcell hown
    have cS := AnyZI.sorted_in z9K Fence.wide 5 trivial trivial trivial trivial rfl (by omega) (j1k _) (enters_of Tryz.func87 (by kernel_rfl) rfl) 88 #[.pointer (some ⟨g, 0, none⟩)] trivial (enters_of Tryz.func88 (by kernel_rfl) rfl) _ _ (by omega) (by omega) w hseq
    change CallsIn _ _ Tryz.prog 49 _ _ _ at cS
    refine (callsIn_wide (n := 5)).1 (cS.mono ?_)
    rintro e w' ⟨v, ss, rfl, hS, hrow, hnil, hb⟩
    have hms : ss.mergeSort (fun x y => decide (x ≤ y)) = (l.map (·.1)).mergeSort leI := mergeSort_of_perm_i (hS.trans hperm)
    rw [hms] at hrow
    have hlen : ss.length = ((l.map (·.1)).mergeSort leI).length := by rw [← hms, List.length_mergeSort]
    rw [hlen] at hrow
    generalize (l.map (·.1)).mergeSort leI = q at *
    have hfl : ∀ m : List Int, (m.map fun x => [encZ x]).flatten = m.map encZ := fun m => by induction m with
      | nil => rfl
      | cons a m ih => rw [List.map_cons, List.flatten_cons, ih]; rfl
    have hall2 : ∀ (w : World) (m : List Int), K9 ((RT.int .i64).rep w) (m.map fun x => [encZ x]) m := fun w m => by induction m with
      | nil => trivial
      | cons a m ih => exact ⟨rfl, ih⟩
    obtain ⟨_, h1 | ⟨g2, cap, cur, h1, h2, h3, h4, h5, h6, h7⟩⟩ := hrow
    · obtain ⟨h1, h0⟩ := h1
      have hq0 : q = [] := List.length_eq_zero_iff.1 h0
      subst hq0
      subst h1
      refine ⟨_, b, _, rfl, v7.Le.refl _, ho.below_ hb, none, 0, [], rfl, rfl, OS.nil⟩
    · have hown2 : Own (w : v7) [(g2, Cl 3 cur.toList)] w' := ⟨Nat.le_refl _, hb, q8P hb, by simp, fun g' o' hm => by
          simp at hm
          obtain ⟨rfl, rfl⟩ := hm
          exact ⟨h2, h3⟩, fun g' o' hm p hp => by
          simp at hm
          obtain ⟨rfl, rfl⟩ := hm
          exact q2Y _ _ (by rw [hp]; exact h2), fun g' o' hm => absurd hm (by simp)⟩
      have ho2 := ho.grow hown2
      refine ⟨v, b, (g, Cl 76 [.map (some gm)]) :: ([(g2, Cl 3 cur.toList)] ++ (hs ++ R)), rfl, v7.Le.refl _, ho2.perm (List.Perm.swap _ _ _), some ⟨g2, 0, none⟩, cap, [(g2, Cl 3 cur.toList)], h1.symm, rfl, ?_⟩
      refine ⟨q.map fun x => [encZ x], List.replicate q.length [], [(g2, Cl 3 cur.toList)], .inr ⟨g2, cap, [], cur.toList.drop q.length, rfl, ?_, ?_, ?_, h4, h5, q7g.nil⟩, q4k (hall2 _ _), by simp⟩
      · rw [hfl, ← h7, Nat.mul_one, List.nil_append, List.take_append_drop]
      · rw [hfl]; show (q.map encZ).length = q.length * 1; simp
      · rw [hfl, ← h7, Nat.mul_one, List.take_append_drop]
        show cap * 1 ≤ _
        simp [h6]
  · cases hm
end Go.Proofs.YtjlollifgeggdaaGreatDoor
namespace Go.Proofs.YtjlollifgeggdaaGreatDoor
open Go.RowKit Go.Fp
def z9H (s : w7) : Value := .agg #[.int .i64 s.Section, .int .i64 s.In, .int .i64 s.Out]
theorem z6j {N : Nat} : ∀ (k m : Nat), forM (σ := Unit) (τ := Empty) (fun _ _ => some (.inl ())) m k () = some (.inl ())
  | _, 0 => rfl
  | k, m + 1 => z6j (N := N) (k + 1) m
def z7e : Prop := ∀ (b : v7) (R : Hp) (s1 : j1) (s17 : j8) (A2 : Option Addr) (c3 : Nat) (A5 : Option Addr) (c6 : Nat) (A8 : Option Addr) (c9 : Nat) (A11 : Option Addr) (c12 : Nat) (A14 : Option Addr) (c15 : Nat) (h4 : FZ RT.str b.w A2 c3 s1.Stations) (h7 : FZ j5 b.w A5 c6 s1.Sections) (h10 : FZ w9 b.w A8 c9 s1.Links) (h13 : FZ j6 b.w A11 c12 s1.Signals) (h16 : FZ k7 b.w A14 c15 s1.Gates) (x : Int) (y : Int) (q : Bool) (hm : W8 s1 s17 = some (x, y, q)),
  w5 Tryz.prog 98 [.agg #[.slice A2 (s1.Stations).length c3, .slice A5 (s1.Sections).length c6, .slice A8 (s1.Links).length c9, .slice A11 (s1.Signals).length c12, .slice A14 (s1.Gates).length c15], .agg #[.int .i64 (s17.section_), .int .i64 (s17.end_)]] b (R) (fun v b' hp' => .tuple #[.agg #[.int .i64 (x), .int .i64 (y)], .bool (q)] = v ∧ R = hp')
def j2H : Prop := ∀ (b : v7) (R : Hp) (x1 : Int) (x2 : Int) (l : (List Int)) (hm : q1g x1 x2 = some l),
  w5 Tryz.prog 105 [.int .i64 (x1), .int .i64 (x2)] b (R) (fun v b' hp' => ∃ (A : Option Addr), ∃ (c : Nat), .slice A (l).length c = v ∧ R = hp' ∧ FZ (RT.int .i64) b'.w A c l)
set_option maxRecDepth 20000 in
theorem z4n (cj : z7e) (co : j2H) {b : v7} {s1 : j1} {s17 : j8} {A2 : Option Addr} {c3 : Nat} {A5 : Option Addr} {c6 : Nat} {A8 : Option Addr} {c9 : Nat} {A11 : Option Addr} {c12 : Nat} {A14 : Option Addr} {c15 : Nat} (h4 : FZ RT.str b.w A2 c3 s1.Stations) (h7 : FZ j5 b.w A5 c6 s1.Sections) (h10 : FZ w9 b.w A8 c9 s1.Links) (h13 : FZ j6 b.w A11 c12 s1.Signals) (h16 : FZ k7 b.w A14 c15 s1.Gates)
    {Bn Bf : Nat} (hn : ∀ (i : Nat) (u : Value), ([.slice A2 (s1.Stations).length c3, .slice A5 (s1.Sections).length c6, .slice A8 (s1.Links).length c9, .slice A11 (s1.Signals).length c12, .slice A14 (s1.Gates).length c15] : List Value)[i]? = some u → b.w.cell? ((⟨Bn, 0, none⟩ : Addr).add i) = some u)
    (hf : ∀ (i : Nat) (u : Value), ([.int .i64 (s17.section_), .int .i64 (s17.end_)] : List Value)[i]? = some u → b.w.cell? ((⟨Bf, 0, none⟩ : Addr).add i) = some u) {xs : List w7} (hm : P3 s1 s17 = some xs) :
    j2I Tryz.prog 121 #[.pointer (some ⟨Bn, 0, none⟩), .pointer (some ⟨Bf, 0, none⟩)] b (xs.map z9H) := by
  have G7 : q7V Tryz.prog 28 5 = true := by kernel_rfl
  have agg77 : q7V Tryz.prog 131 2 = true := by kernel_rfl
  have z6A : j0 Tryz.prog 98 = true := by kernel_rfl
  have z4b : j0 Tryz.prog 105 = true := by kernel_rfl
  have zero77 : ((Tryz.prog.info? 131).bind (·.zero)) = some (.agg #[.int .i64 0, .int .i64 0]) := by kernel_rfl
  have siz77 : q3X Tryz.prog 131 2 = true := by kernel_rfl
  have q0J : q0s Tryz.prog 28 1 1 = true := by kernel_rfl
  have fld77_0 : q0s Tryz.prog 131 0 0 = true := by kernel_rfl
  have fld77_1 : q0s Tryz.prog 131 1 1 = true := by kernel_rfl
  have fld58_0 : q0s Tryz.prog 108 0 0 = true := by kernel_rfl
  have q4B : q4n Tryz.prog 23 = true := by kernel_rfl
  have Q3 : q4n Tryz.prog 3 = true := by kernel_rfl
  have z0o : slT Tryz.prog 23 108 7 = true := by kernel_rfl
  have sl48 : slT Tryz.prog 45 3 1 = true := by kernel_rfl
  have mixed : Tryz.prog.follows .mixedOrders = true := by kernel_rfl
  intro b0 hp0 w hle how l Rd Rx hY h0
  have h4 := h4.le hle
  have h7 := h7.le hle
  have h10 := h10.le hle
  have h13 := h13.le hle
  have h16 := h16.le hle
  have hn := z6V hn hle
  have hf := z6V hf hle
  unfold P3 at hm
  refine j0q (fn := Tryz.f121) (args := [.func (.yield l) #[] #[], .pointer (some ((⟨Bn, 0, none⟩ : Addr).add 0)), .pointer (some ((⟨Bf, 0, none⟩ : Addr).add 0))]) (w0 := b0) (hp := hp0) 41 Tryz.func121 rfl Tryz.ntmps121 rfl ?_ w how
  refine q2t ?_
  refine q0r ?_
  refine q5s rfl (q8h (vs := [.slice A2 (s1.Stations).length c3, .slice A5 (s1.Sections).length c6, .slice A8 (s1.Links).length c9, .slice A11 (s1.Signals).length c12, .slice A14 (s1.Gates).length c15]) 5 rfl G7 rfl (fun j u hu => by rw [Nat.zero_add]; exact hn j u hu)) ?_
  refine q5s rfl (q8h (vs := [.int .i64 (s17.section_), .int .i64 (s17.end_)]) 2 rfl agg77 rfl (fun j u hu => by rw [Nat.zero_add]; exact hf j u hu)) ?_
  obtain ⟨⟨x, y, q⟩, hcl4, hm⟩ := q9t hm
  have hm := (q5i hm)
  refine q8c _ rfl z6A rfl (cj _ _ s1 s17 A2 c3 A5 c6 A8 c9 A11 c12 A14 c15 h4 h7 h10 h13 h16 x y q hcl4) ?_
  rintro _ b5 _ hle6 ⟨rfl, rfl⟩
  refine q5s rfl (q2O rfl) ?_
  refine q5s rfl (v6 rfl rfl) ?_
  refine q5s rfl (v6 rfl rfl) ?_
  refine q9A rfl (q7Z [.int .i64 0, .int .i64 0] zero77 rfl) ?_
  rintro _ _ ⟨g7, rfl, rfl⟩
  refine q9A rfl (q3T (vs := [_, _]) 0 2 rfl rfl rfl siz77 rfl (by intro u hu; simp only [List.mem_cons, List.not_mem_nil, or_false] at hu; rcases hu with rfl | rfl <;> rfl) rfl (by simp)) ?_
  rintro _ _ rfl
  refine q5s rfl (q1w rfl) ?_
  refine q5t ?_
  refine Q0 ?_
  refine z6L 0 rfl ?_
  intro b7 hle8 hz
  have hq := j0M hz
  refine q2t ?_
  refine q2t ?_
  refine q0r ?_
  refine q5s rfl (q2O rfl) ?_
  refine q5s rfl (q5O rfl) ?_
  refine q5t ?_
  refine Q0 ?_
  refine z1M _ rfl (fun hc => ?_) (fun hc => ?_)
  · have hqf : q = false := by simpa using hc
    subst hqf
    obtain rfl := z4w hm
    refine q3B ?_
    refine W5 ?_
    intro a w' hft ho'
    exact z2E hft ⟨_, results_none rfl _ _ _, ⟨_, rfl⟩, b0, hp0, v7.Le.refl _, (hle6.trans hle8).back _ _ ho', .inl h0⟩
  have hqt : q = true := by simpa using hc
  subst hqt
  obtain ⟨p, hp, hm⟩ := q9t (by simpa using hm)
  obtain ⟨o, hom, hm⟩ := q9t hm
  obtain rfl := z4w hm
  refine q3r ?_
  refine Q0 ?_
  refine q2t ?_
  have h7' := h7.le (hle6.trans hle8)
  have hn' := z6V hn (hle6.trans hle8)
  refine z3a (hp0) mixed ?_
  refine j0P (v7.Le.refl _) (.refl _) ?_
  refine z7f 0 rfl (q2P rfl q0J) ?_
  refine z9p 1 rfl (q3D rfl q4B (hn' 1 _ rfl)) ?_
  refine z7f 2 rfl (q2P (p := ⟨g7, 0, none⟩) (k := 0) rfl fld77_0) ?_
  refine z9p 3 rfl (q3D rfl Q3 (hq 0 _ rfl)) ?_
  obtain ⟨j20, hj21, hx22⟩ := q5g hp
  obtain ⟨cs23, hr24, hcs25, hA26, hlt27⟩ := FZ.get (sz := 7) rfl (by decide) h7' hx22
  obtain ⟨_, _, rfl, rfl, ⟨_, _, rfl, rfl, ⟨_, _, rfl, rfl, ⟨_, _, rfl, rfl, ⟨_, _, rfl, rfl, ⟨_, _, rfl, rfl, rfl⟩⟩⟩⟩⟩⟩ := hr24
  refine z7f 4 rfl (q1r j20 rfl rfl hj21 hlt27 hA26 z0o) ?_
  refine z7f 5 rfl (q2m rfl hA26 fld58_0) ?_
  refine z9p 6 rfl (q1T rfl Q3 (hcs25 0 _ rfl)) ?_
  refine z7f 7 rfl (q2P (p := ⟨g7, 0, none⟩) (k := 0) rfl fld77_1) ?_
  refine z9p 8 rfl (q3D rfl Q3 (hq 1 _ rfl)) ?_
  refine z7f 11 rfl (q2O rfl) ?_
  refine z5c ?_
  refine z7g [9] (by kernel_rfl) rfl ?_
  refine q7W (v7.Le.refl _) rfl rfl _ z4b rfl (co _ _ p.Kind y o hom) ?_ ?_
  case refine_2 => exact z7c
  rintro _ b30 _ hle31 ⟨A32, c33, rfl, rfl, h34⟩
  refine ⟨.inr (.refl _), ?_⟩
  refine j0P hle31 (.refl _) ?_
  refine z7f 10 rfl (z1i rfl sl48) ?_
  refine z5c ?_
  refine z2a (by kernel_rfl) ?_
  refine Q0 ?_
  refine q6V ?_
  have hle : b0.Le b30 := (hle6.trans hle8).trans hle31
  have hb : o.length ≤ 9223372036854775807 := h34.bd
  refine z6M (τ := Empty) (Inv := fun k _ b e' hp' => (∃ b1, Rd k b1 hp' ∧ b0.Le b1 ∧ b1.Le b) ∧ b30.Le b ∧ [(0, .func (.yield l) #[] #[]), (4, .pointer (some ((⟨g7, 0, none⟩ : Addr).add 0))), (25, .slice A32 (o).length c33), (26, .int .i64 ((o.length : Int))), (27, .int .i64 (k : Int))] = e') (z6j (N := 0) 0 o.length)
    (e' := [(0, .func (.yield l) #[] #[]), (4, .pointer (some ((⟨g7, 0, none⟩ : Addr).add 0))), (25, .slice A32 (o).length c33), (26, .int .i64 ((o.length : Int))), (27, .int .i64 ((0 : Nat) : Int))]) (hp' := hp0) ⟨rfl, rfl, rfl, rfl, rfl, trivial⟩ (.refl _) ⟨⟨b0, h0, v7.Le.refl _, hle⟩, v7.Le.refl _, rfl⟩ ?_ ?_
  ·
    rintro k _ bk _ hpk oo hk ⟨⟨b1, hr, hb1, hb2⟩, hb3, rfl⟩ hoo _
    obtain rfl := (Kd hoo)
    refine q2t ?_
    refine q0r ?_
    refine q5s rfl (q5P rfl rfl (by omega)) ?_
    refine q5t ?_
    refine Q0 ?_
    refine q2t ?_
    refine w6 rfl ?_
    refine q3r ?_
    refine Q0 ?_
    refine q2t ?_
    refine q6V ?_
    refine q2t ?_
    refine q0r ?_
    have hx12 : o[k]? = some o[k] := Kf hk
    obtain ⟨cs13, hr14, hcs15, hA16, hlt17⟩ := FZ.get (sz := 1) rfl (by decide) (h34.le hb3) hx12
    obtain rfl := hr14
    refine q5s rfl (q1r k rfl rfl rfl hlt17 hA16 sl48) ?_
    refine q5s rfl (q1T rfl Q3 (hcs15 0 _ rfl)) ?_
    refine q5s rfl (q1w rfl) ?_
    refine q5t ?_
    refine Q0 ?_
    refine q2t ?_
    refine q0r ?_
    have hq := z6V hq (hle31.trans hb3)
    refine q5s rfl (q2O rfl) ?_
    refine q5s rfl (q2P (p := ⟨g7, 0, none⟩) (k := 0) rfl fld77_0) ?_
    refine q5s rfl (q3D rfl Q3 (hq 0 _ rfl)) ?_
    refine q5s rfl (q2P (p := ⟨g7, 0, none⟩) (k := 0) rfl fld77_1) ?_
    refine q5s rfl (q3D rfl Q3 (hq 1 _ rfl)) ?_
    refine q5s rfl (q2O rfl) ?_
    refine q5s rfl (q7H (v := .agg #[.int .i64 (x), .int .i64 (y), .int .i64 (o[k])]) [(0, .int .i64 (x)), (1, .int .i64 (y)), (2, .int .i64 (o[k]))] rfl (fun _ => by kernel_rfl)) ?_
    refine z9F (K := fun q b3 hp3 => (q = true ∧ Rd (k + 1) b3 hp3) ∨ (q = false ∧ Rx b3 hp3)) rfl rfl rfl (fun W hW => ?_) ?_
    · obtain ⟨fn, tmps, assign, body, g1, g2⟩ := hY k (z9H ⟨x, y, o[k]⟩) b1 hpk (by simp [hk]) hb1 hr bk hb2 W hW
      refine ⟨fn, tmps, assign, body, g1, g2.mono ?_⟩
      rintro e w' ⟨b3, hp3, k1, k2, ⟨rfl, k3⟩ | ⟨rfl, k3⟩⟩
      · exact ⟨true, b3, hp3, rfl, k1, k2, .inl ⟨rfl, k3⟩⟩
      · exact ⟨false, b3, hp3, rfl, k1, k2, .inr ⟨rfl, k3⟩⟩
    · rintro q b3 hp3 hbb (⟨rfl, hr3⟩ | ⟨rfl, hx3⟩)
      · refine q5s rfl (q5O rfl) ?_
        refine q5t ?_
        refine Q0 ?_
        refine v8 rfl ?_
        refine q3r ?_
        refine q1d ?_
        refine Q0 ?_
        refine q0r ?_
        refine q5s rfl (z1k rfl rfl (by omega)) ?_
        refine q5s rfl (q2O rfl) ?_
        refine q5t ?_
        exact z3f () rfl (e' := [(0, .func (.yield l) #[] #[]), (4, .pointer (some ((⟨g7, 0, none⟩ : Addr).add 0))), (25, .slice A32 (o).length c33), (26, .int .i64 ((o.length : Int))), (27, .int .i64 ((k : Int) + 1))]) (hp' := hp3) ⟨rfl, rfl, rfl, rfl, rfl, trivial⟩ (.refl _) ⟨⟨b3, hr3, (hb1.trans hb2).trans hbb, v7.Le.refl _⟩, hb3.trans hbb, rfl⟩
      · refine q5s rfl (q5O rfl) ?_
        refine q5t ?_
        refine Q0 ?_
        refine w6 rfl ?_
        refine q3B ?_
        refine q1S ?_
        refine W5 ?_
        refine W5 ?_
        refine q1S ?_
        intro a w' hft ho'
        exact z2E hft ⟨_, results_none rfl _ _ _, ⟨_, rfl⟩, b3, hp3, (hb1.trans hb2).trans hbb, ho', .inr hx3⟩
  ·
    rintro _ bk _ hpk ⟨⟨b1, hr, hb1, hb2⟩, hb3, rfl⟩ _
    refine q2t ?_
    refine q0r ?_
    refine q5s rfl (q5Q rfl rfl (by omega)) ?_
    refine q5t ?_
    refine Q0 ?_
    refine q2t ?_
    refine v8 rfl ?_
    refine z1L ?_
    refine q1R ?_
    refine q1R ?_
    refine q2L ?_
    intro a w' hft ho'
    exact z2E hft ⟨_, results_none rfl _ _ _, ⟨_, rfl⟩, b1, hpk, hb1, hb2.back _ _ ho', .inl (by simpa using hr)⟩
set_option maxRecDepth 20000 in
theorem z9w (cj : z7e) (co : j2H) {b : v7} {R : Hp} {s1 : j1} {s17 : j8} {A2 : Option Addr} {c3 : Nat} {A5 : Option Addr} {c6 : Nat} {A8 : Option Addr} {c9 : Nat} {A11 : Option Addr} {c12 : Nat} {A14 : Option Addr} {c15 : Nat} (h4 : FZ RT.str b.w A2 c3 s1.Stations) (h7 : FZ j5 b.w A5 c6 s1.Sections) (h10 : FZ w9 b.w A8 c9 s1.Links) (h13 : FZ j6 b.w A11 c12 s1.Signals) (h16 : FZ k7 b.w A14 c15 s1.Gates) {xs : List w7} (hm : P3 s1 s17 = some xs) :
 w5 Tryz.prog 99 [.agg #[.slice A2 (s1.Stations).length c3, .slice A5 (s1.Sections).length c6, .slice A8 (s1.Links).length c9, .slice A11 (s1.Signals).length c12, .slice A14 (s1.Gates).length c15], .agg #[.int .i64 (s17.section_), .int .i64 (s17.end_)]] b (R) (fun v b' hp' => ∃ (v10 : Value), v10 = v ∧ R = hp' ∧ j0O Tryz.prog b' v10 (xs.map z9H)) := by
  refine q4J 6 Tryz.func99 rfl Tryz.ntmps99 rfl ?_
  refine q2t ?_
  refine q0r ?_
  refine q9A rfl (z4q _ rfl rfl) ?_
  rintro _ _ ⟨g1, rfl, rfl⟩
  refine q9A rfl (z4q _ rfl rfl) ?_
  rintro _ _ ⟨g2, rfl, rfl⟩
  refine q5s rfl (q1w rfl) ?_
  refine q5t ?_
  refine Q0 ?_
  refine z6L 0 rfl ?_
  intro b1 hle1 hz1
  have hf := j0M hz1
  refine z6L 0 rfl ?_
  intro b2 hle2 hz2
  have hn := j0M hz2
  have hf := z6V hf hle2
  refine q2t ?_
  refine q0r ?_
  refine q5s rfl (q3V _ _ rfl rfl) ?_
  refine q5s rfl (q1w rfl) ?_
  refine q5t ?_
  refine Q0 ?_
  refine q3B ?_
  have hle := hle1.trans hle2
  exact j3K (rs := [.tmp 4]) [.func (.func 121) #[] #[.pointer (some ⟨g1, 0, none⟩), .pointer (some ⟨g2, 0, none⟩)]] hle (by decide) rfl ⟨rfl, trivial⟩ rfl (hp' := R) (.refl _) ⟨_, rfl, rfl, _, _, rfl, by kernel_rfl, z4n cj co (b := b2.over b) (h4.le hle.over) (h7.le hle.over) (h10.le hle.over) (h13.le hle.over) (h16.le hle.over) hn hf hm⟩
end Go.Proofs.YtjlollifgeggdaaGreatDoor
namespace Go.Fp
open Go.RowKit
section
variable {P : Program} {n : NT} {b : v7} {Q : Exit → Act → World → Prop} {e : Env}
theorem j0v {c : Code} {a0 : Nat × Obj} (h1 h2 : Hp) {R : Hp} (h : SLc P n b Q c e ([a0] ++ (h2 ++ (h1 ++ R)))) : SLc P n b Q c e ([a0] ++ (h1 ++ (h2 ++ R))) := z4g _ h1 h2 R rfl h
theorem j1V {c : Code} {a0 a1 a2 : Nat × Obj} (h1 h2 : Hp) {R : Hp} (h : SLc P n b Q c e ([a0, a1, a2] ++ (h2 ++ (h1 ++ R)))) : SLc P n b Q c e ([a0, a1, a2] ++ (h1 ++ (h2 ++ R))) := z4g _ h1 h2 R rfl h
theorem j0u {c : Code} {a0 : Nat × Obj} (h1 h2 h3 : Hp) {R : Hp} (h : SLc P n b Q c e ([a0] ++ (h3 ++ (h1 ++ (h2 ++ R))))) : SLc P n b Q c e ([a0] ++ (h1 ++ (h2 ++ (h3 ++ R)))) := q7U _ h1 h2 h3 R rfl h
theorem z1H {c : Code} {a0 a1 : Nat × Obj} (h1 h2 h3 : Hp) {R : Hp} (h : SLc P n b Q c e ([a0, a1] ++ (h3 ++ (h1 ++ (h2 ++ R))))) : SLc P n b Q c e ([a0, a1] ++ (h1 ++ (h2 ++ (h3 ++ R)))) := q7U _ h1 h2 h3 R rfl h
theorem z0O {c : Code} {a0 a1 a2 : Nat × Obj} (h1 h2 h3 : Hp) {R : Hp} (h : SLc P n b Q c e ([a0, a1, a2] ++ (h3 ++ (h1 ++ (h2 ++ R))))) : SLc P n b Q c e ([a0, a1, a2] ++ (h1 ++ (h2 ++ (h3 ++ R)))) := q7U _ h1 h2 h3 R rfl h
theorem z4W {c : Code} {a0 a1 a2 a3 a4 : Nat × Obj} (h1 h2 h3 : Hp) {R : Hp} (h : SLc P n b Q c e ([a0, a1, a2, a3, a4] ++ (h3 ++ (h1 ++ (h2 ++ R))))) : SLc P n b Q c e ([a0, a1, a2, a3, a4] ++ (h1 ++ (h2 ++ (h3 ++ R)))) := q7U _ h1 h2 h3 R rfl h
theorem q1L {c : Code} {a0 : Nat × Obj} (h1 h2 h3 h4 : Hp) {R : Hp} (h : SLc P n b Q c e ([a0] ++ (h4 ++ (h1 ++ (h2 ++ (h3 ++ R)))))) : SLc P n b Q c e ([a0] ++ (h1 ++ (h2 ++ (h3 ++ (h4 ++ R))))) := z8u _ h1 h2 h3 h4 R rfl h
theorem H5 {c : Code} {a0 : Nat × Obj} (h1 h2 h3 h4 h5 : Hp) {R : Hp} (h : SLc P n b Q c e ([a0] ++ (h5 ++ (h1 ++ (h2 ++ (h3 ++ (h4 ++ R))))))) : SLc P n b Q c e ([a0] ++ (h1 ++ (h2 ++ (h3 ++ (h4 ++ (h5 ++ R)))))) := z4f _ h1 h2 h3 h4 h5 R rfl h
theorem q4g {c : Code} {a0 a1 : Nat × Obj} (h1 h2 h3 h4 h5 : Hp) {R : Hp} (h : SLc P n b Q c e ([a0, a1] ++ (h5 ++ (h1 ++ (h2 ++ (h3 ++ (h4 ++ R))))))) : SLc P n b Q c e ([a0, a1] ++ (h1 ++ (h2 ++ (h3 ++ (h4 ++ (h5 ++ R)))))) := z4f _ h1 h2 h3 h4 h5 R rfl h
theorem z8s {c : Code} {a0 : Nat × Obj} (h1 h2 h3 h4 h5 h6 : Hp) {R : Hp} (h : SLc P n b Q c e ([a0] ++ (h6 ++ (h1 ++ (h2 ++ (h3 ++ (h4 ++ (h5 ++ R)))))))) : SLc P n b Q c e ([a0] ++ (h1 ++ (h2 ++ (h3 ++ (h4 ++ (h5 ++ (h6 ++ R))))))) := z4e _ h1 h2 h3 h4 h5 h6 R rfl h
theorem j3C {c : Code} {a0 a1 : Nat × Obj} (h1 h2 h3 h4 h5 h6 : Hp) {R : Hp} (h : SLc P n b Q c e ([a0, a1] ++ (h6 ++ (h1 ++ (h2 ++ (h3 ++ (h4 ++ (h5 ++ R)))))))) : SLc P n b Q c e ([a0, a1] ++ (h1 ++ (h2 ++ (h3 ++ (h4 ++ (h5 ++ (h6 ++ R))))))) := z4e _ h1 h2 h3 h4 h5 h6 R rfl h
theorem j3B {w0 : v7} {ops : Array Oper} {S : Hp} {fuel : Nat} {listed : Array Bool} {a0 a1 a2 : Nat × Obj} (h1 h2 : Hp) {R : Hp} (h : SLA P n w0 b ops S Q fuel listed e ([a0, a1, a2] ++ (h2 ++ (h1 ++ R)))) : SLA P n w0 b ops S Q fuel listed e ([a0, a1, a2] ++ (h1 ++ (h2 ++ R))) := z3W _ h1 h2 R rfl h
theorem j3A {w0 : v7} {ops : Array Oper} {S : Hp} {fuel : Nat} {listed : Array Bool} {a0 a1 : Nat × Obj} (h1 h2 h3 : Hp) {R : Hp} (h : SLA P n w0 b ops S Q fuel listed e ([a0, a1] ++ (h3 ++ (h1 ++ (h2 ++ R))))) : SLA P n w0 b ops S Q fuel listed e ([a0, a1] ++ (h1 ++ (h2 ++ (h3 ++ R)))) := q6p _ h1 h2 h3 R rfl h
theorem z8l {w0 : v7} {ops : Array Oper} {S : Hp} {fuel : Nat} {listed : Array Bool} {a0 a1 a2 : Nat × Obj} (h1 h2 h3 : Hp) {R : Hp} (h : SLA P n w0 b ops S Q fuel listed e ([a0, a1, a2] ++ (h3 ++ (h1 ++ (h2 ++ R))))) : SLA P n w0 b ops S Q fuel listed e ([a0, a1, a2] ++ (h1 ++ (h2 ++ (h3 ++ R)))) := q6p _ h1 h2 h3 R rfl h
theorem z4U {w0 : v7} {ops : Array Oper} {S : Hp} {fuel : Nat} {listed : Array Bool} {a0 a1 a2 a3 : Nat × Obj} (h1 h2 h3 : Hp) {R : Hp} (h : SLA P n w0 b ops S Q fuel listed e ([a0, a1, a2, a3] ++ (h3 ++ (h1 ++ (h2 ++ R))))) : SLA P n w0 b ops S Q fuel listed e ([a0, a1, a2, a3] ++ (h1 ++ (h2 ++ (h3 ++ R)))) := q6p _ h1 h2 h3 R rfl h
theorem j3z {w0 : v7} {ops : Array Oper} {S : Hp} {fuel : Nat} {listed : Array Bool} {a0 a1 : Nat × Obj} (h1 h2 h3 h4 h5 h6 : Hp) {R : Hp} (h : SLA P n w0 b ops S Q fuel listed e ([a0, a1] ++ (h6 ++ (h1 ++ (h2 ++ (h3 ++ (h4 ++ (h5 ++ R)))))))) : SLA P n w0 b ops S Q fuel listed e ([a0, a1] ++ (h1 ++ (h2 ++ (h3 ++ (h4 ++ (h5 ++ (h6 ++ R))))))) := z3V _ h1 h2 h3 h4 h5 h6 R rfl h
theorem j1S {w0 : v7} {ops : Array Oper} {S : Hp} {fuel : Nat} {listed : Array Bool} {a0 a1 a2 : Nat × Obj} (h1 h2 h3 h4 h5 h6 : Hp) {R : Hp} (h : SLA P n w0 b ops S Q fuel listed e ([a0, a1, a2] ++ (h6 ++ (h1 ++ (h2 ++ (h3 ++ (h4 ++ (h5 ++ R)))))))) : SLA P n w0 b ops S Q fuel listed e ([a0, a1, a2] ++ (h1 ++ (h2 ++ (h3 ++ (h4 ++ (h5 ++ (h6 ++ R))))))) := z3V _ h1 h2 h3 h4 h5 h6 R rfl h
theorem j3y {w0 : v7} {ops : Array Oper} {S : Hp} {fuel : Nat} {listed : Array Bool} {a0 a1 : Nat × Obj} (h1 h2 h3 h4 h5 h6 h7 : Hp) {R : Hp} (h : SLA P n w0 b ops S Q fuel listed e ([a0, a1] ++ (h7 ++ (h1 ++ (h2 ++ (h3 ++ (h4 ++ (h5 ++ (h6 ++ R))))))))) : SLA P n w0 b ops S Q fuel listed e ([a0, a1] ++ (h1 ++ (h2 ++ (h3 ++ (h4 ++ (h5 ++ (h6 ++ (h7 ++ R)))))))) := z8m _ h1 h2 h3 h4 h5 h6 h7 R rfl h
theorem j1e {ops : Array Oper} {l : List Oper} {a0 : Nat × Obj} (h1 h2 : Hp) {R : Hp} (h : SLo P n b ops Q l e ([a0] ++ (h2 ++ (h1 ++ R)))) : SLo P n b ops Q l e ([a0] ++ (h1 ++ (h2 ++ R))) := z0j _ h1 h2 R rfl h
theorem q8Y {ops : Array Oper} {l : List Oper} {a0 a1 : Nat × Obj} (h1 h2 : Hp) {R : Hp} (h : SLo P n b ops Q l e ([a0, a1] ++ (h2 ++ (h1 ++ R)))) : SLo P n b ops Q l e ([a0, a1] ++ (h1 ++ (h2 ++ R))) := z0j _ h1 h2 R rfl h
theorem j1d {ops : Array Oper} {l : List Oper} {a0 a1 a2 : Nat × Obj} (h1 h2 : Hp) {R : Hp} (h : SLo P n b ops Q l e ([a0, a1, a2] ++ (h2 ++ (h1 ++ R)))) : SLo P n b ops Q l e ([a0, a1, a2] ++ (h1 ++ (h2 ++ R))) := z0j _ h1 h2 R rfl h
theorem j1c {ops : Array Oper} {l : List Oper} {a0 : Nat × Obj} (h1 h2 h3 : Hp) {R : Hp} (h : SLo P n b ops Q l e ([a0] ++ (h3 ++ (h1 ++ (h2 ++ R))))) : SLo P n b ops Q l e ([a0] ++ (h1 ++ (h2 ++ (h3 ++ R)))) := z0i _ h1 h2 h3 R rfl h
theorem z4r {ops : Array Oper} {l : List Oper} {a0 a1 : Nat × Obj} (h1 h2 h3 : Hp) {R : Hp} (h : SLo P n b ops Q l e ([a0, a1] ++ (h3 ++ (h1 ++ (h2 ++ R))))) : SLo P n b ops Q l e ([a0, a1] ++ (h1 ++ (h2 ++ (h3 ++ R)))) := z0i _ h1 h2 h3 R rfl h
theorem q5r {ops : Array Oper} {l : List Oper} {a0 a1 a2 a3 a4 : Nat × Obj} (h1 h2 h3 : Hp) {R : Hp} (h : SLo P n b ops Q l e ([a0, a1, a2, a3, a4] ++ (h3 ++ (h1 ++ (h2 ++ R))))) : SLo P n b ops Q l e ([a0, a1, a2, a3, a4] ++ (h1 ++ (h2 ++ (h3 ++ R)))) := z0i _ h1 h2 h3 R rfl h
theorem q1n {ops : Array Oper} {l : List Oper} {a0 : Nat × Obj} (h1 h2 h3 h4 : Hp) {R : Hp} (h : SLo P n b ops Q l e ([a0] ++ (h4 ++ (h1 ++ (h2 ++ (h3 ++ R)))))) : SLo P n b ops Q l e ([a0] ++ (h1 ++ (h2 ++ (h3 ++ (h4 ++ R))))) := z3i _ h1 h2 h3 h4 R rfl h
theorem q8X {ops : Array Oper} {l : List Oper} {a0 a1 : Nat × Obj} (h1 h2 h3 h4 : Hp) {R : Hp} (h : SLo P n b ops Q l e ([a0, a1] ++ (h4 ++ (h1 ++ (h2 ++ (h3 ++ R)))))) : SLo P n b ops Q l e ([a0, a1] ++ (h1 ++ (h2 ++ (h3 ++ (h4 ++ R))))) := z3i _ h1 h2 h3 h4 R rfl h
theorem q0X {ops : Array Oper} {l : List Oper} {a0 : Nat × Obj} (h1 h2 h3 h4 h5 : Hp) {R : Hp} (h : SLo P n b ops Q l e ([a0] ++ (h5 ++ (h1 ++ (h2 ++ (h3 ++ (h4 ++ R))))))) : SLo P n b ops Q l e ([a0] ++ (h1 ++ (h2 ++ (h3 ++ (h4 ++ (h5 ++ R)))))) := z7z _ h1 h2 h3 h4 h5 R rfl h
theorem z7w {ops : Array Oper} {l : List Oper} {a0 : Nat × Obj} (h1 h2 h3 h4 h5 h6 : Hp) {R : Hp} (h : SLo P n b ops Q l e ([a0] ++ (h6 ++ (h1 ++ (h2 ++ (h3 ++ (h4 ++ (h5 ++ R)))))))) : SLo P n b ops Q l e ([a0] ++ (h1 ++ (h2 ++ (h3 ++ (h4 ++ (h5 ++ (h6 ++ R))))))) := z7y _ h1 h2 h3 h4 h5 h6 R rfl h
theorem j2X {ex : Exit} {a0 : Nat × Obj} (h1 h2 : Hp) {R : Hp} (h : SLx n b Q ex e ([a0] ++ (h2 ++ (h1 ++ R)))) : SLx n b Q ex e ([a0] ++ (h1 ++ (h2 ++ R))) := q7C _ h1 h2 R rfl h
theorem j0V {ex : Exit} {a0 a1 : Nat × Obj} (h1 h2 : Hp) {R : Hp} (h : SLx n b Q ex e ([a0, a1] ++ (h2 ++ (h1 ++ R)))) : SLx n b Q ex e ([a0, a1] ++ (h1 ++ (h2 ++ R))) := q7C _ h1 h2 R rfl h
theorem q1c {ex : Exit} {a0 a1 : Nat × Obj} (h1 h2 h3 : Hp) {R : Hp} (h : SLx n b Q ex e ([a0, a1] ++ (h3 ++ (h1 ++ (h2 ++ R))))) : SLx n b Q ex e ([a0, a1] ++ (h1 ++ (h2 ++ (h3 ++ R)))) := q7B _ h1 h2 h3 R rfl h
theorem q1u {ex : Exit} {a0 a1 a2 : Nat × Obj} (h1 h2 h3 : Hp) {R : Hp} (h : SLx n b Q ex e ([a0, a1, a2] ++ (h3 ++ (h1 ++ (h2 ++ R))))) : SLx n b Q ex e ([a0, a1, a2] ++ (h1 ++ (h2 ++ (h3 ++ R)))) := q7B _ h1 h2 h3 R rfl h
theorem z5k {ex : Exit} {a0 : Nat × Obj} (h1 h2 h3 h4 : Hp) {R : Hp} (h : SLx n b Q ex e ([a0] ++ (h4 ++ (h1 ++ (h2 ++ (h3 ++ R)))))) : SLx n b Q ex e ([a0] ++ (h1 ++ (h2 ++ (h3 ++ (h4 ++ R))))) := q7A _ h1 h2 h3 h4 R rfl h
theorem z4l {ex : Exit} {a0 a1 : Nat × Obj} (h1 h2 h3 h4 : Hp) {R : Hp} (h : SLx n b Q ex e ([a0, a1] ++ (h4 ++ (h1 ++ (h2 ++ (h3 ++ R)))))) : SLx n b Q ex e ([a0, a1] ++ (h1 ++ (h2 ++ (h3 ++ (h4 ++ R))))) := q7A _ h1 h2 h3 h4 R rfl h
theorem j2W {ex : Exit} {a0 : Nat × Obj} (h1 h2 h3 h4 h5 : Hp) {R : Hp} (h : SLx n b Q ex e ([a0] ++ (h5 ++ (h1 ++ (h2 ++ (h3 ++ (h4 ++ R))))))) : SLx n b Q ex e ([a0] ++ (h1 ++ (h2 ++ (h3 ++ (h4 ++ (h5 ++ R)))))) := z0a _ h1 h2 h3 h4 h5 R rfl h
theorem z7q {ex : Exit} {a0 a1 : Nat × Obj} (h1 h2 h3 h4 h5 : Hp) {R : Hp} (h : SLx n b Q ex e ([a0, a1] ++ (h5 ++ (h1 ++ (h2 ++ (h3 ++ (h4 ++ R))))))) : SLx n b Q ex e ([a0, a1] ++ (h1 ++ (h2 ++ (h3 ++ (h4 ++ (h5 ++ R)))))) := z0a _ h1 h2 h3 h4 h5 R rfl h
theorem z9s {ex : Exit} {a0 : Nat × Obj} (h1 h2 h3 h4 h5 h6 : Hp) {R : Hp} (h : SLx n b Q ex e ([a0] ++ (h6 ++ (h1 ++ (h2 ++ (h3 ++ (h4 ++ (h5 ++ R)))))))) : SLx n b Q ex e ([a0] ++ (h1 ++ (h2 ++ (h3 ++ (h4 ++ (h5 ++ (h6 ++ R))))))) := z3e _ h1 h2 h3 h4 h5 h6 R rfl h
end
end Go.Fp
namespace Go.Fp
open Go.RowKit
abbrev pb (g : Nat) : Value := .pointer (some ⟨g, 0, none⟩)
abbrev iv (i : Int) : Value := .int .i64 i
abbrev bv (b : Bool) : Value := .bool b
abbrev sv {α : Type} (A : Option Addr) (l : List α) (c : Nat) : Value := .slice A l.length c
abbrev sn : Value := .slice none 0 0
abbrev rI : RT Int := RT.int .i64
abbrev OA : Type := Option Addr
theorem lr {b : v7} : b.Le b := v7.Le.refl b
section
variable {P : Program} {n : NT} {m : Nat} {dk0 : Nat × Obj → Prop} {rq : Option Nat} {b w0 : v7} {Q : Exit → Act → World → Prop} {e : Env} {hp : Hp}
theorem cS {σ : Type} {body : Nat → σ → Option σ} (Inv : Nat → σ → v7 → Env → Hp → Prop) {c : Code} {s0 : σ} {N : Nat} {t : σ} (hl : q2K body N 0 s0 = some t) {e' : Env} {hp' : Hp} (h0 : Inv 0 s0 w0 e' hp') (hh : hp'.Sublist hp)
  (round : ∀ k s b e hp o, k < N → Inv k s b e hp → body k s = some o → SLc P n b (Exit.then (fun a w => q5k n (Inv (k + 1) o) a w) Q) c e hp)
  (done : ∀ b e hp, Inv N t b e hp → SLc P n b (Exit.then (fun _ _ => False) Q) c e hp) (he : Sub e' e := by repeat (first | exact trivial | refine ⟨rfl, ?_⟩)) : SLc P n w0 Q (.loop c) e hp := z9j Inv hl he hh h0 round done
theorem rM {b1 : v7} {fn : Func} {Φ : Value → v7 → Hp → Prop} {rs : List ResultVar} {vs : List Value} (hv : K9 (j2S P (b1.over w0) e hp) rs vs) {hp' : Hp} (hΦ : Φ (z0t vs) (b1.over w0) hp') (hh : hp'.Sublist hp) (hle : w0.Le b1)
  (hn : rs.length ≤ 5 := by decide) (hr : fn.results = rs.toArray := by rfl) : SLx ⟨m, fun x => x ∈ w0.dk, none⟩ b1 (q7s P fn (z1a w0 Φ)) .ret e hp := j3K vs hle hn hr hv rfl hh hΦ
end
end Go.Fp
namespace Go.Fp
open Go.RowKit
section
variable {P : Program} {n : NT} {m : Nat} {dk0 : Hp} {rq : Option Nat} {b w0 : v7} {ops : Array Oper} {Q : Exit → Act → World → Prop} {e : Env} {hp : Hp} {op : Op} {ty : TypeId} {d : Option Tmp} {pos : String} {af : Array Edge} {rest : List Oper} {dk1 : Nat × Obj → Prop}
def noB (ops : Array Oper) (e : Env) (j : Nat) (t : Bool) (m : Nat) (d : Option Tmp) : Bool := match (ops[j]?).bind (·.dst) with
 | none => false
 | some dj => match look e dj with
  | none => false
  | some v => Nat.blt dj m && !isB v t && okD d m
theorem z3y {j : Nat} {t : Bool} (h : noB ops e j t m d = true) : ∃ dj v, (ops[j]?).bind (·.dst) = some dj ∧ look e dj = some v ∧ Nat.blt dj m = true ∧ isB v t = false ∧ okD d m = true := by
 unfold noB at h
 split at h
 ·cases h
 ·rename_i dj h1
  split at h
  ·cases h
  ·rename_i v h2
   simp only [Bool.and_eq_true, Bool.not_eq_true'] at h
   exact ⟨dj, v, h1, h2, h.1.1, h.1.2, h.2⟩
theorem nO {j : Nat} {t : Bool} (h : SLo P (NT.mk m dk1 rq) w0 ops Q rest (putE d undef e) hp) (hc : noB ops e j t m d = true := by kernel_rfl) : SLo P (NT.mk m dk1 rq) w0 ops Q (⟨d, op, ty, pos, af, some (j, t)⟩ :: rest) e hp :=
 let ⟨dj, _, h1, h2, h3, h4, h5⟩ := z3y hc
 j3W dj h1 h2 h3 h4 h5 h
def ysB (ops : Array Oper) (e : Env) (j : Nat) (t : Bool) (m : Nat) : Bool := match (ops[j]?).bind (·.dst) with
 | none => false
 | some dj => match look e dj with
  | some (.bool v) => Nat.blt dj m && (v == t)
  | _ => false
theorem z7p {j : Nat} {t : Bool} (h : ysB ops e j t m = true) : ∃ dj, (ops[j]?).bind (·.dst) = some dj ∧ look e dj = some (.bool t) ∧ Nat.blt dj m = true := by
 unfold ysB at h
 split at h
 ·cases h
 ·rename_i dj h1
  split at h
  ·rename_i v h2
   simp only [Bool.and_eq_true, beq_iff_eq] at h
   exact ⟨dj, h1, h.2 ▸ h2, h.1⟩
  ·cases h
theorem yS {j : Nat} {t : Bool} (h : SLo P (NT.mk m dk1 rq) w0 ops Q (⟨d, op, ty, pos, af, none⟩ :: rest) e hp) (hc : ysB ops e j t m = true := by kernel_rfl) : SLo P (NT.mk m dk1 rq) w0 ops Q (⟨d, op, ty, pos, af, some (j, t)⟩ :: rest) e hp :=
 let ⟨dj, h1, h2, h3⟩ := z7p hc
 j3c dj h1 h2 h3 h
theorem mV {v : Value} {k : Nat} {x : Operand} (hx : val e x = some v) (h : SLo P (NT.mk m dk1 rq) w0 ops Q rest ((k, v) :: e) hp) (hd : Nat.blt k m = true := by kernel_rfl) : SLo P (NT.mk m dk1 rq) w0 ops Q (⟨some k, .move x, ty, pos, af, none⟩ :: rest) e hp := z2j hd hx h
theorem aS {v : Value} {k : Nat} {x : Operand} (hx : val e x = some v) (h : SLo P (NT.mk m dk1 rq) w0 ops Q rest ((k, v) :: e) hp) (hd : Nat.blt k m = true := by kernel_rfl) : SLo P (NT.mk m dk1 rq) w0 ops Q (⟨some k, .assign x, ty, pos, af, none⟩ :: rest) e hp := q8S hd hx h
theorem tS {v : Value} {k : Nat} (hst : Q2 P (NT.mk m dk1 rq) w0 op ty e hp v) (h : SLo P (NT.mk m dk1 rq) w0 ops Q rest ((k, v) :: e) hp) (hd : Nat.blt k m = true := by kernel_rfl) : SLo P (NT.mk m dk1 rq) w0 ops Q (⟨some k, op, ty, pos, af, none⟩ :: rest) e hp := q5s hd hst h
theorem tD {Ψ : Value → Hp → Prop} (hdo : q3b P (NT.mk m dk1 rq) w0 op ty e hp Ψ) (h : ∀ v hp', Ψ v hp' → SLo P (NT.mk m dk1 rq) w0 ops Q rest (putE d v e) hp') (hd : okD d m = true := by kernel_rfl) :
  SLo P (NT.mk m dk1 rq) w0 ops Q (⟨d, op, ty, pos, af, none⟩ :: rest) e hp := q9A hd hdo h
theorem cI {τ : Type} {p : Prop} {i1 i2 : Decidable p} {A B t : Option τ} {c : Operand} {x y : Code} (hm : (@ite _ p i1 A B) = t) (hc : val e c = some (.bool (@decide p i2))) (ht : A = t → SLc P n w0 Q x e hp) (hf : B = t → SLc P n w0 Q y e hp) : SLc P n w0 Q (.cond c x y) e hp :=
 z1M _ hc (fun h => ht (by rw [if_pos (of_decide_eq_true h)] at hm; exact hm)) (fun h => hf (by rw [if_neg (of_decide_eq_false h)] at hm; exact hm))
theorem cB {τ : Type} {q : Bool} {i1 : Decidable (q = true)} {A B t : Option τ} {c : Operand} {x y : Code} (hm : (@ite _ (q = true) i1 A B) = t) (hc : val e c = some (.bool q)) (ht : A = t → SLc P n w0 Q x e hp) (hf : B = t → SLc P n w0 Q y e hp) : SLc P n w0 Q (.cond c x y) e hp :=
 z1M _ hc (fun h => ht (by rw [if_pos h] at hm; exact hm)) (fun h => hf (by rw [if_neg (by rw [h]; exact Kh)] at hm; exact hm))
theorem cN {τ : Type} {p : Prop} {i1 i2 : Decidable p} {A B t : Option τ} {c : Operand} {x y : Code} (hm : (@ite _ p i1 A B) = t) (hc : val e c = some (.bool (!@decide p i2))) (ht : B = t → SLc P n w0 Q x e hp) (hf : A = t → SLc P n w0 Q y e hp) : SLc P n w0 Q (.cond c x y) e hp :=
 z1M _ hc (fun h => ht (by rw [if_neg (of_decide_eq_false (j3R h))] at hm; exact hm)) (fun h => hf (by rw [if_pos (of_decide_eq_true (j3S h))] at hm; exact hm))
theorem cM {τ : Type} {q : Bool} {i1 : Decidable (q = true)} {A B t : Option τ} {c : Operand} {x y : Code} (hm : (@ite _ (q = true) i1 A B) = t) (hc : val e c = some (.bool (!q))) (ht : B = t → SLc P n w0 Q x e hp) (hf : A = t → SLc P n w0 Q y e hp) : SLc P n w0 Q (.cond c x y) e hp :=
 z1M _ hc (fun h => ht (by rw [if_neg (by rw [j3R h]; exact Kh)] at hm; exact hm)) (fun h => hf (by rw [if_pos (j3S h)] at hm; exact hm))
theorem iR {A B : Prop} {S hp' : Hp} (h : B) (hs : S.Sublist hp' := by repeat (first | exact List.Sublist.refl _ | exact List.nil_sublist _ | apply List.Sublist.cons_cons | apply z2m | apply List.Sublist.cons | apply q5L)) : (A ∨ S.Sublist hp') ∧ B := ⟨.inr hs, h⟩
def Lk (l m : Hp) : Prop := ∃ k, m.Perm k ∧ l.Sublist k
def Ex (q m r : Hp) : Prop := m.Perm (q ++ r)
def EC (x : Nat × Obj) (m r : Hp) : Prop := m.Perm (x :: r)
theorem Ex.here (q r : Hp) : Ex q (q ++ r) r := .refl _
theorem Ex.skip {q m r : Hp} (a : Hp) (h : Ex q m r) : Ex q (a ++ m) (a ++ r) := (Ke a h).trans (by
 rw [← List.append_assoc, ← List.append_assoc]
 exact List.Perm.append_right r List.perm_append_comm)
theorem Ex.skipC {q m r : Hp} (x : Nat × Obj) (h : Ex q m r) : Ex q (x :: m) (x :: r) := (List.Perm.cons x h).trans (List.perm_middle (l₁ := q)).symm
theorem EC.here (x : Nat × Obj) (r : Hp) : EC x (x :: r) r := .refl _
theorem EC.skip {x : Nat × Obj} {m r : Hp} (a : Hp) (h : EC x m r) : EC x (a ++ m) (a ++ r) := (Ke a h).trans (List.perm_middle (l₁ := a))
theorem EC.skipC {x : Nat × Obj} {m r : Hp} (y : Nat × Obj) (h : EC x m r) : EC x (y :: m) (y :: r) := (List.Perm.cons y h).trans (List.Perm.swap x y r)
theorem Lk.refl (l : Hp) : Lk l l := ⟨l, .refl _, .refl _⟩
theorem Lk.nil (l : Hp) : Lk [] l := ⟨l, .refl _, List.nil_sublist _⟩
theorem Lk.app {q l m r : Hp} (he : Ex q m r) (h : Lk l r) : Lk (q ++ l) m := let ⟨k, h1, h2⟩ := h; ⟨q ++ k, List.Perm.trans he (Ke q h1), List.Sublist.append_left h2 q⟩
theorem Lk.cons {x : Nat × Obj} {l m r : Hp} (he : EC x m r) (h : Lk l r) : Lk (x :: l) m := let ⟨k, h1, h2⟩ := h; ⟨x :: k, List.Perm.trans he (List.Perm.cons x h1), List.Sublist.cons_cons x h2⟩
theorem Lk.dropC {l m : Hp} (x : Nat × Obj) (h : Lk l m) : Lk l (x :: m) := let ⟨k, h1, h2⟩ := h; ⟨x :: k, List.Perm.cons x h1, List.Sublist.cons x h2⟩
theorem Lk.drop {l m : Hp} (a : Hp) (h : Lk l m) : Lk l (a ++ m) := let ⟨k, h1, h2⟩ := h; ⟨a ++ k, Ke a h1, h2.trans (Kc a k)⟩
theorem Own.lk {w : World} {l m : Hp} (h : Own b m w) (hl : Lk l m) : Own b l w := let ⟨_, h1, h2⟩ := hl; (h.perm h1.symm).sub h2
theorem rO {b1 : v7} {fn : Func} {Φ : Value → v7 → Hp → Prop} {k : Nat} {v : Value} {hp' : Hp} (hΦ : Φ v (b1.over w0) hp') (hle : w0.Le b1)
  (hr : fn.results = #[.tmp k] := by rfl) (hv : look e k = some v := by rfl) (hh : Lk hp' hp := by repeat (first | exact Lk.refl _ | exact Lk.nil _ | (apply Lk.app; · repeat (first | exact Ex.here _ _ | apply Ex.skip | apply Ex.skipC)) | (apply Lk.cons; · repeat (first | exact EC.here _ _ | apply EC.skipC | apply EC.skip)) | apply Lk.dropC | apply Lk.drop)) :
  SLx ⟨m, fun x => x ∈ w0.dk, none⟩ b1 (q7s P fn (z1a w0 Φ)) .ret e hp := fun a w hf ho => rM (rs := [.tmp k]) (vs := [v]) ⟨hv, trivial⟩ hΦ (.refl _) hle (by simp) hr a w hf (ho.lk hh)
theorem rZ {b1 : v7} {fn : Func} {Φ : Value → v7 → Hp → Prop} {hp' : Hp} (hΦ : Φ (.tuple #[]) (b1.over w0) hp') (hle : w0.Le b1)
  (hr : fn.results = #[] := by rfl) (hh : Lk hp' hp := by repeat (first | exact Lk.refl _ | exact Lk.nil _ | (apply Lk.app; · repeat (first | exact Ex.here _ _ | apply Ex.skip | apply Ex.skipC)) | (apply Lk.cons; · repeat (first | exact EC.here _ _ | apply EC.skipC | apply EC.skip)) | apply Lk.dropC | apply Lk.drop)) :
  SLx ⟨m, fun x => x ∈ w0.dk, none⟩ b1 (q7s P fn (z1a w0 Φ)) .ret e hp := fun a w hf ho => rM (rs := []) (vs := []) trivial hΦ (.refl _) hle (by simp) hr a w hf (ho.lk hh)
theorem eZ {b1 : v7} {fn : Func} {Φ : Value → v7 → Hp → Prop} {hp' : Hp} (hΦ : Φ (.tuple #[]) (b1.over w0) hp') (hle : w0.Le b1)
  (hr : fn.results = #[] := by rfl) (hh : Lk hp' hp := by repeat (first | exact Lk.refl _ | exact Lk.nil _ | (apply Lk.app; · repeat (first | exact Ex.here _ _ | apply Ex.skip | apply Ex.skipC)) | (apply Lk.cons; · repeat (first | exact EC.here _ _ | apply EC.skipC | apply EC.skip)) | apply Lk.dropC | apply Lk.drop)) :
  SLx ⟨m, fun x => x ∈ w0.dk, none⟩ b1 (q7s P fn (z1a w0 Φ)) .normal e hp := fun a w hf ho => j4h hle hr (.refl _) hΦ a w hf (ho.lk hh)
theorem rT {b1 : v7} {fn : Func} {Φ : Value → v7 → Hp → Prop} {k l : Nat} {v u : Value} {hp' : Hp} (hΦ : Φ (.tuple #[v, u]) (b1.over w0) hp') (hle : w0.Le b1)
  (hr : fn.results = #[.tmp k, .tmp l] := by rfl) (hv : look e k = some v := by rfl) (hu : look e l = some u := by rfl) (hh : Lk hp' hp := by repeat (first | exact Lk.refl _ | exact Lk.nil _ | (apply Lk.app; · repeat (first | exact Ex.here _ _ | apply Ex.skip | apply Ex.skipC)) | (apply Lk.cons; · repeat (first | exact EC.here _ _ | apply EC.skipC | apply EC.skip)) | apply Lk.dropC | apply Lk.drop)) :
  SLx ⟨m, fun x => x ∈ w0.dk, none⟩ b1 (q7s P fn (z1a w0 Φ)) .ret e hp := fun a w hf ho => rM (rs := [.tmp k, .tmp l]) (vs := [v, u]) ⟨hv, hu, trivial⟩ hΦ (.refl _) hle (by simp) hr a w hf (ho.lk hh)
theorem jJ {Inv : v7 → Env → Hp → Prop} {e' : Env} {hp' : Hp} (hi : Inv b e' hp') (hh : Lk hp' hp := by repeat (first | exact Lk.refl _ | exact Lk.nil _ | (apply Lk.app; · repeat (first | exact Ex.here _ _ | apply Ex.skip | apply Ex.skipC)) | (apply Lk.cons; · repeat (first | exact EC.here _ _ | apply EC.skipC | apply EC.skip)) | apply Lk.dropC | apply Lk.drop)) (he : Sub e' e := by repeat (first | exact trivial | refine ⟨rfl, ?_⟩)) : SLx n b (Exit.then (q5k n Inv) Q) .normal e hp := fun a w hf ho => j0W he (.refl _) hi a w hf (ho.lk hh)
theorem jS {Inv : v7 → Env → Hp → Prop} {e' : Env} {hp' : Hp} (hi : Inv b e' hp') (hh : Lk hp' hp := by repeat (first | exact Lk.refl _ | exact Lk.nil _ | (apply Lk.app; · repeat (first | exact Ex.here _ _ | apply Ex.skip | apply Ex.skipC)) | (apply Lk.cons; · repeat (first | exact EC.here _ _ | apply EC.skipC | apply EC.skip)) | apply Lk.dropC | apply Lk.drop)) (he : Sub e' e := by repeat (first | exact trivial | refine ⟨rfl, ?_⟩)) : SLx n b (Exit.then (fun a w => q5k n Inv a w) Q) .normal e hp := fun a w hf ho => z7r he (.refl _) hi a w hf (ho.lk hh)
theorem jM {σ τ : Type} {o : σ ⊕ τ} {Inv : σ → v7 → Env → Hp → Prop} {s' : σ} (hm : some (.inl s') = some o) {e' : Env} {hp' : Hp} (hi : Inv s' b e' hp') (hh : Lk hp' hp := by repeat (first | exact Lk.refl _ | exact Lk.nil _ | (apply Lk.app; · repeat (first | exact Ex.here _ _ | apply Ex.skip | apply Ex.skipC)) | (apply Lk.cons; · repeat (first | exact EC.here _ _ | apply EC.skipC | apply EC.skip)) | apply Lk.dropC | apply Lk.drop)) (he : Sub e' e := by repeat (first | exact trivial | refine ⟨rfl, ?_⟩)) : SLx n b (Exit.then (fun a w => ∃ s', o = .inl s' ∧ q5k n (Inv s') a w) Q) .normal e hp := fun a w hf ho => z3f s' (Kd hm).symm he (.refl _) hi a w hf (ho.lk hh)
theorem lL {σ τ : Type} {step : σ → Option (σ ⊕ τ)} (Inv : σ → v7 → Env → Hp → Prop) {c : Code} {s0 : σ} {t : τ} (hl : q6e step s0 = some t) {e' : Env} {hp' : Hp} (h0 : Inv s0 w0 e' hp')
  (round : ∀ s b e hp o, Inv s b e hp → step s = some o → (∀ t', o = .inr t' → t' = t) → SLc P n b (Exit.then (fun a w => ∃ s', o = .inl s' ∧ q5k n (Inv s') a w) Q) c e hp) (hh : Lk hp' hp := by repeat (first | exact Lk.refl _ | exact Lk.nil _ | (apply Lk.app; · repeat (first | exact Ex.here _ _ | apply Ex.skip | apply Ex.skipC)) | (apply Lk.cons; · repeat (first | exact EC.here _ _ | apply EC.skipC | apply EC.skip)) | apply Lk.dropC | apply Lk.drop)) (he : Sub e' e := by repeat (first | exact trivial | refine ⟨rfl, ?_⟩)) : SLc P n w0 Q (.loop c) e hp := fun a w hf ho => j0K Inv hl he (.refl _) h0 round a w hf (ho.lk hh)
theorem lF {σ τ : Type} {body : Nat → σ → Option (σ ⊕ τ)} (Inv : Nat → σ → v7 → Env → Hp → Prop) {c : Code} {s0 : σ} {N : Nat} {t : σ ⊕ τ} (hl : forM body N 0 s0 = some t) {e' : Env} {hp' : Hp} (h0 : Inv 0 s0 w0 e' hp')
  (round : ∀ k s b e hp o, k < N → Inv k s b e hp → body k s = some o → (∀ t', o = .inr t' → t = .inr t') → SLc P n b (Exit.then (fun a w => ∃ s', o = .inl s' ∧ q5k n (Inv (k + 1) s') a w) Q) c e hp)
  (done : ∀ s b e hp, Inv N s b e hp → t = .inl s → SLc P n b (Exit.then (fun _ _ => False) Q) c e hp) (hh : Lk hp' hp := by repeat (first | exact Lk.refl _ | exact Lk.nil _ | (apply Lk.app; · repeat (first | exact Ex.here _ _ | apply Ex.skip | apply Ex.skipC)) | (apply Lk.cons; · repeat (first | exact EC.here _ _ | apply EC.skipC | apply EC.skip)) | apply Lk.dropC | apply Lk.drop)) (he : Sub e' e := by repeat (first | exact trivial | refine ⟨rfl, ?_⟩)) : SLc P n w0 Q (.loop c) e hp := fun a w hf ho => z6M Inv hl he (.refl _) h0 round done a w hf (ho.lk hh)
theorem lS {σ : Type} {body : Nat → σ → Option σ} (Inv : Nat → σ → v7 → Env → Hp → Prop) {c : Code} {s0 : σ} {N : Nat} {t : σ} (hl : q2K body N 0 s0 = some t) {e' : Env} {hp' : Hp} (h0 : Inv 0 s0 w0 e' hp')
  (round : ∀ k s b e hp o, k < N → Inv k s b e hp → body k s = some o → SLc P n b (Exit.then (fun a w => q5k n (Inv (k + 1) o) a w) Q) c e hp)
  (done : ∀ b e hp, Inv N t b e hp → SLc P n b (Exit.then (fun _ _ => False) Q) c e hp) (hh : Lk hp' hp := by repeat (first | exact Lk.refl _ | exact Lk.nil _ | (apply Lk.app; · repeat (first | exact Ex.here _ _ | apply Ex.skip | apply Ex.skipC)) | (apply Lk.cons; · repeat (first | exact EC.here _ _ | apply EC.skipC | apply EC.skip)) | apply Lk.dropC | apply Lk.drop)) (he : Sub e' e := by repeat (first | exact trivial | refine ⟨rfl, ?_⟩)) : SLc P n w0 Q (.loop c) e hp := fun a w hf ho => z9j Inv hl he (.refl _) h0 round done a w hf (ho.lk hh)
theorem eN (i : Nat) {fuel : Nat} {listed : Array Bool} {S : Hp} {k j : Nat} {t : Bool} (hi : ops[i]? = some ⟨some k, op, ty, pos, af, some (j, t)⟩) (h : SLB P (NT.mk m dk1 rq) w0 b ops S Q fuel (listed.setIfInBounds i true) ((k, undef) :: e) hp)
  (hc : noB ops e j t m (some k) = true := by kernel_rfl)
  (hs : Region.noSelect ops = true := by kernel_rfl) (hfr : Region.free .any ops listed i = true := by kernel_rfl) (hr : (Region.ready .any ops listed).contains i = true := by kernel_rfl)
  (hcl : q4Q .any ops listed = true := by kernel_rfl) : SLB P (NT.mk m dk1 rq) w0 b ops S Q (fuel + 1) listed e hp :=
 let ⟨dj, _, h1, h2, h3, h4, h5⟩ := z3y hc
 j4j i dj hi h2 h4 h hs hfr hr h5 h1 h3 hcl
theorem dG {I : v7 → Env → Hp → Prop} {S : Hp} {fuel fuel' : Nat} {listed listed' : Array Bool} (ht : ∀ b' e' hp', w0.Le b' → I b' e' hp' → SLA P n w0 b' ops S Q fuel' listed' e' hp') {e' : Env} {hp' : Hp} (hi : I b e' hp') (hle : w0.Le b)
  (hf : fuel = fuel' := by kernel_rfl) (hl : listed = listed' := by kernel_rfl) (he : Sub e' e := by repeat (first | exact trivial | refine ⟨rfl, ?_⟩)) (hh : Lk hp' hp := by repeat (first | exact Lk.refl _ | exact Lk.nil _ | (apply Lk.app; · repeat (first | exact Ex.here _ _ | apply Ex.skip | apply Ex.skipC)) | (apply Lk.cons; · repeat (first | exact EC.here _ _ | apply EC.skipC | apply EC.skip)) | apply Lk.dropC | apply Lk.drop)) : SLA P n w0 b ops S Q fuel listed e hp := fun a w hfit ho => by
 subst hf hl
 exact ht b e' hp' hle hi a w (hfit.sub he) (ho.lk hh)
theorem bF {α β : Type} {r : RT α} {w : World} {A : Option Addr} {c sz : Nat} {l : List α} {i : Int} {f : α → Option β} {t : β} (hm : (idx l i).bind f = some t) (h : FZ r w A c l) (hs : r.sz = sz := by rfl) (h0 : 0 < sz := by decide) :
  ∃ (x : α) (j : Nat) (cs : List Value), i = (j : Int) ∧ l[j]? = some x ∧ r.rep w cs x ∧ (∀ (i : Nat) (u : Value), cs[i]? = some u → q2H w A (j * sz + i) = some u) ∧ A.isSome = true ∧ j < l.length ∧ f x = some t := by
 obtain ⟨x, hx, h1⟩ := q9t hm
 obtain ⟨j, hj, hx⟩ := q5g hx
 obtain ⟨cs, h2, h3, h4, h5⟩ := FZ.get hs h0 h hx
 exact ⟨x, j, cs, hj, hx, h2, h3, h4, h5, h1⟩
end
end Go.Fp
