import Derived.Test.YtjlollifgeggdaaGreatDoorRows
import Derived.Test.YtjlollifgeggdaaGreatDoorQZD
import Derived.Test.YtjlollifgeggdaaGreatDoorQXZ
import Derived.Shelf.SlIterI.Nil
import Derived.Shelf.SortM.Plain
import Derived.Shelf.SortM.SortNone
import Derived.Ground.GgzProg
import Derived.Ground.SlgmProg
import Derived.Test.YtjlollifgeggdaaGreatDoorProg
import Derived.WideShapes
import Derived.Test.YtjlollifgeggdaaGreatDoorF3
set_option linter.unusedVariables false
set_option linter.unusedSimpArgs false
set_option linter.unusedSectionVars false
namespace Go.Proofs.YtjlollifgeggdaaGreatDoor
open Go.RowKit Go.Fp
theorem mixed : Tryz.prog.follows .mixedOrders = true := by kernel_rfl
theorem j2K : q9Q Tryz.prog 108 7 = true := by kernel_rfl
theorem z4W : q9Q Tryz.prog 128 2 = true := by kernel_rfl
theorem q2V : q9Q Tryz.prog 131 2 = true := by kernel_rfl
theorem z7l : q9Q Tryz.prog 145 4 = true := by kernel_rfl
theorem j0u : q9Q Tryz.prog 149 2 = true := by kernel_rfl
theorem P0 : q9Q Tryz.prog 28 5 = true := by kernel_rfl
theorem z3K : q9Q Tryz.prog 36 3 = true := by kernel_rfl
theorem P7 : q9Q Tryz.prog 55 4 = true := by kernel_rfl
theorem q6T : q9Q Tryz.prog 62 3 = true := by kernel_rfl
theorem z1Z : q9Q Tryz.prog 80 5 = true := by kernel_rfl
theorem j7k : q9Q Tryz.prog 94 3 = true := by kernel_rfl
theorem q3w : q0Q Tryz.prog 108 0 0 = true := by kernel_rfl
theorem z6Q : q0Q Tryz.prog 108 1 1 = true := by kernel_rfl
theorem q8o : q0Q Tryz.prog 108 2 2 = true := by kernel_rfl
theorem z6P : q0Q Tryz.prog 108 3 3 = true := by kernel_rfl
theorem z6O : q0Q Tryz.prog 108 4 4 = true := by kernel_rfl
theorem q8n : q0Q Tryz.prog 108 5 5 = true := by kernel_rfl
theorem j1v : q0Q Tryz.prog 108 6 6 = true := by kernel_rfl
theorem z0h : q0Q Tryz.prog 126 0 0 = true := by kernel_rfl
theorem z3s : q0Q Tryz.prog 126 1 5 = true := by kernel_rfl
theorem z3r : q0Q Tryz.prog 126 2 6 = true := by kernel_rfl
theorem q7b : q0Q Tryz.prog 126 3 7 = true := by kernel_rfl
theorem q4c : q0Q Tryz.prog 128 0 0 = true := by kernel_rfl
theorem q8m : q0Q Tryz.prog 128 1 1 = true := by kernel_rfl
theorem q1Z : q0Q Tryz.prog 131 0 0 = true := by kernel_rfl
theorem q4N : q0Q Tryz.prog 131 1 1 = true := by kernel_rfl
theorem z0g : q0Q Tryz.prog 136 0 0 = true := by kernel_rfl
theorem z0f : q0Q Tryz.prog 136 1 5 = true := by kernel_rfl
theorem z6N : q0Q Tryz.prog 136 2 8 = true := by kernel_rfl
theorem z0e : q0Q Tryz.prog 136 3 9 = true := by kernel_rfl
theorem z6M : q0Q Tryz.prog 136 4 10 = true := by kernel_rfl
theorem q3v : q0Q Tryz.prog 145 0 0 = true := by kernel_rfl
theorem q8l : q0Q Tryz.prog 145 1 1 = true := by kernel_rfl
theorem q4M : q0Q Tryz.prog 145 2 2 = true := by kernel_rfl
theorem z3q : q0Q Tryz.prog 145 3 3 = true := by kernel_rfl
theorem q7a : q0Q Tryz.prog 149 0 0 = true := by kernel_rfl
theorem z6L : q0Q Tryz.prog 149 1 1 = true := by kernel_rfl
theorem z6K : q0Q Tryz.prog 154 0 0 = true := by kernel_rfl
theorem q8k : q0Q Tryz.prog 154 1 5 = true := by kernel_rfl
theorem q8j : q0Q Tryz.prog 154 2 6 = true := by kernel_rfl
theorem z0d : q0Q Tryz.prog 154 3 7 = true := by kernel_rfl
theorem z0S : q0Q Tryz.prog 28 0 0 = true := by kernel_rfl
theorem q0B : q0Q Tryz.prog 28 1 1 = true := by kernel_rfl
theorem q9l : q0Q Tryz.prog 28 2 2 = true := by kernel_rfl
theorem q3O : q0Q Tryz.prog 28 3 3 = true := by kernel_rfl
theorem q7z : q0Q Tryz.prog 28 4 4 = true := by kernel_rfl
theorem q5L : q0Q Tryz.prog 36 0 0 = true := by kernel_rfl
theorem q5K : q0Q Tryz.prog 36 1 1 = true := by kernel_rfl
theorem P6 : q0Q Tryz.prog 36 2 2 = true := by kernel_rfl
theorem q0H : q0Q Tryz.prog 55 0 0 = true := by kernel_rfl
theorem q3N : q0Q Tryz.prog 55 1 1 = true := by kernel_rfl
theorem q0Z : q0Q Tryz.prog 55 2 2 = true := by kernel_rfl
theorem j3J : q0Q Tryz.prog 55 3 3 = true := by kernel_rfl
theorem K5 : q0Q Tryz.prog 62 0 0 = true := by kernel_rfl
theorem z9E : q0Q Tryz.prog 62 1 1 = true := by kernel_rfl
theorem z3p : q0Q Tryz.prog 62 2 2 = true := by kernel_rfl
theorem z0R : q0Q Tryz.prog 78 0 0 = true := by kernel_rfl
theorem z5Q : q0Q Tryz.prog 78 1 5 = true := by kernel_rfl
theorem z5P : q0Q Tryz.prog 78 2 6 = true := by kernel_rfl
theorem q0o : q0Q Tryz.prog 78 3 7 = true := by kernel_rfl
theorem z3o : q0Q Tryz.prog 78 4 8 = true := by kernel_rfl
theorem q3f : q0Q Tryz.prog 78 5 9 = true := by kernel_rfl
theorem q3e : q0Q Tryz.prog 80 0 0 = true := by kernel_rfl
theorem z9D : q0Q Tryz.prog 80 1 1 = true := by kernel_rfl
theorem q5J : q0Q Tryz.prog 80 2 2 = true := by kernel_rfl
theorem q4X : q0Q Tryz.prog 80 3 3 = true := by kernel_rfl
theorem z5O : q0Q Tryz.prog 80 4 4 = true := by kernel_rfl
theorem q2O : q0Q Tryz.prog 90 0 0 = true := by kernel_rfl
theorem j3I : q0Q Tryz.prog 90 1 3 = true := by kernel_rfl
theorem q3d : q0Q Tryz.prog 90 2 4 = true := by kernel_rfl
theorem q9k : q0Q Tryz.prog 90 3 5 = true := by kernel_rfl
theorem z3n : q0Q Tryz.prog 90 4 6 = true := by kernel_rfl
theorem z9C : q0Q Tryz.prog 90 5 7 = true := by kernel_rfl
theorem q7y : q0Q Tryz.prog 90 6 8 = true := by kernel_rfl
theorem z5N : q0Q Tryz.prog 90 7 9 = true := by kernel_rfl
theorem z5M : q0Q Tryz.prog 90 8 10 = true := by kernel_rfl
theorem z0Q : q0Q Tryz.prog 94 0 0 = true := by kernel_rfl
theorem q9j : q0Q Tryz.prog 94 1 1 = true := by kernel_rfl
theorem z9B : q0Q Tryz.prog 94 2 2 = true := by kernel_rfl
theorem j5d : (Tryz.prog.info? 108).map (fun i => (i.zero, i.size, i.bytes)) = some (some (.agg #[.int .i64 0, .int .i64 0, .int .i64 0, .int .i64 0, .int .i64 0, .int .i64 0, .bool false]), 7, 56) := by kernel_rfl
theorem j5c : (Tryz.prog.info? 128).map (fun i => (i.zero, i.size, i.bytes)) = some (some (.agg #[.int .i64 0, .int .i64 0]), 2, 16) := by kernel_rfl
theorem j5b : (Tryz.prog.info? 145).map (fun i => (i.zero, i.size, i.bytes)) = some (some (.agg #[.int .i64 0, .int .i64 0, .int .i64 0, .int .i64 0]), 4, 32) := by kernel_rfl
theorem j5a : (Tryz.prog.info? 149).map (fun i => (i.zero, i.size, i.bytes)) = some (some (.agg #[.int .i64 0, .int .i64 0]), 2, 16) := by kernel_rfl
theorem j6Z : (Tryz.prog.info? 22).map (fun i => (i.zero, i.size, i.bytes)) = some (some (.slice none 0 0), 1, 24) := by kernel_rfl
theorem j6Y : (Tryz.prog.info? 3).map (fun i => (i.zero, i.size, i.bytes)) = some (some (.int .i64 0), 1, 8) := by kernel_rfl
theorem j6X : (Tryz.prog.info? 36).map (fun i => (i.zero, i.size, i.bytes)) = some (some (.agg #[.int .i64 0, .int .i64 0, .slice none 0 0]), 3, 40) := by kernel_rfl
theorem j6n : (Tryz.prog.info? 4).map (fun i => (i.zero, i.size, i.bytes)) = some (some (.bool false), 1, 1) := by kernel_rfl
theorem j4Z : (Tryz.prog.info? 46).map (fun i => (i.zero, i.size, i.bytes)) = some (some (.slice none 0 0), 1, 24) := by kernel_rfl
theorem j1q : (Tryz.prog.info? 55).map (fun i => (i.zero, i.size, i.bytes)) = some (some (.agg #[.int .i64 0, .int .i64 0, .int .i64 0, .int .i64 0]), 4, 32) := by kernel_rfl
theorem j1p : (Tryz.prog.info? 62).map (fun i => (i.zero, i.size, i.bytes)) = some (some (.agg #[.int .i64 0, .int .i64 0, .int .i64 0]), 3, 24) := by kernel_rfl
theorem z0L : (Tryz.prog.info? 80).map (fun i => (i.zero, i.size, i.bytes)) = some (some (.agg #[.int .i64 0, .bool false, .int .i64 0, .int .i64 0, .bool false]), 5, 40) := by kernel_rfl
theorem j6W : (Tryz.prog.info? 83).map (fun i => (i.zero, i.size, i.bytes)) = some (some (.pointer none), 1, 8) := by kernel_rfl
theorem j7y : (Tryz.prog.info? 9).map (fun i => (i.zero, i.size, i.bytes)) = some (some (.string ByteArray.empty), 1, 16) := by kernel_rfl
theorem z0K : (Tryz.prog.info? 94).map (fun i => (i.zero, i.size, i.bytes)) = some (some (.agg #[.int .i64 0, .bool false, .bool false]), 3, 16) := by kernel_rfl
theorem j3F : j6m Tryz.prog 5 .u8 = true := by kernel_rfl
theorem q5g : q5B Tryz.prog 101 = true := by kernel_rfl
theorem q6q : q5B Tryz.prog 124 = true := by kernel_rfl
theorem q5Y : q5B Tryz.prog 132 = true := by kernel_rfl
theorem j2m : q5B Tryz.prog 134 = true := by kernel_rfl
theorem j2l : q5B Tryz.prog 181 = true := by kernel_rfl
theorem z7H : q5B Tryz.prog 22 = true := by kernel_rfl
theorem q5f : q5B Tryz.prog 23 = true := by kernel_rfl
theorem z7G : q5B Tryz.prog 24 = true := by kernel_rfl
theorem q9J : q5B Tryz.prog 25 = true := by kernel_rfl
theorem z5x : q5B Tryz.prog 26 = true := by kernel_rfl
theorem Q8 : q5B Tryz.prog 3 = true := by kernel_rfl
theorem z1L : q5B Tryz.prog 30 = true := by kernel_rfl
theorem q3A : q5B Tryz.prog 34 = true := by kernel_rfl
theorem q6p : q5B Tryz.prog 4 = true := by kernel_rfl
theorem z7F : q5B Tryz.prog 40 = true := by kernel_rfl
theorem z4e : q5B Tryz.prog 46 = true := by kernel_rfl
theorem z8W : q5B Tryz.prog 49 = true := by kernel_rfl
theorem j7K : q5B Tryz.prog 5 = true := by kernel_rfl
theorem j3w : q5B Tryz.prog 71 = true := by kernel_rfl
theorem q4V : q5B Tryz.prog 74 = true := by kernel_rfl
theorem j1g : q5B Tryz.prog 75 = true := by kernel_rfl
theorem q8X : q5B Tryz.prog 76 = true := by kernel_rfl
theorem j1f : q5B Tryz.prog 83 = true := by kernel_rfl
theorem j3v : q5B Tryz.prog 86 = true := by kernel_rfl
theorem q5C : q5B Tryz.prog 88 = true := by kernel_rfl
theorem j6S : q5B Tryz.prog 9 = true := by kernel_rfl
theorem j4J : q6d Tryz.prog 108 7 = true := by kernel_rfl
theorem z8C : q6d Tryz.prog 128 2 = true := by kernel_rfl
theorem q3R : q6d Tryz.prog 131 2 = true := by kernel_rfl
theorem z8B : q6d Tryz.prog 145 4 = true := by kernel_rfl
theorem z8A : q6d Tryz.prog 149 2 = true := by kernel_rfl
theorem j4I : q6d Tryz.prog 181 1 = true := by kernel_rfl
theorem z7t : q6d Tryz.prog 28 5 = true := by kernel_rfl
theorem z3Y : q6d Tryz.prog 3 1 = true := by kernel_rfl
theorem j6M : q6d Tryz.prog 30 1 = true := by kernel_rfl
theorem j3n : q6d Tryz.prog 36 3 = true := by kernel_rfl
theorem z6o : q6d Tryz.prog 4 1 = true := by kernel_rfl
theorem j6L : q6d Tryz.prog 46 1 = true := by kernel_rfl
theorem j4H : q6d Tryz.prog 49 1 = true := by kernel_rfl
theorem z1G : q6d Tryz.prog 55 4 = true := by kernel_rfl
theorem q8T : q6d Tryz.prog 62 3 = true := by kernel_rfl
theorem j6K : q6d Tryz.prog 80 5 = true := by kernel_rfl
theorem j6J : q6d Tryz.prog 86 1 = true := by kernel_rfl
theorem j7q : q6d Tryz.prog 9 1 = true := by kernel_rfl
theorem j3m : slT Tryz.prog 115 22 1 = true := by kernel_rfl
theorem j3l : slT Tryz.prog 168 5 1 = true := by kernel_rfl
theorem z5o : slT Tryz.prog 22 9 1 = true := by kernel_rfl
theorem z1y : slT Tryz.prog 23 108 7 = true := by kernel_rfl
theorem j0z : slT Tryz.prog 24 145 4 = true := by kernel_rfl
theorem z5d : slT Tryz.prog 25 128 2 = true := by kernel_rfl
theorem z8z : slT Tryz.prog 26 149 2 = true := by kernel_rfl
theorem z5c : slT Tryz.prog 30 36 3 = true := by kernel_rfl
theorem q6f : slT Tryz.prog 34 62 3 = true := by kernel_rfl
theorem q5y : slT Tryz.prog 45 3 1 = true := by kernel_rfl
theorem q5x : slT Tryz.prog 46 55 4 = true := by kernel_rfl
theorem j4G : slT Tryz.prog 49 46 1 = true := by kernel_rfl
theorem q7f : slT Tryz.prog 74 80 5 = true := by kernel_rfl
theorem z5n : slT Tryz.prog 75 94 3 = true := by kernel_rfl
theorem z0D : slT Tryz.prog 88 4 1 = true := by kernel_rfl
theorem j0V : slT Tryz.prog 95 83 1 = true := by kernel_rfl
theorem q9W : j3h Tryz.prog 9 = true := by kernel_rfl
theorem j2Q : (Tryz.prog.info? 108).bind (·.zero) = some (.agg #[.int .i64 0, .int .i64 0, .int .i64 0, .int .i64 0, .int .i64 0, .int .i64 0, .bool false]) := by kernel_rfl
theorem z5i : (Tryz.prog.info? 128).bind (·.zero) = some (.agg #[.int .i64 0, .int .i64 0]) := by kernel_rfl
theorem q2W : (Tryz.prog.info? 131).bind (·.zero) = some (.agg #[.int .i64 0, .int .i64 0]) := by kernel_rfl
theorem z5h : (Tryz.prog.info? 145).bind (·.zero) = some (.agg #[.int .i64 0, .int .i64 0, .int .i64 0, .int .i64 0]) := by kernel_rfl
theorem z5g : (Tryz.prog.info? 149).bind (·.zero) = some (.agg #[.int .i64 0, .int .i64 0]) := by kernel_rfl
theorem j2P : (Tryz.prog.info? 181).bind (·.zero) = some (.nilFunc) := by kernel_rfl
theorem z6f : (Tryz.prog.info? 28).bind (·.zero) = some (.agg #[.slice none 0 0, .slice none 0 0, .slice none 0 0, .slice none 0 0, .slice none 0 0]) := by kernel_rfl
theorem j6u : (Tryz.prog.info? 3).bind (·.zero) = some (.int .i64 0) := by kernel_rfl
theorem z8j : (Tryz.prog.info? 36).bind (·.zero) = some (.agg #[.int .i64 0, .int .i64 0, .slice none 0 0]) := by kernel_rfl
theorem j0D : (Tryz.prog.info? 4).bind (·.zero) = some (.bool false) := by kernel_rfl
theorem q7I : (Tryz.prog.info? 55).bind (·.zero) = some (.agg #[.int .i64 0, .int .i64 0, .int .i64 0, .int .i64 0]) := by kernel_rfl
theorem q5T : (Tryz.prog.info? 62).bind (·.zero) = some (.agg #[.int .i64 0, .int .i64 0, .int .i64 0]) := by kernel_rfl
theorem j4q : (Tryz.prog.info? 80).bind (·.zero) = some (.agg #[.int .i64 0, .bool false, .int .i64 0, .int .i64 0, .bool false]) := by kernel_rfl
theorem z8i : (Tryz.prog.info? 83).bind (·.zero) = some (.pointer none) := by kernel_rfl
theorem j4p : (Tryz.prog.info? 86).bind (·.zero) = some (.nilFunc) := by kernel_rfl
theorem j7j : j1 Tryz.prog 5 = true := by kernel_rfl
theorem j1Q : j1 Tryz.prog 6 = true := by kernel_rfl
theorem j7i : j1 Tryz.prog 8 = true := by kernel_rfl
theorem j7h : j1 Tryz.prog 9 = true := by kernel_rfl
theorem j0b : j1 Tryz.prog 10 = true := by kernel_rfl
theorem j6c : j1 Tryz.prog 11 = true := by kernel_rfl
theorem j6b : j1 Tryz.prog 15 = true := by kernel_rfl
theorem j6a : j1 Tryz.prog 16 = true := by kernel_rfl
theorem j5Z : j1 Tryz.prog 17 = true := by kernel_rfl
theorem j5Y : j1 Tryz.prog 18 = true := by kernel_rfl
theorem j5X : j1 Tryz.prog 19 = true := by kernel_rfl
theorem j2H : j1 Tryz.prog 20 = true := by kernel_rfl
theorem j2G : j1 Tryz.prog 21 = true := by kernel_rfl
theorem j5W : j1 Tryz.prog 22 = true := by kernel_rfl
theorem j5V : j1 Tryz.prog 23 = true := by kernel_rfl
theorem z9T : j1 Tryz.prog 24 = true := by kernel_rfl
theorem j5U : j1 Tryz.prog 25 = true := by kernel_rfl
theorem z7d : j1 Tryz.prog 26 = true := by kernel_rfl
theorem z9S : j1 Tryz.prog 27 = true := by kernel_rfl
theorem q6F : j1 Tryz.prog 28 = true := by kernel_rfl
theorem j5T : j1 Tryz.prog 29 = true := by kernel_rfl
theorem j2F : j1 Tryz.prog 30 = true := by kernel_rfl
theorem j5S : j1 Tryz.prog 31 = true := by kernel_rfl
theorem j5R : j1 Tryz.prog 32 = true := by kernel_rfl
theorem j2E : j1 Tryz.prog 33 = true := by kernel_rfl
theorem j5Q : j1 Tryz.prog 34 = true := by kernel_rfl
theorem z1e : j1 Tryz.prog 35 = true := by kernel_rfl
theorem j2D : j1 Tryz.prog 36 = true := by kernel_rfl
theorem z7c : j1 Tryz.prog 37 = true := by kernel_rfl
theorem j5P : j1 Tryz.prog 38 = true := by kernel_rfl
theorem j5O : j1 Tryz.prog 39 = true := by kernel_rfl
theorem j2C : j1 Tryz.prog 40 = true := by kernel_rfl
theorem j2B : j1 Tryz.prog 41 = true := by kernel_rfl
theorem j5N : j1 Tryz.prog 42 = true := by kernel_rfl
theorem j5M : j1 Tryz.prog 43 = true := by kernel_rfl
theorem j5L : j1 Tryz.prog 44 = true := by kernel_rfl
theorem z7b : j1 Tryz.prog 45 = true := by kernel_rfl
theorem z7a : j1 Tryz.prog 46 = true := by kernel_rfl
theorem j5K : j1 Tryz.prog 47 = true := by kernel_rfl
theorem j2A : j1 Tryz.prog 48 = true := by kernel_rfl
theorem j2z : j1 Tryz.prog 49 = true := by kernel_rfl
theorem j2y : j1 Tryz.prog 50 = true := by kernel_rfl
theorem z9R : j1 Tryz.prog 51 = true := by kernel_rfl
theorem j5J : j1 Tryz.prog 52 = true := by kernel_rfl
theorem j5I : j1 Tryz.prog 54 = true := by kernel_rfl
theorem j5H : j1 Tryz.prog 55 = true := by kernel_rfl
theorem j5G : j1 Tryz.prog 56 = true := by kernel_rfl
theorem j5F : j1 Tryz.prog 57 = true := by kernel_rfl
theorem j5E : j1 Tryz.prog 58 = true := by kernel_rfl
theorem j5D : j1 Tryz.prog 59 = true := by kernel_rfl
theorem j2x : j1 Tryz.prog 60 = true := by kernel_rfl
theorem z9Q : j1 Tryz.prog 61 = true := by kernel_rfl
theorem z4G : j1 Tryz.prog 62 = true := by kernel_rfl
theorem j2w : j1 Tryz.prog 63 = true := by kernel_rfl
theorem j5C : j1 Tryz.prog 64 = true := by kernel_rfl
theorem z6Z : j1 Tryz.prog 65 = true := by kernel_rfl
theorem j5B : j1 Tryz.prog 66 = true := by kernel_rfl
theorem j5A : j1 Tryz.prog 67 = true := by kernel_rfl
theorem j5z : j1 Tryz.prog 68 = true := by kernel_rfl
theorem j5y : j1 Tryz.prog 69 = true := by kernel_rfl
theorem j5x : j1 Tryz.prog 70 = true := by kernel_rfl
theorem j5w : j1 Tryz.prog 71 = true := by kernel_rfl
theorem j5v : j1 Tryz.prog 72 = true := by kernel_rfl
theorem j5u : j1 Tryz.prog 73 = true := by kernel_rfl
theorem z4F : j1 Tryz.prog 74 = true := by kernel_rfl
theorem j5t : j1 Tryz.prog 75 = true := by kernel_rfl
theorem z9P : j1 Tryz.prog 76 = true := by kernel_rfl
theorem z6Y : j1 Tryz.prog 77 = true := by kernel_rfl
theorem z6X : j1 Tryz.prog 78 = true := by kernel_rfl
theorem q4R : j1 Tryz.prog 79 = true := by kernel_rfl
theorem z9O : j1 Tryz.prog 80 = true := by kernel_rfl
theorem j5s : j1 Tryz.prog 81 = true := by kernel_rfl
theorem q6E : j1 Tryz.prog 82 = true := by kernel_rfl
theorem j5r : j1 Tryz.prog 83 = true := by kernel_rfl
theorem j5q : j1 Tryz.prog 84 = true := by kernel_rfl
theorem j5p : j1 Tryz.prog 85 = true := by kernel_rfl
theorem j5o : j1 Tryz.prog 89 = true := by kernel_rfl
theorem j5n : j1 Tryz.prog 90 = true := by kernel_rfl
theorem j2v : j1 Tryz.prog 91 = true := by kernel_rfl
theorem j5m : j1 Tryz.prog 93 = true := by kernel_rfl
theorem z9N : j1 Tryz.prog 94 = true := by kernel_rfl
theorem z9M : j1 Tryz.prog 95 = true := by kernel_rfl
theorem j2u : j1 Tryz.prog 96 = true := by kernel_rfl
theorem z6W : j1 Tryz.prog 97 = true := by kernel_rfl
theorem z4E : j1 Tryz.prog 98 = true := by kernel_rfl
theorem j2t : j1 Tryz.prog 99 = true := by kernel_rfl
theorem j0a : j1 Tryz.prog 100 = true := by kernel_rfl
theorem z9Z : j1 Tryz.prog 101 = true := by kernel_rfl
theorem z9Y : j1 Tryz.prog 102 = true := by kernel_rfl
theorem z9X : j1 Tryz.prog 103 = true := by kernel_rfl
theorem j4h : j1 Tryz.prog 104 = true := by kernel_rfl
theorem j4g : j1 Tryz.prog 105 = true := by kernel_rfl
theorem j4f : j1 Tryz.prog 106 = true := by kernel_rfl
theorem z5V : j1 Tryz.prog 107 = true := by kernel_rfl
theorem j4e : j1 Tryz.prog 108 = true := by kernel_rfl
theorem z9W : j1 Tryz.prog 109 = true := by kernel_rfl
theorem j4d : j1 Tryz.prog 110 = true := by kernel_rfl
theorem j4c : j1 Tryz.prog 111 = true := by kernel_rfl
theorem j4b : j1 Tryz.prog 112 = true := by kernel_rfl
theorem j4a : j1 Tryz.prog 113 = true := by kernel_rfl
theorem j3Z : j1 Tryz.prog 117 = true := by kernel_rfl
theorem j3Y : j1 Tryz.prog 118 = true := by kernel_rfl
theorem z9V : j1 Tryz.prog 120 = true := by kernel_rfl
theorem j3X : j1 Tryz.prog 122 = true := by kernel_rfl
theorem j3W : j1 Tryz.prog 123 = true := by kernel_rfl
theorem z5U : j1 Tryz.prog 124 = true := by kernel_rfl
theorem j3V : j1 Tryz.prog 136 = true := by kernel_rfl
theorem j3U : j1 Tryz.prog 138 = true := by kernel_rfl
theorem z9U : j1 Tryz.prog 139 = true := by kernel_rfl
theorem j3T : j1 Tryz.prog 151 = true := by kernel_rfl
theorem j3S : j1 Tryz.prog 158 = true := by kernel_rfl
theorem j0r : j6p Tryz.prog 123 3 71 1 = true := by kernel_rfl
theorem j5i : eqT Tryz.prog 128 [.int .i64, .int .i64] := ⟨by kernel_rfl, by kernel_rfl, by kernel_rfl⟩
theorem j1G : Tryz.prog.funcs[150]? = some Tryz.f150 := Tryz.func150
theorem j1F : (Tryz.f150.name == "runtime.NumGoroutine") = false := by kernel_rfl
theorem j1E : Tryz.f150.body.isNone = true := by kernel_rfl
theorem j1D : Extern.findNext Tryz.f150 = none := by kernel_rfl
theorem j1C : Extern.find Tryz.f150 = some Extern.BytealgCount.count := by kernel_rfl
theorem j1B : Tryz.prog.funcs[169]? = some Tryz.f169 := Tryz.func169
theorem j1A : (Tryz.f169.name == "runtime.NumGoroutine") = false := by kernel_rfl
theorem j1z : Tryz.f169.body.isNone = true := by kernel_rfl
theorem j1y : Extern.findNext Tryz.f169 = none := by kernel_rfl
theorem j1x : Extern.find Tryz.f169 = some Extern.BytealgIndexByte.indexByte := by kernel_rfl
theorem z6D : q4C Tryz.prog 131 z3a true := ⟨⟨[.int .i64, .int .i64], by kernel_rfl, fun w cs a hr => by obtain ⟨_, _, rfl, rfl, rfl⟩ := hr; exact ⟨⟨_, rfl⟩, ⟨⟨_, rfl⟩, trivial⟩⟩⟩, by kernel_rfl, fun w w' cs ds a c h1 h2 => by
  obtain ⟨_, _, rfl, rfl, rfl⟩ := h1
  obtain ⟨_, _, rfl, rfl, rfl⟩ := h2
  cases a; cases c
  simp [H7, q4s, z6a, Bool.decide_and]⟩
theorem j3E : q4C Tryz.prog 3 (RT.int .i64) false := z9p (by kernel_rfl) (by kernel_rfl)
theorem j4W : q4C Tryz.prog 55 j7 true := ⟨⟨[.int .i64, .int .i64, .int .i64, .int .i64], by kernel_rfl, fun w cs a hr => by obtain ⟨_, _, rfl, rfl, ⟨_, _, rfl, rfl, ⟨_, _, rfl, rfl, rfl⟩⟩⟩ := hr; exact ⟨⟨_, rfl⟩, ⟨⟨_, rfl⟩, ⟨⟨_, rfl⟩, ⟨⟨_, rfl⟩, trivial⟩⟩⟩⟩⟩, by kernel_rfl, fun w w' cs ds a c h1 h2 => by
  obtain ⟨_, _, rfl, rfl, ⟨_, _, rfl, rfl, ⟨_, _, rfl, rfl, rfl⟩⟩⟩ := h1
  obtain ⟨_, _, rfl, rfl, ⟨_, _, rfl, rfl, ⟨_, _, rfl, rfl, rfl⟩⟩⟩ := h2
  cases a; cases c
  simp [H7, q4s, z6a, Bool.decide_and]⟩
theorem z9j : Tryz.prog.underlying 134 = some (.map 55 4) := by kernel_rfl
theorem z3i : Tryz.prog.underlying 170 = some (.map 131 4) := by kernel_rfl
theorem q5Z : Tryz.prog.underlying 76 = some (.map 3 83) := by kernel_rfl
theorem j4K : ptT Tryz.prog 83 = true := by kernel_rfl
end Go.Proofs.YtjlollifgeggdaaGreatDoor
namespace Go.Proofs.YtjlollifgeggdaaGreatDoor
open Go.RowKit Go.Maps Go.Sort Go.Shelf Go.WideElems Go.Fp
section
variable {ν : Type} {vo : OT ν} {va : Bool} {g : Nat} {l : List (Int × ν)} {hs : Hp} {P : Program} {kt : TypeId}
def z4V : Value → Option (DataW Unit × List MemPlace) := fun _ => some (.nil, [])
theorem j4Y {x : Int} (h : -9223372036854775808 ≤ x ∧ x ≤ 9223372036854775807) : (Lit.int .i64 x).wf = true := by
  simp [Lit.wf, IntKind.min, IntKind.max, IntKind.signed, IntKind.bits]
  omega
theorem j1h {b : k9} {hp : Hp} {w : World} (ho : Own b hp w) (hsub : hs.Sublist hp) (h : OM0 (RT.int .i64) vo false va b.w g l hs) (hk : P.underlying kt = some (.int .i64)) (hwf : ∀ p ∈ l, -9223372036854775808 ≤ p.1 ∧ p.1 ≤ 9223372036854775807) (hlen : l.length ≤ maxLen) :
    ∃ D : DataW Unit, w.ownsMap P kt z4V g l.length D ∧ (intKeys D).Perm (l.map (·.1)) ∧ Maps.size D = l.length := by
  obtain ⟨es, cl, hss, h1, h2, h3, h4⟩ := h
  have hb : w.heap[g]? = some (.map es.toArray cl) := (ho.blk g _ (hsub.subset (by rw [h1]; simp))).2
  have hkeys : P3 (fun (e : MapEntry) (p : Int × ν) => e.key = .int .i64 p.1) es l := q6S (fun e p q hh => by
    have h5 : [e.key] = [Value.int .i64 p.1] := hh.1
    injection h5) h2
  have hlen2 : es.length = l.length := hkeys.length
  have hrd : P3 (fun (e : MapEntry) (p : Int × ν) => WideElems.rd P kt z4V e = some (.int .i64 p.1, .nil)) es l := by
    clear h2 h3 h4 hb h1 hlen hlen2
    induction es generalizing l with
    | nil => match l, hkeys with | [], _ => trivial
    | cons e es ih =>
      match l, hkeys with
      | p :: l, hkeys =>
        refine ⟨?_, ih (fun q hq => hwf q (by simp [hq])) hkeys.2⟩
        have hw : (Lit.int .i64 p.1).wf = true := by
          have := hwf p (by simp)
          exact j4Y this
        have hko : keyOf P kt e.key = some (.int .i64 p.1) := by
          rw [hkeys.1]
          exact keyOf_int_mk hk hw
        show WideElems.rd P kt z4V e = _
        unfold WideElems.rd
        rw [hko]
        rfl
  have hrg : (es.map (rg P kt z4V)) = l.map fun p => (Lit.int .i64 p.1, DataW.nil) := by
    clear h2 h3 h4 hb h1 hlen hlen2 hkeys hwf
    induction es generalizing l with
    | nil => match l, hrd with | [], _ => rfl
    | cons e es ih =>
      match l, hrd with
      | p :: l, hrd => rw [List.map_cons, List.map_cons, ih hrd.2, rg_of hrd.1]
  have hek : es.map (·.key) = l.map fun p => Value.int .i64 p.1 := by
    clear h2 h3 h4 hb h1 hlen hlen2 hrd hrg hwf
    induction es generalizing l with
    | nil => match l, hkeys with | [], _ => rfl
    | cons e es ih =>
      match l, hkeys with
      | p :: l, hkeys => rw [List.map_cons, List.map_cons, ih hkeys.2, hkeys.1]
  refine ⟨.map ((es.toArray.toList.map (rg P kt z4V)).foldr DataW.insert []), ⟨es.toArray, cl, hb, ⟨by simpa [hlen2] using hlen, ⟨fun x hx => h4.1 x (by simpa using hx), by simpa using h4.2, ?_⟩, fun x hx => ?_⟩, by simp [hlen2], rfl⟩, ?_, ?_⟩
  · rw [List.toList_toArray, hek]
    have h6 : (l.map fun p => Value.int .i64 p.1) = (l.map (·.1)).map (Value.int .i64) := by simp
    rw [h6]
    exact List.Pairwise.map _ (fun a c hne e => hne (by injection e)) h3
  · rw [List.toList_toArray] at hx
    obtain ⟨j, hj, rfl⟩ := List.getElem_of_mem hx
    obtain ⟨e, he, hq⟩ := hrd.get (Kf (hlen2 ▸ hj))
    rw [Kf hj] at he
    injection he with he
    rw [← he] at hq
    exact ⟨_, hq⟩
  · show (List.map (fun (p : Lit × DataW Unit) => Go.intOf p.1) ((es.toArray.toList.map (rg P kt z4V)).foldr DataW.insert [])).Perm _
    rw [List.toList_toArray, hrg]
    refine ((Go.WideShapes.sorted_perm _).map _).trans ?_
    rw [List.map_map]
    exact .refl _
  · show ((es.toArray.toList.map (rg P kt z4V)).foldr DataW.insert []).length = _
    rw [length_sorted, List.length_map, List.toList_toArray, hlen2]
theorem j3x {b : k9} {hp : Hp} {w : World} (ho : Own b hp w) (hsub : hs.Sublist hp) (h : OM (RT.int .i64) vo false va b.w g l hs) (hk : P.underlying kt = some (.int .i64)) (hwf : ∀ p ∈ l, -9223372036854775808 ≤ p.1 ∧ p.1 ≤ 9223372036854775807) (hlen : l.length ≤ maxLen) :
    ∃ D : DataW Unit, w.ownsMap P kt z4V g l.length D ∧ (intKeys D).Perm (l.map (·.1)) ∧ Maps.size D = l.length := by
  obtain ⟨l0, hp0, h⟩ := h
  obtain ⟨D, h1, h2, h3⟩ := j1h ho hsub h hk (fun p hp => hwf p (hp0.subset hp)) (by rw [hp0.length_eq]; exact hlen)
  rw [hp0.length_eq] at h1 h3
  exact ⟨D, h1, h2.trans (hp0.map _), h3⟩
end
def z4m : Go.Shelf.Ren := ⟨fun | 7 => 50 | 10 => 88 | n => n, fun | 23 => 76 | 26 => 3 | 3 => 83 | 28 => 112 | 0 => 0 | 27 => 111 | 33 => 82 | 4 => 4 | n => n, fun | n => n⟩
theorem j6V : Go.Proofs.SlLaysZI.n7 Tryz.prog z4m := {
  mixed := by kernel_rfl
  f7 := ⟨Tryz.f50.name, by decide, Tryz.func50.trans (congrArg some (by kernel_rfl))⟩
  f10 := ⟨Tryz.f88.name, by decide, Tryz.func88.trans (congrArg some (by kernel_rfl))⟩
  t0 := Tryz.underlying0
  a0 := Tryz.isAgg0
  z0 := Tryz.sizeOf0
  v0 := Tryz.zeroValue0
  t4 := Tryz.underlying4
  a4 := Tryz.isAgg4
  z4 := Tryz.sizeOf4
  v4 := Tryz.zeroValue4
  t23 := Tryz.underlying76
  a23 := Tryz.isAgg76
  z23 := Tryz.sizeOf76
  v23 := Tryz.zeroValue76
  t26 := Tryz.underlying3
  a26 := Tryz.isAgg3
  z26 := Tryz.sizeOf3
  v26 := Tryz.zeroValue3
  t27 := Tryz.underlying111
  a27 := Tryz.isAgg111
  z27 := Tryz.sizeOf111
  v27 := Tryz.zeroValue111
  t28 := Tryz.underlying112
  a28 := Tryz.isAgg112
  z28 := Tryz.sizeOf112
  v28 := Tryz.zeroValue112
  t33 := Tryz.underlying82
  a33 := Tryz.isAgg82
  z33 := Tryz.sizeOf82
  v33 := Tryz.zeroValue82 }
def z0C : Go.Shelf.Ren := ⟨fun | 6 => 49 | 8 => 86 | 9 => 87 | 11 => 114 | 13 => 116 | 12 => 115 | 23 => 134 | 24 => 135 | 14 => 125 | 15 => 126 | 16 => 127 | 17 => 128 | 18 => 129 | 19 => 130 | 20 => 131 | 21 => 132 | 22 => 133 | 25 => 143 | 26 => 144 | 27 => 145 | 28 => 146 | 29 => 147 | 30 => 120 | 31 => 156 | n => n, fun | 26 => 3 | 28 => 112 | 24 => 45 | 0 => 0 | 3 => 3 | 37 => 190 | 48 => 203 | 50 => 205 | 4 => 4 | 40 => 197 | 39 => 196 | 45 => 167 | 5 => 5 | 9 => 9 | 51 => 215 | 55 => 219 | 57 => 226 | 58 => 227 | 33 => 82 | n => n, fun | n => n⟩
theorem j3k : Go.Proofs.SlLaysZI.n6 Tryz.prog z0C := {
  mixed := by kernel_rfl
  f6 := ⟨Tryz.f49.name, by decide, Tryz.func49.trans (congrArg some (by kernel_rfl))⟩
  f8 := ⟨Tryz.f86.name, by decide, Tryz.func86.trans (congrArg some (by kernel_rfl))⟩
  f11 := ⟨Tryz.f114.name, by decide, Tryz.func114.trans (congrArg some (by kernel_rfl))⟩
  t0 := Tryz.underlying0
  a0 := Tryz.isAgg0
  z0 := Tryz.sizeOf0
  v0 := Tryz.zeroValue0
  t24 := Tryz.underlying45
  a24 := Tryz.isAgg45
  z24 := Tryz.sizeOf45
  v24 := Tryz.zeroValue45
  t26 := Tryz.underlying3
  a26 := Tryz.isAgg3
  z26 := Tryz.sizeOf3
  v26 := Tryz.zeroValue3
  t28 := Tryz.underlying112
  a28 := Tryz.isAgg112
  z28 := Tryz.sizeOf112
  v28 := Tryz.zeroValue112
  i26 := by kernel_rfl }
def z8y : Go.Shelf.Ren := ⟨fun | 5 => 87 | 8 => 116 | 7 => 115 | 19 => 134 | 20 => 135 | 10 => 125 | 11 => 126 | 12 => 127 | 13 => 128 | 14 => 129 | 15 => 130 | 16 => 131 | 17 => 132 | 18 => 133 | 30 => 143 | 31 => 144 | 32 => 145 | 33 => 146 | 34 => 147 | 35 => 120 | 40 => 156 | n => n, fun | 23 => 45 | 25 => 3 | 3 => 3 | 32 => 190 | 22 => 45 | 0 => 0 | 44 => 203 | 46 => 205 | 4 => 4 | 36 => 197 | 35 => 196 | 41 => 167 | 5 => 5 | 9 => 9 | 53 => 215 | 57 => 219 | 63 => 226 | 64 => 227 | n => n, fun | n => n⟩
theorem j4E : Go.Proofs.SlLaysM.n5 Tryz.prog z8y := {
  mixed := by kernel_rfl
  f5 := ⟨Tryz.f87.name, by decide, Tryz.func87.trans (congrArg some (by kernel_rfl))⟩
  f7 := ⟨Tryz.f115.name, by decide, Tryz.func115.trans (congrArg some (by kernel_rfl))⟩
  f8 := Tryz.func116.trans (congrArg some (by kernel_rfl))
  f10 := ⟨Tryz.f125.name, by decide, Tryz.func125.trans (congrArg some (by kernel_rfl))⟩
  f11 := ⟨Tryz.f126.name, by decide, Tryz.func126.trans (congrArg some (by kernel_rfl))⟩
  f12 := ⟨Tryz.f127.name, by decide, Tryz.func127.trans (congrArg some (by kernel_rfl))⟩
  f13 := ⟨Tryz.f128.name, by decide, Tryz.func128.trans (congrArg some (by kernel_rfl))⟩
  f14 := ⟨Tryz.f129.name, by decide, Tryz.func129.trans (congrArg some (by kernel_rfl))⟩
  f15 := ⟨Tryz.f130.name, by decide, Tryz.func130.trans (congrArg some (by kernel_rfl))⟩
  f16 := ⟨Tryz.f131.name, by decide, Tryz.func131.trans (congrArg some (by kernel_rfl))⟩
  f17 := ⟨Tryz.f132.name, by decide, Tryz.func132.trans (congrArg some (by kernel_rfl))⟩
  f18 := ⟨Tryz.f133.name, by decide, Tryz.func133.trans (congrArg some (by kernel_rfl))⟩
  f19 := Tryz.func134.trans (congrArg some (by kernel_rfl))
  f20 := Tryz.func135.trans (congrArg some (by kernel_rfl))
  f30 := ⟨Tryz.f143.name, by decide, Tryz.func143.trans (congrArg some (by kernel_rfl))⟩
  f31 := Tryz.func144.trans (congrArg some (by kernel_rfl))
  f32 := Tryz.func145.trans (congrArg some (by kernel_rfl))
  f33 := ⟨Tryz.f146.name, by decide, Tryz.func146.trans (congrArg some (by kernel_rfl))⟩
  f34 := ⟨Tryz.f147.name, by decide, Tryz.func147.trans (congrArg some (by kernel_rfl))⟩
  f35 := ⟨Tryz.f120.name, by decide, Tryz.func120.trans (congrArg some (by kernel_rfl))⟩
  f40 := ⟨Tryz.f156.name, by decide, Tryz.func156.trans (congrArg some (by kernel_rfl))⟩
  t0 := Tryz.underlying0
  a0 := Tryz.isAgg0
  z0 := Tryz.sizeOf0
  v0 := Tryz.zeroValue0
  t3 := Tryz.underlying3
  a3 := Tryz.isAgg3
  z3 := Tryz.sizeOf3
  v3 := Tryz.zeroValue3
  t4 := Tryz.underlying4
  a4 := Tryz.isAgg4
  z4 := Tryz.sizeOf4
  v4 := Tryz.zeroValue4
  t5 := Tryz.underlying5
  a5 := Tryz.isAgg5
  z5 := Tryz.sizeOf5
  v5 := Tryz.zeroValue5
  t9 := Tryz.underlying9
  a9 := Tryz.isAgg9
  z9 := Tryz.sizeOf9
  v9 := Tryz.zeroValue9
  t22 := Tryz.underlying45
  a22 := Tryz.isAgg45
  z22 := Tryz.sizeOf45
  v22 := Tryz.zeroValue45
  t23 := Tryz.underlying45
  a23 := Tryz.isAgg45
  z23 := Tryz.sizeOf45
  v23 := Tryz.zeroValue45
  t25 := Tryz.underlying3
  a25 := Tryz.isAgg3
  z25 := Tryz.sizeOf3
  v25 := Tryz.zeroValue3
  t32 := Tryz.underlying190
  a32 := Tryz.isAgg190
  z32 := Tryz.sizeOf190
  v32 := Tryz.zeroValue190
  t35 := Tryz.underlying196
  a35 := Tryz.isAgg196
  z35 := Tryz.sizeOf196
  v35 := Tryz.zeroValue196
  t36 := Tryz.underlying197
  a36 := Tryz.isAgg197
  z36 := Tryz.sizeOf197
  v36 := Tryz.zeroValue197
  t41 := Tryz.underlying167
  a41 := Tryz.isAgg167
  z41 := Tryz.sizeOf167
  v41 := Tryz.zeroValue167
  t44 := Tryz.underlying203
  a44 := Tryz.isAgg203
  z44 := Tryz.sizeOf203
  v44 := Tryz.zeroValue203
  t46 := Tryz.underlying205
  a46 := Tryz.isAgg205
  z46 := Tryz.sizeOf205
  v46 := Tryz.zeroValue205
  t53 := Tryz.underlying215
  a53 := Tryz.isAgg215
  z53 := Tryz.sizeOf215
  v53 := Tryz.zeroValue215
  t57 := Tryz.underlying219
  a57 := Tryz.isAgg219
  z57 := Tryz.sizeOf219
  v57 := Tryz.zeroValue219
  t63 := Tryz.underlying226
  a63 := Tryz.isAgg226
  z63 := Tryz.sizeOf226
  v63 := Tryz.zeroValue226
  t64 := Tryz.underlying227
  a64 := Tryz.isAgg227
  z64 := Tryz.sizeOf227
  v64 := Tryz.zeroValue227 }
theorem j4D (m : Nat) : AnyZI.SortsIn Tryz.prog z0C Fence.wide m :=
  ⟨fun blk off cap ss W hH hblk hsz => callsIn_wide.2 (AnyM.slices_Sort_int j4E blk off cap ss W hH hblk hsz),
   fun p cap W => callsIn_wide.2 (AnyM.slices_Sort_int_none j4E p cap W)⟩
set_option maxHeartbeats 1000000 in
theorem j0S {b : k9} {g gm : Nat} {ads : Int → Nat} {l : List (Int × Option Int)} {hs R : Hp} {q : List Int} (hm : z2W l = some q) (h : OM (RT.int .i64) (OT.fr (RT.key ads)) false false b.w gm l hs) :
 v8 Tryz.prog 49 [.func (.func 88) #[] #[.pointer (some ⟨g, 0, none⟩)]] b ((g, Cl 76 [.map (some gm)]) :: (hs ++ R)) (fun v b' hp' => ∃ (A : Option Addr) (c : Nat) (hs' : Hp), .slice A q.length c = v ∧ (g, Cl 76 [.map (some gm)]) :: (hs' ++ (hs ++ R)) = hp' ∧ OS 3 (OT.fr (RT.int .i64)) b'.w (.slice A q.length c) q hs') := fun w ho => by
  obtain ⟨_, hroom, hm⟩ := q6e hm
  have hroom := W9 hroom
  split at hm
  · rename_i hall
    injection hm with hm
    subst hm
    have hml : maxLen = 9223372036854775807 := by decide
    obtain ⟨D, hown, hperm, hsize⟩ := j3x (kt := 3) ho ((Kb _ _).trans (List.sublist_cons_self _ _)) h (by kernel_rfl) (fun p hp => of_decide_eq_true (List.all_eq_true.1 hall p hp)) (by omega)
    have hcell : w.cell? ⟨g, 0, none⟩ = some (.map (some gm)) := ho.cell (i := 0) (t := 76) (cs := [.map (some gm)]) rfl 0
    have hlt : g < w.heap.size := ho.lt (List.mem_cons_self ..)
    have hseq : SeqGives Fence.wide 2 Tryz.prog 88 #[.pointer (some ⟨g, 0, none⟩)] encZ (fun ss => ss.Perm (intKeys D)) (Maps.size D) w :=
      AnyZI.keys_gives (ρ := z4m) { j6V with } Fence.wide _ trivial rfl (by omega) g gm l.length D w hlt hcell hown
    have cS := AnyZI.sorted_in j3k Fence.wide 5 trivial trivial trivial trivial rfl (by omega) (j4D _) (enters_of Tryz.func87 (by kernel_rfl) rfl) 88 #[.pointer (some ⟨g, 0, none⟩)] trivial (enters_of Tryz.func88 (by kernel_rfl) rfl) _ _ (by omega) (by omega) w hseq
    change CallsIn _ _ Tryz.prog 49 _ _ _ at cS
    refine (callsIn_wide (n := 5)).1 (cS.mono ?_)
    rintro e w' ⟨v, ss, rfl, hS, hrow, hnil, hb⟩
    have hms : ss.mergeSort (fun x y => decide (x ≤ y)) = (l.map (·.1)).mergeSort leI := mergeSort_of_perm_i (hS.trans hperm)
    rw [hms] at hrow
    have hlen : ss.length = ((l.map (·.1)).mergeSort leI).length := by rw [← hms, List.length_mergeSort]
    rw [hlen] at hrow
    generalize (l.map (·.1)).mergeSort leI = q at *
    have hfl : ∀ m : List Int, (m.map fun x => [encZ x]).flatten = m.map encZ := fun m => by induction m with
      | nil => rfl
      | cons a m ih => rw [List.map_cons, List.flatten_cons, ih]; rfl
    have hall2 : ∀ (w : World) (m : List Int), P3 ((RT.int .i64).rep w) (m.map fun x => [encZ x]) m := fun w m => by induction m with
      | nil => trivial
      | cons a m ih => exact ⟨rfl, ih⟩
    obtain ⟨_, h1 | ⟨g2, cap, cur, h1, h2, h3, h4, h5, h6, h7⟩⟩ := hrow
    · obtain ⟨h1, h0⟩ := h1
      have hq0 : q = [] := List.length_eq_zero_iff.1 h0
      subst hq0
      subst h1
      refine ⟨_, b, _, rfl, k9.Le.refl _, ho.below_ hb, none, 0, [], rfl, rfl, OS.nil⟩
    · have hown2 : Own (w : k9) [(g2, Cl 3 cur.toList)] w' := ⟨Nat.le_refl _, hb, z1u hb, by simp, fun g' o' hm => by
          simp at hm
          obtain ⟨rfl, rfl⟩ := hm
          exact ⟨h2, h3⟩, fun g' o' hm p hp => by
          simp at hm
          obtain ⟨rfl, rfl⟩ := hm
          exact q4x _ _ (by rw [hp]; exact h2), fun g' o' hm => absurd hm (by simp)⟩
      have ho2 := ho.grow hown2
      refine ⟨v, b, (g, Cl 76 [.map (some gm)]) :: ([(g2, Cl 3 cur.toList)] ++ (hs ++ R)), rfl, k9.Le.refl _, ho2.perm (List.Perm.swap _ _ _), some ⟨g2, 0, none⟩, cap, [(g2, Cl 3 cur.toList)], h1.symm, rfl, ?_⟩
      refine ⟨q.map fun x => [encZ x], List.replicate q.length [], [(g2, Cl 3 cur.toList)], .inr ⟨g2, cap, [], cur.toList.drop q.length, rfl, ?_, ?_, ?_, h4, h5, q9S.nil⟩, q5R (hall2 _ _), by simp⟩
      · rw [hfl, ← h7, Nat.mul_one, List.nil_append, List.take_append_drop]
      · rw [hfl]; show (q.map encZ).length = q.length * 1; simp
      · rw [hfl, ← h7, Nat.mul_one, List.take_append_drop]
        show cap * 1 ≤ _
        simp [h6]
  · cases hm
end Go.Proofs.YtjlollifgeggdaaGreatDoor
namespace Go.Proofs.YtjlollifgeggdaaGreatDoor
open Go.RowKit Go.Fp
def j3i (s : v6) : Value := .agg #[.int .i64 s.Section, .int .i64 s.In, .int .i64 s.Out]
theorem z9y {N : Nat} : ∀ (k m : Nat), forM (σ := Unit) (τ := Empty) (fun _ _ => some (.inl ())) m k () = some (.inl ())
  | _, 0 => rfl
  | k, m + 1 => z9y (N := N) (k + 1) m
def j0w : Prop := ∀ (b : k9) (R : Hp) (s1 : j3) (s17 : v7) (A2 : Option Addr) (c3 : Nat) (A5 : Option Addr) (c6 : Nat) (A8 : Option Addr) (c9 : Nat) (A11 : Option Addr) (c12 : Nat) (A14 : Option Addr) (c15 : Nat) (h4 : FZ RT.str b.w A2 c3 s1.Stations) (h7 : FZ j4 b.w A5 c6 s1.Sections) (h10 : FZ Q0 b.w A8 c9 s1.Links) (h13 : FZ j6 b.w A11 c12 s1.Signals) (h16 : FZ Q1 b.w A14 c15 s1.Gates) (x : Int) (y : Int) (q : Bool) (hm : Y1 s1 s17 = some (x, y, q)),
  v8 Tryz.prog 98 [.agg #[.slice A2 (s1.Stations).length c3, .slice A5 (s1.Sections).length c6, .slice A8 (s1.Links).length c9, .slice A11 (s1.Signals).length c12, .slice A14 (s1.Gates).length c15], .agg #[.int .i64 (s17.section_), .int .i64 (s17.end_)]] b (R) (fun v b' hp' => .tuple #[.agg #[.int .i64 (x), .int .i64 (y)], .bool (q)] = v ∧ R = hp')
def j6h : Prop := ∀ (b : k9) (R : Hp) (x1 : Int) (x2 : Int) (l : (List Int)) (hm : q2f x1 x2 = some l),
  v8 Tryz.prog 105 [.int .i64 (x1), .int .i64 (x2)] b (R) (fun v b' hp' => ∃ (A : Option Addr), ∃ (c : Nat), .slice A (l).length c = v ∧ R = hp' ∧ FZ (RT.int .i64) b'.w A c l)
set_option maxRecDepth 20000 in
theorem z7p (cj : j0w) (co : j6h) {b : k9} {s1 : j3} {s17 : v7} {A2 : Option Addr} {c3 : Nat} {A5 : Option Addr} {c6 : Nat} {A8 : Option Addr} {c9 : Nat} {A11 : Option Addr} {c12 : Nat} {A14 : Option Addr} {c15 : Nat} (h4 : FZ RT.str b.w A2 c3 s1.Stations) (h7 : FZ j4 b.w A5 c6 s1.Sections) (h10 : FZ Q0 b.w A8 c9 s1.Links) (h13 : FZ j6 b.w A11 c12 s1.Signals) (h16 : FZ Q1 b.w A14 c15 s1.Gates)
    {Bn Bf : Nat} (hn : ∀ (i : Nat) (u : Value), ([.slice A2 (s1.Stations).length c3, .slice A5 (s1.Sections).length c6, .slice A8 (s1.Links).length c9, .slice A11 (s1.Signals).length c12, .slice A14 (s1.Gates).length c15] : List Value)[i]? = some u → b.w.cell? ((⟨Bn, 0, none⟩ : Addr).add i) = some u)
    (hf : ∀ (i : Nat) (u : Value), ([.int .i64 (s17.section_), .int .i64 (s17.end_)] : List Value)[i]? = some u → b.w.cell? ((⟨Bf, 0, none⟩ : Addr).add i) = some u) {xs : List v6} (hm : q0P s1 s17 = some xs) :
    j6j Tryz.prog 121 #[.pointer (some ⟨Bn, 0, none⟩), .pointer (some ⟨Bf, 0, none⟩)] b (xs.map j3i) := by
  have P0 : q9Q Tryz.prog 28 5 = true := by kernel_rfl
  have agg77 : q9Q Tryz.prog 131 2 = true := by kernel_rfl
  have z9S : j1 Tryz.prog 98 = true := by kernel_rfl
  have z7d : j1 Tryz.prog 105 = true := by kernel_rfl
  have zero77 : ((Tryz.prog.info? 131).bind (·.zero)) = some (.agg #[.int .i64 0, .int .i64 0]) := by kernel_rfl
  have siz77 : q6d Tryz.prog 131 2 = true := by kernel_rfl
  have q0B : q0Q Tryz.prog 28 1 1 = true := by kernel_rfl
  have fld77_0 : q0Q Tryz.prog 131 0 0 = true := by kernel_rfl
  have fld77_1 : q0Q Tryz.prog 131 1 1 = true := by kernel_rfl
  have fld58_0 : q0Q Tryz.prog 108 0 0 = true := by kernel_rfl
  have q5f : q5B Tryz.prog 23 = true := by kernel_rfl
  have Q8 : q5B Tryz.prog 3 = true := by kernel_rfl
  have z1y : slT Tryz.prog 23 108 7 = true := by kernel_rfl
  have sl48 : slT Tryz.prog 45 3 1 = true := by kernel_rfl
  have mixed : Tryz.prog.follows .mixedOrders = true := by kernel_rfl
  intro b0 hp0 w hle how l Rd Rx hY h0
  have h4 := h4.le hle
  have h7 := h7.le hle
  have h10 := h10.le hle
  have h13 := h13.le hle
  have h16 := h16.le hle
  have hn := j0o hn hle
  have hf := j0o hf hle
  unfold q0P at hm
  refine j3K (fn := Tryz.f121) (args := [.func (.yield l) #[] #[], .pointer (some ((⟨Bn, 0, none⟩ : Addr).add 0)), .pointer (some ((⟨Bf, 0, none⟩ : Addr).add 0))]) (w0 := b0) (hp := hp0) 41 Tryz.func121 rfl Tryz.ntmps121 rfl ?_ w how
  refine q3F ?_
  refine q0I ?_
  refine q7s rfl (z0x (vs := [.slice A2 (s1.Stations).length c3, .slice A5 (s1.Sections).length c6, .slice A8 (s1.Links).length c9, .slice A11 (s1.Signals).length c12, .slice A14 (s1.Gates).length c15]) 5 rfl P0 rfl (fun j u hu => by rw [Nat.zero_add]; exact hn j u hu)) ?_
  refine q7s rfl (z0x (vs := [.int .i64 (s17.section_), .int .i64 (s17.end_)]) 2 rfl agg77 rfl (fun j u hu => by rw [Nat.zero_add]; exact hf j u hu)) ?_
  obtain ⟨⟨x, y, q⟩, hcl4, hm⟩ := q6e hm
  have hm := (q6j hm)
  refine q8S _ rfl z9S rfl (cj _ _ s1 s17 A2 c3 A5 c6 A8 c9 A11 c12 A14 c15 h4 h7 h10 h13 h16 x y q hcl4) ?_
  rintro _ b5 _ hle6 ⟨rfl, rfl⟩
  refine q7s rfl (q3L rfl) ?_
  refine q7s rfl (w7 rfl rfl) ?_
  refine q7s rfl (w7 rfl rfl) ?_
  refine z2i rfl (q8Q [.int .i64 0, .int .i64 0] zero77 rfl) ?_
  rintro _ _ ⟨g7, rfl, rfl⟩
  refine z2i rfl (q5u (vs := [_, _]) 0 2 rfl rfl rfl siz77 rfl (by intro u hu; simp only [List.mem_cons, List.not_mem_nil, or_false] at hu; rcases hu with rfl | rfl <;> rfl) rfl (by simp)) ?_
  rintro _ _ rfl
  refine q7s rfl (q2d rfl) ?_
  refine q7d ?_
  refine Q9 ?_
  refine j0d 0 rfl ?_
  intro b7 hle8 hz
  have hq := j4k hz
  refine q3F ?_
  refine q3F ?_
  refine q0I ?_
  refine q7s rfl (q3L rfl) ?_
  refine q7s rfl (q7k rfl) ?_
  refine q7d ?_
  refine Q9 ?_
  refine z7j _ rfl (fun hc => ?_) (fun hc => ?_)
  · have hqf : q = false := by simpa using hc
    subst hqf
    obtain rfl := z5m hm
    refine q4B ?_
    refine X9 ?_
    intro a w' hft ho'
    exact z5F hft ⟨_, results_none rfl _ _ _, ⟨_, rfl⟩, b0, hp0, k9.Le.refl _, (hle6.trans hle8).back _ _ ho', .inl h0⟩
  have hqt : q = true := by simpa using hc
  subst hqt
  obtain ⟨p, hp, hm⟩ := q6e (by simpa using hm)
  obtain ⟨o, hom, hm⟩ := q6e hm
  obtain rfl := z5m hm
  refine q4z ?_
  refine Q9 ?_
  refine q3F ?_
  have h7' := h7.le (hle6.trans hle8)
  have hn' := j0o hn (hle6.trans hle8)
  refine z6e (hp0) mixed ?_
  refine j2O (k9.Le.refl _) (.refl _) ?_
  refine z8g 0 rfl (q4j rfl q0B) ?_
  refine j1Z 1 rfl (q5d rfl q5f (hn' 1 _ rfl)) ?_
  refine z8g 2 rfl (q4j (p := ⟨g7, 0, none⟩) (k := 0) rfl fld77_0) ?_
  refine j1Z 3 rfl (q5d rfl Q8 (hq 0 _ rfl)) ?_
  obtain ⟨j20, hj21, hx22⟩ := q5G hp
  obtain ⟨cs23, hr24, hcs25, hA26, hlt27⟩ := FZ.get (sz := 7) rfl (by decide) h7' hx22
  obtain ⟨_, _, rfl, rfl, ⟨_, _, rfl, rfl, ⟨_, _, rfl, rfl, ⟨_, _, rfl, rfl, ⟨_, _, rfl, rfl, ⟨_, _, rfl, rfl, rfl⟩⟩⟩⟩⟩⟩ := hr24
  refine z8g 4 rfl (q1s j20 rfl rfl hj21 hlt27 hA26 z1y) ?_
  refine z8g 5 rfl (q2t rfl hA26 fld58_0) ?_
  refine j1Z 6 rfl (q2l rfl Q8 (hcs25 0 _ rfl)) ?_
  refine z8g 7 rfl (q4j (p := ⟨g7, 0, none⟩) (k := 0) rfl fld77_1) ?_
  refine j1Z 8 rfl (q5d rfl Q8 (hq 1 _ rfl)) ?_
  refine z8g 11 rfl (q3L rfl) ?_
  refine z6d ?_
  refine z8c [9] (by kernel_rfl) rfl ?_
  refine z0j (k9.Le.refl _) rfl rfl _ z7d rfl (co _ _ p.Kind y o hom) ?_ ?_
  case refine_2 => exact z8b
  rintro _ b30 _ hle31 ⟨A32, c33, rfl, rfl, h34⟩
  refine ⟨.inr (.refl _), ?_⟩
  refine j2O hle31 (.refl _) ?_
  refine z8g 10 rfl (z2l rfl sl48) ?_
  refine z6d ?_
  refine z2J (by kernel_rfl) ?_
  refine Q9 ?_
  refine q7C ?_
  have hle : b0.Le b30 := (hle6.trans hle8).trans hle31
  have hb : o.length ≤ 9223372036854775807 := h34.bd
  refine j0e (τ := Empty) (Inv := fun k _ b e' hp' => (∃ b1, Rd k b1 hp' ∧ b0.Le b1 ∧ b1.Le b) ∧ b30.Le b ∧ [(0, .func (.yield l) #[] #[]), (4, .pointer (some ((⟨g7, 0, none⟩ : Addr).add 0))), (25, .slice A32 (o).length c33), (26, .int .i64 ((o.length : Int))), (27, .int .i64 (k : Int))] = e') (z9y (N := 0) 0 o.length)
    (e' := [(0, .func (.yield l) #[] #[]), (4, .pointer (some ((⟨g7, 0, none⟩ : Addr).add 0))), (25, .slice A32 (o).length c33), (26, .int .i64 ((o.length : Int))), (27, .int .i64 ((0 : Nat) : Int))]) (hp' := hp0) ⟨rfl, rfl, rfl, rfl, rfl, trivial⟩ (.refl _) ⟨⟨b0, h0, k9.Le.refl _, hle⟩, k9.Le.refl _, rfl⟩ ?_ ?_
  ·
    rintro k _ bk _ hpk oo hk ⟨⟨b1, hr, hb1, hb2⟩, hb3, rfl⟩ hoo _
    obtain rfl := (Kd hoo)
    refine q3F ?_
    refine q0I ?_
    refine q7s rfl (q6W rfl rfl (by omega)) ?_
    refine q7d ?_
    refine Q9 ?_
    refine q3F ?_
    refine k7 rfl ?_
    refine q4z ?_
    refine Q9 ?_
    refine q3F ?_
    refine q7C ?_
    refine q3F ?_
    refine q0I ?_
    have hx12 : o[k]? = some o[k] := Kf hk
    obtain ⟨cs13, hr14, hcs15, hA16, hlt17⟩ := FZ.get (sz := 1) rfl (by decide) (h34.le hb3) hx12
    obtain rfl := hr14
    refine q7s rfl (q1s k rfl rfl rfl hlt17 hA16 sl48) ?_
    refine q7s rfl (q2l rfl Q8 (hcs15 0 _ rfl)) ?_
    refine q7s rfl (q2d rfl) ?_
    refine q7d ?_
    refine Q9 ?_
    refine q3F ?_
    refine q0I ?_
    have hq := j0o hq (hle31.trans hb3)
    refine q7s rfl (q3L rfl) ?_
    refine q7s rfl (q4j (p := ⟨g7, 0, none⟩) (k := 0) rfl fld77_0) ?_
    refine q7s rfl (q5d rfl Q8 (hq 0 _ rfl)) ?_
    refine q7s rfl (q4j (p := ⟨g7, 0, none⟩) (k := 0) rfl fld77_1) ?_
    refine q7s rfl (q5d rfl Q8 (hq 1 _ rfl)) ?_
    refine q7s rfl (q3L rfl) ?_
    refine q7s rfl (q7U (v := .agg #[.int .i64 (x), .int .i64 (y), .int .i64 (o[k])]) [(0, .int .i64 (x)), (1, .int .i64 (y)), (2, .int .i64 (o[k]))] rfl (fun _ => by kernel_rfl)) ?_
    refine j3f (K := fun q b3 hp3 => (q = true ∧ Rd (k + 1) b3 hp3) ∨ (q = false ∧ Rx b3 hp3)) rfl rfl rfl (fun W hW => ?_) ?_
    · obtain ⟨fn, tmps, assign, body, g1, g2⟩ := hY k (j3i ⟨x, y, o[k]⟩) b1 hpk (by simp [hk]) hb1 hr bk hb2 W hW
      refine ⟨fn, tmps, assign, body, g1, g2.mono ?_⟩
      rintro e w' ⟨b3, hp3, k1, k2, ⟨rfl, k3⟩ | ⟨rfl, k3⟩⟩
      · exact ⟨true, b3, hp3, rfl, k1, k2, .inl ⟨rfl, k3⟩⟩
      · exact ⟨false, b3, hp3, rfl, k1, k2, .inr ⟨rfl, k3⟩⟩
    · rintro q b3 hp3 hbb (⟨rfl, hr3⟩ | ⟨rfl, hx3⟩)
      · refine q7s rfl (q7k rfl) ?_
        refine q7d ?_
        refine Q9 ?_
        refine w9 rfl ?_
        refine q4z ?_
        refine q0R ?_
        refine Q9 ?_
        refine q0I ?_
        refine q7s rfl (z2m rfl rfl (by omega)) ?_
        refine q7s rfl (q3L rfl) ?_
        refine q7d ?_
        exact z6h () rfl (e' := [(0, .func (.yield l) #[] #[]), (4, .pointer (some ((⟨g7, 0, none⟩ : Addr).add 0))), (25, .slice A32 (o).length c33), (26, .int .i64 ((o.length : Int))), (27, .int .i64 ((k : Int) + 1))]) (hp' := hp3) ⟨rfl, rfl, rfl, rfl, rfl, trivial⟩ (.refl _) ⟨⟨b3, hr3, (hb1.trans hb2).trans hbb, k9.Le.refl _⟩, hb3.trans hbb, rfl⟩
      · refine q7s rfl (q7k rfl) ?_
        refine q7d ?_
        refine Q9 ?_
        refine k7 rfl ?_
        refine q4B ?_
        refine q2j ?_
        refine X9 ?_
        refine X9 ?_
        refine q2j ?_
        intro a w' hft ho'
        exact z5F hft ⟨_, results_none rfl _ _ _, ⟨_, rfl⟩, b3, hp3, (hb1.trans hb2).trans hbb, ho', .inr hx3⟩
  ·
    rintro _ bk _ hpk ⟨⟨b1, hr, hb1, hb2⟩, hb3, rfl⟩ _
    refine q3F ?_
    refine q0I ?_
    refine q7s rfl (q6X rfl rfl (by omega)) ?_
    refine q7d ?_
    refine Q9 ?_
    refine q3F ?_
    refine w9 rfl ?_
    refine z2C ?_
    refine q2i ?_
    refine q2i ?_
    refine q2X ?_
    intro a w' hft ho'
    exact z5F hft ⟨_, results_none rfl _ _ _, ⟨_, rfl⟩, b1, hpk, hb1, hb2.back _ _ ho', .inl (by simpa using hr)⟩
set_option maxRecDepth 20000 in
theorem j2V (cj : j0w) (co : j6h) {b : k9} {R : Hp} {s1 : j3} {s17 : v7} {A2 : Option Addr} {c3 : Nat} {A5 : Option Addr} {c6 : Nat} {A8 : Option Addr} {c9 : Nat} {A11 : Option Addr} {c12 : Nat} {A14 : Option Addr} {c15 : Nat} (h4 : FZ RT.str b.w A2 c3 s1.Stations) (h7 : FZ j4 b.w A5 c6 s1.Sections) (h10 : FZ Q0 b.w A8 c9 s1.Links) (h13 : FZ j6 b.w A11 c12 s1.Signals) (h16 : FZ Q1 b.w A14 c15 s1.Gates) {xs : List v6} (hm : q0P s1 s17 = some xs) :
 v8 Tryz.prog 99 [.agg #[.slice A2 (s1.Stations).length c3, .slice A5 (s1.Sections).length c6, .slice A8 (s1.Links).length c9, .slice A11 (s1.Signals).length c12, .slice A14 (s1.Gates).length c15], .agg #[.int .i64 (s17.section_), .int .i64 (s17.end_)]] b (R) (fun v b' hp' => ∃ (v10 : Value), v10 = v ∧ R = hp' ∧ j4m Tryz.prog b' v10 (xs.map j3i)) := by
  refine q5m 6 Tryz.func99 rfl Tryz.ntmps99 rfl ?_
  refine q3F ?_
  refine q0I ?_
  refine z2i rfl (z5k _ rfl rfl) ?_
  rintro _ _ ⟨g1, rfl, rfl⟩
  refine z2i rfl (z5k _ rfl rfl) ?_
  rintro _ _ ⟨g2, rfl, rfl⟩
  refine q7s rfl (q2d rfl) ?_
  refine q7d ?_
  refine Q9 ?_
  refine j0d 0 rfl ?_
  intro b1 hle1 hz1
  have hf := j4k hz1
  refine j0d 0 rfl ?_
  intro b2 hle2 hz2
  have hn := j4k hz2
  have hf := j0o hf hle2
  refine q3F ?_
  refine q0I ?_
  refine q7s rfl (q2m _ _ rfl rfl) ?_
  refine q7s rfl (q2d rfl) ?_
  refine q7d ?_
  refine Q9 ?_
  refine q4B ?_
  have hle := hle1.trans hle2
  exact j7r (rs := [.tmp 4]) [.func (.func 121) #[] #[.pointer (some ⟨g1, 0, none⟩), .pointer (some ⟨g2, 0, none⟩)]] hle (by decide) rfl ⟨rfl, trivial⟩ rfl (hp' := R) (.refl _) ⟨_, rfl, rfl, _, _, rfl, by kernel_rfl, z7p cj co (b := b2.over b) (h4.le hle.over) (h7.le hle.over) (h10.le hle.over) (h13.le hle.over) (h16.le hle.over) hn hf hm⟩
end Go.Proofs.YtjlollifgeggdaaGreatDoor
namespace Go.Fp
open Go.RowKit
section
variable {P : Program} {n : NT} {b : k9} {Q : Exit → Act → World → Prop} {e : Env}
theorem j7g {c : Code} {a0 : Nat × Obj} (h1 h2 : Hp) {R : Hp} (h : SLc P n b Q c e ([a0] ++ (h2 ++ (h1 ++ R)))) : SLc P n b Q c e ([a0] ++ (h1 ++ (h2 ++ R))) := z7i _ h1 h2 R rfl h
theorem j5l {c : Code} {a0 a1 a2 : Nat × Obj} (h1 h2 : Hp) {R : Hp} (h : SLc P n b Q c e ([a0, a1, a2] ++ (h2 ++ (h1 ++ R)))) : SLc P n b Q c e ([a0, a1, a2] ++ (h1 ++ (h2 ++ R))) := z7i _ h1 h2 R rfl h
theorem j3R {c : Code} {a0 : Nat × Obj} (h1 h2 h3 : Hp) {R : Hp} (h : SLc P n b Q c e ([a0] ++ (h3 ++ (h1 ++ (h2 ++ R))))) : SLc P n b Q c e ([a0] ++ (h1 ++ (h2 ++ (h3 ++ R)))) := q8t _ h1 h2 h3 R rfl h
theorem q6D {c : Code} {a0 a1 : Nat × Obj} (h1 h2 h3 : Hp) {R : Hp} (h : SLc P n b Q c e ([a0, a1] ++ (h3 ++ (h1 ++ (h2 ++ R))))) : SLc P n b Q c e ([a0, a1] ++ (h1 ++ (h2 ++ (h3 ++ R)))) := q8t _ h1 h2 h3 R rfl h
theorem z3z {c : Code} {a0 a1 a2 : Nat × Obj} (h1 h2 h3 : Hp) {R : Hp} (h : SLc P n b Q c e ([a0, a1, a2] ++ (h3 ++ (h1 ++ (h2 ++ R))))) : SLc P n b Q c e ([a0, a1, a2] ++ (h1 ++ (h2 ++ (h3 ++ R)))) := q8t _ h1 h2 h3 R rfl h
theorem j3Q {c : Code} {a0 a1 a2 a3 : Nat × Obj} (h1 h2 h3 : Hp) {R : Hp} (h : SLc P n b Q c e ([a0, a1, a2, a3] ++ (h3 ++ (h1 ++ (h2 ++ R))))) : SLc P n b Q c e ([a0, a1, a2, a3] ++ (h1 ++ (h2 ++ (h3 ++ R)))) := q8t _ h1 h2 h3 R rfl h
theorem z7V {c : Code} {a0 a1 a2 a3 a4 : Nat × Obj} (h1 h2 h3 : Hp) {R : Hp} (h : SLc P n b Q c e ([a0, a1, a2, a3, a4] ++ (h3 ++ (h1 ++ (h2 ++ R))))) : SLc P n b Q c e ([a0, a1, a2, a3, a4] ++ (h1 ++ (h2 ++ (h3 ++ R)))) := q8t _ h1 h2 h3 R rfl h
theorem F9 {c : Code} {a0 : Nat × Obj} (h1 h2 h3 h4 : Hp) {R : Hp} (h : SLc P n b Q c e ([a0] ++ (h4 ++ (h1 ++ (h2 ++ (h3 ++ R)))))) : SLc P n b Q c e ([a0] ++ (h1 ++ (h2 ++ (h3 ++ (h4 ++ R))))) := z7h _ h1 h2 h3 h4 R rfl h
theorem j1P {c : Code} {a0 a1 : Nat × Obj} (h1 h2 h3 h4 : Hp) {R : Hp} (h : SLc P n b Q c e ([a0, a1] ++ (h4 ++ (h1 ++ (h2 ++ (h3 ++ R)))))) : SLc P n b Q c e ([a0, a1] ++ (h1 ++ (h2 ++ (h3 ++ (h4 ++ R))))) := z7h _ h1 h2 h3 h4 R rfl h
theorem X1 {c : Code} {a0 : Nat × Obj} (h1 h2 h3 h4 h5 : Hp) {R : Hp} (h : SLc P n b Q c e ([a0] ++ (h5 ++ (h1 ++ (h2 ++ (h3 ++ (h4 ++ R))))))) : SLc P n b Q c e ([a0] ++ (h1 ++ (h2 ++ (h3 ++ (h4 ++ (h5 ++ R)))))) := z7g _ h1 h2 h3 h4 h5 R rfl h
theorem q2R {c : Code} {a0 a1 : Nat × Obj} (h1 h2 h3 h4 h5 : Hp) {R : Hp} (h : SLc P n b Q c e ([a0, a1] ++ (h5 ++ (h1 ++ (h2 ++ (h3 ++ (h4 ++ R))))))) : SLc P n b Q c e ([a0, a1] ++ (h1 ++ (h2 ++ (h3 ++ (h4 ++ (h5 ++ R)))))) := z7g _ h1 h2 h3 h4 h5 R rfl h
theorem j1O {c : Code} {a0 : Nat × Obj} (h1 h2 h3 h4 h5 h6 : Hp) {R : Hp} (h : SLc P n b Q c e ([a0] ++ (h6 ++ (h1 ++ (h2 ++ (h3 ++ (h4 ++ (h5 ++ R)))))))) : SLc P n b Q c e ([a0] ++ (h1 ++ (h2 ++ (h3 ++ (h4 ++ (h5 ++ (h6 ++ R))))))) := z7f _ h1 h2 h3 h4 h5 h6 R rfl h
theorem j7f {c : Code} {a0 a1 : Nat × Obj} (h1 h2 h3 h4 h5 h6 : Hp) {R : Hp} (h : SLc P n b Q c e ([a0, a1] ++ (h6 ++ (h1 ++ (h2 ++ (h3 ++ (h4 ++ (h5 ++ R)))))))) : SLc P n b Q c e ([a0, a1] ++ (h1 ++ (h2 ++ (h3 ++ (h4 ++ (h5 ++ (h6 ++ R))))))) := z7f _ h1 h2 h3 h4 h5 h6 R rfl h
theorem j7d {w0 : k9} {ops : Array Oper} {S : Hp} {fuel : Nat} {listed : Array Bool} {a0 a1 a2 : Nat × Obj} (h1 h2 : Hp) {R : Hp} (h : SLA P n w0 b ops S Q fuel listed e ([a0, a1, a2] ++ (h2 ++ (h1 ++ R)))) : SLA P n w0 b ops S Q fuel listed e ([a0, a1, a2] ++ (h1 ++ (h2 ++ R))) := z6V _ h1 h2 R rfl h
theorem j7c {w0 : k9} {ops : Array Oper} {S : Hp} {fuel : Nat} {listed : Array Bool} {a0 a1 : Nat × Obj} (h1 h2 h3 : Hp) {R : Hp} (h : SLA P n w0 b ops S Q fuel listed e ([a0, a1] ++ (h3 ++ (h1 ++ (h2 ++ R))))) : SLA P n w0 b ops S Q fuel listed e ([a0, a1] ++ (h1 ++ (h2 ++ (h3 ++ R)))) := q8q _ h1 h2 h3 R rfl h
theorem j1I {w0 : k9} {ops : Array Oper} {S : Hp} {fuel : Nat} {listed : Array Bool} {a0 a1 a2 : Nat × Obj} (h1 h2 h3 : Hp) {R : Hp} (h : SLA P n w0 b ops S Q fuel listed e ([a0, a1, a2] ++ (h3 ++ (h1 ++ (h2 ++ R))))) : SLA P n w0 b ops S Q fuel listed e ([a0, a1, a2] ++ (h1 ++ (h2 ++ (h3 ++ R)))) := q8q _ h1 h2 h3 R rfl h
theorem z7S {w0 : k9} {ops : Array Oper} {S : Hp} {fuel : Nat} {listed : Array Bool} {a0 a1 a2 a3 : Nat × Obj} (h1 h2 h3 : Hp) {R : Hp} (h : SLA P n w0 b ops S Q fuel listed e ([a0, a1, a2, a3] ++ (h3 ++ (h1 ++ (h2 ++ R))))) : SLA P n w0 b ops S Q fuel listed e ([a0, a1, a2, a3] ++ (h1 ++ (h2 ++ (h3 ++ R)))) := q8q _ h1 h2 h3 R rfl h
theorem z0U {w0 : k9} {ops : Array Oper} {S : Hp} {fuel : Nat} {listed : Array Bool} {a0 a1 a2 : Nat × Obj} (h1 h2 h3 h4 : Hp) {R : Hp} (h : SLA P n w0 b ops S Q fuel listed e ([a0, a1, a2] ++ (h4 ++ (h1 ++ (h2 ++ (h3 ++ R)))))) : SLA P n w0 b ops S Q fuel listed e ([a0, a1, a2] ++ (h1 ++ (h2 ++ (h3 ++ (h4 ++ R))))) := z3x _ h1 h2 h3 h4 R rfl h
theorem j3L {w0 : k9} {ops : Array Oper} {S : Hp} {fuel : Nat} {listed : Array Bool} {a0 a1 : Nat × Obj} (h1 h2 h3 h4 h5 : Hp) {R : Hp} (h : SLA P n w0 b ops S Q fuel listed e ([a0, a1] ++ (h5 ++ (h1 ++ (h2 ++ (h3 ++ (h4 ++ R))))))) : SLA P n w0 b ops S Q fuel listed e ([a0, a1] ++ (h1 ++ (h2 ++ (h3 ++ (h4 ++ (h5 ++ R)))))) := j1K _ h1 h2 h3 h4 h5 R rfl h
theorem z1N {w0 : k9} {ops : Array Oper} {S : Hp} {fuel : Nat} {listed : Array Bool} {a0 a1 : Nat × Obj} (h1 h2 h3 h4 h5 h6 : Hp) {R : Hp} (h : SLA P n w0 b ops S Q fuel listed e ([a0, a1] ++ (h6 ++ (h1 ++ (h2 ++ (h3 ++ (h4 ++ (h5 ++ R)))))))) : SLA P n w0 b ops S Q fuel listed e ([a0, a1] ++ (h1 ++ (h2 ++ (h3 ++ (h4 ++ (h5 ++ (h6 ++ R))))))) := z6U _ h1 h2 h3 h4 h5 h6 R rfl h
theorem j5j {w0 : k9} {ops : Array Oper} {S : Hp} {fuel : Nat} {listed : Array Bool} {a0 a1 a2 : Nat × Obj} (h1 h2 h3 h4 h5 h6 : Hp) {R : Hp} (h : SLA P n w0 b ops S Q fuel listed e ([a0, a1, a2] ++ (h6 ++ (h1 ++ (h2 ++ (h3 ++ (h4 ++ (h5 ++ R)))))))) : SLA P n w0 b ops S Q fuel listed e ([a0, a1, a2] ++ (h1 ++ (h2 ++ (h3 ++ (h4 ++ (h5 ++ (h6 ++ R))))))) := z6U _ h1 h2 h3 h4 h5 h6 R rfl h
theorem j7b {w0 : k9} {ops : Array Oper} {S : Hp} {fuel : Nat} {listed : Array Bool} {a0 a1 : Nat × Obj} (h1 h2 h3 h4 h5 h6 h7 : Hp) {R : Hp} (h : SLA P n w0 b ops S Q fuel listed e ([a0, a1] ++ (h7 ++ (h1 ++ (h2 ++ (h3 ++ (h4 ++ (h5 ++ (h6 ++ R))))))))) : SLA P n w0 b ops S Q fuel listed e ([a0, a1] ++ (h1 ++ (h2 ++ (h3 ++ (h4 ++ (h5 ++ (h6 ++ (h7 ++ R)))))))) := j1J _ h1 h2 h3 h4 h5 h6 h7 R rfl h
theorem j6F {ops : Array Oper} {l : List Oper} {a0 : Nat × Obj} (h1 h2 : Hp) {R : Hp} (h : SLo P n b ops Q l e ([a0] ++ (h2 ++ (h1 ++ R)))) : SLo P n b ops Q l e ([a0] ++ (h1 ++ (h2 ++ R))) := z2Q _ h1 h2 R rfl h
theorem z1E {ops : Array Oper} {l : List Oper} {a0 a1 : Nat × Obj} (h1 h2 : Hp) {R : Hp} (h : SLo P n b ops Q l e ([a0, a1] ++ (h2 ++ (h1 ++ R)))) : SLo P n b ops Q l e ([a0, a1] ++ (h1 ++ (h2 ++ R))) := z2Q _ h1 h2 R rfl h
theorem j4x {ops : Array Oper} {l : List Oper} {a0 a1 a2 : Nat × Obj} (h1 h2 : Hp) {R : Hp} (h : SLo P n b ops Q l e ([a0, a1, a2] ++ (h2 ++ (h1 ++ R)))) : SLo P n b ops Q l e ([a0, a1, a2] ++ (h1 ++ (h2 ++ R))) := z2Q _ h1 h2 R rfl h
theorem j3e {ops : Array Oper} {l : List Oper} {a0 : Nat × Obj} (h1 h2 h3 : Hp) {R : Hp} (h : SLo P n b ops Q l e ([a0] ++ (h3 ++ (h1 ++ (h2 ++ R))))) : SLo P n b ops Q l e ([a0] ++ (h1 ++ (h2 ++ (h3 ++ R)))) := q9V _ h1 h2 h3 R rfl h
theorem z2N {ops : Array Oper} {l : List Oper} {a0 a1 : Nat × Obj} (h1 h2 h3 : Hp) {R : Hp} (h : SLo P n b ops Q l e ([a0, a1] ++ (h3 ++ (h1 ++ (h2 ++ R))))) : SLo P n b ops Q l e ([a0, a1] ++ (h1 ++ (h2 ++ (h3 ++ R)))) := q9V _ h1 h2 h3 R rfl h
theorem j3d {ops : Array Oper} {l : List Oper} {a0 a1 a2 : Nat × Obj} (h1 h2 h3 : Hp) {R : Hp} (h : SLo P n b ops Q l e ([a0, a1, a2] ++ (h3 ++ (h1 ++ (h2 ++ R))))) : SLo P n b ops Q l e ([a0, a1, a2] ++ (h1 ++ (h2 ++ (h3 ++ R)))) := q9V _ h1 h2 h3 R rfl h
theorem q7r {ops : Array Oper} {l : List Oper} {a0 a1 a2 a3 a4 : Nat × Obj} (h1 h2 h3 : Hp) {R : Hp} (h : SLo P n b ops Q l e ([a0, a1, a2, a3, a4] ++ (h3 ++ (h1 ++ (h2 ++ R))))) : SLo P n b ops Q l e ([a0, a1, a2, a3, a4] ++ (h1 ++ (h2 ++ (h3 ++ R)))) := q9V _ h1 h2 h3 R rfl h
theorem K6 {ops : Array Oper} {l : List Oper} {a0 : Nat × Obj} (h1 h2 h3 h4 : Hp) {R : Hp} (h : SLo P n b ops Q l e ([a0] ++ (h4 ++ (h1 ++ (h2 ++ (h3 ++ R)))))) : SLo P n b ops Q l e ([a0] ++ (h1 ++ (h2 ++ (h3 ++ (h4 ++ R))))) := z6j _ h1 h2 h3 h4 R rfl h
theorem q2k {ops : Array Oper} {l : List Oper} {a0 a1 : Nat × Obj} (h1 h2 h3 h4 : Hp) {R : Hp} (h : SLo P n b ops Q l e ([a0, a1] ++ (h4 ++ (h1 ++ (h2 ++ (h3 ++ R)))))) : SLo P n b ops Q l e ([a0, a1] ++ (h1 ++ (h2 ++ (h3 ++ (h4 ++ R))))) := z6j _ h1 h2 h3 h4 R rfl h
theorem P4 {ops : Array Oper} {l : List Oper} {a0 : Nat × Obj} (h1 h2 h3 h4 h5 : Hp) {R : Hp} (h : SLo P n b ops Q l e ([a0] ++ (h5 ++ (h1 ++ (h2 ++ (h3 ++ (h4 ++ R))))))) : SLo P n b ops Q l e ([a0] ++ (h1 ++ (h2 ++ (h3 ++ (h4 ++ (h5 ++ R)))))) := q5v _ h1 h2 h3 h4 h5 R rfl h
theorem j0L {ops : Array Oper} {l : List Oper} {a0 a1 : Nat × Obj} (h1 h2 h3 h4 h5 : Hp) {R : Hp} (h : SLo P n b ops Q l e ([a0, a1] ++ (h5 ++ (h1 ++ (h2 ++ (h3 ++ (h4 ++ R))))))) : SLo P n b ops Q l e ([a0, a1] ++ (h1 ++ (h2 ++ (h3 ++ (h4 ++ (h5 ++ R)))))) := q5v _ h1 h2 h3 h4 h5 R rfl h
theorem z8r {ops : Array Oper} {l : List Oper} {a0 : Nat × Obj} (h1 h2 h3 h4 h5 h6 : Hp) {R : Hp} (h : SLo P n b ops Q l e ([a0] ++ (h6 ++ (h1 ++ (h2 ++ (h3 ++ (h4 ++ (h5 ++ R)))))))) : SLo P n b ops Q l e ([a0] ++ (h1 ++ (h2 ++ (h3 ++ (h4 ++ (h5 ++ (h6 ++ R))))))) := j0M _ h1 h2 h3 h4 h5 h6 R rfl h
theorem j6w {ex : Exit} {a0 : Nat × Obj} (h1 h2 : Hp) {R : Hp} (h : SLx n b Q ex e ([a0] ++ (h2 ++ (h1 ++ R)))) : SLx n b Q ex e ([a0] ++ (h1 ++ (h2 ++ R))) := q9U _ h1 h2 R rfl h
theorem j4r {ex : Exit} {a0 a1 : Nat × Obj} (h1 h2 : Hp) {R : Hp} (h : SLx n b Q ex e ([a0, a1] ++ (h2 ++ (h1 ++ R)))) : SLx n b Q ex e ([a0, a1] ++ (h1 ++ (h2 ++ R))) := q9U _ h1 h2 R rfl h
theorem G6 {ex : Exit} {a0 a1 : Nat × Obj} (h1 h2 h3 : Hp) {R : Hp} (h : SLx n b Q ex e ([a0, a1] ++ (h3 ++ (h1 ++ (h2 ++ R))))) : SLx n b Q ex e ([a0, a1] ++ (h1 ++ (h2 ++ (h3 ++ R)))) := q7K _ h1 h2 h3 R rfl h
theorem Y9 {ex : Exit} {a0 a1 a2 : Nat × Obj} (h1 h2 h3 : Hp) {R : Hp} (h : SLx n b Q ex e ([a0, a1, a2] ++ (h3 ++ (h1 ++ (h2 ++ R))))) : SLx n b Q ex e ([a0, a1, a2] ++ (h1 ++ (h2 ++ (h3 ++ R)))) := q7K _ h1 h2 h3 R rfl h
theorem q8O {ex : Exit} {a0 : Nat × Obj} (h1 h2 h3 h4 : Hp) {R : Hp} (h : SLx n b Q ex e ([a0] ++ (h4 ++ (h1 ++ (h2 ++ (h3 ++ R)))))) : SLx n b Q ex e ([a0] ++ (h1 ++ (h2 ++ (h3 ++ (h4 ++ R))))) := q7J _ h1 h2 h3 h4 R rfl h
theorem z7o {ex : Exit} {a0 a1 : Nat × Obj} (h1 h2 h3 h4 : Hp) {R : Hp} (h : SLx n b Q ex e ([a0, a1] ++ (h4 ++ (h1 ++ (h2 ++ (h3 ++ R)))))) : SLx n b Q ex e ([a0, a1] ++ (h1 ++ (h2 ++ (h3 ++ (h4 ++ R))))) := q7J _ h1 h2 h3 h4 R rfl h
theorem j6v {ex : Exit} {a0 : Nat × Obj} (h1 h2 h3 h4 h5 : Hp) {R : Hp} (h : SLx n b Q ex e ([a0] ++ (h5 ++ (h1 ++ (h2 ++ (h3 ++ (h4 ++ R))))))) : SLx n b Q ex e ([a0] ++ (h1 ++ (h2 ++ (h3 ++ (h4 ++ (h5 ++ R)))))) := q9T _ h1 h2 h3 h4 h5 R rfl h
theorem j0F {ex : Exit} {a0 a1 : Nat × Obj} (h1 h2 h3 h4 h5 : Hp) {R : Hp} (h : SLx n b Q ex e ([a0, a1] ++ (h5 ++ (h1 ++ (h2 ++ (h3 ++ (h4 ++ R))))))) : SLx n b Q ex e ([a0, a1] ++ (h1 ++ (h2 ++ (h3 ++ (h4 ++ (h5 ++ R)))))) := q9T _ h1 h2 h3 h4 h5 R rfl h
theorem j2R {ex : Exit} {a0 : Nat × Obj} (h1 h2 h3 h4 h5 h6 : Hp) {R : Hp} (h : SLx n b Q ex e ([a0] ++ (h6 ++ (h1 ++ (h2 ++ (h3 ++ (h4 ++ (h5 ++ R)))))))) : SLx n b Q ex e ([a0] ++ (h1 ++ (h2 ++ (h3 ++ (h4 ++ (h5 ++ (h6 ++ R))))))) := z6g _ h1 h2 h3 h4 h5 h6 R rfl h
end
end Go.Fp
namespace Go.Fp
open Go.RowKit
abbrev pb (g : Nat) : Value := .pointer (some ⟨g, 0, none⟩)
abbrev iv (i : Int) : Value := .int .i64 i
abbrev bv (b : Bool) : Value := .bool b
abbrev sv {α : Type} (A : Option Addr) (l : List α) (c : Nat) : Value := .slice A l.length c
abbrev sn : Value := .slice none 0 0
abbrev rI : RT Int := RT.int .i64
abbrev OA : Type := Option Addr
theorem lr {b : k9} : b.Le b := k9.Le.refl b
section
variable {P : Program} {n : NT} {m : Nat} {dk0 : Nat × Obj → Prop} {rq : Option Nat} {b w0 : k9} {Q : Exit → Act → World → Prop} {e : Env} {hp : Hp}
theorem cS {σ : Type} {body : Nat → σ → Option σ} (Inv : Nat → σ → k9 → Env → Hp → Prop) {c : Code} {s0 : σ} {N : Nat} {t : σ} (hl : forS body N 0 s0 = some t) {e' : Env} {hp' : Hp} (h0 : Inv 0 s0 w0 e' hp') (hh : hp'.Sublist hp)
  (round : ∀ k s b e hp o, k < N → Inv k s b e hp → body k s = some o → SLc P n b (Exit.then (fun a w => q7j n (Inv (k + 1) o) a w) Q) c e hp)
  (done : ∀ b e hp, Inv N t b e hp → SLc P n b (Exit.then (fun _ _ => False) Q) c e hp) (he : Sub e' e := by repeat (first | exact trivial | refine ⟨rfl, ?_⟩)) : SLc P n w0 Q (.loop c) e hp := j2I Inv hl he hh h0 round done
theorem rM {b1 : k9} {fn : Func} {Φ : Value → k9 → Hp → Prop} {rs : List ResultVar} {vs : List Value} (hv : P3 (j6r P (b1.over w0) e hp) rs vs) {hp' : Hp} (hΦ : Φ (z3c vs) (b1.over w0) hp') (hh : hp'.Sublist hp) (hle : w0.Le b1)
  (hn : rs.length ≤ 5 := by decide) (hr : fn.results = rs.toArray := by rfl) : SLx ⟨m, fun x => x ∈ w0.dk, none⟩ b1 (q9I P fn (z3N w0 Φ)) .ret e hp := j7r vs hle hn hr hv rfl hh hΦ
end
end Go.Fp
namespace Go.Fp
open Go.RowKit
section
variable {P : Program} {n : NT} {m : Nat} {dk0 : Hp} {rq : Option Nat} {b w0 : k9} {ops : Array Oper} {Q : Exit → Act → World → Prop} {e : Env} {hp : Hp} {op : Op} {ty : TypeId} {d : Option Tmp} {pos : String} {af : Array Edge} {rest : List Oper} {dk1 : Nat × Obj → Prop}
def noB (ops : Array Oper) (e : Env) (j : Nat) (t : Bool) (m : Nat) (d : Option Tmp) : Bool := match (ops[j]?).bind (·.dst) with
 | none => false
 | some dj => match look e dj with
  | none => false
  | some v => Nat.blt dj m && !isB v t && okD d m
theorem z6v {j : Nat} {t : Bool} (h : noB ops e j t m d = true) : ∃ dj v, (ops[j]?).bind (·.dst) = some dj ∧ look e dj = some v ∧ Nat.blt dj m = true ∧ isB v t = false ∧ okD d m = true := by
 unfold noB at h
 split at h
 ·cases h
 ·rename_i dj h1
  split at h
  ·cases h
  ·rename_i v h2
   simp only [Bool.and_eq_true, Bool.not_eq_true'] at h
   exact ⟨dj, v, h1, h2, h.1.1, h.1.2, h.2⟩
theorem nO {j : Nat} {t : Bool} (h : SLo P (NT.mk m dk1 rq) w0 ops Q rest (putE d undef e) hp) (hc : noB ops e j t m d = true := by kernel_rfl) : SLo P (NT.mk m dk1 rq) w0 ops Q (⟨d, op, ty, pos, af, some (j, t)⟩ :: rest) e hp :=
 let ⟨dj, _, h1, h2, h3, h4, h5⟩ := z6v hc
 j7B dj h1 h2 h3 h4 h5 h
def ysB (ops : Array Oper) (e : Env) (j : Nat) (t : Bool) (m : Nat) : Bool := match (ops[j]?).bind (·.dst) with
 | none => false
 | some dj => match look e dj with
  | some (.bool v) => Nat.blt dj m && (v == t)
  | _ => false
theorem j0E {j : Nat} {t : Bool} (h : ysB ops e j t m = true) : ∃ dj, (ops[j]?).bind (·.dst) = some dj ∧ look e dj = some (.bool t) ∧ Nat.blt dj m = true := by
 unfold ysB at h
 split at h
 ·cases h
 ·rename_i dj h1
  split at h
  ·rename_i v h2
   simp only [Bool.and_eq_true, beq_iff_eq] at h
   exact ⟨dj, h1, h.2 ▸ h2, h.1⟩
  ·cases h
theorem yS {j : Nat} {t : Bool} (h : SLo P (NT.mk m dk1 rq) w0 ops Q (⟨d, op, ty, pos, af, none⟩ :: rest) e hp) (hc : ysB ops e j t m = true := by kernel_rfl) : SLo P (NT.mk m dk1 rq) w0 ops Q (⟨d, op, ty, pos, af, some (j, t)⟩ :: rest) e hp :=
 let ⟨dj, h1, h2, h3⟩ := j0E hc
 j6G dj h1 h2 h3 h
theorem mV {v : Value} {k : Nat} {x : Operand} (hx : val e x = some v) (h : SLo P (NT.mk m dk1 rq) w0 ops Q rest ((k, v) :: e) hp) (hd : Nat.blt k m = true := by kernel_rfl) : SLo P (NT.mk m dk1 rq) w0 ops Q (⟨some k, .move x, ty, pos, af, none⟩ :: rest) e hp := z5l hd hx h
theorem aS {v : Value} {k : Nat} {x : Operand} (hx : val e x = some v) (h : SLo P (NT.mk m dk1 rq) w0 ops Q rest ((k, v) :: e) hp) (hd : Nat.blt k m = true := by kernel_rfl) : SLo P (NT.mk m dk1 rq) w0 ops Q (⟨some k, .assign x, ty, pos, af, none⟩ :: rest) e hp := z1x hd hx h
theorem tS {v : Value} {k : Nat} (hst : Z0 P (NT.mk m dk1 rq) w0 op ty e hp v) (h : SLo P (NT.mk m dk1 rq) w0 ops Q rest ((k, v) :: e) hp) (hd : Nat.blt k m = true := by kernel_rfl) : SLo P (NT.mk m dk1 rq) w0 ops Q (⟨some k, op, ty, pos, af, none⟩ :: rest) e hp := q7s hd hst h
theorem tD {Ψ : Value → Hp → Prop} (hdo : q5c P (NT.mk m dk1 rq) w0 op ty e hp Ψ) (h : ∀ v hp', Ψ v hp' → SLo P (NT.mk m dk1 rq) w0 ops Q rest (putE d v e) hp') (hd : okD d m = true := by kernel_rfl) :
  SLo P (NT.mk m dk1 rq) w0 ops Q (⟨d, op, ty, pos, af, none⟩ :: rest) e hp := z2i hd hdo h
theorem cI {τ : Type} {p : Prop} {i1 i2 : Decidable p} {A B t : Option τ} {c : Operand} {x y : Code} (hm : (@ite _ p i1 A B) = t) (hc : val e c = some (.bool (@decide p i2))) (ht : A = t → SLc P n w0 Q x e hp) (hf : B = t → SLc P n w0 Q y e hp) : SLc P n w0 Q (.cond c x y) e hp :=
 z7j _ hc (fun h => ht (by rw [if_pos (of_decide_eq_true h)] at hm; exact hm)) (fun h => hf (by rw [if_neg (of_decide_eq_false h)] at hm; exact hm))
theorem cB {τ : Type} {q : Bool} {i1 : Decidable (q = true)} {A B t : Option τ} {c : Operand} {x y : Code} (hm : (@ite _ (q = true) i1 A B) = t) (hc : val e c = some (.bool q)) (ht : A = t → SLc P n w0 Q x e hp) (hf : B = t → SLc P n w0 Q y e hp) : SLc P n w0 Q (.cond c x y) e hp :=
 z7j _ hc (fun h => ht (by rw [if_pos h] at hm; exact hm)) (fun h => hf (by rw [if_neg (by rw [h]; exact Kh)] at hm; exact hm))
theorem cM {τ : Type} {q : Bool} {i1 : Decidable (q = true)} {A B t : Option τ} {c : Operand} {x y : Code} (hm : (@ite _ (q = true) i1 A B) = t) (hc : val e c = some (.bool (!q))) (ht : B = t → SLc P n w0 Q x e hp) (hf : A = t → SLc P n w0 Q y e hp) : SLc P n w0 Q (.cond c x y) e hp :=
 z7j _ hc (fun h => ht (by rw [if_neg (by rw [j7M h]; exact Kh)] at hm; exact hm)) (fun h => hf (by rw [if_pos (j7N h)] at hm; exact hm))
theorem iR {A B : Prop} {S hp' : Hp} (h : B) (hs : S.Sublist hp' := by repeat (first | exact List.Sublist.refl _ | exact List.nil_sublist _ | apply List.Sublist.cons_cons | apply z2R | apply List.Sublist.cons | apply q6U)) : (A ∨ S.Sublist hp') ∧ B := ⟨.inr hs, h⟩
def Lk (l m : Hp) : Prop := ∃ k, m.Perm k ∧ l.Sublist k
def Ex (q m r : Hp) : Prop := m.Perm (q ++ r)
def EC (x : Nat × Obj) (m r : Hp) : Prop := m.Perm (x :: r)
theorem Ex.here (q r : Hp) : Ex q (q ++ r) r := .refl _
theorem Ex.skip {q m r : Hp} (a : Hp) (h : Ex q m r) : Ex q (a ++ m) (a ++ r) := (Ke a h).trans (by
 rw [← List.append_assoc, ← List.append_assoc]
 exact List.Perm.append_right r List.perm_append_comm)
theorem Ex.skipC {q m r : Hp} (x : Nat × Obj) (h : Ex q m r) : Ex q (x :: m) (x :: r) := (List.Perm.cons x h).trans (List.perm_middle (l₁ := q)).symm
theorem EC.here (x : Nat × Obj) (r : Hp) : EC x (x :: r) r := .refl _
theorem EC.skip {x : Nat × Obj} {m r : Hp} (a : Hp) (h : EC x m r) : EC x (a ++ m) (a ++ r) := (Ke a h).trans (List.perm_middle (l₁ := a))
theorem EC.skipC {x : Nat × Obj} {m r : Hp} (y : Nat × Obj) (h : EC x m r) : EC x (y :: m) (y :: r) := (List.Perm.cons y h).trans (List.Perm.swap x y r)
theorem Lk.refl (l : Hp) : Lk l l := ⟨l, .refl _, .refl _⟩
theorem Lk.nil (l : Hp) : Lk [] l := ⟨l, .refl _, List.nil_sublist _⟩
theorem Lk.app {q l m r : Hp} (he : Ex q m r) (h : Lk l r) : Lk (q ++ l) m := let ⟨k, h1, h2⟩ := h; ⟨q ++ k, List.Perm.trans he (Ke q h1), List.Sublist.append_left h2 q⟩
theorem Lk.cons {x : Nat × Obj} {l m r : Hp} (he : EC x m r) (h : Lk l r) : Lk (x :: l) m := let ⟨k, h1, h2⟩ := h; ⟨x :: k, List.Perm.trans he (List.Perm.cons x h1), List.Sublist.cons_cons x h2⟩
theorem Lk.dropC {l m : Hp} (x : Nat × Obj) (h : Lk l m) : Lk l (x :: m) := let ⟨k, h1, h2⟩ := h; ⟨x :: k, List.Perm.cons x h1, List.Sublist.cons x h2⟩
theorem Lk.drop {l m : Hp} (a : Hp) (h : Lk l m) : Lk l (a ++ m) := let ⟨k, h1, h2⟩ := h; ⟨a ++ k, Ke a h1, h2.trans (Kc a k)⟩
theorem Own.lk {w : World} {l m : Hp} (h : Own b m w) (hl : Lk l m) : Own b l w := let ⟨_, h1, h2⟩ := hl; (h.perm h1.symm).sub h2
theorem rO {b1 : k9} {fn : Func} {Φ : Value → k9 → Hp → Prop} {k : Nat} {v : Value} {hp' : Hp} (hΦ : Φ v (b1.over w0) hp') (hle : w0.Le b1)
  (hr : fn.results = #[.tmp k] := by rfl) (hv : look e k = some v := by rfl) (hh : Lk hp' hp := by repeat (first | exact Lk.refl _ | exact Lk.nil _ | (apply Lk.app; · repeat (first | exact Ex.here _ _ | apply Ex.skip | apply Ex.skipC)) | (apply Lk.cons; · repeat (first | exact EC.here _ _ | apply EC.skipC | apply EC.skip)) | apply Lk.dropC | apply Lk.drop)) :
  SLx ⟨m, fun x => x ∈ w0.dk, none⟩ b1 (q9I P fn (z3N w0 Φ)) .ret e hp := fun a w hf ho => rM (rs := [.tmp k]) (vs := [v]) ⟨hv, trivial⟩ hΦ (.refl _) hle (by simp) hr a w hf (ho.lk hh)
theorem rZ {b1 : k9} {fn : Func} {Φ : Value → k9 → Hp → Prop} {hp' : Hp} (hΦ : Φ (.tuple #[]) (b1.over w0) hp') (hle : w0.Le b1)
  (hr : fn.results = #[] := by rfl) (hh : Lk hp' hp := by repeat (first | exact Lk.refl _ | exact Lk.nil _ | (apply Lk.app; · repeat (first | exact Ex.here _ _ | apply Ex.skip | apply Ex.skipC)) | (apply Lk.cons; · repeat (first | exact EC.here _ _ | apply EC.skipC | apply EC.skip)) | apply Lk.dropC | apply Lk.drop)) :
  SLx ⟨m, fun x => x ∈ w0.dk, none⟩ b1 (q9I P fn (z3N w0 Φ)) .ret e hp := fun a w hf ho => rM (rs := []) (vs := []) trivial hΦ (.refl _) hle (by simp) hr a w hf (ho.lk hh)
theorem eZ {b1 : k9} {fn : Func} {Φ : Value → k9 → Hp → Prop} {hp' : Hp} (hΦ : Φ (.tuple #[]) (b1.over w0) hp') (hle : w0.Le b1)
  (hr : fn.results = #[] := by rfl) (hh : Lk hp' hp := by repeat (first | exact Lk.refl _ | exact Lk.nil _ | (apply Lk.app; · repeat (first | exact Ex.here _ _ | apply Ex.skip | apply Ex.skipC)) | (apply Lk.cons; · repeat (first | exact EC.here _ _ | apply EC.skipC | apply EC.skip)) | apply Lk.dropC | apply Lk.drop)) :
  SLx ⟨m, fun x => x ∈ w0.dk, none⟩ b1 (q9I P fn (z3N w0 Φ)) .normal e hp := fun a w hf ho => j7P hle hr (.refl _) hΦ a w hf (ho.lk hh)
theorem rT {b1 : k9} {fn : Func} {Φ : Value → k9 → Hp → Prop} {k l : Nat} {v u : Value} {hp' : Hp} (hΦ : Φ (.tuple #[v, u]) (b1.over w0) hp') (hle : w0.Le b1)
  (hr : fn.results = #[.tmp k, .tmp l] := by rfl) (hv : look e k = some v := by rfl) (hu : look e l = some u := by rfl) (hh : Lk hp' hp := by repeat (first | exact Lk.refl _ | exact Lk.nil _ | (apply Lk.app; · repeat (first | exact Ex.here _ _ | apply Ex.skip | apply Ex.skipC)) | (apply Lk.cons; · repeat (first | exact EC.here _ _ | apply EC.skipC | apply EC.skip)) | apply Lk.dropC | apply Lk.drop)) :
  SLx ⟨m, fun x => x ∈ w0.dk, none⟩ b1 (q9I P fn (z3N w0 Φ)) .ret e hp := fun a w hf ho => rM (rs := [.tmp k, .tmp l]) (vs := [v, u]) ⟨hv, hu, trivial⟩ hΦ (.refl _) hle (by simp) hr a w hf (ho.lk hh)
theorem jJ {Inv : k9 → Env → Hp → Prop} {e' : Env} {hp' : Hp} (hi : Inv b e' hp') (hh : Lk hp' hp := by repeat (first | exact Lk.refl _ | exact Lk.nil _ | (apply Lk.app; · repeat (first | exact Ex.here _ _ | apply Ex.skip | apply Ex.skipC)) | (apply Lk.cons; · repeat (first | exact EC.here _ _ | apply EC.skipC | apply EC.skip)) | apply Lk.dropC | apply Lk.drop)) (he : Sub e' e := by repeat (first | exact trivial | refine ⟨rfl, ?_⟩)) : SLx n b (Exit.then (q7j n Inv) Q) .normal e hp := fun a w hf ho => j4s he (.refl _) hi a w hf (ho.lk hh)
theorem jS {Inv : k9 → Env → Hp → Prop} {e' : Env} {hp' : Hp} (hi : Inv b e' hp') (hh : Lk hp' hp := by repeat (first | exact Lk.refl _ | exact Lk.nil _ | (apply Lk.app; · repeat (first | exact Ex.here _ _ | apply Ex.skip | apply Ex.skipC)) | (apply Lk.cons; · repeat (first | exact EC.here _ _ | apply EC.skipC | apply EC.skip)) | apply Lk.dropC | apply Lk.drop)) (he : Sub e' e := by repeat (first | exact trivial | refine ⟨rfl, ?_⟩)) : SLx n b (Exit.then (fun a w => q7j n Inv a w) Q) .normal e hp := fun a w hf ho => j0G he (.refl _) hi a w hf (ho.lk hh)
theorem jM {σ τ : Type} {o : σ ⊕ τ} {Inv : σ → k9 → Env → Hp → Prop} {s' : σ} (hm : some (.inl s') = some o) {e' : Env} {hp' : Hp} (hi : Inv s' b e' hp') (hh : Lk hp' hp := by repeat (first | exact Lk.refl _ | exact Lk.nil _ | (apply Lk.app; · repeat (first | exact Ex.here _ _ | apply Ex.skip | apply Ex.skipC)) | (apply Lk.cons; · repeat (first | exact EC.here _ _ | apply EC.skipC | apply EC.skip)) | apply Lk.dropC | apply Lk.drop)) (he : Sub e' e := by repeat (first | exact trivial | refine ⟨rfl, ?_⟩)) : SLx n b (Exit.then (fun a w => ∃ s', o = .inl s' ∧ q7j n (Inv s') a w) Q) .normal e hp := fun a w hf ho => z6h s' (Kd hm).symm he (.refl _) hi a w hf (ho.lk hh)
theorem lL {σ τ : Type} {step : σ → Option (σ ⊕ τ)} (Inv : σ → k9 → Env → Hp → Prop) {c : Code} {s0 : σ} {t : τ} (hl : q7g step s0 = some t) {e' : Env} {hp' : Hp} (h0 : Inv s0 w0 e' hp')
  (round : ∀ s b e hp o, Inv s b e hp → step s = some o → (∀ t', o = .inr t' → t' = t) → SLc P n b (Exit.then (fun a w => ∃ s', o = .inl s' ∧ q7j n (Inv s') a w) Q) c e hp) (hh : Lk hp' hp := by repeat (first | exact Lk.refl _ | exact Lk.nil _ | (apply Lk.app; · repeat (first | exact Ex.here _ _ | apply Ex.skip | apply Ex.skipC)) | (apply Lk.cons; · repeat (first | exact EC.here _ _ | apply EC.skipC | apply EC.skip)) | apply Lk.dropC | apply Lk.drop)) (he : Sub e' e := by repeat (first | exact trivial | refine ⟨rfl, ?_⟩)) : SLc P n w0 Q (.loop c) e hp := fun a w hf ho => j4i Inv hl he (.refl _) h0 round a w hf (ho.lk hh)
theorem lF {σ τ : Type} {body : Nat → σ → Option (σ ⊕ τ)} (Inv : Nat → σ → k9 → Env → Hp → Prop) {c : Code} {s0 : σ} {N : Nat} {t : σ ⊕ τ} (hl : forM body N 0 s0 = some t) {e' : Env} {hp' : Hp} (h0 : Inv 0 s0 w0 e' hp')
  (round : ∀ k s b e hp o, k < N → Inv k s b e hp → body k s = some o → (∀ t', o = .inr t' → t = .inr t') → SLc P n b (Exit.then (fun a w => ∃ s', o = .inl s' ∧ q7j n (Inv (k + 1) s') a w) Q) c e hp)
  (done : ∀ s b e hp, Inv N s b e hp → t = .inl s → SLc P n b (Exit.then (fun _ _ => False) Q) c e hp) (hh : Lk hp' hp := by repeat (first | exact Lk.refl _ | exact Lk.nil _ | (apply Lk.app; · repeat (first | exact Ex.here _ _ | apply Ex.skip | apply Ex.skipC)) | (apply Lk.cons; · repeat (first | exact EC.here _ _ | apply EC.skipC | apply EC.skip)) | apply Lk.dropC | apply Lk.drop)) (he : Sub e' e := by repeat (first | exact trivial | refine ⟨rfl, ?_⟩)) : SLc P n w0 Q (.loop c) e hp := fun a w hf ho => j0e Inv hl he (.refl _) h0 round done a w hf (ho.lk hh)
theorem lS {σ : Type} {body : Nat → σ → Option σ} (Inv : Nat → σ → k9 → Env → Hp → Prop) {c : Code} {s0 : σ} {N : Nat} {t : σ} (hl : forS body N 0 s0 = some t) {e' : Env} {hp' : Hp} (h0 : Inv 0 s0 w0 e' hp')
  (round : ∀ k s b e hp o, k < N → Inv k s b e hp → body k s = some o → SLc P n b (Exit.then (fun a w => q7j n (Inv (k + 1) o) a w) Q) c e hp)
  (done : ∀ b e hp, Inv N t b e hp → SLc P n b (Exit.then (fun _ _ => False) Q) c e hp) (hh : Lk hp' hp := by repeat (first | exact Lk.refl _ | exact Lk.nil _ | (apply Lk.app; · repeat (first | exact Ex.here _ _ | apply Ex.skip | apply Ex.skipC)) | (apply Lk.cons; · repeat (first | exact EC.here _ _ | apply EC.skipC | apply EC.skip)) | apply Lk.dropC | apply Lk.drop)) (he : Sub e' e := by repeat (first | exact trivial | refine ⟨rfl, ?_⟩)) : SLc P n w0 Q (.loop c) e hp := fun a w hf ho => j2I Inv hl he (.refl _) h0 round done a w hf (ho.lk hh)
theorem eN (i : Nat) {fuel : Nat} {listed : Array Bool} {S : Hp} {k j : Nat} {t : Bool} (hi : ops[i]? = some ⟨some k, op, ty, pos, af, some (j, t)⟩) (h : SLB P (NT.mk m dk1 rq) w0 b ops S Q fuel (listed.setIfInBounds i true) ((k, undef) :: e) hp)
  (hc : noB ops e j t m (some k) = true := by kernel_rfl)
  (hs : Region.noSelect ops = true := by kernel_rfl) (hfr : Region.free .any ops listed i = true := by kernel_rfl) (hr : (Region.ready .any ops listed).contains i = true := by kernel_rfl)
  (hcl : q6C .any ops listed = true := by kernel_rfl) : SLB P (NT.mk m dk1 rq) w0 b ops S Q (fuel + 1) listed e hp :=
 let ⟨dj, _, h1, h2, h3, h4, h5⟩ := z6v hc
 j7R i dj hi h2 h4 h hs hfr hr h5 h1 h3 hcl
theorem dG {I : k9 → Env → Hp → Prop} {S : Hp} {fuel fuel' : Nat} {listed listed' : Array Bool} (ht : ∀ b' e' hp', w0.Le b' → I b' e' hp' → SLA P n w0 b' ops S Q fuel' listed' e' hp') {e' : Env} {hp' : Hp} (hi : I b e' hp') (hle : w0.Le b)
  (hf : fuel = fuel' := by kernel_rfl) (hl : listed = listed' := by kernel_rfl) (he : Sub e' e := by repeat (first | exact trivial | refine ⟨rfl, ?_⟩)) (hh : Lk hp' hp := by repeat (first | exact Lk.refl _ | exact Lk.nil _ | (apply Lk.app; · repeat (first | exact Ex.here _ _ | apply Ex.skip | apply Ex.skipC)) | (apply Lk.cons; · repeat (first | exact EC.here _ _ | apply EC.skipC | apply EC.skip)) | apply Lk.dropC | apply Lk.drop)) : SLA P n w0 b ops S Q fuel listed e hp := fun a w hfit ho => by
 subst hf hl
 exact ht b e' hp' hle hi a w (hfit.sub he) (ho.lk hh)
theorem bF {α β : Type} {r : RT α} {w : World} {A : Option Addr} {c sz : Nat} {l : List α} {i : Int} {f : α → Option β} {t : β} (hm : (idx l i).bind f = some t) (h : FZ r w A c l) (hs : r.sz = sz := by rfl) (h0 : 0 < sz := by decide) :
  ∃ (x : α) (j : Nat) (cs : List Value), i = (j : Int) ∧ l[j]? = some x ∧ r.rep w cs x ∧ (∀ (i : Nat) (u : Value), cs[i]? = some u → q4y w A (j * sz + i) = some u) ∧ A.isSome = true ∧ j < l.length ∧ f x = some t := by
 obtain ⟨x, hx, h1⟩ := q6e hm
 obtain ⟨j, hj, hx⟩ := q5G hx
 obtain ⟨cs, h2, h3, h4, h5⟩ := FZ.get hs h0 h hx
 exact ⟨x, j, cs, hj, hx, h2, h3, h4, h5, h1⟩
end
end Go.Fp
