/- Facts on the types of the program, each asked of the loaded table. -/
import Derived.Test.YtpjocohpogihcaaProg
import Derived.Test.YtpjocohpogihcaaAL15
import Derived.KernelRfl
namespace Go.Proofs.Ytpjocohpogihcaa.AL
set_option linter.unusedVariables false
set_option linter.unusedSimpArgs false
open Go
theorem ts3 : tySize Try.prog 3 = some 1 := by kernel_rfl
theorem tb3 : tyBytes Try.prog 3 = some 8 := by kernel_rfl
theorem tg3 : tyAgg Try.prog 3 = some false := by kernel_rfl
theorem tz3 : tyZero Try.prog 3 = some (.lit (.int .i64 0)) := by kernel_rfl
theorem ta3 : tyArray Try.prog 3 = none := by kernel_rfl
theorem tl3 : tySlice Try.prog 3 = none := by kernel_rfl
theorem ti3 : tyInt Try.prog 3 = some .i64 := by kernel_rfl
theorem tt3 : tyString Try.prog 3 = false := by kernel_rfl
theorem tq3 : tyBool Try.prog 3 = false := by kernel_rfl
theorem tn3 : tyNil Try.prog 3 = none := by kernel_rfl
theorem tp3 : tyPlaces Try.prog 3 = none := by kernel_rfl
theorem tu3 : Try.prog.underlying 3 = some (.int .i64) := by kernel_rfl
theorem ts4 : tySize Try.prog 4 = some 1 := by kernel_rfl
theorem tb4 : tyBytes Try.prog 4 = some 1 := by kernel_rfl
theorem tg4 : tyAgg Try.prog 4 = some false := by kernel_rfl
theorem tz4 : tyZero Try.prog 4 = some (.lit (.bool false)) := by kernel_rfl
theorem ta4 : tyArray Try.prog 4 = none := by kernel_rfl
theorem tl4 : tySlice Try.prog 4 = none := by kernel_rfl
theorem ti4 : tyInt Try.prog 4 = none := by kernel_rfl
theorem tt4 : tyString Try.prog 4 = false := by kernel_rfl
theorem tq4 : tyBool Try.prog 4 = true := by kernel_rfl
theorem tn4 : tyNil Try.prog 4 = none := by kernel_rfl
theorem tp4 : tyPlaces Try.prog 4 = none := by kernel_rfl
theorem tu4 : Try.prog.underlying 4 = some .bool := by kernel_rfl
theorem ts5 : tySize Try.prog 5 = some 1 := by kernel_rfl
theorem tb5 : tyBytes Try.prog 5 = some 1 := by kernel_rfl
theorem tg5 : tyAgg Try.prog 5 = some false := by kernel_rfl
theorem tz5 : tyZero Try.prog 5 = some (.lit (.int .u8 0)) := by kernel_rfl
theorem ta5 : tyArray Try.prog 5 = none := by kernel_rfl
theorem tl5 : tySlice Try.prog 5 = none := by kernel_rfl
theorem ti5 : tyInt Try.prog 5 = some .u8 := by kernel_rfl
theorem tt5 : tyString Try.prog 5 = false := by kernel_rfl
theorem tq5 : tyBool Try.prog 5 = false := by kernel_rfl
theorem tn5 : tyNil Try.prog 5 = none := by kernel_rfl
theorem tp5 : tyPlaces Try.prog 5 = none := by kernel_rfl
theorem tu5 : Try.prog.underlying 5 = some (.int .u8) := by kernel_rfl
theorem ts9 : tySize Try.prog 9 = some 1 := by kernel_rfl
theorem tb9 : tyBytes Try.prog 9 = some 16 := by kernel_rfl
theorem tg9 : tyAgg Try.prog 9 = some false := by kernel_rfl
theorem tz9 : tyZero Try.prog 9 = some (.lit (.string { data := #[] })) := by kernel_rfl
theorem ta9 : tyArray Try.prog 9 = none := by kernel_rfl
theorem tl9 : tySlice Try.prog 9 = none := by kernel_rfl
theorem ti9 : tyInt Try.prog 9 = none := by kernel_rfl
theorem tt9 : tyString Try.prog 9 = true := by kernel_rfl
theorem tq9 : tyBool Try.prog 9 = false := by kernel_rfl
theorem tn9 : tyNil Try.prog 9 = none := by kernel_rfl
theorem tp9 : tyPlaces Try.prog 9 = none := by kernel_rfl
theorem tu9 : Try.prog.underlying 9 = some .string := by kernel_rfl
theorem ts23 : tySize Try.prog 23 = some 9 := by kernel_rfl
theorem tb23 : tyBytes Try.prog 23 = some 72 := by kernel_rfl
theorem tg23 : tyAgg Try.prog 23 = some true := by kernel_rfl
theorem tz23 : tyZero Try.prog 23 = some (.agg [.lit (.int .i64 0), .lit (.int .i64 0), .lit (.int .i64 0), .lit (.int .i64 0), .lit (.int .i64 0), .lit (.int .i64 0), .lit (.int .i64 0), .lit (.int .i64 0), .lit (.int .i64 0)]) := by kernel_rfl
theorem ta23 : tyArray Try.prog 23 = none := by kernel_rfl
theorem tl23 : tySlice Try.prog 23 = none := by kernel_rfl
theorem ti23 : tyInt Try.prog 23 = none := by kernel_rfl
theorem tt23 : tyString Try.prog 23 = false := by kernel_rfl
theorem tq23 : tyBool Try.prog 23 = false := by kernel_rfl
theorem tn23 : tyNil Try.prog 23 = none := by kernel_rfl
theorem tf23_0 : tyField Try.prog 23 0 = some (0, 3) := by kernel_rfl
theorem tf23_1 : tyField Try.prog 23 1 = some (1, 3) := by kernel_rfl
theorem tf23_2 : tyField Try.prog 23 2 = some (2, 3) := by kernel_rfl
theorem tf23_3 : tyField Try.prog 23 3 = some (3, 3) := by kernel_rfl
theorem tf23_4 : tyField Try.prog 23 4 = some (4, 3) := by kernel_rfl
theorem tf23_5 : tyField Try.prog 23 5 = some (5, 3) := by kernel_rfl
theorem tf23_6 : tyField Try.prog 23 6 = some (6, 3) := by kernel_rfl
theorem tf23_7 : tyField Try.prog 23 7 = some (7, 3) := by kernel_rfl
theorem tf23_8 : tyField Try.prog 23 8 = some (8, 3) := by kernel_rfl
theorem tp23 : tyPlaces Try.prog 23 = some [(0, 1), (1, 1), (2, 1), (3, 1), (4, 1), (5, 1), (6, 1), (7, 1), (8, 1)] := by kernel_rfl
theorem tv23 : leaves Try.prog 20 23 = some [.int, .int, .int, .int, .int, .int, .int, .int, .int] := by kernel_rfl
theorem te23 : Try.prog.eqGuardType Try.prog.depth 23 = false := by kernel_rfl
theorem ts29 : tySize Try.prog 29 = some 2 := by kernel_rfl
theorem tb29 : tyBytes Try.prog 29 = some 16 := by kernel_rfl
theorem tg29 : tyAgg Try.prog 29 = some true := by kernel_rfl
theorem tz29 : tyZero Try.prog 29 = some (.agg [.lit (.int .i64 0), .lit (.int .i64 0)]) := by kernel_rfl
theorem ta29 : tyArray Try.prog 29 = none := by kernel_rfl
theorem tl29 : tySlice Try.prog 29 = none := by kernel_rfl
theorem ti29 : tyInt Try.prog 29 = none := by kernel_rfl
theorem tt29 : tyString Try.prog 29 = false := by kernel_rfl
theorem tq29 : tyBool Try.prog 29 = false := by kernel_rfl
theorem tn29 : tyNil Try.prog 29 = none := by kernel_rfl
theorem tf29_0 : tyField Try.prog 29 0 = some (0, 3) := by kernel_rfl
theorem tf29_1 : tyField Try.prog 29 1 = some (1, 3) := by kernel_rfl
theorem tp29 : tyPlaces Try.prog 29 = some [(0, 1), (1, 1)] := by kernel_rfl
theorem tv29 : leaves Try.prog 20 29 = some [.int, .int] := by kernel_rfl
theorem te29 : Try.prog.eqGuardType Try.prog.depth 29 = false := by kernel_rfl
theorem ts31 : tySize Try.prog 31 = some 2 := by kernel_rfl
theorem tb31 : tyBytes Try.prog 31 = some 16 := by kernel_rfl
theorem tg31 : tyAgg Try.prog 31 = some true := by kernel_rfl
theorem tz31 : tyZero Try.prog 31 = some (.agg [.lit (.int .i64 0), .lit (.int .i64 0)]) := by kernel_rfl
theorem ta31 : tyArray Try.prog 31 = none := by kernel_rfl
theorem tl31 : tySlice Try.prog 31 = none := by kernel_rfl
theorem ti31 : tyInt Try.prog 31 = none := by kernel_rfl
theorem tt31 : tyString Try.prog 31 = false := by kernel_rfl
theorem tq31 : tyBool Try.prog 31 = false := by kernel_rfl
theorem tn31 : tyNil Try.prog 31 = none := by kernel_rfl
theorem tf31_0 : tyField Try.prog 31 0 = some (0, 3) := by kernel_rfl
theorem tf31_1 : tyField Try.prog 31 1 = some (1, 3) := by kernel_rfl
theorem tp31 : tyPlaces Try.prog 31 = some [(0, 1), (1, 1)] := by kernel_rfl
theorem tv31 : leaves Try.prog 20 31 = some [.int, .int] := by kernel_rfl
theorem te31 : Try.prog.eqGuardType Try.prog.depth 31 = false := by kernel_rfl
theorem ts33 : tySize Try.prog 33 = some 3 := by kernel_rfl
theorem tb33 : tyBytes Try.prog 33 = some 24 := by kernel_rfl
theorem tg33 : tyAgg Try.prog 33 = some true := by kernel_rfl
theorem tz33 : tyZero Try.prog 33 = some (.agg [.lit (.int .i64 0), .lit (.int .i64 0), .lit (.bool false)]) := by kernel_rfl
theorem ta33 : tyArray Try.prog 33 = none := by kernel_rfl
theorem tl33 : tySlice Try.prog 33 = none := by kernel_rfl
theorem ti33 : tyInt Try.prog 33 = none := by kernel_rfl
theorem tt33 : tyString Try.prog 33 = false := by kernel_rfl
theorem tq33 : tyBool Try.prog 33 = false := by kernel_rfl
theorem tn33 : tyNil Try.prog 33 = none := by kernel_rfl
theorem tf33_0 : tyField Try.prog 33 0 = some (0, 3) := by kernel_rfl
theorem tf33_1 : tyField Try.prog 33 1 = some (1, 3) := by kernel_rfl
theorem tf33_2 : tyField Try.prog 33 2 = some (2, 4) := by kernel_rfl
theorem tp33 : tyPlaces Try.prog 33 = some [(0, 1), (1, 1), (2, 1)] := by kernel_rfl
theorem tv33 : leaves Try.prog 20 33 = some [.int, .int, .bool] := by kernel_rfl
theorem te33 : Try.prog.eqGuardType Try.prog.depth 33 = false := by kernel_rfl
theorem ts35 : tySize Try.prog 35 = some 4 := by kernel_rfl
theorem tb35 : tyBytes Try.prog 35 = some 32 := by kernel_rfl
theorem tg35 : tyAgg Try.prog 35 = some true := by kernel_rfl
theorem tz35 : tyZero Try.prog 35 = some (.agg [.lit (.int .i64 0), .lit (.int .i64 0), .lit (.int .i64 0), .lit (.bool false)]) := by kernel_rfl
theorem ta35 : tyArray Try.prog 35 = none := by kernel_rfl
theorem tl35 : tySlice Try.prog 35 = none := by kernel_rfl
theorem ti35 : tyInt Try.prog 35 = none := by kernel_rfl
theorem tt35 : tyString Try.prog 35 = false := by kernel_rfl
theorem tq35 : tyBool Try.prog 35 = false := by kernel_rfl
theorem tn35 : tyNil Try.prog 35 = none := by kernel_rfl
theorem tf35_0 : tyField Try.prog 35 0 = some (0, 3) := by kernel_rfl
theorem tf35_1 : tyField Try.prog 35 1 = some (1, 33) := by kernel_rfl
theorem tp35 : tyPlaces Try.prog 35 = some [(0, 1), (1, 3)] := by kernel_rfl
theorem tv35 : leaves Try.prog 20 35 = some [.int, .int, .int, .bool] := by kernel_rfl
theorem te35 : Try.prog.eqGuardType Try.prog.depth 35 = false := by kernel_rfl
theorem ts37 : tySize Try.prog 37 = some 4 := by kernel_rfl
theorem tb37 : tyBytes Try.prog 37 = some 32 := by kernel_rfl
theorem tg37 : tyAgg Try.prog 37 = some true := by kernel_rfl
theorem tz37 : tyZero Try.prog 37 = some (.agg [.lit (.int .i64 0), .lit (.int .i64 0), .lit (.int .i64 0), .lit (.int .i64 0)]) := by kernel_rfl
theorem ta37 : tyArray Try.prog 37 = none := by kernel_rfl
theorem tl37 : tySlice Try.prog 37 = none := by kernel_rfl
theorem ti37 : tyInt Try.prog 37 = none := by kernel_rfl
theorem tt37 : tyString Try.prog 37 = false := by kernel_rfl
theorem tq37 : tyBool Try.prog 37 = false := by kernel_rfl
theorem tn37 : tyNil Try.prog 37 = none := by kernel_rfl
theorem tf37_0 : tyField Try.prog 37 0 = some (0, 3) := by kernel_rfl
theorem tf37_1 : tyField Try.prog 37 1 = some (1, 3) := by kernel_rfl
theorem tf37_2 : tyField Try.prog 37 2 = some (2, 3) := by kernel_rfl
theorem tf37_3 : tyField Try.prog 37 3 = some (3, 3) := by kernel_rfl
theorem tp37 : tyPlaces Try.prog 37 = some [(0, 1), (1, 1), (2, 1), (3, 1)] := by kernel_rfl
theorem tv37 : leaves Try.prog 20 37 = some [.int, .int, .int, .int] := by kernel_rfl
theorem te37 : Try.prog.eqGuardType Try.prog.depth 37 = false := by kernel_rfl
theorem ts43 : tySize Try.prog 43 = some 4 := by kernel_rfl
theorem tb43 : tyBytes Try.prog 43 = some 32 := by kernel_rfl
theorem tg43 : tyAgg Try.prog 43 = some true := by kernel_rfl
theorem tz43 : tyZero Try.prog 43 = some (.agg [.lit (.int .i64 0), .lit (.int .i64 0), .lit (.int .i64 0), .lit (.int .i64 0)]) := by kernel_rfl
theorem ta43 : tyArray Try.prog 43 = none := by kernel_rfl
theorem tl43 : tySlice Try.prog 43 = none := by kernel_rfl
theorem ti43 : tyInt Try.prog 43 = none := by kernel_rfl
theorem tt43 : tyString Try.prog 43 = false := by kernel_rfl
theorem tq43 : tyBool Try.prog 43 = false := by kernel_rfl
theorem tn43 : tyNil Try.prog 43 = none := by kernel_rfl
theorem tf43_0 : tyField Try.prog 43 0 = some (0, 3) := by kernel_rfl
theorem tf43_1 : tyField Try.prog 43 1 = some (1, 3) := by kernel_rfl
theorem tf43_2 : tyField Try.prog 43 2 = some (2, 3) := by kernel_rfl
theorem tf43_3 : tyField Try.prog 43 3 = some (3, 3) := by kernel_rfl
theorem tp43 : tyPlaces Try.prog 43 = some [(0, 1), (1, 1), (2, 1), (3, 1)] := by kernel_rfl
theorem tv43 : leaves Try.prog 20 43 = some [.int, .int, .int, .int] := by kernel_rfl
theorem te43 : Try.prog.eqGuardType Try.prog.depth 43 = false := by kernel_rfl
theorem ts46 : tySize Try.prog 46 = some 1 := by kernel_rfl
theorem tb46 : tyBytes Try.prog 46 = some 24 := by kernel_rfl
theorem tg46 : tyAgg Try.prog 46 = some false := by kernel_rfl
theorem tz46 : tyZero Try.prog 46 = some (.lit (.slice none 0 0)) := by kernel_rfl
theorem ta46 : tyArray Try.prog 46 = none := by kernel_rfl
theorem tl46 : tySlice Try.prog 46 = some 9 := by kernel_rfl
theorem ti46 : tyInt Try.prog 46 = none := by kernel_rfl
theorem tt46 : tyString Try.prog 46 = false := by kernel_rfl
theorem tq46 : tyBool Try.prog 46 = false := by kernel_rfl
theorem tn46 : tyNil Try.prog 46 = some .slice := by kernel_rfl
theorem tp46 : tyPlaces Try.prog 46 = none := by kernel_rfl
theorem tu46 : Try.prog.underlying 46 = some (.slice 9) := by kernel_rfl
theorem ts47 : tySize Try.prog 47 = some 1 := by kernel_rfl
theorem tb47 : tyBytes Try.prog 47 = some 24 := by kernel_rfl
theorem tg47 : tyAgg Try.prog 47 = some false := by kernel_rfl
theorem tz47 : tyZero Try.prog 47 = some (.lit (.slice none 0 0)) := by kernel_rfl
theorem ta47 : tyArray Try.prog 47 = none := by kernel_rfl
theorem tl47 : tySlice Try.prog 47 = some 4 := by kernel_rfl
theorem ti47 : tyInt Try.prog 47 = none := by kernel_rfl
theorem tt47 : tyString Try.prog 47 = false := by kernel_rfl
theorem tq47 : tyBool Try.prog 47 = false := by kernel_rfl
theorem tn47 : tyNil Try.prog 47 = some .slice := by kernel_rfl
theorem tp47 : tyPlaces Try.prog 47 = none := by kernel_rfl
theorem tu47 : Try.prog.underlying 47 = some (.slice 4) := by kernel_rfl
theorem ts48 : tySize Try.prog 48 = some 1 := by kernel_rfl
theorem tb48 : tyBytes Try.prog 48 = some 24 := by kernel_rfl
theorem tg48 : tyAgg Try.prog 48 = some false := by kernel_rfl
theorem tz48 : tyZero Try.prog 48 = some (.lit (.slice none 0 0)) := by kernel_rfl
theorem ta48 : tyArray Try.prog 48 = none := by kernel_rfl
theorem tl48 : tySlice Try.prog 48 = some 61 := by kernel_rfl
theorem ti48 : tyInt Try.prog 48 = none := by kernel_rfl
theorem tt48 : tyString Try.prog 48 = false := by kernel_rfl
theorem tq48 : tyBool Try.prog 48 = false := by kernel_rfl
theorem tn48 : tyNil Try.prog 48 = some .slice := by kernel_rfl
theorem tp48 : tyPlaces Try.prog 48 = none := by kernel_rfl
theorem tu48 : Try.prog.underlying 48 = some (.slice 61) := by kernel_rfl
theorem ts50 : tySize Try.prog 50 = some 1 := by kernel_rfl
theorem tb50 : tyBytes Try.prog 50 = some 8 := by kernel_rfl
theorem tg50 : tyAgg Try.prog 50 = some false := by kernel_rfl
theorem tz50 : tyZero Try.prog 50 = some (.lit (.pointer none)) := by kernel_rfl
theorem ta50 : tyArray Try.prog 50 = none := by kernel_rfl
theorem tl50 : tySlice Try.prog 50 = none := by kernel_rfl
theorem ti50 : tyInt Try.prog 50 = none := by kernel_rfl
theorem tt50 : tyString Try.prog 50 = false := by kernel_rfl
theorem tq50 : tyBool Try.prog 50 = false := by kernel_rfl
theorem tn50 : tyNil Try.prog 50 = some .ptr := by kernel_rfl
theorem tp50 : tyPlaces Try.prog 50 = none := by kernel_rfl
theorem tu50 : Try.prog.underlying 50 = some (.pointer 99) := by kernel_rfl
theorem ts52 : tySize Try.prog 52 = some 1 := by kernel_rfl
theorem tb52 : tyBytes Try.prog 52 = some 8 := by kernel_rfl
theorem tg52 : tyAgg Try.prog 52 = some false := by kernel_rfl
theorem tz52 : tyZero Try.prog 52 = some (.lit (.pointer none)) := by kernel_rfl
theorem ta52 : tyArray Try.prog 52 = none := by kernel_rfl
theorem tl52 : tySlice Try.prog 52 = none := by kernel_rfl
theorem ti52 : tyInt Try.prog 52 = none := by kernel_rfl
theorem tt52 : tyString Try.prog 52 = false := by kernel_rfl
theorem tq52 : tyBool Try.prog 52 = false := by kernel_rfl
theorem tn52 : tyNil Try.prog 52 = some .ptr := by kernel_rfl
theorem tp52 : tyPlaces Try.prog 52 = none := by kernel_rfl
theorem tu52 : Try.prog.underlying 52 = some (.pointer 59) := by kernel_rfl
theorem ts59 : tySize Try.prog 59 = some 2 := by kernel_rfl
theorem tb59 : tyBytes Try.prog 59 = some 48 := by kernel_rfl
theorem tg59 : tyAgg Try.prog 59 = some true := by kernel_rfl
theorem tz59 : tyZero Try.prog 59 = some (.agg [.lit (.slice none 0 0), .lit (.slice none 0 0)]) := by kernel_rfl
theorem ta59 : tyArray Try.prog 59 = none := by kernel_rfl
theorem tl59 : tySlice Try.prog 59 = none := by kernel_rfl
theorem ti59 : tyInt Try.prog 59 = none := by kernel_rfl
theorem tt59 : tyString Try.prog 59 = false := by kernel_rfl
theorem tq59 : tyBool Try.prog 59 = false := by kernel_rfl
theorem tn59 : tyNil Try.prog 59 = none := by kernel_rfl
theorem tf59_0 : tyField Try.prog 59 0 = some (0, 46) := by kernel_rfl
theorem tf59_1 : tyField Try.prog 59 1 = some (1, 47) := by kernel_rfl
theorem tp59 : tyPlaces Try.prog 59 = some [(0, 1), (1, 1)] := by kernel_rfl
theorem ts61 : tySize Try.prog 61 = some 2 := by kernel_rfl
theorem tb61 : tyBytes Try.prog 61 = some 24 := by kernel_rfl
theorem tg61 : tyAgg Try.prog 61 = some true := by kernel_rfl
theorem tz61 : tyZero Try.prog 61 = some (.agg [.lit (.string { data := #[] }), .lit (.bool false)]) := by kernel_rfl
theorem ta61 : tyArray Try.prog 61 = none := by kernel_rfl
theorem tl61 : tySlice Try.prog 61 = none := by kernel_rfl
theorem ti61 : tyInt Try.prog 61 = none := by kernel_rfl
theorem tt61 : tyString Try.prog 61 = false := by kernel_rfl
theorem tq61 : tyBool Try.prog 61 = false := by kernel_rfl
theorem tn61 : tyNil Try.prog 61 = none := by kernel_rfl
theorem tf61_0 : tyField Try.prog 61 0 = some (0, 9) := by kernel_rfl
theorem tf61_1 : tyField Try.prog 61 1 = some (1, 4) := by kernel_rfl
theorem tp61 : tyPlaces Try.prog 61 = some [(0, 1), (1, 1)] := by kernel_rfl
theorem tv61 : leaves Try.prog 20 61 = some [.str, .bool] := by kernel_rfl
theorem te61 : Try.prog.eqGuardType Try.prog.depth 61 = false := by kernel_rfl
theorem ts64 : tySize Try.prog 64 = some 1 := by kernel_rfl
theorem tb64 : tyBytes Try.prog 64 = some 24 := by kernel_rfl
theorem tg64 : tyAgg Try.prog 64 = some false := by kernel_rfl
theorem tz64 : tyZero Try.prog 64 = some (.lit (.slice none 0 0)) := by kernel_rfl
theorem ta64 : tyArray Try.prog 64 = none := by kernel_rfl
theorem tl64 : tySlice Try.prog 64 = some 66 := by kernel_rfl
theorem ti64 : tyInt Try.prog 64 = none := by kernel_rfl
theorem tt64 : tyString Try.prog 64 = false := by kernel_rfl
theorem tq64 : tyBool Try.prog 64 = false := by kernel_rfl
theorem tn64 : tyNil Try.prog 64 = some .slice := by kernel_rfl
theorem tp64 : tyPlaces Try.prog 64 = none := by kernel_rfl
theorem tu64 : Try.prog.underlying 64 = some (.slice 66) := by kernel_rfl
theorem ts65 : tySize Try.prog 65 = some 1 := by kernel_rfl
theorem tb65 : tyBytes Try.prog 65 = some 24 := by kernel_rfl
theorem tg65 : tyAgg Try.prog 65 = some false := by kernel_rfl
theorem tz65 : tyZero Try.prog 65 = some (.lit (.slice none 0 0)) := by kernel_rfl
theorem ta65 : tyArray Try.prog 65 = none := by kernel_rfl
theorem tl65 : tySlice Try.prog 65 = some 3 := by kernel_rfl
theorem ti65 : tyInt Try.prog 65 = none := by kernel_rfl
theorem tt65 : tyString Try.prog 65 = false := by kernel_rfl
theorem tq65 : tyBool Try.prog 65 = false := by kernel_rfl
theorem tn65 : tyNil Try.prog 65 = some .slice := by kernel_rfl
theorem tp65 : tyPlaces Try.prog 65 = none := by kernel_rfl
theorem tu65 : Try.prog.underlying 65 = some (.slice 3) := by kernel_rfl
theorem ts66 : tySize Try.prog 66 = some 1 := by kernel_rfl
theorem tb66 : tyBytes Try.prog 66 = some 24 := by kernel_rfl
theorem tg66 : tyAgg Try.prog 66 = some false := by kernel_rfl
theorem tz66 : tyZero Try.prog 66 = some (.lit (.slice none 0 0)) := by kernel_rfl
theorem ta66 : tyArray Try.prog 66 = none := by kernel_rfl
theorem tl66 : tySlice Try.prog 66 = some 5 := by kernel_rfl
theorem ti66 : tyInt Try.prog 66 = none := by kernel_rfl
theorem tt66 : tyString Try.prog 66 = false := by kernel_rfl
theorem tq66 : tyBool Try.prog 66 = false := by kernel_rfl
theorem tn66 : tyNil Try.prog 66 = some .slice := by kernel_rfl
theorem tp66 : tyPlaces Try.prog 66 = none := by kernel_rfl
theorem tu66 : Try.prog.underlying 66 = some (.slice 5) := by kernel_rfl
theorem ts71 : tySize Try.prog 71 = some 4 := by kernel_rfl
theorem tb71 : tyBytes Try.prog 71 = some 32 := by kernel_rfl
theorem tg71 : tyAgg Try.prog 71 = some true := by kernel_rfl
theorem tz71 : tyZero Try.prog 71 = some (.agg [.lit (.int .i64 0), .lit (.int .i64 0), .lit (.int .i64 0), .lit (.int .i64 0)]) := by kernel_rfl
theorem ta71 : tyArray Try.prog 71 = some (4, 3) := by kernel_rfl
theorem tl71 : tySlice Try.prog 71 = none := by kernel_rfl
theorem ti71 : tyInt Try.prog 71 = none := by kernel_rfl
theorem tt71 : tyString Try.prog 71 = false := by kernel_rfl
theorem tq71 : tyBool Try.prog 71 = false := by kernel_rfl
theorem tn71 : tyNil Try.prog 71 = none := by kernel_rfl
theorem tp71 : tyPlaces Try.prog 71 = none := by kernel_rfl
theorem tu71 : Try.prog.underlying 71 = some (.array 4 3) := by kernel_rfl
theorem ts84 : tySize Try.prog 84 = some 1 := by kernel_rfl
theorem tb84 : tyBytes Try.prog 84 = some 24 := by kernel_rfl
theorem tg84 : tyAgg Try.prog 84 = some false := by kernel_rfl
theorem tz84 : tyZero Try.prog 84 = some (.lit (.slice none 0 0)) := by kernel_rfl
theorem ta84 : tyArray Try.prog 84 = none := by kernel_rfl
theorem tl84 : tySlice Try.prog 84 = some 88 := by kernel_rfl
theorem ti84 : tyInt Try.prog 84 = none := by kernel_rfl
theorem tt84 : tyString Try.prog 84 = false := by kernel_rfl
theorem tq84 : tyBool Try.prog 84 = false := by kernel_rfl
theorem tn84 : tyNil Try.prog 84 = some .slice := by kernel_rfl
theorem tp84 : tyPlaces Try.prog 84 = none := by kernel_rfl
theorem tu84 : Try.prog.underlying 84 = some (.slice 88) := by kernel_rfl
theorem ts88 : tySize Try.prog 88 = some 1 := by kernel_rfl
theorem tb88 : tyBytes Try.prog 88 = some 24 := by kernel_rfl
theorem tg88 : tyAgg Try.prog 88 = some false := by kernel_rfl
theorem tz88 : tyZero Try.prog 88 = some (.lit (.slice none 0 0)) := by kernel_rfl
theorem ta88 : tyArray Try.prog 88 = none := by kernel_rfl
theorem tl88 : tySlice Try.prog 88 = some 33 := by kernel_rfl
theorem ti88 : tyInt Try.prog 88 = none := by kernel_rfl
theorem tt88 : tyString Try.prog 88 = false := by kernel_rfl
theorem tq88 : tyBool Try.prog 88 = false := by kernel_rfl
theorem tn88 : tyNil Try.prog 88 = some .slice := by kernel_rfl
theorem tp88 : tyPlaces Try.prog 88 = none := by kernel_rfl
theorem tu88 : Try.prog.underlying 88 = some (.slice 33) := by kernel_rfl
theorem ts97 : tySize Try.prog 97 = some 1 := by kernel_rfl
theorem tb97 : tyBytes Try.prog 97 = some 24 := by kernel_rfl
theorem tg97 : tyAgg Try.prog 97 = some false := by kernel_rfl
theorem tz97 : tyZero Try.prog 97 = some (.lit (.slice none 0 0)) := by kernel_rfl
theorem ta97 : tyArray Try.prog 97 = none := by kernel_rfl
theorem tl97 : tySlice Try.prog 97 = some 101 := by kernel_rfl
theorem ti97 : tyInt Try.prog 97 = none := by kernel_rfl
theorem tt97 : tyString Try.prog 97 = false := by kernel_rfl
theorem tq97 : tyBool Try.prog 97 = false := by kernel_rfl
theorem tn97 : tyNil Try.prog 97 = some .slice := by kernel_rfl
theorem tp97 : tyPlaces Try.prog 97 = none := by kernel_rfl
theorem tu97 : Try.prog.underlying 97 = some (.slice 101) := by kernel_rfl
theorem ts99 : tySize Try.prog 99 = some 4 := by kernel_rfl
theorem tb99 : tyBytes Try.prog 99 = some 64 := by kernel_rfl
theorem tg99 : tyAgg Try.prog 99 = some true := by kernel_rfl
theorem tz99 : tyZero Try.prog 99 = some (.agg [.lit (.bool false), .lit (.slice none 0 0), .lit (.slice none 0 0), .lit (.int .i64 0)]) := by kernel_rfl
theorem ta99 : tyArray Try.prog 99 = none := by kernel_rfl
theorem tl99 : tySlice Try.prog 99 = none := by kernel_rfl
theorem ti99 : tyInt Try.prog 99 = none := by kernel_rfl
theorem tt99 : tyString Try.prog 99 = false := by kernel_rfl
theorem tq99 : tyBool Try.prog 99 = false := by kernel_rfl
theorem tn99 : tyNil Try.prog 99 = none := by kernel_rfl
theorem tf99_0 : tyField Try.prog 99 0 = some (0, 4) := by kernel_rfl
theorem tf99_1 : tyField Try.prog 99 1 = some (1, 97) := by kernel_rfl
theorem tf99_2 : tyField Try.prog 99 2 = some (2, 65) := by kernel_rfl
theorem tf99_3 : tyField Try.prog 99 3 = some (3, 3) := by kernel_rfl
theorem tp99 : tyPlaces Try.prog 99 = some [(0, 1), (1, 1), (2, 1), (3, 1)] := by kernel_rfl
theorem ts101 : tySize Try.prog 101 = some 2 := by kernel_rfl
theorem tb101 : tyBytes Try.prog 101 = some 24 := by kernel_rfl
theorem tg101 : tyAgg Try.prog 101 = some true := by kernel_rfl
theorem tz101 : tyZero Try.prog 101 = some (.agg [.lit (.string { data := #[] }), .lit (.bool false)]) := by kernel_rfl
theorem ta101 : tyArray Try.prog 101 = none := by kernel_rfl
theorem tl101 : tySlice Try.prog 101 = none := by kernel_rfl
theorem ti101 : tyInt Try.prog 101 = none := by kernel_rfl
theorem tt101 : tyString Try.prog 101 = false := by kernel_rfl
theorem tq101 : tyBool Try.prog 101 = false := by kernel_rfl
theorem tn101 : tyNil Try.prog 101 = none := by kernel_rfl
theorem tf101_0 : tyField Try.prog 101 0 = some (0, 9) := by kernel_rfl
theorem tf101_1 : tyField Try.prog 101 1 = some (1, 4) := by kernel_rfl
theorem tp101 : tyPlaces Try.prog 101 = some [(0, 1), (1, 1)] := by kernel_rfl
theorem tv101 : leaves Try.prog 20 101 = some [.str, .bool] := by kernel_rfl
theorem te101 : Try.prog.eqGuardType Try.prog.depth 101 = false := by kernel_rfl
theorem ts104 : tySize Try.prog 104 = some 1 := by kernel_rfl
theorem tb104 : tyBytes Try.prog 104 = some 8 := by kernel_rfl
theorem tg104 : tyAgg Try.prog 104 = some false := by kernel_rfl
theorem tz104 : tyZero Try.prog 104 = some (.lit (.pointer none)) := by kernel_rfl
theorem ta104 : tyArray Try.prog 104 = none := by kernel_rfl
theorem tl104 : tySlice Try.prog 104 = none := by kernel_rfl
theorem ti104 : tyInt Try.prog 104 = none := by kernel_rfl
theorem tt104 : tyString Try.prog 104 = false := by kernel_rfl
theorem tq104 : tyBool Try.prog 104 = false := by kernel_rfl
theorem tn104 : tyNil Try.prog 104 = some .ptr := by kernel_rfl
theorem tp104 : tyPlaces Try.prog 104 = none := by kernel_rfl
theorem tu104 : Try.prog.underlying 104 = some (.pointer 106) := by kernel_rfl
theorem ts106 : tySize Try.prog 106 = some 3 := by kernel_rfl
theorem tb106 : tyBytes Try.prog 106 = some 32 := by kernel_rfl
theorem tg106 : tyAgg Try.prog 106 = some true := by kernel_rfl
theorem tz106 : tyZero Try.prog 106 = some (.agg [.lit (.string { data := #[] }), .lit (.int .i64 0), .lit (.bool false)]) := by kernel_rfl
theorem ta106 : tyArray Try.prog 106 = none := by kernel_rfl
theorem tl106 : tySlice Try.prog 106 = none := by kernel_rfl
theorem ti106 : tyInt Try.prog 106 = none := by kernel_rfl
theorem tt106 : tyString Try.prog 106 = false := by kernel_rfl
theorem tq106 : tyBool Try.prog 106 = false := by kernel_rfl
theorem tn106 : tyNil Try.prog 106 = none := by kernel_rfl
theorem tf106_0 : tyField Try.prog 106 0 = some (0, 9) := by kernel_rfl
theorem tf106_1 : tyField Try.prog 106 1 = some (1, 3) := by kernel_rfl
theorem tf106_2 : tyField Try.prog 106 2 = some (2, 4) := by kernel_rfl
theorem tp106 : tyPlaces Try.prog 106 = some [(0, 1), (1, 1), (2, 1)] := by kernel_rfl
theorem tv106 : leaves Try.prog 20 106 = some [.str, .int, .bool] := by kernel_rfl
theorem te106 : Try.prog.eqGuardType Try.prog.depth 106 = false := by kernel_rfl
theorem ts115 : tySize Try.prog 115 = some 1 := by kernel_rfl
theorem tb115 : tyBytes Try.prog 115 = some 8 := by kernel_rfl
theorem tg115 : tyAgg Try.prog 115 = some false := by kernel_rfl
theorem tz115 : tyZero Try.prog 115 = some (.lit (.nilFunc)) := by kernel_rfl
theorem ta115 : tyArray Try.prog 115 = none := by kernel_rfl
theorem tl115 : tySlice Try.prog 115 = none := by kernel_rfl
theorem ti115 : tyInt Try.prog 115 = none := by kernel_rfl
theorem tt115 : tyString Try.prog 115 = false := by kernel_rfl
theorem tq115 : tyBool Try.prog 115 = false := by kernel_rfl
theorem tn115 : tyNil Try.prog 115 = some .func := by kernel_rfl
theorem tp115 : tyPlaces Try.prog 115 = none := by kernel_rfl
theorem ts124 : tySize Try.prog 124 = some 1 := by kernel_rfl
theorem tb124 : tyBytes Try.prog 124 = some 8 := by kernel_rfl
theorem tg124 : tyAgg Try.prog 124 = some false := by kernel_rfl
theorem tz124 : tyZero Try.prog 124 = some (.lit (.nilFunc)) := by kernel_rfl
theorem ta124 : tyArray Try.prog 124 = none := by kernel_rfl
theorem tl124 : tySlice Try.prog 124 = none := by kernel_rfl
theorem ti124 : tyInt Try.prog 124 = none := by kernel_rfl
theorem tt124 : tyString Try.prog 124 = false := by kernel_rfl
theorem tq124 : tyBool Try.prog 124 = false := by kernel_rfl
theorem tn124 : tyNil Try.prog 124 = some .func := by kernel_rfl
theorem tp124 : tyPlaces Try.prog 124 = none := by kernel_rfl
theorem ts127 : tySize Try.prog 127 = some 1 := by kernel_rfl
theorem tb127 : tyBytes Try.prog 127 = some 8 := by kernel_rfl
theorem tg127 : tyAgg Try.prog 127 = some false := by kernel_rfl
theorem tz127 : tyZero Try.prog 127 = some (.lit (.nilFunc)) := by kernel_rfl
theorem ta127 : tyArray Try.prog 127 = none := by kernel_rfl
theorem tl127 : tySlice Try.prog 127 = none := by kernel_rfl
theorem ti127 : tyInt Try.prog 127 = none := by kernel_rfl
theorem tt127 : tyString Try.prog 127 = false := by kernel_rfl
theorem tq127 : tyBool Try.prog 127 = false := by kernel_rfl
theorem tn127 : tyNil Try.prog 127 = some .func := by kernel_rfl
theorem tp127 : tyPlaces Try.prog 127 = none := by kernel_rfl
theorem ts131 : tySize Try.prog 131 = some 1 := by kernel_rfl
theorem tb131 : tyBytes Try.prog 131 = some 8 := by kernel_rfl
theorem tg131 : tyAgg Try.prog 131 = some false := by kernel_rfl
theorem tz131 : tyZero Try.prog 131 = some (.lit (.int .u64 0)) := by kernel_rfl
theorem ta131 : tyArray Try.prog 131 = none := by kernel_rfl
theorem tl131 : tySlice Try.prog 131 = none := by kernel_rfl
theorem ti131 : tyInt Try.prog 131 = some .u64 := by kernel_rfl
theorem tt131 : tyString Try.prog 131 = false := by kernel_rfl
theorem tq131 : tyBool Try.prog 131 = false := by kernel_rfl
theorem tn131 : tyNil Try.prog 131 = none := by kernel_rfl
theorem tp131 : tyPlaces Try.prog 131 = none := by kernel_rfl
theorem tu131 : Try.prog.underlying 131 = some (.int .u64) := by kernel_rfl
theorem ts134 : tySize Try.prog 134 = some 8 := by kernel_rfl
theorem tb134 : tyBytes Try.prog 134 = some 8 := by kernel_rfl
theorem tg134 : tyAgg Try.prog 134 = some true := by kernel_rfl
theorem tz134 : tyZero Try.prog 134 = some (.agg [.lit (.int .u8 0), .lit (.int .u8 0), .lit (.int .u8 0), .lit (.int .u8 0), .lit (.int .u8 0), .lit (.int .u8 0), .lit (.int .u8 0), .lit (.int .u8 0)]) := by kernel_rfl
theorem ta134 : tyArray Try.prog 134 = some (8, 5) := by kernel_rfl
theorem tl134 : tySlice Try.prog 134 = none := by kernel_rfl
theorem ti134 : tyInt Try.prog 134 = none := by kernel_rfl
theorem tt134 : tyString Try.prog 134 = false := by kernel_rfl
theorem tq134 : tyBool Try.prog 134 = false := by kernel_rfl
theorem tn134 : tyNil Try.prog 134 = none := by kernel_rfl
theorem tp134 : tyPlaces Try.prog 134 = none := by kernel_rfl
theorem tu134 : Try.prog.underlying 134 = some (.array 8 5) := by kernel_rfl
theorem ts135 : tySize Try.prog 135 = some 1 := by kernel_rfl
theorem tb135 : tyBytes Try.prog 135 = some 8 := by kernel_rfl
theorem tg135 : tyAgg Try.prog 135 = some false := by kernel_rfl
theorem tz135 : tyZero Try.prog 135 = some (.lit (.int .u64 0)) := by kernel_rfl
theorem ta135 : tyArray Try.prog 135 = none := by kernel_rfl
theorem tl135 : tySlice Try.prog 135 = none := by kernel_rfl
theorem ti135 : tyInt Try.prog 135 = some .u64 := by kernel_rfl
theorem tt135 : tyString Try.prog 135 = false := by kernel_rfl
theorem tq135 : tyBool Try.prog 135 = false := by kernel_rfl
theorem tn135 : tyNil Try.prog 135 = none := by kernel_rfl
theorem tp135 : tyPlaces Try.prog 135 = none := by kernel_rfl
theorem tu135 : Try.prog.underlying 135 = some (.int .u64) := by kernel_rfl
theorem ts146 : tySize Try.prog 146 = some 1 := by kernel_rfl
theorem tb146 : tyBytes Try.prog 146 = some 4 := by kernel_rfl
theorem tg146 : tyAgg Try.prog 146 = some false := by kernel_rfl
theorem tz146 : tyZero Try.prog 146 = some (.lit (.int .u32 0)) := by kernel_rfl
theorem ta146 : tyArray Try.prog 146 = none := by kernel_rfl
theorem tl146 : tySlice Try.prog 146 = none := by kernel_rfl
theorem ti146 : tyInt Try.prog 146 = some .u32 := by kernel_rfl
theorem tt146 : tyString Try.prog 146 = false := by kernel_rfl
theorem tq146 : tyBool Try.prog 146 = false := by kernel_rfl
theorem tn146 : tyNil Try.prog 146 = none := by kernel_rfl
theorem tp146 : tyPlaces Try.prog 146 = none := by kernel_rfl
theorem tu146 : Try.prog.underlying 146 = some (.int .u32) := by kernel_rfl
theorem ts150 : tySize Try.prog 150 = some 1 := by kernel_rfl
theorem tb150 : tyBytes Try.prog 150 = some 8 := by kernel_rfl
theorem tg150 : tyAgg Try.prog 150 = some false := by kernel_rfl
theorem tz150 : tyZero Try.prog 150 = some (.lit (.int .u64 0)) := by kernel_rfl
theorem ta150 : tyArray Try.prog 150 = none := by kernel_rfl
theorem tl150 : tySlice Try.prog 150 = none := by kernel_rfl
theorem ti150 : tyInt Try.prog 150 = some .u64 := by kernel_rfl
theorem tt150 : tyString Try.prog 150 = false := by kernel_rfl
theorem tq150 : tyBool Try.prog 150 = false := by kernel_rfl
theorem tn150 : tyNil Try.prog 150 = none := by kernel_rfl
theorem tp150 : tyPlaces Try.prog 150 = none := by kernel_rfl
theorem tu150 : Try.prog.underlying 150 = some (.int .u64) := by kernel_rfl
theorem ts154 : tySize Try.prog 154 = some 1 := by kernel_rfl
theorem tb154 : tyBytes Try.prog 154 = some 8 := by kernel_rfl
theorem tg154 : tyAgg Try.prog 154 = some false := by kernel_rfl
theorem tz154 : tyZero Try.prog 154 = some (.lit (.pointer none)) := by kernel_rfl
theorem ta154 : tyArray Try.prog 154 = none := by kernel_rfl
theorem tl154 : tySlice Try.prog 154 = none := by kernel_rfl
theorem ti154 : tyInt Try.prog 154 = none := by kernel_rfl
theorem tt154 : tyString Try.prog 154 = false := by kernel_rfl
theorem tq154 : tyBool Try.prog 154 = false := by kernel_rfl
theorem tn154 : tyNil Try.prog 154 = some .ptr := by kernel_rfl
theorem tp154 : tyPlaces Try.prog 154 = none := by kernel_rfl
theorem tu154 : Try.prog.underlying 154 = some (.pointer 3) := by kernel_rfl
theorem tw46 : zeroFits Try.prog 46 := zeroFits_of (by kernel_rfl)
theorem tw47 : zeroFits Try.prog 47 := zeroFits_of (by kernel_rfl)
theorem tw48 : zeroFits Try.prog 48 := zeroFits_of (by kernel_rfl)
theorem tw64 : zeroFits Try.prog 64 := zeroFits_of (by kernel_rfl)
theorem tw65 : zeroFits Try.prog 65 := zeroFits_of (by kernel_rfl)
theorem tw66 : zeroFits Try.prog 66 := zeroFits_of (by kernel_rfl)
theorem tw84 : zeroFits Try.prog 84 := zeroFits_of (by kernel_rfl)
theorem tw88 : zeroFits Try.prog 88 := zeroFits_of (by kernel_rfl)
theorem tw97 : zeroFits Try.prog 97 := zeroFits_of (by kernel_rfl)
theorem tmix : Try.prog.follows .mixedOrders = true := by kernel_rfl
theorem tc11 : callable Try.prog 11 = true := by kernel_rfl
theorem tc12 : callable Try.prog 12 = true := by kernel_rfl
theorem tc13 : callable Try.prog 13 = true := by kernel_rfl
theorem tc14 : callable Try.prog 14 = true := by kernel_rfl
theorem tc15 : callable Try.prog 15 = true := by kernel_rfl
theorem tc16 : callable Try.prog 16 = true := by kernel_rfl
theorem tc17 : callable Try.prog 17 = true := by kernel_rfl
theorem tc18 : callable Try.prog 18 = true := by kernel_rfl
theorem tc19 : callable Try.prog 19 = true := by kernel_rfl
theorem tc20 : callable Try.prog 20 = true := by kernel_rfl
theorem tc21 : callable Try.prog 21 = true := by kernel_rfl
theorem tc22 : callable Try.prog 22 = true := by kernel_rfl
theorem tc23 : callable Try.prog 23 = true := by kernel_rfl
theorem tc24 : callable Try.prog 24 = true := by kernel_rfl
theorem tc25 : callable Try.prog 25 = true := by kernel_rfl
theorem tc26 : callable Try.prog 26 = true := by kernel_rfl
theorem tc27 : callable Try.prog 27 = true := by kernel_rfl
theorem tc28 : callable Try.prog 28 = true := by kernel_rfl
theorem tc29 : callable Try.prog 29 = true := by kernel_rfl
theorem tc30 : callable Try.prog 30 = true := by kernel_rfl
theorem tc31 : callable Try.prog 31 = true := by kernel_rfl
theorem tc32 : callable Try.prog 32 = true := by kernel_rfl
theorem tc33 : callable Try.prog 33 = true := by kernel_rfl
theorem tc34 : callable Try.prog 34 = true := by kernel_rfl
theorem tc35 : callable Try.prog 35 = true := by kernel_rfl
theorem tc36 : callable Try.prog 36 = true := by kernel_rfl
theorem tc37 : callable Try.prog 37 = true := by kernel_rfl
theorem tc38 : callable Try.prog 38 = true := by kernel_rfl
theorem tc39 : callable Try.prog 39 = true := by kernel_rfl
theorem tc40 : callable Try.prog 40 = true := by kernel_rfl
theorem tc41 : callable Try.prog 41 = true := by kernel_rfl
theorem tc42 : callable Try.prog 42 = true := by kernel_rfl
theorem tc43 : callable Try.prog 43 = true := by kernel_rfl
theorem tc44 : callable Try.prog 44 = true := by kernel_rfl
theorem tc45 : callable Try.prog 45 = true := by kernel_rfl
theorem tc46 : callable Try.prog 46 = true := by kernel_rfl
theorem tc47 : callable Try.prog 47 = true := by kernel_rfl
theorem tc48 : callable Try.prog 48 = true := by kernel_rfl
theorem tc49 : callable Try.prog 49 = true := by kernel_rfl
theorem tc50 : callable Try.prog 50 = true := by kernel_rfl
theorem tc51 : callable Try.prog 51 = true := by kernel_rfl
theorem tc52 : callable Try.prog 52 = true := by kernel_rfl
theorem tc53 : callable Try.prog 53 = true := by kernel_rfl
theorem tc54 : callable Try.prog 54 = true := by kernel_rfl
theorem tc55 : callable Try.prog 55 = true := by kernel_rfl
theorem tc56 : callable Try.prog 56 = true := by kernel_rfl
theorem tc57 : callable Try.prog 57 = true := by kernel_rfl
theorem tc58 : callable Try.prog 58 = true := by kernel_rfl
theorem tc59 : callable Try.prog 59 = true := by kernel_rfl
theorem tc60 : callable Try.prog 60 = true := by kernel_rfl
theorem tc61 : callable Try.prog 61 = true := by kernel_rfl
theorem tc62 : callable Try.prog 62 = true := by kernel_rfl
theorem tc63 : callable Try.prog 63 = true := by kernel_rfl
theorem tc64 : callable Try.prog 64 = true := by kernel_rfl
theorem tc65 : callable Try.prog 65 = true := by kernel_rfl
theorem tc66 : callable Try.prog 66 = true := by kernel_rfl
theorem tc67 : callable Try.prog 67 = true := by kernel_rfl
theorem tc68 : callable Try.prog 68 = true := by kernel_rfl
theorem tc69 : callable Try.prog 69 = true := by kernel_rfl
theorem tc70 : callable Try.prog 70 = true := by kernel_rfl
theorem tc71 : callable Try.prog 71 = true := by kernel_rfl
theorem tc72 : callable Try.prog 72 = true := by kernel_rfl
theorem tc73 : callable Try.prog 73 = true := by kernel_rfl
theorem tc74 : callable Try.prog 74 = true := by kernel_rfl
theorem tc75 : callable Try.prog 75 = true := by kernel_rfl
theorem tc76 : callable Try.prog 76 = true := by kernel_rfl
theorem tc77 : callable Try.prog 77 = true := by kernel_rfl
theorem tc78 : callable Try.prog 78 = true := by kernel_rfl
theorem tc79 : callable Try.prog 79 = true := by kernel_rfl
theorem tc80 : callable Try.prog 80 = true := by kernel_rfl
theorem tc81 : callable Try.prog 81 = true := by kernel_rfl
theorem tc82 : callable Try.prog 82 = true := by kernel_rfl
theorem tc83 : callable Try.prog 83 = true := by kernel_rfl
theorem tc84 : callable Try.prog 84 = true := by kernel_rfl
theorem tc85 : callable Try.prog 85 = true := by kernel_rfl
theorem tc86 : callable Try.prog 86 = true := by kernel_rfl
theorem tc87 : callable Try.prog 87 = true := by kernel_rfl
theorem tc88 : callable Try.prog 88 = true := by kernel_rfl
theorem tc89 : callable Try.prog 89 = true := by kernel_rfl
theorem tc91 : callable Try.prog 91 = true := by kernel_rfl
theorem tc93 : callable Try.prog 93 = true := by kernel_rfl
theorem tc95 : callable Try.prog 95 = true := by kernel_rfl
theorem tc96 : callable Try.prog 96 = true := by kernel_rfl
theorem tc97 : callable Try.prog 97 = true := by kernel_rfl
theorem tc98 : callable Try.prog 98 = true := by kernel_rfl
theorem tc99 : callable Try.prog 99 = true := by kernel_rfl
theorem tc100 : callable Try.prog 100 = true := by kernel_rfl
theorem tc101 : callable Try.prog 101 = true := by kernel_rfl
theorem tc102 : callable Try.prog 102 = true := by kernel_rfl
theorem tc103 : callable Try.prog 103 = true := by kernel_rfl
theorem tc104 : callable Try.prog 104 = true := by kernel_rfl
theorem tc105 : callable Try.prog 105 = true := by kernel_rfl
theorem tc106 : callable Try.prog 106 = true := by kernel_rfl
theorem tc107 : callable Try.prog 107 = true := by kernel_rfl
theorem tc108 : callable Try.prog 108 = true := by kernel_rfl
theorem tc109 : callable Try.prog 109 = true := by kernel_rfl
theorem tc110 : callable Try.prog 110 = true := by kernel_rfl
theorem tc111 : callable Try.prog 111 = true := by kernel_rfl
theorem tc112 : callable Try.prog 112 = true := by kernel_rfl
theorem tc113 : callable Try.prog 113 = true := by kernel_rfl
theorem tc114 : callable Try.prog 114 = true := by kernel_rfl
theorem tc115 : callable Try.prog 115 = true := by kernel_rfl
theorem tc116 : callable Try.prog 116 = true := by kernel_rfl
theorem tc117 : callable Try.prog 117 = true := by kernel_rfl
theorem tc118 : callable Try.prog 118 = true := by kernel_rfl
theorem tc119 : callable Try.prog 119 = true := by kernel_rfl
theorem tr2 : Try.f2.results.toList = [] := by kernel_rfl
theorem tr3 : Try.f3.results.toList = [ResultVar.tmp 6] := by kernel_rfl
theorem tr4 : Try.f4.results.toList = [ResultVar.tmp 8] := by kernel_rfl
theorem tr5 : Try.f5.results.toList = [ResultVar.tmp 6] := by kernel_rfl
theorem tr6 : Try.f6.results.toList = [ResultVar.tmp 2] := by kernel_rfl
theorem tr7 : Try.f7.results.toList = [ResultVar.tmp 4] := by kernel_rfl
theorem tr8 : Try.f8.results.toList = [ResultVar.tmp 2] := by kernel_rfl
theorem tr9 : Try.f9.results.toList = [ResultVar.tmp 12] := by kernel_rfl
theorem tr10 : Try.f10.results.toList = [ResultVar.tmp 2] := by kernel_rfl
theorem tr11 : Try.f11.results.toList = [ResultVar.tmp 2] := by kernel_rfl
theorem tr12 : Try.f12.results.toList = [ResultVar.tmp 2] := by kernel_rfl
theorem tr13 : Try.f13.results.toList = [ResultVar.tmp 2] := by kernel_rfl
theorem tr14 : Try.f14.results.toList = [ResultVar.tmp 2] := by kernel_rfl
theorem tr15 : Try.f15.results.toList = [ResultVar.tmp 2] := by kernel_rfl
theorem tr16 : Try.f16.results.toList = [ResultVar.tmp 2] := by kernel_rfl
theorem tr17 : Try.f17.results.toList = [ResultVar.tmp 6] := by kernel_rfl
theorem tr18 : Try.f18.results.toList = [ResultVar.tmp 6] := by kernel_rfl
theorem tr19 : Try.f19.results.toList = [ResultVar.tmp 0] := by kernel_rfl
theorem tr20 : Try.f20.results.toList = [ResultVar.tmp 4, ResultVar.tmp 5] := by kernel_rfl
theorem tr21 : Try.f21.results.toList = [ResultVar.tmp 4, ResultVar.tmp 5] := by kernel_rfl
theorem tr22 : Try.f22.results.toList = [ResultVar.tmp 2, ResultVar.tmp 3] := by kernel_rfl
theorem tr23 : Try.f23.results.toList = [ResultVar.tmp 2, ResultVar.tmp 3] := by kernel_rfl
theorem tr24 : Try.f24.results.toList = [ResultVar.tmp 2, ResultVar.tmp 3] := by kernel_rfl
theorem tr25 : Try.f25.results.toList = [ResultVar.tmp 2, ResultVar.tmp 3] := by kernel_rfl
theorem tr26 : Try.f26.results.toList = [ResultVar.tmp 2, ResultVar.tmp 3] := by kernel_rfl
theorem tr27 : Try.f27.results.toList = [ResultVar.tmp 2, ResultVar.tmp 3] := by kernel_rfl
theorem tr28 : Try.f28.results.toList = [ResultVar.tmp 0] := by kernel_rfl
theorem tr29 : Try.f29.results.toList = [ResultVar.tmp 4] := by kernel_rfl
theorem tr30 : Try.f30.results.toList = [ResultVar.tmp 0] := by kernel_rfl
theorem tr31 : Try.f31.results.toList = [ResultVar.tmp 4] := by kernel_rfl
theorem tr32 : Try.f32.results.toList = [ResultVar.tmp 4] := by kernel_rfl
theorem tr33 : Try.f33.results.toList = [ResultVar.tmp 2, ResultVar.tmp 3] := by kernel_rfl
theorem tr34 : Try.f34.results.toList = [ResultVar.tmp 2, ResultVar.tmp 3] := by kernel_rfl
theorem tr35 : Try.f35.results.toList = [ResultVar.tmp 2] := by kernel_rfl
theorem tr36 : Try.f36.results.toList = [ResultVar.tmp 2] := by kernel_rfl
theorem tr37 : Try.f37.results.toList = [ResultVar.tmp 2] := by kernel_rfl
theorem tr38 : Try.f38.results.toList = [] := by kernel_rfl
theorem tr39 : Try.f39.results.toList = [] := by kernel_rfl
theorem tr40 : Try.f40.results.toList = [ResultVar.tmp 2] := by kernel_rfl
theorem tr41 : Try.f41.results.toList = [ResultVar.cell 2 43, ResultVar.tmp 3] := by kernel_rfl
theorem tr42 : Try.f42.results.toList = [ResultVar.cell 2 29, ResultVar.tmp 3, ResultVar.tmp 4] := by kernel_rfl
theorem tr43 : Try.f43.results.toList = [ResultVar.cell 2 29, ResultVar.tmp 3, ResultVar.tmp 4] := by kernel_rfl
theorem tr44 : Try.f44.results.toList = [ResultVar.cell 2 31, ResultVar.tmp 3] := by kernel_rfl
theorem tr45 : Try.f45.results.toList = [ResultVar.cell 2 31, ResultVar.tmp 3] := by kernel_rfl
theorem tr46 : Try.f46.results.toList = [ResultVar.cell 2 35, ResultVar.tmp 3] := by kernel_rfl
theorem tr47 : Try.f47.results.toList = [ResultVar.cell 2 35, ResultVar.tmp 3] := by kernel_rfl
theorem tr48 : Try.f48.results.toList = [ResultVar.cell 2 37, ResultVar.tmp 3] := by kernel_rfl
theorem tr49 : Try.f49.results.toList = [ResultVar.tmp 4] := by kernel_rfl
theorem tr50 : Try.f50.results.toList = [ResultVar.tmp 2] := by kernel_rfl
theorem tr51 : Try.f51.results.toList = [ResultVar.tmp 0] := by kernel_rfl
theorem tr52 : Try.f52.results.toList = [ResultVar.tmp 2] := by kernel_rfl
theorem tr53 : Try.f53.results.toList = [ResultVar.tmp 4] := by kernel_rfl
theorem tr54 : Try.f54.results.toList = [ResultVar.tmp 2] := by kernel_rfl
theorem tr55 : Try.f55.results.toList = [ResultVar.tmp 2] := by kernel_rfl
theorem tr56 : Try.f56.results.toList = [ResultVar.tmp 4] := by kernel_rfl
theorem tr57 : Try.f57.results.toList = [ResultVar.tmp 6] := by kernel_rfl
theorem tr58 : Try.f58.results.toList = [ResultVar.tmp 4] := by kernel_rfl
theorem tr59 : Try.f59.results.toList = [ResultVar.tmp 2, ResultVar.tmp 3] := by kernel_rfl
theorem tr60 : Try.f60.results.toList = [ResultVar.tmp 2, ResultVar.tmp 3] := by kernel_rfl
theorem tr61 : Try.f61.results.toList = [ResultVar.tmp 2] := by kernel_rfl
theorem tr62 : Try.f62.results.toList = [ResultVar.tmp 2, ResultVar.tmp 3] := by kernel_rfl
theorem tr63 : Try.f63.results.toList = [ResultVar.tmp 2] := by kernel_rfl
theorem tr64 : Try.f64.results.toList = [ResultVar.tmp 4] := by kernel_rfl
theorem tr65 : Try.f65.results.toList = [ResultVar.tmp 4] := by kernel_rfl
theorem tr66 : Try.f66.results.toList = [ResultVar.tmp 2] := by kernel_rfl
theorem tr67 : Try.f67.results.toList = [] := by kernel_rfl
theorem tr68 : Try.f68.results.toList = [ResultVar.tmp 4] := by kernel_rfl
theorem tr69 : Try.f69.results.toList = [ResultVar.tmp 4] := by kernel_rfl
theorem tr70 : Try.f70.results.toList = [ResultVar.tmp 2] := by kernel_rfl
theorem tr71 : Try.f71.results.toList = [ResultVar.tmp 4, ResultVar.tmp 5] := by kernel_rfl
theorem tr72 : Try.f72.results.toList = [ResultVar.tmp 6, ResultVar.tmp 7] := by kernel_rfl
theorem tr73 : Try.f73.results.toList = [ResultVar.tmp 2] := by kernel_rfl
theorem tr74 : Try.f74.results.toList = [ResultVar.tmp 2] := by kernel_rfl
theorem tr75 : Try.f75.results.toList = [] := by kernel_rfl
theorem tr76 : Try.f76.results.toList = [ResultVar.tmp 4] := by kernel_rfl
theorem tr77 : Try.f77.results.toList = [ResultVar.tmp 2] := by kernel_rfl
theorem tr78 : Try.f78.results.toList = [ResultVar.tmp 4] := by kernel_rfl
theorem tr79 : Try.f79.results.toList = [ResultVar.tmp 2] := by kernel_rfl
theorem tr80 : Try.f80.results.toList = [ResultVar.tmp 4] := by kernel_rfl
theorem tr81 : Try.f81.results.toList = [ResultVar.tmp 4] := by kernel_rfl
theorem tr82 : Try.f82.results.toList = [ResultVar.tmp 2] := by kernel_rfl
theorem tr83 : Try.f83.results.toList = [ResultVar.tmp 2] := by kernel_rfl
theorem tr84 : Try.f84.results.toList = [ResultVar.tmp 6] := by kernel_rfl
theorem tr85 : Try.f85.results.toList = [ResultVar.tmp 4, ResultVar.tmp 5] := by kernel_rfl
theorem tr86 : Try.f86.results.toList = [ResultVar.tmp 4, ResultVar.tmp 5] := by kernel_rfl
theorem tr87 : Try.f87.results.toList = [ResultVar.tmp 6] := by kernel_rfl
theorem tr88 : Try.f88.results.toList = [ResultVar.tmp 6, ResultVar.tmp 7] := by kernel_rfl
theorem tr89 : Try.f89.results.toList = [ResultVar.tmp 4, ResultVar.tmp 5] := by kernel_rfl
theorem tr90 : Try.f90.results.toList = [ResultVar.tmp 3] := by kernel_rfl
theorem tr91 : Try.f91.results.toList = [ResultVar.tmp 4] := by kernel_rfl
theorem tr92 : Try.f92.results.toList = [ResultVar.tmp 3] := by kernel_rfl
theorem tr93 : Try.f93.results.toList = [ResultVar.tmp 4] := by kernel_rfl
theorem tr94 : Try.f94.results.toList = [] := by kernel_rfl
theorem tr95 : Try.f95.results.toList = [] := by kernel_rfl
theorem tr96 : Try.f96.results.toList = [ResultVar.tmp 2] := by kernel_rfl
theorem tr97 : Try.f97.results.toList = [ResultVar.tmp 2] := by kernel_rfl
theorem tr98 : Try.f98.results.toList = [ResultVar.tmp 4] := by kernel_rfl
theorem tr99 : Try.f99.results.toList = [ResultVar.tmp 4] := by kernel_rfl
theorem tr100 : Try.f100.results.toList = [ResultVar.tmp 4] := by kernel_rfl
theorem tr101 : Try.f101.results.toList = [ResultVar.tmp 4] := by kernel_rfl
theorem tr102 : Try.f102.results.toList = [] := by kernel_rfl
theorem tr103 : Try.f103.results.toList = [] := by kernel_rfl
theorem tr104 : Try.f104.results.toList = [] := by kernel_rfl
theorem tr105 : Try.f105.results.toList = [ResultVar.tmp 8, ResultVar.tmp 9] := by kernel_rfl
theorem tr106 : Try.f106.results.toList = [] := by kernel_rfl
theorem tr107 : Try.f107.results.toList = [ResultVar.tmp 8] := by kernel_rfl
theorem tr108 : Try.f108.results.toList = [ResultVar.tmp 10] := by kernel_rfl
theorem tr109 : Try.f109.results.toList = [ResultVar.tmp 10, ResultVar.tmp 11] := by kernel_rfl
theorem tr110 : Try.f110.results.toList = [ResultVar.tmp 2] := by kernel_rfl
theorem tr111 : Try.f111.results.toList = [ResultVar.tmp 2] := by kernel_rfl
theorem tr112 : Try.f112.results.toList = [ResultVar.tmp 4] := by kernel_rfl
theorem tr113 : Try.f113.results.toList = [ResultVar.tmp 4] := by kernel_rfl
theorem tr114 : Try.f114.results.toList = [] := by kernel_rfl
theorem tr115 : Try.f115.results.toList = [ResultVar.tmp 2] := by kernel_rfl
theorem tr116 : Try.f116.results.toList = [ResultVar.tmp 2] := by kernel_rfl
theorem tr117 : Try.f117.results.toList = [ResultVar.tmp 8] := by kernel_rfl
theorem tr118 : Try.f118.results.toList = [ResultVar.tmp 12] := by kernel_rfl
theorem tr119 : Try.f119.results.toList = [ResultVar.tmp 10, ResultVar.tmp 11] := by kernel_rfl
attribute [go_sem] ts3 tb3 tg3 tz3 ta3 tl3 ti3 tt3 tq3 tn3 tp3 tu3 ts4 tb4 tg4 tz4 ta4 tl4 ti4 tt4
attribute [go_sem] tq4 tn4 tp4 tu4 ts5 tb5 tg5 tz5 ta5 tl5 ti5 tt5 tq5 tn5 tp5 tu5 ts9 tb9 tg9 tz9
attribute [go_sem] ta9 tl9 ti9 tt9 tq9 tn9 tp9 tu9 ts23 tb23 tg23 tz23 ta23 tl23 ti23 tt23 tq23 tn23 tf23_0 tf23_1
attribute [go_sem] tf23_2 tf23_3 tf23_4 tf23_5 tf23_6 tf23_7 tf23_8 tp23 tv23 te23 ts29 tb29 tg29 tz29 ta29 tl29 ti29 tt29 tq29 tn29
attribute [go_sem] tf29_0 tf29_1 tp29 tv29 te29 ts31 tb31 tg31 tz31 ta31 tl31 ti31 tt31 tq31 tn31 tf31_0 tf31_1 tp31 tv31 te31
attribute [go_sem] ts33 tb33 tg33 tz33 ta33 tl33 ti33 tt33 tq33 tn33 tf33_0 tf33_1 tf33_2 tp33 tv33 te33 ts35 tb35 tg35 tz35
attribute [go_sem] ta35 tl35 ti35 tt35 tq35 tn35 tf35_0 tf35_1 tp35 tv35 te35 ts37 tb37 tg37 tz37 ta37 tl37 ti37 tt37 tq37
attribute [go_sem] tn37 tf37_0 tf37_1 tf37_2 tf37_3 tp37 tv37 te37 ts43 tb43 tg43 tz43 ta43 tl43 ti43 tt43 tq43 tn43 tf43_0 tf43_1
attribute [go_sem] tf43_2 tf43_3 tp43 tv43 te43 ts46 tb46 tg46 tz46 ta46 tl46 ti46 tt46 tq46 tn46 tp46 tu46 ts47 tb47 tg47
attribute [go_sem] tz47 ta47 tl47 ti47 tt47 tq47 tn47 tp47 tu47 ts48 tb48 tg48 tz48 ta48 tl48 ti48 tt48 tq48 tn48 tp48
attribute [go_sem] tu48 ts50 tb50 tg50 tz50 ta50 tl50 ti50 tt50 tq50 tn50 tp50 tu50 ts52 tb52 tg52 tz52 ta52 tl52 ti52
attribute [go_sem] tt52 tq52 tn52 tp52 tu52 ts59 tb59 tg59 tz59 ta59 tl59 ti59 tt59 tq59 tn59 tf59_0 tf59_1 tp59 ts61 tb61
attribute [go_sem] tg61 tz61 ta61 tl61 ti61 tt61 tq61 tn61 tf61_0 tf61_1 tp61 tv61 te61 ts64 tb64 tg64 tz64 ta64 tl64 ti64
attribute [go_sem] tt64 tq64 tn64 tp64 tu64 ts65 tb65 tg65 tz65 ta65 tl65 ti65 tt65 tq65 tn65 tp65 tu65 ts66 tb66 tg66
attribute [go_sem] tz66 ta66 tl66 ti66 tt66 tq66 tn66 tp66 tu66 ts71 tb71 tg71 tz71 ta71 tl71 ti71 tt71 tq71 tn71 tp71
attribute [go_sem] tu71 ts84 tb84 tg84 tz84 ta84 tl84 ti84 tt84 tq84 tn84 tp84 tu84 ts88 tb88 tg88 tz88 ta88 tl88 ti88
attribute [go_sem] tt88 tq88 tn88 tp88 tu88 ts97 tb97 tg97 tz97 ta97 tl97 ti97 tt97 tq97 tn97 tp97 tu97 ts99 tb99 tg99
attribute [go_sem] tz99 ta99 tl99 ti99 tt99 tq99 tn99 tf99_0 tf99_1 tf99_2 tf99_3 tp99 ts101 tb101 tg101 tz101 ta101 tl101 ti101 tt101
attribute [go_sem] tq101 tn101 tf101_0 tf101_1 tp101 tv101 te101 ts104 tb104 tg104 tz104 ta104 tl104 ti104 tt104 tq104 tn104 tp104 tu104 ts106
attribute [go_sem] tb106 tg106 tz106 ta106 tl106 ti106 tt106 tq106 tn106 tf106_0 tf106_1 tf106_2 tp106 tv106 te106 ts115 tb115 tg115 tz115 ta115
attribute [go_sem] tl115 ti115 tt115 tq115 tn115 tp115 ts124 tb124 tg124 tz124 ta124 tl124 ti124 tt124 tq124 tn124 tp124 ts127 tb127 tg127
attribute [go_sem] tz127 ta127 tl127 ti127 tt127 tq127 tn127 tp127 ts131 tb131 tg131 tz131 ta131 tl131 ti131 tt131 tq131 tn131 tp131 tu131
attribute [go_sem] ts134 tb134 tg134 tz134 ta134 tl134 ti134 tt134 tq134 tn134 tp134 tu134 ts135 tb135 tg135 tz135 ta135 tl135 ti135 tt135
attribute [go_sem] tq135 tn135 tp135 tu135 ts146 tb146 tg146 tz146 ta146 tl146 ti146 tt146 tq146 tn146 tp146 tu146 ts150 tb150 tg150 tz150
attribute [go_sem] ta150 tl150 ti150 tt150 tq150 tn150 tp150 tu150 ts154 tb154 tg154 tz154 ta154 tl154 ti154 tt154 tq154 tn154 tp154 tu154
attribute [go_sem] tw46 tw47 tw48 tw64 tw65 tw66 tw84 tw88 tw97 tc11 tc12 tc13 tc14 tc15 tc16 tc17 tc18 tc19 tc20 tc21
attribute [go_sem] tc22 tc23 tc24 tc25 tc26 tc27 tc28 tc29 tc30 tc31 tc32 tc33 tc34 tc35 tc36 tc37 tc38 tc39 tc40 tc41
attribute [go_sem] tc42 tc43 tc44 tc45 tc46 tc47 tc48 tc49 tc50 tc51 tc52 tc53 tc54 tc55 tc56 tc57 tc58 tc59 tc60 tc61
attribute [go_sem] tc62 tc63 tc64 tc65 tc66 tc67 tc68 tc69 tc70 tc71 tc72 tc73 tc74 tc75 tc76 tc77 tc78 tc79 tc80 tc81
attribute [go_sem] tc82 tc83 tc84 tc85 tc86 tc87 tc88 tc89 tc91 tc93 tc95 tc96 tc97 tc98 tc99 tc100 tc101 tc102 tc103 tc104
attribute [go_sem] tc105 tc106 tc107 tc108 tc109 tc110 tc111 tc112 tc113 tc114 tc115 tc116 tc117 tc118 tc119 tr2 tr3 tr4 tr5 tr6
attribute [go_sem] tr7 tr8 tr9 tr10 tr11 tr12 tr13 tr14 tr15 tr16 tr17 tr18 tr19 tr20 tr21 tr22 tr23 tr24 tr25 tr26
attribute [go_sem] tr27 tr28 tr29 tr30 tr31 tr32 tr33 tr34 tr35 tr36 tr37 tr38 tr39 tr40 tr41 tr42 tr43 tr44 tr45 tr46
attribute [go_sem] tr47 tr48 tr49 tr50 tr51 tr52 tr53 tr54 tr55 tr56 tr57 tr58 tr59 tr60 tr61 tr62 tr63 tr64 tr65 tr66
attribute [go_sem] tr67 tr68 tr69 tr70 tr71 tr72 tr73 tr74 tr75 tr76 tr77 tr78 tr79 tr80 tr81 tr82 tr83 tr84 tr85 tr86
attribute [go_sem] tr87 tr88 tr89 tr90 tr91 tr92 tr93 tr94 tr95 tr96 tr97 tr98 tr99 tr100 tr101 tr102 tr103 tr104 tr105 tr106
attribute [go_sem] tr107 tr108 tr109 tr110 tr111 tr112 tr113 tr114 tr115 tr116 tr117 tr118 tr119
end Go.Proofs.Ytpjocohpogihcaa.AL
