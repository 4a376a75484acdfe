import Derived.Test.YteahajcgbogjkaaGreatG5
import Derived.Test.YteahajcgbogjkaaGreatProg
import Derived.Test.YteahajcgbogjkaaGreatG2
import Derived.KernelRfl
/- Facts on the types of the program, each asked of the loaded table. -/
namespace Go.Proofs.YteahajcgbogjkaaGreat.AL
set_option linter.unusedVariables false
set_option linter.unusedSimpArgs false
open Go
theorem ts3 : tySize Tryz.prog 3 = some 1 := by kernel_rfl
theorem tb3 : tyBytes Tryz.prog 3 = some 8 := by kernel_rfl
theorem tg3 : tyAgg Tryz.prog 3 = some false := by kernel_rfl
theorem tz3 : tyZero Tryz.prog 3 = some (.lit (.int .i64 0)) := by kernel_rfl
theorem ta3 : tyArray Tryz.prog 3 = none := by kernel_rfl
theorem tl3 : tySlice Tryz.prog 3 = none := by kernel_rfl
theorem ti3 : tyInt Tryz.prog 3 = some .i64 := by kernel_rfl
theorem tt3 : tyString Tryz.prog 3 = false := by kernel_rfl
theorem tq3 : tyBool Tryz.prog 3 = false := by kernel_rfl
theorem tn3 : tyNil Tryz.prog 3 = none := by kernel_rfl
theorem tp3 : tyPlaces Tryz.prog 3 = none := by kernel_rfl
theorem tu3 : Tryz.prog.underlying 3 = some (.int .i64) := by kernel_rfl
theorem ts4 : tySize Tryz.prog 4 = some 1 := by kernel_rfl
theorem tb4 : tyBytes Tryz.prog 4 = some 1 := by kernel_rfl
theorem tg4 : tyAgg Tryz.prog 4 = some false := by kernel_rfl
theorem tz4 : tyZero Tryz.prog 4 = some (.lit (.bool false)) := by kernel_rfl
theorem ta4 : tyArray Tryz.prog 4 = none := by kernel_rfl
theorem tl4 : tySlice Tryz.prog 4 = none := by kernel_rfl
theorem ti4 : tyInt Tryz.prog 4 = none := by kernel_rfl
theorem tt4 : tyString Tryz.prog 4 = false := by kernel_rfl
theorem tq4 : tyBool Tryz.prog 4 = true := by kernel_rfl
theorem tn4 : tyNil Tryz.prog 4 = none := by kernel_rfl
theorem tp4 : tyPlaces Tryz.prog 4 = none := by kernel_rfl
theorem tu4 : Tryz.prog.underlying 4 = some .bool := by kernel_rfl
theorem ts5 : tySize Tryz.prog 5 = some 1 := by kernel_rfl
theorem tb5 : tyBytes Tryz.prog 5 = some 1 := by kernel_rfl
theorem tg5 : tyAgg Tryz.prog 5 = some false := by kernel_rfl
theorem tz5 : tyZero Tryz.prog 5 = some (.lit (.int .u8 0)) := by kernel_rfl
theorem ta5 : tyArray Tryz.prog 5 = none := by kernel_rfl
theorem tl5 : tySlice Tryz.prog 5 = none := by kernel_rfl
theorem ti5 : tyInt Tryz.prog 5 = some .u8 := by kernel_rfl
theorem tt5 : tyString Tryz.prog 5 = false := by kernel_rfl
theorem tq5 : tyBool Tryz.prog 5 = false := by kernel_rfl
theorem tn5 : tyNil Tryz.prog 5 = none := by kernel_rfl
theorem tp5 : tyPlaces Tryz.prog 5 = none := by kernel_rfl
theorem tu5 : Tryz.prog.underlying 5 = some (.int .u8) := by kernel_rfl
theorem ts9 : tySize Tryz.prog 9 = some 1 := by kernel_rfl
theorem tb9 : tyBytes Tryz.prog 9 = some 16 := by kernel_rfl
theorem tg9 : tyAgg Tryz.prog 9 = some false := by kernel_rfl
theorem tz9 : tyZero Tryz.prog 9 = some (.lit (.string { data := #[] })) := by kernel_rfl
theorem ta9 : tyArray Tryz.prog 9 = none := by kernel_rfl
theorem tl9 : tySlice Tryz.prog 9 = none := by kernel_rfl
theorem ti9 : tyInt Tryz.prog 9 = none := by kernel_rfl
theorem tt9 : tyString Tryz.prog 9 = true := by kernel_rfl
theorem tq9 : tyBool Tryz.prog 9 = false := by kernel_rfl
theorem tn9 : tyNil Tryz.prog 9 = none := by kernel_rfl
theorem tp9 : tyPlaces Tryz.prog 9 = none := by kernel_rfl
theorem tu9 : Tryz.prog.underlying 9 = some .string := by kernel_rfl
theorem ts21 : tySize Tryz.prog 21 = some 1 := by kernel_rfl
theorem tb21 : tyBytes Tryz.prog 21 = some 4 := by kernel_rfl
theorem tg21 : tyAgg Tryz.prog 21 = some false := by kernel_rfl
theorem tz21 : tyZero Tryz.prog 21 = some (.lit (.int .i32 0)) := by kernel_rfl
theorem ta21 : tyArray Tryz.prog 21 = none := by kernel_rfl
theorem tl21 : tySlice Tryz.prog 21 = none := by kernel_rfl
theorem ti21 : tyInt Tryz.prog 21 = some .i32 := by kernel_rfl
theorem tt21 : tyString Tryz.prog 21 = false := by kernel_rfl
theorem tq21 : tyBool Tryz.prog 21 = false := by kernel_rfl
theorem tn21 : tyNil Tryz.prog 21 = none := by kernel_rfl
theorem tp21 : tyPlaces Tryz.prog 21 = none := by kernel_rfl
theorem tu21 : Tryz.prog.underlying 21 = some (.int .i32) := by kernel_rfl
theorem ts23 : tySize Tryz.prog 23 = some 1 := by kernel_rfl
theorem tb23 : tyBytes Tryz.prog 23 = some 24 := by kernel_rfl
theorem tg23 : tyAgg Tryz.prog 23 = some false := by kernel_rfl
theorem tz23 : tyZero Tryz.prog 23 = some (.lit (.slice none 0 0)) := by kernel_rfl
theorem ta23 : tyArray Tryz.prog 23 = none := by kernel_rfl
theorem tl23 : tySlice Tryz.prog 23 = some 3 := by kernel_rfl
theorem ti23 : tyInt Tryz.prog 23 = none := by kernel_rfl
theorem tt23 : tyString Tryz.prog 23 = false := by kernel_rfl
theorem tq23 : tyBool Tryz.prog 23 = false := by kernel_rfl
theorem tn23 : tyNil Tryz.prog 23 = some .slice := by kernel_rfl
theorem tp23 : tyPlaces Tryz.prog 23 = none := by kernel_rfl
theorem tu23 : Tryz.prog.underlying 23 = some (.slice 3) := by kernel_rfl
theorem ts27 : tySize Tryz.prog 27 = some 1 := by kernel_rfl
theorem tb27 : tyBytes Tryz.prog 27 = some 8 := by kernel_rfl
theorem tg27 : tyAgg Tryz.prog 27 = some false := by kernel_rfl
theorem tz27 : tyZero Tryz.prog 27 = some (.lit (.pointer none)) := by kernel_rfl
theorem ta27 : tyArray Tryz.prog 27 = none := by kernel_rfl
theorem tl27 : tySlice Tryz.prog 27 = none := by kernel_rfl
theorem ti27 : tyInt Tryz.prog 27 = none := by kernel_rfl
theorem tt27 : tyString Tryz.prog 27 = false := by kernel_rfl
theorem tq27 : tyBool Tryz.prog 27 = false := by kernel_rfl
theorem tn27 : tyNil Tryz.prog 27 = some .ptr := by kernel_rfl
theorem tp27 : tyPlaces Tryz.prog 27 = none := by kernel_rfl
theorem tu27 : Tryz.prog.underlying 27 = some (.pointer 80) := by kernel_rfl
theorem ts30 : tySize Tryz.prog 30 = some 1 := by kernel_rfl
theorem tb30 : tyBytes Tryz.prog 30 = some 24 := by kernel_rfl
theorem tg30 : tyAgg Tryz.prog 30 = some false := by kernel_rfl
theorem tz30 : tyZero Tryz.prog 30 = some (.lit (.slice none 0 0)) := by kernel_rfl
theorem ta30 : tyArray Tryz.prog 30 = none := by kernel_rfl
theorem tl30 : tySlice Tryz.prog 30 = some 23 := by kernel_rfl
theorem ti30 : tyInt Tryz.prog 30 = none := by kernel_rfl
theorem tt30 : tyString Tryz.prog 30 = false := by kernel_rfl
theorem tq30 : tyBool Tryz.prog 30 = false := by kernel_rfl
theorem tn30 : tyNil Tryz.prog 30 = some .slice := by kernel_rfl
theorem tp30 : tyPlaces Tryz.prog 30 = none := by kernel_rfl
theorem tu30 : Tryz.prog.underlying 30 = some (.slice 23) := by kernel_rfl
theorem ts31 : tySize Tryz.prog 31 = some 1 := by kernel_rfl
theorem tb31 : tyBytes Tryz.prog 31 = some 4 := by kernel_rfl
theorem tg31 : tyAgg Tryz.prog 31 = some false := by kernel_rfl
theorem tz31 : tyZero Tryz.prog 31 = some (.lit (.int .u32 0)) := by kernel_rfl
theorem ta31 : tyArray Tryz.prog 31 = none := by kernel_rfl
theorem tl31 : tySlice Tryz.prog 31 = none := by kernel_rfl
theorem ti31 : tyInt Tryz.prog 31 = some .u32 := by kernel_rfl
theorem tt31 : tyString Tryz.prog 31 = false := by kernel_rfl
theorem tq31 : tyBool Tryz.prog 31 = false := by kernel_rfl
theorem tn31 : tyNil Tryz.prog 31 = none := by kernel_rfl
theorem tp31 : tyPlaces Tryz.prog 31 = none := by kernel_rfl
theorem tu31 : Tryz.prog.underlying 31 = some (.int .u32) := by kernel_rfl
theorem ts33 : tySize Tryz.prog 33 = some 4 := by kernel_rfl
theorem tb33 : tyBytes Tryz.prog 33 = some 40 := by kernel_rfl
theorem tg33 : tyAgg Tryz.prog 33 = some true := by kernel_rfl
theorem tz33 : tyZero Tryz.prog 33 = some (.agg [.lit (.string { data := #[] }), .lit (.int .i64 0), .lit (.int .i64 0), .lit (.int .u32 0)]) := by kernel_rfl
theorem ta33 : tyArray Tryz.prog 33 = none := by kernel_rfl
theorem tl33 : tySlice Tryz.prog 33 = none := by kernel_rfl
theorem ti33 : tyInt Tryz.prog 33 = none := by kernel_rfl
theorem tt33 : tyString Tryz.prog 33 = false := by kernel_rfl
theorem tq33 : tyBool Tryz.prog 33 = false := by kernel_rfl
theorem tn33 : tyNil Tryz.prog 33 = none := by kernel_rfl
theorem tf33_0 : tyField Tryz.prog 33 0 = some (0, 9) := by kernel_rfl
theorem tf33_1 : tyField Tryz.prog 33 1 = some (1, 3) := by kernel_rfl
theorem tf33_2 : tyField Tryz.prog 33 2 = some (2, 3) := by kernel_rfl
theorem tf33_3 : tyField Tryz.prog 33 3 = some (3, 31) := by kernel_rfl
theorem tp33 : tyPlaces Tryz.prog 33 = some [(0, 1), (1, 1), (2, 1), (3, 1)] := by kernel_rfl
theorem tv33 : leaves Tryz.prog 20 33 = some [.str, .int, .int, .int] := by kernel_rfl
theorem te33 : Tryz.prog.eqGuardType Tryz.prog.depth 33 = false := by kernel_rfl
theorem ts34 : tySize Tryz.prog 34 = some 1 := by kernel_rfl
theorem tb34 : tyBytes Tryz.prog 34 = some 8 := by kernel_rfl
theorem tg34 : tyAgg Tryz.prog 34 = some false := by kernel_rfl
theorem tz34 : tyZero Tryz.prog 34 = some (.lit (.int .i64 0)) := by kernel_rfl
theorem ta34 : tyArray Tryz.prog 34 = none := by kernel_rfl
theorem tl34 : tySlice Tryz.prog 34 = none := by kernel_rfl
theorem ti34 : tyInt Tryz.prog 34 = some .i64 := by kernel_rfl
theorem tt34 : tyString Tryz.prog 34 = false := by kernel_rfl
theorem tq34 : tyBool Tryz.prog 34 = false := by kernel_rfl
theorem tn34 : tyNil Tryz.prog 34 = none := by kernel_rfl
theorem tp34 : tyPlaces Tryz.prog 34 = none := by kernel_rfl
theorem tu34 : Tryz.prog.underlying 34 = some (.int .i64) := by kernel_rfl
theorem ts37 : tySize Tryz.prog 37 = some 1 := by kernel_rfl
theorem tb37 : tyBytes Tryz.prog 37 = some 8 := by kernel_rfl
theorem tg37 : tyAgg Tryz.prog 37 = some false := by kernel_rfl
theorem tz37 : tyZero Tryz.prog 37 = some (.lit (.pointer none)) := by kernel_rfl
theorem ta37 : tyArray Tryz.prog 37 = none := by kernel_rfl
theorem tl37 : tySlice Tryz.prog 37 = none := by kernel_rfl
theorem ti37 : tyInt Tryz.prog 37 = none := by kernel_rfl
theorem tt37 : tyString Tryz.prog 37 = false := by kernel_rfl
theorem tq37 : tyBool Tryz.prog 37 = false := by kernel_rfl
theorem tn37 : tyNil Tryz.prog 37 = some .ptr := by kernel_rfl
theorem tp37 : tyPlaces Tryz.prog 37 = none := by kernel_rfl
theorem tu37 : Tryz.prog.underlying 37 = some (.pointer 70) := by kernel_rfl
theorem ts52 : tySize Tryz.prog 52 = some 1 := by kernel_rfl
theorem tb52 : tyBytes Tryz.prog 52 = some 8 := by kernel_rfl
theorem tg52 : tyAgg Tryz.prog 52 = some false := by kernel_rfl
theorem tz52 : tyZero Tryz.prog 52 = some (.lit (.pointer none)) := by kernel_rfl
theorem ta52 : tyArray Tryz.prog 52 = none := by kernel_rfl
theorem tl52 : tySlice Tryz.prog 52 = none := by kernel_rfl
theorem ti52 : tyInt Tryz.prog 52 = none := by kernel_rfl
theorem tt52 : tyString Tryz.prog 52 = false := by kernel_rfl
theorem tq52 : tyBool Tryz.prog 52 = false := by kernel_rfl
theorem tn52 : tyNil Tryz.prog 52 = some .ptr := by kernel_rfl
theorem tp52 : tyPlaces Tryz.prog 52 = none := by kernel_rfl
theorem tu52 : Tryz.prog.underlying 52 = some (.pointer 87) := by kernel_rfl
theorem ts57 : tySize Tryz.prog 57 = some 1 := by kernel_rfl
theorem tb57 : tyBytes Tryz.prog 57 = some 8 := by kernel_rfl
theorem tg57 : tyAgg Tryz.prog 57 = some false := by kernel_rfl
theorem tz57 : tyZero Tryz.prog 57 = some (.lit (.pointer none)) := by kernel_rfl
theorem ta57 : tyArray Tryz.prog 57 = none := by kernel_rfl
theorem tl57 : tySlice Tryz.prog 57 = none := by kernel_rfl
theorem ti57 : tyInt Tryz.prog 57 = none := by kernel_rfl
theorem tt57 : tyString Tryz.prog 57 = false := by kernel_rfl
theorem tq57 : tyBool Tryz.prog 57 = false := by kernel_rfl
theorem tn57 : tyNil Tryz.prog 57 = some .ptr := by kernel_rfl
theorem tp57 : tyPlaces Tryz.prog 57 = none := by kernel_rfl
theorem tu57 : Tryz.prog.underlying 57 = some (.pointer 93) := by kernel_rfl
theorem ts60 : tySize Tryz.prog 60 = some 1 := by kernel_rfl
theorem tb60 : tyBytes Tryz.prog 60 = some 24 := by kernel_rfl
theorem tg60 : tyAgg Tryz.prog 60 = some false := by kernel_rfl
theorem tz60 : tyZero Tryz.prog 60 = some (.lit (.slice none 0 0)) := by kernel_rfl
theorem ta60 : tyArray Tryz.prog 60 = none := by kernel_rfl
theorem tl60 : tySlice Tryz.prog 60 = some 99 := by kernel_rfl
theorem ti60 : tyInt Tryz.prog 60 = none := by kernel_rfl
theorem tt60 : tyString Tryz.prog 60 = false := by kernel_rfl
theorem tq60 : tyBool Tryz.prog 60 = false := by kernel_rfl
theorem tn60 : tyNil Tryz.prog 60 = some .slice := by kernel_rfl
theorem tp60 : tyPlaces Tryz.prog 60 = none := by kernel_rfl
theorem tu60 : Tryz.prog.underlying 60 = some (.slice 99) := by kernel_rfl
theorem ts66 : tySize Tryz.prog 66 = some 2 := by kernel_rfl
theorem tb66 : tyBytes Tryz.prog 66 = some 16 := by kernel_rfl
theorem tg66 : tyAgg Tryz.prog 66 = some true := by kernel_rfl
theorem tz66 : tyZero Tryz.prog 66 = some (.agg [.lit (.int .i64 0), .lit (.int .u32 0)]) := by kernel_rfl
theorem ta66 : tyArray Tryz.prog 66 = none := by kernel_rfl
theorem tl66 : tySlice Tryz.prog 66 = none := by kernel_rfl
theorem ti66 : tyInt Tryz.prog 66 = none := by kernel_rfl
theorem tt66 : tyString Tryz.prog 66 = false := by kernel_rfl
theorem tq66 : tyBool Tryz.prog 66 = false := by kernel_rfl
theorem tn66 : tyNil Tryz.prog 66 = none := by kernel_rfl
theorem tf66_0 : tyField Tryz.prog 66 0 = some (0, 3) := by kernel_rfl
theorem tf66_1 : tyField Tryz.prog 66 1 = some (1, 31) := by kernel_rfl
theorem tp66 : tyPlaces Tryz.prog 66 = some [(0, 1), (1, 1)] := by kernel_rfl
theorem tv66 : leaves Tryz.prog 20 66 = some [.int, .int] := by kernel_rfl
theorem te66 : Tryz.prog.eqGuardType Tryz.prog.depth 66 = false := by kernel_rfl
theorem ts70 : tySize Tryz.prog 70 = some 4 := by kernel_rfl
theorem tb70 : tyBytes Tryz.prog 70 = some 32 := by kernel_rfl
theorem tg70 : tyAgg Tryz.prog 70 = some true := by kernel_rfl
theorem tz70 : tyZero Tryz.prog 70 = some (.agg [.lit (.bool false), .lit (.int .i64 0), .lit (.int .i64 0), .lit (.int .i64 0)]) := by kernel_rfl
theorem ta70 : tyArray Tryz.prog 70 = none := by kernel_rfl
theorem tl70 : tySlice Tryz.prog 70 = none := by kernel_rfl
theorem ti70 : tyInt Tryz.prog 70 = none := by kernel_rfl
theorem tt70 : tyString Tryz.prog 70 = false := by kernel_rfl
theorem tq70 : tyBool Tryz.prog 70 = false := by kernel_rfl
theorem tn70 : tyNil Tryz.prog 70 = none := by kernel_rfl
theorem tf70_0 : tyField Tryz.prog 70 0 = some (0, 4) := by kernel_rfl
theorem tf70_1 : tyField Tryz.prog 70 1 = some (1, 3) := by kernel_rfl
theorem tf70_2 : tyField Tryz.prog 70 2 = some (2, 3) := by kernel_rfl
theorem tf70_3 : tyField Tryz.prog 70 3 = some (3, 3) := by kernel_rfl
theorem tp70 : tyPlaces Tryz.prog 70 = some [(0, 1), (1, 1), (2, 1), (3, 1)] := by kernel_rfl
theorem tv70 : leaves Tryz.prog 20 70 = some [.bool, .int, .int, .int] := by kernel_rfl
theorem te70 : Tryz.prog.eqGuardType Tryz.prog.depth 70 = false := by kernel_rfl
theorem ts71 : tySize Tryz.prog 71 = some 1 := by kernel_rfl
theorem tb71 : tyBytes Tryz.prog 71 = some 8 := by kernel_rfl
theorem tg71 : tyAgg Tryz.prog 71 = some false := by kernel_rfl
theorem tz71 : tyZero Tryz.prog 71 = some (.lit (.nilFunc)) := by kernel_rfl
theorem ta71 : tyArray Tryz.prog 71 = none := by kernel_rfl
theorem tl71 : tySlice Tryz.prog 71 = none := by kernel_rfl
theorem ti71 : tyInt Tryz.prog 71 = none := by kernel_rfl
theorem tt71 : tyString Tryz.prog 71 = false := by kernel_rfl
theorem tq71 : tyBool Tryz.prog 71 = false := by kernel_rfl
theorem tn71 : tyNil Tryz.prog 71 = some .func := by kernel_rfl
theorem tp71 : tyPlaces Tryz.prog 71 = none := by kernel_rfl
theorem ts78 : tySize Tryz.prog 78 = some 1 := by kernel_rfl
theorem tb78 : tyBytes Tryz.prog 78 = some 8 := by kernel_rfl
theorem tg78 : tyAgg Tryz.prog 78 = some false := by kernel_rfl
theorem tz78 : tyZero Tryz.prog 78 = some (.lit (.map none)) := by kernel_rfl
theorem ta78 : tyArray Tryz.prog 78 = none := by kernel_rfl
theorem tl78 : tySlice Tryz.prog 78 = none := by kernel_rfl
theorem ti78 : tyInt Tryz.prog 78 = none := by kernel_rfl
theorem tt78 : tyString Tryz.prog 78 = false := by kernel_rfl
theorem tq78 : tyBool Tryz.prog 78 = false := by kernel_rfl
theorem tn78 : tyNil Tryz.prog 78 = some .map := by kernel_rfl
theorem tp78 : tyPlaces Tryz.prog 78 = none := by kernel_rfl
theorem ts80 : tySize Tryz.prog 80 = some 7 := by kernel_rfl
theorem tb80 : tyBytes Tryz.prog 80 = some 56 := by kernel_rfl
theorem tg80 : tyAgg Tryz.prog 80 = some true := by kernel_rfl
theorem tz80 : tyZero Tryz.prog 80 = some (.agg [.lit (.bool false), .lit (.int .i64 0), .lit (.int .i64 0), .lit (.map none), .lit (.int .i64 0), .lit (.bool false), .lit (.int .i64 0)]) := by kernel_rfl
theorem ta80 : tyArray Tryz.prog 80 = none := by kernel_rfl
theorem tl80 : tySlice Tryz.prog 80 = none := by kernel_rfl
theorem ti80 : tyInt Tryz.prog 80 = none := by kernel_rfl
theorem tt80 : tyString Tryz.prog 80 = false := by kernel_rfl
theorem tq80 : tyBool Tryz.prog 80 = false := by kernel_rfl
theorem tn80 : tyNil Tryz.prog 80 = none := by kernel_rfl
theorem tf80_0 : tyField Tryz.prog 80 0 = some (0, 4) := by kernel_rfl
theorem tf80_1 : tyField Tryz.prog 80 1 = some (1, 3) := by kernel_rfl
theorem tf80_2 : tyField Tryz.prog 80 2 = some (2, 3) := by kernel_rfl
theorem tf80_3 : tyField Tryz.prog 80 3 = some (3, 78) := by kernel_rfl
theorem tf80_4 : tyField Tryz.prog 80 4 = some (4, 3) := by kernel_rfl
theorem tf80_5 : tyField Tryz.prog 80 5 = some (5, 4) := by kernel_rfl
theorem tf80_6 : tyField Tryz.prog 80 6 = some (6, 3) := by kernel_rfl
theorem tp80 : tyPlaces Tryz.prog 80 = some [(0, 1), (1, 1), (2, 1), (3, 1), (4, 1), (5, 1), (6, 1)] := by kernel_rfl
theorem ts82 : tySize Tryz.prog 82 = some 2 := by kernel_rfl
theorem tb82 : tyBytes Tryz.prog 82 = some 24 := by kernel_rfl
theorem tg82 : tyAgg Tryz.prog 82 = some true := by kernel_rfl
theorem tz82 : tyZero Tryz.prog 82 = some (.agg [.lit (.string { data := #[] }), .lit (.int .i64 0)]) := by kernel_rfl
theorem ta82 : tyArray Tryz.prog 82 = none := by kernel_rfl
theorem tl82 : tySlice Tryz.prog 82 = none := by kernel_rfl
theorem ti82 : tyInt Tryz.prog 82 = none := by kernel_rfl
theorem tt82 : tyString Tryz.prog 82 = false := by kernel_rfl
theorem tq82 : tyBool Tryz.prog 82 = false := by kernel_rfl
theorem tn82 : tyNil Tryz.prog 82 = none := by kernel_rfl
theorem tf82_0 : tyField Tryz.prog 82 0 = some (0, 9) := by kernel_rfl
theorem tf82_1 : tyField Tryz.prog 82 1 = some (1, 3) := by kernel_rfl
theorem tp82 : tyPlaces Tryz.prog 82 = some [(0, 1), (1, 1)] := by kernel_rfl
theorem tv82 : leaves Tryz.prog 20 82 = some [.str, .int] := by kernel_rfl
theorem te82 : Tryz.prog.eqGuardType Tryz.prog.depth 82 = false := by kernel_rfl
theorem ts85 : tySize Tryz.prog 85 = some 1 := by kernel_rfl
theorem tb85 : tyBytes Tryz.prog 85 = some 24 := by kernel_rfl
theorem tg85 : tyAgg Tryz.prog 85 = some false := by kernel_rfl
theorem tz85 : tyZero Tryz.prog 85 = some (.lit (.slice none 0 0)) := by kernel_rfl
theorem ta85 : tyArray Tryz.prog 85 = none := by kernel_rfl
theorem tl85 : tySlice Tryz.prog 85 = some 122 := by kernel_rfl
theorem ti85 : tyInt Tryz.prog 85 = none := by kernel_rfl
theorem tt85 : tyString Tryz.prog 85 = false := by kernel_rfl
theorem tq85 : tyBool Tryz.prog 85 = false := by kernel_rfl
theorem tn85 : tyNil Tryz.prog 85 = some .slice := by kernel_rfl
theorem tp85 : tyPlaces Tryz.prog 85 = none := by kernel_rfl
theorem tu85 : Tryz.prog.underlying 85 = some (.slice 122) := by kernel_rfl
theorem ts87 : tySize Tryz.prog 87 = some 8 := by kernel_rfl
theorem tb87 : tyBytes Tryz.prog 87 = some 88 := by kernel_rfl
theorem tg87 : tyAgg Tryz.prog 87 = some true := by kernel_rfl
theorem tz87 : tyZero Tryz.prog 87 = some (.agg [.lit (.pointer none), .lit (.pointer none), .lit (.string { data := #[] }), .lit (.int .i64 0), .lit (.int .i64 0), .lit (.int .i64 0), .lit (.slice none 0 0), .lit (.bool false)]) := by kernel_rfl
theorem ta87 : tyArray Tryz.prog 87 = none := by kernel_rfl
theorem tl87 : tySlice Tryz.prog 87 = none := by kernel_rfl
theorem ti87 : tyInt Tryz.prog 87 = none := by kernel_rfl
theorem tt87 : tyString Tryz.prog 87 = false := by kernel_rfl
theorem tq87 : tyBool Tryz.prog 87 = false := by kernel_rfl
theorem tn87 : tyNil Tryz.prog 87 = none := by kernel_rfl
theorem tf87_0 : tyField Tryz.prog 87 0 = some (0, 27) := by kernel_rfl
theorem tf87_1 : tyField Tryz.prog 87 1 = some (1, 37) := by kernel_rfl
theorem tf87_2 : tyField Tryz.prog 87 2 = some (2, 9) := by kernel_rfl
theorem tf87_3 : tyField Tryz.prog 87 3 = some (3, 3) := by kernel_rfl
theorem tf87_4 : tyField Tryz.prog 87 4 = some (4, 3) := by kernel_rfl
theorem tf87_5 : tyField Tryz.prog 87 5 = some (5, 3) := by kernel_rfl
theorem tf87_6 : tyField Tryz.prog 87 6 = some (6, 85) := by kernel_rfl
theorem tf87_7 : tyField Tryz.prog 87 7 = some (7, 4) := by kernel_rfl
theorem tp87 : tyPlaces Tryz.prog 87 = some [(0, 1), (1, 1), (2, 1), (3, 1), (4, 1), (5, 1), (6, 1), (7, 1)] := by kernel_rfl
theorem ts88 : tySize Tryz.prog 88 = some 1 := by kernel_rfl
theorem tb88 : tyBytes Tryz.prog 88 = some 8 := by kernel_rfl
theorem tg88 : tyAgg Tryz.prog 88 = some false := by kernel_rfl
theorem tz88 : tyZero Tryz.prog 88 = some (.lit (.nilFunc)) := by kernel_rfl
theorem ta88 : tyArray Tryz.prog 88 = none := by kernel_rfl
theorem tl88 : tySlice Tryz.prog 88 = none := by kernel_rfl
theorem ti88 : tyInt Tryz.prog 88 = none := by kernel_rfl
theorem tt88 : tyString Tryz.prog 88 = false := by kernel_rfl
theorem tq88 : tyBool Tryz.prog 88 = false := by kernel_rfl
theorem tn88 : tyNil Tryz.prog 88 = some .func := by kernel_rfl
theorem tp88 : tyPlaces Tryz.prog 88 = none := by kernel_rfl
theorem ts90 : tySize Tryz.prog 90 = some 2 := by kernel_rfl
theorem tb90 : tyBytes Tryz.prog 90 = some 24 := by kernel_rfl
theorem tg90 : tyAgg Tryz.prog 90 = some true := by kernel_rfl
theorem tz90 : tyZero Tryz.prog 90 = some (.agg [.lit (.pointer none), .lit (.string { data := #[] })]) := by kernel_rfl
theorem ta90 : tyArray Tryz.prog 90 = none := by kernel_rfl
theorem tl90 : tySlice Tryz.prog 90 = none := by kernel_rfl
theorem ti90 : tyInt Tryz.prog 90 = none := by kernel_rfl
theorem tt90 : tyString Tryz.prog 90 = false := by kernel_rfl
theorem tq90 : tyBool Tryz.prog 90 = false := by kernel_rfl
theorem tn90 : tyNil Tryz.prog 90 = none := by kernel_rfl
theorem tf90_0 : tyField Tryz.prog 90 0 = some (0, 27) := by kernel_rfl
theorem tf90_1 : tyField Tryz.prog 90 1 = some (1, 9) := by kernel_rfl
theorem tp90 : tyPlaces Tryz.prog 90 = some [(0, 1), (1, 1)] := by kernel_rfl
theorem ts91 : tySize Tryz.prog 91 = some 1 := by kernel_rfl
theorem tb91 : tyBytes Tryz.prog 91 = some 24 := by kernel_rfl
theorem tg91 : tyAgg Tryz.prog 91 = some false := by kernel_rfl
theorem tz91 : tyZero Tryz.prog 91 = some (.lit (.slice none 0 0)) := by kernel_rfl
theorem ta91 : tyArray Tryz.prog 91 = none := by kernel_rfl
theorem tl91 : tySlice Tryz.prog 91 = some 9 := by kernel_rfl
theorem ti91 : tyInt Tryz.prog 91 = none := by kernel_rfl
theorem tt91 : tyString Tryz.prog 91 = false := by kernel_rfl
theorem tq91 : tyBool Tryz.prog 91 = false := by kernel_rfl
theorem tn91 : tyNil Tryz.prog 91 = some .slice := by kernel_rfl
theorem tp91 : tyPlaces Tryz.prog 91 = none := by kernel_rfl
theorem tu91 : Tryz.prog.underlying 91 = some (.slice 9) := by kernel_rfl
theorem ts93 : tySize Tryz.prog 93 = some 8 := by kernel_rfl
theorem tb93 : tyBytes Tryz.prog 93 = some 88 := by kernel_rfl
theorem tg93 : tyAgg Tryz.prog 93 = some true := by kernel_rfl
theorem tz93 : tyZero Tryz.prog 93 = some (.agg [.lit (.pointer none), .lit (.string { data := #[] }), .lit (.pointer none), .lit (.int .i64 0), .lit (.slice none 0 0), .lit (.int .i64 0), .lit (.int .u32 0), .lit (.bool false)]) := by kernel_rfl
theorem ta93 : tyArray Tryz.prog 93 = none := by kernel_rfl
theorem tl93 : tySlice Tryz.prog 93 = none := by kernel_rfl
theorem ti93 : tyInt Tryz.prog 93 = none := by kernel_rfl
theorem tt93 : tyString Tryz.prog 93 = false := by kernel_rfl
theorem tq93 : tyBool Tryz.prog 93 = false := by kernel_rfl
theorem tn93 : tyNil Tryz.prog 93 = none := by kernel_rfl
theorem tf93_0 : tyField Tryz.prog 93 0 = some (0, 90) := by kernel_rfl
theorem tf93_1 : tyField Tryz.prog 93 1 = some (2, 37) := by kernel_rfl
theorem tf93_2 : tyField Tryz.prog 93 2 = some (3, 3) := by kernel_rfl
theorem tf93_3 : tyField Tryz.prog 93 3 = some (4, 91) := by kernel_rfl
theorem tf93_4 : tyField Tryz.prog 93 4 = some (5, 66) := by kernel_rfl
theorem tf93_5 : tyField Tryz.prog 93 5 = some (7, 4) := by kernel_rfl
theorem tp93 : tyPlaces Tryz.prog 93 = some [(0, 2), (2, 1), (3, 1), (4, 1), (5, 2), (7, 1)] := by kernel_rfl
theorem ts99 : tySize Tryz.prog 99 = some 3 := by kernel_rfl
theorem tb99 : tyBytes Tryz.prog 99 = some 24 := by kernel_rfl
theorem tg99 : tyAgg Tryz.prog 99 = some true := by kernel_rfl
theorem tz99 : tyZero Tryz.prog 99 = some (.agg [.lit (.int .i64 0), .lit (.int .i64 0), .lit (.bool false)]) := by kernel_rfl
theorem ta99 : tyArray Tryz.prog 99 = none := by kernel_rfl
theorem tl99 : tySlice Tryz.prog 99 = none := by kernel_rfl
theorem ti99 : tyInt Tryz.prog 99 = none := by kernel_rfl
theorem tt99 : tyString Tryz.prog 99 = false := by kernel_rfl
theorem tq99 : tyBool Tryz.prog 99 = false := by kernel_rfl
theorem tn99 : tyNil Tryz.prog 99 = none := by kernel_rfl
theorem tf99_0 : tyField Tryz.prog 99 0 = some (0, 3) := by kernel_rfl
theorem tf99_1 : tyField Tryz.prog 99 1 = some (1, 3) := by kernel_rfl
theorem tf99_2 : tyField Tryz.prog 99 2 = some (2, 4) := by kernel_rfl
theorem tp99 : tyPlaces Tryz.prog 99 = some [(0, 1), (1, 1), (2, 1)] := by kernel_rfl
theorem tv99 : leaves Tryz.prog 20 99 = some [.int, .int, .bool] := by kernel_rfl
theorem te99 : Tryz.prog.eqGuardType Tryz.prog.depth 99 = false := by kernel_rfl
theorem ts102 : tySize Tryz.prog 102 = some 4 := by kernel_rfl
theorem tb102 : tyBytes Tryz.prog 102 = some 32 := by kernel_rfl
theorem tg102 : tyAgg Tryz.prog 102 = some true := by kernel_rfl
theorem tz102 : tyZero Tryz.prog 102 = some (.agg [.lit (.int .i64 0), .lit (.int .i64 0), .lit (.int .i64 0), .lit (.bool false)]) := by kernel_rfl
theorem ta102 : tyArray Tryz.prog 102 = none := by kernel_rfl
theorem tl102 : tySlice Tryz.prog 102 = none := by kernel_rfl
theorem ti102 : tyInt Tryz.prog 102 = none := by kernel_rfl
theorem tt102 : tyString Tryz.prog 102 = false := by kernel_rfl
theorem tq102 : tyBool Tryz.prog 102 = false := by kernel_rfl
theorem tn102 : tyNil Tryz.prog 102 = none := by kernel_rfl
theorem tf102_0 : tyField Tryz.prog 102 0 = some (0, 3) := by kernel_rfl
theorem tf102_1 : tyField Tryz.prog 102 1 = some (1, 99) := by kernel_rfl
theorem tp102 : tyPlaces Tryz.prog 102 = some [(0, 1), (1, 3)] := by kernel_rfl
theorem tv102 : leaves Tryz.prog 20 102 = some [.int, .int, .int, .bool] := by kernel_rfl
theorem te102 : Tryz.prog.eqGuardType Tryz.prog.depth 102 = false := by kernel_rfl
theorem ts107 : tySize Tryz.prog 107 = some 1 := by kernel_rfl
theorem tb107 : tyBytes Tryz.prog 107 = some 24 := by kernel_rfl
theorem tg107 : tyAgg Tryz.prog 107 = some false := by kernel_rfl
theorem tz107 : tyZero Tryz.prog 107 = some (.lit (.slice none 0 0)) := by kernel_rfl
theorem ta107 : tyArray Tryz.prog 107 = none := by kernel_rfl
theorem tl107 : tySlice Tryz.prog 107 = some 88 := by kernel_rfl
theorem ti107 : tyInt Tryz.prog 107 = none := by kernel_rfl
theorem tt107 : tyString Tryz.prog 107 = false := by kernel_rfl
theorem tq107 : tyBool Tryz.prog 107 = false := by kernel_rfl
theorem tn107 : tyNil Tryz.prog 107 = some .slice := by kernel_rfl
theorem tp107 : tyPlaces Tryz.prog 107 = none := by kernel_rfl
theorem tu107 : Tryz.prog.underlying 107 = some (.slice 88) := by kernel_rfl
theorem ts109 : tySize Tryz.prog 109 = some 1 := by kernel_rfl
theorem tb109 : tyBytes Tryz.prog 109 = some 8 := by kernel_rfl
theorem tg109 : tyAgg Tryz.prog 109 = some false := by kernel_rfl
theorem tz109 : tyZero Tryz.prog 109 = some (.lit (.int .u64 0)) := by kernel_rfl
theorem ta109 : tyArray Tryz.prog 109 = none := by kernel_rfl
theorem tl109 : tySlice Tryz.prog 109 = none := by kernel_rfl
theorem ti109 : tyInt Tryz.prog 109 = some .u64 := by kernel_rfl
theorem tt109 : tyString Tryz.prog 109 = false := by kernel_rfl
theorem tq109 : tyBool Tryz.prog 109 = false := by kernel_rfl
theorem tn109 : tyNil Tryz.prog 109 = none := by kernel_rfl
theorem tp109 : tyPlaces Tryz.prog 109 = none := by kernel_rfl
theorem tu109 : Tryz.prog.underlying 109 = some (.int .u64) := by kernel_rfl
theorem ts113 : tySize Tryz.prog 113 = some 1 := by kernel_rfl
theorem tb113 : tyBytes Tryz.prog 113 = some 8 := by kernel_rfl
theorem tg113 : tyAgg Tryz.prog 113 = some false := by kernel_rfl
theorem tz113 : tyZero Tryz.prog 113 = some (.lit (.nilFunc)) := by kernel_rfl
theorem ta113 : tyArray Tryz.prog 113 = none := by kernel_rfl
theorem tl113 : tySlice Tryz.prog 113 = none := by kernel_rfl
theorem ti113 : tyInt Tryz.prog 113 = none := by kernel_rfl
theorem tt113 : tyString Tryz.prog 113 = false := by kernel_rfl
theorem tq113 : tyBool Tryz.prog 113 = false := by kernel_rfl
theorem tn113 : tyNil Tryz.prog 113 = some .func := by kernel_rfl
theorem tp113 : tyPlaces Tryz.prog 113 = none := by kernel_rfl
theorem ts122 : tySize Tryz.prog 122 = some 2 := by kernel_rfl
theorem tb122 : tyBytes Tryz.prog 122 = some 32 := by kernel_rfl
theorem tg122 : tyAgg Tryz.prog 122 = some true := by kernel_rfl
theorem tz122 : tyZero Tryz.prog 122 = some (.agg [.lit (.int .i64 0), .lit (.slice none 0 0)]) := by kernel_rfl
theorem ta122 : tyArray Tryz.prog 122 = none := by kernel_rfl
theorem tl122 : tySlice Tryz.prog 122 = none := by kernel_rfl
theorem ti122 : tyInt Tryz.prog 122 = none := by kernel_rfl
theorem tt122 : tyString Tryz.prog 122 = false := by kernel_rfl
theorem tq122 : tyBool Tryz.prog 122 = false := by kernel_rfl
theorem tn122 : tyNil Tryz.prog 122 = none := by kernel_rfl
theorem tf122_0 : tyField Tryz.prog 122 0 = some (0, 3) := by kernel_rfl
theorem tf122_1 : tyField Tryz.prog 122 1 = some (1, 23) := by kernel_rfl
theorem tp122 : tyPlaces Tryz.prog 122 = some [(0, 1), (1, 1)] := by kernel_rfl
theorem ts124 : tySize Tryz.prog 124 = some 1 := by kernel_rfl
theorem tb124 : tyBytes Tryz.prog 124 = some 8 := by kernel_rfl
theorem tg124 : tyAgg Tryz.prog 124 = some false := by kernel_rfl
theorem tz124 : tyZero Tryz.prog 124 = some (.lit (.nilFunc)) := by kernel_rfl
theorem ta124 : tyArray Tryz.prog 124 = none := by kernel_rfl
theorem tl124 : tySlice Tryz.prog 124 = none := by kernel_rfl
theorem ti124 : tyInt Tryz.prog 124 = none := by kernel_rfl
theorem tt124 : tyString Tryz.prog 124 = false := by kernel_rfl
theorem tq124 : tyBool Tryz.prog 124 = false := by kernel_rfl
theorem tn124 : tyNil Tryz.prog 124 = some .func := by kernel_rfl
theorem tp124 : tyPlaces Tryz.prog 124 = none := by kernel_rfl
theorem ts137 : tySize Tryz.prog 137 = some 1 := by kernel_rfl
theorem tb137 : tyBytes Tryz.prog 137 = some 8 := by kernel_rfl
theorem tg137 : tyAgg Tryz.prog 137 = some false := by kernel_rfl
theorem tz137 : tyZero Tryz.prog 137 = some (.lit (.int .u64 0)) := by kernel_rfl
theorem ta137 : tyArray Tryz.prog 137 = none := by kernel_rfl
theorem tl137 : tySlice Tryz.prog 137 = none := by kernel_rfl
theorem ti137 : tyInt Tryz.prog 137 = some .u64 := by kernel_rfl
theorem tt137 : tyString Tryz.prog 137 = false := by kernel_rfl
theorem tq137 : tyBool Tryz.prog 137 = false := by kernel_rfl
theorem tn137 : tyNil Tryz.prog 137 = none := by kernel_rfl
theorem tp137 : tyPlaces Tryz.prog 137 = none := by kernel_rfl
theorem tu137 : Tryz.prog.underlying 137 = some (.int .u64) := by kernel_rfl
theorem ts138 : tySize Tryz.prog 138 = some 1 := by kernel_rfl
theorem tb138 : tyBytes Tryz.prog 138 = some 24 := by kernel_rfl
theorem tg138 : tyAgg Tryz.prog 138 = some false := by kernel_rfl
theorem tz138 : tyZero Tryz.prog 138 = some (.lit (.slice none 0 0)) := by kernel_rfl
theorem ta138 : tyArray Tryz.prog 138 = none := by kernel_rfl
theorem tl138 : tySlice Tryz.prog 138 = some 5 := by kernel_rfl
theorem ti138 : tyInt Tryz.prog 138 = none := by kernel_rfl
theorem tt138 : tyString Tryz.prog 138 = false := by kernel_rfl
theorem tq138 : tyBool Tryz.prog 138 = false := by kernel_rfl
theorem tn138 : tyNil Tryz.prog 138 = some .slice := by kernel_rfl
theorem tp138 : tyPlaces Tryz.prog 138 = none := by kernel_rfl
theorem tu138 : Tryz.prog.underlying 138 = some (.slice 5) := by kernel_rfl
theorem ts144 : tySize Tryz.prog 144 = some 4 := by kernel_rfl
theorem tb144 : tyBytes Tryz.prog 144 = some 4 := by kernel_rfl
theorem tg144 : tyAgg Tryz.prog 144 = some true := by kernel_rfl
theorem tz144 : tyZero Tryz.prog 144 = some (.agg [.lit (.int .u8 0), .lit (.int .u8 0), .lit (.int .u8 0), .lit (.int .u8 0)]) := by kernel_rfl
theorem ta144 : tyArray Tryz.prog 144 = some (4, 5) := by kernel_rfl
theorem tl144 : tySlice Tryz.prog 144 = none := by kernel_rfl
theorem ti144 : tyInt Tryz.prog 144 = none := by kernel_rfl
theorem tt144 : tyString Tryz.prog 144 = false := by kernel_rfl
theorem tq144 : tyBool Tryz.prog 144 = false := by kernel_rfl
theorem tn144 : tyNil Tryz.prog 144 = none := by kernel_rfl
theorem tp144 : tyPlaces Tryz.prog 144 = none := by kernel_rfl
theorem tu144 : Tryz.prog.underlying 144 = some (.array 4 5) := by kernel_rfl
theorem ts153 : tySize Tryz.prog 153 = some 1 := by kernel_rfl
theorem tb153 : tyBytes Tryz.prog 153 = some 8 := by kernel_rfl
theorem tg153 : tyAgg Tryz.prog 153 = some false := by kernel_rfl
theorem tz153 : tyZero Tryz.prog 153 = some (.lit (.map none)) := by kernel_rfl
theorem ta153 : tyArray Tryz.prog 153 = none := by kernel_rfl
theorem tl153 : tySlice Tryz.prog 153 = none := by kernel_rfl
theorem ti153 : tyInt Tryz.prog 153 = none := by kernel_rfl
theorem tt153 : tyString Tryz.prog 153 = false := by kernel_rfl
theorem tq153 : tyBool Tryz.prog 153 = false := by kernel_rfl
theorem tn153 : tyNil Tryz.prog 153 = some .map := by kernel_rfl
theorem tp153 : tyPlaces Tryz.prog 153 = none := by kernel_rfl
theorem ts154 : tySize Tryz.prog 154 = some 1 := by kernel_rfl
theorem tb154 : tyBytes Tryz.prog 154 = some 8 := by kernel_rfl
theorem tg154 : tyAgg Tryz.prog 154 = some false := by kernel_rfl
theorem tz154 : tyZero Tryz.prog 154 = some (.lit (.nilFunc)) := by kernel_rfl
theorem ta154 : tyArray Tryz.prog 154 = none := by kernel_rfl
theorem tl154 : tySlice Tryz.prog 154 = none := by kernel_rfl
theorem ti154 : tyInt Tryz.prog 154 = none := by kernel_rfl
theorem tt154 : tyString Tryz.prog 154 = false := by kernel_rfl
theorem tq154 : tyBool Tryz.prog 154 = false := by kernel_rfl
theorem tn154 : tyNil Tryz.prog 154 = some .func := by kernel_rfl
theorem tp154 : tyPlaces Tryz.prog 154 = none := by kernel_rfl
theorem ts155 : tySize Tryz.prog 155 = some 1 := by kernel_rfl
theorem tb155 : tyBytes Tryz.prog 155 = some 8 := by kernel_rfl
theorem tg155 : tyAgg Tryz.prog 155 = some false := by kernel_rfl
theorem tz155 : tyZero Tryz.prog 155 = some (.lit (.nilFunc)) := by kernel_rfl
theorem ta155 : tyArray Tryz.prog 155 = none := by kernel_rfl
theorem tl155 : tySlice Tryz.prog 155 = none := by kernel_rfl
theorem ti155 : tyInt Tryz.prog 155 = none := by kernel_rfl
theorem tt155 : tyString Tryz.prog 155 = false := by kernel_rfl
theorem tq155 : tyBool Tryz.prog 155 = false := by kernel_rfl
theorem tn155 : tyNil Tryz.prog 155 = some .func := by kernel_rfl
theorem tp155 : tyPlaces Tryz.prog 155 = none := by kernel_rfl
theorem ts161 : tySize Tryz.prog 161 = some 8 := by kernel_rfl
theorem tb161 : tyBytes Tryz.prog 161 = some 8 := by kernel_rfl
theorem tg161 : tyAgg Tryz.prog 161 = some true := by kernel_rfl
theorem tz161 : tyZero Tryz.prog 161 = some (.agg [.lit (.int .u8 0), .lit (.int .u8 0), .lit (.int .u8 0), .lit (.int .u8 0), .lit (.int .u8 0), .lit (.int .u8 0), .lit (.int .u8 0), .lit (.int .u8 0)]) := by kernel_rfl
theorem ta161 : tyArray Tryz.prog 161 = some (8, 5) := by kernel_rfl
theorem tl161 : tySlice Tryz.prog 161 = none := by kernel_rfl
theorem ti161 : tyInt Tryz.prog 161 = none := by kernel_rfl
theorem tt161 : tyString Tryz.prog 161 = false := by kernel_rfl
theorem tq161 : tyBool Tryz.prog 161 = false := by kernel_rfl
theorem tn161 : tyNil Tryz.prog 161 = none := by kernel_rfl
theorem tp161 : tyPlaces Tryz.prog 161 = none := by kernel_rfl
theorem tu161 : Tryz.prog.underlying 161 = some (.array 8 5) := by kernel_rfl
theorem ts167 : tySize Tryz.prog 167 = some 1 := by kernel_rfl
theorem tb167 : tyBytes Tryz.prog 167 = some 8 := by kernel_rfl
theorem tg167 : tyAgg Tryz.prog 167 = some false := by kernel_rfl
theorem tz167 : tyZero Tryz.prog 167 = some (.lit (.nilFunc)) := by kernel_rfl
theorem ta167 : tyArray Tryz.prog 167 = none := by kernel_rfl
theorem tl167 : tySlice Tryz.prog 167 = none := by kernel_rfl
theorem ti167 : tyInt Tryz.prog 167 = none := by kernel_rfl
theorem tt167 : tyString Tryz.prog 167 = false := by kernel_rfl
theorem tq167 : tyBool Tryz.prog 167 = false := by kernel_rfl
theorem tn167 : tyNil Tryz.prog 167 = some .func := by kernel_rfl
theorem tp167 : tyPlaces Tryz.prog 167 = none := by kernel_rfl
theorem ts169 : tySize Tryz.prog 169 = some 1 := by kernel_rfl
theorem tb169 : tyBytes Tryz.prog 169 = some 8 := by kernel_rfl
theorem tg169 : tyAgg Tryz.prog 169 = some false := by kernel_rfl
theorem tz169 : tyZero Tryz.prog 169 = some (.lit (.pointer none)) := by kernel_rfl
theorem ta169 : tyArray Tryz.prog 169 = none := by kernel_rfl
theorem tl169 : tySlice Tryz.prog 169 = none := by kernel_rfl
theorem ti169 : tyInt Tryz.prog 169 = none := by kernel_rfl
theorem tt169 : tyString Tryz.prog 169 = false := by kernel_rfl
theorem tq169 : tyBool Tryz.prog 169 = false := by kernel_rfl
theorem tn169 : tyNil Tryz.prog 169 = some .ptr := by kernel_rfl
theorem tp169 : tyPlaces Tryz.prog 169 = none := by kernel_rfl
theorem tu169 : Tryz.prog.underlying 169 = some (.pointer 5) := by kernel_rfl
theorem ts170 : tySize Tryz.prog 170 = some 16 := by kernel_rfl
theorem tb170 : tyBytes Tryz.prog 170 = some 64 := by kernel_rfl
theorem tg170 : tyAgg Tryz.prog 170 = some true := by kernel_rfl
theorem tz170 : tyZero Tryz.prog 170 = some (.agg [.lit (.int .u32 0), .lit (.int .u32 0), .lit (.int .u32 0), .lit (.int .u32 0), .lit (.int .u32 0), .lit (.int .u32 0), .lit (.int .u32 0), .lit (.int .u32 0), .lit (.int .u32 0), .lit (.int .u32 0), .lit (.int .u32 0), .lit (.int .u32 0), .lit (.int .u32 0), .lit (.int .u32 0), .lit (.int .u32 0), .lit (.int .u32 0)]) := by kernel_rfl
theorem ta170 : tyArray Tryz.prog 170 = some (16, 31) := by kernel_rfl
theorem tl170 : tySlice Tryz.prog 170 = none := by kernel_rfl
theorem ti170 : tyInt Tryz.prog 170 = none := by kernel_rfl
theorem tt170 : tyString Tryz.prog 170 = false := by kernel_rfl
theorem tq170 : tyBool Tryz.prog 170 = false := by kernel_rfl
theorem tn170 : tyNil Tryz.prog 170 = none := by kernel_rfl
theorem tp170 : tyPlaces Tryz.prog 170 = none := by kernel_rfl
theorem tu170 : Tryz.prog.underlying 170 = some (.array 16 31) := by kernel_rfl
theorem ts171 : tySize Tryz.prog 171 = some 1 := by kernel_rfl
theorem tb171 : tyBytes Tryz.prog 171 = some 24 := by kernel_rfl
theorem tg171 : tyAgg Tryz.prog 171 = some false := by kernel_rfl
theorem tz171 : tyZero Tryz.prog 171 = some (.lit (.slice none 0 0)) := by kernel_rfl
theorem ta171 : tyArray Tryz.prog 171 = none := by kernel_rfl
theorem tl171 : tySlice Tryz.prog 171 = some 60 := by kernel_rfl
theorem ti171 : tyInt Tryz.prog 171 = none := by kernel_rfl
theorem tt171 : tyString Tryz.prog 171 = false := by kernel_rfl
theorem tq171 : tyBool Tryz.prog 171 = false := by kernel_rfl
theorem tn171 : tyNil Tryz.prog 171 = some .slice := by kernel_rfl
theorem tp171 : tyPlaces Tryz.prog 171 = none := by kernel_rfl
theorem tu171 : Tryz.prog.underlying 171 = some (.slice 60) := by kernel_rfl
theorem ts174 : tySize Tryz.prog 174 = some 1 := by kernel_rfl
theorem tb174 : tyBytes Tryz.prog 174 = some 8 := by kernel_rfl
theorem tg174 : tyAgg Tryz.prog 174 = some false := by kernel_rfl
theorem tz174 : tyZero Tryz.prog 174 = some (.lit (.pointer none)) := by kernel_rfl
theorem ta174 : tyArray Tryz.prog 174 = none := by kernel_rfl
theorem tl174 : tySlice Tryz.prog 174 = none := by kernel_rfl
theorem ti174 : tyInt Tryz.prog 174 = none := by kernel_rfl
theorem tt174 : tyString Tryz.prog 174 = false := by kernel_rfl
theorem tq174 : tyBool Tryz.prog 174 = false := by kernel_rfl
theorem tn174 : tyNil Tryz.prog 174 = some .ptr := by kernel_rfl
theorem tp174 : tyPlaces Tryz.prog 174 = none := by kernel_rfl
theorem tu174 : Tryz.prog.underlying 174 = some (.pointer 176) := by kernel_rfl
theorem ts176 : tySize Tryz.prog 176 = some 2 := by kernel_rfl
theorem tb176 : tyBytes Tryz.prog 176 = some 32 := by kernel_rfl
theorem tg176 : tyAgg Tryz.prog 176 = some true := by kernel_rfl
theorem tz176 : tyZero Tryz.prog 176 = some (.agg [.lit (.pointer none), .lit (.slice none 0 0)]) := by kernel_rfl
theorem ta176 : tyArray Tryz.prog 176 = none := by kernel_rfl
theorem tl176 : tySlice Tryz.prog 176 = none := by kernel_rfl
theorem ti176 : tyInt Tryz.prog 176 = none := by kernel_rfl
theorem tt176 : tyString Tryz.prog 176 = false := by kernel_rfl
theorem tq176 : tyBool Tryz.prog 176 = false := by kernel_rfl
theorem tn176 : tyNil Tryz.prog 176 = none := by kernel_rfl
theorem tf176_0 : tyField Tryz.prog 176 0 = some (0, 174) := by kernel_rfl
theorem tf176_1 : tyField Tryz.prog 176 1 = some (1, 138) := by kernel_rfl
theorem tp176 : tyPlaces Tryz.prog 176 = some [(0, 1), (1, 1)] := by kernel_rfl
theorem ts183 : tySize Tryz.prog 183 = some 1 := by kernel_rfl
theorem tb183 : tyBytes Tryz.prog 183 = some 8 := by kernel_rfl
theorem tg183 : tyAgg Tryz.prog 183 = some false := by kernel_rfl
theorem tz183 : tyZero Tryz.prog 183 = some (.lit (.pointer none)) := by kernel_rfl
theorem ta183 : tyArray Tryz.prog 183 = none := by kernel_rfl
theorem tl183 : tySlice Tryz.prog 183 = none := by kernel_rfl
theorem ti183 : tyInt Tryz.prog 183 = none := by kernel_rfl
theorem tt183 : tyString Tryz.prog 183 = false := by kernel_rfl
theorem tq183 : tyBool Tryz.prog 183 = false := by kernel_rfl
theorem tn183 : tyNil Tryz.prog 183 = none := by kernel_rfl
theorem tp183 : tyPlaces Tryz.prog 183 = none := by kernel_rfl
theorem tw23 : zeroFits Tryz.prog 23 := zeroFits_of (by kernel_rfl)
theorem tw30 : zeroFits Tryz.prog 30 := zeroFits_of (by kernel_rfl)
theorem tw60 : zeroFits Tryz.prog 60 := zeroFits_of (by kernel_rfl)
theorem tw85 : zeroFits Tryz.prog 85 := zeroFits_of (by kernel_rfl)
theorem tw91 : zeroFits Tryz.prog 91 := zeroFits_of (by kernel_rfl)
theorem tw107 : zeroFits Tryz.prog 107 := zeroFits_of (by kernel_rfl)
theorem tw138 : zeroFits Tryz.prog 138 := zeroFits_of (by kernel_rfl)
theorem tw171 : zeroFits Tryz.prog 171 := zeroFits_of (by kernel_rfl)
theorem tr2 : Tryz.f2.results.toList = [] := by kernel_rfl
theorem tr3 : Tryz.f3.results.toList = [ResultVar.tmp 8] := by kernel_rfl
theorem tr4 : Tryz.f4.results.toList = [ResultVar.tmp 0] := by kernel_rfl
theorem tr5 : Tryz.f5.results.toList = [ResultVar.tmp 8] := by kernel_rfl
theorem tr6 : Tryz.f6.results.toList = [ResultVar.tmp 4] := by kernel_rfl
theorem tr7 : Tryz.f7.results.toList = [ResultVar.tmp 8] := by kernel_rfl
theorem tr8 : Tryz.f8.results.toList = [ResultVar.tmp 2, ResultVar.tmp 3] := by kernel_rfl
theorem tr9 : Tryz.f9.results.toList = [ResultVar.cell 10 33, ResultVar.tmp 11] := by kernel_rfl
theorem tr10 : Tryz.f10.results.toList = [ResultVar.tmp 2] := by kernel_rfl
theorem tr11 : Tryz.f11.results.toList = [ResultVar.tmp 6] := by kernel_rfl
theorem tr12 : Tryz.f12.results.toList = [ResultVar.tmp 6] := by kernel_rfl
theorem tr13 : Tryz.f13.results.toList = [ResultVar.tmp 4] := by kernel_rfl
theorem tr14 : Tryz.f14.results.toList = [ResultVar.tmp 4] := by kernel_rfl
theorem tr15 : Tryz.f15.results.toList = [ResultVar.tmp 4] := by kernel_rfl
theorem tr16 : Tryz.f16.results.toList = [ResultVar.tmp 2, ResultVar.tmp 3] := by kernel_rfl
theorem tr17 : Tryz.f17.results.toList = [ResultVar.tmp 2, ResultVar.tmp 3] := by kernel_rfl
theorem tr18 : Tryz.f18.results.toList = [ResultVar.tmp 4] := by kernel_rfl
theorem tr19 : Tryz.f19.results.toList = [ResultVar.tmp 6] := by kernel_rfl
theorem tr20 : Tryz.f20.results.toList = [ResultVar.tmp 2] := by kernel_rfl
theorem tr21 : Tryz.f21.results.toList = [ResultVar.tmp 8, ResultVar.tmp 9] := by kernel_rfl
theorem tr22 : Tryz.f22.results.toList = [] := by kernel_rfl
theorem tr23 : Tryz.f23.results.toList = [ResultVar.tmp 2] := by kernel_rfl
theorem tr24 : Tryz.f24.results.toList = [ResultVar.tmp 4] := by kernel_rfl
theorem tr25 : Tryz.f25.results.toList = [] := by kernel_rfl
theorem tr26 : Tryz.f26.results.toList = [ResultVar.tmp 8, ResultVar.tmp 9] := by kernel_rfl
theorem tr27 : Tryz.f27.results.toList = [] := by kernel_rfl
theorem tr28 : Tryz.f28.results.toList = [ResultVar.tmp 6, ResultVar.tmp 7] := by kernel_rfl
theorem tr29 : Tryz.f29.results.toList = [ResultVar.tmp 6] := by kernel_rfl
theorem tr30 : Tryz.f30.results.toList = [ResultVar.tmp 4] := by kernel_rfl
theorem tr31 : Tryz.f31.results.toList = [ResultVar.cell 2 66, ResultVar.tmp 3] := by kernel_rfl
theorem tr32 : Tryz.f32.results.toList = [] := by kernel_rfl
theorem tr33 : Tryz.f33.results.toList = [ResultVar.tmp 4] := by kernel_rfl
theorem tr34 : Tryz.f34.results.toList = [ResultVar.tmp 4] := by kernel_rfl
theorem tr35 : Tryz.f35.results.toList = [ResultVar.tmp 2] := by kernel_rfl
theorem tr36 : Tryz.f36.results.toList = [ResultVar.tmp 2] := by kernel_rfl
theorem tr37 : Tryz.f37.results.toList = [ResultVar.tmp 4] := by kernel_rfl
theorem tr38 : Tryz.f38.results.toList = [ResultVar.tmp 2, ResultVar.tmp 3] := by kernel_rfl
theorem tr39 : Tryz.f39.results.toList = [ResultVar.cell 6 82, ResultVar.tmp 7] := by kernel_rfl
theorem tr40 : Tryz.f40.results.toList = [ResultVar.tmp 2] := by kernel_rfl
theorem tr41 : Tryz.f41.results.toList = [ResultVar.tmp 2] := by kernel_rfl
theorem tr42 : Tryz.f42.results.toList = [ResultVar.tmp 2] := by kernel_rfl
theorem tr43 : Tryz.f43.results.toList = [ResultVar.tmp 2, ResultVar.tmp 3] := by kernel_rfl
theorem tr44 : Tryz.f44.results.toList = [ResultVar.tmp 4] := by kernel_rfl
theorem tr45 : Tryz.f45.results.toList = [ResultVar.tmp 2] := by kernel_rfl
theorem tr46 : Tryz.f46.results.toList = [ResultVar.tmp 4, ResultVar.tmp 5] := by kernel_rfl
theorem tr47 : Tryz.f47.results.toList = [ResultVar.tmp 4, ResultVar.tmp 5] := by kernel_rfl
theorem tr48 : Tryz.f48.results.toList = [ResultVar.tmp 2, ResultVar.tmp 3] := by kernel_rfl
theorem tr49 : Tryz.f49.results.toList = [ResultVar.tmp 4] := by kernel_rfl
theorem tr50 : Tryz.f50.results.toList = [ResultVar.tmp 6, ResultVar.tmp 7] := by kernel_rfl
theorem tr51 : Tryz.f51.results.toList = [ResultVar.tmp 2] := by kernel_rfl
theorem tr52 : Tryz.f52.results.toList = [ResultVar.tmp 2, ResultVar.tmp 3] := by kernel_rfl
theorem tr53 : Tryz.f53.results.toList = [ResultVar.tmp 4] := by kernel_rfl
theorem tr54 : Tryz.f54.results.toList = [ResultVar.tmp 2] := by kernel_rfl
theorem tr55 : Tryz.f55.results.toList = [ResultVar.tmp 2] := by kernel_rfl
theorem tr56 : Tryz.f56.results.toList = [ResultVar.tmp 2] := by kernel_rfl
theorem tr57 : Tryz.f57.results.toList = [ResultVar.tmp 2] := by kernel_rfl
theorem tr58 : Tryz.f58.results.toList = [ResultVar.tmp 4, ResultVar.tmp 5] := by kernel_rfl
theorem tr59 : Tryz.f59.results.toList = [ResultVar.tmp 4] := by kernel_rfl
theorem tr60 : Tryz.f60.results.toList = [ResultVar.tmp 2] := by kernel_rfl
theorem tr61 : Tryz.f61.results.toList = [ResultVar.tmp 4, ResultVar.tmp 5] := by kernel_rfl
theorem tr62 : Tryz.f62.results.toList = [ResultVar.tmp 8, ResultVar.tmp 9] := by kernel_rfl
theorem tr63 : Tryz.f63.results.toList = [ResultVar.tmp 4, ResultVar.tmp 5, ResultVar.tmp 6] := by kernel_rfl
theorem tr64 : Tryz.f64.results.toList = [ResultVar.tmp 2] := by kernel_rfl
theorem tr65 : Tryz.f65.results.toList = [ResultVar.tmp 4] := by kernel_rfl
theorem tr66 : Tryz.f66.results.toList = [ResultVar.tmp 3] := by kernel_rfl
theorem tr67 : Tryz.f67.results.toList = [ResultVar.tmp 6] := by kernel_rfl
theorem tr68 : Tryz.f68.results.toList = [ResultVar.tmp 4, ResultVar.tmp 5] := by kernel_rfl
theorem tr69 : Tryz.f69.results.toList = [ResultVar.tmp 6] := by kernel_rfl
theorem tr70 : Tryz.f70.results.toList = [ResultVar.tmp 2] := by kernel_rfl
theorem tr71 : Tryz.f71.results.toList = [ResultVar.tmp 2] := by kernel_rfl
theorem tr72 : Tryz.f72.results.toList = [ResultVar.tmp 4] := by kernel_rfl
theorem tr73 : Tryz.f73.results.toList = [ResultVar.tmp 2] := by kernel_rfl
theorem tr74 : Tryz.f74.results.toList = [ResultVar.tmp 2, ResultVar.tmp 3] := by kernel_rfl
theorem tr75 : Tryz.f75.results.toList = [ResultVar.tmp 2] := by kernel_rfl
theorem tr76 : Tryz.f76.results.toList = [ResultVar.tmp 4] := by kernel_rfl
theorem tr77 : Tryz.f77.results.toList = [ResultVar.tmp 4] := by kernel_rfl
theorem tr78 : Tryz.f78.results.toList = [ResultVar.tmp 6, ResultVar.tmp 7] := by kernel_rfl
theorem tr79 : Tryz.f79.results.toList = [ResultVar.tmp 4] := by kernel_rfl
theorem tr80 : Tryz.f80.results.toList = [ResultVar.tmp 4, ResultVar.tmp 5] := by kernel_rfl
theorem tr81 : Tryz.f81.results.toList = [ResultVar.tmp 4, ResultVar.tmp 5] := by kernel_rfl
theorem tr82 : Tryz.f82.results.toList = [ResultVar.tmp 4] := by kernel_rfl
theorem tr83 : Tryz.f83.results.toList = [ResultVar.tmp 2] := by kernel_rfl
theorem tr84 : Tryz.f84.results.toList = [ResultVar.tmp 2] := by kernel_rfl
theorem tr85 : Tryz.f85.results.toList = [ResultVar.tmp 2] := by kernel_rfl
theorem tr86 : Tryz.f86.results.toList = [ResultVar.tmp 4] := by kernel_rfl
theorem tr87 : Tryz.f87.results.toList = [ResultVar.tmp 6, ResultVar.tmp 7] := by kernel_rfl
theorem tr88 : Tryz.f88.results.toList = [ResultVar.tmp 4] := by kernel_rfl
theorem tr89 : Tryz.f89.results.toList = [ResultVar.tmp 2] := by kernel_rfl
theorem tr90 : Tryz.f90.results.toList = [ResultVar.tmp 4] := by kernel_rfl
theorem tr91 : Tryz.f91.results.toList = [ResultVar.tmp 4, ResultVar.tmp 5] := by kernel_rfl
theorem tr93 : Tryz.f93.results.toList = [] := by kernel_rfl
theorem tr94 : Tryz.f94.results.toList = [ResultVar.tmp 2] := by kernel_rfl
theorem tr95 : Tryz.f95.results.toList = [ResultVar.tmp 4] := by kernel_rfl
theorem tr96 : Tryz.f96.results.toList = [] := by kernel_rfl
theorem tr97 : Tryz.f97.results.toList = [ResultVar.tmp 2] := by kernel_rfl
theorem tr98 : Tryz.f98.results.toList = [ResultVar.tmp 2] := by kernel_rfl
theorem tr99 : Tryz.f99.results.toList = [ResultVar.tmp 2] := by kernel_rfl
theorem tr100 : Tryz.f100.results.toList = [ResultVar.tmp 4] := by kernel_rfl
theorem tr101 : Tryz.f101.results.toList = [ResultVar.tmp 6, ResultVar.tmp 7] := by kernel_rfl
theorem tr102 : Tryz.f102.results.toList = [ResultVar.tmp 2] := by kernel_rfl
theorem tr103 : Tryz.f103.results.toList = [ResultVar.tmp 4] := by kernel_rfl
theorem tr104 : Tryz.f104.results.toList = [ResultVar.tmp 3] := by kernel_rfl
theorem tr105 : Tryz.f105.results.toList = [ResultVar.tmp 3] := by kernel_rfl
theorem tr106 : Tryz.f106.results.toList = [ResultVar.tmp 2] := by kernel_rfl
theorem tr107 : Tryz.f107.results.toList = [ResultVar.tmp 4] := by kernel_rfl
theorem tr108 : Tryz.f108.results.toList = [ResultVar.tmp 4] := by kernel_rfl
theorem tr109 : Tryz.f109.results.toList = [ResultVar.tmp 6] := by kernel_rfl
theorem tr110 : Tryz.f110.results.toList = [ResultVar.tmp 4] := by kernel_rfl
theorem tr111 : Tryz.f111.results.toList = [ResultVar.tmp 4, ResultVar.tmp 5] := by kernel_rfl
theorem tr112 : Tryz.f112.results.toList = [ResultVar.tmp 4, ResultVar.tmp 5] := by kernel_rfl
theorem tr113 : Tryz.f113.results.toList = [ResultVar.tmp 2, ResultVar.tmp 3] := by kernel_rfl
theorem tr114 : Tryz.f114.results.toList = [ResultVar.tmp 4, ResultVar.tmp 5] := by kernel_rfl
theorem tr115 : Tryz.f115.results.toList = [ResultVar.tmp 2] := by kernel_rfl
theorem tr116 : Tryz.f116.results.toList = [] := by kernel_rfl
theorem tr117 : Tryz.f117.results.toList = [ResultVar.tmp 4] := by kernel_rfl
theorem tr118 : Tryz.f118.results.toList = [ResultVar.tmp 2] := by kernel_rfl
theorem tr119 : Tryz.f119.results.toList = [ResultVar.tmp 4] := by kernel_rfl
theorem tr120 : Tryz.f120.results.toList = [ResultVar.tmp 4] := by kernel_rfl
theorem tr121 : Tryz.f121.results.toList = [ResultVar.tmp 4] := by kernel_rfl
theorem tr122 : Tryz.f122.results.toList = [ResultVar.tmp 4] := by kernel_rfl
theorem tr123 : Tryz.f123.results.toList = [] := by kernel_rfl
theorem tr124 : Tryz.f124.results.toList = [ResultVar.tmp 4, ResultVar.tmp 5] := by kernel_rfl
theorem tr125 : Tryz.f125.results.toList = [ResultVar.tmp 2] := by kernel_rfl
theorem tr126 : Tryz.f126.results.toList = [] := by kernel_rfl
theorem tr127 : Tryz.f127.results.toList = [ResultVar.tmp 2] := by kernel_rfl
theorem tr128 : Tryz.f128.results.toList = [] := by kernel_rfl
theorem tr129 : Tryz.f129.results.toList = [] := by kernel_rfl
attribute [go_sem] ts3 tb3 tg3 tz3 ta3 tl3 ti3 tt3 tq3 tn3 tp3 tu3 ts4 tb4 tg4 tz4 ta4 tl4 ti4 tt4
attribute [go_sem] tq4 tn4 tp4 tu4 ts5 tb5 tg5 tz5 ta5 tl5 ti5 tt5 tq5 tn5 tp5 tu5 ts9 tb9 tg9 tz9
attribute [go_sem] ta9 tl9 ti9 tt9 tq9 tn9 tp9 tu9 ts21 tb21 tg21 tz21 ta21 tl21 ti21 tt21 tq21 tn21 tp21 tu21
attribute [go_sem] ts23 tb23 tg23 tz23 ta23 tl23 ti23 tt23 tq23 tn23 tp23 tu23 ts27 tb27 tg27 tz27 ta27 tl27 ti27 tt27
attribute [go_sem] tq27 tn27 tp27 tu27 ts30 tb30 tg30 tz30 ta30 tl30 ti30 tt30 tq30 tn30 tp30 tu30 ts31 tb31 tg31 tz31
attribute [go_sem] ta31 tl31 ti31 tt31 tq31 tn31 tp31 tu31 ts33 tb33 tg33 tz33 ta33 tl33 ti33 tt33 tq33 tn33 tf33_0 tf33_1
attribute [go_sem] tf33_2 tf33_3 tp33 tv33 te33 ts34 tb34 tg34 tz34 ta34 tl34 ti34 tt34 tq34 tn34 tp34 tu34 ts37 tb37 tg37
attribute [go_sem] tz37 ta37 tl37 ti37 tt37 tq37 tn37 tp37 tu37 ts52 tb52 tg52 tz52 ta52 tl52 ti52 tt52 tq52 tn52 tp52
attribute [go_sem] tu52 ts57 tb57 tg57 tz57 ta57 tl57 ti57 tt57 tq57 tn57 tp57 tu57 ts60 tb60 tg60 tz60 ta60 tl60 ti60
attribute [go_sem] tt60 tq60 tn60 tp60 tu60 ts66 tb66 tg66 tz66 ta66 tl66 ti66 tt66 tq66 tn66 tf66_0 tf66_1 tp66 tv66 te66
attribute [go_sem] ts70 tb70 tg70 tz70 ta70 tl70 ti70 tt70 tq70 tn70 tf70_0 tf70_1 tf70_2 tf70_3 tp70 tv70 te70 ts71 tb71 tg71
attribute [go_sem] tz71 ta71 tl71 ti71 tt71 tq71 tn71 tp71 ts78 tb78 tg78 tz78 ta78 tl78 ti78 tt78 tq78 tn78 tp78 ts80
attribute [go_sem] tb80 tg80 tz80 ta80 tl80 ti80 tt80 tq80 tn80 tf80_0 tf80_1 tf80_2 tf80_3 tf80_4 tf80_5 tf80_6 tp80 ts82 tb82 tg82
attribute [go_sem] tz82 ta82 tl82 ti82 tt82 tq82 tn82 tf82_0 tf82_1 tp82 tv82 te82 ts85 tb85 tg85 tz85 ta85 tl85 ti85 tt85
attribute [go_sem] tq85 tn85 tp85 tu85 ts87 tb87 tg87 tz87 ta87 tl87 ti87 tt87 tq87 tn87 tf87_0 tf87_1 tf87_2 tf87_3 tf87_4 tf87_5
attribute [go_sem] tf87_6 tf87_7 tp87 ts88 tb88 tg88 tz88 ta88 tl88 ti88 tt88 tq88 tn88 tp88 ts90 tb90 tg90 tz90 ta90 tl90
attribute [go_sem] ti90 tt90 tq90 tn90 tf90_0 tf90_1 tp90 ts91 tb91 tg91 tz91 ta91 tl91 ti91 tt91 tq91 tn91 tp91 tu91 ts93
attribute [go_sem] tb93 tg93 tz93 ta93 tl93 ti93 tt93 tq93 tn93 tf93_0 tf93_1 tf93_2 tf93_3 tf93_4 tf93_5 tp93 ts99 tb99 tg99 tz99
attribute [go_sem] ta99 tl99 ti99 tt99 tq99 tn99 tf99_0 tf99_1 tf99_2 tp99 tv99 te99 ts102 tb102 tg102 tz102 ta102 tl102 ti102 tt102
attribute [go_sem] tq102 tn102 tf102_0 tf102_1 tp102 tv102 te102 ts107 tb107 tg107 tz107 ta107 tl107 ti107 tt107 tq107 tn107 tp107 tu107 ts109
attribute [go_sem] tb109 tg109 tz109 ta109 tl109 ti109 tt109 tq109 tn109 tp109 tu109 ts113 tb113 tg113 tz113 ta113 tl113 ti113 tt113 tq113
attribute [go_sem] tn113 tp113 ts122 tb122 tg122 tz122 ta122 tl122 ti122 tt122 tq122 tn122 tf122_0 tf122_1 tp122 ts124 tb124 tg124 tz124 ta124
attribute [go_sem] tl124 ti124 tt124 tq124 tn124 tp124 ts137 tb137 tg137 tz137 ta137 tl137 ti137 tt137 tq137 tn137 tp137 tu137 ts138 tb138
attribute [go_sem] tg138 tz138 ta138 tl138 ti138 tt138 tq138 tn138 tp138 tu138 ts144 tb144 tg144 tz144 ta144 tl144 ti144 tt144 tq144 tn144
attribute [go_sem] tp144 tu144 ts153 tb153 tg153 tz153 ta153 tl153 ti153 tt153 tq153 tn153 tp153 ts154 tb154 tg154 tz154 ta154 tl154 ti154
attribute [go_sem] tt154 tq154 tn154 tp154 ts155 tb155 tg155 tz155 ta155 tl155 ti155 tt155 tq155 tn155 tp155 ts161 tb161 tg161 tz161 ta161
attribute [go_sem] tl161 ti161 tt161 tq161 tn161 tp161 tu161 ts167 tb167 tg167 tz167 ta167 tl167 ti167 tt167 tq167 tn167 tp167 ts169 tb169
attribute [go_sem] tg169 tz169 ta169 tl169 ti169 tt169 tq169 tn169 tp169 tu169 ts170 tb170 tg170 tz170 ta170 tl170 ti170 tt170 tq170 tn170
attribute [go_sem] tp170 tu170 ts171 tb171 tg171 tz171 ta171 tl171 ti171 tt171 tq171 tn171 tp171 tu171 ts174 tb174 tg174 tz174 ta174 tl174
attribute [go_sem] ti174 tt174 tq174 tn174 tp174 tu174 ts176 tb176 tg176 tz176 ta176 tl176 ti176 tt176 tq176 tn176 tf176_0 tf176_1 tp176 ts183
attribute [go_sem] tb183 tg183 tz183 ta183 tl183 ti183 tt183 tq183 tn183 tp183 tw23 tw30 tw60 tw85 tw91 tw107 tw138 tw171 tc4 tc5
attribute [go_sem] tc6 tc7 tc8 tc9 tc10 tc11 tc12 tc13 tc14 tc15 tc16 tc17 tc18 tc19 tc20 tc21 tc22 tc23 tc24 tc25
attribute [go_sem] tc26 tc27 tc28 tc29 tc30 tc31 tc33 tc34 tc35 tc36 tc37 tc38 tc39 tc40 tc41 tc42 tc43 tc44 tc45 tc46
attribute [go_sem] tc47 tc48 tc49 tc50 tc51 tc52 tc53 tc56 tc57 tc58 tc59 tc60 tc61 tc62 tc63 tc64 tc65 tc67 tc68 tc69
attribute [go_sem] tc70 tc71 tc72 tc73 tc74 tc75 tc76 tc77 tc78 tc79 tc80 tc81 tc82 tc83 tc84 tc85 tc86 tc87 tc88 tc89
attribute [go_sem] tc90 tc91 tc93 tc94 tc95 tc97 tc98 tc99 tc100 tc101 tc102 tc103 tc106 tc107 tc108 tc109 tc110 tc111 tc112 tc113
attribute [go_sem] tc114 tc115 tc116 tc117 tc118 tc119 tc120 tc121 tc122 tc123 tc124 tc125 tc126 tc127 tc128 tc129 tr2 tr3 tr4 tr5
attribute [go_sem] tr6 tr7 tr8 tr9 tr10 tr11 tr12 tr13 tr14 tr15 tr16 tr17 tr18 tr19 tr20 tr21 tr22 tr23 tr24 tr25
attribute [go_sem] tr26 tr27 tr28 tr29 tr30 tr31 tr32 tr33 tr34 tr35 tr36 tr37 tr38 tr39 tr40 tr41 tr42 tr43 tr44 tr45
attribute [go_sem] tr46 tr47 tr48 tr49 tr50 tr51 tr52 tr53 tr54 tr55 tr56 tr57 tr58 tr59 tr60 tr61 tr62 tr63 tr64 tr65
attribute [go_sem] tr66 tr67 tr68 tr69 tr70 tr71 tr72 tr73 tr74 tr75 tr76 tr77 tr78 tr79 tr80 tr81 tr82 tr83 tr84 tr85
attribute [go_sem] tr86 tr87 tr88 tr89 tr90 tr91 tr93 tr94 tr95 tr96 tr97 tr98 tr99 tr100 tr101 tr102 tr103 tr104 tr105 tr106
attribute [go_sem] tr107 tr108 tr109 tr110 tr111 tr112 tr113 tr114 tr115 tr116 tr117 tr118 tr119 tr120 tr121 tr122 tr123 tr124 tr125 tr126
attribute [go_sem] tr127 tr128 tr129
end Go.Proofs.YteahajcgbogjkaaGreat.AL
