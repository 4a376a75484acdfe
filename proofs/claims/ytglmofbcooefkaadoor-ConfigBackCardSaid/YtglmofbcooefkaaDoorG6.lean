import Derived.Test.YtglmofbcooefkaaDoorG5
import Derived.Test.YtglmofbcooefkaaDoorProg
import Derived.Test.YtglmofbcooefkaaDoorG2
import Derived.KernelRfl
/- Facts on the types of the program, each asked of the loaded table. -/
namespace Go.Proofs.YtglmofbcooefkaaDoor.AL
set_option linter.unusedVariables false
set_option linter.unusedSimpArgs false
open Go
theorem ts2 : tySize Tryd.prog 2 = some 1 := by kernel_rfl
theorem tb2 : tyBytes Tryd.prog 2 = some 8 := by kernel_rfl
theorem tg2 : tyAgg Tryd.prog 2 = some false := by kernel_rfl
theorem tz2 : tyZero Tryd.prog 2 = some (.lit (.int .i64 0)) := by kernel_rfl
theorem ta2 : tyArray Tryd.prog 2 = none := by kernel_rfl
theorem tl2 : tySlice Tryd.prog 2 = none := by kernel_rfl
theorem ti2 : tyInt Tryd.prog 2 = some .i64 := by kernel_rfl
theorem tt2 : tyString Tryd.prog 2 = false := by kernel_rfl
theorem tq2 : tyBool Tryd.prog 2 = false := by kernel_rfl
theorem tn2 : tyNil Tryd.prog 2 = none := by kernel_rfl
theorem tp2 : tyPlaces Tryd.prog 2 = none := by kernel_rfl
theorem tu2 : Tryd.prog.underlying 2 = some (.int .i64) := by kernel_rfl
theorem ts3 : tySize Tryd.prog 3 = some 1 := by kernel_rfl
theorem tb3 : tyBytes Tryd.prog 3 = some 8 := by kernel_rfl
theorem tg3 : tyAgg Tryd.prog 3 = some false := by kernel_rfl
theorem tz3 : tyZero Tryd.prog 3 = some (.lit (.int .i64 0)) := by kernel_rfl
theorem ta3 : tyArray Tryd.prog 3 = none := by kernel_rfl
theorem tl3 : tySlice Tryd.prog 3 = none := by kernel_rfl
theorem ti3 : tyInt Tryd.prog 3 = some .i64 := by kernel_rfl
theorem tt3 : tyString Tryd.prog 3 = false := by kernel_rfl
theorem tq3 : tyBool Tryd.prog 3 = false := by kernel_rfl
theorem tn3 : tyNil Tryd.prog 3 = none := by kernel_rfl
theorem tp3 : tyPlaces Tryd.prog 3 = none := by kernel_rfl
theorem tu3 : Tryd.prog.underlying 3 = some (.int .i64) := by kernel_rfl
theorem ts4 : tySize Tryd.prog 4 = some 1 := by kernel_rfl
theorem tb4 : tyBytes Tryd.prog 4 = some 1 := by kernel_rfl
theorem tg4 : tyAgg Tryd.prog 4 = some false := by kernel_rfl
theorem tz4 : tyZero Tryd.prog 4 = some (.lit (.bool false)) := by kernel_rfl
theorem ta4 : tyArray Tryd.prog 4 = none := by kernel_rfl
theorem tl4 : tySlice Tryd.prog 4 = none := by kernel_rfl
theorem ti4 : tyInt Tryd.prog 4 = none := by kernel_rfl
theorem tt4 : tyString Tryd.prog 4 = false := by kernel_rfl
theorem tq4 : tyBool Tryd.prog 4 = true := by kernel_rfl
theorem tn4 : tyNil Tryd.prog 4 = none := by kernel_rfl
theorem tp4 : tyPlaces Tryd.prog 4 = none := by kernel_rfl
theorem tu4 : Tryd.prog.underlying 4 = some .bool := by kernel_rfl
theorem ts5 : tySize Tryd.prog 5 = some 1 := by kernel_rfl
theorem tb5 : tyBytes Tryd.prog 5 = some 1 := by kernel_rfl
theorem tg5 : tyAgg Tryd.prog 5 = some false := by kernel_rfl
theorem tz5 : tyZero Tryd.prog 5 = some (.lit (.int .u8 0)) := by kernel_rfl
theorem ta5 : tyArray Tryd.prog 5 = none := by kernel_rfl
theorem tl5 : tySlice Tryd.prog 5 = none := by kernel_rfl
theorem ti5 : tyInt Tryd.prog 5 = some .u8 := by kernel_rfl
theorem tt5 : tyString Tryd.prog 5 = false := by kernel_rfl
theorem tq5 : tyBool Tryd.prog 5 = false := by kernel_rfl
theorem tn5 : tyNil Tryd.prog 5 = none := by kernel_rfl
theorem tp5 : tyPlaces Tryd.prog 5 = none := by kernel_rfl
theorem tu5 : Tryd.prog.underlying 5 = some (.int .u8) := by kernel_rfl
theorem ts9 : tySize Tryd.prog 9 = some 1 := by kernel_rfl
theorem tb9 : tyBytes Tryd.prog 9 = some 16 := by kernel_rfl
theorem tg9 : tyAgg Tryd.prog 9 = some false := by kernel_rfl
theorem tz9 : tyZero Tryd.prog 9 = some (.lit (.string { data := #[] })) := by kernel_rfl
theorem ta9 : tyArray Tryd.prog 9 = none := by kernel_rfl
theorem tl9 : tySlice Tryd.prog 9 = none := by kernel_rfl
theorem ti9 : tyInt Tryd.prog 9 = none := by kernel_rfl
theorem tt9 : tyString Tryd.prog 9 = true := by kernel_rfl
theorem tq9 : tyBool Tryd.prog 9 = false := by kernel_rfl
theorem tn9 : tyNil Tryd.prog 9 = none := by kernel_rfl
theorem tp9 : tyPlaces Tryd.prog 9 = none := by kernel_rfl
theorem tu9 : Tryd.prog.underlying 9 = some .string := by kernel_rfl
theorem ts20 : tySize Tryd.prog 20 = some 1 := by kernel_rfl
theorem tb20 : tyBytes Tryd.prog 20 = some 16 := by kernel_rfl
theorem tg20 : tyAgg Tryd.prog 20 = some false := by kernel_rfl
theorem tz20 : tyZero Tryd.prog 20 = some (.lit (.nilIface)) := by kernel_rfl
theorem ta20 : tyArray Tryd.prog 20 = none := by kernel_rfl
theorem tl20 : tySlice Tryd.prog 20 = none := by kernel_rfl
theorem ti20 : tyInt Tryd.prog 20 = none := by kernel_rfl
theorem tt20 : tyString Tryd.prog 20 = false := by kernel_rfl
theorem tq20 : tyBool Tryd.prog 20 = false := by kernel_rfl
theorem tn20 : tyNil Tryd.prog 20 = some .iface := by kernel_rfl
theorem tp20 : tyPlaces Tryd.prog 20 = none := by kernel_rfl
theorem ts21 : tySize Tryd.prog 21 = some 1 := by kernel_rfl
theorem tb21 : tyBytes Tryd.prog 21 = some 4 := by kernel_rfl
theorem tg21 : tyAgg Tryd.prog 21 = some false := by kernel_rfl
theorem tz21 : tyZero Tryd.prog 21 = some (.lit (.int .i32 0)) := by kernel_rfl
theorem ta21 : tyArray Tryd.prog 21 = none := by kernel_rfl
theorem tl21 : tySlice Tryd.prog 21 = none := by kernel_rfl
theorem ti21 : tyInt Tryd.prog 21 = some .i32 := by kernel_rfl
theorem tt21 : tyString Tryd.prog 21 = false := by kernel_rfl
theorem tq21 : tyBool Tryd.prog 21 = false := by kernel_rfl
theorem tn21 : tyNil Tryd.prog 21 = none := by kernel_rfl
theorem tp21 : tyPlaces Tryd.prog 21 = none := by kernel_rfl
theorem tu21 : Tryd.prog.underlying 21 = some (.int .i32) := by kernel_rfl
theorem ts23 : tySize Tryd.prog 23 = some 9 := by kernel_rfl
theorem tb23 : tyBytes Tryd.prog 23 = some 72 := by kernel_rfl
theorem tg23 : tyAgg Tryd.prog 23 = some true := by kernel_rfl
theorem tz23 : tyZero Tryd.prog 23 = some (.agg [.lit (.int .i64 0), .lit (.int .i64 0), .lit (.int .i64 0), .lit (.int .i64 0), .lit (.int .i64 0), .lit (.int .i64 0), .lit (.int .i64 0), .lit (.int .i64 0), .lit (.int .i64 0)]) := by kernel_rfl
theorem ta23 : tyArray Tryd.prog 23 = none := by kernel_rfl
theorem tl23 : tySlice Tryd.prog 23 = none := by kernel_rfl
theorem ti23 : tyInt Tryd.prog 23 = none := by kernel_rfl
theorem tt23 : tyString Tryd.prog 23 = false := by kernel_rfl
theorem tq23 : tyBool Tryd.prog 23 = false := by kernel_rfl
theorem tn23 : tyNil Tryd.prog 23 = none := by kernel_rfl
theorem tf23_0 : tyField Tryd.prog 23 0 = some (0, 3) := by kernel_rfl
theorem tf23_1 : tyField Tryd.prog 23 1 = some (1, 3) := by kernel_rfl
theorem tf23_2 : tyField Tryd.prog 23 2 = some (2, 3) := by kernel_rfl
theorem tf23_3 : tyField Tryd.prog 23 3 = some (3, 3) := by kernel_rfl
theorem tf23_4 : tyField Tryd.prog 23 4 = some (4, 3) := by kernel_rfl
theorem tf23_5 : tyField Tryd.prog 23 5 = some (5, 3) := by kernel_rfl
theorem tf23_6 : tyField Tryd.prog 23 6 = some (6, 3) := by kernel_rfl
theorem tf23_7 : tyField Tryd.prog 23 7 = some (7, 3) := by kernel_rfl
theorem tf23_8 : tyField Tryd.prog 23 8 = some (8, 3) := by kernel_rfl
theorem tp23 : tyPlaces Tryd.prog 23 = some [(0, 1), (1, 1), (2, 1), (3, 1), (4, 1), (5, 1), (6, 1), (7, 1), (8, 1)] := by kernel_rfl
theorem tv23 : leaves Tryd.prog 20 23 = some [.int, .int, .int, .int, .int, .int, .int, .int, .int] := by kernel_rfl
theorem te23 : Tryd.prog.eqGuardType Tryd.prog.depth 23 = false := by kernel_rfl
theorem ts27 : tySize Tryd.prog 27 = some 1 := by kernel_rfl
theorem tb27 : tyBytes Tryd.prog 27 = some 8 := by kernel_rfl
theorem tg27 : tyAgg Tryd.prog 27 = some false := by kernel_rfl
theorem tz27 : tyZero Tryd.prog 27 = some (.lit (.int .i64 0)) := by kernel_rfl
theorem ta27 : tyArray Tryd.prog 27 = none := by kernel_rfl
theorem tl27 : tySlice Tryd.prog 27 = none := by kernel_rfl
theorem ti27 : tyInt Tryd.prog 27 = some .i64 := by kernel_rfl
theorem tt27 : tyString Tryd.prog 27 = false := by kernel_rfl
theorem tq27 : tyBool Tryd.prog 27 = false := by kernel_rfl
theorem tn27 : tyNil Tryd.prog 27 = none := by kernel_rfl
theorem tp27 : tyPlaces Tryd.prog 27 = none := by kernel_rfl
theorem tu27 : Tryd.prog.underlying 27 = some (.int .i64) := by kernel_rfl
theorem ts32 : tySize Tryd.prog 32 = some 1 := by kernel_rfl
theorem tb32 : tyBytes Tryd.prog 32 = some 24 := by kernel_rfl
theorem tg32 : tyAgg Tryd.prog 32 = some false := by kernel_rfl
theorem tz32 : tyZero Tryd.prog 32 = some (.lit (.slice none 0 0)) := by kernel_rfl
theorem ta32 : tyArray Tryd.prog 32 = none := by kernel_rfl
theorem tl32 : tySlice Tryd.prog 32 = some 5 := by kernel_rfl
theorem ti32 : tyInt Tryd.prog 32 = none := by kernel_rfl
theorem tt32 : tyString Tryd.prog 32 = false := by kernel_rfl
theorem tq32 : tyBool Tryd.prog 32 = false := by kernel_rfl
theorem tn32 : tyNil Tryd.prog 32 = some .slice := by kernel_rfl
theorem tp32 : tyPlaces Tryd.prog 32 = none := by kernel_rfl
theorem tu32 : Tryd.prog.underlying 32 = some (.slice 5) := by kernel_rfl
theorem ts33 : tySize Tryd.prog 33 = some 1 := by kernel_rfl
theorem tb33 : tyBytes Tryd.prog 33 = some 24 := by kernel_rfl
theorem tg33 : tyAgg Tryd.prog 33 = some false := by kernel_rfl
theorem tz33 : tyZero Tryd.prog 33 = some (.lit (.slice none 0 0)) := by kernel_rfl
theorem ta33 : tyArray Tryd.prog 33 = none := by kernel_rfl
theorem tl33 : tySlice Tryd.prog 33 = some 9 := by kernel_rfl
theorem ti33 : tyInt Tryd.prog 33 = none := by kernel_rfl
theorem tt33 : tyString Tryd.prog 33 = false := by kernel_rfl
theorem tq33 : tyBool Tryd.prog 33 = false := by kernel_rfl
theorem tn33 : tyNil Tryd.prog 33 = some .slice := by kernel_rfl
theorem tp33 : tyPlaces Tryd.prog 33 = none := by kernel_rfl
theorem tu33 : Tryd.prog.underlying 33 = some (.slice 9) := by kernel_rfl
theorem ts37 : tySize Tryd.prog 37 = some 3 := by kernel_rfl
theorem tb37 : tyBytes Tryd.prog 37 = some 24 := by kernel_rfl
theorem tg37 : tyAgg Tryd.prog 37 = some true := by kernel_rfl
theorem tz37 : tyZero Tryd.prog 37 = some (.agg [.lit (.int .i64 0), .lit (.int .i64 0), .lit (.int .i64 0)]) := by kernel_rfl
theorem ta37 : tyArray Tryd.prog 37 = none := by kernel_rfl
theorem tl37 : tySlice Tryd.prog 37 = none := by kernel_rfl
theorem ti37 : tyInt Tryd.prog 37 = none := by kernel_rfl
theorem tt37 : tyString Tryd.prog 37 = false := by kernel_rfl
theorem tq37 : tyBool Tryd.prog 37 = false := by kernel_rfl
theorem tn37 : tyNil Tryd.prog 37 = none := by kernel_rfl
theorem tf37_0 : tyField Tryd.prog 37 0 = some (0, 27) := by kernel_rfl
theorem tf37_1 : tyField Tryd.prog 37 1 = some (1, 3) := by kernel_rfl
theorem tf37_2 : tyField Tryd.prog 37 2 = some (2, 3) := by kernel_rfl
theorem tp37 : tyPlaces Tryd.prog 37 = some [(0, 1), (1, 1), (2, 1)] := by kernel_rfl
theorem tv37 : leaves Tryd.prog 20 37 = some [.int, .int, .int] := by kernel_rfl
theorem te37 : Tryd.prog.eqGuardType Tryd.prog.depth 37 = false := by kernel_rfl
theorem ts38 : tySize Tryd.prog 38 = some 1 := by kernel_rfl
theorem tb38 : tyBytes Tryd.prog 38 = some 24 := by kernel_rfl
theorem tg38 : tyAgg Tryd.prog 38 = some false := by kernel_rfl
theorem tz38 : tyZero Tryd.prog 38 = some (.lit (.slice none 0 0)) := by kernel_rfl
theorem ta38 : tyArray Tryd.prog 38 = none := by kernel_rfl
theorem tl38 : tySlice Tryd.prog 38 = some 107 := by kernel_rfl
theorem ti38 : tyInt Tryd.prog 38 = none := by kernel_rfl
theorem tt38 : tyString Tryd.prog 38 = false := by kernel_rfl
theorem tq38 : tyBool Tryd.prog 38 = false := by kernel_rfl
theorem tn38 : tyNil Tryd.prog 38 = some .slice := by kernel_rfl
theorem tp38 : tyPlaces Tryd.prog 38 = none := by kernel_rfl
theorem tu38 : Tryd.prog.underlying 38 = some (.slice 107) := by kernel_rfl
theorem ts39 : tySize Tryd.prog 39 = some 1 := by kernel_rfl
theorem tb39 : tyBytes Tryd.prog 39 = some 24 := by kernel_rfl
theorem tg39 : tyAgg Tryd.prog 39 = some false := by kernel_rfl
theorem tz39 : tyZero Tryd.prog 39 = some (.lit (.slice none 0 0)) := by kernel_rfl
theorem ta39 : tyArray Tryd.prog 39 = none := by kernel_rfl
theorem tl39 : tySlice Tryd.prog 39 = some 105 := by kernel_rfl
theorem ti39 : tyInt Tryd.prog 39 = none := by kernel_rfl
theorem tt39 : tyString Tryd.prog 39 = false := by kernel_rfl
theorem tq39 : tyBool Tryd.prog 39 = false := by kernel_rfl
theorem tn39 : tyNil Tryd.prog 39 = some .slice := by kernel_rfl
theorem tp39 : tyPlaces Tryd.prog 39 = none := by kernel_rfl
theorem tu39 : Tryd.prog.underlying 39 = some (.slice 105) := by kernel_rfl
theorem ts40 : tySize Tryd.prog 40 = some 1 := by kernel_rfl
theorem tb40 : tyBytes Tryd.prog 40 = some 24 := by kernel_rfl
theorem tg40 : tyAgg Tryd.prog 40 = some false := by kernel_rfl
theorem tz40 : tyZero Tryd.prog 40 = some (.lit (.slice none 0 0)) := by kernel_rfl
theorem ta40 : tyArray Tryd.prog 40 = none := by kernel_rfl
theorem tl40 : tySlice Tryd.prog 40 = some 49 := by kernel_rfl
theorem ti40 : tyInt Tryd.prog 40 = none := by kernel_rfl
theorem tt40 : tyString Tryd.prog 40 = false := by kernel_rfl
theorem tq40 : tyBool Tryd.prog 40 = false := by kernel_rfl
theorem tn40 : tyNil Tryd.prog 40 = some .slice := by kernel_rfl
theorem tp40 : tyPlaces Tryd.prog 40 = none := by kernel_rfl
theorem tu40 : Tryd.prog.underlying 40 = some (.slice 49) := by kernel_rfl
theorem ts48 : tySize Tryd.prog 48 = some 1 := by kernel_rfl
theorem tb48 : tyBytes Tryd.prog 48 = some 4 := by kernel_rfl
theorem tg48 : tyAgg Tryd.prog 48 = some false := by kernel_rfl
theorem tz48 : tyZero Tryd.prog 48 = some (.lit (.int .u32 0)) := by kernel_rfl
theorem ta48 : tyArray Tryd.prog 48 = none := by kernel_rfl
theorem tl48 : tySlice Tryd.prog 48 = none := by kernel_rfl
theorem ti48 : tyInt Tryd.prog 48 = some .u32 := by kernel_rfl
theorem tt48 : tyString Tryd.prog 48 = false := by kernel_rfl
theorem tq48 : tyBool Tryd.prog 48 = false := by kernel_rfl
theorem tn48 : tyNil Tryd.prog 48 = none := by kernel_rfl
theorem tp48 : tyPlaces Tryd.prog 48 = none := by kernel_rfl
theorem tu48 : Tryd.prog.underlying 48 = some (.int .u32) := by kernel_rfl
theorem ts49 : tySize Tryd.prog 49 = some 1 := by kernel_rfl
theorem tb49 : tyBytes Tryd.prog 49 = some 24 := by kernel_rfl
theorem tg49 : tyAgg Tryd.prog 49 = some false := by kernel_rfl
theorem tz49 : tyZero Tryd.prog 49 = some (.lit (.slice none 0 0)) := by kernel_rfl
theorem ta49 : tyArray Tryd.prog 49 = none := by kernel_rfl
theorem tl49 : tySlice Tryd.prog 49 = some 3 := by kernel_rfl
theorem ti49 : tyInt Tryd.prog 49 = none := by kernel_rfl
theorem tt49 : tyString Tryd.prog 49 = false := by kernel_rfl
theorem tq49 : tyBool Tryd.prog 49 = false := by kernel_rfl
theorem tn49 : tyNil Tryd.prog 49 = some .slice := by kernel_rfl
theorem tp49 : tyPlaces Tryd.prog 49 = none := by kernel_rfl
theorem tu49 : Tryd.prog.underlying 49 = some (.slice 3) := by kernel_rfl
theorem ts51 : tySize Tryd.prog 51 = some 6 := by kernel_rfl
theorem tb51 : tyBytes Tryd.prog 51 = some 80 := by kernel_rfl
theorem tg51 : tyAgg Tryd.prog 51 = some true := by kernel_rfl
theorem tz51 : tyZero Tryd.prog 51 = some (.agg [.lit (.int .i64 0), .lit (.string { data := #[] }), .lit (.string { data := #[] }), .lit (.int .i64 0), .lit (.int .u32 0), .lit (.slice none 0 0)]) := by kernel_rfl
theorem ta51 : tyArray Tryd.prog 51 = none := by kernel_rfl
theorem tl51 : tySlice Tryd.prog 51 = none := by kernel_rfl
theorem ti51 : tyInt Tryd.prog 51 = none := by kernel_rfl
theorem tt51 : tyString Tryd.prog 51 = false := by kernel_rfl
theorem tq51 : tyBool Tryd.prog 51 = false := by kernel_rfl
theorem tn51 : tyNil Tryd.prog 51 = none := by kernel_rfl
theorem tf51_0 : tyField Tryd.prog 51 0 = some (0, 3) := by kernel_rfl
theorem tf51_1 : tyField Tryd.prog 51 1 = some (1, 9) := by kernel_rfl
theorem tf51_2 : tyField Tryd.prog 51 2 = some (2, 9) := by kernel_rfl
theorem tf51_3 : tyField Tryd.prog 51 3 = some (3, 3) := by kernel_rfl
theorem tf51_4 : tyField Tryd.prog 51 4 = some (4, 48) := by kernel_rfl
theorem tf51_5 : tyField Tryd.prog 51 5 = some (5, 49) := by kernel_rfl
theorem tp51 : tyPlaces Tryd.prog 51 = some [(0, 1), (1, 1), (2, 1), (3, 1), (4, 1), (5, 1)] := by kernel_rfl
theorem ts53 : tySize Tryd.prog 53 = some 1 := by kernel_rfl
theorem tb53 : tyBytes Tryd.prog 53 = some 24 := by kernel_rfl
theorem tg53 : tyAgg Tryd.prog 53 = some false := by kernel_rfl
theorem tz53 : tyZero Tryd.prog 53 = some (.lit (.slice none 0 0)) := by kernel_rfl
theorem ta53 : tyArray Tryd.prog 53 = none := by kernel_rfl
theorem tl53 : tySlice Tryd.prog 53 = some 51 := by kernel_rfl
theorem ti53 : tyInt Tryd.prog 53 = none := by kernel_rfl
theorem tt53 : tyString Tryd.prog 53 = false := by kernel_rfl
theorem tq53 : tyBool Tryd.prog 53 = false := by kernel_rfl
theorem tn53 : tyNil Tryd.prog 53 = some .slice := by kernel_rfl
theorem tp53 : tyPlaces Tryd.prog 53 = none := by kernel_rfl
theorem tu53 : Tryd.prog.underlying 53 = some (.slice 51) := by kernel_rfl
theorem ts55 : tySize Tryd.prog 55 = some 6 := by kernel_rfl
theorem tb55 : tyBytes Tryd.prog 55 = some 80 := by kernel_rfl
theorem tg55 : tyAgg Tryd.prog 55 = some true := by kernel_rfl
theorem tz55 : tyZero Tryd.prog 55 = some (.agg [.lit (.int .i64 0), .lit (.string { data := #[] }), .lit (.string { data := #[] }), .lit (.int .i64 0), .lit (.int .u32 0), .lit (.slice none 0 0)]) := by kernel_rfl
theorem ta55 : tyArray Tryd.prog 55 = none := by kernel_rfl
theorem tl55 : tySlice Tryd.prog 55 = none := by kernel_rfl
theorem ti55 : tyInt Tryd.prog 55 = none := by kernel_rfl
theorem tt55 : tyString Tryd.prog 55 = false := by kernel_rfl
theorem tq55 : tyBool Tryd.prog 55 = false := by kernel_rfl
theorem tn55 : tyNil Tryd.prog 55 = none := by kernel_rfl
theorem tf55_0 : tyField Tryd.prog 55 0 = some (0, 3) := by kernel_rfl
theorem tf55_1 : tyField Tryd.prog 55 1 = some (1, 9) := by kernel_rfl
theorem tf55_2 : tyField Tryd.prog 55 2 = some (2, 9) := by kernel_rfl
theorem tf55_3 : tyField Tryd.prog 55 3 = some (3, 3) := by kernel_rfl
theorem tf55_4 : tyField Tryd.prog 55 4 = some (4, 48) := by kernel_rfl
theorem tf55_5 : tyField Tryd.prog 55 5 = some (5, 49) := by kernel_rfl
theorem tp55 : tyPlaces Tryd.prog 55 = some [(0, 1), (1, 1), (2, 1), (3, 1), (4, 1), (5, 1)] := by kernel_rfl
theorem ts66 : tySize Tryd.prog 66 = some 1 := by kernel_rfl
theorem tb66 : tyBytes Tryd.prog 66 = some 24 := by kernel_rfl
theorem tg66 : tyAgg Tryd.prog 66 = some false := by kernel_rfl
theorem tz66 : tyZero Tryd.prog 66 = some (.lit (.slice none 0 0)) := by kernel_rfl
theorem ta66 : tyArray Tryd.prog 66 = none := by kernel_rfl
theorem tl66 : tySlice Tryd.prog 66 = some 55 := by kernel_rfl
theorem ti66 : tyInt Tryd.prog 66 = none := by kernel_rfl
theorem tt66 : tyString Tryd.prog 66 = false := by kernel_rfl
theorem tq66 : tyBool Tryd.prog 66 = false := by kernel_rfl
theorem tn66 : tyNil Tryd.prog 66 = some .slice := by kernel_rfl
theorem tp66 : tyPlaces Tryd.prog 66 = none := by kernel_rfl
theorem tu66 : Tryd.prog.underlying 66 = some (.slice 55) := by kernel_rfl
theorem ts77 : tySize Tryd.prog 77 = some 1 := by kernel_rfl
theorem tb77 : tyBytes Tryd.prog 77 = some 8 := by kernel_rfl
theorem tg77 : tyAgg Tryd.prog 77 = some false := by kernel_rfl
theorem tz77 : tyZero Tryd.prog 77 = some (.lit (.pointer none)) := by kernel_rfl
theorem ta77 : tyArray Tryd.prog 77 = none := by kernel_rfl
theorem tl77 : tySlice Tryd.prog 77 = none := by kernel_rfl
theorem ti77 : tyInt Tryd.prog 77 = none := by kernel_rfl
theorem tt77 : tyString Tryd.prog 77 = false := by kernel_rfl
theorem tq77 : tyBool Tryd.prog 77 = false := by kernel_rfl
theorem tn77 : tyNil Tryd.prog 77 = some .ptr := by kernel_rfl
theorem tp77 : tyPlaces Tryd.prog 77 = none := by kernel_rfl
theorem tu77 : Tryd.prog.underlying 77 = some (.pointer 79) := by kernel_rfl
theorem ts79 : tySize Tryd.prog 79 = some 2 := by kernel_rfl
theorem tb79 : tyBytes Tryd.prog 79 = some 32 := by kernel_rfl
theorem tg79 : tyAgg Tryd.prog 79 = some true := by kernel_rfl
theorem tz79 : tyZero Tryd.prog 79 = some (.agg [.lit (.pointer none), .lit (.slice none 0 0)]) := by kernel_rfl
theorem ta79 : tyArray Tryd.prog 79 = none := by kernel_rfl
theorem tl79 : tySlice Tryd.prog 79 = none := by kernel_rfl
theorem ti79 : tyInt Tryd.prog 79 = none := by kernel_rfl
theorem tt79 : tyString Tryd.prog 79 = false := by kernel_rfl
theorem tq79 : tyBool Tryd.prog 79 = false := by kernel_rfl
theorem tn79 : tyNil Tryd.prog 79 = none := by kernel_rfl
theorem tf79_0 : tyField Tryd.prog 79 0 = some (0, 77) := by kernel_rfl
theorem tf79_1 : tyField Tryd.prog 79 1 = some (1, 32) := by kernel_rfl
theorem tp79 : tyPlaces Tryd.prog 79 = some [(0, 1), (1, 1)] := by kernel_rfl
theorem ts80 : tySize Tryd.prog 80 = some 1 := by kernel_rfl
theorem tb80 : tyBytes Tryd.prog 80 = some 8 := by kernel_rfl
theorem tg80 : tyAgg Tryd.prog 80 = some false := by kernel_rfl
theorem tz80 : tyZero Tryd.prog 80 = some (.lit (.map none)) := by kernel_rfl
theorem ta80 : tyArray Tryd.prog 80 = none := by kernel_rfl
theorem tl80 : tySlice Tryd.prog 80 = none := by kernel_rfl
theorem ti80 : tyInt Tryd.prog 80 = none := by kernel_rfl
theorem tt80 : tyString Tryd.prog 80 = false := by kernel_rfl
theorem tq80 : tyBool Tryd.prog 80 = false := by kernel_rfl
theorem tn80 : tyNil Tryd.prog 80 = some .map := by kernel_rfl
theorem tp80 : tyPlaces Tryd.prog 80 = none := by kernel_rfl
theorem ts82 : tySize Tryd.prog 82 = some 1 := by kernel_rfl
theorem tb82 : tyBytes Tryd.prog 82 = some 8 := by kernel_rfl
theorem tg82 : tyAgg Tryd.prog 82 = some false := by kernel_rfl
theorem tz82 : tyZero Tryd.prog 82 = some (.lit (.pointer none)) := by kernel_rfl
theorem ta82 : tyArray Tryd.prog 82 = none := by kernel_rfl
theorem tl82 : tySlice Tryd.prog 82 = none := by kernel_rfl
theorem ti82 : tyInt Tryd.prog 82 = none := by kernel_rfl
theorem tt82 : tyString Tryd.prog 82 = false := by kernel_rfl
theorem tq82 : tyBool Tryd.prog 82 = false := by kernel_rfl
theorem tn82 : tyNil Tryd.prog 82 = some .ptr := by kernel_rfl
theorem tp82 : tyPlaces Tryd.prog 82 = none := by kernel_rfl
theorem tu82 : Tryd.prog.underlying 82 = some (.pointer 23) := by kernel_rfl
theorem ts89 : tySize Tryd.prog 89 = some 1 := by kernel_rfl
theorem tb89 : tyBytes Tryd.prog 89 = some 8 := by kernel_rfl
theorem tg89 : tyAgg Tryd.prog 89 = some false := by kernel_rfl
theorem tz89 : tyZero Tryd.prog 89 = some (.lit (.pointer none)) := by kernel_rfl
theorem ta89 : tyArray Tryd.prog 89 = none := by kernel_rfl
theorem tl89 : tySlice Tryd.prog 89 = none := by kernel_rfl
theorem ti89 : tyInt Tryd.prog 89 = none := by kernel_rfl
theorem tt89 : tyString Tryd.prog 89 = false := by kernel_rfl
theorem tq89 : tyBool Tryd.prog 89 = false := by kernel_rfl
theorem tn89 : tyNil Tryd.prog 89 = some .ptr := by kernel_rfl
theorem tp89 : tyPlaces Tryd.prog 89 = none := by kernel_rfl
theorem tu89 : Tryd.prog.underlying 89 = some (.pointer 3) := by kernel_rfl
theorem ts98 : tySize Tryd.prog 98 = some 1 := by kernel_rfl
theorem tb98 : tyBytes Tryd.prog 98 = some 24 := by kernel_rfl
theorem tg98 : tyAgg Tryd.prog 98 = some false := by kernel_rfl
theorem tz98 : tyZero Tryd.prog 98 = some (.lit (.slice none 0 0)) := by kernel_rfl
theorem ta98 : tyArray Tryd.prog 98 = none := by kernel_rfl
theorem tl98 : tySlice Tryd.prog 98 = some 4 := by kernel_rfl
theorem ti98 : tyInt Tryd.prog 98 = none := by kernel_rfl
theorem tt98 : tyString Tryd.prog 98 = false := by kernel_rfl
theorem tq98 : tyBool Tryd.prog 98 = false := by kernel_rfl
theorem tn98 : tyNil Tryd.prog 98 = some .slice := by kernel_rfl
theorem tp98 : tyPlaces Tryd.prog 98 = none := by kernel_rfl
theorem tu98 : Tryd.prog.underlying 98 = some (.slice 4) := by kernel_rfl
theorem ts105 : tySize Tryd.prog 105 = some 1 := by kernel_rfl
theorem tb105 : tyBytes Tryd.prog 105 = some 24 := by kernel_rfl
theorem tg105 : tyAgg Tryd.prog 105 = some false := by kernel_rfl
theorem tz105 : tyZero Tryd.prog 105 = some (.lit (.slice none 0 0)) := by kernel_rfl
theorem ta105 : tyArray Tryd.prog 105 = none := by kernel_rfl
theorem tl105 : tySlice Tryd.prog 105 = some 109 := by kernel_rfl
theorem ti105 : tyInt Tryd.prog 105 = none := by kernel_rfl
theorem tt105 : tyString Tryd.prog 105 = false := by kernel_rfl
theorem tq105 : tyBool Tryd.prog 105 = false := by kernel_rfl
theorem tn105 : tyNil Tryd.prog 105 = some .slice := by kernel_rfl
theorem tp105 : tyPlaces Tryd.prog 105 = none := by kernel_rfl
theorem tu105 : Tryd.prog.underlying 105 = some (.slice 109) := by kernel_rfl
theorem ts107 : tySize Tryd.prog 107 = some 2 := by kernel_rfl
theorem tb107 : tyBytes Tryd.prog 107 = some 16 := by kernel_rfl
theorem tg107 : tyAgg Tryd.prog 107 = some true := by kernel_rfl
theorem tz107 : tyZero Tryd.prog 107 = some (.agg [.lit (.int .i64 0), .lit (.int .i64 0)]) := by kernel_rfl
theorem ta107 : tyArray Tryd.prog 107 = none := by kernel_rfl
theorem tl107 : tySlice Tryd.prog 107 = none := by kernel_rfl
theorem ti107 : tyInt Tryd.prog 107 = none := by kernel_rfl
theorem tt107 : tyString Tryd.prog 107 = false := by kernel_rfl
theorem tq107 : tyBool Tryd.prog 107 = false := by kernel_rfl
theorem tn107 : tyNil Tryd.prog 107 = none := by kernel_rfl
theorem tf107_0 : tyField Tryd.prog 107 0 = some (0, 3) := by kernel_rfl
theorem tf107_1 : tyField Tryd.prog 107 1 = some (1, 3) := by kernel_rfl
theorem tp107 : tyPlaces Tryd.prog 107 = some [(0, 1), (1, 1)] := by kernel_rfl
theorem tv107 : leaves Tryd.prog 20 107 = some [.int, .int] := by kernel_rfl
theorem te107 : Tryd.prog.eqGuardType Tryd.prog.depth 107 = false := by kernel_rfl
theorem ts109 : tySize Tryd.prog 109 = some 3 := by kernel_rfl
theorem tb109 : tyBytes Tryd.prog 109 = some 24 := by kernel_rfl
theorem tg109 : tyAgg Tryd.prog 109 = some true := by kernel_rfl
theorem tz109 : tyZero Tryd.prog 109 = some (.agg [.lit (.int .i64 0), .lit (.int .i64 0), .lit (.bool false)]) := by kernel_rfl
theorem ta109 : tyArray Tryd.prog 109 = none := by kernel_rfl
theorem tl109 : tySlice Tryd.prog 109 = none := by kernel_rfl
theorem ti109 : tyInt Tryd.prog 109 = none := by kernel_rfl
theorem tt109 : tyString Tryd.prog 109 = false := by kernel_rfl
theorem tq109 : tyBool Tryd.prog 109 = false := by kernel_rfl
theorem tn109 : tyNil Tryd.prog 109 = none := by kernel_rfl
theorem tf109_0 : tyField Tryd.prog 109 0 = some (0, 3) := by kernel_rfl
theorem tf109_1 : tyField Tryd.prog 109 1 = some (1, 3) := by kernel_rfl
theorem tf109_2 : tyField Tryd.prog 109 2 = some (2, 4) := by kernel_rfl
theorem tp109 : tyPlaces Tryd.prog 109 = some [(0, 1), (1, 1), (2, 1)] := by kernel_rfl
theorem tv109 : leaves Tryd.prog 20 109 = some [.int, .int, .bool] := by kernel_rfl
theorem te109 : Tryd.prog.eqGuardType Tryd.prog.depth 109 = false := by kernel_rfl
theorem ts120 : tySize Tryd.prog 120 = some 1 := by kernel_rfl
theorem tb120 : tyBytes Tryd.prog 120 = some 8 := by kernel_rfl
theorem tg120 : tyAgg Tryd.prog 120 = some false := by kernel_rfl
theorem tz120 : tyZero Tryd.prog 120 = some (.lit (.pointer none)) := by kernel_rfl
theorem ta120 : tyArray Tryd.prog 120 = none := by kernel_rfl
theorem tl120 : tySlice Tryd.prog 120 = none := by kernel_rfl
theorem ti120 : tyInt Tryd.prog 120 = none := by kernel_rfl
theorem tt120 : tyString Tryd.prog 120 = false := by kernel_rfl
theorem tq120 : tyBool Tryd.prog 120 = false := by kernel_rfl
theorem tn120 : tyNil Tryd.prog 120 = some .ptr := by kernel_rfl
theorem tp120 : tyPlaces Tryd.prog 120 = none := by kernel_rfl
theorem tu120 : Tryd.prog.underlying 120 = some (.pointer 4) := by kernel_rfl
theorem ts125 : tySize Tryd.prog 125 = some 1 := by kernel_rfl
theorem tb125 : tyBytes Tryd.prog 125 = some 8 := by kernel_rfl
theorem tg125 : tyAgg Tryd.prog 125 = some false := by kernel_rfl
theorem tz125 : tyZero Tryd.prog 125 = some (.lit (.nilFunc)) := by kernel_rfl
theorem ta125 : tyArray Tryd.prog 125 = none := by kernel_rfl
theorem tl125 : tySlice Tryd.prog 125 = none := by kernel_rfl
theorem ti125 : tyInt Tryd.prog 125 = none := by kernel_rfl
theorem tt125 : tyString Tryd.prog 125 = false := by kernel_rfl
theorem tq125 : tyBool Tryd.prog 125 = false := by kernel_rfl
theorem tn125 : tyNil Tryd.prog 125 = some .func := by kernel_rfl
theorem tp125 : tyPlaces Tryd.prog 125 = none := by kernel_rfl
theorem ts127 : tySize Tryd.prog 127 = some 1 := by kernel_rfl
theorem tb127 : tyBytes Tryd.prog 127 = some 8 := by kernel_rfl
theorem tg127 : tyAgg Tryd.prog 127 = some false := by kernel_rfl
theorem tz127 : tyZero Tryd.prog 127 = some (.lit (.int .u64 0)) := by kernel_rfl
theorem ta127 : tyArray Tryd.prog 127 = none := by kernel_rfl
theorem tl127 : tySlice Tryd.prog 127 = none := by kernel_rfl
theorem ti127 : tyInt Tryd.prog 127 = some .u64 := by kernel_rfl
theorem tt127 : tyString Tryd.prog 127 = false := by kernel_rfl
theorem tq127 : tyBool Tryd.prog 127 = false := by kernel_rfl
theorem tn127 : tyNil Tryd.prog 127 = none := by kernel_rfl
theorem tp127 : tyPlaces Tryd.prog 127 = none := by kernel_rfl
theorem tu127 : Tryd.prog.underlying 127 = some (.int .u64) := by kernel_rfl
theorem ts129 : tySize Tryd.prog 129 = some 1 := by kernel_rfl
theorem tb129 : tyBytes Tryd.prog 129 = some 8 := by kernel_rfl
theorem tg129 : tyAgg Tryd.prog 129 = some false := by kernel_rfl
theorem tz129 : tyZero Tryd.prog 129 = some (.lit (.pointer none)) := by kernel_rfl
theorem ta129 : tyArray Tryd.prog 129 = none := by kernel_rfl
theorem tl129 : tySlice Tryd.prog 129 = none := by kernel_rfl
theorem ti129 : tyInt Tryd.prog 129 = none := by kernel_rfl
theorem tt129 : tyString Tryd.prog 129 = false := by kernel_rfl
theorem tq129 : tyBool Tryd.prog 129 = false := by kernel_rfl
theorem tn129 : tyNil Tryd.prog 129 = some .ptr := by kernel_rfl
theorem tp129 : tyPlaces Tryd.prog 129 = none := by kernel_rfl
theorem tu129 : Tryd.prog.underlying 129 = some (.pointer 5) := by kernel_rfl
theorem ts131 : tySize Tryd.prog 131 = some 1 := by kernel_rfl
theorem tb131 : tyBytes Tryd.prog 131 = some 24 := by kernel_rfl
theorem tg131 : tyAgg Tryd.prog 131 = some false := by kernel_rfl
theorem tz131 : tyZero Tryd.prog 131 = some (.lit (.slice none 0 0)) := by kernel_rfl
theorem ta131 : tyArray Tryd.prog 131 = none := by kernel_rfl
theorem tl131 : tySlice Tryd.prog 131 = some 20 := by kernel_rfl
theorem ti131 : tyInt Tryd.prog 131 = none := by kernel_rfl
theorem tt131 : tyString Tryd.prog 131 = false := by kernel_rfl
theorem tq131 : tyBool Tryd.prog 131 = false := by kernel_rfl
theorem tn131 : tyNil Tryd.prog 131 = some .slice := by kernel_rfl
theorem tp131 : tyPlaces Tryd.prog 131 = none := by kernel_rfl
theorem tu131 : Tryd.prog.underlying 131 = some (.slice 20) := by kernel_rfl
theorem ts133 : tySize Tryd.prog 133 = some 1 := by kernel_rfl
theorem tb133 : tyBytes Tryd.prog 133 = some 24 := by kernel_rfl
theorem tg133 : tyAgg Tryd.prog 133 = some false := by kernel_rfl
theorem tz133 : tyZero Tryd.prog 133 = some (.lit (.slice none 0 0)) := by kernel_rfl
theorem ta133 : tyArray Tryd.prog 133 = none := by kernel_rfl
theorem tl133 : tySlice Tryd.prog 133 = some 3 := by kernel_rfl
theorem ti133 : tyInt Tryd.prog 133 = none := by kernel_rfl
theorem tt133 : tyString Tryd.prog 133 = false := by kernel_rfl
theorem tq133 : tyBool Tryd.prog 133 = false := by kernel_rfl
theorem tn133 : tyNil Tryd.prog 133 = some .slice := by kernel_rfl
theorem tp133 : tyPlaces Tryd.prog 133 = none := by kernel_rfl
theorem tu133 : Tryd.prog.underlying 133 = some (.slice 3) := by kernel_rfl
theorem ts143 : tySize Tryd.prog 143 = some 0 := by kernel_rfl
theorem tb143 : tyBytes Tryd.prog 143 = some 0 := by kernel_rfl
theorem tg143 : tyAgg Tryd.prog 143 = some true := by kernel_rfl
theorem tz143 : tyZero Tryd.prog 143 = some (.agg []) := by kernel_rfl
theorem ta143 : tyArray Tryd.prog 143 = none := by kernel_rfl
theorem tl143 : tySlice Tryd.prog 143 = none := by kernel_rfl
theorem ti143 : tyInt Tryd.prog 143 = none := by kernel_rfl
theorem tt143 : tyString Tryd.prog 143 = false := by kernel_rfl
theorem tq143 : tyBool Tryd.prog 143 = false := by kernel_rfl
theorem tn143 : tyNil Tryd.prog 143 = none := by kernel_rfl
theorem tp143 : tyPlaces Tryd.prog 143 = some [] := by kernel_rfl
theorem ts144 : tySize Tryd.prog 144 = some 1 := by kernel_rfl
theorem tb144 : tyBytes Tryd.prog 144 = some 8 := by kernel_rfl
theorem tg144 : tyAgg Tryd.prog 144 = some false := by kernel_rfl
theorem tz144 : tyZero Tryd.prog 144 = some (.lit (.pointer none)) := by kernel_rfl
theorem ta144 : tyArray Tryd.prog 144 = none := by kernel_rfl
theorem tl144 : tySlice Tryd.prog 144 = none := by kernel_rfl
theorem ti144 : tyInt Tryd.prog 144 = none := by kernel_rfl
theorem tt144 : tyString Tryd.prog 144 = false := by kernel_rfl
theorem tq144 : tyBool Tryd.prog 144 = false := by kernel_rfl
theorem tn144 : tyNil Tryd.prog 144 = some .ptr := by kernel_rfl
theorem tp144 : tyPlaces Tryd.prog 144 = none := by kernel_rfl
theorem tu144 : Tryd.prog.underlying 144 = some (.pointer 146) := by kernel_rfl
theorem ts146 : tySize Tryd.prog 146 = some 2 := by kernel_rfl
theorem tb146 : tyBytes Tryd.prog 146 = some 24 := by kernel_rfl
theorem tg146 : tyAgg Tryd.prog 146 = some true := by kernel_rfl
theorem tz146 : tyZero Tryd.prog 146 = some (.agg [.lit (.string { data := #[] }), .lit (.bool false)]) := by kernel_rfl
theorem ta146 : tyArray Tryd.prog 146 = none := by kernel_rfl
theorem tl146 : tySlice Tryd.prog 146 = none := by kernel_rfl
theorem ti146 : tyInt Tryd.prog 146 = none := by kernel_rfl
theorem tt146 : tyString Tryd.prog 146 = false := by kernel_rfl
theorem tq146 : tyBool Tryd.prog 146 = false := by kernel_rfl
theorem tn146 : tyNil Tryd.prog 146 = none := by kernel_rfl
theorem tf146_0 : tyField Tryd.prog 146 0 = some (0, 9) := by kernel_rfl
theorem tf146_1 : tyField Tryd.prog 146 1 = some (1, 4) := by kernel_rfl
theorem tp146 : tyPlaces Tryd.prog 146 = some [(0, 1), (1, 1)] := by kernel_rfl
theorem tv146 : leaves Tryd.prog 20 146 = some [.str, .bool] := by kernel_rfl
theorem te146 : Tryd.prog.eqGuardType Tryd.prog.depth 146 = false := by kernel_rfl
theorem ts152 : tySize Tryd.prog 152 = some 1 := by kernel_rfl
theorem tb152 : tyBytes Tryd.prog 152 = some 8 := by kernel_rfl
theorem tg152 : tyAgg Tryd.prog 152 = some false := by kernel_rfl
theorem tz152 : tyZero Tryd.prog 152 = some (.lit (.pointer none)) := by kernel_rfl
theorem ta152 : tyArray Tryd.prog 152 = none := by kernel_rfl
theorem tl152 : tySlice Tryd.prog 152 = none := by kernel_rfl
theorem ti152 : tyInt Tryd.prog 152 = none := by kernel_rfl
theorem tt152 : tyString Tryd.prog 152 = false := by kernel_rfl
theorem tq152 : tyBool Tryd.prog 152 = false := by kernel_rfl
theorem tn152 : tyNil Tryd.prog 152 = none := by kernel_rfl
theorem tp152 : tyPlaces Tryd.prog 152 = none := by kernel_rfl
theorem ts161 : tySize Tryd.prog 161 = some 1 := by kernel_rfl
theorem tb161 : tyBytes Tryd.prog 161 = some 8 := by kernel_rfl
theorem tg161 : tyAgg Tryd.prog 161 = some false := by kernel_rfl
theorem tz161 : tyZero Tryd.prog 161 = some (.lit (.nilFunc)) := by kernel_rfl
theorem ta161 : tyArray Tryd.prog 161 = none := by kernel_rfl
theorem tl161 : tySlice Tryd.prog 161 = none := by kernel_rfl
theorem ti161 : tyInt Tryd.prog 161 = none := by kernel_rfl
theorem tt161 : tyString Tryd.prog 161 = false := by kernel_rfl
theorem tq161 : tyBool Tryd.prog 161 = false := by kernel_rfl
theorem tn161 : tyNil Tryd.prog 161 = some .func := by kernel_rfl
theorem tp161 : tyPlaces Tryd.prog 161 = none := by kernel_rfl
theorem ts165 : tySize Tryd.prog 165 = some 1 := by kernel_rfl
theorem tb165 : tyBytes Tryd.prog 165 = some 8 := by kernel_rfl
theorem tg165 : tyAgg Tryd.prog 165 = some false := by kernel_rfl
theorem tz165 : tyZero Tryd.prog 165 = some (.lit (.nilFunc)) := by kernel_rfl
theorem ta165 : tyArray Tryd.prog 165 = none := by kernel_rfl
theorem tl165 : tySlice Tryd.prog 165 = none := by kernel_rfl
theorem ti165 : tyInt Tryd.prog 165 = none := by kernel_rfl
theorem tt165 : tyString Tryd.prog 165 = false := by kernel_rfl
theorem tq165 : tyBool Tryd.prog 165 = false := by kernel_rfl
theorem tn165 : tyNil Tryd.prog 165 = some .func := by kernel_rfl
theorem tp165 : tyPlaces Tryd.prog 165 = none := by kernel_rfl
theorem ts168 : tySize Tryd.prog 168 = some 24 := by kernel_rfl
theorem tb168 : tyBytes Tryd.prog 168 = some 24 := by kernel_rfl
theorem tg168 : tyAgg Tryd.prog 168 = some true := by kernel_rfl
theorem tz168 : tyZero Tryd.prog 168 = some (.agg [.lit (.int .u8 0), .lit (.int .u8 0), .lit (.int .u8 0), .lit (.int .u8 0), .lit (.int .u8 0), .lit (.int .u8 0), .lit (.int .u8 0), .lit (.int .u8 0), .lit (.int .u8 0), .lit (.int .u8 0), .lit (.int .u8 0), .lit (.int .u8 0), .lit (.int .u8 0), .lit (.int .u8 0), .lit (.int .u8 0), .lit (.int .u8 0), .lit (.int .u8 0), .lit (.int .u8 0), .lit (.int .u8 0), .lit (.int .u8 0), .lit (.int .u8 0), .lit (.int .u8 0), .lit (.int .u8 0), .lit (.int .u8 0)]) := by kernel_rfl
theorem ta168 : tyArray Tryd.prog 168 = some (24, 5) := by kernel_rfl
theorem tl168 : tySlice Tryd.prog 168 = none := by kernel_rfl
theorem ti168 : tyInt Tryd.prog 168 = none := by kernel_rfl
theorem tt168 : tyString Tryd.prog 168 = false := by kernel_rfl
theorem tq168 : tyBool Tryd.prog 168 = false := by kernel_rfl
theorem tn168 : tyNil Tryd.prog 168 = none := by kernel_rfl
theorem tp168 : tyPlaces Tryd.prog 168 = none := by kernel_rfl
theorem tu168 : Tryd.prog.underlying 168 = some (.array 24 5) := by kernel_rfl
theorem ts169 : tySize Tryd.prog 169 = some 1 := by kernel_rfl
theorem tb169 : tyBytes Tryd.prog 169 = some 8 := by kernel_rfl
theorem tg169 : tyAgg Tryd.prog 169 = some false := by kernel_rfl
theorem tz169 : tyZero Tryd.prog 169 = some (.lit (.int .u64 0)) := by kernel_rfl
theorem ta169 : tyArray Tryd.prog 169 = none := by kernel_rfl
theorem tl169 : tySlice Tryd.prog 169 = none := by kernel_rfl
theorem ti169 : tyInt Tryd.prog 169 = some .u64 := by kernel_rfl
theorem tt169 : tyString Tryd.prog 169 = false := by kernel_rfl
theorem tq169 : tyBool Tryd.prog 169 = false := by kernel_rfl
theorem tn169 : tyNil Tryd.prog 169 = none := by kernel_rfl
theorem tp169 : tyPlaces Tryd.prog 169 = none := by kernel_rfl
theorem tu169 : Tryd.prog.underlying 169 = some (.int .u64) := by kernel_rfl
theorem ts189 : tySize Tryd.prog 189 = some 20 := by kernel_rfl
theorem tb189 : tyBytes Tryd.prog 189 = some 160 := by kernel_rfl
theorem tg189 : tyAgg Tryd.prog 189 = some true := by kernel_rfl
theorem tz189 : tyZero Tryd.prog 189 = some (.agg [.lit (.int .u64 0), .lit (.int .u64 0), .lit (.int .u64 0), .lit (.int .u64 0), .lit (.int .u64 0), .lit (.int .u64 0), .lit (.int .u64 0), .lit (.int .u64 0), .lit (.int .u64 0), .lit (.int .u64 0), .lit (.int .u64 0), .lit (.int .u64 0), .lit (.int .u64 0), .lit (.int .u64 0), .lit (.int .u64 0), .lit (.int .u64 0), .lit (.int .u64 0), .lit (.int .u64 0), .lit (.int .u64 0), .lit (.int .u64 0)]) := by kernel_rfl
theorem ta189 : tyArray Tryd.prog 189 = some (20, 169) := by kernel_rfl
theorem tl189 : tySlice Tryd.prog 189 = none := by kernel_rfl
theorem ti189 : tyInt Tryd.prog 189 = none := by kernel_rfl
theorem tt189 : tyString Tryd.prog 189 = false := by kernel_rfl
theorem tq189 : tyBool Tryd.prog 189 = false := by kernel_rfl
theorem tn189 : tyNil Tryd.prog 189 = none := by kernel_rfl
theorem tp189 : tyPlaces Tryd.prog 189 = none := by kernel_rfl
theorem tu189 : Tryd.prog.underlying 189 = some (.array 20 169) := by kernel_rfl
theorem ts190 : tySize Tryd.prog 190 = some 65 := by kernel_rfl
theorem tb190 : tyBytes Tryd.prog 190 = some 65 := by kernel_rfl
theorem tg190 : tyAgg Tryd.prog 190 = some true := by kernel_rfl
theorem tz190 : tyZero Tryd.prog 190 = some (.agg [.lit (.int .u8 0), .lit (.int .u8 0), .lit (.int .u8 0), .lit (.int .u8 0), .lit (.int .u8 0), .lit (.int .u8 0), .lit (.int .u8 0), .lit (.int .u8 0), .lit (.int .u8 0), .lit (.int .u8 0), .lit (.int .u8 0), .lit (.int .u8 0), .lit (.int .u8 0), .lit (.int .u8 0), .lit (.int .u8 0), .lit (.int .u8 0), .lit (.int .u8 0), .lit (.int .u8 0), .lit (.int .u8 0), .lit (.int .u8 0), .lit (.int .u8 0), .lit (.int .u8 0), .lit (.int .u8 0), .lit (.int .u8 0), .lit (.int .u8 0), .lit (.int .u8 0), .lit (.int .u8 0), .lit (.int .u8 0), .lit (.int .u8 0), .lit (.int .u8 0), .lit (.int .u8 0), .lit (.int .u8 0), .lit (.int .u8 0), .lit (.int .u8 0), .lit (.int .u8 0), .lit (.int .u8 0), .lit (.int .u8 0), .lit (.int .u8 0), .lit (.int .u8 0), .lit (.int .u8 0), .lit (.int .u8 0), .lit (.int .u8 0), .lit (.int .u8 0), .lit (.int .u8 0), .lit (.int .u8 0), .lit (.int .u8 0), .lit (.int .u8 0), .lit (.int .u8 0), .lit (.int .u8 0), .lit (.int .u8 0), .lit (.int .u8 0), .lit (.int .u8 0), .lit (.int .u8 0), .lit (.int .u8 0), .lit (.int .u8 0), .lit (.int .u8 0), .lit (.int .u8 0), .lit (.int .u8 0), .lit (.int .u8 0), .lit (.int .u8 0), .lit (.int .u8 0), .lit (.int .u8 0), .lit (.int .u8 0), .lit (.int .u8 0), .lit (.int .u8 0)]) := by kernel_rfl
theorem ta190 : tyArray Tryd.prog 190 = some (65, 5) := by kernel_rfl
theorem tl190 : tySlice Tryd.prog 190 = none := by kernel_rfl
theorem ti190 : tyInt Tryd.prog 190 = none := by kernel_rfl
theorem tt190 : tyString Tryd.prog 190 = false := by kernel_rfl
theorem tq190 : tyBool Tryd.prog 190 = false := by kernel_rfl
theorem tn190 : tyNil Tryd.prog 190 = none := by kernel_rfl
theorem tp190 : tyPlaces Tryd.prog 190 = none := by kernel_rfl
theorem tu190 : Tryd.prog.underlying 190 = some (.array 65 5) := by kernel_rfl
theorem ts199 : tySize Tryd.prog 199 = some 1 := by kernel_rfl
theorem tb199 : tyBytes Tryd.prog 199 = some 8 := by kernel_rfl
theorem tg199 : tyAgg Tryd.prog 199 = some false := by kernel_rfl
theorem tz199 : tyZero Tryd.prog 199 = some (.lit (.map none)) := by kernel_rfl
theorem ta199 : tyArray Tryd.prog 199 = none := by kernel_rfl
theorem tl199 : tySlice Tryd.prog 199 = none := by kernel_rfl
theorem ti199 : tyInt Tryd.prog 199 = none := by kernel_rfl
theorem tt199 : tyString Tryd.prog 199 = false := by kernel_rfl
theorem tq199 : tyBool Tryd.prog 199 = false := by kernel_rfl
theorem tn199 : tyNil Tryd.prog 199 = some .map := by kernel_rfl
theorem tp199 : tyPlaces Tryd.prog 199 = none := by kernel_rfl
theorem ts200 : tySize Tryd.prog 200 = some 1 := by kernel_rfl
theorem tb200 : tyBytes Tryd.prog 200 = some 8 := by kernel_rfl
theorem tg200 : tyAgg Tryd.prog 200 = some false := by kernel_rfl
theorem tz200 : tyZero Tryd.prog 200 = some (.lit (.nilFunc)) := by kernel_rfl
theorem ta200 : tyArray Tryd.prog 200 = none := by kernel_rfl
theorem tl200 : tySlice Tryd.prog 200 = none := by kernel_rfl
theorem ti200 : tyInt Tryd.prog 200 = none := by kernel_rfl
theorem tt200 : tyString Tryd.prog 200 = false := by kernel_rfl
theorem tq200 : tyBool Tryd.prog 200 = false := by kernel_rfl
theorem tn200 : tyNil Tryd.prog 200 = some .func := by kernel_rfl
theorem tp200 : tyPlaces Tryd.prog 200 = none := by kernel_rfl
theorem ts205 : tySize Tryd.prog 205 = some 256 := by kernel_rfl
theorem tb205 : tyBytes Tryd.prog 205 = some 256 := by kernel_rfl
theorem tg205 : tyAgg Tryd.prog 205 = some true := by kernel_rfl
theorem tz205 : tyZero Tryd.prog 205 = some (.agg [.lit (.int .u8 0), .lit (.int .u8 0), .lit (.int .u8 0), .lit (.int .u8 0), .lit (.int .u8 0), .lit (.int .u8 0), .lit (.int .u8 0), .lit (.int .u8 0), .lit (.int .u8 0), .lit (.int .u8 0), .lit (.int .u8 0), .lit (.int .u8 0), .lit (.int .u8 0), .lit (.int .u8 0), .lit (.int .u8 0), .lit (.int .u8 0), .lit (.int .u8 0), .lit (.int .u8 0), .lit (.int .u8 0), .lit (.int .u8 0), .lit (.int .u8 0), .lit (.int .u8 0), .lit (.int .u8 0), .lit (.int .u8 0), .lit (.int .u8 0), .lit (.int .u8 0), .lit (.int .u8 0), .lit (.int .u8 0), .lit (.int .u8 0), .lit (.int .u8 0), .lit (.int .u8 0), .lit (.int .u8 0), .lit (.int .u8 0), .lit (.int .u8 0), .lit (.int .u8 0), .lit (.int .u8 0), .lit (.int .u8 0), .lit (.int .u8 0), .lit (.int .u8 0), .lit (.int .u8 0), .lit (.int .u8 0), .lit (.int .u8 0), .lit (.int .u8 0), .lit (.int .u8 0), .lit (.int .u8 0), .lit (.int .u8 0), .lit (.int .u8 0), .lit (.int .u8 0), .lit (.int .u8 0), .lit (.int .u8 0), .lit (.int .u8 0), .lit (.int .u8 0), .lit (.int .u8 0), .lit (.int .u8 0), .lit (.int .u8 0), .lit (.int .u8 0), .lit (.int .u8 0), .lit (.int .u8 0), .lit (.int .u8 0), .lit (.int .u8 0), .lit (.int .u8 0), .lit (.int .u8 0), .lit (.int .u8 0), .lit (.int .u8 0), .lit (.int .u8 0), .lit (.int .u8 0), .lit (.int .u8 0), .lit (.int .u8 0), .lit (.int .u8 0), .lit (.int .u8 0), .lit (.int .u8 0), .lit (.int .u8 0), .lit (.int .u8 0), .lit (.int .u8 0), .lit (.int .u8 0), .lit (.int .u8 0), .lit (.int .u8 0), .lit (.int .u8 0), .lit (.int .u8 0), .lit (.int .u8 0), .lit (.int .u8 0), .lit (.int .u8 0), .lit (.int .u8 0), .lit (.int .u8 0), .lit (.int .u8 0), .lit (.int .u8 0), .lit (.int .u8 0), .lit (.int .u8 0), .lit (.int .u8 0), .lit (.int .u8 0), .lit (.int .u8 0), .lit (.int .u8 0), .lit (.int .u8 0), .lit (.int .u8 0), .lit (.int .u8 0), .lit (.int .u8 0), .lit (.int .u8 0), .lit (.int .u8 0), .lit (.int .u8 0), .lit (.int .u8 0), .lit (.int .u8 0), .lit (.int .u8 0), .lit (.int .u8 0), .lit (.int .u8 0), .lit (.int .u8 0), .lit (.int .u8 0), .lit (.int .u8 0), .lit (.int .u8 0), .lit (.int .u8 0), .lit (.int .u8 0), .lit (.int .u8 0), .lit (.int .u8 0), .lit (.int .u8 0), .lit (.int .u8 0), .lit (.int .u8 0), .lit (.int .u8 0), .lit (.int .u8 0), .lit (.int .u8 0), .lit (.int .u8 0), .lit (.int .u8 0), .lit (.int .u8 0), .lit (.int .u8 0), .lit (.int .u8 0), .lit (.int .u8 0), .lit (.int .u8 0), .lit (.int .u8 0), .lit (.int .u8 0), .lit (.int .u8 0), .lit (.int .u8 0), .lit (.int .u8 0), .lit (.int .u8 0), .lit (.int .u8 0), .lit (.int .u8 0), .lit (.int .u8 0), .lit (.int .u8 0), .lit (.int .u8 0), .lit (.int .u8 0), .lit (.int .u8 0), .lit (.int .u8 0), .lit (.int .u8 0), .lit (.int .u8 0), .lit (.int .u8 0), .lit (.int .u8 0), .lit (.int .u8 0), .lit (.int .u8 0), .lit (.int .u8 0), .lit (.int .u8 0), .lit (.int .u8 0), .lit (.int .u8 0), .lit (.int .u8 0), .lit (.int .u8 0), .lit (.int .u8 0), .lit (.int .u8 0), .lit (.int .u8 0), .lit (.int .u8 0), .lit (.int .u8 0), .lit (.int .u8 0), .lit (.int .u8 0), .lit (.int .u8 0), .lit (.int .u8 0), .lit (.int .u8 0), .lit (.int .u8 0), .lit (.int .u8 0), .lit (.int .u8 0), .lit (.int .u8 0), .lit (.int .u8 0), .lit (.int .u8 0), .lit (.int .u8 0), .lit (.int .u8 0), .lit (.int .u8 0), .lit (.int .u8 0), .lit (.int .u8 0), .lit (.int .u8 0), .lit (.int .u8 0), .lit (.int .u8 0), .lit (.int .u8 0), .lit (.int .u8 0), .lit (.int .u8 0), .lit (.int .u8 0), .lit (.int .u8 0), .lit (.int .u8 0), .lit (.int .u8 0), .lit (.int .u8 0), .lit (.int .u8 0), .lit (.int .u8 0), .lit (.int .u8 0), .lit (.int .u8 0), .lit (.int .u8 0), .lit (.int .u8 0), .lit (.int .u8 0), .lit (.int .u8 0), .lit (.int .u8 0), .lit (.int .u8 0), .lit (.int .u8 0), .lit (.int .u8 0), .lit (.int .u8 0), .lit (.int .u8 0), .lit (.int .u8 0), .lit (.int .u8 0), .lit (.int .u8 0), .lit (.int .u8 0), .lit (.int .u8 0), .lit (.int .u8 0), .lit (.int .u8 0), .lit (.int .u8 0), .lit (.int .u8 0), .lit (.int .u8 0), .lit (.int .u8 0), .lit (.int .u8 0), .lit (.int .u8 0), .lit (.int .u8 0), .lit (.int .u8 0), .lit (.int .u8 0), .lit (.int .u8 0), .lit (.int .u8 0), .lit (.int .u8 0), .lit (.int .u8 0), .lit (.int .u8 0), .lit (.int .u8 0), .lit (.int .u8 0), .lit (.int .u8 0), .lit (.int .u8 0), .lit (.int .u8 0), .lit (.int .u8 0), .lit (.int .u8 0), .lit (.int .u8 0), .lit (.int .u8 0), .lit (.int .u8 0), .lit (.int .u8 0), .lit (.int .u8 0), .lit (.int .u8 0), .lit (.int .u8 0), .lit (.int .u8 0), .lit (.int .u8 0), .lit (.int .u8 0), .lit (.int .u8 0), .lit (.int .u8 0), .lit (.int .u8 0), .lit (.int .u8 0), .lit (.int .u8 0), .lit (.int .u8 0), .lit (.int .u8 0), .lit (.int .u8 0), .lit (.int .u8 0), .lit (.int .u8 0), .lit (.int .u8 0), .lit (.int .u8 0), .lit (.int .u8 0), .lit (.int .u8 0), .lit (.int .u8 0), .lit (.int .u8 0), .lit (.int .u8 0), .lit (.int .u8 0), .lit (.int .u8 0), .lit (.int .u8 0), .lit (.int .u8 0)]) := by kernel_rfl
theorem ta205 : tyArray Tryd.prog 205 = some (256, 5) := by kernel_rfl
theorem tl205 : tySlice Tryd.prog 205 = none := by kernel_rfl
theorem ti205 : tyInt Tryd.prog 205 = none := by kernel_rfl
theorem tt205 : tyString Tryd.prog 205 = false := by kernel_rfl
theorem tq205 : tyBool Tryd.prog 205 = false := by kernel_rfl
theorem tn205 : tyNil Tryd.prog 205 = none := by kernel_rfl
theorem tp205 : tyPlaces Tryd.prog 205 = none := by kernel_rfl
theorem tu205 : Tryd.prog.underlying 205 = some (.array 256 5) := by kernel_rfl
theorem ts207 : tySize Tryd.prog 207 = some 2 := by kernel_rfl
theorem tb207 : tyBytes Tryd.prog 207 = some 2 := by kernel_rfl
theorem tg207 : tyAgg Tryd.prog 207 = some true := by kernel_rfl
theorem tz207 : tyZero Tryd.prog 207 = some (.agg [.lit (.int .u8 0), .lit (.int .u8 0)]) := by kernel_rfl
theorem ta207 : tyArray Tryd.prog 207 = none := by kernel_rfl
theorem tl207 : tySlice Tryd.prog 207 = none := by kernel_rfl
theorem ti207 : tyInt Tryd.prog 207 = none := by kernel_rfl
theorem tt207 : tyString Tryd.prog 207 = false := by kernel_rfl
theorem tq207 : tyBool Tryd.prog 207 = false := by kernel_rfl
theorem tn207 : tyNil Tryd.prog 207 = none := by kernel_rfl
theorem tf207_0 : tyField Tryd.prog 207 0 = some (0, 5) := by kernel_rfl
theorem tf207_1 : tyField Tryd.prog 207 1 = some (1, 5) := by kernel_rfl
theorem tp207 : tyPlaces Tryd.prog 207 = some [(0, 1), (1, 1)] := by kernel_rfl
theorem tv207 : leaves Tryd.prog 20 207 = some [.int, .int] := by kernel_rfl
theorem te207 : Tryd.prog.eqGuardType Tryd.prog.depth 207 = false := by kernel_rfl
theorem ts208 : tySize Tryd.prog 208 = some 32 := by kernel_rfl
theorem tb208 : tyBytes Tryd.prog 208 = some 32 := by kernel_rfl
theorem tg208 : tyAgg Tryd.prog 208 = some true := by kernel_rfl
theorem tz208 : tyZero Tryd.prog 208 = some (.agg [.lit (.int .u8 0), .lit (.int .u8 0), .lit (.int .u8 0), .lit (.int .u8 0), .lit (.int .u8 0), .lit (.int .u8 0), .lit (.int .u8 0), .lit (.int .u8 0), .lit (.int .u8 0), .lit (.int .u8 0), .lit (.int .u8 0), .lit (.int .u8 0), .lit (.int .u8 0), .lit (.int .u8 0), .lit (.int .u8 0), .lit (.int .u8 0), .lit (.int .u8 0), .lit (.int .u8 0), .lit (.int .u8 0), .lit (.int .u8 0), .lit (.int .u8 0), .lit (.int .u8 0), .lit (.int .u8 0), .lit (.int .u8 0), .lit (.int .u8 0), .lit (.int .u8 0), .lit (.int .u8 0), .lit (.int .u8 0), .lit (.int .u8 0), .lit (.int .u8 0), .lit (.int .u8 0), .lit (.int .u8 0)]) := by kernel_rfl
theorem ta208 : tyArray Tryd.prog 208 = some (16, 207) := by kernel_rfl
theorem tl208 : tySlice Tryd.prog 208 = none := by kernel_rfl
theorem ti208 : tyInt Tryd.prog 208 = none := by kernel_rfl
theorem tt208 : tyString Tryd.prog 208 = false := by kernel_rfl
theorem tq208 : tyBool Tryd.prog 208 = false := by kernel_rfl
theorem tn208 : tyNil Tryd.prog 208 = none := by kernel_rfl
theorem tp208 : tyPlaces Tryd.prog 208 = none := by kernel_rfl
theorem tu208 : Tryd.prog.underlying 208 = some (.array 16 207) := by kernel_rfl
theorem ts210 : tySize Tryd.prog 210 = some 32 := by kernel_rfl
theorem tb210 : tyBytes Tryd.prog 210 = some 32 := by kernel_rfl
theorem tg210 : tyAgg Tryd.prog 210 = some true := by kernel_rfl
theorem tz210 : tyZero Tryd.prog 210 = some (.agg [.lit (.int .u8 0), .lit (.int .u8 0), .lit (.int .u8 0), .lit (.int .u8 0), .lit (.int .u8 0), .lit (.int .u8 0), .lit (.int .u8 0), .lit (.int .u8 0), .lit (.int .u8 0), .lit (.int .u8 0), .lit (.int .u8 0), .lit (.int .u8 0), .lit (.int .u8 0), .lit (.int .u8 0), .lit (.int .u8 0), .lit (.int .u8 0), .lit (.int .u8 0), .lit (.int .u8 0), .lit (.int .u8 0), .lit (.int .u8 0), .lit (.int .u8 0), .lit (.int .u8 0), .lit (.int .u8 0), .lit (.int .u8 0), .lit (.int .u8 0), .lit (.int .u8 0), .lit (.int .u8 0), .lit (.int .u8 0), .lit (.int .u8 0), .lit (.int .u8 0), .lit (.int .u8 0), .lit (.int .u8 0)]) := by kernel_rfl
theorem ta210 : tyArray Tryd.prog 210 = some (32, 5) := by kernel_rfl
theorem tl210 : tySlice Tryd.prog 210 = none := by kernel_rfl
theorem ti210 : tyInt Tryd.prog 210 = none := by kernel_rfl
theorem tt210 : tyString Tryd.prog 210 = false := by kernel_rfl
theorem tq210 : tyBool Tryd.prog 210 = false := by kernel_rfl
theorem tn210 : tyNil Tryd.prog 210 = none := by kernel_rfl
theorem tp210 : tyPlaces Tryd.prog 210 = none := by kernel_rfl
theorem tu210 : Tryd.prog.underlying 210 = some (.array 32 5) := by kernel_rfl
theorem ts211 : tySize Tryd.prog 211 = some 64 := by kernel_rfl
theorem tb211 : tyBytes Tryd.prog 211 = some 64 := by kernel_rfl
theorem tg211 : tyAgg Tryd.prog 211 = some true := by kernel_rfl
theorem tz211 : tyZero Tryd.prog 211 = some (.agg [.lit (.int .u8 0), .lit (.int .u8 0), .lit (.int .u8 0), .lit (.int .u8 0), .lit (.int .u8 0), .lit (.int .u8 0), .lit (.int .u8 0), .lit (.int .u8 0), .lit (.int .u8 0), .lit (.int .u8 0), .lit (.int .u8 0), .lit (.int .u8 0), .lit (.int .u8 0), .lit (.int .u8 0), .lit (.int .u8 0), .lit (.int .u8 0), .lit (.int .u8 0), .lit (.int .u8 0), .lit (.int .u8 0), .lit (.int .u8 0), .lit (.int .u8 0), .lit (.int .u8 0), .lit (.int .u8 0), .lit (.int .u8 0), .lit (.int .u8 0), .lit (.int .u8 0), .lit (.int .u8 0), .lit (.int .u8 0), .lit (.int .u8 0), .lit (.int .u8 0), .lit (.int .u8 0), .lit (.int .u8 0), .lit (.int .u8 0), .lit (.int .u8 0), .lit (.int .u8 0), .lit (.int .u8 0), .lit (.int .u8 0), .lit (.int .u8 0), .lit (.int .u8 0), .lit (.int .u8 0), .lit (.int .u8 0), .lit (.int .u8 0), .lit (.int .u8 0), .lit (.int .u8 0), .lit (.int .u8 0), .lit (.int .u8 0), .lit (.int .u8 0), .lit (.int .u8 0), .lit (.int .u8 0), .lit (.int .u8 0), .lit (.int .u8 0), .lit (.int .u8 0), .lit (.int .u8 0), .lit (.int .u8 0), .lit (.int .u8 0), .lit (.int .u8 0), .lit (.int .u8 0), .lit (.int .u8 0), .lit (.int .u8 0), .lit (.int .u8 0), .lit (.int .u8 0), .lit (.int .u8 0), .lit (.int .u8 0), .lit (.int .u8 0)]) := by kernel_rfl
theorem ta211 : tyArray Tryd.prog 211 = some (64, 5) := by kernel_rfl
theorem tl211 : tySlice Tryd.prog 211 = none := by kernel_rfl
theorem ti211 : tyInt Tryd.prog 211 = none := by kernel_rfl
theorem tt211 : tyString Tryd.prog 211 = false := by kernel_rfl
theorem tq211 : tyBool Tryd.prog 211 = false := by kernel_rfl
theorem tn211 : tyNil Tryd.prog 211 = none := by kernel_rfl
theorem tp211 : tyPlaces Tryd.prog 211 = none := by kernel_rfl
theorem tu211 : Tryd.prog.underlying 211 = some (.array 64 5) := by kernel_rfl
theorem ts212 : tySize Tryd.prog 212 = some 8 := by kernel_rfl
theorem tb212 : tyBytes Tryd.prog 212 = some 8 := by kernel_rfl
theorem tg212 : tyAgg Tryd.prog 212 = some true := by kernel_rfl
theorem tz212 : tyZero Tryd.prog 212 = some (.agg [.lit (.int .u8 0), .lit (.int .u8 0), .lit (.int .u8 0), .lit (.int .u8 0), .lit (.int .u8 0), .lit (.int .u8 0), .lit (.int .u8 0), .lit (.int .u8 0)]) := by kernel_rfl
theorem ta212 : tyArray Tryd.prog 212 = some (8, 5) := by kernel_rfl
theorem tl212 : tySlice Tryd.prog 212 = none := by kernel_rfl
theorem ti212 : tyInt Tryd.prog 212 = none := by kernel_rfl
theorem tt212 : tyString Tryd.prog 212 = false := by kernel_rfl
theorem tq212 : tyBool Tryd.prog 212 = false := by kernel_rfl
theorem tn212 : tyNil Tryd.prog 212 = none := by kernel_rfl
theorem tp212 : tyPlaces Tryd.prog 212 = none := by kernel_rfl
theorem tu212 : Tryd.prog.underlying 212 = some (.array 8 5) := by kernel_rfl
theorem tw32 : zeroFits Tryd.prog 32 := zeroFits_of (by kernel_rfl)
theorem tw33 : zeroFits Tryd.prog 33 := zeroFits_of (by kernel_rfl)
theorem tw38 : zeroFits Tryd.prog 38 := zeroFits_of (by kernel_rfl)
theorem tw39 : zeroFits Tryd.prog 39 := zeroFits_of (by kernel_rfl)
theorem tw40 : zeroFits Tryd.prog 40 := zeroFits_of (by kernel_rfl)
theorem tw49 : zeroFits Tryd.prog 49 := zeroFits_of (by kernel_rfl)
theorem tw53 : zeroFits Tryd.prog 53 := zeroFits_of (by kernel_rfl)
theorem tw66 : zeroFits Tryd.prog 66 := zeroFits_of (by kernel_rfl)
theorem tw98 : zeroFits Tryd.prog 98 := zeroFits_of (by kernel_rfl)
theorem tw105 : zeroFits Tryd.prog 105 := zeroFits_of (by kernel_rfl)
theorem tw131 : zeroFits Tryd.prog 131 := zeroFits_of (by kernel_rfl)
theorem tw133 : zeroFits Tryd.prog 133 := zeroFits_of (by kernel_rfl)
theorem tr2 : Tryd.f2.results.toList = [] := by kernel_rfl
theorem tr3 : Tryd.f3.results.toList = [ResultVar.tmp 4] := by kernel_rfl
theorem tr4 : Tryd.f4.results.toList = [ResultVar.tmp 6] := by kernel_rfl
theorem tr5 : Tryd.f5.results.toList = [ResultVar.tmp 14] := by kernel_rfl
theorem tr6 : Tryd.f6.results.toList = [ResultVar.tmp 4] := by kernel_rfl
theorem tr7 : Tryd.f7.results.toList = [ResultVar.tmp 4] := by kernel_rfl
theorem tr8 : Tryd.f8.results.toList = [ResultVar.tmp 4] := by kernel_rfl
theorem tr9 : Tryd.f9.results.toList = [ResultVar.tmp 0] := by kernel_rfl
theorem tr10 : Tryd.f10.results.toList = [ResultVar.tmp 2, ResultVar.tmp 3] := by kernel_rfl
theorem tr11 : Tryd.f11.results.toList = [ResultVar.tmp 2, ResultVar.tmp 3] := by kernel_rfl
theorem tr12 : Tryd.f12.results.toList = [ResultVar.cell 2 23, ResultVar.tmp 3, ResultVar.tmp 4] := by kernel_rfl
theorem tr13 : Tryd.f13.results.toList = [ResultVar.cell 2 23, ResultVar.tmp 3, ResultVar.tmp 4] := by kernel_rfl
theorem tr14 : Tryd.f14.results.toList = [ResultVar.tmp 2] := by kernel_rfl
theorem tr15 : Tryd.f15.results.toList = [ResultVar.tmp 2] := by kernel_rfl
theorem tr16 : Tryd.f16.results.toList = [ResultVar.tmp 2] := by kernel_rfl
theorem tr17 : Tryd.f17.results.toList = [ResultVar.tmp 2] := by kernel_rfl
theorem tr18 : Tryd.f18.results.toList = [ResultVar.tmp 6] := by kernel_rfl
theorem tr19 : Tryd.f19.results.toList = [ResultVar.tmp 0] := by kernel_rfl
theorem tr20 : Tryd.f20.results.toList = [ResultVar.tmp 4] := by kernel_rfl
theorem tr21 : Tryd.f21.results.toList = [ResultVar.tmp 8] := by kernel_rfl
theorem tr22 : Tryd.f22.results.toList = [ResultVar.tmp 6] := by kernel_rfl
theorem tr23 : Tryd.f23.results.toList = [ResultVar.tmp 6] := by kernel_rfl
theorem tr24 : Tryd.f24.results.toList = [ResultVar.tmp 6] := by kernel_rfl
theorem tr25 : Tryd.f25.results.toList = [ResultVar.tmp 6] := by kernel_rfl
theorem tr26 : Tryd.f26.results.toList = [ResultVar.tmp 4] := by kernel_rfl
theorem tr27 : Tryd.f27.results.toList = [ResultVar.tmp 0] := by kernel_rfl
theorem tr28 : Tryd.f28.results.toList = [ResultVar.tmp 2, ResultVar.tmp 3] := by kernel_rfl
theorem tr29 : Tryd.f29.results.toList = [ResultVar.cell 2 55] := by kernel_rfl
theorem tr30 : Tryd.f30.results.toList = [ResultVar.tmp 2, ResultVar.tmp 3] := by kernel_rfl
theorem tr31 : Tryd.f31.results.toList = [ResultVar.cell 2 55, ResultVar.cell 3 4] := by kernel_rfl
theorem tr32 : Tryd.f32.results.toList = [ResultVar.cell 2 51, ResultVar.tmp 3] := by kernel_rfl
theorem tr33 : Tryd.f33.results.toList = [ResultVar.tmp 2] := by kernel_rfl
theorem tr34 : Tryd.f34.results.toList = [ResultVar.tmp 2] := by kernel_rfl
theorem tr35 : Tryd.f35.results.toList = [ResultVar.tmp 4] := by kernel_rfl
theorem tr36 : Tryd.f36.results.toList = [ResultVar.tmp 2] := by kernel_rfl
theorem tr37 : Tryd.f37.results.toList = [ResultVar.tmp 2] := by kernel_rfl
theorem tr38 : Tryd.f38.results.toList = [ResultVar.tmp 2] := by kernel_rfl
theorem tr39 : Tryd.f39.results.toList = [ResultVar.tmp 2, ResultVar.tmp 3] := by kernel_rfl
theorem tr40 : Tryd.f40.results.toList = [ResultVar.tmp 2] := by kernel_rfl
theorem tr41 : Tryd.f41.results.toList = [ResultVar.tmp 2, ResultVar.tmp 3] := by kernel_rfl
theorem tr42 : Tryd.f42.results.toList = [ResultVar.tmp 2, ResultVar.tmp 3, ResultVar.tmp 4] := by kernel_rfl
theorem tr43 : Tryd.f43.results.toList = [ResultVar.tmp 2, ResultVar.tmp 3, ResultVar.tmp 4] := by kernel_rfl
theorem tr44 : Tryd.f44.results.toList = [ResultVar.tmp 2] := by kernel_rfl
theorem tr45 : Tryd.f45.results.toList = [ResultVar.tmp 0] := by kernel_rfl
theorem tr46 : Tryd.f46.results.toList = [ResultVar.tmp 4, ResultVar.tmp 5] := by kernel_rfl
theorem tr47 : Tryd.f47.results.toList = [ResultVar.tmp 2] := by kernel_rfl
theorem tr48 : Tryd.f48.results.toList = [ResultVar.tmp 2] := by kernel_rfl
theorem tr49 : Tryd.f49.results.toList = [ResultVar.tmp 4] := by kernel_rfl
theorem tr50 : Tryd.f50.results.toList = [ResultVar.tmp 2] := by kernel_rfl
theorem tr51 : Tryd.f51.results.toList = [ResultVar.tmp 4, ResultVar.tmp 5, ResultVar.tmp 6] := by kernel_rfl
theorem tr52 : Tryd.f52.results.toList = [ResultVar.tmp 2, ResultVar.tmp 3] := by kernel_rfl
theorem tr53 : Tryd.f53.results.toList = [ResultVar.tmp 4] := by kernel_rfl
theorem tr54 : Tryd.f54.results.toList = [ResultVar.tmp 2, ResultVar.tmp 3] := by kernel_rfl
theorem tr55 : Tryd.f55.results.toList = [ResultVar.cell 2 23] := by kernel_rfl
theorem tr56 : Tryd.f56.results.toList = [ResultVar.tmp 4] := by kernel_rfl
theorem tr57 : Tryd.f57.results.toList = [ResultVar.tmp 2] := by kernel_rfl
theorem tr58 : Tryd.f58.results.toList = [ResultVar.tmp 6] := by kernel_rfl
theorem tr59 : Tryd.f59.results.toList = [ResultVar.tmp 4] := by kernel_rfl
theorem tr60 : Tryd.f60.results.toList = [ResultVar.tmp 2] := by kernel_rfl
theorem tr61 : Tryd.f61.results.toList = [ResultVar.tmp 0] := by kernel_rfl
theorem tr62 : Tryd.f62.results.toList = [ResultVar.tmp 2] := by kernel_rfl
theorem tr63 : Tryd.f63.results.toList = [ResultVar.tmp 2] := by kernel_rfl
theorem tr64 : Tryd.f64.results.toList = [ResultVar.tmp 2] := by kernel_rfl
theorem tr65 : Tryd.f65.results.toList = [ResultVar.tmp 4, ResultVar.tmp 5] := by kernel_rfl
theorem tr66 : Tryd.f66.results.toList = [ResultVar.tmp 2] := by kernel_rfl
theorem tr67 : Tryd.f67.results.toList = [ResultVar.tmp 2] := by kernel_rfl
theorem tr68 : Tryd.f68.results.toList = [ResultVar.tmp 2] := by kernel_rfl
theorem tr69 : Tryd.f69.results.toList = [ResultVar.tmp 2] := by kernel_rfl
theorem tr70 : Tryd.f70.results.toList = [ResultVar.tmp 4, ResultVar.tmp 5] := by kernel_rfl
theorem tr71 : Tryd.f71.results.toList = [ResultVar.tmp 4] := by kernel_rfl
theorem tr72 : Tryd.f72.results.toList = [ResultVar.tmp 4] := by kernel_rfl
theorem tr73 : Tryd.f73.results.toList = [ResultVar.tmp 4] := by kernel_rfl
theorem tr74 : Tryd.f74.results.toList = [ResultVar.tmp 4] := by kernel_rfl
theorem tr75 : Tryd.f75.results.toList = [ResultVar.tmp 2] := by kernel_rfl
theorem tr76 : Tryd.f76.results.toList = [ResultVar.tmp 4] := by kernel_rfl
theorem tr77 : Tryd.f77.results.toList = [ResultVar.tmp 2] := by kernel_rfl
theorem tr78 : Tryd.f78.results.toList = [] := by kernel_rfl
theorem tr79 : Tryd.f79.results.toList = [ResultVar.cell 2 55] := by kernel_rfl
theorem tr80 : Tryd.f80.results.toList = [ResultVar.tmp 2] := by kernel_rfl
theorem tr81 : Tryd.f81.results.toList = [ResultVar.tmp 2] := by kernel_rfl
theorem tr82 : Tryd.f82.results.toList = [ResultVar.tmp 2] := by kernel_rfl
theorem tr83 : Tryd.f83.results.toList = [ResultVar.cell 2 55] := by kernel_rfl
theorem tr84 : Tryd.f84.results.toList = [ResultVar.tmp 2] := by kernel_rfl
theorem tr85 : Tryd.f85.results.toList = [ResultVar.tmp 2] := by kernel_rfl
theorem tr86 : Tryd.f86.results.toList = [ResultVar.tmp 2] := by kernel_rfl
theorem tr87 : Tryd.f87.results.toList = [ResultVar.tmp 4] := by kernel_rfl
theorem tr88 : Tryd.f88.results.toList = [ResultVar.tmp 2] := by kernel_rfl
theorem tr89 : Tryd.f89.results.toList = [ResultVar.tmp 4] := by kernel_rfl
theorem tr90 : Tryd.f90.results.toList = [] := by kernel_rfl
theorem tr91 : Tryd.f91.results.toList = [ResultVar.tmp 2] := by kernel_rfl
theorem tr92 : Tryd.f92.results.toList = [ResultVar.tmp 8] := by kernel_rfl
theorem tr93 : Tryd.f93.results.toList = [ResultVar.tmp 4, ResultVar.tmp 5, ResultVar.tmp 6] := by kernel_rfl
theorem tr94 : Tryd.f94.results.toList = [ResultVar.tmp 2] := by kernel_rfl
theorem tr95 : Tryd.f95.results.toList = [ResultVar.tmp 2] := by kernel_rfl
theorem tr96 : Tryd.f96.results.toList = [ResultVar.tmp 6] := by kernel_rfl
theorem tr97 : Tryd.f97.results.toList = [ResultVar.tmp 2] := by kernel_rfl
theorem tr98 : Tryd.f98.results.toList = [ResultVar.tmp 4] := by kernel_rfl
theorem tr99 : Tryd.f99.results.toList = [ResultVar.tmp 2] := by kernel_rfl
theorem tr100 : Tryd.f100.results.toList = [ResultVar.tmp 2] := by kernel_rfl
theorem tr101 : Tryd.f101.results.toList = [ResultVar.cell 6 109] := by kernel_rfl
theorem tr102 : Tryd.f102.results.toList = [ResultVar.tmp 4] := by kernel_rfl
theorem tr103 : Tryd.f103.results.toList = [ResultVar.tmp 4] := by kernel_rfl
theorem tr104 : Tryd.f104.results.toList = [ResultVar.tmp 2] := by kernel_rfl
theorem tr105 : Tryd.f105.results.toList = [ResultVar.tmp 4, ResultVar.tmp 5] := by kernel_rfl
theorem tr106 : Tryd.f106.results.toList = [ResultVar.tmp 4] := by kernel_rfl
theorem tr107 : Tryd.f107.results.toList = [ResultVar.tmp 4] := by kernel_rfl
theorem tr108 : Tryd.f108.results.toList = [] := by kernel_rfl
theorem tr109 : Tryd.f109.results.toList = [ResultVar.tmp 2] := by kernel_rfl
theorem tr110 : Tryd.f110.results.toList = [ResultVar.tmp 2] := by kernel_rfl
theorem tr111 : Tryd.f111.results.toList = [ResultVar.tmp 2] := by kernel_rfl
theorem tr112 : Tryd.f112.results.toList = [ResultVar.tmp 2] := by kernel_rfl
theorem tr113 : Tryd.f113.results.toList = [ResultVar.tmp 2] := by kernel_rfl
theorem tr114 : Tryd.f114.results.toList = [] := by kernel_rfl
theorem tr115 : Tryd.f115.results.toList = [ResultVar.tmp 2] := by kernel_rfl
theorem tr116 : Tryd.f116.results.toList = [ResultVar.tmp 2] := by kernel_rfl
theorem tr117 : Tryd.f117.results.toList = [ResultVar.tmp 4] := by kernel_rfl
theorem tr119 : Tryd.f119.results.toList = [ResultVar.tmp 4] := by kernel_rfl
theorem tr120 : Tryd.f120.results.toList = [ResultVar.tmp 4] := by kernel_rfl
theorem tr121 : Tryd.f121.results.toList = [ResultVar.tmp 4] := by kernel_rfl
theorem tr122 : Tryd.f122.results.toList = [ResultVar.tmp 4] := by kernel_rfl
theorem tr123 : Tryd.f123.results.toList = [ResultVar.tmp 4] := by kernel_rfl
theorem tr124 : Tryd.f124.results.toList = [ResultVar.tmp 6] := by kernel_rfl
theorem tr125 : Tryd.f125.results.toList = [ResultVar.tmp 2, ResultVar.tmp 3] := by kernel_rfl
theorem tr126 : Tryd.f126.results.toList = [ResultVar.tmp 2, ResultVar.tmp 3] := by kernel_rfl
theorem tr127 : Tryd.f127.results.toList = [ResultVar.tmp 4] := by kernel_rfl
theorem tr128 : Tryd.f128.results.toList = [ResultVar.tmp 3] := by kernel_rfl
theorem tr129 : Tryd.f129.results.toList = [ResultVar.tmp 2] := by kernel_rfl
theorem tr130 : Tryd.f130.results.toList = [ResultVar.tmp 4, ResultVar.tmp 5] := by kernel_rfl
theorem tr131 : Tryd.f131.results.toList = [ResultVar.tmp 6, ResultVar.tmp 7] := by kernel_rfl
theorem tr132 : Tryd.f132.results.toList = [ResultVar.tmp 4] := by kernel_rfl
theorem tr133 : Tryd.f133.results.toList = [ResultVar.tmp 3] := by kernel_rfl
theorem tr134 : Tryd.f134.results.toList = [ResultVar.tmp 2] := by kernel_rfl
theorem tr135 : Tryd.f135.results.toList = [ResultVar.tmp 6, ResultVar.tmp 7] := by kernel_rfl
theorem tr136 : Tryd.f136.results.toList = [] := by kernel_rfl
theorem tr137 : Tryd.f137.results.toList = [ResultVar.tmp 4] := by kernel_rfl
theorem tr138 : Tryd.f138.results.toList = [ResultVar.tmp 4] := by kernel_rfl
theorem tr139 : Tryd.f139.results.toList = [ResultVar.tmp 2] := by kernel_rfl
theorem tr140 : Tryd.f140.results.toList = [ResultVar.tmp 2] := by kernel_rfl
theorem tr141 : Tryd.f141.results.toList = [] := by kernel_rfl
theorem tr142 : Tryd.f142.results.toList = [ResultVar.tmp 10, ResultVar.tmp 11] := by kernel_rfl
theorem tr143 : Tryd.f143.results.toList = [ResultVar.tmp 2] := by kernel_rfl
theorem tr144 : Tryd.f144.results.toList = [ResultVar.tmp 2, ResultVar.tmp 3] := by kernel_rfl
theorem tr146 : Tryd.f146.results.toList = [ResultVar.tmp 4] := by kernel_rfl
theorem tr148 : Tryd.f148.results.toList = [ResultVar.tmp 2] := by kernel_rfl
theorem tr149 : Tryd.f149.results.toList = [ResultVar.tmp 4] := by kernel_rfl
theorem tr150 : Tryd.f150.results.toList = [ResultVar.tmp 4] := by kernel_rfl
theorem tr151 : Tryd.f151.results.toList = [ResultVar.tmp 2, ResultVar.tmp 3] := by kernel_rfl
theorem tr152 : Tryd.f152.results.toList = [ResultVar.tmp 4] := by kernel_rfl
theorem tr153 : Tryd.f153.results.toList = [ResultVar.tmp 2, ResultVar.tmp 3] := by kernel_rfl
theorem tr154 : Tryd.f154.results.toList = [ResultVar.tmp 4] := by kernel_rfl
theorem tr155 : Tryd.f155.results.toList = [ResultVar.tmp 2] := by kernel_rfl
theorem tr156 : Tryd.f156.results.toList = [ResultVar.tmp 4] := by kernel_rfl
theorem tr157 : Tryd.f157.results.toList = [ResultVar.tmp 4] := by kernel_rfl
theorem tr158 : Tryd.f158.results.toList = [ResultVar.tmp 4] := by kernel_rfl
theorem tr159 : Tryd.f159.results.toList = [ResultVar.tmp 6, ResultVar.tmp 7] := by kernel_rfl
theorem tr160 : Tryd.f160.results.toList = [ResultVar.tmp 4] := by kernel_rfl
theorem tr161 : Tryd.f161.results.toList = [ResultVar.tmp 4] := by kernel_rfl
theorem tr162 : Tryd.f162.results.toList = [ResultVar.tmp 6, ResultVar.tmp 7] := by kernel_rfl
theorem tr164 : Tryd.f164.results.toList = [ResultVar.tmp 4] := by kernel_rfl
theorem tr165 : Tryd.f165.results.toList = [ResultVar.tmp 2] := by kernel_rfl
theorem tr166 : Tryd.f166.results.toList = [ResultVar.tmp 2] := by kernel_rfl
theorem tr167 : Tryd.f167.results.toList = [ResultVar.tmp 2] := by kernel_rfl
theorem tr168 : Tryd.f168.results.toList = [ResultVar.tmp 2] := by kernel_rfl
theorem tr169 : Tryd.f169.results.toList = [ResultVar.tmp 2] := by kernel_rfl
theorem tr170 : Tryd.f170.results.toList = [ResultVar.tmp 2, ResultVar.tmp 3] := by kernel_rfl
theorem tr172 : Tryd.f172.results.toList = [ResultVar.tmp 2, ResultVar.tmp 3] := by kernel_rfl
theorem tr173 : Tryd.f173.results.toList = [ResultVar.tmp 2] := by kernel_rfl
theorem tr174 : Tryd.f174.results.toList = [ResultVar.tmp 2, ResultVar.tmp 3] := by kernel_rfl
theorem tr175 : Tryd.f175.results.toList = [ResultVar.tmp 2] := by kernel_rfl
theorem tr176 : Tryd.f176.results.toList = [ResultVar.tmp 4] := by kernel_rfl
theorem tr177 : Tryd.f177.results.toList = [ResultVar.tmp 2] := by kernel_rfl
theorem tr178 : Tryd.f178.results.toList = [ResultVar.tmp 4] := by kernel_rfl
theorem tr179 : Tryd.f179.results.toList = [ResultVar.tmp 4] := by kernel_rfl
theorem tr180 : Tryd.f180.results.toList = [] := by kernel_rfl
theorem tr181 : Tryd.f181.results.toList = [ResultVar.tmp 2] := by kernel_rfl
theorem tr182 : Tryd.f182.results.toList = [ResultVar.tmp 4] := by kernel_rfl
theorem tr183 : Tryd.f183.results.toList = [ResultVar.tmp 6, ResultVar.tmp 7] := by kernel_rfl
theorem tr184 : Tryd.f184.results.toList = [ResultVar.tmp 2] := by kernel_rfl
theorem tr185 : Tryd.f185.results.toList = [ResultVar.tmp 2] := by kernel_rfl
theorem tr186 : Tryd.f186.results.toList = [ResultVar.tmp 4] := by kernel_rfl
theorem tr187 : Tryd.f187.results.toList = [ResultVar.tmp 2] := by kernel_rfl
theorem tr188 : Tryd.f188.results.toList = [ResultVar.tmp 2] := by kernel_rfl
theorem tr189 : Tryd.f189.results.toList = [ResultVar.tmp 4, ResultVar.tmp 5] := by kernel_rfl
theorem tr190 : Tryd.f190.results.toList = [ResultVar.tmp 2] := by kernel_rfl
theorem tr191 : Tryd.f191.results.toList = [ResultVar.tmp 4, ResultVar.tmp 5] := by kernel_rfl
theorem tr192 : Tryd.f192.results.toList = [ResultVar.tmp 4] := by kernel_rfl
theorem tr217 : Tryd.f217.results.toList = [] := by kernel_rfl
attribute [go_sem] ts2 tb2 tg2 tz2 ta2 tl2 ti2 tt2 tq2 tn2 tp2 tu2 ts3 tb3 tg3 tz3 ta3 tl3 ti3 tt3
attribute [go_sem] tq3 tn3 tp3 tu3 ts4 tb4 tg4 tz4 ta4 tl4 ti4 tt4 tq4 tn4 tp4 tu4 ts5 tb5 tg5 tz5
attribute [go_sem] ta5 tl5 ti5 tt5 tq5 tn5 tp5 tu5 ts9 tb9 tg9 tz9 ta9 tl9 ti9 tt9 tq9 tn9 tp9 tu9
attribute [go_sem] ts20 tb20 tg20 tz20 ta20 tl20 ti20 tt20 tq20 tn20 tp20 ts21 tb21 tg21 tz21 ta21 tl21 ti21 tt21 tq21
attribute [go_sem] tn21 tp21 tu21 ts23 tb23 tg23 tz23 ta23 tl23 ti23 tt23 tq23 tn23 tf23_0 tf23_1 tf23_2 tf23_3 tf23_4 tf23_5 tf23_6
attribute [go_sem] tf23_7 tf23_8 tp23 tv23 te23 ts27 tb27 tg27 tz27 ta27 tl27 ti27 tt27 tq27 tn27 tp27 tu27 ts32 tb32 tg32
attribute [go_sem] tz32 ta32 tl32 ti32 tt32 tq32 tn32 tp32 tu32 ts33 tb33 tg33 tz33 ta33 tl33 ti33 tt33 tq33 tn33 tp33
attribute [go_sem] tu33 ts37 tb37 tg37 tz37 ta37 tl37 ti37 tt37 tq37 tn37 tf37_0 tf37_1 tf37_2 tp37 tv37 te37 ts38 tb38 tg38
attribute [go_sem] tz38 ta38 tl38 ti38 tt38 tq38 tn38 tp38 tu38 ts39 tb39 tg39 tz39 ta39 tl39 ti39 tt39 tq39 tn39 tp39
attribute [go_sem] tu39 ts40 tb40 tg40 tz40 ta40 tl40 ti40 tt40 tq40 tn40 tp40 tu40 ts48 tb48 tg48 tz48 ta48 tl48 ti48
attribute [go_sem] tt48 tq48 tn48 tp48 tu48 ts49 tb49 tg49 tz49 ta49 tl49 ti49 tt49 tq49 tn49 tp49 tu49 ts51 tb51 tg51
attribute [go_sem] tz51 ta51 tl51 ti51 tt51 tq51 tn51 tf51_0 tf51_1 tf51_2 tf51_3 tf51_4 tf51_5 tp51 ts53 tb53 tg53 tz53 ta53 tl53
attribute [go_sem] ti53 tt53 tq53 tn53 tp53 tu53 ts55 tb55 tg55 tz55 ta55 tl55 ti55 tt55 tq55 tn55 tf55_0 tf55_1 tf55_2 tf55_3
attribute [go_sem] tf55_4 tf55_5 tp55 ts66 tb66 tg66 tz66 ta66 tl66 ti66 tt66 tq66 tn66 tp66 tu66 ts77 tb77 tg77 tz77 ta77
attribute [go_sem] tl77 ti77 tt77 tq77 tn77 tp77 tu77 ts79 tb79 tg79 tz79 ta79 tl79 ti79 tt79 tq79 tn79 tf79_0 tf79_1 tp79
attribute [go_sem] ts80 tb80 tg80 tz80 ta80 tl80 ti80 tt80 tq80 tn80 tp80 ts82 tb82 tg82 tz82 ta82 tl82 ti82 tt82 tq82
attribute [go_sem] tn82 tp82 tu82 ts89 tb89 tg89 tz89 ta89 tl89 ti89 tt89 tq89 tn89 tp89 tu89 ts98 tb98 tg98 tz98 ta98
attribute [go_sem] tl98 ti98 tt98 tq98 tn98 tp98 tu98 ts105 tb105 tg105 tz105 ta105 tl105 ti105 tt105 tq105 tn105 tp105 tu105 ts107
attribute [go_sem] tb107 tg107 tz107 ta107 tl107 ti107 tt107 tq107 tn107 tf107_0 tf107_1 tp107 tv107 te107 ts109 tb109 tg109 tz109 ta109 tl109
attribute [go_sem] ti109 tt109 tq109 tn109 tf109_0 tf109_1 tf109_2 tp109 tv109 te109 ts120 tb120 tg120 tz120 ta120 tl120 ti120 tt120 tq120 tn120
attribute [go_sem] tp120 tu120 ts125 tb125 tg125 tz125 ta125 tl125 ti125 tt125 tq125 tn125 tp125 ts127 tb127 tg127 tz127 ta127 tl127 ti127
attribute [go_sem] tt127 tq127 tn127 tp127 tu127 ts129 tb129 tg129 tz129 ta129 tl129 ti129 tt129 tq129 tn129 tp129 tu129 ts131 tb131 tg131
attribute [go_sem] tz131 ta131 tl131 ti131 tt131 tq131 tn131 tp131 tu131 ts133 tb133 tg133 tz133 ta133 tl133 ti133 tt133 tq133 tn133 tp133
attribute [go_sem] tu133 ts143 tb143 tg143 tz143 ta143 tl143 ti143 tt143 tq143 tn143 tp143 ts144 tb144 tg144 tz144 ta144 tl144 ti144 tt144
attribute [go_sem] tq144 tn144 tp144 tu144 ts146 tb146 tg146 tz146 ta146 tl146 ti146 tt146 tq146 tn146 tf146_0 tf146_1 tp146 tv146 te146 ts152
attribute [go_sem] tb152 tg152 tz152 ta152 tl152 ti152 tt152 tq152 tn152 tp152 ts161 tb161 tg161 tz161 ta161 tl161 ti161 tt161 tq161 tn161
attribute [go_sem] tp161 ts165 tb165 tg165 tz165 ta165 tl165 ti165 tt165 tq165 tn165 tp165 ts168 tb168 tg168 tz168 ta168 tl168 ti168 tt168
attribute [go_sem] tq168 tn168 tp168 tu168 ts169 tb169 tg169 tz169 ta169 tl169 ti169 tt169 tq169 tn169 tp169 tu169 ts189 tb189 tg189 tz189
attribute [go_sem] ta189 tl189 ti189 tt189 tq189 tn189 tp189 tu189 ts190 tb190 tg190 tz190 ta190 tl190 ti190 tt190 tq190 tn190 tp190 tu190
attribute [go_sem] ts199 tb199 tg199 tz199 ta199 tl199 ti199 tt199 tq199 tn199 tp199 ts200 tb200 tg200 tz200 ta200 tl200 ti200 tt200 tq200
attribute [go_sem] tn200 tp200 ts205 tb205 tg205 tz205 ta205 tl205 ti205 tt205 tq205 tn205 tp205 tu205 ts207 tb207 tg207 tz207 ta207 tl207
attribute [go_sem] ti207 tt207 tq207 tn207 tf207_0 tf207_1 tp207 tv207 te207 ts208 tb208 tg208 tz208 ta208 tl208 ti208 tt208 tq208 tn208 tp208
attribute [go_sem] tu208 ts210 tb210 tg210 tz210 ta210 tl210 ti210 tt210 tq210 tn210 tp210 tu210 ts211 tb211 tg211 tz211 ta211 tl211 ti211
attribute [go_sem] tt211 tq211 tn211 tp211 tu211 ts212 tb212 tg212 tz212 ta212 tl212 ti212 tt212 tq212 tn212 tp212 tu212 tw32 tw33 tw38
attribute [go_sem] tw39 tw40 tw49 tw53 tw66 tw98 tw105 tw131 tw133 tc9 tc10 tc11 tc12 tc13 tc14 tc15 tc16 tc17 tc18 tc19
attribute [go_sem] tc20 tc21 tc22 tc23 tc24 tc25 tc26 tc27 tc28 tc29 tc30 tc31 tc32 tc33 tc34 tc35 tc36 tc37 tc38 tc39
attribute [go_sem] tc40 tc41 tc42 tc43 tc44 tc45 tc46 tc47 tc48 tc49 tc50 tc51 tc52 tc53 tc54 tc55 tc56 tc57 tc58 tc59
attribute [go_sem] tc60 tc61 tc62 tc63 tc64 tc65 tc66 tc67 tc68 tc69 tc70 tc71 tc72 tc73 tc74 tc75 tc76 tc77 tc78 tc79
attribute [go_sem] tc80 tc81 tc82 tc83 tc84 tc85 tc86 tc87 tc88 tc89 tc90 tc91 tc92 tc93 tc94 tc95 tc96 tc97 tc98 tc99
attribute [go_sem] tc100 tc101 tc102 tc103 tc104 tc105 tc106 tc107 tc108 tc109 tc110 tc111 tc112 tc113 tc114 tc115 tc116 tc117 tc119 tc120
attribute [go_sem] tc121 tc122 tc123 tc124 tc125 tc126 tc127 tc129 tc130 tc131 tc132 tc134 tc135 tc136 tc137 tc138 tc139 tc140 tc141 tc142
attribute [go_sem] tc143 tc144 tc146 tc148 tc149 tc150 tc151 tc152 tc153 tc154 tc155 tc156 tc157 tc158 tc159 tc160 tc161 tc162 tc164 tc165
attribute [go_sem] tc166 tc167 tc168 tc169 tc170 tc172 tc173 tc174 tc175 tc176 tc177 tc178 tc179 tc181 tc182 tc183 tc184 tc185 tc186 tc187
attribute [go_sem] tc188 tc189 tc190 tc191 tc192 tr2 tr3 tr4 tr5 tr6 tr7 tr8 tr9 tr10 tr11 tr12 tr13 tr14 tr15 tr16
attribute [go_sem] tr17 tr18 tr19 tr20 tr21 tr22 tr23 tr24 tr25 tr26 tr27 tr28 tr29 tr30 tr31 tr32 tr33 tr34 tr35 tr36
attribute [go_sem] tr37 tr38 tr39 tr40 tr41 tr42 tr43 tr44 tr45 tr46 tr47 tr48 tr49 tr50 tr51 tr52 tr53 tr54 tr55 tr56
attribute [go_sem] tr57 tr58 tr59 tr60 tr61 tr62 tr63 tr64 tr65 tr66 tr67 tr68 tr69 tr70 tr71 tr72 tr73 tr74 tr75 tr76
attribute [go_sem] tr77 tr78 tr79 tr80 tr81 tr82 tr83 tr84 tr85 tr86 tr87 tr88 tr89 tr90 tr91 tr92 tr93 tr94 tr95 tr96
attribute [go_sem] tr97 tr98 tr99 tr100 tr101 tr102 tr103 tr104 tr105 tr106 tr107 tr108 tr109 tr110 tr111 tr112 tr113 tr114 tr115 tr116
attribute [go_sem] tr117 tr119 tr120 tr121 tr122 tr123 tr124 tr125 tr126 tr127 tr128 tr129 tr130 tr131 tr132 tr133 tr134 tr135 tr136 tr137
attribute [go_sem] tr138 tr139 tr140 tr141 tr142 tr143 tr144 tr146 tr148 tr149 tr150 tr151 tr152 tr153 tr154 tr155 tr156 tr157 tr158 tr159
attribute [go_sem] tr160 tr161 tr162 tr164 tr165 tr166 tr167 tr168 tr169 tr170 tr172 tr173 tr174 tr175 tr176 tr177 tr178 tr179 tr180 tr181
attribute [go_sem] tr182 tr183 tr184 tr185 tr186 tr187 tr188 tr189 tr190 tr191 tr192 tr217
end Go.Proofs.YtglmofbcooefkaaDoor.AL
