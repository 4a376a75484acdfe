import Derived.Test.YtjjiemmkmndmnaaGreatDoorG5
import Derived.Test.YtjjiemmkmndmnaaGreatDoorProg
import Derived.Test.YtjjiemmkmndmnaaGreatDoorG2
import Derived.KernelRfl
/- Facts on the types of the program, each asked of the loaded table. -/
namespace Go.Proofs.YtjjiemmkmndmnaaGreatDoor.AL
set_option linter.unusedVariables false
set_option linter.unusedSimpArgs false
open Go
theorem ts2 : tySize Tryz.prog 2 = some 1 := by kernel_rfl
theorem tb2 : tyBytes Tryz.prog 2 = some 8 := by kernel_rfl
theorem tg2 : tyAgg Tryz.prog 2 = some false := by kernel_rfl
theorem tz2 : tyZero Tryz.prog 2 = some (.lit (.int .i64 0)) := by kernel_rfl
theorem ta2 : tyArray Tryz.prog 2 = none := by kernel_rfl
theorem tl2 : tySlice Tryz.prog 2 = none := by kernel_rfl
theorem ti2 : tyInt Tryz.prog 2 = some .i64 := by kernel_rfl
theorem tt2 : tyString Tryz.prog 2 = false := by kernel_rfl
theorem tq2 : tyBool Tryz.prog 2 = false := by kernel_rfl
theorem tn2 : tyNil Tryz.prog 2 = none := by kernel_rfl
theorem tp2 : tyPlaces Tryz.prog 2 = none := by kernel_rfl
theorem tu2 : Tryz.prog.underlying 2 = some (.int .i64) := by kernel_rfl
theorem ts3 : tySize Tryz.prog 3 = some 1 := by kernel_rfl
theorem tb3 : tyBytes Tryz.prog 3 = some 8 := by kernel_rfl
theorem tg3 : tyAgg Tryz.prog 3 = some false := by kernel_rfl
theorem tz3 : tyZero Tryz.prog 3 = some (.lit (.int .i64 0)) := by kernel_rfl
theorem ta3 : tyArray Tryz.prog 3 = none := by kernel_rfl
theorem tl3 : tySlice Tryz.prog 3 = none := by kernel_rfl
theorem ti3 : tyInt Tryz.prog 3 = some .i64 := by kernel_rfl
theorem tt3 : tyString Tryz.prog 3 = false := by kernel_rfl
theorem tq3 : tyBool Tryz.prog 3 = false := by kernel_rfl
theorem tn3 : tyNil Tryz.prog 3 = none := by kernel_rfl
theorem tp3 : tyPlaces Tryz.prog 3 = none := by kernel_rfl
theorem tu3 : Tryz.prog.underlying 3 = some (.int .i64) := by kernel_rfl
theorem ts4 : tySize Tryz.prog 4 = some 1 := by kernel_rfl
theorem tb4 : tyBytes Tryz.prog 4 = some 1 := by kernel_rfl
theorem tg4 : tyAgg Tryz.prog 4 = some false := by kernel_rfl
theorem tz4 : tyZero Tryz.prog 4 = some (.lit (.bool false)) := by kernel_rfl
theorem ta4 : tyArray Tryz.prog 4 = none := by kernel_rfl
theorem tl4 : tySlice Tryz.prog 4 = none := by kernel_rfl
theorem ti4 : tyInt Tryz.prog 4 = none := by kernel_rfl
theorem tt4 : tyString Tryz.prog 4 = false := by kernel_rfl
theorem tq4 : tyBool Tryz.prog 4 = true := by kernel_rfl
theorem tn4 : tyNil Tryz.prog 4 = none := by kernel_rfl
theorem tp4 : tyPlaces Tryz.prog 4 = none := by kernel_rfl
theorem tu4 : Tryz.prog.underlying 4 = some .bool := by kernel_rfl
theorem ts5 : tySize Tryz.prog 5 = some 1 := by kernel_rfl
theorem tb5 : tyBytes Tryz.prog 5 = some 1 := by kernel_rfl
theorem tg5 : tyAgg Tryz.prog 5 = some false := by kernel_rfl
theorem tz5 : tyZero Tryz.prog 5 = some (.lit (.int .u8 0)) := by kernel_rfl
theorem ta5 : tyArray Tryz.prog 5 = none := by kernel_rfl
theorem tl5 : tySlice Tryz.prog 5 = none := by kernel_rfl
theorem ti5 : tyInt Tryz.prog 5 = some .u8 := by kernel_rfl
theorem tt5 : tyString Tryz.prog 5 = false := by kernel_rfl
theorem tq5 : tyBool Tryz.prog 5 = false := by kernel_rfl
theorem tn5 : tyNil Tryz.prog 5 = none := by kernel_rfl
theorem tp5 : tyPlaces Tryz.prog 5 = none := by kernel_rfl
theorem tu5 : Tryz.prog.underlying 5 = some (.int .u8) := by kernel_rfl
theorem ts9 : tySize Tryz.prog 9 = some 1 := by kernel_rfl
theorem tb9 : tyBytes Tryz.prog 9 = some 16 := by kernel_rfl
theorem tg9 : tyAgg Tryz.prog 9 = some false := by kernel_rfl
theorem tz9 : tyZero Tryz.prog 9 = some (.lit (.string { data := #[] })) := by kernel_rfl
theorem ta9 : tyArray Tryz.prog 9 = none := by kernel_rfl
theorem tl9 : tySlice Tryz.prog 9 = none := by kernel_rfl
theorem ti9 : tyInt Tryz.prog 9 = none := by kernel_rfl
theorem tt9 : tyString Tryz.prog 9 = true := by kernel_rfl
theorem tq9 : tyBool Tryz.prog 9 = false := by kernel_rfl
theorem tn9 : tyNil Tryz.prog 9 = none := by kernel_rfl
theorem tp9 : tyPlaces Tryz.prog 9 = none := by kernel_rfl
theorem tu9 : Tryz.prog.underlying 9 = some .string := by kernel_rfl
theorem ts20 : tySize Tryz.prog 20 = some 1 := by kernel_rfl
theorem tb20 : tyBytes Tryz.prog 20 = some 16 := by kernel_rfl
theorem tg20 : tyAgg Tryz.prog 20 = some false := by kernel_rfl
theorem tz20 : tyZero Tryz.prog 20 = some (.lit (.nilIface)) := by kernel_rfl
theorem ta20 : tyArray Tryz.prog 20 = none := by kernel_rfl
theorem tl20 : tySlice Tryz.prog 20 = none := by kernel_rfl
theorem ti20 : tyInt Tryz.prog 20 = none := by kernel_rfl
theorem tt20 : tyString Tryz.prog 20 = false := by kernel_rfl
theorem tq20 : tyBool Tryz.prog 20 = false := by kernel_rfl
theorem tn20 : tyNil Tryz.prog 20 = some .iface := by kernel_rfl
theorem tp20 : tyPlaces Tryz.prog 20 = none := by kernel_rfl
theorem ts21 : tySize Tryz.prog 21 = some 1 := by kernel_rfl
theorem tb21 : tyBytes Tryz.prog 21 = some 4 := by kernel_rfl
theorem tg21 : tyAgg Tryz.prog 21 = some false := by kernel_rfl
theorem tz21 : tyZero Tryz.prog 21 = some (.lit (.int .i32 0)) := by kernel_rfl
theorem ta21 : tyArray Tryz.prog 21 = none := by kernel_rfl
theorem tl21 : tySlice Tryz.prog 21 = none := by kernel_rfl
theorem ti21 : tyInt Tryz.prog 21 = some .i32 := by kernel_rfl
theorem tt21 : tyString Tryz.prog 21 = false := by kernel_rfl
theorem tq21 : tyBool Tryz.prog 21 = false := by kernel_rfl
theorem tn21 : tyNil Tryz.prog 21 = none := by kernel_rfl
theorem tp21 : tyPlaces Tryz.prog 21 = none := by kernel_rfl
theorem tu21 : Tryz.prog.underlying 21 = some (.int .i32) := by kernel_rfl
theorem ts22 : tySize Tryz.prog 22 = some 1 := by kernel_rfl
theorem tb22 : tyBytes Tryz.prog 22 = some 4 := by kernel_rfl
theorem tg22 : tyAgg Tryz.prog 22 = some false := by kernel_rfl
theorem tz22 : tyZero Tryz.prog 22 = some (.lit (.int .u32 0)) := by kernel_rfl
theorem ta22 : tyArray Tryz.prog 22 = none := by kernel_rfl
theorem tl22 : tySlice Tryz.prog 22 = none := by kernel_rfl
theorem ti22 : tyInt Tryz.prog 22 = some .u32 := by kernel_rfl
theorem tt22 : tyString Tryz.prog 22 = false := by kernel_rfl
theorem tq22 : tyBool Tryz.prog 22 = false := by kernel_rfl
theorem tn22 : tyNil Tryz.prog 22 = none := by kernel_rfl
theorem tp22 : tyPlaces Tryz.prog 22 = none := by kernel_rfl
theorem tu22 : Tryz.prog.underlying 22 = some (.int .u32) := by kernel_rfl
theorem ts23 : tySize Tryz.prog 23 = some 1 := by kernel_rfl
theorem tb23 : tyBytes Tryz.prog 23 = some 24 := by kernel_rfl
theorem tg23 : tyAgg Tryz.prog 23 = some false := by kernel_rfl
theorem tz23 : tyZero Tryz.prog 23 = some (.lit (.slice none 0 0)) := by kernel_rfl
theorem ta23 : tyArray Tryz.prog 23 = none := by kernel_rfl
theorem tl23 : tySlice Tryz.prog 23 = some 3 := by kernel_rfl
theorem ti23 : tyInt Tryz.prog 23 = none := by kernel_rfl
theorem tt23 : tyString Tryz.prog 23 = false := by kernel_rfl
theorem tq23 : tyBool Tryz.prog 23 = false := by kernel_rfl
theorem tn23 : tyNil Tryz.prog 23 = some .slice := by kernel_rfl
theorem tp23 : tyPlaces Tryz.prog 23 = none := by kernel_rfl
theorem tu23 : Tryz.prog.underlying 23 = some (.slice 3) := by kernel_rfl
theorem ts25 : tySize Tryz.prog 25 = some 6 := by kernel_rfl
theorem tb25 : tyBytes Tryz.prog 25 = some 80 := by kernel_rfl
theorem tg25 : tyAgg Tryz.prog 25 = some true := by kernel_rfl
theorem tz25 : tyZero Tryz.prog 25 = some (.agg [.lit (.int .i64 0), .lit (.string { data := #[] }), .lit (.string { data := #[] }), .lit (.int .i64 0), .lit (.int .u32 0), .lit (.slice none 0 0)]) := by kernel_rfl
theorem ta25 : tyArray Tryz.prog 25 = none := by kernel_rfl
theorem tl25 : tySlice Tryz.prog 25 = none := by kernel_rfl
theorem ti25 : tyInt Tryz.prog 25 = none := by kernel_rfl
theorem tt25 : tyString Tryz.prog 25 = false := by kernel_rfl
theorem tq25 : tyBool Tryz.prog 25 = false := by kernel_rfl
theorem tn25 : tyNil Tryz.prog 25 = none := by kernel_rfl
theorem tf25_0 : tyField Tryz.prog 25 0 = some (0, 3) := by kernel_rfl
theorem tf25_1 : tyField Tryz.prog 25 1 = some (1, 9) := by kernel_rfl
theorem tf25_2 : tyField Tryz.prog 25 2 = some (2, 9) := by kernel_rfl
theorem tf25_3 : tyField Tryz.prog 25 3 = some (3, 3) := by kernel_rfl
theorem tf25_4 : tyField Tryz.prog 25 4 = some (4, 22) := by kernel_rfl
theorem tf25_5 : tyField Tryz.prog 25 5 = some (5, 23) := by kernel_rfl
theorem tp25 : tyPlaces Tryz.prog 25 = some [(0, 1), (1, 1), (2, 1), (3, 1), (4, 1), (5, 1)] := by kernel_rfl
theorem ts26 : tySize Tryz.prog 26 = some 1 := by kernel_rfl
theorem tb26 : tyBytes Tryz.prog 26 = some 8 := by kernel_rfl
theorem tg26 : tyAgg Tryz.prog 26 = some false := by kernel_rfl
theorem tz26 : tyZero Tryz.prog 26 = some (.lit (.pointer none)) := by kernel_rfl
theorem ta26 : tyArray Tryz.prog 26 = none := by kernel_rfl
theorem tl26 : tySlice Tryz.prog 26 = none := by kernel_rfl
theorem ti26 : tyInt Tryz.prog 26 = none := by kernel_rfl
theorem tt26 : tyString Tryz.prog 26 = false := by kernel_rfl
theorem tq26 : tyBool Tryz.prog 26 = false := by kernel_rfl
theorem tn26 : tyNil Tryz.prog 26 = some .ptr := by kernel_rfl
theorem tp26 : tyPlaces Tryz.prog 26 = none := by kernel_rfl
theorem tu26 : Tryz.prog.underlying 26 = some (.pointer 30) := by kernel_rfl
theorem ts27 : tySize Tryz.prog 27 = some 1 := by kernel_rfl
theorem tb27 : tyBytes Tryz.prog 27 = some 8 := by kernel_rfl
theorem tg27 : tyAgg Tryz.prog 27 = some false := by kernel_rfl
theorem tz27 : tyZero Tryz.prog 27 = some (.lit (.pointer none)) := by kernel_rfl
theorem ta27 : tyArray Tryz.prog 27 = none := by kernel_rfl
theorem tl27 : tySlice Tryz.prog 27 = none := by kernel_rfl
theorem ti27 : tyInt Tryz.prog 27 = none := by kernel_rfl
theorem tt27 : tyString Tryz.prog 27 = false := by kernel_rfl
theorem tq27 : tyBool Tryz.prog 27 = false := by kernel_rfl
theorem tn27 : tyNil Tryz.prog 27 = some .ptr := by kernel_rfl
theorem tp27 : tyPlaces Tryz.prog 27 = none := by kernel_rfl
theorem tu27 : Tryz.prog.underlying 27 = some (.pointer 62) := by kernel_rfl
theorem ts28 : tySize Tryz.prog 28 = some 1 := by kernel_rfl
theorem tb28 : tyBytes Tryz.prog 28 = some 24 := by kernel_rfl
theorem tg28 : tyAgg Tryz.prog 28 = some false := by kernel_rfl
theorem tz28 : tyZero Tryz.prog 28 = some (.lit (.slice none 0 0)) := by kernel_rfl
theorem ta28 : tyArray Tryz.prog 28 = none := by kernel_rfl
theorem tl28 : tySlice Tryz.prog 28 = some 50 := by kernel_rfl
theorem ti28 : tyInt Tryz.prog 28 = none := by kernel_rfl
theorem tt28 : tyString Tryz.prog 28 = false := by kernel_rfl
theorem tq28 : tyBool Tryz.prog 28 = false := by kernel_rfl
theorem tn28 : tyNil Tryz.prog 28 = some .slice := by kernel_rfl
theorem tp28 : tyPlaces Tryz.prog 28 = none := by kernel_rfl
theorem tu28 : Tryz.prog.underlying 28 = some (.slice 50) := by kernel_rfl
theorem ts30 : tySize Tryz.prog 30 = some 2 := by kernel_rfl
theorem tb30 : tyBytes Tryz.prog 30 = some 32 := by kernel_rfl
theorem tg30 : tyAgg Tryz.prog 30 = some true := by kernel_rfl
theorem tz30 : tyZero Tryz.prog 30 = some (.agg [.lit (.pointer none), .lit (.slice none 0 0)]) := by kernel_rfl
theorem ta30 : tyArray Tryz.prog 30 = none := by kernel_rfl
theorem tl30 : tySlice Tryz.prog 30 = none := by kernel_rfl
theorem ti30 : tyInt Tryz.prog 30 = none := by kernel_rfl
theorem tt30 : tyString Tryz.prog 30 = false := by kernel_rfl
theorem tq30 : tyBool Tryz.prog 30 = false := by kernel_rfl
theorem tn30 : tyNil Tryz.prog 30 = none := by kernel_rfl
theorem tf30_0 : tyField Tryz.prog 30 0 = some (0, 27) := by kernel_rfl
theorem tf30_1 : tyField Tryz.prog 30 1 = some (1, 28) := by kernel_rfl
theorem tp30 : tyPlaces Tryz.prog 30 = some [(0, 1), (1, 1)] := by kernel_rfl
theorem ts31 : tySize Tryz.prog 31 = some 1 := by kernel_rfl
theorem tb31 : tyBytes Tryz.prog 31 = some 24 := by kernel_rfl
theorem tg31 : tyAgg Tryz.prog 31 = some false := by kernel_rfl
theorem tz31 : tyZero Tryz.prog 31 = some (.lit (.slice none 0 0)) := by kernel_rfl
theorem ta31 : tyArray Tryz.prog 31 = none := by kernel_rfl
theorem tl31 : tySlice Tryz.prog 31 = some 26 := by kernel_rfl
theorem ti31 : tyInt Tryz.prog 31 = none := by kernel_rfl
theorem tt31 : tyString Tryz.prog 31 = false := by kernel_rfl
theorem tq31 : tyBool Tryz.prog 31 = false := by kernel_rfl
theorem tn31 : tyNil Tryz.prog 31 = some .slice := by kernel_rfl
theorem tp31 : tyPlaces Tryz.prog 31 = none := by kernel_rfl
theorem tu31 : Tryz.prog.underlying 31 = some (.slice 26) := by kernel_rfl
theorem ts34 : tySize Tryz.prog 34 = some 1 := by kernel_rfl
theorem tb34 : tyBytes Tryz.prog 34 = some 8 := by kernel_rfl
theorem tg34 : tyAgg Tryz.prog 34 = some false := by kernel_rfl
theorem tz34 : tyZero Tryz.prog 34 = some (.lit (.int .i64 0)) := by kernel_rfl
theorem ta34 : tyArray Tryz.prog 34 = none := by kernel_rfl
theorem tl34 : tySlice Tryz.prog 34 = none := by kernel_rfl
theorem ti34 : tyInt Tryz.prog 34 = some .i64 := by kernel_rfl
theorem tt34 : tyString Tryz.prog 34 = false := by kernel_rfl
theorem tq34 : tyBool Tryz.prog 34 = false := by kernel_rfl
theorem tn34 : tyNil Tryz.prog 34 = none := by kernel_rfl
theorem tp34 : tyPlaces Tryz.prog 34 = none := by kernel_rfl
theorem tu34 : Tryz.prog.underlying 34 = some (.int .i64) := by kernel_rfl
theorem ts36 : tySize Tryz.prog 36 = some 3 := by kernel_rfl
theorem tb36 : tyBytes Tryz.prog 36 = some 24 := by kernel_rfl
theorem tg36 : tyAgg Tryz.prog 36 = some true := by kernel_rfl
theorem tz36 : tyZero Tryz.prog 36 = some (.agg [.lit (.int .i64 0), .lit (.int .i64 0), .lit (.int .i64 0)]) := by kernel_rfl
theorem ta36 : tyArray Tryz.prog 36 = none := by kernel_rfl
theorem tl36 : tySlice Tryz.prog 36 = none := by kernel_rfl
theorem ti36 : tyInt Tryz.prog 36 = none := by kernel_rfl
theorem tt36 : tyString Tryz.prog 36 = false := by kernel_rfl
theorem tq36 : tyBool Tryz.prog 36 = false := by kernel_rfl
theorem tn36 : tyNil Tryz.prog 36 = none := by kernel_rfl
theorem tf36_0 : tyField Tryz.prog 36 0 = some (0, 34) := by kernel_rfl
theorem tf36_1 : tyField Tryz.prog 36 1 = some (1, 3) := by kernel_rfl
theorem tf36_2 : tyField Tryz.prog 36 2 = some (2, 3) := by kernel_rfl
theorem tp36 : tyPlaces Tryz.prog 36 = some [(0, 1), (1, 1), (2, 1)] := by kernel_rfl
theorem tv36 : leaves Tryz.prog 20 36 = some [.int, .int, .int] := by kernel_rfl
theorem te36 : Tryz.prog.eqGuardType Tryz.prog.depth 36 = false := by kernel_rfl
theorem ts38 : tySize Tryz.prog 38 = some 6 := by kernel_rfl
theorem tb38 : tyBytes Tryz.prog 38 = some 80 := by kernel_rfl
theorem tg38 : tyAgg Tryz.prog 38 = some true := by kernel_rfl
theorem tz38 : tyZero Tryz.prog 38 = some (.agg [.lit (.int .i64 0), .lit (.string { data := #[] }), .lit (.string { data := #[] }), .lit (.int .i64 0), .lit (.int .u32 0), .lit (.slice none 0 0)]) := by kernel_rfl
theorem ta38 : tyArray Tryz.prog 38 = none := by kernel_rfl
theorem tl38 : tySlice Tryz.prog 38 = none := by kernel_rfl
theorem ti38 : tyInt Tryz.prog 38 = none := by kernel_rfl
theorem tt38 : tyString Tryz.prog 38 = false := by kernel_rfl
theorem tq38 : tyBool Tryz.prog 38 = false := by kernel_rfl
theorem tn38 : tyNil Tryz.prog 38 = none := by kernel_rfl
theorem tf38_0 : tyField Tryz.prog 38 0 = some (0, 3) := by kernel_rfl
theorem tf38_1 : tyField Tryz.prog 38 1 = some (1, 9) := by kernel_rfl
theorem tf38_2 : tyField Tryz.prog 38 2 = some (2, 9) := by kernel_rfl
theorem tf38_3 : tyField Tryz.prog 38 3 = some (3, 3) := by kernel_rfl
theorem tf38_4 : tyField Tryz.prog 38 4 = some (4, 22) := by kernel_rfl
theorem tf38_5 : tyField Tryz.prog 38 5 = some (5, 23) := by kernel_rfl
theorem tp38 : tyPlaces Tryz.prog 38 = some [(0, 1), (1, 1), (2, 1), (3, 1), (4, 1), (5, 1)] := by kernel_rfl
theorem ts40 : tySize Tryz.prog 40 = some 1 := by kernel_rfl
theorem tb40 : tyBytes Tryz.prog 40 = some 24 := by kernel_rfl
theorem tg40 : tyAgg Tryz.prog 40 = some false := by kernel_rfl
theorem tz40 : tyZero Tryz.prog 40 = some (.lit (.slice none 0 0)) := by kernel_rfl
theorem ta40 : tyArray Tryz.prog 40 = none := by kernel_rfl
theorem tl40 : tySlice Tryz.prog 40 = some 9 := by kernel_rfl
theorem ti40 : tyInt Tryz.prog 40 = none := by kernel_rfl
theorem tt40 : tyString Tryz.prog 40 = false := by kernel_rfl
theorem tq40 : tyBool Tryz.prog 40 = false := by kernel_rfl
theorem tn40 : tyNil Tryz.prog 40 = some .slice := by kernel_rfl
theorem tp40 : tyPlaces Tryz.prog 40 = none := by kernel_rfl
theorem tu40 : Tryz.prog.underlying 40 = some (.slice 9) := by kernel_rfl
theorem ts50 : tySize Tryz.prog 50 = some 1 := by kernel_rfl
theorem tb50 : tyBytes Tryz.prog 50 = some 8 := by kernel_rfl
theorem tg50 : tyAgg Tryz.prog 50 = some false := by kernel_rfl
theorem tz50 : tyZero Tryz.prog 50 = some (.lit (.nilFunc)) := by kernel_rfl
theorem ta50 : tyArray Tryz.prog 50 = none := by kernel_rfl
theorem tl50 : tySlice Tryz.prog 50 = none := by kernel_rfl
theorem ti50 : tyInt Tryz.prog 50 = none := by kernel_rfl
theorem tt50 : tyString Tryz.prog 50 = false := by kernel_rfl
theorem tq50 : tyBool Tryz.prog 50 = false := by kernel_rfl
theorem tn50 : tyNil Tryz.prog 50 = some .func := by kernel_rfl
theorem tp50 : tyPlaces Tryz.prog 50 = none := by kernel_rfl
theorem ts57 : tySize Tryz.prog 57 = some 2 := by kernel_rfl
theorem tb57 : tyBytes Tryz.prog 57 = some 24 := by kernel_rfl
theorem tg57 : tyAgg Tryz.prog 57 = some true := by kernel_rfl
theorem tz57 : tyZero Tryz.prog 57 = some (.agg [.lit (.string { data := #[] }), .lit (.int .i64 0)]) := by kernel_rfl
theorem ta57 : tyArray Tryz.prog 57 = none := by kernel_rfl
theorem tl57 : tySlice Tryz.prog 57 = none := by kernel_rfl
theorem ti57 : tyInt Tryz.prog 57 = none := by kernel_rfl
theorem tt57 : tyString Tryz.prog 57 = false := by kernel_rfl
theorem tq57 : tyBool Tryz.prog 57 = false := by kernel_rfl
theorem tn57 : tyNil Tryz.prog 57 = none := by kernel_rfl
theorem tf57_0 : tyField Tryz.prog 57 0 = some (0, 9) := by kernel_rfl
theorem tf57_1 : tyField Tryz.prog 57 1 = some (1, 3) := by kernel_rfl
theorem tp57 : tyPlaces Tryz.prog 57 = some [(0, 1), (1, 1)] := by kernel_rfl
theorem tv57 : leaves Tryz.prog 20 57 = some [.str, .int] := by kernel_rfl
theorem te57 : Tryz.prog.eqGuardType Tryz.prog.depth 57 = false := by kernel_rfl
theorem ts60 : tySize Tryz.prog 60 = some 1 := by kernel_rfl
theorem tb60 : tyBytes Tryz.prog 60 = some 8 := by kernel_rfl
theorem tg60 : tyAgg Tryz.prog 60 = some false := by kernel_rfl
theorem tz60 : tyZero Tryz.prog 60 = some (.lit (.map none)) := by kernel_rfl
theorem ta60 : tyArray Tryz.prog 60 = none := by kernel_rfl
theorem tl60 : tySlice Tryz.prog 60 = none := by kernel_rfl
theorem ti60 : tyInt Tryz.prog 60 = none := by kernel_rfl
theorem tt60 : tyString Tryz.prog 60 = false := by kernel_rfl
theorem tq60 : tyBool Tryz.prog 60 = false := by kernel_rfl
theorem tn60 : tyNil Tryz.prog 60 = some .map := by kernel_rfl
theorem tp60 : tyPlaces Tryz.prog 60 = none := by kernel_rfl
theorem ts62 : tySize Tryz.prog 62 = some 7 := by kernel_rfl
theorem tb62 : tyBytes Tryz.prog 62 = some 56 := by kernel_rfl
theorem tg62 : tyAgg Tryz.prog 62 = some true := by kernel_rfl
theorem tz62 : tyZero Tryz.prog 62 = some (.agg [.lit (.bool false), .lit (.int .i64 0), .lit (.int .i64 0), .lit (.map none), .lit (.int .i64 0), .lit (.bool false), .lit (.int .i64 0)]) := by kernel_rfl
theorem ta62 : tyArray Tryz.prog 62 = none := by kernel_rfl
theorem tl62 : tySlice Tryz.prog 62 = none := by kernel_rfl
theorem ti62 : tyInt Tryz.prog 62 = none := by kernel_rfl
theorem tt62 : tyString Tryz.prog 62 = false := by kernel_rfl
theorem tq62 : tyBool Tryz.prog 62 = false := by kernel_rfl
theorem tn62 : tyNil Tryz.prog 62 = none := by kernel_rfl
theorem tf62_0 : tyField Tryz.prog 62 0 = some (0, 4) := by kernel_rfl
theorem tf62_1 : tyField Tryz.prog 62 1 = some (1, 3) := by kernel_rfl
theorem tf62_2 : tyField Tryz.prog 62 2 = some (2, 3) := by kernel_rfl
theorem tf62_3 : tyField Tryz.prog 62 3 = some (3, 60) := by kernel_rfl
theorem tf62_4 : tyField Tryz.prog 62 4 = some (4, 3) := by kernel_rfl
theorem tf62_5 : tyField Tryz.prog 62 5 = some (5, 4) := by kernel_rfl
theorem tf62_6 : tyField Tryz.prog 62 6 = some (6, 3) := by kernel_rfl
theorem tp62 : tyPlaces Tryz.prog 62 = some [(0, 1), (1, 1), (2, 1), (3, 1), (4, 1), (5, 1), (6, 1)] := by kernel_rfl
theorem ts67 : tySize Tryz.prog 67 = some 1 := by kernel_rfl
theorem tb67 : tyBytes Tryz.prog 67 = some 8 := by kernel_rfl
theorem tg67 : tyAgg Tryz.prog 67 = some false := by kernel_rfl
theorem tz67 : tyZero Tryz.prog 67 = some (.lit (.nilFunc)) := by kernel_rfl
theorem ta67 : tyArray Tryz.prog 67 = none := by kernel_rfl
theorem tl67 : tySlice Tryz.prog 67 = none := by kernel_rfl
theorem ti67 : tyInt Tryz.prog 67 = none := by kernel_rfl
theorem tt67 : tyString Tryz.prog 67 = false := by kernel_rfl
theorem tq67 : tyBool Tryz.prog 67 = false := by kernel_rfl
theorem tn67 : tyNil Tryz.prog 67 = some .func := by kernel_rfl
theorem tp67 : tyPlaces Tryz.prog 67 = none := by kernel_rfl
theorem ts71 : tySize Tryz.prog 71 = some 1 := by kernel_rfl
theorem tb71 : tyBytes Tryz.prog 71 = some 8 := by kernel_rfl
theorem tg71 : tyAgg Tryz.prog 71 = some false := by kernel_rfl
theorem tz71 : tyZero Tryz.prog 71 = some (.lit (.nilFunc)) := by kernel_rfl
theorem ta71 : tyArray Tryz.prog 71 = none := by kernel_rfl
theorem tl71 : tySlice Tryz.prog 71 = none := by kernel_rfl
theorem ti71 : tyInt Tryz.prog 71 = none := by kernel_rfl
theorem tt71 : tyString Tryz.prog 71 = false := by kernel_rfl
theorem tq71 : tyBool Tryz.prog 71 = false := by kernel_rfl
theorem tn71 : tyNil Tryz.prog 71 = some .func := by kernel_rfl
theorem tp71 : tyPlaces Tryz.prog 71 = none := by kernel_rfl
theorem ts80 : tySize Tryz.prog 80 = some 1 := by kernel_rfl
theorem tb80 : tyBytes Tryz.prog 80 = some 24 := by kernel_rfl
theorem tg80 : tyAgg Tryz.prog 80 = some false := by kernel_rfl
theorem tz80 : tyZero Tryz.prog 80 = some (.lit (.slice none 0 0)) := by kernel_rfl
theorem ta80 : tyArray Tryz.prog 80 = none := by kernel_rfl
theorem tl80 : tySlice Tryz.prog 80 = some 5 := by kernel_rfl
theorem ti80 : tyInt Tryz.prog 80 = none := by kernel_rfl
theorem tt80 : tyString Tryz.prog 80 = false := by kernel_rfl
theorem tq80 : tyBool Tryz.prog 80 = false := by kernel_rfl
theorem tn80 : tyNil Tryz.prog 80 = some .slice := by kernel_rfl
theorem tp80 : tyPlaces Tryz.prog 80 = none := by kernel_rfl
theorem tu80 : Tryz.prog.underlying 80 = some (.slice 5) := by kernel_rfl
theorem ts85 : tySize Tryz.prog 85 = some 1 := by kernel_rfl
theorem tb85 : tyBytes Tryz.prog 85 = some 8 := by kernel_rfl
theorem tg85 : tyAgg Tryz.prog 85 = some false := by kernel_rfl
theorem tz85 : tyZero Tryz.prog 85 = some (.lit (.map none)) := by kernel_rfl
theorem ta85 : tyArray Tryz.prog 85 = none := by kernel_rfl
theorem tl85 : tySlice Tryz.prog 85 = none := by kernel_rfl
theorem ti85 : tyInt Tryz.prog 85 = none := by kernel_rfl
theorem tt85 : tyString Tryz.prog 85 = false := by kernel_rfl
theorem tq85 : tyBool Tryz.prog 85 = false := by kernel_rfl
theorem tn85 : tyNil Tryz.prog 85 = some .map := by kernel_rfl
theorem tp85 : tyPlaces Tryz.prog 85 = none := by kernel_rfl
theorem ts89 : tySize Tryz.prog 89 = some 1 := by kernel_rfl
theorem tb89 : tyBytes Tryz.prog 89 = some 8 := by kernel_rfl
theorem tg89 : tyAgg Tryz.prog 89 = some false := by kernel_rfl
theorem tz89 : tyZero Tryz.prog 89 = some (.lit (.int .u64 0)) := by kernel_rfl
theorem ta89 : tyArray Tryz.prog 89 = none := by kernel_rfl
theorem tl89 : tySlice Tryz.prog 89 = none := by kernel_rfl
theorem ti89 : tyInt Tryz.prog 89 = some .u64 := by kernel_rfl
theorem tt89 : tyString Tryz.prog 89 = false := by kernel_rfl
theorem tq89 : tyBool Tryz.prog 89 = false := by kernel_rfl
theorem tn89 : tyNil Tryz.prog 89 = none := by kernel_rfl
theorem tp89 : tyPlaces Tryz.prog 89 = none := by kernel_rfl
theorem tu89 : Tryz.prog.underlying 89 = some (.int .u64) := by kernel_rfl
theorem ts91 : tySize Tryz.prog 91 = some 9 := by kernel_rfl
theorem tb91 : tyBytes Tryz.prog 91 = some 72 := by kernel_rfl
theorem tg91 : tyAgg Tryz.prog 91 = some true := by kernel_rfl
theorem tz91 : tyZero Tryz.prog 91 = some (.agg [.lit (.int .i64 0), .lit (.int .i64 0), .lit (.int .i64 0), .lit (.int .i64 0), .lit (.int .i64 0), .lit (.int .i64 0), .lit (.int .i64 0), .lit (.int .i64 0), .lit (.int .i64 0)]) := by kernel_rfl
theorem ta91 : tyArray Tryz.prog 91 = none := by kernel_rfl
theorem tl91 : tySlice Tryz.prog 91 = none := by kernel_rfl
theorem ti91 : tyInt Tryz.prog 91 = none := by kernel_rfl
theorem tt91 : tyString Tryz.prog 91 = false := by kernel_rfl
theorem tq91 : tyBool Tryz.prog 91 = false := by kernel_rfl
theorem tn91 : tyNil Tryz.prog 91 = none := by kernel_rfl
theorem tf91_0 : tyField Tryz.prog 91 0 = some (0, 3) := by kernel_rfl
theorem tf91_1 : tyField Tryz.prog 91 1 = some (1, 3) := by kernel_rfl
theorem tf91_2 : tyField Tryz.prog 91 2 = some (2, 3) := by kernel_rfl
theorem tf91_3 : tyField Tryz.prog 91 3 = some (3, 3) := by kernel_rfl
theorem tf91_4 : tyField Tryz.prog 91 4 = some (4, 3) := by kernel_rfl
theorem tf91_5 : tyField Tryz.prog 91 5 = some (5, 3) := by kernel_rfl
theorem tf91_6 : tyField Tryz.prog 91 6 = some (6, 3) := by kernel_rfl
theorem tf91_7 : tyField Tryz.prog 91 7 = some (7, 3) := by kernel_rfl
theorem tf91_8 : tyField Tryz.prog 91 8 = some (8, 3) := by kernel_rfl
theorem tp91 : tyPlaces Tryz.prog 91 = some [(0, 1), (1, 1), (2, 1), (3, 1), (4, 1), (5, 1), (6, 1), (7, 1), (8, 1)] := by kernel_rfl
theorem tv91 : leaves Tryz.prog 20 91 = some [.int, .int, .int, .int, .int, .int, .int, .int, .int] := by kernel_rfl
theorem te91 : Tryz.prog.eqGuardType Tryz.prog.depth 91 = false := by kernel_rfl
theorem ts94 : tySize Tryz.prog 94 = some 1 := by kernel_rfl
theorem tb94 : tyBytes Tryz.prog 94 = some 24 := by kernel_rfl
theorem tg94 : tyAgg Tryz.prog 94 = some false := by kernel_rfl
theorem tz94 : tyZero Tryz.prog 94 = some (.lit (.slice none 0 0)) := by kernel_rfl
theorem ta94 : tyArray Tryz.prog 94 = none := by kernel_rfl
theorem tl94 : tySlice Tryz.prog 94 = some 124 := by kernel_rfl
theorem ti94 : tyInt Tryz.prog 94 = none := by kernel_rfl
theorem tt94 : tyString Tryz.prog 94 = false := by kernel_rfl
theorem tq94 : tyBool Tryz.prog 94 = false := by kernel_rfl
theorem tn94 : tyNil Tryz.prog 94 = some .slice := by kernel_rfl
theorem tp94 : tyPlaces Tryz.prog 94 = none := by kernel_rfl
theorem tu94 : Tryz.prog.underlying 94 = some (.slice 124) := by kernel_rfl
theorem ts96 : tySize Tryz.prog 96 = some 3 := by kernel_rfl
theorem tb96 : tyBytes Tryz.prog 96 = some 40 := by kernel_rfl
theorem tg96 : tyAgg Tryz.prog 96 = some true := by kernel_rfl
theorem tz96 : tyZero Tryz.prog 96 = some (.agg [.lit (.int .i64 0), .lit (.int .i64 0), .lit (.slice none 0 0)]) := by kernel_rfl
theorem ta96 : tyArray Tryz.prog 96 = none := by kernel_rfl
theorem tl96 : tySlice Tryz.prog 96 = none := by kernel_rfl
theorem ti96 : tyInt Tryz.prog 96 = none := by kernel_rfl
theorem tt96 : tyString Tryz.prog 96 = false := by kernel_rfl
theorem tq96 : tyBool Tryz.prog 96 = false := by kernel_rfl
theorem tn96 : tyNil Tryz.prog 96 = none := by kernel_rfl
theorem tf96_0 : tyField Tryz.prog 96 0 = some (0, 3) := by kernel_rfl
theorem tf96_1 : tyField Tryz.prog 96 1 = some (1, 3) := by kernel_rfl
theorem tf96_2 : tyField Tryz.prog 96 2 = some (2, 94) := by kernel_rfl
theorem tp96 : tyPlaces Tryz.prog 96 = some [(0, 1), (1, 1), (2, 1)] := by kernel_rfl
theorem ts99 : tySize Tryz.prog 99 = some 1 := by kernel_rfl
theorem tb99 : tyBytes Tryz.prog 99 = some 8 := by kernel_rfl
theorem tg99 : tyAgg Tryz.prog 99 = some false := by kernel_rfl
theorem tz99 : tyZero Tryz.prog 99 = some (.lit (.pointer none)) := by kernel_rfl
theorem ta99 : tyArray Tryz.prog 99 = none := by kernel_rfl
theorem tl99 : tySlice Tryz.prog 99 = none := by kernel_rfl
theorem ti99 : tyInt Tryz.prog 99 = none := by kernel_rfl
theorem tt99 : tyString Tryz.prog 99 = false := by kernel_rfl
theorem tq99 : tyBool Tryz.prog 99 = false := by kernel_rfl
theorem tn99 : tyNil Tryz.prog 99 = some .ptr := by kernel_rfl
theorem tp99 : tyPlaces Tryz.prog 99 = none := by kernel_rfl
theorem tu99 : Tryz.prog.underlying 99 = some (.pointer 128) := by kernel_rfl
theorem ts114 : tySize Tryz.prog 114 = some 1 := by kernel_rfl
theorem tb114 : tyBytes Tryz.prog 114 = some 8 := by kernel_rfl
theorem tg114 : tyAgg Tryz.prog 114 = some false := by kernel_rfl
theorem tz114 : tyZero Tryz.prog 114 = some (.lit (.int .u64 0)) := by kernel_rfl
theorem ta114 : tyArray Tryz.prog 114 = none := by kernel_rfl
theorem tl114 : tySlice Tryz.prog 114 = none := by kernel_rfl
theorem ti114 : tyInt Tryz.prog 114 = some .u64 := by kernel_rfl
theorem tt114 : tyString Tryz.prog 114 = false := by kernel_rfl
theorem tq114 : tyBool Tryz.prog 114 = false := by kernel_rfl
theorem tn114 : tyNil Tryz.prog 114 = none := by kernel_rfl
theorem tp114 : tyPlaces Tryz.prog 114 = none := by kernel_rfl
theorem tu114 : Tryz.prog.underlying 114 = some (.int .u64) := by kernel_rfl
theorem ts124 : tySize Tryz.prog 124 = some 4 := by kernel_rfl
theorem tb124 : tyBytes Tryz.prog 124 = some 40 := by kernel_rfl
theorem tg124 : tyAgg Tryz.prog 124 = some true := by kernel_rfl
theorem tz124 : tyZero Tryz.prog 124 = some (.agg [.lit (.string { data := #[] }), .lit (.int .i64 0), .lit (.int .i64 0), .lit (.int .u32 0)]) := by kernel_rfl
theorem ta124 : tyArray Tryz.prog 124 = none := by kernel_rfl
theorem tl124 : tySlice Tryz.prog 124 = none := by kernel_rfl
theorem ti124 : tyInt Tryz.prog 124 = none := by kernel_rfl
theorem tt124 : tyString Tryz.prog 124 = false := by kernel_rfl
theorem tq124 : tyBool Tryz.prog 124 = false := by kernel_rfl
theorem tn124 : tyNil Tryz.prog 124 = none := by kernel_rfl
theorem tf124_0 : tyField Tryz.prog 124 0 = some (0, 9) := by kernel_rfl
theorem tf124_1 : tyField Tryz.prog 124 1 = some (1, 3) := by kernel_rfl
theorem tf124_2 : tyField Tryz.prog 124 2 = some (2, 3) := by kernel_rfl
theorem tf124_3 : tyField Tryz.prog 124 3 = some (3, 22) := by kernel_rfl
theorem tp124 : tyPlaces Tryz.prog 124 = some [(0, 1), (1, 1), (2, 1), (3, 1)] := by kernel_rfl
theorem tv124 : leaves Tryz.prog 20 124 = some [.str, .int, .int, .int] := by kernel_rfl
theorem te124 : Tryz.prog.eqGuardType Tryz.prog.depth 124 = false := by kernel_rfl
theorem ts128 : tySize Tryz.prog 128 = some 4 := by kernel_rfl
theorem tb128 : tyBytes Tryz.prog 128 = some 32 := by kernel_rfl
theorem tg128 : tyAgg Tryz.prog 128 = some true := by kernel_rfl
theorem tz128 : tyZero Tryz.prog 128 = some (.agg [.lit (.bool false), .lit (.int .i64 0), .lit (.int .i64 0), .lit (.int .i64 0)]) := by kernel_rfl
theorem ta128 : tyArray Tryz.prog 128 = none := by kernel_rfl
theorem tl128 : tySlice Tryz.prog 128 = none := by kernel_rfl
theorem ti128 : tyInt Tryz.prog 128 = none := by kernel_rfl
theorem tt128 : tyString Tryz.prog 128 = false := by kernel_rfl
theorem tq128 : tyBool Tryz.prog 128 = false := by kernel_rfl
theorem tn128 : tyNil Tryz.prog 128 = none := by kernel_rfl
theorem tf128_0 : tyField Tryz.prog 128 0 = some (0, 4) := by kernel_rfl
theorem tf128_1 : tyField Tryz.prog 128 1 = some (1, 3) := by kernel_rfl
theorem tf128_2 : tyField Tryz.prog 128 2 = some (2, 3) := by kernel_rfl
theorem tf128_3 : tyField Tryz.prog 128 3 = some (3, 3) := by kernel_rfl
theorem tp128 : tyPlaces Tryz.prog 128 = some [(0, 1), (1, 1), (2, 1), (3, 1)] := by kernel_rfl
theorem tv128 : leaves Tryz.prog 20 128 = some [.bool, .int, .int, .int] := by kernel_rfl
theorem te128 : Tryz.prog.eqGuardType Tryz.prog.depth 128 = false := by kernel_rfl
theorem ts130 : tySize Tryz.prog 130 = some 2 := by kernel_rfl
theorem tb130 : tyBytes Tryz.prog 130 = some 16 := by kernel_rfl
theorem tg130 : tyAgg Tryz.prog 130 = some true := by kernel_rfl
theorem tz130 : tyZero Tryz.prog 130 = some (.agg [.lit (.int .i64 0), .lit (.int .i64 0)]) := by kernel_rfl
theorem ta130 : tyArray Tryz.prog 130 = none := by kernel_rfl
theorem tl130 : tySlice Tryz.prog 130 = none := by kernel_rfl
theorem ti130 : tyInt Tryz.prog 130 = none := by kernel_rfl
theorem tt130 : tyString Tryz.prog 130 = false := by kernel_rfl
theorem tq130 : tyBool Tryz.prog 130 = false := by kernel_rfl
theorem tn130 : tyNil Tryz.prog 130 = none := by kernel_rfl
theorem tf130_0 : tyField Tryz.prog 130 0 = some (0, 3) := by kernel_rfl
theorem tf130_1 : tyField Tryz.prog 130 1 = some (1, 3) := by kernel_rfl
theorem tp130 : tyPlaces Tryz.prog 130 = some [(0, 1), (1, 1)] := by kernel_rfl
theorem tv130 : leaves Tryz.prog 20 130 = some [.int, .int] := by kernel_rfl
theorem te130 : Tryz.prog.eqGuardType Tryz.prog.depth 130 = false := by kernel_rfl
theorem ts133 : tySize Tryz.prog 133 = some 1 := by kernel_rfl
theorem tb133 : tyBytes Tryz.prog 133 = some 8 := by kernel_rfl
theorem tg133 : tyAgg Tryz.prog 133 = some false := by kernel_rfl
theorem tz133 : tyZero Tryz.prog 133 = some (.lit (.pointer none)) := by kernel_rfl
theorem ta133 : tyArray Tryz.prog 133 = none := by kernel_rfl
theorem tl133 : tySlice Tryz.prog 133 = none := by kernel_rfl
theorem ti133 : tyInt Tryz.prog 133 = none := by kernel_rfl
theorem tt133 : tyString Tryz.prog 133 = false := by kernel_rfl
theorem tq133 : tyBool Tryz.prog 133 = false := by kernel_rfl
theorem tn133 : tyNil Tryz.prog 133 = some .ptr := by kernel_rfl
theorem tp133 : tyPlaces Tryz.prog 133 = none := by kernel_rfl
theorem tu133 : Tryz.prog.underlying 133 = some (.pointer 135) := by kernel_rfl
theorem ts135 : tySize Tryz.prog 135 = some 18 := by kernel_rfl
theorem tb135 : tyBytes Tryz.prog 135 = some 176 := by kernel_rfl
theorem tg135 : tyAgg Tryz.prog 135 = some true := by kernel_rfl
theorem tz135 : tyZero Tryz.prog 135 = some (.agg [.lit (.pointer none), .lit (.pointer none), .lit (.int .i64 0), .lit (.int .i64 0), .lit (.int .i64 0), .lit (.int .i64 0), .lit (.int .i64 0), .lit (.int .i64 0), .lit (.int .i64 0), .lit (.int .i64 0), .lit (.int .i64 0), .lit (.int .i64 0), .lit (.int .i64 0), .lit (.int .i64 0), .lit (.slice none 0 0), .lit (.int .i64 0), .lit (.int .i64 0), .lit (.slice none 0 0)]) := by kernel_rfl
theorem ta135 : tyArray Tryz.prog 135 = none := by kernel_rfl
theorem tl135 : tySlice Tryz.prog 135 = none := by kernel_rfl
theorem ti135 : tyInt Tryz.prog 135 = none := by kernel_rfl
theorem tt135 : tyString Tryz.prog 135 = false := by kernel_rfl
theorem tq135 : tyBool Tryz.prog 135 = false := by kernel_rfl
theorem tn135 : tyNil Tryz.prog 135 = none := by kernel_rfl
theorem tf135_0 : tyField Tryz.prog 135 0 = some (0, 27) := by kernel_rfl
theorem tf135_1 : tyField Tryz.prog 135 1 = some (1, 99) := by kernel_rfl
theorem tf135_2 : tyField Tryz.prog 135 2 = some (2, 91) := by kernel_rfl
theorem tf135_3 : tyField Tryz.prog 135 3 = some (11, 3) := by kernel_rfl
theorem tf135_4 : tyField Tryz.prog 135 4 = some (12, 96) := by kernel_rfl
theorem tf135_5 : tyField Tryz.prog 135 5 = some (15, 130) := by kernel_rfl
theorem tf135_6 : tyField Tryz.prog 135 6 = some (17, 94) := by kernel_rfl
theorem tp135 : tyPlaces Tryz.prog 135 = some [(0, 1), (1, 1), (2, 9), (11, 1), (12, 3), (15, 2), (17, 1)] := by kernel_rfl
theorem ts136 : tySize Tryz.prog 136 = some 1 := by kernel_rfl
theorem tb136 : tyBytes Tryz.prog 136 = some 24 := by kernel_rfl
theorem tg136 : tyAgg Tryz.prog 136 = some false := by kernel_rfl
theorem tz136 : tyZero Tryz.prog 136 = some (.lit (.slice none 0 0)) := by kernel_rfl
theorem ta136 : tyArray Tryz.prog 136 = none := by kernel_rfl
theorem tl136 : tySlice Tryz.prog 136 = some 138 := by kernel_rfl
theorem ti136 : tyInt Tryz.prog 136 = none := by kernel_rfl
theorem tt136 : tyString Tryz.prog 136 = false := by kernel_rfl
theorem tq136 : tyBool Tryz.prog 136 = false := by kernel_rfl
theorem tn136 : tyNil Tryz.prog 136 = some .slice := by kernel_rfl
theorem tp136 : tyPlaces Tryz.prog 136 = none := by kernel_rfl
theorem tu136 : Tryz.prog.underlying 136 = some (.slice 138) := by kernel_rfl
theorem ts138 : tySize Tryz.prog 138 = some 1 := by kernel_rfl
theorem tb138 : tyBytes Tryz.prog 138 = some 8 := by kernel_rfl
theorem tg138 : tyAgg Tryz.prog 138 = some false := by kernel_rfl
theorem tz138 : tyZero Tryz.prog 138 = some (.lit (.nilFunc)) := by kernel_rfl
theorem ta138 : tyArray Tryz.prog 138 = none := by kernel_rfl
theorem tl138 : tySlice Tryz.prog 138 = none := by kernel_rfl
theorem ti138 : tyInt Tryz.prog 138 = none := by kernel_rfl
theorem tt138 : tyString Tryz.prog 138 = false := by kernel_rfl
theorem tq138 : tyBool Tryz.prog 138 = false := by kernel_rfl
theorem tn138 : tyNil Tryz.prog 138 = some .func := by kernel_rfl
theorem tp138 : tyPlaces Tryz.prog 138 = none := by kernel_rfl
theorem ts141 : tySize Tryz.prog 141 = some 1 := by kernel_rfl
theorem tb141 : tyBytes Tryz.prog 141 = some 8 := by kernel_rfl
theorem tg141 : tyAgg Tryz.prog 141 = some false := by kernel_rfl
theorem tz141 : tyZero Tryz.prog 141 = some (.lit (.int .u64 0)) := by kernel_rfl
theorem ta141 : tyArray Tryz.prog 141 = none := by kernel_rfl
theorem tl141 : tySlice Tryz.prog 141 = none := by kernel_rfl
theorem ti141 : tyInt Tryz.prog 141 = some .u64 := by kernel_rfl
theorem tt141 : tyString Tryz.prog 141 = false := by kernel_rfl
theorem tq141 : tyBool Tryz.prog 141 = false := by kernel_rfl
theorem tn141 : tyNil Tryz.prog 141 = none := by kernel_rfl
theorem tp141 : tyPlaces Tryz.prog 141 = none := by kernel_rfl
theorem tu141 : Tryz.prog.underlying 141 = some (.int .u64) := by kernel_rfl
theorem ts145 : tySize Tryz.prog 145 = some 1 := by kernel_rfl
theorem tb145 : tyBytes Tryz.prog 145 = some 8 := by kernel_rfl
theorem tg145 : tyAgg Tryz.prog 145 = some false := by kernel_rfl
theorem tz145 : tyZero Tryz.prog 145 = some (.lit (.pointer none)) := by kernel_rfl
theorem ta145 : tyArray Tryz.prog 145 = none := by kernel_rfl
theorem tl145 : tySlice Tryz.prog 145 = none := by kernel_rfl
theorem ti145 : tyInt Tryz.prog 145 = none := by kernel_rfl
theorem tt145 : tyString Tryz.prog 145 = false := by kernel_rfl
theorem tq145 : tyBool Tryz.prog 145 = false := by kernel_rfl
theorem tn145 : tyNil Tryz.prog 145 = some .ptr := by kernel_rfl
theorem tp145 : tyPlaces Tryz.prog 145 = none := by kernel_rfl
theorem tu145 : Tryz.prog.underlying 145 = some (.pointer 3) := by kernel_rfl
theorem ts150 : tySize Tryz.prog 150 = some 1 := by kernel_rfl
theorem tb150 : tyBytes Tryz.prog 150 = some 8 := by kernel_rfl
theorem tg150 : tyAgg Tryz.prog 150 = some false := by kernel_rfl
theorem tz150 : tyZero Tryz.prog 150 = some (.lit (.pointer none)) := by kernel_rfl
theorem ta150 : tyArray Tryz.prog 150 = none := by kernel_rfl
theorem tl150 : tySlice Tryz.prog 150 = none := by kernel_rfl
theorem ti150 : tyInt Tryz.prog 150 = none := by kernel_rfl
theorem tt150 : tyString Tryz.prog 150 = false := by kernel_rfl
theorem tq150 : tyBool Tryz.prog 150 = false := by kernel_rfl
theorem tn150 : tyNil Tryz.prog 150 = some .ptr := by kernel_rfl
theorem tp150 : tyPlaces Tryz.prog 150 = none := by kernel_rfl
theorem tu150 : Tryz.prog.underlying 150 = some (.pointer 188) := by kernel_rfl
theorem ts156 : tySize Tryz.prog 156 = some 1 := by kernel_rfl
theorem tb156 : tyBytes Tryz.prog 156 = some 8 := by kernel_rfl
theorem tg156 : tyAgg Tryz.prog 156 = some false := by kernel_rfl
theorem tz156 : tyZero Tryz.prog 156 = some (.lit (.nilFunc)) := by kernel_rfl
theorem ta156 : tyArray Tryz.prog 156 = none := by kernel_rfl
theorem tl156 : tySlice Tryz.prog 156 = none := by kernel_rfl
theorem ti156 : tyInt Tryz.prog 156 = none := by kernel_rfl
theorem tt156 : tyString Tryz.prog 156 = false := by kernel_rfl
theorem tq156 : tyBool Tryz.prog 156 = false := by kernel_rfl
theorem tn156 : tyNil Tryz.prog 156 = some .func := by kernel_rfl
theorem tp156 : tyPlaces Tryz.prog 156 = none := by kernel_rfl
theorem ts165 : tySize Tryz.prog 165 = some 2 := by kernel_rfl
theorem tb165 : tyBytes Tryz.prog 165 = some 16 := by kernel_rfl
theorem tg165 : tyAgg Tryz.prog 165 = some true := by kernel_rfl
theorem tz165 : tyZero Tryz.prog 165 = some (.agg [.lit (.int .i64 0), .lit (.int .u32 0)]) := by kernel_rfl
theorem ta165 : tyArray Tryz.prog 165 = none := by kernel_rfl
theorem tl165 : tySlice Tryz.prog 165 = none := by kernel_rfl
theorem ti165 : tyInt Tryz.prog 165 = none := by kernel_rfl
theorem tt165 : tyString Tryz.prog 165 = false := by kernel_rfl
theorem tq165 : tyBool Tryz.prog 165 = false := by kernel_rfl
theorem tn165 : tyNil Tryz.prog 165 = none := by kernel_rfl
theorem tf165_0 : tyField Tryz.prog 165 0 = some (0, 3) := by kernel_rfl
theorem tf165_1 : tyField Tryz.prog 165 1 = some (1, 22) := by kernel_rfl
theorem tp165 : tyPlaces Tryz.prog 165 = some [(0, 1), (1, 1)] := by kernel_rfl
theorem tv165 : leaves Tryz.prog 20 165 = some [.int, .int] := by kernel_rfl
theorem te165 : Tryz.prog.eqGuardType Tryz.prog.depth 165 = false := by kernel_rfl
theorem ts168 : tySize Tryz.prog 168 = some 1 := by kernel_rfl
theorem tb168 : tyBytes Tryz.prog 168 = some 8 := by kernel_rfl
theorem tg168 : tyAgg Tryz.prog 168 = some false := by kernel_rfl
theorem tz168 : tyZero Tryz.prog 168 = some (.lit (.nilFunc)) := by kernel_rfl
theorem ta168 : tyArray Tryz.prog 168 = none := by kernel_rfl
theorem tl168 : tySlice Tryz.prog 168 = none := by kernel_rfl
theorem ti168 : tyInt Tryz.prog 168 = none := by kernel_rfl
theorem tt168 : tyString Tryz.prog 168 = false := by kernel_rfl
theorem tq168 : tyBool Tryz.prog 168 = false := by kernel_rfl
theorem tn168 : tyNil Tryz.prog 168 = some .func := by kernel_rfl
theorem tp168 : tyPlaces Tryz.prog 168 = none := by kernel_rfl
theorem ts170 : tySize Tryz.prog 170 = some 1 := by kernel_rfl
theorem tb170 : tyBytes Tryz.prog 170 = some 24 := by kernel_rfl
theorem tg170 : tyAgg Tryz.prog 170 = some false := by kernel_rfl
theorem tz170 : tyZero Tryz.prog 170 = some (.lit (.slice none 0 0)) := by kernel_rfl
theorem ta170 : tyArray Tryz.prog 170 = none := by kernel_rfl
theorem tl170 : tySlice Tryz.prog 170 = some 168 := by kernel_rfl
theorem ti170 : tyInt Tryz.prog 170 = none := by kernel_rfl
theorem tt170 : tyString Tryz.prog 170 = false := by kernel_rfl
theorem tq170 : tyBool Tryz.prog 170 = false := by kernel_rfl
theorem tn170 : tyNil Tryz.prog 170 = some .slice := by kernel_rfl
theorem tp170 : tyPlaces Tryz.prog 170 = none := by kernel_rfl
theorem tu170 : Tryz.prog.underlying 170 = some (.slice 168) := by kernel_rfl
theorem ts175 : tySize Tryz.prog 175 = some 1 := by kernel_rfl
theorem tb175 : tyBytes Tryz.prog 175 = some 8 := by kernel_rfl
theorem tg175 : tyAgg Tryz.prog 175 = some false := by kernel_rfl
theorem tz175 : tyZero Tryz.prog 175 = some (.lit (.map none)) := by kernel_rfl
theorem ta175 : tyArray Tryz.prog 175 = none := by kernel_rfl
theorem tl175 : tySlice Tryz.prog 175 = none := by kernel_rfl
theorem ti175 : tyInt Tryz.prog 175 = none := by kernel_rfl
theorem tt175 : tyString Tryz.prog 175 = false := by kernel_rfl
theorem tq175 : tyBool Tryz.prog 175 = false := by kernel_rfl
theorem tn175 : tyNil Tryz.prog 175 = some .map := by kernel_rfl
theorem tp175 : tyPlaces Tryz.prog 175 = none := by kernel_rfl
theorem ts177 : tySize Tryz.prog 177 = some 1 := by kernel_rfl
theorem tb177 : tyBytes Tryz.prog 177 = some 8 := by kernel_rfl
theorem tg177 : tyAgg Tryz.prog 177 = some false := by kernel_rfl
theorem tz177 : tyZero Tryz.prog 177 = some (.lit (.pointer none)) := by kernel_rfl
theorem ta177 : tyArray Tryz.prog 177 = none := by kernel_rfl
theorem tl177 : tySlice Tryz.prog 177 = none := by kernel_rfl
theorem ti177 : tyInt Tryz.prog 177 = none := by kernel_rfl
theorem tt177 : tyString Tryz.prog 177 = false := by kernel_rfl
theorem tq177 : tyBool Tryz.prog 177 = false := by kernel_rfl
theorem tn177 : tyNil Tryz.prog 177 = some .ptr := by kernel_rfl
theorem tp177 : tyPlaces Tryz.prog 177 = none := by kernel_rfl
theorem tu177 : Tryz.prog.underlying 177 = some (.pointer 91) := by kernel_rfl
theorem ts181 : tySize Tryz.prog 181 = some 1 := by kernel_rfl
theorem tb181 : tyBytes Tryz.prog 181 = some 8 := by kernel_rfl
theorem tg181 : tyAgg Tryz.prog 181 = some false := by kernel_rfl
theorem tz181 : tyZero Tryz.prog 181 = some (.lit (.nilFunc)) := by kernel_rfl
theorem ta181 : tyArray Tryz.prog 181 = none := by kernel_rfl
theorem tl181 : tySlice Tryz.prog 181 = none := by kernel_rfl
theorem ti181 : tyInt Tryz.prog 181 = none := by kernel_rfl
theorem tt181 : tyString Tryz.prog 181 = false := by kernel_rfl
theorem tq181 : tyBool Tryz.prog 181 = false := by kernel_rfl
theorem tn181 : tyNil Tryz.prog 181 = some .func := by kernel_rfl
theorem tp181 : tyPlaces Tryz.prog 181 = none := by kernel_rfl
theorem ts182 : tySize Tryz.prog 182 = some 1 := by kernel_rfl
theorem tb182 : tyBytes Tryz.prog 182 = some 24 := by kernel_rfl
theorem tg182 : tyAgg Tryz.prog 182 = some false := by kernel_rfl
theorem tz182 : tyZero Tryz.prog 182 = some (.lit (.slice none 0 0)) := by kernel_rfl
theorem ta182 : tyArray Tryz.prog 182 = none := by kernel_rfl
theorem tl182 : tySlice Tryz.prog 182 = some 23 := by kernel_rfl
theorem ti182 : tyInt Tryz.prog 182 = none := by kernel_rfl
theorem tt182 : tyString Tryz.prog 182 = false := by kernel_rfl
theorem tq182 : tyBool Tryz.prog 182 = false := by kernel_rfl
theorem tn182 : tyNil Tryz.prog 182 = some .slice := by kernel_rfl
theorem tp182 : tyPlaces Tryz.prog 182 = none := by kernel_rfl
theorem tu182 : Tryz.prog.underlying 182 = some (.slice 23) := by kernel_rfl
theorem ts186 : tySize Tryz.prog 186 = some 1 := by kernel_rfl
theorem tb186 : tyBytes Tryz.prog 186 = some 24 := by kernel_rfl
theorem tg186 : tyAgg Tryz.prog 186 = some false := by kernel_rfl
theorem tz186 : tyZero Tryz.prog 186 = some (.lit (.slice none 0 0)) := by kernel_rfl
theorem ta186 : tyArray Tryz.prog 186 = none := by kernel_rfl
theorem tl186 : tySlice Tryz.prog 186 = some 359 := by kernel_rfl
theorem ti186 : tyInt Tryz.prog 186 = none := by kernel_rfl
theorem tt186 : tyString Tryz.prog 186 = false := by kernel_rfl
theorem tq186 : tyBool Tryz.prog 186 = false := by kernel_rfl
theorem tn186 : tyNil Tryz.prog 186 = some .slice := by kernel_rfl
theorem tp186 : tyPlaces Tryz.prog 186 = none := by kernel_rfl
theorem tu186 : Tryz.prog.underlying 186 = some (.slice 359) := by kernel_rfl
theorem ts188 : tySize Tryz.prog 188 = some 8 := by kernel_rfl
theorem tb188 : tyBytes Tryz.prog 188 = some 88 := by kernel_rfl
theorem tg188 : tyAgg Tryz.prog 188 = some true := by kernel_rfl
theorem tz188 : tyZero Tryz.prog 188 = some (.agg [.lit (.pointer none), .lit (.pointer none), .lit (.string { data := #[] }), .lit (.int .i64 0), .lit (.int .i64 0), .lit (.int .i64 0), .lit (.slice none 0 0), .lit (.bool false)]) := by kernel_rfl
theorem ta188 : tyArray Tryz.prog 188 = none := by kernel_rfl
theorem tl188 : tySlice Tryz.prog 188 = none := by kernel_rfl
theorem ti188 : tyInt Tryz.prog 188 = none := by kernel_rfl
theorem tt188 : tyString Tryz.prog 188 = false := by kernel_rfl
theorem tq188 : tyBool Tryz.prog 188 = false := by kernel_rfl
theorem tn188 : tyNil Tryz.prog 188 = none := by kernel_rfl
theorem tf188_0 : tyField Tryz.prog 188 0 = some (0, 27) := by kernel_rfl
theorem tf188_1 : tyField Tryz.prog 188 1 = some (1, 99) := by kernel_rfl
theorem tf188_2 : tyField Tryz.prog 188 2 = some (2, 9) := by kernel_rfl
theorem tf188_3 : tyField Tryz.prog 188 3 = some (3, 3) := by kernel_rfl
theorem tf188_4 : tyField Tryz.prog 188 4 = some (4, 3) := by kernel_rfl
theorem tf188_5 : tyField Tryz.prog 188 5 = some (5, 3) := by kernel_rfl
theorem tf188_6 : tyField Tryz.prog 188 6 = some (6, 186) := by kernel_rfl
theorem tf188_7 : tyField Tryz.prog 188 7 = some (7, 4) := by kernel_rfl
theorem tp188 : tyPlaces Tryz.prog 188 = some [(0, 1), (1, 1), (2, 1), (3, 1), (4, 1), (5, 1), (6, 1), (7, 1)] := by kernel_rfl
theorem ts190 : tySize Tryz.prog 190 = some 1 := by kernel_rfl
theorem tb190 : tyBytes Tryz.prog 190 = some 8 := by kernel_rfl
theorem tg190 : tyAgg Tryz.prog 190 = some false := by kernel_rfl
theorem tz190 : tyZero Tryz.prog 190 = some (.lit (.pointer none)) := by kernel_rfl
theorem ta190 : tyArray Tryz.prog 190 = none := by kernel_rfl
theorem tl190 : tySlice Tryz.prog 190 = none := by kernel_rfl
theorem ti190 : tyInt Tryz.prog 190 = none := by kernel_rfl
theorem tt190 : tyString Tryz.prog 190 = false := by kernel_rfl
theorem tq190 : tyBool Tryz.prog 190 = false := by kernel_rfl
theorem tn190 : tyNil Tryz.prog 190 = some .ptr := by kernel_rfl
theorem tp190 : tyPlaces Tryz.prog 190 = none := by kernel_rfl
theorem tu190 : Tryz.prog.underlying 190 = some (.pointer 194) := by kernel_rfl
theorem ts192 : tySize Tryz.prog 192 = some 1 := by kernel_rfl
theorem tb192 : tyBytes Tryz.prog 192 = some 16 := by kernel_rfl
theorem tg192 : tyAgg Tryz.prog 192 = some true := by kernel_rfl
theorem tz192 : tyZero Tryz.prog 192 = some (.agg [.lit (.string { data := #[] })]) := by kernel_rfl
theorem ta192 : tyArray Tryz.prog 192 = none := by kernel_rfl
theorem tl192 : tySlice Tryz.prog 192 = none := by kernel_rfl
theorem ti192 : tyInt Tryz.prog 192 = none := by kernel_rfl
theorem tt192 : tyString Tryz.prog 192 = false := by kernel_rfl
theorem tq192 : tyBool Tryz.prog 192 = false := by kernel_rfl
theorem tn192 : tyNil Tryz.prog 192 = none := by kernel_rfl
theorem tf192_0 : tyField Tryz.prog 192 0 = some (0, 9) := by kernel_rfl
theorem tp192 : tyPlaces Tryz.prog 192 = some [(0, 1)] := by kernel_rfl
theorem tv192 : leaves Tryz.prog 20 192 = some [.str] := by kernel_rfl
theorem te192 : Tryz.prog.eqGuardType Tryz.prog.depth 192 = false := by kernel_rfl
theorem ts194 : tySize Tryz.prog 194 = some 2 := by kernel_rfl
theorem tb194 : tyBytes Tryz.prog 194 = some 24 := by kernel_rfl
theorem tg194 : tyAgg Tryz.prog 194 = some true := by kernel_rfl
theorem tz194 : tyZero Tryz.prog 194 = some (.agg [.lit (.string { data := #[] }), .lit (.bool false)]) := by kernel_rfl
theorem ta194 : tyArray Tryz.prog 194 = none := by kernel_rfl
theorem tl194 : tySlice Tryz.prog 194 = none := by kernel_rfl
theorem ti194 : tyInt Tryz.prog 194 = none := by kernel_rfl
theorem tt194 : tyString Tryz.prog 194 = false := by kernel_rfl
theorem tq194 : tyBool Tryz.prog 194 = false := by kernel_rfl
theorem tn194 : tyNil Tryz.prog 194 = none := by kernel_rfl
theorem tf194_0 : tyField Tryz.prog 194 0 = some (0, 192) := by kernel_rfl
theorem tf194_1 : tyField Tryz.prog 194 1 = some (1, 4) := by kernel_rfl
theorem tp194 : tyPlaces Tryz.prog 194 = some [(0, 1), (1, 1)] := by kernel_rfl
theorem tv194 : leaves Tryz.prog 20 194 = some [.str, .bool] := by kernel_rfl
theorem te194 : Tryz.prog.eqGuardType Tryz.prog.depth 194 = false := by kernel_rfl
theorem ts197 : tySize Tryz.prog 197 = some 1 := by kernel_rfl
theorem tb197 : tyBytes Tryz.prog 197 = some 8 := by kernel_rfl
theorem tg197 : tyAgg Tryz.prog 197 = some false := by kernel_rfl
theorem tz197 : tyZero Tryz.prog 197 = some (.lit (.nilFunc)) := by kernel_rfl
theorem ta197 : tyArray Tryz.prog 197 = none := by kernel_rfl
theorem tl197 : tySlice Tryz.prog 197 = none := by kernel_rfl
theorem ti197 : tyInt Tryz.prog 197 = none := by kernel_rfl
theorem tt197 : tyString Tryz.prog 197 = false := by kernel_rfl
theorem tq197 : tyBool Tryz.prog 197 = false := by kernel_rfl
theorem tn197 : tyNil Tryz.prog 197 = some .func := by kernel_rfl
theorem tp197 : tyPlaces Tryz.prog 197 = none := by kernel_rfl
theorem ts214 : tySize Tryz.prog 214 = some 1 := by kernel_rfl
theorem tb214 : tyBytes Tryz.prog 214 = some 8 := by kernel_rfl
theorem tg214 : tyAgg Tryz.prog 214 = some false := by kernel_rfl
theorem tz214 : tyZero Tryz.prog 214 = some (.lit (.pointer none)) := by kernel_rfl
theorem ta214 : tyArray Tryz.prog 214 = none := by kernel_rfl
theorem tl214 : tySlice Tryz.prog 214 = none := by kernel_rfl
theorem ti214 : tyInt Tryz.prog 214 = none := by kernel_rfl
theorem tt214 : tyString Tryz.prog 214 = false := by kernel_rfl
theorem tq214 : tyBool Tryz.prog 214 = false := by kernel_rfl
theorem tn214 : tyNil Tryz.prog 214 = some .ptr := by kernel_rfl
theorem tp214 : tyPlaces Tryz.prog 214 = none := by kernel_rfl
theorem tu214 : Tryz.prog.underlying 214 = some (.pointer 216) := by kernel_rfl
theorem ts216 : tySize Tryz.prog 216 = some 2 := by kernel_rfl
theorem tb216 : tyBytes Tryz.prog 216 = some 32 := by kernel_rfl
theorem tg216 : tyAgg Tryz.prog 216 = some true := by kernel_rfl
theorem tz216 : tyZero Tryz.prog 216 = some (.agg [.lit (.pointer none), .lit (.slice none 0 0)]) := by kernel_rfl
theorem ta216 : tyArray Tryz.prog 216 = none := by kernel_rfl
theorem tl216 : tySlice Tryz.prog 216 = none := by kernel_rfl
theorem ti216 : tyInt Tryz.prog 216 = none := by kernel_rfl
theorem tt216 : tyString Tryz.prog 216 = false := by kernel_rfl
theorem tq216 : tyBool Tryz.prog 216 = false := by kernel_rfl
theorem tn216 : tyNil Tryz.prog 216 = none := by kernel_rfl
theorem tf216_0 : tyField Tryz.prog 216 0 = some (0, 214) := by kernel_rfl
theorem tf216_1 : tyField Tryz.prog 216 1 = some (1, 80) := by kernel_rfl
theorem tp216 : tyPlaces Tryz.prog 216 = some [(0, 1), (1, 1)] := by kernel_rfl
theorem ts224 : tySize Tryz.prog 224 = some 1 := by kernel_rfl
theorem tb224 : tyBytes Tryz.prog 224 = some 8 := by kernel_rfl
theorem tg224 : tyAgg Tryz.prog 224 = some false := by kernel_rfl
theorem tz224 : tyZero Tryz.prog 224 = some (.lit (.pointer none)) := by kernel_rfl
theorem ta224 : tyArray Tryz.prog 224 = none := by kernel_rfl
theorem tl224 : tySlice Tryz.prog 224 = none := by kernel_rfl
theorem ti224 : tyInt Tryz.prog 224 = none := by kernel_rfl
theorem tt224 : tyString Tryz.prog 224 = false := by kernel_rfl
theorem tq224 : tyBool Tryz.prog 224 = false := by kernel_rfl
theorem tn224 : tyNil Tryz.prog 224 = some .ptr := by kernel_rfl
theorem tp224 : tyPlaces Tryz.prog 224 = none := by kernel_rfl
theorem tu224 : Tryz.prog.underlying 224 = some (.pointer 276) := by kernel_rfl
theorem ts240 : tySize Tryz.prog 240 = some 1 := by kernel_rfl
theorem tb240 : tyBytes Tryz.prog 240 = some 8 := by kernel_rfl
theorem tg240 : tyAgg Tryz.prog 240 = some false := by kernel_rfl
theorem tz240 : tyZero Tryz.prog 240 = some (.lit (.nilFunc)) := by kernel_rfl
theorem ta240 : tyArray Tryz.prog 240 = none := by kernel_rfl
theorem tl240 : tySlice Tryz.prog 240 = none := by kernel_rfl
theorem ti240 : tyInt Tryz.prog 240 = none := by kernel_rfl
theorem tt240 : tyString Tryz.prog 240 = false := by kernel_rfl
theorem tq240 : tyBool Tryz.prog 240 = false := by kernel_rfl
theorem tn240 : tyNil Tryz.prog 240 = some .func := by kernel_rfl
theorem tp240 : tyPlaces Tryz.prog 240 = none := by kernel_rfl
theorem ts245 : tySize Tryz.prog 245 = some 1 := by kernel_rfl
theorem tb245 : tyBytes Tryz.prog 245 = some 8 := by kernel_rfl
theorem tg245 : tyAgg Tryz.prog 245 = some false := by kernel_rfl
theorem tz245 : tyZero Tryz.prog 245 = some (.lit (.nilFunc)) := by kernel_rfl
theorem ta245 : tyArray Tryz.prog 245 = none := by kernel_rfl
theorem tl245 : tySlice Tryz.prog 245 = none := by kernel_rfl
theorem ti245 : tyInt Tryz.prog 245 = none := by kernel_rfl
theorem tt245 : tyString Tryz.prog 245 = false := by kernel_rfl
theorem tq245 : tyBool Tryz.prog 245 = false := by kernel_rfl
theorem tn245 : tyNil Tryz.prog 245 = some .func := by kernel_rfl
theorem tp245 : tyPlaces Tryz.prog 245 = none := by kernel_rfl
theorem ts251 : tySize Tryz.prog 251 = some 1 := by kernel_rfl
theorem tb251 : tyBytes Tryz.prog 251 = some 8 := by kernel_rfl
theorem tg251 : tyAgg Tryz.prog 251 = some false := by kernel_rfl
theorem tz251 : tyZero Tryz.prog 251 = some (.lit (.pointer none)) := by kernel_rfl
theorem ta251 : tyArray Tryz.prog 251 = none := by kernel_rfl
theorem tl251 : tySlice Tryz.prog 251 = none := by kernel_rfl
theorem ti251 : tyInt Tryz.prog 251 = none := by kernel_rfl
theorem tt251 : tyString Tryz.prog 251 = false := by kernel_rfl
theorem tq251 : tyBool Tryz.prog 251 = false := by kernel_rfl
theorem tn251 : tyNil Tryz.prog 251 = some .ptr := by kernel_rfl
theorem tp251 : tyPlaces Tryz.prog 251 = none := by kernel_rfl
theorem tu251 : Tryz.prog.underlying 251 = some (.pointer 256) := by kernel_rfl
theorem ts253 : tySize Tryz.prog 253 = some 5 := by kernel_rfl
theorem tb253 : tyBytes Tryz.prog 253 = some 56 := by kernel_rfl
theorem tg253 : tyAgg Tryz.prog 253 = some true := by kernel_rfl
theorem tz253 : tyZero Tryz.prog 253 = some (.agg [.lit (.string { data := #[] }), .lit (.string { data := #[] }), .lit (.int .i64 0), .lit (.int .i64 0), .lit (.int .i64 0)]) := by kernel_rfl
theorem ta253 : tyArray Tryz.prog 253 = none := by kernel_rfl
theorem tl253 : tySlice Tryz.prog 253 = none := by kernel_rfl
theorem ti253 : tyInt Tryz.prog 253 = none := by kernel_rfl
theorem tt253 : tyString Tryz.prog 253 = false := by kernel_rfl
theorem tq253 : tyBool Tryz.prog 253 = false := by kernel_rfl
theorem tn253 : tyNil Tryz.prog 253 = none := by kernel_rfl
theorem tf253_0 : tyField Tryz.prog 253 0 = some (0, 9) := by kernel_rfl
theorem tf253_1 : tyField Tryz.prog 253 1 = some (1, 9) := by kernel_rfl
theorem tf253_2 : tyField Tryz.prog 253 2 = some (2, 3) := by kernel_rfl
theorem tf253_3 : tyField Tryz.prog 253 3 = some (3, 3) := by kernel_rfl
theorem tf253_4 : tyField Tryz.prog 253 4 = some (4, 3) := by kernel_rfl
theorem tp253 : tyPlaces Tryz.prog 253 = some [(0, 1), (1, 1), (2, 1), (3, 1), (4, 1)] := by kernel_rfl
theorem tv253 : leaves Tryz.prog 20 253 = some [.str, .str, .int, .int, .int] := by kernel_rfl
theorem te253 : Tryz.prog.eqGuardType Tryz.prog.depth 253 = false := by kernel_rfl
theorem ts254 : tySize Tryz.prog 254 = some 1 := by kernel_rfl
theorem tb254 : tyBytes Tryz.prog 254 = some 8 := by kernel_rfl
theorem tg254 : tyAgg Tryz.prog 254 = some false := by kernel_rfl
theorem tz254 : tyZero Tryz.prog 254 = some (.lit (.pointer none)) := by kernel_rfl
theorem ta254 : tyArray Tryz.prog 254 = none := by kernel_rfl
theorem tl254 : tySlice Tryz.prog 254 = none := by kernel_rfl
theorem ti254 : tyInt Tryz.prog 254 = none := by kernel_rfl
theorem tt254 : tyString Tryz.prog 254 = false := by kernel_rfl
theorem tq254 : tyBool Tryz.prog 254 = false := by kernel_rfl
theorem tn254 : tyNil Tryz.prog 254 = some .ptr := by kernel_rfl
theorem tp254 : tyPlaces Tryz.prog 254 = none := by kernel_rfl
theorem tu254 : Tryz.prog.underlying 254 = some (.pointer 341) := by kernel_rfl
theorem ts256 : tySize Tryz.prog 256 = some 9 := by kernel_rfl
theorem tb256 : tyBytes Tryz.prog 256 = some 88 := by kernel_rfl
theorem tg256 : tyAgg Tryz.prog 256 = some true := by kernel_rfl
theorem tz256 : tyZero Tryz.prog 256 = some (.agg [.lit (.pointer none), .lit (.pointer none), .lit (.string { data := #[] }), .lit (.string { data := #[] }), .lit (.int .i64 0), .lit (.int .i64 0), .lit (.int .i64 0), .lit (.int .i64 0), .lit (.pointer none)]) := by kernel_rfl
theorem ta256 : tyArray Tryz.prog 256 = none := by kernel_rfl
theorem tl256 : tySlice Tryz.prog 256 = none := by kernel_rfl
theorem ti256 : tyInt Tryz.prog 256 = none := by kernel_rfl
theorem tt256 : tyString Tryz.prog 256 = false := by kernel_rfl
theorem tq256 : tyBool Tryz.prog 256 = false := by kernel_rfl
theorem tn256 : tyNil Tryz.prog 256 = none := by kernel_rfl
theorem tf256_0 : tyField Tryz.prog 256 0 = some (0, 27) := by kernel_rfl
theorem tf256_1 : tyField Tryz.prog 256 1 = some (1, 99) := by kernel_rfl
theorem tf256_2 : tyField Tryz.prog 256 2 = some (2, 253) := by kernel_rfl
theorem tf256_3 : tyField Tryz.prog 256 3 = some (7, 3) := by kernel_rfl
theorem tf256_4 : tyField Tryz.prog 256 4 = some (8, 254) := by kernel_rfl
theorem tp256 : tyPlaces Tryz.prog 256 = some [(0, 1), (1, 1), (2, 5), (7, 1), (8, 1)] := by kernel_rfl
theorem ts264 : tySize Tryz.prog 264 = some 1 := by kernel_rfl
theorem tb264 : tyBytes Tryz.prog 264 = some 8 := by kernel_rfl
theorem tg264 : tyAgg Tryz.prog 264 = some false := by kernel_rfl
theorem tz264 : tyZero Tryz.prog 264 = some (.lit (.nilFunc)) := by kernel_rfl
theorem ta264 : tyArray Tryz.prog 264 = none := by kernel_rfl
theorem tl264 : tySlice Tryz.prog 264 = none := by kernel_rfl
theorem ti264 : tyInt Tryz.prog 264 = none := by kernel_rfl
theorem tt264 : tyString Tryz.prog 264 = false := by kernel_rfl
theorem tq264 : tyBool Tryz.prog 264 = false := by kernel_rfl
theorem tn264 : tyNil Tryz.prog 264 = some .func := by kernel_rfl
theorem tp264 : tyPlaces Tryz.prog 264 = none := by kernel_rfl
theorem ts270 : tySize Tryz.prog 270 = some 4 := by kernel_rfl
theorem tb270 : tyBytes Tryz.prog 270 = some 4 := by kernel_rfl
theorem tg270 : tyAgg Tryz.prog 270 = some true := by kernel_rfl
theorem tz270 : tyZero Tryz.prog 270 = some (.agg [.lit (.int .u8 0), .lit (.int .u8 0), .lit (.int .u8 0), .lit (.int .u8 0)]) := by kernel_rfl
theorem ta270 : tyArray Tryz.prog 270 = some (4, 5) := by kernel_rfl
theorem tl270 : tySlice Tryz.prog 270 = none := by kernel_rfl
theorem ti270 : tyInt Tryz.prog 270 = none := by kernel_rfl
theorem tt270 : tyString Tryz.prog 270 = false := by kernel_rfl
theorem tq270 : tyBool Tryz.prog 270 = false := by kernel_rfl
theorem tn270 : tyNil Tryz.prog 270 = none := by kernel_rfl
theorem tp270 : tyPlaces Tryz.prog 270 = none := by kernel_rfl
theorem tu270 : Tryz.prog.underlying 270 = some (.array 4 5) := by kernel_rfl
theorem ts272 : tySize Tryz.prog 272 = some 1 := by kernel_rfl
theorem tb272 : tyBytes Tryz.prog 272 = some 8 := by kernel_rfl
theorem tg272 : tyAgg Tryz.prog 272 = some false := by kernel_rfl
theorem tz272 : tyZero Tryz.prog 272 = some (.lit (.pointer none)) := by kernel_rfl
theorem ta272 : tyArray Tryz.prog 272 = none := by kernel_rfl
theorem tl272 : tySlice Tryz.prog 272 = none := by kernel_rfl
theorem ti272 : tyInt Tryz.prog 272 = none := by kernel_rfl
theorem tt272 : tyString Tryz.prog 272 = false := by kernel_rfl
theorem tq272 : tyBool Tryz.prog 272 = false := by kernel_rfl
theorem tn272 : tyNil Tryz.prog 272 = some .ptr := by kernel_rfl
theorem tp272 : tyPlaces Tryz.prog 272 = none := by kernel_rfl
theorem tu272 : Tryz.prog.underlying 272 = some (.pointer 5) := by kernel_rfl
theorem ts274 : tySize Tryz.prog 274 = some 4 := by kernel_rfl
theorem tb274 : tyBytes Tryz.prog 274 = some 40 := by kernel_rfl
theorem tg274 : tyAgg Tryz.prog 274 = some true := by kernel_rfl
theorem tz274 : tyZero Tryz.prog 274 = some (.agg [.lit (.pointer none), .lit (.string { data := #[] }), .lit (.int .i64 0), .lit (.int .i64 0)]) := by kernel_rfl
theorem ta274 : tyArray Tryz.prog 274 = none := by kernel_rfl
theorem tl274 : tySlice Tryz.prog 274 = none := by kernel_rfl
theorem ti274 : tyInt Tryz.prog 274 = none := by kernel_rfl
theorem tt274 : tyString Tryz.prog 274 = false := by kernel_rfl
theorem tq274 : tyBool Tryz.prog 274 = false := by kernel_rfl
theorem tn274 : tyNil Tryz.prog 274 = none := by kernel_rfl
theorem tf274_0 : tyField Tryz.prog 274 0 = some (0, 27) := by kernel_rfl
theorem tf274_1 : tyField Tryz.prog 274 1 = some (1, 9) := by kernel_rfl
theorem tf274_2 : tyField Tryz.prog 274 2 = some (2, 3) := by kernel_rfl
theorem tf274_3 : tyField Tryz.prog 274 3 = some (3, 3) := by kernel_rfl
theorem tp274 : tyPlaces Tryz.prog 274 = some [(0, 1), (1, 1), (2, 1), (3, 1)] := by kernel_rfl
theorem ts276 : tySize Tryz.prog 276 = some 14 := by kernel_rfl
theorem tb276 : tyBytes Tryz.prog 276 = some 112 := by kernel_rfl
theorem tg276 : tyAgg Tryz.prog 276 = some true := by kernel_rfl
theorem tz276 : tyZero Tryz.prog 276 = some (.agg [.lit (.pointer none), .lit (.string { data := #[] }), .lit (.int .i64 0), .lit (.int .i64 0), .lit (.pointer none), .lit (.int .i64 0), .lit (.slice none 0 0), .lit (.int .i64 0), .lit (.int .u32 0), .lit (.int .i64 0), .lit (.bool false), .lit (.bool false), .lit (.bool false), .lit (.bool false)]) := by kernel_rfl
theorem ta276 : tyArray Tryz.prog 276 = none := by kernel_rfl
theorem tl276 : tySlice Tryz.prog 276 = none := by kernel_rfl
theorem ti276 : tyInt Tryz.prog 276 = none := by kernel_rfl
theorem tt276 : tyString Tryz.prog 276 = false := by kernel_rfl
theorem tq276 : tyBool Tryz.prog 276 = false := by kernel_rfl
theorem tn276 : tyNil Tryz.prog 276 = none := by kernel_rfl
theorem tf276_0 : tyField Tryz.prog 276 0 = some (0, 274) := by kernel_rfl
theorem tf276_1 : tyField Tryz.prog 276 1 = some (4, 99) := by kernel_rfl
theorem tf276_2 : tyField Tryz.prog 276 2 = some (5, 3) := by kernel_rfl
theorem tf276_3 : tyField Tryz.prog 276 3 = some (6, 40) := by kernel_rfl
theorem tf276_4 : tyField Tryz.prog 276 4 = some (7, 165) := by kernel_rfl
theorem tf276_5 : tyField Tryz.prog 276 5 = some (9, 3) := by kernel_rfl
theorem tf276_6 : tyField Tryz.prog 276 6 = some (10, 4) := by kernel_rfl
theorem tf276_7 : tyField Tryz.prog 276 7 = some (11, 4) := by kernel_rfl
theorem tf276_8 : tyField Tryz.prog 276 8 = some (12, 4) := by kernel_rfl
theorem tf276_9 : tyField Tryz.prog 276 9 = some (13, 4) := by kernel_rfl
theorem tp276 : tyPlaces Tryz.prog 276 = some [(0, 4), (4, 1), (5, 1), (6, 1), (7, 2), (9, 1), (10, 1), (11, 1), (12, 1), (13, 1)] := by kernel_rfl
theorem ts286 : tySize Tryz.prog 286 = some 2 := by kernel_rfl
theorem tb286 : tyBytes Tryz.prog 286 = some 16 := by kernel_rfl
theorem tg286 : tyAgg Tryz.prog 286 = some true := by kernel_rfl
theorem tz286 : tyZero Tryz.prog 286 = some (.agg [.lit (.int .i64 0), .lit (.int .i64 0)]) := by kernel_rfl
theorem ta286 : tyArray Tryz.prog 286 = none := by kernel_rfl
theorem tl286 : tySlice Tryz.prog 286 = none := by kernel_rfl
theorem ti286 : tyInt Tryz.prog 286 = none := by kernel_rfl
theorem tt286 : tyString Tryz.prog 286 = false := by kernel_rfl
theorem tq286 : tyBool Tryz.prog 286 = false := by kernel_rfl
theorem tn286 : tyNil Tryz.prog 286 = none := by kernel_rfl
theorem tf286_0 : tyField Tryz.prog 286 0 = some (0, 3) := by kernel_rfl
theorem tf286_1 : tyField Tryz.prog 286 1 = some (1, 3) := by kernel_rfl
theorem tp286 : tyPlaces Tryz.prog 286 = some [(0, 1), (1, 1)] := by kernel_rfl
theorem tv286 : leaves Tryz.prog 20 286 = some [.int, .int] := by kernel_rfl
theorem te286 : Tryz.prog.eqGuardType Tryz.prog.depth 286 = false := by kernel_rfl
theorem ts291 : tySize Tryz.prog 291 = some 1 := by kernel_rfl
theorem tb291 : tyBytes Tryz.prog 291 = some 8 := by kernel_rfl
theorem tg291 : tyAgg Tryz.prog 291 = some false := by kernel_rfl
theorem tz291 : tyZero Tryz.prog 291 = some (.lit (.pointer none)) := by kernel_rfl
theorem ta291 : tyArray Tryz.prog 291 = none := by kernel_rfl
theorem tl291 : tySlice Tryz.prog 291 = none := by kernel_rfl
theorem ti291 : tyInt Tryz.prog 291 = none := by kernel_rfl
theorem tt291 : tyString Tryz.prog 291 = false := by kernel_rfl
theorem tq291 : tyBool Tryz.prog 291 = false := by kernel_rfl
theorem tn291 : tyNil Tryz.prog 291 = some .ptr := by kernel_rfl
theorem tp291 : tyPlaces Tryz.prog 291 = none := by kernel_rfl
theorem tu291 : Tryz.prog.underlying 291 = some (.pointer 295) := by kernel_rfl
theorem ts293 : tySize Tryz.prog 293 = some 4 := by kernel_rfl
theorem tb293 : tyBytes Tryz.prog 293 = some 32 := by kernel_rfl
theorem tg293 : tyAgg Tryz.prog 293 = some true := by kernel_rfl
theorem tz293 : tyZero Tryz.prog 293 = some (.agg [.lit (.int .i64 0), .lit (.int .i64 0), .lit (.int .i64 0), .lit (.int .i64 0)]) := by kernel_rfl
theorem ta293 : tyArray Tryz.prog 293 = none := by kernel_rfl
theorem tl293 : tySlice Tryz.prog 293 = none := by kernel_rfl
theorem ti293 : tyInt Tryz.prog 293 = none := by kernel_rfl
theorem tt293 : tyString Tryz.prog 293 = false := by kernel_rfl
theorem tq293 : tyBool Tryz.prog 293 = false := by kernel_rfl
theorem tn293 : tyNil Tryz.prog 293 = none := by kernel_rfl
theorem tf293_0 : tyField Tryz.prog 293 0 = some (0, 286) := by kernel_rfl
theorem tf293_1 : tyField Tryz.prog 293 1 = some (2, 3) := by kernel_rfl
theorem tf293_2 : tyField Tryz.prog 293 2 = some (3, 3) := by kernel_rfl
theorem tp293 : tyPlaces Tryz.prog 293 = some [(0, 2), (2, 1), (3, 1)] := by kernel_rfl
theorem tv293 : leaves Tryz.prog 20 293 = some [.int, .int, .int, .int] := by kernel_rfl
theorem te293 : Tryz.prog.eqGuardType Tryz.prog.depth 293 = false := by kernel_rfl
theorem ts295 : tySize Tryz.prog 295 = some 6 := by kernel_rfl
theorem tb295 : tyBytes Tryz.prog 295 = some 56 := by kernel_rfl
theorem tg295 : tyAgg Tryz.prog 295 = some true := by kernel_rfl
theorem tz295 : tyZero Tryz.prog 295 = some (.agg [.lit (.pointer none), .lit (.int .i64 0), .lit (.int .i64 0), .lit (.int .i64 0), .lit (.int .i64 0), .lit (.string { data := #[] })]) := by kernel_rfl
theorem ta295 : tyArray Tryz.prog 295 = none := by kernel_rfl
theorem tl295 : tySlice Tryz.prog 295 = none := by kernel_rfl
theorem ti295 : tyInt Tryz.prog 295 = none := by kernel_rfl
theorem tt295 : tyString Tryz.prog 295 = false := by kernel_rfl
theorem tq295 : tyBool Tryz.prog 295 = false := by kernel_rfl
theorem tn295 : tyNil Tryz.prog 295 = none := by kernel_rfl
theorem tf295_0 : tyField Tryz.prog 295 0 = some (0, 254) := by kernel_rfl
theorem tf295_1 : tyField Tryz.prog 295 1 = some (1, 293) := by kernel_rfl
theorem tf295_2 : tyField Tryz.prog 295 2 = some (5, 9) := by kernel_rfl
theorem tp295 : tyPlaces Tryz.prog 295 = some [(0, 1), (1, 4), (5, 1)] := by kernel_rfl
theorem ts300 : tySize Tryz.prog 300 = some 1 := by kernel_rfl
theorem tb300 : tyBytes Tryz.prog 300 = some 24 := by kernel_rfl
theorem tg300 : tyAgg Tryz.prog 300 = some false := by kernel_rfl
theorem tz300 : tyZero Tryz.prog 300 = some (.lit (.slice none 0 0)) := by kernel_rfl
theorem ta300 : tyArray Tryz.prog 300 = none := by kernel_rfl
theorem tl300 : tySlice Tryz.prog 300 = some 315 := by kernel_rfl
theorem ti300 : tyInt Tryz.prog 300 = none := by kernel_rfl
theorem tt300 : tyString Tryz.prog 300 = false := by kernel_rfl
theorem tq300 : tyBool Tryz.prog 300 = false := by kernel_rfl
theorem tn300 : tyNil Tryz.prog 300 = some .slice := by kernel_rfl
theorem tp300 : tyPlaces Tryz.prog 300 = none := by kernel_rfl
theorem tu300 : Tryz.prog.underlying 300 = some (.slice 315) := by kernel_rfl
theorem ts307 : tySize Tryz.prog 307 = some 1 := by kernel_rfl
theorem tb307 : tyBytes Tryz.prog 307 = some 8 := by kernel_rfl
theorem tg307 : tyAgg Tryz.prog 307 = some false := by kernel_rfl
theorem tz307 : tyZero Tryz.prog 307 = some (.lit (.pointer none)) := by kernel_rfl
theorem ta307 : tyArray Tryz.prog 307 = none := by kernel_rfl
theorem tl307 : tySlice Tryz.prog 307 = none := by kernel_rfl
theorem ti307 : tyInt Tryz.prog 307 = none := by kernel_rfl
theorem tt307 : tyString Tryz.prog 307 = false := by kernel_rfl
theorem tq307 : tyBool Tryz.prog 307 = false := by kernel_rfl
theorem tn307 : tyNil Tryz.prog 307 = some .ptr := by kernel_rfl
theorem tp307 : tyPlaces Tryz.prog 307 = none := by kernel_rfl
theorem tu307 : Tryz.prog.underlying 307 = some (.pointer 309) := by kernel_rfl
theorem ts309 : tySize Tryz.prog 309 = some 8 := by kernel_rfl
theorem tb309 : tyBytes Tryz.prog 309 = some 80 := by kernel_rfl
theorem tg309 : tyAgg Tryz.prog 309 = some true := by kernel_rfl
theorem tz309 : tyZero Tryz.prog 309 = some (.agg [.lit (.pointer none), .lit (.int .i64 0), .lit (.int .i64 0), .lit (.int .i64 0), .lit (.int .i64 0), .lit (.int .i64 0), .lit (.bool false), .lit (.slice none 0 0)]) := by kernel_rfl
theorem ta309 : tyArray Tryz.prog 309 = none := by kernel_rfl
theorem tl309 : tySlice Tryz.prog 309 = none := by kernel_rfl
theorem ti309 : tyInt Tryz.prog 309 = none := by kernel_rfl
theorem tt309 : tyString Tryz.prog 309 = false := by kernel_rfl
theorem tq309 : tyBool Tryz.prog 309 = false := by kernel_rfl
theorem tn309 : tyNil Tryz.prog 309 = none := by kernel_rfl
theorem tf309_0 : tyField Tryz.prog 309 0 = some (0, 254) := by kernel_rfl
theorem tf309_1 : tyField Tryz.prog 309 1 = some (1, 3) := by kernel_rfl
theorem tf309_2 : tyField Tryz.prog 309 2 = some (2, 3) := by kernel_rfl
theorem tf309_3 : tyField Tryz.prog 309 3 = some (3, 3) := by kernel_rfl
theorem tf309_4 : tyField Tryz.prog 309 4 = some (4, 3) := by kernel_rfl
theorem tf309_5 : tyField Tryz.prog 309 5 = some (5, 3) := by kernel_rfl
theorem tf309_6 : tyField Tryz.prog 309 6 = some (6, 4) := by kernel_rfl
theorem tf309_7 : tyField Tryz.prog 309 7 = some (7, 300) := by kernel_rfl
theorem tp309 : tyPlaces Tryz.prog 309 = some [(0, 1), (1, 1), (2, 1), (3, 1), (4, 1), (5, 1), (6, 1), (7, 1)] := by kernel_rfl
theorem ts311 : tySize Tryz.prog 311 = some 1 := by kernel_rfl
theorem tb311 : tyBytes Tryz.prog 311 = some 8 := by kernel_rfl
theorem tg311 : tyAgg Tryz.prog 311 = some false := by kernel_rfl
theorem tz311 : tyZero Tryz.prog 311 = some (.lit (.pointer none)) := by kernel_rfl
theorem ta311 : tyArray Tryz.prog 311 = none := by kernel_rfl
theorem tl311 : tySlice Tryz.prog 311 = none := by kernel_rfl
theorem ti311 : tyInt Tryz.prog 311 = none := by kernel_rfl
theorem tt311 : tyString Tryz.prog 311 = false := by kernel_rfl
theorem tq311 : tyBool Tryz.prog 311 = false := by kernel_rfl
theorem tn311 : tyNil Tryz.prog 311 = some .ptr := by kernel_rfl
theorem tp311 : tyPlaces Tryz.prog 311 = none := by kernel_rfl
theorem tu311 : Tryz.prog.underlying 311 = some (.pointer 319) := by kernel_rfl
theorem ts315 : tySize Tryz.prog 315 = some 3 := by kernel_rfl
theorem tb315 : tyBytes Tryz.prog 315 = some 24 := by kernel_rfl
theorem tg315 : tyAgg Tryz.prog 315 = some true := by kernel_rfl
theorem tz315 : tyZero Tryz.prog 315 = some (.agg [.lit (.int .i64 0), .lit (.int .i64 0), .lit (.bool false)]) := by kernel_rfl
theorem ta315 : tyArray Tryz.prog 315 = none := by kernel_rfl
theorem tl315 : tySlice Tryz.prog 315 = none := by kernel_rfl
theorem ti315 : tyInt Tryz.prog 315 = none := by kernel_rfl
theorem tt315 : tyString Tryz.prog 315 = false := by kernel_rfl
theorem tq315 : tyBool Tryz.prog 315 = false := by kernel_rfl
theorem tn315 : tyNil Tryz.prog 315 = none := by kernel_rfl
theorem tf315_0 : tyField Tryz.prog 315 0 = some (0, 3) := by kernel_rfl
theorem tf315_1 : tyField Tryz.prog 315 1 = some (1, 3) := by kernel_rfl
theorem tf315_2 : tyField Tryz.prog 315 2 = some (2, 4) := by kernel_rfl
theorem tp315 : tyPlaces Tryz.prog 315 = some [(0, 1), (1, 1), (2, 1)] := by kernel_rfl
theorem tv315 : leaves Tryz.prog 20 315 = some [.int, .int, .bool] := by kernel_rfl
theorem te315 : Tryz.prog.eqGuardType Tryz.prog.depth 315 = false := by kernel_rfl
theorem ts317 : tySize Tryz.prog 317 = some 4 := by kernel_rfl
theorem tb317 : tyBytes Tryz.prog 317 = some 32 := by kernel_rfl
theorem tg317 : tyAgg Tryz.prog 317 = some true := by kernel_rfl
theorem tz317 : tyZero Tryz.prog 317 = some (.agg [.lit (.int .i64 0), .lit (.int .i64 0), .lit (.int .i64 0), .lit (.bool false)]) := by kernel_rfl
theorem ta317 : tyArray Tryz.prog 317 = none := by kernel_rfl
theorem tl317 : tySlice Tryz.prog 317 = none := by kernel_rfl
theorem ti317 : tyInt Tryz.prog 317 = none := by kernel_rfl
theorem tt317 : tyString Tryz.prog 317 = false := by kernel_rfl
theorem tq317 : tyBool Tryz.prog 317 = false := by kernel_rfl
theorem tn317 : tyNil Tryz.prog 317 = none := by kernel_rfl
theorem tf317_0 : tyField Tryz.prog 317 0 = some (0, 3) := by kernel_rfl
theorem tf317_1 : tyField Tryz.prog 317 1 = some (1, 315) := by kernel_rfl
theorem tp317 : tyPlaces Tryz.prog 317 = some [(0, 1), (1, 3)] := by kernel_rfl
theorem tv317 : leaves Tryz.prog 20 317 = some [.int, .int, .int, .bool] := by kernel_rfl
theorem te317 : Tryz.prog.eqGuardType Tryz.prog.depth 317 = false := by kernel_rfl
theorem ts319 : tySize Tryz.prog 319 = some 5 := by kernel_rfl
theorem tb319 : tyBytes Tryz.prog 319 = some 40 := by kernel_rfl
theorem tg319 : tyAgg Tryz.prog 319 = some true := by kernel_rfl
theorem tz319 : tyZero Tryz.prog 319 = some (.agg [.lit (.pointer none), .lit (.int .i64 0), .lit (.int .i64 0), .lit (.int .i64 0), .lit (.bool false)]) := by kernel_rfl
theorem ta319 : tyArray Tryz.prog 319 = none := by kernel_rfl
theorem tl319 : tySlice Tryz.prog 319 = none := by kernel_rfl
theorem ti319 : tyInt Tryz.prog 319 = none := by kernel_rfl
theorem tt319 : tyString Tryz.prog 319 = false := by kernel_rfl
theorem tq319 : tyBool Tryz.prog 319 = false := by kernel_rfl
theorem tn319 : tyNil Tryz.prog 319 = none := by kernel_rfl
theorem tf319_0 : tyField Tryz.prog 319 0 = some (0, 224) := by kernel_rfl
theorem tf319_1 : tyField Tryz.prog 319 1 = some (1, 317) := by kernel_rfl
theorem tp319 : tyPlaces Tryz.prog 319 = some [(0, 1), (1, 4)] := by kernel_rfl
theorem ts320 : tySize Tryz.prog 320 = some 1 := by kernel_rfl
theorem tb320 : tyBytes Tryz.prog 320 = some 8 := by kernel_rfl
theorem tg320 : tyAgg Tryz.prog 320 = some false := by kernel_rfl
theorem tz320 : tyZero Tryz.prog 320 = some (.lit (.pointer none)) := by kernel_rfl
theorem ta320 : tyArray Tryz.prog 320 = none := by kernel_rfl
theorem tl320 : tySlice Tryz.prog 320 = none := by kernel_rfl
theorem ti320 : tyInt Tryz.prog 320 = none := by kernel_rfl
theorem tt320 : tyString Tryz.prog 320 = false := by kernel_rfl
theorem tq320 : tyBool Tryz.prog 320 = false := by kernel_rfl
theorem tn320 : tyNil Tryz.prog 320 = some .ptr := by kernel_rfl
theorem tp320 : tyPlaces Tryz.prog 320 = none := by kernel_rfl
theorem tu320 : Tryz.prog.underlying 320 = some (.pointer 322) := by kernel_rfl
theorem ts322 : tySize Tryz.prog 322 = some 8 := by kernel_rfl
theorem tb322 : tyBytes Tryz.prog 322 = some 64 := by kernel_rfl
theorem tg322 : tyAgg Tryz.prog 322 = some true := by kernel_rfl
theorem tz322 : tyZero Tryz.prog 322 = some (.agg [.lit (.pointer none), .lit (.pointer none), .lit (.pointer none), .lit (.int .i64 0), .lit (.int .i64 0), .lit (.int .i64 0), .lit (.int .i64 0), .lit (.int .i64 0)]) := by kernel_rfl
theorem ta322 : tyArray Tryz.prog 322 = none := by kernel_rfl
theorem tl322 : tySlice Tryz.prog 322 = none := by kernel_rfl
theorem ti322 : tyInt Tryz.prog 322 = none := by kernel_rfl
theorem tt322 : tyString Tryz.prog 322 = false := by kernel_rfl
theorem tq322 : tyBool Tryz.prog 322 = false := by kernel_rfl
theorem tn322 : tyNil Tryz.prog 322 = none := by kernel_rfl
theorem tf322_0 : tyField Tryz.prog 322 0 = some (0, 311) := by kernel_rfl
theorem tf322_1 : tyField Tryz.prog 322 1 = some (1, 311) := by kernel_rfl
theorem tf322_2 : tyField Tryz.prog 322 2 = some (2, 254) := by kernel_rfl
theorem tf322_3 : tyField Tryz.prog 322 3 = some (3, 3) := by kernel_rfl
theorem tf322_4 : tyField Tryz.prog 322 4 = some (4, 3) := by kernel_rfl
theorem tf322_5 : tyField Tryz.prog 322 5 = some (5, 3) := by kernel_rfl
theorem tf322_6 : tyField Tryz.prog 322 6 = some (6, 3) := by kernel_rfl
theorem tf322_7 : tyField Tryz.prog 322 7 = some (7, 3) := by kernel_rfl
theorem tp322 : tyPlaces Tryz.prog 322 = some [(0, 1), (1, 1), (2, 1), (3, 1), (4, 1), (5, 1), (6, 1), (7, 1)] := by kernel_rfl
theorem ts330 : tySize Tryz.prog 330 = some 1 := by kernel_rfl
theorem tb330 : tyBytes Tryz.prog 330 = some 8 := by kernel_rfl
theorem tg330 : tyAgg Tryz.prog 330 = some false := by kernel_rfl
theorem tz330 : tyZero Tryz.prog 330 = some (.lit (.pointer none)) := by kernel_rfl
theorem ta330 : tyArray Tryz.prog 330 = none := by kernel_rfl
theorem tl330 : tySlice Tryz.prog 330 = none := by kernel_rfl
theorem ti330 : tyInt Tryz.prog 330 = none := by kernel_rfl
theorem tt330 : tyString Tryz.prog 330 = false := by kernel_rfl
theorem tq330 : tyBool Tryz.prog 330 = false := by kernel_rfl
theorem tn330 : tyNil Tryz.prog 330 = some .ptr := by kernel_rfl
theorem tp330 : tyPlaces Tryz.prog 330 = none := by kernel_rfl
theorem tu330 : Tryz.prog.underlying 330 = some (.pointer 332) := by kernel_rfl
theorem ts332 : tySize Tryz.prog 332 = some 6 := by kernel_rfl
theorem tb332 : tyBytes Tryz.prog 332 = some 56 := by kernel_rfl
theorem tg332 : tyAgg Tryz.prog 332 = some true := by kernel_rfl
theorem tz332 : tyZero Tryz.prog 332 = some (.agg [.lit (.pointer none), .lit (.pointer none), .lit (.string { data := #[] }), .lit (.int .i64 0), .lit (.bool false), .lit (.int .i64 0)]) := by kernel_rfl
theorem ta332 : tyArray Tryz.prog 332 = none := by kernel_rfl
theorem tl332 : tySlice Tryz.prog 332 = none := by kernel_rfl
theorem ti332 : tyInt Tryz.prog 332 = none := by kernel_rfl
theorem tt332 : tyString Tryz.prog 332 = false := by kernel_rfl
theorem tq332 : tyBool Tryz.prog 332 = false := by kernel_rfl
theorem tn332 : tyNil Tryz.prog 332 = none := by kernel_rfl
theorem tf332_0 : tyField Tryz.prog 332 0 = some (0, 27) := by kernel_rfl
theorem tf332_1 : tyField Tryz.prog 332 1 = some (1, 99) := by kernel_rfl
theorem tf332_2 : tyField Tryz.prog 332 2 = some (2, 9) := by kernel_rfl
theorem tf332_3 : tyField Tryz.prog 332 3 = some (3, 3) := by kernel_rfl
theorem tf332_4 : tyField Tryz.prog 332 4 = some (4, 4) := by kernel_rfl
theorem tf332_5 : tyField Tryz.prog 332 5 = some (5, 3) := by kernel_rfl
theorem tp332 : tyPlaces Tryz.prog 332 = some [(0, 1), (1, 1), (2, 1), (3, 1), (4, 1), (5, 1)] := by kernel_rfl
theorem ts339 : tySize Tryz.prog 339 = some 2 := by kernel_rfl
theorem tb339 : tyBytes Tryz.prog 339 = some 24 := by kernel_rfl
theorem tg339 : tyAgg Tryz.prog 339 = some true := by kernel_rfl
theorem tz339 : tyZero Tryz.prog 339 = some (.agg [.lit (.pointer none), .lit (.string { data := #[] })]) := by kernel_rfl
theorem ta339 : tyArray Tryz.prog 339 = none := by kernel_rfl
theorem tl339 : tySlice Tryz.prog 339 = none := by kernel_rfl
theorem ti339 : tyInt Tryz.prog 339 = none := by kernel_rfl
theorem tt339 : tyString Tryz.prog 339 = false := by kernel_rfl
theorem tq339 : tyBool Tryz.prog 339 = false := by kernel_rfl
theorem tn339 : tyNil Tryz.prog 339 = none := by kernel_rfl
theorem tf339_0 : tyField Tryz.prog 339 0 = some (0, 27) := by kernel_rfl
theorem tf339_1 : tyField Tryz.prog 339 1 = some (1, 9) := by kernel_rfl
theorem tp339 : tyPlaces Tryz.prog 339 = some [(0, 1), (1, 1)] := by kernel_rfl
theorem ts341 : tySize Tryz.prog 341 = some 8 := by kernel_rfl
theorem tb341 : tyBytes Tryz.prog 341 = some 88 := by kernel_rfl
theorem tg341 : tyAgg Tryz.prog 341 = some true := by kernel_rfl
theorem tz341 : tyZero Tryz.prog 341 = some (.agg [.lit (.pointer none), .lit (.string { data := #[] }), .lit (.pointer none), .lit (.int .i64 0), .lit (.slice none 0 0), .lit (.int .i64 0), .lit (.int .u32 0), .lit (.bool false)]) := by kernel_rfl
theorem ta341 : tyArray Tryz.prog 341 = none := by kernel_rfl
theorem tl341 : tySlice Tryz.prog 341 = none := by kernel_rfl
theorem ti341 : tyInt Tryz.prog 341 = none := by kernel_rfl
theorem tt341 : tyString Tryz.prog 341 = false := by kernel_rfl
theorem tq341 : tyBool Tryz.prog 341 = false := by kernel_rfl
theorem tn341 : tyNil Tryz.prog 341 = none := by kernel_rfl
theorem tf341_0 : tyField Tryz.prog 341 0 = some (0, 339) := by kernel_rfl
theorem tf341_1 : tyField Tryz.prog 341 1 = some (2, 99) := by kernel_rfl
theorem tf341_2 : tyField Tryz.prog 341 2 = some (3, 3) := by kernel_rfl
theorem tf341_3 : tyField Tryz.prog 341 3 = some (4, 40) := by kernel_rfl
theorem tf341_4 : tyField Tryz.prog 341 4 = some (5, 165) := by kernel_rfl
theorem tf341_5 : tyField Tryz.prog 341 5 = some (7, 4) := by kernel_rfl
theorem tp341 : tyPlaces Tryz.prog 341 = some [(0, 2), (2, 1), (3, 1), (4, 1), (5, 2), (7, 1)] := by kernel_rfl
theorem ts346 : tySize Tryz.prog 346 = some 1 := by kernel_rfl
theorem tb346 : tyBytes Tryz.prog 346 = some 8 := by kernel_rfl
theorem tg346 : tyAgg Tryz.prog 346 = some false := by kernel_rfl
theorem tz346 : tyZero Tryz.prog 346 = some (.lit (.pointer none)) := by kernel_rfl
theorem ta346 : tyArray Tryz.prog 346 = none := by kernel_rfl
theorem tl346 : tySlice Tryz.prog 346 = none := by kernel_rfl
theorem ti346 : tyInt Tryz.prog 346 = none := by kernel_rfl
theorem tt346 : tyString Tryz.prog 346 = false := by kernel_rfl
theorem tq346 : tyBool Tryz.prog 346 = false := by kernel_rfl
theorem tn346 : tyNil Tryz.prog 346 = none := by kernel_rfl
theorem tp346 : tyPlaces Tryz.prog 346 = none := by kernel_rfl
theorem ts348 : tySize Tryz.prog 348 = some 8 := by kernel_rfl
theorem tb348 : tyBytes Tryz.prog 348 = some 8 := by kernel_rfl
theorem tg348 : tyAgg Tryz.prog 348 = some true := by kernel_rfl
theorem tz348 : tyZero Tryz.prog 348 = some (.agg [.lit (.int .u8 0), .lit (.int .u8 0), .lit (.int .u8 0), .lit (.int .u8 0), .lit (.int .u8 0), .lit (.int .u8 0), .lit (.int .u8 0), .lit (.int .u8 0)]) := by kernel_rfl
theorem ta348 : tyArray Tryz.prog 348 = some (8, 5) := by kernel_rfl
theorem tl348 : tySlice Tryz.prog 348 = none := by kernel_rfl
theorem ti348 : tyInt Tryz.prog 348 = none := by kernel_rfl
theorem tt348 : tyString Tryz.prog 348 = false := by kernel_rfl
theorem tq348 : tyBool Tryz.prog 348 = false := by kernel_rfl
theorem tn348 : tyNil Tryz.prog 348 = none := by kernel_rfl
theorem tp348 : tyPlaces Tryz.prog 348 = none := by kernel_rfl
theorem tu348 : Tryz.prog.underlying 348 = some (.array 8 5) := by kernel_rfl
theorem ts359 : tySize Tryz.prog 359 = some 2 := by kernel_rfl
theorem tb359 : tyBytes Tryz.prog 359 = some 32 := by kernel_rfl
theorem tg359 : tyAgg Tryz.prog 359 = some true := by kernel_rfl
theorem tz359 : tyZero Tryz.prog 359 = some (.agg [.lit (.int .i64 0), .lit (.slice none 0 0)]) := by kernel_rfl
theorem ta359 : tyArray Tryz.prog 359 = none := by kernel_rfl
theorem tl359 : tySlice Tryz.prog 359 = none := by kernel_rfl
theorem ti359 : tyInt Tryz.prog 359 = none := by kernel_rfl
theorem tt359 : tyString Tryz.prog 359 = false := by kernel_rfl
theorem tq359 : tyBool Tryz.prog 359 = false := by kernel_rfl
theorem tn359 : tyNil Tryz.prog 359 = none := by kernel_rfl
theorem tf359_0 : tyField Tryz.prog 359 0 = some (0, 3) := by kernel_rfl
theorem tf359_1 : tyField Tryz.prog 359 1 = some (1, 23) := by kernel_rfl
theorem tp359 : tyPlaces Tryz.prog 359 = some [(0, 1), (1, 1)] := by kernel_rfl
theorem ts361 : tySize Tryz.prog 361 = some 1 := by kernel_rfl
theorem tb361 : tyBytes Tryz.prog 361 = some 8 := by kernel_rfl
theorem tg361 : tyAgg Tryz.prog 361 = some false := by kernel_rfl
theorem tz361 : tyZero Tryz.prog 361 = some (.lit (.nilFunc)) := by kernel_rfl
theorem ta361 : tyArray Tryz.prog 361 = none := by kernel_rfl
theorem tl361 : tySlice Tryz.prog 361 = none := by kernel_rfl
theorem ti361 : tyInt Tryz.prog 361 = none := by kernel_rfl
theorem tt361 : tyString Tryz.prog 361 = false := by kernel_rfl
theorem tq361 : tyBool Tryz.prog 361 = false := by kernel_rfl
theorem tn361 : tyNil Tryz.prog 361 = some .func := by kernel_rfl
theorem tp361 : tyPlaces Tryz.prog 361 = none := by kernel_rfl
theorem ts366 : tySize Tryz.prog 366 = some 2 := by kernel_rfl
theorem tb366 : tyBytes Tryz.prog 366 = some 16 := by kernel_rfl
theorem tg366 : tyAgg Tryz.prog 366 = some true := by kernel_rfl
theorem tz366 : tyZero Tryz.prog 366 = some (.agg [.lit (.int .i64 0), .lit (.int .i64 0)]) := by kernel_rfl
theorem ta366 : tyArray Tryz.prog 366 = some (2, 3) := by kernel_rfl
theorem tl366 : tySlice Tryz.prog 366 = none := by kernel_rfl
theorem ti366 : tyInt Tryz.prog 366 = none := by kernel_rfl
theorem tt366 : tyString Tryz.prog 366 = false := by kernel_rfl
theorem tq366 : tyBool Tryz.prog 366 = false := by kernel_rfl
theorem tn366 : tyNil Tryz.prog 366 = none := by kernel_rfl
theorem tp366 : tyPlaces Tryz.prog 366 = none := by kernel_rfl
theorem tu366 : Tryz.prog.underlying 366 = some (.array 2 3) := by kernel_rfl
theorem ts373 : tySize Tryz.prog 373 = some 1 := by kernel_rfl
theorem tb373 : tyBytes Tryz.prog 373 = some 16 := by kernel_rfl
theorem tg373 : tyAgg Tryz.prog 373 = some false := by kernel_rfl
theorem ta373 : tyArray Tryz.prog 373 = none := by kernel_rfl
theorem tl373 : tySlice Tryz.prog 373 = none := by kernel_rfl
theorem ti373 : tyInt Tryz.prog 373 = none := by kernel_rfl
theorem tt373 : tyString Tryz.prog 373 = false := by kernel_rfl
theorem tq373 : tyBool Tryz.prog 373 = false := by kernel_rfl
theorem tn373 : tyNil Tryz.prog 373 = none := by kernel_rfl
theorem tp373 : tyPlaces Tryz.prog 373 = none := by kernel_rfl
theorem ts374 : tySize Tryz.prog 374 = some 4 := by kernel_rfl
theorem tb374 : tyBytes Tryz.prog 374 = some 64 := by kernel_rfl
theorem tg374 : tyAgg Tryz.prog 374 = some true := by kernel_rfl
theorem ta374 : tyArray Tryz.prog 374 = some (4, 373) := by kernel_rfl
theorem tl374 : tySlice Tryz.prog 374 = none := by kernel_rfl
theorem ti374 : tyInt Tryz.prog 374 = none := by kernel_rfl
theorem tt374 : tyString Tryz.prog 374 = false := by kernel_rfl
theorem tq374 : tyBool Tryz.prog 374 = false := by kernel_rfl
theorem tn374 : tyNil Tryz.prog 374 = none := by kernel_rfl
theorem tp374 : tyPlaces Tryz.prog 374 = none := by kernel_rfl
theorem tu374 : Tryz.prog.underlying 374 = some (.array 4 373) := by kernel_rfl
theorem ts385 : tySize Tryz.prog 385 = some 1 := by kernel_rfl
theorem tb385 : tyBytes Tryz.prog 385 = some 8 := by kernel_rfl
theorem tg385 : tyAgg Tryz.prog 385 = some false := by kernel_rfl
theorem tz385 : tyZero Tryz.prog 385 = some (.lit (.pointer none)) := by kernel_rfl
theorem ta385 : tyArray Tryz.prog 385 = none := by kernel_rfl
theorem tl385 : tySlice Tryz.prog 385 = none := by kernel_rfl
theorem ti385 : tyInt Tryz.prog 385 = none := by kernel_rfl
theorem tt385 : tyString Tryz.prog 385 = false := by kernel_rfl
theorem tq385 : tyBool Tryz.prog 385 = false := by kernel_rfl
theorem tn385 : tyNil Tryz.prog 385 = some .ptr := by kernel_rfl
theorem tp385 : tyPlaces Tryz.prog 385 = none := by kernel_rfl
theorem tu385 : Tryz.prog.underlying 385 = some (.pointer 440) := by kernel_rfl
theorem ts389 : tySize Tryz.prog 389 = some 2 := by kernel_rfl
theorem tb389 : tyBytes Tryz.prog 389 = some 16 := by kernel_rfl
theorem tg389 : tyAgg Tryz.prog 389 = some true := by kernel_rfl
theorem tz389 : tyZero Tryz.prog 389 = some (.agg [.lit (.pointer none), .lit (.pointer none)]) := by kernel_rfl
theorem ta389 : tyArray Tryz.prog 389 = none := by kernel_rfl
theorem tl389 : tySlice Tryz.prog 389 = none := by kernel_rfl
theorem ti389 : tyInt Tryz.prog 389 = none := by kernel_rfl
theorem tt389 : tyString Tryz.prog 389 = false := by kernel_rfl
theorem tq389 : tyBool Tryz.prog 389 = false := by kernel_rfl
theorem tn389 : tyNil Tryz.prog 389 = none := by kernel_rfl
theorem tf389_0 : tyField Tryz.prog 389 0 = some (0, 150) := by kernel_rfl
theorem tf389_1 : tyField Tryz.prog 389 1 = some (1, 254) := by kernel_rfl
theorem tp389 : tyPlaces Tryz.prog 389 = some [(0, 1), (1, 1)] := by kernel_rfl
theorem ts391 : tySize Tryz.prog 391 = some 1 := by kernel_rfl
theorem tb391 : tyBytes Tryz.prog 391 = some 8 := by kernel_rfl
theorem tg391 : tyAgg Tryz.prog 391 = some false := by kernel_rfl
theorem tz391 : tyZero Tryz.prog 391 = some (.lit (.pointer none)) := by kernel_rfl
theorem ta391 : tyArray Tryz.prog 391 = none := by kernel_rfl
theorem tl391 : tySlice Tryz.prog 391 = none := by kernel_rfl
theorem ti391 : tyInt Tryz.prog 391 = none := by kernel_rfl
theorem tt391 : tyString Tryz.prog 391 = false := by kernel_rfl
theorem tq391 : tyBool Tryz.prog 391 = false := by kernel_rfl
theorem tn391 : tyNil Tryz.prog 391 = some .ptr := by kernel_rfl
theorem tp391 : tyPlaces Tryz.prog 391 = none := by kernel_rfl
theorem tu391 : Tryz.prog.underlying 391 = some (.pointer 393) := by kernel_rfl
theorem ts393 : tySize Tryz.prog 393 = some 3 := by kernel_rfl
theorem tb393 : tyBytes Tryz.prog 393 = some 32 := by kernel_rfl
theorem tg393 : tyAgg Tryz.prog 393 = some true := by kernel_rfl
theorem tz393 : tyZero Tryz.prog 393 = some (.agg [.lit (.string { data := #[] }), .lit (.int .i64 0), .lit (.bool false)]) := by kernel_rfl
theorem ta393 : tyArray Tryz.prog 393 = none := by kernel_rfl
theorem tl393 : tySlice Tryz.prog 393 = none := by kernel_rfl
theorem ti393 : tyInt Tryz.prog 393 = none := by kernel_rfl
theorem tt393 : tyString Tryz.prog 393 = false := by kernel_rfl
theorem tq393 : tyBool Tryz.prog 393 = false := by kernel_rfl
theorem tn393 : tyNil Tryz.prog 393 = none := by kernel_rfl
theorem tf393_0 : tyField Tryz.prog 393 0 = some (0, 9) := by kernel_rfl
theorem tf393_1 : tyField Tryz.prog 393 1 = some (1, 3) := by kernel_rfl
theorem tf393_2 : tyField Tryz.prog 393 2 = some (2, 4) := by kernel_rfl
theorem tp393 : tyPlaces Tryz.prog 393 = some [(0, 1), (1, 1), (2, 1)] := by kernel_rfl
theorem tv393 : leaves Tryz.prog 20 393 = some [.str, .int, .bool] := by kernel_rfl
theorem te393 : Tryz.prog.eqGuardType Tryz.prog.depth 393 = false := by kernel_rfl
theorem ts396 : tySize Tryz.prog 396 = some 1 := by kernel_rfl
theorem tb396 : tyBytes Tryz.prog 396 = some 8 := by kernel_rfl
theorem tg396 : tyAgg Tryz.prog 396 = some false := by kernel_rfl
theorem tz396 : tyZero Tryz.prog 396 = some (.lit (.pointer none)) := by kernel_rfl
theorem ta396 : tyArray Tryz.prog 396 = none := by kernel_rfl
theorem tl396 : tySlice Tryz.prog 396 = none := by kernel_rfl
theorem ti396 : tyInt Tryz.prog 396 = none := by kernel_rfl
theorem tt396 : tyString Tryz.prog 396 = false := by kernel_rfl
theorem tq396 : tyBool Tryz.prog 396 = false := by kernel_rfl
theorem tn396 : tyNil Tryz.prog 396 = some .ptr := by kernel_rfl
theorem tp396 : tyPlaces Tryz.prog 396 = none := by kernel_rfl
theorem tu396 : Tryz.prog.underlying 396 = some (.pointer 398) := by kernel_rfl
theorem ts398 : tySize Tryz.prog 398 = some 6 := by kernel_rfl
theorem tb398 : tyBytes Tryz.prog 398 = some 56 := by kernel_rfl
theorem tg398 : tyAgg Tryz.prog 398 = some true := by kernel_rfl
theorem tz398 : tyZero Tryz.prog 398 = some (.agg [.lit (.pointer none), .lit (.pointer none), .lit (.string { data := #[] }), .lit (.int .i64 0), .lit (.bool false), .lit (.int .i64 0)]) := by kernel_rfl
theorem ta398 : tyArray Tryz.prog 398 = none := by kernel_rfl
theorem tl398 : tySlice Tryz.prog 398 = none := by kernel_rfl
theorem ti398 : tyInt Tryz.prog 398 = none := by kernel_rfl
theorem tt398 : tyString Tryz.prog 398 = false := by kernel_rfl
theorem tq398 : tyBool Tryz.prog 398 = false := by kernel_rfl
theorem tn398 : tyNil Tryz.prog 398 = none := by kernel_rfl
theorem tf398_0 : tyField Tryz.prog 398 0 = some (0, 27) := by kernel_rfl
theorem tf398_1 : tyField Tryz.prog 398 1 = some (1, 99) := by kernel_rfl
theorem tf398_2 : tyField Tryz.prog 398 2 = some (2, 9) := by kernel_rfl
theorem tf398_3 : tyField Tryz.prog 398 3 = some (3, 3) := by kernel_rfl
theorem tf398_4 : tyField Tryz.prog 398 4 = some (4, 4) := by kernel_rfl
theorem tf398_5 : tyField Tryz.prog 398 5 = some (5, 3) := by kernel_rfl
theorem tp398 : tyPlaces Tryz.prog 398 = some [(0, 1), (1, 1), (2, 1), (3, 1), (4, 1), (5, 1)] := by kernel_rfl
theorem ts408 : tySize Tryz.prog 408 = some 1 := by kernel_rfl
theorem tb408 : tyBytes Tryz.prog 408 = some 8 := by kernel_rfl
theorem tg408 : tyAgg Tryz.prog 408 = some false := by kernel_rfl
theorem tz408 : tyZero Tryz.prog 408 = some (.lit (.pointer none)) := by kernel_rfl
theorem ta408 : tyArray Tryz.prog 408 = none := by kernel_rfl
theorem tl408 : tySlice Tryz.prog 408 = none := by kernel_rfl
theorem ti408 : tyInt Tryz.prog 408 = none := by kernel_rfl
theorem tt408 : tyString Tryz.prog 408 = false := by kernel_rfl
theorem tq408 : tyBool Tryz.prog 408 = false := by kernel_rfl
theorem tn408 : tyNil Tryz.prog 408 = some .ptr := by kernel_rfl
theorem tp408 : tyPlaces Tryz.prog 408 = none := by kernel_rfl
theorem tu408 : Tryz.prog.underlying 408 = some (.pointer 274) := by kernel_rfl
theorem ts411 : tySize Tryz.prog 411 = some 24 := by kernel_rfl
theorem tb411 : tyBytes Tryz.prog 411 = some 24 := by kernel_rfl
theorem tg411 : tyAgg Tryz.prog 411 = some true := by kernel_rfl
theorem tz411 : tyZero Tryz.prog 411 = some (.agg [.lit (.int .u8 0), .lit (.int .u8 0), .lit (.int .u8 0), .lit (.int .u8 0), .lit (.int .u8 0), .lit (.int .u8 0), .lit (.int .u8 0), .lit (.int .u8 0), .lit (.int .u8 0), .lit (.int .u8 0), .lit (.int .u8 0), .lit (.int .u8 0), .lit (.int .u8 0), .lit (.int .u8 0), .lit (.int .u8 0), .lit (.int .u8 0), .lit (.int .u8 0), .lit (.int .u8 0), .lit (.int .u8 0), .lit (.int .u8 0), .lit (.int .u8 0), .lit (.int .u8 0), .lit (.int .u8 0), .lit (.int .u8 0)]) := by kernel_rfl
theorem ta411 : tyArray Tryz.prog 411 = some (24, 5) := by kernel_rfl
theorem tl411 : tySlice Tryz.prog 411 = none := by kernel_rfl
theorem ti411 : tyInt Tryz.prog 411 = none := by kernel_rfl
theorem tt411 : tyString Tryz.prog 411 = false := by kernel_rfl
theorem tq411 : tyBool Tryz.prog 411 = false := by kernel_rfl
theorem tn411 : tyNil Tryz.prog 411 = none := by kernel_rfl
theorem tp411 : tyPlaces Tryz.prog 411 = none := by kernel_rfl
theorem tu411 : Tryz.prog.underlying 411 = some (.array 24 5) := by kernel_rfl
theorem ts419 : tySize Tryz.prog 419 = some 1 := by kernel_rfl
theorem tb419 : tyBytes Tryz.prog 419 = some 8 := by kernel_rfl
theorem tg419 : tyAgg Tryz.prog 419 = some false := by kernel_rfl
theorem tz419 : tyZero Tryz.prog 419 = some (.lit (.pointer none)) := by kernel_rfl
theorem ta419 : tyArray Tryz.prog 419 = none := by kernel_rfl
theorem tl419 : tySlice Tryz.prog 419 = none := by kernel_rfl
theorem ti419 : tyInt Tryz.prog 419 = none := by kernel_rfl
theorem tt419 : tyString Tryz.prog 419 = false := by kernel_rfl
theorem tq419 : tyBool Tryz.prog 419 = false := by kernel_rfl
theorem tn419 : tyNil Tryz.prog 419 = some .ptr := by kernel_rfl
theorem tp419 : tyPlaces Tryz.prog 419 = none := by kernel_rfl
theorem tu419 : Tryz.prog.underlying 419 = some (.pointer 425) := by kernel_rfl
theorem ts422 : tySize Tryz.prog 422 = some 1 := by kernel_rfl
theorem tb422 : tyBytes Tryz.prog 422 = some 24 := by kernel_rfl
theorem tg422 : tyAgg Tryz.prog 422 = some false := by kernel_rfl
theorem tz422 : tyZero Tryz.prog 422 = some (.lit (.slice none 0 0)) := by kernel_rfl
theorem ta422 : tyArray Tryz.prog 422 = none := by kernel_rfl
theorem tl422 : tySlice Tryz.prog 422 = some 481 := by kernel_rfl
theorem ti422 : tyInt Tryz.prog 422 = none := by kernel_rfl
theorem tt422 : tyString Tryz.prog 422 = false := by kernel_rfl
theorem tq422 : tyBool Tryz.prog 422 = false := by kernel_rfl
theorem tn422 : tyNil Tryz.prog 422 = some .slice := by kernel_rfl
theorem tp422 : tyPlaces Tryz.prog 422 = none := by kernel_rfl
theorem tu422 : Tryz.prog.underlying 422 = some (.slice 481) := by kernel_rfl
theorem ts425 : tySize Tryz.prog 425 = some 11 := by kernel_rfl
theorem tb425 : tyBytes Tryz.prog 425 = some 104 := by kernel_rfl
theorem tg425 : tyAgg Tryz.prog 425 = some true := by kernel_rfl
theorem tz425 : tyZero Tryz.prog 425 = some (.agg [.lit (.pointer none), .lit (.pointer none), .lit (.string { data := #[] }), .lit (.string { data := #[] }), .lit (.int .i64 0), .lit (.int .i64 0), .lit (.int .i64 0), .lit (.pointer none), .lit (.pointer none), .lit (.int .i64 0), .lit (.int .i64 0)]) := by kernel_rfl
theorem ta425 : tyArray Tryz.prog 425 = none := by kernel_rfl
theorem tl425 : tySlice Tryz.prog 425 = none := by kernel_rfl
theorem ti425 : tyInt Tryz.prog 425 = none := by kernel_rfl
theorem tt425 : tyString Tryz.prog 425 = false := by kernel_rfl
theorem tq425 : tyBool Tryz.prog 425 = false := by kernel_rfl
theorem tn425 : tyNil Tryz.prog 425 = none := by kernel_rfl
theorem tf425_0 : tyField Tryz.prog 425 0 = some (0, 27) := by kernel_rfl
theorem tf425_1 : tyField Tryz.prog 425 1 = some (1, 99) := by kernel_rfl
theorem tf425_2 : tyField Tryz.prog 425 2 = some (2, 253) := by kernel_rfl
theorem tf425_3 : tyField Tryz.prog 425 3 = some (7, 254) := by kernel_rfl
theorem tf425_4 : tyField Tryz.prog 425 4 = some (8, 150) := by kernel_rfl
theorem tf425_5 : tyField Tryz.prog 425 5 = some (9, 3) := by kernel_rfl
theorem tf425_6 : tyField Tryz.prog 425 6 = some (10, 34) := by kernel_rfl
theorem tp425 : tyPlaces Tryz.prog 425 = some [(0, 1), (1, 1), (2, 5), (7, 1), (8, 1), (9, 1), (10, 1)] := by kernel_rfl
theorem ts438 : tySize Tryz.prog 438 = some 4 := by kernel_rfl
theorem tb438 : tyBytes Tryz.prog 438 = some 32 := by kernel_rfl
theorem tg438 : tyAgg Tryz.prog 438 = some true := by kernel_rfl
theorem tz438 : tyZero Tryz.prog 438 = some (.agg [.lit (.int .i64 0), .lit (.int .i64 0), .lit (.int .i64 0), .lit (.int .i64 0)]) := by kernel_rfl
theorem ta438 : tyArray Tryz.prog 438 = none := by kernel_rfl
theorem tl438 : tySlice Tryz.prog 438 = none := by kernel_rfl
theorem ti438 : tyInt Tryz.prog 438 = none := by kernel_rfl
theorem tt438 : tyString Tryz.prog 438 = false := by kernel_rfl
theorem tq438 : tyBool Tryz.prog 438 = false := by kernel_rfl
theorem tn438 : tyNil Tryz.prog 438 = none := by kernel_rfl
theorem tf438_0 : tyField Tryz.prog 438 0 = some (0, 3) := by kernel_rfl
theorem tf438_1 : tyField Tryz.prog 438 1 = some (1, 3) := by kernel_rfl
theorem tf438_2 : tyField Tryz.prog 438 2 = some (2, 3) := by kernel_rfl
theorem tf438_3 : tyField Tryz.prog 438 3 = some (3, 3) := by kernel_rfl
theorem tp438 : tyPlaces Tryz.prog 438 = some [(0, 1), (1, 1), (2, 1), (3, 1)] := by kernel_rfl
theorem tv438 : leaves Tryz.prog 20 438 = some [.int, .int, .int, .int] := by kernel_rfl
theorem te438 : Tryz.prog.eqGuardType Tryz.prog.depth 438 = false := by kernel_rfl
theorem ts440 : tySize Tryz.prog 440 = some 10 := by kernel_rfl
theorem tb440 : tyBytes Tryz.prog 440 = some 64 := by kernel_rfl
theorem tg440 : tyAgg Tryz.prog 440 = some true := by kernel_rfl
theorem tz440 : tyZero Tryz.prog 440 = some (.agg [.lit (.pointer none), .lit (.pointer none), .lit (.int .i64 0), .lit (.int .i64 0), .lit (.int .i64 0), .lit (.int .i64 0), .lit (.int .i64 0), .lit (.bool false), .lit (.bool false), .lit (.bool false)]) := by kernel_rfl
theorem ta440 : tyArray Tryz.prog 440 = none := by kernel_rfl
theorem tl440 : tySlice Tryz.prog 440 = none := by kernel_rfl
theorem ti440 : tyInt Tryz.prog 440 = none := by kernel_rfl
theorem tt440 : tyString Tryz.prog 440 = false := by kernel_rfl
theorem tq440 : tyBool Tryz.prog 440 = false := by kernel_rfl
theorem tn440 : tyNil Tryz.prog 440 = none := by kernel_rfl
theorem tf440_0 : tyField Tryz.prog 440 0 = some (0, 224) := by kernel_rfl
theorem tf440_1 : tyField Tryz.prog 440 1 = some (1, 99) := by kernel_rfl
theorem tf440_2 : tyField Tryz.prog 440 2 = some (2, 3) := by kernel_rfl
theorem tf440_3 : tyField Tryz.prog 440 3 = some (3, 438) := by kernel_rfl
theorem tf440_4 : tyField Tryz.prog 440 4 = some (7, 4) := by kernel_rfl
theorem tf440_5 : tyField Tryz.prog 440 5 = some (8, 4) := by kernel_rfl
theorem tf440_6 : tyField Tryz.prog 440 6 = some (9, 4) := by kernel_rfl
theorem tp440 : tyPlaces Tryz.prog 440 = some [(0, 1), (1, 1), (2, 1), (3, 4), (7, 1), (8, 1), (9, 1)] := by kernel_rfl
theorem ts441 : tySize Tryz.prog 441 = some 4 := by kernel_rfl
theorem tb441 : tyBytes Tryz.prog 441 = some 96 := by kernel_rfl
theorem tg441 : tyAgg Tryz.prog 441 = some true := by kernel_rfl
theorem tz441 : tyZero Tryz.prog 441 = some (.agg [.lit (.slice none 0 0), .lit (.slice none 0 0), .lit (.slice none 0 0), .lit (.slice none 0 0)]) := by kernel_rfl
theorem ta441 : tyArray Tryz.prog 441 = some (4, 23) := by kernel_rfl
theorem tl441 : tySlice Tryz.prog 441 = none := by kernel_rfl
theorem ti441 : tyInt Tryz.prog 441 = none := by kernel_rfl
theorem tt441 : tyString Tryz.prog 441 = false := by kernel_rfl
theorem tq441 : tyBool Tryz.prog 441 = false := by kernel_rfl
theorem tn441 : tyNil Tryz.prog 441 = none := by kernel_rfl
theorem tp441 : tyPlaces Tryz.prog 441 = none := by kernel_rfl
theorem tu441 : Tryz.prog.underlying 441 = some (.array 4 23) := by kernel_rfl
theorem ts447 : tySize Tryz.prog 447 = some 2 := by kernel_rfl
theorem tb447 : tyBytes Tryz.prog 447 = some 48 := by kernel_rfl
theorem tg447 : tyAgg Tryz.prog 447 = some true := by kernel_rfl
theorem tz447 : tyZero Tryz.prog 447 = some (.agg [.lit (.slice none 0 0), .lit (.slice none 0 0)]) := by kernel_rfl
theorem ta447 : tyArray Tryz.prog 447 = none := by kernel_rfl
theorem tl447 : tySlice Tryz.prog 447 = none := by kernel_rfl
theorem ti447 : tyInt Tryz.prog 447 = none := by kernel_rfl
theorem tt447 : tyString Tryz.prog 447 = false := by kernel_rfl
theorem tq447 : tyBool Tryz.prog 447 = false := by kernel_rfl
theorem tn447 : tyNil Tryz.prog 447 = none := by kernel_rfl
theorem tf447_0 : tyField Tryz.prog 447 0 = some (0, 23) := by kernel_rfl
theorem tf447_1 : tyField Tryz.prog 447 1 = some (1, 23) := by kernel_rfl
theorem tp447 : tyPlaces Tryz.prog 447 = some [(0, 1), (1, 1)] := by kernel_rfl
theorem ts451 : tySize Tryz.prog 451 = some 2 := by kernel_rfl
theorem tb451 : tyBytes Tryz.prog 451 = some 16 := by kernel_rfl
theorem tg451 : tyAgg Tryz.prog 451 = some true := by kernel_rfl
theorem tz451 : tyZero Tryz.prog 451 = some (.agg [.lit (.int .i64 0), .lit (.int .i64 0)]) := by kernel_rfl
theorem ta451 : tyArray Tryz.prog 451 = none := by kernel_rfl
theorem tl451 : tySlice Tryz.prog 451 = none := by kernel_rfl
theorem ti451 : tyInt Tryz.prog 451 = none := by kernel_rfl
theorem tt451 : tyString Tryz.prog 451 = false := by kernel_rfl
theorem tq451 : tyBool Tryz.prog 451 = false := by kernel_rfl
theorem tn451 : tyNil Tryz.prog 451 = none := by kernel_rfl
theorem tf451_0 : tyField Tryz.prog 451 0 = some (0, 3) := by kernel_rfl
theorem tf451_1 : tyField Tryz.prog 451 1 = some (1, 3) := by kernel_rfl
theorem tp451 : tyPlaces Tryz.prog 451 = some [(0, 1), (1, 1)] := by kernel_rfl
theorem tv451 : leaves Tryz.prog 20 451 = some [.int, .int] := by kernel_rfl
theorem te451 : Tryz.prog.eqGuardType Tryz.prog.depth 451 = false := by kernel_rfl
theorem ts457 : tySize Tryz.prog 457 = some 1 := by kernel_rfl
theorem tb457 : tyBytes Tryz.prog 457 = some 8 := by kernel_rfl
theorem tg457 : tyAgg Tryz.prog 457 = some false := by kernel_rfl
theorem tz457 : tyZero Tryz.prog 457 = some (.lit (.pointer none)) := by kernel_rfl
theorem ta457 : tyArray Tryz.prog 457 = none := by kernel_rfl
theorem tl457 : tySlice Tryz.prog 457 = none := by kernel_rfl
theorem ti457 : tyInt Tryz.prog 457 = none := by kernel_rfl
theorem tt457 : tyString Tryz.prog 457 = false := by kernel_rfl
theorem tq457 : tyBool Tryz.prog 457 = false := by kernel_rfl
theorem tn457 : tyNil Tryz.prog 457 = some .ptr := by kernel_rfl
theorem tp457 : tyPlaces Tryz.prog 457 = none := by kernel_rfl
theorem tu457 : Tryz.prog.underlying 457 = some (.pointer 461) := by kernel_rfl
theorem ts458 : tySize Tryz.prog 458 = some 1 := by kernel_rfl
theorem tb458 : tyBytes Tryz.prog 458 = some 24 := by kernel_rfl
theorem tg458 : tyAgg Tryz.prog 458 = some false := by kernel_rfl
theorem tz458 : tyZero Tryz.prog 458 = some (.lit (.slice none 0 0)) := by kernel_rfl
theorem ta458 : tyArray Tryz.prog 458 = none := by kernel_rfl
theorem tl458 : tySlice Tryz.prog 458 = some 224 := by kernel_rfl
theorem ti458 : tyInt Tryz.prog 458 = none := by kernel_rfl
theorem tt458 : tyString Tryz.prog 458 = false := by kernel_rfl
theorem tq458 : tyBool Tryz.prog 458 = false := by kernel_rfl
theorem tn458 : tyNil Tryz.prog 458 = some .slice := by kernel_rfl
theorem tp458 : tyPlaces Tryz.prog 458 = none := by kernel_rfl
theorem tu458 : Tryz.prog.underlying 458 = some (.slice 224) := by kernel_rfl
theorem ts459 : tySize Tryz.prog 459 = some 1 := by kernel_rfl
theorem tb459 : tyBytes Tryz.prog 459 = some 24 := by kernel_rfl
theorem tg459 : tyAgg Tryz.prog 459 = some false := by kernel_rfl
theorem tz459 : tyZero Tryz.prog 459 = some (.lit (.slice none 0 0)) := by kernel_rfl
theorem ta459 : tyArray Tryz.prog 459 = none := by kernel_rfl
theorem tl459 : tySlice Tryz.prog 459 = some 4 := by kernel_rfl
theorem ti459 : tyInt Tryz.prog 459 = none := by kernel_rfl
theorem tt459 : tyString Tryz.prog 459 = false := by kernel_rfl
theorem tq459 : tyBool Tryz.prog 459 = false := by kernel_rfl
theorem tn459 : tyNil Tryz.prog 459 = some .slice := by kernel_rfl
theorem tp459 : tyPlaces Tryz.prog 459 = none := by kernel_rfl
theorem tu459 : Tryz.prog.underlying 459 = some (.slice 4) := by kernel_rfl
theorem ts461 : tySize Tryz.prog 461 = some 7 := by kernel_rfl
theorem tb461 : tyBytes Tryz.prog 461 = some 112 := by kernel_rfl
theorem tg461 : tyAgg Tryz.prog 461 = some true := by kernel_rfl
theorem tz461 : tyZero Tryz.prog 461 = some (.agg [.lit (.slice none 0 0), .lit (.slice none 0 0), .lit (.slice none 0 0), .lit (.pointer none), .lit (.bool false), .lit (.string { data := #[] }), .lit (.bool false)]) := by kernel_rfl
theorem ta461 : tyArray Tryz.prog 461 = none := by kernel_rfl
theorem tl461 : tySlice Tryz.prog 461 = none := by kernel_rfl
theorem ti461 : tyInt Tryz.prog 461 = none := by kernel_rfl
theorem tt461 : tyString Tryz.prog 461 = false := by kernel_rfl
theorem tq461 : tyBool Tryz.prog 461 = false := by kernel_rfl
theorem tn461 : tyNil Tryz.prog 461 = none := by kernel_rfl
theorem tf461_0 : tyField Tryz.prog 461 0 = some (0, 458) := by kernel_rfl
theorem tf461_1 : tyField Tryz.prog 461 1 = some (1, 40) := by kernel_rfl
theorem tf461_2 : tyField Tryz.prog 461 2 = some (2, 459) := by kernel_rfl
theorem tf461_3 : tyField Tryz.prog 461 3 = some (3, 254) := by kernel_rfl
theorem tf461_4 : tyField Tryz.prog 461 4 = some (4, 4) := by kernel_rfl
theorem tf461_5 : tyField Tryz.prog 461 5 = some (5, 9) := by kernel_rfl
theorem tf461_6 : tyField Tryz.prog 461 6 = some (6, 4) := by kernel_rfl
theorem tp461 : tyPlaces Tryz.prog 461 = some [(0, 1), (1, 1), (2, 1), (3, 1), (4, 1), (5, 1), (6, 1)] := by kernel_rfl
theorem ts463 : tySize Tryz.prog 463 = some 1 := by kernel_rfl
theorem tb463 : tyBytes Tryz.prog 463 = some 8 := by kernel_rfl
theorem tg463 : tyAgg Tryz.prog 463 = some false := by kernel_rfl
theorem tz463 : tyZero Tryz.prog 463 = some (.lit (.pointer none)) := by kernel_rfl
theorem ta463 : tyArray Tryz.prog 463 = none := by kernel_rfl
theorem tl463 : tySlice Tryz.prog 463 = none := by kernel_rfl
theorem ti463 : tyInt Tryz.prog 463 = none := by kernel_rfl
theorem tt463 : tyString Tryz.prog 463 = false := by kernel_rfl
theorem tq463 : tyBool Tryz.prog 463 = false := by kernel_rfl
theorem tn463 : tyNil Tryz.prog 463 = some .ptr := by kernel_rfl
theorem tp463 : tyPlaces Tryz.prog 463 = none := by kernel_rfl
theorem tu463 : Tryz.prog.underlying 463 = some (.pointer 506) := by kernel_rfl
theorem ts468 : tySize Tryz.prog 468 = some 16 := by kernel_rfl
theorem tb468 : tyBytes Tryz.prog 468 = some 64 := by kernel_rfl
theorem tg468 : tyAgg Tryz.prog 468 = some true := by kernel_rfl
theorem tz468 : tyZero Tryz.prog 468 = some (.agg [.lit (.int .u32 0), .lit (.int .u32 0), .lit (.int .u32 0), .lit (.int .u32 0), .lit (.int .u32 0), .lit (.int .u32 0), .lit (.int .u32 0), .lit (.int .u32 0), .lit (.int .u32 0), .lit (.int .u32 0), .lit (.int .u32 0), .lit (.int .u32 0), .lit (.int .u32 0), .lit (.int .u32 0), .lit (.int .u32 0), .lit (.int .u32 0)]) := by kernel_rfl
theorem ta468 : tyArray Tryz.prog 468 = some (16, 22) := by kernel_rfl
theorem tl468 : tySlice Tryz.prog 468 = none := by kernel_rfl
theorem ti468 : tyInt Tryz.prog 468 = none := by kernel_rfl
theorem tt468 : tyString Tryz.prog 468 = false := by kernel_rfl
theorem tq468 : tyBool Tryz.prog 468 = false := by kernel_rfl
theorem tn468 : tyNil Tryz.prog 468 = none := by kernel_rfl
theorem tp468 : tyPlaces Tryz.prog 468 = none := by kernel_rfl
theorem tu468 : Tryz.prog.underlying 468 = some (.array 16 22) := by kernel_rfl
theorem ts469 : tySize Tryz.prog 469 = some 256 := by kernel_rfl
theorem tb469 : tyBytes Tryz.prog 469 = some 256 := by kernel_rfl
theorem tg469 : tyAgg Tryz.prog 469 = some true := by kernel_rfl
theorem tz469 : tyZero Tryz.prog 469 = some (.agg [.lit (.int .u8 0), .lit (.int .u8 0), .lit (.int .u8 0), .lit (.int .u8 0), .lit (.int .u8 0), .lit (.int .u8 0), .lit (.int .u8 0), .lit (.int .u8 0), .lit (.int .u8 0), .lit (.int .u8 0), .lit (.int .u8 0), .lit (.int .u8 0), .lit (.int .u8 0), .lit (.int .u8 0), .lit (.int .u8 0), .lit (.int .u8 0), .lit (.int .u8 0), .lit (.int .u8 0), .lit (.int .u8 0), .lit (.int .u8 0), .lit (.int .u8 0), .lit (.int .u8 0), .lit (.int .u8 0), .lit (.int .u8 0), .lit (.int .u8 0), .lit (.int .u8 0), .lit (.int .u8 0), .lit (.int .u8 0), .lit (.int .u8 0), .lit (.int .u8 0), .lit (.int .u8 0), .lit (.int .u8 0), .lit (.int .u8 0), .lit (.int .u8 0), .lit (.int .u8 0), .lit (.int .u8 0), .lit (.int .u8 0), .lit (.int .u8 0), .lit (.int .u8 0), .lit (.int .u8 0), .lit (.int .u8 0), .lit (.int .u8 0), .lit (.int .u8 0), .lit (.int .u8 0), .lit (.int .u8 0), .lit (.int .u8 0), .lit (.int .u8 0), .lit (.int .u8 0), .lit (.int .u8 0), .lit (.int .u8 0), .lit (.int .u8 0), .lit (.int .u8 0), .lit (.int .u8 0), .lit (.int .u8 0), .lit (.int .u8 0), .lit (.int .u8 0), .lit (.int .u8 0), .lit (.int .u8 0), .lit (.int .u8 0), .lit (.int .u8 0), .lit (.int .u8 0), .lit (.int .u8 0), .lit (.int .u8 0), .lit (.int .u8 0), .lit (.int .u8 0), .lit (.int .u8 0), .lit (.int .u8 0), .lit (.int .u8 0), .lit (.int .u8 0), .lit (.int .u8 0), .lit (.int .u8 0), .lit (.int .u8 0), .lit (.int .u8 0), .lit (.int .u8 0), .lit (.int .u8 0), .lit (.int .u8 0), .lit (.int .u8 0), .lit (.int .u8 0), .lit (.int .u8 0), .lit (.int .u8 0), .lit (.int .u8 0), .lit (.int .u8 0), .lit (.int .u8 0), .lit (.int .u8 0), .lit (.int .u8 0), .lit (.int .u8 0), .lit (.int .u8 0), .lit (.int .u8 0), .lit (.int .u8 0), .lit (.int .u8 0), .lit (.int .u8 0), .lit (.int .u8 0), .lit (.int .u8 0), .lit (.int .u8 0), .lit (.int .u8 0), .lit (.int .u8 0), .lit (.int .u8 0), .lit (.int .u8 0), .lit (.int .u8 0), .lit (.int .u8 0), .lit (.int .u8 0), .lit (.int .u8 0), .lit (.int .u8 0), .lit (.int .u8 0), .lit (.int .u8 0), .lit (.int .u8 0), .lit (.int .u8 0), .lit (.int .u8 0), .lit (.int .u8 0), .lit (.int .u8 0), .lit (.int .u8 0), .lit (.int .u8 0), .lit (.int .u8 0), .lit (.int .u8 0), .lit (.int .u8 0), .lit (.int .u8 0), .lit (.int .u8 0), .lit (.int .u8 0), .lit (.int .u8 0), .lit (.int .u8 0), .lit (.int .u8 0), .lit (.int .u8 0), .lit (.int .u8 0), .lit (.int .u8 0), .lit (.int .u8 0), .lit (.int .u8 0), .lit (.int .u8 0), .lit (.int .u8 0), .lit (.int .u8 0), .lit (.int .u8 0), .lit (.int .u8 0), .lit (.int .u8 0), .lit (.int .u8 0), .lit (.int .u8 0), .lit (.int .u8 0), .lit (.int .u8 0), .lit (.int .u8 0), .lit (.int .u8 0), .lit (.int .u8 0), .lit (.int .u8 0), .lit (.int .u8 0), .lit (.int .u8 0), .lit (.int .u8 0), .lit (.int .u8 0), .lit (.int .u8 0), .lit (.int .u8 0), .lit (.int .u8 0), .lit (.int .u8 0), .lit (.int .u8 0), .lit (.int .u8 0), .lit (.int .u8 0), .lit (.int .u8 0), .lit (.int .u8 0), .lit (.int .u8 0), .lit (.int .u8 0), .lit (.int .u8 0), .lit (.int .u8 0), .lit (.int .u8 0), .lit (.int .u8 0), .lit (.int .u8 0), .lit (.int .u8 0), .lit (.int .u8 0), .lit (.int .u8 0), .lit (.int .u8 0), .lit (.int .u8 0), .lit (.int .u8 0), .lit (.int .u8 0), .lit (.int .u8 0), .lit (.int .u8 0), .lit (.int .u8 0), .lit (.int .u8 0), .lit (.int .u8 0), .lit (.int .u8 0), .lit (.int .u8 0), .lit (.int .u8 0), .lit (.int .u8 0), .lit (.int .u8 0), .lit (.int .u8 0), .lit (.int .u8 0), .lit (.int .u8 0), .lit (.int .u8 0), .lit (.int .u8 0), .lit (.int .u8 0), .lit (.int .u8 0), .lit (.int .u8 0), .lit (.int .u8 0), .lit (.int .u8 0), .lit (.int .u8 0), .lit (.int .u8 0), .lit (.int .u8 0), .lit (.int .u8 0), .lit (.int .u8 0), .lit (.int .u8 0), .lit (.int .u8 0), .lit (.int .u8 0), .lit (.int .u8 0), .lit (.int .u8 0), .lit (.int .u8 0), .lit (.int .u8 0), .lit (.int .u8 0), .lit (.int .u8 0), .lit (.int .u8 0), .lit (.int .u8 0), .lit (.int .u8 0), .lit (.int .u8 0), .lit (.int .u8 0), .lit (.int .u8 0), .lit (.int .u8 0), .lit (.int .u8 0), .lit (.int .u8 0), .lit (.int .u8 0), .lit (.int .u8 0), .lit (.int .u8 0), .lit (.int .u8 0), .lit (.int .u8 0), .lit (.int .u8 0), .lit (.int .u8 0), .lit (.int .u8 0), .lit (.int .u8 0), .lit (.int .u8 0), .lit (.int .u8 0), .lit (.int .u8 0), .lit (.int .u8 0), .lit (.int .u8 0), .lit (.int .u8 0), .lit (.int .u8 0), .lit (.int .u8 0), .lit (.int .u8 0), .lit (.int .u8 0), .lit (.int .u8 0), .lit (.int .u8 0), .lit (.int .u8 0), .lit (.int .u8 0), .lit (.int .u8 0), .lit (.int .u8 0), .lit (.int .u8 0), .lit (.int .u8 0), .lit (.int .u8 0), .lit (.int .u8 0), .lit (.int .u8 0), .lit (.int .u8 0), .lit (.int .u8 0), .lit (.int .u8 0), .lit (.int .u8 0), .lit (.int .u8 0), .lit (.int .u8 0), .lit (.int .u8 0), .lit (.int .u8 0), .lit (.int .u8 0), .lit (.int .u8 0), .lit (.int .u8 0), .lit (.int .u8 0), .lit (.int .u8 0), .lit (.int .u8 0), .lit (.int .u8 0), .lit (.int .u8 0)]) := by kernel_rfl
theorem ta469 : tyArray Tryz.prog 469 = some (256, 5) := by kernel_rfl
theorem tl469 : tySlice Tryz.prog 469 = none := by kernel_rfl
theorem ti469 : tyInt Tryz.prog 469 = none := by kernel_rfl
theorem tt469 : tyString Tryz.prog 469 = false := by kernel_rfl
theorem tq469 : tyBool Tryz.prog 469 = false := by kernel_rfl
theorem tn469 : tyNil Tryz.prog 469 = none := by kernel_rfl
theorem tp469 : tyPlaces Tryz.prog 469 = none := by kernel_rfl
theorem tu469 : Tryz.prog.underlying 469 = some (.array 256 5) := by kernel_rfl
theorem ts471 : tySize Tryz.prog 471 = some 2 := by kernel_rfl
theorem tb471 : tyBytes Tryz.prog 471 = some 2 := by kernel_rfl
theorem tg471 : tyAgg Tryz.prog 471 = some true := by kernel_rfl
theorem tz471 : tyZero Tryz.prog 471 = some (.agg [.lit (.int .u8 0), .lit (.int .u8 0)]) := by kernel_rfl
theorem ta471 : tyArray Tryz.prog 471 = none := by kernel_rfl
theorem tl471 : tySlice Tryz.prog 471 = none := by kernel_rfl
theorem ti471 : tyInt Tryz.prog 471 = none := by kernel_rfl
theorem tt471 : tyString Tryz.prog 471 = false := by kernel_rfl
theorem tq471 : tyBool Tryz.prog 471 = false := by kernel_rfl
theorem tn471 : tyNil Tryz.prog 471 = none := by kernel_rfl
theorem tf471_0 : tyField Tryz.prog 471 0 = some (0, 5) := by kernel_rfl
theorem tf471_1 : tyField Tryz.prog 471 1 = some (1, 5) := by kernel_rfl
theorem tp471 : tyPlaces Tryz.prog 471 = some [(0, 1), (1, 1)] := by kernel_rfl
theorem tv471 : leaves Tryz.prog 20 471 = some [.int, .int] := by kernel_rfl
theorem te471 : Tryz.prog.eqGuardType Tryz.prog.depth 471 = false := by kernel_rfl
theorem ts472 : tySize Tryz.prog 472 = some 32 := by kernel_rfl
theorem tb472 : tyBytes Tryz.prog 472 = some 32 := by kernel_rfl
theorem tg472 : tyAgg Tryz.prog 472 = some true := by kernel_rfl
theorem tz472 : tyZero Tryz.prog 472 = some (.agg [.lit (.int .u8 0), .lit (.int .u8 0), .lit (.int .u8 0), .lit (.int .u8 0), .lit (.int .u8 0), .lit (.int .u8 0), .lit (.int .u8 0), .lit (.int .u8 0), .lit (.int .u8 0), .lit (.int .u8 0), .lit (.int .u8 0), .lit (.int .u8 0), .lit (.int .u8 0), .lit (.int .u8 0), .lit (.int .u8 0), .lit (.int .u8 0), .lit (.int .u8 0), .lit (.int .u8 0), .lit (.int .u8 0), .lit (.int .u8 0), .lit (.int .u8 0), .lit (.int .u8 0), .lit (.int .u8 0), .lit (.int .u8 0), .lit (.int .u8 0), .lit (.int .u8 0), .lit (.int .u8 0), .lit (.int .u8 0), .lit (.int .u8 0), .lit (.int .u8 0), .lit (.int .u8 0), .lit (.int .u8 0)]) := by kernel_rfl
theorem ta472 : tyArray Tryz.prog 472 = some (16, 471) := by kernel_rfl
theorem tl472 : tySlice Tryz.prog 472 = none := by kernel_rfl
theorem ti472 : tyInt Tryz.prog 472 = none := by kernel_rfl
theorem tt472 : tyString Tryz.prog 472 = false := by kernel_rfl
theorem tq472 : tyBool Tryz.prog 472 = false := by kernel_rfl
theorem tn472 : tyNil Tryz.prog 472 = none := by kernel_rfl
theorem tp472 : tyPlaces Tryz.prog 472 = none := by kernel_rfl
theorem tu472 : Tryz.prog.underlying 472 = some (.array 16 471) := by kernel_rfl
theorem ts474 : tySize Tryz.prog 474 = some 20 := by kernel_rfl
theorem tb474 : tyBytes Tryz.prog 474 = some 160 := by kernel_rfl
theorem tg474 : tyAgg Tryz.prog 474 = some true := by kernel_rfl
theorem tz474 : tyZero Tryz.prog 474 = some (.agg [.lit (.int .u64 0), .lit (.int .u64 0), .lit (.int .u64 0), .lit (.int .u64 0), .lit (.int .u64 0), .lit (.int .u64 0), .lit (.int .u64 0), .lit (.int .u64 0), .lit (.int .u64 0), .lit (.int .u64 0), .lit (.int .u64 0), .lit (.int .u64 0), .lit (.int .u64 0), .lit (.int .u64 0), .lit (.int .u64 0), .lit (.int .u64 0), .lit (.int .u64 0), .lit (.int .u64 0), .lit (.int .u64 0), .lit (.int .u64 0)]) := by kernel_rfl
theorem ta474 : tyArray Tryz.prog 474 = some (20, 114) := by kernel_rfl
theorem tl474 : tySlice Tryz.prog 474 = none := by kernel_rfl
theorem ti474 : tyInt Tryz.prog 474 = none := by kernel_rfl
theorem tt474 : tyString Tryz.prog 474 = false := by kernel_rfl
theorem tq474 : tyBool Tryz.prog 474 = false := by kernel_rfl
theorem tn474 : tyNil Tryz.prog 474 = none := by kernel_rfl
theorem tp474 : tyPlaces Tryz.prog 474 = none := by kernel_rfl
theorem tu474 : Tryz.prog.underlying 474 = some (.array 20 114) := by kernel_rfl
theorem ts475 : tySize Tryz.prog 475 = some 65 := by kernel_rfl
theorem tb475 : tyBytes Tryz.prog 475 = some 65 := by kernel_rfl
theorem tg475 : tyAgg Tryz.prog 475 = some true := by kernel_rfl
theorem tz475 : tyZero Tryz.prog 475 = some (.agg [.lit (.int .u8 0), .lit (.int .u8 0), .lit (.int .u8 0), .lit (.int .u8 0), .lit (.int .u8 0), .lit (.int .u8 0), .lit (.int .u8 0), .lit (.int .u8 0), .lit (.int .u8 0), .lit (.int .u8 0), .lit (.int .u8 0), .lit (.int .u8 0), .lit (.int .u8 0), .lit (.int .u8 0), .lit (.int .u8 0), .lit (.int .u8 0), .lit (.int .u8 0), .lit (.int .u8 0), .lit (.int .u8 0), .lit (.int .u8 0), .lit (.int .u8 0), .lit (.int .u8 0), .lit (.int .u8 0), .lit (.int .u8 0), .lit (.int .u8 0), .lit (.int .u8 0), .lit (.int .u8 0), .lit (.int .u8 0), .lit (.int .u8 0), .lit (.int .u8 0), .lit (.int .u8 0), .lit (.int .u8 0), .lit (.int .u8 0), .lit (.int .u8 0), .lit (.int .u8 0), .lit (.int .u8 0), .lit (.int .u8 0), .lit (.int .u8 0), .lit (.int .u8 0), .lit (.int .u8 0), .lit (.int .u8 0), .lit (.int .u8 0), .lit (.int .u8 0), .lit (.int .u8 0), .lit (.int .u8 0), .lit (.int .u8 0), .lit (.int .u8 0), .lit (.int .u8 0), .lit (.int .u8 0), .lit (.int .u8 0), .lit (.int .u8 0), .lit (.int .u8 0), .lit (.int .u8 0), .lit (.int .u8 0), .lit (.int .u8 0), .lit (.int .u8 0), .lit (.int .u8 0), .lit (.int .u8 0), .lit (.int .u8 0), .lit (.int .u8 0), .lit (.int .u8 0), .lit (.int .u8 0), .lit (.int .u8 0), .lit (.int .u8 0), .lit (.int .u8 0)]) := by kernel_rfl
theorem ta475 : tyArray Tryz.prog 475 = some (65, 5) := by kernel_rfl
theorem tl475 : tySlice Tryz.prog 475 = none := by kernel_rfl
theorem ti475 : tyInt Tryz.prog 475 = none := by kernel_rfl
theorem tt475 : tyString Tryz.prog 475 = false := by kernel_rfl
theorem tq475 : tyBool Tryz.prog 475 = false := by kernel_rfl
theorem tn475 : tyNil Tryz.prog 475 = none := by kernel_rfl
theorem tp475 : tyPlaces Tryz.prog 475 = none := by kernel_rfl
theorem tu475 : Tryz.prog.underlying 475 = some (.array 65 5) := by kernel_rfl
theorem ts481 : tySize Tryz.prog 481 = some 2 := by kernel_rfl
theorem tb481 : tyBytes Tryz.prog 481 = some 32 := by kernel_rfl
theorem tg481 : tyAgg Tryz.prog 481 = some true := by kernel_rfl
theorem tz481 : tyZero Tryz.prog 481 = some (.agg [.lit (.int .i64 0), .lit (.slice none 0 0)]) := by kernel_rfl
theorem ta481 : tyArray Tryz.prog 481 = none := by kernel_rfl
theorem tl481 : tySlice Tryz.prog 481 = none := by kernel_rfl
theorem ti481 : tyInt Tryz.prog 481 = none := by kernel_rfl
theorem tt481 : tyString Tryz.prog 481 = false := by kernel_rfl
theorem tq481 : tyBool Tryz.prog 481 = false := by kernel_rfl
theorem tn481 : tyNil Tryz.prog 481 = none := by kernel_rfl
theorem tf481_0 : tyField Tryz.prog 481 0 = some (0, 3) := by kernel_rfl
theorem tf481_1 : tyField Tryz.prog 481 1 = some (1, 23) := by kernel_rfl
theorem tp481 : tyPlaces Tryz.prog 481 = some [(0, 1), (1, 1)] := by kernel_rfl
theorem ts484 : tySize Tryz.prog 484 = some 1 := by kernel_rfl
theorem tb484 : tyBytes Tryz.prog 484 = some 24 := by kernel_rfl
theorem tg484 : tyAgg Tryz.prog 484 = some false := by kernel_rfl
theorem tz484 : tyZero Tryz.prog 484 = some (.lit (.slice none 0 0)) := by kernel_rfl
theorem ta484 : tyArray Tryz.prog 484 = none := by kernel_rfl
theorem tl484 : tySlice Tryz.prog 484 = some 373 := by kernel_rfl
theorem ti484 : tyInt Tryz.prog 484 = none := by kernel_rfl
theorem tt484 : tyString Tryz.prog 484 = false := by kernel_rfl
theorem tq484 : tyBool Tryz.prog 484 = false := by kernel_rfl
theorem tn484 : tyNil Tryz.prog 484 = some .slice := by kernel_rfl
theorem tp484 : tyPlaces Tryz.prog 484 = none := by kernel_rfl
theorem tu484 : Tryz.prog.underlying 484 = some (.slice 373) := by kernel_rfl
theorem ts485 : tySize Tryz.prog 485 = some 1 := by kernel_rfl
theorem tb485 : tyBytes Tryz.prog 485 = some 8 := by kernel_rfl
theorem tg485 : tyAgg Tryz.prog 485 = some false := by kernel_rfl
theorem ta485 : tyArray Tryz.prog 485 = none := by kernel_rfl
theorem tl485 : tySlice Tryz.prog 485 = none := by kernel_rfl
theorem ti485 : tyInt Tryz.prog 485 = none := by kernel_rfl
theorem tt485 : tyString Tryz.prog 485 = false := by kernel_rfl
theorem tq485 : tyBool Tryz.prog 485 = false := by kernel_rfl
theorem tn485 : tyNil Tryz.prog 485 = none := by kernel_rfl
theorem tp485 : tyPlaces Tryz.prog 485 = none := by kernel_rfl
theorem ts489 : tySize Tryz.prog 489 = some 1 := by kernel_rfl
theorem tb489 : tyBytes Tryz.prog 489 = some 8 := by kernel_rfl
theorem tg489 : tyAgg Tryz.prog 489 = some false := by kernel_rfl
theorem tz489 : tyZero Tryz.prog 489 = some (.lit (.map none)) := by kernel_rfl
theorem ta489 : tyArray Tryz.prog 489 = none := by kernel_rfl
theorem tl489 : tySlice Tryz.prog 489 = none := by kernel_rfl
theorem ti489 : tyInt Tryz.prog 489 = none := by kernel_rfl
theorem tt489 : tyString Tryz.prog 489 = false := by kernel_rfl
theorem tq489 : tyBool Tryz.prog 489 = false := by kernel_rfl
theorem tn489 : tyNil Tryz.prog 489 = some .map := by kernel_rfl
theorem tp489 : tyPlaces Tryz.prog 489 = none := by kernel_rfl
theorem ts490 : tySize Tryz.prog 490 = some 1 := by kernel_rfl
theorem tb490 : tyBytes Tryz.prog 490 = some 8 := by kernel_rfl
theorem tg490 : tyAgg Tryz.prog 490 = some false := by kernel_rfl
theorem tz490 : tyZero Tryz.prog 490 = some (.lit (.nilFunc)) := by kernel_rfl
theorem ta490 : tyArray Tryz.prog 490 = none := by kernel_rfl
theorem tl490 : tySlice Tryz.prog 490 = none := by kernel_rfl
theorem ti490 : tyInt Tryz.prog 490 = none := by kernel_rfl
theorem tt490 : tyString Tryz.prog 490 = false := by kernel_rfl
theorem tq490 : tyBool Tryz.prog 490 = false := by kernel_rfl
theorem tn490 : tyNil Tryz.prog 490 = some .func := by kernel_rfl
theorem tp490 : tyPlaces Tryz.prog 490 = none := by kernel_rfl
theorem ts491 : tySize Tryz.prog 491 = some 1 := by kernel_rfl
theorem tb491 : tyBytes Tryz.prog 491 = some 8 := by kernel_rfl
theorem tg491 : tyAgg Tryz.prog 491 = some false := by kernel_rfl
theorem tz491 : tyZero Tryz.prog 491 = some (.lit (.nilFunc)) := by kernel_rfl
theorem ta491 : tyArray Tryz.prog 491 = none := by kernel_rfl
theorem tl491 : tySlice Tryz.prog 491 = none := by kernel_rfl
theorem ti491 : tyInt Tryz.prog 491 = none := by kernel_rfl
theorem tt491 : tyString Tryz.prog 491 = false := by kernel_rfl
theorem tq491 : tyBool Tryz.prog 491 = false := by kernel_rfl
theorem tn491 : tyNil Tryz.prog 491 = some .func := by kernel_rfl
theorem tp491 : tyPlaces Tryz.prog 491 = none := by kernel_rfl
theorem ts502 : tySize Tryz.prog 502 = some 1 := by kernel_rfl
theorem tb502 : tyBytes Tryz.prog 502 = some 24 := by kernel_rfl
theorem tg502 : tyAgg Tryz.prog 502 = some false := by kernel_rfl
theorem tz502 : tyZero Tryz.prog 502 = some (.lit (.slice none 0 0)) := by kernel_rfl
theorem ta502 : tyArray Tryz.prog 502 = none := by kernel_rfl
theorem tl502 : tySlice Tryz.prog 502 = some 317 := by kernel_rfl
theorem ti502 : tyInt Tryz.prog 502 = none := by kernel_rfl
theorem tt502 : tyString Tryz.prog 502 = false := by kernel_rfl
theorem tq502 : tyBool Tryz.prog 502 = false := by kernel_rfl
theorem tn502 : tyNil Tryz.prog 502 = some .slice := by kernel_rfl
theorem tp502 : tyPlaces Tryz.prog 502 = none := by kernel_rfl
theorem tu502 : Tryz.prog.underlying 502 = some (.slice 317) := by kernel_rfl
theorem ts504 : tySize Tryz.prog 504 = some 1 := by kernel_rfl
theorem tb504 : tyBytes Tryz.prog 504 = some 24 := by kernel_rfl
theorem tg504 : tyAgg Tryz.prog 504 = some false := by kernel_rfl
theorem tz504 : tyZero Tryz.prog 504 = some (.lit (.slice none 0 0)) := by kernel_rfl
theorem ta504 : tyArray Tryz.prog 504 = none := by kernel_rfl
theorem tl504 : tySlice Tryz.prog 504 = some 508 := by kernel_rfl
theorem ti504 : tyInt Tryz.prog 504 = none := by kernel_rfl
theorem tt504 : tyString Tryz.prog 504 = false := by kernel_rfl
theorem tq504 : tyBool Tryz.prog 504 = false := by kernel_rfl
theorem tn504 : tyNil Tryz.prog 504 = some .slice := by kernel_rfl
theorem tp504 : tyPlaces Tryz.prog 504 = none := by kernel_rfl
theorem tu504 : Tryz.prog.underlying 504 = some (.slice 508) := by kernel_rfl
theorem ts506 : tySize Tryz.prog 506 = some 4 := by kernel_rfl
theorem tb506 : tyBytes Tryz.prog 506 = some 64 := by kernel_rfl
theorem tg506 : tyAgg Tryz.prog 506 = some true := by kernel_rfl
theorem tz506 : tyZero Tryz.prog 506 = some (.agg [.lit (.bool false), .lit (.slice none 0 0), .lit (.slice none 0 0), .lit (.int .i64 0)]) := by kernel_rfl
theorem ta506 : tyArray Tryz.prog 506 = none := by kernel_rfl
theorem tl506 : tySlice Tryz.prog 506 = none := by kernel_rfl
theorem ti506 : tyInt Tryz.prog 506 = none := by kernel_rfl
theorem tt506 : tyString Tryz.prog 506 = false := by kernel_rfl
theorem tq506 : tyBool Tryz.prog 506 = false := by kernel_rfl
theorem tn506 : tyNil Tryz.prog 506 = none := by kernel_rfl
theorem tf506_0 : tyField Tryz.prog 506 0 = some (0, 4) := by kernel_rfl
theorem tf506_1 : tyField Tryz.prog 506 1 = some (1, 504) := by kernel_rfl
theorem tf506_2 : tyField Tryz.prog 506 2 = some (2, 23) := by kernel_rfl
theorem tf506_3 : tyField Tryz.prog 506 3 = some (3, 3) := by kernel_rfl
theorem tp506 : tyPlaces Tryz.prog 506 = some [(0, 1), (1, 1), (2, 1), (3, 1)] := by kernel_rfl
theorem ts508 : tySize Tryz.prog 508 = some 2 := by kernel_rfl
theorem tb508 : tyBytes Tryz.prog 508 = some 24 := by kernel_rfl
theorem tg508 : tyAgg Tryz.prog 508 = some true := by kernel_rfl
theorem tz508 : tyZero Tryz.prog 508 = some (.agg [.lit (.string { data := #[] }), .lit (.bool false)]) := by kernel_rfl
theorem ta508 : tyArray Tryz.prog 508 = none := by kernel_rfl
theorem tl508 : tySlice Tryz.prog 508 = none := by kernel_rfl
theorem ti508 : tyInt Tryz.prog 508 = none := by kernel_rfl
theorem tt508 : tyString Tryz.prog 508 = false := by kernel_rfl
theorem tq508 : tyBool Tryz.prog 508 = false := by kernel_rfl
theorem tn508 : tyNil Tryz.prog 508 = none := by kernel_rfl
theorem tf508_0 : tyField Tryz.prog 508 0 = some (0, 9) := by kernel_rfl
theorem tf508_1 : tyField Tryz.prog 508 1 = some (1, 4) := by kernel_rfl
theorem tp508 : tyPlaces Tryz.prog 508 = some [(0, 1), (1, 1)] := by kernel_rfl
theorem tv508 : leaves Tryz.prog 20 508 = some [.str, .bool] := by kernel_rfl
theorem te508 : Tryz.prog.eqGuardType Tryz.prog.depth 508 = false := by kernel_rfl
theorem ts520 : tySize Tryz.prog 520 = some 1 := by kernel_rfl
theorem tb520 : tyBytes Tryz.prog 520 = some 24 := by kernel_rfl
theorem tg520 : tyAgg Tryz.prog 520 = some false := by kernel_rfl
theorem tz520 : tyZero Tryz.prog 520 = some (.lit (.slice none 0 0)) := by kernel_rfl
theorem ta520 : tyArray Tryz.prog 520 = none := by kernel_rfl
theorem tl520 : tySlice Tryz.prog 520 = some 300 := by kernel_rfl
theorem ti520 : tyInt Tryz.prog 520 = none := by kernel_rfl
theorem tt520 : tyString Tryz.prog 520 = false := by kernel_rfl
theorem tq520 : tyBool Tryz.prog 520 = false := by kernel_rfl
theorem tn520 : tyNil Tryz.prog 520 = some .slice := by kernel_rfl
theorem tp520 : tyPlaces Tryz.prog 520 = none := by kernel_rfl
theorem tu520 : Tryz.prog.underlying 520 = some (.slice 300) := by kernel_rfl
theorem ts522 : tySize Tryz.prog 522 = some 1 := by kernel_rfl
theorem tb522 : tyBytes Tryz.prog 522 = some 24 := by kernel_rfl
theorem tg522 : tyAgg Tryz.prog 522 = some false := by kernel_rfl
theorem tz522 : tyZero Tryz.prog 522 = some (.lit (.slice none 0 0)) := by kernel_rfl
theorem ta522 : tyArray Tryz.prog 522 = none := by kernel_rfl
theorem tl522 : tySlice Tryz.prog 522 = some 524 := by kernel_rfl
theorem ti522 : tyInt Tryz.prog 522 = none := by kernel_rfl
theorem tt522 : tyString Tryz.prog 522 = false := by kernel_rfl
theorem tq522 : tyBool Tryz.prog 522 = false := by kernel_rfl
theorem tn522 : tyNil Tryz.prog 522 = some .slice := by kernel_rfl
theorem tp522 : tyPlaces Tryz.prog 522 = none := by kernel_rfl
theorem tu522 : Tryz.prog.underlying 522 = some (.slice 524) := by kernel_rfl
theorem ts524 : tySize Tryz.prog 524 = some 2 := by kernel_rfl
theorem tb524 : tyBytes Tryz.prog 524 = some 16 := by kernel_rfl
theorem tg524 : tyAgg Tryz.prog 524 = some true := by kernel_rfl
theorem tz524 : tyZero Tryz.prog 524 = some (.agg [.lit (.int .i64 0), .lit (.int .i64 0)]) := by kernel_rfl
theorem ta524 : tyArray Tryz.prog 524 = none := by kernel_rfl
theorem tl524 : tySlice Tryz.prog 524 = none := by kernel_rfl
theorem ti524 : tyInt Tryz.prog 524 = none := by kernel_rfl
theorem tt524 : tyString Tryz.prog 524 = false := by kernel_rfl
theorem tq524 : tyBool Tryz.prog 524 = false := by kernel_rfl
theorem tn524 : tyNil Tryz.prog 524 = none := by kernel_rfl
theorem tf524_0 : tyField Tryz.prog 524 0 = some (0, 3) := by kernel_rfl
theorem tf524_1 : tyField Tryz.prog 524 1 = some (1, 3) := by kernel_rfl
theorem tp524 : tyPlaces Tryz.prog 524 = some [(0, 1), (1, 1)] := by kernel_rfl
theorem tv524 : leaves Tryz.prog 20 524 = some [.int, .int] := by kernel_rfl
theorem te524 : Tryz.prog.eqGuardType Tryz.prog.depth 524 = false := by kernel_rfl
theorem ts526 : tySize Tryz.prog 526 = some 1 := by kernel_rfl
theorem tb526 : tyBytes Tryz.prog 526 = some 24 := by kernel_rfl
theorem tg526 : tyAgg Tryz.prog 526 = some false := by kernel_rfl
theorem tz526 : tyZero Tryz.prog 526 = some (.lit (.slice none 0 0)) := by kernel_rfl
theorem ta526 : tyArray Tryz.prog 526 = none := by kernel_rfl
theorem tl526 : tySlice Tryz.prog 526 = some 438 := by kernel_rfl
theorem ti526 : tyInt Tryz.prog 526 = none := by kernel_rfl
theorem tt526 : tyString Tryz.prog 526 = false := by kernel_rfl
theorem tq526 : tyBool Tryz.prog 526 = false := by kernel_rfl
theorem tn526 : tyNil Tryz.prog 526 = some .slice := by kernel_rfl
theorem tp526 : tyPlaces Tryz.prog 526 = none := by kernel_rfl
theorem tu526 : Tryz.prog.underlying 526 = some (.slice 438) := by kernel_rfl
theorem ts531 : tySize Tryz.prog 531 = some 32 := by kernel_rfl
theorem tb531 : tyBytes Tryz.prog 531 = some 32 := by kernel_rfl
theorem tg531 : tyAgg Tryz.prog 531 = some true := by kernel_rfl
theorem tz531 : tyZero Tryz.prog 531 = some (.agg [.lit (.int .u8 0), .lit (.int .u8 0), .lit (.int .u8 0), .lit (.int .u8 0), .lit (.int .u8 0), .lit (.int .u8 0), .lit (.int .u8 0), .lit (.int .u8 0), .lit (.int .u8 0), .lit (.int .u8 0), .lit (.int .u8 0), .lit (.int .u8 0), .lit (.int .u8 0), .lit (.int .u8 0), .lit (.int .u8 0), .lit (.int .u8 0), .lit (.int .u8 0), .lit (.int .u8 0), .lit (.int .u8 0), .lit (.int .u8 0), .lit (.int .u8 0), .lit (.int .u8 0), .lit (.int .u8 0), .lit (.int .u8 0), .lit (.int .u8 0), .lit (.int .u8 0), .lit (.int .u8 0), .lit (.int .u8 0), .lit (.int .u8 0), .lit (.int .u8 0), .lit (.int .u8 0), .lit (.int .u8 0)]) := by kernel_rfl
theorem ta531 : tyArray Tryz.prog 531 = some (32, 5) := by kernel_rfl
theorem tl531 : tySlice Tryz.prog 531 = none := by kernel_rfl
theorem ti531 : tyInt Tryz.prog 531 = none := by kernel_rfl
theorem tt531 : tyString Tryz.prog 531 = false := by kernel_rfl
theorem tq531 : tyBool Tryz.prog 531 = false := by kernel_rfl
theorem tn531 : tyNil Tryz.prog 531 = none := by kernel_rfl
theorem tp531 : tyPlaces Tryz.prog 531 = none := by kernel_rfl
theorem tu531 : Tryz.prog.underlying 531 = some (.array 32 5) := by kernel_rfl
theorem ts532 : tySize Tryz.prog 532 = some 64 := by kernel_rfl
theorem tb532 : tyBytes Tryz.prog 532 = some 64 := by kernel_rfl
theorem tg532 : tyAgg Tryz.prog 532 = some true := by kernel_rfl
theorem tz532 : tyZero Tryz.prog 532 = some (.agg [.lit (.int .u8 0), .lit (.int .u8 0), .lit (.int .u8 0), .lit (.int .u8 0), .lit (.int .u8 0), .lit (.int .u8 0), .lit (.int .u8 0), .lit (.int .u8 0), .lit (.int .u8 0), .lit (.int .u8 0), .lit (.int .u8 0), .lit (.int .u8 0), .lit (.int .u8 0), .lit (.int .u8 0), .lit (.int .u8 0), .lit (.int .u8 0), .lit (.int .u8 0), .lit (.int .u8 0), .lit (.int .u8 0), .lit (.int .u8 0), .lit (.int .u8 0), .lit (.int .u8 0), .lit (.int .u8 0), .lit (.int .u8 0), .lit (.int .u8 0), .lit (.int .u8 0), .lit (.int .u8 0), .lit (.int .u8 0), .lit (.int .u8 0), .lit (.int .u8 0), .lit (.int .u8 0), .lit (.int .u8 0), .lit (.int .u8 0), .lit (.int .u8 0), .lit (.int .u8 0), .lit (.int .u8 0), .lit (.int .u8 0), .lit (.int .u8 0), .lit (.int .u8 0), .lit (.int .u8 0), .lit (.int .u8 0), .lit (.int .u8 0), .lit (.int .u8 0), .lit (.int .u8 0), .lit (.int .u8 0), .lit (.int .u8 0), .lit (.int .u8 0), .lit (.int .u8 0), .lit (.int .u8 0), .lit (.int .u8 0), .lit (.int .u8 0), .lit (.int .u8 0), .lit (.int .u8 0), .lit (.int .u8 0), .lit (.int .u8 0), .lit (.int .u8 0), .lit (.int .u8 0), .lit (.int .u8 0), .lit (.int .u8 0), .lit (.int .u8 0), .lit (.int .u8 0), .lit (.int .u8 0), .lit (.int .u8 0), .lit (.int .u8 0)]) := by kernel_rfl
theorem ta532 : tyArray Tryz.prog 532 = some (64, 5) := by kernel_rfl
theorem tl532 : tySlice Tryz.prog 532 = none := by kernel_rfl
theorem ti532 : tyInt Tryz.prog 532 = none := by kernel_rfl
theorem tt532 : tyString Tryz.prog 532 = false := by kernel_rfl
theorem tq532 : tyBool Tryz.prog 532 = false := by kernel_rfl
theorem tn532 : tyNil Tryz.prog 532 = none := by kernel_rfl
theorem tp532 : tyPlaces Tryz.prog 532 = none := by kernel_rfl
theorem tu532 : Tryz.prog.underlying 532 = some (.array 64 5) := by kernel_rfl
theorem ts535 : tySize Tryz.prog 535 = some 1 := by kernel_rfl
theorem tb535 : tyBytes Tryz.prog 535 = some 8 := by kernel_rfl
theorem tg535 : tyAgg Tryz.prog 535 = some false := by kernel_rfl
theorem tz535 : tyZero Tryz.prog 535 = some (.lit (.nilFunc)) := by kernel_rfl
theorem ta535 : tyArray Tryz.prog 535 = none := by kernel_rfl
theorem tl535 : tySlice Tryz.prog 535 = none := by kernel_rfl
theorem ti535 : tyInt Tryz.prog 535 = none := by kernel_rfl
theorem tt535 : tyString Tryz.prog 535 = false := by kernel_rfl
theorem tq535 : tyBool Tryz.prog 535 = false := by kernel_rfl
theorem tn535 : tyNil Tryz.prog 535 = some .func := by kernel_rfl
theorem tp535 : tyPlaces Tryz.prog 535 = none := by kernel_rfl
theorem tw23 : zeroFits Tryz.prog 23 := zeroFits_of (by kernel_rfl)
theorem tw28 : zeroFits Tryz.prog 28 := zeroFits_of (by kernel_rfl)
theorem tw31 : zeroFits Tryz.prog 31 := zeroFits_of (by kernel_rfl)
theorem tw40 : zeroFits Tryz.prog 40 := zeroFits_of (by kernel_rfl)
theorem tw80 : zeroFits Tryz.prog 80 := zeroFits_of (by kernel_rfl)
theorem tw94 : zeroFits Tryz.prog 94 := zeroFits_of (by kernel_rfl)
theorem tw136 : zeroFits Tryz.prog 136 := zeroFits_of (by kernel_rfl)
theorem tw170 : zeroFits Tryz.prog 170 := zeroFits_of (by kernel_rfl)
theorem tw182 : zeroFits Tryz.prog 182 := zeroFits_of (by kernel_rfl)
theorem tw186 : zeroFits Tryz.prog 186 := zeroFits_of (by kernel_rfl)
theorem tw300 : zeroFits Tryz.prog 300 := zeroFits_of (by kernel_rfl)
theorem tw422 : zeroFits Tryz.prog 422 := zeroFits_of (by kernel_rfl)
theorem tw458 : zeroFits Tryz.prog 458 := zeroFits_of (by kernel_rfl)
theorem tw459 : zeroFits Tryz.prog 459 := zeroFits_of (by kernel_rfl)
theorem tw484 : zeroFits Tryz.prog 484 := zeroFits_of (by kernel_rfl)
theorem tw502 : zeroFits Tryz.prog 502 := zeroFits_of (by kernel_rfl)
theorem tw504 : zeroFits Tryz.prog 504 := zeroFits_of (by kernel_rfl)
theorem tw520 : zeroFits Tryz.prog 520 := zeroFits_of (by kernel_rfl)
theorem tw522 : zeroFits Tryz.prog 522 := zeroFits_of (by kernel_rfl)
theorem tw526 : zeroFits Tryz.prog 526 := zeroFits_of (by kernel_rfl)
theorem tr2 : Tryz.f2.results.toList = [] := by kernel_rfl
theorem tr3 : Tryz.f3.results.toList = [ResultVar.tmp 2] := by kernel_rfl
theorem tr4 : Tryz.f4.results.toList = [ResultVar.tmp 4, ResultVar.tmp 5] := by kernel_rfl
theorem tr5 : Tryz.f5.results.toList = [ResultVar.cell 4 36] := by kernel_rfl
theorem tr6 : Tryz.f6.results.toList = [ResultVar.cell 2 38] := by kernel_rfl
theorem tr7 : Tryz.f7.results.toList = [ResultVar.tmp 2] := by kernel_rfl
theorem tr8 : Tryz.f8.results.toList = [ResultVar.tmp 0] := by kernel_rfl
theorem tr9 : Tryz.f9.results.toList = [ResultVar.tmp 2] := by kernel_rfl
theorem tr10 : Tryz.f10.results.toList = [ResultVar.tmp 2] := by kernel_rfl
theorem tr11 : Tryz.f11.results.toList = [ResultVar.tmp 4, ResultVar.tmp 5] := by kernel_rfl
theorem tr12 : Tryz.f12.results.toList = [ResultVar.tmp 8, ResultVar.tmp 9] := by kernel_rfl
theorem tr13 : Tryz.f13.results.toList = [ResultVar.tmp 2] := by kernel_rfl
theorem tr14 : Tryz.f14.results.toList = [ResultVar.tmp 2] := by kernel_rfl
theorem tr15 : Tryz.f15.results.toList = [ResultVar.tmp 2, ResultVar.tmp 3] := by kernel_rfl
theorem tr16 : Tryz.f16.results.toList = [ResultVar.tmp 2, ResultVar.tmp 3] := by kernel_rfl
theorem tr17 : Tryz.f17.results.toList = [ResultVar.tmp 2] := by kernel_rfl
theorem tr18 : Tryz.f18.results.toList = [] := by kernel_rfl
theorem tr19 : Tryz.f19.results.toList = [ResultVar.cell 6 57, ResultVar.tmp 7] := by kernel_rfl
theorem tr20 : Tryz.f20.results.toList = [ResultVar.tmp 2] := by kernel_rfl
theorem tr21 : Tryz.f21.results.toList = [ResultVar.tmp 4] := by kernel_rfl
theorem tr22 : Tryz.f22.results.toList = [ResultVar.tmp 2] := by kernel_rfl
theorem tr23 : Tryz.f23.results.toList = [ResultVar.tmp 2, ResultVar.tmp 3] := by kernel_rfl
theorem tr24 : Tryz.f24.results.toList = [ResultVar.tmp 4] := by kernel_rfl
theorem tr25 : Tryz.f25.results.toList = [ResultVar.tmp 4] := by kernel_rfl
theorem tr26 : Tryz.f26.results.toList = [ResultVar.tmp 4] := by kernel_rfl
theorem tr27 : Tryz.f27.results.toList = [ResultVar.tmp 4] := by kernel_rfl
theorem tr28 : Tryz.f28.results.toList = [ResultVar.tmp 4] := by kernel_rfl
theorem tr29 : Tryz.f29.results.toList = [ResultVar.tmp 4] := by kernel_rfl
theorem tr30 : Tryz.f30.results.toList = [ResultVar.tmp 2] := by kernel_rfl
theorem tr31 : Tryz.f31.results.toList = [ResultVar.tmp 2] := by kernel_rfl
theorem tr32 : Tryz.f32.results.toList = [ResultVar.tmp 2] := by kernel_rfl
theorem tr33 : Tryz.f33.results.toList = [ResultVar.tmp 2] := by kernel_rfl
theorem tr34 : Tryz.f34.results.toList = [ResultVar.tmp 4] := by kernel_rfl
theorem tr35 : Tryz.f35.results.toList = [ResultVar.tmp 4] := by kernel_rfl
theorem tr36 : Tryz.f36.results.toList = [ResultVar.tmp 6] := by kernel_rfl
theorem tr37 : Tryz.f37.results.toList = [ResultVar.tmp 4] := by kernel_rfl
theorem tr38 : Tryz.f38.results.toList = [ResultVar.tmp 2] := by kernel_rfl
theorem tr39 : Tryz.f39.results.toList = [] := by kernel_rfl
theorem tr40 : Tryz.f40.results.toList = [ResultVar.tmp 8] := by kernel_rfl
theorem tr41 : Tryz.f41.results.toList = [ResultVar.tmp 4, ResultVar.tmp 5] := by kernel_rfl
theorem tr43 : Tryz.f43.results.toList = [ResultVar.tmp 2] := by kernel_rfl
theorem tr44 : Tryz.f44.results.toList = [ResultVar.tmp 2] := by kernel_rfl
theorem tr45 : Tryz.f45.results.toList = [] := by kernel_rfl
theorem tr46 : Tryz.f46.results.toList = [] := by kernel_rfl
theorem tr47 : Tryz.f47.results.toList = [] := by kernel_rfl
theorem tr48 : Tryz.f48.results.toList = [ResultVar.tmp 2, ResultVar.tmp 3] := by kernel_rfl
theorem tr49 : Tryz.f49.results.toList = [ResultVar.tmp 4] := by kernel_rfl
theorem tr50 : Tryz.f50.results.toList = [] := by kernel_rfl
theorem tr51 : Tryz.f51.results.toList = [ResultVar.tmp 2] := by kernel_rfl
theorem tr52 : Tryz.f52.results.toList = [ResultVar.cell 2 91, ResultVar.tmp 3, ResultVar.tmp 4] := by kernel_rfl
theorem tr53 : Tryz.f53.results.toList = [ResultVar.cell 4 96, ResultVar.tmp 5] := by kernel_rfl
theorem tr54 : Tryz.f54.results.toList = [ResultVar.tmp 2] := by kernel_rfl
theorem tr55 : Tryz.f55.results.toList = [ResultVar.cell 10 96, ResultVar.tmp 11] := by kernel_rfl
theorem tr56 : Tryz.f56.results.toList = [ResultVar.tmp 2] := by kernel_rfl
theorem tr57 : Tryz.f57.results.toList = [ResultVar.tmp 6] := by kernel_rfl
theorem tr58 : Tryz.f58.results.toList = [] := by kernel_rfl
theorem tr59 : Tryz.f59.results.toList = [] := by kernel_rfl
theorem tr60 : Tryz.f60.results.toList = [] := by kernel_rfl
theorem tr61 : Tryz.f61.results.toList = [ResultVar.tmp 6, ResultVar.tmp 7] := by kernel_rfl
theorem tr62 : Tryz.f62.results.toList = [] := by kernel_rfl
theorem tr63 : Tryz.f63.results.toList = [ResultVar.tmp 6] := by kernel_rfl
theorem tr64 : Tryz.f64.results.toList = [ResultVar.tmp 4] := by kernel_rfl
theorem tr65 : Tryz.f65.results.toList = [ResultVar.tmp 8] := by kernel_rfl
theorem tr66 : Tryz.f66.results.toList = [ResultVar.tmp 8, ResultVar.tmp 9] := by kernel_rfl
theorem tr67 : Tryz.f67.results.toList = [ResultVar.tmp 2] := by kernel_rfl
theorem tr68 : Tryz.f68.results.toList = [ResultVar.tmp 2] := by kernel_rfl
theorem tr69 : Tryz.f69.results.toList = [ResultVar.cell 2 91, ResultVar.tmp 3] := by kernel_rfl
theorem tr70 : Tryz.f70.results.toList = [ResultVar.tmp 2, ResultVar.tmp 3] := by kernel_rfl
theorem tr71 : Tryz.f71.results.toList = [ResultVar.tmp 2] := by kernel_rfl
theorem tr72 : Tryz.f72.results.toList = [ResultVar.cell 2 96, ResultVar.tmp 3, ResultVar.tmp 4] := by kernel_rfl
theorem tr73 : Tryz.f73.results.toList = [ResultVar.tmp 4] := by kernel_rfl
theorem tr74 : Tryz.f74.results.toList = [ResultVar.tmp 4] := by kernel_rfl
theorem tr75 : Tryz.f75.results.toList = [ResultVar.tmp 4] := by kernel_rfl
theorem tr76 : Tryz.f76.results.toList = [ResultVar.tmp 4, ResultVar.tmp 5] := by kernel_rfl
theorem tr77 : Tryz.f77.results.toList = [ResultVar.cell 6 130, ResultVar.tmp 7] := by kernel_rfl
theorem tr78 : Tryz.f78.results.toList = [ResultVar.tmp 2] := by kernel_rfl
theorem tr79 : Tryz.f79.results.toList = [ResultVar.tmp 4] := by kernel_rfl
theorem tr80 : Tryz.f80.results.toList = [ResultVar.tmp 4] := by kernel_rfl
theorem tr81 : Tryz.f81.results.toList = [ResultVar.tmp 2] := by kernel_rfl
theorem tr82 : Tryz.f82.results.toList = [ResultVar.tmp 6] := by kernel_rfl
theorem tr83 : Tryz.f83.results.toList = [] := by kernel_rfl
theorem tr84 : Tryz.f84.results.toList = [ResultVar.tmp 2] := by kernel_rfl
theorem tr85 : Tryz.f85.results.toList = [ResultVar.tmp 2] := by kernel_rfl
theorem tr86 : Tryz.f86.results.toList = [ResultVar.tmp 6] := by kernel_rfl
theorem tr87 : Tryz.f87.results.toList = [ResultVar.tmp 10] := by kernel_rfl
theorem tr88 : Tryz.f88.results.toList = [ResultVar.tmp 2] := by kernel_rfl
theorem tr89 : Tryz.f89.results.toList = [ResultVar.tmp 8, ResultVar.tmp 9] := by kernel_rfl
theorem tr90 : Tryz.f90.results.toList = [ResultVar.cell 2 91, ResultVar.tmp 3, ResultVar.tmp 4] := by kernel_rfl
theorem tr91 : Tryz.f91.results.toList = [ResultVar.tmp 4] := by kernel_rfl
theorem tr92 : Tryz.f92.results.toList = [ResultVar.tmp 8, ResultVar.tmp 9] := by kernel_rfl
theorem tr93 : Tryz.f93.results.toList = [] := by kernel_rfl
theorem tr94 : Tryz.f94.results.toList = [ResultVar.tmp 2] := by kernel_rfl
theorem tr95 : Tryz.f95.results.toList = [ResultVar.tmp 2] := by kernel_rfl
theorem tr96 : Tryz.f96.results.toList = [ResultVar.cell 2 96, ResultVar.tmp 3] := by kernel_rfl
theorem tr97 : Tryz.f97.results.toList = [ResultVar.tmp 4] := by kernel_rfl
theorem tr98 : Tryz.f98.results.toList = [ResultVar.tmp 2] := by kernel_rfl
theorem tr99 : Tryz.f99.results.toList = [ResultVar.tmp 4] := by kernel_rfl
theorem tr100 : Tryz.f100.results.toList = [ResultVar.tmp 6] := by kernel_rfl
theorem tr101 : Tryz.f101.results.toList = [ResultVar.tmp 2] := by kernel_rfl
theorem tr102 : Tryz.f102.results.toList = [ResultVar.tmp 2] := by kernel_rfl
theorem tr103 : Tryz.f103.results.toList = [ResultVar.tmp 4] := by kernel_rfl
theorem tr104 : Tryz.f104.results.toList = [ResultVar.tmp 4] := by kernel_rfl
theorem tr105 : Tryz.f105.results.toList = [ResultVar.cell 2 165, ResultVar.tmp 3] := by kernel_rfl
theorem tr106 : Tryz.f106.results.toList = [ResultVar.tmp 2] := by kernel_rfl
theorem tr107 : Tryz.f107.results.toList = [ResultVar.tmp 2] := by kernel_rfl
theorem tr108 : Tryz.f108.results.toList = [ResultVar.tmp 2] := by kernel_rfl
theorem tr109 : Tryz.f109.results.toList = [ResultVar.tmp 2] := by kernel_rfl
theorem tr110 : Tryz.f110.results.toList = [ResultVar.tmp 2] := by kernel_rfl
theorem tr111 : Tryz.f111.results.toList = [ResultVar.tmp 2] := by kernel_rfl
theorem tr112 : Tryz.f112.results.toList = [ResultVar.tmp 2] := by kernel_rfl
theorem tr113 : Tryz.f113.results.toList = [ResultVar.tmp 2, ResultVar.tmp 3] := by kernel_rfl
theorem tr114 : Tryz.f114.results.toList = [ResultVar.tmp 1] := by kernel_rfl
theorem tr115 : Tryz.f115.results.toList = [ResultVar.tmp 2] := by kernel_rfl
theorem tr116 : Tryz.f116.results.toList = [ResultVar.tmp 1] := by kernel_rfl
theorem tr117 : Tryz.f117.results.toList = [ResultVar.tmp 2] := by kernel_rfl
theorem tr118 : Tryz.f118.results.toList = [ResultVar.tmp 1] := by kernel_rfl
theorem tr119 : Tryz.f119.results.toList = [ResultVar.tmp 1] := by kernel_rfl
theorem tr120 : Tryz.f120.results.toList = [ResultVar.tmp 6] := by kernel_rfl
theorem tr121 : Tryz.f121.results.toList = [ResultVar.tmp 6, ResultVar.tmp 7] := by kernel_rfl
theorem tr122 : Tryz.f122.results.toList = [ResultVar.tmp 8, ResultVar.tmp 9] := by kernel_rfl
theorem tr123 : Tryz.f123.results.toList = [ResultVar.tmp 2] := by kernel_rfl
theorem tr124 : Tryz.f124.results.toList = [ResultVar.tmp 4] := by kernel_rfl
theorem tr125 : Tryz.f125.results.toList = [ResultVar.tmp 2] := by kernel_rfl
theorem tr126 : Tryz.f126.results.toList = [ResultVar.tmp 4, ResultVar.tmp 5, ResultVar.tmp 6] := by kernel_rfl
theorem tr127 : Tryz.f127.results.toList = [ResultVar.tmp 2, ResultVar.tmp 3] := by kernel_rfl
theorem tr128 : Tryz.f128.results.toList = [ResultVar.tmp 2] := by kernel_rfl
theorem tr129 : Tryz.f129.results.toList = [ResultVar.tmp 2, ResultVar.tmp 3] := by kernel_rfl
theorem tr130 : Tryz.f130.results.toList = [ResultVar.tmp 4] := by kernel_rfl
theorem tr131 : Tryz.f131.results.toList = [ResultVar.tmp 2] := by kernel_rfl
theorem tr132 : Tryz.f132.results.toList = [ResultVar.tmp 2] := by kernel_rfl
theorem tr133 : Tryz.f133.results.toList = [] := by kernel_rfl
theorem tr134 : Tryz.f134.results.toList = [ResultVar.tmp 6] := by kernel_rfl
theorem tr135 : Tryz.f135.results.toList = [ResultVar.tmp 2, ResultVar.tmp 3] := by kernel_rfl
theorem tr136 : Tryz.f136.results.toList = [ResultVar.tmp 4] := by kernel_rfl
theorem tr137 : Tryz.f137.results.toList = [ResultVar.tmp 4] := by kernel_rfl
theorem tr138 : Tryz.f138.results.toList = [ResultVar.cell 2 124] := by kernel_rfl
theorem tr139 : Tryz.f139.results.toList = [ResultVar.tmp 2] := by kernel_rfl
theorem tr140 : Tryz.f140.results.toList = [ResultVar.tmp 4] := by kernel_rfl
theorem tr141 : Tryz.f141.results.toList = [ResultVar.tmp 2] := by kernel_rfl
theorem tr142 : Tryz.f142.results.toList = [ResultVar.tmp 4] := by kernel_rfl
theorem tr143 : Tryz.f143.results.toList = [ResultVar.tmp 2] := by kernel_rfl
theorem tr144 : Tryz.f144.results.toList = [ResultVar.tmp 4] := by kernel_rfl
theorem tr145 : Tryz.f145.results.toList = [ResultVar.tmp 6, ResultVar.tmp 7] := by kernel_rfl
theorem tr146 : Tryz.f146.results.toList = [ResultVar.tmp 6] := by kernel_rfl
theorem tr147 : Tryz.f147.results.toList = [ResultVar.cell 6 124, ResultVar.tmp 7] := by kernel_rfl
theorem tr148 : Tryz.f148.results.toList = [ResultVar.cell 6 124, ResultVar.tmp 7] := by kernel_rfl
theorem tr149 : Tryz.f149.results.toList = [ResultVar.cell 6 124, ResultVar.tmp 7] := by kernel_rfl
theorem tr150 : Tryz.f150.results.toList = [ResultVar.cell 8 124, ResultVar.tmp 9, ResultVar.tmp 10] := by kernel_rfl
theorem tr151 : Tryz.f151.results.toList = [ResultVar.tmp 6] := by kernel_rfl
theorem tr152 : Tryz.f152.results.toList = [ResultVar.cell 8 124, ResultVar.tmp 9] := by kernel_rfl
theorem tr153 : Tryz.f153.results.toList = [ResultVar.cell 10 124, ResultVar.tmp 11] := by kernel_rfl
theorem tr154 : Tryz.f154.results.toList = [ResultVar.tmp 4] := by kernel_rfl
theorem tr155 : Tryz.f155.results.toList = [ResultVar.tmp 4, ResultVar.tmp 5] := by kernel_rfl
theorem tr156 : Tryz.f156.results.toList = [] := by kernel_rfl
theorem tr157 : Tryz.f157.results.toList = [ResultVar.tmp 2] := by kernel_rfl
theorem tr158 : Tryz.f158.results.toList = [ResultVar.tmp 2] := by kernel_rfl
theorem tr159 : Tryz.f159.results.toList = [ResultVar.tmp 8, ResultVar.tmp 9] := by kernel_rfl
theorem tr160 : Tryz.f160.results.toList = [] := by kernel_rfl
theorem tr161 : Tryz.f161.results.toList = [ResultVar.tmp 2, ResultVar.tmp 3, ResultVar.tmp 4] := by kernel_rfl
theorem tr162 : Tryz.f162.results.toList = [ResultVar.cell 2 165, ResultVar.tmp 3] := by kernel_rfl
theorem tr163 : Tryz.f163.results.toList = [ResultVar.tmp 8] := by kernel_rfl
theorem tr164 : Tryz.f164.results.toList = [ResultVar.tmp 4, ResultVar.tmp 5, ResultVar.tmp 6] := by kernel_rfl
theorem tr165 : Tryz.f165.results.toList = [ResultVar.tmp 4] := by kernel_rfl
theorem tr166 : Tryz.f166.results.toList = [ResultVar.tmp 6] := by kernel_rfl
theorem tr167 : Tryz.f167.results.toList = [ResultVar.tmp 4, ResultVar.tmp 5, ResultVar.tmp 6] := by kernel_rfl
theorem tr168 : Tryz.f168.results.toList = [ResultVar.tmp 4, ResultVar.tmp 5] := by kernel_rfl
theorem tr169 : Tryz.f169.results.toList = [ResultVar.tmp 4, ResultVar.tmp 5] := by kernel_rfl
theorem tr170 : Tryz.f170.results.toList = [ResultVar.tmp 3, ResultVar.tmp 4] := by kernel_rfl
theorem tr171 : Tryz.f171.results.toList = [ResultVar.tmp 4, ResultVar.tmp 5] := by kernel_rfl
theorem tr172 : Tryz.f172.results.toList = [ResultVar.tmp 2] := by kernel_rfl
theorem tr173 : Tryz.f173.results.toList = [ResultVar.tmp 6] := by kernel_rfl
theorem tr174 : Tryz.f174.results.toList = [ResultVar.tmp 4] := by kernel_rfl
theorem tr175 : Tryz.f175.results.toList = [ResultVar.tmp 4, ResultVar.tmp 5] := by kernel_rfl
theorem tr176 : Tryz.f176.results.toList = [ResultVar.tmp 4] := by kernel_rfl
theorem tr177 : Tryz.f177.results.toList = [ResultVar.tmp 4] := by kernel_rfl
theorem tr178 : Tryz.f178.results.toList = [ResultVar.tmp 3] := by kernel_rfl
theorem tr179 : Tryz.f179.results.toList = [ResultVar.tmp 2] := by kernel_rfl
theorem tr180 : Tryz.f180.results.toList = [ResultVar.tmp 10] := by kernel_rfl
theorem tr181 : Tryz.f181.results.toList = [ResultVar.tmp 4] := by kernel_rfl
theorem tr182 : Tryz.f182.results.toList = [ResultVar.cell 10 124, ResultVar.tmp 11] := by kernel_rfl
theorem tr183 : Tryz.f183.results.toList = [ResultVar.tmp 4, ResultVar.tmp 5] := by kernel_rfl
theorem tr184 : Tryz.f184.results.toList = [ResultVar.cell 8 165, ResultVar.tmp 9] := by kernel_rfl
theorem tr185 : Tryz.f185.results.toList = [ResultVar.tmp 4] := by kernel_rfl
theorem tr186 : Tryz.f186.results.toList = [ResultVar.tmp 6] := by kernel_rfl
theorem tr187 : Tryz.f187.results.toList = [ResultVar.cell 10 124, ResultVar.tmp 11] := by kernel_rfl
theorem tr188 : Tryz.f188.results.toList = [ResultVar.tmp 2] := by kernel_rfl
theorem tr189 : Tryz.f189.results.toList = [ResultVar.tmp 6] := by kernel_rfl
theorem tr190 : Tryz.f190.results.toList = [ResultVar.cell 16 165, ResultVar.tmp 17] := by kernel_rfl
theorem tr191 : Tryz.f191.results.toList = [ResultVar.tmp 3] := by kernel_rfl
theorem tr192 : Tryz.f192.results.toList = [ResultVar.cell 10 165, ResultVar.tmp 11] := by kernel_rfl
theorem tr193 : Tryz.f193.results.toList = [ResultVar.tmp 9] := by kernel_rfl
theorem tr194 : Tryz.f194.results.toList = [ResultVar.cell 18 124, ResultVar.tmp 19, ResultVar.tmp 20] := by kernel_rfl
theorem tr195 : Tryz.f195.results.toList = [ResultVar.tmp 1] := by kernel_rfl
theorem tr196 : Tryz.f196.results.toList = [ResultVar.cell 8 34] := by kernel_rfl
theorem tr197 : Tryz.f197.results.toList = [ResultVar.cell 12 165, ResultVar.tmp 13] := by kernel_rfl
theorem tr198 : Tryz.f198.results.toList = [ResultVar.tmp 2] := by kernel_rfl
theorem tr199 : Tryz.f199.results.toList = [ResultVar.tmp 8, ResultVar.tmp 9] := by kernel_rfl
theorem tr200 : Tryz.f200.results.toList = [] := by kernel_rfl
theorem tr201 : Tryz.f201.results.toList = [ResultVar.tmp 6] := by kernel_rfl
theorem tr202 : Tryz.f202.results.toList = [ResultVar.cell 2 165, ResultVar.tmp 3] := by kernel_rfl
theorem tr203 : Tryz.f203.results.toList = [] := by kernel_rfl
theorem tr204 : Tryz.f204.results.toList = [ResultVar.tmp 4, ResultVar.tmp 5] := by kernel_rfl
theorem tr205 : Tryz.f205.results.toList = [ResultVar.tmp 2] := by kernel_rfl
theorem tr206 : Tryz.f206.results.toList = [ResultVar.tmp 2] := by kernel_rfl
theorem tr207 : Tryz.f207.results.toList = [] := by kernel_rfl
theorem tr208 : Tryz.f208.results.toList = [ResultVar.tmp 2] := by kernel_rfl
theorem tr209 : Tryz.f209.results.toList = [ResultVar.tmp 4] := by kernel_rfl
theorem tr210 : Tryz.f210.results.toList = [ResultVar.tmp 4] := by kernel_rfl
theorem tr211 : Tryz.f211.results.toList = [ResultVar.tmp 4] := by kernel_rfl
theorem tr212 : Tryz.f212.results.toList = [ResultVar.tmp 4] := by kernel_rfl
theorem tr213 : Tryz.f213.results.toList = [ResultVar.tmp 2] := by kernel_rfl
theorem tr214 : Tryz.f214.results.toList = [ResultVar.tmp 4] := by kernel_rfl
theorem tr215 : Tryz.f215.results.toList = [ResultVar.tmp 4, ResultVar.tmp 5] := by kernel_rfl
theorem tr216 : Tryz.f216.results.toList = [ResultVar.tmp 2, ResultVar.tmp 3] := by kernel_rfl
theorem tr217 : Tryz.f217.results.toList = [ResultVar.tmp 4, ResultVar.tmp 5] := by kernel_rfl
theorem tr218 : Tryz.f218.results.toList = [ResultVar.tmp 2] := by kernel_rfl
theorem tr219 : Tryz.f219.results.toList = [ResultVar.tmp 4] := by kernel_rfl
theorem tr220 : Tryz.f220.results.toList = [ResultVar.tmp 2] := by kernel_rfl
theorem tr221 : Tryz.f221.results.toList = [ResultVar.tmp 4] := by kernel_rfl
theorem tr222 : Tryz.f222.results.toList = [ResultVar.tmp 4, ResultVar.tmp 5] := by kernel_rfl
theorem tr223 : Tryz.f223.results.toList = [ResultVar.cell 4 286, ResultVar.tmp 5] := by kernel_rfl
theorem tr224 : Tryz.f224.results.toList = [ResultVar.tmp 4, ResultVar.tmp 5] := by kernel_rfl
theorem tr225 : Tryz.f225.results.toList = [ResultVar.tmp 4] := by kernel_rfl
theorem tr226 : Tryz.f226.results.toList = [ResultVar.cell 6 124] := by kernel_rfl
theorem tr227 : Tryz.f227.results.toList = [ResultVar.tmp 6] := by kernel_rfl
theorem tr228 : Tryz.f228.results.toList = [ResultVar.tmp 2] := by kernel_rfl
theorem tr229 : Tryz.f229.results.toList = [ResultVar.tmp 2] := by kernel_rfl
theorem tr230 : Tryz.f230.results.toList = [ResultVar.cell 2 293, ResultVar.tmp 3] := by kernel_rfl
theorem tr231 : Tryz.f231.results.toList = [ResultVar.tmp 4] := by kernel_rfl
theorem tr232 : Tryz.f232.results.toList = [ResultVar.tmp 6, ResultVar.tmp 7] := by kernel_rfl
theorem tr233 : Tryz.f233.results.toList = [ResultVar.tmp 8] := by kernel_rfl
theorem tr234 : Tryz.f234.results.toList = [ResultVar.tmp 6] := by kernel_rfl
theorem tr235 : Tryz.f235.results.toList = [ResultVar.tmp 4] := by kernel_rfl
theorem tr236 : Tryz.f236.results.toList = [ResultVar.tmp 4] := by kernel_rfl
theorem tr237 : Tryz.f237.results.toList = [ResultVar.tmp 2] := by kernel_rfl
theorem tr238 : Tryz.f238.results.toList = [ResultVar.tmp 10] := by kernel_rfl
theorem tr239 : Tryz.f239.results.toList = [ResultVar.tmp 10] := by kernel_rfl
theorem tr240 : Tryz.f240.results.toList = [ResultVar.tmp 6, ResultVar.tmp 7] := by kernel_rfl
theorem tr241 : Tryz.f241.results.toList = [ResultVar.tmp 2] := by kernel_rfl
theorem tr242 : Tryz.f242.results.toList = [ResultVar.cell 2 317, ResultVar.tmp 3] := by kernel_rfl
theorem tr243 : Tryz.f243.results.toList = [ResultVar.tmp 2] := by kernel_rfl
theorem tr244 : Tryz.f244.results.toList = [ResultVar.tmp 2, ResultVar.tmp 3] := by kernel_rfl
theorem tr245 : Tryz.f245.results.toList = [ResultVar.tmp 2, ResultVar.tmp 3] := by kernel_rfl
theorem tr246 : Tryz.f246.results.toList = [ResultVar.tmp 14, ResultVar.tmp 15] := by kernel_rfl
theorem tr247 : Tryz.f247.results.toList = [ResultVar.tmp 4] := by kernel_rfl
theorem tr248 : Tryz.f248.results.toList = [ResultVar.cell 4 165, ResultVar.tmp 5] := by kernel_rfl
theorem tr249 : Tryz.f249.results.toList = [ResultVar.tmp 4] := by kernel_rfl
theorem tr250 : Tryz.f250.results.toList = [ResultVar.cell 6 3, ResultVar.cell 7 165, ResultVar.cell 8 34] := by kernel_rfl
theorem tr251 : Tryz.f251.results.toList = [ResultVar.cell 4 165, ResultVar.tmp 5] := by kernel_rfl
theorem tr252 : Tryz.f252.results.toList = [ResultVar.tmp 2, ResultVar.tmp 3] := by kernel_rfl
theorem tr253 : Tryz.f253.results.toList = [ResultVar.tmp 4] := by kernel_rfl
theorem tr254 : Tryz.f254.results.toList = [ResultVar.tmp 2] := by kernel_rfl
theorem tr255 : Tryz.f255.results.toList = [ResultVar.tmp 2] := by kernel_rfl
theorem tr256 : Tryz.f256.results.toList = [ResultVar.tmp 2] := by kernel_rfl
theorem tr257 : Tryz.f257.results.toList = [ResultVar.tmp 2, ResultVar.tmp 3] := by kernel_rfl
theorem tr258 : Tryz.f258.results.toList = [ResultVar.tmp 4] := by kernel_rfl
theorem tr259 : Tryz.f259.results.toList = [ResultVar.tmp 2] := by kernel_rfl
theorem tr260 : Tryz.f260.results.toList = [ResultVar.tmp 2] := by kernel_rfl
theorem tr262 : Tryz.f262.results.toList = [ResultVar.tmp 4] := by kernel_rfl
theorem tr263 : Tryz.f263.results.toList = [ResultVar.tmp 4, ResultVar.tmp 5] := by kernel_rfl
theorem tr264 : Tryz.f264.results.toList = [ResultVar.tmp 2, ResultVar.tmp 3] := by kernel_rfl
theorem tr265 : Tryz.f265.results.toList = [] := by kernel_rfl
theorem tr266 : Tryz.f266.results.toList = [ResultVar.tmp 2] := by kernel_rfl
theorem tr267 : Tryz.f267.results.toList = [ResultVar.tmp 4, ResultVar.tmp 5, ResultVar.tmp 6] := by kernel_rfl
theorem tr268 : Tryz.f268.results.toList = [ResultVar.tmp 2] := by kernel_rfl
theorem tr269 : Tryz.f269.results.toList = [ResultVar.tmp 2] := by kernel_rfl
theorem tr270 : Tryz.f270.results.toList = [ResultVar.tmp 2, ResultVar.tmp 3] := by kernel_rfl
theorem tr272 : Tryz.f272.results.toList = [ResultVar.tmp 4] := by kernel_rfl
theorem tr274 : Tryz.f274.results.toList = [ResultVar.tmp 2] := by kernel_rfl
theorem tr275 : Tryz.f275.results.toList = [ResultVar.tmp 4] := by kernel_rfl
theorem tr276 : Tryz.f276.results.toList = [ResultVar.tmp 4] := by kernel_rfl
theorem tr277 : Tryz.f277.results.toList = [ResultVar.tmp 4] := by kernel_rfl
theorem tr278 : Tryz.f278.results.toList = [ResultVar.tmp 3] := by kernel_rfl
theorem tr279 : Tryz.f279.results.toList = [ResultVar.tmp 6] := by kernel_rfl
theorem tr280 : Tryz.f280.results.toList = [ResultVar.tmp 4, ResultVar.tmp 5] := by kernel_rfl
theorem tr281 : Tryz.f281.results.toList = [ResultVar.tmp 6] := by kernel_rfl
theorem tr282 : Tryz.f282.results.toList = [ResultVar.tmp 2] := by kernel_rfl
theorem tr283 : Tryz.f283.results.toList = [ResultVar.tmp 2] := by kernel_rfl
theorem tr284 : Tryz.f284.results.toList = [ResultVar.tmp 2, ResultVar.tmp 3] := by kernel_rfl
theorem tr285 : Tryz.f285.results.toList = [ResultVar.tmp 2, ResultVar.tmp 3] := by kernel_rfl
theorem tr286 : Tryz.f286.results.toList = [ResultVar.tmp 2] := by kernel_rfl
theorem tr287 : Tryz.f287.results.toList = [ResultVar.tmp 2] := by kernel_rfl
theorem tr288 : Tryz.f288.results.toList = [ResultVar.cell 2 286, ResultVar.tmp 3, ResultVar.tmp 4] := by kernel_rfl
theorem tr289 : Tryz.f289.results.toList = [ResultVar.tmp 2, ResultVar.tmp 3] := by kernel_rfl
theorem tr290 : Tryz.f290.results.toList = [ResultVar.tmp 2] := by kernel_rfl
theorem tr291 : Tryz.f291.results.toList = [ResultVar.tmp 10, ResultVar.tmp 11] := by kernel_rfl
theorem tr292 : Tryz.f292.results.toList = [ResultVar.cell 0 374] := by kernel_rfl
theorem tr293 : Tryz.f293.results.toList = [ResultVar.tmp 6] := by kernel_rfl
theorem tr294 : Tryz.f294.results.toList = [ResultVar.tmp 4, ResultVar.tmp 5] := by kernel_rfl
theorem tr295 : Tryz.f295.results.toList = [ResultVar.tmp 6] := by kernel_rfl
theorem tr296 : Tryz.f296.results.toList = [ResultVar.tmp 6] := by kernel_rfl
theorem tr297 : Tryz.f297.results.toList = [ResultVar.tmp 4] := by kernel_rfl
theorem tr298 : Tryz.f298.results.toList = [ResultVar.tmp 6, ResultVar.tmp 7] := by kernel_rfl
theorem tr299 : Tryz.f299.results.toList = [ResultVar.tmp 8] := by kernel_rfl
theorem tr300 : Tryz.f300.results.toList = [ResultVar.tmp 8, ResultVar.tmp 9] := by kernel_rfl
theorem tr301 : Tryz.f301.results.toList = [] := by kernel_rfl
theorem tr302 : Tryz.f302.results.toList = [ResultVar.cell 4 34] := by kernel_rfl
theorem tr303 : Tryz.f303.results.toList = [ResultVar.tmp 2] := by kernel_rfl
theorem tr304 : Tryz.f304.results.toList = [ResultVar.tmp 2] := by kernel_rfl
theorem tr305 : Tryz.f305.results.toList = [ResultVar.tmp 4] := by kernel_rfl
theorem tr306 : Tryz.f306.results.toList = [ResultVar.tmp 4] := by kernel_rfl
theorem tr307 : Tryz.f307.results.toList = [] := by kernel_rfl
theorem tr308 : Tryz.f308.results.toList = [ResultVar.tmp 4, ResultVar.tmp 5] := by kernel_rfl
theorem tr309 : Tryz.f309.results.toList = [ResultVar.tmp 4] := by kernel_rfl
theorem tr310 : Tryz.f310.results.toList = [ResultVar.tmp 4] := by kernel_rfl
theorem tr311 : Tryz.f311.results.toList = [ResultVar.tmp 6] := by kernel_rfl
theorem tr312 : Tryz.f312.results.toList = [ResultVar.cell 12 165, ResultVar.tmp 13] := by kernel_rfl
theorem tr313 : Tryz.f313.results.toList = [ResultVar.tmp 5, ResultVar.tmp 6] := by kernel_rfl
theorem tr314 : Tryz.f314.results.toList = [ResultVar.tmp 4, ResultVar.tmp 5] := by kernel_rfl
theorem tr315 : Tryz.f315.results.toList = [ResultVar.tmp 2] := by kernel_rfl
theorem tr316 : Tryz.f316.results.toList = [ResultVar.tmp 2] := by kernel_rfl
theorem tr317 : Tryz.f317.results.toList = [ResultVar.tmp 4] := by kernel_rfl
theorem tr318 : Tryz.f318.results.toList = [ResultVar.tmp 2, ResultVar.tmp 3] := by kernel_rfl
theorem tr320 : Tryz.f320.results.toList = [ResultVar.tmp 2, ResultVar.tmp 3] := by kernel_rfl
theorem tr321 : Tryz.f321.results.toList = [ResultVar.tmp 2] := by kernel_rfl
theorem tr322 : Tryz.f322.results.toList = [ResultVar.tmp 2] := by kernel_rfl
theorem tr323 : Tryz.f323.results.toList = [] := by kernel_rfl
theorem tr324 : Tryz.f324.results.toList = [ResultVar.tmp 10, ResultVar.tmp 11] := by kernel_rfl
theorem tr325 : Tryz.f325.results.toList = [ResultVar.tmp 4] := by kernel_rfl
theorem tr327 : Tryz.f327.results.toList = [] := by kernel_rfl
theorem tr328 : Tryz.f328.results.toList = [ResultVar.tmp 2] := by kernel_rfl
theorem tr329 : Tryz.f329.results.toList = [ResultVar.tmp 4] := by kernel_rfl
theorem tr330 : Tryz.f330.results.toList = [ResultVar.tmp 2] := by kernel_rfl
theorem tr331 : Tryz.f331.results.toList = [ResultVar.tmp 2] := by kernel_rfl
theorem tr332 : Tryz.f332.results.toList = [ResultVar.tmp 4, ResultVar.tmp 5] := by kernel_rfl
theorem tr333 : Tryz.f333.results.toList = [ResultVar.tmp 8, ResultVar.tmp 9] := by kernel_rfl
theorem tr334 : Tryz.f334.results.toList = [] := by kernel_rfl
theorem tr335 : Tryz.f335.results.toList = [ResultVar.tmp 6] := by kernel_rfl
theorem tr336 : Tryz.f336.results.toList = [ResultVar.tmp 4] := by kernel_rfl
theorem tr337 : Tryz.f337.results.toList = [ResultVar.cell 8 34] := by kernel_rfl
theorem tr338 : Tryz.f338.results.toList = [ResultVar.cell 4 286, ResultVar.tmp 5] := by kernel_rfl
theorem tr339 : Tryz.f339.results.toList = [ResultVar.cell 10 293, ResultVar.tmp 11, ResultVar.tmp 12] := by kernel_rfl
theorem tr340 : Tryz.f340.results.toList = [ResultVar.tmp 12, ResultVar.tmp 13] := by kernel_rfl
theorem tr341 : Tryz.f341.results.toList = [ResultVar.tmp 4] := by kernel_rfl
theorem tr342 : Tryz.f342.results.toList = [] := by kernel_rfl
theorem tr343 : Tryz.f343.results.toList = [ResultVar.tmp 4] := by kernel_rfl
theorem tr344 : Tryz.f344.results.toList = [ResultVar.tmp 4] := by kernel_rfl
theorem tr345 : Tryz.f345.results.toList = [ResultVar.tmp 4] := by kernel_rfl
theorem tr346 : Tryz.f346.results.toList = [ResultVar.tmp 6, ResultVar.tmp 7] := by kernel_rfl
theorem tr347 : Tryz.f347.results.toList = [ResultVar.tmp 4] := by kernel_rfl
theorem tr348 : Tryz.f348.results.toList = [ResultVar.tmp 2] := by kernel_rfl
theorem tr349 : Tryz.f349.results.toList = [ResultVar.tmp 4] := by kernel_rfl
theorem tr350 : Tryz.f350.results.toList = [ResultVar.tmp 2, ResultVar.cell 3 441, ResultVar.tmp 4, ResultVar.tmp 5] := by kernel_rfl
theorem tr351 : Tryz.f351.results.toList = [ResultVar.cell 2 447] := by kernel_rfl
theorem tr352 : Tryz.f352.results.toList = [ResultVar.tmp 2] := by kernel_rfl
theorem tr353 : Tryz.f353.results.toList = [ResultVar.tmp 4] := by kernel_rfl
theorem tr354 : Tryz.f354.results.toList = [ResultVar.tmp 6, ResultVar.tmp 7] := by kernel_rfl
theorem tr355 : Tryz.f355.results.toList = [ResultVar.tmp 14, ResultVar.tmp 15] := by kernel_rfl
theorem tr356 : Tryz.f356.results.toList = [ResultVar.tmp 2] := by kernel_rfl
theorem tr357 : Tryz.f357.results.toList = [] := by kernel_rfl
theorem tr358 : Tryz.f358.results.toList = [] := by kernel_rfl
theorem tr359 : Tryz.f359.results.toList = [ResultVar.tmp 10] := by kernel_rfl
theorem tr360 : Tryz.f360.results.toList = [ResultVar.tmp 4] := by kernel_rfl
theorem tr361 : Tryz.f361.results.toList = [ResultVar.tmp 2] := by kernel_rfl
theorem tr362 : Tryz.f362.results.toList = [ResultVar.tmp 4] := by kernel_rfl
theorem tr363 : Tryz.f363.results.toList = [ResultVar.tmp 3] := by kernel_rfl
theorem tr364 : Tryz.f364.results.toList = [ResultVar.tmp 4] := by kernel_rfl
theorem tr365 : Tryz.f365.results.toList = [ResultVar.tmp 4] := by kernel_rfl
theorem tr366 : Tryz.f366.results.toList = [ResultVar.tmp 2] := by kernel_rfl
theorem tr367 : Tryz.f367.results.toList = [ResultVar.tmp 2] := by kernel_rfl
theorem tr368 : Tryz.f368.results.toList = [ResultVar.tmp 2] := by kernel_rfl
theorem tr369 : Tryz.f369.results.toList = [ResultVar.tmp 2] := by kernel_rfl
theorem tr370 : Tryz.f370.results.toList = [] := by kernel_rfl
theorem tr371 : Tryz.f371.results.toList = [ResultVar.tmp 4] := by kernel_rfl
theorem tr372 : Tryz.f372.results.toList = [ResultVar.tmp 6] := by kernel_rfl
theorem tr373 : Tryz.f373.results.toList = [ResultVar.tmp 6] := by kernel_rfl
theorem tr374 : Tryz.f374.results.toList = [ResultVar.tmp 4] := by kernel_rfl
theorem tr375 : Tryz.f375.results.toList = [ResultVar.tmp 2] := by kernel_rfl
theorem tr376 : Tryz.f376.results.toList = [ResultVar.tmp 12, ResultVar.tmp 13] := by kernel_rfl
theorem tr377 : Tryz.f377.results.toList = [ResultVar.tmp 4] := by kernel_rfl
theorem tr378 : Tryz.f378.results.toList = [] := by kernel_rfl
theorem tr379 : Tryz.f379.results.toList = [ResultVar.tmp 2] := by kernel_rfl
theorem tr380 : Tryz.f380.results.toList = [ResultVar.tmp 2] := by kernel_rfl
theorem tr381 : Tryz.f381.results.toList = [ResultVar.tmp 4] := by kernel_rfl
theorem tr382 : Tryz.f382.results.toList = [ResultVar.tmp 6, ResultVar.tmp 7] := by kernel_rfl
theorem tr383 : Tryz.f383.results.toList = [ResultVar.tmp 2] := by kernel_rfl
theorem tr384 : Tryz.f384.results.toList = [ResultVar.tmp 4] := by kernel_rfl
theorem tr385 : Tryz.f385.results.toList = [ResultVar.tmp 3] := by kernel_rfl
theorem tr386 : Tryz.f386.results.toList = [ResultVar.tmp 10, ResultVar.tmp 11] := by kernel_rfl
theorem tr387 : Tryz.f387.results.toList = [ResultVar.tmp 6] := by kernel_rfl
theorem tr388 : Tryz.f388.results.toList = [ResultVar.tmp 2] := by kernel_rfl
theorem tr389 : Tryz.f389.results.toList = [ResultVar.cell 2 441, ResultVar.tmp 3] := by kernel_rfl
theorem tr390 : Tryz.f390.results.toList = [ResultVar.tmp 2] := by kernel_rfl
theorem tr391 : Tryz.f391.results.toList = [] := by kernel_rfl
theorem tr392 : Tryz.f392.results.toList = [ResultVar.tmp 2] := by kernel_rfl
theorem tr393 : Tryz.f393.results.toList = [ResultVar.tmp 2] := by kernel_rfl
theorem tr394 : Tryz.f394.results.toList = [ResultVar.tmp 4] := by kernel_rfl
theorem tr395 : Tryz.f395.results.toList = [ResultVar.tmp 2] := by kernel_rfl
theorem tr396 : Tryz.f396.results.toList = [ResultVar.tmp 2, ResultVar.tmp 3] := by kernel_rfl
theorem tr397 : Tryz.f397.results.toList = [ResultVar.tmp 2] := by kernel_rfl
theorem tr398 : Tryz.f398.results.toList = [ResultVar.tmp 4] := by kernel_rfl
theorem tr399 : Tryz.f399.results.toList = [] := by kernel_rfl
theorem tr400 : Tryz.f400.results.toList = [ResultVar.tmp 4] := by kernel_rfl
theorem tr401 : Tryz.f401.results.toList = [] := by kernel_rfl
theorem tr402 : Tryz.f402.results.toList = [ResultVar.tmp 2] := by kernel_rfl
theorem tr403 : Tryz.f403.results.toList = [ResultVar.tmp 2] := by kernel_rfl
theorem tr404 : Tryz.f404.results.toList = [] := by kernel_rfl
theorem tr405 : Tryz.f405.results.toList = [] := by kernel_rfl
theorem tr406 : Tryz.f406.results.toList = [ResultVar.cell 4 481, ResultVar.tmp 5] := by kernel_rfl
theorem tr407 : Tryz.f407.results.toList = [ResultVar.cell 6 4] := by kernel_rfl
theorem tr408 : Tryz.f408.results.toList = [ResultVar.tmp 2, ResultVar.tmp 3] := by kernel_rfl
theorem tr409 : Tryz.f409.results.toList = [ResultVar.tmp 4] := by kernel_rfl
theorem tr410 : Tryz.f410.results.toList = [ResultVar.tmp 2] := by kernel_rfl
theorem tr411 : Tryz.f411.results.toList = [ResultVar.tmp 4] := by kernel_rfl
theorem tr412 : Tryz.f412.results.toList = [ResultVar.tmp 2] := by kernel_rfl
theorem tr413 : Tryz.f413.results.toList = [ResultVar.tmp 4] := by kernel_rfl
theorem tr414 : Tryz.f414.results.toList = [ResultVar.tmp 4] := by kernel_rfl
theorem tr415 : Tryz.f415.results.toList = [ResultVar.tmp 4] := by kernel_rfl
theorem tr416 : Tryz.f416.results.toList = [ResultVar.tmp 4] := by kernel_rfl
theorem tr417 : Tryz.f417.results.toList = [ResultVar.cell 2 438, ResultVar.tmp 3] := by kernel_rfl
theorem tr418 : Tryz.f418.results.toList = [] := by kernel_rfl
theorem tr419 : Tryz.f419.results.toList = [ResultVar.tmp 2] := by kernel_rfl
theorem tr420 : Tryz.f420.results.toList = [ResultVar.tmp 4] := by kernel_rfl
theorem tr421 : Tryz.f421.results.toList = [ResultVar.tmp 6] := by kernel_rfl
theorem tr422 : Tryz.f422.results.toList = [] := by kernel_rfl
theorem tr423 : Tryz.f423.results.toList = [] := by kernel_rfl
theorem tr424 : Tryz.f424.results.toList = [ResultVar.tmp 2] := by kernel_rfl
theorem tr425 : Tryz.f425.results.toList = [ResultVar.tmp 6] := by kernel_rfl
theorem tr426 : Tryz.f426.results.toList = [] := by kernel_rfl
theorem tr427 : Tryz.f427.results.toList = [ResultVar.tmp 4] := by kernel_rfl
theorem tr428 : Tryz.f428.results.toList = [ResultVar.tmp 2, ResultVar.tmp 3] := by kernel_rfl
theorem tr429 : Tryz.f429.results.toList = [] := by kernel_rfl
theorem tr431 : Tryz.f431.results.toList = [] := by kernel_rfl
theorem tr432 : Tryz.f432.results.toList = [] := by kernel_rfl
theorem tr433 : Tryz.f433.results.toList = [] := by kernel_rfl
theorem tr434 : Tryz.f434.results.toList = [] := by kernel_rfl
theorem tr435 : Tryz.f435.results.toList = [ResultVar.tmp 6, ResultVar.tmp 7] := by kernel_rfl
theorem tr436 : Tryz.f436.results.toList = [] := by kernel_rfl
theorem tr437 : Tryz.f437.results.toList = [ResultVar.tmp 6] := by kernel_rfl
theorem tr438 : Tryz.f438.results.toList = [ResultVar.tmp 4] := by kernel_rfl
theorem tr439 : Tryz.f439.results.toList = [ResultVar.tmp 8] := by kernel_rfl
theorem tr440 : Tryz.f440.results.toList = [ResultVar.tmp 8, ResultVar.tmp 9] := by kernel_rfl
theorem tr441 : Tryz.f441.results.toList = [] := by kernel_rfl
theorem tr442 : Tryz.f442.results.toList = [] := by kernel_rfl
theorem tr443 : Tryz.f443.results.toList = [] := by kernel_rfl
theorem tr444 : Tryz.f444.results.toList = [ResultVar.tmp 8, ResultVar.tmp 9] := by kernel_rfl
theorem tr445 : Tryz.f445.results.toList = [] := by kernel_rfl
theorem tr446 : Tryz.f446.results.toList = [ResultVar.tmp 8] := by kernel_rfl
theorem tr447 : Tryz.f447.results.toList = [ResultVar.tmp 10] := by kernel_rfl
theorem tr448 : Tryz.f448.results.toList = [ResultVar.tmp 10, ResultVar.tmp 11] := by kernel_rfl
theorem tr449 : Tryz.f449.results.toList = [] := by kernel_rfl
theorem tr450 : Tryz.f450.results.toList = [ResultVar.tmp 6] := by kernel_rfl
theorem tr451 : Tryz.f451.results.toList = [ResultVar.tmp 10] := by kernel_rfl
theorem tr452 : Tryz.f452.results.toList = [] := by kernel_rfl
theorem tr453 : Tryz.f453.results.toList = [ResultVar.tmp 8] := by kernel_rfl
theorem tr454 : Tryz.f454.results.toList = [ResultVar.tmp 12] := by kernel_rfl
theorem tr455 : Tryz.f455.results.toList = [ResultVar.tmp 8, ResultVar.tmp 9] := by kernel_rfl
theorem tr456 : Tryz.f456.results.toList = [ResultVar.tmp 10, ResultVar.tmp 11] := by kernel_rfl
theorem tr482 : Tryz.f482.results.toList = [] := by kernel_rfl
attribute [go_sem] ts2 tb2 tg2 tz2 ta2 tl2 ti2 tt2 tq2 tn2 tp2 tu2 ts3 tb3 tg3 tz3 ta3 tl3 ti3 tt3
attribute [go_sem] tq3 tn3 tp3 tu3 ts4 tb4 tg4 tz4 ta4 tl4 ti4 tt4 tq4 tn4 tp4 tu4 ts5 tb5 tg5 tz5
attribute [go_sem] ta5 tl5 ti5 tt5 tq5 tn5 tp5 tu5 ts9 tb9 tg9 tz9 ta9 tl9 ti9 tt9 tq9 tn9 tp9 tu9
attribute [go_sem] ts20 tb20 tg20 tz20 ta20 tl20 ti20 tt20 tq20 tn20 tp20 ts21 tb21 tg21 tz21 ta21 tl21 ti21 tt21 tq21
attribute [go_sem] tn21 tp21 tu21 ts22 tb22 tg22 tz22 ta22 tl22 ti22 tt22 tq22 tn22 tp22 tu22 ts23 tb23 tg23 tz23 ta23
attribute [go_sem] tl23 ti23 tt23 tq23 tn23 tp23 tu23 ts25 tb25 tg25 tz25 ta25 tl25 ti25 tt25 tq25 tn25 tf25_0 tf25_1 tf25_2
attribute [go_sem] tf25_3 tf25_4 tf25_5 tp25 ts26 tb26 tg26 tz26 ta26 tl26 ti26 tt26 tq26 tn26 tp26 tu26 ts27 tb27 tg27 tz27
attribute [go_sem] ta27 tl27 ti27 tt27 tq27 tn27 tp27 tu27 ts28 tb28 tg28 tz28 ta28 tl28 ti28 tt28 tq28 tn28 tp28 tu28
attribute [go_sem] ts30 tb30 tg30 tz30 ta30 tl30 ti30 tt30 tq30 tn30 tf30_0 tf30_1 tp30 ts31 tb31 tg31 tz31 ta31 tl31 ti31
attribute [go_sem] tt31 tq31 tn31 tp31 tu31 ts34 tb34 tg34 tz34 ta34 tl34 ti34 tt34 tq34 tn34 tp34 tu34 ts36 tb36 tg36
attribute [go_sem] tz36 ta36 tl36 ti36 tt36 tq36 tn36 tf36_0 tf36_1 tf36_2 tp36 tv36 te36 ts38 tb38 tg38 tz38 ta38 tl38 ti38
attribute [go_sem] tt38 tq38 tn38 tf38_0 tf38_1 tf38_2 tf38_3 tf38_4 tf38_5 tp38 ts40 tb40 tg40 tz40 ta40 tl40 ti40 tt40 tq40 tn40
attribute [go_sem] tp40 tu40 ts50 tb50 tg50 tz50 ta50 tl50 ti50 tt50 tq50 tn50 tp50 ts57 tb57 tg57 tz57 ta57 tl57 ti57
attribute [go_sem] tt57 tq57 tn57 tf57_0 tf57_1 tp57 tv57 te57 ts60 tb60 tg60 tz60 ta60 tl60 ti60 tt60 tq60 tn60 tp60 ts62
attribute [go_sem] tb62 tg62 tz62 ta62 tl62 ti62 tt62 tq62 tn62 tf62_0 tf62_1 tf62_2 tf62_3 tf62_4 tf62_5 tf62_6 tp62 ts67 tb67 tg67
attribute [go_sem] tz67 ta67 tl67 ti67 tt67 tq67 tn67 tp67 ts71 tb71 tg71 tz71 ta71 tl71 ti71 tt71 tq71 tn71 tp71 ts80
attribute [go_sem] tb80 tg80 tz80 ta80 tl80 ti80 tt80 tq80 tn80 tp80 tu80 ts85 tb85 tg85 tz85 ta85 tl85 ti85 tt85 tq85
attribute [go_sem] tn85 tp85 ts89 tb89 tg89 tz89 ta89 tl89 ti89 tt89 tq89 tn89 tp89 tu89 ts91 tb91 tg91 tz91 ta91 tl91
attribute [go_sem] ti91 tt91 tq91 tn91 tf91_0 tf91_1 tf91_2 tf91_3 tf91_4 tf91_5 tf91_6 tf91_7 tf91_8 tp91 tv91 te91 ts94 tb94 tg94 tz94
attribute [go_sem] ta94 tl94 ti94 tt94 tq94 tn94 tp94 tu94 ts96 tb96 tg96 tz96 ta96 tl96 ti96 tt96 tq96 tn96 tf96_0 tf96_1
attribute [go_sem] tf96_2 tp96 ts99 tb99 tg99 tz99 ta99 tl99 ti99 tt99 tq99 tn99 tp99 tu99 ts114 tb114 tg114 tz114 ta114 tl114
attribute [go_sem] ti114 tt114 tq114 tn114 tp114 tu114 ts124 tb124 tg124 tz124 ta124 tl124 ti124 tt124 tq124 tn124 tf124_0 tf124_1 tf124_2 tf124_3
attribute [go_sem] tp124 tv124 te124 ts128 tb128 tg128 tz128 ta128 tl128 ti128 tt128 tq128 tn128 tf128_0 tf128_1 tf128_2 tf128_3 tp128 tv128 te128
attribute [go_sem] ts130 tb130 tg130 tz130 ta130 tl130 ti130 tt130 tq130 tn130 tf130_0 tf130_1 tp130 tv130 te130 ts133 tb133 tg133 tz133 ta133
attribute [go_sem] tl133 ti133 tt133 tq133 tn133 tp133 tu133 ts135 tb135 tg135 tz135 ta135 tl135 ti135 tt135 tq135 tn135 tf135_0 tf135_1 tf135_2
attribute [go_sem] tf135_3 tf135_4 tf135_5 tf135_6 tp135 ts136 tb136 tg136 tz136 ta136 tl136 ti136 tt136 tq136 tn136 tp136 tu136 ts138 tb138 tg138
attribute [go_sem] tz138 ta138 tl138 ti138 tt138 tq138 tn138 tp138 ts141 tb141 tg141 tz141 ta141 tl141 ti141 tt141 tq141 tn141 tp141 tu141
attribute [go_sem] ts145 tb145 tg145 tz145 ta145 tl145 ti145 tt145 tq145 tn145 tp145 tu145 ts150 tb150 tg150 tz150 ta150 tl150 ti150 tt150
attribute [go_sem] tq150 tn150 tp150 tu150 ts156 tb156 tg156 tz156 ta156 tl156 ti156 tt156 tq156 tn156 tp156 ts165 tb165 tg165 tz165 ta165
attribute [go_sem] tl165 ti165 tt165 tq165 tn165 tf165_0 tf165_1 tp165 tv165 te165 ts168 tb168 tg168 tz168 ta168 tl168 ti168 tt168 tq168 tn168
attribute [go_sem] tp168 ts170 tb170 tg170 tz170 ta170 tl170 ti170 tt170 tq170 tn170 tp170 tu170 ts175 tb175 tg175 tz175 ta175 tl175 ti175
attribute [go_sem] tt175 tq175 tn175 tp175 ts177 tb177 tg177 tz177 ta177 tl177 ti177 tt177 tq177 tn177 tp177 tu177 ts181 tb181 tg181 tz181
attribute [go_sem] ta181 tl181 ti181 tt181 tq181 tn181 tp181 ts182 tb182 tg182 tz182 ta182 tl182 ti182 tt182 tq182 tn182 tp182 tu182 ts186
attribute [go_sem] tb186 tg186 tz186 ta186 tl186 ti186 tt186 tq186 tn186 tp186 tu186 ts188 tb188 tg188 tz188 ta188 tl188 ti188 tt188 tq188
attribute [go_sem] tn188 tf188_0 tf188_1 tf188_2 tf188_3 tf188_4 tf188_5 tf188_6 tf188_7 tp188 ts190 tb190 tg190 tz190 ta190 tl190 ti190 tt190 tq190 tn190
attribute [go_sem] tp190 tu190 ts192 tb192 tg192 tz192 ta192 tl192 ti192 tt192 tq192 tn192 tf192_0 tp192 tv192 te192 ts194 tb194 tg194 tz194
attribute [go_sem] ta194 tl194 ti194 tt194 tq194 tn194 tf194_0 tf194_1 tp194 tv194 te194 ts197 tb197 tg197 tz197 ta197 tl197 ti197 tt197 tq197
attribute [go_sem] tn197 tp197 ts214 tb214 tg214 tz214 ta214 tl214 ti214 tt214 tq214 tn214 tp214 tu214 ts216 tb216 tg216 tz216 ta216 tl216
attribute [go_sem] ti216 tt216 tq216 tn216 tf216_0 tf216_1 tp216 ts224 tb224 tg224 tz224 ta224 tl224 ti224 tt224 tq224 tn224 tp224 tu224 ts240
attribute [go_sem] tb240 tg240 tz240 ta240 tl240 ti240 tt240 tq240 tn240 tp240 ts245 tb245 tg245 tz245 ta245 tl245 ti245 tt245 tq245 tn245
attribute [go_sem] tp245 ts251 tb251 tg251 tz251 ta251 tl251 ti251 tt251 tq251 tn251 tp251 tu251 ts253 tb253 tg253 tz253 ta253 tl253 ti253
attribute [go_sem] tt253 tq253 tn253 tf253_0 tf253_1 tf253_2 tf253_3 tf253_4 tp253 tv253 te253 ts254 tb254 tg254 tz254 ta254 tl254 ti254 tt254 tq254
attribute [go_sem] tn254 tp254 tu254 ts256 tb256 tg256 tz256 ta256 tl256 ti256 tt256 tq256 tn256 tf256_0 tf256_1 tf256_2 tf256_3 tf256_4 tp256 ts264
attribute [go_sem] tb264 tg264 tz264 ta264 tl264 ti264 tt264 tq264 tn264 tp264 ts270 tb270 tg270 tz270 ta270 tl270 ti270 tt270 tq270 tn270
attribute [go_sem] tp270 tu270 ts272 tb272 tg272 tz272 ta272 tl272 ti272 tt272 tq272 tn272 tp272 tu272 ts274 tb274 tg274 tz274 ta274 tl274
attribute [go_sem] ti274 tt274 tq274 tn274 tf274_0 tf274_1 tf274_2 tf274_3 tp274 ts276 tb276 tg276 tz276 ta276 tl276 ti276 tt276 tq276 tn276 tf276_0
attribute [go_sem] tf276_1 tf276_2 tf276_3 tf276_4 tf276_5 tf276_6 tf276_7 tf276_8 tf276_9 tp276 ts286 tb286 tg286 tz286 ta286 tl286 ti286 tt286 tq286 tn286
attribute [go_sem] tf286_0 tf286_1 tp286 tv286 te286 ts291 tb291 tg291 tz291 ta291 tl291 ti291 tt291 tq291 tn291 tp291 tu291 ts293 tb293 tg293
attribute [go_sem] tz293 ta293 tl293 ti293 tt293 tq293 tn293 tf293_0 tf293_1 tf293_2 tp293 tv293 te293 ts295 tb295 tg295 tz295 ta295 tl295 ti295
attribute [go_sem] tt295 tq295 tn295 tf295_0 tf295_1 tf295_2 tp295 ts300 tb300 tg300 tz300 ta300 tl300 ti300 tt300 tq300 tn300 tp300 tu300 ts307
attribute [go_sem] tb307 tg307 tz307 ta307 tl307 ti307 tt307 tq307 tn307 tp307 tu307 ts309 tb309 tg309 tz309 ta309 tl309 ti309 tt309 tq309
attribute [go_sem] tn309 tf309_0 tf309_1 tf309_2 tf309_3 tf309_4 tf309_5 tf309_6 tf309_7 tp309 ts311 tb311 tg311 tz311 ta311 tl311 ti311 tt311 tq311 tn311
attribute [go_sem] tp311 tu311 ts315 tb315 tg315 tz315 ta315 tl315 ti315 tt315 tq315 tn315 tf315_0 tf315_1 tf315_2 tp315 tv315 te315 ts317 tb317
attribute [go_sem] tg317 tz317 ta317 tl317 ti317 tt317 tq317 tn317 tf317_0 tf317_1 tp317 tv317 te317 ts319 tb319 tg319 tz319 ta319 tl319 ti319
attribute [go_sem] tt319 tq319 tn319 tf319_0 tf319_1 tp319 ts320 tb320 tg320 tz320 ta320 tl320 ti320 tt320 tq320 tn320 tp320 tu320 ts322 tb322
attribute [go_sem] tg322 tz322 ta322 tl322 ti322 tt322 tq322 tn322 tf322_0 tf322_1 tf322_2 tf322_3 tf322_4 tf322_5 tf322_6 tf322_7 tp322 ts330 tb330 tg330
attribute [go_sem] tz330 ta330 tl330 ti330 tt330 tq330 tn330 tp330 tu330 ts332 tb332 tg332 tz332 ta332 tl332 ti332 tt332 tq332 tn332 tf332_0
attribute [go_sem] tf332_1 tf332_2 tf332_3 tf332_4 tf332_5 tp332 ts339 tb339 tg339 tz339 ta339 tl339 ti339 tt339 tq339 tn339 tf339_0 tf339_1 tp339 ts341
attribute [go_sem] tb341 tg341 tz341 ta341 tl341 ti341 tt341 tq341 tn341 tf341_0 tf341_1 tf341_2 tf341_3 tf341_4 tf341_5 tp341 ts346 tb346 tg346 tz346
attribute [go_sem] ta346 tl346 ti346 tt346 tq346 tn346 tp346 ts348 tb348 tg348 tz348 ta348 tl348 ti348 tt348 tq348 tn348 tp348 tu348 ts359
attribute [go_sem] tb359 tg359 tz359 ta359 tl359 ti359 tt359 tq359 tn359 tf359_0 tf359_1 tp359 ts361 tb361 tg361 tz361 ta361 tl361 ti361 tt361
attribute [go_sem] tq361 tn361 tp361 ts366 tb366 tg366 tz366 ta366 tl366 ti366 tt366 tq366 tn366 tp366 tu366 ts373 tb373 tg373 ta373 tl373
attribute [go_sem] ti373 tt373 tq373 tn373 tp373 ts374 tb374 tg374 ta374 tl374 ti374 tt374 tq374 tn374 tp374 tu374 ts385 tb385 tg385 tz385
attribute [go_sem] ta385 tl385 ti385 tt385 tq385 tn385 tp385 tu385 ts389 tb389 tg389 tz389 ta389 tl389 ti389 tt389 tq389 tn389 tf389_0 tf389_1
attribute [go_sem] tp389 ts391 tb391 tg391 tz391 ta391 tl391 ti391 tt391 tq391 tn391 tp391 tu391 ts393 tb393 tg393 tz393 ta393 tl393 ti393
attribute [go_sem] tt393 tq393 tn393 tf393_0 tf393_1 tf393_2 tp393 tv393 te393 ts396 tb396 tg396 tz396 ta396 tl396 ti396 tt396 tq396 tn396 tp396
attribute [go_sem] tu396 ts398 tb398 tg398 tz398 ta398 tl398 ti398 tt398 tq398 tn398 tf398_0 tf398_1 tf398_2 tf398_3 tf398_4 tf398_5 tp398 ts408 tb408
attribute [go_sem] tg408 tz408 ta408 tl408 ti408 tt408 tq408 tn408 tp408 tu408 ts411 tb411 tg411 tz411 ta411 tl411 ti411 tt411 tq411 tn411
attribute [go_sem] tp411 tu411 ts419 tb419 tg419 tz419 ta419 tl419 ti419 tt419 tq419 tn419 tp419 tu419 ts422 tb422 tg422 tz422 ta422 tl422
attribute [go_sem] ti422 tt422 tq422 tn422 tp422 tu422 ts425 tb425 tg425 tz425 ta425 tl425 ti425 tt425 tq425 tn425 tf425_0 tf425_1 tf425_2 tf425_3
attribute [go_sem] tf425_4 tf425_5 tf425_6 tp425 ts438 tb438 tg438 tz438 ta438 tl438 ti438 tt438 tq438 tn438 tf438_0 tf438_1 tf438_2 tf438_3 tp438 tv438
attribute [go_sem] te438 ts440 tb440 tg440 tz440 ta440 tl440 ti440 tt440 tq440 tn440 tf440_0 tf440_1 tf440_2 tf440_3 tf440_4 tf440_5 tf440_6 tp440 ts441
attribute [go_sem] tb441 tg441 tz441 ta441 tl441 ti441 tt441 tq441 tn441 tp441 tu441 ts447 tb447 tg447 tz447 ta447 tl447 ti447 tt447 tq447
attribute [go_sem] tn447 tf447_0 tf447_1 tp447 ts451 tb451 tg451 tz451 ta451 tl451 ti451 tt451 tq451 tn451 tf451_0 tf451_1 tp451 tv451 te451 ts457
attribute [go_sem] tb457 tg457 tz457 ta457 tl457 ti457 tt457 tq457 tn457 tp457 tu457 ts458 tb458 tg458 tz458 ta458 tl458 ti458 tt458 tq458
attribute [go_sem] tn458 tp458 tu458 ts459 tb459 tg459 tz459 ta459 tl459 ti459 tt459 tq459 tn459 tp459 tu459 ts461 tb461 tg461 tz461 ta461
attribute [go_sem] tl461 ti461 tt461 tq461 tn461 tf461_0 tf461_1 tf461_2 tf461_3 tf461_4 tf461_5 tf461_6 tp461 ts463 tb463 tg463 tz463 ta463 tl463 ti463
attribute [go_sem] tt463 tq463 tn463 tp463 tu463 ts468 tb468 tg468 tz468 ta468 tl468 ti468 tt468 tq468 tn468 tp468 tu468 ts469 tb469 tg469
attribute [go_sem] tz469 ta469 tl469 ti469 tt469 tq469 tn469 tp469 tu469 ts471 tb471 tg471 tz471 ta471 tl471 ti471 tt471 tq471 tn471 tf471_0
attribute [go_sem] tf471_1 tp471 tv471 te471 ts472 tb472 tg472 tz472 ta472 tl472 ti472 tt472 tq472 tn472 tp472 tu472 ts474 tb474 tg474 tz474
attribute [go_sem] ta474 tl474 ti474 tt474 tq474 tn474 tp474 tu474 ts475 tb475 tg475 tz475 ta475 tl475 ti475 tt475 tq475 tn475 tp475 tu475
attribute [go_sem] ts481 tb481 tg481 tz481 ta481 tl481 ti481 tt481 tq481 tn481 tf481_0 tf481_1 tp481 ts484 tb484 tg484 tz484 ta484 tl484 ti484
attribute [go_sem] tt484 tq484 tn484 tp484 tu484 ts485 tb485 tg485 ta485 tl485 ti485 tt485 tq485 tn485 tp485 ts489 tb489 tg489 tz489 ta489
attribute [go_sem] tl489 ti489 tt489 tq489 tn489 tp489 ts490 tb490 tg490 tz490 ta490 tl490 ti490 tt490 tq490 tn490 tp490 ts491 tb491 tg491
attribute [go_sem] tz491 ta491 tl491 ti491 tt491 tq491 tn491 tp491 ts502 tb502 tg502 tz502 ta502 tl502 ti502 tt502 tq502 tn502 tp502 tu502
attribute [go_sem] ts504 tb504 tg504 tz504 ta504 tl504 ti504 tt504 tq504 tn504 tp504 tu504 ts506 tb506 tg506 tz506 ta506 tl506 ti506 tt506
attribute [go_sem] tq506 tn506 tf506_0 tf506_1 tf506_2 tf506_3 tp506 ts508 tb508 tg508 tz508 ta508 tl508 ti508 tt508 tq508 tn508 tf508_0 tf508_1 tp508
attribute [go_sem] tv508 te508 ts520 tb520 tg520 tz520 ta520 tl520 ti520 tt520 tq520 tn520 tp520 tu520 ts522 tb522 tg522 tz522 ta522 tl522
attribute [go_sem] ti522 tt522 tq522 tn522 tp522 tu522 ts524 tb524 tg524 tz524 ta524 tl524 ti524 tt524 tq524 tn524 tf524_0 tf524_1 tp524 tv524
attribute [go_sem] te524 ts526 tb526 tg526 tz526 ta526 tl526 ti526 tt526 tq526 tn526 tp526 tu526 ts531 tb531 tg531 tz531 ta531 tl531 ti531
attribute [go_sem] tt531 tq531 tn531 tp531 tu531 ts532 tb532 tg532 tz532 ta532 tl532 ti532 tt532 tq532 tn532 tp532 tu532 ts535 tb535 tg535
attribute [go_sem] tz535 ta535 tl535 ti535 tt535 tq535 tn535 tp535 tw23 tw28 tw31 tw40 tw80 tw94 tw136 tw170 tw182 tw186 tw300 tw422
attribute [go_sem] tw458 tw459 tw484 tw502 tw504 tw520 tw522 tw526 tc4 tc5 tc6 tc7 tc8 tc9 tc10 tc11 tc12 tc13 tc14 tc15
attribute [go_sem] tc16 tc17 tc18 tc19 tc20 tc21 tc22 tc23 tc29 tc30 tc31 tc32 tc33 tc34 tc35 tc36 tc37 tc38 tc39 tc40
attribute [go_sem] tc41 tc43 tc44 tc45 tc47 tc48 tc49 tc50 tc51 tc52 tc53 tc54 tc55 tc56 tc57 tc58 tc59 tc60 tc61 tc62
attribute [go_sem] tc63 tc64 tc65 tc66 tc67 tc68 tc69 tc70 tc71 tc72 tc73 tc74 tc75 tc76 tc77 tc78 tc79 tc80 tc81 tc82
attribute [go_sem] tc83 tc84 tc85 tc86 tc87 tc88 tc89 tc90 tc91 tc92 tc93 tc94 tc95 tc96 tc97 tc98 tc99 tc100 tc101 tc102
attribute [go_sem] tc103 tc104 tc105 tc106 tc107 tc108 tc109 tc110 tc111 tc112 tc113 tc115 tc120 tc121 tc122 tc123 tc124 tc125 tc126 tc127
attribute [go_sem] tc128 tc129 tc130 tc131 tc132 tc133 tc134 tc135 tc136 tc137 tc138 tc139 tc140 tc141 tc142 tc143 tc144 tc145 tc146 tc147
attribute [go_sem] tc148 tc149 tc150 tc151 tc152 tc153 tc154 tc155 tc156 tc157 tc158 tc159 tc160 tc161 tc162 tc163 tc164 tc165 tc166 tc167
attribute [go_sem] tc168 tc169 tc171 tc172 tc173 tc174 tc175 tc176 tc177 tc179 tc180 tc181 tc182 tc183 tc184 tc186 tc187 tc188 tc190 tc192
attribute [go_sem] tc194 tc196 tc197 tc198 tc199 tc200 tc201 tc202 tc203 tc204 tc205 tc206 tc207 tc208 tc209 tc210 tc211 tc212 tc213 tc214
attribute [go_sem] tc215 tc216 tc217 tc218 tc219 tc220 tc222 tc223 tc224 tc225 tc226 tc227 tc228 tc229 tc230 tc231 tc232 tc233 tc234 tc235
attribute [go_sem] tc236 tc237 tc238 tc239 tc240 tc241 tc242 tc243 tc244 tc245 tc246 tc247 tc248 tc249 tc250 tc251 tc252 tc253 tc254 tc255
attribute [go_sem] tc256 tc257 tc258 tc262 tc263 tc264 tc265 tc266 tc267 tc268 tc269 tc270 tc272 tc274 tc275 tc276 tc277 tc279 tc280 tc281
attribute [go_sem] tc282 tc283 tc284 tc285 tc286 tc287 tc288 tc289 tc290 tc291 tc292 tc293 tc294 tc295 tc296 tc297 tc298 tc299 tc300 tc301
attribute [go_sem] tc302 tc303 tc304 tc305 tc306 tc308 tc309 tc310 tc311 tc312 tc314 tc315 tc316 tc317 tc318 tc320 tc321 tc322 tc323 tc324
attribute [go_sem] tc325 tc327 tc328 tc329 tc330 tc331 tc332 tc333 tc334 tc335 tc336 tc337 tc338 tc339 tc340 tc341 tc343 tc344 tc345 tc346
attribute [go_sem] tc347 tc348 tc349 tc350 tc351 tc352 tc353 tc354 tc355 tc356 tc358 tc359 tc360 tc361 tc362 tc364 tc365 tc366 tc367 tc368
attribute [go_sem] tc369 tc370 tc371 tc372 tc373 tc374 tc375 tc376 tc377 tc379 tc380 tc381 tc382 tc383 tc384 tc386 tc387 tc388 tc389 tc390
attribute [go_sem] tc392 tc393 tc394 tc395 tc396 tc397 tc398 tc399 tc400 tc401 tc402 tc403 tc404 tc406 tc407 tc408 tc409 tc410 tc411 tc412
attribute [go_sem] tc413 tc414 tc415 tc416 tc417 tc418 tc419 tc420 tc421 tc422 tc423 tc424 tc425 tc426 tc427 tc428 tc429 tc431 tc432 tc433
attribute [go_sem] tc434 tc435 tc436 tc437 tc438 tc439 tc440 tc441 tc442 tc443 tc444 tc445 tc446 tc447 tc448 tc449 tc450 tc451 tc452 tc453
attribute [go_sem] tc454 tc455 tc456 tr2 tr3 tr4 tr5 tr6 tr7 tr8 tr9 tr10 tr11 tr12 tr13 tr14 tr15 tr16 tr17 tr18
attribute [go_sem] tr19 tr20 tr21 tr22 tr23 tr24 tr25 tr26 tr27 tr28 tr29 tr30 tr31 tr32 tr33 tr34 tr35 tr36 tr37 tr38
attribute [go_sem] tr39 tr40 tr41 tr43 tr44 tr45 tr46 tr47 tr48 tr49 tr50 tr51 tr52 tr53 tr54 tr55 tr56 tr57 tr58 tr59
attribute [go_sem] tr60 tr61 tr62 tr63 tr64 tr65 tr66 tr67 tr68 tr69 tr70 tr71 tr72 tr73 tr74 tr75 tr76 tr77 tr78 tr79
attribute [go_sem] tr80 tr81 tr82 tr83 tr84 tr85 tr86 tr87 tr88 tr89 tr90 tr91 tr92 tr93 tr94 tr95 tr96 tr97 tr98 tr99
attribute [go_sem] tr100 tr101 tr102 tr103 tr104 tr105 tr106 tr107 tr108 tr109 tr110 tr111 tr112 tr113 tr114 tr115 tr116 tr117 tr118 tr119
attribute [go_sem] tr120 tr121 tr122 tr123 tr124 tr125 tr126 tr127 tr128 tr129 tr130 tr131 tr132 tr133 tr134 tr135 tr136 tr137 tr138 tr139
attribute [go_sem] tr140 tr141 tr142 tr143 tr144 tr145 tr146 tr147 tr148 tr149 tr150 tr151 tr152 tr153 tr154 tr155 tr156 tr157 tr158 tr159
attribute [go_sem] tr160 tr161 tr162 tr163 tr164 tr165 tr166 tr167 tr168 tr169 tr170 tr171 tr172 tr173 tr174 tr175 tr176 tr177 tr178 tr179
attribute [go_sem] tr180 tr181 tr182 tr183 tr184 tr185 tr186 tr187 tr188 tr189 tr190 tr191 tr192 tr193 tr194 tr195 tr196 tr197 tr198 tr199
attribute [go_sem] tr200 tr201 tr202 tr203 tr204 tr205 tr206 tr207 tr208 tr209 tr210 tr211 tr212 tr213 tr214 tr215 tr216 tr217 tr218 tr219
attribute [go_sem] tr220 tr221 tr222 tr223 tr224 tr225 tr226 tr227 tr228 tr229 tr230 tr231 tr232 tr233 tr234 tr235 tr236 tr237 tr238 tr239
attribute [go_sem] tr240 tr241 tr242 tr243 tr244 tr245 tr246 tr247 tr248 tr249 tr250 tr251 tr252 tr253 tr254 tr255 tr256 tr257 tr258 tr259
attribute [go_sem] tr260 tr262 tr263 tr264 tr265 tr266 tr267 tr268 tr269 tr270 tr272 tr274 tr275 tr276 tr277 tr278 tr279 tr280 tr281 tr282
attribute [go_sem] tr283 tr284 tr285 tr286 tr287 tr288 tr289 tr290 tr291 tr292 tr293 tr294 tr295 tr296 tr297 tr298 tr299 tr300 tr301 tr302
attribute [go_sem] tr303 tr304 tr305 tr306 tr307 tr308 tr309 tr310 tr311 tr312 tr313 tr314 tr315 tr316 tr317 tr318 tr320 tr321 tr322 tr323
attribute [go_sem] tr324 tr325 tr327 tr328 tr329 tr330 tr331 tr332 tr333 tr334 tr335 tr336 tr337 tr338 tr339 tr340 tr341 tr342 tr343 tr344
attribute [go_sem] tr345 tr346 tr347 tr348 tr349 tr350 tr351 tr352 tr353 tr354 tr355 tr356 tr357 tr358 tr359 tr360 tr361 tr362 tr363 tr364
attribute [go_sem] tr365 tr366 tr367 tr368 tr369 tr370 tr371 tr372 tr373 tr374 tr375 tr376 tr377 tr378 tr379 tr380 tr381 tr382 tr383 tr384
attribute [go_sem] tr385 tr386 tr387 tr388 tr389 tr390 tr391 tr392 tr393 tr394 tr395 tr396 tr397 tr398 tr399 tr400 tr401 tr402 tr403 tr404
attribute [go_sem] tr405 tr406 tr407 tr408 tr409 tr410 tr411 tr412 tr413 tr414 tr415 tr416 tr417 tr418 tr419 tr420 tr421 tr422 tr423 tr424
attribute [go_sem] tr425 tr426 tr427 tr428 tr429 tr431 tr432 tr433 tr434 tr435 tr436 tr437 tr438 tr439 tr440 tr441 tr442 tr443 tr444 tr445
attribute [go_sem] tr446 tr447 tr448 tr449 tr450 tr451 tr452 tr453 tr454 tr455 tr456 tr482
end Go.Proofs.YtjjiemmkmndmnaaGreatDoor.AL
