/- Facts on the types of the program, each asked of the loaded table. -/
import Derived.Test.YtglmofbcooefkaaProg
import Derived.Test.YtglmofbcooefkaaAL15
import Derived.KernelRfl
namespace Go.Proofs.Ytglmofbcooefkaa.AL
set_option linter.unusedVariables false
set_option linter.unusedSimpArgs false
open Go
theorem ts3 : tySize Try.prog 3 = some 1 := by kernel_rfl
theorem tb3 : tyBytes Try.prog 3 = some 8 := by kernel_rfl
theorem tg3 : tyAgg Try.prog 3 = some false := by kernel_rfl
theorem tz3 : tyZero Try.prog 3 = some (.lit (.int .i64 0)) := by kernel_rfl
theorem ta3 : tyArray Try.prog 3 = none := by kernel_rfl
theorem tl3 : tySlice Try.prog 3 = none := by kernel_rfl
theorem ti3 : tyInt Try.prog 3 = some .i64 := by kernel_rfl
theorem tt3 : tyString Try.prog 3 = false := by kernel_rfl
theorem tq3 : tyBool Try.prog 3 = false := by kernel_rfl
theorem tn3 : tyNil Try.prog 3 = none := by kernel_rfl
theorem tp3 : tyPlaces Try.prog 3 = none := by kernel_rfl
theorem tu3 : Try.prog.underlying 3 = some (.int .i64) := by kernel_rfl
theorem ts4 : tySize Try.prog 4 = some 1 := by kernel_rfl
theorem tb4 : tyBytes Try.prog 4 = some 1 := by kernel_rfl
theorem tg4 : tyAgg Try.prog 4 = some false := by kernel_rfl
theorem tz4 : tyZero Try.prog 4 = some (.lit (.bool false)) := by kernel_rfl
theorem ta4 : tyArray Try.prog 4 = none := by kernel_rfl
theorem tl4 : tySlice Try.prog 4 = none := by kernel_rfl
theorem ti4 : tyInt Try.prog 4 = none := by kernel_rfl
theorem tt4 : tyString Try.prog 4 = false := by kernel_rfl
theorem tq4 : tyBool Try.prog 4 = true := by kernel_rfl
theorem tn4 : tyNil Try.prog 4 = none := by kernel_rfl
theorem tp4 : tyPlaces Try.prog 4 = none := by kernel_rfl
theorem tu4 : Try.prog.underlying 4 = some .bool := by kernel_rfl
theorem ts5 : tySize Try.prog 5 = some 1 := by kernel_rfl
theorem tb5 : tyBytes Try.prog 5 = some 1 := by kernel_rfl
theorem tg5 : tyAgg Try.prog 5 = some false := by kernel_rfl
theorem tz5 : tyZero Try.prog 5 = some (.lit (.int .u8 0)) := by kernel_rfl
theorem ta5 : tyArray Try.prog 5 = none := by kernel_rfl
theorem tl5 : tySlice Try.prog 5 = none := by kernel_rfl
theorem ti5 : tyInt Try.prog 5 = some .u8 := by kernel_rfl
theorem tt5 : tyString Try.prog 5 = false := by kernel_rfl
theorem tq5 : tyBool Try.prog 5 = false := by kernel_rfl
theorem tn5 : tyNil Try.prog 5 = none := by kernel_rfl
theorem tp5 : tyPlaces Try.prog 5 = none := by kernel_rfl
theorem tu5 : Try.prog.underlying 5 = some (.int .u8) := by kernel_rfl
theorem ts9 : tySize Try.prog 9 = some 1 := by kernel_rfl
theorem tb9 : tyBytes Try.prog 9 = some 16 := by kernel_rfl
theorem tg9 : tyAgg Try.prog 9 = some false := by kernel_rfl
theorem tz9 : tyZero Try.prog 9 = some (.lit (.string { data := #[] })) := by kernel_rfl
theorem ta9 : tyArray Try.prog 9 = none := by kernel_rfl
theorem tl9 : tySlice Try.prog 9 = none := by kernel_rfl
theorem ti9 : tyInt Try.prog 9 = none := by kernel_rfl
theorem tt9 : tyString Try.prog 9 = true := by kernel_rfl
theorem tq9 : tyBool Try.prog 9 = false := by kernel_rfl
theorem tn9 : tyNil Try.prog 9 = none := by kernel_rfl
theorem tp9 : tyPlaces Try.prog 9 = none := by kernel_rfl
theorem tu9 : Try.prog.underlying 9 = some .string := by kernel_rfl
theorem ts20 : tySize Try.prog 20 = some 1 := by kernel_rfl
theorem tb20 : tyBytes Try.prog 20 = some 16 := by kernel_rfl
theorem tg20 : tyAgg Try.prog 20 = some false := by kernel_rfl
theorem tz20 : tyZero Try.prog 20 = some (.lit (.nilIface)) := by kernel_rfl
theorem ta20 : tyArray Try.prog 20 = none := by kernel_rfl
theorem tl20 : tySlice Try.prog 20 = none := by kernel_rfl
theorem ti20 : tyInt Try.prog 20 = none := by kernel_rfl
theorem tt20 : tyString Try.prog 20 = false := by kernel_rfl
theorem tq20 : tyBool Try.prog 20 = false := by kernel_rfl
theorem tn20 : tyNil Try.prog 20 = some .iface := by kernel_rfl
theorem tp20 : tyPlaces Try.prog 20 = none := by kernel_rfl
theorem ts22 : tySize Try.prog 22 = some 1 := by kernel_rfl
theorem tb22 : tyBytes Try.prog 22 = some 24 := by kernel_rfl
theorem tg22 : tyAgg Try.prog 22 = some false := by kernel_rfl
theorem tz22 : tyZero Try.prog 22 = some (.lit (.slice none 0 0)) := by kernel_rfl
theorem ta22 : tyArray Try.prog 22 = none := by kernel_rfl
theorem tl22 : tySlice Try.prog 22 = some 9 := by kernel_rfl
theorem ti22 : tyInt Try.prog 22 = none := by kernel_rfl
theorem tt22 : tyString Try.prog 22 = false := by kernel_rfl
theorem tq22 : tyBool Try.prog 22 = false := by kernel_rfl
theorem tn22 : tyNil Try.prog 22 = some .slice := by kernel_rfl
theorem tp22 : tyPlaces Try.prog 22 = none := by kernel_rfl
theorem tu22 : Try.prog.underlying 22 = some (.slice 9) := by kernel_rfl
theorem ts23 : tySize Try.prog 23 = some 1 := by kernel_rfl
theorem tb23 : tyBytes Try.prog 23 = some 24 := by kernel_rfl
theorem tg23 : tyAgg Try.prog 23 = some false := by kernel_rfl
theorem tz23 : tyZero Try.prog 23 = some (.lit (.slice none 0 0)) := by kernel_rfl
theorem ta23 : tyArray Try.prog 23 = none := by kernel_rfl
theorem tl23 : tySlice Try.prog 23 = some 4 := by kernel_rfl
theorem ti23 : tyInt Try.prog 23 = none := by kernel_rfl
theorem tt23 : tyString Try.prog 23 = false := by kernel_rfl
theorem tq23 : tyBool Try.prog 23 = false := by kernel_rfl
theorem tn23 : tyNil Try.prog 23 = some .slice := by kernel_rfl
theorem tp23 : tyPlaces Try.prog 23 = none := by kernel_rfl
theorem tu23 : Try.prog.underlying 23 = some (.slice 4) := by kernel_rfl
theorem ts24 : tySize Try.prog 24 = some 1 := by kernel_rfl
theorem tb24 : tyBytes Try.prog 24 = some 24 := by kernel_rfl
theorem tg24 : tyAgg Try.prog 24 = some false := by kernel_rfl
theorem tz24 : tyZero Try.prog 24 = some (.lit (.slice none 0 0)) := by kernel_rfl
theorem ta24 : tyArray Try.prog 24 = none := by kernel_rfl
theorem tl24 : tySlice Try.prog 24 = some 3 := by kernel_rfl
theorem ti24 : tyInt Try.prog 24 = none := by kernel_rfl
theorem tt24 : tyString Try.prog 24 = false := by kernel_rfl
theorem tq24 : tyBool Try.prog 24 = false := by kernel_rfl
theorem tn24 : tyNil Try.prog 24 = some .slice := by kernel_rfl
theorem tp24 : tyPlaces Try.prog 24 = none := by kernel_rfl
theorem tu24 : Try.prog.underlying 24 = some (.slice 3) := by kernel_rfl
theorem ts26 : tySize Try.prog 26 = some 1 := by kernel_rfl
theorem tb26 : tyBytes Try.prog 26 = some 8 := by kernel_rfl
theorem tg26 : tyAgg Try.prog 26 = some false := by kernel_rfl
theorem tz26 : tyZero Try.prog 26 = some (.lit (.pointer none)) := by kernel_rfl
theorem ta26 : tyArray Try.prog 26 = none := by kernel_rfl
theorem tl26 : tySlice Try.prog 26 = none := by kernel_rfl
theorem ti26 : tyInt Try.prog 26 = none := by kernel_rfl
theorem tt26 : tyString Try.prog 26 = false := by kernel_rfl
theorem tq26 : tyBool Try.prog 26 = false := by kernel_rfl
theorem tn26 : tyNil Try.prog 26 = some .ptr := by kernel_rfl
theorem tp26 : tyPlaces Try.prog 26 = none := by kernel_rfl
theorem tu26 : Try.prog.underlying 26 = some (.pointer 45) := by kernel_rfl
theorem ts40 : tySize Try.prog 40 = some 1 := by kernel_rfl
theorem tb40 : tyBytes Try.prog 40 = some 4 := by kernel_rfl
theorem tg40 : tyAgg Try.prog 40 = some false := by kernel_rfl
theorem tz40 : tyZero Try.prog 40 = some (.lit (.int .u32 0)) := by kernel_rfl
theorem ta40 : tyArray Try.prog 40 = none := by kernel_rfl
theorem tl40 : tySlice Try.prog 40 = none := by kernel_rfl
theorem ti40 : tyInt Try.prog 40 = some .u32 := by kernel_rfl
theorem tt40 : tyString Try.prog 40 = false := by kernel_rfl
theorem tq40 : tyBool Try.prog 40 = false := by kernel_rfl
theorem tn40 : tyNil Try.prog 40 = none := by kernel_rfl
theorem tp40 : tyPlaces Try.prog 40 = none := by kernel_rfl
theorem tu40 : Try.prog.underlying 40 = some (.int .u32) := by kernel_rfl
theorem ts42 : tySize Try.prog 42 = some 8 := by kernel_rfl
theorem tb42 : tyBytes Try.prog 42 = some 104 := by kernel_rfl
theorem tg42 : tyAgg Try.prog 42 = some true := by kernel_rfl
theorem tz42 : tyZero Try.prog 42 = some (.agg [.lit (.int .i64 0), .lit (.string { data := #[] }), .lit (.string { data := #[] }), .lit (.string { data := #[] }), .lit (.int .i64 0), .lit (.int .i64 0), .lit (.slice none 0 0), .lit (.int .u32 0)]) := by kernel_rfl
theorem ta42 : tyArray Try.prog 42 = none := by kernel_rfl
theorem tl42 : tySlice Try.prog 42 = none := by kernel_rfl
theorem ti42 : tyInt Try.prog 42 = none := by kernel_rfl
theorem tt42 : tyString Try.prog 42 = false := by kernel_rfl
theorem tq42 : tyBool Try.prog 42 = false := by kernel_rfl
theorem tn42 : tyNil Try.prog 42 = none := by kernel_rfl
theorem tf42_0 : tyField Try.prog 42 0 = some (0, 3) := by kernel_rfl
theorem tf42_1 : tyField Try.prog 42 1 = some (1, 9) := by kernel_rfl
theorem tf42_2 : tyField Try.prog 42 2 = some (2, 9) := by kernel_rfl
theorem tf42_3 : tyField Try.prog 42 3 = some (3, 9) := by kernel_rfl
theorem tf42_4 : tyField Try.prog 42 4 = some (4, 3) := by kernel_rfl
theorem tf42_5 : tyField Try.prog 42 5 = some (5, 3) := by kernel_rfl
theorem tf42_6 : tyField Try.prog 42 6 = some (6, 24) := by kernel_rfl
theorem tf42_7 : tyField Try.prog 42 7 = some (7, 40) := by kernel_rfl
theorem tp42 : tyPlaces Try.prog 42 = some [(0, 1), (1, 1), (2, 1), (3, 1), (4, 1), (5, 1), (6, 1), (7, 1)] := by kernel_rfl
theorem ts43 : tySize Try.prog 43 = some 1 := by kernel_rfl
theorem tb43 : tyBytes Try.prog 43 = some 8 := by kernel_rfl
theorem tg43 : tyAgg Try.prog 43 = some false := by kernel_rfl
theorem tz43 : tyZero Try.prog 43 = some (.lit (.map none)) := by kernel_rfl
theorem ta43 : tyArray Try.prog 43 = none := by kernel_rfl
theorem tl43 : tySlice Try.prog 43 = none := by kernel_rfl
theorem ti43 : tyInt Try.prog 43 = none := by kernel_rfl
theorem tt43 : tyString Try.prog 43 = false := by kernel_rfl
theorem tq43 : tyBool Try.prog 43 = false := by kernel_rfl
theorem tn43 : tyNil Try.prog 43 = some .map := by kernel_rfl
theorem tp43 : tyPlaces Try.prog 43 = none := by kernel_rfl
theorem ts45 : tySize Try.prog 45 = some 7 := by kernel_rfl
theorem tb45 : tyBytes Try.prog 45 = some 56 := by kernel_rfl
theorem tg45 : tyAgg Try.prog 45 = some true := by kernel_rfl
theorem tz45 : tyZero Try.prog 45 = some (.agg [.lit (.bool false), .lit (.int .i64 0), .lit (.int .i64 0), .lit (.map none), .lit (.int .i64 0), .lit (.bool false), .lit (.int .i64 0)]) := by kernel_rfl
theorem ta45 : tyArray Try.prog 45 = none := by kernel_rfl
theorem tl45 : tySlice Try.prog 45 = none := by kernel_rfl
theorem ti45 : tyInt Try.prog 45 = none := by kernel_rfl
theorem tt45 : tyString Try.prog 45 = false := by kernel_rfl
theorem tq45 : tyBool Try.prog 45 = false := by kernel_rfl
theorem tn45 : tyNil Try.prog 45 = none := by kernel_rfl
theorem tf45_0 : tyField Try.prog 45 0 = some (0, 4) := by kernel_rfl
theorem tf45_1 : tyField Try.prog 45 1 = some (1, 3) := by kernel_rfl
theorem tf45_2 : tyField Try.prog 45 2 = some (2, 3) := by kernel_rfl
theorem tf45_3 : tyField Try.prog 45 3 = some (3, 43) := by kernel_rfl
theorem tf45_4 : tyField Try.prog 45 4 = some (4, 3) := by kernel_rfl
theorem tf45_5 : tyField Try.prog 45 5 = some (5, 4) := by kernel_rfl
theorem tf45_6 : tyField Try.prog 45 6 = some (6, 3) := by kernel_rfl
theorem tp45 : tyPlaces Try.prog 45 = some [(0, 1), (1, 1), (2, 1), (3, 1), (4, 1), (5, 1), (6, 1)] := by kernel_rfl
theorem ts46 : tySize Try.prog 46 = some 1 := by kernel_rfl
theorem tb46 : tyBytes Try.prog 46 = some 24 := by kernel_rfl
theorem tg46 : tyAgg Try.prog 46 = some false := by kernel_rfl
theorem tz46 : tyZero Try.prog 46 = some (.lit (.slice none 0 0)) := by kernel_rfl
theorem ta46 : tyArray Try.prog 46 = none := by kernel_rfl
theorem tl46 : tySlice Try.prog 46 = some 26 := by kernel_rfl
theorem ti46 : tyInt Try.prog 46 = none := by kernel_rfl
theorem tt46 : tyString Try.prog 46 = false := by kernel_rfl
theorem tq46 : tyBool Try.prog 46 = false := by kernel_rfl
theorem tn46 : tyNil Try.prog 46 = some .slice := by kernel_rfl
theorem tp46 : tyPlaces Try.prog 46 = none := by kernel_rfl
theorem tu46 : Try.prog.underlying 46 = some (.slice 26) := by kernel_rfl
theorem ts53 : tySize Try.prog 53 = some 2 := by kernel_rfl
theorem tb53 : tyBytes Try.prog 53 = some 24 := by kernel_rfl
theorem tg53 : tyAgg Try.prog 53 = some true := by kernel_rfl
theorem tz53 : tyZero Try.prog 53 = some (.agg [.lit (.string { data := #[] }), .lit (.int .i64 0)]) := by kernel_rfl
theorem ta53 : tyArray Try.prog 53 = none := by kernel_rfl
theorem tl53 : tySlice Try.prog 53 = none := by kernel_rfl
theorem ti53 : tyInt Try.prog 53 = none := by kernel_rfl
theorem tt53 : tyString Try.prog 53 = false := by kernel_rfl
theorem tq53 : tyBool Try.prog 53 = false := by kernel_rfl
theorem tn53 : tyNil Try.prog 53 = none := by kernel_rfl
theorem tf53_0 : tyField Try.prog 53 0 = some (0, 9) := by kernel_rfl
theorem tf53_1 : tyField Try.prog 53 1 = some (1, 3) := by kernel_rfl
theorem tp53 : tyPlaces Try.prog 53 = some [(0, 1), (1, 1)] := by kernel_rfl
theorem tv53 : leaves Try.prog 20 53 = some [.str, .int] := by kernel_rfl
theorem te53 : Try.prog.eqGuardType Try.prog.depth 53 = false := by kernel_rfl
theorem ts62 : tySize Try.prog 62 = some 1 := by kernel_rfl
theorem tb62 : tyBytes Try.prog 62 = some 24 := by kernel_rfl
theorem tg62 : tyAgg Try.prog 62 = some false := by kernel_rfl
theorem tz62 : tyZero Try.prog 62 = some (.lit (.slice none 0 0)) := by kernel_rfl
theorem ta62 : tyArray Try.prog 62 = none := by kernel_rfl
theorem tl62 : tySlice Try.prog 62 = some 5 := by kernel_rfl
theorem ti62 : tyInt Try.prog 62 = none := by kernel_rfl
theorem tt62 : tyString Try.prog 62 = false := by kernel_rfl
theorem tq62 : tyBool Try.prog 62 = false := by kernel_rfl
theorem tn62 : tyNil Try.prog 62 = some .slice := by kernel_rfl
theorem tp62 : tyPlaces Try.prog 62 = none := by kernel_rfl
theorem tu62 : Try.prog.underlying 62 = some (.slice 5) := by kernel_rfl
theorem ts66 : tySize Try.prog 66 = some 1 := by kernel_rfl
theorem tb66 : tyBytes Try.prog 66 = some 8 := by kernel_rfl
theorem tg66 : tyAgg Try.prog 66 = some false := by kernel_rfl
theorem tz66 : tyZero Try.prog 66 = some (.lit (.nilFunc)) := by kernel_rfl
theorem ta66 : tyArray Try.prog 66 = none := by kernel_rfl
theorem tl66 : tySlice Try.prog 66 = none := by kernel_rfl
theorem ti66 : tyInt Try.prog 66 = none := by kernel_rfl
theorem tt66 : tyString Try.prog 66 = false := by kernel_rfl
theorem tq66 : tyBool Try.prog 66 = false := by kernel_rfl
theorem tn66 : tyNil Try.prog 66 = some .func := by kernel_rfl
theorem tp66 : tyPlaces Try.prog 66 = none := by kernel_rfl
theorem ts73 : tySize Try.prog 73 = some 1 := by kernel_rfl
theorem tb73 : tyBytes Try.prog 73 = some 8 := by kernel_rfl
theorem tg73 : tyAgg Try.prog 73 = some false := by kernel_rfl
theorem tz73 : tyZero Try.prog 73 = some (.lit (.int .u64 0)) := by kernel_rfl
theorem ta73 : tyArray Try.prog 73 = none := by kernel_rfl
theorem tl73 : tySlice Try.prog 73 = none := by kernel_rfl
theorem ti73 : tyInt Try.prog 73 = some .u64 := by kernel_rfl
theorem tt73 : tyString Try.prog 73 = false := by kernel_rfl
theorem tq73 : tyBool Try.prog 73 = false := by kernel_rfl
theorem tn73 : tyNil Try.prog 73 = none := by kernel_rfl
theorem tp73 : tyPlaces Try.prog 73 = none := by kernel_rfl
theorem tu73 : Try.prog.underlying 73 = some (.int .u64) := by kernel_rfl
theorem ts85 : tySize Try.prog 85 = some 1 := by kernel_rfl
theorem tb85 : tyBytes Try.prog 85 = some 8 := by kernel_rfl
theorem tg85 : tyAgg Try.prog 85 = some false := by kernel_rfl
theorem tz85 : tyZero Try.prog 85 = some (.lit (.int .u64 0)) := by kernel_rfl
theorem ta85 : tyArray Try.prog 85 = none := by kernel_rfl
theorem tl85 : tySlice Try.prog 85 = none := by kernel_rfl
theorem ti85 : tyInt Try.prog 85 = some .u64 := by kernel_rfl
theorem tt85 : tyString Try.prog 85 = false := by kernel_rfl
theorem tq85 : tyBool Try.prog 85 = false := by kernel_rfl
theorem tn85 : tyNil Try.prog 85 = none := by kernel_rfl
theorem tp85 : tyPlaces Try.prog 85 = none := by kernel_rfl
theorem tu85 : Try.prog.underlying 85 = some (.int .u64) := by kernel_rfl
theorem ts86 : tySize Try.prog 86 = some 1 := by kernel_rfl
theorem tb86 : tyBytes Try.prog 86 = some 8 := by kernel_rfl
theorem tg86 : tyAgg Try.prog 86 = some false := by kernel_rfl
theorem tz86 : tyZero Try.prog 86 = some (.lit (.int .u64 0)) := by kernel_rfl
theorem ta86 : tyArray Try.prog 86 = none := by kernel_rfl
theorem tl86 : tySlice Try.prog 86 = none := by kernel_rfl
theorem ti86 : tyInt Try.prog 86 = some .u64 := by kernel_rfl
theorem tt86 : tyString Try.prog 86 = false := by kernel_rfl
theorem tq86 : tyBool Try.prog 86 = false := by kernel_rfl
theorem tn86 : tyNil Try.prog 86 = none := by kernel_rfl
theorem tp86 : tyPlaces Try.prog 86 = none := by kernel_rfl
theorem tu86 : Try.prog.underlying 86 = some (.int .u64) := by kernel_rfl
theorem ts90 : tySize Try.prog 90 = some 1 := by kernel_rfl
theorem tb90 : tyBytes Try.prog 90 = some 8 := by kernel_rfl
theorem tg90 : tyAgg Try.prog 90 = some false := by kernel_rfl
theorem tz90 : tyZero Try.prog 90 = some (.lit (.pointer none)) := by kernel_rfl
theorem ta90 : tyArray Try.prog 90 = none := by kernel_rfl
theorem tl90 : tySlice Try.prog 90 = none := by kernel_rfl
theorem ti90 : tyInt Try.prog 90 = none := by kernel_rfl
theorem tt90 : tyString Try.prog 90 = false := by kernel_rfl
theorem tq90 : tyBool Try.prog 90 = false := by kernel_rfl
theorem tn90 : tyNil Try.prog 90 = some .ptr := by kernel_rfl
theorem tp90 : tyPlaces Try.prog 90 = none := by kernel_rfl
theorem tu90 : Try.prog.underlying 90 = some (.pointer 3) := by kernel_rfl
theorem tw22 : zeroFits Try.prog 22 := zeroFits_of (by kernel_rfl)
theorem tw23 : zeroFits Try.prog 23 := zeroFits_of (by kernel_rfl)
theorem tw24 : zeroFits Try.prog 24 := zeroFits_of (by kernel_rfl)
theorem tw46 : zeroFits Try.prog 46 := zeroFits_of (by kernel_rfl)
theorem tw62 : zeroFits Try.prog 62 := zeroFits_of (by kernel_rfl)
theorem tmix : Try.prog.follows .mixedOrders = true := by kernel_rfl
theorem tc5 : callable Try.prog 5 = true := by kernel_rfl
theorem tc6 : callable Try.prog 6 = true := by kernel_rfl
theorem tc7 : callable Try.prog 7 = true := by kernel_rfl
theorem tc8 : callable Try.prog 8 = true := by kernel_rfl
theorem tc9 : callable Try.prog 9 = true := by kernel_rfl
theorem tc10 : callable Try.prog 10 = true := by kernel_rfl
theorem tc11 : callable Try.prog 11 = true := by kernel_rfl
theorem tc12 : callable Try.prog 12 = true := by kernel_rfl
theorem tc13 : callable Try.prog 13 = true := by kernel_rfl
theorem tc14 : callable Try.prog 14 = true := by kernel_rfl
theorem tc15 : callable Try.prog 15 = true := by kernel_rfl
theorem tc16 : callable Try.prog 16 = true := by kernel_rfl
theorem tc17 : callable Try.prog 17 = true := by kernel_rfl
theorem tc18 : callable Try.prog 18 = true := by kernel_rfl
theorem tc19 : callable Try.prog 19 = true := by kernel_rfl
theorem tc20 : callable Try.prog 20 = true := by kernel_rfl
theorem tc21 : callable Try.prog 21 = true := by kernel_rfl
theorem tc22 : callable Try.prog 22 = true := by kernel_rfl
theorem tc23 : callable Try.prog 23 = true := by kernel_rfl
theorem tc24 : callable Try.prog 24 = true := by kernel_rfl
theorem tc25 : callable Try.prog 25 = true := by kernel_rfl
theorem tc26 : callable Try.prog 26 = true := by kernel_rfl
theorem tc27 : callable Try.prog 27 = true := by kernel_rfl
theorem tc29 : callable Try.prog 29 = true := by kernel_rfl
theorem tc30 : callable Try.prog 30 = true := by kernel_rfl
theorem tc31 : callable Try.prog 31 = true := by kernel_rfl
theorem tc32 : callable Try.prog 32 = true := by kernel_rfl
theorem tc33 : callable Try.prog 33 = true := by kernel_rfl
theorem tc35 : callable Try.prog 35 = true := by kernel_rfl
theorem tc36 : callable Try.prog 36 = true := by kernel_rfl
theorem tc37 : callable Try.prog 37 = true := by kernel_rfl
theorem tc38 : callable Try.prog 38 = true := by kernel_rfl
theorem tc39 : callable Try.prog 39 = true := by kernel_rfl
theorem tc40 : callable Try.prog 40 = true := by kernel_rfl
theorem tc41 : callable Try.prog 41 = true := by kernel_rfl
theorem tc42 : callable Try.prog 42 = true := by kernel_rfl
theorem tc43 : callable Try.prog 43 = true := by kernel_rfl
theorem tc44 : callable Try.prog 44 = true := by kernel_rfl
theorem tc45 : callable Try.prog 45 = true := by kernel_rfl
theorem tc46 : callable Try.prog 46 = true := by kernel_rfl
theorem tc47 : callable Try.prog 47 = true := by kernel_rfl
theorem tc48 : callable Try.prog 48 = true := by kernel_rfl
theorem tc49 : callable Try.prog 49 = true := by kernel_rfl
theorem tc50 : callable Try.prog 50 = true := by kernel_rfl
theorem tc51 : callable Try.prog 51 = true := by kernel_rfl
theorem tc52 : callable Try.prog 52 = true := by kernel_rfl
theorem tc53 : callable Try.prog 53 = true := by kernel_rfl
theorem tc54 : callable Try.prog 54 = true := by kernel_rfl
theorem tc55 : callable Try.prog 55 = true := by kernel_rfl
theorem tr2 : Try.f2.results.toList = [] := by kernel_rfl
theorem tr3 : Try.f3.results.toList = [ResultVar.tmp 8] := by kernel_rfl
theorem tr4 : Try.f4.results.toList = [ResultVar.tmp 2] := by kernel_rfl
theorem tr5 : Try.f5.results.toList = [ResultVar.tmp 0] := by kernel_rfl
theorem tr6 : Try.f6.results.toList = [ResultVar.tmp 2, ResultVar.tmp 3] := by kernel_rfl
theorem tr7 : Try.f7.results.toList = [ResultVar.tmp 4] := by kernel_rfl
theorem tr8 : Try.f8.results.toList = [ResultVar.tmp 2] := by kernel_rfl
theorem tr9 : Try.f9.results.toList = [] := by kernel_rfl
theorem tr10 : Try.f10.results.toList = [ResultVar.tmp 6] := by kernel_rfl
theorem tr11 : Try.f11.results.toList = [ResultVar.tmp 4] := by kernel_rfl
theorem tr12 : Try.f12.results.toList = [] := by kernel_rfl
theorem tr13 : Try.f13.results.toList = [ResultVar.tmp 4, ResultVar.tmp 5] := by kernel_rfl
theorem tr14 : Try.f14.results.toList = [ResultVar.tmp 8, ResultVar.tmp 9] := by kernel_rfl
theorem tr15 : Try.f15.results.toList = [ResultVar.tmp 2, ResultVar.tmp 3] := by kernel_rfl
theorem tr16 : Try.f16.results.toList = [ResultVar.tmp 6] := by kernel_rfl
theorem tr17 : Try.f17.results.toList = [ResultVar.tmp 4] := by kernel_rfl
theorem tr18 : Try.f18.results.toList = [ResultVar.tmp 8] := by kernel_rfl
theorem tr19 : Try.f19.results.toList = [ResultVar.tmp 2] := by kernel_rfl
theorem tr20 : Try.f20.results.toList = [ResultVar.tmp 2] := by kernel_rfl
theorem tr21 : Try.f21.results.toList = [ResultVar.cell 6 53, ResultVar.tmp 7] := by kernel_rfl
theorem tr22 : Try.f22.results.toList = [ResultVar.tmp 2] := by kernel_rfl
theorem tr23 : Try.f23.results.toList = [ResultVar.tmp 2] := by kernel_rfl
theorem tr24 : Try.f24.results.toList = [ResultVar.tmp 2] := by kernel_rfl
theorem tr25 : Try.f25.results.toList = [ResultVar.tmp 4] := by kernel_rfl
theorem tr26 : Try.f26.results.toList = [ResultVar.tmp 2] := by kernel_rfl
theorem tr27 : Try.f27.results.toList = [] := by kernel_rfl
theorem tr29 : Try.f29.results.toList = [ResultVar.tmp 2] := by kernel_rfl
theorem tr30 : Try.f30.results.toList = [ResultVar.tmp 2] := by kernel_rfl
theorem tr31 : Try.f31.results.toList = [ResultVar.tmp 2] := by kernel_rfl
theorem tr32 : Try.f32.results.toList = [ResultVar.tmp 2] := by kernel_rfl
theorem tr33 : Try.f33.results.toList = [] := by kernel_rfl
theorem tr34 : Try.f34.results.toList = [] := by kernel_rfl
theorem tr35 : Try.f35.results.toList = [ResultVar.tmp 4] := by kernel_rfl
theorem tr36 : Try.f36.results.toList = [] := by kernel_rfl
theorem tr37 : Try.f37.results.toList = [ResultVar.tmp 2] := by kernel_rfl
theorem tr38 : Try.f38.results.toList = [] := by kernel_rfl
theorem tr39 : Try.f39.results.toList = [] := by kernel_rfl
theorem tr40 : Try.f40.results.toList = [] := by kernel_rfl
theorem tr41 : Try.f41.results.toList = [ResultVar.tmp 6, ResultVar.tmp 7] := by kernel_rfl
theorem tr42 : Try.f42.results.toList = [] := by kernel_rfl
theorem tr43 : Try.f43.results.toList = [ResultVar.tmp 6] := by kernel_rfl
theorem tr44 : Try.f44.results.toList = [ResultVar.tmp 4] := by kernel_rfl
theorem tr45 : Try.f45.results.toList = [ResultVar.tmp 8] := by kernel_rfl
theorem tr46 : Try.f46.results.toList = [ResultVar.tmp 8, ResultVar.tmp 9] := by kernel_rfl
theorem tr47 : Try.f47.results.toList = [ResultVar.tmp 2] := by kernel_rfl
theorem tr48 : Try.f48.results.toList = [ResultVar.tmp 2] := by kernel_rfl
theorem tr49 : Try.f49.results.toList = [] := by kernel_rfl
theorem tr50 : Try.f50.results.toList = [ResultVar.tmp 2] := by kernel_rfl
theorem tr51 : Try.f51.results.toList = [ResultVar.tmp 2] := by kernel_rfl
theorem tr52 : Try.f52.results.toList = [ResultVar.tmp 6] := by kernel_rfl
theorem tr53 : Try.f53.results.toList = [ResultVar.tmp 10] := by kernel_rfl
theorem tr54 : Try.f54.results.toList = [ResultVar.tmp 2] := by kernel_rfl
theorem tr55 : Try.f55.results.toList = [ResultVar.tmp 8, ResultVar.tmp 9] := by kernel_rfl
attribute [go_sem] ts3 tb3 tg3 tz3 ta3 tl3 ti3 tt3 tq3 tn3 tp3 tu3 ts4 tb4 tg4 tz4 ta4 tl4 ti4 tt4
attribute [go_sem] tq4 tn4 tp4 tu4 ts5 tb5 tg5 tz5 ta5 tl5 ti5 tt5 tq5 tn5 tp5 tu5 ts9 tb9 tg9 tz9
attribute [go_sem] ta9 tl9 ti9 tt9 tq9 tn9 tp9 tu9 ts20 tb20 tg20 tz20 ta20 tl20 ti20 tt20 tq20 tn20 tp20 ts22
attribute [go_sem] tb22 tg22 tz22 ta22 tl22 ti22 tt22 tq22 tn22 tp22 tu22 ts23 tb23 tg23 tz23 ta23 tl23 ti23 tt23 tq23
attribute [go_sem] tn23 tp23 tu23 ts24 tb24 tg24 tz24 ta24 tl24 ti24 tt24 tq24 tn24 tp24 tu24 ts26 tb26 tg26 tz26 ta26
attribute [go_sem] tl26 ti26 tt26 tq26 tn26 tp26 tu26 ts40 tb40 tg40 tz40 ta40 tl40 ti40 tt40 tq40 tn40 tp40 tu40 ts42
attribute [go_sem] tb42 tg42 tz42 ta42 tl42 ti42 tt42 tq42 tn42 tf42_0 tf42_1 tf42_2 tf42_3 tf42_4 tf42_5 tf42_6 tf42_7 tp42 ts43 tb43
attribute [go_sem] tg43 tz43 ta43 tl43 ti43 tt43 tq43 tn43 tp43 ts45 tb45 tg45 tz45 ta45 tl45 ti45 tt45 tq45 tn45 tf45_0
attribute [go_sem] tf45_1 tf45_2 tf45_3 tf45_4 tf45_5 tf45_6 tp45 ts46 tb46 tg46 tz46 ta46 tl46 ti46 tt46 tq46 tn46 tp46 tu46 ts53
attribute [go_sem] tb53 tg53 tz53 ta53 tl53 ti53 tt53 tq53 tn53 tf53_0 tf53_1 tp53 tv53 te53 ts62 tb62 tg62 tz62 ta62 tl62
attribute [go_sem] ti62 tt62 tq62 tn62 tp62 tu62 ts66 tb66 tg66 tz66 ta66 tl66 ti66 tt66 tq66 tn66 tp66 ts73 tb73 tg73
attribute [go_sem] tz73 ta73 tl73 ti73 tt73 tq73 tn73 tp73 tu73 ts85 tb85 tg85 tz85 ta85 tl85 ti85 tt85 tq85 tn85 tp85
attribute [go_sem] tu85 ts86 tb86 tg86 tz86 ta86 tl86 ti86 tt86 tq86 tn86 tp86 tu86 ts90 tb90 tg90 tz90 ta90 tl90 ti90
attribute [go_sem] tt90 tq90 tn90 tp90 tu90 tw22 tw23 tw24 tw46 tw62 tc5 tc6 tc7 tc8 tc9 tc10 tc11 tc12 tc13 tc14
attribute [go_sem] tc15 tc16 tc17 tc18 tc19 tc20 tc21 tc22 tc23 tc24 tc25 tc26 tc27 tc29 tc30 tc31 tc32 tc33 tc35 tc36
attribute [go_sem] tc37 tc38 tc39 tc40 tc41 tc42 tc43 tc44 tc45 tc46 tc47 tc48 tc49 tc50 tc51 tc52 tc53 tc54 tc55 tr2
attribute [go_sem] tr3 tr4 tr5 tr6 tr7 tr8 tr9 tr10 tr11 tr12 tr13 tr14 tr15 tr16 tr17 tr18 tr19 tr20 tr21 tr22
attribute [go_sem] tr23 tr24 tr25 tr26 tr27 tr29 tr30 tr31 tr32 tr33 tr34 tr35 tr36 tr37 tr38 tr39 tr40 tr41 tr42 tr43
attribute [go_sem] tr44 tr45 tr46 tr47 tr48 tr49 tr50 tr51 tr52 tr53 tr54 tr55
end Go.Proofs.Ytglmofbcooefkaa.AL
