/- Rows of the types, each asked of the loaded table. -/
import Derived.Test.YtpjocohpogihcaaProg
import Derived.Test.YtpjocohpogihcaaX6
import Derived.KernelRfl
namespace Go.Proofs.Ytpjocohpogihcaa.AL
set_option linter.unusedVariables false
set_option linter.unusedSimpArgs false
set_option maxRecDepth 10000
open Go
noncomputable def r3 : TyRow := { desc := .int .i64, siz := 1, byt := 8, zer := some (.lit (.int .i64 0)), fit := false, lvs := none }
theorem r3_ok : RowOk Try.prog 3 r3 := ⟨by kernel_rfl, by kernel_rfl, by kernel_rfl, (fun z hz => by cases hz; kernel_rfl), (fun h => by cases h), (fun l hl => by cases hl)⟩
noncomputable def r4 : TyRow := { desc := .bool, siz := 1, byt := 1, zer := some (.lit (.bool false)), fit := false, lvs := none }
theorem r4_ok : RowOk Try.prog 4 r4 := ⟨by kernel_rfl, by kernel_rfl, by kernel_rfl, (fun z hz => by cases hz; kernel_rfl), (fun h => by cases h), (fun l hl => by cases hl)⟩
noncomputable def r5 : TyRow := { desc := .int .u8, siz := 1, byt := 1, zer := some (.lit (.int .u8 0)), fit := false, lvs := none }
theorem r5_ok : RowOk Try.prog 5 r5 := ⟨by kernel_rfl, by kernel_rfl, by kernel_rfl, (fun z hz => by cases hz; kernel_rfl), (fun h => by cases h), (fun l hl => by cases hl)⟩
noncomputable def r9 : TyRow := { desc := .string, siz := 1, byt := 16, zer := some (.lit (.string { data := #[] })), fit := false, lvs := none }
theorem r9_ok : RowOk Try.prog 9 r9 := ⟨by kernel_rfl, by kernel_rfl, by kernel_rfl, (fun z hz => by cases hz; kernel_rfl), (fun h => by cases h), (fun l hl => by cases hl)⟩
noncomputable def r23 : TyRow := { desc := .struct #[{ name := "Eps", type := 3, offset := 0, embedded := false, tag := "", pkgPath := "", byteOffset := 0 }, { name := "Width", type := 3, offset := 1, embedded := false, tag := "", pkgPath := "", byteOffset := 8 }, { name := "Budget", type := 3, offset := 2, embedded := false, tag := "", pkgPath := "", byteOffset := 16 }, { name := "K", type := 3, offset := 3, embedded := false, tag := "", pkgPath := "", byteOffset := 24 }, { name := "Rho", type := 3, offset := 4, embedded := false, tag := "", pkgPath := "", byteOffset := 32 }, { name := "Seed", type := 3, offset := 5, embedded := false, tag := "", pkgPath := "", byteOffset := 40 }, { name := "Rounds", type := 3, offset := 6, embedded := false, tag := "", pkgPath := "", byteOffset := 48 }, { name := "Delta", type := 3, offset := 7, embedded := false, tag := "", pkgPath := "", byteOffset := 56 }, { name := "Degree", type := 3, offset := 8, embedded := false, tag := "", pkgPath := "", byteOffset := 64 }], siz := 9, byt := 72, zer := some (.agg [.lit (.int .i64 0), .lit (.int .i64 0), .lit (.int .i64 0), .lit (.int .i64 0), .lit (.int .i64 0), .lit (.int .i64 0), .lit (.int .i64 0), .lit (.int .i64 0), .lit (.int .i64 0)]), fit := false, lvs := some [.int, .int, .int, .int, .int, .int, .int, .int, .int] }
theorem r23_ok : RowOk Try.prog 23 r23 := ⟨by kernel_rfl, by kernel_rfl, by kernel_rfl, (fun z hz => by cases hz; kernel_rfl), (fun h => by cases h), (fun l hl => by cases hl; exact ⟨by kernel_rfl, by kernel_rfl, by kernel_rfl⟩)⟩
noncomputable def r29 : TyRow := { desc := .struct #[{ name := "X", type := 3, offset := 0, embedded := false, tag := "", pkgPath := "", byteOffset := 0 }, { name := "Y", type := 3, offset := 1, embedded := false, tag := "", pkgPath := "", byteOffset := 8 }], siz := 2, byt := 16, zer := some (.agg [.lit (.int .i64 0), .lit (.int .i64 0)]), fit := false, lvs := some [.int, .int] }
theorem r29_ok : RowOk Try.prog 29 r29 := ⟨by kernel_rfl, by kernel_rfl, by kernel_rfl, (fun z hz => by cases hz; kernel_rfl), (fun h => by cases h), (fun l hl => by cases hl; exact ⟨by kernel_rfl, by kernel_rfl, by kernel_rfl⟩)⟩
noncomputable def r31 : TyRow := { desc := .struct #[{ name := "A", type := 3, offset := 0, embedded := false, tag := "", pkgPath := "", byteOffset := 0 }, { name := "B", type := 3, offset := 1, embedded := false, tag := "", pkgPath := "", byteOffset := 8 }], siz := 2, byt := 16, zer := some (.agg [.lit (.int .i64 0), .lit (.int .i64 0)]), fit := false, lvs := some [.int, .int] }
theorem r31_ok : RowOk Try.prog 31 r31 := ⟨by kernel_rfl, by kernel_rfl, by kernel_rfl, (fun z hz => by cases hz; kernel_rfl), (fun h => by cases h), (fun l hl => by cases hl; exact ⟨by kernel_rfl, by kernel_rfl, by kernel_rfl⟩)⟩
noncomputable def r33 : TyRow := { desc := .struct #[{ name := "Dist", type := 3, offset := 0, embedded := false, tag := "", pkgPath := "", byteOffset := 0 }, { name := "Id", type := 3, offset := 1, embedded := false, tag := "", pkgPath := "", byteOffset := 8 }, { name := "New", type := 4, offset := 2, embedded := false, tag := "", pkgPath := "", byteOffset := 16 }], siz := 3, byt := 24, zer := some (.agg [.lit (.int .i64 0), .lit (.int .i64 0), .lit (.bool false)]), fit := false, lvs := some [.int, .int, .bool] }
theorem r33_ok : RowOk Try.prog 33 r33 := ⟨by kernel_rfl, by kernel_rfl, by kernel_rfl, (fun z hz => by cases hz; kernel_rfl), (fun h => by cases h), (fun l hl => by cases hl; exact ⟨by kernel_rfl, by kernel_rfl, by kernel_rfl⟩)⟩
noncomputable def r35 : TyRow := { desc := .struct #[{ name := "From", type := 3, offset := 0, embedded := false, tag := "", pkgPath := "", byteOffset := 0 }, { name := "Near", type := 33, offset := 1, embedded := false, tag := "", pkgPath := "", byteOffset := 8 }], siz := 4, byt := 32, zer := some (.agg [.lit (.int .i64 0), .lit (.int .i64 0), .lit (.int .i64 0), .lit (.bool false)]), fit := false, lvs := some [.int, .int, .int, .bool] }
theorem r35_ok : RowOk Try.prog 35 r35 := ⟨by kernel_rfl, by kernel_rfl, by kernel_rfl, (fun z hz => by cases hz; kernel_rfl), (fun h => by cases h), (fun l hl => by cases hl; exact ⟨by kernel_rfl, by kernel_rfl, by kernel_rfl⟩)⟩
noncomputable def r37 : TyRow := { desc := .struct #[{ name := "Owner", type := 3, offset := 0, embedded := false, tag := "", pkgPath := "", byteOffset := 0 }, { name := "Kind", type := 3, offset := 1, embedded := false, tag := "", pkgPath := "", byteOffset := 8 }, { name := "Lot", type := 3, offset := 2, embedded := false, tag := "", pkgPath := "", byteOffset := 16 }, { name := "Id", type := 3, offset := 3, embedded := false, tag := "", pkgPath := "", byteOffset := 24 }], siz := 4, byt := 32, zer := some (.agg [.lit (.int .i64 0), .lit (.int .i64 0), .lit (.int .i64 0), .lit (.int .i64 0)]), fit := false, lvs := some [.int, .int, .int, .int] }
theorem r37_ok : RowOk Try.prog 37 r37 := ⟨by kernel_rfl, by kernel_rfl, by kernel_rfl, (fun z hz => by cases hz; kernel_rfl), (fun h => by cases h), (fun l hl => by cases hl; exact ⟨by kernel_rfl, by kernel_rfl, by kernel_rfl⟩)⟩
noncomputable def r43 : TyRow := { desc := .struct #[{ name := "Owner", type := 3, offset := 0, embedded := false, tag := "", pkgPath := "", byteOffset := 0 }, { name := "Kind", type := 3, offset := 1, embedded := false, tag := "", pkgPath := "", byteOffset := 8 }, { name := "Lot", type := 3, offset := 2, embedded := false, tag := "", pkgPath := "", byteOffset := 16 }, { name := "Id", type := 3, offset := 3, embedded := false, tag := "", pkgPath := "", byteOffset := 24 }], siz := 4, byt := 32, zer := some (.agg [.lit (.int .i64 0), .lit (.int .i64 0), .lit (.int .i64 0), .lit (.int .i64 0)]), fit := false, lvs := some [.int, .int, .int, .int] }
theorem r43_ok : RowOk Try.prog 43 r43 := ⟨by kernel_rfl, by kernel_rfl, by kernel_rfl, (fun z hz => by cases hz; kernel_rfl), (fun h => by cases h), (fun l hl => by cases hl; exact ⟨by kernel_rfl, by kernel_rfl, by kernel_rfl⟩)⟩
noncomputable def r46 : TyRow := { desc := .slice 9, siz := 1, byt := 24, zer := some (.lit (.slice none 0 0)), fit := true, lvs := none }
theorem r46_ok : RowOk Try.prog 46 r46 := ⟨by kernel_rfl, by kernel_rfl, by kernel_rfl, (fun z hz => by cases hz; kernel_rfl), (fun _ => zeroFits_of (by kernel_rfl)), (fun l hl => by cases hl)⟩
noncomputable def r47 : TyRow := { desc := .slice 4, siz := 1, byt := 24, zer := some (.lit (.slice none 0 0)), fit := true, lvs := none }
theorem r47_ok : RowOk Try.prog 47 r47 := ⟨by kernel_rfl, by kernel_rfl, by kernel_rfl, (fun z hz => by cases hz; kernel_rfl), (fun _ => zeroFits_of (by kernel_rfl)), (fun l hl => by cases hl)⟩
noncomputable def r48 : TyRow := { desc := .slice 61, siz := 1, byt := 24, zer := some (.lit (.slice none 0 0)), fit := true, lvs := none }
theorem r48_ok : RowOk Try.prog 48 r48 := ⟨by kernel_rfl, by kernel_rfl, by kernel_rfl, (fun z hz => by cases hz; kernel_rfl), (fun _ => zeroFits_of (by kernel_rfl)), (fun l hl => by cases hl)⟩
noncomputable def r50 : TyRow := { desc := .pointer 99, siz := 1, byt := 8, zer := some (.lit (.pointer none)), fit := false, lvs := none }
theorem r50_ok : RowOk Try.prog 50 r50 := ⟨by kernel_rfl, by kernel_rfl, by kernel_rfl, (fun z hz => by cases hz; kernel_rfl), (fun h => by cases h), (fun l hl => by cases hl)⟩
noncomputable def r52 : TyRow := { desc := .pointer 59, siz := 1, byt := 8, zer := some (.lit (.pointer none)), fit := false, lvs := none }
theorem r52_ok : RowOk Try.prog 52 r52 := ⟨by kernel_rfl, by kernel_rfl, by kernel_rfl, (fun z hz => by cases hz; kernel_rfl), (fun h => by cases h), (fun l hl => by cases hl)⟩
noncomputable def r59 : TyRow := { desc := .struct #[{ name := "Heads", type := 46, offset := 0, embedded := false, tag := "", pkgPath := "", byteOffset := 0 }, { name := "Over", type := 47, offset := 1, embedded := false, tag := "", pkgPath := "", byteOffset := 24 }], siz := 2, byt := 48, zer := some (.agg [.lit (.slice none 0 0), .lit (.slice none 0 0)]), fit := false, lvs := none }
theorem r59_ok : RowOk Try.prog 59 r59 := ⟨by kernel_rfl, by kernel_rfl, by kernel_rfl, (fun z hz => by cases hz; kernel_rfl), (fun h => by cases h), (fun l hl => by cases hl)⟩
noncomputable def r61 : TyRow := { desc := .struct #[{ name := "Head", type := 9, offset := 0, embedded := false, tag := "", pkgPath := "", byteOffset := 0 }, { name := "Over", type := 4, offset := 1, embedded := false, tag := "", pkgPath := "", byteOffset := 16 }], siz := 2, byt := 24, zer := some (.agg [.lit (.string { data := #[] }), .lit (.bool false)]), fit := false, lvs := some [.str, .bool] }
theorem r61_ok : RowOk Try.prog 61 r61 := ⟨by kernel_rfl, by kernel_rfl, by kernel_rfl, (fun z hz => by cases hz; kernel_rfl), (fun h => by cases h), (fun l hl => by cases hl; exact ⟨by kernel_rfl, by kernel_rfl, by kernel_rfl⟩)⟩
noncomputable def r64 : TyRow := { desc := .slice 66, siz := 1, byt := 24, zer := some (.lit (.slice none 0 0)), fit := true, lvs := none }
theorem r64_ok : RowOk Try.prog 64 r64 := ⟨by kernel_rfl, by kernel_rfl, by kernel_rfl, (fun z hz => by cases hz; kernel_rfl), (fun _ => zeroFits_of (by kernel_rfl)), (fun l hl => by cases hl)⟩
noncomputable def r65 : TyRow := { desc := .slice 3, siz := 1, byt := 24, zer := some (.lit (.slice none 0 0)), fit := true, lvs := none }
theorem r65_ok : RowOk Try.prog 65 r65 := ⟨by kernel_rfl, by kernel_rfl, by kernel_rfl, (fun z hz => by cases hz; kernel_rfl), (fun _ => zeroFits_of (by kernel_rfl)), (fun l hl => by cases hl)⟩
noncomputable def r66 : TyRow := { desc := .slice 5, siz := 1, byt := 24, zer := some (.lit (.slice none 0 0)), fit := true, lvs := none }
theorem r66_ok : RowOk Try.prog 66 r66 := ⟨by kernel_rfl, by kernel_rfl, by kernel_rfl, (fun z hz => by cases hz; kernel_rfl), (fun _ => zeroFits_of (by kernel_rfl)), (fun l hl => by cases hl)⟩
noncomputable def r71 : TyRow := { desc := .array 4 3, siz := 4, byt := 32, zer := some (.agg [.lit (.int .i64 0), .lit (.int .i64 0), .lit (.int .i64 0), .lit (.int .i64 0)]), fit := false, lvs := none }
theorem r71_ok : RowOk Try.prog 71 r71 := ⟨by kernel_rfl, by kernel_rfl, by kernel_rfl, (fun z hz => by cases hz; kernel_rfl), (fun h => by cases h), (fun l hl => by cases hl)⟩
noncomputable def r84 : TyRow := { desc := .slice 88, siz := 1, byt := 24, zer := some (.lit (.slice none 0 0)), fit := true, lvs := none }
theorem r84_ok : RowOk Try.prog 84 r84 := ⟨by kernel_rfl, by kernel_rfl, by kernel_rfl, (fun z hz => by cases hz; kernel_rfl), (fun _ => zeroFits_of (by kernel_rfl)), (fun l hl => by cases hl)⟩
noncomputable def r88 : TyRow := { desc := .slice 33, siz := 1, byt := 24, zer := some (.lit (.slice none 0 0)), fit := true, lvs := none }
theorem r88_ok : RowOk Try.prog 88 r88 := ⟨by kernel_rfl, by kernel_rfl, by kernel_rfl, (fun z hz => by cases hz; kernel_rfl), (fun _ => zeroFits_of (by kernel_rfl)), (fun l hl => by cases hl)⟩
noncomputable def r97 : TyRow := { desc := .slice 101, siz := 1, byt := 24, zer := some (.lit (.slice none 0 0)), fit := true, lvs := none }
theorem r97_ok : RowOk Try.prog 97 r97 := ⟨by kernel_rfl, by kernel_rfl, by kernel_rfl, (fun z hz => by cases hz; kernel_rfl), (fun _ => zeroFits_of (by kernel_rfl)), (fun l hl => by cases hl)⟩
noncomputable def r99 : TyRow := { desc := .struct #[{ name := "made", type := 4, offset := 0, embedded := false, tag := "", pkgPath := "chainman/loser", byteOffset := 0 }, { name := "sources", type := 97, offset := 1, embedded := false, tag := "", pkgPath := "chainman/loser", byteOffset := 8 }, { name := "losers", type := 65, offset := 2, embedded := false, tag := "", pkgPath := "chainman/loser", byteOffset := 32 }, { name := "left", type := 3, offset := 3, embedded := false, tag := "", pkgPath := "chainman/loser", byteOffset := 56 }], siz := 4, byt := 64, zer := some (.agg [.lit (.bool false), .lit (.slice none 0 0), .lit (.slice none 0 0), .lit (.int .i64 0)]), fit := false, lvs := none }
theorem r99_ok : RowOk Try.prog 99 r99 := ⟨by kernel_rfl, by kernel_rfl, by kernel_rfl, (fun z hz => by cases hz; kernel_rfl), (fun h => by cases h), (fun l hl => by cases hl)⟩
noncomputable def r101 : TyRow := { desc := .struct #[{ name := "head", type := 9, offset := 0, embedded := false, tag := "", pkgPath := "chainman/loser", byteOffset := 0 }, { name := "over", type := 4, offset := 1, embedded := false, tag := "", pkgPath := "chainman/loser", byteOffset := 16 }], siz := 2, byt := 24, zer := some (.agg [.lit (.string { data := #[] }), .lit (.bool false)]), fit := false, lvs := some [.str, .bool] }
theorem r101_ok : RowOk Try.prog 101 r101 := ⟨by kernel_rfl, by kernel_rfl, by kernel_rfl, (fun z hz => by cases hz; kernel_rfl), (fun h => by cases h), (fun l hl => by cases hl; exact ⟨by kernel_rfl, by kernel_rfl, by kernel_rfl⟩)⟩
noncomputable def r104 : TyRow := { desc := .pointer 106, siz := 1, byt := 8, zer := some (.lit (.pointer none)), fit := false, lvs := none }
theorem r104_ok : RowOk Try.prog 104 r104 := ⟨by kernel_rfl, by kernel_rfl, by kernel_rfl, (fun z hz => by cases hz; kernel_rfl), (fun h => by cases h), (fun l hl => by cases hl)⟩
noncomputable def r106 : TyRow := { desc := .struct #[{ name := "s", type := 9, offset := 0, embedded := false, tag := "", pkgPath := "chainman/rec", byteOffset := 0 }, { name := "at", type := 3, offset := 1, embedded := false, tag := "", pkgPath := "chainman/rec", byteOffset := 16 }, { name := "bad", type := 4, offset := 2, embedded := false, tag := "", pkgPath := "chainman/rec", byteOffset := 24 }], siz := 3, byt := 32, zer := some (.agg [.lit (.string { data := #[] }), .lit (.int .i64 0), .lit (.bool false)]), fit := false, lvs := some [.str, .int, .bool] }
theorem r106_ok : RowOk Try.prog 106 r106 := ⟨by kernel_rfl, by kernel_rfl, by kernel_rfl, (fun z hz => by cases hz; kernel_rfl), (fun h => by cases h), (fun l hl => by cases hl; exact ⟨by kernel_rfl, by kernel_rfl, by kernel_rfl⟩)⟩
noncomputable def r110 : TyRow := { desc := .func #[128] #[] false, siz := 1, byt := 8, zer := some (.lit (.nilFunc)), fit := false, lvs := none }
theorem r110_ok : RowOk Try.prog 110 r110 := ⟨by kernel_rfl, by kernel_rfl, by kernel_rfl, (fun z hz => by cases hz; kernel_rfl), (fun h => by cases h), (fun l hl => by cases hl)⟩
noncomputable def r111 : TyRow := { desc := .func #[128] #[] false, siz := 1, byt := 8, zer := some (.lit (.nilFunc)), fit := false, lvs := none }
theorem r111_ok : RowOk Try.prog 111 r111 := ⟨by kernel_rfl, by kernel_rfl, by kernel_rfl, (fun z hz => by cases hz; kernel_rfl), (fun h => by cases h), (fun l hl => by cases hl)⟩
noncomputable def r115 : TyRow := { desc := .func #[33, 33] #[3] false, siz := 1, byt := 8, zer := some (.lit (.nilFunc)), fit := false, lvs := none }
theorem r115_ok : RowOk Try.prog 115 r115 := ⟨by kernel_rfl, by kernel_rfl, by kernel_rfl, (fun z hz => by cases hz; kernel_rfl), (fun h => by cases h), (fun l hl => by cases hl)⟩
noncomputable def r124 : TyRow := { desc := .func #[33] #[4] false, siz := 1, byt := 8, zer := some (.lit (.nilFunc)), fit := false, lvs := none }
theorem r124_ok : RowOk Try.prog 124 r124 := ⟨by kernel_rfl, by kernel_rfl, by kernel_rfl, (fun z hz => by cases hz; kernel_rfl), (fun h => by cases h), (fun l hl => by cases hl)⟩
noncomputable def r127 : TyRow := { desc := .func #[88] #[4] false, siz := 1, byt := 8, zer := some (.lit (.nilFunc)), fit := false, lvs := none }
theorem r127_ok : RowOk Try.prog 127 r127 := ⟨by kernel_rfl, by kernel_rfl, by kernel_rfl, (fun z hz => by cases hz; kernel_rfl), (fun h => by cases h), (fun l hl => by cases hl)⟩
noncomputable def r128 : TyRow := { desc := .func #[35] #[4] false, siz := 1, byt := 8, zer := some (.lit (.nilFunc)), fit := false, lvs := none }
theorem r128_ok : RowOk Try.prog 128 r128 := ⟨by kernel_rfl, by kernel_rfl, by kernel_rfl, (fun z hz => by cases hz; kernel_rfl), (fun h => by cases h), (fun l hl => by cases hl)⟩
noncomputable def r131 : TyRow := { desc := .int .u64, siz := 1, byt := 8, zer := some (.lit (.int .u64 0)), fit := false, lvs := none }
theorem r131_ok : RowOk Try.prog 131 r131 := ⟨by kernel_rfl, by kernel_rfl, by kernel_rfl, (fun z hz => by cases hz; kernel_rfl), (fun h => by cases h), (fun l hl => by cases hl)⟩
noncomputable def r134 : TyRow := { desc := .array 8 5, siz := 8, byt := 8, zer := some (.agg [.lit (.int .u8 0), .lit (.int .u8 0), .lit (.int .u8 0), .lit (.int .u8 0), .lit (.int .u8 0), .lit (.int .u8 0), .lit (.int .u8 0), .lit (.int .u8 0)]), fit := false, lvs := none }
theorem r134_ok : RowOk Try.prog 134 r134 := ⟨by kernel_rfl, by kernel_rfl, by kernel_rfl, (fun z hz => by cases hz; kernel_rfl), (fun h => by cases h), (fun l hl => by cases hl)⟩
noncomputable def r135 : TyRow := { desc := .int .u64, siz := 1, byt := 8, zer := some (.lit (.int .u64 0)), fit := false, lvs := none }
theorem r135_ok : RowOk Try.prog 135 r135 := ⟨by kernel_rfl, by kernel_rfl, by kernel_rfl, (fun z hz => by cases hz; kernel_rfl), (fun h => by cases h), (fun l hl => by cases hl)⟩
noncomputable def r139 : TyRow := { desc := .int .i64, siz := 1, byt := 8, zer := some (.lit (.int .i64 0)), fit := false, lvs := none }
theorem r139_ok : RowOk Try.prog 139 r139 := ⟨by kernel_rfl, by kernel_rfl, by kernel_rfl, (fun z hz => by cases hz; kernel_rfl), (fun h => by cases h), (fun l hl => by cases hl)⟩
noncomputable def r146 : TyRow := { desc := .int .u32, siz := 1, byt := 4, zer := some (.lit (.int .u32 0)), fit := false, lvs := none }
theorem r146_ok : RowOk Try.prog 146 r146 := ⟨by kernel_rfl, by kernel_rfl, by kernel_rfl, (fun z hz => by cases hz; kernel_rfl), (fun h => by cases h), (fun l hl => by cases hl)⟩
noncomputable def r150 : TyRow := { desc := .int .u64, siz := 1, byt := 8, zer := some (.lit (.int .u64 0)), fit := false, lvs := none }
theorem r150_ok : RowOk Try.prog 150 r150 := ⟨by kernel_rfl, by kernel_rfl, by kernel_rfl, (fun z hz => by cases hz; kernel_rfl), (fun h => by cases h), (fun l hl => by cases hl)⟩
noncomputable def r154 : TyRow := { desc := .pointer 3, siz := 1, byt := 8, zer := some (.lit (.pointer none)), fit := false, lvs := none }
theorem r154_ok : RowOk Try.prog 154 r154 := ⟨by kernel_rfl, by kernel_rfl, by kernel_rfl, (fun z hz => by cases hz; kernel_rfl), (fun h => by cases h), (fun l hl => by cases hl)⟩
noncomputable def r156 : TyRow := { desc := .pointer 150, siz := 1, byt := 8, zer := some (.lit (.pointer none)), fit := false, lvs := none }
theorem r156_ok : RowOk Try.prog 156 r156 := ⟨by kernel_rfl, by kernel_rfl, by kernel_rfl, (fun z hz => by cases hz; kernel_rfl), (fun h => by cases h), (fun l hl => by cases hl)⟩
theorem tmix : Try.prog.follows .mixedOrders = true := by kernel_rfl
theorem tc3 : callable Try.prog 3 = true := by kernel_rfl
theorem tc4 : callable Try.prog 4 = true := by kernel_rfl
theorem tc5 : callable Try.prog 5 = true := by kernel_rfl
theorem tc6 : callable Try.prog 6 = true := by kernel_rfl
theorem tc7 : callable Try.prog 7 = true := by kernel_rfl
theorem tc8 : callable Try.prog 8 = true := by kernel_rfl
theorem tc9 : callable Try.prog 9 = true := by kernel_rfl
theorem tc10 : callable Try.prog 10 = true := by kernel_rfl
theorem tc11 : callable Try.prog 11 = true := by kernel_rfl
theorem tc12 : callable Try.prog 12 = true := by kernel_rfl
theorem tc13 : callable Try.prog 13 = true := by kernel_rfl
theorem tc14 : callable Try.prog 14 = true := by kernel_rfl
theorem tc15 : callable Try.prog 15 = true := by kernel_rfl
theorem tc16 : callable Try.prog 16 = true := by kernel_rfl
theorem tc17 : callable Try.prog 17 = true := by kernel_rfl
theorem tc18 : callable Try.prog 18 = true := by kernel_rfl
theorem tc19 : callable Try.prog 19 = true := by kernel_rfl
theorem tc20 : callable Try.prog 20 = true := by kernel_rfl
theorem tc21 : callable Try.prog 21 = true := by kernel_rfl
theorem tc22 : callable Try.prog 22 = true := by kernel_rfl
theorem tc23 : callable Try.prog 23 = true := by kernel_rfl
theorem tc24 : callable Try.prog 24 = true := by kernel_rfl
theorem tc25 : callable Try.prog 25 = true := by kernel_rfl
theorem tc26 : callable Try.prog 26 = true := by kernel_rfl
theorem tc27 : callable Try.prog 27 = true := by kernel_rfl
theorem tc28 : callable Try.prog 28 = true := by kernel_rfl
theorem tc29 : callable Try.prog 29 = true := by kernel_rfl
theorem tc30 : callable Try.prog 30 = true := by kernel_rfl
theorem tc31 : callable Try.prog 31 = true := by kernel_rfl
theorem tc32 : callable Try.prog 32 = true := by kernel_rfl
theorem tc33 : callable Try.prog 33 = true := by kernel_rfl
theorem tc34 : callable Try.prog 34 = true := by kernel_rfl
theorem tc35 : callable Try.prog 35 = true := by kernel_rfl
theorem tc36 : callable Try.prog 36 = true := by kernel_rfl
theorem tc37 : callable Try.prog 37 = true := by kernel_rfl
theorem tc38 : callable Try.prog 38 = true := by kernel_rfl
theorem tc39 : callable Try.prog 39 = true := by kernel_rfl
theorem tc40 : callable Try.prog 40 = true := by kernel_rfl
theorem tc41 : callable Try.prog 41 = true := by kernel_rfl
theorem tc42 : callable Try.prog 42 = true := by kernel_rfl
theorem tc43 : callable Try.prog 43 = true := by kernel_rfl
theorem tc44 : callable Try.prog 44 = true := by kernel_rfl
theorem tc45 : callable Try.prog 45 = true := by kernel_rfl
theorem tc46 : callable Try.prog 46 = true := by kernel_rfl
theorem tc47 : callable Try.prog 47 = true := by kernel_rfl
theorem tc48 : callable Try.prog 48 = true := by kernel_rfl
theorem tc49 : callable Try.prog 49 = true := by kernel_rfl
theorem tc50 : callable Try.prog 50 = true := by kernel_rfl
theorem tc51 : callable Try.prog 51 = true := by kernel_rfl
theorem tc52 : callable Try.prog 52 = true := by kernel_rfl
theorem tc53 : callable Try.prog 53 = true := by kernel_rfl
theorem tc54 : callable Try.prog 54 = true := by kernel_rfl
theorem tc55 : callable Try.prog 55 = true := by kernel_rfl
theorem tc56 : callable Try.prog 56 = true := by kernel_rfl
theorem tc57 : callable Try.prog 57 = true := by kernel_rfl
theorem tc58 : callable Try.prog 58 = true := by kernel_rfl
theorem tc59 : callable Try.prog 59 = true := by kernel_rfl
theorem tc60 : callable Try.prog 60 = true := by kernel_rfl
theorem tc61 : callable Try.prog 61 = true := by kernel_rfl
theorem tc62 : callable Try.prog 62 = true := by kernel_rfl
theorem tc63 : callable Try.prog 63 = true := by kernel_rfl
theorem tc64 : callable Try.prog 64 = true := by kernel_rfl
theorem tc65 : callable Try.prog 65 = true := by kernel_rfl
theorem tc66 : callable Try.prog 66 = true := by kernel_rfl
theorem tc67 : callable Try.prog 67 = true := by kernel_rfl
theorem tc68 : callable Try.prog 68 = true := by kernel_rfl
theorem tc69 : callable Try.prog 69 = true := by kernel_rfl
theorem tc70 : callable Try.prog 70 = true := by kernel_rfl
theorem tc71 : callable Try.prog 71 = true := by kernel_rfl
theorem tc72 : callable Try.prog 72 = true := by kernel_rfl
theorem tc73 : callable Try.prog 73 = true := by kernel_rfl
theorem tc74 : callable Try.prog 74 = true := by kernel_rfl
theorem tc75 : callable Try.prog 75 = true := by kernel_rfl
theorem tc76 : callable Try.prog 76 = true := by kernel_rfl
theorem tc77 : callable Try.prog 77 = true := by kernel_rfl
theorem tc78 : callable Try.prog 78 = true := by kernel_rfl
theorem tc79 : callable Try.prog 79 = true := by kernel_rfl
theorem tc80 : callable Try.prog 80 = true := by kernel_rfl
theorem tc81 : callable Try.prog 81 = true := by kernel_rfl
theorem tc82 : callable Try.prog 82 = true := by kernel_rfl
theorem tc83 : callable Try.prog 83 = true := by kernel_rfl
theorem tc84 : callable Try.prog 84 = true := by kernel_rfl
theorem tc85 : callable Try.prog 85 = true := by kernel_rfl
theorem tc86 : callable Try.prog 86 = true := by kernel_rfl
theorem tc87 : callable Try.prog 87 = true := by kernel_rfl
theorem tc88 : callable Try.prog 88 = true := by kernel_rfl
theorem tc89 : callable Try.prog 89 = true := by kernel_rfl
theorem tc90 : callable Try.prog 90 = true := by kernel_rfl
theorem tc91 : callable Try.prog 91 = true := by kernel_rfl
theorem tc92 : callable Try.prog 92 = true := by kernel_rfl
theorem tc93 : callable Try.prog 93 = true := by kernel_rfl
theorem tc94 : callable Try.prog 94 = true := by kernel_rfl
theorem tc95 : callable Try.prog 95 = true := by kernel_rfl
theorem tc96 : callable Try.prog 96 = true := by kernel_rfl
theorem tc97 : callable Try.prog 97 = true := by kernel_rfl
theorem tc98 : callable Try.prog 98 = true := by kernel_rfl
theorem tc99 : callable Try.prog 99 = true := by kernel_rfl
theorem tc100 : callable Try.prog 100 = true := by kernel_rfl
theorem tc101 : callable Try.prog 101 = true := by kernel_rfl
theorem tc102 : callable Try.prog 102 = true := by kernel_rfl
theorem tc103 : callable Try.prog 103 = true := by kernel_rfl
theorem tc104 : callable Try.prog 104 = true := by kernel_rfl
theorem tc105 : callable Try.prog 105 = true := by kernel_rfl
theorem tc106 : callable Try.prog 106 = true := by kernel_rfl
theorem tc107 : callable Try.prog 107 = true := by kernel_rfl
theorem tc108 : callable Try.prog 108 = true := by kernel_rfl
theorem tc109 : callable Try.prog 109 = true := by kernel_rfl
theorem tc110 : callable Try.prog 110 = true := by kernel_rfl
theorem tc111 : callable Try.prog 111 = true := by kernel_rfl
theorem tc112 : callable Try.prog 112 = true := by kernel_rfl
theorem tc113 : callable Try.prog 113 = true := by kernel_rfl
theorem tc114 : callable Try.prog 114 = true := by kernel_rfl
theorem tc115 : callable Try.prog 115 = true := by kernel_rfl
theorem tc116 : callable Try.prog 116 = true := by kernel_rfl
theorem tc117 : callable Try.prog 117 = true := by kernel_rfl
theorem tc118 : callable Try.prog 118 = true := by kernel_rfl
theorem tc119 : callable Try.prog 119 = true := by kernel_rfl
end Go.Proofs.Ytpjocohpogihcaa.AL
