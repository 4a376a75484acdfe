/- Rows of the types, each asked of the loaded table. -/
import Derived.Test.YtglmofbcooefkaaProg
import Derived.Test.YtglmofbcooefkaaX6
import Derived.KernelRfl
namespace Go.Proofs.Ytglmofbcooefkaa.AL
set_option linter.unusedVariables false
set_option linter.unusedSimpArgs false
set_option maxRecDepth 10000
open Go
noncomputable def r3 : TyRow := { desc := .int .i64, siz := 1, byt := 8, zer := some (.lit (.int .i64 0)), fit := false, lvs := none }
theorem r3_ok : RowOk Try.prog 3 r3 := ⟨by kernel_rfl, by kernel_rfl, by kernel_rfl, (fun z hz => by cases hz; kernel_rfl), (fun h => by cases h), (fun l hl => by cases hl)⟩
noncomputable def r4 : TyRow := { desc := .bool, siz := 1, byt := 1, zer := some (.lit (.bool false)), fit := false, lvs := none }
theorem r4_ok : RowOk Try.prog 4 r4 := ⟨by kernel_rfl, by kernel_rfl, by kernel_rfl, (fun z hz => by cases hz; kernel_rfl), (fun h => by cases h), (fun l hl => by cases hl)⟩
noncomputable def r5 : TyRow := { desc := .int .u8, siz := 1, byt := 1, zer := some (.lit (.int .u8 0)), fit := false, lvs := none }
theorem r5_ok : RowOk Try.prog 5 r5 := ⟨by kernel_rfl, by kernel_rfl, by kernel_rfl, (fun z hz => by cases hz; kernel_rfl), (fun h => by cases h), (fun l hl => by cases hl)⟩
noncomputable def r9 : TyRow := { desc := .string, siz := 1, byt := 16, zer := some (.lit (.string { data := #[] })), fit := false, lvs := none }
theorem r9_ok : RowOk Try.prog 9 r9 := ⟨by kernel_rfl, by kernel_rfl, by kernel_rfl, (fun z hz => by cases hz; kernel_rfl), (fun h => by cases h), (fun l hl => by cases hl)⟩
noncomputable def r20 : TyRow := { desc := .interface #[], siz := 1, byt := 16, zer := some (.lit (.nilIface)), fit := false, lvs := none }
theorem r20_ok : RowOk Try.prog 20 r20 := ⟨by kernel_rfl, by kernel_rfl, by kernel_rfl, (fun z hz => by cases hz; kernel_rfl), (fun h => by cases h), (fun l hl => by cases hl)⟩
noncomputable def r22 : TyRow := { desc := .slice 9, siz := 1, byt := 24, zer := some (.lit (.slice none 0 0)), fit := true, lvs := none }
theorem r22_ok : RowOk Try.prog 22 r22 := ⟨by kernel_rfl, by kernel_rfl, by kernel_rfl, (fun z hz => by cases hz; kernel_rfl), (fun _ => zeroFits_of (by kernel_rfl)), (fun l hl => by cases hl)⟩
noncomputable def r23 : TyRow := { desc := .slice 4, siz := 1, byt := 24, zer := some (.lit (.slice none 0 0)), fit := true, lvs := none }
theorem r23_ok : RowOk Try.prog 23 r23 := ⟨by kernel_rfl, by kernel_rfl, by kernel_rfl, (fun z hz => by cases hz; kernel_rfl), (fun _ => zeroFits_of (by kernel_rfl)), (fun l hl => by cases hl)⟩
noncomputable def r24 : TyRow := { desc := .slice 3, siz := 1, byt := 24, zer := some (.lit (.slice none 0 0)), fit := true, lvs := none }
theorem r24_ok : RowOk Try.prog 24 r24 := ⟨by kernel_rfl, by kernel_rfl, by kernel_rfl, (fun z hz => by cases hz; kernel_rfl), (fun _ => zeroFits_of (by kernel_rfl)), (fun l hl => by cases hl)⟩
noncomputable def r26 : TyRow := { desc := .pointer 45, siz := 1, byt := 8, zer := some (.lit (.pointer none)), fit := false, lvs := none }
theorem r26_ok : RowOk Try.prog 26 r26 := ⟨by kernel_rfl, by kernel_rfl, by kernel_rfl, (fun z hz => by cases hz; kernel_rfl), (fun h => by cases h), (fun l hl => by cases hl)⟩
noncomputable def r27 : TyRow := { desc := .int .i64, siz := 1, byt := 8, zer := some (.lit (.int .i64 0)), fit := false, lvs := none }
theorem r27_ok : RowOk Try.prog 27 r27 := ⟨by kernel_rfl, by kernel_rfl, by kernel_rfl, (fun z hz => by cases hz; kernel_rfl), (fun h => by cases h), (fun l hl => by cases hl)⟩
noncomputable def r40 : TyRow := { desc := .int .u32, siz := 1, byt := 4, zer := some (.lit (.int .u32 0)), fit := false, lvs := none }
theorem r40_ok : RowOk Try.prog 40 r40 := ⟨by kernel_rfl, by kernel_rfl, by kernel_rfl, (fun z hz => by cases hz; kernel_rfl), (fun h => by cases h), (fun l hl => by cases hl)⟩
noncomputable def r42 : TyRow := { desc := .struct #[{ name := "Kind", type := 3, offset := 0, embedded := false, tag := "", pkgPath := "", byteOffset := 0 }, { name := "Name", type := 9, offset := 1, embedded := false, tag := "", pkgPath := "", byteOffset := 8 }, { name := "To", type := 9, offset := 2, embedded := false, tag := "", pkgPath := "", byteOffset := 24 }, { name := "S", type := 9, offset := 3, embedded := false, tag := "", pkgPath := "", byteOffset := 40 }, { name := "N", type := 3, offset := 4, embedded := false, tag := "", pkgPath := "", byteOffset := 56 }, { name := "M", type := 3, offset := 5, embedded := false, tag := "", pkgPath := "", byteOffset := 64 }, { name := "Keep", type := 24, offset := 6, embedded := false, tag := "", pkgPath := "", byteOffset := 72 }, { name := "Bits", type := 40, offset := 7, embedded := false, tag := "", pkgPath := "", byteOffset := 96 }], siz := 8, byt := 104, zer := some (.agg [.lit (.int .i64 0), .lit (.string { data := #[] }), .lit (.string { data := #[] }), .lit (.string { data := #[] }), .lit (.int .i64 0), .lit (.int .i64 0), .lit (.slice none 0 0), .lit (.int .u32 0)]), fit := false, lvs := none }
theorem r42_ok : RowOk Try.prog 42 r42 := ⟨by kernel_rfl, by kernel_rfl, by kernel_rfl, (fun z hz => by cases hz; kernel_rfl), (fun h => by cases h), (fun l hl => by cases hl)⟩
noncomputable def r43 : TyRow := { desc := .map 9 53, siz := 1, byt := 8, zer := some (.lit (.map none)), fit := false, lvs := none }
theorem r43_ok : RowOk Try.prog 43 r43 := ⟨by kernel_rfl, by kernel_rfl, by kernel_rfl, (fun z hz => by cases hz; kernel_rfl), (fun h => by cases h), (fun l hl => by cases hl)⟩
noncomputable def r45 : TyRow := { desc := .struct #[{ name := "made", type := 4, offset := 0, embedded := false, tag := "", pkgPath := "chainman/fs", byteOffset := 0 }, { name := "room", type := 3, offset := 1, embedded := false, tag := "", pkgPath := "chainman/fs", byteOffset := 8 }, { name := "used", type := 3, offset := 2, embedded := false, tag := "", pkgPath := "chainman/fs", byteOffset := 16 }, { name := "files", type := 43, offset := 3, embedded := false, tag := "", pkgPath := "chainman/fs", byteOffset := 24 }, { name := "fuse", type := 3, offset := 4, embedded := false, tag := "", pkgPath := "chainman/fs", byteOffset := 32 }, { name := "down", type := 4, offset := 5, embedded := false, tag := "", pkgPath := "chainman/fs", byteOffset := 40 }, { name := "calls", type := 3, offset := 6, embedded := false, tag := "", pkgPath := "chainman/fs", byteOffset := 48 }], siz := 7, byt := 56, zer := some (.agg [.lit (.bool false), .lit (.int .i64 0), .lit (.int .i64 0), .lit (.map none), .lit (.int .i64 0), .lit (.bool false), .lit (.int .i64 0)]), fit := false, lvs := none }
theorem r45_ok : RowOk Try.prog 45 r45 := ⟨by kernel_rfl, by kernel_rfl, by kernel_rfl, (fun z hz => by cases hz; kernel_rfl), (fun h => by cases h), (fun l hl => by cases hl)⟩
noncomputable def r46 : TyRow := { desc := .slice 26, siz := 1, byt := 24, zer := some (.lit (.slice none 0 0)), fit := true, lvs := none }
theorem r46_ok : RowOk Try.prog 46 r46 := ⟨by kernel_rfl, by kernel_rfl, by kernel_rfl, (fun z hz => by cases hz; kernel_rfl), (fun _ => zeroFits_of (by kernel_rfl)), (fun l hl => by cases hl)⟩
noncomputable def r53 : TyRow := { desc := .struct #[{ name := "s", type := 9, offset := 0, embedded := false, tag := "", pkgPath := "chainman/fs", byteOffset := 0 }, { name := "kept", type := 3, offset := 1, embedded := false, tag := "", pkgPath := "chainman/fs", byteOffset := 16 }], siz := 2, byt := 24, zer := some (.agg [.lit (.string { data := #[] }), .lit (.int .i64 0)]), fit := false, lvs := some [.str, .int] }
theorem r53_ok : RowOk Try.prog 53 r53 := ⟨by kernel_rfl, by kernel_rfl, by kernel_rfl, (fun z hz => by cases hz; kernel_rfl), (fun h => by cases h), (fun l hl => by cases hl; exact ⟨by kernel_rfl, by kernel_rfl, by kernel_rfl⟩)⟩
noncomputable def r59 : TyRow := { desc := .func #[9] #[4] false, siz := 1, byt := 8, zer := some (.lit (.nilFunc)), fit := false, lvs := none }
theorem r59_ok : RowOk Try.prog 59 r59 := ⟨by kernel_rfl, by kernel_rfl, by kernel_rfl, (fun z hz => by cases hz; kernel_rfl), (fun h => by cases h), (fun l hl => by cases hl)⟩
noncomputable def r62 : TyRow := { desc := .slice 5, siz := 1, byt := 24, zer := some (.lit (.slice none 0 0)), fit := true, lvs := none }
theorem r62_ok : RowOk Try.prog 62 r62 := ⟨by kernel_rfl, by kernel_rfl, by kernel_rfl, (fun z hz => by cases hz; kernel_rfl), (fun _ => zeroFits_of (by kernel_rfl)), (fun l hl => by cases hl)⟩
noncomputable def r65 : TyRow := { desc := .func #[59] #[] false, siz := 1, byt := 8, zer := some (.lit (.nilFunc)), fit := false, lvs := none }
theorem r65_ok : RowOk Try.prog 65 r65 := ⟨by kernel_rfl, by kernel_rfl, by kernel_rfl, (fun z hz => by cases hz; kernel_rfl), (fun h => by cases h), (fun l hl => by cases hl)⟩
noncomputable def r66 : TyRow := { desc := .func #[59] #[] false, siz := 1, byt := 8, zer := some (.lit (.nilFunc)), fit := false, lvs := none }
theorem r66_ok : RowOk Try.prog 66 r66 := ⟨by kernel_rfl, by kernel_rfl, by kernel_rfl, (fun z hz => by cases hz; kernel_rfl), (fun h => by cases h), (fun l hl => by cases hl)⟩
noncomputable def r73 : TyRow := { desc := .int .u64, siz := 1, byt := 8, zer := some (.lit (.int .u64 0)), fit := false, lvs := none }
theorem r73_ok : RowOk Try.prog 73 r73 := ⟨by kernel_rfl, by kernel_rfl, by kernel_rfl, (fun z hz => by cases hz; kernel_rfl), (fun h => by cases h), (fun l hl => by cases hl)⟩
noncomputable def r75 : TyRow := { desc := .int .i64, siz := 1, byt := 8, zer := some (.lit (.int .i64 0)), fit := false, lvs := none }
theorem r75_ok : RowOk Try.prog 75 r75 := ⟨by kernel_rfl, by kernel_rfl, by kernel_rfl, (fun z hz => by cases hz; kernel_rfl), (fun h => by cases h), (fun l hl => by cases hl)⟩
noncomputable def r85 : TyRow := { desc := .int .u64, siz := 1, byt := 8, zer := some (.lit (.int .u64 0)), fit := false, lvs := none }
theorem r85_ok : RowOk Try.prog 85 r85 := ⟨by kernel_rfl, by kernel_rfl, by kernel_rfl, (fun z hz => by cases hz; kernel_rfl), (fun h => by cases h), (fun l hl => by cases hl)⟩
noncomputable def r86 : TyRow := { desc := .int .u64, siz := 1, byt := 8, zer := some (.lit (.int .u64 0)), fit := false, lvs := none }
theorem r86_ok : RowOk Try.prog 86 r86 := ⟨by kernel_rfl, by kernel_rfl, by kernel_rfl, (fun z hz => by cases hz; kernel_rfl), (fun h => by cases h), (fun l hl => by cases hl)⟩
noncomputable def r90 : TyRow := { desc := .pointer 3, siz := 1, byt := 8, zer := some (.lit (.pointer none)), fit := false, lvs := none }
theorem r90_ok : RowOk Try.prog 90 r90 := ⟨by kernel_rfl, by kernel_rfl, by kernel_rfl, (fun z hz => by cases hz; kernel_rfl), (fun h => by cases h), (fun l hl => by cases hl)⟩
noncomputable def r92 : TyRow := { desc := .pointer 86, siz := 1, byt := 8, zer := some (.lit (.pointer none)), fit := false, lvs := none }
theorem r92_ok : RowOk Try.prog 92 r92 := ⟨by kernel_rfl, by kernel_rfl, by kernel_rfl, (fun z hz => by cases hz; kernel_rfl), (fun h => by cases h), (fun l hl => by cases hl)⟩
theorem tmix : Try.prog.follows .mixedOrders = true := by kernel_rfl
theorem tc3 : callable Try.prog 3 = true := by kernel_rfl
theorem tc4 : callable Try.prog 4 = true := by kernel_rfl
theorem tc5 : callable Try.prog 5 = true := by kernel_rfl
theorem tc6 : callable Try.prog 6 = true := by kernel_rfl
theorem tc7 : callable Try.prog 7 = true := by kernel_rfl
theorem tc8 : callable Try.prog 8 = true := by kernel_rfl
theorem tc9 : callable Try.prog 9 = true := by kernel_rfl
theorem tc10 : callable Try.prog 10 = true := by kernel_rfl
theorem tc11 : callable Try.prog 11 = true := by kernel_rfl
theorem tc12 : callable Try.prog 12 = true := by kernel_rfl
theorem tc13 : callable Try.prog 13 = true := by kernel_rfl
theorem tc14 : callable Try.prog 14 = true := by kernel_rfl
theorem tc15 : callable Try.prog 15 = true := by kernel_rfl
theorem tc16 : callable Try.prog 16 = true := by kernel_rfl
theorem tc17 : callable Try.prog 17 = true := by kernel_rfl
theorem tc18 : callable Try.prog 18 = true := by kernel_rfl
theorem tc19 : callable Try.prog 19 = true := by kernel_rfl
theorem tc20 : callable Try.prog 20 = true := by kernel_rfl
theorem tc21 : callable Try.prog 21 = true := by kernel_rfl
theorem tc22 : callable Try.prog 22 = true := by kernel_rfl
theorem tc23 : callable Try.prog 23 = true := by kernel_rfl
theorem tc24 : callable Try.prog 24 = true := by kernel_rfl
theorem tc25 : callable Try.prog 25 = true := by kernel_rfl
theorem tc26 : callable Try.prog 26 = true := by kernel_rfl
theorem tc27 : callable Try.prog 27 = true := by kernel_rfl
theorem tc29 : callable Try.prog 29 = true := by kernel_rfl
theorem tc30 : callable Try.prog 30 = true := by kernel_rfl
theorem tc31 : callable Try.prog 31 = true := by kernel_rfl
theorem tc32 : callable Try.prog 32 = true := by kernel_rfl
theorem tc33 : callable Try.prog 33 = true := by kernel_rfl
theorem tc34 : callable Try.prog 34 = true := by kernel_rfl
theorem tc35 : callable Try.prog 35 = true := by kernel_rfl
theorem tc36 : callable Try.prog 36 = true := by kernel_rfl
theorem tc37 : callable Try.prog 37 = true := by kernel_rfl
theorem tc38 : callable Try.prog 38 = true := by kernel_rfl
theorem tc39 : callable Try.prog 39 = true := by kernel_rfl
theorem tc40 : callable Try.prog 40 = true := by kernel_rfl
theorem tc41 : callable Try.prog 41 = true := by kernel_rfl
theorem tc42 : callable Try.prog 42 = true := by kernel_rfl
theorem tc43 : callable Try.prog 43 = true := by kernel_rfl
theorem tc44 : callable Try.prog 44 = true := by kernel_rfl
theorem tc45 : callable Try.prog 45 = true := by kernel_rfl
theorem tc46 : callable Try.prog 46 = true := by kernel_rfl
theorem tc47 : callable Try.prog 47 = true := by kernel_rfl
theorem tc48 : callable Try.prog 48 = true := by kernel_rfl
theorem tc49 : callable Try.prog 49 = true := by kernel_rfl
theorem tc50 : callable Try.prog 50 = true := by kernel_rfl
theorem tc51 : callable Try.prog 51 = true := by kernel_rfl
theorem tc52 : callable Try.prog 52 = true := by kernel_rfl
theorem tc53 : callable Try.prog 53 = true := by kernel_rfl
theorem tc54 : callable Try.prog 54 = true := by kernel_rfl
theorem tc55 : callable Try.prog 55 = true := by kernel_rfl
end Go.Proofs.Ytglmofbcooefkaa.AL
