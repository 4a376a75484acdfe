import Derived.Test.YtjjiemmkmndmnaaGreatDoorG4
import Derived.Test.YtjjiemmkmndmnaaGreatDoorG2
/- The chapter's example of world: run. -/
namespace Go.Proofs.YtjjiemmkmndmnaaGreatDoor.AL
set_option linter.unusedVariables false
set_option linter.unusedSimpArgs false
set_option maxRecDepth 100000
open Go
open Go.Proofs.Tryz
theorem seen_awake41 : ∀ j ∈ ([4, 5, 8, 9, 10, 11, 12, 13, 14, 15, 16, 17, 18, 19, 20, 21, 22, 23, 24, 25, 26, 27, 28, 29, 31, 34, 35, 36, 37, 38, 39, 41, 43, 47, 48, 52, 69, 89] : List Nat), callable Tryz.prog j = true := by simp only [List.mem_cons, List.not_mem_nil, or_false, forall_eq_or_imp, forall_eq]; exact ⟨tc4, tc5, tc8, tc9, tc10, tc11, tc12, tc13, tc14, tc15, tc16, tc17, tc18, tc19, tc20, tc21, tc22, tc23, tc24, tc25, tc26, tc27, tc28, tc29, tc31, tc34, tc35, tc36, tc37, tc38, tc39, tc41, tc43, tc47, tc48, tc52, tc69, tc89⟩
noncomputable def yawake41_4 : YRow := { E := { T := tabOf [(3, r3), (4, r4), (9, r9), (26, r26), (27, r27), (34, r34)], C := [], D := [], Ms := [], Ml := [], Mo := [], n := 33 }, cs := [9, 10, 11, 12], fn := f4 }
theorem yawake41_4_ok : YRow.Ok Tryz.prog 4 yawake41_4 := ⟨rfl, by kernel_rfl, by kernel_rfl, tabOf_ok (⟨r3_ok, ⟨r4_ok, ⟨r9_ok, ⟨r26_ok, ⟨r27_ok, ⟨r34_ok, trivial⟩⟩⟩⟩⟩⟩), (trivial), tc4, (fun j hj => by simp only [yawake41_4, List.mem_cons, List.not_mem_nil, or_false] at hj; rcases hj with rfl | rfl | rfl | rfl <;> first | exact tc9 | exact tc10 | exact tc11 | exact tc12)⟩
noncomputable def yawake41_5 : YRow := { E := { T := tabOf [(3, r3), (4, r4), (9, r9), (22, r22), (23, r23), (26, r26), (27, r27), (28, r28), (30, r30), (34, r34), (36, r36), (38, r38), (50, r50)], C := [], D := [(5, ⟨[], [0, 1, 2, 3, 4, 5, 6, 7, 8, 9, 10, 11, 12], [], [], [], [], []⟩), (6, ⟨[], [0, 1, 2, 3, 4, 5, 6, 7, 8], [9, 10], [], [], [], []⟩), (7, ⟨[], [0, 1, 2, 3, 4, 5, 6, 7, 8, 9, 10, 11, 12, 13], [14], [], [], [], []⟩)], Ms := [(6, [0, 3, 4, 5, 6, 28]), (7, [0, 4, 5, 6])], Ml := [], Mo := [], n := 53 }, cs := [4, 5, 8, 9, 10, 11, 12, 13, 14, 15, 16, 17, 18, 19, 20, 21, 22, 23, 24, 25, 26, 27, 28, 29, 31, 34, 35, 36, 37, 38, 39, 41, 43, 47, 48, 52, 69, 89], fn := f5 }
theorem yawake41_5_ok : YRow.Ok Tryz.prog 5 yawake41_5 := ⟨rfl, by kernel_rfl, by kernel_rfl, tabOf_ok (⟨r3_ok, ⟨r4_ok, ⟨r9_ok, ⟨r22_ok, ⟨r23_ok, ⟨r26_ok, ⟨r27_ok, ⟨r28_ok, ⟨r30_ok, ⟨r34_ok, ⟨r36_ok, ⟨r38_ok, ⟨r50_ok, trivial⟩⟩⟩⟩⟩⟩⟩⟩⟩⟩⟩⟩⟩), (trivial), tc5, (fun j hj => seen_awake41 j hj)⟩
noncomputable def yawake41_8 : YRow := { E := { T := tabOf [(3, r3), (4, r4), (9, r9), (22, r22), (23, r23), (26, r26), (34, r34), (36, r36), (38, r38)], C := [], D := [], Ms := [], Ml := [], Mo := [], n := 51 }, cs := [4, 5, 16], fn := f8 }
theorem yawake41_8_ok : YRow.Ok Tryz.prog 8 yawake41_8 := ⟨rfl, by kernel_rfl, by kernel_rfl, tabOf_ok (⟨r3_ok, ⟨r4_ok, ⟨r9_ok, ⟨r22_ok, ⟨r23_ok, ⟨r26_ok, ⟨r34_ok, ⟨r36_ok, ⟨r38_ok, trivial⟩⟩⟩⟩⟩⟩⟩⟩⟩), (trivial), tc8, (fun j hj => by simp only [yawake41_8, List.mem_cons, List.not_mem_nil, or_false] at hj; rcases hj with rfl | rfl | rfl <;> first | exact tc4 | exact tc5 | exact tc16)⟩
noncomputable def yawake41_9 : YRow := { E := { T := tabOf [(4, r4), (26, r26), (27, r27), (28, r28), (30, r30), (50, r50)], C := [], D := [], Ms := [], Ml := [], Mo := [], n := 12 }, cs := [], fn := f9 }
theorem yawake41_9_ok : YRow.Ok Tryz.prog 9 yawake41_9 := ⟨rfl, by kernel_rfl, by kernel_rfl, tabOf_ok (⟨r4_ok, ⟨r26_ok, ⟨r27_ok, ⟨r28_ok, ⟨r30_ok, ⟨r50_ok, trivial⟩⟩⟩⟩⟩⟩), (trivial), tc9, (fun j hj => by cases hj)⟩
noncomputable def yawake41_10 : YRow := { E := { T := tabOf [(3, r3), (23, r23), (26, r26), (27, r27), (28, r28), (30, r30), (50, r50)], C := [], D := [], Ms := [(8, [3, 4])], Ml := [(4, [3, 4, 13, 14])], Mo := [], n := 25 }, cs := [17, 18], fn := f10 }
theorem yawake41_10_ok : YRow.Ok Tryz.prog 10 yawake41_10 := ⟨rfl, by kernel_rfl, by kernel_rfl, tabOf_ok (⟨r3_ok, ⟨r23_ok, ⟨r26_ok, ⟨r27_ok, ⟨r28_ok, ⟨r30_ok, ⟨r50_ok, trivial⟩⟩⟩⟩⟩⟩⟩), (trivial), tc10, (fun j hj => by simp only [yawake41_10, List.mem_cons, List.not_mem_nil, or_false] at hj; rcases hj with rfl | rfl <;> first | exact tc17 | exact tc18)⟩
noncomputable def yawake41_11 : YRow := { E := { T := tabOf [(3, r3), (4, r4), (9, r9), (27, r27), (34, r34), (57, r57)], C := [], D := [], Ms := [], Ml := [], Mo := [], n := 18 }, cs := [19], fn := f11 }
theorem yawake41_11_ok : YRow.Ok Tryz.prog 11 yawake41_11 := ⟨rfl, by kernel_rfl, by kernel_rfl, tabOf_ok (⟨r3_ok, ⟨r4_ok, ⟨r9_ok, ⟨r27_ok, ⟨r34_ok, ⟨r57_ok, trivial⟩⟩⟩⟩⟩⟩), (trivial), tc11, (fun j hj => by obtain rfl := List.mem_singleton.1 hj; exact tc19)⟩
noncomputable def yawake41_12 : YRow := { E := { T := tabOf [(3, r3), (4, r4), (9, r9), (27, r27), (34, r34), (57, r57)], C := [], D := [], Ms := [], Ml := [], Mo := [], n := 48 }, cs := [19], fn := f12 }
theorem yawake41_12_ok : YRow.Ok Tryz.prog 12 yawake41_12 := ⟨rfl, by kernel_rfl, by kernel_rfl, tabOf_ok (⟨r3_ok, ⟨r4_ok, ⟨r9_ok, ⟨r27_ok, ⟨r34_ok, ⟨r57_ok, trivial⟩⟩⟩⟩⟩⟩), (trivial), tc12, (fun j hj => by obtain rfl := List.mem_singleton.1 hj; exact tc19)⟩
noncomputable def yawake41_13 : YRow := { E := { T := tabOf [(3, r3), (4, r4), (9, r9), (27, r27), (57, r57), (60, r60), (62, r62)], C := [], D := [], Ms := [], Ml := [], Mo := [], n := 10 }, cs := [20], fn := f13 }
theorem yawake41_13_ok : YRow.Ok Tryz.prog 13 yawake41_13 := ⟨rfl, by kernel_rfl, by kernel_rfl, tabOf_ok (⟨r3_ok, ⟨r4_ok, ⟨r9_ok, ⟨r27_ok, ⟨r57_ok, ⟨r60_ok, ⟨r62_ok, trivial⟩⟩⟩⟩⟩⟩⟩), (trivial), tc13, (fun j hj => by obtain rfl := List.mem_singleton.1 hj; exact tc20)⟩
noncomputable def yawake41_14 : YRow := { E := { T := tabOf [(3, r3), (4, r4), (9, r9), (27, r27), (57, r57), (60, r60), (62, r62)], C := [], D := [], Ms := [], Ml := [], Mo := [], n := 10 }, cs := [20], fn := f14 }
theorem yawake41_14_ok : YRow.Ok Tryz.prog 14 yawake41_14 := ⟨rfl, by kernel_rfl, by kernel_rfl, tabOf_ok (⟨r3_ok, ⟨r4_ok, ⟨r9_ok, ⟨r27_ok, ⟨r57_ok, ⟨r60_ok, ⟨r62_ok, trivial⟩⟩⟩⟩⟩⟩⟩), (trivial), tc14, (fun j hj => by obtain rfl := List.mem_singleton.1 hj; exact tc20)⟩
noncomputable def yawake41_15 : YRow := { E := { T := tabOf [(4, r4), (9, r9), (27, r27), (34, r34), (40, r40)], C := [], D := [], Ms := [], Ml := [], Mo := [], n := 12 }, cs := [21, 22], fn := f15 }
theorem yawake41_15_ok : YRow.Ok Tryz.prog 15 yawake41_15 := ⟨rfl, by kernel_rfl, by kernel_rfl, tabOf_ok (⟨r4_ok, ⟨r9_ok, ⟨r27_ok, ⟨r34_ok, ⟨r40_ok, trivial⟩⟩⟩⟩⟩), (trivial), tc15, (fun j hj => by simp only [yawake41_15, List.mem_cons, List.not_mem_nil, or_false] at hj; rcases hj with rfl | rfl <;> first | exact tc21 | exact tc22)⟩
noncomputable def yawake41_16 : YRow := { E := { T := tabOf [(3, r3), (4, r4), (26, r26), (27, r27), (28, r28), (30, r30), (34, r34), (50, r50)], C := [], D := [], Ms := [], Ml := [], Mo := [], n := 35 }, cs := [23, 24, 25, 26, 27, 28, 29], fn := f16 }
theorem yawake41_16_ok : YRow.Ok Tryz.prog 16 yawake41_16 := ⟨rfl, by kernel_rfl, by kernel_rfl, tabOf_ok (⟨r3_ok, ⟨r4_ok, ⟨r26_ok, ⟨r27_ok, ⟨r28_ok, ⟨r30_ok, ⟨r34_ok, ⟨r50_ok, trivial⟩⟩⟩⟩⟩⟩⟩⟩), (trivial), tc16, (fun j hj => by simp only [yawake41_16, List.mem_cons, List.not_mem_nil, or_false] at hj; rcases hj with rfl | rfl | rfl | rfl | rfl | rfl | rfl <;> first | exact tc23 | exact tc24 | exact tc25 | exact tc26 | exact tc27 | exact tc28 | exact tc29)⟩
noncomputable def yawake41_17 : YRow := { E := { T := tabOf [(3, r3), (4, r4), (9, r9), (27, r27), (57, r57), (60, r60), (62, r62)], C := [(30, w_maps_Clone_map_string_fs_file_string_fs_file)], D := [], Ms := [], Ml := [], Mo := [], n := 16 }, cs := [20], fn := f17 }
theorem yawake41_17_ok : YRow.Ok Tryz.prog 17 yawake41_17 := ⟨rfl, by kernel_rfl, by kernel_rfl, tabOf_ok (⟨r3_ok, ⟨r4_ok, ⟨r9_ok, ⟨r27_ok, ⟨r57_ok, ⟨r60_ok, ⟨r62_ok, trivial⟩⟩⟩⟩⟩⟩⟩), (⟨w_maps_Clone_map_string_fs_file_string_fs_file_ok, trivial⟩), tc17, (fun j hj => by obtain rfl := List.mem_singleton.1 hj; exact tc20)⟩
noncomputable def yawake41_18 : YRow := { E := { T := tabOf [(3, r3), (4, r4), (9, r9), (23, r23), (27, r27), (40, r40), (57, r57), (60, r60), (62, r62)], C := [], D := [(6, ⟨[], [0, 1, 2, 3, 4, 5, 6, 7, 8, 9, 10, 11, 12], [], [], [], [], []⟩), (8, ⟨[], [0, 1, 2, 3, 4, 5, 6, 7, 8, 9, 10, 11, 12], [13], [], [], [], []⟩), (10, ⟨[], [0, 1, 2, 3, 4, 5], [6], [], [], [], []⟩)], Ms := [(7, [0, 1, 5, 6, 7, 12, 13, 14]), (12, [0])], Ml := [(2, [0, 1, 12, 13, 14])], Mo := [], n := 78 }, cs := [20, 22], fn := f18 }
theorem yawake41_18_ok : YRow.Ok Tryz.prog 18 yawake41_18 := ⟨rfl, by kernel_rfl, by kernel_rfl, tabOf_ok (⟨r3_ok, ⟨r4_ok, ⟨r9_ok, ⟨r23_ok, ⟨r27_ok, ⟨r40_ok, ⟨r57_ok, ⟨r60_ok, ⟨r62_ok, trivial⟩⟩⟩⟩⟩⟩⟩⟩⟩), (trivial), tc18, (fun j hj => by simp only [yawake41_18, List.mem_cons, List.not_mem_nil, or_false] at hj; rcases hj with rfl | rfl <;> first | exact tc20 | exact tc22)⟩
noncomputable def yawake41_19 : YRow := { E := { T := tabOf [(3, r3), (4, r4), (9, r9), (27, r27), (34, r34), (57, r57), (60, r60), (62, r62)], C := [], D := [], Ms := [], Ml := [], Mo := [], n := 35 }, cs := [21, 31], fn := f19 }
theorem yawake41_19_ok : YRow.Ok Tryz.prog 19 yawake41_19 := ⟨rfl, by kernel_rfl, by kernel_rfl, tabOf_ok (⟨r3_ok, ⟨r4_ok, ⟨r9_ok, ⟨r27_ok, ⟨r34_ok, ⟨r57_ok, ⟨r60_ok, ⟨r62_ok, trivial⟩⟩⟩⟩⟩⟩⟩⟩), (trivial), tc19, (fun j hj => by simp only [yawake41_19, List.mem_cons, List.not_mem_nil, or_false] at hj; rcases hj with rfl | rfl <;> first | exact tc21 | exact tc31)⟩
noncomputable def yawake41_20 : YRow := { E := { T := tabOf [(3, r3), (4, r4), (9, r9), (27, r27), (57, r57), (60, r60), (62, r62)], C := [], D := [], Ms := [], Ml := [], Mo := [], n := 11 }, cs := [], fn := f20 }
theorem yawake41_20_ok : YRow.Ok Tryz.prog 20 yawake41_20 := ⟨rfl, by kernel_rfl, by kernel_rfl, tabOf_ok (⟨r3_ok, ⟨r4_ok, ⟨r9_ok, ⟨r27_ok, ⟨r57_ok, ⟨r60_ok, ⟨r62_ok, trivial⟩⟩⟩⟩⟩⟩⟩), (trivial), tc20, (fun j hj => by cases hj)⟩
noncomputable def yawake41_21 : YRow := { E := { T := tabOf [(3, r3), (4, r4), (9, r9), (27, r27), (34, r34), (57, r57), (60, r60), (62, r62)], C := [], D := [], Ms := [(7, [0])], Ml := [], Mo := [], n := 49 }, cs := [20], fn := f21 }
theorem yawake41_21_ok : YRow.Ok Tryz.prog 21 yawake41_21 := ⟨rfl, by kernel_rfl, by kernel_rfl, tabOf_ok (⟨r3_ok, ⟨r4_ok, ⟨r9_ok, ⟨r27_ok, ⟨r34_ok, ⟨r57_ok, ⟨r60_ok, ⟨r62_ok, trivial⟩⟩⟩⟩⟩⟩⟩⟩), (trivial), tc21, (fun j hj => by obtain rfl := List.mem_singleton.1 hj; exact tc20)⟩
noncomputable def yawake41_22 : YRow := { E := { T := tabOf [(3, r3), (4, r4), (9, r9), (27, r27), (40, r40), (57, r57), (60, r60), (62, r62), (71, r71)], C := [(32, w_slices_Sorted_string), (33, w_maps_Keys_map_string_fs_file_string_fs_file)], D := [], Ms := [], Ml := [], Mo := [], n := 9 }, cs := [], fn := f22 }
theorem yawake41_22_ok : YRow.Ok Tryz.prog 22 yawake41_22 := ⟨rfl, by kernel_rfl, by kernel_rfl, tabOf_ok (⟨r3_ok, ⟨r4_ok, ⟨r9_ok, ⟨r27_ok, ⟨r40_ok, ⟨r57_ok, ⟨r60_ok, ⟨r62_ok, ⟨r71_ok, trivial⟩⟩⟩⟩⟩⟩⟩⟩⟩), (⟨w_slices_Sorted_string_ok, ⟨w_maps_Keys_map_string_fs_file_string_fs_file_ok, trivial⟩⟩), tc22, (fun j hj => by cases hj)⟩
noncomputable def yawake41_23 : YRow := { E := { T := tabOf [(3, r3), (4, r4), (9, r9), (27, r27), (34, r34), (57, r57), (60, r60), (62, r62)], C := [], D := [], Ms := [], Ml := [], Mo := [], n := 14 }, cs := [], fn := f23 }
theorem yawake41_23_ok : YRow.Ok Tryz.prog 23 yawake41_23 := ⟨rfl, by kernel_rfl, by kernel_rfl, tabOf_ok (⟨r3_ok, ⟨r4_ok, ⟨r9_ok, ⟨r27_ok, ⟨r34_ok, ⟨r57_ok, ⟨r60_ok, ⟨r62_ok, trivial⟩⟩⟩⟩⟩⟩⟩⟩), (trivial), tc23, (fun j hj => by cases hj)⟩
noncomputable def yawake41_24 : YRow := { E := { T := tabOf [(3, r3), (4, r4), (9, r9), (22, r22), (23, r23), (26, r26), (27, r27), (28, r28), (30, r30), (34, r34), (38, r38), (50, r50)], C := [], D := [(6, ⟨[], [0, 1, 2, 3, 4, 5], [6, 7, 8, 9, 10, 11], [], [], [], []⟩), (11, ⟨[], [0, 1, 2, 3, 4, 5], [6, 7], [], [], [], []⟩), (14, ⟨[], [0, 1, 2, 3, 4, 5], [6, 7], [], [], [], []⟩), (17, ⟨[], [0, 1, 2, 3, 4, 5, 6, 7], [8, 9], [], [], [], []⟩), (20, ⟨[], [0, 1, 2, 3, 4, 5], [6, 7], [], [], [], []⟩)], Ms := [(14, [0, 3])], Ml := [], Mo := [], n := 80 }, cs := [11, 29, 34, 35, 36, 37], fn := f24 }
theorem yawake41_24_ok : YRow.Ok Tryz.prog 24 yawake41_24 := ⟨rfl, by kernel_rfl, by kernel_rfl, tabOf_ok (⟨r3_ok, ⟨r4_ok, ⟨r9_ok, ⟨r22_ok, ⟨r23_ok, ⟨r26_ok, ⟨r27_ok, ⟨r28_ok, ⟨r30_ok, ⟨r34_ok, ⟨r38_ok, ⟨r50_ok, trivial⟩⟩⟩⟩⟩⟩⟩⟩⟩⟩⟩⟩), (trivial), tc24, (fun j hj => by simp only [yawake41_24, List.mem_cons, List.not_mem_nil, or_false] at hj; rcases hj with rfl | rfl | rfl | rfl | rfl | rfl <;> first | exact tc11 | exact tc29 | exact tc34 | exact tc35 | exact tc36 | exact tc37)⟩
noncomputable def yawake41_25 : YRow := { E := { T := tabOf [(3, r3), (9, r9), (22, r22), (23, r23), (26, r26), (27, r27), (28, r28), (30, r30), (34, r34), (38, r38), (50, r50)], C := [], D := [], Ms := [], Ml := [], Mo := [], n := 10 }, cs := [38], fn := f25 }
theorem yawake41_25_ok : YRow.Ok Tryz.prog 25 yawake41_25 := ⟨rfl, by kernel_rfl, by kernel_rfl, tabOf_ok (⟨r3_ok, ⟨r9_ok, ⟨r22_ok, ⟨r23_ok, ⟨r26_ok, ⟨r27_ok, ⟨r28_ok, ⟨r30_ok, ⟨r34_ok, ⟨r38_ok, ⟨r50_ok, trivial⟩⟩⟩⟩⟩⟩⟩⟩⟩⟩⟩), (trivial), tc25, (fun j hj => by obtain rfl := List.mem_singleton.1 hj; exact tc38)⟩
noncomputable def yawake41_26 : YRow := { E := { T := tabOf [(3, r3), (9, r9), (22, r22), (23, r23), (26, r26), (27, r27), (28, r28), (30, r30), (34, r34), (38, r38), (50, r50)], C := [], D := [(1, ⟨[], [0, 1, 2, 3, 4, 5], [6], [], [], [], []⟩)], Ms := [], Ml := [], Mo := [], n := 12 }, cs := [39], fn := f26 }
theorem yawake41_26_ok : YRow.Ok Tryz.prog 26 yawake41_26 := ⟨rfl, by kernel_rfl, by kernel_rfl, tabOf_ok (⟨r3_ok, ⟨r9_ok, ⟨r22_ok, ⟨r23_ok, ⟨r26_ok, ⟨r27_ok, ⟨r28_ok, ⟨r30_ok, ⟨r34_ok, ⟨r38_ok, ⟨r50_ok, trivial⟩⟩⟩⟩⟩⟩⟩⟩⟩⟩⟩), (trivial), tc26, (fun j hj => by obtain rfl := List.mem_singleton.1 hj; exact tc39)⟩
noncomputable def yawake41_27 : YRow := { E := { T := tabOf [(3, r3), (9, r9), (22, r22), (23, r23), (26, r26), (27, r27), (28, r28), (30, r30), (34, r34), (38, r38), (50, r50)], C := [], D := [(1, ⟨[], [0, 1, 2, 3, 4, 5], [6], [], [], [], []⟩)], Ms := [], Ml := [], Mo := [], n := 12 }, cs := [18], fn := f27 }
theorem yawake41_27_ok : YRow.Ok Tryz.prog 27 yawake41_27 := ⟨rfl, by kernel_rfl, by kernel_rfl, tabOf_ok (⟨r3_ok, ⟨r9_ok, ⟨r22_ok, ⟨r23_ok, ⟨r26_ok, ⟨r27_ok, ⟨r28_ok, ⟨r30_ok, ⟨r34_ok, ⟨r38_ok, ⟨r50_ok, trivial⟩⟩⟩⟩⟩⟩⟩⟩⟩⟩⟩), (trivial), tc27, (fun j hj => by obtain rfl := List.mem_singleton.1 hj; exact tc18)⟩
noncomputable def yawake41_28 : YRow := { E := { T := tabOf [(3, r3), (4, r4), (9, r9), (22, r22), (23, r23), (26, r26), (27, r27), (28, r28), (30, r30), (34, r34), (38, r38), (50, r50)], C := [], D := [(1, ⟨[], [0, 1, 2, 3, 4, 5, 6, 7, 8, 9], [10, 11], [], [], [], []⟩)], Ms := [], Ml := [], Mo := [], n := 17 }, cs := [], fn := f28 }
theorem yawake41_28_ok : YRow.Ok Tryz.prog 28 yawake41_28 := ⟨rfl, by kernel_rfl, by kernel_rfl, tabOf_ok (⟨r3_ok, ⟨r4_ok, ⟨r9_ok, ⟨r22_ok, ⟨r23_ok, ⟨r26_ok, ⟨r27_ok, ⟨r28_ok, ⟨r30_ok, ⟨r34_ok, ⟨r38_ok, ⟨r50_ok, trivial⟩⟩⟩⟩⟩⟩⟩⟩⟩⟩⟩⟩), (trivial), tc28, (fun j hj => by cases hj)⟩
noncomputable def yawake41_29 : YRow := { E := { T := tabOf [(3, r3), (9, r9), (22, r22), (23, r23), (26, r26), (27, r27), (28, r28), (30, r30), (34, r34), (38, r38), (40, r40), (50, r50)], C := [], D := [], Ms := [], Ml := [], Mo := [], n := 17 }, cs := [41], fn := f29 }
theorem yawake41_29_ok : YRow.Ok Tryz.prog 29 yawake41_29 := ⟨rfl, by kernel_rfl, by kernel_rfl, tabOf_ok (⟨r3_ok, ⟨r9_ok, ⟨r22_ok, ⟨r23_ok, ⟨r26_ok, ⟨r27_ok, ⟨r28_ok, ⟨r30_ok, ⟨r34_ok, ⟨r38_ok, ⟨r40_ok, ⟨r50_ok, trivial⟩⟩⟩⟩⟩⟩⟩⟩⟩⟩⟩⟩), (trivial), tc29, (fun j hj => by obtain rfl := List.mem_singleton.1 hj; exact tc41)⟩
noncomputable def yawake41_31 : YRow := { E := { T := tabOf [(3, r3), (4, r4), (5, r5), (9, r9), (80, r80)], C := [], D := [], Ms := [(7, [0])], Ml := [(2, [0, 6, 7, 8])], Mo := [], n := 23 }, cs := [43], fn := f31 }
theorem yawake41_31_ok : YRow.Ok Tryz.prog 31 yawake41_31 := ⟨rfl, by kernel_rfl, by kernel_rfl, tabOf_ok (⟨r3_ok, ⟨r4_ok, ⟨r5_ok, ⟨r9_ok, ⟨r80_ok, trivial⟩⟩⟩⟩⟩), (trivial), tc31, (fun j hj => by obtain rfl := List.mem_singleton.1 hj; exact tc43)⟩
noncomputable def yawake41_34 : YRow := { E := { T := tabOf [(3, r3), (4, r4), (9, r9), (27, r27), (34, r34), (57, r57)], C := [], D := [], Ms := [(4, [6])], Ml := [], Mo := [], n := 19 }, cs := [19, 47], fn := f34 }
theorem yawake41_34_ok : YRow.Ok Tryz.prog 34 yawake41_34 := ⟨rfl, by kernel_rfl, by kernel_rfl, tabOf_ok (⟨r3_ok, ⟨r4_ok, ⟨r9_ok, ⟨r27_ok, ⟨r34_ok, ⟨r57_ok, trivial⟩⟩⟩⟩⟩⟩), (trivial), tc34, (fun j hj => by simp only [yawake41_34, List.mem_cons, List.not_mem_nil, or_false] at hj; rcases hj with rfl | rfl <;> first | exact tc19 | exact tc47)⟩
noncomputable def yawake41_35 : YRow := { E := { T := tabOf [(3, r3), (4, r4), (9, r9), (27, r27), (34, r34), (57, r57), (60, r60), (62, r62)], C := [], D := [], Ms := [], Ml := [], Mo := [], n := 30 }, cs := [19], fn := f35 }
theorem yawake41_35_ok : YRow.Ok Tryz.prog 35 yawake41_35 := ⟨rfl, by kernel_rfl, by kernel_rfl, tabOf_ok (⟨r3_ok, ⟨r4_ok, ⟨r9_ok, ⟨r27_ok, ⟨r34_ok, ⟨r57_ok, ⟨r60_ok, ⟨r62_ok, trivial⟩⟩⟩⟩⟩⟩⟩⟩), (trivial), tc35, (fun j hj => by obtain rfl := List.mem_singleton.1 hj; exact tc19)⟩
noncomputable def yawake41_36 : YRow := { E := { T := tabOf [(3, r3), (4, r4), (9, r9), (27, r27), (34, r34), (57, r57), (60, r60), (62, r62)], C := [], D := [(4, ⟨[], [0, 1, 2, 3, 4, 5, 6, 7, 8, 9, 10, 11, 12], [], [], [], [], []⟩), (7, ⟨[], [0, 1, 2, 3, 4, 5], [6], [], [], [], []⟩)], Ms := [], Ml := [], Mo := [], n := 52 }, cs := [19], fn := f36 }
theorem yawake41_36_ok : YRow.Ok Tryz.prog 36 yawake41_36 := ⟨rfl, by kernel_rfl, by kernel_rfl, tabOf_ok (⟨r3_ok, ⟨r4_ok, ⟨r9_ok, ⟨r27_ok, ⟨r34_ok, ⟨r57_ok, ⟨r60_ok, ⟨r62_ok, trivial⟩⟩⟩⟩⟩⟩⟩⟩), (trivial), tc36, (fun j hj => by obtain rfl := List.mem_singleton.1 hj; exact tc19)⟩
noncomputable def yawake41_37 : YRow := { E := { T := tabOf [(3, r3), (4, r4), (9, r9), (27, r27), (34, r34), (57, r57), (60, r60), (62, r62)], C := [], D := [(4, ⟨[], [0, 1, 2, 3, 4, 5], [6], [], [], [], []⟩)], Ms := [(5, [6])], Ml := [], Mo := [], n := 26 }, cs := [19], fn := f37 }
theorem yawake41_37_ok : YRow.Ok Tryz.prog 37 yawake41_37 := ⟨rfl, by kernel_rfl, by kernel_rfl, tabOf_ok (⟨r3_ok, ⟨r4_ok, ⟨r9_ok, ⟨r27_ok, ⟨r34_ok, ⟨r57_ok, ⟨r60_ok, ⟨r62_ok, trivial⟩⟩⟩⟩⟩⟩⟩⟩), (trivial), tc37, (fun j hj => by obtain rfl := List.mem_singleton.1 hj; exact tc19)⟩
noncomputable def yawake41_38 : YRow := { E := { T := tabOf [(3, r3), (27, r27), (34, r34)], C := [], D := [], Ms := [], Ml := [], Mo := [], n := 11 }, cs := [48], fn := f38 }
theorem yawake41_38_ok : YRow.Ok Tryz.prog 38 yawake41_38 := ⟨rfl, by kernel_rfl, by kernel_rfl, tabOf_ok (⟨r3_ok, ⟨r27_ok, ⟨r34_ok, trivial⟩⟩⟩), (trivial), tc38, (fun j hj => by obtain rfl := List.mem_singleton.1 hj; exact tc48)⟩
noncomputable def yawake41_39 : YRow := { E := { T := tabOf [(3, r3), (4, r4), (9, r9), (27, r27), (57, r57), (60, r60), (62, r62)], C := [], D := [], Ms := [], Ml := [], Mo := [], n := 11 }, cs := [20], fn := f39 }
theorem yawake41_39_ok : YRow.Ok Tryz.prog 39 yawake41_39 := ⟨rfl, by kernel_rfl, by kernel_rfl, tabOf_ok (⟨r3_ok, ⟨r4_ok, ⟨r9_ok, ⟨r27_ok, ⟨r57_ok, ⟨r60_ok, ⟨r62_ok, trivial⟩⟩⟩⟩⟩⟩⟩), (trivial), tc39, (fun j hj => by obtain rfl := List.mem_singleton.1 hj; exact tc20)⟩
noncomputable def yawake41_41 : YRow := { E := { T := tabOf [(3, r3), (4, r4), (9, r9), (27, r27), (34, r34), (40, r40), (85, r85)], C := [], D := [], Ms := [(7, [0, 6]), (19, [0, 6, 11, 33, 34, 35]), (20, [11])], Ml := [(3, [0, 6, 16, 17, 18]), (12, [0, 6, 11, 33, 34, 35])], Mo := [], n := 53 }, cs := [15, 34], fn := f41 }
theorem yawake41_41_ok : YRow.Ok Tryz.prog 41 yawake41_41 := ⟨rfl, by kernel_rfl, by kernel_rfl, tabOf_ok (⟨r3_ok, ⟨r4_ok, ⟨r9_ok, ⟨r27_ok, ⟨r34_ok, ⟨r40_ok, ⟨r85_ok, trivial⟩⟩⟩⟩⟩⟩⟩), (trivial), tc41, (fun j hj => by simp only [yawake41_41, List.mem_cons, List.not_mem_nil, or_false] at hj; rcases hj with rfl | rfl <;> first | exact tc15 | exact tc34)⟩
noncomputable def yawake41_43 : YRow := { E := { T := tabOf [(4, r4), (5, r5)], C := [], D := [], Ms := [], Ml := [], Mo := [], n := 21 }, cs := [], fn := f43 }
theorem yawake41_43_ok : YRow.Ok Tryz.prog 43 yawake41_43 := ⟨rfl, by kernel_rfl, by kernel_rfl, tabOf_ok (⟨r4_ok, ⟨r5_ok, trivial⟩⟩), (trivial), tc43, (fun j hj => by cases hj)⟩
noncomputable def yawake41_47 : YRow := { E := { T := tabOf [(3, r3), (4, r4), (9, r9), (27, r27), (57, r57), (60, r60), (62, r62)], C := [], D := [(0, ⟨[], [0, 1, 2, 3, 4, 5, 6, 7, 8, 9, 10, 11, 12, 13, 14], [15], [], [], [], []⟩)], Ms := [], Ml := [], Mo := [], n := 24 }, cs := [], fn := f47 }
theorem yawake41_47_ok : YRow.Ok Tryz.prog 47 yawake41_47 := ⟨rfl, by kernel_rfl, by kernel_rfl, tabOf_ok (⟨r3_ok, ⟨r4_ok, ⟨r9_ok, ⟨r27_ok, ⟨r57_ok, ⟨r60_ok, ⟨r62_ok, trivial⟩⟩⟩⟩⟩⟩⟩), (trivial), tc47, (fun j hj => by cases hj)⟩
noncomputable def yawake41_48 : YRow := { E := { T := tabOf [(3, r3), (4, r4), (9, r9), (22, r22), (27, r27), (34, r34), (91, r91), (94, r94), (96, r96), (99, r99), (124, r124)], C := [], D := [], Ms := [(12, [0, 7, 8])], Ml := [(8, [0, 4, 5, 7, 8])], Mo := [], n := 55 }, cs := [52], fn := f48 }
theorem yawake41_48_ok : YRow.Ok Tryz.prog 48 yawake41_48 := ⟨rfl, by kernel_rfl, by kernel_rfl, tabOf_ok (⟨r3_ok, ⟨r4_ok, ⟨r9_ok, ⟨r22_ok, ⟨r27_ok, ⟨r34_ok, ⟨r91_ok, ⟨r94_ok, ⟨r96_ok, ⟨r99_ok, ⟨r124_ok, trivial⟩⟩⟩⟩⟩⟩⟩⟩⟩⟩⟩), (trivial), tc48, (fun j hj => by obtain rfl := List.mem_singleton.1 hj; exact tc52)⟩
noncomputable def yawake41_52 : YRow := { E := { T := tabOf [(3, r3), (4, r4), (27, r27), (34, r34), (91, r91)], C := [], D := [(9, ⟨[], [], [], [], [], [0, 1, 2], [(3, [0, 1]), (4, []), (5, [])]⟩)], Ms := [], Ml := [], Mo := [], n := 42 }, cs := [69], fn := f52 }
theorem yawake41_52_ok : YRow.Ok Tryz.prog 52 yawake41_52 := ⟨rfl, by kernel_rfl, by kernel_rfl, tabOf_ok (⟨r3_ok, ⟨r4_ok, ⟨r27_ok, ⟨r34_ok, ⟨r91_ok, trivial⟩⟩⟩⟩⟩), (trivial), tc52, (fun j hj => by obtain rfl := List.mem_singleton.1 hj; exact tc69)⟩
noncomputable def yawake41_69 : YRow := { E := { T := tabOf [(3, r3), (4, r4), (9, r9), (27, r27), (34, r34), (91, r91)], C := [], D := [], Ms := [], Ml := [], Mo := [], n := 27 }, cs := [89], fn := f69 }
theorem yawake41_69_ok : YRow.Ok Tryz.prog 69 yawake41_69 := ⟨rfl, by kernel_rfl, by kernel_rfl, tabOf_ok (⟨r3_ok, ⟨r4_ok, ⟨r9_ok, ⟨r27_ok, ⟨r34_ok, ⟨r91_ok, trivial⟩⟩⟩⟩⟩⟩), (trivial), tc69, (fun j hj => by obtain rfl := List.mem_singleton.1 hj; exact tc89)⟩
noncomputable def yawake41_89 : YRow := { E := { T := tabOf [(3, r3), (4, r4), (9, r9), (27, r27), (34, r34)], C := [], D := [], Ms := [], Ml := [], Mo := [], n := 41 }, cs := [11, 12], fn := f89 }
theorem yawake41_89_ok : YRow.Ok Tryz.prog 89 yawake41_89 := ⟨rfl, by kernel_rfl, by kernel_rfl, tabOf_ok (⟨r3_ok, ⟨r4_ok, ⟨r9_ok, ⟨r27_ok, ⟨r34_ok, trivial⟩⟩⟩⟩⟩), (trivial), tc89, (fun j hj => by simp only [yawake41_89, List.mem_cons, List.not_mem_nil, or_false] at hj; rcases hj with rfl | rfl <;> first | exact tc11 | exact tc12)⟩
noncomputable def zawake41 : List (Nat × ZRow) := [(4, ⟨yawake41_4, [], []⟩), (5, ⟨yawake41_5, [], [13, 14]⟩), (8, ⟨yawake41_8, [], []⟩), (9, ⟨yawake41_9, [], []⟩), (10, ⟨yawake41_10, [], []⟩), (11, ⟨yawake41_11, [], []⟩), (12, ⟨yawake41_12, [], []⟩), (13, ⟨yawake41_13, [], []⟩), (14, ⟨yawake41_14, [], []⟩), (15, ⟨yawake41_15, [], []⟩), (16, ⟨yawake41_16, [], []⟩), (17, ⟨yawake41_17, [], []⟩), (18, ⟨yawake41_18, [], []⟩), (19, ⟨yawake41_19, [], []⟩), (20, ⟨yawake41_20, [], []⟩), (21, ⟨yawake41_21, [], []⟩), (22, ⟨yawake41_22, [], []⟩), (23, ⟨yawake41_23, [], []⟩), (24, ⟨yawake41_24, [], []⟩), (25, ⟨yawake41_25, [], []⟩), (26, ⟨yawake41_26, [], []⟩), (27, ⟨yawake41_27, [], []⟩), (28, ⟨yawake41_28, [], []⟩), (29, ⟨yawake41_29, [], []⟩), (31, ⟨yawake41_31, [], []⟩), (34, ⟨yawake41_34, [], []⟩), (35, ⟨yawake41_35, [], []⟩), (36, ⟨yawake41_36, [], []⟩), (37, ⟨yawake41_37, [], []⟩), (38, ⟨yawake41_38, [], []⟩), (39, ⟨yawake41_39, [], []⟩), (41, ⟨yawake41_41, [], []⟩), (43, ⟨yawake41_43, [], []⟩), (47, ⟨yawake41_47, [], []⟩), (48, ⟨yawake41_48, [], []⟩), (52, ⟨yawake41_52, [], []⟩), (69, ⟨yawake41_69, [], []⟩), (89, ⟨yawake41_89, [], []⟩)]
theorem zawake41_ok : ZOk Tryz.prog zawake41 := ⟨⟨yawake41_4_ok, (fun j hj => by cases hj), (fun j hj => by cases hj)⟩, ⟨⟨yawake41_5_ok, (fun j hj => by cases hj), (fun j hj => by simp only [List.mem_cons, List.mem_cons, List.not_mem_nil, or_false] at hj; rcases hj with rfl | rfl <;> first | exact tc13 | exact tc14)⟩, ⟨⟨yawake41_8_ok, (fun j hj => by cases hj), (fun j hj => by cases hj)⟩, ⟨⟨yawake41_9_ok, (fun j hj => by cases hj), (fun j hj => by cases hj)⟩, ⟨⟨yawake41_10_ok, (fun j hj => by cases hj), (fun j hj => by cases hj)⟩, ⟨⟨yawake41_11_ok, (fun j hj => by cases hj), (fun j hj => by cases hj)⟩, ⟨⟨yawake41_12_ok, (fun j hj => by cases hj), (fun j hj => by cases hj)⟩, ⟨⟨yawake41_13_ok, (fun j hj => by cases hj), (fun j hj => by cases hj)⟩, ⟨⟨yawake41_14_ok, (fun j hj => by cases hj), (fun j hj => by cases hj)⟩, ⟨⟨yawake41_15_ok, (fun j hj => by cases hj), (fun j hj => by cases hj)⟩, ⟨⟨yawake41_16_ok, (fun j hj => by cases hj), (fun j hj => by cases hj)⟩, ⟨⟨yawake41_17_ok, (fun j hj => by cases hj), (fun j hj => by cases hj)⟩, ⟨⟨yawake41_18_ok, (fun j hj => by cases hj), (fun j hj => by cases hj)⟩, ⟨⟨yawake41_19_ok, (fun j hj => by cases hj), (fun j hj => by cases hj)⟩, ⟨⟨yawake41_20_ok, (fun j hj => by cases hj), (fun j hj => by cases hj)⟩, ⟨⟨yawake41_21_ok, (fun j hj => by cases hj), (fun j hj => by cases hj)⟩, ⟨⟨yawake41_22_ok, (fun j hj => by cases hj), (fun j hj => by cases hj)⟩, ⟨⟨yawake41_23_ok, (fun j hj => by cases hj), (fun j hj => by cases hj)⟩, ⟨⟨yawake41_24_ok, (fun j hj => by cases hj), (fun j hj => by cases hj)⟩, ⟨⟨yawake41_25_ok, (fun j hj => by cases hj), (fun j hj => by cases hj)⟩, ⟨⟨yawake41_26_ok, (fun j hj => by cases hj), (fun j hj => by cases hj)⟩, ⟨⟨yawake41_27_ok, (fun j hj => by cases hj), (fun j hj => by cases hj)⟩, ⟨⟨yawake41_28_ok, (fun j hj => by cases hj), (fun j hj => by cases hj)⟩, ⟨⟨yawake41_29_ok, (fun j hj => by cases hj), (fun j hj => by cases hj)⟩, ⟨⟨yawake41_31_ok, (fun j hj => by cases hj), (fun j hj => by cases hj)⟩, ⟨⟨yawake41_34_ok, (fun j hj => by cases hj), (fun j hj => by cases hj)⟩, ⟨⟨yawake41_35_ok, (fun j hj => by cases hj), (fun j hj => by cases hj)⟩, ⟨⟨yawake41_36_ok, (fun j hj => by cases hj), (fun j hj => by cases hj)⟩, ⟨⟨yawake41_37_ok, (fun j hj => by cases hj), (fun j hj => by cases hj)⟩, ⟨⟨yawake41_38_ok, (fun j hj => by cases hj), (fun j hj => by cases hj)⟩, ⟨⟨yawake41_39_ok, (fun j hj => by cases hj), (fun j hj => by cases hj)⟩, ⟨⟨yawake41_41_ok, (fun j hj => by cases hj), (fun j hj => by cases hj)⟩, ⟨⟨yawake41_43_ok, (fun j hj => by cases hj), (fun j hj => by cases hj)⟩, ⟨⟨yawake41_47_ok, (fun j hj => by cases hj), (fun j hj => by cases hj)⟩, ⟨⟨yawake41_48_ok, (fun j hj => by cases hj), (fun j hj => by cases hj)⟩, ⟨⟨yawake41_52_ok, (fun j hj => by cases hj), (fun j hj => by cases hj)⟩, ⟨⟨yawake41_69_ok, (fun j hj => by cases hj), (fun j hj => by cases hj)⟩, ⟨⟨yawake41_89_ok, (fun j hj => by cases hj), (fun j hj => by cases hj)⟩, trivial⟩⟩⟩⟩⟩⟩⟩⟩⟩⟩⟩⟩⟩⟩⟩⟩⟩⟩⟩⟩⟩⟩⟩⟩⟩⟩⟩⟩⟩⟩⟩⟩⟩⟩⟩⟩⟩⟩
theorem awake41_run (h : AHeap) : ACalls Tryz.prog 8 [] h fun e h' => e = .ret (.lit (.bool true)) ∧ h' = h := acalls_lit (zrun_true zawake41_ok tmix (m := 100000) (k := 60) (by kernel_rfl)) h
end Go.Proofs.YtjjiemmkmndmnaaGreatDoor.AL
/- Slices, as lists of cells; what stays of the memory. -/
namespace Go.Proofs.YtjjiemmkmndmnaaGreatDoor.AL
set_option linter.unusedVariables false
set_option linter.unusedSimpArgs false
set_option maxRecDepth 10000
open Go
/-- 'n' elements of 'k' cells each. -/
def Sl (k : Nat) (h : AHeap) (v : AVal) (n : Nat) (cs : List AVal) : Prop := cs.length = n * k ∧ match v with
  | .sl k' b off len => k' = k ∧ len = n ∧ ∃ all, cellsAt h b = some all ∧ off + n * k ≤ all.length ∧ (all.drop off).take (n * k) = cs
  | .ros all len => len = n ∧ n * k ≤ all.length ∧ all.take (n * k) = cs
  | .lit (.slice none 0 0) => n = 0
  | _ => False
theorem Sl.nil (k : Nat) (h : AHeap) : Sl k h (.lit (.slice none 0 0)) 0 [] := ⟨by simp, rfl⟩
theorem Sl.own {k b n : Nat} {h : AHeap} {cs : List AVal} (H : cellsAt h b = some cs) (hl : cs.length = n * k) : Sl k h (.sl k b 0 n) n cs := ⟨hl, rfl, rfl, cs, H, by omega, by simp [List.take_of_length_le, hl]⟩
theorem Sl.keep {k n : Nat} {h h' : AHeap} {v : AVal} {cs : List AVal} (S : Sl k h v n cs) {X : List Nat} (K : Keep h.length X h h') (hx : ∀ b off len, v = .sl k b off len → b ∉ X) : Sl k h' v n cs := by
  refine ⟨S.1, ?_⟩
  have h2 := S.2
  split at h2
  · obtain ⟨rfl, rfl, all, H, h3, h4⟩ := h2
    exact ⟨rfl, rfl, all, K.cells (cellsAt_lt H) (hx _ _ _ rfl) H, h3, h4⟩
  · exact h2
  · exact h2
  · exact h2.elim
theorem Sl.len {k n : Nat} {h : AHeap} {v : AVal} {cs : List AVal} (S : Sl k h v n cs) : lenV v = some (n : Int) := by
  have h2 := S.2
  split at h2
  · obtain ⟨rfl, rfl, _⟩ := h2; rfl
  · obtain ⟨rfl, _⟩ := h2; rfl
  · subst h2; rfl
  · exact h2.elim
theorem Sl.srcLen {k n : Nat} {h : AHeap} {v : AVal} {cs : List AVal} (S : Sl k h v n cs) : srcLen v = some n := by
  have h2 := S.2
  split at h2
  · obtain ⟨rfl, rfl, _⟩ := h2; rfl
  · obtain ⟨rfl, _⟩ := h2; rfl
  · subst h2; rfl
  · exact h2.elim
theorem Sl.src {k n m : Nat} {h : AHeap} {v : AVal} {cs : List AVal} (S : Sl k h v n cs) (hm : m ≤ n) : srcCells h k v m = some (cs.take (m * k)) := by
  have h2 := S.2
  have hmk : m * k ≤ n * k := Nat.mul_le_mul_right k hm
  split at h2
  · obtain ⟨rfl, rfl, all, H, h3, h4⟩ := h2
    unfold srcCells
    simp only [cellsAt_some H]
    rw [if_pos ⟨by first | trivial | rfl, hm, by omega⟩, ← h4, List.take_take, Nat.min_eq_left hmk]
  · obtain ⟨rfl, h3, h4⟩ := h2
    unfold srcCells
    simp only
    rw [if_pos ⟨hm, by omega⟩, ← h4, List.take_take, Nat.min_eq_left hmk]
  · subst h2
    have : m = 0 := by omega
    subst this
    simp [srcCells]
  · exact h2.elim
theorem Sl.src_all {k n : Nat} {h : AHeap} {v : AVal} {cs : List AVal} (S : Sl k h v n cs) : srcCells h k v n = some cs := by
  rw [S.src (Nat.le_refl _), ← S.1, List.take_length]
/-- One element's place, and what is read there. -/
theorem Sl.idx {k n i : Nat} {h : AHeap} {v : AVal} {cs : List AVal} (S : Sl k h v n cs) (hi : i < n) :
    ∃ p, idxP k v (i : Int) = some p ∧ ldn k h p = some ((cs.drop (i * k)).take k) ∧ (∀ o, o < k → ∃ q, fieldP o p = some q ∧ ld1 h q = cs[i * k + o]?) ∧ (0 < k → ld1 h p = cs[i * k]?) := by
  have h2 := S.2
  have hik : (i + 1) * k ≤ n * k := Nat.mul_le_mul_right k hi
  rw [Nat.add_mul, Nat.one_mul] at hik
  have hint : (0 : Int) ≤ (i : Int) ∧ (i : Int) < (n : Int) := by omega
  split at h2
  · rename_i k' b off len
    obtain ⟨rfl, rfl, all, H, h3, h4⟩ := h2
    refine ⟨.ptr b (off + i * k'), ?_, ?_, fun o ho => ⟨_, rfl, ?_⟩, fun hk => ?_⟩
    · unfold idxP; simp only [Nat.beq_refl]; rw [req_true hint]; rfl
    · rw [ldn_of H (by omega), ← h4, List.drop_take, List.take_take, List.drop_drop, Nat.min_eq_left (by omega)]
    · rw [ld1_of H, ← h4, List.getElem?_take_of_lt (by omega), List.getElem?_drop]; congr 1; omega
    · rw [ld1_of H, ← h4, List.getElem?_take_of_lt (by omega), List.getElem?_drop]
  · rename_i all len
    obtain ⟨rfl, h3, h4⟩ := h2
    refine ⟨.rop (all.drop (i * k)), ?_, ?_, fun o ho => ⟨_, rfl, ?_⟩, fun hk => ?_⟩
    · unfold idxP; simp only; rw [req_true hint]; rfl
    · unfold ldn; simp only; rw [req_true (by simp; omega), ← h4, List.drop_take, List.take_take, Nat.min_eq_left (by omega)]; rfl
    · unfold ld1; simp only [List.drop_drop]
      rw [List.getElem?_drop, ← h4, List.getElem?_take_of_lt (by omega)]; rfl
    · unfold ld1; simp only
      rw [List.getElem?_drop, ← h4, List.getElem?_take_of_lt (by omega)]; rfl
  · omega
  · exact h2.elim
theorem idx_none {k : Nat} {h : AHeap} {v : AVal} {n : Nat} {cs : List AVal} (S : Sl k h v n cs) : True := trivial
/-- A slice that may be appended to: nobody's yet, or all of an object. -/
def Own (k : Nat) (h : AHeap) (v : AVal) (n : Nat) (cs : List AVal) : Prop := cs.length = n * k ∧ ((v = .lit (.slice none 0 0) ∧ n = 0) ∨ ∃ b, v = .sl k b 0 n ∧ cellsAt h b = some cs)
theorem Own.sl {k n : Nat} {h : AHeap} {v : AVal} {cs : List AVal} (O : Own k h v n cs) : Sl k h v n cs := by
  obtain ⟨h1, ⟨rfl, rfl⟩ | ⟨b, rfl, H⟩⟩ := O
  · have : cs = [] := List.length_eq_zero_iff.1 (by omega)
    subst this; exact Sl.nil _ _
  · exact Sl.own H h1
theorem Own.nil (k : Nat) (h : AHeap) : Own k h (.lit (.slice none 0 0)) 0 [] := ⟨by simp, .inl ⟨rfl, rfl⟩⟩
/-- Whose object it is. -/
def At (v : AVal) (b : Nat) : Prop := ∃ k off len, v = .sl k b off len
theorem Own.keep {k n : Nat} {h h' : AHeap} {v : AVal} {cs : List AVal} (O : Own k h v n cs) (K : ∀ b, At v b → h'[b]? = h[b]?) : Own k h' v n cs := by
  obtain ⟨h1, ⟨rfl, rfl⟩ | ⟨b, rfl, H⟩⟩ := O
  · exact ⟨h1, .inl ⟨rfl, rfl⟩⟩
  · refine ⟨h1, .inr ⟨b, rfl, ?_⟩⟩
    have := cellsAt_some H
    unfold cellsAt
    rw [K b ⟨_, _, _, rfl⟩, this]
theorem app_src {k w : Nat} {h : AHeap} {v x : AVal} {n m : Nat} {cs ns : List AVal} (O : Own k h v n cs) (h1 : srcLen x = some m) (h2 : srcCells h k x m = some ns) (hns : ns.length = m * k) (h3 : (n + m) * w ≤ 140737488355328) (h4 : ns.all (·.one) = true) :
    ∃ v' h', appV k w h v x = some (v', h') ∧ Own k h' v' (n + m) (cs ++ ns) ∧ h.length ≤ h'.length ∧ h'.length ≤ h.length + 1 ∧ (∀ b, At v' b → b = h.length) ∧ ∀ c, c < h.length → ¬ At v c → h'[c]? = h[c]? := by
  obtain ⟨hl, ⟨rfl, rfl⟩ | ⟨b, rfl, H⟩⟩ := O
  · have : cs = [] := List.length_eq_zero_iff.1 (by omega)
    subst this
    unfold appV
    rw [h1, Option.bind_some, h2, Option.bind_some]
    simp only
    rw [req_true (by rw [Nat.zero_add] at h3; exact h3)]
    simp only [Option.bind_some]
    by_cases hm : m = 0
    · subst hm
      have : ns = [] := List.length_eq_zero_iff.1 (by omega)
      subst this
      rw [if_pos rfl]
      refine ⟨_, _, rfl, Own.nil _ _, Nat.le_refl _, by omega, fun b hb => ?_, fun _ _ _ => rfl⟩
      obtain ⟨_, _, _, hb⟩ := hb; cases hb
    · rw [if_neg hm]
      refine ⟨_, _, rfl, ⟨by simpa using hns, .inr ⟨_, by rw [Nat.zero_add], by simp [cellsAt]⟩⟩, by simp, by simp, fun b hb => ?_, fun c hc _ => List.getElem?_append_left hc⟩
      obtain ⟨_, _, _, hb⟩ := hb; cases hb; rfl
  · unfold appV
    rw [h1, Option.bind_some, h2, Option.bind_some]
    simp only
    rw [H, Option.bind_some, req_true ⟨by first | trivial | rfl, by omega, h3, h4⟩]
    simp only [Option.bind_some]
    refine ⟨_, _, rfl, ⟨by simp [hl, hns, Nat.add_mul], .inr ⟨_, rfl, ?_⟩⟩, by simp, by simp, fun c hb => ?_, fun c hc hn => ?_⟩
    · have e : (cs.drop 0).take (n * k) = cs := by rw [List.drop_zero, ← hl, List.take_length]
      rw [e]
      simp [cellsAt]
    · obtain ⟨_, _, _, hb⟩ := hb; cases hb; rfl
    · rw [List.getElem?_append_left (by simpa using hc)]
      exact List.getElem?_set_ne fun e => hn ⟨_, _, _, by rw [e]⟩
theorem blit_one {z v : AVal} (h : v.one = true) : blitA 1 [z] 1 [(0, v)] = some [v] := by
  have hp : v.parts = some [v] := by
    cases v with
    | lit u => cases u <;> simp_all [AVal.one, AVal.parts, Value.oneCell']
    | _ => simp_all [AVal.one, AVal.parts]
  unfold blitA
  rw [req_true (by omega)]
  simp [aFill, hp, splice]
theorem blit_agg {k : Nat} {zs xs : List AVal} (hz : zs.length = k) (h : xs.length = k) (hk : k ≤ 16777216) : blitA k zs 1 [(0, .agg xs)] = some xs := by
  unfold blitA
  rw [req_true (by omega)]
  simp only [Option.bind_some, aFill, AVal.parts, List.replicate_one, List.flatten_cons, List.flatten_nil, List.append_nil, Nat.zero_mul, Nat.zero_add]
  rw [if_pos ⟨h, by omega⟩]
  simp [splice, h, hz]
/-- One element is put behind. -/
theorem push_app {k w n : Nat} {h : AHeap} {v : AVal} {cs xs : List AVal} (O : Own k h v n cs) (hx : xs.length = k) (h1 : xs.all (·.one) = true) (hw : (n + 1) * w ≤ 140737488355328) :
    ∃ v' h', appV k w (apd h [.cells xs]) v (.sl k h.length 0 1) = some (v', h') ∧ Own k h' v' (n + 1) (cs ++ xs) ∧ h.length ≤ h'.length ∧ h'.length ≤ h.length + 2 ∧ (∀ b, At v' b → h.length ≤ b) ∧ ∀ c, c < h.length → ¬ At v c → h'[c]? = h[c]? := by
  have hid : ∀ b, At v b → b < h.length := by
    intro b hb
    obtain ⟨_, ⟨rfl, _⟩ | ⟨c, rfl, H⟩⟩ := O
    · obtain ⟨_, _, _, hb⟩ := hb; cases hb
    · obtain ⟨_, _, _, hb⟩ := hb; cases hb; exact cellsAt_lt H
  have O' : Own k (apd h [.cells xs]) v n cs := O.keep fun b hb => by simp only [apd]; exact List.getElem?_append_left (hid b hb)
  have hc : (apd h [AObj.cells xs])[h.length]? = some (.cells xs) := by simp [apd]
  obtain ⟨v', h', a1, a2, a3, a4, a5, a6⟩ := app_src (w := w) (x := .sl k h.length 0 1) (m := 1) (ns := xs) O' rfl (by
    unfold srcCells
    simp only [hc]
    rw [if_pos ⟨by first | trivial | rfl, Nat.le_refl _, by omega⟩]
    simp [← hx]) (by omega) hw h1
  refine ⟨v', h', a1, a2, ?_, ?_, fun b hb => ?_, fun c hc hn => ?_⟩
  · simp [apd] at a3; omega
  · simp [apd] at a4; omega
  · rw [a5 b hb]; simp [apd]
  · rw [a6 c (by simp [apd]; omega) hn]
    simp only [apd]; exact List.getElem?_append_left hc
theorem At.own {k n : Nat} {h : AHeap} {v : AVal} {cs : List AVal} (O : Own k h v n cs) {b : Nat} (hb : At v b) : b < h.length := by
  obtain ⟨_, ⟨rfl, _⟩ | ⟨c, rfl, H⟩⟩ := O
  · obtain ⟨_, _, _, hb⟩ := hb; cases hb
  · obtain ⟨_, _, _, hb⟩ := hb; cases hb; exact cellsAt_lt H
/-- One cell is set in place. -/
theorem Own.set1 {h : AHeap} {v : AVal} {n i : Nat} {cs : List AVal} {x : AVal} (O : Own 1 h v n cs) (hi : i < n) (hx : x.one = true) :
    ∃ p b, At v b ∧ idxP 1 v (i : Int) = some p ∧ st1 h p x = some (h.set b (.cells (cs.set i x))) ∧ Own 1 (h.set b (.cells (cs.set i x))) v n (cs.set i x) := by
  obtain ⟨hl, ⟨rfl, rfl⟩ | ⟨b, rfl, H⟩⟩ := O
  · omega
  · refine ⟨.ptr b i, b, ⟨_, _, _, rfl⟩, ?_, st1_of H hx (by omega), by simpa using hl, .inr ⟨b, rfl, cellsAt_set H⟩⟩
    unfold idxP
    simp only [Nat.beq_refl]
    rw [req_true (by omega)]
    simp
/-- A piece of a slice. -/
theorem Sl.cut {k n lo hi : Nat} {h : AHeap} {v : AVal} {cs : List AVal} (S : Sl k h v n cs) (h1 : lo ≤ hi) (h2 : hi ≤ n) :
    ∃ v', cutV k v (some (lo : Int)) (some (hi : Int)) none = some v' ∧ Sl k h v' (hi - lo) ((cs.drop (lo * k)).take ((hi - lo) * k)) := by
  have e1 : hi * k ≤ n * k := Nat.mul_le_mul_right k h2
  have e2 : lo * k ≤ hi * k := Nat.mul_le_mul_right k h1
  have e3 : (hi - lo) * k = hi * k - lo * k := Nat.sub_mul _ _ _
  have e4 : ((hi : Int) - (lo : Int)).toNat = hi - lo := by omega
  have e5 : (lo : Int).toNat = lo := by omega
  have hs := S.2
  have hl := S.1
  have hlen : ((cs.drop (lo * k)).take ((hi - lo) * k)).length = (hi - lo) * k := by simp; omega
  split at hs
  · rename_i k' b off len
    obtain ⟨rfl, rfl, all, H, h3, h4⟩ := hs
    refine ⟨.sl k' b (off + lo * k') (hi - lo), ?_, hlen, rfl, rfl, all, H, by omega, ?_⟩
    · unfold cutV
      simp only [Nat.beq_refl, Option.getD_some]
      rw [req_true ⟨by omega, by omega, by omega, fun m hm => by cases hm⟩]
      simp only [Option.bind_some, e4, e5]
    · rw [← h4, List.drop_take, List.take_take, List.drop_drop, Nat.min_eq_left (by omega)]
  · rename_i all len
    obtain ⟨rfl, h3, h4⟩ := hs
    refine ⟨.ros (all.drop (lo * k)) (hi - lo), ?_, hlen, rfl, by simp; omega, ?_⟩
    · unfold cutV
      simp only [Option.getD_some]
      rw [req_true ⟨by omega, by omega, by omega, fun m hm => by cases hm⟩]
      simp only [Option.bind_some, e4, e5]
    · rw [← h4, List.drop_take, List.take_take, Nat.min_eq_left (by omega)]
  · subst hs
    have : hi = 0 := by omega
    subst this
    have : lo = 0 := by omega
    subst this
    refine ⟨.lit (.slice none 0 0), ?_, hlen, rfl⟩
    unfold cutV
    simp only [Option.getD_some]
    rw [req_true ⟨by rfl, by rfl, by rfl⟩]; rfl
  · exact hs.elim
/-! Kinds of elements -/
def strVs (l : List ByteArray) : List AVal := l.map fun s => .lit (.string s)
def intVs (l : List Int) : List AVal := l.map fun n => .lit (.int .i64 n)
def boolVs (l : List Bool) : List AVal := l.map fun b => .lit (.bool b)
/-- What came in as a slice. -/
theorem slice_fits {α H : Type} {e : Sh} {k : Nat} {cells : α → List AVal} {Q : α → Prop} (hk : ∀ a, (cells a).length = k) (he : ∀ x : DataW H, Fits e x → ∃ a, absD x = cells a ∧ Q a) {d : DataW H} (hd : Fits (.slice e) d) (h : AHeap) :
    ∃ l : List α, Sl k h ((absD d).headD .any) l.length (l.flatMap cells) ∧ (∀ a ∈ l, Q a) ∧ l.length ≤ maxLen := by
  simp only [Fits] at hd
  rcases hd with rfl | ⟨es, sp, rfl, hl, hall⟩
  · refine ⟨[], Sl.nil _ _, ?_, ?_⟩
    · intro a ha; cases ha
    · exact Nat.zero_le _
  · have key : ∀ es : List (DataW H), (∀ x ∈ es, Fits e x) → ∃ l : List α, l.length = es.length ∧ absDs es = l.flatMap cells ∧ ∀ a ∈ l, Q a := by
      intro es
      induction es with
      | nil => intro _; exact ⟨[], rfl, rfl, fun a ha => by cases ha⟩
      | cons x es ih =>
        intro hx
        obtain ⟨a, h1, h2⟩ := he x (hx x (by simp))
        obtain ⟨l, h3, h4, h5⟩ := ih fun y hy => hx y (by simp [hy])
        refine ⟨a :: l, by simp [h3], by simp [absDs, h1, h4], fun b hb => ?_⟩
        rcases List.mem_cons.1 hb with rfl | hb
        · exact h2
        · exact h5 b hb
    obtain ⟨l, h1, h2, h3⟩ := key es hall
    have hlen : (l.flatMap cells).length = l.length * k := by
      clear h1 h2 h3
      induction l with
      | nil => simp
      | cons a l ih => simp [hk, ih, Nat.add_mul, Nat.add_comm]
    refine ⟨l, ?_, h3, by omega⟩
    simp only [absD, List.headD_cons]
    rw [h2, ← h1]
    exact ⟨hlen, rfl, by omega, by rw [← hlen, List.take_length]⟩
theorem fits_strs {H : Type} {d : DataW H} (hd : Fits (.slice .str) d) (h : AHeap) : ∃ l : List ByteArray, Sl 1 h ((absD d).headD .any) l.length (strVs l) := by
  obtain ⟨l, h1, _, _⟩ := slice_fits (α := ByteArray) (k := 1) (cells := fun s => [.lit (.string s)]) (Q := fun _ => True) (fun _ => rfl) (fun x hx => by
    simp only [Fits] at hx
    obtain ⟨l, rfl, _⟩ := hx
    exact ⟨⟨l.toArray⟩, rfl, trivial⟩) hd h
  refine ⟨l, ?_⟩
  have : (l.flatMap fun s => [AVal.lit (.string s)]) = strVs l := by simp [strVs, List.map_eq_flatMap]
  rwa [this] at h1
theorem fits_bools {H : Type} {d : DataW H} (hd : Fits (.slice .bool) d) (h : AHeap) : ∃ l : List Bool, Sl 1 h ((absD d).headD .any) l.length (boolVs l) := by
  obtain ⟨l, h1, _, _⟩ := slice_fits (α := Bool) (k := 1) (cells := fun s => [.lit (.bool s)]) (Q := fun _ => True) (fun _ => rfl) (fun x hx => by
    simp only [Fits] at hx
    obtain ⟨l, rfl⟩ := hx
    exact ⟨l, rfl, trivial⟩) hd h
  refine ⟨l, ?_⟩
  have : (l.flatMap fun s => [AVal.lit (.bool s)]) = boolVs l := by simp [boolVs, List.map_eq_flatMap]
  rwa [this] at h1
theorem fits_ints {H : Type} {d : DataW H} (hd : Fits (.slice (.int .i64)) d) (h : AHeap) : ∃ l : List Int, Sl 1 h ((absD d).headD .any) l.length (intVs l) := by
  obtain ⟨l, h1, _, _⟩ := slice_fits (α := Int) (k := 1) (cells := fun s => [.lit (.int .i64 s)]) (Q := fun _ => True) (fun _ => rfl) (fun x hx => by
    simp only [Fits] at hx
    obtain ⟨l, rfl, _⟩ := hx
    exact ⟨l, rfl, trivial⟩) hd h
  refine ⟨l, ?_⟩
  have : (l.flatMap fun s => [AVal.lit (.int .i64 s)]) = intVs l := by simp [intVs, List.map_eq_flatMap]
  rwa [this] at h1
theorem Sl.everywhere {k n : Nat} {v : AVal} {cs : List AVal} (S : Sl k [] v n cs) (g : AHeap) : Sl k g v n cs := S.keep (X := []) ⟨by simp, fun c hc => by simp at hc⟩ (fun _ _ _ _ => by simp)
theorem closed_rep {zs : List AVal} (hz : closedL zs = true) : ∀ n, closedL (List.replicate n zs).flatten = true
  | 0 => rfl
  | n + 1 => by
    have app : ∀ (a b : List AVal), closedL a = true → closedL b = true → closedL (a ++ b) = true := by
      intro a
      induction a with
      | nil => intro b _ h; exact h
      | cons x a ih => intro b h1 h2; simp only [closedL, Bool.and_eq_true, List.cons_append] at h1 ⊢; exact ⟨h1.1, ih b h1.2 h2⟩
    rw [List.replicate_succ, List.flatten_cons]
    exact app _ _ hz (closed_rep hz n)
theorem mkA_nat {b n : Nat} {zs : List AVal} (h : b * n ≤ 140737488355328) (h2 : n ≤ 140737488355328) : mkA b zs (n : Int) (n : Int) = some (List.replicate n zs).flatten := by
  unfold mkA
  rw [req_true ⟨by omega, by omega, by rw [← Int.natCast_mul]; omega, by omega⟩]
  simp
theorem flat_one (n : Nat) (z : AVal) : (List.replicate n [z]).flatten = List.replicate n z := by
  induction n with
  | zero => rfl
  | succ n ih => simp [List.replicate_succ, ih]
end Go.Proofs.YtjjiemmkmndmnaaGreatDoor.AL
/- The memory grows: what was there stays. -/
namespace Go.Proofs.YtjjiemmkmndmnaaGreatDoor.AL
set_option linter.unusedVariables false
set_option linter.unusedSimpArgs false
set_option maxRecDepth 100000
open Go
abbrev Grow (h h' : AHeap) : Prop := Keep h.length [] h h'
theorem Grow.refl (h : AHeap) : Grow h h := Keep.refl _ _ _
theorem Grow.trans {h h' h'' : AHeap} (a : Grow h h') (b : Grow h' h'') : Grow h h'' := Keep.trans a (b.less a.len (fun c hc => by cases hc))
theorem Grow.psh {h g : AHeap} (a : Grow h g) (o : AObj) : Grow h (psh g o) := Keep.trans a (Keep.psh o a.len)
theorem Grow.set {h g : AHeap} (a : Grow h g) {b : Nat} {o : AObj} (hb : h.length ≤ b) : Grow h (g.set b o) := Keep.trans a (Keep.set (.inl hb))
theorem Grow.get {h g : AHeap} (a : Grow h g) {b : Nat} {o : AObj} (hb : h[b]? = some o) : g[b]? = some o := (Keep.get a b (lt_of_getL hb) (fun h => by cases h)).trans hb
theorem Grow.cells {h g : AHeap} (a : Grow h g) {b : Nat} {cs : List AVal} (hb : cellsAt h b = some cs) : cellsAt g b = some cs := Keep.cells a (cellsAt_lt hb) (fun h => by cases h) hb
theorem Sl.grow {k n : Nat} {h h' : AHeap} {v : AVal} {cs : List AVal} (S : Sl k h v n cs) (a : Grow h h') : Sl k h' v n cs := S.keep a (fun _ _ _ _ h => by cases h)
theorem Own.grow {k n : Nat} {h h' : AHeap} {v : AVal} {cs : List AVal} (O : Own k h v n cs) (a : Grow h h') : Own k h' v n cs := O.keep fun b hb => Keep.get a b (At.own O hb) (fun h => by cases h)
theorem flat_at {α : Type} {cells : α → List AVal} {k : Nat} (hk : ∀ a, (cells a).length = k) : ∀ (l : List α) (i : Nat) (hi : i < l.length), ((l.flatMap cells).drop (i * k)).take k = cells l[i]
  | a :: l, 0, _ => by
    rw [Nat.zero_mul, List.drop_zero, List.flatMap_cons, List.take_append_of_le_length (by rw [hk]; exact Nat.le_refl _), List.take_of_length_le (by rw [hk]; exact Nat.le_refl _)]; rfl
  | a :: l, i + 1, hi => by
    rw [List.flatMap_cons, List.drop_append, List.drop_of_length_le (by rw [hk, Nat.add_mul]; omega), List.nil_append, hk, show (i + 1) * k - k = i * k by rw [Nat.add_mul]; omega]
    exact flat_at hk l i (by simpa using hi)
theorem flat_cell {α : Type} {cells : α → List AVal} {k : Nat} (hk : ∀ a, (cells a).length = k) (l : List α) (i : Nat) (hi : i < l.length) {o : Nat} (ho : o < k) : (l.flatMap cells)[i * k + o]? = (cells l[i])[o]? := by
  rw [← flat_at hk l i hi, List.getElem?_take_of_lt ho, List.getElem?_drop]
theorem flat_len {α : Type} {cells : α → List AVal} {k : Nat} (hk : ∀ a, (cells a).length = k) (l : List α) : (l.flatMap cells).length = l.length * k := by
  induction l with
  | nil => simp
  | cons a l ih => rw [List.flatMap_cons, List.length_append, hk, ih, List.length_cons, Nat.add_mul, Nat.one_mul, Nat.add_comm]
/-- A piece of a slice, from its beginning. -/
theorem Sl.pre {k n hi : Nat} {h : AHeap} {v : AVal} {cs : List AVal} (S : Sl k h v n cs) (h2 : hi ≤ n) : ∃ v', cutV k v none (some (hi : Int)) none = some v' ∧ Sl k h v' hi (cs.take (hi * k)) := by
  obtain ⟨v', e1, e2⟩ := S.cut (lo := 0) (hi := hi) (Nat.zero_le _) h2
  refine ⟨v', ?_, by simpa using e2⟩
  rw [← e1]; rfl
end Go.Proofs.YtjjiemmkmndmnaaGreatDoor.AL
/- What a call makes may be let go, where its answer names none of it. -/
namespace Go.Proofs.YtjjiemmkmndmnaaGreatDoor.AL
set_option linter.unusedVariables false
set_option linter.unusedSimpArgs false
set_option maxRecDepth 100000
open Go
theorem grow_app {h h' : AHeap} (G : Grow h h') : h' = h ++ h'.drop h.length := by
  apply List.ext_getElem?
  intro i
  rcases Nat.lt_or_ge i h.length with hi | hi
  · rw [List.getElem?_append_left hi]; exact Keep.get G i hi (fun h => by cases h)
  · rw [List.getElem?_append_right hi, List.getElem?_drop]; congr 1; omega
theorem goneEnds {h h' : AHeap} {v : AVal} (G : Grow h h') (hc : v.closed = true) (hok : HOk h) (_ : h.length ≤ h'.length) : ABody.AEnds h h' (.ret v) fun e g => e = .ret v ∧ g = h := by
  rw [grow_app G]
  exact ends_same (L := h'.drop h.length) hok hc ⟨rfl, rfl⟩
noncomputable def goneR (x : Option (AVal × AHeap)) (h : AHeap) : Option AVal := x.bind fun r => (reqC (Grow h r.2 ∧ r.1.closed = true)).bind fun _ => some r.1
theorem goneR_some {x : Option (AVal × AHeap)} {h : AHeap} {v : AVal} (hx : goneR x h = some v) : ∃ h', x = some (v, h') ∧ Grow h h' ∧ v.closed = true := by
  unfold goneR at hx
  obtain ⟨r, h1, hx⟩ := Option.bind_eq_some_iff.1 hx
  obtain ⟨u, h2, hx⟩ := Option.bind_eq_some_iff.1 hx
  cases hx
  obtain ⟨h3, h4⟩ := reqC_some h2
  exact ⟨r.2, h1, h3, h4⟩
theorem goneR_of {x : Option (AVal × AHeap)} {h h' : AHeap} {v : AVal} (hx : x = some (v, h')) (G : Grow h h') (hc : v.closed = true) : goneR x h = some v := by
  unfold goneR
  rw [hx, Option.bind_some, reqC_true ⟨G, hc⟩]; rfl
end Go.Proofs.YtjjiemmkmndmnaaGreatDoor.AL
/- WorldNobody. -/
namespace Go.Proofs.YtjjiemmkmndmnaaGreatDoor.AL
set_option linter.unusedVariables false
set_option linter.unusedSimpArgs false
set_option maxRecDepth 100000
open Go
open Go.Proofs.Tryz
-- (*chainman/world.World).given: function 9
noncomputable def Eworld_World_given : XE := { T := tabOf [(4, r4), (26, r26), (27, r27), (28, r28), (30, r30), (50, r50)], C := [], D := [], Ms := [], Ml := [], Mo := [(1009, [11])], n := 12 }
theorem Eworld_World_given_ok : XE.Ok Eworld_World_given Tryz.prog := ⟨tabOf_ok (⟨r4_ok, ⟨r26_ok, ⟨r27_ok, ⟨r28_ok, ⟨r30_ok, ⟨r50_ok, trivial⟩⟩⟩⟩⟩⟩), trivial, ydOk_none, trivial⟩
noncomputable def c9 : Code := bodyOf f9
noncomputable def S_world_World_given (w0 : AVal) (h : AHeap) : Option (AVal × AHeap) := xfun Eworld_World_given f9 [w0] h
noncomputable def S_world_World_given_0 (t11 : Bool) (h : AHeap) : Option (AVal × AHeap) := jo Eworld_World_given 1 (rops (ca (cb c9))) ((rops (ca (cb c9))).toList.drop 9) 9 [(11, (.lit (.bool t11)))] h (kN (kSeq Eworld_World_given (cb (cb c9)) (xend Eworld_World_given f9)))
theorem S_world_World_given_eq (w0 : AVal) (h : AHeap) : S_world_World_given w0 h =
 (AVal.isNil .ptr w0).bind fun b1 =>
 bif (!b1) then ((nilCk w0).bind fun p2 =>
 (fieldP 0 p2).bind fun p3 =>
 (ld1 h p3).bind fun x4 =>
 (AVal.isNil .ptr x4).bind fun b5 =>
 S_world_World_given_0 (!b5) h)
 else (S_world_World_given_0 false h) := by kernel_rfl
theorem S_world_World_given_0_eq (t11 : Bool) (h : AHeap) : S_world_World_given_0 t11 h =
 some ((.lit (.bool t11)), h) := (jo_eq ..).trans (by kernel_rfl)
theorem S_world_World_given_ends {w0 : AVal} {h h' : AHeap} {v : AVal} {R : AEnd → AHeap → Prop} (hx : S_world_World_given w0 h = some (v, h')) (hR : HOk h → h.length ≤ h'.length → ABody.AEnds h h' (.ret v) R) : ACalls Tryz.prog 9 [w0] h R := xfun_ends Eworld_World_given_ok tmix (i := 9) (by rfl) (by kernel_rfl) (by kernel_rfl) hx hR
noncomputable def w_world_World_given : XC := .q fun R args h K => match args with
  | [a0] => (onlyR (S_world_World_given a0 h) h).bind fun r => K r
  | _ => none
theorem w_world_World_given_ok : XC.Nat w_world_World_given ∧ XC.Ok Tryz.prog 9 w_world_World_given := by
  refine ⟨fun R args h K => ?_, tc9, fun args h v hx => ?_⟩
  · dsimp only; split <;> simp [Option.bind_assoc, mkP]
  · dsimp only at hx; split at hx
    · obtain ⟨r, hopt, hx⟩ := Option.bind_eq_some_iff.1 hx
      cases hx
      exact (by have hopt := onlyR_some hopt; exact S_world_World_given_ends hopt selfR)
    · cases hx
noncomputable def w_world_World_up : XC := .l fun R args h K => match args with
  | [w] => (req (False)).bind fun _ => K w h
  | _ => none
theorem w_world_World_up_ok : XC.Nat w_world_World_up ∧ XC.Ok Tryz.prog 10 w_world_World_up := by
  refine ⟨fun R args h K => ?_, tc10, fun args h v h' hx => ?_⟩
  · dsimp only; split <;> simp [Option.bind_assoc, mkP]
  · dsimp only at hx; split at hx
    · obtain ⟨_, hpre, hx⟩ := Option.bind_eq_some_iff.1 hx
      have hpre := req_some hpre
      simp only [mkP, Option.some.injEq, Prod.mk.injEq] at hx
      obtain ⟨rfl, rfl⟩ := hx
      exact hpre.elim
    · cases hx
noncomputable def w_fs_Disk_Size : XC := .l fun R args h K => match args with
  | [d, .lit (.string s)] => (req (False)).bind fun _ => K (.tup [(.lit (.int .i64 0)), (.lit (.int .i64 0))]) h
  | _ => none
theorem w_fs_Disk_Size_ok : XC.Nat w_fs_Disk_Size ∧ XC.Ok Tryz.prog 11 w_fs_Disk_Size := by
  refine ⟨fun R args h K => ?_, tc11, fun args h v h' hx => ?_⟩
  · dsimp only; split <;> simp [Option.bind_assoc, mkP]
  · dsimp only at hx; split at hx
    · obtain ⟨_, hpre, hx⟩ := Option.bind_eq_some_iff.1 hx
      have hpre := req_some hpre
      simp only [mkP, Option.some.injEq, Prod.mk.injEq] at hx
      obtain ⟨rfl, rfl⟩ := hx
      exact hpre.elim
    · cases hx
noncomputable def w_fs_Disk_Read : XC := .l fun R args h K => match args with
  | [d, .lit (.string s), .lit (.int .i64 a), .lit (.int .i64 b)] => (req (False)).bind fun _ => K (.tup [(.lit (.string s)), (.lit (.int .i64 0))]) h
  | _ => none
theorem w_fs_Disk_Read_ok : XC.Nat w_fs_Disk_Read ∧ XC.Ok Tryz.prog 12 w_fs_Disk_Read := by
  refine ⟨fun R args h K => ?_, tc12, fun args h v h' hx => ?_⟩
  · dsimp only; split <;> simp [Option.bind_assoc, mkP]
  · dsimp only at hx; split at hx
    · obtain ⟨_, hpre, hx⟩ := Option.bind_eq_some_iff.1 hx
      have hpre := req_some hpre
      simp only [mkP, Option.some.injEq, Prod.mk.injEq] at hx
      obtain ⟨rfl, rfl⟩ := hx
      exact hpre.elim
    · cases hx
noncomputable def w_fs_Disk_Calls : XC := .l fun R args h K => match args with
  | [d] => (req (False)).bind fun _ => K (.lit (.int .i64 0)) h
  | _ => none
theorem w_fs_Disk_Calls_ok : XC.Nat w_fs_Disk_Calls ∧ XC.Ok Tryz.prog 13 w_fs_Disk_Calls := by
  refine ⟨fun R args h K => ?_, tc13, fun args h v h' hx => ?_⟩
  · dsimp only; split <;> simp [Option.bind_assoc, mkP]
  · dsimp only at hx; split at hx
    · obtain ⟨_, hpre, hx⟩ := Option.bind_eq_some_iff.1 hx
      have hpre := req_some hpre
      simp only [mkP, Option.some.injEq, Prod.mk.injEq] at hx
      obtain ⟨rfl, rfl⟩ := hx
      exact hpre.elim
    · cases hx
noncomputable def w_fs_Disk_Used : XC := .l fun R args h K => match args with
  | [d] => (req (False)).bind fun _ => K (.lit (.int .i64 0)) h
  | _ => none
theorem w_fs_Disk_Used_ok : XC.Nat w_fs_Disk_Used ∧ XC.Ok Tryz.prog 14 w_fs_Disk_Used := by
  refine ⟨fun R args h K => ?_, tc14, fun args h v h' hx => ?_⟩
  · dsimp only; split <;> simp [Option.bind_assoc, mkP]
  · dsimp only at hx; split at hx
    · obtain ⟨_, hpre, hx⟩ := Option.bind_eq_some_iff.1 hx
      have hpre := req_some hpre
      simp only [mkP, Option.some.injEq, Prod.mk.injEq] at hx
      obtain ⟨rfl, rfl⟩ := hx
      exact hpre.elim
    · cases hx
noncomputable def w_fs_Disk_List : XC := .l fun R args h K => match args with
  | [d] => (req (False)).bind fun _ => K (.tup [d, (.lit (.int .i64 0))]) h
  | _ => none
theorem w_fs_Disk_List_ok : XC.Nat w_fs_Disk_List ∧ XC.Ok Tryz.prog 15 w_fs_Disk_List := by
  refine ⟨fun R args h K => ?_, tc15, fun args h v h' hx => ?_⟩
  · dsimp only; split <;> simp [Option.bind_assoc, mkP]
  · dsimp only at hx; split at hx
    · obtain ⟨_, hpre, hx⟩ := Option.bind_eq_some_iff.1 hx
      have hpre := req_some hpre
      simp only [mkP, Option.some.injEq, Prod.mk.injEq] at hx
      obtain ⟨rfl, rfl⟩ := hx
      exact hpre.elim
    · cases hx
-- (*chainman/world.World).Read: function 4
noncomputable def Eworld_World_Read : XE := { T := tabOf [(3, r3), (4, r4), (9, r9), (26, r26), (27, r27), (34, r34)], C := [(9, w_world_World_given), (10, w_world_World_up), (11, w_fs_Disk_Size), (12, w_fs_Disk_Read)], D := [], Ms := [], Ml := [], Mo := [], n := 33 }
theorem Eworld_World_Read_ok : XE.Ok Eworld_World_Read Tryz.prog := ⟨tabOf_ok (⟨r3_ok, ⟨r4_ok, ⟨r9_ok, ⟨r26_ok, ⟨r27_ok, ⟨r34_ok, trivial⟩⟩⟩⟩⟩⟩), (⟨w_world_World_given_ok, ⟨w_world_World_up_ok, ⟨w_fs_Disk_Size_ok, ⟨w_fs_Disk_Read_ok, trivial⟩⟩⟩⟩), ydOk_none, trivial⟩
noncomputable def c4 : Code := bodyOf f4
noncomputable def S_world_World_Read (w0 : AVal) (name1 : ByteArray) (h : AHeap) : Option (AVal × AHeap) := xfun Eworld_World_Read f4 [w0, (.lit (.string name1))] h
theorem S_world_World_Read_eq (w0 : AVal) (name1 : ByteArray) (h : AHeap) : S_world_World_Read w0 name1 h =
 (onlyR (S_world_World_given w0 h) h).bind fun r1 =>
 (asB r1).bind fun b2 =>
 bif (!b2) then (some ((.tup [(.lit (.string (⟨#[]⟩ : ByteArray))), (.lit (.bool false))]), h))
 else ((req (False)).bind fun _ =>
 (req (False)).bind fun _ =>
 bif (!decide (0 = 0)) then (some ((.tup [(.lit (.string (⟨#[]⟩ : ByteArray))), (.lit (.bool false))]), h))
 else ((req (False)).bind fun _ =>
 some ((.tup [(.lit (.string name1)), (.lit (.bool (decide (0 = 0))))]), h))) := by kernel_rfl
theorem S_world_World_Read_ends {w0 : AVal} {name1 : ByteArray} {h h' : AHeap} {v : AVal} {R : AEnd → AHeap → Prop} (hx : S_world_World_Read w0 name1 h = some (v, h')) (hR : HOk h → h.length ≤ h'.length → ABody.AEnds h h' (.ret v) R) : ACalls Tryz.prog 4 [w0, (.lit (.string name1))] h R := xfun_ends Eworld_World_Read_ok tmix (i := 4) (by rfl) (by kernel_rfl) (by kernel_rfl) hx hR
-- (*chainman/world.World).Do: function 5
noncomputable def Eworld_World_Do : XE := { T := tabOf [(3, r3), (4, r4), (9, r9), (22, r22), (23, r23), (26, r26), (27, r27), (28, r28), (30, r30), (34, r34), (36, r36), (38, r38), (50, r50)], C := [(9, w_world_World_given), (13, w_fs_Disk_Calls), (14, w_fs_Disk_Used)], D := [(5, ⟨[], [0, 1, 2, 3, 4, 5, 6, 7, 8, 9, 10, 11, 12], [], [], [], [], []⟩), (6, ⟨[], [0, 1, 2, 3, 4, 5, 6, 7, 8, 9, 10], [], [], [], [], []⟩), (7, ⟨[], [0, 1, 2, 3, 4, 5, 6, 7, 8, 9, 10, 11, 12, 13], [14], [], [], [], []⟩)], Ms := [(6, [0, 3, 4, 5, 6, 28]), (7, [0, 4, 5, 6])], Ml := [], Mo := [], n := 53 }
theorem Eworld_World_Do_ok : XE.Ok Eworld_World_Do Tryz.prog := ⟨tabOf_ok (⟨r3_ok, ⟨r4_ok, ⟨r9_ok, ⟨r22_ok, ⟨r23_ok, ⟨r26_ok, ⟨r27_ok, ⟨r28_ok, ⟨r30_ok, ⟨r34_ok, ⟨r36_ok, ⟨r38_ok, ⟨r50_ok, trivial⟩⟩⟩⟩⟩⟩⟩⟩⟩⟩⟩⟩⟩), (⟨w_world_World_given_ok, ⟨w_fs_Disk_Calls_ok, ⟨w_fs_Disk_Used_ok, trivial⟩⟩⟩), ydOk_none, trivial⟩
noncomputable def c5 : Code := bodyOf f5
noncomputable def S_world_World_Do (w0 : AVal) (a1 : List AVal) (h : AHeap) : Option (AVal × AHeap) := xfun Eworld_World_Do f5 [w0, (.agg a1)] h
noncomputable def S_world_World_Do_0 (w0 : AVal) (a3 : Nat) (t4 : Nat) (was5 : Int) (e6 : Int) (t28 : Bool) (h : AHeap) : Option (AVal × AHeap) := jn (xexec Eworld_World_Do (cb (ca (cb (cb (cb (cb c5)))))) (AVal × AHeap) [(0, w0), (3, (.ptr a3 0)), (4, (.ptr t4 0)), (5, (.lit (.int .i64 was5))), (6, (.lit (.int .i64 e6))), (28, (.lit (.bool t28)))] h (kSeq Eworld_World_Do (cb (cb (cb (cb (cb c5))))) (xend Eworld_World_Do f5)))
noncomputable def S_world_World_Do_1 (w0 : AVal) (t4 : Nat) (was5 : Int) (e6 : Int) (h : AHeap) : Option (AVal × AHeap) := jn (xexec Eworld_World_Do (cb (cb (cb (cb (cb c5))))) (AVal × AHeap) [(0, w0), (4, (.ptr t4 0)), (5, (.lit (.int .i64 was5))), (6, (.lit (.int .i64 e6)))] h (xend Eworld_World_Do f5))
theorem S_world_World_Do_eq (w0 : AVal) (a1 : List AVal) (h : AHeap) : S_world_World_Do w0 a1 h =
 (onlyR (S_world_World_given w0 ((psh ((psh h (.cells a1))) (.cells [(.lit (.int .i64 0)), (.lit (.int .i64 0)), (.lit (.int .i64 0))])))) ((psh ((psh h (.cells a1))) (.cells [(.lit (.int .i64 0)), (.lit (.int .i64 0)), (.lit (.int .i64 0))])))).bind fun r1 =>
 (asB r1).bind fun b2 =>
 bif (!b2) then ((stn 3 ((psh ((psh h (.cells a1))) (.cells [(.lit (.int .i64 0)), (.lit (.int .i64 0)), (.lit (.int .i64 0))]))) (.ptr (((psh h (.cells a1))).length) 0) ([(.lit (.int .i64 1)), (.lit (.int .i64 0)), (.lit (.int .i64 0))])).bind fun h3 =>
 (ldn 3 h3 (.ptr (((psh h (.cells a1))).length) 0)).bind fun xs4 =>
 some ((.agg xs4), h3))
 else ((nilCk w0).bind fun p5 =>
 (fieldP 0 p5).bind fun p6 =>
 (ld1 ((psh ((psh h (.cells a1))) (.cells [(.lit (.int .i64 0)), (.lit (.int .i64 0)), (.lit (.int .i64 0))]))) p6).bind fun x7 =>
 (req (False)).bind fun _ =>
 (ld1 (((psh ((psh h (.cells a1))) (.cells [(.lit (.int .i64 0)), (.lit (.int .i64 0)), (.lit (.int .i64 0))])))) (.ptr h.length 0)).bind fun x8 =>
 (asI .i64 x8).bind fun n9 =>
 bif (decide (n9 ≥ 0)) then ((ld1 (((psh ((psh h (.cells a1))) (.cells [(.lit (.int .i64 0)), (.lit (.int .i64 0)), (.lit (.int .i64 0))])))) (.ptr h.length 0)).bind fun x10 =>
 (asI .i64 x10).bind fun n11 =>
 (nilCk w0).bind fun p12 =>
 (fieldP 1 p12).bind fun p13 =>
 (ld1 (((psh ((psh h (.cells a1))) (.cells [(.lit (.int .i64 0)), (.lit (.int .i64 0)), (.lit (.int .i64 0))])))) p13).bind fun x14 =>
 (lenV x14).bind fun n15 =>
 S_world_World_Do_0 w0 h.length (((psh h (.cells a1))).length) 0 1 (decide (n11 < n15)) (((psh ((psh h (.cells a1))) (.cells [(.lit (.int .i64 0)), (.lit (.int .i64 0)), (.lit (.int .i64 0))])))))
 else (S_world_World_Do_0 w0 h.length (((psh h (.cells a1))).length) 0 1 false (((psh ((psh h (.cells a1))) (.cells [(.lit (.int .i64 0)), (.lit (.int .i64 0)), (.lit (.int .i64 0))])))))) := by kernel_rfl
theorem S_world_World_Do_ends {w0 : AVal} {a1 : List AVal} {h h' : AHeap} {v : AVal} {R : AEnd → AHeap → Prop} (hx : S_world_World_Do w0 a1 h = some (v, h')) (hR : HOk h → h.length ≤ h'.length → ABody.AEnds h h' (.ret v) R) : ACalls Tryz.prog 5 [w0, (.agg a1)] h R := xfun_ends Eworld_World_Do_ok tmix (i := 5) (by rfl) (by kernel_rfl) (by kernel_rfl) hx hR
-- (*chainman/world.World).Names: function 7
noncomputable def Eworld_World_Names : XE := { T := tabOf [(4, r4), (9, r9), (26, r26), (27, r27), (34, r34), (40, r40)], C := [(9, w_world_World_given), (10, w_world_World_up), (15, w_fs_Disk_List)], D := [], Ms := [], Ml := [], Mo := [], n := 15 }
theorem Eworld_World_Names_ok : XE.Ok Eworld_World_Names Tryz.prog := ⟨tabOf_ok (⟨r4_ok, ⟨r9_ok, ⟨r26_ok, ⟨r27_ok, ⟨r34_ok, ⟨r40_ok, trivial⟩⟩⟩⟩⟩⟩), (⟨w_world_World_given_ok, ⟨w_world_World_up_ok, ⟨w_fs_Disk_List_ok, trivial⟩⟩⟩), ydOk_none, trivial⟩
noncomputable def c7 : Code := bodyOf f7
noncomputable def S_world_World_Names (w0 : AVal) (h : AHeap) : Option (AVal × AHeap) := xfun Eworld_World_Names f7 [w0] h
theorem S_world_World_Names_eq (w0 : AVal) (h : AHeap) : S_world_World_Names w0 h =
 (onlyR (S_world_World_given w0 h) h).bind fun r1 =>
 (asB r1).bind fun b2 =>
 bif (!b2) then (some ((.lit (.slice none 0 0)), h))
 else ((req (False)).bind fun _ =>
 (req (False)).bind fun _ =>
 some (w0, h)) := by kernel_rfl
theorem S_world_World_Names_ends {w0 : AVal} {h h' : AHeap} {v : AVal} {R : AEnd → AHeap → Prop} (hx : S_world_World_Names w0 h = some (v, h')) (hR : HOk h → h.length ≤ h'.length → ABody.AEnds h h' (.ret v) R) : ACalls Tryz.prog 7 [w0] h R := xfun_ends Eworld_World_Names_ok tmix (i := 7) (by rfl) (by kernel_rfl) (by kernel_rfl) hx hR
-- chainman/chainmanlaw41.of: function 6
noncomputable def Echainmanlaw41_of : XE := { T := tabOf [(3, r3), (9, r9), (22, r22), (23, r23), (25, r25), (38, r38)], C := [], D := [], Ms := [], Ml := [], Mo := [], n := 16 }
theorem Echainmanlaw41_of_ok : XE.Ok Echainmanlaw41_of Tryz.prog := ⟨tabOf_ok (⟨r3_ok, ⟨r9_ok, ⟨r22_ok, ⟨r23_ok, ⟨r25_ok, ⟨r38_ok, trivial⟩⟩⟩⟩⟩⟩), trivial, ydOk_none, trivial⟩
noncomputable def c6 : Code := bodyOf f6
noncomputable def S_chainmanlaw41_of (a0 : List AVal) (h : AHeap) : Option (AVal × AHeap) := xfun Echainmanlaw41_of f6 [(.agg a0)] h
theorem S_chainmanlaw41_of_eq (a0 : List AVal) (h : AHeap) : S_chainmanlaw41_of a0 h =
 (ld1 ((psh ((psh h (.cells a0))) (.cells [(.lit (.int .i64 0)), (.lit (.string ({ data := #[] }))), (.lit (.string ({ data := #[] }))), (.lit (.int .i64 0)), (.lit (.int .u32 0)), (.lit (.slice none 0 0))]))) (.ptr h.length 0)).bind fun x1 =>
 (asI .i64 x1).bind fun n2 =>
 (ld1 ((psh ((psh h (.cells a0))) (.cells [(.lit (.int .i64 0)), (.lit (.string ({ data := #[] }))), (.lit (.string ({ data := #[] }))), (.lit (.int .i64 0)), (.lit (.int .u32 0)), (.lit (.slice none 0 0))]))) (.ptr h.length 1)).bind fun x3 =>
 (asS x3).bind fun s4 =>
 (ld1 ((psh ((psh h (.cells a0))) (.cells [(.lit (.int .i64 0)), (.lit (.string ({ data := #[] }))), (.lit (.string ({ data := #[] }))), (.lit (.int .i64 0)), (.lit (.int .u32 0)), (.lit (.slice none 0 0))]))) (.ptr h.length 2)).bind fun x5 =>
 (asS x5).bind fun s6 =>
 (ld1 ((psh ((psh h (.cells a0))) (.cells [(.lit (.int .i64 0)), (.lit (.string ({ data := #[] }))), (.lit (.string ({ data := #[] }))), (.lit (.int .i64 0)), (.lit (.int .u32 0)), (.lit (.slice none 0 0))]))) (.ptr h.length 3)).bind fun x7 =>
 (asI .i64 x7).bind fun n8 =>
 (ld1 ((psh ((psh h (.cells a0))) (.cells [(.lit (.int .i64 0)), (.lit (.string ({ data := #[] }))), (.lit (.string ({ data := #[] }))), (.lit (.int .i64 0)), (.lit (.int .u32 0)), (.lit (.slice none 0 0))]))) (.ptr h.length 4)).bind fun x9 =>
 (asI .u32 x9).bind fun n10 =>
 (ld1 ((psh ((psh h (.cells a0))) (.cells [(.lit (.int .i64 0)), (.lit (.string ({ data := #[] }))), (.lit (.string ({ data := #[] }))), (.lit (.int .i64 0)), (.lit (.int .u32 0)), (.lit (.slice none 0 0))]))) (.ptr h.length 5)).bind fun x11 =>
 (aFill (fun i => [(0, 1), (1, 1), (2, 1), (3, 1), (4, 1), (5, 1)][i]?) [(.lit (.int .i64 0)), (.lit (.string ({ data := #[] }))), (.lit (.string ({ data := #[] }))), (.lit (.int .i64 0)), (.lit (.int .u32 0)), (.lit (.slice none 0 0))] [(0, (.lit (.int .i64 n2))), (1, (.lit (.string s4))), (2, (.lit (.string s6))), (3, (.lit (.int .i64 n8))), (4, (.lit (.int .u32 n10))), (5, x11)]).bind fun cs12 =>
 (stn 6 ((psh ((psh h (.cells a0))) (.cells [(.lit (.int .i64 0)), (.lit (.string ({ data := #[] }))), (.lit (.string ({ data := #[] }))), (.lit (.int .i64 0)), (.lit (.int .u32 0)), (.lit (.slice none 0 0))]))) (.ptr (((psh h (.cells a0))).length) 0) cs12).bind fun h13 =>
 (ldn 6 h13 (.ptr (((psh h (.cells a0))).length) 0)).bind fun xs14 =>
 some ((.agg xs14), h13) := by kernel_rfl
theorem S_chainmanlaw41_of_ends {a0 : List AVal} {h h' : AHeap} {v : AVal} {R : AEnd → AHeap → Prop} (hx : S_chainmanlaw41_of a0 h = some (v, h')) (hR : HOk h → h.length ≤ h'.length → ABody.AEnds h h' (.ret v) R) : ACalls Tryz.prog 6 [(.agg a0)] h R := xfun_ends Echainmanlaw41_of_ok tmix (i := 6) (by rfl) (by kernel_rfl) (by kernel_rfl) hx hR
noncomputable def w_chainmanlaw41_of : XC := .q fun R args h K => match args with
  | [.agg a0] => (goneR (S_chainmanlaw41_of a0 h) h).bind fun r => K r
  | _ => none
theorem w_chainmanlaw41_of_ok : XC.Nat w_chainmanlaw41_of ∧ XC.Ok Tryz.prog 6 w_chainmanlaw41_of := by
  refine ⟨fun R args h K => ?_, tc6, fun args h v hx => ?_⟩
  · dsimp only; split <;> simp [Option.bind_assoc, mkP]
  · dsimp only at hx; split at hx
    · obtain ⟨r, hopt, hx⟩ := Option.bind_eq_some_iff.1 hx
      cases hx
      exact (by obtain ⟨h', hopt, hg, hc⟩ := goneR_some hopt; exact S_chainmanlaw41_of_ends hopt (goneEnds hg hc))
    · cases hx
noncomputable def w_world_World_Read : XC := .q fun R args h K => match args with
  | [a0, .lit (.string a1)] => (onlyR (S_world_World_Read a0 a1 h) h).bind fun r => K r
  | _ => none
theorem w_world_World_Read_ok : XC.Nat w_world_World_Read ∧ XC.Ok Tryz.prog 4 w_world_World_Read := by
  refine ⟨fun R args h K => ?_, tc4, fun args h v hx => ?_⟩
  · dsimp only; split <;> simp [Option.bind_assoc, mkP]
  · dsimp only at hx; split at hx
    · obtain ⟨r, hopt, hx⟩ := Option.bind_eq_some_iff.1 hx
      cases hx
      exact (by have hopt := onlyR_some hopt; exact S_world_World_Read_ends hopt selfR)
    · cases hx
noncomputable def w_world_World_Do : XC := .q fun R args h K => match args with
  | [a0, .agg a1] => (goneR (S_world_World_Do a0 a1 h) h).bind fun r => K r
  | _ => none
theorem w_world_World_Do_ok : XC.Nat w_world_World_Do ∧ XC.Ok Tryz.prog 5 w_world_World_Do := by
  refine ⟨fun R args h K => ?_, tc5, fun args h v hx => ?_⟩
  · dsimp only; split <;> simp [Option.bind_assoc, mkP]
  · dsimp only at hx; split at hx
    · obtain ⟨r, hopt, hx⟩ := Option.bind_eq_some_iff.1 hx
      cases hx
      exact (by obtain ⟨h', hopt, hg, hc⟩ := goneR_some hopt; exact S_world_World_Do_ends hopt (goneEnds hg hc))
    · cases hx
noncomputable def w_world_World_Names : XC := .q fun R args h K => match args with
  | [a0] => (onlyR (S_world_World_Names a0 h) h).bind fun r => K r
  | _ => none
theorem w_world_World_Names_ok : XC.Nat w_world_World_Names ∧ XC.Ok Tryz.prog 7 w_world_World_Names := by
  refine ⟨fun R args h K => ?_, tc7, fun args h v hx => ?_⟩
  · dsimp only; split <;> simp [Option.bind_assoc, mkP]
  · dsimp only at hx; split at hx
    · obtain ⟨r, hopt, hx⟩ := Option.bind_eq_some_iff.1 hx
      cases hx
      exact (by have hopt := onlyR_some hopt; exact S_world_World_Names_ends hopt selfR)
    · cases hx
noncomputable def w_chainmanlaw41_awake : XC := .p fun R args K => match args with
  | [] => K (.lit (.bool true))
  | _ => none
theorem w_chainmanlaw41_awake_ok : XC.Nat w_chainmanlaw41_awake ∧ XC.Ok Tryz.prog 8 w_chainmanlaw41_awake := by
  refine ⟨fun R args K => ?_, tc8, fun args h v hx => ?_⟩
  · dsimp only; split <;> simp [Option.bind_assoc, mkP]
  · dsimp only at hx; split at hx
    · cases hx
      exact awake41_run _
    · cases hx
-- chainman/chainmanlaw41.WorldNobody: function 3
noncomputable def Echainmanlaw41_WorldNobody : XE := { T := tabOf [(3, r3), (4, r4), (9, r9), (22, r22), (23, r23), (25, r25), (26, r26), (27, r27), (28, r28), (30, r30), (31, r31), (34, r34), (36, r36), (38, r38), (40, r40), (50, r50)], C := [(4, w_world_World_Read), (5, w_world_World_Do), (6, w_chainmanlaw41_of), (7, w_world_World_Names), (8, w_chainmanlaw41_awake)], D := [(5, ⟨[], [0, 1, 2, 3, 4, 5, 6, 7, 8, 9, 10, 11], [], [], [], [], []⟩), (6, ⟨[], [0, 1, 2, 3, 4, 5, 6, 7, 8, 9, 10, 11, 12, 13, 14, 15, 16, 17, 18, 19, 20], [], [], [], [], []⟩)], Ms := [(7, [1, 3, 4, 46]), (8, [])], Ml := [(3, [1, 3, 4])], Mo := [], n := 48 }
theorem Echainmanlaw41_WorldNobody_ok : XE.Ok Echainmanlaw41_WorldNobody Tryz.prog := ⟨tabOf_ok (⟨r3_ok, ⟨r4_ok, ⟨r9_ok, ⟨r22_ok, ⟨r23_ok, ⟨r25_ok, ⟨r26_ok, ⟨r27_ok, ⟨r28_ok, ⟨r30_ok, ⟨r31_ok, ⟨r34_ok, ⟨r36_ok, ⟨r38_ok, ⟨r40_ok, ⟨r50_ok, trivial⟩⟩⟩⟩⟩⟩⟩⟩⟩⟩⟩⟩⟩⟩⟩⟩), (⟨w_world_World_Read_ok, ⟨w_world_World_Do_ok, ⟨w_chainmanlaw41_of_ok, ⟨w_world_World_Names_ok, ⟨w_chainmanlaw41_awake_ok, trivial⟩⟩⟩⟩⟩), ydOk_none, trivial⟩
noncomputable def c3 : Code := bodyOf f3
noncomputable def S_chainmanlaw41_WorldNobody (a0 : List AVal) (h : AHeap) : Option (AVal × AHeap) := xfun Echainmanlaw41_WorldNobody f3 [(.agg a0)] h
noncomputable def S_chainmanlaw41_WorldNobody_0 (a1 : Nat) (l3 : AVal) (i4 : Int) (h : AHeap) : Option (AVal × AHeap) := xexec Echainmanlaw41_WorldNobody (.loop (ca (ca (cb (ca (cb (cb c3))))))) (AVal × AHeap) [(1, (.ptr a1 0)), (3, l3), (4, (.lit (.int .i64 i4)))] h (kBlk 0 (kSeq Echainmanlaw41_WorldNobody (cb (cb (cb c3))) (xend Echainmanlaw41_WorldNobody f3)))
noncomputable def S_chainmanlaw41_WorldNobody_1 (a1 : Nat) (l3 : AVal) (i4 : Int) (t46 : Bool) (h : AHeap) : Option (AVal × AHeap) := jn (xexec Echainmanlaw41_WorldNobody (cb (cb (ca (ca (cb (ca (ca (cb (ca (cb (cb c3))))))))))) (AVal × AHeap) [(1, (.ptr a1 0)), (3, l3), (4, (.lit (.int .i64 i4))), (46, (.lit (.bool t46)))] h (kBlk 1 (kSeq Echainmanlaw41_WorldNobody (cb (cb (ca (ca (cb (ca (cb (cb c3)))))))) (kLoop Echainmanlaw41_WorldNobody (ca (ca (cb (ca (cb (cb c3)))))) (kBlk 0 (kSeq Echainmanlaw41_WorldNobody (cb (cb (cb c3))) (xend Echainmanlaw41_WorldNobody f3)))))))
noncomputable def S_chainmanlaw41_WorldNobody_2  (h : AHeap) : Option (AVal × AHeap) := jn (xexec Echainmanlaw41_WorldNobody (cb (cb (cb c3))) (AVal × AHeap) [] h (xend Echainmanlaw41_WorldNobody f3))
theorem S_chainmanlaw41_WorldNobody_eq (a0 : List AVal) (h : AHeap) : S_chainmanlaw41_WorldNobody a0 h =
 (blitS 1 [(.lit (.pointer none))] 2 [(0, (.lit (.pointer none))), (1, (.ptr (((psh h (.cells a0))).length) 0))] ((psh ((psh h (.cells a0))) (.cells ([(.lit (.pointer none)), (.lit (.slice none 0 0))]))))).bind fun r1 =>
 S_chainmanlaw41_WorldNobody_0 h.length r1.1 0 r1.2 := by kernel_rfl
theorem S_chainmanlaw41_WorldNobody_0_eq (a1 : Nat) (l3 : AVal) (i4 : Int) (h : AHeap) : S_chainmanlaw41_WorldNobody_0 a1 l3 i4 h =
 (lenV l3).bind fun n2 =>
 bif (decide (i4 < n2)) then ((idxP 1 l3 i4).bind fun p3 =>
 (ld1 h p3).bind fun x4 =>
 (ld1 h (.ptr a1 1)).bind fun x5 =>
 (asS x5).bind fun s6 =>
 (onlyR (S_world_World_Read x4 s6 h) h).bind fun r7 =>
 (xExtract r7 0).bind fun x8 =>
 (asS x8).bind fun s9 =>
 (xExtract r7 1).bind fun x10 =>
 (asB x10).bind fun b11 =>
 (idxP 1 l3 i4).bind fun p12 =>
 (ld1 h p12).bind fun x13 =>
 (ldn 6 h (.ptr a1 0)).bind fun xs14 =>
 (goneR (S_chainmanlaw41_of xs14 h) h).bind fun r15 =>
 (asA r15).bind fun xs16 =>
 (goneR (S_world_World_Do x13 xs16 h) h).bind fun r17 =>
 (asA r17).bind fun xs18 =>
 (leafEq [.int, .int, .int] xs18 ([(.lit (.int .i64 1)), (.lit (.int .i64 0)), (.lit (.int .i64 0))])).bind fun b19 =>
 bif (!b19) then (S_chainmanlaw41_WorldNobody_1 a1 l3 i4 true h)
 else (bif b11 then (S_chainmanlaw41_WorldNobody_1 a1 l3 i4 true h)
 else ((idxP 1 l3 i4).bind fun p20 =>
 (ld1 h p20).bind fun x21 =>
 (onlyR (S_world_World_Names x21 h) h).bind fun r22 =>
 (lenV r22).bind fun n23 =>
 S_chainmanlaw41_WorldNobody_1 a1 l3 i4 (decide (n23 > 0)) h)))
 else (S_chainmanlaw41_WorldNobody_2 h) := (xexec_loop Echainmanlaw41_WorldNobody Echainmanlaw41_WorldNobody_ok.C.nat _ _ _ _ _).trans (by kernel_rfl)
theorem S_chainmanlaw41_WorldNobody_1_eq (a1 : Nat) (l3 : AVal) (i4 : Int) (t46 : Bool) (h : AHeap) : S_chainmanlaw41_WorldNobody_1 a1 l3 i4 t46 h =
 bif t46 then (some ((.lit (.bool false)), h))
 else (S_chainmanlaw41_WorldNobody_0 a1 l3 (IntKind.wrap .i64 (i4 + 1)) h) := (jn_eq _).trans (by kernel_rfl)
theorem S_chainmanlaw41_WorldNobody_2_eq  (h : AHeap) : S_chainmanlaw41_WorldNobody_2  h =
 some ((.lit (.bool true)), h) := (jn_eq _).trans (by kernel_rfl)
theorem S_chainmanlaw41_WorldNobody_ends {a0 : List AVal} {h h' : AHeap} {v : AVal} {R : AEnd → AHeap → Prop} (hx : S_chainmanlaw41_WorldNobody a0 h = some (v, h')) (hR : HOk h → h.length ≤ h'.length → ABody.AEnds h h' (.ret v) R) : ACalls Tryz.prog 3 [(.agg a0)] h R := xfun_ends Echainmanlaw41_WorldNobody_ok tmix (i := 3) (by rfl) (by kernel_rfl) (by kernel_rfl) hx hR
def NoW (h : AHeap) (d : AVal) : Prop := d = .lit (.pointer none) ∨ ∃ b cs, d = .ptr b 0 ∧ cellsAt h b = some (.lit (.pointer none) :: cs)
theorem NoW.psh {h : AHeap} {d : AVal} (hd : NoW h d) (o : AObj) : NoW (psh h o) d := by
  rcases hd with rfl | ⟨b, cs, rfl, hc⟩
  · exact .inl rfl
  · exact .inr ⟨b, cs, rfl, cellsAt_psh _ hc⟩
theorem givw_no {h : AHeap} {d : AVal} (hd : NoW h d) : onlyR (S_world_World_given d h) h = some (.lit (.bool false)) := by
  have : S_world_World_given d h = some (.lit (.bool false), h) := by
    rw [S_world_World_given_eq]
    rcases hd with rfl | ⟨b, cs, rfl, hc⟩
    · show S_world_World_given_0 false h = _
      rw [S_world_World_given_0_eq]
    · show (ld1 h (.ptr b (0 + 0))).bind _ = _
      rw [ld1_of hc]
      show S_world_World_given_0 false h = _
      rw [S_world_World_given_0_eq]
  rw [this]; exact onlyR_same _ _
theorem wread_no {h : AHeap} {d : AVal} (hd : NoW h d) (name : ByteArray) : onlyR (S_world_World_Read d name h) h = some (.tup [.lit (.string (⟨#[]⟩ : ByteArray)), .lit (.bool false)]) := by
  have : S_world_World_Read d name h = some (.tup [.lit (.string (⟨#[]⟩ : ByteArray)), .lit (.bool false)], h) := by
    rw [S_world_World_Read_eq]
    exact bd (givw_no hd) (bd rfl (cT rfl rfl))
  rw [this]; exact onlyR_same _ _
theorem wnames_no {h : AHeap} {d : AVal} (hd : NoW h d) : onlyR (S_world_World_Names d h) h = some (.lit (.slice none 0 0)) := by
  have : S_world_World_Names d h = some (.lit (.slice none 0 0), h) := by
    rw [S_world_World_Names_eq]
    exact bd (givw_no hd) (bd rfl (cT rfl rfl))
  rw [this]; exact onlyR_same _ _
theorem grow_two (h : AHeap) (x y : AObj) : Grow h (psh (psh h x) y) := (Keep.psh x (Nat.le_refl _)).trans (Keep.psh y (by rw [psh_length]; omega))
theorem wdo_no {h : AHeap} {d : AVal} (hd : NoW h d) (xs : List AVal) : goneR (S_world_World_Do d xs h) h = some (.agg [.lit (.int .i64 1), .lit (.int .i64 0), .lit (.int .i64 0)]) := by
  refine goneR_of (h' := psh (psh h (.cells xs)) (.cells [.lit (.int .i64 1), .lit (.int .i64 0), .lit (.int .i64 0)])) ?_ (grow_two _ _ _) rfl
  rw [S_world_World_Do_eq]
  exact bd (givw_no ((hd.psh _).psh _)) (bd rfl (cT rfl (bd (stn_new rfl rfl rfl) (bd (ldn_of (cellsAt_new _ _) (by simp)) rfl))))
/-- What a list that came in is. -/
def KeepOk (k : AVal) : Prop := k = .lit (.slice none 0 0) ∨ ∃ cs n, k = .ros cs n ∧ closedL cs = true
theorem ints_closed {H : Type} : ∀ {es : List (DataW H)}, (∀ x ∈ es, Fits (.int .i64) x) → closedL (absDs es) = true
  | [], _ => rfl
  | d :: es, h => by
    have h1 := h d (List.mem_cons_self ..)
    simp only [Fits] at h1
    obtain ⟨n, rfl, _, _⟩ := h1
    show closedL (absD _ ++ absDs es) = true
    simp only [absD, litV, List.cons_append, List.nil_append, closedL, AVal.closed, Bool.true_and]
    exact ints_closed fun x hx => h x (List.mem_cons_of_mem _ hx)
theorem keep_ok {H : Type} {d : DataW H} {k : AVal} (q : (k = .lit (.slice none 0 0) ∧ d = .nil) ∨ ∃ es sp, d = .slice es sp ∧ k = .ros (absDs es) es.length ∧ es.length ≤ maxLen ∧ ∀ x ∈ es, Fits (.int .i64) x) : KeepOk k := by
  rcases q with ⟨rfl, _⟩ | ⟨es, sp, _, rfl, _, hf⟩
  · exact .inl rfl
  · exact .inr ⟨_, _, rfl, ints_closed hf⟩
abbrev actC (kind : Int) (name s : ByteArray) (n bits : Int) (keep : AVal) : List AVal := [.lit (.int .i64 kind), .lit (.string name), .lit (.string s), .lit (.int .i64 n), .lit (.int .u32 bits), keep]
section law
variable {kind : Int} {name s : ByteArray} {n bits : Int} {keep : AVal}
theorem of_no (hk : KeepOk keep) (h : AHeap) : goneR (S_chainmanlaw41_of (actC kind name s n bits keep) h) h = some (.agg (actC kind name s n bits keep)) := by
  have key : S_chainmanlaw41_of (actC kind name s n bits keep) h = some (.agg (actC kind name s n bits keep), psh (psh h (.cells (actC kind name s n bits keep))) (.cells (actC kind name s n bits keep))) := by
    have c : cellsAt (psh (psh h (.cells (actC kind name s n bits keep))) (.cells [(.lit (.int .i64 0)), (.lit (.string ({ data := #[] }))), (.lit (.string ({ data := #[] }))), (.lit (.int .i64 0)), (.lit (.int .u32 0)), (.lit (.slice none 0 0))])) h.length = some (actC kind name s n bits keep) := cellsAt_psh _ (cellsAt_new h _)
    rw [S_chainmanlaw41_of_eq]
    refine bd (ld1_of c) (bd rfl (bd (ld1_of c) (bd rfl (bd (ld1_of c) (bd rfl (bd (ld1_of c) (bd rfl (bd (ld1_of c) (bd rfl (bd (ld1_of c) ?_))))))))))
    rcases hk with rfl | ⟨cs, m, rfl, hc⟩
    · exact bd rfl (bd (stn_new rfl rfl rfl) (bd (ldn_of (cellsAt_new _ _) (show 6 ≤ 6 from Nat.le_refl 6)) rfl))
    · exact bd rfl (bd (stn_new rfl rfl rfl) (bd (ldn_of (cellsAt_new _ _) (show 6 ≤ 6 from Nat.le_refl 6)) rfl))
  refine goneR_of key (grow_two _ _ _) ?_
  rcases hk with rfl | ⟨cs, m, rfl, hc⟩
  · rfl
  · simp [AVal.closed, closedL, hc]
theorem nob_run (hk : KeepOk keep) : ∃ g, S_chainmanlaw41_WorldNobody (actC kind name s n bits keep) [] = some (.lit (.bool true), g) := by
  obtain ⟨H, hH⟩ : ∃ H : AHeap, H = [.cells (actC kind name s n bits keep), .cells [.lit (.pointer none), .lit (.slice none 0 0)], .cells [.lit (.pointer none), .ptr 1 0]] := ⟨_, rfl⟩
  have start : S_chainmanlaw41_WorldNobody (actC kind name s n bits keep) [] = S_chainmanlaw41_WorldNobody_0 0 (.sl 1 2 0 2) 0 H := by rw [S_chainmanlaw41_WorldNobody_eq, hH]; rfl
  have c0 : cellsAt H 0 = some (actC kind name s n bits keep) := by rw [hH]; rfl
  have c1 : cellsAt H 1 = some [.lit (.pointer none), .lit (.slice none 0 0)] := by rw [hH]; rfl
  have c2 : cellsAt H 2 = some [.lit (.pointer none), .ptr 1 0] := by rw [hH]; rfl
  have one : ∀ (i : Nat) (w : AVal), NoW H w → i < 2 → ld1 H (.ptr 2 i) = some w → S_chainmanlaw41_WorldNobody_0 0 (.sl 1 2 0 2) (i : Int) H = S_chainmanlaw41_WorldNobody_0 0 (.sl 1 2 0 2) ((i + 1 : Nat) : Int) H := fun i w hw hi hl => by
    have hx : idxP 1 (.sl 1 2 0 2) (i : Int) = some (.ptr 2 i) := by
      match i, hi with
      | 0, _ => rfl
      | 1, _ => rfl
    rw [S_chainmanlaw41_WorldNobody_0_eq]
    refine bd rfl (cT (decide_eq_true (by omega)) (bd hx (bd hl (bd (ld1_of c0) (bd rfl (bd (wread_no hw name) (bd rfl (bd rfl (bd rfl (bd rfl (bd hx (bd hl (bd (ldn_of c0 (by simp)) (bd (of_no hk H) (bd rfl (bd (wdo_no hw _) (bd rfl (bd (a := true) rfl (cF rfl (cF rfl (bd hx (bd hl (bd (wnames_no hw) (bd rfl ?_))))))))))))))))))))))))
    show S_chainmanlaw41_WorldNobody_1 0 (.sl 1 2 0 2) (i : Int) false H = _
    rw [S_chainmanlaw41_WorldNobody_1_eq, wrap_i64 (by omega) (by omega), show (i : Int) + 1 = ((i + 1 : Nat) : Int) by omega]
    rfl
  refine ⟨H, ?_⟩
  rw [start]
  refine (one 0 _ (.inl rfl) (by omega) (ld1_of c2)).trans ((one 1 _ (.inr ⟨1, _, rfl, c1⟩) (by omega) (ld1_of c2)).trans ?_)
  rw [S_chainmanlaw41_WorldNobody_0_eq]
  exact bd rfl (cF rfl (by rw [S_chainmanlaw41_WorldNobody_2_eq]))
theorem worldNobody (hk : KeepOk keep) : ACalls Tryz.prog 3 [.agg (actC kind name s n bits keep)] [] fun e h' => e = .ret (.lit (.bool true)) ∧ True := by
  obtain ⟨g, e⟩ := nob_run (kind := kind) (name := name) (s := s) (n := n) (bits := bits) hk
  exact S_chainmanlaw41_WorldNobody_ends e fun hok _ => ends_same (h0 := []) (L := g) hok rfl ⟨rfl, trivial⟩
end law
end Go.Proofs.YtjjiemmkmndmnaaGreatDoor.AL
