/- What was kept stays. -/
import Derived.Test.YtglmofbcooefkaaAwFs
import Derived.Test.YtglmofbcooefkaaDiskRise
namespace Go.Proofs.Ytglmofbcooefkaa.AL
set_option linter.unusedVariables false
set_option linter.unusedSimpArgs false
set_option maxRecDepth 100000
open Go
open Go.Proofs.Try
noncomputable def w_chainmanlaw04_awake : XC := .p fun R args K => match args with
  | [] => K (.lit (.bool true))
  | _ => none
theorem w_chainmanlaw04_awake_ok : XC.Nat w_chainmanlaw04_awake ∧ XC.Ok Try.prog 5 w_chainmanlaw04_awake := by
  refine ⟨fun R args K => ?_, tc5, fun args h v hx => ?_⟩
  · dsimp only; split <;> simp [Option.bind_assoc, mkP]
  · dsimp only at hx; split at hx
    · cases hx
      exact awake04_run _
    · cases hx
-- chainman/chainmanlaw04.FsKept: function 3
noncomputable def Echainmanlaw04_FsKept : XE := { T := tabOf [(3, r3), (4, r4), (5, r5), (9, r9), (22, r22), (23, r23), (24, r24), (26, r26), (27, r27)], C := [(5, w_chainmanlaw04_awake), (6, w_fs_New), (7, w_fs_Disk_Create), (8, w_fs_Disk_Clone), (9, w_fs_Disk_Arm), (10, w_fs_Disk_Append), (11, w_fs_Disk_Sync), (12, w_fs_Disk_Rise), (13, w_fs_Disk_Size), (14, w_fs_Disk_Read)], D := [], Ms := [(11, [0, 1, 3, 9, 11, 12, 13, 14]), (16, [0, 1, 3, 9, 11, 12, 13, 14]), (18, [3, 9, 11, 12, 13])], Ml := [(10, [0, 1, 3, 9, 11, 12, 13, 14])], Mo := [(1008, [0, 1, 2, 3, 28]), (4007, [0, 1, 2, 3, 9, 40]), (16010, [0, 1, 3, 9, 11, 12, 13, 14, 83]), (16015, [0, 1, 3, 9, 11, 12, 13, 14, 88]), (22006, [12, 13, 15, 17, 19, 20, 114]), (22010, [12, 13, 15, 17, 19, 118]), (22014, [12, 13, 15, 17, 122]), (22020, [12, 15, 17, 128]), (22026, [12, 15, 17, 134]), (22033, [141]), (22036, [144])], n := 145 }
theorem Echainmanlaw04_FsKept_ok : XE.Ok Echainmanlaw04_FsKept Try.prog := ⟨tabOf_ok (⟨r3_ok, ⟨r4_ok, ⟨r5_ok, ⟨r9_ok, ⟨r22_ok, ⟨r23_ok, ⟨r24_ok, ⟨r26_ok, ⟨r27_ok, trivial⟩⟩⟩⟩⟩⟩⟩⟩⟩), ⟨w_chainmanlaw04_awake_ok, ⟨w_fs_New_ok, ⟨w_fs_Disk_Create_ok, ⟨w_fs_Disk_Clone_ok, ⟨w_fs_Disk_Arm_ok, ⟨w_fs_Disk_Append_ok, ⟨w_fs_Disk_Sync_ok, ⟨w_fs_Disk_Rise_ok, ⟨w_fs_Disk_Size_ok, ⟨w_fs_Disk_Read_ok, trivial⟩⟩⟩⟩⟩⟩⟩⟩⟩⟩⟩
noncomputable def c3 : Code := bodyOf f3
noncomputable def S_chainmanlaw04_FsKept (pieces0 : AVal) (syncs1 : AVal) (fuse2 : Int) (keep3 : AVal) (h : AHeap) : Option (AVal × AHeap) := xfun Echainmanlaw04_FsKept f3 [pieces0, syncs1, (.lit (.int .u8 fuse2)), keep3] h
noncomputable def S_chainmanlaw04_FsKept_0 (pieces0 : AVal) (syncs1 : AVal) (fuse2 : Int) (keep3 : AVal) (t28 : Bool) (h : AHeap) : Option (AVal × AHeap) := jo Echainmanlaw04_FsKept 1 (rops (ca (ca (cb c3)))) ((rops (ca (ca (cb c3)))).toList.drop 8) 8 [(0, pieces0), (1, syncs1), (2, (.lit (.int .u8 fuse2))), (3, keep3), (28, (.lit (.bool t28)))] h (kN (kSeq Echainmanlaw04_FsKept (cb (ca (cb c3))) (kSeq Echainmanlaw04_FsKept (cb (cb c3)) (xend Echainmanlaw04_FsKept f3))))
noncomputable def S_chainmanlaw04_FsKept_1 (pieces0 : AVal) (syncs1 : AVal) (fuse2 : Int) (keep3 : AVal) (d9 : AVal) (t40 : Bool) (h : AHeap) : Option (AVal × AHeap) := jo Echainmanlaw04_FsKept 4 (rops (ca (ca (cb (cb (cb c3)))))) ((rops (ca (ca (cb (cb (cb c3)))))).toList.drop 7) 7 [(0, pieces0), (1, syncs1), (2, (.lit (.int .u8 fuse2))), (3, keep3), (9, d9), (40, (.lit (.bool t40)))] h (kN (kSeq Echainmanlaw04_FsKept (cb (ca (cb (cb (cb c3))))) (kSeq Echainmanlaw04_FsKept (cb (cb (cb (cb c3)))) (xend Echainmanlaw04_FsKept f3))))
noncomputable def S_chainmanlaw04_FsKept_2 (pieces0 : AVal) (syncs1 : AVal) (keep3 : AVal) (d9 : AVal) (c11 : AVal) (all12 : ByteArray) (kept13 : ByteArray) (i14 : Int) (h : AHeap) : Option (AVal × AHeap) := xexec Echainmanlaw04_FsKept (.loop (ca (ca (cb (ca (cb (cb (cb (cb (cb (cb (cb c3)))))))))))) (AVal × AHeap) [(0, pieces0), (1, syncs1), (3, keep3), (9, d9), (11, c11), (12, (.lit (.string all12))), (13, (.lit (.string kept13))), (14, (.lit (.int .i64 i14)))] h (kBlk 0 (kSeq Echainmanlaw04_FsKept (cb (cb (cb (cb (cb (cb (cb (cb c3)))))))) (xend Echainmanlaw04_FsKept f3)))
noncomputable def S_chainmanlaw04_FsKept_3 (pieces0 : AVal) (syncs1 : AVal) (keep3 : AVal) (d9 : AVal) (c11 : AVal) (all12 : ByteArray) (kept13 : ByteArray) (i14 : Int) (h : AHeap) : Option (AVal × AHeap) := jn (xexec Echainmanlaw04_FsKept (cb (cb (ca (ca (cb (ca (ca (cb (ca (cb (cb (cb (cb (cb (cb (cb c3)))))))))))))))) (AVal × AHeap) [(0, pieces0), (1, syncs1), (3, keep3), (9, d9), (11, c11), (12, (.lit (.string all12))), (13, (.lit (.string kept13))), (14, (.lit (.int .i64 i14)))] h (kBlk 1 (kSeq Echainmanlaw04_FsKept (cb (cb (ca (ca (cb (ca (cb (cb (cb (cb (cb (cb (cb c3))))))))))))) (kLoop Echainmanlaw04_FsKept (ca (ca (cb (ca (cb (cb (cb (cb (cb (cb (cb c3))))))))))) (kBlk 0 (kSeq Echainmanlaw04_FsKept (cb (cb (cb (cb (cb (cb (cb (cb c3)))))))) (xend Echainmanlaw04_FsKept f3)))))))
noncomputable def S_chainmanlaw04_FsKept_4 (keep3 : AVal) (d9 : AVal) (c11 : AVal) (all12 : ByteArray) (kept13 : ByteArray) (h : AHeap) : Option (AVal × AHeap) := jn (xexec Echainmanlaw04_FsKept (cb (cb (cb (cb (cb (cb (cb (cb c3)))))))) (AVal × AHeap) [(3, keep3), (9, d9), (11, c11), (12, (.lit (.string all12))), (13, (.lit (.string kept13)))] h (xend Echainmanlaw04_FsKept f3))
noncomputable def S_chainmanlaw04_FsKept_5 (pieces0 : AVal) (syncs1 : AVal) (keep3 : AVal) (d9 : AVal) (c11 : AVal) (all12 : ByteArray) (kept13 : ByteArray) (i14 : Int) (t83 : Bool) (h : AHeap) : Option (AVal × AHeap) := jo Echainmanlaw04_FsKept 16 (rops (ca (cb (cb (ca (ca (cb (ca (ca (cb (ca (cb (cb (cb (cb (cb (cb (cb c3)))))))))))))))))) ((rops (ca (cb (cb (ca (ca (cb (ca (ca (cb (ca (cb (cb (cb (cb (cb (cb (cb c3)))))))))))))))))).toList.drop 10) 10 [(0, pieces0), (1, syncs1), (3, keep3), (9, d9), (11, c11), (12, (.lit (.string all12))), (13, (.lit (.string kept13))), (14, (.lit (.int .i64 i14))), (83, (.lit (.bool t83)))] h (kN (kSeq Echainmanlaw04_FsKept (cb (cb (cb (ca (ca (cb (ca (ca (cb (ca (cb (cb (cb (cb (cb (cb (cb c3))))))))))))))))) (kBlk 1 (kSeq Echainmanlaw04_FsKept (cb (cb (ca (ca (cb (ca (cb (cb (cb (cb (cb (cb (cb c3))))))))))))) (kLoop Echainmanlaw04_FsKept (ca (ca (cb (ca (cb (cb (cb (cb (cb (cb (cb c3))))))))))) (kBlk 0 (kSeq Echainmanlaw04_FsKept (cb (cb (cb (cb (cb (cb (cb (cb c3)))))))) (xend Echainmanlaw04_FsKept f3))))))))
noncomputable def S_chainmanlaw04_FsKept_6 (all12 : ByteArray) (kept13 : ByteArray) (n15 : Int) (s17 : ByteArray) (m19 : Int) (h20 : Int) (t114 : Bool) (h : AHeap) : Option (AVal × AHeap) := jo Echainmanlaw04_FsKept 22 (rops (ca (cb (cb (cb (cb (cb (cb (cb (cb (cb (cb (cb (cb c3)))))))))))))) ((rops (ca (cb (cb (cb (cb (cb (cb (cb (cb (cb (cb (cb (cb c3)))))))))))))).toList.drop 6) 6 [(12, (.lit (.string all12))), (13, (.lit (.string kept13))), (15, (.lit (.int .i64 n15))), (17, (.lit (.string s17))), (19, (.lit (.int .i64 m19))), (20, (.lit (.int .i64 h20))), (114, (.lit (.bool t114)))] h (kN (kSeq Echainmanlaw04_FsKept (cb (cb (cb (cb (cb (cb (cb (cb (cb (cb (cb (cb (cb c3))))))))))))) (xend Echainmanlaw04_FsKept f3)))
noncomputable def S_chainmanlaw04_FsKept_7 (pieces0 : AVal) (syncs1 : AVal) (keep3 : AVal) (d9 : AVal) (c11 : AVal) (all12 : ByteArray) (kept13 : ByteArray) (i14 : Int) (t88 : Bool) (h : AHeap) : Option (AVal × AHeap) := jo Echainmanlaw04_FsKept 16 (rops (ca (cb (cb (ca (ca (cb (ca (ca (cb (ca (cb (cb (cb (cb (cb (cb (cb c3)))))))))))))))))) ((rops (ca (cb (cb (ca (ca (cb (ca (ca (cb (ca (cb (cb (cb (cb (cb (cb (cb c3)))))))))))))))))).toList.drop 15) 15 [(0, pieces0), (1, syncs1), (3, keep3), (9, d9), (11, c11), (12, (.lit (.string all12))), (13, (.lit (.string kept13))), (14, (.lit (.int .i64 i14))), (88, (.lit (.bool t88)))] h (kN (kSeq Echainmanlaw04_FsKept (cb (cb (cb (ca (ca (cb (ca (ca (cb (ca (cb (cb (cb (cb (cb (cb (cb c3))))))))))))))))) (kBlk 1 (kSeq Echainmanlaw04_FsKept (cb (cb (ca (ca (cb (ca (cb (cb (cb (cb (cb (cb (cb c3))))))))))))) (kLoop Echainmanlaw04_FsKept (ca (ca (cb (ca (cb (cb (cb (cb (cb (cb (cb c3))))))))))) (kBlk 0 (kSeq Echainmanlaw04_FsKept (cb (cb (cb (cb (cb (cb (cb (cb c3)))))))) (xend Echainmanlaw04_FsKept f3))))))))
noncomputable def S_chainmanlaw04_FsKept_8 (all12 : ByteArray) (kept13 : ByteArray) (n15 : Int) (s17 : ByteArray) (m19 : Int) (t118 : Bool) (h : AHeap) : Option (AVal × AHeap) := jo Echainmanlaw04_FsKept 22 (rops (ca (cb (cb (cb (cb (cb (cb (cb (cb (cb (cb (cb (cb c3)))))))))))))) ((rops (ca (cb (cb (cb (cb (cb (cb (cb (cb (cb (cb (cb (cb c3)))))))))))))).toList.drop 10) 10 [(12, (.lit (.string all12))), (13, (.lit (.string kept13))), (15, (.lit (.int .i64 n15))), (17, (.lit (.string s17))), (19, (.lit (.int .i64 m19))), (118, (.lit (.bool t118)))] h (kN (kSeq Echainmanlaw04_FsKept (cb (cb (cb (cb (cb (cb (cb (cb (cb (cb (cb (cb (cb c3))))))))))))) (xend Echainmanlaw04_FsKept f3)))
noncomputable def S_chainmanlaw04_FsKept_9 (pieces0 : AVal) (syncs1 : AVal) (keep3 : AVal) (d9 : AVal) (c11 : AVal) (all12 : ByteArray) (kept13 : ByteArray) (i14 : Int) (h : AHeap) : Option (AVal × AHeap) := jn (xexec Echainmanlaw04_FsKept (cb (cb (ca (ca (cb (ca (cb (cb (cb (cb (cb (cb (cb c3))))))))))))) (AVal × AHeap) [(0, pieces0), (1, syncs1), (3, keep3), (9, d9), (11, c11), (12, (.lit (.string all12))), (13, (.lit (.string kept13))), (14, (.lit (.int .i64 i14)))] h (kLoop Echainmanlaw04_FsKept (ca (ca (cb (ca (cb (cb (cb (cb (cb (cb (cb c3))))))))))) (kBlk 0 (kSeq Echainmanlaw04_FsKept (cb (cb (cb (cb (cb (cb (cb (cb c3)))))))) (xend Echainmanlaw04_FsKept f3)))))
noncomputable def S_chainmanlaw04_FsKept_10 (all12 : ByteArray) (kept13 : ByteArray) (n15 : Int) (s17 : ByteArray) (t122 : Bool) (h : AHeap) : Option (AVal × AHeap) := jo Echainmanlaw04_FsKept 22 (rops (ca (cb (cb (cb (cb (cb (cb (cb (cb (cb (cb (cb (cb c3)))))))))))))) ((rops (ca (cb (cb (cb (cb (cb (cb (cb (cb (cb (cb (cb (cb c3)))))))))))))).toList.drop 14) 14 [(12, (.lit (.string all12))), (13, (.lit (.string kept13))), (15, (.lit (.int .i64 n15))), (17, (.lit (.string s17))), (122, (.lit (.bool t122)))] h (kN (kSeq Echainmanlaw04_FsKept (cb (cb (cb (cb (cb (cb (cb (cb (cb (cb (cb (cb (cb c3))))))))))))) (xend Echainmanlaw04_FsKept f3)))
noncomputable def S_chainmanlaw04_FsKept_11 (all12 : ByteArray) (n15 : Int) (s17 : ByteArray) (t128 : Bool) (h : AHeap) : Option (AVal × AHeap) := jo Echainmanlaw04_FsKept 22 (rops (ca (cb (cb (cb (cb (cb (cb (cb (cb (cb (cb (cb (cb c3)))))))))))))) ((rops (ca (cb (cb (cb (cb (cb (cb (cb (cb (cb (cb (cb (cb c3)))))))))))))).toList.drop 20) 20 [(12, (.lit (.string all12))), (15, (.lit (.int .i64 n15))), (17, (.lit (.string s17))), (128, (.lit (.bool t128)))] h (kN (kSeq Echainmanlaw04_FsKept (cb (cb (cb (cb (cb (cb (cb (cb (cb (cb (cb (cb (cb c3))))))))))))) (xend Echainmanlaw04_FsKept f3)))
noncomputable def S_chainmanlaw04_FsKept_12 (all12 : ByteArray) (n15 : Int) (s17 : ByteArray) (t134 : Bool) (h : AHeap) : Option (AVal × AHeap) := jo Echainmanlaw04_FsKept 22 (rops (ca (cb (cb (cb (cb (cb (cb (cb (cb (cb (cb (cb (cb c3)))))))))))))) ((rops (ca (cb (cb (cb (cb (cb (cb (cb (cb (cb (cb (cb (cb c3)))))))))))))).toList.drop 26) 26 [(12, (.lit (.string all12))), (15, (.lit (.int .i64 n15))), (17, (.lit (.string s17))), (134, (.lit (.bool t134)))] h (kN (kSeq Echainmanlaw04_FsKept (cb (cb (cb (cb (cb (cb (cb (cb (cb (cb (cb (cb (cb c3))))))))))))) (xend Echainmanlaw04_FsKept f3)))
noncomputable def S_chainmanlaw04_FsKept_13 (t141 : Bool) (h : AHeap) : Option (AVal × AHeap) := jo Echainmanlaw04_FsKept 22 (rops (ca (cb (cb (cb (cb (cb (cb (cb (cb (cb (cb (cb (cb c3)))))))))))))) ((rops (ca (cb (cb (cb (cb (cb (cb (cb (cb (cb (cb (cb (cb c3)))))))))))))).toList.drop 33) 33 [(141, (.lit (.bool t141)))] h (kN (kSeq Echainmanlaw04_FsKept (cb (cb (cb (cb (cb (cb (cb (cb (cb (cb (cb (cb (cb c3))))))))))))) (xend Echainmanlaw04_FsKept f3)))
noncomputable def S_chainmanlaw04_FsKept_14 (t144 : Bool) (h : AHeap) : Option (AVal × AHeap) := jo Echainmanlaw04_FsKept 22 (rops (ca (cb (cb (cb (cb (cb (cb (cb (cb (cb (cb (cb (cb c3)))))))))))))) ((rops (ca (cb (cb (cb (cb (cb (cb (cb (cb (cb (cb (cb (cb c3)))))))))))))).toList.drop 36) 36 [(144, (.lit (.bool t144)))] h (kN (kSeq Echainmanlaw04_FsKept (cb (cb (cb (cb (cb (cb (cb (cb (cb (cb (cb (cb (cb c3))))))))))))) (xend Echainmanlaw04_FsKept f3)))
theorem S_chainmanlaw04_FsKept_eq (pieces0 : AVal) (syncs1 : AVal) (fuse2 : Int) (keep3 : AVal) (h : AHeap) : S_chainmanlaw04_FsKept pieces0 syncs1 fuse2 keep3 h =
 (lenV pieces0).bind fun n1 =>
 bif (decide (n1 > 10)) then (S_chainmanlaw04_FsKept_0 pieces0 syncs1 fuse2 keep3 true h)
 else ((lenV keep3).bind fun n2 =>
 S_chainmanlaw04_FsKept_0 pieces0 syncs1 fuse2 keep3 (decide (n2 > 5)) h) := by kernel_rfl
theorem S_chainmanlaw04_FsKept_0_eq (pieces0 : AVal) (syncs1 : AVal) (fuse2 : Int) (keep3 : AVal) (t28 : Bool) (h : AHeap) : S_chainmanlaw04_FsKept_0 pieces0 syncs1 fuse2 keep3 t28 h =
 bif t28 then (some ((.lit (.bool true)), h))
 else ((S_fs_New 1048576 h).bind fun r3 =>
 (xExtract r3.1 0).bind fun x4 =>
 (xExtract r3.1 1).bind fun x5 =>
 (asI .i64 x5).bind fun n6 =>
 bif (!decide (n6 = 0)) then (S_chainmanlaw04_FsKept_1 pieces0 syncs1 fuse2 keep3 x4 true r3.2)
 else ((S_fs_Disk_Create x4 ({ data := #[97] }) r3.2).bind fun r7 =>
 (asI .i64 r7.1).bind fun n8 =>
 S_chainmanlaw04_FsKept_1 pieces0 syncs1 fuse2 keep3 x4 (!decide (n8 = 0)) r7.2)) := (jo_eq ..).trans (by kernel_rfl)
theorem S_chainmanlaw04_FsKept_1_eq (pieces0 : AVal) (syncs1 : AVal) (fuse2 : Int) (keep3 : AVal) (d9 : AVal) (t40 : Bool) (h : AHeap) : S_chainmanlaw04_FsKept_1 pieces0 syncs1 fuse2 keep3 d9 t40 h =
 bif t40 then (some ((.lit (.bool false)), h))
 else ((S_fs_Disk_Clone d9 h).bind fun r9 =>
 (S_fs_Disk_Arm d9 ((IntKind.wrap .i64 fuse2).tmod 25) r9.2).bind fun r10 =>
 S_chainmanlaw04_FsKept_2 pieces0 syncs1 keep3 d9 r9.1 ({ data := #[] }) ({ data := #[] }) 0 r10.2) := (jo_eq ..).trans (by kernel_rfl)
theorem S_chainmanlaw04_FsKept_2_eq (pieces0 : AVal) (syncs1 : AVal) (keep3 : AVal) (d9 : AVal) (c11 : AVal) (all12 : ByteArray) (kept13 : ByteArray) (i14 : Int) (h : AHeap) : S_chainmanlaw04_FsKept_2 pieces0 syncs1 keep3 d9 c11 all12 kept13 i14 h =
 (lenV pieces0).bind fun n11 =>
 bif (decide (i14 < n11)) then ((idxP 1 pieces0 i14).bind fun p12 =>
 (ld1 h p12).bind fun x13 =>
 (asS x13).bind fun s14 =>
 bif (decide ((s14.size : Int) > 100)) then (some ((.lit (.bool true)), h))
 else ((idxP 1 pieces0 i14).bind fun p15 =>
 (ld1 h p15).bind fun x16 =>
 (asS x16).bind fun s17 =>
 (S_fs_Disk_Append d9 ({ data := #[97] }) s17 h).bind fun r18 =>
 (asI .i64 r18.1).bind fun n19 =>
 bif (decide (n19 = 0)) then ((idxP 1 pieces0 i14).bind fun p20 =>
 (ld1 r18.2 p20).bind fun x21 =>
 (asS x21).bind fun s22 =>
 (req (all12.size + s22.size ≤ 9223372036854775807)).bind fun u23 =>
 S_chainmanlaw04_FsKept_3 pieces0 syncs1 keep3 d9 c11 (all12 ++ s22) kept13 i14 r18.2)
 else (S_chainmanlaw04_FsKept_3 pieces0 syncs1 keep3 d9 c11 all12 kept13 i14 r18.2)))
 else (S_chainmanlaw04_FsKept_4 keep3 d9 c11 all12 kept13 h) := (xexec_loop Echainmanlaw04_FsKept Echainmanlaw04_FsKept_ok.C.nat _ _ _ _ _).trans (by kernel_rfl)
theorem S_chainmanlaw04_FsKept_3_eq (pieces0 : AVal) (syncs1 : AVal) (keep3 : AVal) (d9 : AVal) (c11 : AVal) (all12 : ByteArray) (kept13 : ByteArray) (i14 : Int) (h : AHeap) : S_chainmanlaw04_FsKept_3 pieces0 syncs1 keep3 d9 c11 all12 kept13 i14 h =
 (lenV syncs1).bind fun n24 =>
 bif (decide (i14 < n24)) then ((idxP 1 syncs1 i14).bind fun p25 =>
 (ld1 h p25).bind fun x26 =>
 (asB x26).bind fun b27 =>
 S_chainmanlaw04_FsKept_5 pieces0 syncs1 keep3 d9 c11 all12 kept13 i14 b27 h)
 else (S_chainmanlaw04_FsKept_5 pieces0 syncs1 keep3 d9 c11 all12 kept13 i14 false h) := (jn_eq _).trans (by kernel_rfl)
theorem S_chainmanlaw04_FsKept_4_eq (keep3 : AVal) (d9 : AVal) (c11 : AVal) (all12 : ByteArray) (kept13 : ByteArray) (h : AHeap) : S_chainmanlaw04_FsKept_4 keep3 d9 c11 all12 kept13 h =
 (S_fs_Disk_Rise d9 keep3 h).bind fun r28 =>
 (S_fs_Disk_Size d9 ({ data := #[97] }) r28.2).bind fun r29 =>
 (xExtract r29.1 0).bind fun x30 =>
 (asI .i64 x30).bind fun n31 =>
 (xExtract r29.1 1).bind fun x32 =>
 (asI .i64 x32).bind fun n33 =>
 (S_fs_Disk_Read d9 ({ data := #[97] }) 0 n31 r29.2).bind fun r34 =>
 (xExtract r34.1 0).bind fun x35 =>
 (asS x35).bind fun s36 =>
 (xExtract r34.1 1).bind fun x37 =>
 (asI .i64 x37).bind fun n38 =>
 (S_fs_Disk_Size c11 ({ data := #[97] }) r34.2).bind fun r39 =>
 (xExtract r39.1 0).bind fun x40 =>
 (asI .i64 x40).bind fun n41 =>
 (xExtract r39.1 1).bind fun x42 =>
 (asI .i64 x42).bind fun n43 =>
 bif (decide (n33 = 0)) then (S_chainmanlaw04_FsKept_6 all12 kept13 n31 s36 n41 n43 (decide (n38 = 0)) r39.2)
 else (S_chainmanlaw04_FsKept_6 all12 kept13 n31 s36 n41 n43 false r39.2) := (jn_eq _).trans (by kernel_rfl)
theorem S_chainmanlaw04_FsKept_5_eq (pieces0 : AVal) (syncs1 : AVal) (keep3 : AVal) (d9 : AVal) (c11 : AVal) (all12 : ByteArray) (kept13 : ByteArray) (i14 : Int) (t83 : Bool) (h : AHeap) : S_chainmanlaw04_FsKept_5 pieces0 syncs1 keep3 d9 c11 all12 kept13 i14 t83 h =
 bif t83 then ((S_fs_Disk_Sync d9 ({ data := #[97] }) h).bind fun r44 =>
 (asI .i64 r44.1).bind fun n45 =>
 S_chainmanlaw04_FsKept_7 pieces0 syncs1 keep3 d9 c11 all12 kept13 i14 (decide (n45 = 0)) r44.2)
 else (S_chainmanlaw04_FsKept_7 pieces0 syncs1 keep3 d9 c11 all12 kept13 i14 false h) := (jo_eq ..).trans (by kernel_rfl)
theorem S_chainmanlaw04_FsKept_6_eq (all12 : ByteArray) (kept13 : ByteArray) (n15 : Int) (s17 : ByteArray) (m19 : Int) (h20 : Int) (t114 : Bool) (h : AHeap) : S_chainmanlaw04_FsKept_6 all12 kept13 n15 s17 m19 h20 t114 h =
 bif t114 then (S_chainmanlaw04_FsKept_8 all12 kept13 n15 s17 m19 (decide (h20 = 0)) h)
 else (S_chainmanlaw04_FsKept_8 all12 kept13 n15 s17 m19 false h) := (jo_eq ..).trans (by kernel_rfl)
theorem S_chainmanlaw04_FsKept_7_eq (pieces0 : AVal) (syncs1 : AVal) (keep3 : AVal) (d9 : AVal) (c11 : AVal) (all12 : ByteArray) (kept13 : ByteArray) (i14 : Int) (t88 : Bool) (h : AHeap) : S_chainmanlaw04_FsKept_7 pieces0 syncs1 keep3 d9 c11 all12 kept13 i14 t88 h =
 bif t88 then (S_chainmanlaw04_FsKept_9 pieces0 syncs1 keep3 d9 c11 all12 all12 i14 h)
 else (S_chainmanlaw04_FsKept_9 pieces0 syncs1 keep3 d9 c11 all12 kept13 i14 h) := (jo_eq ..).trans (by kernel_rfl)
theorem S_chainmanlaw04_FsKept_8_eq (all12 : ByteArray) (kept13 : ByteArray) (n15 : Int) (s17 : ByteArray) (m19 : Int) (t118 : Bool) (h : AHeap) : S_chainmanlaw04_FsKept_8 all12 kept13 n15 s17 m19 t118 h =
 bif t118 then (S_chainmanlaw04_FsKept_10 all12 kept13 n15 s17 (decide (m19 = 0)) h)
 else (S_chainmanlaw04_FsKept_10 all12 kept13 n15 s17 false h) := (jo_eq ..).trans (by kernel_rfl)
theorem S_chainmanlaw04_FsKept_9_eq (pieces0 : AVal) (syncs1 : AVal) (keep3 : AVal) (d9 : AVal) (c11 : AVal) (all12 : ByteArray) (kept13 : ByteArray) (i14 : Int) (h : AHeap) : S_chainmanlaw04_FsKept_9 pieces0 syncs1 keep3 d9 c11 all12 kept13 i14 h =
 S_chainmanlaw04_FsKept_2 pieces0 syncs1 keep3 d9 c11 all12 kept13 (IntKind.wrap .i64 (i14 + 1)) h := (jn_eq _).trans (by kernel_rfl)
theorem S_chainmanlaw04_FsKept_10_eq (all12 : ByteArray) (kept13 : ByteArray) (n15 : Int) (s17 : ByteArray) (t122 : Bool) (h : AHeap) : S_chainmanlaw04_FsKept_10 all12 kept13 n15 s17 t122 h =
 bif t122 then (S_chainmanlaw04_FsKept_11 all12 n15 s17 (decide (n15 ≥ (kept13.size : Int))) h)
 else (S_chainmanlaw04_FsKept_11 all12 n15 s17 false h) := (jo_eq ..).trans (by kernel_rfl)
theorem S_chainmanlaw04_FsKept_11_eq (all12 : ByteArray) (n15 : Int) (s17 : ByteArray) (t128 : Bool) (h : AHeap) : S_chainmanlaw04_FsKept_11 all12 n15 s17 t128 h =
 bif t128 then (S_chainmanlaw04_FsKept_12 all12 n15 s17 (decide (n15 ≤ (all12.size : Int))) h)
 else (S_chainmanlaw04_FsKept_12 all12 n15 s17 false h) := (jo_eq ..).trans (by kernel_rfl)
theorem S_chainmanlaw04_FsKept_12_eq (all12 : ByteArray) (n15 : Int) (s17 : ByteArray) (t134 : Bool) (h : AHeap) : S_chainmanlaw04_FsKept_12 all12 n15 s17 t134 h =
 bif t134 then ((cutS all12 0 n15).bind fun s46 =>
 S_chainmanlaw04_FsKept_13 (decide (s17 = s46)) h)
 else (S_chainmanlaw04_FsKept_13 false h) := (jo_eq ..).trans (by kernel_rfl)
theorem S_chainmanlaw04_FsKept_13_eq (t141 : Bool) (h : AHeap) : S_chainmanlaw04_FsKept_13 t141 h =
 bif t141 then (S_chainmanlaw04_FsKept_14 true h)
 else (S_chainmanlaw04_FsKept_14 false h) := (jo_eq ..).trans (by kernel_rfl)
theorem S_chainmanlaw04_FsKept_14_eq (t144 : Bool) (h : AHeap) : S_chainmanlaw04_FsKept_14 t144 h =
 some ((.lit (.bool t144)), h) := (jo_eq ..).trans (by kernel_rfl)
theorem S_chainmanlaw04_FsKept_ends {pieces0 : AVal} {syncs1 : AVal} {fuse2 : Int} {keep3 : AVal} {h h' : AHeap} {v : AVal} {R : AEnd → AHeap → Prop} (hx : S_chainmanlaw04_FsKept pieces0 syncs1 fuse2 keep3 h = some (v, h')) (hR : HOk h → h.length ≤ h'.length → ABody.AEnds h h' (.ret v) R) : ACalls Try.prog 3 [pieces0, syncs1, (.lit (.int .u8 fuse2)), keep3] h R := xfun_ends Echainmanlaw04_FsKept_ok tmix (i := 3) (by rfl) (by kernel_rfl) (by kernel_rfl) hx hR

abbrev aN : ByteArray := { data := #[97] }
theorem aN_right : rightB aN = true := by decide +kernel
theorem namesOf_one (s : ByteArray) (k : Int) : namesOf [(aN, s, k)] = [aN] := by
  unfold namesOf sortB
  simp [ofL_bytesL]
theorem find_a (D : Dsk) (s : ByteArray) (k : Int) : findR D [(aN, s, k)] aN true = if downN D then ((⟨#[]⟩, 0), 5) else ((s, k), 0) := by
  unfold findR
  rw [aN_right]
  simp [fask]
theorem findD_a (D : Dsk) : findD D aN true = callD D := by unfold findD; rw [aN_right]; rfl
/-- The disk that is written, and its copy. -/
structure KSt (h : AHeap) (d mb c mc : Nat) (Dc D : Dsk) (s : ByteArray) (k : Int) : Prop where
  A : DiskAt h d mb D [(aN, s, k)]
  C : DiskAt h c mc Dc [(aN, ⟨#[]⟩, 0)]
  ne : (c ≠ d ∧ c ≠ mb) ∧ mc ≠ d ∧ mc ≠ mb
theorem KSt.to {h h' : AHeap} {d mb c mc : Nat} {Dc D D' : Dsk} {s s' : ByteArray} {k k' : Int} (K : KSt h d mb c mc Dc D s k) (H : DH h h' d mb (dskC mb D') (fileE [(aN, s', k')])) : KSt h' d mb c mc Dc D' s' k' :=
  ⟨H.disk, K.C.keep H.keep ⟨cellsAt_lt K.C.dcs, by simp [K.ne.1]⟩ ⟨lt_of_getL K.C.ms, by simp [K.ne.2]⟩, K.ne⟩
section law
variable {d mb c mc : Nat} {Dc : Dsk} {pieces syncs keep : AVal} {pl : List ByteArray} {sl : List Bool} {kl : List Int}
theorem tru_14 {b : Bool} {h : AHeap} (hb : b = true) : Tru (S_chainmanlaw04_FsKept_14 b h) := by subst hb; rw [S_chainmanlaw04_FsKept_14_eq]; exact .here
theorem downN_up {D : Dsk} (h1 : D.down = false) (h2 : D.fuse = -1) : downN D = false := by unfold downN; rw [h1, h2]; rfl
theorem callD_up {D : Dsk} (h1 : D.down = false) (h2 : D.fuse = -1) : (callD D).down = false ∧ (callD D).fuse = -1 := ⟨downN_up h1 h2, by unfold callD; simp only; rw [if_neg (by omega)]; exact h2⟩
theorem kept_end {h : AHeap} {D : Dsk} {s kept : ByteArray} {k : Int} (K : KSt h d mb c mc Dc D s k) (hDc : Dc.down = false ∧ Dc.fuse = -1) (hS : ∀ g, Sl 1 g keep kl.length (intVs kl)) (hk : (kept.size : Int) ≤ k ∧ k ≤ (s.size : Int)) (hs : s.size ≤ 1000) :
    Tru (S_chainmanlaw04_FsKept_4 keep (.ptr d 0) (.ptr c 0) s kept h) := by
  have hok : FileOk (s, k) := ⟨by show 0 ≤ k; omega, hk.2, by show (s.size : Int) ≤ _; omega⟩
  obtain ⟨h1, e1, H1, T1, l1⟩ := rise_run K.A.dh (keep := keep) (ki := kl) (by simp) (fun f hf => by simp at hf; subst hf; exact hok) (fun g _ => hS g)
  obtain ⟨u, hu⟩ : ∃ u, riseS kl 0 (namesOf [(aN, s, k)]) ([(aN, s, k)], D.used) = ([(aN, riseF (kl[0]?) (s, k))], u) := by
    refine ⟨(riseS kl 0 (namesOf [(aN, s, k)]) ([(aN, s, k)], D.used)).2, ?_⟩
    rw [namesOf_one]
    simp only [riseS, fileOf, fask, flay, if_true, Option.getD_some]
  rw [hu] at H1
  obtain ⟨rok, rsz⟩ := riseF_ok (k := kl[0]?) hok
  obtain ⟨n1, n2⟩ := riseN_ok (k := kl[0]?) hok
  have hr1 : (riseF (kl[0]?) (s, k)).1 = s.extract 0 (k + riseN (kl[0]?) (s, k)).toNat := rfl
  generalize hs' : (riseF (kl[0]?) (s, k)).1 = s' at rsz hr1
  generalize hk' : (riseF (kl[0]?) (s, k)).2 = k'
  have hpair : riseF (kl[0]?) (s, k) = (s', k') := by rw [← hs', ← hk']
  rw [hpair] at H1 rok
  simp only at rsz n1 n2
  have K1 := K.to H1
  generalize hD1 : ({ D with used := u, fuse := -1, down := false } : Dsk) = D1 at K1
  have hd1 : D1.down = false ∧ D1.fuse = -1 := by rw [← hD1]; exact ⟨rfl, rfl⟩
  obtain ⟨h2, e2, H2, T2, l2⟩ := size_run K1.A.dh aN (by decide)
  rw [findD_a] at H2
  rw [find_a, downN_up hd1.1 hd1.2] at e2
  have K2 := K1.to H2
  have hd2 := callD_up hd1.1 hd1.2
  have hmin : decide (minI 0 (s'.size : Int) ≥ 0) = true := decide_eq_true (by unfold minI; split <;> omega)
  have hrd : readR (callD D1) [(aN, s', k')] aN 0 (s'.size : Int) = (s', 0) := by
    unfold readR
    simp only [hmin, find_a, downN_up hd2.1 hd2.2]
    simp
  obtain ⟨h3, e3, H3, T3, l3⟩ := read_run K2.A.dh aN 0 (s'.size : Int) (by decide) (by rw [hmin, find_a, downN_up hd2.1 hd2.2]; simp; omega)
  rw [hmin, findD_a] at H3
  rw [hrd] at e3
  have K3 := K2.to H3
  obtain ⟨h4, e4, H4, T4, l4⟩ := size_run K3.C.dh aN (by decide)
  rw [find_a, downN_up hDc.1 hDc.2] at e4
  rw [S_chainmanlaw04_FsKept_4_eq, e1, Option.bind_some]
  show Tru ((S_fs_Disk_Size (.ptr d 0) aN h1).bind _)
  rw [e2, Option.bind_some]
  show Tru ((S_fs_Disk_Read (.ptr d 0) aN 0 (s'.size : Int) h2).bind _)
  rw [e3, Option.bind_some]
  show Tru ((S_fs_Disk_Size (.ptr c 0) aN h3).bind _)
  rw [e4, Option.bind_some]
  show Tru (S_chainmanlaw04_FsKept_6 s kept (s'.size : Int) s' 0 0 true h4)
  rw [S_chainmanlaw04_FsKept_6_eq]
  show Tru (S_chainmanlaw04_FsKept_8 s kept (s'.size : Int) s' 0 true h4)
  rw [S_chainmanlaw04_FsKept_8_eq]
  show Tru (S_chainmanlaw04_FsKept_10 s kept (s'.size : Int) s' true h4)
  rw [S_chainmanlaw04_FsKept_10_eq, cond_true, decide_eq_true (by omega), S_chainmanlaw04_FsKept_11_eq, cond_true, decide_eq_true (by omega), S_chainmanlaw04_FsKept_12_eq, cond_true]
  have hcut : cutS s 0 (s'.size : Int) = some s' := by
    have hn : (k + riseN (kl[0]?) (s, k)).toNat = s'.size := by omega
    rw [hn] at hr1
    unfold cutS
    rw [req_true (by omega), Option.bind_some]
    show some (s.extract 0 s'.size) = some s'
    rw [← hr1]
  rw [hcut, Option.bind_some, decide_eq_true rfl, S_chainmanlaw04_FsKept_13_eq, cond_true]
  exact tru_14 rfl
theorem kept_loop (hP : ∀ g, Sl 1 g pieces pl.length (strVs pl)) (hY : ∀ g, Sl 1 g syncs sl.length (boolVs sl)) (hS : ∀ g, Sl 1 g keep kl.length (intVs kl)) (hDc : Dc.down = false ∧ Dc.fuse = -1) (hn : pl.length ≤ 10) :
    ∀ (m i : Nat) (h : AHeap) (D : Dsk) (s kept : ByteArray) (k : Int), pl.length - i = m → i ≤ pl.length → KSt h d mb c mc Dc D s k → (kept.size : Int) ≤ k ∧ k ≤ (s.size : Int) → s.size ≤ 100 * i →
      Tru (S_chainmanlaw04_FsKept_2 pieces syncs keep (.ptr d 0) (.ptr c 0) s kept (i : Nat) h) := by
  intro m
  induction m with
  | zero =>
    intro i h D s kept k hm hi K hk hs
    rw [S_chainmanlaw04_FsKept_2_eq, (hP h).len, Option.bind_some, decide_eq_false (by omega), cond_false]
    exact kept_end K hDc hS hk (by omega)
  | succ m ih =>
    intro i h D s kept k hm hi K hk hs
    have hlt : i < pl.length := by omega
    have rd : ∀ g, ∃ p, idxP 1 pieces (i : Nat) = some p ∧ ld1 g p = some (.lit (.string pl[i])) := fun g => by
      obtain ⟨p, p1, _, _, p2⟩ := (hP g).idx hlt
      have p2 := p2 (by omega)
      exact ⟨p, p1, by rw [p2]; simp [strVs, hlt]⟩
    obtain ⟨p, p1, p2⟩ := rd h
    rw [S_chainmanlaw04_FsKept_2_eq, (hP h).len, Option.bind_some, decide_eq_true (by omega), cond_true, p1, Option.bind_some, p2, Option.bind_some]
    show Tru (cond (decide ((pl[i].size : Int) > 100)) _ _)
    by_cases h100 : (pl[i].size : Int) > 100
    · rw [decide_eq_true h100]; exact .here
    rw [decide_eq_false h100, cond_false, Option.bind_some, p2, Option.bind_some]
    show Tru ((S_fs_Disk_Append (.ptr d 0) aN pl[i] h).bind _)
    -- what follows the syncs
    have last : ∀ (g : AHeap) (D' : Dsk) (s' kept' : ByteArray) (k' : Int), KSt g d mb c mc Dc D' s' k' → (kept'.size : Int) ≤ k' ∧ k' ≤ (s'.size : Int) → s'.size ≤ 100 * (i + 1) → Tru (S_chainmanlaw04_FsKept_9 pieces syncs keep (.ptr d 0) (.ptr c 0) s' kept' (i : Nat) g) := fun g D' s' kept' k' K' hk' hs' => by
      rw [S_chainmanlaw04_FsKept_9_eq, wrap_up (by omega)]
      exact ih (i + 1) g D' s' kept' k' (by omega) (by omega) K' hk' hs'
    have behind : ∀ (g : AHeap) (D' : Dsk) (s' : ByteArray), KSt g d mb c mc Dc D' s' k → k ≤ (s'.size : Int) → s'.size ≤ 100 * (i + 1) → Tru (S_chainmanlaw04_FsKept_3 pieces syncs keep (.ptr d 0) (.ptr c 0) s' kept (i : Nat) g) := fun g D' s' K' hk' hs' => by
      have no : Tru (S_chainmanlaw04_FsKept_5 pieces syncs keep (.ptr d 0) (.ptr c 0) s' kept (i : Nat) false g) := by
        rw [S_chainmanlaw04_FsKept_5_eq, cond_false, S_chainmanlaw04_FsKept_7_eq, cond_false]
        exact last g D' s' kept k K' ⟨hk.1, hk'⟩ hs'
      rw [S_chainmanlaw04_FsKept_3_eq, (hY g).len, Option.bind_some]
      by_cases hj : i < sl.length
      · obtain ⟨q, q1, _, _, q2⟩ := (hY g).idx hj
        have q2 := q2 (by omega)
        have q2 : ld1 g q = some (.lit (.bool sl[i])) := by rw [q2]; simp [boolVs, hj]
        rw [decide_eq_true (by omega), cond_true, q1, Option.bind_some, q2, Option.bind_some]
        show Tru (S_chainmanlaw04_FsKept_5 pieces syncs keep (.ptr d 0) (.ptr c 0) s' kept (i : Nat) sl[i] g)
        cases sl[i] with
        | false => exact no
        | true =>
          obtain ⟨g1, e1, H1, T1, l1⟩ := sync_run K'.A.dh aN (by decide)
          rw [S_chainmanlaw04_FsKept_5_eq, cond_true, e1, Option.bind_some]
          unfold syncL at H1
          rw [find_a]
          rw [find_a, findD_a] at H1
          cases hd : downN D' with
          | true =>
            rw [hd] at H1
            show Tru (S_chainmanlaw04_FsKept_7 pieces syncs keep (.ptr d 0) (.ptr c 0) s' kept (i : Nat) false g1)
            rw [S_chainmanlaw04_FsKept_7_eq, cond_false]
            exact last g1 _ s' kept k (K'.to H1) ⟨hk.1, hk'⟩ hs'
          | false =>
            rw [hd] at H1
            show Tru (S_chainmanlaw04_FsKept_7 pieces syncs keep (.ptr d 0) (.ptr c 0) s' kept (i : Nat) true g1)
            rw [S_chainmanlaw04_FsKept_7_eq, cond_true]
            have H1' : DH g g1 d mb (dskC mb (callD D')) (fileE [(aN, s', (s'.size : Int))]) := by simpa [flay] using H1
            exact last g1 _ s' s' (s'.size : Int) (K'.to H1') ⟨Int.le_refl _, Int.le_refl _⟩ hs'
      · rw [decide_eq_false (by omega), cond_false]; exact no
    obtain ⟨g1, e1, H1, T1, l1⟩ := append_run K.A.dh aN pl[i] (by decide) (fun _ => by
      rw [find_a]; split
      · show (0 : Nat) + _ ≤ _; omega
      · show s.size + _ ≤ _; omega)
    rw [e1, Option.bind_some]
    unfold appL appD at H1
    have hE : appE D [(aN, s, k)] aN pl[i] = if downN D then 5 else if fullB D pl[i] then 4 else 0 := by
      unfold appE; rw [find_a]; split <;> simp
    show Tru (cond (decide (appE D [(aN, s, k)] aN pl[i] = 0)) _ _)
    by_cases h0 : appE D [(aN, s, k)] aN pl[i] = 0
    · have hd : downN D = false := by
        cases hd : downN D with
        | false => rfl
        | true => rw [hE, hd] at h0; simp at h0
      obtain ⟨p', p1', p2'⟩ := rd g1
      rw [p1] at p1'
      cases p1'
      rw [decide_eq_true h0, cond_true, Option.bind_some, p2', Option.bind_some]
      show Tru ((req (s.size + pl[i].size ≤ 9223372036854775807)).bind _)
      rw [req_true (by omega), Option.bind_some]
      rw [if_pos h0, if_pos h0, find_a, hd] at H1
      have hsz : (s ++ pl[i]).size = s.size + pl[i].size := by simp
      have H1' : DH h g1 d mb (dskC mb { findD D aN true with used := IntKind.wrap .i64 (D.used + (pl[i].size : Int)) }) (fileE [(aN, s ++ pl[i], k)]) := by simpa [flay] using H1
      exact behind g1 _ (s ++ pl[i]) (K.to H1') (by rw [hsz]; omega) (by rw [hsz]; omega)
    · rw [decide_eq_false h0, cond_false]
      rw [if_neg h0, if_neg h0] at H1
      exact behind g1 _ s (K.to H1) hk.2 (by omega)
end law
theorem kept_run {pieces syncs keep : AVal} {pl : List ByteArray} {sl : List Bool} {kl : List Int} {fuse : Int} (hP : ∀ g, Sl 1 g pieces pl.length (strVs pl)) (hY : ∀ g, Sl 1 g syncs sl.length (boolVs sl)) (hS : ∀ g, Sl 1 g keep kl.length (intVs kl)) (h : AHeap) :
    Tru (S_chainmanlaw04_FsKept pieces syncs fuse keep h) := by
  have go : Tru (S_chainmanlaw04_FsKept_0 pieces syncs fuse keep true h) := by rw [S_chainmanlaw04_FsKept_0_eq, cond_true]; exact .here
  rw [S_chainmanlaw04_FsKept_eq, (hP h).len, Option.bind_some]
  by_cases h10 : ((pl.length : Nat) : Int) > 10
  · rw [decide_eq_true h10]; exact go
  rw [decide_eq_false h10, cond_false, (hS h).len, Option.bind_some]
  by_cases h5 : ((kl.length : Nat) : Int) > 5
  · rw [decide_eq_true h5]; exact go
  rw [decide_eq_false h5, S_chainmanlaw04_FsKept_0_eq, cond_false]
  obtain ⟨h1, e1, A1, K1, l1⟩ := new_run h (room := 1048576) (by omega) (by omega)
  rw [e1, Option.bind_some]
  show Tru ((S_fs_Disk_Create (.ptr (h.length + 1) 0) aN h1).bind _)
  obtain ⟨h2, e2, H2, T2, l2⟩ := create_run A1.dh aN (by decide)
  have hf : findR (newDsk 1048576) [] aN true = ((⟨#[]⟩, 0), 2) := by unfold findR; rw [aN_right]; rfl
  unfold createE at e2
  unfold createL at H2
  rw [hf, findD_a] at H2
  rw [hf] at e2
  rw [e2, Option.bind_some]
  show Tru (S_chainmanlaw04_FsKept_1 pieces syncs fuse keep (.ptr (h.length + 1) 0) false h2)
  rw [S_chainmanlaw04_FsKept_1_eq, cond_false]
  have H2' : DH h1 h2 (h.length + 1) h.length (dskC h.length (callD (newDsk 1048576))) (fileE [(aN, ⟨#[]⟩, 0)]) := H2
  obtain ⟨h3, e3, H3, C3, T3, l3⟩ := clone_run H2'.disk.dh
  rw [e3, Option.bind_some]
  obtain ⟨h4, e4, H4, T4, l4⟩ := arm_run H3.disk.dh (Int.tmod (IntKind.wrap .i64 fuse) 25)
  rw [e4, Option.bind_some]
  have ll1 : h.length + 2 ≤ h2.length := by omega
  have K4 : KSt h4 (h.length + 1) h.length h2.length (h2.length + 1) (callD (newDsk 1048576)) _ ⟨#[]⟩ 0 := (KSt.mk H3.disk C3 ⟨⟨by omega, by omega⟩, by omega, by omega⟩ : KSt h3 _ _ _ _ _ _ _ _).to H4
  exact kept_loop hP hY hS (callD_up rfl rfl) (by omega) pl.length 0 h4 _ ⟨#[]⟩ ⟨#[]⟩ 0 rfl (Nat.zero_le _) K4 ⟨by decide, by decide⟩ (by decide)
theorem fsKept {H : Type} {d0 d1 d3 : DataW H} {fuse : Int} (f0 : Fits (.slice .str) d0) (f1 : Fits (.slice .bool) d1) (f3 : Fits (.slice (.int .i64)) d3) :
    ACalls Try.prog 3 [(absD d0).headD .any, (absD d1).headD .any, .lit (.int .u8 fuse), (absD d3).headD .any] [] fun e h' => e = .ret (.lit (.bool true)) ∧ True := by
  obtain ⟨l, S1⟩ := fits_strs f0 []
  obtain ⟨o, S2⟩ := fits_bools f1 []
  obtain ⟨kl, S3⟩ := fits_ints f3 []
  obtain ⟨h', hx⟩ := kept_run (fuse := fuse) S1.everywhere S2.everywhere S3.everywhere []
  exact S_chainmanlaw04_FsKept_ends hx fun hok _ => ends_same (L := h') hok rfl ⟨rfl, trivial⟩
end Go.Proofs.Ytglmofbcooefkaa.AL
