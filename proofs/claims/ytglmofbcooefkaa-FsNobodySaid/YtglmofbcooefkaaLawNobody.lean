/- A disk that nobody made. -/
import Derived.Test.YtglmofbcooefkaaAwFs
import Derived.Test.YtglmofbcooefkaaFsNo
namespace Go.Proofs.Ytglmofbcooefkaa.AL
set_option linter.unusedVariables false
set_option linter.unusedSimpArgs false
set_option maxRecDepth 100000
open Go
open Go.Proofs.Try
noncomputable def w_chainmanlaw04_awake : XC := .p fun R args K => match args with
  | [] => K (.lit (.bool true))
  | _ => none
theorem w_chainmanlaw04_awake_ok : XC.Nat w_chainmanlaw04_awake ∧ XC.Ok Try.prog 5 w_chainmanlaw04_awake := by
  refine ⟨fun R args K => ?_, tc5, fun args h v hx => ?_⟩
  · dsimp only; split <;> simp [Option.bind_assoc, mkP]
  · dsimp only at hx; split at hx
    · cases hx
      exact awake04_run _
    · cases hx
-- chainman/chainmanlaw04.FsNobody: function 4
noncomputable def Echainmanlaw04_FsNobody : XE := { T := tabOf [(3, r3), (4, r4), (9, r9), (22, r22), (24, r24), (26, r26), (27, r27), (40, r40), (42, r42), (43, r43), (45, r45), (46, r46), (53, r53)], C := [(5, w_chainmanlaw04_awake), (7, w_fs_Disk_Create), (8, w_fs_Disk_Clone), (9, w_fs_Disk_Arm), (10, w_fs_Disk_Append), (11, w_fs_Disk_Sync), (12, w_fs_Disk_Rise), (13, w_fs_Disk_Size), (14, w_fs_Disk_Read), (15, w_fs_Disk_List), (16, w_fs_Disk_Rename), (17, w_fs_Disk_Remove), (18, w_fs_Disk_Turn), (19, w_fs_Disk_Calls), (20, w_fs_Disk_Used)], D := [], Ms := [(13, [])], Ml := [(3, [1, 3, 4])], Mo := [(11006, [1, 3, 4, 5, 10, 11, 61]), (11010, [1, 3, 4, 5, 10, 65]), (11015, [1, 3, 4, 5, 70]), (11022, [1, 3, 4, 5, 77]), (11031, [1, 3, 4, 5, 86]), (11038, [1, 3, 4, 5, 93]), (11047, [1, 3, 4, 5, 102]), (11054, [1, 3, 4, 5, 109]), (11064, [1, 3, 4, 5, 119]), (11069, [1, 3, 4, 5, 124]), (11074, [1, 3, 4, 5, 129]), (11079, [1, 3, 4, 134])], n := 136 }
theorem Echainmanlaw04_FsNobody_ok : XE.Ok Echainmanlaw04_FsNobody Try.prog := ⟨tabOf_ok (⟨r3_ok, ⟨r4_ok, ⟨r9_ok, ⟨r22_ok, ⟨r24_ok, ⟨r26_ok, ⟨r27_ok, ⟨r40_ok, ⟨r42_ok, ⟨r43_ok, ⟨r45_ok, ⟨r46_ok, ⟨r53_ok, trivial⟩⟩⟩⟩⟩⟩⟩⟩⟩⟩⟩⟩⟩), ⟨w_chainmanlaw04_awake_ok, ⟨w_fs_Disk_Create_ok, ⟨w_fs_Disk_Clone_ok, ⟨w_fs_Disk_Arm_ok, ⟨w_fs_Disk_Append_ok, ⟨w_fs_Disk_Sync_ok, ⟨w_fs_Disk_Rise_ok, ⟨w_fs_Disk_Size_ok, ⟨w_fs_Disk_Read_ok, ⟨w_fs_Disk_List_ok, ⟨w_fs_Disk_Rename_ok, ⟨w_fs_Disk_Remove_ok, ⟨w_fs_Disk_Turn_ok, ⟨w_fs_Disk_Calls_ok, ⟨w_fs_Disk_Used_ok, trivial⟩⟩⟩⟩⟩⟩⟩⟩⟩⟩⟩⟩⟩⟩⟩⟩
noncomputable def c4 : Code := bodyOf f4
noncomputable def S_chainmanlaw04_FsNobody (o0 : List AVal) (h : AHeap) : Option (AVal × AHeap) := xfun Echainmanlaw04_FsNobody f4 [(.agg o0)] h
noncomputable def S_chainmanlaw04_FsNobody_0 (o1 : Nat) (l3 : AVal) (i4 : Int) (h : AHeap) : Option (AVal × AHeap) := xexec Echainmanlaw04_FsNobody (.loop (ca (ca (cb (ca (cb (cb c4))))))) (AVal × AHeap) [(1, (.ptr o1 0)), (3, l3), (4, (.lit (.int .i64 i4)))] h (kBlk 0 (kSeq Echainmanlaw04_FsNobody (cb (cb (cb c4))) (xend Echainmanlaw04_FsNobody f4)))
noncomputable def S_chainmanlaw04_FsNobody_1 (o1 : Nat) (l3 : AVal) (i4 : Int) (d5 : AVal) (x10 : AVal) (c11 : Int) (t61 : Bool) (h : AHeap) : Option (AVal × AHeap) := jo Echainmanlaw04_FsNobody 11 (rops (ca (cb (cb (cb (cb (cb (cb (ca (ca (cb (ca (ca (cb (ca (cb (cb c4))))))))))))))))) ((rops (ca (cb (cb (cb (cb (cb (cb (ca (ca (cb (ca (ca (cb (ca (cb (cb c4))))))))))))))))).toList.drop 6) 6 [(1, (.ptr o1 0)), (3, l3), (4, (.lit (.int .i64 i4))), (5, d5), (10, x10), (11, (.lit (.int .i64 c11))), (61, (.lit (.bool t61)))] h (kN (kSeq Echainmanlaw04_FsNobody (cb (cb (cb (cb (cb (cb (cb (ca (ca (cb (ca (ca (cb (ca (cb (cb c4)))))))))))))))) (kBlk 1 (kSeq Echainmanlaw04_FsNobody (cb (cb (ca (ca (cb (ca (cb (cb c4)))))))) (kLoop Echainmanlaw04_FsNobody (ca (ca (cb (ca (cb (cb c4)))))) (kBlk 0 (kSeq Echainmanlaw04_FsNobody (cb (cb (cb c4))) (xend Echainmanlaw04_FsNobody f4))))))))
noncomputable def S_chainmanlaw04_FsNobody_2  (h : AHeap) : Option (AVal × AHeap) := jn (xexec Echainmanlaw04_FsNobody (cb (cb (cb c4))) (AVal × AHeap) [] h (xend Echainmanlaw04_FsNobody f4))
noncomputable def S_chainmanlaw04_FsNobody_3 (o1 : Nat) (l3 : AVal) (i4 : Int) (d5 : AVal) (x10 : AVal) (t65 : Bool) (h : AHeap) : Option (AVal × AHeap) := jo Echainmanlaw04_FsNobody 11 (rops (ca (cb (cb (cb (cb (cb (cb (ca (ca (cb (ca (ca (cb (ca (cb (cb c4))))))))))))))))) ((rops (ca (cb (cb (cb (cb (cb (cb (ca (ca (cb (ca (ca (cb (ca (cb (cb c4))))))))))))))))).toList.drop 10) 10 [(1, (.ptr o1 0)), (3, l3), (4, (.lit (.int .i64 i4))), (5, d5), (10, x10), (65, (.lit (.bool t65)))] h (kN (kSeq Echainmanlaw04_FsNobody (cb (cb (cb (cb (cb (cb (cb (ca (ca (cb (ca (ca (cb (ca (cb (cb c4)))))))))))))))) (kBlk 1 (kSeq Echainmanlaw04_FsNobody (cb (cb (ca (ca (cb (ca (cb (cb c4)))))))) (kLoop Echainmanlaw04_FsNobody (ca (ca (cb (ca (cb (cb c4)))))) (kBlk 0 (kSeq Echainmanlaw04_FsNobody (cb (cb (cb c4))) (xend Echainmanlaw04_FsNobody f4))))))))
noncomputable def S_chainmanlaw04_FsNobody_4 (o1 : Nat) (l3 : AVal) (i4 : Int) (d5 : AVal) (t70 : Bool) (h : AHeap) : Option (AVal × AHeap) := jo Echainmanlaw04_FsNobody 11 (rops (ca (cb (cb (cb (cb (cb (cb (ca (ca (cb (ca (ca (cb (ca (cb (cb c4))))))))))))))))) ((rops (ca (cb (cb (cb (cb (cb (cb (ca (ca (cb (ca (ca (cb (ca (cb (cb c4))))))))))))))))).toList.drop 15) 15 [(1, (.ptr o1 0)), (3, l3), (4, (.lit (.int .i64 i4))), (5, d5), (70, (.lit (.bool t70)))] h (kN (kSeq Echainmanlaw04_FsNobody (cb (cb (cb (cb (cb (cb (cb (ca (ca (cb (ca (ca (cb (ca (cb (cb c4)))))))))))))))) (kBlk 1 (kSeq Echainmanlaw04_FsNobody (cb (cb (ca (ca (cb (ca (cb (cb c4)))))))) (kLoop Echainmanlaw04_FsNobody (ca (ca (cb (ca (cb (cb c4)))))) (kBlk 0 (kSeq Echainmanlaw04_FsNobody (cb (cb (cb c4))) (xend Echainmanlaw04_FsNobody f4))))))))
noncomputable def S_chainmanlaw04_FsNobody_5 (o1 : Nat) (l3 : AVal) (i4 : Int) (d5 : AVal) (t77 : Bool) (h : AHeap) : Option (AVal × AHeap) := jo Echainmanlaw04_FsNobody 11 (rops (ca (cb (cb (cb (cb (cb (cb (ca (ca (cb (ca (ca (cb (ca (cb (cb c4))))))))))))))))) ((rops (ca (cb (cb (cb (cb (cb (cb (ca (ca (cb (ca (ca (cb (ca (cb (cb c4))))))))))))))))).toList.drop 22) 22 [(1, (.ptr o1 0)), (3, l3), (4, (.lit (.int .i64 i4))), (5, d5), (77, (.lit (.bool t77)))] h (kN (kSeq Echainmanlaw04_FsNobody (cb (cb (cb (cb (cb (cb (cb (ca (ca (cb (ca (ca (cb (ca (cb (cb c4)))))))))))))))) (kBlk 1 (kSeq Echainmanlaw04_FsNobody (cb (cb (ca (ca (cb (ca (cb (cb c4)))))))) (kLoop Echainmanlaw04_FsNobody (ca (ca (cb (ca (cb (cb c4)))))) (kBlk 0 (kSeq Echainmanlaw04_FsNobody (cb (cb (cb c4))) (xend Echainmanlaw04_FsNobody f4))))))))
noncomputable def S_chainmanlaw04_FsNobody_6 (o1 : Nat) (l3 : AVal) (i4 : Int) (d5 : AVal) (t86 : Bool) (h : AHeap) : Option (AVal × AHeap) := jo Echainmanlaw04_FsNobody 11 (rops (ca (cb (cb (cb (cb (cb (cb (ca (ca (cb (ca (ca (cb (ca (cb (cb c4))))))))))))))))) ((rops (ca (cb (cb (cb (cb (cb (cb (ca (ca (cb (ca (ca (cb (ca (cb (cb c4))))))))))))))))).toList.drop 31) 31 [(1, (.ptr o1 0)), (3, l3), (4, (.lit (.int .i64 i4))), (5, d5), (86, (.lit (.bool t86)))] h (kN (kSeq Echainmanlaw04_FsNobody (cb (cb (cb (cb (cb (cb (cb (ca (ca (cb (ca (ca (cb (ca (cb (cb c4)))))))))))))))) (kBlk 1 (kSeq Echainmanlaw04_FsNobody (cb (cb (ca (ca (cb (ca (cb (cb c4)))))))) (kLoop Echainmanlaw04_FsNobody (ca (ca (cb (ca (cb (cb c4)))))) (kBlk 0 (kSeq Echainmanlaw04_FsNobody (cb (cb (cb c4))) (xend Echainmanlaw04_FsNobody f4))))))))
noncomputable def S_chainmanlaw04_FsNobody_7 (o1 : Nat) (l3 : AVal) (i4 : Int) (d5 : AVal) (t93 : Bool) (h : AHeap) : Option (AVal × AHeap) := jo Echainmanlaw04_FsNobody 11 (rops (ca (cb (cb (cb (cb (cb (cb (ca (ca (cb (ca (ca (cb (ca (cb (cb c4))))))))))))))))) ((rops (ca (cb (cb (cb (cb (cb (cb (ca (ca (cb (ca (ca (cb (ca (cb (cb c4))))))))))))))))).toList.drop 38) 38 [(1, (.ptr o1 0)), (3, l3), (4, (.lit (.int .i64 i4))), (5, d5), (93, (.lit (.bool t93)))] h (kN (kSeq Echainmanlaw04_FsNobody (cb (cb (cb (cb (cb (cb (cb (ca (ca (cb (ca (ca (cb (ca (cb (cb c4)))))))))))))))) (kBlk 1 (kSeq Echainmanlaw04_FsNobody (cb (cb (ca (ca (cb (ca (cb (cb c4)))))))) (kLoop Echainmanlaw04_FsNobody (ca (ca (cb (ca (cb (cb c4)))))) (kBlk 0 (kSeq Echainmanlaw04_FsNobody (cb (cb (cb c4))) (xend Echainmanlaw04_FsNobody f4))))))))
noncomputable def S_chainmanlaw04_FsNobody_8 (o1 : Nat) (l3 : AVal) (i4 : Int) (d5 : AVal) (t102 : Bool) (h : AHeap) : Option (AVal × AHeap) := jo Echainmanlaw04_FsNobody 11 (rops (ca (cb (cb (cb (cb (cb (cb (ca (ca (cb (ca (ca (cb (ca (cb (cb c4))))))))))))))))) ((rops (ca (cb (cb (cb (cb (cb (cb (ca (ca (cb (ca (ca (cb (ca (cb (cb c4))))))))))))))))).toList.drop 47) 47 [(1, (.ptr o1 0)), (3, l3), (4, (.lit (.int .i64 i4))), (5, d5), (102, (.lit (.bool t102)))] h (kN (kSeq Echainmanlaw04_FsNobody (cb (cb (cb (cb (cb (cb (cb (ca (ca (cb (ca (ca (cb (ca (cb (cb c4)))))))))))))))) (kBlk 1 (kSeq Echainmanlaw04_FsNobody (cb (cb (ca (ca (cb (ca (cb (cb c4)))))))) (kLoop Echainmanlaw04_FsNobody (ca (ca (cb (ca (cb (cb c4)))))) (kBlk 0 (kSeq Echainmanlaw04_FsNobody (cb (cb (cb c4))) (xend Echainmanlaw04_FsNobody f4))))))))
noncomputable def S_chainmanlaw04_FsNobody_9 (o1 : Nat) (l3 : AVal) (i4 : Int) (d5 : AVal) (t109 : Bool) (h : AHeap) : Option (AVal × AHeap) := jo Echainmanlaw04_FsNobody 11 (rops (ca (cb (cb (cb (cb (cb (cb (ca (ca (cb (ca (ca (cb (ca (cb (cb c4))))))))))))))))) ((rops (ca (cb (cb (cb (cb (cb (cb (ca (ca (cb (ca (ca (cb (ca (cb (cb c4))))))))))))))))).toList.drop 54) 54 [(1, (.ptr o1 0)), (3, l3), (4, (.lit (.int .i64 i4))), (5, d5), (109, (.lit (.bool t109)))] h (kN (kSeq Echainmanlaw04_FsNobody (cb (cb (cb (cb (cb (cb (cb (ca (ca (cb (ca (ca (cb (ca (cb (cb c4)))))))))))))))) (kBlk 1 (kSeq Echainmanlaw04_FsNobody (cb (cb (ca (ca (cb (ca (cb (cb c4)))))))) (kLoop Echainmanlaw04_FsNobody (ca (ca (cb (ca (cb (cb c4)))))) (kBlk 0 (kSeq Echainmanlaw04_FsNobody (cb (cb (cb c4))) (xend Echainmanlaw04_FsNobody f4))))))))
noncomputable def S_chainmanlaw04_FsNobody_10 (o1 : Nat) (l3 : AVal) (i4 : Int) (d5 : AVal) (t119 : Bool) (h : AHeap) : Option (AVal × AHeap) := jo Echainmanlaw04_FsNobody 11 (rops (ca (cb (cb (cb (cb (cb (cb (ca (ca (cb (ca (ca (cb (ca (cb (cb c4))))))))))))))))) ((rops (ca (cb (cb (cb (cb (cb (cb (ca (ca (cb (ca (ca (cb (ca (cb (cb c4))))))))))))))))).toList.drop 64) 64 [(1, (.ptr o1 0)), (3, l3), (4, (.lit (.int .i64 i4))), (5, d5), (119, (.lit (.bool t119)))] h (kN (kSeq Echainmanlaw04_FsNobody (cb (cb (cb (cb (cb (cb (cb (ca (ca (cb (ca (ca (cb (ca (cb (cb c4)))))))))))))))) (kBlk 1 (kSeq Echainmanlaw04_FsNobody (cb (cb (ca (ca (cb (ca (cb (cb c4)))))))) (kLoop Echainmanlaw04_FsNobody (ca (ca (cb (ca (cb (cb c4)))))) (kBlk 0 (kSeq Echainmanlaw04_FsNobody (cb (cb (cb c4))) (xend Echainmanlaw04_FsNobody f4))))))))
noncomputable def S_chainmanlaw04_FsNobody_11 (o1 : Nat) (l3 : AVal) (i4 : Int) (d5 : AVal) (t124 : Bool) (h : AHeap) : Option (AVal × AHeap) := jo Echainmanlaw04_FsNobody 11 (rops (ca (cb (cb (cb (cb (cb (cb (ca (ca (cb (ca (ca (cb (ca (cb (cb c4))))))))))))))))) ((rops (ca (cb (cb (cb (cb (cb (cb (ca (ca (cb (ca (ca (cb (ca (cb (cb c4))))))))))))))))).toList.drop 69) 69 [(1, (.ptr o1 0)), (3, l3), (4, (.lit (.int .i64 i4))), (5, d5), (124, (.lit (.bool t124)))] h (kN (kSeq Echainmanlaw04_FsNobody (cb (cb (cb (cb (cb (cb (cb (ca (ca (cb (ca (ca (cb (ca (cb (cb c4)))))))))))))))) (kBlk 1 (kSeq Echainmanlaw04_FsNobody (cb (cb (ca (ca (cb (ca (cb (cb c4)))))))) (kLoop Echainmanlaw04_FsNobody (ca (ca (cb (ca (cb (cb c4)))))) (kBlk 0 (kSeq Echainmanlaw04_FsNobody (cb (cb (cb c4))) (xend Echainmanlaw04_FsNobody f4))))))))
noncomputable def S_chainmanlaw04_FsNobody_12 (o1 : Nat) (l3 : AVal) (i4 : Int) (d5 : AVal) (t129 : Bool) (h : AHeap) : Option (AVal × AHeap) := jo Echainmanlaw04_FsNobody 11 (rops (ca (cb (cb (cb (cb (cb (cb (ca (ca (cb (ca (ca (cb (ca (cb (cb c4))))))))))))))))) ((rops (ca (cb (cb (cb (cb (cb (cb (ca (ca (cb (ca (ca (cb (ca (cb (cb c4))))))))))))))))).toList.drop 74) 74 [(1, (.ptr o1 0)), (3, l3), (4, (.lit (.int .i64 i4))), (5, d5), (129, (.lit (.bool t129)))] h (kN (kSeq Echainmanlaw04_FsNobody (cb (cb (cb (cb (cb (cb (cb (ca (ca (cb (ca (ca (cb (ca (cb (cb c4)))))))))))))))) (kBlk 1 (kSeq Echainmanlaw04_FsNobody (cb (cb (ca (ca (cb (ca (cb (cb c4)))))))) (kLoop Echainmanlaw04_FsNobody (ca (ca (cb (ca (cb (cb c4)))))) (kBlk 0 (kSeq Echainmanlaw04_FsNobody (cb (cb (cb c4))) (xend Echainmanlaw04_FsNobody f4))))))))
noncomputable def S_chainmanlaw04_FsNobody_13 (o1 : Nat) (l3 : AVal) (i4 : Int) (t134 : Bool) (h : AHeap) : Option (AVal × AHeap) := jo Echainmanlaw04_FsNobody 11 (rops (ca (cb (cb (cb (cb (cb (cb (ca (ca (cb (ca (ca (cb (ca (cb (cb c4))))))))))))))))) ((rops (ca (cb (cb (cb (cb (cb (cb (ca (ca (cb (ca (ca (cb (ca (cb (cb c4))))))))))))))))).toList.drop 79) 79 [(1, (.ptr o1 0)), (3, l3), (4, (.lit (.int .i64 i4))), (134, (.lit (.bool t134)))] h (kN (kSeq Echainmanlaw04_FsNobody (cb (cb (cb (cb (cb (cb (cb (ca (ca (cb (ca (ca (cb (ca (cb (cb c4)))))))))))))))) (kBlk 1 (kSeq Echainmanlaw04_FsNobody (cb (cb (ca (ca (cb (ca (cb (cb c4)))))))) (kLoop Echainmanlaw04_FsNobody (ca (ca (cb (ca (cb (cb c4)))))) (kBlk 0 (kSeq Echainmanlaw04_FsNobody (cb (cb (cb c4))) (xend Echainmanlaw04_FsNobody f4))))))))
theorem S_chainmanlaw04_FsNobody_eq (o0 : List AVal) (h : AHeap) : S_chainmanlaw04_FsNobody o0 h =
 (blitS 1 [(.lit (.pointer none))] 2 [(0, (.lit (.pointer none))), (1, (.ptr (((psh h (.cells o0))).length) 0))] ((psh ((psh h (.cells o0))) (.cells ([(.lit (.bool false)), (.lit (.int .i64 0)), (.lit (.int .i64 0)), (.lit (.map none)), (.lit (.int .i64 0)), (.lit (.bool false)), (.lit (.int .i64 0))]))))).bind fun r1 =>
 S_chainmanlaw04_FsNobody_0 h.length r1.1 0 r1.2 := by kernel_rfl
theorem S_chainmanlaw04_FsNobody_0_eq (o1 : Nat) (l3 : AVal) (i4 : Int) (h : AHeap) : S_chainmanlaw04_FsNobody_0 o1 l3 i4 h =
 (lenV l3).bind fun n2 =>
 bif (decide (i4 < n2)) then ((idxP 1 l3 i4).bind fun p3 =>
 (ld1 h p3).bind fun x4 =>
 (ld1 h (.ptr o1 4)).bind fun x5 =>
 (asI .i64 x5).bind fun n6 =>
 (S_fs_Disk_Arm x4 n6 h).bind fun r7 =>
 (ld1 r7.2 (.ptr o1 6)).bind fun x8 =>
 (S_fs_Disk_Rise x4 x8 r7.2).bind fun r9 =>
 (ld1 r9.2 (.ptr o1 1)).bind fun x10 =>
 (asS x10).bind fun s11 =>
 (ld1 r9.2 (.ptr o1 4)).bind fun x12 =>
 (asI .i64 x12).bind fun n13 =>
 (ld1 r9.2 (.ptr o1 5)).bind fun x14 =>
 (asI .i64 x14).bind fun n15 =>
 (S_fs_Disk_Read x4 s11 n13 n15 r9.2).bind fun r16 =>
 (xExtract r16.1 0).bind fun x17 =>
 (asS x17).bind fun s18 =>
 (xExtract r16.1 1).bind fun x19 =>
 (asI .i64 x19).bind fun n20 =>
 (ld1 r16.2 (.ptr o1 1)).bind fun x21 =>
 (asS x21).bind fun s22 =>
 (S_fs_Disk_Size x4 s22 r16.2).bind fun r23 =>
 (xExtract r23.1 0).bind fun x24 =>
 (asI .i64 x24).bind fun n25 =>
 (xExtract r23.1 1).bind fun x26 =>
 (asI .i64 x26).bind fun n27 =>
 (S_fs_Disk_List x4 r23.2).bind fun r28 =>
 (xExtract r28.1 0).bind fun x29 =>
 (xExtract r28.1 1).bind fun x30 =>
 (asI .i64 x30).bind fun n31 =>
 bif (!decide (n20 = 1)) then (S_chainmanlaw04_FsNobody_1 o1 l3 i4 x4 x29 n31 true r28.2)
 else (S_chainmanlaw04_FsNobody_1 o1 l3 i4 x4 x29 n31 (!decide (n27 = 1)) r28.2))
 else (S_chainmanlaw04_FsNobody_2 h) := (xexec_loop Echainmanlaw04_FsNobody Echainmanlaw04_FsNobody_ok.C.nat _ _ _ _ _).trans (by kernel_rfl)
theorem S_chainmanlaw04_FsNobody_1_eq (o1 : Nat) (l3 : AVal) (i4 : Int) (d5 : AVal) (x10 : AVal) (c11 : Int) (t61 : Bool) (h : AHeap) : S_chainmanlaw04_FsNobody_1 o1 l3 i4 d5 x10 c11 t61 h =
 bif t61 then (S_chainmanlaw04_FsNobody_3 o1 l3 i4 d5 x10 true h)
 else (S_chainmanlaw04_FsNobody_3 o1 l3 i4 d5 x10 (!decide (c11 = 1)) h) := (jo_eq ..).trans (by kernel_rfl)
theorem S_chainmanlaw04_FsNobody_2_eq  (h : AHeap) : S_chainmanlaw04_FsNobody_2  h =
 some ((.lit (.bool true)), h) := (jn_eq _).trans (by kernel_rfl)
theorem S_chainmanlaw04_FsNobody_3_eq (o1 : Nat) (l3 : AVal) (i4 : Int) (d5 : AVal) (x10 : AVal) (t65 : Bool) (h : AHeap) : S_chainmanlaw04_FsNobody_3 o1 l3 i4 d5 x10 t65 h =
 bif t65 then (S_chainmanlaw04_FsNobody_4 o1 l3 i4 d5 true h)
 else ((lenV x10).bind fun n32 =>
 S_chainmanlaw04_FsNobody_4 o1 l3 i4 d5 (decide (n32 > 0)) h) := (jo_eq ..).trans (by kernel_rfl)
theorem S_chainmanlaw04_FsNobody_4_eq (o1 : Nat) (l3 : AVal) (i4 : Int) (d5 : AVal) (t70 : Bool) (h : AHeap) : S_chainmanlaw04_FsNobody_4 o1 l3 i4 d5 t70 h =
 bif t70 then (S_chainmanlaw04_FsNobody_5 o1 l3 i4 d5 true h)
 else ((ld1 h (.ptr o1 1)).bind fun x33 =>
 (asS x33).bind fun s34 =>
 (S_fs_Disk_Create d5 s34 h).bind fun r35 =>
 (asI .i64 r35.1).bind fun n36 =>
 S_chainmanlaw04_FsNobody_5 o1 l3 i4 d5 (!decide (n36 = 1)) r35.2) := (jo_eq ..).trans (by kernel_rfl)
theorem S_chainmanlaw04_FsNobody_5_eq (o1 : Nat) (l3 : AVal) (i4 : Int) (d5 : AVal) (t77 : Bool) (h : AHeap) : S_chainmanlaw04_FsNobody_5 o1 l3 i4 d5 t77 h =
 bif t77 then (S_chainmanlaw04_FsNobody_6 o1 l3 i4 d5 true h)
 else ((ld1 h (.ptr o1 1)).bind fun x37 =>
 (asS x37).bind fun s38 =>
 (ld1 h (.ptr o1 3)).bind fun x39 =>
 (asS x39).bind fun s40 =>
 (S_fs_Disk_Append d5 s38 s40 h).bind fun r41 =>
 (asI .i64 r41.1).bind fun n42 =>
 S_chainmanlaw04_FsNobody_6 o1 l3 i4 d5 (!decide (n42 = 1)) r41.2) := (jo_eq ..).trans (by kernel_rfl)
theorem S_chainmanlaw04_FsNobody_6_eq (o1 : Nat) (l3 : AVal) (i4 : Int) (d5 : AVal) (t86 : Bool) (h : AHeap) : S_chainmanlaw04_FsNobody_6 o1 l3 i4 d5 t86 h =
 bif t86 then (S_chainmanlaw04_FsNobody_7 o1 l3 i4 d5 true h)
 else ((ld1 h (.ptr o1 1)).bind fun x43 =>
 (asS x43).bind fun s44 =>
 (S_fs_Disk_Sync d5 s44 h).bind fun r45 =>
 (asI .i64 r45.1).bind fun n46 =>
 S_chainmanlaw04_FsNobody_7 o1 l3 i4 d5 (!decide (n46 = 1)) r45.2) := (jo_eq ..).trans (by kernel_rfl)
theorem S_chainmanlaw04_FsNobody_7_eq (o1 : Nat) (l3 : AVal) (i4 : Int) (d5 : AVal) (t93 : Bool) (h : AHeap) : S_chainmanlaw04_FsNobody_7 o1 l3 i4 d5 t93 h =
 bif t93 then (S_chainmanlaw04_FsNobody_8 o1 l3 i4 d5 true h)
 else ((ld1 h (.ptr o1 1)).bind fun x47 =>
 (asS x47).bind fun s48 =>
 (ld1 h (.ptr o1 2)).bind fun x49 =>
 (asS x49).bind fun s50 =>
 (S_fs_Disk_Rename d5 s48 s50 h).bind fun r51 =>
 (asI .i64 r51.1).bind fun n52 =>
 S_chainmanlaw04_FsNobody_8 o1 l3 i4 d5 (!decide (n52 = 1)) r51.2) := (jo_eq ..).trans (by kernel_rfl)
theorem S_chainmanlaw04_FsNobody_8_eq (o1 : Nat) (l3 : AVal) (i4 : Int) (d5 : AVal) (t102 : Bool) (h : AHeap) : S_chainmanlaw04_FsNobody_8 o1 l3 i4 d5 t102 h =
 bif t102 then (S_chainmanlaw04_FsNobody_9 o1 l3 i4 d5 true h)
 else ((ld1 h (.ptr o1 1)).bind fun x53 =>
 (asS x53).bind fun s54 =>
 (S_fs_Disk_Remove d5 s54 h).bind fun r55 =>
 (asI .i64 r55.1).bind fun n56 =>
 S_chainmanlaw04_FsNobody_9 o1 l3 i4 d5 (!decide (n56 = 1)) r55.2) := (jo_eq ..).trans (by kernel_rfl)
theorem S_chainmanlaw04_FsNobody_9_eq (o1 : Nat) (l3 : AVal) (i4 : Int) (d5 : AVal) (t109 : Bool) (h : AHeap) : S_chainmanlaw04_FsNobody_9 o1 l3 i4 d5 t109 h =
 bif t109 then (S_chainmanlaw04_FsNobody_10 o1 l3 i4 d5 true h)
 else ((ld1 h (.ptr o1 1)).bind fun x57 =>
 (asS x57).bind fun s58 =>
 (ld1 h (.ptr o1 4)).bind fun x59 =>
 (asI .i64 x59).bind fun n60 =>
 (ld1 h (.ptr o1 7)).bind fun x61 =>
 (asI .u32 x61).bind fun n62 =>
 (S_fs_Disk_Turn d5 s58 n60 n62 h).bind fun r63 =>
 (asB r63.1).bind fun b64 =>
 S_chainmanlaw04_FsNobody_10 o1 l3 i4 d5 b64 r63.2) := (jo_eq ..).trans (by kernel_rfl)
theorem S_chainmanlaw04_FsNobody_10_eq (o1 : Nat) (l3 : AVal) (i4 : Int) (d5 : AVal) (t119 : Bool) (h : AHeap) : S_chainmanlaw04_FsNobody_10 o1 l3 i4 d5 t119 h =
 bif t119 then (S_chainmanlaw04_FsNobody_11 o1 l3 i4 d5 true h)
 else ((S_fs_Disk_Calls d5 h).bind fun r65 =>
 (asI .i64 r65.1).bind fun n66 =>
 S_chainmanlaw04_FsNobody_11 o1 l3 i4 d5 (!decide (n66 = 0)) r65.2) := (jo_eq ..).trans (by kernel_rfl)
theorem S_chainmanlaw04_FsNobody_11_eq (o1 : Nat) (l3 : AVal) (i4 : Int) (d5 : AVal) (t124 : Bool) (h : AHeap) : S_chainmanlaw04_FsNobody_11 o1 l3 i4 d5 t124 h =
 bif t124 then (S_chainmanlaw04_FsNobody_12 o1 l3 i4 d5 true h)
 else ((S_fs_Disk_Used d5 h).bind fun r67 =>
 (asI .i64 r67.1).bind fun n68 =>
 S_chainmanlaw04_FsNobody_12 o1 l3 i4 d5 (!decide (n68 = 0)) r67.2) := (jo_eq ..).trans (by kernel_rfl)
theorem S_chainmanlaw04_FsNobody_12_eq (o1 : Nat) (l3 : AVal) (i4 : Int) (d5 : AVal) (t129 : Bool) (h : AHeap) : S_chainmanlaw04_FsNobody_12 o1 l3 i4 d5 t129 h =
 bif t129 then (S_chainmanlaw04_FsNobody_13 o1 l3 i4 true h)
 else ((S_fs_Disk_Clone d5 h).bind fun r69 =>
 (AVal.isNil .ptr r69.1).bind fun b70 =>
 S_chainmanlaw04_FsNobody_13 o1 l3 i4 (!b70) r69.2) := (jo_eq ..).trans (by kernel_rfl)
theorem S_chainmanlaw04_FsNobody_13_eq (o1 : Nat) (l3 : AVal) (i4 : Int) (t134 : Bool) (h : AHeap) : S_chainmanlaw04_FsNobody_13 o1 l3 i4 t134 h =
 bif t134 then (some ((.lit (.bool false)), h))
 else (S_chainmanlaw04_FsNobody_0 o1 l3 (IntKind.wrap .i64 (i4 + 1)) h) := (jo_eq ..).trans (by kernel_rfl)
theorem S_chainmanlaw04_FsNobody_ends {o0 : List AVal} {h h' : AHeap} {v : AVal} {R : AEnd → AHeap → Prop} (hx : S_chainmanlaw04_FsNobody o0 h = some (v, h')) (hR : HOk h → h.length ≤ h'.length → ABody.AEnds h h' (.ret v) R) : ACalls Try.prog 4 [(.agg o0)] h R := xfun_ends Echainmanlaw04_FsNobody_ok tmix (i := 4) (by rfl) (by kernel_rfl) (by kernel_rfl) hx hR

def opC (kind : Int) (name to s : ByteArray) (n m : Int) (keep : AVal) (bits : Int) : List AVal := [.lit (.int .i64 kind), .lit (.string name), .lit (.string to), .lit (.string s), .lit (.int .i64 n), .lit (.int .i64 m), keep, .lit (.int .u32 bits)]
/-- The op, the list of the two disks, the one that is not made. -/
structure St (o l dz : Nat) (cs : List AVal) (H : AHeap) : Prop where
  op : cellsAt H o = some cs
  li : cellsAt H l = some [.lit (.pointer none), .ptr dz 0]
  no : ∃ xs, cellsAt H dz = some (.lit (.bool false) :: xs)
theorem St.zh {o l dz : Nat} {cs : List AVal} {H : AHeap} (hs : St o l dz cs H) : St o l dz cs (zh H) := ⟨cellsAt_psh _ hs.op, cellsAt_psh _ hs.li, let ⟨xs, hx⟩ := hs.no; ⟨xs, cellsAt_psh _ hx⟩⟩
section law
variable {o l dz : Nat} {kind : Int} {name to s : ByteArray} {n m : Int} {keep : AVal} {bits : Int} {H : AHeap} {d L : AVal} {i : Int}
theorem b13 : S_chainmanlaw04_FsNobody_13 o L i false H = S_chainmanlaw04_FsNobody_0 o L (IntKind.wrap .i64 (i + 1)) H := by rw [S_chainmanlaw04_FsNobody_13_eq]; rfl
theorem b12 (hd : NoOne H d) : S_chainmanlaw04_FsNobody_12 o L i d false H = S_chainmanlaw04_FsNobody_0 o L (IntKind.wrap .i64 (i + 1)) H := by
  rw [S_chainmanlaw04_FsNobody_12_eq, cond_false, clone_no hd]; exact b13
theorem b11 (hd : NoOne H d) : S_chainmanlaw04_FsNobody_11 o L i d false H = S_chainmanlaw04_FsNobody_0 o L (IntKind.wrap .i64 (i + 1)) H := by
  rw [S_chainmanlaw04_FsNobody_11_eq, cond_false, used_no hd]; exact b12 hd
theorem b10 (hd : NoOne H d) : S_chainmanlaw04_FsNobody_10 o L i d false H = S_chainmanlaw04_FsNobody_0 o L (IntKind.wrap .i64 (i + 1)) H := by
  rw [S_chainmanlaw04_FsNobody_10_eq, cond_false, calls_no hd]; exact b11 hd
theorem b9 (hd : NoOne H d) (hs : St o l dz (opC kind name to s n m keep bits) H) : S_chainmanlaw04_FsNobody_9 o L i d false H = S_chainmanlaw04_FsNobody_0 o L (IntKind.wrap .i64 (i + 1)) H := by
  rw [S_chainmanlaw04_FsNobody_9_eq, cond_false, ld1_of hs.op, ld1_of hs.op, ld1_of hs.op]
  show (S_fs_Disk_Turn d name n bits H).bind _ = _
  rw [turn_no hd]; exact b10 hd
theorem b8 (hd : NoOne H d) (hs : St o l dz (opC kind name to s n m keep bits) H) (hn : name.size ≤ 9223372036854775807) : S_chainmanlaw04_FsNobody_8 o L i d false H = S_chainmanlaw04_FsNobody_0 o L (IntKind.wrap .i64 (i + 1)) (zh (zh H)) := by
  rw [S_chainmanlaw04_FsNobody_8_eq, cond_false, ld1_of hs.op]
  show (S_fs_Disk_Remove d name H).bind _ = _
  rw [remove_no hd name hn]; exact b9 hd.zh.zh hs.zh.zh
theorem b7 (hd : NoOne H d) (hs : St o l dz (opC kind name to s n m keep bits) H) (hn : name.size ≤ 9223372036854775807) (ht : to.size ≤ 9223372036854775807) : ∃ G, St o l dz (opC kind name to s n m keep bits) G ∧ S_chainmanlaw04_FsNobody_7 o L i d false H = S_chainmanlaw04_FsNobody_0 o L (IntKind.wrap .i64 (i + 1)) G := by
  refine ⟨_, hs.zh.zh.zh.zh, ?_⟩
  rw [S_chainmanlaw04_FsNobody_7_eq, cond_false, ld1_of hs.op, ld1_of hs.op]
  show (S_fs_Disk_Rename d name to H).bind _ = _
  rw [rename_no hd name to hn ht]; exact b8 hd.zh.zh hs.zh.zh hn
theorem b6 (hd : NoOne H d) (hs : St o l dz (opC kind name to s n m keep bits) H) (hn : name.size ≤ 9223372036854775807) (ht : to.size ≤ 9223372036854775807) : ∃ G, St o l dz (opC kind name to s n m keep bits) G ∧ S_chainmanlaw04_FsNobody_6 o L i d false H = S_chainmanlaw04_FsNobody_0 o L (IntKind.wrap .i64 (i + 1)) G := by
  rw [S_chainmanlaw04_FsNobody_6_eq, cond_false, ld1_of hs.op]
  show ∃ G, _ ∧ (S_fs_Disk_Sync d name H).bind _ = _
  rw [sync_no hd name hn]; exact b7 hd.zh.zh hs.zh.zh hn ht
theorem b5 (hd : NoOne H d) (hs : St o l dz (opC kind name to s n m keep bits) H) (hn : name.size ≤ 9223372036854775807) (ht : to.size ≤ 9223372036854775807) : ∃ G, St o l dz (opC kind name to s n m keep bits) G ∧ S_chainmanlaw04_FsNobody_5 o L i d false H = S_chainmanlaw04_FsNobody_0 o L (IntKind.wrap .i64 (i + 1)) G := by
  rw [S_chainmanlaw04_FsNobody_5_eq, cond_false, ld1_of hs.op, ld1_of hs.op]
  show ∃ G, _ ∧ (S_fs_Disk_Append d name s H).bind _ = _
  rw [append_no hd name s hn]; exact b6 hd.zh.zh hs.zh.zh hn ht
theorem b4 (hd : NoOne H d) (hs : St o l dz (opC kind name to s n m keep bits) H) (hn : name.size ≤ 9223372036854775807) (ht : to.size ≤ 9223372036854775807) : ∃ G, St o l dz (opC kind name to s n m keep bits) G ∧ S_chainmanlaw04_FsNobody_4 o L i d false H = S_chainmanlaw04_FsNobody_0 o L (IntKind.wrap .i64 (i + 1)) G := by
  rw [S_chainmanlaw04_FsNobody_4_eq, cond_false, ld1_of hs.op]
  show ∃ G, _ ∧ (S_fs_Disk_Create d name H).bind _ = _
  rw [create_no hd name hn]; exact b5 hd.zh.zh hs.zh.zh hn ht
theorem b0 (hd : NoOne H d) (hs : St o l dz (opC kind name to s n m keep bits) H) (hn : name.size ≤ 9223372036854775807) (ht : to.size ≤ 9223372036854775807) (hi : (decide (i < 2)) = true) (hl : (idxP 1 (.sl 1 l 0 2) i).bind (ld1 H) = some d) :
    ∃ G, St o l dz (opC kind name to s n m keep bits) G ∧ S_chainmanlaw04_FsNobody_0 o (.sl 1 l 0 2) i H = S_chainmanlaw04_FsNobody_0 o (.sl 1 l 0 2) (IntKind.wrap .i64 (i + 1)) G := by
  obtain ⟨p, h1, h2⟩ := Option.bind_eq_some_iff.1 hl
  rw [S_chainmanlaw04_FsNobody_0_eq]
  show ∃ G, _ ∧ cond (decide (i < 2)) _ _ = _
  rw [hi, cond_true, h1, Option.bind_some, h2, Option.bind_some, ld1_of hs.op]
  show ∃ G, _ ∧ (S_fs_Disk_Arm d n H).bind _ = _
  rw [arm_no hd, Option.bind_some, ld1_of hs.op]
  show ∃ G, _ ∧ (S_fs_Disk_Rise d keep H).bind _ = _
  rw [rise_no hd, Option.bind_some, ld1_of hs.op, ld1_of hs.op, ld1_of hs.op]
  show ∃ G, _ ∧ (S_fs_Disk_Read d name n m H).bind _ = _
  rw [read_no hd name n m hn, Option.bind_some]
  show ∃ G, _ ∧ (ld1 (zh (zh H)) (.ptr o 1)).bind _ = _
  rw [ld1_of hs.zh.zh.op]
  show ∃ G, _ ∧ (S_fs_Disk_Size d name (zh (zh H))).bind _ = _
  rw [size_no hd.zh.zh name hn, Option.bind_some]
  show ∃ G, _ ∧ (S_fs_Disk_List d (zh (zh (zh (zh H))))).bind _ = _
  rw [list_no hd.zh.zh.zh.zh]
  show ∃ G, _ ∧ S_chainmanlaw04_FsNobody_1 o (.sl 1 l 0 2) i d (.lit (.slice none 0 0)) 1 false (zh (zh (zh (zh H)))) = _
  rw [S_chainmanlaw04_FsNobody_1_eq]
  show ∃ G, _ ∧ S_chainmanlaw04_FsNobody_3 o (.sl 1 l 0 2) i d (.lit (.slice none 0 0)) false (zh (zh (zh (zh H)))) = _
  rw [S_chainmanlaw04_FsNobody_3_eq]
  show ∃ G, _ ∧ S_chainmanlaw04_FsNobody_4 o (.sl 1 l 0 2) i d false (zh (zh (zh (zh H)))) = _
  exact b4 hd.zh.zh.zh.zh hs.zh.zh.zh.zh hn ht
end law
theorem nobody_run {kind : Int} {name to s : ByteArray} {n m : Int} {keep : AVal} {bits : Int} (hn : name.size ≤ 9223372036854775807) (ht : to.size ≤ 9223372036854775807) (h : AHeap) :
    Tru (S_chainmanlaw04_FsNobody (opC kind name to s n m keep bits) h) := by
  rw [S_chainmanlaw04_FsNobody_eq]
  generalize hh1 : psh (psh h (.cells (opC kind name to s n m keep bits))) (.cells ([(.lit (.bool false)), (.lit (.int .i64 0)), (.lit (.int .i64 0)), (.lit (.map none)), (.lit (.int .i64 0)), (.lit (.bool false)), (.lit (.int .i64 0))])) = H1
  have e1 : cellsAt H1 h.length = some (opC kind name to s n m keep bits) := by rw [← hh1]; exact cellsAt_psh _ (cellsAt_new _ _)
  have e2 : cellsAt H1 (psh h (.cells (opC kind name to s n m keep bits))).length = some [(.lit (.bool false)), (.lit (.int .i64 0)), (.lit (.int .i64 0)), (.lit (.map none)), (.lit (.int .i64 0)), (.lit (.bool false)), (.lit (.int .i64 0))] := by rw [← hh1]; exact cellsAt_new _ _
  generalize (psh h (.cells (opC kind name to s n m keep bits))).length = dz at e2 ⊢
  show Tru (S_chainmanlaw04_FsNobody_0 h.length (.sl 1 H1.length 0 2) 0 (psh H1 (.cells [.lit (.pointer none), .ptr dz 0])))
  have st : St h.length H1.length dz (opC kind name to s n m keep bits) (psh H1 (.cells [.lit (.pointer none), .ptr dz 0])) := ⟨cellsAt_psh _ e1, cellsAt_new _ _, _, cellsAt_psh _ e2⟩
  generalize psh H1 (.cells [.lit (.pointer none), .ptr dz 0]) = H2 at st ⊢
  generalize H1.length = l at st ⊢
  generalize h.length = o at st ⊢
  obtain ⟨G1, s1, q1⟩ := b0 (i := 0) (d := .lit (.pointer none)) (.inl rfl) st hn ht rfl (by show ld1 H2 (.ptr l 0) = _; rw [ld1_of st.li]; rfl)
  rw [q1]
  show Tru (S_chainmanlaw04_FsNobody_0 o (.sl 1 l 0 2) 1 G1)
  obtain ⟨xs, hx⟩ := s1.no
  obtain ⟨G2, s2, q2⟩ := b0 (i := 1) (d := .ptr dz 0) (.inr ⟨dz, xs, rfl, hx⟩) s1 hn ht rfl (by show ld1 G1 (.ptr l 1) = _; rw [ld1_of s1.li]; rfl)
  rw [q2]
  show Tru (S_chainmanlaw04_FsNobody_0 o (.sl 1 l 0 2) 2 G2)
  rw [S_chainmanlaw04_FsNobody_0_eq]
  show Tru (S_chainmanlaw04_FsNobody_2 G2)
  rw [S_chainmanlaw04_FsNobody_2_eq]
  exact .here
theorem nobody {kind : Int} {name to s : ByteArray} {n m : Int} {keep : AVal} {bits : Int} (hn : name.size ≤ 9223372036854775807) (ht : to.size ≤ 9223372036854775807) (h : AHeap) :
    ACalls Try.prog 4 [.agg (opC kind name to s n m keep bits)] h fun e h' => e = .ret (.lit (.bool true)) ∧ True := by
  obtain ⟨h', hx⟩ := nobody_run (kind := kind) (s := s) (n := n) (m := m) (keep := keep) (bits := bits) hn ht h
  exact S_chainmanlaw04_FsNobody_ends hx fun hok hl => ⟨_, .ret _, hl, ⟨rfl, trivial⟩, fun ρ w u hR hE => ⟨Fewer.refl _, hR, hE⟩⟩
end Go.Proofs.Ytglmofbcooefkaa.AL
