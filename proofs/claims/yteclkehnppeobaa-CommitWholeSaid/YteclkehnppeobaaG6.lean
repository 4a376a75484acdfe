import Derived.Test.YteclkehnppeobaaG5
import Derived.Test.YteclkehnppeobaaG2
import Derived.Test.YteclkehnppeobaaProg
import Derived.KernelRfl
/- The law of the commit: its functions. -/
namespace Go.Proofs.Yteclkehnppeobaa.AL
set_option linter.unusedVariables false
set_option linter.unusedSimpArgs false
set_option maxRecDepth 100000
open Go
open Go.Proofs.Try
noncomputable def w_chainmanlaw20_awake : XC := .p fun R args K => match args with
  | [] => K (.lit (.bool true))
  | _ => none
theorem w_chainmanlaw20_awake_ok : XC.Nat w_chainmanlaw20_awake ∧ XC.Ok Try.prog 7 w_chainmanlaw20_awake := by
  refine ⟨fun R args K => ?_, tc7, fun args h v hx => ?_⟩
  · dsimp only; split <;> simp [Option.bind_assoc, mkP]
  · dsimp only at hx; split at hx
    · cases hx
      exact AwCm.awake20_run _
    · cases hx
-- chainman/chainmanref04.Right: function 48
noncomputable def Echainmanref04_Right : XE := { T := tabOf [(3, r3), (4, r4), (5, r5), (9, r9)], C := [], D := [], Ms := [(7, [0])], Ml := [(2, [0, 3])], Mo := [(5006, [0, 3, 4, 19]), (5014, [0, 3, 4, 27]), (5018, [0, 3, 31]), (7008, [39])], n := 40 }
theorem Echainmanref04_Right_ok : XE.Ok Echainmanref04_Right Try.prog := ⟨tabOf_ok (⟨r3_ok, ⟨r4_ok, ⟨r5_ok, ⟨r9_ok, trivial⟩⟩⟩⟩), trivial, ydOk_none, trivial⟩
noncomputable def c48 : Code := bodyOf f48
noncomputable def S_chainmanref04_Right (name0 : ByteArray) (h : AHeap) : Option (AVal × AHeap) := xfun Echainmanref04_Right f48 [(.lit (.string name0))] h
noncomputable def S_chainmanref04_Right_0 (name0 : ByteArray) (i3 : Int) (h : AHeap) : Option (AVal × AHeap) := xexec Echainmanref04_Right (.loop (ca (ca (cb (ca (cb c48)))))) (AVal × AHeap) [(0, (.lit (.string name0))), (3, (.lit (.int .i64 i3)))] h (kBlk 0 (kSeq Echainmanref04_Right (cb (cb c48)) (xend Echainmanref04_Right f48)))
noncomputable def S_chainmanref04_Right_1 (name0 : ByteArray) (i3 : Int) (c4 : Int) (t19 : Bool) (h : AHeap) : Option (AVal × AHeap) := jo Echainmanref04_Right 5 (rops (ca (cb (ca (ca (cb (ca (ca (cb (ca (cb c48))))))))))) ((rops (ca (cb (ca (ca (cb (ca (ca (cb (ca (cb c48))))))))))).toList.drop 6) 6 [(0, (.lit (.string name0))), (3, (.lit (.int .i64 i3))), (4, (.lit (.int .u8 c4))), (19, (.lit (.bool t19)))] h (kN (kSeq Echainmanref04_Right (cb (cb (ca (ca (cb (ca (ca (cb (ca (cb c48)))))))))) (kBlk 1 (kSeq Echainmanref04_Right (cb (cb (ca (ca (cb (ca (cb c48))))))) (kLoop Echainmanref04_Right (ca (ca (cb (ca (cb c48))))) (kBlk 0 (kSeq Echainmanref04_Right (cb (cb c48)) (xend Echainmanref04_Right f48))))))))
noncomputable def S_chainmanref04_Right_2 (name0 : ByteArray) (h : AHeap) : Option (AVal × AHeap) := jn (xexec Echainmanref04_Right (cb (cb c48)) (AVal × AHeap) [(0, (.lit (.string name0)))] h (xend Echainmanref04_Right f48))
noncomputable def S_chainmanref04_Right_3 (name0 : ByteArray) (i3 : Int) (c4 : Int) (t27 : Bool) (h : AHeap) : Option (AVal × AHeap) := jo Echainmanref04_Right 5 (rops (ca (cb (ca (ca (cb (ca (ca (cb (ca (cb c48))))))))))) ((rops (ca (cb (ca (ca (cb (ca (ca (cb (ca (cb c48))))))))))).toList.drop 14) 14 [(0, (.lit (.string name0))), (3, (.lit (.int .i64 i3))), (4, (.lit (.int .u8 c4))), (27, (.lit (.bool t27)))] h (kN (kSeq Echainmanref04_Right (cb (cb (ca (ca (cb (ca (ca (cb (ca (cb c48)))))))))) (kBlk 1 (kSeq Echainmanref04_Right (cb (cb (ca (ca (cb (ca (cb c48))))))) (kLoop Echainmanref04_Right (ca (ca (cb (ca (cb c48))))) (kBlk 0 (kSeq Echainmanref04_Right (cb (cb c48)) (xend Echainmanref04_Right f48))))))))
noncomputable def S_chainmanref04_Right_4 (t39 : Bool) (h : AHeap) : Option (AVal × AHeap) := jo Echainmanref04_Right 7 (rops (ca (cb (cb c48)))) ((rops (ca (cb (cb c48)))).toList.drop 8) 8 [(39, (.lit (.bool t39)))] h (kN (kSeq Echainmanref04_Right (cb (cb (cb c48))) (xend Echainmanref04_Right f48)))
noncomputable def S_chainmanref04_Right_5 (name0 : ByteArray) (i3 : Int) (t31 : Bool) (h : AHeap) : Option (AVal × AHeap) := jo Echainmanref04_Right 5 (rops (ca (cb (ca (ca (cb (ca (ca (cb (ca (cb c48))))))))))) ((rops (ca (cb (ca (ca (cb (ca (ca (cb (ca (cb c48))))))))))).toList.drop 18) 18 [(0, (.lit (.string name0))), (3, (.lit (.int .i64 i3))), (31, (.lit (.bool t31)))] h (kN (kSeq Echainmanref04_Right (cb (cb (ca (ca (cb (ca (ca (cb (ca (cb c48)))))))))) (kBlk 1 (kSeq Echainmanref04_Right (cb (cb (ca (ca (cb (ca (cb c48))))))) (kLoop Echainmanref04_Right (ca (ca (cb (ca (cb c48))))) (kBlk 0 (kSeq Echainmanref04_Right (cb (cb c48)) (xend Echainmanref04_Right f48))))))))
theorem S_chainmanref04_Right_eq (name0 : ByteArray) (h : AHeap) : S_chainmanref04_Right name0 h =
 S_chainmanref04_Right_0 name0 0 h := by kernel_rfl
theorem S_chainmanref04_Right_0_eq (name0 : ByteArray) (i3 : Int) (h : AHeap) : S_chainmanref04_Right_0 name0 i3 h =
 bif (decide (i3 < (name0.size : Int))) then ((strAt name0 i3).bind fun n1 =>
 bif (decide (n1 < 97)) then (S_chainmanref04_Right_1 name0 i3 n1 true h)
 else (S_chainmanref04_Right_1 name0 i3 n1 (decide (n1 > 122)) h))
 else (S_chainmanref04_Right_2 name0 h) := (xexec_loop Echainmanref04_Right Echainmanref04_Right_ok.C.nat _ _ _ _ _).trans (by kernel_rfl)
theorem S_chainmanref04_Right_1_eq (name0 : ByteArray) (i3 : Int) (c4 : Int) (t19 : Bool) (h : AHeap) : S_chainmanref04_Right_1 name0 i3 c4 t19 h =
 bif t19 then (bif (decide (c4 < 48)) then (S_chainmanref04_Right_3 name0 i3 c4 true h)
 else (S_chainmanref04_Right_3 name0 i3 c4 (decide (c4 > 57)) h))
 else (S_chainmanref04_Right_3 name0 i3 c4 false h) := (jo_eq ..).trans (by kernel_rfl)
theorem S_chainmanref04_Right_2_eq (name0 : ByteArray) (h : AHeap) : S_chainmanref04_Right_2 name0 h =
 bif (decide ((name0.size : Int) ≥ 1)) then (S_chainmanref04_Right_4 (decide ((name0.size : Int) ≤ 24)) h)
 else (S_chainmanref04_Right_4 false h) := (jn_eq _).trans (by kernel_rfl)
theorem S_chainmanref04_Right_3_eq (name0 : ByteArray) (i3 : Int) (c4 : Int) (t27 : Bool) (h : AHeap) : S_chainmanref04_Right_3 name0 i3 c4 t27 h =
 bif t27 then (S_chainmanref04_Right_5 name0 i3 (!decide (c4 = 46)) h)
 else (S_chainmanref04_Right_5 name0 i3 false h) := (jo_eq ..).trans (by kernel_rfl)
theorem S_chainmanref04_Right_4_eq (t39 : Bool) (h : AHeap) : S_chainmanref04_Right_4 t39 h =
 some ((.lit (.bool t39)), h) := (jo_eq ..).trans (by kernel_rfl)
theorem S_chainmanref04_Right_5_eq (name0 : ByteArray) (i3 : Int) (t31 : Bool) (h : AHeap) : S_chainmanref04_Right_5 name0 i3 t31 h =
 bif t31 then (some ((.lit (.bool false)), h))
 else (S_chainmanref04_Right_0 name0 (IntKind.wrap .i64 (i3 + 1)) h) := (jo_eq ..).trans (by kernel_rfl)
theorem S_chainmanref04_Right_ends {name0 : ByteArray} {h h' : AHeap} {v : AVal} {R : AEnd → AHeap → Prop} (hx : S_chainmanref04_Right name0 h = some (v, h')) (hR : HOk h → h.length ≤ h'.length → ABody.AEnds h h' (.ret v) R) : ACalls Try.prog 48 [(.lit (.string name0))] h R := xfun_ends Echainmanref04_Right_ok tmix (i := 48) (by rfl) (by kernel_rfl) (by kernel_rfl) hx hR
noncomputable def w_chainmanref04_Right : XC := .q fun R args h K => match args with
  | [.lit (.string a0)] => (goneR (S_chainmanref04_Right a0 h) h).bind fun r => K r
  | _ => none
theorem w_chainmanref04_Right_ok : XC.Nat w_chainmanref04_Right ∧ XC.Ok Try.prog 48 w_chainmanref04_Right := by
  refine ⟨fun R args h K => ?_, tc48, fun args h v hx => ?_⟩
  · dsimp only; split <;> simp [Option.bind_assoc, mkP]
  · dsimp only at hx; split at hx
    · obtain ⟨r, hopt, hx⟩ := Option.bind_eq_some_iff.1 hx
      cases hx
      exact (by obtain ⟨h', hopt, hg, hc⟩ := goneR_some hopt; exact S_chainmanref04_Right_ends hopt (goneEnds hg hc))
    · cases hx
-- chainman/chainmanref19.Same: function 13
noncomputable def Echainmanref19_Same : XE := { T := tabOf [(3, r3), (4, r4), (9, r9), (29, r29), (31, r31), (50, r50), (85, r85)], C := [], D := [(6, ⟨[], [0, 1, 2, 3, 4, 5, 6, 7, 8, 9, 10], [], [], [], [], []⟩)], Ms := [(8, [])], Ml := [(4, [2, 3, 5])], Mo := [(1012, [2, 3, 17]), (1021, [2, 3, 26])], n := 45 }
theorem Echainmanref19_Same_ok : XE.Ok Echainmanref19_Same Try.prog := ⟨tabOf_ok (⟨r3_ok, ⟨r4_ok, ⟨r9_ok, ⟨r29_ok, ⟨r31_ok, ⟨r50_ok, ⟨r85_ok, trivial⟩⟩⟩⟩⟩⟩⟩), trivial, ydOk_none, trivial⟩
noncomputable def c13 : Code := bodyOf f13
noncomputable def S_chainmanref19_Same (a0 : List AVal) (b1 : List AVal) (h : AHeap) : Option (AVal × AHeap) := xfun Echainmanref19_Same f13 [(.agg a0), (.agg b1)] h
noncomputable def S_chainmanref19_Same_0 (a2 : Nat) (b3 : Nat) (t17 : Bool) (h : AHeap) : Option (AVal × AHeap) := jo Echainmanref19_Same 1 (rops (ca (ca (cb c13)))) ((rops (ca (ca (cb c13)))).toList.drop 12) 12 [(2, (.ptr a2 0)), (3, (.ptr b3 0)), (17, (.lit (.bool t17)))] h (kN (kSeq Echainmanref19_Same (cb (ca (cb c13))) (kSeq Echainmanref19_Same (cb (cb c13)) (xend Echainmanref19_Same f13))))
noncomputable def S_chainmanref19_Same_1 (a2 : Nat) (b3 : Nat) (t26 : Bool) (h : AHeap) : Option (AVal × AHeap) := jo Echainmanref19_Same 1 (rops (ca (ca (cb c13)))) ((rops (ca (ca (cb c13)))).toList.drop 21) 21 [(2, (.ptr a2 0)), (3, (.ptr b3 0)), (26, (.lit (.bool t26)))] h (kN (kSeq Echainmanref19_Same (cb (ca (cb c13))) (kSeq Echainmanref19_Same (cb (cb c13)) (xend Echainmanref19_Same f13))))
noncomputable def S_chainmanref19_Same_2 (a2 : Nat) (b3 : Nat) (i5 : Int) (h : AHeap) : Option (AVal × AHeap) := xexec Echainmanref19_Same (.loop (ca (ca (cb (ca (cb (cb c13))))))) (AVal × AHeap) [(2, (.ptr a2 0)), (3, (.ptr b3 0)), (5, (.lit (.int .i64 i5)))] h (kBlk 0 (kSeq Echainmanref19_Same (cb (cb (cb c13))) (xend Echainmanref19_Same f13)))
noncomputable def S_chainmanref19_Same_3  (h : AHeap) : Option (AVal × AHeap) := jn (xexec Echainmanref19_Same (cb (cb (cb c13))) (AVal × AHeap) [] h (xend Echainmanref19_Same f13))
theorem S_chainmanref19_Same_eq (a0 : List AVal) (b1 : List AVal) (h : AHeap) : S_chainmanref19_Same a0 b1 h =
 (ld1 ((psh ((psh h (.cells a0))) (.cells b1))) (.ptr h.length 0)).bind fun x1 =>
 (asI .i64 x1).bind fun n2 =>
 (ld1 ((psh ((psh h (.cells a0))) (.cells b1))) (.ptr (((psh h (.cells a0))).length) 0)).bind fun x3 =>
 (asI .i64 x3).bind fun n4 =>
 bif (!decide (n2 = n4)) then (S_chainmanref19_Same_0 h.length (((psh h (.cells a0))).length) true ((psh ((psh h (.cells a0))) (.cells b1))))
 else ((ld1 ((psh ((psh h (.cells a0))) (.cells b1))) (.ptr h.length 1)).bind fun x5 =>
 (asI .i64 x5).bind fun n6 =>
 (ld1 ((psh ((psh h (.cells a0))) (.cells b1))) (.ptr (((psh h (.cells a0))).length) 1)).bind fun x7 =>
 (asI .i64 x7).bind fun n8 =>
 S_chainmanref19_Same_0 h.length (((psh h (.cells a0))).length) (!decide (n6 = n8)) ((psh ((psh h (.cells a0))) (.cells b1)))) := by kernel_rfl
theorem S_chainmanref19_Same_0_eq (a2 : Nat) (b3 : Nat) (t17 : Bool) (h : AHeap) : S_chainmanref19_Same_0 a2 b3 t17 h =
 bif t17 then (S_chainmanref19_Same_1 a2 b3 true h)
 else ((ld1 h (.ptr a2 2)).bind fun x9 =>
 (lenV x9).bind fun n10 =>
 (ld1 h (.ptr b3 2)).bind fun x11 =>
 (lenV x11).bind fun n12 =>
 S_chainmanref19_Same_1 a2 b3 (!decide (n10 = n12)) h) := (jo_eq ..).trans (by kernel_rfl)
theorem S_chainmanref19_Same_1_eq (a2 : Nat) (b3 : Nat) (t26 : Bool) (h : AHeap) : S_chainmanref19_Same_1 a2 b3 t26 h =
 bif t26 then (some ((.lit (.bool false)), h))
 else (S_chainmanref19_Same_2 a2 b3 0 h) := (jo_eq ..).trans (by kernel_rfl)
theorem S_chainmanref19_Same_2_eq (a2 : Nat) (b3 : Nat) (i5 : Int) (h : AHeap) : S_chainmanref19_Same_2 a2 b3 i5 h =
 (ld1 h (.ptr a2 2)).bind fun x13 =>
 (lenV x13).bind fun n14 =>
 bif (decide (i5 < n14)) then ((ld1 h (.ptr a2 2)).bind fun x15 =>
 (idxP 4 x15 i5).bind fun p16 =>
 (ldn 4 h p16).bind fun xs17 =>
 (ld1 h (.ptr b3 2)).bind fun x18 =>
 (idxP 4 x18 i5).bind fun p19 =>
 (ldn 4 h p19).bind fun xs20 =>
 (leafEq [.str, .int, .int, .int] xs17 xs20).bind fun b21 =>
 bif (!b21) then (some ((.lit (.bool false)), h))
 else (S_chainmanref19_Same_2 a2 b3 (IntKind.wrap .i64 (i5 + 1)) h))
 else (S_chainmanref19_Same_3 h) := (xexec_loop Echainmanref19_Same Echainmanref19_Same_ok.C.nat _ _ _ _ _).trans (by kernel_rfl)
theorem S_chainmanref19_Same_3_eq  (h : AHeap) : S_chainmanref19_Same_3  h =
 some ((.lit (.bool true)), h) := (jn_eq _).trans (by kernel_rfl)
theorem S_chainmanref19_Same_ends {a0 : List AVal} {b1 : List AVal} {h h' : AHeap} {v : AVal} {R : AEnd → AHeap → Prop} (hx : S_chainmanref19_Same a0 b1 h = some (v, h')) (hR : HOk h → h.length ≤ h'.length → ABody.AEnds h h' (.ret v) R) : ACalls Try.prog 13 [(.agg a0), (.agg b1)] h R := xfun_ends Echainmanref19_Same_ok tmix (i := 13) (by rfl) (by kernel_rfl) (by kernel_rfl) hx hR
noncomputable def w_chainmanref19_Same : XC := .q fun R args h K => match args with
  | [.agg a0, .agg a1] => (goneR (S_chainmanref19_Same a0 a1 h) h).bind fun r => K r
  | _ => none
theorem w_chainmanref19_Same_ok : XC.Nat w_chainmanref19_Same ∧ XC.Ok Try.prog 13 w_chainmanref19_Same := by
  refine ⟨fun R args h K => ?_, tc13, fun args h v hx => ?_⟩
  · dsimp only; split <;> simp [Option.bind_assoc, mkP]
  · dsimp only at hx; split at hx
    · obtain ⟨r, hopt, hx⟩ := Option.bind_eq_some_iff.1 hx
      cases hx
      exact (by obtain ⟨h', hopt, hg, hc⟩ := goneR_some hopt; exact S_chainmanref19_Same_ends hopt (goneEnds hg hc))
    · cases hx
-- chainman/chainmanref19.Right: function 14
noncomputable def Echainmanref19_Right : XE := { T := tabOf [(3, r3), (4, r4), (9, r9), (29, r29), (31, r31), (50, r50), (85, r85)], C := [(48, w_chainmanref04_Right)], D := [(12, ⟨[], [0, 1, 2, 3, 4, 5, 6, 7, 8], [], [], [], [], []⟩)], Ms := [(5, [1, 3]), (14, [])], Ml := [(4, [1, 3]), (10, [1, 3, 4, 5])], Mo := [(1008, [1, 13]), (1013, [1, 18]), (1018, [1, 23]), (1024, [1, 29]), (7009, [1, 3, 4, 50]), (7014, [1, 3, 4, 55]), (7019, [1, 3, 4, 60]), (7024, [1, 3, 4, 65])], n := 80 }
theorem Echainmanref19_Right_ok : XE.Ok Echainmanref19_Right Try.prog := ⟨tabOf_ok (⟨r3_ok, ⟨r4_ok, ⟨r9_ok, ⟨r29_ok, ⟨r31_ok, ⟨r50_ok, ⟨r85_ok, trivial⟩⟩⟩⟩⟩⟩⟩), (⟨w_chainmanref04_Right_ok, trivial⟩), ydOk_none, trivial⟩
noncomputable def c14 : Code := bodyOf f14
noncomputable def S_chainmanref19_Right (m0 : List AVal) (h : AHeap) : Option (AVal × AHeap) := xfun Echainmanref19_Right f14 [(.agg m0)] h
noncomputable def S_chainmanref19_Right_0 (m1 : Nat) (t13 : Bool) (h : AHeap) : Option (AVal × AHeap) := jo Echainmanref19_Right 1 (rops (ca (ca (cb c14)))) ((rops (ca (ca (cb c14)))).toList.drop 8) 8 [(1, (.ptr m1 0)), (13, (.lit (.bool t13)))] h (kN (kSeq Echainmanref19_Right (cb (ca (cb c14))) (kSeq Echainmanref19_Right (cb (cb c14)) (xend Echainmanref19_Right f14))))
noncomputable def S_chainmanref19_Right_1 (m1 : Nat) (t18 : Bool) (h : AHeap) : Option (AVal × AHeap) := jo Echainmanref19_Right 1 (rops (ca (ca (cb c14)))) ((rops (ca (ca (cb c14)))).toList.drop 13) 13 [(1, (.ptr m1 0)), (18, (.lit (.bool t18)))] h (kN (kSeq Echainmanref19_Right (cb (ca (cb c14))) (kSeq Echainmanref19_Right (cb (cb c14)) (xend Echainmanref19_Right f14))))
noncomputable def S_chainmanref19_Right_2 (m1 : Nat) (t23 : Bool) (h : AHeap) : Option (AVal × AHeap) := jo Echainmanref19_Right 1 (rops (ca (ca (cb c14)))) ((rops (ca (ca (cb c14)))).toList.drop 18) 18 [(1, (.ptr m1 0)), (23, (.lit (.bool t23)))] h (kN (kSeq Echainmanref19_Right (cb (ca (cb c14))) (kSeq Echainmanref19_Right (cb (cb c14)) (xend Echainmanref19_Right f14))))
noncomputable def S_chainmanref19_Right_3 (m1 : Nat) (t29 : Bool) (h : AHeap) : Option (AVal × AHeap) := jo Echainmanref19_Right 1 (rops (ca (ca (cb c14)))) ((rops (ca (ca (cb c14)))).toList.drop 24) 24 [(1, (.ptr m1 0)), (29, (.lit (.bool t29)))] h (kN (kSeq Echainmanref19_Right (cb (ca (cb c14))) (kSeq Echainmanref19_Right (cb (cb c14)) (xend Echainmanref19_Right f14))))
noncomputable def S_chainmanref19_Right_4 (m1 : Nat) (i3 : Int) (h : AHeap) : Option (AVal × AHeap) := xexec Echainmanref19_Right (.loop (ca (ca (cb (ca (cb (cb c14))))))) (AVal × AHeap) [(1, (.ptr m1 0)), (3, (.lit (.int .i64 i3)))] h (kBlk 0 (kSeq Echainmanref19_Right (cb (cb (cb c14))) (xend Echainmanref19_Right f14)))
noncomputable def S_chainmanref19_Right_5 (m1 : Nat) (i3 : Int) (f4 : Nat) (t50 : Bool) (h : AHeap) : Option (AVal × AHeap) := jo Echainmanref19_Right 7 (rops (ca (ca (cb (ca (ca (cb (ca (ca (cb (ca (cb (cb c14))))))))))))) ((rops (ca (ca (cb (ca (ca (cb (ca (ca (cb (ca (cb (cb c14))))))))))))).toList.drop 9) 9 [(1, (.ptr m1 0)), (3, (.lit (.int .i64 i3))), (4, (.ptr f4 0)), (50, (.lit (.bool t50)))] h (kN (kSeq Echainmanref19_Right (cb (ca (cb (ca (ca (cb (ca (ca (cb (ca (cb (cb c14)))))))))))) (kSeq Echainmanref19_Right (cb (cb (ca (ca (cb (ca (ca (cb (ca (cb (cb c14))))))))))) (kBlk 1 (kSeq Echainmanref19_Right (cb (cb (ca (ca (cb (ca (cb (cb c14)))))))) (kLoop Echainmanref19_Right (ca (ca (cb (ca (cb (cb c14)))))) (kBlk 0 (kSeq Echainmanref19_Right (cb (cb (cb c14))) (xend Echainmanref19_Right f14)))))))))
noncomputable def S_chainmanref19_Right_6  (h : AHeap) : Option (AVal × AHeap) := jn (xexec Echainmanref19_Right (cb (cb (cb c14))) (AVal × AHeap) [] h (xend Echainmanref19_Right f14))
noncomputable def S_chainmanref19_Right_7 (m1 : Nat) (i3 : Int) (f4 : Nat) (t55 : Bool) (h : AHeap) : Option (AVal × AHeap) := jo Echainmanref19_Right 7 (rops (ca (ca (cb (ca (ca (cb (ca (ca (cb (ca (cb (cb c14))))))))))))) ((rops (ca (ca (cb (ca (ca (cb (ca (ca (cb (ca (cb (cb c14))))))))))))).toList.drop 14) 14 [(1, (.ptr m1 0)), (3, (.lit (.int .i64 i3))), (4, (.ptr f4 0)), (55, (.lit (.bool t55)))] h (kN (kSeq Echainmanref19_Right (cb (ca (cb (ca (ca (cb (ca (ca (cb (ca (cb (cb c14)))))))))))) (kSeq Echainmanref19_Right (cb (cb (ca (ca (cb (ca (ca (cb (ca (cb (cb c14))))))))))) (kBlk 1 (kSeq Echainmanref19_Right (cb (cb (ca (ca (cb (ca (cb (cb c14)))))))) (kLoop Echainmanref19_Right (ca (ca (cb (ca (cb (cb c14)))))) (kBlk 0 (kSeq Echainmanref19_Right (cb (cb (cb c14))) (xend Echainmanref19_Right f14)))))))))
noncomputable def S_chainmanref19_Right_8 (m1 : Nat) (i3 : Int) (f4 : Nat) (t60 : Bool) (h : AHeap) : Option (AVal × AHeap) := jo Echainmanref19_Right 7 (rops (ca (ca (cb (ca (ca (cb (ca (ca (cb (ca (cb (cb c14))))))))))))) ((rops (ca (ca (cb (ca (ca (cb (ca (ca (cb (ca (cb (cb c14))))))))))))).toList.drop 19) 19 [(1, (.ptr m1 0)), (3, (.lit (.int .i64 i3))), (4, (.ptr f4 0)), (60, (.lit (.bool t60)))] h (kN (kSeq Echainmanref19_Right (cb (ca (cb (ca (ca (cb (ca (ca (cb (ca (cb (cb c14)))))))))))) (kSeq Echainmanref19_Right (cb (cb (ca (ca (cb (ca (ca (cb (ca (cb (cb c14))))))))))) (kBlk 1 (kSeq Echainmanref19_Right (cb (cb (ca (ca (cb (ca (cb (cb c14)))))))) (kLoop Echainmanref19_Right (ca (ca (cb (ca (cb (cb c14)))))) (kBlk 0 (kSeq Echainmanref19_Right (cb (cb (cb c14))) (xend Echainmanref19_Right f14)))))))))
noncomputable def S_chainmanref19_Right_9 (m1 : Nat) (i3 : Int) (f4 : Nat) (t65 : Bool) (h : AHeap) : Option (AVal × AHeap) := jo Echainmanref19_Right 7 (rops (ca (ca (cb (ca (ca (cb (ca (ca (cb (ca (cb (cb c14))))))))))))) ((rops (ca (ca (cb (ca (ca (cb (ca (ca (cb (ca (cb (cb c14))))))))))))).toList.drop 24) 24 [(1, (.ptr m1 0)), (3, (.lit (.int .i64 i3))), (4, (.ptr f4 0)), (65, (.lit (.bool t65)))] h (kN (kSeq Echainmanref19_Right (cb (ca (cb (ca (ca (cb (ca (ca (cb (ca (cb (cb c14)))))))))))) (kSeq Echainmanref19_Right (cb (cb (ca (ca (cb (ca (ca (cb (ca (cb (cb c14))))))))))) (kBlk 1 (kSeq Echainmanref19_Right (cb (cb (ca (ca (cb (ca (cb (cb c14)))))))) (kLoop Echainmanref19_Right (ca (ca (cb (ca (cb (cb c14)))))) (kBlk 0 (kSeq Echainmanref19_Right (cb (cb (cb c14))) (xend Echainmanref19_Right f14)))))))))
noncomputable def S_chainmanref19_Right_10 (m1 : Nat) (i3 : Int) (f4 : Nat) (k5 : Int) (h : AHeap) : Option (AVal × AHeap) := xexec Echainmanref19_Right (.loop (ca (ca (cb (cb (cb (ca (ca (cb (ca (ca (cb (ca (cb (cb c14))))))))))))))) (AVal × AHeap) [(1, (.ptr m1 0)), (3, (.lit (.int .i64 i3))), (4, (.ptr f4 0)), (5, (.lit (.int .i64 k5)))] h (kBlk 2 (kBlk 1 (kSeq Echainmanref19_Right (cb (cb (ca (ca (cb (ca (cb (cb c14)))))))) (kLoop Echainmanref19_Right (ca (ca (cb (ca (cb (cb c14)))))) (kBlk 0 (kSeq Echainmanref19_Right (cb (cb (cb c14))) (xend Echainmanref19_Right f14)))))))
noncomputable def S_chainmanref19_Right_11 (m1 : Nat) (i3 : Int) (h : AHeap) : Option (AVal × AHeap) := jn (xexec Echainmanref19_Right (cb (cb (ca (ca (cb (ca (cb (cb c14)))))))) (AVal × AHeap) [(1, (.ptr m1 0)), (3, (.lit (.int .i64 i3)))] h (kLoop Echainmanref19_Right (ca (ca (cb (ca (cb (cb c14)))))) (kBlk 0 (kSeq Echainmanref19_Right (cb (cb (cb c14))) (xend Echainmanref19_Right f14)))))
theorem S_chainmanref19_Right_eq (m0 : List AVal) (h : AHeap) : S_chainmanref19_Right m0 h =
 (ld1 ((psh h (.cells m0))) (.ptr h.length 0)).bind fun x1 =>
 (asI .i64 x1).bind fun n2 =>
 bif (decide (n2 < 1)) then (S_chainmanref19_Right_0 h.length true ((psh h (.cells m0))))
 else ((ld1 ((psh h (.cells m0))) (.ptr h.length 0)).bind fun x3 =>
 (asI .i64 x3).bind fun n4 =>
 S_chainmanref19_Right_0 h.length (decide (n4 > 7)) ((psh h (.cells m0)))) := by kernel_rfl
theorem S_chainmanref19_Right_0_eq (m1 : Nat) (t13 : Bool) (h : AHeap) : S_chainmanref19_Right_0 m1 t13 h =
 bif t13 then (S_chainmanref19_Right_1 m1 true h)
 else ((ld1 h (.ptr m1 1)).bind fun x5 =>
 (asI .i64 x5).bind fun n6 =>
 S_chainmanref19_Right_1 m1 (decide (n6 < 0)) h) := (jo_eq ..).trans (by kernel_rfl)
theorem S_chainmanref19_Right_1_eq (m1 : Nat) (t18 : Bool) (h : AHeap) : S_chainmanref19_Right_1 m1 t18 h =
 bif t18 then (S_chainmanref19_Right_2 m1 true h)
 else ((ld1 h (.ptr m1 1)).bind fun x7 =>
 (asI .i64 x7).bind fun n8 =>
 S_chainmanref19_Right_2 m1 (decide (n8 > 1000)) h) := (jo_eq ..).trans (by kernel_rfl)
theorem S_chainmanref19_Right_2_eq (m1 : Nat) (t23 : Bool) (h : AHeap) : S_chainmanref19_Right_2 m1 t23 h =
 bif t23 then (S_chainmanref19_Right_3 m1 true h)
 else ((ld1 h (.ptr m1 2)).bind fun x9 =>
 (lenV x9).bind fun n10 =>
 S_chainmanref19_Right_3 m1 (decide (n10 > 16)) h) := (jo_eq ..).trans (by kernel_rfl)
theorem S_chainmanref19_Right_3_eq (m1 : Nat) (t29 : Bool) (h : AHeap) : S_chainmanref19_Right_3 m1 t29 h =
 bif t29 then (some ((.lit (.bool false)), h))
 else (S_chainmanref19_Right_4 m1 0 h) := (jo_eq ..).trans (by kernel_rfl)
theorem S_chainmanref19_Right_4_eq (m1 : Nat) (i3 : Int) (h : AHeap) : S_chainmanref19_Right_4 m1 i3 h =
 (ld1 h (.ptr m1 2)).bind fun x11 =>
 (lenV x11).bind fun n12 =>
 bif (decide (i3 < n12)) then ((ld1 h (.ptr m1 2)).bind fun x13 =>
 (idxP 4 x13 i3).bind fun p14 =>
 (ldn 4 h p14).bind fun xs15 =>
 (stn 4 ((psh h (.cells [(.lit (.string ({ data := #[] }))), (.lit (.int .i64 0)), (.lit (.int .i64 0)), (.lit (.int .u32 0))]))) (.ptr h.length 0) xs15).bind fun h16 =>
 (ld1 h16 (.ptr h.length 0)).bind fun x17 =>
 (asS x17).bind fun s18 =>
 (goneR (S_chainmanref04_Right s18 h16) h16).bind fun r19 =>
 (asB r19).bind fun b20 =>
 bif (!b20) then (S_chainmanref19_Right_5 m1 i3 h.length true h16)
 else ((ld1 h16 (.ptr h.length 1)).bind fun x21 =>
 (asI .i64 x21).bind fun n22 =>
 S_chainmanref19_Right_5 m1 i3 h.length (decide (n22 < 1)) h16))
 else (S_chainmanref19_Right_6 h) := (xexec_loop Echainmanref19_Right Echainmanref19_Right_ok.C.nat _ _ _ _ _).trans (by kernel_rfl)
theorem S_chainmanref19_Right_5_eq (m1 : Nat) (i3 : Int) (f4 : Nat) (t50 : Bool) (h : AHeap) : S_chainmanref19_Right_5 m1 i3 f4 t50 h =
 bif t50 then (S_chainmanref19_Right_7 m1 i3 f4 true h)
 else ((ld1 h (.ptr f4 1)).bind fun x23 =>
 (asI .i64 x23).bind fun n24 =>
 S_chainmanref19_Right_7 m1 i3 f4 (decide (n24 > 64)) h) := (jo_eq ..).trans (by kernel_rfl)
theorem S_chainmanref19_Right_6_eq  (h : AHeap) : S_chainmanref19_Right_6  h =
 some ((.lit (.bool true)), h) := (jn_eq _).trans (by kernel_rfl)
theorem S_chainmanref19_Right_7_eq (m1 : Nat) (i3 : Int) (f4 : Nat) (t55 : Bool) (h : AHeap) : S_chainmanref19_Right_7 m1 i3 f4 t55 h =
 bif t55 then (S_chainmanref19_Right_8 m1 i3 f4 true h)
 else ((ld1 h (.ptr f4 2)).bind fun x25 =>
 (asI .i64 x25).bind fun n26 =>
 S_chainmanref19_Right_8 m1 i3 f4 (decide (n26 < 0)) h) := (jo_eq ..).trans (by kernel_rfl)
theorem S_chainmanref19_Right_8_eq (m1 : Nat) (i3 : Int) (f4 : Nat) (t60 : Bool) (h : AHeap) : S_chainmanref19_Right_8 m1 i3 f4 t60 h =
 bif t60 then (S_chainmanref19_Right_9 m1 i3 f4 true h)
 else ((ld1 h (.ptr f4 2)).bind fun x27 =>
 (asI .i64 x27).bind fun n28 =>
 S_chainmanref19_Right_9 m1 i3 f4 (decide (n28 > 4611686018427387904)) h) := (jo_eq ..).trans (by kernel_rfl)
theorem S_chainmanref19_Right_9_eq (m1 : Nat) (i3 : Int) (f4 : Nat) (t65 : Bool) (h : AHeap) : S_chainmanref19_Right_9 m1 i3 f4 t65 h =
 bif t65 then (some ((.lit (.bool false)), h))
 else (S_chainmanref19_Right_10 m1 i3 f4 0 h) := (jo_eq ..).trans (by kernel_rfl)
theorem S_chainmanref19_Right_10_eq (m1 : Nat) (i3 : Int) (f4 : Nat) (k5 : Int) (h : AHeap) : S_chainmanref19_Right_10 m1 i3 f4 k5 h =
 bif (decide (k5 < i3)) then ((ld1 h (.ptr m1 2)).bind fun x29 =>
 (idxP 4 x29 k5).bind fun p30 =>
 (fieldP 0 p30).bind fun p31 =>
 (ld1 h p31).bind fun x32 =>
 (asS x32).bind fun s33 =>
 (ld1 h (.ptr f4 0)).bind fun x34 =>
 (asS x34).bind fun s35 =>
 bif (decide (s33 = s35)) then (some ((.lit (.bool false)), h))
 else (S_chainmanref19_Right_10 m1 i3 f4 (IntKind.wrap .i64 (k5 + 1)) h))
 else (S_chainmanref19_Right_11 m1 i3 h) := (xexec_loop Echainmanref19_Right Echainmanref19_Right_ok.C.nat _ _ _ _ _).trans (by kernel_rfl)
theorem S_chainmanref19_Right_11_eq (m1 : Nat) (i3 : Int) (h : AHeap) : S_chainmanref19_Right_11 m1 i3 h =
 S_chainmanref19_Right_4 m1 (IntKind.wrap .i64 (i3 + 1)) h := (jn_eq _).trans (by kernel_rfl)
theorem S_chainmanref19_Right_ends {m0 : List AVal} {h h' : AHeap} {v : AVal} {R : AEnd → AHeap → Prop} (hx : S_chainmanref19_Right m0 h = some (v, h')) (hR : HOk h → h.length ≤ h'.length → ABody.AEnds h h' (.ret v) R) : ACalls Try.prog 14 [(.agg m0)] h R := xfun_ends Echainmanref19_Right_ok tmix (i := 14) (by rfl) (by kernel_rfl) (by kernel_rfl) hx hR
noncomputable def w_chainmanref19_Right : XC := .q fun R args h K => match args with
  | [.agg a0] => (goneR (S_chainmanref19_Right a0 h) h).bind fun r => K r
  | _ => none
theorem w_chainmanref19_Right_ok : XC.Nat w_chainmanref19_Right ∧ XC.Ok Try.prog 14 w_chainmanref19_Right := by
  refine ⟨fun R args h K => ?_, tc14, fun args h v hx => ?_⟩
  · dsimp only; split <;> simp [Option.bind_assoc, mkP]
  · dsimp only at hx; split at hx
    · obtain ⟨r, hopt, hx⟩ := Option.bind_eq_some_iff.1 hx
      cases hx
      exact (by obtain ⟨h', hopt, hg, hc⟩ := goneR_some hopt; exact S_chainmanref19_Right_ends hopt (goneEnds hg hc))
    · cases hx
-- chainman/chainmanref19.Few: function 33
noncomputable def Echainmanref19_Few : XE := { T := tabOf [(3, r3), (4, r4), (9, r9), (29, r29), (31, r31), (50, r50), (85, r85)], C := [], D := [], Ms := [(6, [1])], Ml := [(2, [1, 3])], Mo := [(2009, [1, 3, 12])], n := 27 }
theorem Echainmanref19_Few_ok : XE.Ok Echainmanref19_Few Try.prog := ⟨tabOf_ok (⟨r3_ok, ⟨r4_ok, ⟨r9_ok, ⟨r29_ok, ⟨r31_ok, ⟨r50_ok, ⟨r85_ok, trivial⟩⟩⟩⟩⟩⟩⟩), trivial, ydOk_none, trivial⟩
noncomputable def c33 : Code := bodyOf f33
noncomputable def S_chainmanref19_Few (m0 : List AVal) (h : AHeap) : Option (AVal × AHeap) := xfun Echainmanref19_Few f33 [(.agg m0)] h
noncomputable def S_chainmanref19_Few_0 (m1 : Nat) (i3 : Int) (h : AHeap) : Option (AVal × AHeap) := xexec Echainmanref19_Few (.loop (ca (ca (cb (ca (cb c33)))))) (AVal × AHeap) [(1, (.ptr m1 0)), (3, (.lit (.int .i64 i3)))] h (kBlk 0 (kSeq Echainmanref19_Few (cb (cb c33)) (xend Echainmanref19_Few f33)))
noncomputable def S_chainmanref19_Few_1 (m1 : Nat) (i3 : Int) (t12 : Bool) (h : AHeap) : Option (AVal × AHeap) := jo Echainmanref19_Few 2 (rops (ca (ca (ca (ca (cb (ca (cb c33)))))))) ((rops (ca (ca (ca (ca (cb (ca (cb c33)))))))).toList.drop 9) 9 [(1, (.ptr m1 0)), (3, (.lit (.int .i64 i3))), (12, (.lit (.bool t12)))] h (kN (kSeq Echainmanref19_Few (cb (ca (ca (ca (cb (ca (cb c33))))))) (kSeq Echainmanref19_Few (cb (ca (ca (cb (ca (cb c33)))))) (kLoop Echainmanref19_Few (ca (ca (cb (ca (cb c33))))) (kBlk 0 (kSeq Echainmanref19_Few (cb (cb c33)) (xend Echainmanref19_Few f33)))))))
noncomputable def S_chainmanref19_Few_2 (m1 : Nat) (h : AHeap) : Option (AVal × AHeap) := jn (xexec Echainmanref19_Few (cb (cb c33)) (AVal × AHeap) [(1, (.ptr m1 0))] h (xend Echainmanref19_Few f33))
theorem S_chainmanref19_Few_eq (m0 : List AVal) (h : AHeap) : S_chainmanref19_Few m0 h =
 S_chainmanref19_Few_0 h.length 0 ((psh h (.cells m0))) := by kernel_rfl
theorem S_chainmanref19_Few_0_eq (m1 : Nat) (i3 : Int) (h : AHeap) : S_chainmanref19_Few_0 m1 i3 h =
 (ld1 h (.ptr m1 2)).bind fun x1 =>
 (lenV x1).bind fun n2 =>
 bif (decide (i3 < n2)) then (S_chainmanref19_Few_1 m1 i3 (decide (i3 < 20)) h)
 else (S_chainmanref19_Few_1 m1 i3 false h) := (xexec_loop Echainmanref19_Few Echainmanref19_Few_ok.C.nat _ _ _ _ _).trans (by kernel_rfl)
theorem S_chainmanref19_Few_1_eq (m1 : Nat) (i3 : Int) (t12 : Bool) (h : AHeap) : S_chainmanref19_Few_1 m1 i3 t12 h =
 bif t12 then ((ld1 h (.ptr m1 2)).bind fun x3 =>
 (idxP 4 x3 i3).bind fun p4 =>
 (fieldP 0 p4).bind fun p5 =>
 (ld1 h p5).bind fun x6 =>
 (asS x6).bind fun s7 =>
 bif (decide ((s7.size : Int) > 40)) then (some ((.lit (.bool false)), h))
 else (S_chainmanref19_Few_0 m1 (IntKind.wrap .i64 (i3 + 1)) h))
 else (S_chainmanref19_Few_2 m1 h) := (jo_eq ..).trans (by kernel_rfl)
theorem S_chainmanref19_Few_2_eq (m1 : Nat) (h : AHeap) : S_chainmanref19_Few_2 m1 h =
 (ld1 h (.ptr m1 2)).bind fun x8 =>
 (lenV x8).bind fun n9 =>
 some ((.lit (.bool (decide (n9 ≤ 20)))), h) := (jn_eq _).trans (by kernel_rfl)
theorem S_chainmanref19_Few_ends {m0 : List AVal} {h h' : AHeap} {v : AVal} {R : AEnd → AHeap → Prop} (hx : S_chainmanref19_Few m0 h = some (v, h')) (hR : HOk h → h.length ≤ h'.length → ABody.AEnds h h' (.ret v) R) : ACalls Try.prog 33 [(.agg m0)] h R := xfun_ends Echainmanref19_Few_ok tmix (i := 33) (by rfl) (by kernel_rfl) (by kernel_rfl) hx hR
noncomputable def w_chainmanref19_Few : XC := .q fun R args h K => match args with
  | [.agg a0] => (goneR (S_chainmanref19_Few a0 h) h).bind fun r => K r
  | _ => none
theorem w_chainmanref19_Few_ok : XC.Nat w_chainmanref19_Few ∧ XC.Ok Try.prog 33 w_chainmanref19_Few := by
  refine ⟨fun R args h K => ?_, tc33, fun args h v hx => ?_⟩
  · dsimp only; split <;> simp [Option.bind_assoc, mkP]
  · dsimp only at hx; split at hx
    · obtain ⟨r, hopt, hx⟩ := Option.bind_eq_some_iff.1 hx
      cases hx
      exact (by obtain ⟨h', hopt, hg, hc⟩ := goneR_some hopt; exact S_chainmanref19_Few_ends hopt (goneEnds hg hc))
    · cases hx
-- chainman/chainmanlaw20.few: function 6
noncomputable def Echainmanlaw20_few : XE := { T := tabOf [(3, r3), (4, r4), (9, r9), (22, r22), (29, r29), (31, r31), (33, r33), (35, r35), (50, r50), (85, r85)], C := [(33, w_chainmanref19_Few)], D := [], Ms := [(6, [0])], Ml := [(2, [0, 3])], Mo := [(2008, [0, 3, 11]), (4016, [0, 3, 29])], n := 33 }
theorem Echainmanlaw20_few_ok : XE.Ok Echainmanlaw20_few Try.prog := ⟨tabOf_ok (⟨r3_ok, ⟨r4_ok, ⟨r9_ok, ⟨r22_ok, ⟨r29_ok, ⟨r31_ok, ⟨r33_ok, ⟨r35_ok, ⟨r50_ok, ⟨r85_ok, trivial⟩⟩⟩⟩⟩⟩⟩⟩⟩⟩), (⟨w_chainmanref19_Few_ok, trivial⟩), ydOk_none, trivial⟩
noncomputable def c6 : Code := bodyOf f6
noncomputable def S_chainmanlaw20_few (l0 : AVal) (h : AHeap) : Option (AVal × AHeap) := xfun Echainmanlaw20_few f6 [l0] h
noncomputable def S_chainmanlaw20_few_0 (l0 : AVal) (i3 : Int) (h : AHeap) : Option (AVal × AHeap) := xexec Echainmanlaw20_few (.loop (ca (ca (cb (ca (cb c6)))))) (AVal × AHeap) [(0, l0), (3, (.lit (.int .i64 i3)))] h (kBlk 0 (kSeq Echainmanlaw20_few (cb (cb c6)) (xend Echainmanlaw20_few f6)))
noncomputable def S_chainmanlaw20_few_1 (l0 : AVal) (i3 : Int) (t11 : Bool) (h : AHeap) : Option (AVal × AHeap) := jo Echainmanlaw20_few 2 (rops (ca (ca (ca (ca (cb (ca (cb c6)))))))) ((rops (ca (ca (ca (ca (cb (ca (cb c6)))))))).toList.drop 8) 8 [(0, l0), (3, (.lit (.int .i64 i3))), (11, (.lit (.bool t11)))] h (kN (kSeq Echainmanlaw20_few (cb (ca (ca (ca (cb (ca (cb c6))))))) (kSeq Echainmanlaw20_few (cb (ca (ca (cb (ca (cb c6)))))) (kLoop Echainmanlaw20_few (ca (ca (cb (ca (cb c6))))) (kBlk 0 (kSeq Echainmanlaw20_few (cb (cb c6)) (xend Echainmanlaw20_few f6)))))))
noncomputable def S_chainmanlaw20_few_2 (l0 : AVal) (i3 : Int) (t29 : Bool) (h : AHeap) : Option (AVal × AHeap) := jo Echainmanlaw20_few 4 (rops (ca (ca (ca (cb (ca (ca (cb (ca (cb c6)))))))))) ((rops (ca (ca (ca (cb (ca (ca (cb (ca (cb c6)))))))))).toList.drop 16) 16 [(0, l0), (3, (.lit (.int .i64 i3))), (29, (.lit (.bool t29)))] h (kN (kSeq Echainmanlaw20_few (cb (ca (ca (cb (ca (ca (cb (ca (cb c6))))))))) (kBlk 1 (kSeq Echainmanlaw20_few (cb (cb (ca (ca (cb (ca (cb c6))))))) (kLoop Echainmanlaw20_few (ca (ca (cb (ca (cb c6))))) (kBlk 0 (kSeq Echainmanlaw20_few (cb (cb c6)) (xend Echainmanlaw20_few f6))))))))
noncomputable def S_chainmanlaw20_few_3 (l0 : AVal) (h : AHeap) : Option (AVal × AHeap) := jn (xexec Echainmanlaw20_few (cb (cb c6)) (AVal × AHeap) [(0, l0)] h (xend Echainmanlaw20_few f6))
theorem S_chainmanlaw20_few_eq (l0 : AVal) (h : AHeap) : S_chainmanlaw20_few l0 h =
 S_chainmanlaw20_few_0 l0 0 h := by kernel_rfl
theorem S_chainmanlaw20_few_0_eq (l0 : AVal) (i3 : Int) (h : AHeap) : S_chainmanlaw20_few_0 l0 i3 h =
 (lenV l0).bind fun n1 =>
 bif (decide (i3 < n1)) then (S_chainmanlaw20_few_1 l0 i3 (decide (i3 < 8)) h)
 else (S_chainmanlaw20_few_1 l0 i3 false h) := (xexec_loop Echainmanlaw20_few Echainmanlaw20_few_ok.C.nat _ _ _ _ _).trans (by kernel_rfl)
theorem S_chainmanlaw20_few_1_eq (l0 : AVal) (i3 : Int) (t11 : Bool) (h : AHeap) : S_chainmanlaw20_few_1 l0 i3 t11 h =
 bif t11 then ((idxP 5 l0 i3).bind fun p2 =>
 (fieldP 0 p2).bind fun p3 =>
 (ldn 3 h p3).bind fun xs4 =>
 (goneR (S_chainmanref19_Few xs4 h) h).bind fun r5 =>
 (asB r5).bind fun b6 =>
 bif (!b6) then (S_chainmanlaw20_few_2 l0 i3 true h)
 else ((idxP 5 l0 i3).bind fun p7 =>
 (fieldP 4 p7).bind fun p8 =>
 (ld1 h p8).bind fun x9 =>
 (lenV x9).bind fun n10 =>
 S_chainmanlaw20_few_2 l0 i3 (decide (n10 > 10)) h))
 else (S_chainmanlaw20_few_3 l0 h) := (jo_eq ..).trans (by kernel_rfl)
theorem S_chainmanlaw20_few_2_eq (l0 : AVal) (i3 : Int) (t29 : Bool) (h : AHeap) : S_chainmanlaw20_few_2 l0 i3 t29 h =
 bif t29 then (some ((.lit (.bool false)), h))
 else (S_chainmanlaw20_few_0 l0 (IntKind.wrap .i64 (i3 + 1)) h) := (jo_eq ..).trans (by kernel_rfl)
theorem S_chainmanlaw20_few_3_eq (l0 : AVal) (h : AHeap) : S_chainmanlaw20_few_3 l0 h =
 (lenV l0).bind fun n11 =>
 some ((.lit (.bool (decide (n11 ≤ 8)))), h) := (jn_eq _).trans (by kernel_rfl)
theorem S_chainmanlaw20_few_ends {l0 : AVal} {h h' : AHeap} {v : AVal} {R : AEnd → AHeap → Prop} (hx : S_chainmanlaw20_few l0 h = some (v, h')) (hR : HOk h → h.length ≤ h'.length → ABody.AEnds h h' (.ret v) R) : ACalls Try.prog 6 [l0] h R := xfun_ends Echainmanlaw20_few_ok tmix (i := 6) (by rfl) (by kernel_rfl) (by kernel_rfl) hx hR
noncomputable def w_chainmanlaw20_few : XC := .q fun R args h K => match args with
  | [a0] => (goneR (S_chainmanlaw20_few a0 h) h).bind fun r => K r
  | _ => none
theorem w_chainmanlaw20_few_ok : XC.Nat w_chainmanlaw20_few ∧ XC.Ok Try.prog 6 w_chainmanlaw20_few := by
  refine ⟨fun R args h K => ?_, tc6, fun args h v hx => ?_⟩
  · dsimp only; split <;> simp [Option.bind_assoc, mkP]
  · dsimp only at hx; split at hx
    · obtain ⟨r, hopt, hx⟩ := Option.bind_eq_some_iff.1 hx
      cases hx
      exact (by obtain ⟨h', hopt, hg, hc⟩ := goneR_some hopt; exact S_chainmanlaw20_few_ends hopt (goneEnds hg hc))
    · cases hx
-- chainman/chainmanlaw20.CommitWhole: function 3
noncomputable def Echainmanlaw20_CommitWhole : XE := { T := tabOf [(3, r3), (4, r4), (9, r9), (22, r22), (25, r25), (26, r26), (29, r29), (31, r31), (33, r33), (35, r35), (50, r50), (85, r85)], C := [(6, w_chainmanlaw20_few), (7, w_chainmanlaw20_awake), (8, w_fs_New), (9, w_fs_Disk_Arm), (10, w_commit_Save), (11, w_fs_Disk_Rise), (12, w_commit_Load), (13, w_chainmanref19_Same), (14, w_chainmanref19_Right)], D := [(17, ⟨[], [0, 1, 2, 3, 4, 5, 6, 7, 8, 9, 10, 11, 12, 13, 14, 15, 16, 17, 18], [], [], [], [], []⟩)], Ms := [(18, [0, 3, 5, 7, 8, 9, 10, 12, 13]), (22, [])], Ml := [(8, [0, 3, 5, 6, 7])], Mo := [(16008, [0, 3, 5, 7, 8, 9, 10, 67]), (18006, [0, 3, 5, 7, 8, 9, 10, 12, 13, 91]), (18014, [0, 3, 5, 7, 8, 9, 10, 12, 99]), (18022, [0, 3, 5, 7, 9, 10, 107])], n := 111 }
theorem Echainmanlaw20_CommitWhole_ok : XE.Ok Echainmanlaw20_CommitWhole Try.prog := ⟨tabOf_ok (⟨r3_ok, ⟨r4_ok, ⟨r9_ok, ⟨r22_ok, ⟨r25_ok, ⟨r26_ok, ⟨r29_ok, ⟨r31_ok, ⟨r33_ok, ⟨r35_ok, ⟨r50_ok, ⟨r85_ok, trivial⟩⟩⟩⟩⟩⟩⟩⟩⟩⟩⟩⟩), (⟨w_chainmanlaw20_few_ok, ⟨w_chainmanlaw20_awake_ok, ⟨w_fs_New_ok, ⟨w_fs_Disk_Arm_ok, ⟨w_commit_Save_ok, ⟨w_fs_Disk_Rise_ok, ⟨w_commit_Load_ok, ⟨w_chainmanref19_Same_ok, ⟨w_chainmanref19_Right_ok, trivial⟩⟩⟩⟩⟩⟩⟩⟩⟩), ydOk_none, trivial⟩
noncomputable def c3 : Code := bodyOf f3
noncomputable def S_chainmanlaw20_CommitWhole (l0 : AVal) (h : AHeap) : Option (AVal × AHeap) := xfun Echainmanlaw20_CommitWhole f3 [l0] h
noncomputable def S_chainmanlaw20_CommitWhole_0 (l0 : AVal) (d3 : AVal) (was5 : Nat) (some6 : Bool) (i7 : Int) (h : AHeap) : Option (AVal × AHeap) := xexec Echainmanlaw20_CommitWhole (.loop (ca (ca (cb (ca (cb (cb (cb (cb (cb c3)))))))))) (AVal × AHeap) [(0, l0), (3, d3), (5, (.ptr was5 0)), (6, (.lit (.bool some6))), (7, (.lit (.int .i64 i7)))] h (kBlk 0 (kSeq Echainmanlaw20_CommitWhole (cb (cb (cb (cb (cb (cb c3)))))) (xend Echainmanlaw20_CommitWhole f3)))
noncomputable def S_chainmanlaw20_CommitWhole_1 (l0 : AVal) (d3 : AVal) (was5 : Nat) (i7 : Int) (f8 : Int) (m9 : Nat) (is10 : Bool) (t67 : Bool) (h : AHeap) : Option (AVal × AHeap) := jo Echainmanlaw20_CommitWhole 16 (rops (ca (cb (cb (cb (cb (cb (ca (ca (cb (ca (ca (cb (ca (cb (cb (cb (cb (cb c3))))))))))))))))))) ((rops (ca (cb (cb (cb (cb (cb (ca (ca (cb (ca (ca (cb (ca (cb (cb (cb (cb (cb c3))))))))))))))))))).toList.drop 8) 8 [(0, l0), (3, d3), (5, (.ptr was5 0)), (7, (.lit (.int .i64 i7))), (8, (.lit (.int .i64 f8))), (9, (.ptr m9 0)), (10, (.lit (.bool is10))), (67, (.lit (.bool t67)))] h (kN (kSeq Echainmanlaw20_CommitWhole (cb (cb (cb (cb (cb (cb (ca (ca (cb (ca (ca (cb (ca (cb (cb (cb (cb (cb c3)))))))))))))))))) (kBlk 1 (kSeq Echainmanlaw20_CommitWhole (cb (cb (ca (ca (cb (ca (cb (cb (cb (cb (cb c3))))))))))) (kLoop Echainmanlaw20_CommitWhole (ca (ca (cb (ca (cb (cb (cb (cb (cb c3))))))))) (kBlk 0 (kSeq Echainmanlaw20_CommitWhole (cb (cb (cb (cb (cb (cb c3)))))) (xend Echainmanlaw20_CommitWhole f3))))))))
noncomputable def S_chainmanlaw20_CommitWhole_2  (h : AHeap) : Option (AVal × AHeap) := jn (xexec Echainmanlaw20_CommitWhole (cb (cb (cb (cb (cb (cb c3)))))) (AVal × AHeap) [] h (xend Echainmanlaw20_CommitWhole f3))
noncomputable def S_chainmanlaw20_CommitWhole_3 (l0 : AVal) (d3 : AVal) (was5 : Nat) (i7 : Int) (f8 : Int) (m9 : Nat) (is10 : Bool) (old12 : Bool) (fresh13 : Bool) (h : AHeap) : Option (AVal × AHeap) := jn (xexec Echainmanlaw20_CommitWhole (cb (cb (cb (cb (cb (cb (cb (ca (ca (cb (ca (ca (cb (ca (cb (cb (cb (cb (cb c3))))))))))))))))))) (AVal × AHeap) [(0, l0), (3, d3), (5, (.ptr was5 0)), (7, (.lit (.int .i64 i7))), (8, (.lit (.int .i64 f8))), (9, (.ptr m9 0)), (10, (.lit (.bool is10))), (12, (.lit (.bool old12))), (13, (.lit (.bool fresh13)))] h (kBlk 1 (kSeq Echainmanlaw20_CommitWhole (cb (cb (ca (ca (cb (ca (cb (cb (cb (cb (cb c3))))))))))) (kLoop Echainmanlaw20_CommitWhole (ca (ca (cb (ca (cb (cb (cb (cb (cb c3))))))))) (kBlk 0 (kSeq Echainmanlaw20_CommitWhole (cb (cb (cb (cb (cb (cb c3)))))) (xend Echainmanlaw20_CommitWhole f3)))))))
noncomputable def S_chainmanlaw20_CommitWhole_4 (l0 : AVal) (d3 : AVal) (was5 : Nat) (i7 : Int) (f8 : Int) (m9 : Nat) (is10 : Bool) (old12 : Bool) (fresh13 : Bool) (t91 : Bool) (h : AHeap) : Option (AVal × AHeap) := jo Echainmanlaw20_CommitWhole 18 (rops (ca (ca (cb (cb (cb (cb (cb (cb (cb (ca (ca (cb (ca (ca (cb (ca (cb (cb (cb (cb (cb c3)))))))))))))))))))))) ((rops (ca (ca (cb (cb (cb (cb (cb (cb (cb (ca (ca (cb (ca (ca (cb (ca (cb (cb (cb (cb (cb c3)))))))))))))))))))))).toList.drop 6) 6 [(0, l0), (3, d3), (5, (.ptr was5 0)), (7, (.lit (.int .i64 i7))), (8, (.lit (.int .i64 f8))), (9, (.ptr m9 0)), (10, (.lit (.bool is10))), (12, (.lit (.bool old12))), (13, (.lit (.bool fresh13))), (91, (.lit (.bool t91)))] h (kN (kSeq Echainmanlaw20_CommitWhole (cb (ca (cb (cb (cb (cb (cb (cb (cb (ca (ca (cb (ca (ca (cb (ca (cb (cb (cb (cb (cb c3))))))))))))))))))))) (kSeq Echainmanlaw20_CommitWhole (cb (cb (cb (cb (cb (cb (cb (cb (ca (ca (cb (ca (ca (cb (ca (cb (cb (cb (cb (cb c3)))))))))))))))))))) (kBlk 1 (kSeq Echainmanlaw20_CommitWhole (cb (cb (ca (ca (cb (ca (cb (cb (cb (cb (cb c3))))))))))) (kLoop Echainmanlaw20_CommitWhole (ca (ca (cb (ca (cb (cb (cb (cb (cb c3))))))))) (kBlk 0 (kSeq Echainmanlaw20_CommitWhole (cb (cb (cb (cb (cb (cb c3)))))) (xend Echainmanlaw20_CommitWhole f3)))))))))
noncomputable def S_chainmanlaw20_CommitWhole_5 (l0 : AVal) (d3 : AVal) (was5 : Nat) (i7 : Int) (f8 : Int) (m9 : Nat) (is10 : Bool) (old12 : Bool) (t99 : Bool) (h : AHeap) : Option (AVal × AHeap) := jo Echainmanlaw20_CommitWhole 18 (rops (ca (ca (cb (cb (cb (cb (cb (cb (cb (ca (ca (cb (ca (ca (cb (ca (cb (cb (cb (cb (cb c3)))))))))))))))))))))) ((rops (ca (ca (cb (cb (cb (cb (cb (cb (cb (ca (ca (cb (ca (ca (cb (ca (cb (cb (cb (cb (cb c3)))))))))))))))))))))).toList.drop 14) 14 [(0, l0), (3, d3), (5, (.ptr was5 0)), (7, (.lit (.int .i64 i7))), (8, (.lit (.int .i64 f8))), (9, (.ptr m9 0)), (10, (.lit (.bool is10))), (12, (.lit (.bool old12))), (99, (.lit (.bool t99)))] h (kN (kSeq Echainmanlaw20_CommitWhole (cb (ca (cb (cb (cb (cb (cb (cb (cb (ca (ca (cb (ca (ca (cb (ca (cb (cb (cb (cb (cb c3))))))))))))))))))))) (kSeq Echainmanlaw20_CommitWhole (cb (cb (cb (cb (cb (cb (cb (cb (ca (ca (cb (ca (ca (cb (ca (cb (cb (cb (cb (cb c3)))))))))))))))))))) (kBlk 1 (kSeq Echainmanlaw20_CommitWhole (cb (cb (ca (ca (cb (ca (cb (cb (cb (cb (cb c3))))))))))) (kLoop Echainmanlaw20_CommitWhole (ca (ca (cb (ca (cb (cb (cb (cb (cb c3))))))))) (kBlk 0 (kSeq Echainmanlaw20_CommitWhole (cb (cb (cb (cb (cb (cb c3)))))) (xend Echainmanlaw20_CommitWhole f3)))))))))
noncomputable def S_chainmanlaw20_CommitWhole_6 (l0 : AVal) (d3 : AVal) (was5 : Nat) (i7 : Int) (m9 : Nat) (is10 : Bool) (t107 : Bool) (h : AHeap) : Option (AVal × AHeap) := jo Echainmanlaw20_CommitWhole 18 (rops (ca (ca (cb (cb (cb (cb (cb (cb (cb (ca (ca (cb (ca (ca (cb (ca (cb (cb (cb (cb (cb c3)))))))))))))))))))))) ((rops (ca (ca (cb (cb (cb (cb (cb (cb (cb (ca (ca (cb (ca (ca (cb (ca (cb (cb (cb (cb (cb c3)))))))))))))))))))))).toList.drop 22) 22 [(0, l0), (3, d3), (5, (.ptr was5 0)), (7, (.lit (.int .i64 i7))), (9, (.ptr m9 0)), (10, (.lit (.bool is10))), (107, (.lit (.bool t107)))] h (kN (kSeq Echainmanlaw20_CommitWhole (cb (ca (cb (cb (cb (cb (cb (cb (cb (ca (ca (cb (ca (ca (cb (ca (cb (cb (cb (cb (cb c3))))))))))))))))))))) (kSeq Echainmanlaw20_CommitWhole (cb (cb (cb (cb (cb (cb (cb (cb (ca (ca (cb (ca (ca (cb (ca (cb (cb (cb (cb (cb c3)))))))))))))))))))) (kBlk 1 (kSeq Echainmanlaw20_CommitWhole (cb (cb (ca (ca (cb (ca (cb (cb (cb (cb (cb c3))))))))))) (kLoop Echainmanlaw20_CommitWhole (ca (ca (cb (ca (cb (cb (cb (cb (cb c3))))))))) (kBlk 0 (kSeq Echainmanlaw20_CommitWhole (cb (cb (cb (cb (cb (cb c3)))))) (xend Echainmanlaw20_CommitWhole f3)))))))))
theorem S_chainmanlaw20_CommitWhole_eq (l0 : AVal) (h : AHeap) : S_chainmanlaw20_CommitWhole l0 h =
 (goneR (S_chainmanlaw20_few l0 h) h).bind fun r1 =>
 (asB r1).bind fun b2 =>
 bif (!b2) then (some ((.lit (.bool true)), h))
 else ((S_fs_New 1048576 h).bind fun r3 =>
 (xExtract r3.1 0).bind fun x4 =>
 (xExtract r3.1 1).bind fun x5 =>
 (asI .i64 x5).bind fun n6 =>
 bif (!decide (n6 = 0)) then (some ((.lit (.bool false)), r3.2))
 else ((stn 3 ((psh r3.2 (.cells [(.lit (.int .i64 0)), (.lit (.int .i64 0)), (.lit (.slice none 0 0))]))) (.ptr r3.2.length 0) ([(.lit (.int .i64 0)), (.lit (.int .i64 0)), (.lit (.slice none 0 0))])).bind fun h7 =>
 S_chainmanlaw20_CommitWhole_0 l0 x4 r3.2.length false 0 h7)) := by kernel_rfl
theorem S_chainmanlaw20_CommitWhole_0_eq (l0 : AVal) (d3 : AVal) (was5 : Nat) (some6 : Bool) (i7 : Int) (h : AHeap) : S_chainmanlaw20_CommitWhole_0 l0 d3 was5 some6 i7 h =
 (lenV l0).bind fun n8 =>
 bif (decide (i7 < n8)) then ((idxP 5 l0 i7).bind fun p9 =>
 (fieldP 3 p9).bind fun p10 =>
 (ld1 h p10).bind fun x11 =>
 (asI .i64 x11).bind fun n12 =>
 (S_fs_Disk_Arm d3 n12 h).bind fun r13 =>
 (idxP 5 l0 i7).bind fun p14 =>
 (fieldP 0 p14).bind fun p15 =>
 (ldn 3 r13.2 p15).bind fun xs16 =>
 (S_commit_Save d3 xs16 r13.2).bind fun r17 =>
 (asI .i64 r17.1).bind fun n18 =>
 (idxP 5 l0 i7).bind fun p19 =>
 (fieldP 4 p19).bind fun p20 =>
 (ld1 r17.2 p20).bind fun x21 =>
 (S_fs_Disk_Rise d3 x21 r17.2).bind fun r22 =>
 (S_commit_Load d3 r22.2).bind fun r23 =>
 (xExtract r23.1 0).bind fun x24 =>
 (asA x24).bind fun xs25 =>
 (xExtract r23.1 1).bind fun x26 =>
 (asB x26).bind fun b27 =>
 (xExtract r23.1 2).bind fun x28 =>
 (asI .i64 x28).bind fun n29 =>
 (stn 3 ((psh r23.2 (.cells [(.lit (.int .i64 0)), (.lit (.int .i64 0)), (.lit (.slice none 0 0))]))) (.ptr r23.2.length 0) xs25).bind fun h30 =>
 bif (!decide (n29 = 0)) then (some ((.lit (.bool false)), h30))
 else (bif (decide (b27 = some6)) then ((ldn 3 h30 (.ptr r23.2.length 0)).bind fun xs31 =>
 (ldn 3 h30 (.ptr was5 0)).bind fun xs32 =>
 (goneR (S_chainmanref19_Same xs31 xs32 h30) h30).bind fun r33 =>
 (asB r33).bind fun b34 =>
 S_chainmanlaw20_CommitWhole_1 l0 d3 was5 i7 n18 r23.2.length b27 b34 h30)
 else (S_chainmanlaw20_CommitWhole_1 l0 d3 was5 i7 n18 r23.2.length b27 false h30)))
 else (S_chainmanlaw20_CommitWhole_2 h) := (xexec_loop Echainmanlaw20_CommitWhole Echainmanlaw20_CommitWhole_ok.C.nat _ _ _ _ _).trans (by kernel_rfl)
theorem S_chainmanlaw20_CommitWhole_1_eq (l0 : AVal) (d3 : AVal) (was5 : Nat) (i7 : Int) (f8 : Int) (m9 : Nat) (is10 : Bool) (t67 : Bool) (h : AHeap) : S_chainmanlaw20_CommitWhole_1 l0 d3 was5 i7 f8 m9 is10 t67 h =
 bif is10 then ((idxP 5 l0 i7).bind fun p35 =>
 (fieldP 0 p35).bind fun p36 =>
 (ldn 3 h p36).bind fun xs37 =>
 (goneR (S_chainmanref19_Right xs37 h) h).bind fun r38 =>
 (asB r38).bind fun b39 =>
 bif b39 then ((ldn 3 h (.ptr m9 0)).bind fun xs40 =>
 (idxP 5 l0 i7).bind fun p41 =>
 (fieldP 0 p41).bind fun p42 =>
 (ldn 3 h p42).bind fun xs43 =>
 (goneR (S_chainmanref19_Same xs40 xs43 h) h).bind fun r44 =>
 (asB r44).bind fun b45 =>
 S_chainmanlaw20_CommitWhole_3 l0 d3 was5 i7 f8 m9 is10 t67 b45 h)
 else (S_chainmanlaw20_CommitWhole_3 l0 d3 was5 i7 f8 m9 is10 t67 false h))
 else (S_chainmanlaw20_CommitWhole_3 l0 d3 was5 i7 f8 m9 is10 t67 false h) := (jo_eq ..).trans (by kernel_rfl)
theorem S_chainmanlaw20_CommitWhole_2_eq  (h : AHeap) : S_chainmanlaw20_CommitWhole_2  h =
 some ((.lit (.bool true)), h) := (jn_eq _).trans (by kernel_rfl)
theorem S_chainmanlaw20_CommitWhole_3_eq (l0 : AVal) (d3 : AVal) (was5 : Nat) (i7 : Int) (f8 : Int) (m9 : Nat) (is10 : Bool) (old12 : Bool) (fresh13 : Bool) (h : AHeap) : S_chainmanlaw20_CommitWhole_3 l0 d3 was5 i7 f8 m9 is10 old12 fresh13 h =
 bif (decide (f8 = 0)) then (S_chainmanlaw20_CommitWhole_4 l0 d3 was5 i7 f8 m9 is10 old12 fresh13 (!fresh13) h)
 else (S_chainmanlaw20_CommitWhole_4 l0 d3 was5 i7 f8 m9 is10 old12 fresh13 false h) := (jn_eq _).trans (by kernel_rfl)
theorem S_chainmanlaw20_CommitWhole_4_eq (l0 : AVal) (d3 : AVal) (was5 : Nat) (i7 : Int) (f8 : Int) (m9 : Nat) (is10 : Bool) (old12 : Bool) (fresh13 : Bool) (t91 : Bool) (h : AHeap) : S_chainmanlaw20_CommitWhole_4 l0 d3 was5 i7 f8 m9 is10 old12 fresh13 t91 h =
 bif t91 then (S_chainmanlaw20_CommitWhole_5 l0 d3 was5 i7 f8 m9 is10 old12 true h)
 else (bif (!old12) then (S_chainmanlaw20_CommitWhole_5 l0 d3 was5 i7 f8 m9 is10 old12 (!fresh13) h)
 else (S_chainmanlaw20_CommitWhole_5 l0 d3 was5 i7 f8 m9 is10 old12 false h)) := (jo_eq ..).trans (by kernel_rfl)
theorem S_chainmanlaw20_CommitWhole_5_eq (l0 : AVal) (d3 : AVal) (was5 : Nat) (i7 : Int) (f8 : Int) (m9 : Nat) (is10 : Bool) (old12 : Bool) (t99 : Bool) (h : AHeap) : S_chainmanlaw20_CommitWhole_5 l0 d3 was5 i7 f8 m9 is10 old12 t99 h =
 bif t99 then (S_chainmanlaw20_CommitWhole_6 l0 d3 was5 i7 m9 is10 true h)
 else (bif (decide (f8 = 1)) then (S_chainmanlaw20_CommitWhole_6 l0 d3 was5 i7 m9 is10 (!old12) h)
 else (S_chainmanlaw20_CommitWhole_6 l0 d3 was5 i7 m9 is10 false h)) := (jo_eq ..).trans (by kernel_rfl)
theorem S_chainmanlaw20_CommitWhole_6_eq (l0 : AVal) (d3 : AVal) (was5 : Nat) (i7 : Int) (m9 : Nat) (is10 : Bool) (t107 : Bool) (h : AHeap) : S_chainmanlaw20_CommitWhole_6 l0 d3 was5 i7 m9 is10 t107 h =
 bif t107 then (some ((.lit (.bool false)), h))
 else ((ldn 3 h (.ptr m9 0)).bind fun xs46 =>
 (stn 3 h (.ptr was5 0) xs46).bind fun h47 =>
 S_chainmanlaw20_CommitWhole_0 l0 d3 was5 is10 (IntKind.wrap .i64 (i7 + 1)) h47) := (jo_eq ..).trans (by kernel_rfl)
theorem S_chainmanlaw20_CommitWhole_ends {l0 : AVal} {h h' : AHeap} {v : AVal} {R : AEnd → AHeap → Prop} (hx : S_chainmanlaw20_CommitWhole l0 h = some (v, h')) (hR : HOk h → h.length ≤ h'.length → ABody.AEnds h h' (.ret v) R) : ACalls Try.prog 3 [l0] h R := xfun_ends Echainmanlaw20_CommitWhole_ok tmix (i := 3) (by rfl) (by kernel_rfl) (by kernel_rfl) hx hR
end Go.Proofs.Yteclkehnppeobaa.AL
/- What is loaded. -/
namespace Go.Proofs.Yteclkehnppeobaa.AL
set_option linter.unusedVariables false
set_option linter.unusedSimpArgs false
set_option maxRecDepth 100000
open Go
open Go.Proofs.Try
def nilV : AVal := .lit (.slice none 0 0)
def zeroM : Man := ⟨0, 0, []⟩
theorem up_down {D : Dsk} (h1 : D.down = false) (h2 : D.fuse = -1) : downN D = false := by unfold downN; rw [h1, h2]; rfl
theorem up_call {D : Dsk} (h1 : D.down = false) (h2 : D.fuse = -1) : (callD D).down = false ∧ (callD D).fuse = -1 := ⟨up_down h1 h2, by unfold callD; simp only; rw [if_neg (by omega)]; exact h2⟩
theorem findD_nm (D : Dsk) : findD D nmN true = callD D := by unfold findD; rw [nmN_right]; rfl
section ops
variable {h0 h : AHeap} {d mb : Nat} {D : Dsk} {l : List File}
theorem load_none (H : DH h0 h d mb (dskC mb D) (fileE l)) (hd : D.down = false ∧ D.fuse = -1) (hn : fask l nmN = none) :
    ∃ h' D', S_commit_Load (.ptr d 0) h = some (.tup [.agg (zeroM.cells nilV), .lit (.bool false), .lit (.int .i64 0)], h') ∧ DH h0 h' d mb (dskC mb D') (fileE l) ∧ Tmp h0 h h' ∧ h.length ≤ h'.length := by
  obtain ⟨H1, T1⟩ := H.psh (.cells (zeroM.cells nilV))
  have c1 : cellsAt (psh h (.cells (zeroM.cells nilV))) h.length = some (zeroM.cells nilV) := cellsAt_new _ _
  obtain ⟨h2, e2, H2, T2, l2⟩ := size_run H1 nmN (by decide)
  have hR : findR D l nmN true = ((⟨#[]⟩, 0), 2) := by
    unfold findR
    rw [nmN_right, up_down hd.1 hd.2, hn]; rfl
  rw [hR] at e2
  rw [psh_length] at l2
  have hlen := H.keep.len
  have c2 := T2.cells hlen c1
  obtain ⟨h3, e3, H3, c3, l3, o3⟩ := H2.tstn (f := h.length) (n := 3) (vs := zeroM.cells nilV) hlen c2 rfl rfl rfl
  refine ⟨h3, _, ?_, H3, fun c hc hl => (o3 c (by omega)).trans ((T2 c hc (by rw [psh_length]; omega)).trans (T1 c hc hl)), by omega⟩
  rw [S_commit_Load_eq]
  exact bd e2 (bd rfl (bd rfl (bd rfl (bd rfl (cF rfl (cT rfl (bd e3 (bd (ldn_of (n := 3) (off := 0) c3 (by exact Nat.le_refl _)) rfl))))))))
theorem load_some (H : DH h0 h d mb (dskC mb D) (fileE l)) (hd : D.down = false ∧ D.fuse = -1) {m : Man} (hb : manB m = true) (hu : ∀ f ∈ m.files, 0 ≤ f.sum ∧ f.sum < 4294967296) (hn : fask l nmN = some (manP m, ((manP m).size : Int))) :
    ∃ h' D' v, S_commit_Load (.ptr d 0) h = some (.tup [.agg (m.cells v), .lit (.bool true), .lit (.int .i64 0)], h') ∧ DH h0 h' d mb (dskC mb D') (fileE l) ∧ Tmp h0 h h' ∧ h.length ≤ h'.length ∧ Sl 4 h' v m.files.length (filesW m.files) ∧ (∀ b, At v b → h.length ≤ b) := by
  have hpz : (manP m).size ≤ 4611686018427387904 := by
    have mok := mok_of hb hu
    have hml := manL_len mok
    have := mok.n
    unfold manP
    rw [closeB_size]
    show (manL m).toArray.size + 4 ≤ _
    rw [List.size_toArray]; omega
  obtain ⟨H1, T1⟩ := H.psh (.cells (zeroM.cells nilV))
  have c1 : cellsAt (psh h (.cells (zeroM.cells nilV))) h.length = some (zeroM.cells nilV) := cellsAt_new _ _
  obtain ⟨h2, e2, H2, T2, l2⟩ := size_run H1 nmN (by decide)
  have hR : ∀ D : Dsk, D.down = false ∧ D.fuse = -1 → findR D l nmN true = ((manP m, ((manP m).size : Int)), 0) := fun D hd => by
    unfold findR
    rw [nmN_right, up_down hd.1 hd.2, hn]; rfl
  rw [hR D hd] at e2
  rw [psh_length] at l2
  rw [findD_nm] at H2
  have hd2 := up_call hd.1 hd.2
  have hlen := H.keep.len
  have c2 := T2.cells hlen c1
  have hmin : decide (minI 0 ((manP m).size : Int) ≥ 0) = true := decide_eq_true (by unfold minI; split <;> omega)
  have hrd : readR (callD D) l nmN 0 ((manP m).size : Int) = (manP m, 0) := by
    unfold readR
    simp only [hmin, hR (callD D) hd2]
    simp
  obtain ⟨h3, e3, H3, T3, l3⟩ := read_run H2 nmN 0 ((manP m).size : Int) (by decide) (by rw [hmin, hR (callD D) hd2]; exact Nat.le_trans hpz (by omega))
  rw [hrd] at e3
  obtain ⟨h4, v, e4, S4, G4, hv⟩ := mget_run hb hu h3
  obtain ⟨H4, T4⟩ := H3.grow G4
  have l4 := G4.len
  obtain ⟨H5, T5⟩ := H4.psh (.cells (zeroM.cells nilV))
  have hv1 : (m.cells v).all (·.one) = true := by
    have h2 := S4.2
    split at h2
    · rfl
    · rfl
    · rfl
    · exact h2.elim
  have e5 : stn 3 (psh h4 (.cells (zeroM.cells nilV))) (.ptr h4.length 0) (m.cells v) = some (psh h4 (.cells (m.cells v))) := stn_new hv1 rfl rfl
  obtain ⟨H6, T6⟩ := H4.psh (.cells (m.cells v))
  have c6 : cellsAt (psh h4 (.cells (m.cells v))) h4.length = some (m.cells v) := cellsAt_new _ _
  have c6' : cellsAt (psh h4 (.cells (m.cells v))) h.length = some (zeroM.cells nilV) := cellsAt_psh _ (T4.cells hlen (T3.cells hlen c2))
  obtain ⟨h7, e7, H7, c7, l7, o7⟩ := H6.tstn (f := h.length) (n := 3) (vs := m.cells v) hlen c6' hv1 rfl rfl
  rw [psh_length] at l7
  refine ⟨h7, _, v, ?_, H7, fun c hc hl => (o7 c (by omega)).trans ((T6 c hc (by omega)).trans ((T4 c hc (by omega)).trans ((T3 c hc (by omega)).trans ((T2 c hc (by rw [psh_length]; omega)).trans (T1 c hc hl))))), by omega, ?_, fun b hb => by have := hv b hb; omega⟩
  · rw [S_commit_Load_eq]
    refine bd e2 (bd rfl (bd rfl (bd rfl (bd rfl (cT rfl (bd e3 (bd rfl (bd rfl (bd rfl (bd rfl (cF rfl (bd e4 (bd rfl (bd rfl (bd rfl (bd rfl (bd e5 (cF rfl ?_))))))))))))))))))
    exact bd (ldn_of (n := 3) (off := 0) c6 (by exact Nat.le_refl _)) (bd e7 (bd (ldn_of (n := 3) (off := 0) c7 (by exact Nat.le_refl _)) rfl))
  · refine (S4.grow ((Grow.refl h4).psh (.cells (m.cells v)))).keep (X := [h.length]) ⟨by rw [psh_length]; omega, fun c hc hx => o7 c (by simpa using hx)⟩ fun b off len e => ?_
    have := hv b ⟨_, _, _, e⟩
    simp only [List.mem_singleton]
    omega
end ops
end Go.Proofs.Yteclkehnppeobaa.AL
/- The document's own words of manifests. -/
namespace Go.Proofs.Yteclkehnppeobaa.AL
set_option linter.unusedVariables false
set_option linter.unusedSimpArgs false
set_option maxRecDepth 100000
open Go
open Go.Proofs.Try
theorem Sl.one {k n : Nat} {h : AHeap} {v : AVal} {cs : List AVal} (S : Sl k h v n cs) : v.one = true := by
  have h2 := S.2
  split at h2
  · rfl
  · rfl
  · rfl
  · exact h2.elim
/-- A part of an element. -/
theorem Sl.idxF {k n i o m : Nat} {h : AHeap} {v : AVal} {cs : List AVal} (S : Sl k h v n cs) (hi : i < n) (ho : o + m ≤ k) :
    ∃ p q, idxP k v (i : Int) = some p ∧ fieldP o p = some q ∧ ldn m h q = some ((cs.drop (i * k + o)).take m) := by
  have h2 := S.2
  have hik : (i + 1) * k ≤ n * k := Nat.mul_le_mul_right k hi
  rw [Nat.add_mul, Nat.one_mul] at hik
  have hint : (0 : Int) ≤ (i : Int) ∧ (i : Int) < (n : Int) := by omega
  split at h2
  · rename_i k' b off len
    obtain ⟨rfl, rfl, all, H, h3, h4⟩ := h2
    refine ⟨.ptr b (off + i * k'), .ptr b (off + i * k' + o), ?_, rfl, ?_⟩
    · unfold idxP; simp only [Nat.beq_refl]; rw [req_true hint]; rfl
    · rw [ldn_of H (by omega), ← h4, List.drop_take, List.take_take, List.drop_drop, Nat.min_eq_left (by omega), show off + i * k' + o = off + (i * k' + o) by omega]
  · rename_i all len
    obtain ⟨rfl, h3, h4⟩ := h2
    refine ⟨.rop (all.drop (i * k)), .rop ((all.drop (i * k)).drop o), ?_, rfl, ?_⟩
    · unfold idxP; simp only; rw [req_true hint]; rfl
    · unfold ldn; simp only; rw [req_true (by simp; omega), ← h4, List.drop_take, List.take_take, List.drop_drop, Nat.min_eq_left (by omega)]; rfl
  · omega
  · exact h2.elim
theorem strAt_ok {s : ByteArray} {i : Nat} (hi : i < s.size) : strAt s (i : Int) = some ((s.data.toList[i]'(by rw [show s.data.toList.length = s.size from Array.length_toList]; exact hi)).toNat : Int) := by
  unfold strAt
  rw [req_true (by omega), Option.bind_some, Int.toNat_natCast]
  simp [byteAt, ByteArray.get!, getElem!_def, hi, Array.getElem?_eq_getElem]
theorem rname_loop (s : ByteArray) (hs : s.size ≤ 9223372036854775807) (h : AHeap) : ∀ (m i : Nat), i + m = s.size → S_chainmanref04_Right_0 s (i : Int) h = some (.lit (.bool (allL (s.data.toList.drop i) && (!decide (s = { data := #[] }) && decide ((s.size : Int) ≤ 24)))), h)
  | 0, i, hi => by
    have hl : s.data.toList.length = s.size := Array.length_toList
    rw [S_chainmanref04_Right_0_eq, decide_eq_false (by omega), cond_false, S_chainmanref04_Right_2_eq, List.drop_of_length_le (by omega)]
    have e : decide ((s.size : Int) ≥ 1) = !decide (s = { data := #[] }) := by
      by_cases h0 : s.size = 0
      · have : s = { data := #[] } := by apply ByteArray.ext; exact Array.eq_empty_of_size_eq_zero h0
        rw [this]; rfl
      · rw [decide_eq_true (by omega), decide_eq_false (fun e => h0 (by rw [e]; rfl))]; rfl
    rw [e]
    cases decide (s = ({ data := #[] } : ByteArray)) <;> simp only [Bool.not_true, Bool.not_false, cond_true, cond_false, S_chainmanref04_Right_4_eq, Bool.true_and, Bool.false_and] <;> rfl
  | m + 1, i, hi => by
    have hl : s.data.toList.length = s.size := Array.length_toList
    have hil : i < s.data.toList.length := by omega
    rw [S_chainmanref04_Right_0_eq, decide_eq_true (by omega), cond_true, strAt_ok (by omega), Option.bind_some, List.drop_eq_getElem_cons hil]
    have ih := rname_loop s hs h m (i + 1) (by omega)
    generalize hc : s.data.toList[i] = c at *
    have e5 : ∀ t, S_chainmanref04_Right_5 s (i : Int) t h = cond t (some (.lit (.bool false), h)) (S_chainmanref04_Right_0 s ((i + 1 : Nat) : Int) h) := fun t => by
      rw [S_chainmanref04_Right_5_eq, wrap_i64 (by omega) (by omega)]; rfl
    have e3 : ∀ t, S_chainmanref04_Right_3 s (i : Int) (c.toNat : Int) t h = cond (t && !decide ((c.toNat : Int) = 46)) (some (.lit (.bool false), h)) (S_chainmanref04_Right_0 s ((i + 1 : Nat) : Int) h) := fun t => by
      rw [S_chainmanref04_Right_3_eq, e5, e5]; cases t <;> rfl
    have e1 : ∀ t, S_chainmanref04_Right_1 s (i : Int) (c.toNat : Int) t h = cond (t && ((decide ((c.toNat : Int) < 48) || decide ((c.toNat : Int) > 57)) && !decide ((c.toNat : Int) = 46))) (some (.lit (.bool false), h)) (S_chainmanref04_Right_0 s ((i + 1 : Nat) : Int) h) := fun t => by
      rw [S_chainmanref04_Right_1_eq, e3, e3, e3]
      cases t <;> cases decide ((c.toNat : Int) < 48) <;> rfl
    rw [e1, e1]
    have e : allL (c :: List.drop (i + 1) s.data.toList) = (letterB (c.toNat : Int) && allL (List.drop (i + 1) s.data.toList)) := rfl
    rw [e, ih, Bool.and_assoc]
    generalize (allL (List.drop (i + 1) s.data.toList) && (!decide (s = ({ data := #[] } : ByteArray)) && decide ((s.size : Int) ≤ 24))) = b
    unfold letterB
    generalize (c.toNat : Int) = z
    by_cases a1 : z < 97 <;> by_cases a2 : z > 122 <;> by_cases a3 : z < 48 <;> by_cases a4 : z > 57 <;> by_cases a5 : z = 46 <;> simp [a1, a2, a3, a4, a5] <;> omega
theorem rname_run (s : ByteArray) (hs : s.size ≤ 9223372036854775807) (h : AHeap) : S_chainmanref04_Right s h = some (.lit (.bool (rightB s)), h) := by
  rw [S_chainmanref04_Right_eq]
  exact rname_loop s hs h s.size 0 (by omega)
def leafB (f f' : MFile) : Bool := decide (f.name = f'.name) && (decide (f.size = f'.size) && (decide (f.count = f'.count) && (decide (f.sum = f'.sum) && true)))
theorem leaf_file (f f' : MFile) : leafEq [.str, .int, .int, .int] f.cells f'.cells = some (leafB f f') := rfl
theorem same_loop {h : AHeap} {a b : Nat} {m m' : Man} {v v' : AVal} (ha : cellsAt h a = some (m.cells v)) (hb : cellsAt h b = some (m'.cells v')) (S : Sl 4 h v m.files.length (filesW m.files)) (S' : Sl 4 h v' m'.files.length (filesW m'.files)) (hl : m.files.length = m'.files.length) (hn : m.files.length ≤ 16) :
    ∀ (k i : Nat), i + k = m.files.length → ∃ r, S_chainmanref19_Same_2 a b (i : Int) h = some (.lit (.bool r), h) ∧ (m.files = m'.files → r = true)
  | 0, i, hi => by
    refine ⟨true, ?_, fun _ => rfl⟩
    rw [S_chainmanref19_Same_2_eq]
    exact bd (ld1_of ha) (bd S.len (cF (decide_eq_false (by omega)) (by rw [S_chainmanref19_Same_3_eq])))
  | k + 1, i, hi => by
    have hil : i < m.files.length := by omega
    have hil' : i < m'.files.length := by omega
    obtain ⟨p, e1, e2, _, _⟩ := S.idx hil
    obtain ⟨p', e1', e2', _, _⟩ := S'.idx hil'
    rw [show ((filesW m.files).drop (i * 4)).take 4 = m.files[i].cells from flat_at cells4 m.files i hil] at e2
    rw [show ((filesW m'.files).drop (i * 4)).take 4 = m'.files[i].cells from flat_at cells4 m'.files i hil'] at e2'
    obtain ⟨r, r1, r2⟩ := same_loop ha hb S S' hl hn k (i + 1) (by omega)
    have main : S_chainmanref19_Same_2 a b (i : Int) h = cond (!leafB m.files[i] m'.files[i]) (some (.lit (.bool false), h)) (S_chainmanref19_Same_2 a b ((i + 1 : Nat) : Int) h) := by
      rw [S_chainmanref19_Same_2_eq]
      refine bd (ld1_of ha) (bd S.len (cT (decide_eq_true (by omega)) (bd (ld1_of ha) (bd e1 (bd e2 (bd (ld1_of hb) (bd e1' (bd e2' (bd (leaf_file _ _) ?_)))))))))
      rw [wrap_i64 (by omega) (by omega)]; rfl
    rw [main]
    cases hf : leafB m.files[i] m'.files[i] with
    | true => exact ⟨r, r1, r2⟩
    | false =>
      refine ⟨false, rfl, fun e => ?_⟩
      have : m.files[i] = m'.files[i] := by simp only [e]
      rw [this] at hf
      simp [leafB] at hf
theorem same_run {m m' : Man} {v v' : AVal} {h : AHeap} (S : Sl 4 h v m.files.length (filesW m.files)) (S' : Sl 4 h v' m'.files.length (filesW m'.files)) (hn : m.files.length ≤ 16) :
    ∃ r, goneR (S_chainmanref19_Same (m.cells v) (m'.cells v') h) h = some (.lit (.bool r)) ∧ (m = m' → r = true) := by
  have G : Grow h (psh (psh h (.cells (m.cells v))) (.cells (m'.cells v'))) := ((Grow.refl h).psh _).psh _
  have ha : cellsAt (psh (psh h (.cells (m.cells v))) (.cells (m'.cells v'))) h.length = some (m.cells v) := cellsAt_psh _ (cellsAt_new _ _)
  have hb : cellsAt (psh (psh h (.cells (m.cells v))) (.cells (m'.cells v'))) (psh h (.cells (m.cells v))).length = some (m'.cells v') := cellsAt_new _ _
  have SS := S.grow G
  have SS' := S'.grow G
  have key : ∃ r, S_chainmanref19_Same (m.cells v) (m'.cells v') h = some (.lit (.bool r), psh (psh h (.cells (m.cells v))) (.cells (m'.cells v'))) ∧ (m = m' → r = true) := by
    rw [S_chainmanref19_Same_eq]
    generalize psh (psh h (.cells (m.cells v))) (.cells (m'.cells v')) = g at ha hb SS SS'
    generalize (psh h (.cells (m.cells v))).length = b at hb
    have no : S_chainmanref19_Same_1 h.length b true g = some (.lit (.bool false), g) := by rw [S_chainmanref19_Same_1_eq]; rfl
    have e0 : ∀ t, ∃ r, S_chainmanref19_Same_0 h.length b t g = some (.lit (.bool r), g) ∧ (t = false → m.files = m'.files → r = true) := fun t => by
      rw [S_chainmanref19_Same_0_eq]
      cases t with
      | true => exact ⟨false, no, fun h => by cases h⟩
      | false =>
        by_cases hl : m.files.length = m'.files.length
        · obtain ⟨r, r1, r2⟩ := same_loop ha hb SS SS' hl hn m.files.length 0 (by omega)
          refine ⟨r, cF rfl (bd (ld1_of ha) (bd SS.len (bd (ld1_of hb) (bd SS'.len ?_)))), fun _ => r2⟩
          rw [decide_eq_true (by omega), S_chainmanref19_Same_1_eq]
          exact r1
        · refine ⟨false, cF rfl (bd (ld1_of ha) (bd SS.len (bd (ld1_of hb) (bd SS'.len ?_)))), fun _ e => absurd (by rw [e]) hl⟩
          rw [decide_eq_false (by omega)]; exact no
    by_cases h1 : m.stage = m'.stage
    · obtain ⟨r, r1, r2⟩ := e0 (!decide (m.pass = m'.pass))
      refine ⟨r, bd (ld1_of ha) (bd rfl (bd (ld1_of hb) (bd rfl (cF (by simp [h1]) (bd (ld1_of ha) (bd rfl (bd (ld1_of hb) (bd rfl r1)))))))), fun e => ?_⟩
      subst e
      exact r2 (by simp) rfl
    · obtain ⟨r, r1, r2⟩ := e0 true
      exact ⟨r, bd (ld1_of ha) (bd rfl (bd (ld1_of hb) (bd rfl (cT (by simp [h1]) r1)))), fun e => absurd (by rw [e]) h1⟩
  obtain ⟨r, r1, r2⟩ := key
  exact ⟨r, goneR_of r1 G rfl, r2⟩
/-! ### Right -/
theorem rright_names {h : AHeap} {mb fb i : Nat} {m : Man} {v : AVal} (hm : cellsAt h mb = some (m.cells v)) (S : Sl 4 h v m.files.length (filesW m.files)) (hi : i < m.files.length) (hf : cellsAt h fb = some m.files[i].cells) (hn : m.files.length ≤ 16) :
    ∀ (j k : Nat), k + j = i → S_chainmanref19_Right_10 mb (i : Int) fb (k : Int) h = cond (nameIn ((m.files.take i).drop k) m.files[i].name) (some (.lit (.bool false), h)) (S_chainmanref19_Right_11 mb (i : Int) h)
  | 0, k, hk => by
    rw [S_chainmanref19_Right_10_eq, decide_eq_false (by omega), cond_false, List.drop_of_length_le (by simp; omega)]; rfl
  | j + 1, k, hk => by
    have hkl : k < m.files.length := by omega
    have hki : k < (m.files.take i).length := by simp; omega
    obtain ⟨p, e1, _, e3, _⟩ := S.idx hkl
    obtain ⟨q, e4, e5⟩ := e3 0 (by omega)
    rw [show (filesW m.files)[k * 4 + 0]? = m.files[k].cells[0]? from flat_cell cells4 m.files k hkl (by omega)] at e5
    rw [S_chainmanref19_Right_10_eq, decide_eq_true (by omega), cond_true, List.drop_eq_getElem_cons hki]
    have ih := rright_names hm S hi hf hn j (k + 1) (by omega)
    unfold nameIn at ih ⊢
    rw [List.any_cons, List.getElem_take]
    refine bd (ld1_of hm) (bd e1 (bd e4 (bd e5 (bd rfl (bd (ld1_of hf) (bd rfl ?_))))))
    rw [wrap_i64 (by omega) (by omega)]
    show cond (decide (m.files[k].name = m.files[i].name)) _ (S_chainmanref19_Right_10 mb (i : Int) fb ((k + 1 : Nat) : Int) h) = _
    rw [ih]
    cases decide (m.files[k].name = m.files[i].name) <;> rfl
theorem rright_files {h0 : AHeap} {mb : Nat} {m : Man} {v : AVal} (hm : cellsAt h0 mb = some (m.cells v)) (S : Sl 4 h0 v m.files.length (filesW m.files)) (hn : m.files.length ≤ 16) (hs : ∀ f ∈ m.files, f.name.size ≤ 9223372036854775807) :
    ∀ (k i : Nat) (g : AHeap), i + k = m.files.length → Grow h0 g → ∃ g', S_chainmanref19_Right_4 mb (i : Int) g = some (.lit (.bool (filesB m.files i)), g') ∧ Grow h0 g'
  | 0, i, g, hi, G => by
    refine ⟨g, ?_, G⟩
    rw [S_chainmanref19_Right_4_eq]
    refine bd (ld1_of (G.cells hm)) (bd (S.grow G).len (cF (decide_eq_false (by omega)) ?_))
    rw [S_chainmanref19_Right_6_eq, show i = m.files.length by omega, filesB_end]
  | k + 1, i, g, hi, G => by
    have hil : i < m.files.length := by omega
    obtain ⟨p, e1, e2, _, _⟩ := (S.grow G).idx hil
    rw [show ((filesW m.files).drop (i * 4)).take 4 = m.files[i].cells from flat_at cells4 m.files i hil] at e2
    have G1 := G.psh (.cells m.files[i].cells)
    have c1 : cellsAt (psh g (.cells m.files[i].cells)) g.length = some m.files[i].cells := cellsAt_new g _
    obtain ⟨g', r1, r2⟩ := rright_files hm S hn hs k (i + 1) (psh g (.cells m.files[i].cells)) (by omega) G1
    rw [filesB_step m.files i hil]
    have names := rright_names (G1.cells hm) (S.grow G1) hil c1 hn i 0 (by omega)
    rw [List.drop_zero] at names
    have e11 : S_chainmanref19_Right_11 mb (i : Int) (psh g (.cells m.files[i].cells)) = some (.lit (.bool (filesB m.files (i + 1))), g') := by
      rw [S_chainmanref19_Right_11_eq, wrap_i64 (by omega) (by omega)]; exact r1
    rw [e11] at names
    generalize hgg : psh g (.cells m.files[i].cells) = gg at *
    generalize hff : m.files[i] = f at *
    have fin : ∃ g2, S_chainmanref19_Right_10 mb (i : Int) g.length 0 gg = some (.lit (.bool (!nameIn (m.files.take i) f.name && filesB m.files (i + 1))), g2) ∧ Grow h0 g2 := by
      rw [show (0 : Int) = ((0 : Nat) : Int) from rfl, names]
      cases nameIn (m.files.take i) f.name with
      | true => exact ⟨gg, rfl, G1⟩
      | false => exact ⟨g', rfl, r2⟩
    have e9 : ∀ t, ∃ g2, S_chainmanref19_Right_9 mb (i : Int) g.length t gg = some (.lit (.bool (!t && (!nameIn (m.files.take i) f.name && filesB m.files (i + 1)))), g2) ∧ Grow h0 g2 := fun t => by
      rw [S_chainmanref19_Right_9_eq]
      cases t with
      | true => exact ⟨gg, rfl, G1⟩
      | false => exact fin
    have e8 : ∀ t, ∃ g2, S_chainmanref19_Right_8 mb (i : Int) g.length t gg = some (.lit (.bool (!(t || decide (f.count > 4611686018427387904)) && (!nameIn (m.files.take i) f.name && filesB m.files (i + 1)))), g2) ∧ Grow h0 g2 := fun t => by
      rw [S_chainmanref19_Right_8_eq]
      cases t with
      | true => exact e9 true
      | false =>
        obtain ⟨g2, a1, a2⟩ := e9 (decide (f.count > 4611686018427387904))
        exact ⟨g2, cF rfl (bd (ld1_of c1) (bd rfl a1)), a2⟩
    have e7 : ∀ t, ∃ g2, S_chainmanref19_Right_7 mb (i : Int) g.length t gg = some (.lit (.bool (!(t || (decide (f.count < 0) || decide (f.count > 4611686018427387904))) && (!nameIn (m.files.take i) f.name && filesB m.files (i + 1)))), g2) ∧ Grow h0 g2 := fun t => by
      rw [S_chainmanref19_Right_7_eq]
      cases t with
      | true => exact e8 true
      | false =>
        obtain ⟨g2, a1, a2⟩ := e8 (decide (f.count < 0))
        exact ⟨g2, cF rfl (bd (ld1_of c1) (bd rfl a1)), a2⟩
    have e5 : ∀ t, ∃ g2, S_chainmanref19_Right_5 mb (i : Int) g.length t gg = some (.lit (.bool (!(t || (decide (f.size > 64) || (decide (f.count < 0) || decide (f.count > 4611686018427387904)))) && (!nameIn (m.files.take i) f.name && filesB m.files (i + 1)))), g2) ∧ Grow h0 g2 := fun t => by
      rw [S_chainmanref19_Right_5_eq]
      cases t with
      | true => exact e7 true
      | false =>
        obtain ⟨g2, a1, a2⟩ := e7 (decide (f.size > 64))
        exact ⟨g2, cF rfl (bd (ld1_of c1) (bd rfl a1)), a2⟩
    have hfs : f.name.size ≤ 9223372036854775807 := by rw [← hff]; exact hs _ (List.getElem_mem hil)
    have hmay : mayB f = (rightB f.name && !(decide (f.size < 1) || (decide (f.size > 64) || (decide (f.count < 0) || decide (f.count > 4611686018427387904))))) := by
      unfold mayB
      have a1 : decide (f.size ≥ 1) = !decide (f.size < 1) := by by_cases h : f.size < 1 <;> simp [h] <;> omega
      have a2 : decide (f.size ≤ 64) = !decide (f.size > 64) := by by_cases h : f.size > 64 <;> simp [h] <;> omega
      have a3 : decide (f.count ≥ 0) = !decide (f.count < 0) := by by_cases h : f.count < 0 <;> simp [h] <;> omega
      have a4 : decide (f.count ≤ 4611686018427387904) = !decide (f.count > 4611686018427387904) := by by_cases h : f.count > 4611686018427387904 <;> simp [h] <;> omega
      rw [a1, a2, a3, a4]
      simp only [Bool.not_or]
    have main : ∃ g2, S_chainmanref19_Right_4 mb (i : Int) g = some (.lit (.bool (mayB f && (!nameIn (m.files.take i) f.name && filesB m.files (i + 1)))), g2) ∧ Grow h0 g2 := by
      rw [hmay]
      have run : ∀ x, (cond (!rightB f.name) (S_chainmanref19_Right_5 mb (i : Int) g.length true gg) ((ld1 gg (.ptr g.length 1)).bind fun x21 => (asI .i64 x21).bind fun n22 => S_chainmanref19_Right_5 mb (i : Int) g.length (decide (n22 < 1)) gg)) = x → S_chainmanref19_Right_4 mb (i : Int) g = x := fun x hx => by
        rw [S_chainmanref19_Right_4_eq]
        refine bd (ld1_of (G.cells hm)) (bd (S.grow G).len (cT (decide_eq_true (by omega)) (bd (ld1_of (G.cells hm)) (bd e1 (bd e2 (bd (stn_new rfl rfl rfl) ?_))))))
        rw [hgg]
        refine bd (ld1_of c1) (bd rfl (bd (goneR_of (rname_run f.name hfs gg) (Grow.refl gg) rfl) (bd rfl hx)))
      cases hr : rightB f.name with
      | false =>
        obtain ⟨g2, a1, a2⟩ := e5 true
        exact ⟨g2, run _ (by rw [hr]; exact a1), a2⟩
      | true =>
        obtain ⟨g2, a1, a2⟩ := e5 (decide (f.size < 1))
        exact ⟨g2, run _ (by rw [hr]; exact bd (ld1_of c1) (bd rfl a1)), a2⟩
    obtain ⟨g2, a1, a2⟩ := main
    exact ⟨g2, by rw [a1, Bool.and_assoc], a2⟩
theorem rright_run {m : Man} {v : AVal} {h : AHeap} (S : Sl 4 h v m.files.length (filesW m.files)) (hs : ∀ f ∈ m.files, f.name.size ≤ 9223372036854775807) : goneR (S_chainmanref19_Right (m.cells v) h) h = some (.lit (.bool (manB m))) := by
  have c : cellsAt (psh h (.cells (m.cells v))) h.length = some (m.cells v) := cellsAt_new h _
  have G0 : Grow h (psh h (.cells (m.cells v))) := (Grow.refl h).psh _
  have e3 : ∀ t : Bool, (t = false → m.files.length ≤ 16) → ∃ g, S_chainmanref19_Right_3 h.length t (psh h (.cells (m.cells v))) = some (.lit (.bool (!t && filesB m.files 0)), g) ∧ Grow h g := fun t ht => by
    rw [S_chainmanref19_Right_3_eq]
    cases t with
    | true => exact ⟨_, rfl, G0⟩
    | false =>
      obtain ⟨g, a1, a2⟩ := rright_files c (S.grow G0) (ht rfl) hs m.files.length 0 _ (by omega) (.refl _)
      exact ⟨g, cF rfl a1, G0.trans a2⟩
  have e2 : ∀ t : Bool, ∃ g, S_chainmanref19_Right_2 h.length t (psh h (.cells (m.cells v))) = some (.lit (.bool (!(t || decide ((m.files.length : Int) > 16)) && filesB m.files 0)), g) ∧ Grow h g := fun t => by
    rw [S_chainmanref19_Right_2_eq]
    cases t with
    | true => exact e3 true (fun h => by cases h)
    | false =>
      obtain ⟨g, a1, a2⟩ := e3 (decide ((m.files.length : Int) > 16)) (fun h => by have := of_decide_eq_false h; omega)
      exact ⟨g, cF rfl (bd (ld1_of c) (bd S.len a1)), a2⟩
  have e1 : ∀ t : Bool, ∃ g, S_chainmanref19_Right_1 h.length t (psh h (.cells (m.cells v))) = some (.lit (.bool (!(t || (decide (m.pass > 1000) || decide ((m.files.length : Int) > 16))) && filesB m.files 0)), g) ∧ Grow h g := fun t => by
    rw [S_chainmanref19_Right_1_eq]
    cases t with
    | true => exact e2 true
    | false =>
      obtain ⟨g, a1, a2⟩ := e2 (decide (m.pass > 1000))
      exact ⟨g, cF rfl (bd (ld1_of c) (bd rfl a1)), a2⟩
  have e0 : ∀ t : Bool, ∃ g, S_chainmanref19_Right_0 h.length t (psh h (.cells (m.cells v))) = some (.lit (.bool (!(t || (decide (m.pass < 0) || (decide (m.pass > 1000) || decide ((m.files.length : Int) > 16)))) && filesB m.files 0)), g) ∧ Grow h g := fun t => by
    rw [S_chainmanref19_Right_0_eq]
    cases t with
    | true => exact e1 true
    | false =>
      obtain ⟨g, a1, a2⟩ := e1 (decide (m.pass < 0))
      exact ⟨g, cF rfl (bd (ld1_of c) (bd rfl a1)), a2⟩
  have key : ∃ g, S_chainmanref19_Right (m.cells v) h = some (.lit (.bool (manB m)), g) ∧ Grow h g := by
    unfold manB
    rw [S_chainmanref19_Right_eq]
    cases hd : decide (m.stage < 1) with
    | true =>
      obtain ⟨g, a1, a2⟩ := e0 true
      exact ⟨g, bd (ld1_of c) (bd rfl (cT hd a1)), a2⟩
    | false =>
      obtain ⟨g, a1, a2⟩ := e0 (decide (m.stage > 7))
      exact ⟨g, bd (ld1_of c) (bd rfl (cF hd (bd (ld1_of c) (bd rfl a1)))), a2⟩
  obtain ⟨g, a1, a2⟩ := key
  exact goneR_of a1 a2 rfl
/-! ### Few -/
theorem mfew_loop {h : AHeap} {mb : Nat} {m : Man} {v : AVal} (hm : cellsAt h mb = some (m.cells v)) (S : Sl 4 h v m.files.length (filesW m.files)) : ∀ (k i : Nat), i + k = 20 → ∃ r, S_chainmanref19_Few_0 mb (i : Int) h = some (.lit (.bool r), h) := by
  have fin : ∃ r, S_chainmanref19_Few_2 mb h = some (.lit (.bool r), h) := by
    rw [S_chainmanref19_Few_2_eq]
    exact ⟨_, bd (ld1_of hm) (bd S.len rfl)⟩
  have no : ∀ i, ∃ r, S_chainmanref19_Few_1 mb i false h = some (.lit (.bool r), h) := fun i => by rw [S_chainmanref19_Few_1_eq]; exact fin
  intro k
  induction k with
  | zero =>
    intro i hi
    rw [S_chainmanref19_Few_0_eq]
    obtain ⟨r, e⟩ := no (i : Int)
    refine ⟨r, bd (ld1_of hm) (bd S.len ?_)⟩
    by_cases hl : (i : Int) < (m.files.length : Int)
    · refine cT (decide_eq_true hl) ?_
      rw [decide_eq_false (by omega)]; exact e
    · exact cF (decide_eq_false hl) e
  | succ k ih =>
    intro i hi
    rw [S_chainmanref19_Few_0_eq]
    by_cases hl : (i : Int) < (m.files.length : Int)
    · have hil : i < m.files.length := by omega
      obtain ⟨p, e1, _, e3, _⟩ := S.idx hil
      obtain ⟨q, e4, e5⟩ := e3 0 (by omega)
      rw [show (filesW m.files)[i * 4 + 0]? = m.files[i].cells[0]? from flat_cell cells4 m.files i hil (by omega)] at e5
      obtain ⟨r, e⟩ := ih (i + 1) (by omega)
      have e1' : ∃ r, S_chainmanref19_Few_1 mb (i : Int) true h = some (.lit (.bool r), h) := by
        rw [S_chainmanref19_Few_1_eq]
        by_cases hz : ((m.files[i].name.size : Nat) : Int) > 40
        · exact ⟨false, cT rfl (bd (ld1_of hm) (bd e1 (bd e4 (bd e5 (bd rfl (cT (decide_eq_true hz) rfl))))))⟩
        · refine ⟨r, cT rfl (bd (ld1_of hm) (bd e1 (bd e4 (bd e5 (bd rfl (cF (decide_eq_false hz) ?_))))))⟩
          rw [wrap_i64 (by omega) (by omega)]; exact e
      obtain ⟨r', e'⟩ := e1'
      refine ⟨r', bd (ld1_of hm) (bd S.len (cT (decide_eq_true hl) ?_))⟩
      rw [decide_eq_true (by omega)]; exact e'
    · obtain ⟨r, e⟩ := no (i : Int)
      exact ⟨r, bd (ld1_of hm) (bd S.len (cF (decide_eq_false hl) e))⟩
theorem mfew_run {m : Man} {v : AVal} {h : AHeap} (S : Sl 4 h v m.files.length (filesW m.files)) : ∃ r, goneR (S_chainmanref19_Few (m.cells v) h) h = some (.lit (.bool r)) := by
  have c : cellsAt (psh h (.cells (m.cells v))) h.length = some (m.cells v) := cellsAt_new h _
  have G0 : Grow h (psh h (.cells (m.cells v))) := (Grow.refl h).psh _
  obtain ⟨r, e⟩ := mfew_loop c (S.grow G0) 20 0 rfl
  refine ⟨r, goneR_of (h' := psh h (.cells (m.cells v))) ?_ G0 rfl⟩
  rw [S_chainmanref19_Few_eq]; exact e
end Go.Proofs.Yteclkehnppeobaa.AL
/- What is saved is there, whole, or what was there is. -/
namespace Go.Proofs.Yteclkehnppeobaa.AL
set_option linter.unusedVariables false
set_option linter.unusedSimpArgs false
set_option maxRecDepth 100000
open Go
open Go.Proofs.Try
/-! ### Rising -/
theorem riseF_whole (k : Option Int) (s : ByteArray) : riseF k (s, (s.size : Int)) = (s, (s.size : Int)) := by
  have h0 : riseN k (s, (s.size : Int)) = 0 := by
    unfold riseN
    cases k with
    | none => rfl
    | some v =>
      show maxI 0 (minI v ((s.size : Int) - (s.size : Int))) = 0
      unfold maxI minI
      split <;> split <;> omega
  unfold riseF
  rw [h0, Int.add_zero, Int.toNat_natCast]
  congr 1
  apply ByteArray.ext
  rw [ByteArray.data_extract]
  simp
theorem riseS_keeps (ki : List Int) : ∀ (ns : List ByteArray) (i : Nat) (l : List File) (u : Int), LOk l → (∀ n ∈ ns, fask l n ≠ none) →
    LOk (riseS ki i ns (l, u)).1 ∧ (∀ n, fask l n = none → fask (riseS ki i ns (l, u)).1 n = none) ∧ (∀ n s, fask l n = some (s, (s.size : Int)) → fask (riseS ki i ns (l, u)).1 n = some (s, (s.size : Int)))
  | [], i, l, u, o, _ => ⟨o, fun _ h => h, fun _ _ h => h⟩
  | n :: ns, i, l, u, o, hn => by
    unfold riseS
    have hnn := hn n (by simp)
    obtain ⟨x, hx⟩ := Option.ne_none_iff_exists'.1 hnn
    have hfo : fileOf l n = x := by unfold fileOf; rw [hx]; rfl
    have hok := o.file hx
    have ih := riseS_keeps ki ns (i + 1) (flay l n (riseF (ki[i]?) (fileOf l n))) (IntKind.wrap .i64 (u - ((fileOf l n).1.size - (riseF (ki[i]?) (fileOf l n)).2))) (o.lay (by rw [hfo]; exact (riseF_ok hok).1) hnn) (fun m hm => by
      by_cases e : m = n
      · rw [e, fask_flay]; simp
      · rw [fask_flay_ne e]; exact hn m (by simp [hm]))
    refine ⟨ih.1, fun m hm => ih.2.1 m ?_, fun m s hm => ih.2.2 m s ?_⟩
    · by_cases e : m = n
      · rw [e] at hm; exact absurd hm hnn
      · rw [fask_flay_ne e]; exact hm
    · by_cases e : m = n
      · rw [e] at hm ⊢
        rw [hx] at hm
        cases hm
        rw [fask_flay, hfo, riseF_whole]
      · rw [fask_flay_ne e]; exact hm
theorem mem_ins : ∀ (n : ByteArray) (l : List ByteArray), n ∈ sortB l ↔ n ∈ l := fun n l => by
  unfold sortB
  rw [List.mem_map]
  constructor
  · rintro ⟨x, hx, rfl⟩
    rw [(List.mergeSort_perm _ _).mem_iff, List.mem_map] at hx
    obtain ⟨y, hy, rfl⟩ := hx
    rw [ofL_bytesL]; exact hy
  · intro hn
    exact ⟨bytesL n, (List.mergeSort_perm _ _).mem_iff.2 (List.mem_map.2 ⟨n, hn, rfl⟩), ofL_bytesL n⟩
theorem Tru.bd {α : Type} {x : Option α} {a : α} {f : α → Option (AVal × AHeap)} (h : x = some a) (k : Tru (f a)) : Tru (x.bind f) := by rw [h]; exact k
theorem Tru.cT {c : Bool} {x y : Option (AVal × AHeap)} (h : c = true) (k : Tru x) : Tru (cond c x y) := by rw [h]; exact k
theorem Tru.cF {c : Bool} {x y : Option (AVal × AHeap)} (h : c = false) (k : Tru y) : Tru (cond c x y) := by rw [h]; exact k
/-! ### The tries -/
structure TryR where
  m : Man
  v : AVal
  fuse : Int
  kv : AVal
  keep : List Int
def TryR.cells (t : TryR) : List AVal := t.m.cells t.v ++ [.lit (.int .i64 t.fuse), t.kv]
theorem cells5 (t : TryR) : t.cells.length = 5 := rfl
structure TryR.Ok (t : TryR) : Prop where
  S : ∀ h, Sl 4 h t.v t.m.files.length (filesW t.m.files)
  K : ∀ h, Sl 1 h t.kv t.keep.length (intVs t.keep)
  n : ∀ f ∈ t.m.files, f.name.size ≤ 9223372036854775807
  u : ∀ f ∈ t.m.files, 0 ≤ f.sum ∧ f.sum < 4294967296
section law
variable {l0 : AVal} {ts : List TryR}
theorem try_rd (hT : ∀ g, Sl 5 g l0 ts.length (ts.flatMap TryR.cells)) {i : Nat} (hi : i < ts.length) :
    ∃ p q0 q3 q4, idxP 5 l0 (i : Int) = some p ∧ fieldP 0 p = some q0 ∧ fieldP 3 p = some q3 ∧ fieldP 4 p = some q4 ∧ ∀ g, ldn 3 g q0 = some (ts[i].m.cells ts[i].v) ∧ ld1 g q3 = some (.lit (.int .i64 ts[i].fuse)) ∧ ld1 g q4 = some ts[i].kv := by
  obtain ⟨p, e1, _, e3, _⟩ := (hT []).idx hi
  obtain ⟨q0, f0, _⟩ := e3 0 (by omega)
  obtain ⟨q3, f3, _⟩ := e3 3 (by omega)
  obtain ⟨q4, f4, _⟩ := e3 4 (by omega)
  refine ⟨p, q0, q3, q4, e1, f0, f3, f4, fun g => ⟨?_, ?_, ?_⟩⟩
  · obtain ⟨p', q', e1', f0', r⟩ := (hT g).idxF (i := i) (o := 0) (m := 3) hi (by omega)
    rw [e1] at e1'; cases e1'
    rw [f0] at f0'; cases f0'
    rw [r, Nat.add_zero]
    have h1 : ((ts.flatMap TryR.cells).drop (i * 5)).take 3 = (((ts.flatMap TryR.cells).drop (i * 5)).take 5).take 3 := by rw [List.take_take]; rfl
    rw [h1, flat_at cells5 ts i hi]; rfl
  · obtain ⟨p', e1', _, e3', _⟩ := (hT g).idx hi
    rw [e1] at e1'; cases e1'
    obtain ⟨q', f', r⟩ := e3' 3 (by omega)
    rw [f3] at f'; cases f'
    rw [r, flat_cell cells5 ts i hi (by omega)]; rfl
  · obtain ⟨p', e1', _, e3', _⟩ := (hT g).idx hi
    rw [e1] at e1'; cases e1'
    obtain ⟨q', f', r⟩ := e3' 4 (by omega)
    rw [f4] at f'; cases f'
    rw [r, flat_cell cells5 ts i hi (by omega)]; rfl
theorem few_run (hT : ∀ g, Sl 5 g l0 ts.length (ts.flatMap TryR.cells)) (hO : ∀ t ∈ ts, t.Ok) (h : AHeap) : ∃ r, goneR (S_chainmanlaw20_few l0 h) h = some (.lit (.bool r)) ∧ (r = true → ts.length ≤ 8) := by
  have fin : ∃ r, S_chainmanlaw20_few_3 l0 h = some (.lit (.bool r), h) ∧ (r = true → ts.length ≤ 8) := by
    rw [S_chainmanlaw20_few_3_eq]
    exact ⟨_, bd (hT h).len rfl, fun e => by have := of_decide_eq_true e; omega⟩
  have no : ∀ i, ∃ r, S_chainmanlaw20_few_1 l0 i false h = some (.lit (.bool r), h) ∧ (r = true → ts.length ≤ 8) := fun i => by rw [S_chainmanlaw20_few_1_eq]; exact fin
  have bad : ∀ i, S_chainmanlaw20_few_2 l0 i true h = some (.lit (.bool false), h) := fun i => by rw [S_chainmanlaw20_few_2_eq]; rfl
  have loop : ∀ (k i : Nat), i + k = 8 → ∃ r, S_chainmanlaw20_few_0 l0 (i : Int) h = some (.lit (.bool r), h) ∧ (r = true → ts.length ≤ 8) := by
    intro k
    induction k with
    | zero =>
      intro i hi
      rw [S_chainmanlaw20_few_0_eq]
      obtain ⟨r, e, e'⟩ := no (i : Int)
      refine ⟨r, bd (hT h).len ?_, e'⟩
      by_cases hl : (i : Int) < (ts.length : Int)
      · refine cT (decide_eq_true hl) ?_
        rw [decide_eq_false (by omega)]; exact e
      · exact cF (decide_eq_false hl) e
    | succ k ih =>
      intro i hi
      rw [S_chainmanlaw20_few_0_eq]
      by_cases hl : (i : Int) < (ts.length : Int)
      · have hil : i < ts.length := by omega
        obtain ⟨p, q0, q3, q4, e1, f0, f3, f4, rd⟩ := try_rd hT hil
        have ok := hO _ (List.getElem_mem hil)
        obtain ⟨r5, e5⟩ := mfew_run (m := ts[i].m) (v := ts[i].v) (h := h) (ok.S h)
        have step : ∃ r, S_chainmanlaw20_few_1 l0 (i : Int) true h = some (.lit (.bool r), h) ∧ (r = true → ts.length ≤ 8) := by
          rw [S_chainmanlaw20_few_1_eq]
          cases r5 with
          | false => exact ⟨false, cT rfl (bd e1 (bd f0 (bd (rd h).1 (bd e5 (bd rfl (cT rfl (bad _))))))), fun e => by cases e⟩
          | true =>
            by_cases hk : (ts[i].keep.length : Int) > 10
            · refine ⟨false, cT rfl (bd e1 (bd f0 (bd (rd h).1 (bd e5 (bd rfl (cF rfl (bd e1 (bd f4 (bd (rd h).2.2 (bd (ok.K h).len ?_)))))))))), fun e => by cases e⟩
              rw [decide_eq_true hk]; exact bad _
            · obtain ⟨r, e, e'⟩ := ih (i + 1) (by omega)
              refine ⟨r, cT rfl (bd e1 (bd f0 (bd (rd h).1 (bd e5 (bd rfl (cF rfl (bd e1 (bd f4 (bd (rd h).2.2 (bd (ok.K h).len ?_)))))))))), e'⟩
              rw [decide_eq_false hk, S_chainmanlaw20_few_2_eq, wrap_i64 (by omega) (by omega)]; exact e
        obtain ⟨r, e, e'⟩ := step
        refine ⟨r, bd (hT h).len (cT (decide_eq_true hl) ?_), e'⟩
        rw [decide_eq_true (by omega)]; exact e
      · obtain ⟨r, e, e'⟩ := no (i : Int)
        exact ⟨r, bd (hT h).len (cF (decide_eq_false hl) e), e'⟩
  obtain ⟨r, e, e'⟩ := loop 8 0 rfl
  exact ⟨r, goneR_of (by rw [S_chainmanlaw20_few_eq]; exact e) (Grow.refl h) rfl, e'⟩
/-- Between the tries. -/
structure CSt (h0 g : AHeap) (d mb wb : Nat) (D : Dsk) (l : List File) (some6 : Bool) (wm : Man) (wv : AVal) : Prop where
  H : DH h0 g d mb (dskC mb D) (fileE l)
  o : LOk l
  wl : h0.length ≤ wb
  wc : cellsAt g wb = some (wm.cells wv)
  S : Sl 4 g wv wm.files.length (filesW wm.files)
  At : ∀ b, At wv b → h0.length ≤ b
  n : wm.files.length ≤ 16
  yes : some6 = true → manB wm = true ∧ (∀ f ∈ wm.files, 0 ≤ f.sum ∧ f.sum < 4294967296) ∧ fask l nmN = some (manP wm, ((manP wm).size : Int))
  no : some6 = false → wm = zeroM ∧ fask l nmN = none
theorem Sl.tmp {h0 g g' : AHeap} {k n : Nat} {v : AVal} {cs : List AVal} (S : Sl k g v n cs) (hv : ∀ b, AL.At v b → h0.length ≤ b) (T : Tmp h0 g g') (hl : g.length ≤ g'.length) : Sl k g' v n cs := by
  refine ⟨S.1, ?_⟩
  have h2 := S.2
  split at h2
  · obtain ⟨rfl, rfl, all, H, h3, h4⟩ := h2
    exact ⟨rfl, rfl, all, T.cells (hv _ ⟨_, _, _, rfl⟩) H, h3, h4⟩
  · exact h2
  · exact h2
  · exact h2.elim
theorem law_loop (hT : ∀ g, Sl 5 g l0 ts.length (ts.flatMap TryR.cells)) (hO : ∀ t ∈ ts, t.Ok) (hn : ts.length ≤ 8) {h0 : AHeap} {d mb wb : Nat} : ∀ (k i : Nat) (g : AHeap) (D : Dsk) (l : List File) (some6 : Bool) (wm : Man) (wv : AVal), i + k = ts.length → CSt h0 g d mb wb D l some6 wm wv →
    Tru (S_chainmanlaw20_CommitWhole_0 l0 (.ptr d 0) wb some6 (i : Int) g) := by
  intro k
  induction k with
  | zero =>
    intro i g D l some6 wm wv hi C
    rw [S_chainmanlaw20_CommitWhole_0_eq, (hT g).len, Option.bind_some, decide_eq_false (by omega), cond_false, S_chainmanlaw20_CommitWhole_2_eq]
    exact .here
  | succ k ih =>
    intro i g D l some6 wm wv hi C
    have hil : i < ts.length := by omega
    obtain ⟨p, q0, q3, q4, e1, f0, f3, f4, rd⟩ := try_rd hT hil
    have ok := hO _ (List.getElem_mem hil)
    generalize ts[i] = t at rd ok
    -- the calls
    obtain ⟨g1, x1, H1, T1, l1⟩ := arm_run C.H t.fuse
    obtain ⟨e, D2, l2, g2, x2, H2, T2, n2, o2, p2, q2⟩ := save_run H1 C.o (m := t.m) (v := t.v) (ok.S g1) (fun f hf => Nat.le_trans (ok.n f hf) (by omega)) ok.u
    obtain ⟨g3, x3, H3, T3, n3⟩ := rise_run H2 (keep := t.kv) (ki := t.keep) (Nat.le_trans o2.len (by omega)) o2.ok (fun g _ => ok.K g)
    obtain ⟨o3, a3, b3⟩ := riseS_keeps t.keep (namesOf l2) 0 l2 D2.used o2 (fun n hm => by
      unfold namesOf at hm
      rw [mem_ins] at hm
      exact fask_name.2 hm)
    generalize (riseS t.keep 0 (namesOf l2) (l2, D2.used)).1 = l3 at H3 o3 a3 b3
    generalize hD3 : ({ D2 with used := (riseS t.keep 0 (namesOf l2) (l2, D2.used)).2, fuse := -1, down := false } : Dsk) = D3 at H3
    have hup : D3.down = false ∧ D3.fuse = -1 := by rw [← hD3]; exact ⟨rfl, rfl⟩
    have T13 : Tmp h0 g g3 := (T1.trans T2 (by omega)).trans T3 (by omega)
    -- what is loaded
    have load : ∃ (g4 : AHeap) (D4 : Dsk) (m : Man) (v : AVal) (is : Bool), S_commit_Load (.ptr d 0) g3 = some (.tup [.agg (m.cells v), .lit (.bool is), .lit (.int .i64 0)], g4) ∧ DH h0 g4 d mb (dskC mb D4) (fileE l3) ∧ Tmp h0 g3 g4 ∧ g3.length ≤ g4.length ∧ Sl 4 g4 v m.files.length (filesW m.files) ∧ (∀ b, AL.At v b → g3.length ≤ b) ∧ m.files.length ≤ 16 ∧
        (is = true → manB m = true ∧ (∀ f ∈ m.files, 0 ≤ f.sum ∧ f.sum < 4294967296) ∧ fask l3 nmN = some (manP m, ((manP m).size : Int))) ∧ (is = false → m = zeroM ∧ fask l3 nmN = none) ∧
        (e = 0 → is = true ∧ m = t.m) ∧ (e ≠ 0 → is = some6 ∧ m = wm) := by
      by_cases he : e = 0
      · obtain ⟨hb, hf⟩ := q2 he
        have hf3 := b3 nmN (manP t.m) hf
        obtain ⟨g4, D4, v, y1, y2, y3, y4, y5, y6⟩ := load_some H3 hup hb ok.u hf3
        exact ⟨g4, D4, t.m, v, true, y1, y2, y3, y4, y5, y6, (mok_of hb ok.u).n, fun _ => ⟨hb, ok.u, hf3⟩, fun h => (by cases h), fun _ => ⟨rfl, rfl⟩, fun h => absurd he h⟩
      · have hf := p2 he
        cases hs : some6 with
        | true =>
          obtain ⟨hb, hu, hw⟩ := C.yes hs
          have hf3 := b3 nmN (manP wm) (hf.trans hw)
          obtain ⟨g4, D4, v, y1, y2, y3, y4, y5, y6⟩ := load_some H3 hup hb hu hf3
          exact ⟨g4, D4, wm, v, true, y1, y2, y3, y4, y5, y6, C.n, fun _ => ⟨hb, hu, hf3⟩, fun h => (by cases h), fun h => absurd h he, fun _ => ⟨rfl, rfl⟩⟩
        | false =>
          obtain ⟨hz, hw⟩ := C.no hs
          have hf3 := a3 nmN (hf.trans hw)
          obtain ⟨g4, D4, y1, y2, y3, y4⟩ := load_none H3 hup hf3
          exact ⟨g4, D4, zeroM, nilV, false, y1, y2, y3, y4, Sl.nil 4 _, fun b hb => (by obtain ⟨_, _, _, hb⟩ := hb; cases hb), by decide, fun h => (by cases h), fun _ => ⟨rfl, hf3⟩, fun h => absurd h he, fun _ => ⟨rfl, hz.symm⟩⟩
    obtain ⟨g4, D4, m, v, is, x4, H4, T4, n4, S4, hv, hm16, hyes, hno, h0e, hne⟩ := load
    have hlen := C.H.keep.len
    have T14 : Tmp h0 g g4 := T13.trans T4 (by omega)
    have wc4 : cellsAt g4 wb = some (wm.cells wv) := T14.cells C.wl C.wc
    have Sw4 := C.S.tmp C.At T14 (by omega)
    obtain ⟨H5, T5⟩ := H4.psh (.cells (m.cells v))
    have hv1 : (m.cells v).all (·.one) = true := by
      show (AVal.one (.lit (.int .i64 m.stage)) && (AVal.one (.lit (.int .i64 m.pass)) && (v.one && true))) = true
      rw [S4.one]; rfl
    have x5 : stn 3 (psh g4 (.cells (zeroM.cells nilV))) (.ptr g4.length 0) (m.cells v) = some (psh g4 (.cells (m.cells v))) := stn_new hv1 rfl rfl
    have cm : cellsAt (psh g4 (.cells (m.cells v))) g4.length = some (m.cells v) := cellsAt_new _ _
    have G5 : Grow g4 (psh g4 (.cells (m.cells v))) := (Grow.refl g4).psh _
    have wc5 := G5.cells wc4
    have S5 := S4.grow G5
    have Sw5 := Sw4.grow G5
    have hwl : wb < g4.length := cellsAt_lt wc4
    generalize hg5 : psh g4 (.cells (m.cells v)) = g5 at H5 T5 x5 cm wc5 S5 Sw5 G5
    have l5 : g5.length = g4.length + 1 := by rw [← hg5, psh_length]
    have hwl3 : wb < g3.length := cellsAt_lt (T13.cells C.wl C.wc)
    -- the next round
    have next : Tru (S_chainmanlaw20_CommitWhole_6 l0 (.ptr d 0) wb (i : Int) g4.length is false g5) := by
      have lw : ldn 3 g5 (.ptr g4.length 0) = some (m.cells v) := ldn_of (n := 3) (off := 0) cm (by exact Nat.le_refl _)
      obtain ⟨g6, x6, H6, c6, l6, o6⟩ := H5.tstn (f := wb) (n := 3) (vs := m.cells v) C.wl wc5 hv1 rfl rfl
      rw [S_chainmanlaw20_CommitWhole_6_eq, cond_false, lw, Option.bind_some, x6, Option.bind_some, wrap_i64 (by omega) (by omega)]
      refine ih (i + 1) g6 D4 l3 is m v (by omega) ⟨H6, o3, C.wl, c6, ?_, fun b hb => by have := hv b hb; omega, hm16, hyes, hno⟩
      refine S5.keep (X := [wb]) ⟨by omega, fun c hc hx => o6 c (by simpa using hx)⟩ fun b off len ev => ?_
      have := hv b ⟨_, _, _, ev⟩
      simp only [List.mem_singleton]
      omega
    have last : ∀ old fresh : Bool, (e = 0 → fresh = true) → (e ≠ 0 → old = true) → Tru (S_chainmanlaw20_CommitWhole_3 l0 (.ptr d 0) wb (i : Int) e g4.length is old fresh g5) := by
      intro old fresh hf ho
      have e5 : (e ≠ 0 → old = true) → Tru (S_chainmanlaw20_CommitWhole_5 l0 (.ptr d 0) wb (i : Int) e g4.length is old false g5) := fun ho => by
        rw [S_chainmanlaw20_CommitWhole_5_eq]
        refine Tru.cF rfl ?_
        by_cases h1 : e = 1
        · refine Tru.cT (decide_eq_true h1) ?_
          rw [ho (by omega)]; exact next
        · exact Tru.cF (decide_eq_false h1) next
      have e4 : Tru (S_chainmanlaw20_CommitWhole_4 l0 (.ptr d 0) wb (i : Int) e g4.length is old fresh false g5) := by
        rw [S_chainmanlaw20_CommitWhole_4_eq]
        refine Tru.cF rfl ?_
        cases old with
        | true => exact Tru.cF rfl (e5 ho)
        | false =>
          refine Tru.cT rfl ?_
          have h0 : e = 0 := Classical.byContradiction fun h => by have := ho h; cases this
          rw [hf h0]; exact e5 ho
      rw [S_chainmanlaw20_CommitWhole_3_eq]
      by_cases h0 : e = 0
      · refine Tru.cT (decide_eq_true h0) ?_
        rw [hf h0] at e4 ⊢; exact e4
      · exact Tru.cF (decide_eq_false h0) e4
    have mid : ∀ old : Bool, (e ≠ 0 → old = true) → Tru (S_chainmanlaw20_CommitWhole_1 l0 (.ptr d 0) wb (i : Int) e g4.length is old g5) := by
      intro old ho
      have l3' := last old
      rw [S_chainmanlaw20_CommitWhole_1_eq]
      cases his : is with
      | false =>
        rw [his] at l3'
        exact Tru.cF rfl (l3' false (fun h => by have := (h0e h).1; rw [his] at this; cases this) ho)
      | true =>
        rw [his] at l3'
        refine Tru.cT rfl (Tru.bd e1 (Tru.bd f0 (Tru.bd (rd g5).1 (Tru.bd (rright_run (ok.S g5) ok.n) (Tru.bd rfl ?_)))))
        cases hb : manB t.m with
        | false =>
          refine Tru.cF rfl (l3' false (fun h => ?_) ho)
          have := (hyes his).1
          rw [(h0e h).2, hb] at this; cases this
        | true =>
          obtain ⟨r, r1, r2⟩ := same_run (m := m) (m' := t.m) S5 (ok.S g5) hm16
          refine Tru.cT rfl (Tru.bd (ldn_of (n := 3) (off := 0) cm (by exact Nat.le_refl _)) (Tru.bd e1 (Tru.bd f0 (Tru.bd (rd g5).1 (Tru.bd r1 (Tru.bd rfl ?_))))))
          exact l3' r (fun h => r2 (h0e h).2) ho
    rw [S_chainmanlaw20_CommitWhole_0_eq]
    refine Tru.bd (hT g).len (Tru.cT (decide_eq_true (by omega)) (Tru.bd e1 (Tru.bd f3 (Tru.bd (rd g).2.1 (Tru.bd rfl (Tru.bd x1 (Tru.bd e1 (Tru.bd f0 (Tru.bd (rd g1).1 (Tru.bd x2 (Tru.bd rfl (Tru.bd e1 (Tru.bd f4 (Tru.bd (rd g2).2.2 (Tru.bd x3 (Tru.bd x4 (Tru.bd rfl (Tru.bd rfl (Tru.bd rfl (Tru.bd rfl (Tru.bd rfl (Tru.bd rfl (Tru.bd x5 (Tru.cF rfl ?_))))))))))))))))))))))))
    by_cases hs : is = some6
    · refine Tru.cT (decide_eq_true hs) (Tru.bd (ldn_of (n := 3) (off := 0) cm (by exact Nat.le_refl _)) (Tru.bd (ldn_of (n := 3) (off := 0) wc5 (by exact Nat.le_refl _)) ?_))
      obtain ⟨r, r1, r2⟩ := same_run (m := m) (m' := wm) S5 Sw5 hm16
      exact Tru.bd r1 (Tru.bd rfl (mid r fun h => r2 (hne h).2))
    · exact Tru.cF (decide_eq_false hs) (mid false fun h => absurd (hne h).1 hs)
theorem law_run (hT : ∀ g, Sl 5 g l0 ts.length (ts.flatMap TryR.cells)) (hO : ∀ t ∈ ts, t.Ok) (h : AHeap) : Tru (S_chainmanlaw20_CommitWhole l0 h) := by
  obtain ⟨r, r1, r2⟩ := few_run hT hO h
  rw [S_chainmanlaw20_CommitWhole_eq]
  refine Tru.bd r1 (Tru.bd rfl ?_)
  cases r with
  | false => exact Tru.cT rfl .here
  | true =>
    obtain ⟨h1, x1, A1, K1, l1⟩ := new_run h (room := 1048576) (by omega) (by omega)
    refine Tru.cF rfl (Tru.bd x1 (Tru.bd rfl (Tru.bd rfl (Tru.bd rfl (Tru.cF rfl (Tru.bd (stn_new (vs := zeroM.cells nilV) rfl rfl rfl) ?_))))))
    have H1 := A1.dh
    obtain ⟨H2, T2⟩ := H1.psh (.cells (zeroM.cells nilV))
    exact law_loop hT hO (r2 rfl) ts.length 0 _ (newDsk 1048576) [] false zeroM nilV (by omega) ⟨H2, LOk.nil, Nat.le_refl _, cellsAt_new _ _, Sl.nil 4 _, fun b hb => (by obtain ⟨_, _, _, hb⟩ := hb; cases hb), by decide, fun h => (by cases h), fun _ => ⟨rfl, rfl⟩⟩
end law
theorem fits_files {H : Type} {d : DataW H} (hd : Fits (.slice (.strct [.str, .int .i64, .int .i64, .int .u32])) d) :
    ∃ fs : List MFile, (∀ h, Sl 4 h ((absD d).headD .any) fs.length (filesW fs)) ∧ ∀ f ∈ fs, f.name.size ≤ 9223372036854775807 ∧ 0 ≤ f.sum ∧ f.sum < 4294967296 := by
  obtain ⟨l, h1, h2, _⟩ := slice_fits (α := MFile) (k := 4) (cells := MFile.cells) (Q := fun f => f.name.size ≤ 9223372036854775807 ∧ 0 ≤ f.sum ∧ f.sum < 4294967296) (fun _ => rfl) (fun x hx => by
    simp only [Fits, FitsL] at hx
    obtain ⟨_, rfl, _, _, rfl, ⟨n, rfl, hn⟩, _, _, rfl, ⟨s, rfl, _, _⟩, _, _, rfl, ⟨c, rfl, _, _⟩, _, _, rfl, ⟨u, rfl, u1, u2⟩, rfl⟩ := hx
    refine ⟨⟨⟨n.toArray⟩, s, c, u⟩, rfl, str_len hn, ?_⟩
    have e1 : IntKind.u32.min = 0 := by decide
    have e2 : IntKind.u32.max = 4294967295 := by decide
    rw [e1] at u1; rw [e2] at u2
    exact ⟨u1, by show u < _; omega⟩) hd []
  exact ⟨l, fun h => h1.everywhere h, h2⟩
theorem commitWhole {H : Type} {d0 : DataW H} (f0 : Fits (.slice (.strct [.strct [.int .i64, .int .i64, .slice (.strct [.str, .int .i64, .int .i64, .int .u32])], .int .i64, .slice (.int .i64)])) d0) :
    ACalls Try.prog 3 [(absD d0).headD .any] [] fun e h' => e = .ret (.lit (.bool true)) ∧ True := by
  obtain ⟨l, h1, h2, _⟩ := slice_fits (α := TryR) (k := 5) (cells := TryR.cells) (Q := TryR.Ok) (fun _ => rfl) (fun x hx => by
    simp only [Fits, FitsL] at hx
    obtain ⟨_, rfl, _, _, rfl, ⟨_, rfl, _, _, rfl, ⟨s, rfl, _, _⟩, _, _, rfl, ⟨p, rfl, _, _⟩, df, _, rfl, ff, rfl⟩, _, _, rfl, ⟨u, rfl, _, _⟩, dk, _, rfl, fk, rfl⟩ := hx
    obtain ⟨fs, a1, a2⟩ := fits_files (d := df) (by simp only [Fits, FitsL]; exact ff)
    obtain ⟨ki, b1⟩ := fits_ints (d := dk) (by simp only [Fits]; exact fk) []
    obtain ⟨kf, c1, _⟩ := fits_slice (e := .strct [.str, .int .i64, .int .i64, .int .u32]) (d := df) (by simp only [Fits, FitsL]; exact ff)
    obtain ⟨kk, c2, _⟩ := fits_slice (e := .int .i64) (d := dk) (by simp only [Fits]; exact fk)
    refine ⟨⟨⟨s, p, fs⟩, kf, u, kk, ki⟩, ?_, ⟨fun h => ?_, fun h => ?_, fun f hf => (a2 f hf).1, fun f hf => (a2 f hf).2⟩⟩
    · simp only [absD, absDs, c1, c2]; rfl
    · have := a1 h; rw [c1] at this; exact this
    · have := b1.everywhere h; rw [c2] at this; exact this) f0 []
  obtain ⟨h', hx⟩ := law_run (fun g => h1.everywhere g) h2 []
  exact S_chainmanlaw20_CommitWhole_ends hx fun hok _ => ends_same (L := h') hok rfl ⟨rfl, trivial⟩
end Go.Proofs.Yteclkehnppeobaa.AL
/- Facts on the types of the program, each asked of the loaded table. -/
namespace Go.Proofs.Yteclkehnppeobaa.AL
set_option linter.unusedVariables false
set_option linter.unusedSimpArgs false
open Go
theorem ts3 : tySize Try.prog 3 = some 1 := by kernel_rfl
theorem tb3 : tyBytes Try.prog 3 = some 8 := by kernel_rfl
theorem tg3 : tyAgg Try.prog 3 = some false := by kernel_rfl
theorem tz3 : tyZero Try.prog 3 = some (.lit (.int .i64 0)) := by kernel_rfl
theorem ta3 : tyArray Try.prog 3 = none := by kernel_rfl
theorem tl3 : tySlice Try.prog 3 = none := by kernel_rfl
theorem ti3 : tyInt Try.prog 3 = some .i64 := by kernel_rfl
theorem tt3 : tyString Try.prog 3 = false := by kernel_rfl
theorem tq3 : tyBool Try.prog 3 = false := by kernel_rfl
theorem tn3 : tyNil Try.prog 3 = none := by kernel_rfl
theorem tp3 : tyPlaces Try.prog 3 = none := by kernel_rfl
theorem tu3 : Try.prog.underlying 3 = some (.int .i64) := by kernel_rfl
theorem ts4 : tySize Try.prog 4 = some 1 := by kernel_rfl
theorem tb4 : tyBytes Try.prog 4 = some 1 := by kernel_rfl
theorem tg4 : tyAgg Try.prog 4 = some false := by kernel_rfl
theorem tz4 : tyZero Try.prog 4 = some (.lit (.bool false)) := by kernel_rfl
theorem ta4 : tyArray Try.prog 4 = none := by kernel_rfl
theorem tl4 : tySlice Try.prog 4 = none := by kernel_rfl
theorem ti4 : tyInt Try.prog 4 = none := by kernel_rfl
theorem tt4 : tyString Try.prog 4 = false := by kernel_rfl
theorem tq4 : tyBool Try.prog 4 = true := by kernel_rfl
theorem tn4 : tyNil Try.prog 4 = none := by kernel_rfl
theorem tp4 : tyPlaces Try.prog 4 = none := by kernel_rfl
theorem tu4 : Try.prog.underlying 4 = some .bool := by kernel_rfl
theorem ts5 : tySize Try.prog 5 = some 1 := by kernel_rfl
theorem tb5 : tyBytes Try.prog 5 = some 1 := by kernel_rfl
theorem tg5 : tyAgg Try.prog 5 = some false := by kernel_rfl
theorem tz5 : tyZero Try.prog 5 = some (.lit (.int .u8 0)) := by kernel_rfl
theorem ta5 : tyArray Try.prog 5 = none := by kernel_rfl
theorem tl5 : tySlice Try.prog 5 = none := by kernel_rfl
theorem ti5 : tyInt Try.prog 5 = some .u8 := by kernel_rfl
theorem tt5 : tyString Try.prog 5 = false := by kernel_rfl
theorem tq5 : tyBool Try.prog 5 = false := by kernel_rfl
theorem tn5 : tyNil Try.prog 5 = none := by kernel_rfl
theorem tp5 : tyPlaces Try.prog 5 = none := by kernel_rfl
theorem tu5 : Try.prog.underlying 5 = some (.int .u8) := by kernel_rfl
theorem ts9 : tySize Try.prog 9 = some 1 := by kernel_rfl
theorem tb9 : tyBytes Try.prog 9 = some 16 := by kernel_rfl
theorem tg9 : tyAgg Try.prog 9 = some false := by kernel_rfl
theorem tz9 : tyZero Try.prog 9 = some (.lit (.string { data := #[] })) := by kernel_rfl
theorem ta9 : tyArray Try.prog 9 = none := by kernel_rfl
theorem tl9 : tySlice Try.prog 9 = none := by kernel_rfl
theorem ti9 : tyInt Try.prog 9 = none := by kernel_rfl
theorem tt9 : tyString Try.prog 9 = true := by kernel_rfl
theorem tq9 : tyBool Try.prog 9 = false := by kernel_rfl
theorem tn9 : tyNil Try.prog 9 = none := by kernel_rfl
theorem tp9 : tyPlaces Try.prog 9 = none := by kernel_rfl
theorem tu9 : Try.prog.underlying 9 = some .string := by kernel_rfl
theorem ts21 : tySize Try.prog 21 = some 1 := by kernel_rfl
theorem tb21 : tyBytes Try.prog 21 = some 4 := by kernel_rfl
theorem tg21 : tyAgg Try.prog 21 = some false := by kernel_rfl
theorem tz21 : tyZero Try.prog 21 = some (.lit (.int .i32 0)) := by kernel_rfl
theorem ta21 : tyArray Try.prog 21 = none := by kernel_rfl
theorem tl21 : tySlice Try.prog 21 = none := by kernel_rfl
theorem ti21 : tyInt Try.prog 21 = some .i32 := by kernel_rfl
theorem tt21 : tyString Try.prog 21 = false := by kernel_rfl
theorem tq21 : tyBool Try.prog 21 = false := by kernel_rfl
theorem tn21 : tyNil Try.prog 21 = none := by kernel_rfl
theorem tp21 : tyPlaces Try.prog 21 = none := by kernel_rfl
theorem tu21 : Try.prog.underlying 21 = some (.int .i32) := by kernel_rfl
theorem ts22 : tySize Try.prog 22 = some 1 := by kernel_rfl
theorem tb22 : tyBytes Try.prog 22 = some 24 := by kernel_rfl
theorem tg22 : tyAgg Try.prog 22 = some false := by kernel_rfl
theorem tz22 : tyZero Try.prog 22 = some (.lit (.slice none 0 0)) := by kernel_rfl
theorem ta22 : tyArray Try.prog 22 = none := by kernel_rfl
theorem tl22 : tySlice Try.prog 22 = some 35 := by kernel_rfl
theorem ti22 : tyInt Try.prog 22 = none := by kernel_rfl
theorem tt22 : tyString Try.prog 22 = false := by kernel_rfl
theorem tq22 : tyBool Try.prog 22 = false := by kernel_rfl
theorem tn22 : tyNil Try.prog 22 = some .slice := by kernel_rfl
theorem tp22 : tyPlaces Try.prog 22 = none := by kernel_rfl
theorem tu22 : Try.prog.underlying 22 = some (.slice 35) := by kernel_rfl
theorem ts25 : tySize Try.prog 25 = some 1 := by kernel_rfl
theorem tb25 : tyBytes Try.prog 25 = some 8 := by kernel_rfl
theorem tg25 : tyAgg Try.prog 25 = some false := by kernel_rfl
theorem tz25 : tyZero Try.prog 25 = some (.lit (.pointer none)) := by kernel_rfl
theorem ta25 : tyArray Try.prog 25 = none := by kernel_rfl
theorem tl25 : tySlice Try.prog 25 = none := by kernel_rfl
theorem ti25 : tyInt Try.prog 25 = none := by kernel_rfl
theorem tt25 : tyString Try.prog 25 = false := by kernel_rfl
theorem tq25 : tyBool Try.prog 25 = false := by kernel_rfl
theorem tn25 : tyNil Try.prog 25 = some .ptr := by kernel_rfl
theorem tp25 : tyPlaces Try.prog 25 = none := by kernel_rfl
theorem tu25 : Try.prog.underlying 25 = some (.pointer 73) := by kernel_rfl
theorem ts26 : tySize Try.prog 26 = some 1 := by kernel_rfl
theorem tb26 : tyBytes Try.prog 26 = some 8 := by kernel_rfl
theorem tg26 : tyAgg Try.prog 26 = some false := by kernel_rfl
theorem tz26 : tyZero Try.prog 26 = some (.lit (.int .i64 0)) := by kernel_rfl
theorem ta26 : tyArray Try.prog 26 = none := by kernel_rfl
theorem tl26 : tySlice Try.prog 26 = none := by kernel_rfl
theorem ti26 : tyInt Try.prog 26 = some .i64 := by kernel_rfl
theorem tt26 : tyString Try.prog 26 = false := by kernel_rfl
theorem tq26 : tyBool Try.prog 26 = false := by kernel_rfl
theorem tn26 : tyNil Try.prog 26 = none := by kernel_rfl
theorem tp26 : tyPlaces Try.prog 26 = none := by kernel_rfl
theorem tu26 : Try.prog.underlying 26 = some (.int .i64) := by kernel_rfl
theorem ts29 : tySize Try.prog 29 = some 1 := by kernel_rfl
theorem tb29 : tyBytes Try.prog 29 = some 24 := by kernel_rfl
theorem tg29 : tyAgg Try.prog 29 = some false := by kernel_rfl
theorem tz29 : tyZero Try.prog 29 = some (.lit (.slice none 0 0)) := by kernel_rfl
theorem ta29 : tyArray Try.prog 29 = none := by kernel_rfl
theorem tl29 : tySlice Try.prog 29 = some 85 := by kernel_rfl
theorem ti29 : tyInt Try.prog 29 = none := by kernel_rfl
theorem tt29 : tyString Try.prog 29 = false := by kernel_rfl
theorem tq29 : tyBool Try.prog 29 = false := by kernel_rfl
theorem tn29 : tyNil Try.prog 29 = some .slice := by kernel_rfl
theorem tp29 : tyPlaces Try.prog 29 = none := by kernel_rfl
theorem tu29 : Try.prog.underlying 29 = some (.slice 85) := by kernel_rfl
theorem ts31 : tySize Try.prog 31 = some 3 := by kernel_rfl
theorem tb31 : tyBytes Try.prog 31 = some 40 := by kernel_rfl
theorem tg31 : tyAgg Try.prog 31 = some true := by kernel_rfl
theorem tz31 : tyZero Try.prog 31 = some (.agg [.lit (.int .i64 0), .lit (.int .i64 0), .lit (.slice none 0 0)]) := by kernel_rfl
theorem ta31 : tyArray Try.prog 31 = none := by kernel_rfl
theorem tl31 : tySlice Try.prog 31 = none := by kernel_rfl
theorem ti31 : tyInt Try.prog 31 = none := by kernel_rfl
theorem tt31 : tyString Try.prog 31 = false := by kernel_rfl
theorem tq31 : tyBool Try.prog 31 = false := by kernel_rfl
theorem tn31 : tyNil Try.prog 31 = none := by kernel_rfl
theorem tf31_0 : tyField Try.prog 31 0 = some (0, 3) := by kernel_rfl
theorem tf31_1 : tyField Try.prog 31 1 = some (1, 3) := by kernel_rfl
theorem tf31_2 : tyField Try.prog 31 2 = some (2, 29) := by kernel_rfl
theorem tp31 : tyPlaces Try.prog 31 = some [(0, 1), (1, 1), (2, 1)] := by kernel_rfl
theorem ts33 : tySize Try.prog 33 = some 1 := by kernel_rfl
theorem tb33 : tyBytes Try.prog 33 = some 24 := by kernel_rfl
theorem tg33 : tyAgg Try.prog 33 = some false := by kernel_rfl
theorem tz33 : tyZero Try.prog 33 = some (.lit (.slice none 0 0)) := by kernel_rfl
theorem ta33 : tyArray Try.prog 33 = none := by kernel_rfl
theorem tl33 : tySlice Try.prog 33 = some 3 := by kernel_rfl
theorem ti33 : tyInt Try.prog 33 = none := by kernel_rfl
theorem tt33 : tyString Try.prog 33 = false := by kernel_rfl
theorem tq33 : tyBool Try.prog 33 = false := by kernel_rfl
theorem tn33 : tyNil Try.prog 33 = some .slice := by kernel_rfl
theorem tp33 : tyPlaces Try.prog 33 = none := by kernel_rfl
theorem tu33 : Try.prog.underlying 33 = some (.slice 3) := by kernel_rfl
theorem ts35 : tySize Try.prog 35 = some 5 := by kernel_rfl
theorem tb35 : tyBytes Try.prog 35 = some 72 := by kernel_rfl
theorem tg35 : tyAgg Try.prog 35 = some true := by kernel_rfl
theorem tz35 : tyZero Try.prog 35 = some (.agg [.lit (.int .i64 0), .lit (.int .i64 0), .lit (.slice none 0 0), .lit (.int .i64 0), .lit (.slice none 0 0)]) := by kernel_rfl
theorem ta35 : tyArray Try.prog 35 = none := by kernel_rfl
theorem tl35 : tySlice Try.prog 35 = none := by kernel_rfl
theorem ti35 : tyInt Try.prog 35 = none := by kernel_rfl
theorem tt35 : tyString Try.prog 35 = false := by kernel_rfl
theorem tq35 : tyBool Try.prog 35 = false := by kernel_rfl
theorem tn35 : tyNil Try.prog 35 = none := by kernel_rfl
theorem tf35_0 : tyField Try.prog 35 0 = some (0, 31) := by kernel_rfl
theorem tf35_1 : tyField Try.prog 35 1 = some (3, 3) := by kernel_rfl
theorem tf35_2 : tyField Try.prog 35 2 = some (4, 33) := by kernel_rfl
theorem tp35 : tyPlaces Try.prog 35 = some [(0, 3), (3, 1), (4, 1)] := by kernel_rfl
theorem ts42 : tySize Try.prog 42 = some 1 := by kernel_rfl
theorem tb42 : tyBytes Try.prog 42 = some 24 := by kernel_rfl
theorem tg42 : tyAgg Try.prog 42 = some false := by kernel_rfl
theorem tz42 : tyZero Try.prog 42 = some (.lit (.slice none 0 0)) := by kernel_rfl
theorem ta42 : tyArray Try.prog 42 = none := by kernel_rfl
theorem tl42 : tySlice Try.prog 42 = some 9 := by kernel_rfl
theorem ti42 : tyInt Try.prog 42 = none := by kernel_rfl
theorem tt42 : tyString Try.prog 42 = false := by kernel_rfl
theorem tq42 : tyBool Try.prog 42 = false := by kernel_rfl
theorem tn42 : tyNil Try.prog 42 = some .slice := by kernel_rfl
theorem tp42 : tyPlaces Try.prog 42 = none := by kernel_rfl
theorem tu42 : Try.prog.underlying 42 = some (.slice 9) := by kernel_rfl
theorem ts44 : tySize Try.prog 44 = some 1 := by kernel_rfl
theorem tb44 : tyBytes Try.prog 44 = some 8 := by kernel_rfl
theorem tg44 : tyAgg Try.prog 44 = some false := by kernel_rfl
theorem tz44 : tyZero Try.prog 44 = some (.lit (.pointer none)) := by kernel_rfl
theorem ta44 : tyArray Try.prog 44 = none := by kernel_rfl
theorem tl44 : tySlice Try.prog 44 = none := by kernel_rfl
theorem ti44 : tyInt Try.prog 44 = none := by kernel_rfl
theorem tt44 : tyString Try.prog 44 = false := by kernel_rfl
theorem tq44 : tyBool Try.prog 44 = false := by kernel_rfl
theorem tn44 : tyNil Try.prog 44 = some .ptr := by kernel_rfl
theorem tp44 : tyPlaces Try.prog 44 = none := by kernel_rfl
theorem tu44 : Try.prog.underlying 44 = some (.pointer 93) := by kernel_rfl
theorem ts46 : tySize Try.prog 46 = some 1 := by kernel_rfl
theorem tb46 : tyBytes Try.prog 46 = some 8 := by kernel_rfl
theorem tg46 : tyAgg Try.prog 46 = some false := by kernel_rfl
theorem tz46 : tyZero Try.prog 46 = some (.lit (.pointer none)) := by kernel_rfl
theorem ta46 : tyArray Try.prog 46 = none := by kernel_rfl
theorem tl46 : tySlice Try.prog 46 = none := by kernel_rfl
theorem ti46 : tyInt Try.prog 46 = none := by kernel_rfl
theorem tt46 : tyString Try.prog 46 = false := by kernel_rfl
theorem tq46 : tyBool Try.prog 46 = false := by kernel_rfl
theorem tn46 : tyNil Try.prog 46 = some .ptr := by kernel_rfl
theorem tp46 : tyPlaces Try.prog 46 = none := by kernel_rfl
theorem tu46 : Try.prog.underlying 46 = some (.pointer 90) := by kernel_rfl
theorem ts50 : tySize Try.prog 50 = some 1 := by kernel_rfl
theorem tb50 : tyBytes Try.prog 50 = some 4 := by kernel_rfl
theorem tg50 : tyAgg Try.prog 50 = some false := by kernel_rfl
theorem tz50 : tyZero Try.prog 50 = some (.lit (.int .u32 0)) := by kernel_rfl
theorem ta50 : tyArray Try.prog 50 = none := by kernel_rfl
theorem tl50 : tySlice Try.prog 50 = none := by kernel_rfl
theorem ti50 : tyInt Try.prog 50 = some .u32 := by kernel_rfl
theorem tt50 : tyString Try.prog 50 = false := by kernel_rfl
theorem tq50 : tyBool Try.prog 50 = false := by kernel_rfl
theorem tn50 : tyNil Try.prog 50 = none := by kernel_rfl
theorem tp50 : tyPlaces Try.prog 50 = none := by kernel_rfl
theorem tu50 : Try.prog.underlying 50 = some (.int .u32) := by kernel_rfl
theorem ts52 : tySize Try.prog 52 = some 2 := by kernel_rfl
theorem tb52 : tyBytes Try.prog 52 = some 16 := by kernel_rfl
theorem tg52 : tyAgg Try.prog 52 = some true := by kernel_rfl
theorem tz52 : tyZero Try.prog 52 = some (.agg [.lit (.int .i64 0), .lit (.int .u32 0)]) := by kernel_rfl
theorem ta52 : tyArray Try.prog 52 = none := by kernel_rfl
theorem tl52 : tySlice Try.prog 52 = none := by kernel_rfl
theorem ti52 : tyInt Try.prog 52 = none := by kernel_rfl
theorem tt52 : tyString Try.prog 52 = false := by kernel_rfl
theorem tq52 : tyBool Try.prog 52 = false := by kernel_rfl
theorem tn52 : tyNil Try.prog 52 = none := by kernel_rfl
theorem tf52_0 : tyField Try.prog 52 0 = some (0, 3) := by kernel_rfl
theorem tf52_1 : tyField Try.prog 52 1 = some (1, 50) := by kernel_rfl
theorem tp52 : tyPlaces Try.prog 52 = some [(0, 1), (1, 1)] := by kernel_rfl
theorem tv52 : leaves Try.prog 20 52 = some [.int, .int] := by kernel_rfl
theorem te52 : Try.prog.eqGuardType Try.prog.depth 52 = false := by kernel_rfl
theorem ts64 : tySize Try.prog 64 = some 4 := by kernel_rfl
theorem tb64 : tyBytes Try.prog 64 = some 96 := by kernel_rfl
theorem tg64 : tyAgg Try.prog 64 = some true := by kernel_rfl
theorem tz64 : tyZero Try.prog 64 = some (.agg [.lit (.slice none 0 0), .lit (.slice none 0 0), .lit (.slice none 0 0), .lit (.slice none 0 0)]) := by kernel_rfl
theorem ta64 : tyArray Try.prog 64 = some (4, 33) := by kernel_rfl
theorem tl64 : tySlice Try.prog 64 = none := by kernel_rfl
theorem ti64 : tyInt Try.prog 64 = none := by kernel_rfl
theorem tt64 : tyString Try.prog 64 = false := by kernel_rfl
theorem tq64 : tyBool Try.prog 64 = false := by kernel_rfl
theorem tn64 : tyNil Try.prog 64 = none := by kernel_rfl
theorem tp64 : tyPlaces Try.prog 64 = none := by kernel_rfl
theorem tu64 : Try.prog.underlying 64 = some (.array 4 33) := by kernel_rfl
theorem ts66 : tySize Try.prog 66 = some 1 := by kernel_rfl
theorem tb66 : tyBytes Try.prog 66 = some 24 := by kernel_rfl
theorem tg66 : tyAgg Try.prog 66 = some false := by kernel_rfl
theorem tz66 : tyZero Try.prog 66 = some (.lit (.slice none 0 0)) := by kernel_rfl
theorem ta66 : tyArray Try.prog 66 = none := by kernel_rfl
theorem tl66 : tySlice Try.prog 66 = some 69 := by kernel_rfl
theorem ti66 : tyInt Try.prog 66 = none := by kernel_rfl
theorem tt66 : tyString Try.prog 66 = false := by kernel_rfl
theorem tq66 : tyBool Try.prog 66 = false := by kernel_rfl
theorem tn66 : tyNil Try.prog 66 = some .slice := by kernel_rfl
theorem tp66 : tyPlaces Try.prog 66 = none := by kernel_rfl
theorem tu66 : Try.prog.underlying 66 = some (.slice 69) := by kernel_rfl
theorem ts69 : tySize Try.prog 69 = some 2 := by kernel_rfl
theorem tb69 : tyBytes Try.prog 69 = some 16 := by kernel_rfl
theorem tg69 : tyAgg Try.prog 69 = some true := by kernel_rfl
theorem tz69 : tyZero Try.prog 69 = some (.agg [.lit (.int .i64 0), .lit (.int .i64 0)]) := by kernel_rfl
theorem ta69 : tyArray Try.prog 69 = none := by kernel_rfl
theorem tl69 : tySlice Try.prog 69 = none := by kernel_rfl
theorem ti69 : tyInt Try.prog 69 = none := by kernel_rfl
theorem tt69 : tyString Try.prog 69 = false := by kernel_rfl
theorem tq69 : tyBool Try.prog 69 = false := by kernel_rfl
theorem tn69 : tyNil Try.prog 69 = none := by kernel_rfl
theorem tf69_0 : tyField Try.prog 69 0 = some (0, 3) := by kernel_rfl
theorem tf69_1 : tyField Try.prog 69 1 = some (1, 3) := by kernel_rfl
theorem tp69 : tyPlaces Try.prog 69 = some [(0, 1), (1, 1)] := by kernel_rfl
theorem tv69 : leaves Try.prog 20 69 = some [.int, .int] := by kernel_rfl
theorem te69 : Try.prog.eqGuardType Try.prog.depth 69 = false := by kernel_rfl
theorem ts71 : tySize Try.prog 71 = some 1 := by kernel_rfl
theorem tb71 : tyBytes Try.prog 71 = some 8 := by kernel_rfl
theorem tg71 : tyAgg Try.prog 71 = some false := by kernel_rfl
theorem tz71 : tyZero Try.prog 71 = some (.lit (.map none)) := by kernel_rfl
theorem ta71 : tyArray Try.prog 71 = none := by kernel_rfl
theorem tl71 : tySlice Try.prog 71 = none := by kernel_rfl
theorem ti71 : tyInt Try.prog 71 = none := by kernel_rfl
theorem tt71 : tyString Try.prog 71 = false := by kernel_rfl
theorem tq71 : tyBool Try.prog 71 = false := by kernel_rfl
theorem tn71 : tyNil Try.prog 71 = some .map := by kernel_rfl
theorem tp71 : tyPlaces Try.prog 71 = none := by kernel_rfl
theorem ts73 : tySize Try.prog 73 = some 7 := by kernel_rfl
theorem tb73 : tyBytes Try.prog 73 = some 56 := by kernel_rfl
theorem tg73 : tyAgg Try.prog 73 = some true := by kernel_rfl
theorem tz73 : tyZero Try.prog 73 = some (.agg [.lit (.bool false), .lit (.int .i64 0), .lit (.int .i64 0), .lit (.map none), .lit (.int .i64 0), .lit (.bool false), .lit (.int .i64 0)]) := by kernel_rfl
theorem ta73 : tyArray Try.prog 73 = none := by kernel_rfl
theorem tl73 : tySlice Try.prog 73 = none := by kernel_rfl
theorem ti73 : tyInt Try.prog 73 = none := by kernel_rfl
theorem tt73 : tyString Try.prog 73 = false := by kernel_rfl
theorem tq73 : tyBool Try.prog 73 = false := by kernel_rfl
theorem tn73 : tyNil Try.prog 73 = none := by kernel_rfl
theorem tf73_0 : tyField Try.prog 73 0 = some (0, 4) := by kernel_rfl
theorem tf73_1 : tyField Try.prog 73 1 = some (1, 3) := by kernel_rfl
theorem tf73_2 : tyField Try.prog 73 2 = some (2, 3) := by kernel_rfl
theorem tf73_3 : tyField Try.prog 73 3 = some (3, 71) := by kernel_rfl
theorem tf73_4 : tyField Try.prog 73 4 = some (4, 3) := by kernel_rfl
theorem tf73_5 : tyField Try.prog 73 5 = some (5, 4) := by kernel_rfl
theorem tf73_6 : tyField Try.prog 73 6 = some (6, 3) := by kernel_rfl
theorem tp73 : tyPlaces Try.prog 73 = some [(0, 1), (1, 1), (2, 1), (3, 1), (4, 1), (5, 1), (6, 1)] := by kernel_rfl
theorem ts76 : tySize Try.prog 76 = some 1 := by kernel_rfl
theorem tb76 : tyBytes Try.prog 76 = some 8 := by kernel_rfl
theorem tg76 : tyAgg Try.prog 76 = some false := by kernel_rfl
theorem tz76 : tyZero Try.prog 76 = some (.lit (.nilFunc)) := by kernel_rfl
theorem ta76 : tyArray Try.prog 76 = none := by kernel_rfl
theorem tl76 : tySlice Try.prog 76 = none := by kernel_rfl
theorem ti76 : tyInt Try.prog 76 = none := by kernel_rfl
theorem tt76 : tyString Try.prog 76 = false := by kernel_rfl
theorem tq76 : tyBool Try.prog 76 = false := by kernel_rfl
theorem tn76 : tyNil Try.prog 76 = some .func := by kernel_rfl
theorem tp76 : tyPlaces Try.prog 76 = none := by kernel_rfl
theorem ts78 : tySize Try.prog 78 = some 1 := by kernel_rfl
theorem tb78 : tyBytes Try.prog 78 = some 24 := by kernel_rfl
theorem tg78 : tyAgg Try.prog 78 = some false := by kernel_rfl
theorem tz78 : tyZero Try.prog 78 = some (.lit (.slice none 0 0)) := by kernel_rfl
theorem ta78 : tyArray Try.prog 78 = none := by kernel_rfl
theorem tl78 : tySlice Try.prog 78 = some 76 := by kernel_rfl
theorem ti78 : tyInt Try.prog 78 = none := by kernel_rfl
theorem tt78 : tyString Try.prog 78 = false := by kernel_rfl
theorem tq78 : tyBool Try.prog 78 = false := by kernel_rfl
theorem tn78 : tyNil Try.prog 78 = some .slice := by kernel_rfl
theorem tp78 : tyPlaces Try.prog 78 = none := by kernel_rfl
theorem tu78 : Try.prog.underlying 78 = some (.slice 76) := by kernel_rfl
theorem ts81 : tySize Try.prog 81 = some 2 := by kernel_rfl
theorem tb81 : tyBytes Try.prog 81 = some 24 := by kernel_rfl
theorem tg81 : tyAgg Try.prog 81 = some true := by kernel_rfl
theorem tz81 : tyZero Try.prog 81 = some (.agg [.lit (.string { data := #[] }), .lit (.int .i64 0)]) := by kernel_rfl
theorem ta81 : tyArray Try.prog 81 = none := by kernel_rfl
theorem tl81 : tySlice Try.prog 81 = none := by kernel_rfl
theorem ti81 : tyInt Try.prog 81 = none := by kernel_rfl
theorem tt81 : tyString Try.prog 81 = false := by kernel_rfl
theorem tq81 : tyBool Try.prog 81 = false := by kernel_rfl
theorem tn81 : tyNil Try.prog 81 = none := by kernel_rfl
theorem tf81_0 : tyField Try.prog 81 0 = some (0, 9) := by kernel_rfl
theorem tf81_1 : tyField Try.prog 81 1 = some (1, 3) := by kernel_rfl
theorem tp81 : tyPlaces Try.prog 81 = some [(0, 1), (1, 1)] := by kernel_rfl
theorem tv81 : leaves Try.prog 20 81 = some [.str, .int] := by kernel_rfl
theorem te81 : Try.prog.eqGuardType Try.prog.depth 81 = false := by kernel_rfl
theorem ts85 : tySize Try.prog 85 = some 4 := by kernel_rfl
theorem tb85 : tyBytes Try.prog 85 = some 40 := by kernel_rfl
theorem tg85 : tyAgg Try.prog 85 = some true := by kernel_rfl
theorem tz85 : tyZero Try.prog 85 = some (.agg [.lit (.string { data := #[] }), .lit (.int .i64 0), .lit (.int .i64 0), .lit (.int .u32 0)]) := by kernel_rfl
theorem ta85 : tyArray Try.prog 85 = none := by kernel_rfl
theorem tl85 : tySlice Try.prog 85 = none := by kernel_rfl
theorem ti85 : tyInt Try.prog 85 = none := by kernel_rfl
theorem tt85 : tyString Try.prog 85 = false := by kernel_rfl
theorem tq85 : tyBool Try.prog 85 = false := by kernel_rfl
theorem tn85 : tyNil Try.prog 85 = none := by kernel_rfl
theorem tf85_0 : tyField Try.prog 85 0 = some (0, 9) := by kernel_rfl
theorem tf85_1 : tyField Try.prog 85 1 = some (1, 3) := by kernel_rfl
theorem tf85_2 : tyField Try.prog 85 2 = some (2, 3) := by kernel_rfl
theorem tf85_3 : tyField Try.prog 85 3 = some (3, 50) := by kernel_rfl
theorem tp85 : tyPlaces Try.prog 85 = some [(0, 1), (1, 1), (2, 1), (3, 1)] := by kernel_rfl
theorem tv85 : leaves Try.prog 20 85 = some [.str, .int, .int, .int] := by kernel_rfl
theorem te85 : Try.prog.eqGuardType Try.prog.depth 85 = false := by kernel_rfl
theorem ts86 : tySize Try.prog 86 = some 1 := by kernel_rfl
theorem tb86 : tyBytes Try.prog 86 = some 8 := by kernel_rfl
theorem tg86 : tyAgg Try.prog 86 = some false := by kernel_rfl
theorem tz86 : tyZero Try.prog 86 = some (.lit (.nilFunc)) := by kernel_rfl
theorem ta86 : tyArray Try.prog 86 = none := by kernel_rfl
theorem tl86 : tySlice Try.prog 86 = none := by kernel_rfl
theorem ti86 : tyInt Try.prog 86 = none := by kernel_rfl
theorem tt86 : tyString Try.prog 86 = false := by kernel_rfl
theorem tq86 : tyBool Try.prog 86 = false := by kernel_rfl
theorem tn86 : tyNil Try.prog 86 = some .func := by kernel_rfl
theorem tp86 : tyPlaces Try.prog 86 = none := by kernel_rfl
theorem ts88 : tySize Try.prog 88 = some 2 := by kernel_rfl
theorem tb88 : tyBytes Try.prog 88 = some 24 := by kernel_rfl
theorem tg88 : tyAgg Try.prog 88 = some true := by kernel_rfl
theorem tz88 : tyZero Try.prog 88 = some (.agg [.lit (.pointer none), .lit (.string { data := #[] })]) := by kernel_rfl
theorem ta88 : tyArray Try.prog 88 = none := by kernel_rfl
theorem tl88 : tySlice Try.prog 88 = none := by kernel_rfl
theorem ti88 : tyInt Try.prog 88 = none := by kernel_rfl
theorem tt88 : tyString Try.prog 88 = false := by kernel_rfl
theorem tq88 : tyBool Try.prog 88 = false := by kernel_rfl
theorem tn88 : tyNil Try.prog 88 = none := by kernel_rfl
theorem tf88_0 : tyField Try.prog 88 0 = some (0, 25) := by kernel_rfl
theorem tf88_1 : tyField Try.prog 88 1 = some (1, 9) := by kernel_rfl
theorem tp88 : tyPlaces Try.prog 88 = some [(0, 1), (1, 1)] := by kernel_rfl
theorem ts90 : tySize Try.prog 90 = some 8 := by kernel_rfl
theorem tb90 : tyBytes Try.prog 90 = some 88 := by kernel_rfl
theorem tg90 : tyAgg Try.prog 90 = some true := by kernel_rfl
theorem tz90 : tyZero Try.prog 90 = some (.agg [.lit (.pointer none), .lit (.string { data := #[] }), .lit (.pointer none), .lit (.int .i64 0), .lit (.slice none 0 0), .lit (.int .i64 0), .lit (.int .u32 0), .lit (.bool false)]) := by kernel_rfl
theorem ta90 : tyArray Try.prog 90 = none := by kernel_rfl
theorem tl90 : tySlice Try.prog 90 = none := by kernel_rfl
theorem ti90 : tyInt Try.prog 90 = none := by kernel_rfl
theorem tt90 : tyString Try.prog 90 = false := by kernel_rfl
theorem tq90 : tyBool Try.prog 90 = false := by kernel_rfl
theorem tn90 : tyNil Try.prog 90 = none := by kernel_rfl
theorem tf90_0 : tyField Try.prog 90 0 = some (0, 88) := by kernel_rfl
theorem tf90_1 : tyField Try.prog 90 1 = some (2, 44) := by kernel_rfl
theorem tf90_2 : tyField Try.prog 90 2 = some (3, 3) := by kernel_rfl
theorem tf90_3 : tyField Try.prog 90 3 = some (4, 42) := by kernel_rfl
theorem tf90_4 : tyField Try.prog 90 4 = some (5, 52) := by kernel_rfl
theorem tf90_5 : tyField Try.prog 90 5 = some (7, 4) := by kernel_rfl
theorem tp90 : tyPlaces Try.prog 90 = some [(0, 2), (2, 1), (3, 1), (4, 1), (5, 2), (7, 1)] := by kernel_rfl
theorem ts93 : tySize Try.prog 93 = some 4 := by kernel_rfl
theorem tb93 : tyBytes Try.prog 93 = some 32 := by kernel_rfl
theorem tg93 : tyAgg Try.prog 93 = some true := by kernel_rfl
theorem tz93 : tyZero Try.prog 93 = some (.agg [.lit (.bool false), .lit (.int .i64 0), .lit (.int .i64 0), .lit (.int .i64 0)]) := by kernel_rfl
theorem ta93 : tyArray Try.prog 93 = none := by kernel_rfl
theorem tl93 : tySlice Try.prog 93 = none := by kernel_rfl
theorem ti93 : tyInt Try.prog 93 = none := by kernel_rfl
theorem tt93 : tyString Try.prog 93 = false := by kernel_rfl
theorem tq93 : tyBool Try.prog 93 = false := by kernel_rfl
theorem tn93 : tyNil Try.prog 93 = none := by kernel_rfl
theorem tf93_0 : tyField Try.prog 93 0 = some (0, 4) := by kernel_rfl
theorem tf93_1 : tyField Try.prog 93 1 = some (1, 3) := by kernel_rfl
theorem tf93_2 : tyField Try.prog 93 2 = some (2, 3) := by kernel_rfl
theorem tf93_3 : tyField Try.prog 93 3 = some (3, 3) := by kernel_rfl
theorem tp93 : tyPlaces Try.prog 93 = some [(0, 1), (1, 1), (2, 1), (3, 1)] := by kernel_rfl
theorem tv93 : leaves Try.prog 20 93 = some [.bool, .int, .int, .int] := by kernel_rfl
theorem te93 : Try.prog.eqGuardType Try.prog.depth 93 = false := by kernel_rfl
theorem ts104 : tySize Try.prog 104 = some 2 := by kernel_rfl
theorem tb104 : tyBytes Try.prog 104 = some 48 := by kernel_rfl
theorem tg104 : tyAgg Try.prog 104 = some true := by kernel_rfl
theorem tz104 : tyZero Try.prog 104 = some (.agg [.lit (.slice none 0 0), .lit (.slice none 0 0)]) := by kernel_rfl
theorem ta104 : tyArray Try.prog 104 = none := by kernel_rfl
theorem tl104 : tySlice Try.prog 104 = none := by kernel_rfl
theorem ti104 : tyInt Try.prog 104 = none := by kernel_rfl
theorem tt104 : tyString Try.prog 104 = false := by kernel_rfl
theorem tq104 : tyBool Try.prog 104 = false := by kernel_rfl
theorem tn104 : tyNil Try.prog 104 = none := by kernel_rfl
theorem tf104_0 : tyField Try.prog 104 0 = some (0, 33) := by kernel_rfl
theorem tf104_1 : tyField Try.prog 104 1 = some (1, 33) := by kernel_rfl
theorem tp104 : tyPlaces Try.prog 104 = some [(0, 1), (1, 1)] := by kernel_rfl
theorem ts108 : tySize Try.prog 108 = some 1 := by kernel_rfl
theorem tb108 : tyBytes Try.prog 108 = some 8 := by kernel_rfl
theorem tg108 : tyAgg Try.prog 108 = some false := by kernel_rfl
theorem tz108 : tyZero Try.prog 108 = some (.lit (.nilFunc)) := by kernel_rfl
theorem ta108 : tyArray Try.prog 108 = none := by kernel_rfl
theorem tl108 : tySlice Try.prog 108 = none := by kernel_rfl
theorem ti108 : tyInt Try.prog 108 = none := by kernel_rfl
theorem tt108 : tyString Try.prog 108 = false := by kernel_rfl
theorem tq108 : tyBool Try.prog 108 = false := by kernel_rfl
theorem tn108 : tyNil Try.prog 108 = some .func := by kernel_rfl
theorem tp108 : tyPlaces Try.prog 108 = none := by kernel_rfl
theorem ts113 : tySize Try.prog 113 = some 1 := by kernel_rfl
theorem tb113 : tyBytes Try.prog 113 = some 8 := by kernel_rfl
theorem tg113 : tyAgg Try.prog 113 = some false := by kernel_rfl
theorem tz113 : tyZero Try.prog 113 = some (.lit (.nilFunc)) := by kernel_rfl
theorem ta113 : tyArray Try.prog 113 = none := by kernel_rfl
theorem tl113 : tySlice Try.prog 113 = none := by kernel_rfl
theorem ti113 : tyInt Try.prog 113 = none := by kernel_rfl
theorem tt113 : tyString Try.prog 113 = false := by kernel_rfl
theorem tq113 : tyBool Try.prog 113 = false := by kernel_rfl
theorem tn113 : tyNil Try.prog 113 = some .func := by kernel_rfl
theorem tp113 : tyPlaces Try.prog 113 = none := by kernel_rfl
theorem ts120 : tySize Try.prog 120 = some 1 := by kernel_rfl
theorem tb120 : tyBytes Try.prog 120 = some 8 := by kernel_rfl
theorem tg120 : tyAgg Try.prog 120 = some false := by kernel_rfl
theorem tz120 : tyZero Try.prog 120 = some (.lit (.pointer none)) := by kernel_rfl
theorem ta120 : tyArray Try.prog 120 = none := by kernel_rfl
theorem tl120 : tySlice Try.prog 120 = none := by kernel_rfl
theorem ti120 : tyInt Try.prog 120 = none := by kernel_rfl
theorem tt120 : tyString Try.prog 120 = false := by kernel_rfl
theorem tq120 : tyBool Try.prog 120 = false := by kernel_rfl
theorem tn120 : tyNil Try.prog 120 = some .ptr := by kernel_rfl
theorem tp120 : tyPlaces Try.prog 120 = none := by kernel_rfl
theorem tu120 : Try.prog.underlying 120 = some (.pointer 123) := by kernel_rfl
theorem ts121 : tySize Try.prog 121 = some 1 := by kernel_rfl
theorem tb121 : tyBytes Try.prog 121 = some 24 := by kernel_rfl
theorem tg121 : tyAgg Try.prog 121 = some false := by kernel_rfl
theorem tz121 : tyZero Try.prog 121 = some (.lit (.slice none 0 0)) := by kernel_rfl
theorem ta121 : tyArray Try.prog 121 = none := by kernel_rfl
theorem tl121 : tySlice Try.prog 121 = some 5 := by kernel_rfl
theorem ti121 : tyInt Try.prog 121 = none := by kernel_rfl
theorem tt121 : tyString Try.prog 121 = false := by kernel_rfl
theorem tq121 : tyBool Try.prog 121 = false := by kernel_rfl
theorem tn121 : tyNil Try.prog 121 = some .slice := by kernel_rfl
theorem tp121 : tyPlaces Try.prog 121 = none := by kernel_rfl
theorem tu121 : Try.prog.underlying 121 = some (.slice 5) := by kernel_rfl
theorem ts123 : tySize Try.prog 123 = some 2 := by kernel_rfl
theorem tb123 : tyBytes Try.prog 123 = some 32 := by kernel_rfl
theorem tg123 : tyAgg Try.prog 123 = some true := by kernel_rfl
theorem tz123 : tyZero Try.prog 123 = some (.agg [.lit (.pointer none), .lit (.slice none 0 0)]) := by kernel_rfl
theorem ta123 : tyArray Try.prog 123 = none := by kernel_rfl
theorem tl123 : tySlice Try.prog 123 = none := by kernel_rfl
theorem ti123 : tyInt Try.prog 123 = none := by kernel_rfl
theorem tt123 : tyString Try.prog 123 = false := by kernel_rfl
theorem tq123 : tyBool Try.prog 123 = false := by kernel_rfl
theorem tn123 : tyNil Try.prog 123 = none := by kernel_rfl
theorem tf123_0 : tyField Try.prog 123 0 = some (0, 120) := by kernel_rfl
theorem tf123_1 : tyField Try.prog 123 1 = some (1, 121) := by kernel_rfl
theorem tp123 : tyPlaces Try.prog 123 = some [(0, 1), (1, 1)] := by kernel_rfl
theorem ts133 : tySize Try.prog 133 = some 1 := by kernel_rfl
theorem tb133 : tyBytes Try.prog 133 = some 8 := by kernel_rfl
theorem tg133 : tyAgg Try.prog 133 = some false := by kernel_rfl
theorem tz133 : tyZero Try.prog 133 = some (.lit (.nilFunc)) := by kernel_rfl
theorem ta133 : tyArray Try.prog 133 = none := by kernel_rfl
theorem tl133 : tySlice Try.prog 133 = none := by kernel_rfl
theorem ti133 : tyInt Try.prog 133 = none := by kernel_rfl
theorem tt133 : tyString Try.prog 133 = false := by kernel_rfl
theorem tq133 : tyBool Try.prog 133 = false := by kernel_rfl
theorem tn133 : tyNil Try.prog 133 = some .func := by kernel_rfl
theorem tp133 : tyPlaces Try.prog 133 = none := by kernel_rfl
theorem ts137 : tySize Try.prog 137 = some 1 := by kernel_rfl
theorem tb137 : tyBytes Try.prog 137 = some 8 := by kernel_rfl
theorem tg137 : tyAgg Try.prog 137 = some false := by kernel_rfl
theorem tz137 : tyZero Try.prog 137 = some (.lit (.pointer none)) := by kernel_rfl
theorem ta137 : tyArray Try.prog 137 = none := by kernel_rfl
theorem tl137 : tySlice Try.prog 137 = none := by kernel_rfl
theorem ti137 : tyInt Try.prog 137 = none := by kernel_rfl
theorem tt137 : tyString Try.prog 137 = false := by kernel_rfl
theorem tq137 : tyBool Try.prog 137 = false := by kernel_rfl
theorem tn137 : tyNil Try.prog 137 = some .ptr := by kernel_rfl
theorem tp137 : tyPlaces Try.prog 137 = none := by kernel_rfl
theorem tu137 : Try.prog.underlying 137 = some (.pointer 141) := by kernel_rfl
theorem ts139 : tySize Try.prog 139 = some 1 := by kernel_rfl
theorem tb139 : tyBytes Try.prog 139 = some 16 := by kernel_rfl
theorem tg139 : tyAgg Try.prog 139 = some true := by kernel_rfl
theorem tz139 : tyZero Try.prog 139 = some (.agg [.lit (.string { data := #[] })]) := by kernel_rfl
theorem ta139 : tyArray Try.prog 139 = none := by kernel_rfl
theorem tl139 : tySlice Try.prog 139 = none := by kernel_rfl
theorem ti139 : tyInt Try.prog 139 = none := by kernel_rfl
theorem tt139 : tyString Try.prog 139 = false := by kernel_rfl
theorem tq139 : tyBool Try.prog 139 = false := by kernel_rfl
theorem tn139 : tyNil Try.prog 139 = none := by kernel_rfl
theorem tf139_0 : tyField Try.prog 139 0 = some (0, 9) := by kernel_rfl
theorem tp139 : tyPlaces Try.prog 139 = some [(0, 1)] := by kernel_rfl
theorem tv139 : leaves Try.prog 20 139 = some [.str] := by kernel_rfl
theorem te139 : Try.prog.eqGuardType Try.prog.depth 139 = false := by kernel_rfl
theorem ts141 : tySize Try.prog 141 = some 2 := by kernel_rfl
theorem tb141 : tyBytes Try.prog 141 = some 24 := by kernel_rfl
theorem tg141 : tyAgg Try.prog 141 = some true := by kernel_rfl
theorem tz141 : tyZero Try.prog 141 = some (.agg [.lit (.string { data := #[] }), .lit (.bool false)]) := by kernel_rfl
theorem ta141 : tyArray Try.prog 141 = none := by kernel_rfl
theorem tl141 : tySlice Try.prog 141 = none := by kernel_rfl
theorem ti141 : tyInt Try.prog 141 = none := by kernel_rfl
theorem tt141 : tyString Try.prog 141 = false := by kernel_rfl
theorem tq141 : tyBool Try.prog 141 = false := by kernel_rfl
theorem tn141 : tyNil Try.prog 141 = none := by kernel_rfl
theorem tf141_0 : tyField Try.prog 141 0 = some (0, 139) := by kernel_rfl
theorem tf141_1 : tyField Try.prog 141 1 = some (1, 4) := by kernel_rfl
theorem tp141 : tyPlaces Try.prog 141 = some [(0, 1), (1, 1)] := by kernel_rfl
theorem tv141 : leaves Try.prog 20 141 = some [.str, .bool] := by kernel_rfl
theorem te141 : Try.prog.eqGuardType Try.prog.depth 141 = false := by kernel_rfl
theorem ts144 : tySize Try.prog 144 = some 1 := by kernel_rfl
theorem tb144 : tyBytes Try.prog 144 = some 8 := by kernel_rfl
theorem tg144 : tyAgg Try.prog 144 = some false := by kernel_rfl
theorem tz144 : tyZero Try.prog 144 = some (.lit (.int .u64 0)) := by kernel_rfl
theorem ta144 : tyArray Try.prog 144 = none := by kernel_rfl
theorem tl144 : tySlice Try.prog 144 = none := by kernel_rfl
theorem ti144 : tyInt Try.prog 144 = some .u64 := by kernel_rfl
theorem tt144 : tyString Try.prog 144 = false := by kernel_rfl
theorem tq144 : tyBool Try.prog 144 = false := by kernel_rfl
theorem tn144 : tyNil Try.prog 144 = none := by kernel_rfl
theorem tp144 : tyPlaces Try.prog 144 = none := by kernel_rfl
theorem tu144 : Try.prog.underlying 144 = some (.int .u64) := by kernel_rfl
theorem ts151 : tySize Try.prog 151 = some 1 := by kernel_rfl
theorem tb151 : tyBytes Try.prog 151 = some 8 := by kernel_rfl
theorem tg151 : tyAgg Try.prog 151 = some false := by kernel_rfl
theorem tz151 : tyZero Try.prog 151 = some (.lit (.nilFunc)) := by kernel_rfl
theorem ta151 : tyArray Try.prog 151 = none := by kernel_rfl
theorem tl151 : tySlice Try.prog 151 = none := by kernel_rfl
theorem ti151 : tyInt Try.prog 151 = none := by kernel_rfl
theorem tt151 : tyString Try.prog 151 = false := by kernel_rfl
theorem tq151 : tyBool Try.prog 151 = false := by kernel_rfl
theorem tn151 : tyNil Try.prog 151 = some .func := by kernel_rfl
theorem tp151 : tyPlaces Try.prog 151 = none := by kernel_rfl
theorem ts161 : tySize Try.prog 161 = some 1 := by kernel_rfl
theorem tb161 : tyBytes Try.prog 161 = some 8 := by kernel_rfl
theorem tg161 : tyAgg Try.prog 161 = some false := by kernel_rfl
theorem tz161 : tyZero Try.prog 161 = some (.lit (.nilFunc)) := by kernel_rfl
theorem ta161 : tyArray Try.prog 161 = none := by kernel_rfl
theorem tl161 : tySlice Try.prog 161 = none := by kernel_rfl
theorem ti161 : tyInt Try.prog 161 = none := by kernel_rfl
theorem tt161 : tyString Try.prog 161 = false := by kernel_rfl
theorem tq161 : tyBool Try.prog 161 = false := by kernel_rfl
theorem tn161 : tyNil Try.prog 161 = some .func := by kernel_rfl
theorem tp161 : tyPlaces Try.prog 161 = none := by kernel_rfl
theorem ts164 : tySize Try.prog 164 = some 4 := by kernel_rfl
theorem tb164 : tyBytes Try.prog 164 = some 4 := by kernel_rfl
theorem tg164 : tyAgg Try.prog 164 = some true := by kernel_rfl
theorem tz164 : tyZero Try.prog 164 = some (.agg [.lit (.int .u8 0), .lit (.int .u8 0), .lit (.int .u8 0), .lit (.int .u8 0)]) := by kernel_rfl
theorem ta164 : tyArray Try.prog 164 = some (4, 5) := by kernel_rfl
theorem tl164 : tySlice Try.prog 164 = none := by kernel_rfl
theorem ti164 : tyInt Try.prog 164 = none := by kernel_rfl
theorem tt164 : tyString Try.prog 164 = false := by kernel_rfl
theorem tq164 : tyBool Try.prog 164 = false := by kernel_rfl
theorem tn164 : tyNil Try.prog 164 = none := by kernel_rfl
theorem tp164 : tyPlaces Try.prog 164 = none := by kernel_rfl
theorem tu164 : Try.prog.underlying 164 = some (.array 4 5) := by kernel_rfl
theorem ts166 : tySize Try.prog 166 = some 1 := by kernel_rfl
theorem tb166 : tyBytes Try.prog 166 = some 8 := by kernel_rfl
theorem tg166 : tyAgg Try.prog 166 = some false := by kernel_rfl
theorem tz166 : tyZero Try.prog 166 = some (.lit (.pointer none)) := by kernel_rfl
theorem ta166 : tyArray Try.prog 166 = none := by kernel_rfl
theorem tl166 : tySlice Try.prog 166 = none := by kernel_rfl
theorem ti166 : tyInt Try.prog 166 = none := by kernel_rfl
theorem tt166 : tyString Try.prog 166 = false := by kernel_rfl
theorem tq166 : tyBool Try.prog 166 = false := by kernel_rfl
theorem tn166 : tyNil Try.prog 166 = some .ptr := by kernel_rfl
theorem tp166 : tyPlaces Try.prog 166 = none := by kernel_rfl
theorem tu166 : Try.prog.underlying 166 = some (.pointer 5) := by kernel_rfl
theorem ts170 : tySize Try.prog 170 = some 16 := by kernel_rfl
theorem tb170 : tyBytes Try.prog 170 = some 64 := by kernel_rfl
theorem tg170 : tyAgg Try.prog 170 = some true := by kernel_rfl
theorem tz170 : tyZero Try.prog 170 = some (.agg [.lit (.int .u32 0), .lit (.int .u32 0), .lit (.int .u32 0), .lit (.int .u32 0), .lit (.int .u32 0), .lit (.int .u32 0), .lit (.int .u32 0), .lit (.int .u32 0), .lit (.int .u32 0), .lit (.int .u32 0), .lit (.int .u32 0), .lit (.int .u32 0), .lit (.int .u32 0), .lit (.int .u32 0), .lit (.int .u32 0), .lit (.int .u32 0)]) := by kernel_rfl
theorem ta170 : tyArray Try.prog 170 = some (16, 50) := by kernel_rfl
theorem tl170 : tySlice Try.prog 170 = none := by kernel_rfl
theorem ti170 : tyInt Try.prog 170 = none := by kernel_rfl
theorem tt170 : tyString Try.prog 170 = false := by kernel_rfl
theorem tq170 : tyBool Try.prog 170 = false := by kernel_rfl
theorem tn170 : tyNil Try.prog 170 = none := by kernel_rfl
theorem tp170 : tyPlaces Try.prog 170 = none := by kernel_rfl
theorem tu170 : Try.prog.underlying 170 = some (.array 16 50) := by kernel_rfl
theorem ts173 : tySize Try.prog 173 = some 8 := by kernel_rfl
theorem tb173 : tyBytes Try.prog 173 = some 8 := by kernel_rfl
theorem tg173 : tyAgg Try.prog 173 = some true := by kernel_rfl
theorem tz173 : tyZero Try.prog 173 = some (.agg [.lit (.int .u8 0), .lit (.int .u8 0), .lit (.int .u8 0), .lit (.int .u8 0), .lit (.int .u8 0), .lit (.int .u8 0), .lit (.int .u8 0), .lit (.int .u8 0)]) := by kernel_rfl
theorem ta173 : tyArray Try.prog 173 = some (8, 5) := by kernel_rfl
theorem tl173 : tySlice Try.prog 173 = none := by kernel_rfl
theorem ti173 : tyInt Try.prog 173 = none := by kernel_rfl
theorem tt173 : tyString Try.prog 173 = false := by kernel_rfl
theorem tq173 : tyBool Try.prog 173 = false := by kernel_rfl
theorem tn173 : tyNil Try.prog 173 = none := by kernel_rfl
theorem tp173 : tyPlaces Try.prog 173 = none := by kernel_rfl
theorem tu173 : Try.prog.underlying 173 = some (.array 8 5) := by kernel_rfl
theorem ts174 : tySize Try.prog 174 = some 1 := by kernel_rfl
theorem tb174 : tyBytes Try.prog 174 = some 24 := by kernel_rfl
theorem tg174 : tyAgg Try.prog 174 = some false := by kernel_rfl
theorem tz174 : tyZero Try.prog 174 = some (.lit (.slice none 0 0)) := by kernel_rfl
theorem ta174 : tyArray Try.prog 174 = none := by kernel_rfl
theorem tl174 : tySlice Try.prog 174 = some 33 := by kernel_rfl
theorem ti174 : tyInt Try.prog 174 = none := by kernel_rfl
theorem tt174 : tyString Try.prog 174 = false := by kernel_rfl
theorem tq174 : tyBool Try.prog 174 = false := by kernel_rfl
theorem tn174 : tyNil Try.prog 174 = some .slice := by kernel_rfl
theorem tp174 : tyPlaces Try.prog 174 = none := by kernel_rfl
theorem tu174 : Try.prog.underlying 174 = some (.slice 33) := by kernel_rfl
theorem ts187 : tySize Try.prog 187 = some 1 := by kernel_rfl
theorem tb187 : tyBytes Try.prog 187 = some 8 := by kernel_rfl
theorem tg187 : tyAgg Try.prog 187 = some false := by kernel_rfl
theorem tz187 : tyZero Try.prog 187 = some (.lit (.int .u64 0)) := by kernel_rfl
theorem ta187 : tyArray Try.prog 187 = none := by kernel_rfl
theorem tl187 : tySlice Try.prog 187 = none := by kernel_rfl
theorem ti187 : tyInt Try.prog 187 = some .u64 := by kernel_rfl
theorem tt187 : tyString Try.prog 187 = false := by kernel_rfl
theorem tq187 : tyBool Try.prog 187 = false := by kernel_rfl
theorem tn187 : tyNil Try.prog 187 = none := by kernel_rfl
theorem tp187 : tyPlaces Try.prog 187 = none := by kernel_rfl
theorem tu187 : Try.prog.underlying 187 = some (.int .u64) := by kernel_rfl
theorem ts189 : tySize Try.prog 189 = some 1 := by kernel_rfl
theorem tb189 : tyBytes Try.prog 189 = some 8 := by kernel_rfl
theorem tg189 : tyAgg Try.prog 189 = some false := by kernel_rfl
theorem tz189 : tyZero Try.prog 189 = some (.lit (.pointer none)) := by kernel_rfl
theorem ta189 : tyArray Try.prog 189 = none := by kernel_rfl
theorem tl189 : tySlice Try.prog 189 = none := by kernel_rfl
theorem ti189 : tyInt Try.prog 189 = none := by kernel_rfl
theorem tt189 : tyString Try.prog 189 = false := by kernel_rfl
theorem tq189 : tyBool Try.prog 189 = false := by kernel_rfl
theorem tn189 : tyNil Try.prog 189 = none := by kernel_rfl
theorem tp189 : tyPlaces Try.prog 189 = none := by kernel_rfl
theorem ts196 : tySize Try.prog 196 = some 1 := by kernel_rfl
theorem tb196 : tyBytes Try.prog 196 = some 8 := by kernel_rfl
theorem tg196 : tyAgg Try.prog 196 = some false := by kernel_rfl
theorem tz196 : tyZero Try.prog 196 = some (.lit (.int .u64 0)) := by kernel_rfl
theorem ta196 : tyArray Try.prog 196 = none := by kernel_rfl
theorem tl196 : tySlice Try.prog 196 = none := by kernel_rfl
theorem ti196 : tyInt Try.prog 196 = some .u64 := by kernel_rfl
theorem tt196 : tyString Try.prog 196 = false := by kernel_rfl
theorem tq196 : tyBool Try.prog 196 = false := by kernel_rfl
theorem tn196 : tyNil Try.prog 196 = none := by kernel_rfl
theorem tp196 : tyPlaces Try.prog 196 = none := by kernel_rfl
theorem tu196 : Try.prog.underlying 196 = some (.int .u64) := by kernel_rfl
theorem ts200 : tySize Try.prog 200 = some 1 := by kernel_rfl
theorem tb200 : tyBytes Try.prog 200 = some 8 := by kernel_rfl
theorem tg200 : tyAgg Try.prog 200 = some false := by kernel_rfl
theorem tz200 : tyZero Try.prog 200 = some (.lit (.pointer none)) := by kernel_rfl
theorem ta200 : tyArray Try.prog 200 = none := by kernel_rfl
theorem tl200 : tySlice Try.prog 200 = none := by kernel_rfl
theorem ti200 : tyInt Try.prog 200 = none := by kernel_rfl
theorem tt200 : tyString Try.prog 200 = false := by kernel_rfl
theorem tq200 : tyBool Try.prog 200 = false := by kernel_rfl
theorem tn200 : tyNil Try.prog 200 = some .ptr := by kernel_rfl
theorem tp200 : tyPlaces Try.prog 200 = none := by kernel_rfl
theorem tu200 : Try.prog.underlying 200 = some (.pointer 3) := by kernel_rfl
theorem tw22 : zeroFits Try.prog 22 := zeroFits_of (by kernel_rfl)
theorem tw29 : zeroFits Try.prog 29 := zeroFits_of (by kernel_rfl)
theorem tw33 : zeroFits Try.prog 33 := zeroFits_of (by kernel_rfl)
theorem tw42 : zeroFits Try.prog 42 := zeroFits_of (by kernel_rfl)
theorem tw66 : zeroFits Try.prog 66 := zeroFits_of (by kernel_rfl)
theorem tw78 : zeroFits Try.prog 78 := zeroFits_of (by kernel_rfl)
theorem tw121 : zeroFits Try.prog 121 := zeroFits_of (by kernel_rfl)
theorem tw174 : zeroFits Try.prog 174 := zeroFits_of (by kernel_rfl)
theorem tr2 : Try.f2.results.toList = [] := by kernel_rfl
theorem tr3 : Try.f3.results.toList = [ResultVar.tmp 2] := by kernel_rfl
theorem tr4 : Try.f4.results.toList = [ResultVar.tmp 4] := by kernel_rfl
theorem tr5 : Try.f5.results.toList = [ResultVar.tmp 2] := by kernel_rfl
theorem tr6 : Try.f6.results.toList = [ResultVar.tmp 2] := by kernel_rfl
theorem tr7 : Try.f7.results.toList = [ResultVar.tmp 0] := by kernel_rfl
theorem tr8 : Try.f8.results.toList = [ResultVar.tmp 2, ResultVar.tmp 3] := by kernel_rfl
theorem tr9 : Try.f9.results.toList = [] := by kernel_rfl
theorem tr10 : Try.f10.results.toList = [ResultVar.tmp 4] := by kernel_rfl
theorem tr11 : Try.f11.results.toList = [] := by kernel_rfl
theorem tr12 : Try.f12.results.toList = [ResultVar.cell 2 31, ResultVar.tmp 3, ResultVar.tmp 4] := by kernel_rfl
theorem tr13 : Try.f13.results.toList = [ResultVar.tmp 4] := by kernel_rfl
theorem tr14 : Try.f14.results.toList = [ResultVar.tmp 2] := by kernel_rfl
theorem tr15 : Try.f15.results.toList = [ResultVar.tmp 4] := by kernel_rfl
theorem tr16 : Try.f16.results.toList = [ResultVar.tmp 0] := by kernel_rfl
theorem tr17 : Try.f17.results.toList = [ResultVar.tmp 2] := by kernel_rfl
theorem tr18 : Try.f18.results.toList = [ResultVar.tmp 8, ResultVar.tmp 9] := by kernel_rfl
theorem tr19 : Try.f19.results.toList = [ResultVar.tmp 4] := by kernel_rfl
theorem tr20 : Try.f20.results.toList = [ResultVar.cell 2 52, ResultVar.tmp 3] := by kernel_rfl
theorem tr21 : Try.f21.results.toList = [ResultVar.tmp 4, ResultVar.tmp 5] := by kernel_rfl
theorem tr22 : Try.f22.results.toList = [ResultVar.tmp 4, ResultVar.tmp 5] := by kernel_rfl
theorem tr23 : Try.f23.results.toList = [ResultVar.tmp 8, ResultVar.tmp 9] := by kernel_rfl
theorem tr24 : Try.f24.results.toList = [ResultVar.cell 2 52] := by kernel_rfl
theorem tr25 : Try.f25.results.toList = [ResultVar.tmp 2] := by kernel_rfl
theorem tr26 : Try.f26.results.toList = [ResultVar.tmp 2] := by kernel_rfl
theorem tr27 : Try.f27.results.toList = [ResultVar.tmp 2] := by kernel_rfl
theorem tr28 : Try.f28.results.toList = [ResultVar.tmp 2] := by kernel_rfl
theorem tr29 : Try.f29.results.toList = [ResultVar.tmp 0] := by kernel_rfl
theorem tr30 : Try.f30.results.toList = [ResultVar.tmp 2] := by kernel_rfl
theorem tr31 : Try.f31.results.toList = [ResultVar.tmp 4] := by kernel_rfl
theorem tr32 : Try.f32.results.toList = [ResultVar.tmp 2] := by kernel_rfl
theorem tr33 : Try.f33.results.toList = [ResultVar.tmp 2] := by kernel_rfl
theorem tr34 : Try.f34.results.toList = [ResultVar.tmp 2] := by kernel_rfl
theorem tr35 : Try.f35.results.toList = [ResultVar.tmp 2, ResultVar.tmp 3] := by kernel_rfl
theorem tr36 : Try.f36.results.toList = [ResultVar.tmp 1] := by kernel_rfl
theorem tr37 : Try.f37.results.toList = [ResultVar.tmp 2] := by kernel_rfl
theorem tr38 : Try.f38.results.toList = [ResultVar.tmp 1] := by kernel_rfl
theorem tr39 : Try.f39.results.toList = [ResultVar.tmp 4] := by kernel_rfl
theorem tr40 : Try.f40.results.toList = [ResultVar.tmp 2] := by kernel_rfl
theorem tr41 : Try.f41.results.toList = [ResultVar.tmp 6] := by kernel_rfl
theorem tr42 : Try.f42.results.toList = [ResultVar.tmp 1] := by kernel_rfl
theorem tr43 : Try.f43.results.toList = [ResultVar.tmp 4] := by kernel_rfl
theorem tr44 : Try.f44.results.toList = [ResultVar.tmp 1] := by kernel_rfl
theorem tr45 : Try.f45.results.toList = [ResultVar.tmp 6] := by kernel_rfl
theorem tr46 : Try.f46.results.toList = [ResultVar.tmp 2] := by kernel_rfl
theorem tr47 : Try.f47.results.toList = [ResultVar.cell 2 31, ResultVar.tmp 3] := by kernel_rfl
theorem tr48 : Try.f48.results.toList = [ResultVar.tmp 2] := by kernel_rfl
theorem tr49 : Try.f49.results.toList = [] := by kernel_rfl
theorem tr50 : Try.f50.results.toList = [ResultVar.tmp 4] := by kernel_rfl
theorem tr51 : Try.f51.results.toList = [ResultVar.tmp 2, ResultVar.tmp 3] := by kernel_rfl
theorem tr52 : Try.f52.results.toList = [ResultVar.tmp 4] := by kernel_rfl
theorem tr53 : Try.f53.results.toList = [ResultVar.tmp 4] := by kernel_rfl
theorem tr54 : Try.f54.results.toList = [ResultVar.tmp 2] := by kernel_rfl
theorem tr55 : Try.f55.results.toList = [ResultVar.tmp 2] := by kernel_rfl
theorem tr56 : Try.f56.results.toList = [ResultVar.tmp 4] := by kernel_rfl
theorem tr57 : Try.f57.results.toList = [ResultVar.tmp 2] := by kernel_rfl
theorem tr58 : Try.f58.results.toList = [ResultVar.tmp 2, ResultVar.tmp 3] := by kernel_rfl
theorem tr59 : Try.f59.results.toList = [ResultVar.tmp 4] := by kernel_rfl
theorem tr60 : Try.f60.results.toList = [ResultVar.tmp 2] := by kernel_rfl
theorem tr61 : Try.f61.results.toList = [ResultVar.tmp 2] := by kernel_rfl
theorem tr62 : Try.f62.results.toList = [ResultVar.tmp 2, ResultVar.tmp 3] := by kernel_rfl
theorem tr63 : Try.f63.results.toList = [ResultVar.tmp 4] := by kernel_rfl
theorem tr64 : Try.f64.results.toList = [ResultVar.tmp 4, ResultVar.tmp 5] := by kernel_rfl
theorem tr65 : Try.f65.results.toList = [ResultVar.tmp 2, ResultVar.tmp 3] := by kernel_rfl
theorem tr66 : Try.f66.results.toList = [ResultVar.cell 6 81, ResultVar.tmp 7] := by kernel_rfl
theorem tr67 : Try.f67.results.toList = [ResultVar.tmp 4] := by kernel_rfl
theorem tr68 : Try.f68.results.toList = [ResultVar.tmp 2] := by kernel_rfl
theorem tr69 : Try.f69.results.toList = [ResultVar.cell 2 104] := by kernel_rfl
theorem tr70 : Try.f70.results.toList = [ResultVar.tmp 2] := by kernel_rfl
theorem tr71 : Try.f71.results.toList = [ResultVar.tmp 2] := by kernel_rfl
theorem tr72 : Try.f72.results.toList = [ResultVar.tmp 2] := by kernel_rfl
theorem tr73 : Try.f73.results.toList = [] := by kernel_rfl
theorem tr74 : Try.f74.results.toList = [ResultVar.tmp 4] := by kernel_rfl
theorem tr75 : Try.f75.results.toList = [ResultVar.tmp 2] := by kernel_rfl
theorem tr76 : Try.f76.results.toList = [ResultVar.tmp 4] := by kernel_rfl
theorem tr77 : Try.f77.results.toList = [ResultVar.tmp 2] := by kernel_rfl
theorem tr78 : Try.f78.results.toList = [ResultVar.tmp 4] := by kernel_rfl
theorem tr79 : Try.f79.results.toList = [ResultVar.tmp 2, ResultVar.tmp 3] := by kernel_rfl
theorem tr80 : Try.f80.results.toList = [ResultVar.tmp 4] := by kernel_rfl
theorem tr81 : Try.f81.results.toList = [ResultVar.cell 2 69, ResultVar.tmp 3] := by kernel_rfl
theorem tr82 : Try.f82.results.toList = [ResultVar.tmp 2] := by kernel_rfl
theorem tr83 : Try.f83.results.toList = [ResultVar.tmp 4, ResultVar.tmp 5] := by kernel_rfl
theorem tr84 : Try.f84.results.toList = [] := by kernel_rfl
theorem tr85 : Try.f85.results.toList = [ResultVar.tmp 2] := by kernel_rfl
theorem tr86 : Try.f86.results.toList = [ResultVar.tmp 2] := by kernel_rfl
theorem tr87 : Try.f87.results.toList = [ResultVar.tmp 4] := by kernel_rfl
theorem tr88 : Try.f88.results.toList = [ResultVar.tmp 2] := by kernel_rfl
theorem tr89 : Try.f89.results.toList = [] := by kernel_rfl
theorem tr90 : Try.f90.results.toList = [ResultVar.tmp 2] := by kernel_rfl
theorem tr91 : Try.f91.results.toList = [ResultVar.tmp 2] := by kernel_rfl
theorem tr92 : Try.f92.results.toList = [ResultVar.tmp 2, ResultVar.tmp 3] := by kernel_rfl
theorem tr93 : Try.f93.results.toList = [ResultVar.tmp 4] := by kernel_rfl
theorem tr94 : Try.f94.results.toList = [ResultVar.tmp 4] := by kernel_rfl
theorem tr95 : Try.f95.results.toList = [ResultVar.cell 2 85] := by kernel_rfl
theorem tr96 : Try.f96.results.toList = [] := by kernel_rfl
theorem tr97 : Try.f97.results.toList = [ResultVar.tmp 2] := by kernel_rfl
theorem tr98 : Try.f98.results.toList = [ResultVar.tmp 2] := by kernel_rfl
theorem tr99 : Try.f99.results.toList = [ResultVar.tmp 2] := by kernel_rfl
theorem tr100 : Try.f100.results.toList = [ResultVar.tmp 4, ResultVar.tmp 5] := by kernel_rfl
theorem tr101 : Try.f101.results.toList = [ResultVar.tmp 4, ResultVar.tmp 5] := by kernel_rfl
theorem tr102 : Try.f102.results.toList = [ResultVar.tmp 2] := by kernel_rfl
theorem tr103 : Try.f103.results.toList = [ResultVar.tmp 4] := by kernel_rfl
theorem tr104 : Try.f104.results.toList = [ResultVar.tmp 4] := by kernel_rfl
theorem tr105 : Try.f105.results.toList = [ResultVar.tmp 2] := by kernel_rfl
theorem tr106 : Try.f106.results.toList = [ResultVar.tmp 2] := by kernel_rfl
theorem tr107 : Try.f107.results.toList = [ResultVar.tmp 4] := by kernel_rfl
theorem tr108 : Try.f108.results.toList = [ResultVar.tmp 4] := by kernel_rfl
theorem tr109 : Try.f109.results.toList = [] := by kernel_rfl
theorem tr110 : Try.f110.results.toList = [ResultVar.tmp 2] := by kernel_rfl
theorem tr111 : Try.f111.results.toList = [] := by kernel_rfl
theorem tr112 : Try.f112.results.toList = [ResultVar.tmp 2] := by kernel_rfl
theorem tr113 : Try.f113.results.toList = [ResultVar.tmp 2] := by kernel_rfl
theorem tr114 : Try.f114.results.toList = [ResultVar.tmp 2] := by kernel_rfl
theorem tr115 : Try.f115.results.toList = [ResultVar.tmp 4] := by kernel_rfl
theorem tr116 : Try.f116.results.toList = [ResultVar.tmp 4] := by kernel_rfl
theorem tr117 : Try.f117.results.toList = [ResultVar.tmp 6, ResultVar.tmp 7] := by kernel_rfl
theorem tr118 : Try.f118.results.toList = [ResultVar.tmp 2] := by kernel_rfl
theorem tr119 : Try.f119.results.toList = [ResultVar.tmp 4] := by kernel_rfl
theorem tr120 : Try.f120.results.toList = [ResultVar.tmp 2] := by kernel_rfl
theorem tr121 : Try.f121.results.toList = [] := by kernel_rfl
theorem tr122 : Try.f122.results.toList = [ResultVar.tmp 2] := by kernel_rfl
theorem tr123 : Try.f123.results.toList = [ResultVar.tmp 2] := by kernel_rfl
theorem tr124 : Try.f124.results.toList = [ResultVar.tmp 2] := by kernel_rfl
theorem tr125 : Try.f125.results.toList = [] := by kernel_rfl
theorem tr126 : Try.f126.results.toList = [] := by kernel_rfl
theorem tr127 : Try.f127.results.toList = [ResultVar.tmp 4] := by kernel_rfl
theorem tr128 : Try.f128.results.toList = [ResultVar.tmp 4, ResultVar.tmp 5] := by kernel_rfl
theorem tr129 : Try.f129.results.toList = [ResultVar.tmp 6, ResultVar.tmp 7] := by kernel_rfl
theorem tr130 : Try.f130.results.toList = [ResultVar.tmp 4] := by kernel_rfl
theorem tr131 : Try.f131.results.toList = [ResultVar.tmp 3] := by kernel_rfl
theorem tr132 : Try.f132.results.toList = [ResultVar.tmp 2] := by kernel_rfl
theorem tr133 : Try.f133.results.toList = [ResultVar.tmp 4] := by kernel_rfl
theorem tr134 : Try.f134.results.toList = [ResultVar.tmp 4] := by kernel_rfl
theorem tr135 : Try.f135.results.toList = [ResultVar.tmp 2] := by kernel_rfl
theorem tr136 : Try.f136.results.toList = [ResultVar.tmp 4, ResultVar.tmp 5] := by kernel_rfl
theorem tr137 : Try.f137.results.toList = [] := by kernel_rfl
theorem tr138 : Try.f138.results.toList = [ResultVar.tmp 2] := by kernel_rfl
theorem tr139 : Try.f139.results.toList = [ResultVar.tmp 4] := by kernel_rfl
theorem tr140 : Try.f140.results.toList = [ResultVar.tmp 4] := by kernel_rfl
theorem tr141 : Try.f141.results.toList = [] := by kernel_rfl
theorem tr142 : Try.f142.results.toList = [] := by kernel_rfl
theorem tr143 : Try.f143.results.toList = [] := by kernel_rfl
theorem tr144 : Try.f144.results.toList = [ResultVar.tmp 8, ResultVar.tmp 9] := by kernel_rfl
theorem tr145 : Try.f145.results.toList = [] := by kernel_rfl
theorem tr146 : Try.f146.results.toList = [ResultVar.tmp 8] := by kernel_rfl
theorem tr147 : Try.f147.results.toList = [ResultVar.tmp 10] := by kernel_rfl
theorem tr148 : Try.f148.results.toList = [ResultVar.tmp 10, ResultVar.tmp 11] := by kernel_rfl
theorem tr149 : Try.f149.results.toList = [ResultVar.tmp 2] := by kernel_rfl
theorem tr150 : Try.f150.results.toList = [ResultVar.tmp 2] := by kernel_rfl
theorem tr151 : Try.f151.results.toList = [ResultVar.tmp 4] := by kernel_rfl
theorem tr152 : Try.f152.results.toList = [ResultVar.tmp 3] := by kernel_rfl
theorem tr154 : Try.f154.results.toList = [ResultVar.tmp 4] := by kernel_rfl
theorem tr155 : Try.f155.results.toList = [] := by kernel_rfl
theorem tr156 : Try.f156.results.toList = [ResultVar.tmp 4] := by kernel_rfl
theorem tr157 : Try.f157.results.toList = [] := by kernel_rfl
theorem tr158 : Try.f158.results.toList = [] := by kernel_rfl
theorem tr159 : Try.f159.results.toList = [] := by kernel_rfl
theorem tr160 : Try.f160.results.toList = [ResultVar.tmp 2] := by kernel_rfl
theorem tr161 : Try.f161.results.toList = [ResultVar.tmp 2] := by kernel_rfl
theorem tr162 : Try.f162.results.toList = [ResultVar.tmp 8] := by kernel_rfl
theorem tr163 : Try.f163.results.toList = [ResultVar.tmp 12] := by kernel_rfl
theorem tr164 : Try.f164.results.toList = [] := by kernel_rfl
theorem tr165 : Try.f165.results.toList = [] := by kernel_rfl
theorem tr166 : Try.f166.results.toList = [] := by kernel_rfl
theorem tr167 : Try.f167.results.toList = [ResultVar.tmp 6, ResultVar.tmp 7] := by kernel_rfl
theorem tr168 : Try.f168.results.toList = [] := by kernel_rfl
theorem tr169 : Try.f169.results.toList = [ResultVar.tmp 6] := by kernel_rfl
theorem tr170 : Try.f170.results.toList = [ResultVar.tmp 4] := by kernel_rfl
theorem tr171 : Try.f171.results.toList = [ResultVar.tmp 8] := by kernel_rfl
theorem tr172 : Try.f172.results.toList = [ResultVar.tmp 8, ResultVar.tmp 9] := by kernel_rfl
theorem tr173 : Try.f173.results.toList = [] := by kernel_rfl
theorem tr174 : Try.f174.results.toList = [] := by kernel_rfl
theorem tr175 : Try.f175.results.toList = [] := by kernel_rfl
theorem tr176 : Try.f176.results.toList = [] := by kernel_rfl
theorem tr177 : Try.f177.results.toList = [ResultVar.tmp 6, ResultVar.tmp 7] := by kernel_rfl
theorem tr178 : Try.f178.results.toList = [] := by kernel_rfl
theorem tr179 : Try.f179.results.toList = [ResultVar.tmp 6] := by kernel_rfl
theorem tr180 : Try.f180.results.toList = [ResultVar.tmp 4] := by kernel_rfl
theorem tr181 : Try.f181.results.toList = [ResultVar.tmp 8] := by kernel_rfl
theorem tr182 : Try.f182.results.toList = [ResultVar.tmp 8, ResultVar.tmp 9] := by kernel_rfl
theorem tr183 : Try.f183.results.toList = [ResultVar.tmp 10, ResultVar.tmp 11] := by kernel_rfl
theorem tr184 : Try.f184.results.toList = [] := by kernel_rfl
theorem tr185 : Try.f185.results.toList = [ResultVar.tmp 6] := by kernel_rfl
theorem tr186 : Try.f186.results.toList = [ResultVar.tmp 10] := by kernel_rfl
theorem tr187 : Try.f187.results.toList = [ResultVar.tmp 2] := by kernel_rfl
theorem tr189 : Try.f189.results.toList = [] := by kernel_rfl
theorem tr190 : Try.f190.results.toList = [ResultVar.tmp 6] := by kernel_rfl
theorem tr191 : Try.f191.results.toList = [ResultVar.tmp 10] := by kernel_rfl
theorem tr192 : Try.f192.results.toList = [ResultVar.tmp 8, ResultVar.tmp 9] := by kernel_rfl
theorem tr193 : Try.f193.results.toList = [ResultVar.tmp 8, ResultVar.tmp 9] := by kernel_rfl
attribute [go_sem] ts3 tb3 tg3 tz3 ta3 tl3 ti3 tt3 tq3 tn3 tp3 tu3 ts4 tb4 tg4 tz4 ta4 tl4 ti4 tt4
attribute [go_sem] tq4 tn4 tp4 tu4 ts5 tb5 tg5 tz5 ta5 tl5 ti5 tt5 tq5 tn5 tp5 tu5 ts9 tb9 tg9 tz9
attribute [go_sem] ta9 tl9 ti9 tt9 tq9 tn9 tp9 tu9 ts21 tb21 tg21 tz21 ta21 tl21 ti21 tt21 tq21 tn21 tp21 tu21
attribute [go_sem] ts22 tb22 tg22 tz22 ta22 tl22 ti22 tt22 tq22 tn22 tp22 tu22 ts25 tb25 tg25 tz25 ta25 tl25 ti25 tt25
attribute [go_sem] tq25 tn25 tp25 tu25 ts26 tb26 tg26 tz26 ta26 tl26 ti26 tt26 tq26 tn26 tp26 tu26 ts29 tb29 tg29 tz29
attribute [go_sem] ta29 tl29 ti29 tt29 tq29 tn29 tp29 tu29 ts31 tb31 tg31 tz31 ta31 tl31 ti31 tt31 tq31 tn31 tf31_0 tf31_1
attribute [go_sem] tf31_2 tp31 ts33 tb33 tg33 tz33 ta33 tl33 ti33 tt33 tq33 tn33 tp33 tu33 ts35 tb35 tg35 tz35 ta35 tl35
attribute [go_sem] ti35 tt35 tq35 tn35 tf35_0 tf35_1 tf35_2 tp35 ts42 tb42 tg42 tz42 ta42 tl42 ti42 tt42 tq42 tn42 tp42 tu42
attribute [go_sem] ts44 tb44 tg44 tz44 ta44 tl44 ti44 tt44 tq44 tn44 tp44 tu44 ts46 tb46 tg46 tz46 ta46 tl46 ti46 tt46
attribute [go_sem] tq46 tn46 tp46 tu46 ts50 tb50 tg50 tz50 ta50 tl50 ti50 tt50 tq50 tn50 tp50 tu50 ts52 tb52 tg52 tz52
attribute [go_sem] ta52 tl52 ti52 tt52 tq52 tn52 tf52_0 tf52_1 tp52 tv52 te52 ts64 tb64 tg64 tz64 ta64 tl64 ti64 tt64 tq64
attribute [go_sem] tn64 tp64 tu64 ts66 tb66 tg66 tz66 ta66 tl66 ti66 tt66 tq66 tn66 tp66 tu66 ts69 tb69 tg69 tz69 ta69
attribute [go_sem] tl69 ti69 tt69 tq69 tn69 tf69_0 tf69_1 tp69 tv69 te69 ts71 tb71 tg71 tz71 ta71 tl71 ti71 tt71 tq71 tn71
attribute [go_sem] tp71 ts73 tb73 tg73 tz73 ta73 tl73 ti73 tt73 tq73 tn73 tf73_0 tf73_1 tf73_2 tf73_3 tf73_4 tf73_5 tf73_6 tp73 ts76
attribute [go_sem] tb76 tg76 tz76 ta76 tl76 ti76 tt76 tq76 tn76 tp76 ts78 tb78 tg78 tz78 ta78 tl78 ti78 tt78 tq78 tn78
attribute [go_sem] tp78 tu78 ts81 tb81 tg81 tz81 ta81 tl81 ti81 tt81 tq81 tn81 tf81_0 tf81_1 tp81 tv81 te81 ts85 tb85 tg85
attribute [go_sem] tz85 ta85 tl85 ti85 tt85 tq85 tn85 tf85_0 tf85_1 tf85_2 tf85_3 tp85 tv85 te85 ts86 tb86 tg86 tz86 ta86 tl86
attribute [go_sem] ti86 tt86 tq86 tn86 tp86 ts88 tb88 tg88 tz88 ta88 tl88 ti88 tt88 tq88 tn88 tf88_0 tf88_1 tp88 ts90 tb90
attribute [go_sem] tg90 tz90 ta90 tl90 ti90 tt90 tq90 tn90 tf90_0 tf90_1 tf90_2 tf90_3 tf90_4 tf90_5 tp90 ts93 tb93 tg93 tz93 ta93
attribute [go_sem] tl93 ti93 tt93 tq93 tn93 tf93_0 tf93_1 tf93_2 tf93_3 tp93 tv93 te93 ts104 tb104 tg104 tz104 ta104 tl104 ti104 tt104
attribute [go_sem] tq104 tn104 tf104_0 tf104_1 tp104 ts108 tb108 tg108 tz108 ta108 tl108 ti108 tt108 tq108 tn108 tp108 ts113 tb113 tg113 tz113
attribute [go_sem] ta113 tl113 ti113 tt113 tq113 tn113 tp113 ts120 tb120 tg120 tz120 ta120 tl120 ti120 tt120 tq120 tn120 tp120 tu120 ts121
attribute [go_sem] tb121 tg121 tz121 ta121 tl121 ti121 tt121 tq121 tn121 tp121 tu121 ts123 tb123 tg123 tz123 ta123 tl123 ti123 tt123 tq123
attribute [go_sem] tn123 tf123_0 tf123_1 tp123 ts133 tb133 tg133 tz133 ta133 tl133 ti133 tt133 tq133 tn133 tp133 ts137 tb137 tg137 tz137 ta137
attribute [go_sem] tl137 ti137 tt137 tq137 tn137 tp137 tu137 ts139 tb139 tg139 tz139 ta139 tl139 ti139 tt139 tq139 tn139 tf139_0 tp139 tv139
attribute [go_sem] te139 ts141 tb141 tg141 tz141 ta141 tl141 ti141 tt141 tq141 tn141 tf141_0 tf141_1 tp141 tv141 te141 ts144 tb144 tg144 tz144
attribute [go_sem] ta144 tl144 ti144 tt144 tq144 tn144 tp144 tu144 ts151 tb151 tg151 tz151 ta151 tl151 ti151 tt151 tq151 tn151 tp151 ts161
attribute [go_sem] tb161 tg161 tz161 ta161 tl161 ti161 tt161 tq161 tn161 tp161 ts164 tb164 tg164 tz164 ta164 tl164 ti164 tt164 tq164 tn164
attribute [go_sem] tp164 tu164 ts166 tb166 tg166 tz166 ta166 tl166 ti166 tt166 tq166 tn166 tp166 tu166 ts170 tb170 tg170 tz170 ta170 tl170
attribute [go_sem] ti170 tt170 tq170 tn170 tp170 tu170 ts173 tb173 tg173 tz173 ta173 tl173 ti173 tt173 tq173 tn173 tp173 tu173 ts174 tb174
attribute [go_sem] tg174 tz174 ta174 tl174 ti174 tt174 tq174 tn174 tp174 tu174 ts187 tb187 tg187 tz187 ta187 tl187 ti187 tt187 tq187 tn187
attribute [go_sem] tp187 tu187 ts189 tb189 tg189 tz189 ta189 tl189 ti189 tt189 tq189 tn189 tp189 ts196 tb196 tg196 tz196 ta196 tl196 ti196
attribute [go_sem] tt196 tq196 tn196 tp196 tu196 ts200 tb200 tg200 tz200 ta200 tl200 ti200 tt200 tq200 tn200 tp200 tu200 tw22 tw29 tw33
attribute [go_sem] tw42 tw66 tw78 tw121 tw174 tc6 tc7 tc8 tc9 tc10 tc11 tc12 tc13 tc14 tc15 tc16 tc17 tc18 tc19 tc20
attribute [go_sem] tc21 tc22 tc23 tc24 tc25 tc26 tc27 tc28 tc29 tc30 tc31 tc32 tc33 tc34 tc35 tc37 tc39 tc41 tc43 tc45
attribute [go_sem] tc46 tc47 tc48 tc49 tc50 tc51 tc52 tc53 tc54 tc55 tc56 tc57 tc58 tc59 tc62 tc63 tc64 tc65 tc66 tc67
attribute [go_sem] tc68 tc69 tc70 tc71 tc72 tc73 tc74 tc75 tc76 tc77 tc78 tc79 tc80 tc81 tc82 tc83 tc84 tc85 tc86 tc87
attribute [go_sem] tc88 tc89 tc90 tc91 tc92 tc93 tc94 tc95 tc96 tc97 tc98 tc99 tc100 tc101 tc102 tc103 tc104 tc105 tc106 tc107
attribute [go_sem] tc108 tc110 tc111 tc112 tc113 tc114 tc115 tc116 tc117 tc118 tc119 tc120 tc121 tc122 tc123 tc124 tc125 tc127 tc128 tc129
attribute [go_sem] tc130 tc132 tc133 tc134 tc135 tc136 tc137 tc138 tc139 tc140 tc141 tc142 tc143 tc144 tc145 tc146 tc147 tc148 tc149 tc150
attribute [go_sem] tc151 tc154 tc155 tc156 tc157 tc158 tc159 tc160 tc161 tc162 tc163 tc164 tc165 tc166 tc167 tc168 tc169 tc170 tc171 tc172
attribute [go_sem] tc173 tc174 tc175 tc176 tc177 tc178 tc179 tc180 tc181 tc182 tc183 tc184 tc185 tc186 tc187 tc189 tc190 tc191 tc192 tc193
attribute [go_sem] tr2 tr3 tr4 tr5 tr6 tr7 tr8 tr9 tr10 tr11 tr12 tr13 tr14 tr15 tr16 tr17 tr18 tr19 tr20 tr21
attribute [go_sem] tr22 tr23 tr24 tr25 tr26 tr27 tr28 tr29 tr30 tr31 tr32 tr33 tr34 tr35 tr36 tr37 tr38 tr39 tr40 tr41
attribute [go_sem] tr42 tr43 tr44 tr45 tr46 tr47 tr48 tr49 tr50 tr51 tr52 tr53 tr54 tr55 tr56 tr57 tr58 tr59 tr60 tr61
attribute [go_sem] tr62 tr63 tr64 tr65 tr66 tr67 tr68 tr69 tr70 tr71 tr72 tr73 tr74 tr75 tr76 tr77 tr78 tr79 tr80 tr81
attribute [go_sem] tr82 tr83 tr84 tr85 tr86 tr87 tr88 tr89 tr90 tr91 tr92 tr93 tr94 tr95 tr96 tr97 tr98 tr99 tr100 tr101
attribute [go_sem] tr102 tr103 tr104 tr105 tr106 tr107 tr108 tr109 tr110 tr111 tr112 tr113 tr114 tr115 tr116 tr117 tr118 tr119 tr120 tr121
attribute [go_sem] tr122 tr123 tr124 tr125 tr126 tr127 tr128 tr129 tr130 tr131 tr132 tr133 tr134 tr135 tr136 tr137 tr138 tr139 tr140 tr141
attribute [go_sem] tr142 tr143 tr144 tr145 tr146 tr147 tr148 tr149 tr150 tr151 tr152 tr154 tr155 tr156 tr157 tr158 tr159 tr160 tr161 tr162
attribute [go_sem] tr163 tr164 tr165 tr166 tr167 tr168 tr169 tr170 tr171 tr172 tr173 tr174 tr175 tr176 tr177 tr178 tr179 tr180 tr181 tr182
attribute [go_sem] tr183 tr184 tr185 tr186 tr187 tr189 tr190 tr191 tr192 tr193
end Go.Proofs.Yteclkehnppeobaa.AL
