import Derived.Test.YtglmofbcooefkaaDoorG4
/- The document's configuration. -/
namespace Go.Proofs.YtglmofbcooefkaaDoor.AL
set_option linter.unusedVariables false
set_option linter.unusedSimpArgs false
set_option maxRecDepth 100000
open Go
open Go.Proofs.Tryd
-- chainman/chainmanref23.Fits: function 59
noncomputable def Echainmanref23_Fits : XE := { T := tabOf [(3, r3), (4, r4)], C := [], D := [], Ms := [], Ml := [], Mo := [(1006, [0, 1, 10]), (1010, [0, 1, 14]), (1014, [0, 1, 18]), (1021, [25])], n := 26 }
theorem Echainmanref23_Fits_ok : XE.Ok Echainmanref23_Fits Tryd.prog := ⟨tabOf_ok (⟨r3_ok, ⟨r4_ok, trivial⟩⟩), trivial⟩
noncomputable def c59 : Code := bodyOf f59
noncomputable def S_chainmanref23_Fits (eps0 : Int) (w1 : Int) (h : AHeap) : Option (AVal × AHeap) := xfun Echainmanref23_Fits f59 [(.lit (.int .i64 eps0)), (.lit (.int .i64 w1))] h
noncomputable def S_chainmanref23_Fits_0 (eps0 : Int) (w1 : Int) (t10 : Bool) (h : AHeap) : Option (AVal × AHeap) := jo Echainmanref23_Fits 1 (rops (ca (cb c59))) ((rops (ca (cb c59))).toList.drop 6) 6 [(0, (.lit (.int .i64 eps0))), (1, (.lit (.int .i64 w1))), (10, (.lit (.bool t10)))] h (kN (kSeq Echainmanref23_Fits (cb (cb c59)) (xend Echainmanref23_Fits f59)))
noncomputable def S_chainmanref23_Fits_1 (eps0 : Int) (w1 : Int) (t14 : Bool) (h : AHeap) : Option (AVal × AHeap) := jo Echainmanref23_Fits 1 (rops (ca (cb c59))) ((rops (ca (cb c59))).toList.drop 10) 10 [(0, (.lit (.int .i64 eps0))), (1, (.lit (.int .i64 w1))), (14, (.lit (.bool t14)))] h (kN (kSeq Echainmanref23_Fits (cb (cb c59)) (xend Echainmanref23_Fits f59)))
noncomputable def S_chainmanref23_Fits_2 (eps0 : Int) (w1 : Int) (t18 : Bool) (h : AHeap) : Option (AVal × AHeap) := jo Echainmanref23_Fits 1 (rops (ca (cb c59))) ((rops (ca (cb c59))).toList.drop 14) 14 [(0, (.lit (.int .i64 eps0))), (1, (.lit (.int .i64 w1))), (18, (.lit (.bool t18)))] h (kN (kSeq Echainmanref23_Fits (cb (cb c59)) (xend Echainmanref23_Fits f59)))
noncomputable def S_chainmanref23_Fits_3 (t25 : Bool) (h : AHeap) : Option (AVal × AHeap) := jo Echainmanref23_Fits 1 (rops (ca (cb c59))) ((rops (ca (cb c59))).toList.drop 21) 21 [(25, (.lit (.bool t25)))] h (kN (kSeq Echainmanref23_Fits (cb (cb c59)) (xend Echainmanref23_Fits f59)))
theorem S_chainmanref23_Fits_eq (eps0 : Int) (w1 : Int) (h : AHeap) : S_chainmanref23_Fits eps0 w1 h =
 bif (decide (w1 ≥ 1)) then (S_chainmanref23_Fits_0 eps0 w1 (decide (w1 ≤ 2147483648)) h)
 else (S_chainmanref23_Fits_0 eps0 w1 false h) := by kernel_rfl
theorem S_chainmanref23_Fits_0_eq (eps0 : Int) (w1 : Int) (t10 : Bool) (h : AHeap) : S_chainmanref23_Fits_0 eps0 w1 t10 h =
 bif t10 then (S_chainmanref23_Fits_1 eps0 w1 (decide (eps0 ≥ 0)) h)
 else (S_chainmanref23_Fits_1 eps0 w1 false h) := (jo_eq ..).trans (by kernel_rfl)
theorem S_chainmanref23_Fits_1_eq (eps0 : Int) (w1 : Int) (t14 : Bool) (h : AHeap) : S_chainmanref23_Fits_1 eps0 w1 t14 h =
 bif t14 then (S_chainmanref23_Fits_2 eps0 w1 (decide (eps0 ≤ 4611686018427387904)) h)
 else (S_chainmanref23_Fits_2 eps0 w1 false h) := (jo_eq ..).trans (by kernel_rfl)
theorem S_chainmanref23_Fits_2_eq (eps0 : Int) (w1 : Int) (t18 : Bool) (h : AHeap) : S_chainmanref23_Fits_2 eps0 w1 t18 h =
 bif t18 then (S_chainmanref23_Fits_3 (decide ((IntKind.wrap .i64 (w1 * w1)) ≥ eps0)) h)
 else (S_chainmanref23_Fits_3 false h) := (jo_eq ..).trans (by kernel_rfl)
theorem S_chainmanref23_Fits_3_eq (t25 : Bool) (h : AHeap) : S_chainmanref23_Fits_3 t25 h =
 some ((.lit (.bool t25)), h) := (jo_eq ..).trans (by kernel_rfl)
theorem S_chainmanref23_Fits_ends {eps0 : Int} {w1 : Int} {h h' : AHeap} {v : AVal} {R : AEnd → AHeap → Prop} (hx : S_chainmanref23_Fits eps0 w1 h = some (v, h')) (hR : HOk h → h.length ≤ h'.length → ABody.AEnds h h' (.ret v) R) : ACalls Tryd.prog 59 [(.lit (.int .i64 eps0)), (.lit (.int .i64 w1))] h R := xfun_ends Echainmanref23_Fits_ok tmix (i := 59) (by rfl) (by kernel_rfl) (by kernel_rfl) hx hR
noncomputable def w_chainmanref23_Fits : XC := .q fun R args h K => match args with
  | [.lit (.int .i64 a0), .lit (.int .i64 a1)] => (onlyR (S_chainmanref23_Fits a0 a1 h) h).bind fun r => K r
  | _ => none
theorem w_chainmanref23_Fits_ok : XC.Nat w_chainmanref23_Fits ∧ XC.Ok Tryd.prog 59 w_chainmanref23_Fits := by
  refine ⟨fun R args h K => ?_, tc59, fun args h v hx => ?_⟩
  · dsimp only; split <;> simp [Option.bind_assoc, mkP]
  · dsimp only at hx; split at hx
    · obtain ⟨r, hopt, hx⟩ := Option.bind_eq_some_iff.1 hx
      cases hx
      exact (by have hopt := onlyR_some hopt; exact S_chainmanref23_Fits_ends hopt selfR)
    · cases hx
-- chainman/chainmanref32.Right: function 60
noncomputable def Echainmanref32_Right : XE := { T := tabOf [(3, r3), (4, r4), (23, r23)], C := [], D := [], Ms := [], Ml := [], Mo := [(1008, [1, 10]), (1013, [1, 15]), (1018, [1, 20]), (1023, [1, 25]), (1028, [1, 30]), (1033, [1, 35]), (1038, [40])], n := 41 }
theorem Echainmanref32_Right_ok : XE.Ok Echainmanref32_Right Tryd.prog := ⟨tabOf_ok (⟨r3_ok, ⟨r4_ok, ⟨r23_ok, trivial⟩⟩⟩), trivial⟩
noncomputable def c60 : Code := bodyOf f60
noncomputable def S_chainmanref32_Right (c0 : List AVal) (h : AHeap) : Option (AVal × AHeap) := xfun Echainmanref32_Right f60 [(.agg c0)] h
noncomputable def S_chainmanref32_Right_0 (c1 : Nat) (t10 : Bool) (h : AHeap) : Option (AVal × AHeap) := jo Echainmanref32_Right 1 (rops (ca (cb c60))) ((rops (ca (cb c60))).toList.drop 8) 8 [(1, (.ptr c1 0)), (10, (.lit (.bool t10)))] h (kN (kSeq Echainmanref32_Right (cb (cb c60)) (xend Echainmanref32_Right f60)))
noncomputable def S_chainmanref32_Right_1 (c1 : Nat) (t15 : Bool) (h : AHeap) : Option (AVal × AHeap) := jo Echainmanref32_Right 1 (rops (ca (cb c60))) ((rops (ca (cb c60))).toList.drop 13) 13 [(1, (.ptr c1 0)), (15, (.lit (.bool t15)))] h (kN (kSeq Echainmanref32_Right (cb (cb c60)) (xend Echainmanref32_Right f60)))
noncomputable def S_chainmanref32_Right_2 (c1 : Nat) (t20 : Bool) (h : AHeap) : Option (AVal × AHeap) := jo Echainmanref32_Right 1 (rops (ca (cb c60))) ((rops (ca (cb c60))).toList.drop 18) 18 [(1, (.ptr c1 0)), (20, (.lit (.bool t20)))] h (kN (kSeq Echainmanref32_Right (cb (cb c60)) (xend Echainmanref32_Right f60)))
noncomputable def S_chainmanref32_Right_3 (c1 : Nat) (t25 : Bool) (h : AHeap) : Option (AVal × AHeap) := jo Echainmanref32_Right 1 (rops (ca (cb c60))) ((rops (ca (cb c60))).toList.drop 23) 23 [(1, (.ptr c1 0)), (25, (.lit (.bool t25)))] h (kN (kSeq Echainmanref32_Right (cb (cb c60)) (xend Echainmanref32_Right f60)))
noncomputable def S_chainmanref32_Right_4 (c1 : Nat) (t30 : Bool) (h : AHeap) : Option (AVal × AHeap) := jo Echainmanref32_Right 1 (rops (ca (cb c60))) ((rops (ca (cb c60))).toList.drop 28) 28 [(1, (.ptr c1 0)), (30, (.lit (.bool t30)))] h (kN (kSeq Echainmanref32_Right (cb (cb c60)) (xend Echainmanref32_Right f60)))
noncomputable def S_chainmanref32_Right_5 (c1 : Nat) (t35 : Bool) (h : AHeap) : Option (AVal × AHeap) := jo Echainmanref32_Right 1 (rops (ca (cb c60))) ((rops (ca (cb c60))).toList.drop 33) 33 [(1, (.ptr c1 0)), (35, (.lit (.bool t35)))] h (kN (kSeq Echainmanref32_Right (cb (cb c60)) (xend Echainmanref32_Right f60)))
noncomputable def S_chainmanref32_Right_6 (t40 : Bool) (h : AHeap) : Option (AVal × AHeap) := jo Echainmanref32_Right 1 (rops (ca (cb c60))) ((rops (ca (cb c60))).toList.drop 38) 38 [(40, (.lit (.bool t40)))] h (kN (kSeq Echainmanref32_Right (cb (cb c60)) (xend Echainmanref32_Right f60)))
theorem S_chainmanref32_Right_eq (c0 : List AVal) (h : AHeap) : S_chainmanref32_Right c0 h =
 (ld1 ((psh h (.cells c0))) (.ptr h.length 3)).bind fun x1 =>
 (asI .i64 x1).bind fun n2 =>
 bif (decide (n2 ≥ 1)) then ((ld1 ((psh h (.cells c0))) (.ptr h.length 3)).bind fun x3 =>
 (asI .i64 x3).bind fun n4 =>
 S_chainmanref32_Right_0 h.length (decide (n4 ≤ 64)) ((psh h (.cells c0))))
 else (S_chainmanref32_Right_0 h.length false ((psh h (.cells c0)))) := by kernel_rfl
theorem S_chainmanref32_Right_0_eq (c1 : Nat) (t10 : Bool) (h : AHeap) : S_chainmanref32_Right_0 c1 t10 h =
 bif t10 then ((ld1 h (.ptr c1 4)).bind fun x5 =>
 (asI .i64 x5).bind fun n6 =>
 S_chainmanref32_Right_1 c1 (decide (n6 ≥ 1)) h)
 else (S_chainmanref32_Right_1 c1 false h) := (jo_eq ..).trans (by kernel_rfl)
theorem S_chainmanref32_Right_1_eq (c1 : Nat) (t15 : Bool) (h : AHeap) : S_chainmanref32_Right_1 c1 t15 h =
 bif t15 then ((ld1 h (.ptr c1 4)).bind fun x7 =>
 (asI .i64 x7).bind fun n8 =>
 S_chainmanref32_Right_2 c1 (decide (n8 ≤ 1000)) h)
 else (S_chainmanref32_Right_2 c1 false h) := (jo_eq ..).trans (by kernel_rfl)
theorem S_chainmanref32_Right_2_eq (c1 : Nat) (t20 : Bool) (h : AHeap) : S_chainmanref32_Right_2 c1 t20 h =
 bif t20 then ((ld1 h (.ptr c1 6)).bind fun x9 =>
 (asI .i64 x9).bind fun n10 =>
 S_chainmanref32_Right_3 c1 (decide (n10 ≥ 1)) h)
 else (S_chainmanref32_Right_3 c1 false h) := (jo_eq ..).trans (by kernel_rfl)
theorem S_chainmanref32_Right_3_eq (c1 : Nat) (t25 : Bool) (h : AHeap) : S_chainmanref32_Right_3 c1 t25 h =
 bif t25 then ((ld1 h (.ptr c1 6)).bind fun x11 =>
 (asI .i64 x11).bind fun n12 =>
 S_chainmanref32_Right_4 c1 (decide (n12 ≤ 64)) h)
 else (S_chainmanref32_Right_4 c1 false h) := (jo_eq ..).trans (by kernel_rfl)
theorem S_chainmanref32_Right_4_eq (c1 : Nat) (t30 : Bool) (h : AHeap) : S_chainmanref32_Right_4 c1 t30 h =
 bif t30 then ((ld1 h (.ptr c1 7)).bind fun x13 =>
 (asI .i64 x13).bind fun n14 =>
 S_chainmanref32_Right_5 c1 (decide (n14 ≥ 0)) h)
 else (S_chainmanref32_Right_5 c1 false h) := (jo_eq ..).trans (by kernel_rfl)
theorem S_chainmanref32_Right_5_eq (c1 : Nat) (t35 : Bool) (h : AHeap) : S_chainmanref32_Right_5 c1 t35 h =
 bif t35 then ((ld1 h (.ptr c1 7)).bind fun x15 =>
 (asI .i64 x15).bind fun n16 =>
 S_chainmanref32_Right_6 (decide (n16 ≤ 1000)) h)
 else (S_chainmanref32_Right_6 false h) := (jo_eq ..).trans (by kernel_rfl)
theorem S_chainmanref32_Right_6_eq (t40 : Bool) (h : AHeap) : S_chainmanref32_Right_6 t40 h =
 some ((.lit (.bool t40)), h) := (jo_eq ..).trans (by kernel_rfl)
theorem S_chainmanref32_Right_ends {c0 : List AVal} {h h' : AHeap} {v : AVal} {R : AEnd → AHeap → Prop} (hx : S_chainmanref32_Right c0 h = some (v, h')) (hR : HOk h → h.length ≤ h'.length → ABody.AEnds h h' (.ret v) R) : ACalls Tryd.prog 60 [(.agg c0)] h R := xfun_ends Echainmanref32_Right_ok tmix (i := 60) (by rfl) (by kernel_rfl) (by kernel_rfl) hx hR
noncomputable def w_chainmanref32_Right : XC := .l fun R args h K => match args with
  | [.agg a0] => (S_chainmanref32_Right a0 h).bind fun r => K r.1 r.2
  | _ => none
theorem w_chainmanref32_Right_ok : XC.Nat w_chainmanref32_Right ∧ XC.Ok Tryd.prog 60 w_chainmanref32_Right := by
  refine ⟨fun R args h K => ?_, tc60, fun args h v h' hx => ?_⟩
  · dsimp only; split <;> simp [Option.bind_assoc, mkP]
  · dsimp only at hx; split at hx
    · obtain ⟨r, hopt, hx⟩ := Option.bind_eq_some_iff.1 hx
      simp only [mkP, Option.some.injEq, Prod.mk.injEq] at hx
      obtain ⟨rfl, rfl⟩ := hx
      exact (by obtain ⟨v, h'⟩ := r; exact S_chainmanref32_Right_ends hopt selfR)
    · cases hx
-- chainman/chainmanref38.May: function 15
noncomputable def Echainmanref38_May : XE := { T := tabOf [(3, r3), (4, r4), (23, r23)], C := [(59, w_chainmanref23_Fits), (60, w_chainmanref32_Right)], D := [], Ms := [], Ml := [], Mo := [(1009, [1, 11]), (1014, [1, 16]), (1019, [1, 21]), (1024, [1, 26]), (1029, [1, 31]), (1034, [1, 36]), (1039, [41])], n := 42 }
theorem Echainmanref38_May_ok : XE.Ok Echainmanref38_May Tryd.prog := ⟨tabOf_ok (⟨r3_ok, ⟨r4_ok, ⟨r23_ok, trivial⟩⟩⟩), ⟨w_chainmanref23_Fits_ok, ⟨w_chainmanref32_Right_ok, trivial⟩⟩⟩
noncomputable def c15 : Code := bodyOf f15
noncomputable def S_chainmanref38_May (c0 : List AVal) (h : AHeap) : Option (AVal × AHeap) := xfun Echainmanref38_May f15 [(.agg c0)] h
noncomputable def S_chainmanref38_May_0 (c1 : Nat) (t11 : Bool) (h : AHeap) : Option (AVal × AHeap) := jo Echainmanref38_May 1 (rops (ca (cb c15))) ((rops (ca (cb c15))).toList.drop 9) 9 [(1, (.ptr c1 0)), (11, (.lit (.bool t11)))] h (kN (kSeq Echainmanref38_May (cb (cb c15)) (xend Echainmanref38_May f15)))
noncomputable def S_chainmanref38_May_1 (c1 : Nat) (t16 : Bool) (h : AHeap) : Option (AVal × AHeap) := jo Echainmanref38_May 1 (rops (ca (cb c15))) ((rops (ca (cb c15))).toList.drop 14) 14 [(1, (.ptr c1 0)), (16, (.lit (.bool t16)))] h (kN (kSeq Echainmanref38_May (cb (cb c15)) (xend Echainmanref38_May f15)))
noncomputable def S_chainmanref38_May_2 (c1 : Nat) (t21 : Bool) (h : AHeap) : Option (AVal × AHeap) := jo Echainmanref38_May 1 (rops (ca (cb c15))) ((rops (ca (cb c15))).toList.drop 19) 19 [(1, (.ptr c1 0)), (21, (.lit (.bool t21)))] h (kN (kSeq Echainmanref38_May (cb (cb c15)) (xend Echainmanref38_May f15)))
noncomputable def S_chainmanref38_May_3 (c1 : Nat) (t26 : Bool) (h : AHeap) : Option (AVal × AHeap) := jo Echainmanref38_May 1 (rops (ca (cb c15))) ((rops (ca (cb c15))).toList.drop 24) 24 [(1, (.ptr c1 0)), (26, (.lit (.bool t26)))] h (kN (kSeq Echainmanref38_May (cb (cb c15)) (xend Echainmanref38_May f15)))
noncomputable def S_chainmanref38_May_4 (c1 : Nat) (t31 : Bool) (h : AHeap) : Option (AVal × AHeap) := jo Echainmanref38_May 1 (rops (ca (cb c15))) ((rops (ca (cb c15))).toList.drop 29) 29 [(1, (.ptr c1 0)), (31, (.lit (.bool t31)))] h (kN (kSeq Echainmanref38_May (cb (cb c15)) (xend Echainmanref38_May f15)))
noncomputable def S_chainmanref38_May_5 (c1 : Nat) (t36 : Bool) (h : AHeap) : Option (AVal × AHeap) := jo Echainmanref38_May 1 (rops (ca (cb c15))) ((rops (ca (cb c15))).toList.drop 34) 34 [(1, (.ptr c1 0)), (36, (.lit (.bool t36)))] h (kN (kSeq Echainmanref38_May (cb (cb c15)) (xend Echainmanref38_May f15)))
noncomputable def S_chainmanref38_May_6 (t41 : Bool) (h : AHeap) : Option (AVal × AHeap) := jo Echainmanref38_May 1 (rops (ca (cb c15))) ((rops (ca (cb c15))).toList.drop 39) 39 [(41, (.lit (.bool t41)))] h (kN (kSeq Echainmanref38_May (cb (cb c15)) (xend Echainmanref38_May f15)))
theorem S_chainmanref38_May_eq (c0 : List AVal) (h : AHeap) : S_chainmanref38_May c0 h =
 (ld1 ((psh h (.cells c0))) (.ptr h.length 0)).bind fun x1 =>
 (asI .i64 x1).bind fun n2 =>
 (ld1 ((psh h (.cells c0))) (.ptr h.length 1)).bind fun x3 =>
 (asI .i64 x3).bind fun n4 =>
 (onlyR (S_chainmanref23_Fits n2 n4 ((psh h (.cells c0)))) ((psh h (.cells c0)))).bind fun r5 =>
 (asB r5).bind fun b6 =>
 bif b6 then ((ldn 9 ((psh h (.cells c0))) (.ptr h.length 0)).bind fun xs7 =>
 (S_chainmanref32_Right xs7 ((psh h (.cells c0)))).bind fun r8 =>
 (asB r8.1).bind fun b9 =>
 S_chainmanref38_May_0 h.length b9 r8.2)
 else (S_chainmanref38_May_0 h.length false ((psh h (.cells c0)))) := by kernel_rfl
theorem S_chainmanref38_May_0_eq (c1 : Nat) (t11 : Bool) (h : AHeap) : S_chainmanref38_May_0 c1 t11 h =
 bif t11 then ((ld1 h (.ptr c1 8)).bind fun x10 =>
 (asI .i64 x10).bind fun n11 =>
 S_chainmanref38_May_1 c1 (decide (n11 ≥ 1)) h)
 else (S_chainmanref38_May_1 c1 false h) := (jo_eq ..).trans (by kernel_rfl)
theorem S_chainmanref38_May_1_eq (c1 : Nat) (t16 : Bool) (h : AHeap) : S_chainmanref38_May_1 c1 t16 h =
 bif t16 then ((ld1 h (.ptr c1 8)).bind fun x12 =>
 (asI .i64 x12).bind fun n13 =>
 S_chainmanref38_May_2 c1 (decide (n13 ≤ 128)) h)
 else (S_chainmanref38_May_2 c1 false h) := (jo_eq ..).trans (by kernel_rfl)
theorem S_chainmanref38_May_2_eq (c1 : Nat) (t21 : Bool) (h : AHeap) : S_chainmanref38_May_2 c1 t21 h =
 bif t21 then ((ld1 h (.ptr c1 5)).bind fun x14 =>
 (asI .i64 x14).bind fun n15 =>
 S_chainmanref38_May_3 c1 (decide (n15 ≥ 0)) h)
 else (S_chainmanref38_May_3 c1 false h) := (jo_eq ..).trans (by kernel_rfl)
theorem S_chainmanref38_May_3_eq (c1 : Nat) (t26 : Bool) (h : AHeap) : S_chainmanref38_May_3 c1 t26 h =
 bif t26 then ((ld1 h (.ptr c1 5)).bind fun x16 =>
 (asI .i64 x16).bind fun n17 =>
 S_chainmanref38_May_4 c1 (decide (n17 ≤ 4611686018427387904)) h)
 else (S_chainmanref38_May_4 c1 false h) := (jo_eq ..).trans (by kernel_rfl)
theorem S_chainmanref38_May_4_eq (c1 : Nat) (t31 : Bool) (h : AHeap) : S_chainmanref38_May_4 c1 t31 h =
 bif t31 then ((ld1 h (.ptr c1 2)).bind fun x18 =>
 (asI .i64 x18).bind fun n19 =>
 S_chainmanref38_May_5 c1 (decide (n19 ≥ 0)) h)
 else (S_chainmanref38_May_5 c1 false h) := (jo_eq ..).trans (by kernel_rfl)
theorem S_chainmanref38_May_5_eq (c1 : Nat) (t36 : Bool) (h : AHeap) : S_chainmanref38_May_5 c1 t36 h =
 bif t36 then ((ld1 h (.ptr c1 2)).bind fun x20 =>
 (asI .i64 x20).bind fun n21 =>
 S_chainmanref38_May_6 (decide (n21 ≤ 1048576)) h)
 else (S_chainmanref38_May_6 false h) := (jo_eq ..).trans (by kernel_rfl)
theorem S_chainmanref38_May_6_eq (t41 : Bool) (h : AHeap) : S_chainmanref38_May_6 t41 h =
 some ((.lit (.bool t41)), h) := (jo_eq ..).trans (by kernel_rfl)
theorem S_chainmanref38_May_ends {c0 : List AVal} {h h' : AHeap} {v : AVal} {R : AEnd → AHeap → Prop} (hx : S_chainmanref38_May c0 h = some (v, h')) (hR : HOk h → h.length ≤ h'.length → ABody.AEnds h h' (.ret v) R) : ACalls Tryd.prog 15 [(.agg c0)] h R := xfun_ends Echainmanref38_May_ok tmix (i := 15) (by rfl) (by kernel_rfl) (by kernel_rfl) hx hR
noncomputable def w_chainmanref38_May : XC := .l fun R args h K => match args with
  | [.agg a0] => (S_chainmanref38_May a0 h).bind fun r => K r.1 r.2
  | _ => none
theorem w_chainmanref38_May_ok : XC.Nat w_chainmanref38_May ∧ XC.Ok Tryd.prog 15 w_chainmanref38_May := by
  refine ⟨fun R args h K => ?_, tc15, fun args h v h' hx => ?_⟩
  · dsimp only; split <;> simp [Option.bind_assoc, mkP]
  · dsimp only at hx; split at hx
    · obtain ⟨r, hopt, hx⟩ := Option.bind_eq_some_iff.1 hx
      simp only [mkP, Option.some.injEq, Prod.mk.injEq] at hx
      obtain ⟨rfl, rfl⟩ := hx
      exact (by obtain ⟨v, h'⟩ := r; exact S_chainmanref38_May_ends hopt selfR)
    · cases hx
-- chainman/chainmanref38.Keys: function 61
noncomputable def Echainmanref38_Keys : XE := { T := tabOf [(9, r9), (33, r33)], C := [], D := [], Ms := [], Ml := [], Mo := [], n := 2 }
theorem Echainmanref38_Keys_ok : XE.Ok Echainmanref38_Keys Tryd.prog := ⟨tabOf_ok (⟨r9_ok, ⟨r33_ok, trivial⟩⟩), trivial⟩
noncomputable def c61 : Code := bodyOf f61
noncomputable def S_chainmanref38_Keys  (h : AHeap) : Option (AVal × AHeap) := xfun Echainmanref38_Keys f61 [] h
theorem S_chainmanref38_Keys_eq  (h : AHeap) : S_chainmanref38_Keys  h =
 (blitS 1 [(.lit (.string ({ data := #[] })))] 9 [(0, (.lit (.string (⟨#[101, 112, 115]⟩ : ByteArray)))), (1, (.lit (.string (⟨#[119, 105, 100, 116, 104]⟩ : ByteArray)))), (2, (.lit (.string (⟨#[98, 117, 100, 103, 101, 116]⟩ : ByteArray)))), (3, (.lit (.string (⟨#[107]⟩ : ByteArray)))), (4, (.lit (.string (⟨#[114, 104, 111]⟩ : ByteArray)))), (5, (.lit (.string (⟨#[115, 101, 101, 100]⟩ : ByteArray)))), (6, (.lit (.string (⟨#[114, 111, 117, 110, 100, 115]⟩ : ByteArray)))), (7, (.lit (.string (⟨#[100, 101, 108, 116, 97]⟩ : ByteArray)))), (8, (.lit (.string (⟨#[100, 101, 103, 114, 101, 101]⟩ : ByteArray))))] h).bind fun r1 =>
 some (r1.1, r1.2) := by kernel_rfl
theorem S_chainmanref38_Keys_ends  {h h' : AHeap} {v : AVal} {R : AEnd → AHeap → Prop} (hx : S_chainmanref38_Keys  h = some (v, h')) (hR : HOk h → h.length ≤ h'.length → ABody.AEnds h h' (.ret v) R) : ACalls Tryd.prog 61 [] h R := xfun_ends Echainmanref38_Keys_ok tmix (i := 61) (by rfl) (by kernel_rfl) (by kernel_rfl) hx hR
noncomputable def w_chainmanref38_Keys : XC := .l fun R args h K => match args with
  | [] => (S_chainmanref38_Keys  h).bind fun r => K r.1 r.2
  | _ => none
theorem w_chainmanref38_Keys_ok : XC.Nat w_chainmanref38_Keys ∧ XC.Ok Tryd.prog 61 w_chainmanref38_Keys := by
  refine ⟨fun R args h K => ?_, tc61, fun args h v h' hx => ?_⟩
  · dsimp only; split <;> simp [Option.bind_assoc, mkP]
  · dsimp only at hx; split at hx
    · obtain ⟨r, hopt, hx⟩ := Option.bind_eq_some_iff.1 hx
      simp only [mkP, Option.some.injEq, Prod.mk.injEq] at hx
      obtain ⟨rfl, rfl⟩ := hx
      exact (by obtain ⟨v, h'⟩ := r; exact S_chainmanref38_Keys_ends hopt selfR)
    · cases hx
-- chainman/chainmanref38.Numbers: function 62
noncomputable def Echainmanref38_Numbers : XE := { T := tabOf [(3, r3), (23, r23), (49, r49)], C := [], D := [], Ms := [], Ml := [], Mo := [], n := 22 }
theorem Echainmanref38_Numbers_ok : XE.Ok Echainmanref38_Numbers Tryd.prog := ⟨tabOf_ok (⟨r3_ok, ⟨r23_ok, ⟨r49_ok, trivial⟩⟩⟩), trivial⟩
noncomputable def c62 : Code := bodyOf f62
noncomputable def S_chainmanref38_Numbers (c0 : List AVal) (h : AHeap) : Option (AVal × AHeap) := xfun Echainmanref38_Numbers f62 [(.agg c0)] h
theorem S_chainmanref38_Numbers_eq (c0 : List AVal) (h : AHeap) : S_chainmanref38_Numbers c0 h =
 (ld1 ((psh h (.cells c0))) (.ptr h.length 0)).bind fun x1 =>
 (asI .i64 x1).bind fun n2 =>
 (ld1 ((psh h (.cells c0))) (.ptr h.length 1)).bind fun x3 =>
 (asI .i64 x3).bind fun n4 =>
 (ld1 ((psh h (.cells c0))) (.ptr h.length 2)).bind fun x5 =>
 (asI .i64 x5).bind fun n6 =>
 (ld1 ((psh h (.cells c0))) (.ptr h.length 3)).bind fun x7 =>
 (asI .i64 x7).bind fun n8 =>
 (ld1 ((psh h (.cells c0))) (.ptr h.length 4)).bind fun x9 =>
 (asI .i64 x9).bind fun n10 =>
 (ld1 ((psh h (.cells c0))) (.ptr h.length 5)).bind fun x11 =>
 (asI .i64 x11).bind fun n12 =>
 (ld1 ((psh h (.cells c0))) (.ptr h.length 6)).bind fun x13 =>
 (asI .i64 x13).bind fun n14 =>
 (ld1 ((psh h (.cells c0))) (.ptr h.length 7)).bind fun x15 =>
 (asI .i64 x15).bind fun n16 =>
 (ld1 ((psh h (.cells c0))) (.ptr h.length 8)).bind fun x17 =>
 (asI .i64 x17).bind fun n18 =>
 (blitS 1 [(.lit (.int .i64 0))] 9 [(0, (.lit (.int .i64 n2))), (1, (.lit (.int .i64 n4))), (2, (.lit (.int .i64 n6))), (3, (.lit (.int .i64 n8))), (4, (.lit (.int .i64 n10))), (5, (.lit (.int .i64 n12))), (6, (.lit (.int .i64 n14))), (7, (.lit (.int .i64 n16))), (8, (.lit (.int .i64 n18)))] ((psh h (.cells c0)))).bind fun r19 =>
 some (r19.1, r19.2) := by kernel_rfl
theorem S_chainmanref38_Numbers_ends {c0 : List AVal} {h h' : AHeap} {v : AVal} {R : AEnd → AHeap → Prop} (hx : S_chainmanref38_Numbers c0 h = some (v, h')) (hR : HOk h → h.length ≤ h'.length → ABody.AEnds h h' (.ret v) R) : ACalls Tryd.prog 62 [(.agg c0)] h R := xfun_ends Echainmanref38_Numbers_ok tmix (i := 62) (by rfl) (by kernel_rfl) (by kernel_rfl) hx hR
noncomputable def w_chainmanref38_Numbers : XC := .l fun R args h K => match args with
  | [.agg a0] => (S_chainmanref38_Numbers a0 h).bind fun r => K r.1 r.2
  | _ => none
theorem w_chainmanref38_Numbers_ok : XC.Nat w_chainmanref38_Numbers ∧ XC.Ok Tryd.prog 62 w_chainmanref38_Numbers := by
  refine ⟨fun R args h K => ?_, tc62, fun args h v h' hx => ?_⟩
  · dsimp only; split <;> simp [Option.bind_assoc, mkP]
  · dsimp only at hx; split at hx
    · obtain ⟨r, hopt, hx⟩ := Option.bind_eq_some_iff.1 hx
      simp only [mkP, Option.some.injEq, Prod.mk.injEq] at hx
      obtain ⟨rfl, rfl⟩ := hx
      exact (by obtain ⟨v, h'⟩ := r; exact S_chainmanref38_Numbers_ends hopt selfR)
    · cases hx
-- chainman/chainmanref38.Of: function 55
noncomputable def Echainmanref38_Of : XE := { T := tabOf [(3, r3), (23, r23), (49, r49)], C := [], D := [(1, ⟨[], [0, 1, 2, 3, 4, 5, 6, 7, 8, 9, 10, 11, 12, 13, 14, 15, 16, 17, 18, 19, 20, 21, 22, 23, 24, 25, 26, 27], [28], [], [], [], []⟩)], Ms := [], Ml := [], Mo := [], n := 31 }
theorem Echainmanref38_Of_ok : XE.Ok Echainmanref38_Of Tryd.prog := ⟨tabOf_ok (⟨r3_ok, ⟨r23_ok, ⟨r49_ok, trivial⟩⟩⟩), trivial⟩
noncomputable def c55 : Code := bodyOf f55
noncomputable def S_chainmanref38_Of (l0 : AVal) (h : AHeap) : Option (AVal × AHeap) := xfun Echainmanref38_Of f55 [l0] h
theorem S_chainmanref38_Of_eq (l0 : AVal) (h : AHeap) : S_chainmanref38_Of l0 h =
 (idxP 1 l0 0).bind fun p1 =>
 (ld1 ((psh h (.cells [(.lit (.int .i64 0)), (.lit (.int .i64 0)), (.lit (.int .i64 0)), (.lit (.int .i64 0)), (.lit (.int .i64 0)), (.lit (.int .i64 0)), (.lit (.int .i64 0)), (.lit (.int .i64 0)), (.lit (.int .i64 0))]))) p1).bind fun x2 =>
 (asI .i64 x2).bind fun n3 =>
 (idxP 1 l0 1).bind fun p4 =>
 (ld1 ((psh h (.cells [(.lit (.int .i64 0)), (.lit (.int .i64 0)), (.lit (.int .i64 0)), (.lit (.int .i64 0)), (.lit (.int .i64 0)), (.lit (.int .i64 0)), (.lit (.int .i64 0)), (.lit (.int .i64 0)), (.lit (.int .i64 0))]))) p4).bind fun x5 =>
 (asI .i64 x5).bind fun n6 =>
 (idxP 1 l0 2).bind fun p7 =>
 (ld1 ((psh h (.cells [(.lit (.int .i64 0)), (.lit (.int .i64 0)), (.lit (.int .i64 0)), (.lit (.int .i64 0)), (.lit (.int .i64 0)), (.lit (.int .i64 0)), (.lit (.int .i64 0)), (.lit (.int .i64 0)), (.lit (.int .i64 0))]))) p7).bind fun x8 =>
 (asI .i64 x8).bind fun n9 =>
 (idxP 1 l0 3).bind fun p10 =>
 (ld1 ((psh h (.cells [(.lit (.int .i64 0)), (.lit (.int .i64 0)), (.lit (.int .i64 0)), (.lit (.int .i64 0)), (.lit (.int .i64 0)), (.lit (.int .i64 0)), (.lit (.int .i64 0)), (.lit (.int .i64 0)), (.lit (.int .i64 0))]))) p10).bind fun x11 =>
 (asI .i64 x11).bind fun n12 =>
 (idxP 1 l0 4).bind fun p13 =>
 (ld1 ((psh h (.cells [(.lit (.int .i64 0)), (.lit (.int .i64 0)), (.lit (.int .i64 0)), (.lit (.int .i64 0)), (.lit (.int .i64 0)), (.lit (.int .i64 0)), (.lit (.int .i64 0)), (.lit (.int .i64 0)), (.lit (.int .i64 0))]))) p13).bind fun x14 =>
 (asI .i64 x14).bind fun n15 =>
 (idxP 1 l0 5).bind fun p16 =>
 (ld1 ((psh h (.cells [(.lit (.int .i64 0)), (.lit (.int .i64 0)), (.lit (.int .i64 0)), (.lit (.int .i64 0)), (.lit (.int .i64 0)), (.lit (.int .i64 0)), (.lit (.int .i64 0)), (.lit (.int .i64 0)), (.lit (.int .i64 0))]))) p16).bind fun x17 =>
 (asI .i64 x17).bind fun n18 =>
 (idxP 1 l0 6).bind fun p19 =>
 (ld1 ((psh h (.cells [(.lit (.int .i64 0)), (.lit (.int .i64 0)), (.lit (.int .i64 0)), (.lit (.int .i64 0)), (.lit (.int .i64 0)), (.lit (.int .i64 0)), (.lit (.int .i64 0)), (.lit (.int .i64 0)), (.lit (.int .i64 0))]))) p19).bind fun x20 =>
 (asI .i64 x20).bind fun n21 =>
 (idxP 1 l0 7).bind fun p22 =>
 (ld1 ((psh h (.cells [(.lit (.int .i64 0)), (.lit (.int .i64 0)), (.lit (.int .i64 0)), (.lit (.int .i64 0)), (.lit (.int .i64 0)), (.lit (.int .i64 0)), (.lit (.int .i64 0)), (.lit (.int .i64 0)), (.lit (.int .i64 0))]))) p22).bind fun x23 =>
 (asI .i64 x23).bind fun n24 =>
 (idxP 1 l0 8).bind fun p25 =>
 (ld1 ((psh h (.cells [(.lit (.int .i64 0)), (.lit (.int .i64 0)), (.lit (.int .i64 0)), (.lit (.int .i64 0)), (.lit (.int .i64 0)), (.lit (.int .i64 0)), (.lit (.int .i64 0)), (.lit (.int .i64 0)), (.lit (.int .i64 0))]))) p25).bind fun x26 =>
 (asI .i64 x26).bind fun n27 =>
 (stn 9 ((psh h (.cells [(.lit (.int .i64 0)), (.lit (.int .i64 0)), (.lit (.int .i64 0)), (.lit (.int .i64 0)), (.lit (.int .i64 0)), (.lit (.int .i64 0)), (.lit (.int .i64 0)), (.lit (.int .i64 0)), (.lit (.int .i64 0))]))) (.ptr h.length 0) ([(.lit (.int .i64 n3)), (.lit (.int .i64 n6)), (.lit (.int .i64 n9)), (.lit (.int .i64 n12)), (.lit (.int .i64 n15)), (.lit (.int .i64 n18)), (.lit (.int .i64 n21)), (.lit (.int .i64 n24)), (.lit (.int .i64 n27))])).bind fun h28 =>
 (ldn 9 h28 (.ptr h.length 0)).bind fun xs29 =>
 some ((.agg xs29), h28) := by kernel_rfl
theorem S_chainmanref38_Of_ends {l0 : AVal} {h h' : AHeap} {v : AVal} {R : AEnd → AHeap → Prop} (hx : S_chainmanref38_Of l0 h = some (v, h')) (hR : HOk h → h.length ≤ h'.length → ABody.AEnds h h' (.ret v) R) : ACalls Tryd.prog 55 [l0] h R := xfun_ends Echainmanref38_Of_ok tmix (i := 55) (by rfl) (by kernel_rfl) (by kernel_rfl) hx hR
noncomputable def w_chainmanref38_Of : XC := .l fun R args h K => match args with
  | [a0] => (S_chainmanref38_Of a0 h).bind fun r => K r.1 r.2
  | _ => none
theorem w_chainmanref38_Of_ok : XC.Nat w_chainmanref38_Of ∧ XC.Ok Tryd.prog 55 w_chainmanref38_Of := by
  refine ⟨fun R args h K => ?_, tc55, fun args h v h' hx => ?_⟩
  · dsimp only; split <;> simp [Option.bind_assoc, mkP]
  · dsimp only at hx; split at hx
    · obtain ⟨r, hopt, hx⟩ := Option.bind_eq_some_iff.1 hx
      simp only [mkP, Option.some.injEq, Prod.mk.injEq] at hx
      obtain ⟨rfl, rfl⟩ := hx
      exact (by obtain ⟨v, h'⟩ := r; exact S_chainmanref38_Of_ends hopt selfR)
    · cases hx
-- chainman/chainmanref38.Lines: function 16
noncomputable def Echainmanref38_Lines : XE := { T := tabOf [(3, r3), (4, r4), (9, r9), (23, r23), (33, r33), (49, r49)], C := [(61, w_chainmanref38_Keys), (62, w_chainmanref38_Numbers), (63, w_chainmanref36_Digits)], D := [(2, ⟨[], [], [], [], [], [1], [(0, [1]), (2, []), (3, []), (4, [])]⟩), (6, ⟨[], [0, 1, 2, 3, 4, 5, 6, 7, 8, 9, 10, 11, 12], [13, 14], [12], [], [], []⟩)], Ms := [(7, [3])], Ml := [(4, [3, 4, 5, 6])], Mo := [], n := 31 }
theorem Echainmanref38_Lines_ok : XE.Ok Echainmanref38_Lines Tryd.prog := ⟨tabOf_ok (⟨r3_ok, ⟨r4_ok, ⟨r9_ok, ⟨r23_ok, ⟨r33_ok, ⟨r49_ok, trivial⟩⟩⟩⟩⟩⟩), ⟨w_chainmanref38_Keys_ok, ⟨w_chainmanref38_Numbers_ok, ⟨w_chainmanref36_Digits_ok, trivial⟩⟩⟩⟩
noncomputable def c16 : Code := bodyOf f16
noncomputable def S_chainmanref38_Lines (c0 : List AVal) (h : AHeap) : Option (AVal × AHeap) := xfun Echainmanref38_Lines f16 [(.agg c0)] h
noncomputable def S_chainmanref38_Lines_0 (out3 : AVal) (k4 : AVal) (n5 : AVal) (i6 : Int) (h : AHeap) : Option (AVal × AHeap) := xexec Echainmanref38_Lines (.loop (ca (ca (cb (ca (cb (cb (cb c16)))))))) (AVal × AHeap) [(3, out3), (4, k4), (5, n5), (6, (.lit (.int .i64 i6)))] h (kBlk 0 (kSeq Echainmanref38_Lines (cb (cb (cb (cb c16)))) (xend Echainmanref38_Lines f16)))
noncomputable def S_chainmanref38_Lines_1 (out3 : AVal) (h : AHeap) : Option (AVal × AHeap) := jn (xexec Echainmanref38_Lines (cb (cb (cb (cb c16)))) (AVal × AHeap) [(3, out3)] h (xend Echainmanref38_Lines f16))
theorem S_chainmanref38_Lines_eq (c0 : List AVal) (h : AHeap) : S_chainmanref38_Lines c0 h =
 (ldn 9 ((psh h (.cells c0))) (.ptr h.length 0)).bind fun xs1 =>
 (S_chainmanref38_Keys  ((psh h (.cells c0)))).bind fun r2 =>
 (reqC ((((ldn 9 r2.2 (.ptr h.length 0)).bind fun xs3 =>
 some (.agg xs3)) : Option AVal) = some (.agg xs1))).bind fun _ =>
 (S_chainmanref38_Numbers xs1 r2.2).bind fun r4 =>
 S_chainmanref38_Lines_0 ((.lit (.slice none 0 0))) r2.1 r4.1 0 r4.2 := by kernel_rfl
theorem S_chainmanref38_Lines_0_eq (out3 : AVal) (k4 : AVal) (n5 : AVal) (i6 : Int) (h : AHeap) : S_chainmanref38_Lines_0 out3 k4 n5 i6 h =
 (lenV k4).bind fun n6 =>
 bif (decide (i6 < n6)) then ((idxP 1 k4 i6).bind fun p7 =>
 (ld1 h p7).bind fun x8 =>
 (asS x8).bind fun s9 =>
 (req (s9.size + (⟨#[32]⟩ : ByteArray).size ≤ 9223372036854775807)).bind fun u10 =>
 (idxP 1 n5 i6).bind fun p11 =>
 (ld1 h p11).bind fun x12 =>
 (asI .i64 x12).bind fun n13 =>
 (req (0 ≤ n13 ∧ n13 ≤ 9223372036854775807)).bind fun _ =>
 (req ((s9 ++ (⟨#[32]⟩ : ByteArray)).size + (itoaB n13).size ≤ 9223372036854775807)).bind fun u14 =>
 (blitA 1 [(.lit (.string ({ data := #[] })))] 1 [(0, (.lit (.string ((s9 ++ (⟨#[32]⟩ : ByteArray)) ++ (itoaB n13)))))]).bind fun cs15 =>
 (appV 1 16 (apd h [.cells cs15]) out3 (.sl 1 h.length 0 1)).bind fun r16 =>
 S_chainmanref38_Lines_0 r16.1 k4 n5 (IntKind.wrap .i64 (i6 + 1)) r16.2)
 else (S_chainmanref38_Lines_1 out3 h) := (xexec_loop Echainmanref38_Lines Echainmanref38_Lines_ok.C.nat _ _ _ _ _).trans (by kernel_rfl)
theorem S_chainmanref38_Lines_1_eq (out3 : AVal) (h : AHeap) : S_chainmanref38_Lines_1 out3 h =
 some (out3, h) := (jn_eq _).trans (by kernel_rfl)
theorem S_chainmanref38_Lines_ends {c0 : List AVal} {h h' : AHeap} {v : AVal} {R : AEnd → AHeap → Prop} (hx : S_chainmanref38_Lines c0 h = some (v, h')) (hR : HOk h → h.length ≤ h'.length → ABody.AEnds h h' (.ret v) R) : ACalls Tryd.prog 16 [(.agg c0)] h R := xfun_ends Echainmanref38_Lines_ok tmix (i := 16) (by rfl) (by kernel_rfl) (by kernel_rfl) hx hR
noncomputable def w_chainmanref38_Lines : XC := .l fun R args h K => match args with
  | [.agg a0] => (S_chainmanref38_Lines a0 h).bind fun r => K r.1 r.2
  | _ => none
theorem w_chainmanref38_Lines_ok : XC.Nat w_chainmanref38_Lines ∧ XC.Ok Tryd.prog 16 w_chainmanref38_Lines := by
  refine ⟨fun R args h K => ?_, tc16, fun args h v h' hx => ?_⟩
  · dsimp only; split <;> simp [Option.bind_assoc, mkP]
  · dsimp only at hx; split at hx
    · obtain ⟨r, hopt, hx⟩ := Option.bind_eq_some_iff.1 hx
      simp only [mkP, Option.some.injEq, Prod.mk.injEq] at hx
      obtain ⟨rfl, rfl⟩ := hx
      exact (by obtain ⟨v, h'⟩ := r; exact S_chainmanref38_Lines_ends hopt selfR)
    · cases hx
-- chainman/chainmanref38.Text: function 11
noncomputable def Echainmanref38_Text : XE := { T := tabOf [(3, r3), (4, r4), (9, r9), (23, r23), (33, r33)], C := [(15, w_chainmanref38_May), (16, w_chainmanref38_Lines)], D := [], Ms := [(9, [4])], Ml := [(6, [4, 5, 6])], Mo := [], n := 26 }
theorem Echainmanref38_Text_ok : XE.Ok Echainmanref38_Text Tryd.prog := ⟨tabOf_ok (⟨r3_ok, ⟨r4_ok, ⟨r9_ok, ⟨r23_ok, ⟨r33_ok, trivial⟩⟩⟩⟩⟩), ⟨w_chainmanref38_May_ok, ⟨w_chainmanref38_Lines_ok, trivial⟩⟩⟩
noncomputable def c11 : Code := bodyOf f11
noncomputable def S_chainmanref38_Text (c0 : List AVal) (h : AHeap) : Option (AVal × AHeap) := xfun Echainmanref38_Text f11 [(.agg c0)] h
noncomputable def S_chainmanref38_Text_0 (s4 : ByteArray) (l5 : AVal) (i6 : Int) (h : AHeap) : Option (AVal × AHeap) := xexec Echainmanref38_Text (.loop (ca (ca (cb (ca (cb (cb (cb (cb c11))))))))) (AVal × AHeap) [(4, (.lit (.string s4))), (5, l5), (6, (.lit (.int .i64 i6)))] h (kBlk 0 (kSeq Echainmanref38_Text (cb (cb (cb (cb (cb c11))))) (xend Echainmanref38_Text f11)))
noncomputable def S_chainmanref38_Text_1 (s4 : ByteArray) (h : AHeap) : Option (AVal × AHeap) := jn (xexec Echainmanref38_Text (cb (cb (cb (cb (cb c11))))) (AVal × AHeap) [(4, (.lit (.string s4)))] h (xend Echainmanref38_Text f11))
theorem S_chainmanref38_Text_eq (c0 : List AVal) (h : AHeap) : S_chainmanref38_Text c0 h =
 (ldn 9 ((psh h (.cells c0))) (.ptr h.length 0)).bind fun xs1 =>
 (S_chainmanref38_May xs1 ((psh h (.cells c0)))).bind fun r2 =>
 (asB r2.1).bind fun b3 =>
 bif (!b3) then (some ((.tup [(.lit (.string (⟨#[]⟩ : ByteArray))), (.lit (.bool false))]), r2.2))
 else ((ldn 9 r2.2 (.ptr h.length 0)).bind fun xs4 =>
 (S_chainmanref38_Lines xs4 r2.2).bind fun r5 =>
 S_chainmanref38_Text_0 (⟨#[]⟩ : ByteArray) r5.1 0 r5.2) := by kernel_rfl
theorem S_chainmanref38_Text_0_eq (s4 : ByteArray) (l5 : AVal) (i6 : Int) (h : AHeap) : S_chainmanref38_Text_0 s4 l5 i6 h =
 (lenV l5).bind fun n6 =>
 bif (decide (i6 < n6)) then ((idxP 1 l5 i6).bind fun p7 =>
 (ld1 h p7).bind fun x8 =>
 (asS x8).bind fun s9 =>
 (req (s4.size + s9.size ≤ 9223372036854775807)).bind fun u10 =>
 (req ((s4 ++ s9).size + (⟨#[10]⟩ : ByteArray).size ≤ 9223372036854775807)).bind fun u11 =>
 S_chainmanref38_Text_0 ((s4 ++ s9) ++ (⟨#[10]⟩ : ByteArray)) l5 (IntKind.wrap .i64 (i6 + 1)) h)
 else (S_chainmanref38_Text_1 s4 h) := (xexec_loop Echainmanref38_Text Echainmanref38_Text_ok.C.nat _ _ _ _ _).trans (by kernel_rfl)
theorem S_chainmanref38_Text_1_eq (s4 : ByteArray) (h : AHeap) : S_chainmanref38_Text_1 s4 h =
 some ((.tup [(.lit (.string s4)), (.lit (.bool true))]), h) := (jn_eq _).trans (by kernel_rfl)
theorem S_chainmanref38_Text_ends {c0 : List AVal} {h h' : AHeap} {v : AVal} {R : AEnd → AHeap → Prop} (hx : S_chainmanref38_Text c0 h = some (v, h')) (hR : HOk h → h.length ≤ h'.length → ABody.AEnds h h' (.ret v) R) : ACalls Tryd.prog 11 [(.agg c0)] h R := xfun_ends Echainmanref38_Text_ok tmix (i := 11) (by rfl) (by kernel_rfl) (by kernel_rfl) hx hR
-- chainman/chainmanref38.line: function 54
noncomputable def Echainmanref38_line : XE := { T := tabOf [(3, r3), (4, r4), (9, r9), (33, r33)], C := [(53, w_chainmanref36_Parts), (61, w_chainmanref38_Keys), (63, w_chainmanref36_Digits), (94, w_chainmanref36_Number)], D := [(7, ⟨[], [0, 1, 2, 3, 4, 5, 6, 7, 8, 9, 10, 11, 12, 13, 14, 15, 16, 17, 18, 19], [], [], [], [], []⟩)], Ms := [(8, [4, 5, 6, 7, 45]), (9, [])], Ml := [(4, [4, 5, 6])], Mo := [(4009, [4, 5, 6, 19])], n := 48 }
theorem Echainmanref38_line_ok : XE.Ok Echainmanref38_line Tryd.prog := ⟨tabOf_ok (⟨r3_ok, ⟨r4_ok, ⟨r9_ok, ⟨r33_ok, trivial⟩⟩⟩⟩), ⟨w_chainmanref36_Parts_ok, ⟨w_chainmanref38_Keys_ok, ⟨w_chainmanref36_Digits_ok, ⟨w_chainmanref36_Number_ok, trivial⟩⟩⟩⟩⟩
noncomputable def c54 : Code := bodyOf f54
noncomputable def S_chainmanref38_line (s0 : ByteArray) (h : AHeap) : Option (AVal × AHeap) := xfun Echainmanref38_line f54 [(.lit (.string s0))] h
noncomputable def S_chainmanref38_line_0 (w4 : AVal) (k5 : AVal) (i6 : Int) (h : AHeap) : Option (AVal × AHeap) := xexec Echainmanref38_line (.loop (ca (ca (cb (ca (cb (cb (cb c54)))))))) (AVal × AHeap) [(4, w4), (5, k5), (6, (.lit (.int .i64 i6)))] h (kBlk 0 (kSeq Echainmanref38_line (cb (cb (cb (cb c54)))) (xend Echainmanref38_line f54)))
noncomputable def S_chainmanref38_line_1 (w4 : AVal) (k5 : AVal) (i6 : Int) (t19 : Bool) (h : AHeap) : Option (AVal × AHeap) := jo Echainmanref38_line 4 (rops (ca (ca (ca (ca (cb (ca (cb (cb (cb c54)))))))))) ((rops (ca (ca (ca (ca (cb (ca (cb (cb (cb c54)))))))))).toList.drop 9) 9 [(4, w4), (5, k5), (6, (.lit (.int .i64 i6))), (19, (.lit (.bool t19)))] h (kN (kSeq Echainmanref38_line (cb (ca (ca (ca (cb (ca (cb (cb (cb c54))))))))) (kSeq Echainmanref38_line (cb (ca (ca (cb (ca (cb (cb (cb c54)))))))) (kLoop Echainmanref38_line (ca (ca (cb (ca (cb (cb (cb c54))))))) (kBlk 0 (kSeq Echainmanref38_line (cb (cb (cb (cb c54)))) (xend Echainmanref38_line f54)))))))
noncomputable def S_chainmanref38_line_2 (w4 : AVal) (k5 : AVal) (i6 : Int) (n7 : Int) (t45 : Bool) (h : AHeap) : Option (AVal × AHeap) := jn (xexec Echainmanref38_line (cb (cb (ca (ca (cb (ca (ca (cb (ca (cb (cb (cb c54)))))))))))) (AVal × AHeap) [(4, w4), (5, k5), (6, (.lit (.int .i64 i6))), (7, (.lit (.int .i64 n7))), (45, (.lit (.bool t45)))] h (kBlk 1 (kSeq Echainmanref38_line (cb (cb (ca (ca (cb (ca (cb (cb (cb c54))))))))) (kLoop Echainmanref38_line (ca (ca (cb (ca (cb (cb (cb c54))))))) (kBlk 0 (kSeq Echainmanref38_line (cb (cb (cb (cb c54)))) (xend Echainmanref38_line f54)))))))
noncomputable def S_chainmanref38_line_3  (h : AHeap) : Option (AVal × AHeap) := jn (xexec Echainmanref38_line (cb (cb (cb (cb c54)))) (AVal × AHeap) [] h (xend Echainmanref38_line f54))
theorem S_chainmanref38_line_eq (s0 : ByteArray) (h : AHeap) : S_chainmanref38_line s0 h =
 (S_chainmanref36_Parts s0 32 h).bind fun r1 =>
 (S_chainmanref38_Keys  r1.2).bind fun r2 =>
 S_chainmanref38_line_0 r1.1 r2.1 0 r2.2 := by kernel_rfl
theorem S_chainmanref38_line_0_eq (w4 : AVal) (k5 : AVal) (i6 : Int) (h : AHeap) : S_chainmanref38_line_0 w4 k5 i6 h =
 (lenV k5).bind fun n3 =>
 bif (decide (i6 < n3)) then ((lenV w4).bind fun n4 =>
 S_chainmanref38_line_1 w4 k5 i6 (decide (n4 = 2)) h)
 else (S_chainmanref38_line_1 w4 k5 i6 false h) := (xexec_loop Echainmanref38_line Echainmanref38_line_ok.C.nat _ _ _ _ _).trans (by kernel_rfl)
theorem S_chainmanref38_line_1_eq (w4 : AVal) (k5 : AVal) (i6 : Int) (t19 : Bool) (h : AHeap) : S_chainmanref38_line_1 w4 k5 i6 t19 h =
 bif t19 then ((idxP 1 w4 1).bind fun p5 =>
 (ld1 h p5).bind fun x6 =>
 (asS x6).bind fun s7 =>
 (idxP 1 k5 i6).bind fun p8 =>
 (ld1 h p8).bind fun x9 =>
 (asS x9).bind fun s10 =>
 (idxP 1 w4 0).bind fun p11 =>
 (ld1 h p11).bind fun x12 =>
 (asS x12).bind fun s13 =>
 bif (decide (s10 = s13)) then ((req (0 ≤ (looseB s7) ∧ (looseB s7) ≤ 9223372036854775807)).bind fun _ =>
 (idxP 1 w4 1).bind fun p14 =>
 (ld1 h p14).bind fun x15 =>
 (asS x15).bind fun s16 =>
 bif (decide ((itoaB (looseB s7)) = s16)) then (S_chainmanref38_line_2 w4 k5 i6 (looseB s7) (decide ((looseB s7) ≤ 4611686018427387904)) h)
 else (S_chainmanref38_line_2 w4 k5 i6 (looseB s7) false h))
 else (S_chainmanref38_line_2 w4 k5 i6 (looseB s7) false h))
 else (S_chainmanref38_line_3 h) := (jo_eq ..).trans (by kernel_rfl)
theorem S_chainmanref38_line_2_eq (w4 : AVal) (k5 : AVal) (i6 : Int) (n7 : Int) (t45 : Bool) (h : AHeap) : S_chainmanref38_line_2 w4 k5 i6 n7 t45 h =
 bif t45 then (some ((.tup [(.lit (.int .i64 i6)), (.lit (.int .i64 n7))]), h))
 else (S_chainmanref38_line_0 w4 k5 (IntKind.wrap .i64 (i6 + 1)) h) := (jn_eq _).trans (by kernel_rfl)
theorem S_chainmanref38_line_3_eq  (h : AHeap) : S_chainmanref38_line_3  h =
 some ((.tup [(.lit (.int .i64 (-1))), (.lit (.int .i64 0))]), h) := (jn_eq _).trans (by kernel_rfl)
theorem S_chainmanref38_line_ends {s0 : ByteArray} {h h' : AHeap} {v : AVal} {R : AEnd → AHeap → Prop} (hx : S_chainmanref38_line s0 h = some (v, h')) (hR : HOk h → h.length ≤ h'.length → ABody.AEnds h h' (.ret v) R) : ACalls Tryd.prog 54 [(.lit (.string s0))] h R := xfun_ends Echainmanref38_line_ok tmix (i := 54) (by rfl) (by kernel_rfl) (by kernel_rfl) hx hR
noncomputable def w_chainmanref38_line : XC := .l fun R args h K => match args with
  | [.lit (.string a0)] => (S_chainmanref38_line a0 h).bind fun r => K r.1 r.2
  | _ => none
theorem w_chainmanref38_line_ok : XC.Nat w_chainmanref38_line ∧ XC.Ok Tryd.prog 54 w_chainmanref38_line := by
  refine ⟨fun R args h K => ?_, tc54, fun args h v h' hx => ?_⟩
  · dsimp only; split <;> simp [Option.bind_assoc, mkP]
  · dsimp only at hx; split at hx
    · obtain ⟨r, hopt, hx⟩ := Option.bind_eq_some_iff.1 hx
      simp only [mkP, Option.some.injEq, Prod.mk.injEq] at hx
      obtain ⟨rfl, rfl⟩ := hx
      exact (by obtain ⟨v, h'⟩ := r; exact S_chainmanref38_line_ends hopt selfR)
    · cases hx
-- chainman/chainmanref38.Parse: function 13
noncomputable def Echainmanref38_Parse : XE := { T := tabOf [(3, r3), (4, r4), (5, r5), (9, r9), (23, r23), (27, r27), (33, r33), (49, r49), (98, r98)], C := [(15, w_chainmanref38_May), (53, w_chainmanref36_Parts), (54, w_chainmanref38_line), (55, w_chainmanref38_Of)], D := [], Ms := [(9, [2, 5, 6, 7, 8, 9]), (17, [2, 6, 8])], Ml := [(8, [2, 5, 6, 7, 8, 9])], Mo := [(10013, [2, 5, 6, 7, 8, 9, 39]), (12008, [2, 5, 6, 7, 8, 9, 10, 11, 55]), (18007, [2, 12, 76])], n := 79 }
theorem Echainmanref38_Parse_ok : XE.Ok Echainmanref38_Parse Tryd.prog := ⟨tabOf_ok (⟨r3_ok, ⟨r4_ok, ⟨r5_ok, ⟨r9_ok, ⟨r23_ok, ⟨r27_ok, ⟨r33_ok, ⟨r49_ok, ⟨r98_ok, trivial⟩⟩⟩⟩⟩⟩⟩⟩⟩), ⟨w_chainmanref38_May_ok, ⟨w_chainmanref36_Parts_ok, ⟨w_chainmanref38_line_ok, ⟨w_chainmanref38_Of_ok, trivial⟩⟩⟩⟩⟩
noncomputable def c13 : Code := bodyOf f13
noncomputable def S_chainmanref38_Parse (text0 : ByteArray) (h : AHeap) : Option (AVal × AHeap) := xfun Echainmanref38_Parse f13 [(.lit (.string text0))] h
noncomputable def S_chainmanref38_Parse_0 (t2 : Nat) (l5 : AVal) (numbers6 : AVal) (there7 : AVal) (count8 : Int) (i9 : Int) (h : AHeap) : Option (AVal × AHeap) := xexec Echainmanref38_Parse (.loop (ca (ca (cb (ca (cb (cb (cb (cb (cb (cb c13))))))))))) (AVal × AHeap) [(2, (.ptr t2 0)), (5, l5), (6, numbers6), (7, there7), (8, (.lit (.int .i64 count8))), (9, (.lit (.int .i64 i9)))] h (kBlk 0 (kSeq Echainmanref38_Parse (cb (cb (cb (cb (cb (cb (cb c13))))))) (xend Echainmanref38_Parse f13)))
noncomputable def S_chainmanref38_Parse_1 (t2 : Nat) (l5 : AVal) (numbers6 : AVal) (there7 : AVal) (count8 : Int) (i9 : Int) (t39 : Bool) (h : AHeap) : Option (AVal × AHeap) := jo Echainmanref38_Parse 10 (rops (ca (ca (ca (ca (cb (ca (ca (cb (ca (cb (cb (cb (cb (cb (cb c13)))))))))))))))) ((rops (ca (ca (ca (ca (cb (ca (ca (cb (ca (cb (cb (cb (cb (cb (cb c13)))))))))))))))).toList.drop 13) 13 [(2, (.ptr t2 0)), (5, l5), (6, numbers6), (7, there7), (8, (.lit (.int .i64 count8))), (9, (.lit (.int .i64 i9))), (39, (.lit (.bool t39)))] h (kN (kSeq Echainmanref38_Parse (cb (ca (ca (ca (cb (ca (ca (cb (ca (cb (cb (cb (cb (cb (cb c13))))))))))))))) (kSeq Echainmanref38_Parse (cb (ca (ca (cb (ca (ca (cb (ca (cb (cb (cb (cb (cb (cb c13)))))))))))))) (kBlk 1 (kSeq Echainmanref38_Parse (cb (cb (ca (ca (cb (ca (cb (cb (cb (cb (cb (cb c13)))))))))))) (kLoop Echainmanref38_Parse (ca (ca (cb (ca (cb (cb (cb (cb (cb (cb c13)))))))))) (kBlk 0 (kSeq Echainmanref38_Parse (cb (cb (cb (cb (cb (cb (cb c13))))))) (xend Echainmanref38_Parse f13)))))))))
noncomputable def S_chainmanref38_Parse_2 (t2 : Nat) (numbers6 : AVal) (count8 : Int) (h : AHeap) : Option (AVal × AHeap) := jn (xexec Echainmanref38_Parse (cb (cb (cb (cb (cb (cb (cb c13))))))) (AVal × AHeap) [(2, (.ptr t2 0)), (6, numbers6), (8, (.lit (.int .i64 count8)))] h (xend Echainmanref38_Parse f13))
noncomputable def S_chainmanref38_Parse_3 (t2 : Nat) (l5 : AVal) (numbers6 : AVal) (there7 : AVal) (count8 : Int) (i9 : Int) (h : AHeap) : Option (AVal × AHeap) := jn (xexec Echainmanref38_Parse (cb (cb (ca (ca (cb (ca (cb (cb (cb (cb (cb (cb c13)))))))))))) (AVal × AHeap) [(2, (.ptr t2 0)), (5, l5), (6, numbers6), (7, there7), (8, (.lit (.int .i64 count8))), (9, (.lit (.int .i64 i9)))] h (kLoop Echainmanref38_Parse (ca (ca (cb (ca (cb (cb (cb (cb (cb (cb c13)))))))))) (kBlk 0 (kSeq Echainmanref38_Parse (cb (cb (cb (cb (cb (cb (cb c13))))))) (xend Echainmanref38_Parse f13)))))
noncomputable def S_chainmanref38_Parse_4 (t2 : Nat) (l5 : AVal) (numbers6 : AVal) (there7 : AVal) (count8 : Int) (i9 : Int) (k10 : Int) (n11 : Int) (t55 : Bool) (h : AHeap) : Option (AVal × AHeap) := jo Echainmanref38_Parse 12 (rops (ca (ca (cb (cb (ca (ca (cb (ca (ca (cb (ca (cb (cb (cb (cb (cb (cb c13)))))))))))))))))) ((rops (ca (ca (cb (cb (ca (ca (cb (ca (ca (cb (ca (cb (cb (cb (cb (cb (cb c13)))))))))))))))))).toList.drop 8) 8 [(2, (.ptr t2 0)), (5, l5), (6, numbers6), (7, there7), (8, (.lit (.int .i64 count8))), (9, (.lit (.int .i64 i9))), (10, (.lit (.int .i64 k10))), (11, (.lit (.int .i64 n11))), (55, (.lit (.bool t55)))] h (kN (kSeq Echainmanref38_Parse (cb (ca (cb (cb (ca (ca (cb (ca (ca (cb (ca (cb (cb (cb (cb (cb (cb c13))))))))))))))))) (kSeq Echainmanref38_Parse (cb (cb (cb (ca (ca (cb (ca (ca (cb (ca (cb (cb (cb (cb (cb (cb c13)))))))))))))))) (kBlk 1 (kSeq Echainmanref38_Parse (cb (cb (ca (ca (cb (ca (cb (cb (cb (cb (cb (cb c13)))))))))))) (kLoop Echainmanref38_Parse (ca (ca (cb (ca (cb (cb (cb (cb (cb (cb c13)))))))))) (kBlk 0 (kSeq Echainmanref38_Parse (cb (cb (cb (cb (cb (cb (cb c13))))))) (xend Echainmanref38_Parse f13)))))))))
noncomputable def S_chainmanref38_Parse_5 (t2 : Nat) (c12 : Nat) (t76 : Bool) (h : AHeap) : Option (AVal × AHeap) := jo Echainmanref38_Parse 18 (rops (ca (ca (cb (cb (cb (cb (cb (cb (cb (cb c13))))))))))) ((rops (ca (ca (cb (cb (cb (cb (cb (cb (cb (cb c13))))))))))).toList.drop 7) 7 [(2, (.ptr t2 0)), (12, (.ptr c12 0)), (76, (.lit (.bool t76)))] h (kN (kSeq Echainmanref38_Parse (cb (ca (cb (cb (cb (cb (cb (cb (cb (cb c13)))))))))) (kSeq Echainmanref38_Parse (cb (cb (cb (cb (cb (cb (cb (cb (cb c13))))))))) (xend Echainmanref38_Parse f13))))
theorem S_chainmanref38_Parse_eq (text0 : ByteArray) (h : AHeap) : S_chainmanref38_Parse text0 h =
 bif (decide ((text0.size : Int) > 1024)) then ((stn 9 ((psh h (.cells [(.lit (.int .i64 0)), (.lit (.int .i64 0)), (.lit (.int .i64 0)), (.lit (.int .i64 0)), (.lit (.int .i64 0)), (.lit (.int .i64 0)), (.lit (.int .i64 0)), (.lit (.int .i64 0)), (.lit (.int .i64 0))]))) (.ptr h.length 0) ([(.lit (.int .i64 0)), (.lit (.int .i64 0)), (.lit (.int .i64 0)), (.lit (.int .i64 0)), (.lit (.int .i64 0)), (.lit (.int .i64 0)), (.lit (.int .i64 0)), (.lit (.int .i64 0)), (.lit (.int .i64 0))])).bind fun h1 =>
 (ldn 9 h1 (.ptr h.length 0)).bind fun xs2 =>
 some ((.tup [(.agg xs2), (.lit (.int .i64 0)), (.lit (.int .i64 15))]), h1))
 else ((S_chainmanref36_Parts text0 10 ((psh h (.cells [(.lit (.int .i64 0)), (.lit (.int .i64 0)), (.lit (.int .i64 0)), (.lit (.int .i64 0)), (.lit (.int .i64 0)), (.lit (.int .i64 0)), (.lit (.int .i64 0)), (.lit (.int .i64 0)), (.lit (.int .i64 0))])))).bind fun r3 =>
 (mkS 1 8 [(.lit (.int .i64 0))] 9 9 r3.2).bind fun r4 =>
 (mkS 1 1 [(.lit (.bool false))] 9 9 r4.2).bind fun r5 =>
 S_chainmanref38_Parse_0 h.length r3.1 r4.1 r5.1 0 0 r5.2) := by kernel_rfl
theorem S_chainmanref38_Parse_0_eq (t2 : Nat) (l5 : AVal) (numbers6 : AVal) (there7 : AVal) (count8 : Int) (i9 : Int) (h : AHeap) : S_chainmanref38_Parse_0 t2 l5 numbers6 there7 count8 i9 h =
 (lenV l5).bind fun n6 =>
 bif (decide (i9 < n6)) then ((idxP 1 l5 i9).bind fun p7 =>
 (ld1 h p7).bind fun x8 =>
 (asS x8).bind fun s9 =>
 bif (decide (s9 = (⟨#[]⟩ : ByteArray))) then (S_chainmanref38_Parse_1 t2 l5 numbers6 there7 count8 i9 true h)
 else ((idxP 1 l5 i9).bind fun p10 =>
 (ld1 h p10).bind fun x11 =>
 (asS x11).bind fun s12 =>
 (strAt s12 0).bind fun n13 =>
 S_chainmanref38_Parse_1 t2 l5 numbers6 there7 count8 i9 (decide (n13 = 35)) h))
 else (S_chainmanref38_Parse_2 t2 numbers6 count8 h) := (xexec_loop Echainmanref38_Parse Echainmanref38_Parse_ok.C.nat _ _ _ _ _).trans (by kernel_rfl)
theorem S_chainmanref38_Parse_1_eq (t2 : Nat) (l5 : AVal) (numbers6 : AVal) (there7 : AVal) (count8 : Int) (i9 : Int) (t39 : Bool) (h : AHeap) : S_chainmanref38_Parse_1 t2 l5 numbers6 there7 count8 i9 t39 h =
 bif t39 then (S_chainmanref38_Parse_3 t2 l5 numbers6 there7 count8 i9 h)
 else ((idxP 1 l5 i9).bind fun p14 =>
 (ld1 h p14).bind fun x15 =>
 (asS x15).bind fun s16 =>
 (S_chainmanref38_line s16 h).bind fun r17 =>
 (xExtract r17.1 0).bind fun x18 =>
 (asI .i64 x18).bind fun n19 =>
 (xExtract r17.1 1).bind fun x20 =>
 (asI .i64 x20).bind fun n21 =>
 bif (decide (n19 < 0)) then (S_chainmanref38_Parse_4 t2 l5 numbers6 there7 count8 i9 n19 n21 true r17.2)
 else ((idxP 1 there7 n19).bind fun p22 =>
 (ld1 r17.2 p22).bind fun x23 =>
 (asB x23).bind fun b24 =>
 S_chainmanref38_Parse_4 t2 l5 numbers6 there7 count8 i9 n19 n21 b24 r17.2)) := (jo_eq ..).trans (by kernel_rfl)
theorem S_chainmanref38_Parse_2_eq (t2 : Nat) (numbers6 : AVal) (count8 : Int) (h : AHeap) : S_chainmanref38_Parse_2 t2 numbers6 count8 h =
 (S_chainmanref38_Of numbers6 h).bind fun r25 =>
 (asA r25.1).bind fun xs26 =>
 (stn 9 ((psh r25.2 (.cells [(.lit (.int .i64 0)), (.lit (.int .i64 0)), (.lit (.int .i64 0)), (.lit (.int .i64 0)), (.lit (.int .i64 0)), (.lit (.int .i64 0)), (.lit (.int .i64 0)), (.lit (.int .i64 0)), (.lit (.int .i64 0))]))) (.ptr r25.2.length 0) xs26).bind fun h27 =>
 bif (decide (count8 < 9)) then (S_chainmanref38_Parse_5 t2 r25.2.length true h27)
 else ((ldn 9 h27 (.ptr r25.2.length 0)).bind fun xs28 =>
 (S_chainmanref38_May xs28 h27).bind fun r29 =>
 (asB r29.1).bind fun b30 =>
 S_chainmanref38_Parse_5 t2 r25.2.length (!b30) r29.2) := (jn_eq _).trans (by kernel_rfl)
theorem S_chainmanref38_Parse_3_eq (t2 : Nat) (l5 : AVal) (numbers6 : AVal) (there7 : AVal) (count8 : Int) (i9 : Int) (h : AHeap) : S_chainmanref38_Parse_3 t2 l5 numbers6 there7 count8 i9 h =
 S_chainmanref38_Parse_0 t2 l5 numbers6 there7 count8 (IntKind.wrap .i64 (i9 + 1)) h := (jn_eq _).trans (by kernel_rfl)
theorem S_chainmanref38_Parse_4_eq (t2 : Nat) (l5 : AVal) (numbers6 : AVal) (there7 : AVal) (count8 : Int) (i9 : Int) (k10 : Int) (n11 : Int) (t55 : Bool) (h : AHeap) : S_chainmanref38_Parse_4 t2 l5 numbers6 there7 count8 i9 k10 n11 t55 h =
 bif t55 then ((stn 9 h (.ptr t2 0) ([(.lit (.int .i64 0)), (.lit (.int .i64 0)), (.lit (.int .i64 0)), (.lit (.int .i64 0)), (.lit (.int .i64 0)), (.lit (.int .i64 0)), (.lit (.int .i64 0)), (.lit (.int .i64 0)), (.lit (.int .i64 0))])).bind fun h31 =>
 (ldn 9 h31 (.ptr t2 0)).bind fun xs32 =>
 some ((.tup [(.agg xs32), (.lit (.int .i64 (IntKind.wrap .i64 (i9 + 1)))), (.lit (.int .i64 8))]), h31))
 else ((idxP 1 numbers6 k10).bind fun p33 =>
 (st1 h p33 (.lit (.int .i64 n11))).bind fun h34 =>
 (idxP 1 there7 k10).bind fun p35 =>
 (st1 h34 p35 (.lit (.bool true))).bind fun h36 =>
 S_chainmanref38_Parse_3 t2 l5 numbers6 there7 (IntKind.wrap .i64 (count8 + 1)) i9 h36) := (jo_eq ..).trans (by kernel_rfl)
theorem S_chainmanref38_Parse_5_eq (t2 : Nat) (c12 : Nat) (t76 : Bool) (h : AHeap) : S_chainmanref38_Parse_5 t2 c12 t76 h =
 bif t76 then ((stn 9 h (.ptr t2 0) ([(.lit (.int .i64 0)), (.lit (.int .i64 0)), (.lit (.int .i64 0)), (.lit (.int .i64 0)), (.lit (.int .i64 0)), (.lit (.int .i64 0)), (.lit (.int .i64 0)), (.lit (.int .i64 0)), (.lit (.int .i64 0))])).bind fun h37 =>
 (ldn 9 h37 (.ptr t2 0)).bind fun xs38 =>
 some ((.tup [(.agg xs38), (.lit (.int .i64 0)), (.lit (.int .i64 8))]), h37))
 else ((ldn 9 h (.ptr c12 0)).bind fun xs39 =>
 (stn 9 h (.ptr t2 0) xs39).bind fun h40 =>
 (ldn 9 h40 (.ptr t2 0)).bind fun xs41 =>
 some ((.tup [(.agg xs41), (.lit (.int .i64 0)), (.lit (.int .i64 0))]), h40)) := (jo_eq ..).trans (by kernel_rfl)
theorem S_chainmanref38_Parse_ends {text0 : ByteArray} {h h' : AHeap} {v : AVal} {R : AEnd → AHeap → Prop} (hx : S_chainmanref38_Parse text0 h = some (v, h')) (hR : HOk h → h.length ≤ h'.length → ABody.AEnds h h' (.ret v) R) : ACalls Tryd.prog 13 [(.lit (.string text0))] h R := xfun_ends Echainmanref38_Parse_ok tmix (i := 13) (by rfl) (by kernel_rfl) (by kernel_rfl) hx hR
end Go.Proofs.YtglmofbcooefkaaDoor.AL
/- The document's configuration: whether it may be, its lines, its text. -/
namespace Go.Proofs.YtglmofbcooefkaaDoor.AL
set_option linter.unusedVariables false
set_option linter.unusedSimpArgs false
set_option maxRecDepth 100000
open Go
open Go.Proofs.Tryd
theorem refFits_run (e w : Int) (h : AHeap) : S_chainmanref23_Fits e w h = some (.lit (.bool (fitsB e w)), h) := by
  rw [S_chainmanref23_Fits_eq]
  unfold fitsB
  cases decide (w ≥ 1) <;> cases decide (w ≤ 2147483648) <;> simp [S_chainmanref23_Fits_0_eq, S_chainmanref23_Fits_1_eq, S_chainmanref23_Fits_2_eq, S_chainmanref23_Fits_3_eq] <;> cases decide (0 ≤ e) <;> cases decide (e ≤ 4611686018427387904) <;> rfl
section
variable {c : Cf} {b : Nat} {h : AHeap} (H : cellsAt h b = some c.v)
include H
theorem rr5 (t : Bool) : S_chainmanref32_Right_5 b t h = some (.lit (.bool (t && decide (c.d ≤ 1000))), h) := by
  rw [S_chainmanref32_Right_5_eq]; cases t <;> simp only [cond_true, cond_false, ld1_of H, S_chainmanref32_Right_6_eq] <;> rfl
theorem rr4 (t : Bool) : S_chainmanref32_Right_4 b t h = some (.lit (.bool (t && inB c.d 0 1000)), h) := by
  rw [S_chainmanref32_Right_4_eq]; cases t <;> simp only [cond_true, cond_false, ld1_of H, rr5 H] <;> rfl
theorem rr3 (t : Bool) : S_chainmanref32_Right_3 b t h = some (.lit (.bool (t && decide (c.n ≤ 64) && inB c.d 0 1000)), h) := by
  rw [S_chainmanref32_Right_3_eq]; cases t <;> simp only [cond_true, cond_false, ld1_of H, rr4 H] <;> rfl
theorem rr2 (t : Bool) : S_chainmanref32_Right_2 b t h = some (.lit (.bool (t && (inB c.n 1 64 && inB c.d 0 1000))), h) := by
  rw [S_chainmanref32_Right_2_eq]; cases t <;> simp only [cond_true, cond_false, ld1_of H, rr3 H] <;> rfl
theorem rr1 (t : Bool) : S_chainmanref32_Right_1 b t h = some (.lit (.bool (t && decide (c.r ≤ 1000) && (inB c.n 1 64 && inB c.d 0 1000))), h) := by
  rw [S_chainmanref32_Right_1_eq]; cases t <;> simp only [cond_true, cond_false, ld1_of H, rr2 H] <;> rfl
theorem rr0 (t : Bool) : S_chainmanref32_Right_0 b t h = some (.lit (.bool (t && (inB c.r 1 1000 && (inB c.n 1 64 && inB c.d 0 1000)))), h) := by
  rw [S_chainmanref32_Right_0_eq]; cases t <;> simp only [cond_true, cond_false, ld1_of H, rr1 H] <;> rfl
theorem rm5 (t : Bool) : S_chainmanref38_May_5 b t h = some (.lit (.bool (t && decide (c.b ≤ 1048576))), h) := by
  rw [S_chainmanref38_May_5_eq]; cases t <;> simp only [cond_true, cond_false, ld1_of H, S_chainmanref38_May_6_eq] <;> rfl
theorem rm4 (t : Bool) : S_chainmanref38_May_4 b t h = some (.lit (.bool (t && inB c.b 0 1048576)), h) := by
  rw [S_chainmanref38_May_4_eq]; cases t <;> simp only [cond_true, cond_false, ld1_of H, rm5 H] <;> rfl
theorem rm3 (t : Bool) : S_chainmanref38_May_3 b t h = some (.lit (.bool (t && decide (c.s ≤ 4611686018427387904) && inB c.b 0 1048576)), h) := by
  rw [S_chainmanref38_May_3_eq]; cases t <;> simp only [cond_true, cond_false, ld1_of H, rm4 H] <;> rfl
theorem rm2 (t : Bool) : S_chainmanref38_May_2 b t h = some (.lit (.bool (t && (inB c.s 0 4611686018427387904 && inB c.b 0 1048576))), h) := by
  rw [S_chainmanref38_May_2_eq]; cases t <;> simp only [cond_true, cond_false, ld1_of H, rm3 H] <;> rfl
theorem rm1 (t : Bool) : S_chainmanref38_May_1 b t h = some (.lit (.bool (t && decide (c.g ≤ 128) && (inB c.s 0 4611686018427387904 && inB c.b 0 1048576))), h) := by
  rw [S_chainmanref38_May_1_eq]; cases t <;> simp only [cond_true, cond_false, ld1_of H, rm2 H] <;> rfl
theorem rm0 (t : Bool) : S_chainmanref38_May_0 b t h = some (.lit (.bool (t && (inB c.g 1 128 && (inB c.s 0 4611686018427387904 && inB c.b 0 1048576)))), h) := by
  rw [S_chainmanref38_May_0_eq]; cases t <;> simp only [cond_true, cond_false, ld1_of H, rm1 H] <;> rfl
end
theorem refRight_run (c : Cf) (h : AHeap) : S_chainmanref32_Right c.v h = some (.lit (.bool (rightB c)), psh h (.cells c.v)) := by
  have H : cellsAt (psh h (.cells c.v)) h.length = some c.v := cellsAt_new h _
  rw [S_chainmanref32_Right_eq]
  simp only [ld1_of H]
  show (bif decide (c.k ≥ 1) then S_chainmanref32_Right_0 h.length (decide (c.k ≤ 64)) (psh h (.cells c.v)) else S_chainmanref32_Right_0 h.length false (psh h (.cells c.v))) = _
  rw [rr0 H, rr0 H]
  unfold rightB
  show _ = some (AVal.lit (.bool (((decide (c.k ≥ 1)) && (decide (c.k ≤ 64))) && _)), _)
  cases decide (c.k ≥ 1) <;> rfl
theorem refMay_run (c : Cf) (h : AHeap) : ∃ y, S_chainmanref38_May c.v h = some (.lit (.bool (mayB c)), h ++ y) := by
  have H : cellsAt (psh h (.cells c.v)) h.length = some c.v := cellsAt_new h _
  rw [S_chainmanref38_May_eq]
  simp only [ld1_of H]
  show ∃ z, (onlyR (S_chainmanref23_Fits c.e c.w (psh h (.cells c.v))) (psh h (.cells c.v))).bind _ = _
  rw [refFits_run, onlyR_same]
  unfold mayB
  cases hf : fitsB c.e c.w with
  | false =>
    show ∃ z, S_chainmanref38_May_0 h.length false (psh h (.cells c.v)) = _
    rw [rm0 H]
    exact ⟨[.cells c.v], rfl⟩
  | true =>
    show ∃ z, (ldn 9 (psh h (.cells c.v)) (.ptr h.length 0)).bind _ = _
    rw [ldn_of (n := 9) (off := 0) H (by simp [Cf.v, intVs, Cf.l]), show (c.v.drop 0).take 9 = c.v from rfl, Option.bind_some]
    rw [refRight_run, Option.bind_some]
    show ∃ z, S_chainmanref38_May_0 h.length (rightB c) (psh (psh h (.cells c.v)) (.cells c.v)) = _
    rw [rm0 (cellsAt_psh _ H)]
    exact ⟨[.cells c.v, .cells c.v], by simp [psh]⟩
/-! ### Lines -/
def kys : List ByteArray := (List.range 9).map ky
def lineB (c : Cf) (k : Nat) : ByteArray := (ky k ++ (⟨#[32]⟩ : ByteArray)) ++ itoaB (c.l.getD k 0)
def linesB (c : Cf) : List ByteArray := (List.range 9).map (lineB c)
def joinB (l : List ByteArray) : ByteArray := l.foldl (fun s x => (s ++ x) ++ (⟨#[10]⟩ : ByteArray)) ⟨#[]⟩
theorem may_nums {c : Cf} (h : mayB c = true) : ∀ x ∈ c.l, 0 ≤ x ∧ x ≤ 4611686018427387904 := by
  unfold mayB fitsB rightB inB at h
  simp only [Bool.and_eq_true, decide_eq_true_eq] at h
  intro x hx
  unfold Cf.l at hx
  simp only [List.mem_cons, List.not_mem_nil, or_false] at hx
  rcases hx with rfl | rfl | rfl | rfl | rfl | rfl | rfl | rfl | rfl <;> omega
theorem may_num {c : Cf} (h : mayB c = true) {k : Nat} (hk : k < 9) : 0 ≤ c.l.getD k 0 ∧ c.l.getD k 0 ≤ 4611686018427387904 := by
  refine may_nums h _ ?_
  rw [List.getD_eq_getElem?_getD, List.getElem?_eq_getElem (by simpa [Cf.l] using hk)]
  exact List.getElem_mem _
theorem ky_size : ∀ k, k < 9 → (ky k).size ≤ 6 ∧ 1 ≤ (ky k).size := by decide
theorem bs_app (a b : ByteArray) : (a ++ b).size = a.size + b.size := ByteArray.size_append
theorem line_size {c : Cf} (h : mayB c = true) {k : Nat} (hk : k < 9) : (lineB c k).size ≤ 26 := by
  obtain ⟨h1, h2⟩ := may_num h hk
  have := itoa_size _ h1 h2
  have := ky_size k hk
  have h3 : (⟨#[32]⟩ : ByteArray).size = 1 := rfl
  unfold lineB
  rw [bs_app, bs_app]; omega
theorem getD_v {c : Cf} {k : Nat} (hk : k < 9) : c.v[k]? = some (.lit (.int .i64 (c.l.getD k 0))) := by
  have hl : k < c.l.length := by simpa [Cf.l] using hk
  unfold Cf.v intVs
  rw [List.getElem?_map, List.getElem?_eq_getElem hl, List.getD_eq_getElem?_getD, List.getElem?_eq_getElem hl]; rfl
theorem kys_get {k : Nat} (hk : k < 9) : (strVs kys)[k]? = some (.lit (.string (ky k))) := by
  unfold strVs kys
  simp [hk]
theorem lines_get {c : Cf} {k : Nat} (hk : k < 9) : (strVs (linesB c))[k]? = some (.lit (.string (lineB c k))) := by
  unfold strVs linesB
  simp [hk]
theorem refKeys_run (h : AHeap) : S_chainmanref38_Keys h = some (.sl 1 h.length 0 9, h ++ [.cells (strVs kys)]) := by
  rw [S_chainmanref38_Keys_eq]; rfl
theorem refNumbers_run (c : Cf) (h : AHeap) : S_chainmanref38_Numbers c.v h = some (.sl 1 (h.length + 1) 0 9, (h ++ [.cells c.v]) ++ [.cells c.v]) := by
  have H : cellsAt (psh h (.cells c.v)) h.length = some c.v := cellsAt_new h _
  rw [S_chainmanref38_Numbers_eq]
  simp only [ld1_of H]
  show some (AVal.sl 1 (psh h (AObj.cells c.v)).length 0 9, psh h (AObj.cells c.v) ++ [AObj.cells c.v]) = _
  rw [psh_length]; rfl
theorem refLines_loop {c : Cf} (hm : mayB c = true) {N : Nat} : ∀ (m i : Nat) (out : AVal) (h : AHeap) (kb nb : Nat), i + m = 9 → cellsAt h kb = some (strVs kys) → cellsAt h nb = some c.v → kb < N → nb < N → Own 1 h out i (strVs ((linesB c).take i)) → N ≤ h.length → (∀ b, At out b → N ≤ b) →
    ∃ v h', S_chainmanref38_Lines_0 out (.sl 1 kb 0 9) (.sl 1 nb 0 9) (i : Int) h = some (v, h') ∧ Own 1 h' v 9 (strVs (linesB c)) ∧ Keep N [] h h' ∧ ∀ b, At v b → N ≤ b
  | 0, i, out, h, kb, nb, hi, hk, hn, hkN, hnN, O, hN, hA => by
    obtain rfl : i = 9 := by omega
    rw [S_chainmanref38_Lines_0_eq]
    show ∃ v h', S_chainmanref38_Lines_1 out h = _ ∧ _
    rw [S_chainmanref38_Lines_1_eq]
    exact ⟨out, h, rfl, by rwa [List.take_of_length_le (by simp [linesB])] at O, Keep.refl _ _ _, hA⟩
  | m + 1, i, out, h, kb, nb, hi, hk, hn, hkN, hnN, O, hN, hA => by
    have hi9 : i < 9 := by omega
    have hnext : IntKind.wrap .i64 ((i : Int) + 1) = ((i + 1 : Nat) : Int) := by rw [wrap_i64 (by omega) (by omega)]; omega
    have idx : ∀ b, idxP 1 (.sl 1 b 0 9) (i : Int) = some (.ptr b i) := fun b => by
      unfold idxP; simp only [Nat.beq_refl]; rw [req_true (by omega)]; simp
    obtain ⟨h1, h2⟩ := may_num hm hi9
    have z1 := itoa_size _ h1 h2
    have z2 := ky_size i hi9
    have z3 : (⟨#[32]⟩ : ByteArray).size = 1 := rfl
    rw [S_chainmanref38_Lines_0_eq]
    show ∃ v h', (bif decide ((i : Int) < 9) then _ else _) = _ ∧ _
    rw [decide_eq_true (by omega), cond_true, idx, Option.bind_some, ld1_of hk, kys_get hi9, Option.bind_some]
    show ∃ v h', (req ((ky i).size + (⟨#[32]⟩ : ByteArray).size ≤ 9223372036854775807)).bind _ = _ ∧ _
    rw [req_true (by omega), Option.bind_some, idx, Option.bind_some, ld1_of hn, getD_v hi9, Option.bind_some]
    show ∃ v h', (req (0 ≤ c.l.getD i 0 ∧ c.l.getD i 0 ≤ 9223372036854775807)).bind _ = _ ∧ _
    rw [req_true (by omega), Option.bind_some, req_true (by rw [bs_app]; omega), Option.bind_some, blit_one rfl, Option.bind_some]
    obtain ⟨v', h', a1, a2, a3, a4, a5, a6⟩ := push_app (w := 16) (xs := [.lit (.string (lineB c i))]) O rfl rfl (by omega)
    rw [show ((ky i ++ (⟨#[32]⟩ : ByteArray)) ++ itoaB (c.l.getD i 0)) = lineB c i from rfl, a1, Option.bind_some, hnext]
    have kp : Keep N [] h h' := ⟨a3, fun y hy _ => a6 y (by omega) fun hy2 => by have := hA y hy2; omega⟩
    obtain ⟨v, g, d1, d2, d3, d4⟩ := refLines_loop hm m (i + 1) v' h' kb nb (by omega) (kp.cells hkN (by simp) hk) (kp.cells hnN (by simp) hn) hkN hnN (by
      have : strVs ((linesB c).take (i + 1)) = strVs ((linesB c).take i) ++ [.lit (.string (lineB c i))] := by
        have hl : i < (linesB c).length := by simpa [linesB] using hi9
        rw [← List.take_append_getElem hl, strVs_app]
        congr 1
        simp [strVs, linesB]
      rw [this]; exact a2) (by omega) (fun b hb => Nat.le_trans hN (a5 b hb))
    exact ⟨v, g, d1, d2, kp.trans d3, d4⟩
theorem refLines_run {c : Cf} (hm : mayB c = true) (h : AHeap) : ∃ v h', S_chainmanref38_Lines c.v h = some (v, h') ∧ Own 1 h' v 9 (strVs (linesB c)) ∧ Keep h.length [] h h' ∧ ∀ b, At v b → h.length ≤ b := by
  have H : cellsAt (psh h (.cells c.v)) h.length = some c.v := cellsAt_new h _
  have hld : ∀ g, cellsAt g h.length = some c.v → ldn 9 g (.ptr h.length 0) = some c.v := fun g hg => by
    rw [ldn_of (n := 9) (off := 0) hg (by simp [Cf.v, intVs, Cf.l])]; rfl
  rw [S_chainmanref38_Lines_eq, hld _ H, Option.bind_some, refKeys_run, Option.bind_some]
  have H1 := cellsAt_more [AObj.cells (strVs kys)] H
  rw [hld _ H1, Option.bind_some, reqC_true rfl, Option.bind_some, refNumbers_run, Option.bind_some]
  have e1 : (psh h (AObj.cells c.v) ++ [AObj.cells (strVs kys)]).length = h.length + 2 := by simp [psh]
  dsimp only
  rw [e1, psh_length]
  have hk : cellsAt (psh h (AObj.cells c.v) ++ [AObj.cells (strVs kys)]) (h.length + 1) = some (strVs kys) := by
    have := cellsAt_new (psh h (AObj.cells c.v)) (strVs kys)
    rw [psh_length] at this; exact this
  have hn : cellsAt (((psh h (AObj.cells c.v) ++ [AObj.cells (strVs kys)]) ++ [AObj.cells c.v]) ++ [AObj.cells c.v]) (h.length + 3) = some c.v := by
    have := cellsAt_new ((psh h (AObj.cells c.v) ++ [AObj.cells (strVs kys)]) ++ [AObj.cells c.v]) c.v
    rw [List.length_append, e1] at this; exact this
  obtain ⟨v, g, d1, d2, d3, d4⟩ := refLines_loop hm (N := h.length + 4) 9 0 (.lit (.slice none 0 0)) (((psh h (AObj.cells c.v) ++ [AObj.cells (strVs kys)]) ++ [AObj.cells c.v]) ++ [AObj.cells c.v]) (h.length + 1) (h.length + 3) rfl (cellsAt_more _ (cellsAt_more _ hk)) hn (by omega) (by omega) (Own.nil _ _) (by simp [psh]) (fun b hb => by obtain ⟨_, _, _, hb⟩ := hb; cases hb)
  refine ⟨v, g, d1, d2, ⟨?_, fun y hy _ => ?_⟩, fun b hb => by have := d4 b hb; omega⟩
  · have := d3.len; simp [psh] at this; omega
  · rw [d3.get y (by omega) (by simp)]
    simp [psh, List.getElem?_append_left hy]
/-! ### Text -/
theorem joinB_snoc (l : List ByteArray) (x : ByteArray) : joinB (l ++ [x]) = (joinB l ++ x) ++ (⟨#[10]⟩ : ByteArray) := by
  unfold joinB; rw [List.foldl_append]; rfl
theorem refText_loop {c : Cf} (hm : mayB c = true) {h : AHeap} {v : AVal} (S : Sl 1 h v 9 (strVs (linesB c))) : ∀ (m i : Nat), i + m = 9 → (joinB ((linesB c).take i)).size ≤ 27 * i →
    S_chainmanref38_Text_0 (joinB ((linesB c).take i)) v (i : Int) h = some (.tup [.lit (.string (joinB (linesB c))), .lit (.bool true)], h)
  | 0, i, hi, hz => by
    obtain rfl : i = 9 := by omega
    rw [S_chainmanref38_Text_0_eq, S.len, Option.bind_some]
    show S_chainmanref38_Text_1 _ h = _
    rw [S_chainmanref38_Text_1_eq, List.take_of_length_le (by simp [linesB])]
  | m + 1, i, hi, hz => by
    have hi9 : i < 9 := by omega
    have hnext : IntKind.wrap .i64 ((i : Int) + 1) = ((i + 1 : Nat) : Int) := by rw [wrap_i64 (by omega) (by omega)]; omega
    obtain ⟨p, q1, _, _, q2⟩ := S.idx hi9
    have z := line_size hm hi9
    have z3 : (⟨#[10]⟩ : ByteArray).size = 1 := rfl
    rw [S_chainmanref38_Text_0_eq, S.len, Option.bind_some, decide_eq_true (by omega), cond_true, q1, Option.bind_some, q2 (by omega), Nat.mul_one, lines_get hi9, Option.bind_some]
    show (req ((joinB ((linesB c).take i)).size + (lineB c i).size ≤ 9223372036854775807)).bind _ = _
    rw [req_true (by omega), Option.bind_some, req_true (by rw [bs_app]; omega), Option.bind_some, hnext]
    have e : (joinB ((linesB c).take i) ++ lineB c i) ++ (⟨#[10]⟩ : ByteArray) = joinB ((linesB c).take (i + 1)) := by
      have hl : i < (linesB c).length := by simpa [linesB] using hi9
      rw [← List.take_append_getElem hl, joinB_snoc]
      simp [linesB]
    rw [e]
    refine refText_loop hm S m (i + 1) (by omega) ?_
    rw [← e, bs_app, bs_app]; omega
def textV (c : Cf) : AVal := .tup [.lit (.string (if mayB c then joinB (linesB c) else ⟨#[]⟩)), .lit (.bool (mayB c))]
theorem refText_run (c : Cf) (h : AHeap) : ∃ h', S_chainmanref38_Text c.v h = some (textV c, h') := by
  have H : cellsAt (psh h (.cells c.v)) h.length = some c.v := cellsAt_new h _
  have hld : ∀ g, cellsAt g h.length = some c.v → ldn 9 g (.ptr h.length 0) = some c.v := fun g hg => by
    rw [ldn_of (n := 9) (off := 0) hg (by simp [Cf.v, intVs, Cf.l])]; rfl
  obtain ⟨y, e⟩ := refMay_run c (psh h (.cells c.v))
  rw [S_chainmanref38_Text_eq, hld _ H, Option.bind_some, e, Option.bind_some]
  unfold textV
  cases hm : mayB c with
  | false => exact ⟨_, rfl⟩
  | true =>
    show ∃ h', (ldn 9 (psh h (.cells c.v) ++ y) (.ptr h.length 0)).bind _ = _
    rw [hld _ (cellsAt_more y H), Option.bind_some]
    obtain ⟨v, h', q1, q2, _, _⟩ := refLines_run hm (psh h (.cells c.v) ++ y)
    rw [q1, Option.bind_some, if_pos rfl]
    exact ⟨h', refText_loop hm q2.sl 9 0 rfl (Nat.zero_le _)⟩
end Go.Proofs.YtglmofbcooefkaaDoor.AL
/- A configuration's text, line by line: the plain law. -/
namespace Go.Proofs.YtglmofbcooefkaaDoor.AL
set_option linter.unusedVariables false
set_option linter.unusedSimpArgs false
set_option maxRecDepth 100000
open Go
open Go.Proofs.Tryd
def countsB (s : ByteArray) : Bool := !decide (s = (⟨#[]⟩ : ByteArray)) && !(prefB s ⟨#[35]⟩)
def wordOf (s : ByteArray) : ByteArray := (cutB 32 s).1
def digsOf (s : ByteArray) : ByteArray := (cutB 32 s).2.1
def keyIn (left : List Nat) (w : ByteArray) : Option Nat := left.find? fun k => decide (ky k = w)
def stepP (v : List Int) (l : List Nat) (s : ByteArray) : Option (List Int × List Nat) := match countsB s with
  | true => match keyIn l (wordOf s), (numR (digsOf s)).2 with
    | some k, true => some (v.set k (numR (digsOf s)).1, l.eraseP fun k => decide (ky k = wordOf s))
    | _, _ => none
  | false => some (v, l)
def runP : List ByteArray → Nat → List Int → List Nat → Nat ⊕ (List Int × List Nat)
  | [], _, v, l => .inr (v, l)
  | s :: ss, i, v, l => match stepP v l s with
    | some (v', l') => runP ss (i + 1) v' l'
    | none => .inl (i + 1)
def Cf.of (v : List Int) : Cf := ⟨v.getD 0 0, v.getD 1 0, v.getD 2 0, v.getD 3 0, v.getD 4 0, v.getD 5 0, v.getD 6 0, v.getD 7 0, v.getD 8 0⟩
theorem Cf.of_l {v : List Int} (h : v.length = 9) : (Cf.of v).l = v := by
  match v, h with
  | [a, b, c, d, e, f, g, i, j], _ => rfl
def zer9 : List Int := [0, 0, 0, 0, 0, 0, 0, 0, 0]
def resV (v : List Int) (n : Int) (e : Int) : AVal := .tup [.agg (intVs v), .lit (.int .i64 n), .lit (.int .i64 e)]
def endP : Nat ⊕ (List Int × List Nat) → AVal
  | .inl j => resV zer9 j 8
  | .inr (v, l) => match decide (l.length > 0) || !mayB (Cf.of v) with
    | true => resV zer9 0 8
    | false => resV v 0 0
def parseV (s : ByteArray) : AVal := match decide ((s.size : Int) > 1024) with
  | true => resV zer9 0 15
  | false => endP (runP (partsB 10 s) 0 zer9 (List.range 9))
/-! ### Parts and a cut -/
theorem cut_cases (c : UInt8) (s : ByteArray) : (c ∉ toL s ∧ partsB c s = [s] ∧ (cutB c s).1 = s ∧ (cutB c s).2.1 = ⟨#[]⟩) ∨ (partsB c s = (cutB c s).1 :: partsB c (cutB c s).2.1 ∧ c ∉ toL (cutB c s).1 ∧ s = ((cutB c s).1 ++ (⟨#[c]⟩ : ByteArray)) ++ (cutB c s).2.1) := by
  rcases index_cases c (toL s) with ⟨h1, h2⟩ | ⟨k, h1, hk, h2, h3⟩
  · left
    have hx : indexB s c = -1 := h1
    refine ⟨h2, ?_, ?_, ?_⟩
    · unfold partsB; rw [partsL_none h2]; simp [toB_toL]
    · unfold cutB; rw [hx, if_pos (by omega)]
    · unfold cutB; rw [hx, if_pos (by omega)]
  · right
    have hx : indexB s c = (k : Int) := h1
    have e1 : (cutB c s).1 = s.extract 0 k := by unfold cutB; rw [hx, if_neg (by omega)]; rfl
    have e2 : (cutB c s).2.1 = s.extract (k + 1) s.size := by unfold cutB; rw [hx, if_neg (by omega)]; rfl
    have f1 : toL (cutB c s).1 = (toL s).take k := by rw [e1, toL_extract, List.drop_zero]
    have f2 : toL (cutB c s).2.1 = (toL s).drop (k + 1) := by rw [e2, toL_extract, List.take_of_length_le (by rw [toL_len]; exact Nat.le_refl _)]
    refine ⟨?_, by rw [f1]; exact h3, toL_inj ?_⟩
    · unfold partsB
      rw [partsL_hit hk h2 h3, List.map_cons, f2, ← f1, toB_toL]
    · rw [toL_app, toL_app, f1, f2]
      show toL s = ((toL s).take k ++ [c]) ++ (toL s).drop (k + 1)
      rw [← h2, List.take_append_getElem hk, List.take_append_drop]
theorem parts_sizes (c : UInt8) : ∀ (l : List UInt8), ∀ p ∈ partsL c l, p.length ≤ l.length
  | [], p, hp => by simp [partsL] at hp; simp [hp]
  | x :: l, p, hp => by
    have ih := parts_sizes c l
    unfold partsL at hp
    split at hp
    · rcases List.mem_cons.1 hp with rfl | hp
      · simp
      · have := ih p hp; simp; omega
    · cases hq : partsL c l with
      | nil => rw [hq] at hp; simp at hp; simp [hp]
      | cons q qs =>
        rw [hq] at hp ih
        rcases List.mem_cons.1 hp with rfl | hp
        · have := ih q (List.mem_cons_self ..); simp; omega
        · have := ih p (List.mem_cons_of_mem _ hp); simp; omega
theorem partsB_sizes (c : UInt8) (s : ByteArray) : ∀ p ∈ partsB c s, p.size ≤ s.size := by
  intro p hp
  unfold partsB at hp
  obtain ⟨q, hq, rfl⟩ := List.mem_map.1 hp
  rw [toB_size, ← toL_len]
  exact parts_sizes c _ q hq
theorem partsB_none {c : UInt8} {s : ByteArray} (h : c ∉ toL s) : partsB c s = [s] := by unfold partsB; rw [partsL_none h]; simp [toB_toL]
theorem partsB_many {c : UInt8} {s : ByteArray} (h : c ∈ toL s) : 2 ≤ (partsB c s).length := by
  rw [partsB_len]; have := List.count_pos_iff.2 h; omega
/-- What both say of a line. -/
def lineOk (s : ByteArray) : Bool := (numR (digsOf s)).2
def numOk (d : ByteArray) : Bool := decide (itoaB (looseB d) = d) && decide (looseB d ≤ 4611686018427387904)
theorem numOk_iff (d : ByteArray) : numOk d = (numR d).2 := by
  have h := numR_loose d
  unfold numOk
  cases hb : (numR d).2 with
  | true => obtain ⟨h1, h2⟩ := h.1 hb; rw [decide_eq_true h1, decide_eq_true h2]; rfl
  | false =>
    cases h1 : decide (itoaB (looseB d) = d) with
    | false => rfl
    | true =>
      cases h2 : decide (looseB d ≤ 4611686018427387904) with
      | false => rfl
      | true => have := h.2 ⟨of_decide_eq_true h1, of_decide_eq_true h2⟩; rw [hb] at this; cases this
theorem numR_digs {d : ByteArray} (h : (numR d).2 = true) : 32 ∉ toL d := by
  obtain ⟨_, h1, h2, h3⟩ := numR_val h
  intro hm
  rw [h3] at hm
  have := itoa_digs h1 _ hm
  unfold isDig at this
  simp at this
theorem numR_empty : (numR ⟨#[]⟩).2 = false := by decide
theorem line_two {s : ByteArray} (h : lineOk s = true) : partsB 32 s = [wordOf s, digsOf s] := by
  unfold lineOk at h
  rcases cut_cases 32 s with ⟨h1, h2, h3, h4⟩ | ⟨h1, h2, _⟩
  · unfold digsOf at h; rw [h4, numR_empty] at h; cases h
  · rw [h1, show (cutB 32 s).2.1 = digsOf s from rfl, partsB_none (numR_digs h)]; rfl
theorem line_not {s : ByteArray} (h : lineOk s = false) : (partsB 32 s).length ≠ 2 ∨ (partsB 32 s).length = 2 ∧ ∀ d, (partsB 32 s)[1]? = some d → numOk d = false := by
  unfold lineOk at h
  rcases cut_cases 32 s with ⟨h1, h2, h3, h4⟩ | ⟨h1, h2, _⟩
  · left; rw [h2]; simp
  · by_cases hm : 32 ∈ toL (cutB 32 s).2.1
    · left
      have := partsB_many hm
      rw [h1, List.length_cons]; omega
    · right
      rw [h1, partsB_none hm]
      refine ⟨rfl, fun d hd => ?_⟩
      simp only [List.getElem?_cons_succ, List.getElem?_cons_zero, Option.some.injEq] at hd
      subst hd
      rw [numOk_iff]; exact h
/-! ### Words -/
theorem keyIn_some {l : List Nat} {w : ByteArray} {k : Nat} (h : keyIn l w = some k) : k ∈ l ∧ ky k = w := by
  unfold keyIn at h
  exact ⟨List.mem_of_find?_eq_some h, by simpa using List.find?_some h⟩
theorem keyIn_none {l : List Nat} {w : ByteArray} (h : keyIn l w = none) : ∀ k ∈ l, ky k ≠ w := by
  intro k hk
  unfold keyIn at h
  have := List.find?_eq_none.1 h k hk
  simpa using this
theorem keyIn_mem {l : List Nat} {w : ByteArray} {k : Nat} (hl : ∀ x ∈ l, x < 9) (hk : k ∈ l) (hw : ky k = w) : keyIn l w = some k := by
  cases h : keyIn l w with
  | none => exact absurd hw (keyIn_none h k hk)
  | some j =>
    obtain ⟨h1, h2⟩ := keyIn_some h
    rw [ky_inj (hl j h1) (hl k hk) (h2.trans hw.symm)]
theorem keyIn_not {l : List Nat} {w : ByteArray} (h : ∀ k ∈ l, ky k ≠ w) : keyIn l w = none := by
  cases h' : keyIn l w with
  | none => rfl
  | some j => obtain ⟨h1, h2⟩ := keyIn_some h'; exact absurd h2 (h j h1)
theorem eraseP_key {l : List Nat} {w : ByteArray} {k : Nat} (hl : ∀ x ∈ l, x < 9) (hn : l.Nodup) (h : keyIn l w = some k) : ∀ x, x ∈ l.eraseP (fun k => decide (ky k = w)) ↔ x ∈ l ∧ x ≠ k := by
  obtain ⟨h1, h2⟩ := keyIn_some h
  have : l.eraseP (fun k => decide (ky k = w)) = l.erase k := by
    clear h hn
    induction l with
    | nil => rfl
    | cons y l ih =>
      by_cases hy : y = k
      · subst hy; simp [h2]
      · have hyw : ky y ≠ w := fun e => hy (ky_inj (hl y (by simp)) (hl k h1) (e.trans h2.symm))
        have hk : k ∈ l := by
          rcases List.mem_cons.1 h1 with e | e
          · exact absurd e.symm hy
          · exact e
        rw [List.eraseP_cons_of_neg (by simpa using hyw), List.erase_cons_tail (by simpa using hy), ih (fun x hx => hl x (by simp [hx])) hk]
  intro x
  rw [this, hn.mem_erase_iff]
  exact ⟨fun h => ⟨h.2, h.1⟩, fun h => ⟨h.2, h.1⟩⟩
theorem eraseP_len {l : List Nat} {w : ByteArray} {k : Nat} (h : keyIn l w = some k) : (l.eraseP fun k => decide (ky k = w)).length + 1 = l.length := by
  obtain ⟨h1, h2⟩ := keyIn_some h
  rw [List.length_eraseP_of_mem h1 (by simpa using h2)]
  have := List.length_pos_of_mem h1; omega
theorem counts_iff (s : ByteArray) (hs : s ≠ (⟨#[]⟩ : ByteArray)) : ∃ hl : 0 < s.size, countsB s = !decide ((s[0].toNat : Int) = 35) := by
  have h0 : s.size ≠ 0 := fun e => hs (size0.1 e)
  have hl : 0 < s.size := by omega
  refine ⟨hl, ?_⟩
  unfold countsB
  rw [decide_eq_false hs, Bool.not_false, Bool.true_and]
  congr 1
  unfold prefB
  have h1 : (⟨#[35]⟩ : ByteArray).size = 1 := rfl
  rw [h1, decide_eq_true (by omega), Bool.true_and]
  have e : toL (s.extract 0 1) = [s[0]] := by
    have := drop_cons hl
    rw [List.drop_zero] at this
    rw [toL_extract, this]; rfl
  have : (s.extract 0 1 = (⟨#[35]⟩ : ByteArray)) ↔ ((s[0].toNat : Int) = 35) := by
    constructor
    · intro h
      rw [h] at e
      have h2 : ([35] : List UInt8) = [s[0]] := e
      have h3 : (35 : UInt8) = s[0] := by simpa using h2
      rw [← h3]; rfl
    · intro h
      refine toL_inj ?_
      rw [e]
      have : s[0] = 35 := UInt8.toNat_inj.1 (by simp; omega)
      rw [this]; rfl
  exact decide_eq_decide.2 this
end Go.Proofs.YtglmofbcooefkaaDoor.AL
/- The code's configuration: its text, and what a text says. -/
namespace Go.Proofs.YtglmofbcooefkaaDoor.AL
set_option linter.unusedVariables false
set_option linter.unusedSimpArgs false
set_option maxRecDepth 100000
open Go
open Go.Proofs.Tryd
theorem same_key (x : Nat) (w : ByteArray) : sameV (.string (ky x)) (.string w) = decide (ky x = w) := rfl
theorem mfind_left (b : Nat) (w : ByteArray) : ∀ l : List Nat, (mfind (.string w) (l.map (ent b))).map (·.2) = (keyIn l w).map fun k => AVal.ptr b (0 + k)
  | [] => rfl
  | x :: l => by
    have ih := mfind_left b w l
    unfold keyIn at ih ⊢
    rw [List.map_cons, show ent b x = (Value.string (ky x), AVal.ptr b (0 + x)) from rfl, List.find?_cons]
    unfold mfind
    rw [same_key]
    cases hd : decide (ky x = w) with
    | true => rfl
    | false =>
      dsimp only
      rw [← ih]
      cases mfind (.string w) (l.map (ent b)) with
      | none => rfl
      | some q => obtain ⟨i, v⟩ := q; rfl
theorem mlook_left (b : Nat) (w : ByteArray) (l : List Nat) (z : AVal) : (mlook z (.string w) (l.map (ent b))).1 = match keyIn l w with
    | some k => .ptr b (0 + k)
    | none => z := by
  have h := mfind_left b w l
  unfold mlook
  cases hm : mfind (.string w) (l.map (ent b)) with
  | none =>
    rw [hm] at h
    cases hk : keyIn l w with
    | none => rfl
    | some k => rw [hk] at h; cases h
  | some q =>
    obtain ⟨i, v⟩ := q
    rw [hm] at h
    cases hk : keyIn l w with
    | none => rw [hk] at h; cases h
    | some k => rw [hk] at h; simp only [Option.map_some, Option.some.injEq] at h; exact h
theorem mdel_left (b : Nat) (w : ByteArray) : ∀ l : List Nat, mdel (.string w) (l.map (ent b)) = (l.eraseP fun k => decide (ky k = w)).map (ent b)
  | [] => rfl
  | x :: l => by
    have ih := mdel_left b w l
    unfold mdel at ih ⊢
    rw [List.map_cons, show ent b x = (Value.string (ky x), AVal.ptr b (0 + x)) from rfl, List.eraseP_cons]
    unfold mfind
    rw [same_key]
    cases hd : decide (ky x = w) with
    | true => rfl
    | false =>
      dsimp only
      cases hm : mfind (.string w) (l.map (ent b)) with
      | none => rw [hm] at ih; dsimp only at ih ⊢; rw [cond_false, List.map_cons, ← ih]; rfl
      | some q =>
        obtain ⟨i, v⟩ := q
        rw [hm] at ih; dsimp only at ih ⊢; rw [cond_false, List.map_cons, ← ih]; rfl
theorem mapAt_U {h : AHeap} {mb : Nat} {es : List (Value × AVal)} (H : h[mb]? = some (.mapU .str es)) : mapAt .str h (.map mb) = some es := by
  unfold mapAt; simp only [H]; rfl
theorem mapDel_U {h : AHeap} {mb : Nat} {es : List (Value × AVal)} (H : h[mb]? = some (.mapU .str es)) (w : ByteArray) : mapDel .str h (.map mb) (.string w) = some (h.set mb (.mapU .str (mdel (.string w) es))) := by
  show mapSetU .str h (.map mb) (mdel (.string w)) = _
  unfold mapSetU; simp only [H]; rfl
theorem mapLen_U {h : AHeap} {mb : Nat} {es : List (Value × AVal)} (H : h[mb]? = some (.mapU .str es)) : xMapLen h (.map mb) = some (.lit (.int .i64 es.length)) := by
  unfold xMapLen; simp only [H]
theorem counts_run (s : ByteArray) (h : AHeap) : S_config_counts s h = some (.lit (.bool (countsB s)), h) := by
  rw [S_config_counts_eq]
  unfold countsB
  cases decide (s = (⟨#[]⟩ : ByteArray)) with
  | true => show S_config_counts_0 false h = _; rw [S_config_counts_0_eq]; rfl
  | false => show S_config_counts_0 (!(prefB s (⟨#[35]⟩ : ByteArray))) h = _; rw [S_config_counts_0_eq]; rfl
theorem words_run (h : AHeap) : S_config_words h = some (.sl 1 h.length 0 9, h ++ [.cells (strVs kys)]) := by
  rw [S_config_words_eq]; rfl
/-! ### Text -/
theorem text_loop {c : Cf} (hm : mayB c = true) {hc b mb wb : Nat} (hcb : hc ≠ b) (hmb : mb ≠ b) (hwb : wb ≠ b) : ∀ (m i : Nat) (h : AHeap), i + m = 9 → cellsAt h hc = some c.v → h[mb]? = some (.mapU .str (flds hc)) → cellsAt h wb = some (strVs kys) →
    Bld h b (toL (joinB ((linesB c).take i))) → (joinB ((linesB c).take i)).size ≤ 27 * i → ∃ h', S_config_Text_0 b (.map mb) (.sl 1 wb 0 9) 9 (i : Int) h = some (.tup [.lit (.string (joinB (linesB c))), .lit (.bool true)], h')
  | 0, i, h, hi, H1, H2, H3, B, hz => by
    obtain rfl : i = 9 := by omega
    rw [S_config_Text_0_eq]
    show ∃ h', S_config_Text_1 b h = _
    obtain ⟨h', e, _⟩ := B.string
    rw [S_config_Text_1_eq, e, List.take_of_length_le (by simp [linesB])]
    exact ⟨h', rfl⟩
  | m + 1, i, h, hi, H1, H2, H3, B, hz => by
    have hi9 : i < 9 := by omega
    have hnext : IntKind.wrap .i64 ((i : Int) + 1) = ((i + 1 : Nat) : Int) := by rw [wrap_i64 (by omega) (by omega)]; omega
    have idx : idxP 1 (.sl 1 wb 0 9) (i : Int) = some (.ptr wb i) := by
      unfold idxP; simp only [Nat.beq_refl]; rw [req_true (by omega)]; simp
    obtain ⟨h1, h2⟩ := may_num hm hi9
    have z1 := itoa_size _ h1 h2
    have z2 := ky_size i hi9
    have z3 : (⟨#[32]⟩ : ByteArray).size = 1 := rfl
    have z4 : (⟨#[10]⟩ : ByteArray).size = 1 := rfl
    have lk : (mlook (.lit (.pointer none)) (.string (ky i)) (flds hc)).1 = .ptr hc (0 + i) := by
      unfold flds
      rw [mlook_left, keyIn_mem (k := i) (fun x hx => List.mem_range.1 hx) (List.mem_range.2 hi9) rfl]
    rw [S_config_Text_0_eq, decide_eq_true (by omega), cond_true, idx, Option.bind_some, ld1_of H3, kys_get hi9, Option.bind_some]
    show ∃ h', (req ((ky i).size + (⟨#[32]⟩ : ByteArray).size ≤ 9223372036854775807)).bind _ = _
    rw [req_true (by omega), Option.bind_some, mapAt_U H2, Option.bind_some, lk]
    show ∃ h', (ld1 h (.ptr hc (0 + i))).bind _ = _
    rw [Nat.zero_add, ld1_of H1, getD_v hi9, Option.bind_some]
    show ∃ h', (req (-9223372036854775808 ≤ c.l.getD i 0 ∧ c.l.getD i 0 ≤ 9223372036854775807)).bind _ = _
    rw [req_true (by omega), Option.bind_some, req_true (by rw [bs_app]; omega), Option.bind_some, req_true (by rw [bs_app, bs_app]; omega), Option.bind_some]
    have e : (joinB ((linesB c).take i) ++ lineB c i) ++ (⟨#[10]⟩ : ByteArray) = joinB ((linesB c).take (i + 1)) := by
      have hl : i < (linesB c).length := by simpa [linesB] using hi9
      rw [← List.take_append_getElem hl, joinB_snoc]
      simp [linesB]
    have zl := line_size hm hi9
    have ebl : toL (joinB ((linesB c).take i)) ++ (lineB c i ++ (⟨#[10]⟩ : ByteArray)).data.toList = toL (joinB ((linesB c).take (i + 1))) := by
      rw [← e, toL_app, toL_app, List.append_assoc]
      congr 1
    obtain ⟨h', w1, w2, w3, w4⟩ := B.write (s := lineB c i ++ (⟨#[10]⟩ : ByteArray)) (by rw [bs_app]; omega) (by rw [toL_len, bs_app]; omega)
    rw [show ((ky i ++ (⟨#[32]⟩ : ByteArray)) ++ itoaB (c.l.getD i 0)) ++ (⟨#[10]⟩ : ByteArray) = lineB c i ++ (⟨#[10]⟩ : ByteArray) from rfl, w1, Option.bind_some, hnext]
    rw [ebl] at w2
    refine text_loop hm hcb hmb hwb m (i + 1) h' (by omega) ?_ ?_ ?_ w2 (by rw [← e, bs_app, bs_app]; omega)
    · have := cellsAt_some H1
      unfold cellsAt
      rw [w3 hc (cellsAt_lt H1) hcb (fun T bs => by rw [this]; simp), this]
    · rw [w3 mb (lt_of_getL H2) hmb (fun T bs => by rw [H2]; simp), H2]
    · have := cellsAt_some H3
      unfold cellsAt
      rw [w3 wb (cellsAt_lt H3) hwb (fun T bs => by rw [this]; simp), this]
theorem text_run (c : Cf) (h : AHeap) : ∃ h', S_config_Text c.v h = some (textV c, h') := by
  have H : cellsAt (psh h (.cells c.v)) h.length = some c.v := cellsAt_new h _
  obtain ⟨y, e⟩ := may_run c (psh h (.cells c.v))
  rw [S_config_Text_eq, ldn_of (n := 9) (off := 0) H (by simp [Cf.v, intVs, Cf.l]), show (c.v.drop 0).take 9 = c.v from rfl, Option.bind_some, e, Option.bind_some]
  unfold textV
  cases hm : mayB c with
  | false => exact ⟨_, rfl⟩
  | true =>
    rw [show asB (AVal.lit (.bool true), psh h (.cells c.v) ++ y).1 = some true from rfl, Option.bind_some, show (!true) = false from rfl, cond_false]
    rw [show fldsOf (.ptr h.length 0) = some (flds h.length) from rfl, Option.bind_some, words_run, Option.bind_some]
    generalize hg : psh h (.cells c.v) ++ y = g at *
    have H1 : cellsAt g h.length = some c.v := by rw [← hg]; exact cellsAt_more y H
    have hgl : h.length < g.length := cellsAt_lt H1
    have l1 : (psh g (.bld 79 none 0)).length = g.length + 1 := psh_length _ _
    have l2 : (psh (psh g (.bld 79 none 0)) (.mapU .str (flds h.length))).length = g.length + 2 := by rw [psh_length, l1]
    show ∃ h', S_config_Text_0 g.length (.map (psh g (.bld 79 none 0)).length) (.sl 1 (psh (psh g (.bld 79 none 0)) (.mapU .str (flds h.length))).length 0 9) 9 0 _ = _
    rw [l1, l2, if_pos rfl]
    refine text_loop hm (hc := h.length) (b := g.length) (mb := g.length + 1) (wb := g.length + 2) (by omega) (by omega) (by omega) 9 0 _ rfl (cellsAt_more _ (cellsAt_psh _ (cellsAt_psh _ H1))) ?_ ?_ (.fresh ?_) (Nat.zero_le _)
    · simp [psh, List.getElem?_append]
    · have := cellsAt_new (psh (psh g (.bld 79 none 0)) (.mapU .str (flds h.length))) (strVs kys)
      rw [l2] at this; exact this
    · simp [psh, List.getElem?_append]
/-! ### Parse -/
theorem st9 {h : AHeap} {b : Nat} {cs vs : List AVal} (H : cellsAt h b = some cs) (hc : cs.length = 9) (hv : vs.length = 9) (ho : vs.all (·.one) = true) : stn 9 h (.ptr b 0) vs = some (h.set b (.cells vs)) ∧ ldn 9 (h.set b (.cells vs)) (.ptr b 0) = some vs := by
  have e : splice cs 0 vs = vs := by
    unfold splice
    rw [List.take_zero, List.nil_append, List.drop_of_length_le (by omega), List.append_nil]
  refine ⟨by rw [stn_of H ho hv.symm (by omega), e], ?_⟩
  rw [ldn_of (n := 9) (off := 0) (cellsAt_set H) (by omega), List.drop_zero, List.take_of_length_le (by omega)]
theorem ones (v : List Int) : (intVs v).all (·.one) = true := by
  unfold intVs
  rw [List.all_map, List.all_eq_true]
  intro x _; rfl
theorem intVs_len (v : List Int) : (intVs v).length = v.length := by simp [intVs]
theorem cellsAt_ne {h : AHeap} {b c : Nat} {o : AObj} (hc : b ≠ c) : cellsAt (h.set b o) c = cellsAt h c := by
  unfold cellsAt; rw [List.getElem?_set_ne hc]
theorem get_more {h : AHeap} {b : Nat} {o : AObj} (y : AHeap) (H : h[b]? = some o) : (h ++ y)[b]? = some o := by
  rw [List.getElem?_append_left (lt_of_getL H)]; exact H
section
variable {t2 c5 mb : Nat}
theorem parse_bad {h : AHeap} (Ht : cellsAt h t2 = some (intVs zer9)) (lf : AVal) (w : ByteArray) (p : AVal) (m : Int) (t : AVal) (n i : Int) (hi : 0 ≤ i ∧ i ≤ 1000000) : ∃ h', S_config_Parse_2 t2 c5 lf i w p m t n i true h = some (resV zer9 (i + 1) 8, h') := by
  obtain ⟨e1, e2⟩ := st9 (vs := intVs zer9) Ht rfl rfl (ones _)
  rw [S_config_Parse_2_eq, cond_true]
  refine ⟨h.set t2 (.cells (intVs zer9)), ?_⟩
  refine (congrArg (Option.bind · _) (show _ = _ from e1)).trans ?_
  rw [Option.bind_some, e2, Option.bind_some, wrap_i64 (by omega) (by omega)]
  rfl
theorem parse_end {v : List Int} {l : List Nat} (hv : v.length = 9) {h : AHeap} (hne : t2 ≠ c5) (Ht : cellsAt h t2 = some (intVs zer9)) (Hc : cellsAt h c5 = some (intVs v)) (Hm : h[mb]? = some (.mapU .str (l.map (ent c5)))) :
    ∃ h', S_config_Parse_3 t2 c5 (.map mb) h = some (endP (.inr (v, l)), h') := by
  have bad : ∀ g, cellsAt g t2 = some (intVs zer9) → ∃ h', S_config_Parse_4 t2 c5 true g = some (resV zer9 0 8, h') := fun g Hg => by
    obtain ⟨e1, e2⟩ := st9 (vs := intVs zer9) Hg rfl rfl (ones _)
    rw [S_config_Parse_4_eq, cond_true]
    refine ⟨g.set t2 (.cells (intVs zer9)), ?_⟩
    refine (congrArg (Option.bind · _) (show _ = _ from e1)).trans ?_
    rw [Option.bind_some, e2, Option.bind_some]; rfl
  rw [S_config_Parse_3_eq, mapLen_U Hm, Option.bind_some]
  show ∃ h', (bif decide (((l.map (ent c5)).length : Int) > 0) then _ else _) = _
  rw [List.length_map]
  unfold endP
  dsimp only
  by_cases hl : l.length > 0
  · rw [decide_eq_true (show (l.length : Int) > 0 by omega), cond_true, decide_eq_true hl]
    exact bad h Ht
  · rw [decide_eq_false (show ¬ (l.length : Int) > 0 by omega), cond_false, decide_eq_false hl, Bool.false_or]
    have hcv : (Cf.of v).v = intVs v := by unfold Cf.v; rw [Cf.of_l hv]
    obtain ⟨y, e⟩ := may_run (Cf.of v) h
    rw [ldn_of (n := 9) (off := 0) Hc (by rw [intVs_len]; omega), List.drop_zero, List.take_of_length_le (by rw [intVs_len]; omega), Option.bind_some, ← hcv, e, Option.bind_some]
    show ∃ h', S_config_Parse_4 t2 c5 (!mayB (Cf.of v)) (h ++ y) = _
    have Ht' := cellsAt_more y Ht
    have Hc' := cellsAt_more y Hc
    cases mayB (Cf.of v) with
    | false => exact bad _ Ht'
    | true =>
      show ∃ h', S_config_Parse_4 t2 c5 false (h ++ y) = some (resV v 0 0, h')
      obtain ⟨e1, e2⟩ := st9 (vs := intVs v) Ht' rfl (by rw [intVs_len]; omega) (ones _)
      rw [S_config_Parse_4_eq, cond_false, ldn_of (n := 9) (off := 0) Hc' (by rw [intVs_len]; omega), List.drop_zero, List.take_of_length_le (by rw [intVs_len]; omega), Option.bind_some, e1, Option.bind_some, e2, Option.bind_some]
      exact ⟨_, rfl⟩
theorem parse_loop {lb : Nat} {lines : List ByteArray} (hn : lines.length ≤ 4096) (hsz : ∀ p ∈ lines, p.size ≤ 4096) (h1 : t2 ≠ c5) (h2 : mb ≠ c5) (h3 : mb ≠ lb) (h4 : c5 ≠ lb) (h5 : t2 ≠ mb) :
    ∀ (rest pre : List ByteArray) (v : List Int) (l : List Nat) (h : AHeap), lines = pre ++ rest → v.length = 9 → (∀ x ∈ l, x < 9) → l.Nodup → cellsAt h t2 = some (intVs zer9) → cellsAt h c5 = some (intVs v) → h[mb]? = some (.mapU .str (l.map (ent c5))) → cellsAt h lb = some (strVs lines) →
    ∃ h', S_config_Parse_0 t2 c5 (.map mb) (.sl 1 lb 0 lines.length) (lines.length : Int) (pre.length : Int) h = some (endP (runP rest pre.length v l), h')
  | [], pre, v, l, h, hp, hv, hl, hnd, Ht, Hc, Hm, Hl => by
    have : lines.length = pre.length := by rw [hp, List.append_nil]
    rw [S_config_Parse_0_eq, decide_eq_false (by omega), cond_false]
    exact parse_end hv h1 Ht Hc Hm
  | s :: rest, pre, v, l, h, hp, hv, hl, hnd, Ht, Hc, Hm, Hl => by
    have hlen : lines.length = pre.length + (rest.length + 1) := by rw [hp]; simp
    have hi : pre.length < lines.length := by omega
    have hs : s ∈ lines := by rw [hp]; simp
    have hss := hsz s hs
    have hnext : IntKind.wrap .i64 ((pre.length : Int) + 1) = ((pre.length + 1 : Nat) : Int) := by rw [wrap_i64 (by omega) (by omega)]; omega
    have idx : idxP 1 (.sl 1 lb 0 lines.length) (pre.length : Int) = some (.ptr lb pre.length) := by
      unfold idxP; simp only [Nat.beq_refl]; rw [req_true (by omega)]; simp
    have get : (strVs lines)[pre.length]? = some (.lit (.string s)) := by
      unfold strVs; rw [hp]; simp
    have go : ∀ (v' : List Int) (l' : List Nat) (g : AHeap), v'.length = 9 → (∀ x ∈ l', x < 9) → l'.Nodup → cellsAt g t2 = some (intVs zer9) → cellsAt g c5 = some (intVs v') → g[mb]? = some (.mapU .str (l'.map (ent c5))) → cellsAt g lb = some (strVs lines) →
        ∃ h', S_config_Parse_1 t2 c5 (.map mb) (.sl 1 lb 0 lines.length) (lines.length : Int) (pre.length : Int) g = some (endP (runP rest (pre.length + 1) v' l'), h') := fun v' l' g a1 a2 a3 a4 a5 a6 a7 => by
      rw [S_config_Parse_1_eq, hnext]
      have := parse_loop hn hsz h1 h2 h3 h4 h5 rest (pre ++ [s]) v' l' g (by rw [hp]; simp) a1 a2 a3 a4 a5 a6 a7
      rw [List.length_append, List.length_singleton] at this
      exact this
    rw [S_config_Parse_0_eq, decide_eq_true (by omega), cond_true, idx, Option.bind_some, ld1_of Hl, get, Option.bind_some]
    show ∃ h', (onlyR (S_config_counts s h) h).bind _ = _
    rw [counts_run, onlyR_same, Option.bind_some, show asB (AVal.lit (.bool (countsB s))) = some (countsB s) from rfl, Option.bind_some]
    unfold runP stepP
    cases hcs : countsB s with
    | false => exact go v l h hv hl hnd Ht Hc Hm Hl
    | true =>
      show ∃ h', (req ((⟨#[32]⟩ : ByteArray).size = 1 ∧ s.size ≤ 4611686018427387904)).bind _ = _
      rw [req_true ⟨rfl, by omega⟩, Option.bind_some, mapAt_U Hm, Option.bind_some, show sep0 (⟨#[32]⟩ : ByteArray) = 32 from rfl]
      obtain ⟨y, e⟩ := number_run (digsOf s) h
      rw [show (cutB 32 s).2.1 = digsOf s from rfl, e, Option.bind_some, show (cutB 32 s).1 = wordOf s from rfl, mlook_left]
      have Ht' := cellsAt_more y Ht
      have Hc' := cellsAt_more y Hc
      have Hm' := get_more y Hm
      have Hl' := cellsAt_more y Hl
      show ∃ h', (AVal.isNil .ptr _).bind _ = _
      cases hk : keyIn l (wordOf s) with
      | none =>
        exact parse_bad Ht' _ _ _ _ _ _ _ (by omega)
      | some k =>
        show ∃ h', S_config_Parse_2 t2 c5 (.map mb) (pre.length : Int) (wordOf s) (.ptr c5 (0 + k)) (numR (digsOf s)).1 (.sl 1 lb 0 lines.length) (lines.length : Int) (pre.length : Int) (!(numR (digsOf s)).2) (h ++ y) = _
        cases hb : (numR (digsOf s)).2 with
        | false => exact parse_bad Ht' _ _ _ _ _ _ _ (by omega)
        | true =>
          have hk9 := hl k (keyIn_some hk).1
          rw [S_config_Parse_2_eq]
          show ∃ h', (st1 (h ++ y) (.ptr c5 (0 + k)) (.lit (.int .i64 (numR (digsOf s)).1))).bind _ = _
          have hst : (intVs v).set k (.lit (.int .i64 (numR (digsOf s)).1)) = intVs (v.set k (numR (digsOf s)).1) := by unfold intVs; rw [List.map_set]
          have Hm2 : ((h ++ y).set c5 (.cells (intVs (v.set k (numR (digsOf s)).1))))[mb]? = some (.mapU .str (l.map (ent c5))) := by rw [List.getElem?_set_ne h2.symm]; exact Hm'
          rw [Nat.zero_add, st1_of Hc' rfl (by rw [intVs_len]; omega), Option.bind_some, hst, mapDel_U Hm2, Option.bind_some, mdel_left]
          have hln := lt_of_getL Hm2
          refine go _ _ _ (by rw [List.length_set]; exact hv) (fun x hx => hl x (List.mem_of_mem_eraseP hx)) (hnd.sublist (List.eraseP_sublist)) ?_ ?_ ?_ ?_
          · rw [cellsAt_ne h5.symm, cellsAt_ne h1.symm]; exact Ht'
          · rw [cellsAt_ne h2]; exact cellsAt_set Hc'
          · exact List.getElem?_set_self hln
          · rw [cellsAt_ne h3, cellsAt_ne h4]; exact Hl'
end
theorem parse_run (s : ByteArray) (h : AHeap) : ∃ h', S_config_Parse s h = some (parseV s, h') := by
  rw [S_config_Parse_eq]
  unfold parseV
  have H0 : cellsAt (psh h (.cells (intVs zer9))) h.length = some (intVs zer9) := cellsAt_new h _
  by_cases hs : (s.size : Int) > 1024
  · obtain ⟨e1, e2⟩ := st9 (vs := intVs zer9) H0 rfl rfl (ones _)
    rw [decide_eq_true hs, cond_true]
    refine ⟨(psh h (.cells (intVs zer9))).set h.length (.cells (intVs zer9)), ?_⟩
    refine (congrArg (Option.bind · _) (show _ = _ from e1)).trans ?_
    rw [Option.bind_some, e2, Option.bind_some]
    rfl
  · rw [decide_eq_false hs, cond_false]
    have l1 : (psh h (.cells (intVs zer9))).length = h.length + 1 := psh_length _ _
    have l2 : (psh (psh h (.cells (intVs zer9))) (.cells (intVs zer9))).length = h.length + 2 := by rw [psh_length, l1]
    have l3 : (psh (psh (psh h (.cells (intVs zer9))) (.cells (intVs zer9))) (.mapU .str (flds (h.length + 1)))).length = h.length + 3 := by rw [psh_length, l2]
    show ∃ h', (fldsOf (.ptr (psh h (.cells (intVs zer9))).length 0)).bind _ = _
    rw [l1, show fldsOf (.ptr (h.length + 1) 0) = some (flds (h.length + 1)) from rfl, Option.bind_some]
    obtain ⟨g, e1, e2, e3, e4⟩ := split_run (s := s) (sep := ⟨#[10]⟩) rfl (by omega) (psh (psh (psh h (.cells (intVs zer9))) (.cells (intVs zer9))) (.mapU .str (flds (h.length + 1))))
    rw [l3] at e1 e2 e3 e4
    refine Exists.imp (fun h' q => (congrArg (Option.bind · _) (show _ = _ from e1)).trans q) ?_
    rw [show sep0 (⟨#[10]⟩ : ByteArray) = 10 from rfl] at e2 ⊢
    rw [Option.bind_some]
    show ∃ h', S_config_Parse_0 h.length (psh h (.cells (intVs zer9))).length (.map (psh (psh h (.cells (intVs zer9))) (.cells (intVs zer9))).length) (.sl 1 (h.length + 3) 0 (partsB 10 s).length) ((partsB 10 s).length : Int) 0 g = _
    rw [l1, l2]
    have hsz := partsB_sizes 10 s
    have hln : (partsB 10 s).length ≤ s.size + 1 := by
      rw [partsB_len, ← toL_len]
      have := List.count_le_length (a := (10 : UInt8)) (l := toL s)
      omega
    refine parse_loop (t2 := h.length) (c5 := h.length + 1) (mb := h.length + 2) (lb := h.length + 3) (lines := partsB 10 s) (by omega) (fun p hp => by have := hsz p hp; omega) (by omega) (by omega) (by omega) (by omega) (by omega) (partsB 10 s) [] zer9 (List.range 9) g rfl rfl (fun x hx => List.mem_range.1 hx) List.nodup_range ?_ ?_ ?_ e2
    · unfold cellsAt; rw [e3 _ (by omega)]
      have := cellsAt_some (cellsAt_psh (.mapU .str (flds (h.length + 1))) (cellsAt_psh (.cells (intVs zer9)) H0))
      rw [this]
    · unfold cellsAt; rw [e3 _ (by omega)]
      have H1 := cellsAt_new (psh h (.cells (intVs zer9))) (intVs zer9)
      rw [l1] at H1
      have := cellsAt_some (cellsAt_psh (.mapU .str (flds (h.length + 1))) H1)
      rw [this]
    · rw [e3 _ (by omega)]
      simp [psh, List.getElem?_append, flds]
end Go.Proofs.YtglmofbcooefkaaDoor.AL
/- The document's reading of a configuration. -/
namespace Go.Proofs.YtglmofbcooefkaaDoor.AL
set_option linter.unusedVariables false
set_option linter.unusedSimpArgs false
set_option maxRecDepth 100000
open Go
open Go.Proofs.Tryd
def lv : Option Nat → Int → AVal
  | some k, n => .tup [.lit (.int .i64 (k : Int)), .lit (.int .i64 n)]
  | none, _ => .tup [.lit (.int .i64 (-1)), .lit (.int .i64 0)]
def lineK (s : ByteArray) : Option Nat := match lineOk s with
  | true => keyIn (List.range 9) (wordOf s)
  | false => none
theorem refLine_loop {w : AVal} {kb : Nat} {a d : ByteArray} {h : AHeap} (S : Sl 1 h w 2 (strVs [a, d])) (Hk : cellsAt h kb = some (strVs kys)) : ∀ (m i : Nat), i + m = 9 →
    S_chainmanref38_line_0 w (.sl 1 kb 0 9) (i : Int) h = some (lv ((List.range' i m).find? fun k => decide (ky k = a) && numOk d) (looseB d), h)
  | 0, i, hi => by
    obtain rfl : i = 9 := by omega
    rw [S_chainmanref38_line_0_eq]
    show S_chainmanref38_line_1 w (.sl 1 kb 0 9) 9 false h = _
    rw [S_chainmanref38_line_1_eq, cond_false, S_chainmanref38_line_3_eq]; rfl
  | m + 1, i, hi => by
    have hi9 : i < 9 := by omega
    have hnext : IntKind.wrap .i64 ((i : Int) + 1) = ((i + 1 : Nat) : Int) := by rw [wrap_i64 (by omega) (by omega)]; omega
    have idx : idxP 1 (.sl 1 kb 0 9) (i : Int) = some (.ptr kb i) := by
      unfold idxP; simp only [Nat.beq_refl]; rw [req_true (by omega)]; simp
    obtain ⟨p0, q0, _, _, g0⟩ := S.idx (i := 0) (by omega)
    obtain ⟨p1, q1, _, _, g1⟩ := S.idx (i := 1) (by omega)
    have q0 : idxP 1 w 0 = some p0 := q0
    have q1 : idxP 1 w 1 = some p1 := q1
    have g0 : ld1 h p0 = some (.lit (.string a)) := g0 (by omega)
    have g1 : ld1 h p1 = some (.lit (.string d)) := g1 (by omega)
    have bd := looseB_bd d
    have nxt : S_chainmanref38_line_2 w (.sl 1 kb 0 9) (i : Int) (looseB d) false h = some (lv ((List.range' (i + 1) m).find? fun k => decide (ky k = a) && numOk d) (looseB d), h) := by
      rw [S_chainmanref38_line_2_eq, cond_false, hnext]
      exact refLine_loop S Hk m (i + 1) (by omega)
    rw [S_chainmanref38_line_0_eq]
    show (bif decide ((i : Int) < 9) then (lenV w).bind _ else _) = _
    rw [decide_eq_true (by omega), cond_true, S.len, Option.bind_some]
    show S_chainmanref38_line_1 w (.sl 1 kb 0 9) (i : Int) true h = _
    rw [S_chainmanref38_line_1_eq, cond_true, q1, Option.bind_some, g1, Option.bind_some]
    show (idxP 1 (.sl 1 kb 0 9) (i : Int)).bind _ = _
    rw [idx, Option.bind_some, ld1_of Hk, kys_get hi9, Option.bind_some]
    show (idxP 1 w 0).bind _ = _
    rw [q0, Option.bind_some, g0, Option.bind_some]
    show (bif decide (ky i = a) then (req (0 ≤ looseB d ∧ looseB d ≤ 9223372036854775807)).bind _ else _) = _
    rw [List.range'_succ, List.find?_cons]
    cases hw : decide (ky i = a) with
    | false =>
      rw [cond_false, Bool.false_and]
      exact nxt
    | true =>
      rw [cond_true, Bool.true_and, req_true (by omega), Option.bind_some, Option.bind_some, g1, Option.bind_some]
      show (bif decide (itoaB (looseB d) = d) then _ else _) = _
      unfold numOk at nxt ⊢
      cases e1 : decide (itoaB (looseB d) = d) with
      | false => rw [e1] at nxt; rw [cond_false, Bool.false_and]; exact nxt
      | true =>
        rw [cond_true, Bool.true_and]
        rw [e1] at nxt
        cases e2 : decide (looseB d ≤ 4611686018427387904) with
        | false => rw [e2] at nxt; exact nxt
        | true => rw [S_chainmanref38_line_2_eq, cond_true]; rfl
theorem refLine_run {s : ByteArray} (hs : s.size ≤ 4294967296) (h : AHeap) : ∃ h', S_chainmanref38_line s h = some (lv (lineK s) (numR (digsOf s)).1, h') ∧ Keep h.length [] h h' := by
  obtain ⟨w, g, e1, e2, e3, e4⟩ := refParts_run hs 32 h
  have e1 : S_chainmanref36_Parts s 32 h = some (w, g) := e1
  rw [S_chainmanref38_line_eq, e1, Option.bind_some, refKeys_run, Option.bind_some]
  have S := e2.sl.keep (h' := g ++ [.cells (strVs kys)]) (X := []) (Keep.app _ (Nat.le_refl _)) (fun _ _ _ _ => by simp)
  have Hk : cellsAt (g ++ [.cells (strVs kys)]) g.length = some (strVs kys) := cellsAt_new g _
  refine ⟨g ++ [.cells (strVs kys)], ?_, e3.trans (Keep.app _ e3.len)⟩
  show S_chainmanref38_line_0 w (.sl 1 g.length 0 9) 0 (g ++ [.cells (strVs kys)]) = _
  unfold lineK
  have out : (partsB 32 s).length ≠ 2 → S_chainmanref38_line_0 w (.sl 1 g.length 0 9) 0 (g ++ [.cells (strVs kys)]) = some (lv none (numR (digsOf s)).1, g ++ [.cells (strVs kys)]) := fun hne => by
    rw [S_chainmanref38_line_0_eq]
    rw [show lenV (.sl 1 g.length 0 9) = some 9 from rfl, Option.bind_some, decide_eq_true (by omega), cond_true, S.len, Option.bind_some, decide_eq_false (by omega), S_chainmanref38_line_1_eq, cond_false, S_chainmanref38_line_3_eq]; rfl
  cases hok : lineOk s with
  | true =>
    have hp := line_two hok
    obtain ⟨n1, _, _, _⟩ := numR_val hok
    rw [hp] at S
    have := refLine_loop S Hk 9 0 rfl
    rw [numOk_iff, show (numR (digsOf s)).2 = true from hok, ← n1] at this
    refine this.trans ?_
    rw [← List.range_eq_range']
    simp only [Bool.and_true]
    rfl
  | false =>
    dsimp only
    rcases line_not hok with hne | ⟨h2, hd⟩
    · exact out hne
    · match hp : partsB 32 s, h2 with
      | [a, d], _ =>
        rw [hp] at S hd
        have := refLine_loop S Hk 9 0 rfl
        rw [hd d rfl] at this
        refine this.trans ?_
        simp only [Bool.and_false]
        rw [List.find?_eq_none.2 (by simp)]
        rfl
/-! ### The loop over the lines -/
def thereL (l : List Nat) : List Bool := (List.range 9).map fun k => !decide (k ∈ l)
theorem there_get {l : List Nat} {k : Nat} (hk : k < 9) : (boolVs (thereL l))[k]? = some (.lit (.bool (!decide (k ∈ l)))) := by
  unfold boolVs thereL; simp [hk]
theorem there_set {l l' : List Nat} {k : Nat} (hk : k < 9) (h : ∀ x, x ∈ l' ↔ x ∈ l ∧ x ≠ k) : (boolVs (thereL l)).set k (.lit (.bool true)) = boolVs (thereL l') := by
  have tg : ∀ (l : List Nat) (j : Nat), j < 9 → (thereL l)[j]? = some (!decide (j ∈ l)) := fun l j hj => by unfold thereL; simp [hj]
  have e : ((thereL l).set k true) = thereL l' := by
    apply List.ext_getElem?
    intro j
    by_cases hj : j < 9
    · by_cases hkj : k = j
      · subst hkj
        rw [List.getElem?_set_self (by simpa [thereL] using hk), tg _ _ hk, decide_eq_false (fun hm => ((h k).1 hm).2 rfl)]; rfl
      · rw [List.getElem?_set_ne hkj, tg _ _ hj, tg _ _ hj]
        congr 2
        exact decide_eq_decide.2 ⟨fun hm => (h j).2 ⟨hm, fun e => hkj e.symm⟩, fun hm => ((h j).1 hm).1⟩
    · rw [List.getElem?_eq_none (by simp [thereL]; omega), List.getElem?_eq_none (by simp [thereL]; omega)]
  rw [← e]
  unfold boolVs
  rw [List.map_set]
theorem of_run {v : List Int} (hv : v.length = 9) {nb : Nat} {h : AHeap} (H : cellsAt h nb = some (intVs v)) : S_chainmanref38_Of (.sl 1 nb 0 9) h = some (.agg (intVs v), (psh h (.cells (intVs zer9))).set h.length (.cells (intVs v))) := by
  have hcv : (Cf.of v).v = intVs v := by unfold Cf.v; rw [Cf.of_l hv]
  rw [← hcv] at H ⊢
  have H1 : cellsAt (psh h (.cells (intVs zer9))) nb = some (Cf.of v).v := cellsAt_psh _ H
  have H0 : cellsAt (psh h (.cells (intVs zer9))) h.length = some (intVs zer9) := cellsAt_new h _
  have i0 : idxP 1 (.sl 1 nb 0 9) 0 = some (.ptr nb 0) := rfl
  have i1 : idxP 1 (.sl 1 nb 0 9) 1 = some (.ptr nb 1) := rfl
  have i2 : idxP 1 (.sl 1 nb 0 9) 2 = some (.ptr nb 2) := rfl
  have i3 : idxP 1 (.sl 1 nb 0 9) 3 = some (.ptr nb 3) := rfl
  have i4 : idxP 1 (.sl 1 nb 0 9) 4 = some (.ptr nb 4) := rfl
  have i5 : idxP 1 (.sl 1 nb 0 9) 5 = some (.ptr nb 5) := rfl
  have i6 : idxP 1 (.sl 1 nb 0 9) 6 = some (.ptr nb 6) := rfl
  have i7 : idxP 1 (.sl 1 nb 0 9) 7 = some (.ptr nb 7) := rfl
  have i8 : idxP 1 (.sl 1 nb 0 9) 8 = some (.ptr nb 8) := rfl
  have L : ∀ k, ld1 (psh h (.cells [(.lit (.int .i64 0)), (.lit (.int .i64 0)), (.lit (.int .i64 0)), (.lit (.int .i64 0)), (.lit (.int .i64 0)), (.lit (.int .i64 0)), (.lit (.int .i64 0)), (.lit (.int .i64 0)), (.lit (.int .i64 0))])) (.ptr nb k) = (Cf.of v).v[k]? := fun k => ld1_of H1
  rw [S_chainmanref38_Of_eq]
  simp only [i0, i1, i2, i3, i4, i5, i6, i7, i8, Option.bind_some, L]
  obtain ⟨e1, e2⟩ := st9 (vs := (Cf.of v).v) H0 rfl rfl (ones _)
  show (stn 9 (psh h (.cells (intVs zer9))) (.ptr h.length 0) (Cf.of v).v).bind _ = _
  rw [e1, Option.bind_some, e2, Option.bind_some]
section
variable {t2 nb tb : Nat}
theorem refP5 {v : List Int} (hv : v.length = 9) {h : AHeap} {c : Nat} (hne : t2 ≠ c) (Ht : cellsAt h t2 = some (intVs zer9)) (Hc : cellsAt h c = some (intVs v)) (t : Bool) : ∃ h', S_chainmanref38_Parse_5 t2 c t h = some (match t with | true => resV zer9 0 8 | false => resV v 0 0, h') := by
  rw [S_chainmanref38_Parse_5_eq]
  cases t with
  | true =>
    obtain ⟨e1, e2⟩ := st9 (vs := intVs zer9) Ht rfl rfl (ones _)
    rw [cond_true]
    refine ⟨h.set t2 (.cells (intVs zer9)), ?_⟩
    refine (congrArg (Option.bind · _) (show _ = _ from e1)).trans ?_
    rw [Option.bind_some, e2, Option.bind_some]; rfl
  | false =>
    obtain ⟨e1, e2⟩ := st9 (vs := intVs v) Ht rfl (by rw [intVs_len]; omega) (ones _)
    rw [cond_false, ldn_of (n := 9) (off := 0) Hc (by rw [intVs_len]; omega), List.drop_zero, List.take_of_length_le (by rw [intVs_len]; omega), Option.bind_some, e1, Option.bind_some, e2, Option.bind_some]
    exact ⟨_, rfl⟩
theorem refP_end {v : List Int} {l : List Nat} (hv : v.length = 9) (hl : l.length ≤ 9) {h : AHeap} (Ht : cellsAt h t2 = some (intVs zer9)) (Hn : cellsAt h nb = some (intVs v)) :
    ∃ h', S_chainmanref38_Parse_2 t2 (.sl 1 nb 0 9) ((9 - l.length : Nat) : Int) h = some (endP (.inr (v, l)), h') := by
  rw [S_chainmanref38_Parse_2_eq, of_run hv Hn, Option.bind_some]
  have htl : t2 < h.length := cellsAt_lt Ht
  generalize hg : (psh h (AObj.cells (intVs zer9))).set h.length (AObj.cells (intVs v)) = g
  have Hgt : cellsAt g t2 = some (intVs zer9) := by rw [← hg, cellsAt_ne (by omega)]; exact cellsAt_psh _ Ht
  have hgl : g.length = h.length + 1 := by rw [← hg, List.length_set, psh_length]
  have H0 : cellsAt (psh g (.cells (intVs zer9))) g.length = some (intVs zer9) := cellsAt_new g _
  obtain ⟨e1, e2⟩ := st9 (vs := intVs v) H0 rfl (by rw [intVs_len]; omega) (ones _)
  show ∃ h', (stn 9 (psh g (.cells (intVs zer9))) (.ptr g.length 0) (intVs v)).bind _ = _
  rw [e1, Option.bind_some]
  have Hc : cellsAt ((psh g (.cells (intVs zer9))).set g.length (.cells (intVs v))) g.length = some (intVs v) := cellsAt_set H0
  have Ht' : cellsAt ((psh g (.cells (intVs zer9))).set g.length (.cells (intVs v))) t2 = some (intVs zer9) := by rw [cellsAt_ne (by omega)]; exact cellsAt_psh _ Hgt
  unfold endP
  dsimp only
  by_cases hl0 : l.length > 0
  · rw [decide_eq_true (show ((9 - l.length : Nat) : Int) < 9 by omega), cond_true, decide_eq_true hl0]
    exact refP5 hv (by omega) Ht' Hc true
  · rw [decide_eq_false (show ¬ ((9 - l.length : Nat) : Int) < 9 by omega), cond_false, decide_eq_false hl0, Bool.false_or, e2, Option.bind_some]
    have hcv : (Cf.of v).v = intVs v := by unfold Cf.v; rw [Cf.of_l hv]
    obtain ⟨y, e⟩ := refMay_run (Cf.of v) ((psh g (.cells (intVs zer9))).set g.length (.cells (intVs v)))
    rw [hcv] at e
    rw [e, Option.bind_some]
    exact refP5 hv (by omega) (cellsAt_more y Ht') (cellsAt_more y Hc) (!mayB (Cf.of v))
theorem refP_loop {lines : List ByteArray} (hn : lines.length ≤ 4096) (hsz : ∀ p ∈ lines, p.size ≤ 4096) {ls : AVal} (h1 : t2 ≠ nb) (h2 : t2 ≠ tb) (h3 : nb ≠ tb) (hA : ∀ b, At ls b → b ≠ t2 ∧ b ≠ nb ∧ b ≠ tb) :
    ∀ (rest pre : List ByteArray) (v : List Int) (l : List Nat) (h : AHeap), lines = pre ++ rest → v.length = 9 → (∀ x ∈ l, x < 9) → l.Nodup → l.length ≤ 9 → cellsAt h t2 = some (intVs zer9) → cellsAt h nb = some (intVs v) → cellsAt h tb = some (boolVs (thereL l)) → Own 1 h ls lines.length (strVs lines) →
    ∃ h', S_chainmanref38_Parse_0 t2 ls (.sl 1 nb 0 9) (.sl 1 tb 0 9) ((9 - l.length : Nat) : Int) (pre.length : Int) h = some (endP (runP rest pre.length v l), h')
  | [], pre, v, l, h, hp, hv, hl, hnd, hl9, Ht, Hn, Hb, O => by
    have : lines.length = pre.length := by rw [hp, List.append_nil]
    rw [S_chainmanref38_Parse_0_eq, O.sl.len, Option.bind_some, decide_eq_false (by omega), cond_false]
    exact refP_end hv hl9 Ht Hn
  | s :: rest, pre, v, l, h, hp, hv, hl, hnd, hl9, Ht, Hn, Hb, O => by
    have hlen : lines.length = pre.length + (rest.length + 1) := by rw [hp]; simp
    have hi : pre.length < lines.length := by omega
    have hs : s ∈ lines := by rw [hp]; simp
    have hss := hsz s hs
    have hnext : IntKind.wrap .i64 ((pre.length : Int) + 1) = ((pre.length + 1 : Nat) : Int) := by rw [wrap_i64 (by omega) (by omega)]; omega
    have get : (strVs lines)[pre.length * 1]? = some (.lit (.string s)) := by
      unfold strVs; rw [hp]; simp
    obtain ⟨p, q1, _, _, q2⟩ := O.sl.idx hi
    have q2 : ld1 h p = some (.lit (.string s)) := (q2 (by omega)).trans get
    have go : ∀ (v' : List Int) (l' : List Nat) (g : AHeap), v'.length = 9 → (∀ x ∈ l', x < 9) → l'.Nodup → l'.length ≤ 9 → cellsAt g t2 = some (intVs zer9) → cellsAt g nb = some (intVs v') → cellsAt g tb = some (boolVs (thereL l')) → Own 1 g ls lines.length (strVs lines) →
        ∃ h', S_chainmanref38_Parse_3 t2 ls (.sl 1 nb 0 9) (.sl 1 tb 0 9) ((9 - l'.length : Nat) : Int) (pre.length : Int) g = some (endP (runP rest (pre.length + 1) v' l'), h') := fun v' l' g a1 a2 a3 a4 a5 a6 a7 a8 => by
      rw [S_chainmanref38_Parse_3_eq, hnext]
      have := refP_loop hn hsz h1 h2 h3 hA rest (pre ++ [s]) v' l' g (by rw [hp]; simp) a1 a2 a3 a4 a5 a6 a7 a8
      rw [List.length_append, List.length_singleton] at this
      exact this
    have bad : ∀ (k n : Int) (g : AHeap), cellsAt g t2 = some (intVs zer9) → ∃ h', S_chainmanref38_Parse_4 t2 ls (.sl 1 nb 0 9) (.sl 1 tb 0 9) ((9 - l.length : Nat) : Int) (pre.length : Int) k n true g = some (resV zer9 (pre.length + 1) 8, h') := fun k n g Hg => by
      obtain ⟨e1, e2⟩ := st9 (vs := intVs zer9) Hg rfl rfl (ones _)
      rw [S_chainmanref38_Parse_4_eq, cond_true]
      refine ⟨g.set t2 (.cells (intVs zer9)), ?_⟩
      refine (congrArg (Option.bind · _) (show _ = _ from e1)).trans ?_
      rw [Option.bind_some, e2, Option.bind_some, wrap_i64 (by omega) (by omega)]; rfl
    have one : ∀ t, t = !countsB s → ∃ h', S_chainmanref38_Parse_1 t2 ls (.sl 1 nb 0 9) (.sl 1 tb 0 9) ((9 - l.length : Nat) : Int) (pre.length : Int) t h = some (endP (runP (s :: rest) pre.length v l), h') := fun t ht => by
      rw [S_chainmanref38_Parse_1_eq]
      unfold runP stepP
      cases hcs : countsB s with
      | false =>
        rw [hcs] at ht
        subst ht
        exact go v l h hv hl hnd hl9 Ht Hn Hb O
      | true =>
        rw [hcs] at ht
        subst ht
        show ∃ h', (idxP 1 ls (pre.length : Int)).bind _ = _
        rw [q1, Option.bind_some, q2, Option.bind_some]
        obtain ⟨g, e, kp⟩ := refLine_run (s := s) (by omega) h
        show ∃ h', (S_chainmanref38_line s h).bind _ = _
        rw [e, Option.bind_some]
        have Ht' := kp.cells (cellsAt_lt Ht) (by simp) Ht
        have Hn' := kp.cells (cellsAt_lt Hn) (by simp) Hn
        have Hb' := kp.cells (cellsAt_lt Hb) (by simp) Hb
        have O' : Own 1 g ls lines.length (strVs lines) := O.keep fun b hb => kp.get b (hb.own O) (by simp)
        unfold lineK
        cases hok : lineOk s with
        | false =>
          have hok' : (numR (digsOf s)).2 = false := hok
          rw [hok']
          dsimp only
          cases keyIn l (wordOf s) with
          | none => exact bad _ _ g Ht'
          | some k => exact bad _ _ g Ht'
        | true =>
          have hok' : (numR (digsOf s)).2 = true := hok
          rw [hok']
          dsimp only
          cases hr : keyIn (List.range 9) (wordOf s) with
          | none =>
            have hkn : keyIn l (wordOf s) = none := keyIn_not fun k hk => keyIn_none hr k (List.mem_range.2 (hl k hk))
            rw [hkn]
            exact bad _ _ g Ht'
          | some k =>
            obtain ⟨m1, m2⟩ := keyIn_some hr
            have hk9 := List.mem_range.1 m1
            have idk : ∀ b, idxP 1 (.sl 1 b 0 9) (k : Int) = some (.ptr b k) := fun b => by
              unfold idxP; simp only [Nat.beq_refl]; rw [req_true (by omega)]; simp
            show ∃ h', (bif decide ((k : Int) < 0) then S_chainmanref38_Parse_4 t2 ls (.sl 1 nb 0 9) (.sl 1 tb 0 9) ((9 - l.length : Nat) : Int) (pre.length : Int) (k : Int) (numR (digsOf s)).1 true g else (idxP 1 (.sl 1 tb 0 9) (k : Int)).bind fun p22 => (ld1 g p22).bind fun x23 => (asB x23).bind fun b24 => S_chainmanref38_Parse_4 t2 ls (.sl 1 nb 0 9) (.sl 1 tb 0 9) ((9 - l.length : Nat) : Int) (pre.length : Int) (k : Int) (numR (digsOf s)).1 b24 g) = _
            rw [decide_eq_false (by omega), cond_false, idk, Option.bind_some, ld1_of Hb', there_get hk9, Option.bind_some]
            show ∃ h', S_chainmanref38_Parse_4 t2 ls (.sl 1 nb 0 9) (.sl 1 tb 0 9) ((9 - l.length : Nat) : Int) (pre.length : Int) (k : Int) (numR (digsOf s)).1 (!decide (k ∈ l)) g = _
            by_cases hkl : k ∈ l
            · have hki := keyIn_mem hl hkl m2
              rw [decide_eq_true hkl, hki]
              show ∃ h', S_chainmanref38_Parse_4 t2 ls (.sl 1 nb 0 9) (.sl 1 tb 0 9) ((9 - l.length : Nat) : Int) (pre.length : Int) (k : Int) (numR (digsOf s)).1 false g = _
              have hmem := eraseP_key hl hnd hki
              have hlen' := eraseP_len hki
              have hst : (intVs v).set k (.lit (.int .i64 (numR (digsOf s)).1)) = intVs (v.set k (numR (digsOf s)).1) := by unfold intVs; rw [List.map_set]
              have Hb2 : cellsAt (g.set nb (.cells (intVs (v.set k (numR (digsOf s)).1)))) tb = some (boolVs (thereL l)) := by rw [cellsAt_ne h3]; exact Hb'
              rw [S_chainmanref38_Parse_4_eq, cond_false, idk, Option.bind_some, st1_of Hn' rfl (by rw [intVs_len]; omega), Option.bind_some, hst, idk, Option.bind_some, st1_of Hb2 rfl (by simp [boolVs, thereL]; omega), Option.bind_some, there_set hk9 hmem]
              rw [show IntKind.wrap .i64 (((9 - l.length : Nat) : Int) + 1) = ((9 - (l.eraseP fun k => decide (ky k = wordOf s)).length : Nat) : Int) by rw [wrap_i64 (by omega) (by omega)]; omega]
              refine go _ _ _ (by rw [List.length_set]; exact hv) (fun x hx => hl x (List.mem_of_mem_eraseP hx)) (hnd.sublist (List.eraseP_sublist)) (by omega) ?_ ?_ ?_ ?_
              · rw [cellsAt_ne h2.symm, cellsAt_ne h1.symm]; exact Ht'
              · rw [cellsAt_ne h3.symm]; exact cellsAt_set Hn'
              · exact cellsAt_set Hb2
              · exact O'.keep fun b hb => by
                  obtain ⟨_, b2, b3⟩ := hA b hb
                  rw [List.getElem?_set_ne b3.symm, List.getElem?_set_ne b2.symm]
            · have hkn : keyIn l (wordOf s) = none := keyIn_not fun j hj e => hkl (by rw [← ky_inj (hl j hj) hk9 (e.trans m2.symm)]; exact hj)
              rw [decide_eq_false hkl, hkn]
              exact bad _ _ g Ht'
    rw [S_chainmanref38_Parse_0_eq, O.sl.len, Option.bind_some, decide_eq_true (by omega), cond_true, q1, Option.bind_some, q2, Option.bind_some]
    rw [show asS (AVal.lit (.string s)) = some s from rfl, Option.bind_some]
    by_cases he : s = (⟨#[]⟩ : ByteArray)
    · rw [decide_eq_true he, cond_true]
      refine one true ?_
      unfold countsB
      rw [decide_eq_true he]; rfl
    · obtain ⟨hz, hc⟩ := counts_iff s he
      have hat : strAt s 0 = some (s[0].toNat : Int) := by
        unfold strAt
        rw [req_true (by omega)]
        exact congrArg some (byte_get hz)
      rw [decide_eq_false he, cond_false, Option.bind_some, q2, Option.bind_some]
      show ∃ h', (strAt s 0).bind _ = _
      rw [hat, Option.bind_some]
      refine one _ ?_
      rw [hc, Bool.not_not]
end
theorem refParse_run (s : ByteArray) (h : AHeap) : ∃ h', S_chainmanref38_Parse s h = some (parseV s, h') := by
  rw [S_chainmanref38_Parse_eq]
  unfold parseV
  have H0 : cellsAt (psh h (.cells (intVs zer9))) h.length = some (intVs zer9) := cellsAt_new h _
  by_cases hs : (s.size : Int) > 1024
  · obtain ⟨e1, e2⟩ := st9 (vs := intVs zer9) H0 rfl rfl (ones _)
    rw [decide_eq_true hs, cond_true]
    refine ⟨(psh h (.cells (intVs zer9))).set h.length (.cells (intVs zer9)), ?_⟩
    refine (congrArg (Option.bind · _) (show _ = _ from e1)).trans ?_
    rw [Option.bind_some, e2, Option.bind_some]
    rfl
  · rw [decide_eq_false hs, cond_false]
    obtain ⟨ls, g, e1, e2, e3, e4⟩ := refParts_run (s := s) (by omega) 10 (psh h (.cells (intVs zer9)))
    have e1 : S_chainmanref36_Parts s 10 (psh h (.cells (intVs zer9))) = some (ls, g) := e1
    have l1 : (psh h (.cells (intVs zer9))).length = h.length + 1 := psh_length _ _
    refine Exists.imp (fun h' q => (congrArg (Option.bind · _) (show _ = _ from e1)).trans q) ?_
    rw [Option.bind_some]
    have m1 : mkS 1 8 [(.lit (.int .i64 0))] 9 9 g = some (.sl 1 g.length 0 9, g ++ [.cells (intVs zer9)]) := by kernel_rfl
    have m2 : mkS 1 1 [(.lit (.bool false))] 9 9 (g ++ [AObj.cells (intVs zer9)]) = some (.sl 1 (g ++ [AObj.cells (intVs zer9)]).length 0 9, (g ++ [AObj.cells (intVs zer9)]) ++ [.cells (boolVs (thereL (List.range 9)))]) := by kernel_rfl
    show ∃ h', (mkS 1 8 [(.lit (.int .i64 0))] 9 9 g).bind _ = _
    rw [m1, Option.bind_some, m2, Option.bind_some]
    have l2 : (g ++ [AObj.cells (intVs zer9)]).length = g.length + 1 := by simp
    rw [l2]
    have hgl := e3.len
    rw [l1] at hgl
    have hsz := partsB_sizes 10 s
    have hln : (partsB 10 s).length ≤ s.size + 1 := by
      rw [partsB_len, ← toL_len]
      have := List.count_le_length (a := (10 : UInt8)) (l := toL s)
      omega
    refine refP_loop (t2 := h.length) (nb := g.length) (tb := g.length + 1) (lines := partsB 10 s) (by omega) (fun p hp => by have := hsz p hp; omega) (by omega) (by omega) (by omega) (fun b hb => ?_) (partsB 10 s) [] zer9 (List.range 9) _ rfl rfl (fun x hx => List.mem_range.1 hx) List.nodup_range (by simp) ?_ ?_ ?_ ?_
    · have b1 := e4 b hb
      have b2 := hb.own e2
      omega
    · exact cellsAt_more _ (cellsAt_more _ (e3.cells (by omega) (by simp) H0))
    · exact cellsAt_more _ (cellsAt_new g _)
    · have := cellsAt_new (g ++ [AObj.cells (intVs zer9)]) (boolVs (thereL (List.range 9)))
      rw [l2] at this; exact this
    · exact e2.keep fun b hb => by
        have b2 := hb.own e2
        rw [List.getElem?_append_left (by simp; omega), List.getElem?_append_left b2]
end Go.Proofs.YtglmofbcooefkaaDoor.AL
/- A call whose arguments and result name nothing: what it makes may be let go. -/
namespace Go.Proofs.YtglmofbcooefkaaDoor.AL
set_option linter.unusedVariables false
set_option linter.unusedSimpArgs false
open Go
variable {P : Program}
mutual
def AVal.plain : AVal → Bool
  | .lit _ => true
  | .agg vs => plainL vs
  | .tup vs => plainL vs
  | _ => false
def plainL : List AVal → Bool
  | [] => true
  | v :: vs => v.plain && plainL vs
end
theorem plainL_get : ∀ {vs : List AVal}, plainL vs = true → ∀ v ∈ vs, v.plain = true
  | x :: vs, h, v, hv => by
    simp only [plainL, Bool.and_eq_true] at h
    rcases List.mem_cons.1 hv with rfl | hv
    · exact h.1
    · exact plainL_get h.2 v hv
theorem VR.plain {ρ ρ' : Env} {h h' : AHeap} {w w' : World} {v : AVal} {u : Value} (hv : VR ρ h w v u) (hp : v.plain = true) : VR ρ' h' w' v u := by
  induction hv with
  | lit u => exact .lit u
  | agg vs us hl _ ih => exact .agg vs us hl fun i hi => ih i hi (plainL_get (by simpa [AVal.plain] using hp) _ (List.getElem_mem hi))
  | tup vs us hl _ ih => exact .tup vs us hl fun i hi => ih i hi (plainL_get (by simpa [AVal.plain] using hp) _ (List.getElem_mem hi))
  | _ => simp [AVal.plain] at hp
/-- What is so where nothing is known of the memory is so anywhere, and leaves it. -/
theorem acalls_plain {i : Nat} {args : List AVal} {v : AVal} (ha : plainL args = true) (hv : v.plain = true) (hc : ACalls P i args [] fun e _ => e = .ret v) (h : AHeap) : ACalls P i args h fun e h' => e = .ret v ∧ h' = h := by
  intro ρ w us hR hvs
  have hR0 : Rel ρ [] w := ⟨fun g hm => ⟨fun ⟨b, o, hb, _⟩ => by simp at hb, (hR.glob g hm).2⟩, fun b o hb => by simp at hb, fun b b' o o' hb => by simp at hb⟩
  refine (hc ρ w us hR0 ⟨hvs.1, fun i hi => (hvs.2 i hi).plain (plainL_get ha _ (List.getElem_mem hi))⟩).mono ?_
  rintro e w' ⟨ρ', h', e', ev, hR', hE, rfl⟩
  have hno : ∀ c, ¬ Owned ρ [] c := fun c ⟨b, o, hb, _⟩ => by simp at hb
  have ev' : Evo ρ h w ρ h w' := ⟨Nat.le_refl _, fun _ _ => rfl, ev.size, ev.same, fun c hc hn => ⟨(ev.keep c hc (hno c)).1, hn⟩, ev.loops⟩
  refine ⟨ρ, h, .ret v, ev', ⟨hR.glob.evo ev', fun b o hb => ?_, hR.inj⟩, ?_, rfl, rfl⟩
  · exact (hR.obj b o hb).evo ev' fun ho => (ev.keep _ (hR.blk_lt hb ho) (hno _)).1
  · cases hE with | ret _ u hvu => exact .ret _ _ (hvu.plain hv)
end Go.Proofs.YtglmofbcooefkaaDoor.AL
/- What is read of lines that were written: the plain law. -/
namespace Go.Proofs.YtglmofbcooefkaaDoor.AL
set_option linter.unusedVariables false
set_option linter.unusedSimpArgs false
set_option maxRecDepth 100000
open Go
open Go.Proofs.Tryd
theorem split_once {x : UInt8} : ∀ {a a' b b' : List UInt8}, x ∉ a → x ∉ a' → a ++ x :: b = a' ++ x :: b' → a = a' ∧ b = b'
  | [], [], _, _, _, _, h => ⟨rfl, by simpa using h⟩
  | [], y :: a', _, _, _, h', h => by
    simp only [List.nil_append, List.cons_append, List.cons.injEq] at h
    exact absurd (by rw [h.1]; exact List.mem_cons_self ..) h'
  | y :: a, [], _, _, h', _, h => by
    simp only [List.nil_append, List.cons_append, List.cons.injEq] at h
    exact absurd (by rw [← h.1]; exact List.mem_cons_self ..) h'
  | y :: a, z :: a', _, _, h1, h2, h => by
    simp only [List.cons_append, List.cons.injEq] at h
    obtain ⟨e1, e2⟩ := split_once (fun hm => h1 (List.mem_cons_of_mem _ hm)) (fun hm => h2 (List.mem_cons_of_mem _ hm)) h.2
    exact ⟨by rw [h.1, e1], e2⟩
theorem toL_one (c : UInt8) : toL (⟨#[c]⟩ : ByteArray) = [c] := rfl
theorem cut_at {a b : ByteArray} {c : UInt8} (h : c ∉ toL a) : (cutB c ((a ++ (⟨#[c]⟩ : ByteArray)) ++ b)).1 = a ∧ (cutB c ((a ++ (⟨#[c]⟩ : ByteArray)) ++ b)).2.1 = b := by
  rcases cut_cases c ((a ++ (⟨#[c]⟩ : ByteArray)) ++ b) with ⟨h1, _⟩ | ⟨_, h2, h3⟩
  · refine absurd ?_ h1
    rw [toL_app, toL_app, toL_one]; simp
  · have h4 := congrArg toL h3
    rw [toL_app, toL_app, toL_app, toL_app, toL_one, List.append_assoc, List.append_assoc] at h4
    obtain ⟨e1, e2⟩ := split_once h h2 h4
    exact ⟨toL_inj e1.symm, toL_inj e2.symm⟩
theorem ky_no : ∀ k, k < 9 → (32 : UInt8) ∉ toL (ky k) ∧ (10 : UInt8) ∉ toL (ky k) ∧ (toL (ky k)).headD 0 ≠ 35 ∧ toL (ky k) ≠ [] := by decide
theorem counts_toL (s : ByteArray) : countsB s = match toL s with
    | [] => false
    | c :: _ => !decide (c = 35) := by
  by_cases hs : s = (⟨#[]⟩ : ByteArray)
  · subst hs; rfl
  · obtain ⟨hl, e⟩ := counts_iff s hs
    have hd := drop_cons hl
    rw [List.drop_zero] at hd
    rw [e, hd]
    congr 1
    exact decide_eq_decide.2 ⟨fun h => UInt8.toNat_inj.1 (by simp; omega), fun h => by rw [h]; rfl⟩
theorem line_toL (c : Cf) (k : Nat) : toL (lineB c k) = toL (ky k) ++ (32 :: toL (itoaB (c.l.getD k 0))) := by
  unfold lineB
  rw [toL_app, toL_app, toL_one, List.append_assoc]; rfl
section
variable {c : Cf} (hm : mayB c = true) {k : Nat} (hk : k < 9)
include hk
theorem line_counts : countsB (lineB c k) = true := by
  obtain ⟨_, _, h3, h4⟩ := ky_no k hk
  rw [counts_toL, line_toL]
  cases hl : toL (ky k) with
  | nil => exact absurd hl h4
  | cons x l =>
    rw [hl] at h3
    show (!decide (x = 35)) = true
    rw [decide_eq_false (by simpa using h3)]; rfl
theorem line_word : wordOf (lineB c k) = ky k ∧ digsOf (lineB c k) = itoaB (c.l.getD k 0) := cut_at (ky_no k hk).1
include hm
theorem line_no10 : (10 : UInt8) ∉ toL (lineB c k) := by
  rw [line_toL]
  intro h
  rcases List.mem_append.1 h with h | h
  · exact (ky_no k hk).2.1 h
  · rcases List.mem_cons.1 h with h | h
    · cases h
    · have := itoa_digs (may_num hm hk).1 _ h
      unfold isDig at this
      simp at this
theorem line_num : numR (digsOf (lineB c k)) = (c.l.getD k 0, true) := by
  rw [(line_word hk).2]
  exact (numR_iff _ _).2 ⟨(may_num hm hk).1, (may_num hm hk).2, rfl⟩
theorem step_line {v : List Int} {l : List Nat} (hl : ∀ x ∈ l, x < 9) (hkl : k ∈ l) : stepP v l (lineB c k) = some (v.set k (c.l.getD k 0), l.eraseP fun j => decide (ky j = ky k)) := by
  unfold stepP
  rw [line_counts hk, line_num hm hk, (line_word hk).1, keyIn_mem hl hkl rfl]
theorem step_again {v : List Int} {l : List Nat} (hkl : ∀ x ∈ l, ky x ≠ ky k) : stepP v l (lineB c k) = none := by
  unfold stepP
  rw [line_counts hk, line_num hm hk, (line_word hk).1, keyIn_not hkl]
end
/-- Lines that are put: such as do not count, and lines of the configuration. -/
def itxt (c : Cf) : ByteArray ⊕ Nat → ByteArray
  | .inl s => s
  | .inr k => lineB c k
def iks (its : List (ByteArray ⊕ Nat)) : List Nat := its.filterMap fun x => match x with
  | .inl _ => none
  | .inr k => some k
structure Filled (c : Cf) (v : List Int) (l : List Nat) : Prop where
  len : v.length = 9
  lt : ∀ x ∈ l, x < 9
  nd : l.Nodup
  is : ∀ k, k < 9 → k ∉ l → v[k]? = some (c.l.getD k 0)
theorem run_items {c : Cf} (hm : mayB c = true) : ∀ (its : List (ByteArray ⊕ Nat)) (i : Nat) (v : List Int) (l : List Nat), (∀ s, .inl s ∈ its → countsB s = false) → (iks its).Nodup → (∀ k ∈ iks its, k ∈ l) → Filled c v l →
    ∃ v' l', (∀ rest, runP (its.map (itxt c) ++ rest) i v l = runP rest (i + its.length) v' l') ∧ Filled c v' l' ∧ ∀ k, k ∈ l' ↔ k ∈ l ∧ k ∉ iks its
  | [], i, v, l, _, _, _, F => ⟨v, l, fun rest => rfl, F, fun k => by simp [iks]⟩
  | .inl s :: its, i, v, l, hj, hn, hs, F => by
    obtain ⟨v', l', e1, e2, e3⟩ := run_items hm its (i + 1) v l (fun s hs => hj s (List.mem_cons_of_mem _ hs)) hn hs F
    refine ⟨v', l', fun rest => ?_, e2, e3⟩
    have hst : stepP v l s = some (v, l) := by unfold stepP; rw [hj s (List.mem_cons_self ..)]
    rw [List.map_cons, List.cons_append, runP, show itxt c (.inl s) = s from rfl, hst]
    rw [List.length_cons, show i + (its.length + 1) = i + 1 + its.length by omega]
    exact e1 rest
  | .inr k :: its, i, v, l, hj, hn, hs, F => by
    have hik : iks (.inr k :: its) = k :: iks its := rfl
    rw [hik] at hn hs
    obtain ⟨hk1, hn'⟩ := List.nodup_cons.1 hn
    have hkl : k ∈ l := hs k (List.mem_cons_self ..)
    have hk9 := F.lt k hkl
    have hmem := eraseP_key F.lt F.nd (keyIn_mem F.lt hkl (rfl : ky k = ky k))
    obtain ⟨v', l', e1, e2, e3⟩ := run_items hm its (i + 1) (v.set k (c.l.getD k 0)) (l.eraseP fun j => decide (ky j = ky k)) (fun s hs => hj s (List.mem_cons_of_mem _ hs)) hn'
      (fun x hx => (hmem x).2 ⟨hs x (List.mem_cons_of_mem _ hx), fun e => hk1 (by rw [← e]; exact hx)⟩)
      ⟨by rw [List.length_set]; exact F.len, fun x hx => F.lt x (List.mem_of_mem_eraseP hx), F.nd.sublist (List.eraseP_sublist), fun j hj9 hjn => by
        by_cases hjk : k = j
        · subst hjk; rw [List.getElem?_set_self (by rw [F.len]; exact hj9)]
        · rw [List.getElem?_set_ne hjk]
          exact F.is j hj9 fun hm => hjn ((hmem j).2 ⟨hm, fun e => hjk e.symm⟩)⟩
    refine ⟨v', l', fun rest => ?_, e2, fun x => ?_⟩
    · rw [List.map_cons, List.cons_append, runP, show itxt c (.inr k) = lineB c k from rfl, step_line hm hk9 F.lt hkl]
      rw [List.length_cons, show i + (its.length + 1) = i + 1 + its.length by omega]
      exact e1 rest
    · rw [e3 x, hmem x, hik, List.mem_cons, not_or]
      exact ⟨fun ⟨⟨a, b⟩, d⟩ => ⟨a, b, d⟩, fun ⟨a, b, d⟩ => ⟨⟨a, b⟩, d⟩⟩
theorem join_parts : ∀ (xs : List ByteArray) (r : List UInt8), (∀ x ∈ xs, (10 : UInt8) ∉ toL x) → (partsL 10 ((xs.flatMap fun x => toL x ++ [10]) ++ r)).map toB = xs ++ (partsL 10 r).map toB
  | [], r, _ => rfl
  | x :: xs, r, h => by
    rw [List.flatMap_cons, List.append_assoc, List.append_assoc]
    have hx := h x (List.mem_cons_self ..)
    have hlen : (toL x).length < (toL x ++ ([10] ++ ((xs.flatMap fun x => toL x ++ [10]) ++ r))).length := by simp
    rw [partsL_hit hlen (by simp) (by simpa using hx)]
    rw [List.map_cons, List.take_left', toB_toL, List.cons_append]
    · congr 1
      have : (toL x ++ ([10] ++ ((xs.flatMap fun x => toL x ++ [10]) ++ r))).drop ((toL x).length + 1) = (xs.flatMap fun x => toL x ++ [10]) ++ r := by
        rw [← List.append_assoc, List.drop_left']; simp
      exact (congrArg (fun q => (partsL 10 q).map toB) this).trans (join_parts xs r fun y hy => h y (List.mem_cons_of_mem _ hy))
    · rfl
theorem join_toL (xs : List ByteArray) : toL (joinB xs) = xs.flatMap fun x => toL x ++ [10] := by
  have key : ∀ (xs : List ByteArray) (s : ByteArray), toL (xs.foldl (fun s x => (s ++ x) ++ (⟨#[10]⟩ : ByteArray)) s) = toL s ++ xs.flatMap fun x => toL x ++ [10] := by
    intro xs
    induction xs with
    | nil => intro s; simp
    | cons x xs ih => intro s; rw [List.foldl_cons, ih, toL_app, toL_app, toL_one, List.flatMap_cons]; simp
  unfold joinB
  rw [key]; rfl
/-- The parts of lines that were put one behind another. -/
theorem parts_join {xs : List ByteArray} (h : ∀ x ∈ xs, (10 : UInt8) ∉ toL x) (r : ByteArray) : partsB 10 (joinB xs ++ r) = xs ++ partsB 10 r := by
  unfold partsB
  rw [toL_app, join_toL, join_parts xs _ h]
theorem cf_of_l (c : Cf) : Cf.of c.l = c := rfl
theorem filled_all {c : Cf} {v : List Int} {l : List Nat} (F : Filled c v l) (h : ∀ k, k ∉ l) : v = c.l ∧ l = [] := by
  refine ⟨?_, List.eq_nil_iff_forall_not_mem.2 h⟩
  apply List.ext_getElem?
  intro j
  by_cases hj : j < 9
  · rw [F.is j hj (h j)]
    have hl : j < c.l.length := by simpa [Cf.l] using hj
    rw [List.getD_eq_getElem?_getD, List.getElem?_eq_getElem hl]; rfl
  · rw [List.getElem?_eq_none (by rw [F.len]; omega), List.getElem?_eq_none (by simp [Cf.l]; omega)]
/-- **What was written comes back**, in whatever order, with whatever does not count between; a line more is told. -/
theorem back {c : Cf} (hm : mayB c = true) {its : List (ByteArray ⊕ Nat)} (hj : ∀ s, .inl s ∈ its → countsB s = false ∧ (10 : UInt8) ∉ toL s) (hn : (iks its).Nodup) (hall : ∀ k, k ∈ iks its ↔ k < 9) :
    (((joinB (its.map (itxt c))).size : Int) ≤ 1024 → parseV (joinB (its.map (itxt c))) = resV c.l 0 0) ∧
    ∀ k, k < 9 → ((joinB (its.map (itxt c)) ++ lineB c k).size : Int) ≤ 1024 → ∃ n : Int, parseV (joinB (its.map (itxt c)) ++ lineB c k) = resV zer9 n 8 := by
  have no10 : ∀ x ∈ its.map (itxt c), (10 : UInt8) ∉ toL x := by
    intro x hx
    obtain ⟨y, hy, rfl⟩ := List.mem_map.1 hx
    cases y with
    | inl s => exact (hj s hy).2
    | inr k => exact line_no10 hm ((hall k).1 (List.mem_filterMap.2 ⟨_, hy, rfl⟩))
  have F0 : Filled c zer9 (List.range 9) := ⟨rfl, fun x hx => List.mem_range.1 hx, List.nodup_range, fun k hk hn => absurd (List.mem_range.2 hk) hn⟩
  obtain ⟨v', l', e1, e2, e3⟩ := run_items hm its 0 zer9 (List.range 9) (fun s hs => (hj s hs).1) hn (fun k hk => List.mem_range.2 ((hall k).1 hk)) F0
  obtain ⟨rfl, rfl⟩ := filled_all e2 fun k hk => by
    obtain ⟨h1, h2⟩ := (e3 k).1 hk
    exact h2 ((hall k).2 (List.mem_range.1 h1))
  have p0 := parts_join no10 ⟨#[]⟩
  constructor
  · intro hz
    unfold parseV
    rw [decide_eq_false (by omega)]
    have p1 : partsB 10 (joinB (its.map (itxt c))) = its.map (itxt c) ++ [(⟨#[]⟩ : ByteArray)] := by
      have : joinB (its.map (itxt c)) ++ (⟨#[]⟩ : ByteArray) = joinB (its.map (itxt c)) := toL_inj (by rw [toL_app]; exact List.append_nil _)
      rw [this] at p0
      rw [p0]; rfl
    rw [p1]
    show endP (runP (its.map (itxt c) ++ [⟨#[]⟩]) 0 zer9 (List.range 9)) = _
    rw [e1]
    show endP (.inr (c.l, [])) = _
    unfold endP
    dsimp only
    rw [cf_of_l, hm]; rfl
  · intro k hk hz
    refine ⟨((0 + its.length + 1 : Nat) : Int), ?_⟩
    unfold parseV
    rw [decide_eq_false (by omega)]
    have hno := line_no10 hm hk
    rw [parts_join no10, partsB_none hno]
    show endP (runP (its.map (itxt c) ++ [lineB c k]) 0 zer9 (List.range 9)) = _
    rw [e1, runP, step_again hm hk (fun x hx => by cases hx)]
    rfl
theorem back_lines {c : Cf} (hm : mayB c = true) : parseV (joinB (linesB c)) = resV c.l 0 0 := by
  have e : linesB c = ((List.range 9).map Sum.inr).map (itxt c) := by
    unfold linesB; rw [List.map_map]; rfl
  have hik : iks ((List.range 9).map Sum.inr) = List.range 9 := rfl
  have hsz : ∀ (m i : Nat), i + m = 9 → (joinB ((linesB c).take i)).size ≤ 27 * i := by
    intro m i
    induction i generalizing m with
    | zero => intro _; exact Nat.le_refl _
    | succ i ih =>
      intro hi
      have := ih (m + 1) (by omega)
      have hl : i < (linesB c).length := by simp [linesB]; omega
      rw [← List.take_append_getElem hl, joinB_snoc, bs_app, bs_app]
      have h1 := line_size hm (k := i) (by omega)
      have h2 : (linesB c)[i] = lineB c i := by simp [linesB]
      have h3 : (⟨#[10]⟩ : ByteArray).size = 1 := rfl
      rw [h2]; omega
  have hs := hsz 0 9 rfl
  rw [List.take_of_length_le (by simp [linesB])] at hs
  have hb := (back hm (its := (List.range 9).map Sum.inr) (fun s hs => by simp at hs) (by rw [hik]; exact List.nodup_range) (fun k => by rw [hik]; exact List.mem_range)).1
  rw [← e] at hb
  exact hb (by omega)
end Go.Proofs.YtglmofbcooefkaaDoor.AL
/- ConfigTells, ConfigBack. -/
namespace Go.Proofs.YtglmofbcooefkaaDoor.AL
set_option linter.unusedVariables false
set_option linter.unusedSimpArgs false
set_option maxRecDepth 100000
open Go
open Go.Proofs.Tryd
def cfOf : List AVal → Option Cf
  | [.lit (.int .i64 e), .lit (.int .i64 w), .lit (.int .i64 b), .lit (.int .i64 k), .lit (.int .i64 r), .lit (.int .i64 s), .lit (.int .i64 n), .lit (.int .i64 d), .lit (.int .i64 g)] => some ⟨e, w, b, k, r, s, n, d, g⟩
  | _ => none
theorem cfOf_some {l : List AVal} {c : Cf} (h : cfOf l = some c) : l = c.v := by
  unfold cfOf at h
  split at h
  · cases h; rfl
  · cases h
theorem cfOf_v (c : Cf) : cfOf c.v = some c := rfl
theorem plain_ints : ∀ v : List Int, plainL (intVs v) = true
  | [] => rfl
  | x :: v => plain_ints v
theorem resV_plain (v : List Int) (n e : Int) : (resV v n e).plain = true := by
  show (plainL (intVs v) && _) = true
  rw [plain_ints]; rfl
theorem endP_plain (x : Nat ⊕ (List Int × List Nat)) : (endP x).plain = true := by
  unfold endP
  split
  · exact resV_plain _ _ _
  · split <;> exact resV_plain _ _ _
theorem parseV_plain (s : ByteArray) : (parseV s).plain = true := by
  unfold parseV
  split
  · exact resV_plain _ _ _
  · exact endP_plain _
theorem cfV_plain (c : Cf) : plainL [AVal.agg c.v] = true := by
  show (plainL (intVs c.l) && true) = true
  rw [plain_ints]; rfl
theorem to_nil {e : AEnd} {g : AHeap} {v : AVal} {g' : AHeap} (h : e = .ret v ∧ g = g') : e = .ret v := h.1
section
variable {l : List AVal} {c : Cf} {h : AHeap} (hx : cfOf l = some c)
include hx
theorem text_of : ACalls Tryd.prog 10 [.agg l] h fun e g => e = .ret (textV c) ∧ g = h := by
  obtain rfl := cfOf_some hx
  obtain ⟨g, e⟩ := text_run c []
  exact acalls_plain (cfV_plain c) rfl ((S_config_Text_ends e selfR).mono fun e g h => h.1) h
theorem refText_of : ACalls Tryd.prog 11 [.agg l] h fun e g => e = .ret (textV c) ∧ g = h := by
  obtain rfl := cfOf_some hx
  obtain ⟨g, e⟩ := refText_run c []
  exact acalls_plain (cfV_plain c) rfl ((S_chainmanref38_Text_ends e selfR).mono fun e g h => h.1) h
theorem may_of : ACalls Tryd.prog 14 [.agg l] h fun e g => e = .ret (.lit (.bool (mayB c))) ∧ g = h := by
  obtain rfl := cfOf_some hx
  obtain ⟨y, e⟩ := may_run c h
  exact S_config_May_ends e fun hok hl => ends_same hok rfl ⟨rfl, rfl⟩
theorem refMay_of : ACalls Tryd.prog 15 [.agg l] h fun e g => e = .ret (.lit (.bool (mayB c))) ∧ g = h := by
  obtain rfl := cfOf_some hx
  obtain ⟨y, e⟩ := refMay_run c h
  exact S_chainmanref38_May_ends e fun hok hl => ends_same hok rfl ⟨rfl, rfl⟩
end
theorem parse_of (s : ByteArray) (h : AHeap) : ACalls Tryd.prog 12 [.lit (.string s)] h fun e g => e = .ret (parseV s) ∧ g = h := by
  obtain ⟨g, e⟩ := parse_run s []
  exact acalls_plain rfl (parseV_plain s) ((S_config_Parse_ends e selfR).mono fun e g h => h.1) h
theorem refParse_of (s : ByteArray) (h : AHeap) : ACalls Tryd.prog 13 [.lit (.string s)] h fun e g => e = .ret (parseV s) ∧ g = h := by
  obtain ⟨g, e⟩ := refParse_run s []
  exact acalls_plain rfl (parseV_plain s) ((S_chainmanref38_Parse_ends e selfR).mono fun e g h => h.1) h
namespace Law
noncomputable def w_config_Text : XC := .q fun R args h K => match args with
  | [.agg c] => (cfOf c).bind fun k => K (.tup [(.lit (.string ((if mayB k then joinB (linesB k) else ⟨#[]⟩)))), (.lit (.bool (mayB k)))])
  | _ => none
theorem w_config_Text_ok : XC.Nat w_config_Text ∧ XC.Ok Tryd.prog 10 w_config_Text := by
  refine ⟨fun R args h K => ?_, tc10, fun args h v hx => ?_⟩
  · dsimp only; split <;> simp [Option.bind_assoc, mkP]
  · dsimp only at hx; split at hx
    · obtain ⟨k, hopt, hx⟩ := Option.bind_eq_some_iff.1 hx
      cases hx
      exact text_of hopt
    · cases hx
noncomputable def w_chainmanref38_Text : XC := .q fun R args h K => match args with
  | [.agg c] => (cfOf c).bind fun k => K (.tup [(.lit (.string ((if mayB k then joinB (linesB k) else ⟨#[]⟩)))), (.lit (.bool (mayB k)))])
  | _ => none
theorem w_chainmanref38_Text_ok : XC.Nat w_chainmanref38_Text ∧ XC.Ok Tryd.prog 11 w_chainmanref38_Text := by
  refine ⟨fun R args h K => ?_, tc11, fun args h v hx => ?_⟩
  · dsimp only; split <;> simp [Option.bind_assoc, mkP]
  · dsimp only at hx; split at hx
    · obtain ⟨k, hopt, hx⟩ := Option.bind_eq_some_iff.1 hx
      cases hx
      exact refText_of hopt
    · cases hx
noncomputable def w_config_May : XC := .q fun R args h K => match args with
  | [.agg c] => (cfOf c).bind fun k => K (.lit (.bool (mayB k)))
  | _ => none
theorem w_config_May_ok : XC.Nat w_config_May ∧ XC.Ok Tryd.prog 14 w_config_May := by
  refine ⟨fun R args h K => ?_, tc14, fun args h v hx => ?_⟩
  · dsimp only; split <;> simp [Option.bind_assoc, mkP]
  · dsimp only at hx; split at hx
    · obtain ⟨k, hopt, hx⟩ := Option.bind_eq_some_iff.1 hx
      cases hx
      exact may_of hopt
    · cases hx
noncomputable def w_chainmanref38_May : XC := .q fun R args h K => match args with
  | [.agg c] => (cfOf c).bind fun k => K (.lit (.bool (mayB k)))
  | _ => none
theorem w_chainmanref38_May_ok : XC.Nat w_chainmanref38_May ∧ XC.Ok Tryd.prog 15 w_chainmanref38_May := by
  refine ⟨fun R args h K => ?_, tc15, fun args h v hx => ?_⟩
  · dsimp only; split <;> simp [Option.bind_assoc, mkP]
  · dsimp only at hx; split at hx
    · obtain ⟨k, hopt, hx⟩ := Option.bind_eq_some_iff.1 hx
      cases hx
      exact refMay_of hopt
    · cases hx
noncomputable def w_config_Parse : XC := .q fun R args h K => match args with
  | [.lit (.string s)] => K (parseV s)
  | _ => none
theorem w_config_Parse_ok : XC.Nat w_config_Parse ∧ XC.Ok Tryd.prog 12 w_config_Parse := by
  refine ⟨fun R args h K => ?_, tc12, fun args h v hx => ?_⟩
  · dsimp only; split <;> simp [Option.bind_assoc, mkP]
  · dsimp only at hx; split at hx
    · cases hx
      exact parse_of _ _
    · cases hx
noncomputable def w_chainmanref38_Parse : XC := .q fun R args h K => match args with
  | [.lit (.string s)] => K (parseV s)
  | _ => none
theorem w_chainmanref38_Parse_ok : XC.Nat w_chainmanref38_Parse ∧ XC.Ok Tryd.prog 13 w_chainmanref38_Parse := by
  refine ⟨fun R args h K => ?_, tc13, fun args h v hx => ?_⟩
  · dsimp only; split <;> simp [Option.bind_assoc, mkP]
  · dsimp only at hx; split at hx
    · cases hx
      exact refParse_of _ _
    · cases hx
-- chainman/chainmanlaw38.awake: function 9
noncomputable def Echainmanlaw38_awake : XE := { T := tabOf [(3, r3), (4, r4), (9, r9), (23, r23), (27, r27)], C := [(10, w_config_Text), (12, w_config_Parse), (14, w_config_May)], D := [], Ms := [], Ml := [], Mo := [(5006, [4, 6, 7, 9, 32]), (5009, [4, 7, 9, 35]), (5013, [4, 7, 39]), (5018, [4, 44]), (5022, [48])], n := 49 }
theorem Echainmanlaw38_awake_ok : XE.Ok Echainmanlaw38_awake Tryd.prog := ⟨tabOf_ok (⟨r3_ok, ⟨r4_ok, ⟨r9_ok, ⟨r23_ok, ⟨r27_ok, trivial⟩⟩⟩⟩⟩), ⟨w_config_Text_ok, ⟨w_config_Parse_ok, ⟨w_config_May_ok, trivial⟩⟩⟩⟩
noncomputable def c9 : Code := bodyOf f9
noncomputable def S_chainmanlaw38_awake  (h : AHeap) : Option (AVal × AHeap) := xfun Echainmanlaw38_awake f9 [] h
noncomputable def S_chainmanlaw38_awake_0 (c4 : Nat) (ok6 : Bool) (x7 : Nat) (fv9 : Int) (t32 : Bool) (h : AHeap) : Option (AVal × AHeap) := jo Echainmanlaw38_awake 5 (rops (ca (cb (cb (cb (cb (cb c9))))))) ((rops (ca (cb (cb (cb (cb (cb c9))))))).toList.drop 6) 6 [(4, (.ptr c4 0)), (6, (.lit (.bool ok6))), (7, (.ptr x7 0)), (9, (.lit (.int .i64 fv9))), (32, (.lit (.bool t32)))] h (kN (kSeq Echainmanlaw38_awake (cb (cb (cb (cb (cb (cb c9)))))) (xend Echainmanlaw38_awake f9)))
noncomputable def S_chainmanlaw38_awake_1 (c4 : Nat) (x7 : Nat) (fv9 : Int) (t35 : Bool) (h : AHeap) : Option (AVal × AHeap) := jo Echainmanlaw38_awake 5 (rops (ca (cb (cb (cb (cb (cb c9))))))) ((rops (ca (cb (cb (cb (cb (cb c9))))))).toList.drop 9) 9 [(4, (.ptr c4 0)), (7, (.ptr x7 0)), (9, (.lit (.int .i64 fv9))), (35, (.lit (.bool t35)))] h (kN (kSeq Echainmanlaw38_awake (cb (cb (cb (cb (cb (cb c9)))))) (xend Echainmanlaw38_awake f9)))
noncomputable def S_chainmanlaw38_awake_2 (c4 : Nat) (x7 : Nat) (t39 : Bool) (h : AHeap) : Option (AVal × AHeap) := jo Echainmanlaw38_awake 5 (rops (ca (cb (cb (cb (cb (cb c9))))))) ((rops (ca (cb (cb (cb (cb (cb c9))))))).toList.drop 13) 13 [(4, (.ptr c4 0)), (7, (.ptr x7 0)), (39, (.lit (.bool t39)))] h (kN (kSeq Echainmanlaw38_awake (cb (cb (cb (cb (cb (cb c9)))))) (xend Echainmanlaw38_awake f9)))
noncomputable def S_chainmanlaw38_awake_3 (c4 : Nat) (t44 : Bool) (h : AHeap) : Option (AVal × AHeap) := jo Echainmanlaw38_awake 5 (rops (ca (cb (cb (cb (cb (cb c9))))))) ((rops (ca (cb (cb (cb (cb (cb c9))))))).toList.drop 18) 18 [(4, (.ptr c4 0)), (44, (.lit (.bool t44)))] h (kN (kSeq Echainmanlaw38_awake (cb (cb (cb (cb (cb (cb c9)))))) (xend Echainmanlaw38_awake f9)))
noncomputable def S_chainmanlaw38_awake_4 (t48 : Bool) (h : AHeap) : Option (AVal × AHeap) := jo Echainmanlaw38_awake 5 (rops (ca (cb (cb (cb (cb (cb c9))))))) ((rops (ca (cb (cb (cb (cb (cb c9))))))).toList.drop 22) 22 [(48, (.lit (.bool t48)))] h (kN (kSeq Echainmanlaw38_awake (cb (cb (cb (cb (cb (cb c9)))))) (xend Echainmanlaw38_awake f9)))
theorem S_chainmanlaw38_awake_eq  (h : AHeap) : S_chainmanlaw38_awake  h =
 (xExtract ((parseV (⟨#[101, 112, 115, 32, 48, 55, 10]⟩ : ByteArray))) 0).bind fun x1 =>
 (asA x1).bind fun xs2 =>
 (xExtract ((parseV (⟨#[101, 112, 115, 32, 48, 55, 10]⟩ : ByteArray))) 1).bind fun x3 =>
 (asI .i64 x3).bind fun n4 =>
 (xExtract ((parseV (⟨#[101, 112, 115, 32, 48, 55, 10]⟩ : ByteArray))) 2).bind fun x5 =>
 (asI .i64 x5).bind fun n6 =>
 (stn 9 ((psh h (.cells [(.lit (.int .i64 0)), (.lit (.int .i64 0)), (.lit (.int .i64 0)), (.lit (.int .i64 0)), (.lit (.int .i64 0)), (.lit (.int .i64 0)), (.lit (.int .i64 0)), (.lit (.int .i64 0)), (.lit (.int .i64 0))]))) (.ptr h.length 0) xs2).bind fun h7 =>
 (stn 9 ((psh h7 (.cells [(.lit (.int .i64 0)), (.lit (.int .i64 0)), (.lit (.int .i64 0)), (.lit (.int .i64 0)), (.lit (.int .i64 0)), (.lit (.int .i64 0)), (.lit (.int .i64 0)), (.lit (.int .i64 0)), (.lit (.int .i64 0))]))) (.ptr h7.length 0) ([(.lit (.int .i64 1)), (.lit (.int .i64 1)), (.lit (.int .i64 50)), (.lit (.int .i64 1)), (.lit (.int .i64 1)), (.lit (.int .i64 0)), (.lit (.int .i64 1)), (.lit (.int .i64 0)), (.lit (.int .i64 1))])).bind fun h8 =>
 (ldn 9 h8 (.ptr h7.length 0)).bind fun xs9 =>
 (cfOf xs9).bind fun r10 =>
 (xExtract ((parseV ((if mayB r10 then joinB (linesB r10) else ⟨#[]⟩)))) 0).bind fun x11 =>
 (asA x11).bind fun xs12 =>
 (xExtract ((parseV ((if mayB r10 then joinB (linesB r10) else ⟨#[]⟩)))) 1).bind fun x13 =>
 (asI .i64 x13).bind fun n14 =>
 (xExtract ((parseV ((if mayB r10 then joinB (linesB r10) else ⟨#[]⟩)))) 2).bind fun x15 =>
 (asI .i64 x15).bind fun n16 =>
 (stn 9 ((psh h8 (.cells [(.lit (.int .i64 0)), (.lit (.int .i64 0)), (.lit (.int .i64 0)), (.lit (.int .i64 0)), (.lit (.int .i64 0)), (.lit (.int .i64 0)), (.lit (.int .i64 0)), (.lit (.int .i64 0)), (.lit (.int .i64 0))]))) (.ptr h8.length 0) xs12).bind fun h17 =>
 bif (decide (n4 = 1)) then (S_chainmanlaw38_awake_0 h7.length (mayB r10) h8.length n16 (decide (n6 = 8)) h17)
 else (S_chainmanlaw38_awake_0 h7.length (mayB r10) h8.length n16 false h17) := by kernel_rfl
theorem S_chainmanlaw38_awake_0_eq (c4 : Nat) (ok6 : Bool) (x7 : Nat) (fv9 : Int) (t32 : Bool) (h : AHeap) : S_chainmanlaw38_awake_0 c4 ok6 x7 fv9 t32 h =
 bif t32 then (S_chainmanlaw38_awake_1 c4 x7 fv9 ok6 h)
 else (S_chainmanlaw38_awake_1 c4 x7 fv9 false h) := (jo_eq ..).trans (by kernel_rfl)
theorem S_chainmanlaw38_awake_1_eq (c4 : Nat) (x7 : Nat) (fv9 : Int) (t35 : Bool) (h : AHeap) : S_chainmanlaw38_awake_1 c4 x7 fv9 t35 h =
 bif t35 then (S_chainmanlaw38_awake_2 c4 x7 (decide (fv9 = 0)) h)
 else (S_chainmanlaw38_awake_2 c4 x7 false h) := (jo_eq ..).trans (by kernel_rfl)
theorem S_chainmanlaw38_awake_2_eq (c4 : Nat) (x7 : Nat) (t39 : Bool) (h : AHeap) : S_chainmanlaw38_awake_2 c4 x7 t39 h =
 bif t39 then ((ldn 9 h (.ptr x7 0)).bind fun xs18 =>
 (ldn 9 h (.ptr c4 0)).bind fun xs19 =>
 (leafEq [.int, .int, .int, .int, .int, .int, .int, .int, .int] xs18 xs19).bind fun b20 =>
 S_chainmanlaw38_awake_3 c4 b20 h)
 else (S_chainmanlaw38_awake_3 c4 false h) := (jo_eq ..).trans (by kernel_rfl)
theorem S_chainmanlaw38_awake_3_eq (c4 : Nat) (t44 : Bool) (h : AHeap) : S_chainmanlaw38_awake_3 c4 t44 h =
 bif t44 then ((ldn 9 h (.ptr c4 0)).bind fun xs21 =>
 (cfOf xs21).bind fun r22 =>
 S_chainmanlaw38_awake_4 (mayB r22) h)
 else (S_chainmanlaw38_awake_4 false h) := (jo_eq ..).trans (by kernel_rfl)
theorem S_chainmanlaw38_awake_4_eq (t48 : Bool) (h : AHeap) : S_chainmanlaw38_awake_4 t48 h =
 some ((.lit (.bool t48)), h) := (jo_eq ..).trans (by kernel_rfl)
theorem S_chainmanlaw38_awake_ends  {h h' : AHeap} {v : AVal} {R : AEnd → AHeap → Prop} (hx : S_chainmanlaw38_awake  h = some (v, h')) (hR : HOk h → h.length ≤ h'.length → ABody.AEnds h h' (.ret v) R) : ACalls Tryd.prog 9 [] h R := xfun_ends Echainmanlaw38_awake_ok tmix (i := 9) (by rfl) (by kernel_rfl) (by kernel_rfl) hx hR
def cf0 : Cf := ⟨1, 1, 50, 1, 1, 0, 1, 0, 1⟩
theorem leaf_same : ∀ v : List Int, leafEq (List.replicate v.length .int) (intVs v) (intVs v) = some true
  | [] => rfl
  | x :: v => by
    have ih := leaf_same v
    show (leafEq (List.replicate v.length .int) (intVs v) (intVs v)).bind (fun r => some (decide (x = x) && r)) = _
    rw [ih, Option.bind_some, decide_eq_true rfl]; rfl
theorem leaf9 (c : Cf) : leafEq [.int, .int, .int, .int, .int, .int, .int, .int, .int] (intVs c.l) (intVs c.l) = some true := leaf_same c.l
theorem parse_07 : parseV (⟨#[101, 112, 115, 32, 48, 55, 10]⟩ : ByteArray) = resV zer9 1 8 := by kernel_rfl
theorem awake_run (h : AHeap) : ∃ h', S_chainmanlaw38_awake h = some (.lit (.bool true), h') := by
  have m0 : mayB cf0 = true := by decide
  rw [S_chainmanlaw38_awake_eq, parse_07]
  show ∃ h', (stn 9 (psh h (.cells (intVs zer9))) (.ptr h.length 0) (intVs zer9)).bind _ = _
  obtain ⟨a1, a2⟩ := st9 (vs := intVs zer9) (cellsAt_new h (intVs zer9)) rfl rfl (ones _)
  rw [a1, Option.bind_some]
  generalize (psh h (AObj.cells (intVs zer9))).set h.length (AObj.cells (intVs zer9)) = g
  obtain ⟨b1, b2⟩ := st9 (vs := cf0.v) (cellsAt_new g (intVs zer9)) rfl rfl (ones _)
  show ∃ h', (stn 9 (psh g (.cells (intVs zer9))) (.ptr g.length 0) cf0.v).bind _ = _
  rw [b1, Option.bind_some, b2, Option.bind_some, cfOf_v, Option.bind_some, m0, if_pos rfl, back_lines m0]
  have H1 : cellsAt ((psh g (.cells (intVs zer9))).set g.length (.cells cf0.v)) g.length = some cf0.v := cellsAt_set (cellsAt_new g _)
  generalize (psh g (AObj.cells (intVs zer9))).set g.length (AObj.cells cf0.v) = k at H1 ⊢
  obtain ⟨c1, c2⟩ := st9 (vs := cf0.v) (cellsAt_new k (intVs zer9)) rfl rfl (ones _)
  show ∃ h', (stn 9 (psh k (.cells (intVs zer9))) (.ptr k.length 0) cf0.v).bind _ = _
  rw [c1, Option.bind_some]
  have hlt := cellsAt_lt H1
  have H2 : cellsAt ((psh k (.cells (intVs zer9))).set k.length (.cells cf0.v)) g.length = some cf0.v := by rw [cellsAt_ne (by omega)]; exact cellsAt_psh _ H1
  generalize (psh k (AObj.cells (intVs zer9))).set k.length (AObj.cells cf0.v) = r at H2 c2 ⊢
  show ∃ h', S_chainmanlaw38_awake_0 g.length true k.length 0 true r = _
  have hld : ldn 9 r (.ptr g.length 0) = some cf0.v := by rw [ldn_of (n := 9) (off := 0) H2 (Nat.le_refl _)]; rfl
  rw [S_chainmanlaw38_awake_0_eq, cond_true, S_chainmanlaw38_awake_1_eq, cond_true, S_chainmanlaw38_awake_2_eq]
  show ∃ h', (ldn 9 r (.ptr k.length 0)).bind _ = _
  rw [c2, Option.bind_some, hld, Option.bind_some]
  show ∃ h', (leafEq _ (intVs cf0.l) (intVs cf0.l)).bind _ = _
  rw [leaf9, Option.bind_some, S_chainmanlaw38_awake_3_eq, cond_true, hld, Option.bind_some, cfOf_v, Option.bind_some, m0, S_chainmanlaw38_awake_4_eq]
  exact ⟨_, rfl⟩
theorem awake_of (h : AHeap) : ACalls Tryd.prog 9 [] h fun e g => e = .ret (.lit (.bool true)) ∧ g = h := by
  obtain ⟨g, e⟩ := awake_run []
  exact acalls_plain rfl rfl ((S_chainmanlaw38_awake_ends e selfR).mono fun e g h => h.1) h
namespace Law2
noncomputable def w_chainmanlaw38_awake : XC := .q fun R args h K => match args with
  | [] => K (.lit (.bool true))
  | _ => none
theorem w_chainmanlaw38_awake_ok : XC.Nat w_chainmanlaw38_awake ∧ XC.Ok Tryd.prog 9 w_chainmanlaw38_awake := by
  refine ⟨fun R args h K => ?_, tc9, fun args h v hx => ?_⟩
  · dsimp only; split <;> simp [Option.bind_assoc, mkP]
  · dsimp only at hx; split at hx
    · cases hx
      exact awake_of _
    · cases hx
-- chainman/chainmanlaw38.ConfigTells: function 3
noncomputable def Echainmanlaw38_ConfigTells : XE := { T := tabOf [(3, r3), (4, r4), (9, r9), (23, r23), (27, r27)], C := [(9, w_chainmanlaw38_awake), (10, w_config_Text), (11, w_chainmanref38_Text), (12, w_config_Parse), (13, w_chainmanref38_Parse), (14, w_config_May), (15, w_chainmanref38_May)], D := [(7, ⟨[], [0, 1, 2, 3, 4, 5, 6, 7, 8, 9, 10, 11, 12, 13, 14, 15, 16, 17, 18, 19, 20, 21, 22, 23, 24, 25, 26, 27, 28, 29, 30, 31, 32, 33], [], [], [], [], []⟩)], Ms := [], Ml := [], Mo := [], n := 74 }
theorem Echainmanlaw38_ConfigTells_ok : XE.Ok Echainmanlaw38_ConfigTells Tryd.prog := ⟨tabOf_ok (⟨r3_ok, ⟨r4_ok, ⟨r9_ok, ⟨r23_ok, ⟨r27_ok, trivial⟩⟩⟩⟩⟩), ⟨w_chainmanlaw38_awake_ok, ⟨w_config_Text_ok, ⟨w_chainmanref38_Text_ok, ⟨w_config_Parse_ok, ⟨w_chainmanref38_Parse_ok, ⟨w_config_May_ok, ⟨w_chainmanref38_May_ok, trivial⟩⟩⟩⟩⟩⟩⟩⟩
noncomputable def c3 : Code := bodyOf f3
noncomputable def S_chainmanlaw38_ConfigTells (c0 : List AVal) (text1 : ByteArray) (h : AHeap) : Option (AVal × AHeap) := xfun Echainmanlaw38_ConfigTells f3 [(.agg c0), (.lit (.string text1))] h
theorem S_chainmanlaw38_ConfigTells_eq (c0 : List AVal) (text1 : ByteArray) (h : AHeap) : S_chainmanlaw38_ConfigTells c0 text1 h =
 bif (decide ((text1.size : Int) > 1100)) then (some ((.lit (.bool true)), (psh h (.cells c0))))
 else ((ldn 9 ((psh h (.cells c0))) (.ptr h.length 0)).bind fun xs1 =>
 (cfOf xs1).bind fun r2 =>
 (ldn 9 ((psh h (.cells c0))) (.ptr h.length 0)).bind fun xs3 =>
 (cfOf xs3).bind fun r4 =>
 (xExtract (parseV text1) 0).bind fun x5 =>
 (asA x5).bind fun xs6 =>
 (xExtract (parseV text1) 1).bind fun x7 =>
 (asI .i64 x7).bind fun n8 =>
 (xExtract (parseV text1) 2).bind fun x10 =>
 (asI .i64 x10).bind fun n11 =>
 (stn 9 ((psh ((psh h (.cells c0))) (.cells [(.lit (.int .i64 0)), (.lit (.int .i64 0)), (.lit (.int .i64 0)), (.lit (.int .i64 0)), (.lit (.int .i64 0)), (.lit (.int .i64 0)), (.lit (.int .i64 0)), (.lit (.int .i64 0)), (.lit (.int .i64 0))]))) (.ptr (((psh h (.cells c0))).length) 0) xs6).bind fun h12 =>
 (xExtract (parseV text1) 0).bind fun x13 =>
 (asA x13).bind fun xs14 =>
 (xExtract (parseV text1) 1).bind fun x15 =>
 (asI .i64 x15).bind fun n16 =>
 (xExtract (parseV text1) 2).bind fun x17 =>
 (asI .i64 x17).bind fun n18 =>
 (stn 9 ((psh h12 (.cells [(.lit (.int .i64 0)), (.lit (.int .i64 0)), (.lit (.int .i64 0)), (.lit (.int .i64 0)), (.lit (.int .i64 0)), (.lit (.int .i64 0)), (.lit (.int .i64 0)), (.lit (.int .i64 0)), (.lit (.int .i64 0))]))) (.ptr h12.length 0) xs14).bind fun h19 =>
 (ldn 9 h19 (.ptr h.length 0)).bind fun xs20 =>
 (cfOf xs20).bind fun r21 =>
 (ldn 9 h19 (.ptr h.length 0)).bind fun xs22 =>
 (cfOf xs22).bind fun r23 =>
 bif (decide ((mayB r21) = (mayB r23))) then (bif (decide (((if mayB r2 then joinB (linesB r2) else ⟨#[]⟩)) = ((if mayB r4 then joinB (linesB r4) else ⟨#[]⟩)))) then (bif (decide ((mayB r2) = (mayB r4))) then ((ldn 9 h19 (.ptr (((psh h (.cells c0))).length) 0)).bind fun xs24 =>
 (ldn 9 h19 (.ptr h12.length 0)).bind fun xs25 =>
 (leafEq [.int, .int, .int, .int, .int, .int, .int, .int, .int] xs24 xs25).bind fun b26 =>
 bif b26 then (bif (decide (n8 = n16)) then (bif (decide (n11 = n18)) then (some ((.lit (.bool true)), h19))
 else (some ((.lit (.bool false)), h19)))
 else (some ((.lit (.bool false)), h19)))
 else (some ((.lit (.bool false)), h19)))
 else (some ((.lit (.bool false)), h19)))
 else (some ((.lit (.bool false)), h19)))
 else (some ((.lit (.bool false)), h19))) := by kernel_rfl
theorem S_chainmanlaw38_ConfigTells_ends {c0 : List AVal} {text1 : ByteArray} {h h' : AHeap} {v : AVal} {R : AEnd → AHeap → Prop} (hx : S_chainmanlaw38_ConfigTells c0 text1 h = some (v, h')) (hR : HOk h → h.length ≤ h'.length → ABody.AEnds h h' (.ret v) R) : ACalls Tryd.prog 3 [(.agg c0), (.lit (.string text1))] h R := xfun_ends Echainmanlaw38_ConfigTells_ok tmix (i := 3) (by rfl) (by kernel_rfl) (by kernel_rfl) hx hR
theorem step_len {v v' : List Int} {l l' : List Nat} {s : ByteArray} (h : stepP v l s = some (v', l')) : v'.length = v.length := by
  unfold stepP at h
  split at h
  · split at h
    · cases h; simp
    · cases h
  · cases h; rfl
theorem runP_len : ∀ (ss : List ByteArray) (i : Nat) (v v' : List Int) (l l' : List Nat), runP ss i v l = .inr (v', l') → v'.length = v.length
  | [], i, v, v', l, l', h => by cases h; rfl
  | s :: ss, i, v, v', l, l', h => by
    unfold runP at h
    split at h
    · rename_i v1 l1 hs
      rw [runP_len ss _ _ _ _ _ h, step_len hs]
    · cases h
theorem parse_form (s : ByteArray) : ∃ v n e, parseV s = resV v n e ∧ v.length = 9 := by
  unfold parseV
  split
  · exact ⟨_, _, _, rfl, rfl⟩
  · cases hr : runP (partsB 10 s) 0 zer9 (List.range 9) with
    | inl j => exact ⟨_, _, _, rfl, rfl⟩
    | inr q =>
      obtain ⟨v, l⟩ := q
      unfold endP
      dsimp only
      split
      · exact ⟨_, _, _, rfl, rfl⟩
      · exact ⟨_, _, _, rfl, runP_len _ _ _ _ _ _ hr⟩
theorem leaf9' {v : List Int} (hv : v.length = 9) : leafEq [.int, .int, .int, .int, .int, .int, .int, .int, .int] (intVs v) (intVs v) = some true := by
  have := leaf_same v
  rw [hv] at this
  exact this
theorem tells_run (c : Cf) (s : ByteArray) (h : AHeap) : ∃ h', S_chainmanlaw38_ConfigTells c.v s h = some (.lit (.bool true), h') := by
  rw [S_chainmanlaw38_ConfigTells_eq]
  by_cases hs : (s.size : Int) > 1100
  · rw [decide_eq_true hs, cond_true]; exact ⟨_, rfl⟩
  · rw [decide_eq_false hs, cond_false]
    have H : cellsAt (psh h (.cells c.v)) h.length = some c.v := cellsAt_new h _
    have hld : ∀ g, cellsAt g h.length = some c.v → ldn 9 g (.ptr h.length 0) = some c.v := fun g hg => by
      rw [ldn_of (n := 9) (off := 0) hg (by simp [Cf.v, intVs, Cf.l])]; rfl
    obtain ⟨v, n, e, hp, hv⟩ := parse_form s
    have hv' : (intVs v).length = 9 := by rw [intVs_len]; exact hv
    rw [hld _ H, Option.bind_some, cfOf_v, Option.bind_some, Option.bind_some, cfOf_v, Option.bind_some, hp]
    show ∃ h', (stn 9 (psh (psh h (.cells c.v)) (.cells (intVs zer9))) (.ptr (psh h (.cells c.v)).length 0) (intVs v)).bind _ = _
    have hlt := cellsAt_lt H
    generalize psh h (AObj.cells c.v) = g at H hlt ⊢
    obtain ⟨a1, a2⟩ := st9 (vs := intVs v) (cellsAt_new g (intVs zer9)) rfl hv' (ones _)
    rw [a1, Option.bind_some]
    have H1 : cellsAt ((psh g (.cells (intVs zer9))).set g.length (.cells (intVs v))) h.length = some c.v := by rw [cellsAt_ne (by omega)]; exact cellsAt_psh _ H
    have A1 : cellsAt ((psh g (.cells (intVs zer9))).set g.length (.cells (intVs v))) g.length = some (intVs v) := cellsAt_set (cellsAt_new g _)
    have hlg := cellsAt_lt A1
    generalize (psh g (AObj.cells (intVs zer9))).set g.length (AObj.cells (intVs v)) = k at H1 A1 hlg ⊢
    obtain ⟨b1, b2⟩ := st9 (vs := intVs v) (cellsAt_new k (intVs zer9)) rfl hv' (ones _)
    show ∃ h', (stn 9 (psh k (.cells (intVs zer9))) (.ptr k.length 0) (intVs v)).bind _ = _
    rw [b1, Option.bind_some]
    have hlk := cellsAt_lt H1
    have H2 : cellsAt ((psh k (.cells (intVs zer9))).set k.length (.cells (intVs v))) h.length = some c.v := by rw [cellsAt_ne (by omega)]; exact cellsAt_psh _ H1
    have A2 : cellsAt ((psh k (.cells (intVs zer9))).set k.length (.cells (intVs v))) g.length = some (intVs v) := by rw [cellsAt_ne (by omega)]; exact cellsAt_psh _ A1
    generalize (psh k (AObj.cells (intVs zer9))).set k.length (AObj.cells (intVs v)) = r at H2 A2 b2 ⊢
    have hA : ldn 9 r (.ptr g.length 0) = some (intVs v) := by rw [ldn_of (n := 9) (off := 0) A2 (by omega), List.drop_zero, List.take_of_length_le (by omega)]
    rw [hld _ H2, Option.bind_some, cfOf_v, Option.bind_some, Option.bind_some, cfOf_v, Option.bind_some, decide_eq_true rfl, cond_true, decide_eq_true rfl, cond_true, cond_true, hA, Option.bind_some, b2, Option.bind_some, leaf9' hv, Option.bind_some, cond_true, decide_eq_true rfl, cond_true, decide_eq_true rfl, cond_true]
    exact ⟨_, rfl⟩
theorem configTells (c : Cf) (s : ByteArray) : ACalls Tryd.prog 3 [.agg c.v, .lit (.string s)] [] fun e g => e = .ret (.lit (.bool true)) ∧ True := by
  obtain ⟨g, e⟩ := tells_run c s []
  exact (S_chainmanlaw38_ConfigTells_ends e selfR).mono fun e g h => ⟨h.1, trivial⟩
end Law2
end Law
end Go.Proofs.YtglmofbcooefkaaDoor.AL
/- ConfigBack. -/
namespace Go.Proofs.YtglmofbcooefkaaDoor.AL
set_option linter.unusedVariables false
set_option linter.unusedSimpArgs false
set_option maxRecDepth 100000
open Go
open Go.Proofs.Tryd
namespace Law
namespace Law2
-- chainman/chainmanlaw38.ConfigBack: function 4
noncomputable def Echainmanlaw38_ConfigBack : XE := { T := tabOf [(3, r3), (4, r4), (5, r5), (9, r9), (23, r23), (27, r27), (32, r32), (33, r33)], C := [(9, w_chainmanlaw38_awake), (10, w_config_Text), (12, w_config_Parse), (14, w_config_May), (16, w_chainmanref38_Lines)], D := [], Ms := [(17, [2, 3, 12]), (20, [2, 3, 12, 16, 17]), (29, [2, 3, 12, 16, 17]), (30, [2, 3, 12, 16, 17]), (31, [3, 12, 16])], Ml := [(11, [1, 2, 3, 12, 13]), (19, [2, 3, 12, 16, 17]), (25, [2, 3, 12, 16, 17, 18])], Mo := [(1008, [1, 2, 3, 32]), (5007, [47]), (5010, [50]), (7007, [1, 2, 3, 11, 63]), (7011, [1, 2, 3, 67]), (33007, [21, 24, 170]), (33011, [24, 174]), (33015, [178]), (33018, [181])], n := 182 }
theorem Echainmanlaw38_ConfigBack_ok : XE.Ok Echainmanlaw38_ConfigBack Tryd.prog := ⟨tabOf_ok (⟨r3_ok, ⟨r4_ok, ⟨r5_ok, ⟨r9_ok, ⟨r23_ok, ⟨r27_ok, ⟨r32_ok, ⟨r33_ok, trivial⟩⟩⟩⟩⟩⟩⟩⟩), ⟨w_chainmanlaw38_awake_ok, ⟨w_config_Text_ok, ⟨w_config_Parse_ok, ⟨w_config_May_ok, ⟨w_chainmanref38_Lines_ok, trivial⟩⟩⟩⟩⟩⟩
noncomputable def c4 : Code := bodyOf f4
noncomputable def S_chainmanlaw38_ConfigBack (c0 : List AVal) (turns1 : AVal) (more2 : AVal) (h : AHeap) : Option (AVal × AHeap) := xfun Echainmanlaw38_ConfigBack f4 [(.agg c0), turns1, more2] h
noncomputable def S_chainmanlaw38_ConfigBack_0 (turns1 : AVal) (more2 : AVal) (c3 : Nat) (t32 : Bool) (h : AHeap) : Option (AVal × AHeap) := jo Echainmanlaw38_ConfigBack 1 (rops (ca (ca (cb c4)))) ((rops (ca (ca (cb c4)))).toList.drop 8) 8 [(1, turns1), (2, more2), (3, (.ptr c3 0)), (32, (.lit (.bool t32)))] h (kN (kSeq Echainmanlaw38_ConfigBack (cb (ca (cb c4))) (kSeq Echainmanlaw38_ConfigBack (cb (cb c4)) (xend Echainmanlaw38_ConfigBack f4))))
noncomputable def S_chainmanlaw38_ConfigBack_1 (t47 : Bool) (h : AHeap) : Option (AVal × AHeap) := jo Echainmanlaw38_ConfigBack 5 (rops (ca (ca (cb (ca (cb (cb (cb c4)))))))) ((rops (ca (ca (cb (ca (cb (cb (cb c4)))))))).toList.drop 7) 7 [(47, (.lit (.bool t47)))] h (kN (kSeq Echainmanlaw38_ConfigBack (cb (ca (cb (ca (cb (cb (cb c4))))))) (kSeq Echainmanlaw38_ConfigBack (cb (cb (cb (cb c4)))) (xend Echainmanlaw38_ConfigBack f4))))
noncomputable def S_chainmanlaw38_ConfigBack_2 (turns1 : AVal) (more2 : AVal) (c3 : Nat) (e11 : Int) (t63 : Bool) (h : AHeap) : Option (AVal × AHeap) := jo Echainmanlaw38_ConfigBack 7 (rops (ca (ca (cb (cb (cb (cb (cb c4)))))))) ((rops (ca (ca (cb (cb (cb (cb (cb c4)))))))).toList.drop 7) 7 [(1, turns1), (2, more2), (3, (.ptr c3 0)), (11, (.lit (.int .i64 e11))), (63, (.lit (.bool t63)))] h (kN (kSeq Echainmanlaw38_ConfigBack (cb (ca (cb (cb (cb (cb (cb c4))))))) (kSeq Echainmanlaw38_ConfigBack (cb (cb (cb (cb (cb (cb c4)))))) (xend Echainmanlaw38_ConfigBack f4))))
noncomputable def S_chainmanlaw38_ConfigBack_3 (t50 : Bool) (h : AHeap) : Option (AVal × AHeap) := jo Echainmanlaw38_ConfigBack 5 (rops (ca (ca (cb (ca (cb (cb (cb c4)))))))) ((rops (ca (ca (cb (ca (cb (cb (cb c4)))))))).toList.drop 10) 10 [(50, (.lit (.bool t50)))] h (kN (kSeq Echainmanlaw38_ConfigBack (cb (ca (cb (ca (cb (cb (cb c4))))))) (kSeq Echainmanlaw38_ConfigBack (cb (cb (cb (cb c4)))) (xend Echainmanlaw38_ConfigBack f4))))
noncomputable def S_chainmanlaw38_ConfigBack_4 (turns1 : AVal) (more2 : AVal) (c3 : Nat) (t67 : Bool) (h : AHeap) : Option (AVal × AHeap) := jo Echainmanlaw38_ConfigBack 7 (rops (ca (ca (cb (cb (cb (cb (cb c4)))))))) ((rops (ca (ca (cb (cb (cb (cb (cb c4)))))))).toList.drop 11) 11 [(1, turns1), (2, more2), (3, (.ptr c3 0)), (67, (.lit (.bool t67)))] h (kN (kSeq Echainmanlaw38_ConfigBack (cb (ca (cb (cb (cb (cb (cb c4))))))) (kSeq Echainmanlaw38_ConfigBack (cb (cb (cb (cb (cb (cb c4)))))) (xend Echainmanlaw38_ConfigBack f4))))
noncomputable def S_chainmanlaw38_ConfigBack_5 (turns1 : AVal) (more2 : AVal) (c3 : Nat) (l12 : AVal) (i13 : Int) (h : AHeap) : Option (AVal × AHeap) := xexec Echainmanlaw38_ConfigBack (.loop (ca (ca (cb (ca (cb (cb (cb (cb (cb (cb (cb c4)))))))))))) (AVal × AHeap) [(1, turns1), (2, more2), (3, (.ptr c3 0)), (12, l12), (13, (.lit (.int .i64 i13)))] h (kBlk 0 (kSeq Echainmanlaw38_ConfigBack (cb (cb (cb (cb (cb (cb (cb (cb c4)))))))) (xend Echainmanlaw38_ConfigBack f4)))
noncomputable def S_chainmanlaw38_ConfigBack_6 (more2 : AVal) (c3 : Nat) (l12 : AVal) (h : AHeap) : Option (AVal × AHeap) := jn (xexec Echainmanlaw38_ConfigBack (cb (cb (cb (cb (cb (cb (cb (cb c4)))))))) (AVal × AHeap) [(2, more2), (3, (.ptr c3 0)), (12, l12)] h (xend Echainmanlaw38_ConfigBack f4))
noncomputable def S_chainmanlaw38_ConfigBack_7 (more2 : AVal) (c3 : Nat) (l12 : AVal) (t16 : ByteArray) (i17 : Int) (h : AHeap) : Option (AVal × AHeap) := xexec Echainmanlaw38_ConfigBack (.loop (ca (ca (cb (ca (cb (cb (cb (cb (cb (cb (cb (cb (cb c4)))))))))))))) (AVal × AHeap) [(2, more2), (3, (.ptr c3 0)), (12, l12), (16, (.lit (.string t16))), (17, (.lit (.int .i64 i17)))] h (kBlk 2 (kSeq Echainmanlaw38_ConfigBack (cb (cb (cb (cb (cb (cb (cb (cb (cb (cb c4)))))))))) (xend Echainmanlaw38_ConfigBack f4)))
noncomputable def S_chainmanlaw38_ConfigBack_8 (more2 : AVal) (c3 : Nat) (l12 : AVal) (t16 : ByteArray) (i17 : Int) (k18 : Int) (h : AHeap) : Option (AVal × AHeap) := xexec Echainmanlaw38_ConfigBack (.loop (ca (ca (cb (ca (cb (ca (cb (ca (ca (ca (cb (ca (ca (cb (ca (cb (cb (cb (cb (cb (cb (cb (cb (cb c4))))))))))))))))))))))))) (AVal × AHeap) [(2, more2), (3, (.ptr c3 0)), (12, l12), (16, (.lit (.string t16))), (17, (.lit (.int .i64 i17))), (18, (.lit (.int .i64 k18)))] h (kBlk 4 (kSeq Echainmanlaw38_ConfigBack (cb (cb (ca (cb (ca (ca (ca (cb (ca (ca (cb (ca (cb (cb (cb (cb (cb (cb (cb (cb (cb c4))))))))))))))))))))) (kSeq Echainmanlaw38_ConfigBack (cb (ca (ca (cb (ca (ca (cb (ca (cb (cb (cb (cb (cb (cb (cb (cb (cb c4))))))))))))))))) (kBlk 3 (kSeq Echainmanlaw38_ConfigBack (cb (cb (ca (ca (cb (ca (cb (cb (cb (cb (cb (cb (cb (cb (cb c4))))))))))))))) (kLoop Echainmanlaw38_ConfigBack (ca (ca (cb (ca (cb (cb (cb (cb (cb (cb (cb (cb (cb c4))))))))))))) (kBlk 2 (kSeq Echainmanlaw38_ConfigBack (cb (cb (cb (cb (cb (cb (cb (cb (cb (cb c4)))))))))) (xend Echainmanlaw38_ConfigBack f4)))))))))
noncomputable def S_chainmanlaw38_ConfigBack_9 (more2 : AVal) (c3 : Nat) (l12 : AVal) (t16 : ByteArray) (i17 : Int) (h : AHeap) : Option (AVal × AHeap) := jn (xexec Echainmanlaw38_ConfigBack (cb (ca (ca (cb (ca (ca (cb (ca (cb (cb (cb (cb (cb (cb (cb (cb (cb c4))))))))))))))))) (AVal × AHeap) [(2, more2), (3, (.ptr c3 0)), (12, l12), (16, (.lit (.string t16))), (17, (.lit (.int .i64 i17)))] h (kBlk 3 (kSeq Echainmanlaw38_ConfigBack (cb (cb (ca (ca (cb (ca (cb (cb (cb (cb (cb (cb (cb (cb (cb c4))))))))))))))) (kLoop Echainmanlaw38_ConfigBack (ca (ca (cb (ca (cb (cb (cb (cb (cb (cb (cb (cb (cb c4))))))))))))) (kBlk 2 (kSeq Echainmanlaw38_ConfigBack (cb (cb (cb (cb (cb (cb (cb (cb (cb (cb c4)))))))))) (xend Echainmanlaw38_ConfigBack f4)))))))
noncomputable def S_chainmanlaw38_ConfigBack_10 (c3 : Nat) (l12 : AVal) (t16 : ByteArray) (h : AHeap) : Option (AVal × AHeap) := jn (xexec Echainmanlaw38_ConfigBack (cb (cb (cb (cb (cb (cb (cb (cb (cb (cb c4)))))))))) (AVal × AHeap) [(3, (.ptr c3 0)), (12, l12), (16, (.lit (.string t16)))] h (xend Echainmanlaw38_ConfigBack f4))
noncomputable def S_chainmanlaw38_ConfigBack_11 (more2 : AVal) (c3 : Nat) (l12 : AVal) (t16 : ByteArray) (i17 : Int) (h : AHeap) : Option (AVal × AHeap) := jn (xexec Echainmanlaw38_ConfigBack (cb (cb (ca (cb (ca (ca (ca (cb (ca (ca (cb (ca (cb (cb (cb (cb (cb (cb (cb (cb (cb c4))))))))))))))))))))) (AVal × AHeap) [(2, more2), (3, (.ptr c3 0)), (12, l12), (16, (.lit (.string t16))), (17, (.lit (.int .i64 i17)))] h (kSeq Echainmanlaw38_ConfigBack (cb (ca (ca (cb (ca (ca (cb (ca (cb (cb (cb (cb (cb (cb (cb (cb (cb c4))))))))))))))))) (kBlk 3 (kSeq Echainmanlaw38_ConfigBack (cb (cb (ca (ca (cb (ca (cb (cb (cb (cb (cb (cb (cb (cb (cb c4))))))))))))))) (kLoop Echainmanlaw38_ConfigBack (ca (ca (cb (ca (cb (cb (cb (cb (cb (cb (cb (cb (cb c4))))))))))))) (kBlk 2 (kSeq Echainmanlaw38_ConfigBack (cb (cb (cb (cb (cb (cb (cb (cb (cb (cb c4)))))))))) (xend Echainmanlaw38_ConfigBack f4))))))))
noncomputable def S_chainmanlaw38_ConfigBack_12 (more2 : AVal) (c3 : Nat) (l12 : AVal) (t16 : ByteArray) (i17 : Int) (h : AHeap) : Option (AVal × AHeap) := jn (xexec Echainmanlaw38_ConfigBack (cb (cb (ca (ca (cb (ca (cb (cb (cb (cb (cb (cb (cb (cb (cb c4))))))))))))))) (AVal × AHeap) [(2, more2), (3, (.ptr c3 0)), (12, l12), (16, (.lit (.string t16))), (17, (.lit (.int .i64 i17)))] h (kLoop Echainmanlaw38_ConfigBack (ca (ca (cb (ca (cb (cb (cb (cb (cb (cb (cb (cb (cb c4))))))))))))) (kBlk 2 (kSeq Echainmanlaw38_ConfigBack (cb (cb (cb (cb (cb (cb (cb (cb (cb (cb c4)))))))))) (xend Echainmanlaw38_ConfigBack f4)))))
noncomputable def S_chainmanlaw38_ConfigBack_13 (f21 : Int) (g24 : Int) (t170 : Bool) (h : AHeap) : Option (AVal × AHeap) := jo Echainmanlaw38_ConfigBack 33 (rops (ca (cb (cb (cb (cb (cb (cb (cb (cb (cb (cb (cb (cb c4)))))))))))))) ((rops (ca (cb (cb (cb (cb (cb (cb (cb (cb (cb (cb (cb (cb c4)))))))))))))).toList.drop 7) 7 [(21, (.lit (.int .i64 f21))), (24, (.lit (.int .i64 g24))), (170, (.lit (.bool t170)))] h (kN (kSeq Echainmanlaw38_ConfigBack (cb (cb (cb (cb (cb (cb (cb (cb (cb (cb (cb (cb (cb c4))))))))))))) (xend Echainmanlaw38_ConfigBack f4)))
noncomputable def S_chainmanlaw38_ConfigBack_14 (g24 : Int) (t174 : Bool) (h : AHeap) : Option (AVal × AHeap) := jo Echainmanlaw38_ConfigBack 33 (rops (ca (cb (cb (cb (cb (cb (cb (cb (cb (cb (cb (cb (cb c4)))))))))))))) ((rops (ca (cb (cb (cb (cb (cb (cb (cb (cb (cb (cb (cb (cb c4)))))))))))))).toList.drop 11) 11 [(24, (.lit (.int .i64 g24))), (174, (.lit (.bool t174)))] h (kN (kSeq Echainmanlaw38_ConfigBack (cb (cb (cb (cb (cb (cb (cb (cb (cb (cb (cb (cb (cb c4))))))))))))) (xend Echainmanlaw38_ConfigBack f4)))
noncomputable def S_chainmanlaw38_ConfigBack_15 (t178 : Bool) (h : AHeap) : Option (AVal × AHeap) := jo Echainmanlaw38_ConfigBack 33 (rops (ca (cb (cb (cb (cb (cb (cb (cb (cb (cb (cb (cb (cb c4)))))))))))))) ((rops (ca (cb (cb (cb (cb (cb (cb (cb (cb (cb (cb (cb (cb c4)))))))))))))).toList.drop 15) 15 [(178, (.lit (.bool t178)))] h (kN (kSeq Echainmanlaw38_ConfigBack (cb (cb (cb (cb (cb (cb (cb (cb (cb (cb (cb (cb (cb c4))))))))))))) (xend Echainmanlaw38_ConfigBack f4)))
noncomputable def S_chainmanlaw38_ConfigBack_16 (t181 : Bool) (h : AHeap) : Option (AVal × AHeap) := jo Echainmanlaw38_ConfigBack 33 (rops (ca (cb (cb (cb (cb (cb (cb (cb (cb (cb (cb (cb (cb c4)))))))))))))) ((rops (ca (cb (cb (cb (cb (cb (cb (cb (cb (cb (cb (cb (cb c4)))))))))))))).toList.drop 18) 18 [(181, (.lit (.bool t181)))] h (kN (kSeq Echainmanlaw38_ConfigBack (cb (cb (cb (cb (cb (cb (cb (cb (cb (cb (cb (cb (cb c4))))))))))))) (xend Echainmanlaw38_ConfigBack f4)))
theorem S_chainmanlaw38_ConfigBack_eq (c0 : List AVal) (turns1 : AVal) (more2 : AVal) (h : AHeap) : S_chainmanlaw38_ConfigBack c0 turns1 more2 h =
 (lenV turns1).bind fun n1 =>
 bif (decide (n1 > 10)) then (S_chainmanlaw38_ConfigBack_0 turns1 more2 h.length true ((psh h (.cells c0))))
 else ((lenV more2).bind fun n2 =>
 S_chainmanlaw38_ConfigBack_0 turns1 more2 h.length (decide (n2 > 10)) ((psh h (.cells c0)))) := by kernel_rfl
theorem S_chainmanlaw38_ConfigBack_0_eq (turns1 : AVal) (more2 : AVal) (c3 : Nat) (t32 : Bool) (h : AHeap) : S_chainmanlaw38_ConfigBack_0 turns1 more2 c3 t32 h =
 bif t32 then (some ((.lit (.bool true)), h))
 else ((ldn 9 h (.ptr c3 0)).bind fun xs3 =>
 (cfOf xs3).bind fun r4 =>
 bif (!(mayB r4)) then (bif (decide (((if mayB r4 then joinB (linesB r4) else ⟨#[]⟩)) = (⟨#[]⟩ : ByteArray))) then ((ldn 9 h (.ptr c3 0)).bind fun xs5 =>
 (cfOf xs5).bind fun r6 =>
 S_chainmanlaw38_ConfigBack_1 (!(mayB r6)) h)
 else (S_chainmanlaw38_ConfigBack_1 false h))
 else ((xExtract ((parseV ((if mayB r4 then joinB (linesB r4) else ⟨#[]⟩)))) 0).bind fun x7 =>
 (asA x7).bind fun xs8 =>
 (xExtract ((parseV ((if mayB r4 then joinB (linesB r4) else ⟨#[]⟩)))) 1).bind fun x10 =>
 (asI .i64 x10).bind fun n11 =>
 (xExtract ((parseV ((if mayB r4 then joinB (linesB r4) else ⟨#[]⟩)))) 2).bind fun x12 =>
 (asI .i64 x12).bind fun n13 =>
 (stn 9 ((psh h (.cells [(.lit (.int .i64 0)), (.lit (.int .i64 0)), (.lit (.int .i64 0)), (.lit (.int .i64 0)), (.lit (.int .i64 0)), (.lit (.int .i64 0)), (.lit (.int .i64 0)), (.lit (.int .i64 0)), (.lit (.int .i64 0))]))) (.ptr h.length 0) xs8).bind fun h14 =>
 (ldn 9 h14 (.ptr h.length 0)).bind fun xs15 =>
 (ldn 9 h14 (.ptr c3 0)).bind fun xs16 =>
 (leafEq [.int, .int, .int, .int, .int, .int, .int, .int, .int] xs15 xs16).bind fun b17 =>
 bif (!b17) then (S_chainmanlaw38_ConfigBack_2 turns1 more2 c3 n13 true h14)
 else (S_chainmanlaw38_ConfigBack_2 turns1 more2 c3 n13 (!decide (n11 = 0)) h14))) := (jo_eq ..).trans (by kernel_rfl)
theorem S_chainmanlaw38_ConfigBack_1_eq (t47 : Bool) (h : AHeap) : S_chainmanlaw38_ConfigBack_1 t47 h =
 bif t47 then (S_chainmanlaw38_ConfigBack_3 true h)
 else (S_chainmanlaw38_ConfigBack_3 false h) := (jo_eq ..).trans (by kernel_rfl)
theorem S_chainmanlaw38_ConfigBack_2_eq (turns1 : AVal) (more2 : AVal) (c3 : Nat) (e11 : Int) (t63 : Bool) (h : AHeap) : S_chainmanlaw38_ConfigBack_2 turns1 more2 c3 e11 t63 h =
 bif t63 then (S_chainmanlaw38_ConfigBack_4 turns1 more2 c3 true h)
 else (S_chainmanlaw38_ConfigBack_4 turns1 more2 c3 (!decide (e11 = 0)) h) := (jo_eq ..).trans (by kernel_rfl)
theorem S_chainmanlaw38_ConfigBack_3_eq (t50 : Bool) (h : AHeap) : S_chainmanlaw38_ConfigBack_3 t50 h =
 some ((.lit (.bool t50)), h) := (jo_eq ..).trans (by kernel_rfl)
theorem S_chainmanlaw38_ConfigBack_4_eq (turns1 : AVal) (more2 : AVal) (c3 : Nat) (t67 : Bool) (h : AHeap) : S_chainmanlaw38_ConfigBack_4 turns1 more2 c3 t67 h =
 bif t67 then (some ((.lit (.bool false)), h))
 else ((ldn 9 h (.ptr c3 0)).bind fun xs18 =>
 (S_chainmanref38_Lines xs18 h).bind fun r19 =>
 S_chainmanlaw38_ConfigBack_5 turns1 more2 c3 r19.1 0 r19.2) := (jo_eq ..).trans (by kernel_rfl)
theorem S_chainmanlaw38_ConfigBack_5_eq (turns1 : AVal) (more2 : AVal) (c3 : Nat) (l12 : AVal) (i13 : Int) (h : AHeap) : S_chainmanlaw38_ConfigBack_5 turns1 more2 c3 l12 i13 h =
 (lenV turns1).bind fun n20 =>
 bif (decide (i13 < n20)) then ((idxP 1 turns1 i13).bind fun p21 =>
 (ld1 h p21).bind fun x22 =>
 (asI .u8 x22).bind fun n23 =>
 (idxP 1 l12 ((IntKind.wrap .i64 n23).tmod 8)).bind fun p24 =>
 (ld1 h p24).bind fun x25 =>
 (asS x25).bind fun s26 =>
 (idxP 1 l12 (IntKind.wrap .i64 (((IntKind.wrap .i64 n23).tmod 8) + 1))).bind fun p27 =>
 (ld1 h p27).bind fun x28 =>
 (asS x28).bind fun s29 =>
 (idxP 1 l12 ((IntKind.wrap .i64 n23).tmod 8)).bind fun p30 =>
 (st1 h p30 (.lit (.string s29))).bind fun h31 =>
 (idxP 1 l12 (IntKind.wrap .i64 (((IntKind.wrap .i64 n23).tmod 8) + 1))).bind fun p32 =>
 (st1 h31 p32 (.lit (.string s26))).bind fun h33 =>
 S_chainmanlaw38_ConfigBack_5 turns1 more2 c3 l12 (IntKind.wrap .i64 (i13 + 1)) h33)
 else (S_chainmanlaw38_ConfigBack_6 more2 c3 l12 h) := (xexec_loop Echainmanlaw38_ConfigBack Echainmanlaw38_ConfigBack_ok.C.nat _ _ _ _ _).trans (by kernel_rfl)
theorem S_chainmanlaw38_ConfigBack_6_eq (more2 : AVal) (c3 : Nat) (l12 : AVal) (h : AHeap) : S_chainmanlaw38_ConfigBack_6 more2 c3 l12 h =
 S_chainmanlaw38_ConfigBack_7 more2 c3 l12 (⟨#[]⟩ : ByteArray) 0 h := (jn_eq _).trans (by kernel_rfl)
theorem S_chainmanlaw38_ConfigBack_7_eq (more2 : AVal) (c3 : Nat) (l12 : AVal) (t16 : ByteArray) (i17 : Int) (h : AHeap) : S_chainmanlaw38_ConfigBack_7 more2 c3 l12 t16 i17 h =
 (lenV l12).bind fun n34 =>
 bif (decide (i17 < n34)) then ((lenV more2).bind fun n35 =>
 bif (decide (i17 < n35)) then ((idxP 1 more2 i17).bind fun p36 =>
 (ld1 h p36).bind fun x37 =>
 (asS x37).bind fun s38 =>
 bif (decide ((s38.size : Int) > 20)) then (some ((.lit (.bool true)), h))
 else (S_chainmanlaw38_ConfigBack_8 more2 c3 l12 t16 i17 0 h))
 else (S_chainmanlaw38_ConfigBack_9 more2 c3 l12 t16 i17 h))
 else (S_chainmanlaw38_ConfigBack_10 c3 l12 t16 h) := (xexec_loop Echainmanlaw38_ConfigBack Echainmanlaw38_ConfigBack_ok.C.nat _ _ _ _ _).trans (by kernel_rfl)
theorem S_chainmanlaw38_ConfigBack_8_eq (more2 : AVal) (c3 : Nat) (l12 : AVal) (t16 : ByteArray) (i17 : Int) (k18 : Int) (h : AHeap) : S_chainmanlaw38_ConfigBack_8 more2 c3 l12 t16 i17 k18 h =
 (idxP 1 more2 i17).bind fun p39 =>
 (ld1 h p39).bind fun x40 =>
 (asS x40).bind fun s41 =>
 bif (decide (k18 < (s41.size : Int))) then ((idxP 1 more2 i17).bind fun p42 =>
 (ld1 h p42).bind fun x43 =>
 (asS x43).bind fun s44 =>
 (strAt s44 k18).bind fun n45 =>
 bif (decide (n45 = 10)) then (some ((.lit (.bool true)), h))
 else (S_chainmanlaw38_ConfigBack_8 more2 c3 l12 t16 i17 (IntKind.wrap .i64 (k18 + 1)) h))
 else (S_chainmanlaw38_ConfigBack_11 more2 c3 l12 t16 i17 h) := (xexec_loop Echainmanlaw38_ConfigBack Echainmanlaw38_ConfigBack_ok.C.nat _ _ _ _ _).trans (by kernel_rfl)
theorem S_chainmanlaw38_ConfigBack_9_eq (more2 : AVal) (c3 : Nat) (l12 : AVal) (t16 : ByteArray) (i17 : Int) (h : AHeap) : S_chainmanlaw38_ConfigBack_9 more2 c3 l12 t16 i17 h =
 (idxP 1 l12 i17).bind fun p46 =>
 (ld1 h p46).bind fun x47 =>
 (asS x47).bind fun s48 =>
 (req (t16.size + s48.size ≤ 9223372036854775807)).bind fun u49 =>
 (req ((t16 ++ s48).size + (⟨#[10]⟩ : ByteArray).size ≤ 9223372036854775807)).bind fun u50 =>
 S_chainmanlaw38_ConfigBack_12 more2 c3 l12 ((t16 ++ s48) ++ (⟨#[10]⟩ : ByteArray)) i17 h := (jn_eq _).trans (by kernel_rfl)
theorem S_chainmanlaw38_ConfigBack_10_eq (c3 : Nat) (l12 : AVal) (t16 : ByteArray) (h : AHeap) : S_chainmanlaw38_ConfigBack_10 c3 l12 t16 h =
 (xExtract (parseV t16) 0).bind fun x51 =>
 (asA x51).bind fun xs52 =>
 (xExtract (parseV t16) 1).bind fun x53 =>
 (asI .i64 x53).bind fun n54 =>
 (xExtract (parseV t16) 2).bind fun x55 =>
 (asI .i64 x55).bind fun n56 =>
 (stn 9 ((psh h (.cells [(.lit (.int .i64 0)), (.lit (.int .i64 0)), (.lit (.int .i64 0)), (.lit (.int .i64 0)), (.lit (.int .i64 0)), (.lit (.int .i64 0)), (.lit (.int .i64 0)), (.lit (.int .i64 0)), (.lit (.int .i64 0))]))) (.ptr h.length 0) xs52).bind fun h57 =>
 (idxP 1 l12 0).bind fun p58 =>
 (ld1 h57 p58).bind fun x59 =>
 (asS x59).bind fun s60 =>
 (req (t16.size + s60.size ≤ 9223372036854775807)).bind fun u61 =>
 (xExtract ((parseV (t16 ++ s60))) 0).bind fun x62 =>
 (asA x62).bind fun xs63 =>
 (xExtract ((parseV (t16 ++ s60))) 1).bind fun x64 =>
 (asI .i64 x64).bind fun n65 =>
 (xExtract ((parseV (t16 ++ s60))) 2).bind fun x66 =>
 (asI .i64 x66).bind fun n67 =>
 (stn 9 ((psh h57 (.cells [(.lit (.int .i64 0)), (.lit (.int .i64 0)), (.lit (.int .i64 0)), (.lit (.int .i64 0)), (.lit (.int .i64 0)), (.lit (.int .i64 0)), (.lit (.int .i64 0)), (.lit (.int .i64 0)), (.lit (.int .i64 0))]))) (.ptr h57.length 0) xs63).bind fun h68 =>
 (ldn 9 h68 (.ptr h.length 0)).bind fun xs69 =>
 (ldn 9 h68 (.ptr c3 0)).bind fun xs70 =>
 (leafEq [.int, .int, .int, .int, .int, .int, .int, .int, .int] xs69 xs70).bind fun b71 =>
 bif b71 then (S_chainmanlaw38_ConfigBack_13 n56 n67 (decide (n54 = 0)) h68)
 else (S_chainmanlaw38_ConfigBack_13 n56 n67 false h68) := (jn_eq _).trans (by kernel_rfl)
theorem S_chainmanlaw38_ConfigBack_11_eq (more2 : AVal) (c3 : Nat) (l12 : AVal) (t16 : ByteArray) (i17 : Int) (h : AHeap) : S_chainmanlaw38_ConfigBack_11 more2 c3 l12 t16 i17 h =
 (req (t16.size + (⟨#[35]⟩ : ByteArray).size ≤ 9223372036854775807)).bind fun u72 =>
 (idxP 1 more2 i17).bind fun p73 =>
 (ld1 h p73).bind fun x74 =>
 (asS x74).bind fun s75 =>
 (req ((t16 ++ (⟨#[35]⟩ : ByteArray)).size + s75.size ≤ 9223372036854775807)).bind fun u76 =>
 (req (((t16 ++ (⟨#[35]⟩ : ByteArray)) ++ s75).size + (⟨#[10, 10]⟩ : ByteArray).size ≤ 9223372036854775807)).bind fun u77 =>
 S_chainmanlaw38_ConfigBack_9 more2 c3 l12 (((t16 ++ (⟨#[35]⟩ : ByteArray)) ++ s75) ++ (⟨#[10, 10]⟩ : ByteArray)) i17 h := (jn_eq _).trans (by kernel_rfl)
theorem S_chainmanlaw38_ConfigBack_12_eq (more2 : AVal) (c3 : Nat) (l12 : AVal) (t16 : ByteArray) (i17 : Int) (h : AHeap) : S_chainmanlaw38_ConfigBack_12 more2 c3 l12 t16 i17 h =
 S_chainmanlaw38_ConfigBack_7 more2 c3 l12 t16 (IntKind.wrap .i64 (i17 + 1)) h := (jn_eq _).trans (by kernel_rfl)
theorem S_chainmanlaw38_ConfigBack_13_eq (f21 : Int) (g24 : Int) (t170 : Bool) (h : AHeap) : S_chainmanlaw38_ConfigBack_13 f21 g24 t170 h =
 bif t170 then (S_chainmanlaw38_ConfigBack_14 g24 (decide (f21 = 0)) h)
 else (S_chainmanlaw38_ConfigBack_14 g24 false h) := (jo_eq ..).trans (by kernel_rfl)
theorem S_chainmanlaw38_ConfigBack_14_eq (g24 : Int) (t174 : Bool) (h : AHeap) : S_chainmanlaw38_ConfigBack_14 g24 t174 h =
 bif t174 then (S_chainmanlaw38_ConfigBack_15 (decide (g24 = 8)) h)
 else (S_chainmanlaw38_ConfigBack_15 false h) := (jo_eq ..).trans (by kernel_rfl)
theorem S_chainmanlaw38_ConfigBack_15_eq (t178 : Bool) (h : AHeap) : S_chainmanlaw38_ConfigBack_15 t178 h =
 bif t178 then (S_chainmanlaw38_ConfigBack_16 true h)
 else (S_chainmanlaw38_ConfigBack_16 false h) := (jo_eq ..).trans (by kernel_rfl)
theorem S_chainmanlaw38_ConfigBack_16_eq (t181 : Bool) (h : AHeap) : S_chainmanlaw38_ConfigBack_16 t181 h =
 some ((.lit (.bool t181)), h) := (jo_eq ..).trans (by kernel_rfl)
theorem S_chainmanlaw38_ConfigBack_ends {c0 : List AVal} {turns1 : AVal} {more2 : AVal} {h h' : AHeap} {v : AVal} {R : AEnd → AHeap → Prop} (hx : S_chainmanlaw38_ConfigBack c0 turns1 more2 h = some (v, h')) (hR : HOk h → h.length ≤ h'.length → ABody.AEnds h h' (.ret v) R) : ACalls Tryd.prog 4 [(.agg c0), turns1, more2] h R := xfun_ends Echainmanlaw38_ConfigBack_ok tmix (i := 4) (by rfl) (by kernel_rfl) (by kernel_rfl) hx hR
theorem swap_perm : ∀ (l : List Nat) (k : Nat) (h : k + 1 < l.length), ((l.set k l[k + 1]).set (k + 1) l[k]).Perm l
  | [], k, h => by simp at h
  | [a], k, h => by simp at h
  | a :: b :: r, 0, h => .swap a b r
  | a :: b :: r, k + 1, h => by
    have := swap_perm (b :: r) k (by simpa using h)
    simpa using this
theorem strVs_get {l : List ByteArray} {i : Nat} {s : ByteArray} (h : l[i]? = some s) : (strVs l)[i]? = some (.lit (.string s)) := by
  unfold strVs; rw [List.getElem?_map, h]; rfl
theorem strVs_set {l : List ByteArray} {i : Nat} {s : ByteArray} : (strVs l).set i (.lit (.string s)) = strVs (l.set i s) := by
  unfold strVs; rw [List.map_set]
def linesP (c : Cf) (p : List Nat) : List ByteArray := p.map (lineB c)
theorem end_run {c : Cf} (hm : mayB c = true) {l : AVal} {h : AHeap} {c3 : Nat} {p : List Nat} {its : List (ByteArray ⊕ Nat)} (Hc : cellsAt h c3 = some c.v) (O : Own 1 h l 9 (strVs (linesP c p))) (hp : p.Perm (List.range 9)) (hik : iks its = p)
    (hj : ∀ s, .inl s ∈ its → countsB s = false ∧ (10 : UInt8) ∉ toL s) (hz : (joinB (its.map (itxt c))).size ≤ 450) : Tru (S_chainmanlaw38_ConfigBack_10 c3 l (joinB (its.map (itxt c))) h) := by
  have hnd : (iks its).Nodup := by rw [hik]; exact hp.nodup_iff.2 List.nodup_range
  have hall : ∀ k, k ∈ iks its ↔ k < 9 := fun k => by rw [hik, hp.mem_iff, List.mem_range]
  obtain ⟨b1, b2⟩ := back hm hj hnd hall
  have hpl : p.length = 9 := by rw [hp.length_eq]; rfl
  have hk0 : p[0]'(by omega) < 9 := by rw [← List.mem_range, ← hp.mem_iff]; exact List.getElem_mem _
  have zl := line_size hm hk0
  obtain ⟨n, b2⟩ := b2 _ hk0 (by rw [bs_app]; omega)
  have b1 := b1 (by omega)
  rw [S_chainmanlaw38_ConfigBack_10_eq, b1]
  have hcl : (intVs c.l).length = 9 := rfl
  show Tru ((stn 9 (psh h (.cells (intVs zer9))) (.ptr h.length 0) (intVs c.l)).bind _)
  obtain ⟨a1, a2⟩ := st9 (vs := intVs c.l) (cellsAt_new h (intVs zer9)) rfl hcl (ones _)
  rw [a1, Option.bind_some]
  have hlt := cellsAt_lt Hc
  have H1 : cellsAt ((psh h (.cells (intVs zer9))).set h.length (.cells (intVs c.l))) c3 = some c.v := by rw [cellsAt_ne (by omega)]; exact cellsAt_psh _ Hc
  have A1 : cellsAt ((psh h (.cells (intVs zer9))).set h.length (.cells (intVs c.l))) h.length = some (intVs c.l) := cellsAt_set (cellsAt_new h _)
  have O1 : Own 1 ((psh h (.cells (intVs zer9))).set h.length (.cells (intVs c.l))) l 9 (strVs (linesP c p)) := O.keep fun b hb => by
    have := hb.own O
    rw [List.getElem?_set_ne (by omega)]
    exact List.getElem?_append_left this
  have hlg : ((psh h (.cells (intVs zer9))).set h.length (.cells (intVs c.l))).length = h.length + 1 := by rw [List.length_set, psh_length]
  generalize (psh h (AObj.cells (intVs zer9))).set h.length (AObj.cells (intVs c.l)) = g at H1 A1 O1 hlg ⊢
  obtain ⟨q, q1, _, _, q2⟩ := O1.sl.idx (i := 0) (by omega)
  have q1 : idxP 1 l 0 = some q := q1
  have g0 : (strVs (linesP c p))[0 * 1]? = some (.lit (.string (lineB c (p[0]'(by omega))))) := strVs_get (by
    show (p.map (lineB c))[0]? = _
    rw [List.getElem?_map, List.getElem?_eq_getElem (by omega)]; rfl)
  rw [q1, Option.bind_some, q2 (by omega), g0, Option.bind_some]
  show Tru ((req ((joinB (its.map (itxt c))).size + (lineB c (p[0]'(by omega))).size ≤ 9223372036854775807)).bind _)
  rw [req_true (by omega), Option.bind_some, b2]
  show Tru ((stn 9 (psh g (.cells (intVs zer9))) (.ptr g.length 0) (intVs zer9)).bind _)
  obtain ⟨d1, d2⟩ := st9 (vs := intVs zer9) (cellsAt_new g (intVs zer9)) rfl rfl (ones _)
  rw [d1, Option.bind_some]
  have H2 : cellsAt ((psh g (.cells (intVs zer9))).set g.length (.cells (intVs zer9))) c3 = some c.v := by rw [cellsAt_ne (by omega)]; exact cellsAt_psh _ H1
  have A2 : cellsAt ((psh g (.cells (intVs zer9))).set g.length (.cells (intVs zer9))) h.length = some (intVs c.l) := by rw [cellsAt_ne (by omega)]; exact cellsAt_psh _ A1
  generalize (psh g (AObj.cells (intVs zer9))).set g.length (AObj.cells (intVs zer9)) = r at H2 A2 ⊢
  rw [ldn_of (n := 9) (off := 0) A2 (Nat.le_refl _), show ((intVs c.l).drop 0).take 9 = intVs c.l from rfl, Option.bind_some, ldn_of (n := 9) (off := 0) H2 (Nat.le_refl _), show (c.v.drop 0).take 9 = intVs c.l from rfl, Option.bind_some, leaf9, Option.bind_some, cond_true]
  show Tru (S_chainmanlaw38_ConfigBack_13 0 8 true r)
  rw [S_chainmanlaw38_ConfigBack_13_eq, cond_true]
  show Tru (S_chainmanlaw38_ConfigBack_14 8 true r)
  rw [S_chainmanlaw38_ConfigBack_14_eq, cond_true]
  show Tru (S_chainmanlaw38_ConfigBack_15 true r)
  rw [S_chainmanlaw38_ConfigBack_15_eq, cond_true, S_chainmanlaw38_ConfigBack_16_eq]
  exact Tru.here
theorem join_app (a b : List ByteArray) : joinB (a ++ b) = b.foldl (fun s x => (s ++ x) ++ (⟨#[10]⟩ : ByteArray)) (joinB a) := by
  unfold joinB; rw [List.foldl_append]
theorem iks_app (a b : List (ByteArray ⊕ Nat)) : iks (a ++ b) = iks a ++ iks b := by unfold iks; rw [List.filterMap_append]
section
variable {c : Cf} {more l : AVal} {h : AHeap} {c3 : Nat} {p : List Nat} {ms : List ByteArray}
theorem b8_loop {s : ByteArray} {i : Nat} (hi : i < ms.length) (hs : ms[i]? = some s) (hsz : s.size ≤ 20) (Sm : Sl 1 h more ms.length (strVs ms)) {t : ByteArray} (k : (10 : UInt8) ∉ toL s → Tru (S_chainmanlaw38_ConfigBack_11 more c3 l t (i : Int) h)) : ∀ (m j : Nat), s.size - j = m → j ≤ s.size → (10 : UInt8) ∉ (toL s).take j → Tru (S_chainmanlaw38_ConfigBack_8 more c3 l t (i : Int) (j : Int) h) := by
  obtain ⟨q, q1, _, _, q2⟩ := Sm.idx hi
  have q2 : ld1 h q = some (.lit (.string s)) := (q2 (by omega)).trans (by rw [Nat.mul_one]; exact strVs_get hs)
  intro m
  induction m with
  | zero =>
    intro j hm hj hno
    rw [S_chainmanlaw38_ConfigBack_8_eq, q1, Option.bind_some, q2, Option.bind_some]
    show Tru (bif decide ((j : Int) < (s.size : Int)) then _ else S_chainmanlaw38_ConfigBack_11 more c3 l t (i : Int) h)
    rw [decide_eq_false (by omega), cond_false]
    refine k ?_
    rwa [List.take_of_length_le (by rw [toL_len]; omega)] at hno
  | succ m ih =>
    intro j hm hj hno
    have hjs : j < s.size := by omega
    have hnext : IntKind.wrap .i64 ((j : Int) + 1) = ((j + 1 : Nat) : Int) := by rw [wrap_i64 (by omega) (by omega)]; omega
    have hat : strAt s (j : Int) = some (s[j].toNat : Int) := by
      unfold strAt
      rw [req_true (by omega), Option.bind_some, Int.toNat_natCast, byte_get hjs]
    rw [S_chainmanlaw38_ConfigBack_8_eq, q1, Option.bind_some, q2, Option.bind_some, show asS (AVal.lit (.string s)) = some s from rfl, Option.bind_some, decide_eq_true (by omega), cond_true, Option.bind_some, q2, Option.bind_some, show asS (AVal.lit (.string s)) = some s from rfl, Option.bind_some, hat, Option.bind_some]
    by_cases hc : s[j] = 10
    · rw [decide_eq_true (by rw [hc]; rfl), cond_true]; exact Tru.here
    · rw [decide_eq_false (fun e => hc (UInt8.toNat_inj.1 (by simp; omega))), cond_false, hnext]
      refine ih (j + 1) (by omega) (by omega) ?_
      have hl : j < (toL s).length := by rw [toL_len]; exact hjs
      rw [← List.take_append_getElem hl, List.mem_append, List.mem_singleton]
      rintro (h1 | h1)
      · exact hno h1
      · exact hc h1.symm
theorem b7_loop (hm : mayB c = true) (Hc : cellsAt h c3 = some c.v) (O : Own 1 h l 9 (strVs (linesP c p))) (hp : p.Perm (List.range 9)) (Sm : Sl 1 h more ms.length (strVs ms)) : ∀ (m i : Nat) (its : List (ByteArray ⊕ Nat)), i + m = 9 → iks its = p.take i → (∀ s, .inl s ∈ its → countsB s = false ∧ (10 : UInt8) ∉ toL s) → (joinB (its.map (itxt c))).size ≤ 50 * i →
    Tru (S_chainmanlaw38_ConfigBack_7 more c3 l (joinB (its.map (itxt c))) (i : Int) h)
  | 0, i, its, hi, hik, hj, hz => by
    obtain rfl : i = 9 := by omega
    have hpl : p.length = 9 := by rw [hp.length_eq]; rfl
    rw [S_chainmanlaw38_ConfigBack_7_eq, O.sl.len, Option.bind_some, decide_eq_false (by omega), cond_false]
    exact end_run hm Hc O hp (by rw [hik, List.take_of_length_le (by omega)]) hj (by omega)
  | m + 1, i, its, hi, hik, hj, hz => by
    have hi9 : i < 9 := by omega
    have hpl : p.length = 9 := by rw [hp.length_eq]; rfl
    have hip : i < p.length := by omega
    have hnext : IntKind.wrap .i64 ((i : Int) + 1) = ((i + 1 : Nat) : Int) := by rw [wrap_i64 (by omega) (by omega)]; omega
    have hk9 : p[i] < 9 := by rw [← List.mem_range, ← hp.mem_iff]; exact List.getElem_mem _
    have zl := line_size hm hk9
    have z1 : (⟨#[10]⟩ : ByteArray).size = 1 := rfl
    have z2 : (⟨#[35]⟩ : ByteArray).size = 1 := rfl
    have z3 : (⟨#[10, 10]⟩ : ByteArray).size = 2 := rfl
    obtain ⟨q, q1, _, _, q2⟩ := O.sl.idx hi9
    have q2 : ld1 h q = some (.lit (.string (lineB c p[i]))) := (q2 (by omega)).trans (by
      rw [Nat.mul_one]
      exact strVs_get (by show (p.map (lineB c))[i]? = _; rw [List.getElem?_map, List.getElem?_eq_getElem hip]; rfl))
    have b9 : ∀ (its' : List (ByteArray ⊕ Nat)), iks its' = p.take i → (∀ s, .inl s ∈ its' → countsB s = false ∧ (10 : UInt8) ∉ toL s) → (joinB (its'.map (itxt c))).size ≤ 50 * i + 23 → Tru (S_chainmanlaw38_ConfigBack_9 more c3 l (joinB (its'.map (itxt c))) (i : Int) h) := fun its' e1 e2 e3 => by
      rw [S_chainmanlaw38_ConfigBack_9_eq, q1, Option.bind_some, q2, Option.bind_some]
      show Tru ((req ((joinB (its'.map (itxt c))).size + (lineB c p[i]).size ≤ 9223372036854775807)).bind _)
      rw [req_true (by omega), Option.bind_some, req_true (by rw [bs_app]; omega), Option.bind_some, S_chainmanlaw38_ConfigBack_12_eq, hnext]
      have ej : (joinB (its'.map (itxt c)) ++ lineB c p[i]) ++ (⟨#[10]⟩ : ByteArray) = joinB ((its' ++ [Sum.inr p[i]]).map (itxt c)) := by
        rw [List.map_append, join_app]; rfl
      have ez := congrArg ByteArray.size ej
      rw [bs_app, bs_app] at ez
      rw [ej]
      refine b7_loop hm Hc O hp Sm m (i + 1) (its' ++ [Sum.inr p[i]]) (by omega) ?_ (fun s hs => ?_) (by omega)
      · rw [iks_app, e1, ← List.take_append_getElem hip]; rfl
      · rcases List.mem_append.1 hs with hs | hs
        · exact e2 s hs
        · simp at hs
    rw [S_chainmanlaw38_ConfigBack_7_eq, O.sl.len, Option.bind_some, decide_eq_true (by omega), cond_true, Sm.len, Option.bind_some]
    by_cases him : i < ms.length
    · obtain ⟨r, r1, _, _, r2⟩ := Sm.idx him
      have hs : ms[i]? = some ms[i] := List.getElem?_eq_getElem him
      have r2 : ld1 h r = some (.lit (.string ms[i])) := (r2 (by omega)).trans (by rw [Nat.mul_one]; exact strVs_get hs)
      rw [decide_eq_true (by omega), cond_true, r1, Option.bind_some, r2, Option.bind_some]
      show Tru (bif decide ((ms[i].size : Int) > 20) then some (AVal.lit (.bool true), h) else S_chainmanlaw38_ConfigBack_8 more c3 l (joinB (its.map (itxt c))) (i : Int) ((0 : Nat) : Int) h)
      by_cases h20 : (ms[i].size : Int) > 20
      · rw [decide_eq_true h20, cond_true]; exact Tru.here
      · rw [decide_eq_false h20, cond_false]
        refine b8_loop him hs (by omega) Sm (fun hno => ?_) _ 0 rfl (by omega) (by simp)
        rw [S_chainmanlaw38_ConfigBack_11_eq, req_true (by omega), Option.bind_some, r1, Option.bind_some, r2, Option.bind_some]
        show Tru ((req ((joinB (its.map (itxt c)) ++ (⟨#[35]⟩ : ByteArray)).size + ms[i].size ≤ 9223372036854775807)).bind _)
        rw [req_true (by rw [bs_app]; omega), Option.bind_some, req_true (by rw [bs_app, bs_app]; omega), Option.bind_some]
        have ej : ((joinB (its.map (itxt c)) ++ (⟨#[35]⟩ : ByteArray)) ++ ms[i]) ++ (⟨#[10, 10]⟩ : ByteArray) = joinB ((its ++ [Sum.inl ((⟨#[35]⟩ : ByteArray) ++ ms[i]), Sum.inl ⟨#[]⟩]).map (itxt c)) := by
          rw [List.map_append, join_app]
          refine toL_inj ?_
          show _ = toL ((((joinB (its.map (itxt c)) ++ ((⟨#[35]⟩ : ByteArray) ++ ms[i])) ++ (⟨#[10]⟩ : ByteArray)) ++ (⟨#[]⟩ : ByteArray)) ++ (⟨#[10]⟩ : ByteArray))
          simp only [toL_app]
          show ((toL (joinB (its.map (itxt c))) ++ [35]) ++ toL ms[i]) ++ [10, 10] = (((toL (joinB (its.map (itxt c))) ++ ([35] ++ toL ms[i])) ++ [10]) ++ []) ++ [10]
          simp
        have ez := congrArg ByteArray.size ej
        rw [bs_app, bs_app, bs_app] at ez
        rw [ej]
        refine b9 _ ?_ (fun s hs => ?_) (by omega)
        · rw [iks_app, hik]; exact List.append_nil _
        · rcases List.mem_append.1 hs with hs | hs
          · exact hj s hs
          · simp only [List.mem_cons, Sum.inl.injEq, List.not_mem_nil, or_false] at hs
            rcases hs with rfl | rfl
            · constructor
              · rw [counts_toL, toL_app]; rfl
              · rw [toL_app, List.mem_append]
                rintro (h1 | h1)
                · cases h1 with
                  | tail _ h1 => cases h1
                · exact hno h1
            · exact ⟨rfl, by simp [toL]⟩
    · rw [decide_eq_false (by omega), cond_false]
      exact b9 its hik hj (by omega)
end
theorem b5_loop {c : Cf} (hm : mayB c = true) {turns more l : AVal} {c3 : Nat} {ts : List Int} {ms : List ByteArray} (hts : ∀ x ∈ ts, 0 ≤ x ∧ x ≤ 255) (hmx : ts.length ≤ maxLen) (St : Sl 1 [] turns ts.length (ts.map fun x => .lit (.int .u8 x))) (Sm : Sl 1 [] more ms.length (strVs ms)) (hA : ¬ At l c3) :
    ∀ (m i : Nat) (h : AHeap) (p : List Nat), i + m = ts.length → cellsAt h c3 = some c.v → Own 1 h l 9 (strVs (linesP c p)) → p.Perm (List.range 9) → Tru (S_chainmanlaw38_ConfigBack_5 turns more c3 l (i : Int) h)
  | 0, i, h, p, hi, Hc, O, hp => by
    rw [S_chainmanlaw38_ConfigBack_5_eq, St.len, Option.bind_some, decide_eq_false (by omega), cond_false, S_chainmanlaw38_ConfigBack_6_eq]
    exact b7_loop hm Hc O hp (Sm.everywhere h) 9 0 [] rfl rfl (fun s hs => by cases hs) (Nat.le_refl _)
  | m + 1, i, h, p, hi, Hc, O, hp => by
    have hit : i < ts.length := by omega
    unfold maxLen at hmx
    have hnext : IntKind.wrap .i64 ((i : Int) + 1) = ((i + 1 : Nat) : Int) := by rw [wrap_i64 (by omega) (by omega)]; omega
    have hpl : p.length = 9 := by rw [hp.length_eq]; rfl
    obtain ⟨x0, x1⟩ := hts ts[i] (List.getElem_mem _)
    obtain ⟨q, q1, _, _, q2⟩ := (St.everywhere h).idx hit
    have q2 : ld1 h q = some (.lit (.int .u8 ts[i])) := (q2 (by omega)).trans (by rw [Nat.mul_one, List.getElem?_map, List.getElem?_eq_getElem hit]; rfl)
    obtain ⟨u, hu⟩ := Int.eq_ofNat_of_zero_le x0
    have hk : (IntKind.wrap .i64 ts[i]).tmod 8 = ((u % 8 : Nat) : Int) := by
      rw [wrap_i64 (by omega) (by omega), hu, Int.tmod_eq_emod_of_nonneg (by omega)]; omega
    have hk1 : IntKind.wrap .i64 (((u % 8 : Nat) : Int) + 1) = ((u % 8 + 1 : Nat) : Int) := by rw [wrap_i64 (by omega) (by omega)]; omega
    have k8 : u % 8 < 8 := Nat.mod_lt _ (by omega)
    generalize hkk : u % 8 = k at hk hk1 k8
    have hk0p : k < p.length := by omega
    have hk1p : k + 1 < p.length := by omega
    obtain ⟨a, a1, _, _, a2⟩ := O.sl.idx (i := k) (by omega)
    have a2 : ld1 h a = some (.lit (.string (lineB c p[k]))) := (a2 (by omega)).trans (by
      rw [Nat.mul_one]; exact strVs_get (by show (p.map (lineB c))[k]? = _; rw [List.getElem?_map, List.getElem?_eq_getElem hk0p]; rfl))
    obtain ⟨b, b1, _, _, b2⟩ := O.sl.idx (i := k + 1) (by omega)
    have b2 : ld1 h b = some (.lit (.string (lineB c p[k + 1]))) := (b2 (by omega)).trans (by
      rw [Nat.mul_one]; exact strVs_get (by show (p.map (lineB c))[k + 1]? = _; rw [List.getElem?_map, List.getElem?_eq_getElem hk1p]; rfl))
    rw [S_chainmanlaw38_ConfigBack_5_eq, St.len, Option.bind_some, decide_eq_true (by omega), cond_true, q1, Option.bind_some, q2, Option.bind_some]
    rw [show asI .u8 (.lit (.int .u8 ts[i])) = some ts[i] from rfl, Option.bind_some, hk, hk1, a1, Option.bind_some, a2, Option.bind_some]
    show Tru ((idxP 1 l ((k + 1 : Nat) : Int)).bind _)
    rw [b1, Option.bind_some, b2, Option.bind_some]
    obtain ⟨p1, d1, at1, i1, s1, O1⟩ := O.set1 (i := k) (x := .lit (.string (lineB c p[k + 1]))) (by omega) rfl
    obtain ⟨p2, d2, at2, i2, s2, O2⟩ := O1.set1 (i := k + 1) (x := .lit (.string (lineB c p[k]))) (by omega) rfl
    obtain rfl : a = p1 := Option.some.inj (a1.symm.trans i1)
    obtain rfl : b = p2 := Option.some.inj (b1.symm.trans i2)
    rw [show asS (AVal.lit (.string (lineB c p[k + 1]))) = some (lineB c p[k + 1]) from rfl, Option.bind_some, Option.bind_some, s1, Option.bind_some, Option.bind_some, s2, Option.bind_some, hnext]
    have e : ((linesP c p).set k (lineB c p[k + 1])).set (k + 1) (lineB c p[k]) = linesP c ((p.set k p[k + 1]).set (k + 1) p[k]) := by
      unfold linesP; rw [List.map_set, List.map_set]
    have h1 : c3 ≠ d1 := fun e => hA (e ▸ at1)
    have h2 : c3 ≠ d2 := fun e => hA (e ▸ at2)
    refine b5_loop hm hts (by unfold maxLen; omega) St Sm hA m (i + 1) _ ((p.set k p[k + 1]).set (k + 1) p[k]) (by omega) ?_ ?_ ((swap_perm p k hk1p).trans hp)
    · rw [cellsAt_ne h2.symm, cellsAt_ne h1.symm]; exact Hc
    · have e2 : ((strVs (linesP c p)).set k (.lit (.string (lineB c p[k + 1])))).set (k + 1) (.lit (.string (lineB c p[k]))) = strVs (linesP c ((p.set k p[k + 1]).set (k + 1) p[k])) := by rw [strVs_set, strVs_set, e]
      rw [← e2]; exact O2
theorem configBack_run (c : Cf) {turns more : AVal} {ts : List Int} {ms : List ByteArray} (hts : ∀ x ∈ ts, 0 ≤ x ∧ x ≤ 255) (hmx : ts.length ≤ maxLen) (St : Sl 1 [] turns ts.length (ts.map fun x => .lit (.int .u8 x))) (Sm : Sl 1 [] more ms.length (strVs ms)) (h : AHeap) : Tru (S_chainmanlaw38_ConfigBack c.v turns more h) := by
  have H : cellsAt (psh h (.cells c.v)) h.length = some c.v := cellsAt_new h _
  have yes : Tru (S_chainmanlaw38_ConfigBack_0 turns more h.length true (psh h (.cells c.v))) := by
    rw [S_chainmanlaw38_ConfigBack_0_eq, cond_true]; exact Tru.here
  have no : Tru (S_chainmanlaw38_ConfigBack_0 turns more h.length false (psh h (.cells c.v))) := by
    have hlt := cellsAt_lt H
    have hhl : h.length < (psh h (AObj.cells c.v)).length := by rw [psh_length]; omega
    generalize psh h (AObj.cells c.v) = g at H hlt ⊢
    have hld : ∀ g, cellsAt g h.length = some c.v → ldn 9 g (.ptr h.length 0) = some c.v := fun g hg => by
      rw [ldn_of (n := 9) (off := 0) hg (by simp [Cf.v, intVs, Cf.l])]; rfl
    rw [S_chainmanlaw38_ConfigBack_0_eq, cond_false, hld _ H, Option.bind_some, cfOf_v, Option.bind_some]
    cases hm : mayB c with
    | false =>
      rw [show (!false) = true from rfl, cond_true, if_neg (by decide), decide_eq_true rfl, cond_true, Option.bind_some, cfOf_v, Option.bind_some, hm]
      show Tru (S_chainmanlaw38_ConfigBack_1 true g)
      rw [S_chainmanlaw38_ConfigBack_1_eq, cond_true, S_chainmanlaw38_ConfigBack_3_eq]; exact Tru.here
    | true =>
      rw [if_pos rfl, back_lines hm]
      show Tru ((stn 9 (psh g (.cells (intVs zer9))) (.ptr g.length 0) (intVs c.l)).bind _)
      obtain ⟨a1, a2⟩ := st9 (vs := intVs c.l) (cellsAt_new g (intVs zer9)) rfl rfl (ones _)
      rw [a1, Option.bind_some, a2, Option.bind_some]
      have H1 : cellsAt ((psh g (.cells (intVs zer9))).set g.length (.cells (intVs c.l))) h.length = some c.v := by rw [cellsAt_ne (by omega)]; exact cellsAt_psh _ H
      generalize (psh g (AObj.cells (intVs zer9))).set g.length (AObj.cells (intVs c.l)) = k at H1 ⊢
      rw [hld _ H1, Option.bind_some, show c.v = intVs c.l from rfl, leaf9, Option.bind_some]
      show Tru (S_chainmanlaw38_ConfigBack_2 turns more h.length 0 false k)
      rw [S_chainmanlaw38_ConfigBack_2_eq, cond_false]
      show Tru (S_chainmanlaw38_ConfigBack_4 turns more h.length false k)
      rw [S_chainmanlaw38_ConfigBack_4_eq, cond_false, hld _ H1, Option.bind_some]
      obtain ⟨l, r, e1, O, kp, hA⟩ := refLines_run hm k
      rw [e1, Option.bind_some]
      have hlk := cellsAt_lt H1
      exact b5_loop hm hts hmx St Sm (fun ha => by have := hA _ ha; omega) ts.length 0 r (List.range 9) (by omega) (kp.cells hlk (by simp) H1) O (.refl _)
  rw [S_chainmanlaw38_ConfigBack_eq, St.len, Option.bind_some]
  cases decide ((ts.length : Int) > 10) with
  | true => exact yes
  | false =>
    rw [cond_false, Sm.len, Option.bind_some]
    cases decide ((ms.length : Int) > 10) with
    | true => exact yes
    | false => exact no
theorem fits_bytes {H : Type} {d : DataW H} (hd : Fits (.slice (.int .u8)) d) (h : AHeap) : ∃ l : List Int, Sl 1 h ((absD d).headD .any) l.length (l.map fun x => .lit (.int .u8 x)) ∧ (∀ x ∈ l, 0 ≤ x ∧ x ≤ 255) ∧ l.length ≤ maxLen := by
  obtain ⟨l, h1, h2, h3⟩ := slice_fits (α := Int) (k := 1) (cells := fun s => [.lit (.int .u8 s)]) (Q := fun x => 0 ≤ x ∧ x ≤ 255) (fun _ => rfl) (fun x hx => by
    simp only [Fits] at hx
    obtain ⟨l, rfl, l1, l2⟩ := hx
    exact ⟨l, rfl, l1, l2⟩) hd h
  refine ⟨l, ?_, h2, h3⟩
  have : (l.flatMap fun s => [AVal.lit (.int .u8 s)]) = l.map fun s => .lit (.int .u8 s) := by simp [List.map_eq_flatMap]
  rwa [this] at h1
theorem configBack {H : Type} (c : Cf) {d1 d2 : DataW H} (f1 : Fits (.slice (.int .u8)) d1) (f2 : Fits (.slice .str) d2) : ACalls Tryd.prog 4 [.agg c.v, (absD d1).headD .any, (absD d2).headD .any] [] fun e g => e = .ret (.lit (.bool true)) ∧ True := by
  obtain ⟨ts, St, hts, hmx⟩ := fits_bytes f1 []
  obtain ⟨ms, Sm⟩ := fits_strs f2 []
  obtain ⟨g, e⟩ := configBack_run c hts hmx St Sm []
  exact (S_chainmanlaw38_ConfigBack_ends e selfR).mono fun e g h => ⟨h.1, trivial⟩
end Law2
end Law
end Go.Proofs.YtglmofbcooefkaaDoor.AL
