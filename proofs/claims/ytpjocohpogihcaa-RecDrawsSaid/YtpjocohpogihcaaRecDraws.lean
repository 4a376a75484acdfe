/- Draws, written, read, and in order. -/
import Derived.Test.YtpjocohpogihcaaRecSpec
import Derived.Test.YtpjocohpogihcaaRecPuts
import Derived.Test.YtpjocohpogihcaaRecBack
import Derived.Test.YtpjocohpogihcaaX7
import Derived.Test.YtpjocohpogihcaaAL18
namespace Go.Proofs.Ytpjocohpogihcaa.AL
set_option linter.unusedVariables false
set_option linter.unusedSimpArgs false
set_option maxRecDepth 100000
open Go
open Go.Proofs.Try
def as4 (xs : List AVal) : Option (Int × Int × Int × Int) := match xs with
  | [.lit (.int .i64 x), .lit (.int .i64 y), .lit (.int .i64 z), .lit (.int .i64 t)] => some (x, y, z, t)
  | _ => none
theorem as4_some {xs : List AVal} {r : Int × Int × Int × Int} (h : as4 xs = some r) : xs = [.lit (.int .i64 r.1), .lit (.int .i64 r.2.1), .lit (.int .i64 r.2.2.1), .lit (.int .i64 r.2.2.2)] := by
  unfold as4 at h; split at h <;> cases h; rfl
noncomputable def w_rec_PutDraw : XC := .p fun R args K => match args with
  | [.agg a] => ((as4 a).bind fun r => (req (r.1 < 9223372036854775808 ∧ r.2.1 < 9223372036854775808 ∧ r.2.2.1 < 9223372036854775808 ∧ r.2.2.2 < 9223372036854775808)).bind fun _ => some r).bind fun r => K (.tup [(.lit (.string ((drawP r.1 r.2.1 r.2.2.1 r.2.2.2).1))), (.lit (.bool ((drawP r.1 r.2.1 r.2.2.1 r.2.2.2).2)))])
  | _ => none
theorem w_rec_PutDraw_ok : XC.Nat w_rec_PutDraw ∧ XC.Ok Try.prog 26 w_rec_PutDraw := by
  refine ⟨fun R args K => ?_, tc26, fun args h v hx => ?_⟩
  · dsimp only; split <;> simp [Option.bind_assoc, mkP]
  · dsimp only at hx; split at hx
    · obtain ⟨r, hopt, hx⟩ := Option.bind_eq_some_iff.1 hx
      cases hx
      exact (by obtain ⟨r', h1, h2⟩ := Option.bind_eq_some_iff.1 hopt; obtain ⟨u, h3, h4⟩ := Option.bind_eq_some_iff.1 h2; cases h4; have e := as4_some h1; subst e; exact rec_PutDraw _ _ _ _ (req_some h3).1 (req_some h3).2.1 (req_some h3).2.2.1 (req_some h3).2.2.2 _)
    · cases hx
noncomputable def w_rec_GetDraw : XC := .p fun R args K => match args with
  | [.lit (.string s)] => (req (s.size ≤ 140737488351232)).bind fun _ => K (.tup [(.agg ([(.lit (.int .i64 ((getDraw s).1))), (.lit (.int .i64 ((getDraw s).2.1))), (.lit (.int .i64 ((getDraw s).2.2.1))), (.lit (.int .i64 ((getDraw s).2.2.2.1)))])), (.lit (.bool ((getDraw s).2.2.2.2)))])
  | _ => none
theorem w_rec_GetDraw_ok : XC.Nat w_rec_GetDraw ∧ XC.Ok Try.prog 41 w_rec_GetDraw := by
  refine ⟨fun R args K => ?_, tc41, fun args h v hx => ?_⟩
  · dsimp only; split <;> simp [Option.bind_assoc, mkP]
  · dsimp only at hx; split at hx
    · obtain ⟨_, hpre, hx⟩ := Option.bind_eq_some_iff.1 hx
      have hpre := req_some hpre
      cases hx
      exact rec_GetDraw _ hpre _
    · cases hx
noncomputable def w_chainmanlaw14_awake : XC := .p fun R args K => match args with
  | [] => K (.lit (.bool true))
  | _ => none
theorem w_chainmanlaw14_awake_ok : XC.Nat w_chainmanlaw14_awake ∧ XC.Ok Try.prog 28 w_chainmanlaw14_awake := by
  refine ⟨fun R args K => ?_, tc28, fun args h v hx => ?_⟩
  · dsimp only; split <;> simp [Option.bind_assoc, mkP]
  · dsimp only at hx; split at hx
    · cases hx
      exact law14_awake _
    · cases hx
-- chainman/chainmanlaw14.RecDraws: function 7
noncomputable def Echainmanlaw14_RecDraws : XE := { T := tabOf [(3, r3), (4, r4), (9, r9), (37, r37), (43, r43), (71, r71)], C := [(26, w_rec_PutDraw), (28, w_chainmanlaw14_awake), (41, w_rec_GetDraw)], D := [(1, ⟨[], [0, 1, 2, 3, 4, 5, 6, 7, 8, 9, 10, 11, 12, 13, 14, 15, 16, 17, 18, 19, 20], [21], [18, 19], [(20, 18)]⟩), (7, ⟨[], [0, 1, 2, 3, 4, 5, 6, 7, 8, 9, 10, 11, 12, 13, 14, 15, 16, 17, 18, 19, 20], [21], [18, 19], [(20, 18)]⟩), (12, ⟨[], [0, 1, 2, 3, 4, 5, 6], [], [], []⟩), (13, ⟨[], [0, 1, 2, 3, 4, 5, 6, 7], [], [], []⟩)], Ms := [(14, [5, 7, 9, 11, 12, 15])], Ml := [(10, [5, 7, 9, 11, 12, 13, 14, 15, 16])], Mo := [(4006, [2, 3, 5, 7, 9, 50]), (14006, [7, 9, 15, 98]), (14011, [7, 9, 15, 103]), (14018, [110]), (14021, [113])], n := 114 }
theorem Echainmanlaw14_RecDraws_ok : Echainmanlaw14_RecDraws.Ok Try.prog := ⟨tabOf_ok (⟨r3_ok, ⟨r4_ok, ⟨r9_ok, ⟨r37_ok, ⟨r43_ok, ⟨r71_ok, trivial⟩⟩⟩⟩⟩⟩), ⟨w_rec_PutDraw_ok, ⟨w_chainmanlaw14_awake_ok, ⟨w_rec_GetDraw_ok, trivial⟩⟩⟩⟩
noncomputable def c7 : Code := bodyOf f7
noncomputable def S_chainmanlaw14_RecDraws (x0 : List AVal) (y1 : List AVal) (h : AHeap) : Option (AVal × AHeap) := xfun Echainmanlaw14_RecDraws f7 [(.agg x0), (.agg y1)] h
noncomputable def S_chainmanlaw14_RecDraws_0 (x2 : Nat) (y3 : Nat) (a5 : Nat) (s7 : ByteArray) (t9 : ByteArray) (t50 : Bool) (h : AHeap) : Option (AVal × AHeap) := jn (xops Echainmanlaw14_RecDraws 4 (rops (ca (ca (cb (cb (cb (cb c7))))))) ((rops (ca (ca (cb (cb (cb (cb c7))))))).toList.drop 6) 6 [(2, (.ptr x2 0)), (3, (.ptr y3 0)), (5, (.ptr a5 0)), (7, (.lit (.string s7))), (9, (.lit (.string t9))), (50, (.lit (.bool t50)))] h (kN (kSeq Echainmanlaw14_RecDraws (cb (ca (cb (cb (cb (cb c7)))))) (kSeq Echainmanlaw14_RecDraws (cb (cb (cb (cb (cb c7))))) (xend Echainmanlaw14_RecDraws f7)))))
noncomputable def S_chainmanlaw14_RecDraws_1 (a5 : Nat) (s7 : ByteArray) (t9 : ByteArray) (z11 : Nat) (is12 : Bool) (k13 : Nat) (l14 : Nat) (less15 : Bool) (i16 : Int) (h : AHeap) : Option (AVal × AHeap) := xexec Echainmanlaw14_RecDraws (.loop (ca (ca (cb (ca (cb (cb (cb (cb (cb (cb (cb (cb c7))))))))))))) (AVal × AHeap) [(5, (.ptr a5 0)), (7, (.lit (.string s7))), (9, (.lit (.string t9))), (11, (.ptr z11 0)), (12, (.lit (.bool is12))), (13, (.ptr k13 0)), (14, (.ptr l14 0)), (15, (.lit (.bool less15))), (16, (.lit (.int .i64 i16)))] h (kBlk 0 (kSeq Echainmanlaw14_RecDraws (cb (cb (cb (cb (cb (cb (cb (cb (cb c7))))))))) (xend Echainmanlaw14_RecDraws f7)))
noncomputable def S_chainmanlaw14_RecDraws_2 (a5 : Nat) (s7 : ByteArray) (t9 : ByteArray) (z11 : Nat) (is12 : Bool) (less15 : Bool) (h : AHeap) : Option (AVal × AHeap) := jn (xexec Echainmanlaw14_RecDraws (cb (cb (cb (cb (cb (cb (cb (cb (cb c7))))))))) (AVal × AHeap) [(5, (.ptr a5 0)), (7, (.lit (.string s7))), (9, (.lit (.string t9))), (11, (.ptr z11 0)), (12, (.lit (.bool is12))), (15, (.lit (.bool less15)))] h (xend Echainmanlaw14_RecDraws f7))
noncomputable def S_chainmanlaw14_RecDraws_3 (s7 : ByteArray) (t9 : ByteArray) (less15 : Bool) (t98 : Bool) (h : AHeap) : Option (AVal × AHeap) := jn (xops Echainmanlaw14_RecDraws 14 (rops (ca (cb (cb (cb (cb (cb (cb (cb (cb (cb c7))))))))))) ((rops (ca (cb (cb (cb (cb (cb (cb (cb (cb (cb c7))))))))))).toList.drop 6) 6 [(7, (.lit (.string s7))), (9, (.lit (.string t9))), (15, (.lit (.bool less15))), (98, (.lit (.bool t98)))] h (kN (kSeq Echainmanlaw14_RecDraws (cb (cb (cb (cb (cb (cb (cb (cb (cb (cb c7)))))))))) (xend Echainmanlaw14_RecDraws f7))))
noncomputable def S_chainmanlaw14_RecDraws_4 (s7 : ByteArray) (t9 : ByteArray) (less15 : Bool) (t103 : Bool) (h : AHeap) : Option (AVal × AHeap) := jn (xops Echainmanlaw14_RecDraws 14 (rops (ca (cb (cb (cb (cb (cb (cb (cb (cb (cb c7))))))))))) ((rops (ca (cb (cb (cb (cb (cb (cb (cb (cb (cb c7))))))))))).toList.drop 11) 11 [(7, (.lit (.string s7))), (9, (.lit (.string t9))), (15, (.lit (.bool less15))), (103, (.lit (.bool t103)))] h (kN (kSeq Echainmanlaw14_RecDraws (cb (cb (cb (cb (cb (cb (cb (cb (cb (cb c7)))))))))) (xend Echainmanlaw14_RecDraws f7))))
noncomputable def S_chainmanlaw14_RecDraws_5 (t110 : Bool) (h : AHeap) : Option (AVal × AHeap) := jn (xops Echainmanlaw14_RecDraws 14 (rops (ca (cb (cb (cb (cb (cb (cb (cb (cb (cb c7))))))))))) ((rops (ca (cb (cb (cb (cb (cb (cb (cb (cb (cb c7))))))))))).toList.drop 18) 18 [(110, (.lit (.bool t110)))] h (kN (kSeq Echainmanlaw14_RecDraws (cb (cb (cb (cb (cb (cb (cb (cb (cb (cb c7)))))))))) (xend Echainmanlaw14_RecDraws f7))))
noncomputable def S_chainmanlaw14_RecDraws_6 (t113 : Bool) (h : AHeap) : Option (AVal × AHeap) := jn (xops Echainmanlaw14_RecDraws 14 (rops (ca (cb (cb (cb (cb (cb (cb (cb (cb (cb c7))))))))))) ((rops (ca (cb (cb (cb (cb (cb (cb (cb (cb (cb c7))))))))))).toList.drop 21) 21 [(113, (.lit (.bool t113)))] h (kN (kSeq Echainmanlaw14_RecDraws (cb (cb (cb (cb (cb (cb (cb (cb (cb (cb c7)))))))))) (xend Echainmanlaw14_RecDraws f7))))
theorem S_chainmanlaw14_RecDraws_eq (x0 : List AVal) (y1 : List AVal) (h : AHeap) : S_chainmanlaw14_RecDraws x0 y1 h =
 (ld1 ((psh ((psh h (.cells x0))) (.cells y1))) (.ptr h.length 0)).bind fun x1 =>
 (asI .i64 x1).bind fun n2 =>
 (ld1 ((psh ((psh h (.cells x0))) (.cells y1))) (.ptr h.length 1)).bind fun x3 =>
 (asI .i64 x3).bind fun n4 =>
 (ld1 ((psh ((psh h (.cells x0))) (.cells y1))) (.ptr h.length 2)).bind fun x5 =>
 (asI .i64 x5).bind fun n6 =>
 (ld1 ((psh ((psh h (.cells x0))) (.cells y1))) (.ptr h.length 3)).bind fun x7 =>
 (asI .i64 x7).bind fun n8 =>
 (ld1 ((psh ((psh h (.cells x0))) (.cells y1))) (.ptr (((psh h (.cells x0))).length) 0)).bind fun x9 =>
 (asI .i64 x9).bind fun n10 =>
 (ld1 ((psh ((psh h (.cells x0))) (.cells y1))) (.ptr (((psh h (.cells x0))).length) 1)).bind fun x11 =>
 (asI .i64 x11).bind fun n12 =>
 (ld1 ((psh ((psh h (.cells x0))) (.cells y1))) (.ptr (((psh h (.cells x0))).length) 2)).bind fun x13 =>
 (asI .i64 x13).bind fun n14 =>
 (ld1 ((psh ((psh h (.cells x0))) (.cells y1))) (.ptr (((psh h (.cells x0))).length) 3)).bind fun x15 =>
 (asI .i64 x15).bind fun n16 =>
 (stin 4 ([(.lit (.int .i64 0)), (.lit (.int .i64 0)), (.lit (.int .i64 0)), (.lit (.int .i64 0))]) ([(.lit (.int .i64 n2)), (.lit (.int .i64 n4)), (.lit (.int .i64 n6)), (.lit (.int .i64 n8))])).bind fun cs17 =>
 (stn 4 ((apd ((psh ((psh h (.cells x0))) (.cells y1))) [.cells cs17, .cells ([(.lit (.int .i64 0)), (.lit (.int .i64 0)), (.lit (.int .i64 0)), (.lit (.int .i64 0))])])) (.ptr (((psh ((psh h (.cells x0))) (.cells y1))).length + 1) 0) ([(.lit (.int .i64 n10)), (.lit (.int .i64 n12)), (.lit (.int .i64 n14)), (.lit (.int .i64 n16))])).bind fun h18 =>
 (ldn 4 h18 (.ptr (((psh ((psh h (.cells x0))) (.cells y1))).length) 0)).bind fun xs19 =>
 ((as4 xs19).bind fun r20 => (req (r20.1 < 9223372036854775808 ∧ r20.2.1 < 9223372036854775808 ∧ r20.2.2.1 < 9223372036854775808 ∧ r20.2.2.2 < 9223372036854775808)).bind fun _ => some r20).bind fun r20 =>
 (ldn 4 h18 (.ptr (((psh ((psh h (.cells x0))) (.cells y1))).length + 1) 0)).bind fun xs21 =>
 ((as4 xs21).bind fun r22 => (req (r22.1 < 9223372036854775808 ∧ r22.2.1 < 9223372036854775808 ∧ r22.2.2.1 < 9223372036854775808 ∧ r22.2.2.2 < 9223372036854775808)).bind fun _ => some r22).bind fun r22 =>
 bif (!((drawP r20.1 r20.2.1 r20.2.2.1 r20.2.2.2).2)) then (S_chainmanlaw14_RecDraws_0 h.length (((psh h (.cells x0))).length) (((psh ((psh h (.cells x0))) (.cells y1))).length) ((drawP r20.1 r20.2.1 r20.2.2.1 r20.2.2.2).1) ((drawP r22.1 r22.2.1 r22.2.2.1 r22.2.2.2).1) true h18)
 else (S_chainmanlaw14_RecDraws_0 h.length (((psh h (.cells x0))).length) (((psh ((psh h (.cells x0))) (.cells y1))).length) ((drawP r20.1 r20.2.1 r20.2.2.1 r20.2.2.2).1) ((drawP r22.1 r22.2.1 r22.2.2.1 r22.2.2.2).1) (!((drawP r22.1 r22.2.1 r22.2.2.1 r22.2.2.2).2)) h18) := by kernel_rfl
theorem S_chainmanlaw14_RecDraws_0_eq (x2 : Nat) (y3 : Nat) (a5 : Nat) (s7 : ByteArray) (t9 : ByteArray) (t50 : Bool) (h : AHeap) : S_chainmanlaw14_RecDraws_0 x2 y3 a5 s7 t9 t50 h =
 bif t50 then (some ((.lit (.bool true)), h))
 else ((req (s7.size ≤ 140737488351232)).bind fun _ =>
 (stn 4 ((psh h (.cells [(.lit (.int .i64 0)), (.lit (.int .i64 0)), (.lit (.int .i64 0)), (.lit (.int .i64 0))]))) (.ptr h.length 0) ([(.lit (.int .i64 ((getDraw s7).1))), (.lit (.int .i64 ((getDraw s7).2.1))), (.lit (.int .i64 ((getDraw s7).2.2.1))), (.lit (.int .i64 ((getDraw s7).2.2.2.1)))])).bind fun h23 =>
 (ld1 h23 (.ptr x2 0)).bind fun x24 =>
 (asI .i64 x24).bind fun n25 =>
 (ld1 h23 (.ptr x2 1)).bind fun x26 =>
 (asI .i64 x26).bind fun n27 =>
 (ld1 h23 (.ptr x2 2)).bind fun x28 =>
 (asI .i64 x28).bind fun n29 =>
 (ld1 h23 (.ptr x2 3)).bind fun x30 =>
 (asI .i64 x30).bind fun n31 =>
 (ld1 h23 (.ptr y3 0)).bind fun x32 =>
 (asI .i64 x32).bind fun n33 =>
 (ld1 h23 (.ptr y3 1)).bind fun x34 =>
 (asI .i64 x34).bind fun n35 =>
 (ld1 h23 (.ptr y3 2)).bind fun x36 =>
 (asI .i64 x36).bind fun n37 =>
 (ld1 h23 (.ptr y3 3)).bind fun x38 =>
 (asI .i64 x38).bind fun n39 =>
 (stin 4 ([(.lit (.int .i64 0)), (.lit (.int .i64 0)), (.lit (.int .i64 0)), (.lit (.int .i64 0))]) ([(.lit (.int .i64 n25)), (.lit (.int .i64 n27)), (.lit (.int .i64 n29)), (.lit (.int .i64 n31))])).bind fun cs40 =>
 (stn 4 ((apd h23 [.cells cs40, .cells ([(.lit (.int .i64 0)), (.lit (.int .i64 0)), (.lit (.int .i64 0)), (.lit (.int .i64 0))])])) (.ptr (h23.length + 1) 0) ([(.lit (.int .i64 n33)), (.lit (.int .i64 n35)), (.lit (.int .i64 n37)), (.lit (.int .i64 n39))])).bind fun h41 =>
 S_chainmanlaw14_RecDraws_1 a5 s7 t9 h.length ((getDraw s7).2.2.2.2) h23.length (h23.length + 1) false 0 h41) := (jn_eq _).trans (by kernel_rfl)
theorem S_chainmanlaw14_RecDraws_1_eq (a5 : Nat) (s7 : ByteArray) (t9 : ByteArray) (z11 : Nat) (is12 : Bool) (k13 : Nat) (l14 : Nat) (less15 : Bool) (i16 : Int) (h : AHeap) : S_chainmanlaw14_RecDraws_1 a5 s7 t9 z11 is12 k13 l14 less15 i16 h =
 bif (decide (i16 < 4)) then ((aidxP 4 1 (.ptr k13 0) i16).bind fun p42 =>
 (ld1 h p42).bind fun x43 =>
 (asI .i64 x43).bind fun n44 =>
 (aidxP 4 1 (.ptr l14 0) i16).bind fun p45 =>
 (ld1 h p45).bind fun x46 =>
 (asI .i64 x46).bind fun n47 =>
 bif (!decide (n44 = n47)) then ((aidxP 4 1 (.ptr k13 0) i16).bind fun p48 =>
 (ld1 h p48).bind fun x49 =>
 (asI .i64 x49).bind fun n50 =>
 (aidxP 4 1 (.ptr l14 0) i16).bind fun p51 =>
 (ld1 h p51).bind fun x52 =>
 (asI .i64 x52).bind fun n53 =>
 S_chainmanlaw14_RecDraws_2 a5 s7 t9 z11 is12 (decide (n50 < n53)) h)
 else (S_chainmanlaw14_RecDraws_1 a5 s7 t9 z11 is12 k13 l14 less15 (IntKind.wrap .i64 (i16 + 1)) h))
 else (S_chainmanlaw14_RecDraws_2 a5 s7 t9 z11 is12 less15 h) := (xexec_loop Echainmanlaw14_RecDraws Echainmanlaw14_RecDraws_ok.C.nat _ _ _ _ _).trans (by kernel_rfl)
theorem S_chainmanlaw14_RecDraws_2_eq (a5 : Nat) (s7 : ByteArray) (t9 : ByteArray) (z11 : Nat) (is12 : Bool) (less15 : Bool) (h : AHeap) : S_chainmanlaw14_RecDraws_2 a5 s7 t9 z11 is12 less15 h =
 bif is12 then ((ldn 4 h (.ptr z11 0)).bind fun xs54 =>
 (ldn 4 h (.ptr a5 0)).bind fun xs55 =>
 (leafEq [.int, .int, .int, .int] xs54 xs55).bind fun b56 =>
 S_chainmanlaw14_RecDraws_3 s7 t9 less15 b56 h)
 else (S_chainmanlaw14_RecDraws_3 s7 t9 less15 false h) := (jn_eq _).trans (by kernel_rfl)
theorem S_chainmanlaw14_RecDraws_3_eq (s7 : ByteArray) (t9 : ByteArray) (less15 : Bool) (t98 : Bool) (h : AHeap) : S_chainmanlaw14_RecDraws_3 s7 t9 less15 t98 h =
 bif t98 then (S_chainmanlaw14_RecDraws_4 s7 t9 less15 (decide ((s7.size : Int) = 17)) h)
 else (S_chainmanlaw14_RecDraws_4 s7 t9 less15 false h) := (jn_eq _).trans (by kernel_rfl)
theorem S_chainmanlaw14_RecDraws_4_eq (s7 : ByteArray) (t9 : ByteArray) (less15 : Bool) (t103 : Bool) (h : AHeap) : S_chainmanlaw14_RecDraws_4 s7 t9 less15 t103 h =
 bif t103 then (S_chainmanlaw14_RecDraws_5 (decide ((sless s7 t9) = less15)) h)
 else (S_chainmanlaw14_RecDraws_5 false h) := (jn_eq _).trans (by kernel_rfl)
theorem S_chainmanlaw14_RecDraws_5_eq (t110 : Bool) (h : AHeap) : S_chainmanlaw14_RecDraws_5 t110 h =
 bif t110 then (S_chainmanlaw14_RecDraws_6 true h)
 else (S_chainmanlaw14_RecDraws_6 false h) := (jn_eq _).trans (by kernel_rfl)
theorem S_chainmanlaw14_RecDraws_6_eq (t113 : Bool) (h : AHeap) : S_chainmanlaw14_RecDraws_6 t113 h =
 some ((.lit (.bool t113)), h) := (jn_eq _).trans (by kernel_rfl)
theorem S_chainmanlaw14_RecDraws_ends {x0 : List AVal} {y1 : List AVal} {h h' : AHeap} {v : AVal} {R : AEnd → AHeap → Prop} (hx : S_chainmanlaw14_RecDraws x0 y1 h = some (v, h')) (hR : HOk h → h.length ≤ h'.length → ABody.AEnds h h' (.ret v) R) : ACalls Try.prog 7 [(.agg x0), (.agg y1)] h R := xfun_ends Echainmanlaw14_RecDraws_ok tmix (i := 7) (by rfl) (by kernel_rfl) (by kernel_rfl) hx hR
abbrev vI (n : Int) : AVal := .lit (.int .i64 n)
/-- The four numbers, one by one. -/
theorem loop_end (a5 : Nat) (s7 t9 : ByteArray) (z11 : Nat) (is12 : Bool) (k13 l14 : Nat) (o k l i o' k' l' i' : Int) (h : AHeap) (Hk : cellsAt h k13 = some [vI o, vI k, vI l, vI i]) (Hl : cellsAt h l14 = some [vI o', vI k', vI l', vI i']) :
    S_chainmanlaw14_RecDraws_1 a5 s7 t9 z11 is12 k13 l14 false 0 h = S_chainmanlaw14_RecDraws_2 a5 s7 t9 z11 is12 (decide (o < o' ∨ o = o' ∧ (k < k' ∨ k = k' ∧ (l < l' ∨ l = l' ∧ i < i')))) h := by
  have ix : ∀ (b : Nat) (n : Nat), n < 4 → aidxP 4 1 (.ptr b 0) (n : Int) = some (.ptr b n) := fun b n hn => by
    unfold aidxP
    simp only
    rw [req_true (by omega)]
    simp
  have w : ∀ n : Nat, n < 4 → IntKind.wrap .i64 ((n : Int) + 1) = ((n + 1 : Nat) : Int) := fun n hn => by
    have : n = 0 ∨ n = 1 ∨ n = 2 ∨ n = 3 := by omega
    rcases this with rfl | rfl | rfl | rfl <;> rfl
  have st : ∀ n : Nat, n < 4 → ∀ (x y : Int), [vI o, vI k, vI l, vI i][n]? = some (vI x) → [vI o', vI k', vI l', vI i'][n]? = some (vI y) →
      S_chainmanlaw14_RecDraws_1 a5 s7 t9 z11 is12 k13 l14 false (n : Int) h = bif !decide (x = y) then S_chainmanlaw14_RecDraws_2 a5 s7 t9 z11 is12 (decide (x < y)) h else S_chainmanlaw14_RecDraws_1 a5 s7 t9 z11 is12 k13 l14 false ((n + 1 : Nat) : Int) h := fun n hn x y hx hy => by
    rw [S_chainmanlaw14_RecDraws_1_eq]
    have : decide ((n : Int) < 4) = true := by simp; omega
    rw [this, cond_true]
    simp only [ix _ n hn, Option.bind_some, ld1_of Hk, ld1_of Hl, hx, hy, asI, kindEq, w n hn]
  have e0 := st 0 (by omega) o o' rfl rfl
  have e1 := st 1 (by omega) k k' rfl rfl
  have e2 := st 2 (by omega) l l' rfl rfl
  have e3 := st 3 (by omega) i i' rfl rfl
  have e4 : S_chainmanlaw14_RecDraws_1 a5 s7 t9 z11 is12 k13 l14 false ((4 : Nat) : Int) h = S_chainmanlaw14_RecDraws_2 a5 s7 t9 z11 is12 false h := by rw [S_chainmanlaw14_RecDraws_1_eq]; rfl
  rw [show (0 : Int) = ((0 : Nat) : Int) from rfl, e0, e1, e2, e3, e4]
  by_cases c0 : o = o'
  · subst c0
    by_cases c1 : k = k'
    · subst c1
      by_cases c2 : l = l'
      · subst c2
        by_cases c3 : i = i'
        · subst c3; simp
        · simp [c3]
      · simp [c2]
    · simp [c1]
  · simp [c0]
theorem recDraws_run (o k l i o' k' l' i' : Int) (u : o < 9223372036854775808 ∧ k < 9223372036854775808 ∧ l < 9223372036854775808 ∧ i < 9223372036854775808) (u' : o' < 9223372036854775808 ∧ k' < 9223372036854775808 ∧ l' < 9223372036854775808 ∧ i' < 9223372036854775808) :
    Tru (S_chainmanlaw14_RecDraws [vI o, vI k, vI l, vI i] [vI o', vI k', vI l', vI i'] []) := by
  rw [S_chainmanlaw14_RecDraws_eq]
  simp only [psh, apd, ld1, ldn, stn, stin, cellsAt, splice, asI, kindEq, List.nil_append, List.cons_append, List.length_cons, List.length_nil, List.getElem?_cons_zero, List.getElem?_cons_succ, Option.bind_some, Nat.zero_add, Nat.reduceAdd, List.drop_zero, List.take_succ_cons, List.take_zero]
  simp only [List.take, List.drop, AVal.one, Value.oneCell', List.all_cons, List.all_nil, Bool.and_true, List.set, and_self, Nat.le_refl, req_true, Option.bind_some, List.getElem?_cons_zero, List.getElem?_cons_succ, List.length_cons, List.length_nil, Nat.zero_add, Nat.reduceAdd, as4, req_true u, req_true u']
  have fin : ∀ g, Tru (S_chainmanlaw14_RecDraws_0 0 1 2 (drawP o k l i).1 (drawP o' k' l' i').1 true g) := fun g => by rw [S_chainmanlaw14_RecDraws_0_eq, cond_true]; exact .here
  rcases Bool.eq_false_or_eq_true (drawP o k l i).2 with hP | hP
  · rw [hP]
    simp only [Bool.not_true, cond_false]
    rcases Bool.eq_false_or_eq_true (drawP o' k' l' i').2 with hP' | hP'
    · rw [hP']
      simp only [Bool.not_true]
      obtain ⟨hb, hz⟩ := draw_back u.2.2.1 hP
      rw [S_chainmanlaw14_RecDraws_0_eq, cond_false, hb, req_true (by rw [hz]; omega)]
      simp only [psh, apd, ld1, ldn, stn, stin, cellsAt, splice, asI, kindEq, List.nil_append, List.cons_append, List.length_cons, List.length_nil, List.getElem?_cons_zero, List.getElem?_cons_succ, Option.bind_some, Nat.zero_add, Nat.reduceAdd, List.drop_zero, List.take_succ_cons, List.take_zero,
        List.take, List.drop, AVal.one, Value.oneCell', List.all_cons, List.all_nil, Bool.and_true, List.set, and_self, Nat.le_refl, req_true]
      rw [loop_end _ _ _ _ _ _ _ o k l i o' k' l' i' _ rfl rfl]
      rw [S_chainmanlaw14_RecDraws_2_eq, cond_true]
      simp only [ldn, cellsAt, List.getElem?_cons_zero, List.getElem?_cons_succ, Option.bind_some, List.length_cons, List.length_nil, Nat.zero_add, Nat.reduceAdd, Nat.le_refl, req_true, List.drop_zero, List.take_succ_cons, List.take_zero, leafEq, kindEq, decide_true, Bool.and_true,
        S_chainmanlaw14_RecDraws_3_eq, S_chainmanlaw14_RecDraws_4_eq, S_chainmanlaw14_RecDraws_5_eq, S_chainmanlaw14_RecDraws_6_eq, cond_true, hz, show ((17 : Nat) : Int) = 17 from rfl, draw_less u.2.2.1 u'.2.2.1 hP hP']
      exact .here
    · rw [hP']; exact fin _
  · rw [hP]; exact fin _
theorem recDraws (o k l i o' k' l' i' : Int) (u : o < 9223372036854775808 ∧ k < 9223372036854775808 ∧ l < 9223372036854775808 ∧ i < 9223372036854775808) (u' : o' < 9223372036854775808 ∧ k' < 9223372036854775808 ∧ l' < 9223372036854775808 ∧ i' < 9223372036854775808) :
    ACalls Try.prog 7 [.agg [vI o, vI k, vI l, vI i], .agg [vI o', vI k', vI l', vI i']] [] fun e h' => e = .ret (.lit (.bool true)) ∧ True := by
  obtain ⟨h', hx⟩ := recDraws_run o k l i o' k' l' i' u u'
  exact S_chainmanlaw14_RecDraws_ends hx fun hok _ => ends_same (L := h') hok rfl ⟨rfl, trivial⟩
end Go.Proofs.Ytpjocohpogihcaa.AL
