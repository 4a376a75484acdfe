/- Records in order. -/
import Derived.Test.YtpjocohpogihcaaRecSpec
import Derived.Test.YtpjocohpogihcaaRecPuts
import Derived.Test.YtpjocohpogihcaaRecBack
import Derived.Test.YtpjocohpogihcaaX7
import Derived.Test.YtpjocohpogihcaaAL18
namespace Go.Proofs.Ytpjocohpogihcaa.AL
set_option linter.unusedVariables false
set_option linter.unusedSimpArgs false
set_option maxRecDepth 100000
open Go
open Go.Proofs.Try
noncomputable def w_chainmanlaw14_awake : XC := .p fun R args K => match args with
  | [] => K (.lit (.bool true))
  | _ => none
theorem w_chainmanlaw14_awake_ok : XC.Nat w_chainmanlaw14_awake ∧ XC.Ok Try.prog 28 w_chainmanlaw14_awake := by
  refine ⟨fun R args K => ?_, tc28, fun args h v hx => ?_⟩
  · dsimp only; split <;> simp [Option.bind_assoc, mkP]
  · dsimp only at hx; split at hx
    · cases hx
      exact law14_awake _
    · cases hx
-- chainman/chainmanref14.EdgeLess: function 49
noncomputable def Echainmanref14_EdgeLess : XE := { T := tabOf [(3, r3), (4, r4), (33, r33), (35, r35)], C := [], D := [], Ms := [], Ml := [], Mo := [(7009, [51])], n := 52 }
theorem Echainmanref14_EdgeLess_ok : Echainmanref14_EdgeLess.Ok Try.prog := ⟨tabOf_ok (⟨r3_ok, ⟨r4_ok, ⟨r33_ok, ⟨r35_ok, trivial⟩⟩⟩⟩), trivial⟩
noncomputable def c49 : Code := bodyOf f49
noncomputable def S_chainmanref14_EdgeLess (a0 : List AVal) (b1 : List AVal) (h : AHeap) : Option (AVal × AHeap) := xfun Echainmanref14_EdgeLess f49 [(.agg a0), (.agg b1)] h
noncomputable def S_chainmanref14_EdgeLess_0 (t51 : Bool) (h : AHeap) : Option (AVal × AHeap) := jn (xops Echainmanref14_EdgeLess 7 (rops (ca (cb (cb (cb (cb c49)))))) ((rops (ca (cb (cb (cb (cb c49)))))).toList.drop 9) 9 [(51, (.lit (.bool t51)))] h (kN (kSeq Echainmanref14_EdgeLess (cb (cb (cb (cb (cb c49))))) (xend Echainmanref14_EdgeLess f49))))
theorem S_chainmanref14_EdgeLess_eq (a0 : List AVal) (b1 : List AVal) (h : AHeap) : S_chainmanref14_EdgeLess a0 b1 h =
 (ld1 ((psh ((psh h (.cells a0))) (.cells b1))) (.ptr h.length 0)).bind fun x1 =>
 (asI .i64 x1).bind fun n2 =>
 (ld1 ((psh ((psh h (.cells a0))) (.cells b1))) (.ptr (((psh h (.cells a0))).length) 0)).bind fun x3 =>
 (asI .i64 x3).bind fun n4 =>
 bif (!decide (n2 = n4)) then ((ld1 ((psh ((psh h (.cells a0))) (.cells b1))) (.ptr h.length 0)).bind fun x5 =>
 (asI .i64 x5).bind fun n6 =>
 (ld1 ((psh ((psh h (.cells a0))) (.cells b1))) (.ptr (((psh h (.cells a0))).length) 0)).bind fun x7 =>
 (asI .i64 x7).bind fun n8 =>
 some ((.lit (.bool (decide (n6 < n8)))), (psh ((psh h (.cells a0))) (.cells b1))))
 else ((ld1 ((psh ((psh h (.cells a0))) (.cells b1))) (.ptr h.length 1)).bind fun x9 =>
 (asI .i64 x9).bind fun n10 =>
 (ld1 ((psh ((psh h (.cells a0))) (.cells b1))) (.ptr (((psh h (.cells a0))).length) 1)).bind fun x11 =>
 (asI .i64 x11).bind fun n12 =>
 bif (!decide (n10 = n12)) then ((ld1 ((psh ((psh h (.cells a0))) (.cells b1))) (.ptr h.length 1)).bind fun x13 =>
 (asI .i64 x13).bind fun n14 =>
 (ld1 ((psh ((psh h (.cells a0))) (.cells b1))) (.ptr (((psh h (.cells a0))).length) 1)).bind fun x15 =>
 (asI .i64 x15).bind fun n16 =>
 some ((.lit (.bool (decide (n14 < n16)))), (psh ((psh h (.cells a0))) (.cells b1))))
 else ((ld1 ((psh ((psh h (.cells a0))) (.cells b1))) (.ptr h.length 2)).bind fun x17 =>
 (asI .i64 x17).bind fun n18 =>
 (ld1 ((psh ((psh h (.cells a0))) (.cells b1))) (.ptr (((psh h (.cells a0))).length) 2)).bind fun x19 =>
 (asI .i64 x19).bind fun n20 =>
 bif (!decide (n18 = n20)) then ((ld1 ((psh ((psh h (.cells a0))) (.cells b1))) (.ptr h.length 2)).bind fun x21 =>
 (asI .i64 x21).bind fun n22 =>
 (ld1 ((psh ((psh h (.cells a0))) (.cells b1))) (.ptr (((psh h (.cells a0))).length) 2)).bind fun x23 =>
 (asI .i64 x23).bind fun n24 =>
 some ((.lit (.bool (decide (n22 < n24)))), (psh ((psh h (.cells a0))) (.cells b1))))
 else ((ld1 ((psh ((psh h (.cells a0))) (.cells b1))) (.ptr h.length 3)).bind fun x25 =>
 (asB x25).bind fun b26 =>
 bif (!b26) then ((ld1 ((psh ((psh h (.cells a0))) (.cells b1))) (.ptr (((psh h (.cells a0))).length) 3)).bind fun x27 =>
 (asB x27).bind fun b28 =>
 S_chainmanref14_EdgeLess_0 b28 ((psh ((psh h (.cells a0))) (.cells b1))))
 else (S_chainmanref14_EdgeLess_0 false ((psh ((psh h (.cells a0))) (.cells b1))))))) := by kernel_rfl
theorem S_chainmanref14_EdgeLess_0_eq (t51 : Bool) (h : AHeap) : S_chainmanref14_EdgeLess_0 t51 h =
 some ((.lit (.bool t51)), h) := (jn_eq _).trans (by kernel_rfl)
theorem S_chainmanref14_EdgeLess_ends {a0 : List AVal} {b1 : List AVal} {h h' : AHeap} {v : AVal} {R : AEnd → AHeap → Prop} (hx : S_chainmanref14_EdgeLess a0 b1 h = some (v, h')) (hR : HOk h → h.length ≤ h'.length → ABody.AEnds h h' (.ret v) R) : ACalls Try.prog 49 [(.agg a0), (.agg b1)] h R := xfun_ends Echainmanref14_EdgeLess_ok tmix (i := 49) (by rfl) (by kernel_rfl) (by kernel_rfl) hx hR
def edgeLtV (f d i : Int) (b : Bool) (f' d' i' : Int) (b' : Bool) : Bool := decide (f < f' ∨ f = f' ∧ (d < d' ∨ d = d' ∧ (i < i' ∨ i = i' ∧ (b = false ∧ b' = true))))
def edgeLessV (a b : List AVal) : Option Bool := (asEdge a).bind fun x => (asEdge b).bind fun y => some (edgeLtV x.1 x.2.1 x.2.2.1 x.2.2.2 y.1 y.2.1 y.2.2.1 y.2.2.2)
theorem edgeLess_run (f d i : Int) (b : Bool) (f' d' i' : Int) (b' : Bool) (h : AHeap) : ∃ g, S_chainmanref14_EdgeLess [.lit (.int .i64 f), .lit (.int .i64 d), .lit (.int .i64 i), .lit (.bool b)] [.lit (.int .i64 f'), .lit (.int .i64 d'), .lit (.int .i64 i'), .lit (.bool b')] h = some (.lit (.bool (edgeLtV f d i b f' d' i' b')), h ++ g) := by
  refine ⟨[.cells [.lit (.int .i64 f), .lit (.int .i64 d), .lit (.int .i64 i), .lit (.bool b)], .cells [.lit (.int .i64 f'), .lit (.int .i64 d'), .lit (.int .i64 i'), .lit (.bool b')]], ?_⟩
  rw [S_chainmanref14_EdgeLess_eq]
  have h1 : cellsAt (psh (psh h (.cells [.lit (.int .i64 f), .lit (.int .i64 d), .lit (.int .i64 i), .lit (.bool b)])) (.cells [.lit (.int .i64 f'), .lit (.int .i64 d'), .lit (.int .i64 i'), .lit (.bool b')])) h.length = some [.lit (.int .i64 f), .lit (.int .i64 d), .lit (.int .i64 i), .lit (.bool b)] := cellsAt_psh _ (cellsAt_new _ _)
  have hh : psh (psh h (.cells [.lit (.int .i64 f), .lit (.int .i64 d), .lit (.int .i64 i), .lit (.bool b)])) (.cells [.lit (.int .i64 f'), .lit (.int .i64 d'), .lit (.int .i64 i'), .lit (.bool b')]) = h ++ [.cells [.lit (.int .i64 f), .lit (.int .i64 d), .lit (.int .i64 i), .lit (.bool b)], .cells [.lit (.int .i64 f'), .lit (.int .i64 d'), .lit (.int .i64 i'), .lit (.bool b')]] := by simp [psh]
  have h2 := cellsAt_new (psh h (.cells [.lit (.int .i64 f), .lit (.int .i64 d), .lit (.int .i64 i), .lit (.bool b)])) [.lit (.int .i64 f'), .lit (.int .i64 d'), .lit (.int .i64 i'), .lit (.bool b')]
  simp only [ld1_of h1, ld1_of h2, Option.bind_some, List.getElem?_cons_zero, List.getElem?_cons_succ, asI, asB, kindEq, decide_true, if_true, S_chainmanref14_EdgeLess_0_eq]
  rw [hh]
  unfold edgeLtV
  by_cases e1 : f = f'
  · subst e1
    by_cases e2 : d = d'
    · subst e2
      by_cases e3 : i = i'
      · subst e3
        cases b <;> cases b' <;> simp
      · simp [e3]
    · simp [e2]
  · simp [e1]
noncomputable def w_chainmanref14_EdgeLess : XC := .p fun R args K => match args with
  | [.agg a, .agg b] => (edgeLessV a b).bind fun r => K (.lit (.bool r))
  | _ => none
theorem w_chainmanref14_EdgeLess_ok : XC.Nat w_chainmanref14_EdgeLess ∧ XC.Ok Try.prog 49 w_chainmanref14_EdgeLess := by
  refine ⟨fun R args K => ?_, tc49, fun args h v hx => ?_⟩
  · dsimp only; split <;> simp [Option.bind_assoc, mkP]
  · dsimp only at hx; split at hx
    · obtain ⟨r, hopt, hx⟩ := Option.bind_eq_some_iff.1 hx
      cases hx
      exact (by obtain ⟨x, h1, h2⟩ := Option.bind_eq_some_iff.1 hopt; obtain ⟨y, h3, h4⟩ := Option.bind_eq_some_iff.1 h2; cases h4; have e1 := asEdge_some h1; have e2 := asEdge_some h3; subst e1; subst e2; obtain ⟨g, hg⟩ := edgeLess_run x.1 x.2.1 x.2.2.1 x.2.2.2 y.1 y.2.1 y.2.2.1 y.2.2.2 h; exact S_chainmanref14_EdgeLess_ends hg fun hok _ => ends_same hok rfl ⟨rfl, rfl⟩)
    · cases hx
-- chainman/chainmanlaw14.RecOrder: function 9
noncomputable def Echainmanlaw14_RecOrder : XE := { T := tabOf [(3, r3), (4, r4), (9, r9), (29, r29), (31, r31), (33, r33), (35, r35)], C := [(20, w_rec_PutCell), (22, w_rec_PutPair), (24, w_rec_PutEdge), (28, w_chainmanlaw14_awake), (42, w_rec_GetCell), (44, w_rec_GetPair), (46, w_rec_GetEdge), (49, w_chainmanref14_EdgeLess)], D := [], Ms := [(9, [8, 9, 10, 11]), (17, [10, 11]), (25, [])], Ml := [], Mo := [(4007, [6, 7, 8, 9, 10, 11, 13, 16, 52]), (4013, [6, 7, 8, 9, 10, 11, 13, 58]), (4018, [6, 7, 8, 9, 10, 11, 13, 63]), (7040, [8, 9, 10, 11, 110]), (12007, [8, 9, 10, 11, 20, 128]), (12012, [8, 9, 10, 11, 20, 133]), (15026, [10, 11, 164]), (20007, [10, 11, 26, 182]), (20012, [10, 11, 26, 187]), (23010, [202])], n := 204 }
theorem Echainmanlaw14_RecOrder_ok : Echainmanlaw14_RecOrder.Ok Try.prog := ⟨tabOf_ok (⟨r3_ok, ⟨r4_ok, ⟨r9_ok, ⟨r29_ok, ⟨r31_ok, ⟨r33_ok, ⟨r35_ok, trivial⟩⟩⟩⟩⟩⟩⟩), ⟨w_rec_PutCell_ok, ⟨w_rec_PutPair_ok, ⟨w_rec_PutEdge_ok, ⟨w_chainmanlaw14_awake_ok, ⟨w_rec_GetCell_ok, ⟨w_rec_GetPair_ok, ⟨w_rec_GetEdge_ok, ⟨w_chainmanref14_EdgeLess_ok, trivial⟩⟩⟩⟩⟩⟩⟩⟩⟩
noncomputable def c9 : Code := bodyOf f9
noncomputable def S_chainmanlaw14_RecOrder (p0 : List AVal) (q1 : List AVal) (a2 : List AVal) (b3 : List AVal) (e4 : List AVal) (f5 : List AVal) (h : AHeap) : Option (AVal × AHeap) := xfun Echainmanlaw14_RecOrder f9 [(.agg p0), (.agg q1), (.agg a2), (.agg b3), (.agg e4), (.agg f5)] h
noncomputable def S_chainmanlaw14_RecOrder_0 (p6 : Nat) (q7 : Nat) (a8 : Nat) (b9 : Nat) (e10 : Nat) (f11 : Nat) (s13 : ByteArray) (n16 : Int) (t52 : Bool) (h : AHeap) : Option (AVal × AHeap) := jn (xops Echainmanlaw14_RecOrder 4 (rops (ca (ca (cb (ca (cb (cb (ca (cb c9))))))))) ((rops (ca (ca (cb (ca (cb (cb (ca (cb c9))))))))).toList.drop 7) 7 [(6, (.ptr p6 0)), (7, (.ptr q7 0)), (8, (.ptr a8 0)), (9, (.ptr b9 0)), (10, (.ptr e10 0)), (11, (.ptr f11 0)), (13, (.lit (.string s13))), (16, (.lit (.int .i64 n16))), (52, (.lit (.bool t52)))] h (kN (kSeq Echainmanlaw14_RecOrder (cb (ca (cb (ca (cb (cb (ca (cb c9)))))))) (kSeq Echainmanlaw14_RecOrder (cb (cb (ca (cb (cb (ca (cb c9))))))) (kSeq Echainmanlaw14_RecOrder (cb (cb c9)) (xend Echainmanlaw14_RecOrder f9))))))
noncomputable def S_chainmanlaw14_RecOrder_1 (a8 : Nat) (b9 : Nat) (e10 : Nat) (f11 : Nat) (h : AHeap) : Option (AVal × AHeap) := jn (xexec Echainmanlaw14_RecOrder (cb (cb c9)) (AVal × AHeap) [(8, (.ptr a8 0)), (9, (.ptr b9 0)), (10, (.ptr e10 0)), (11, (.ptr f11 0))] h (xend Echainmanlaw14_RecOrder f9))
noncomputable def S_chainmanlaw14_RecOrder_2 (p6 : Nat) (q7 : Nat) (a8 : Nat) (b9 : Nat) (e10 : Nat) (f11 : Nat) (s13 : ByteArray) (t58 : Bool) (h : AHeap) : Option (AVal × AHeap) := jn (xops Echainmanlaw14_RecOrder 4 (rops (ca (ca (cb (ca (cb (cb (ca (cb c9))))))))) ((rops (ca (ca (cb (ca (cb (cb (ca (cb c9))))))))).toList.drop 13) 13 [(6, (.ptr p6 0)), (7, (.ptr q7 0)), (8, (.ptr a8 0)), (9, (.ptr b9 0)), (10, (.ptr e10 0)), (11, (.ptr f11 0)), (13, (.lit (.string s13))), (58, (.lit (.bool t58)))] h (kN (kSeq Echainmanlaw14_RecOrder (cb (ca (cb (ca (cb (cb (ca (cb c9)))))))) (kSeq Echainmanlaw14_RecOrder (cb (cb (ca (cb (cb (ca (cb c9))))))) (kSeq Echainmanlaw14_RecOrder (cb (cb c9)) (xend Echainmanlaw14_RecOrder f9))))))
noncomputable def S_chainmanlaw14_RecOrder_3 (a8 : Nat) (b9 : Nat) (e10 : Nat) (f11 : Nat) (s20 : ByteArray) (t128 : Bool) (h : AHeap) : Option (AVal × AHeap) := jn (xops Echainmanlaw14_RecOrder 12 (rops (ca (ca (cb (ca (cb (cb (ca (cb (cb c9)))))))))) ((rops (ca (ca (cb (ca (cb (cb (ca (cb (cb c9)))))))))).toList.drop 7) 7 [(8, (.ptr a8 0)), (9, (.ptr b9 0)), (10, (.ptr e10 0)), (11, (.ptr f11 0)), (20, (.lit (.string s20))), (128, (.lit (.bool t128)))] h (kN (kSeq Echainmanlaw14_RecOrder (cb (ca (cb (ca (cb (cb (ca (cb (cb c9))))))))) (kSeq Echainmanlaw14_RecOrder (cb (cb (ca (cb (cb (ca (cb (cb c9)))))))) (kSeq Echainmanlaw14_RecOrder (cb (cb (cb c9))) (xend Echainmanlaw14_RecOrder f9))))))
noncomputable def S_chainmanlaw14_RecOrder_4 (e10 : Nat) (f11 : Nat) (h : AHeap) : Option (AVal × AHeap) := jn (xexec Echainmanlaw14_RecOrder (cb (cb (cb c9))) (AVal × AHeap) [(10, (.ptr e10 0)), (11, (.ptr f11 0))] h (xend Echainmanlaw14_RecOrder f9))
noncomputable def S_chainmanlaw14_RecOrder_5 (p6 : Nat) (q7 : Nat) (a8 : Nat) (b9 : Nat) (e10 : Nat) (f11 : Nat) (s13 : ByteArray) (t63 : Bool) (h : AHeap) : Option (AVal × AHeap) := jn (xops Echainmanlaw14_RecOrder 4 (rops (ca (ca (cb (ca (cb (cb (ca (cb c9))))))))) ((rops (ca (ca (cb (ca (cb (cb (ca (cb c9))))))))).toList.drop 18) 18 [(6, (.ptr p6 0)), (7, (.ptr q7 0)), (8, (.ptr a8 0)), (9, (.ptr b9 0)), (10, (.ptr e10 0)), (11, (.ptr f11 0)), (13, (.lit (.string s13))), (63, (.lit (.bool t63)))] h (kN (kSeq Echainmanlaw14_RecOrder (cb (ca (cb (ca (cb (cb (ca (cb c9)))))))) (kSeq Echainmanlaw14_RecOrder (cb (cb (ca (cb (cb (ca (cb c9))))))) (kSeq Echainmanlaw14_RecOrder (cb (cb c9)) (xend Echainmanlaw14_RecOrder f9))))))
noncomputable def S_chainmanlaw14_RecOrder_6 (a8 : Nat) (b9 : Nat) (e10 : Nat) (f11 : Nat) (s20 : ByteArray) (t133 : Bool) (h : AHeap) : Option (AVal × AHeap) := jn (xops Echainmanlaw14_RecOrder 12 (rops (ca (ca (cb (ca (cb (cb (ca (cb (cb c9)))))))))) ((rops (ca (ca (cb (ca (cb (cb (ca (cb (cb c9)))))))))).toList.drop 12) 12 [(8, (.ptr a8 0)), (9, (.ptr b9 0)), (10, (.ptr e10 0)), (11, (.ptr f11 0)), (20, (.lit (.string s20))), (133, (.lit (.bool t133)))] h (kN (kSeq Echainmanlaw14_RecOrder (cb (ca (cb (ca (cb (cb (ca (cb (cb c9))))))))) (kSeq Echainmanlaw14_RecOrder (cb (cb (ca (cb (cb (ca (cb (cb c9)))))))) (kSeq Echainmanlaw14_RecOrder (cb (cb (cb c9))) (xend Echainmanlaw14_RecOrder f9))))))
noncomputable def S_chainmanlaw14_RecOrder_7 (e10 : Nat) (f11 : Nat) (s26 : ByteArray) (t182 : Bool) (h : AHeap) : Option (AVal × AHeap) := jn (xops Echainmanlaw14_RecOrder 20 (rops (ca (ca (cb (ca (cb (cb (ca (cb (cb (cb c9))))))))))) ((rops (ca (ca (cb (ca (cb (cb (ca (cb (cb (cb c9))))))))))).toList.drop 7) 7 [(10, (.ptr e10 0)), (11, (.ptr f11 0)), (26, (.lit (.string s26))), (182, (.lit (.bool t182)))] h (kN (kSeq Echainmanlaw14_RecOrder (cb (ca (cb (ca (cb (cb (ca (cb (cb (cb c9)))))))))) (kSeq Echainmanlaw14_RecOrder (cb (cb (ca (cb (cb (ca (cb (cb (cb c9))))))))) (kSeq Echainmanlaw14_RecOrder (cb (cb (cb (cb c9)))) (xend Echainmanlaw14_RecOrder f9))))))
noncomputable def S_chainmanlaw14_RecOrder_8  (h : AHeap) : Option (AVal × AHeap) := jn (xexec Echainmanlaw14_RecOrder (cb (cb (cb (cb c9)))) (AVal × AHeap) [] h (xend Echainmanlaw14_RecOrder f9))
noncomputable def S_chainmanlaw14_RecOrder_9 (a8 : Nat) (b9 : Nat) (e10 : Nat) (f11 : Nat) (t110 : Bool) (h : AHeap) : Option (AVal × AHeap) := jn (xops Echainmanlaw14_RecOrder 7 (rops (ca (cb (cb (cb (ca (cb (cb (ca (cb c9)))))))))) ((rops (ca (cb (cb (cb (ca (cb (cb (ca (cb c9)))))))))).toList.drop 40) 40 [(8, (.ptr a8 0)), (9, (.ptr b9 0)), (10, (.ptr e10 0)), (11, (.ptr f11 0)), (110, (.lit (.bool t110)))] h (kN (kSeq Echainmanlaw14_RecOrder (cb (cb (cb (cb (ca (cb (cb (ca (cb c9))))))))) (kSeq Echainmanlaw14_RecOrder (cb (cb c9)) (xend Echainmanlaw14_RecOrder f9)))))
noncomputable def S_chainmanlaw14_RecOrder_10 (e10 : Nat) (f11 : Nat) (t164 : Bool) (h : AHeap) : Option (AVal × AHeap) := jn (xops Echainmanlaw14_RecOrder 15 (rops (ca (cb (cb (cb (ca (cb (cb (ca (cb (cb c9))))))))))) ((rops (ca (cb (cb (cb (ca (cb (cb (ca (cb (cb c9))))))))))).toList.drop 26) 26 [(10, (.ptr e10 0)), (11, (.ptr f11 0)), (164, (.lit (.bool t164)))] h (kN (kSeq Echainmanlaw14_RecOrder (cb (cb (cb (cb (ca (cb (cb (ca (cb (cb c9)))))))))) (kSeq Echainmanlaw14_RecOrder (cb (cb (cb c9))) (xend Echainmanlaw14_RecOrder f9)))))
noncomputable def S_chainmanlaw14_RecOrder_11 (e10 : Nat) (f11 : Nat) (s26 : ByteArray) (t187 : Bool) (h : AHeap) : Option (AVal × AHeap) := jn (xops Echainmanlaw14_RecOrder 20 (rops (ca (ca (cb (ca (cb (cb (ca (cb (cb (cb c9))))))))))) ((rops (ca (ca (cb (ca (cb (cb (ca (cb (cb (cb c9))))))))))).toList.drop 12) 12 [(10, (.ptr e10 0)), (11, (.ptr f11 0)), (26, (.lit (.string s26))), (187, (.lit (.bool t187)))] h (kN (kSeq Echainmanlaw14_RecOrder (cb (ca (cb (ca (cb (cb (ca (cb (cb (cb c9)))))))))) (kSeq Echainmanlaw14_RecOrder (cb (cb (ca (cb (cb (ca (cb (cb (cb c9))))))))) (kSeq Echainmanlaw14_RecOrder (cb (cb (cb (cb c9)))) (xend Echainmanlaw14_RecOrder f9))))))
noncomputable def S_chainmanlaw14_RecOrder_12 (t202 : Bool) (h : AHeap) : Option (AVal × AHeap) := jn (xops Echainmanlaw14_RecOrder 23 (rops (ca (cb (cb (cb (ca (cb (cb (ca (cb (cb (cb c9)))))))))))) ((rops (ca (cb (cb (cb (ca (cb (cb (ca (cb (cb (cb c9)))))))))))).toList.drop 10) 10 [(202, (.lit (.bool t202)))] h (kN (kSeq Echainmanlaw14_RecOrder (cb (cb (cb (cb (ca (cb (cb (ca (cb (cb (cb c9))))))))))) (kSeq Echainmanlaw14_RecOrder (cb (cb (cb (cb c9)))) (xend Echainmanlaw14_RecOrder f9)))))
theorem S_chainmanlaw14_RecOrder_eq (p0 : List AVal) (q1 : List AVal) (a2 : List AVal) (b3 : List AVal) (e4 : List AVal) (f5 : List AVal) (h : AHeap) : S_chainmanlaw14_RecOrder p0 q1 a2 b3 e4 f5 h =
 (ldn 2 ((psh ((psh ((psh ((psh ((psh ((psh h (.cells p0))) (.cells q1))) (.cells a2))) (.cells b3))) (.cells e4))) (.cells f5))) (.ptr h.length 0)).bind fun xs1 =>
 (ld1 ((psh ((psh ((psh ((psh ((psh ((psh h (.cells p0))) (.cells q1))) (.cells a2))) (.cells b3))) (.cells e4))) (.cells f5))) (.ptr (((psh ((psh h (.cells p0))) (.cells q1))).length) 0)).bind fun x2 =>
 (asI .i64 x2).bind fun n3 =>
 (req (n3 < 9223372036854775808)).bind fun _ =>
 (as2 xs1).bind fun r4 =>
 bif ((cellP r4.1 r4.2 n3).2) then ((req (((cellP r4.1 r4.2 n3).1).size ≤ 140737488351232)).bind fun _ =>
 (stn 2 ((psh ((psh ((psh ((psh ((psh ((psh ((psh h (.cells p0))) (.cells q1))) (.cells a2))) (.cells b3))) (.cells e4))) (.cells f5))) (.cells [(.lit (.int .i64 0)), (.lit (.int .i64 0))]))) (.ptr (((psh ((psh ((psh ((psh ((psh ((psh h (.cells p0))) (.cells q1))) (.cells a2))) (.cells b3))) (.cells e4))) (.cells f5))).length) 0) ([(.lit (.int .i64 ((getCell ((cellP r4.1 r4.2 n3).1)).1))), (.lit (.int .i64 ((getCell ((cellP r4.1 r4.2 n3).1)).2.1)))])).bind fun h5 =>
 bif (!((getCell ((cellP r4.1 r4.2 n3).1)).2.2.2)) then (S_chainmanlaw14_RecOrder_0 h.length (((psh h (.cells p0))).length) (((psh ((psh h (.cells p0))) (.cells q1))).length) (((psh ((psh ((psh h (.cells p0))) (.cells q1))) (.cells a2))).length) (((psh ((psh ((psh ((psh h (.cells p0))) (.cells q1))) (.cells a2))) (.cells b3))).length) (((psh ((psh ((psh ((psh ((psh h (.cells p0))) (.cells q1))) (.cells a2))) (.cells b3))) (.cells e4))).length) ((cellP r4.1 r4.2 n3).1) ((getCell ((cellP r4.1 r4.2 n3).1)).2.2.1) true h5)
 else ((ldn 2 h5 (.ptr (((psh ((psh ((psh ((psh ((psh ((psh h (.cells p0))) (.cells q1))) (.cells a2))) (.cells b3))) (.cells e4))) (.cells f5))).length) 0)).bind fun xs6 =>
 (ldn 2 h5 (.ptr h.length 0)).bind fun xs7 =>
 (leafEq [.int, .int] xs6 xs7).bind fun b8 =>
 S_chainmanlaw14_RecOrder_0 h.length (((psh h (.cells p0))).length) (((psh ((psh h (.cells p0))) (.cells q1))).length) (((psh ((psh ((psh h (.cells p0))) (.cells q1))) (.cells a2))).length) (((psh ((psh ((psh ((psh h (.cells p0))) (.cells q1))) (.cells a2))) (.cells b3))).length) (((psh ((psh ((psh ((psh ((psh h (.cells p0))) (.cells q1))) (.cells a2))) (.cells b3))) (.cells e4))).length) ((cellP r4.1 r4.2 n3).1) ((getCell ((cellP r4.1 r4.2 n3).1)).2.2.1) (!b8) h5))
 else (S_chainmanlaw14_RecOrder_1 (((psh ((psh h (.cells p0))) (.cells q1))).length) (((psh ((psh ((psh h (.cells p0))) (.cells q1))) (.cells a2))).length) (((psh ((psh ((psh ((psh h (.cells p0))) (.cells q1))) (.cells a2))) (.cells b3))).length) (((psh ((psh ((psh ((psh ((psh h (.cells p0))) (.cells q1))) (.cells a2))) (.cells b3))) (.cells e4))).length) ((psh ((psh ((psh ((psh ((psh ((psh h (.cells p0))) (.cells q1))) (.cells a2))) (.cells b3))) (.cells e4))) (.cells f5)))) := by kernel_rfl
theorem S_chainmanlaw14_RecOrder_0_eq (p6 : Nat) (q7 : Nat) (a8 : Nat) (b9 : Nat) (e10 : Nat) (f11 : Nat) (s13 : ByteArray) (n16 : Int) (t52 : Bool) (h : AHeap) : S_chainmanlaw14_RecOrder_0 p6 q7 a8 b9 e10 f11 s13 n16 t52 h =
 bif t52 then (S_chainmanlaw14_RecOrder_2 p6 q7 a8 b9 e10 f11 s13 true h)
 else ((ld1 h (.ptr a8 0)).bind fun x9 =>
 (asI .i64 x9).bind fun n10 =>
 S_chainmanlaw14_RecOrder_2 p6 q7 a8 b9 e10 f11 s13 (!decide (n16 = n10)) h) := (jn_eq _).trans (by kernel_rfl)
theorem S_chainmanlaw14_RecOrder_1_eq (a8 : Nat) (b9 : Nat) (e10 : Nat) (f11 : Nat) (h : AHeap) : S_chainmanlaw14_RecOrder_1 a8 b9 e10 f11 h =
 (ldn 2 h (.ptr a8 0)).bind fun xs11 =>
 ((as2 xs11).bind fun r12 => (req (r12.1 < 9223372036854775808 ∧ r12.2 < 9223372036854775808)).bind fun _ => some r12).bind fun r12 =>
 bif ((pairP r12.1 r12.2).2) then ((req (((pairP r12.1 r12.2).1).size ≤ 140737488351232)).bind fun _ =>
 (stn 2 ((psh h (.cells [(.lit (.int .i64 0)), (.lit (.int .i64 0))]))) (.ptr h.length 0) ([(.lit (.int .i64 ((getPair ((pairP r12.1 r12.2).1)).1))), (.lit (.int .i64 ((getPair ((pairP r12.1 r12.2).1)).2.1)))])).bind fun h13 =>
 bif (!((getPair ((pairP r12.1 r12.2).1)).2.2)) then (S_chainmanlaw14_RecOrder_3 a8 b9 e10 f11 ((pairP r12.1 r12.2).1) true h13)
 else ((ldn 2 h13 (.ptr h.length 0)).bind fun xs14 =>
 (ldn 2 h13 (.ptr a8 0)).bind fun xs15 =>
 (leafEq [.int, .int] xs14 xs15).bind fun b16 =>
 S_chainmanlaw14_RecOrder_3 a8 b9 e10 f11 ((pairP r12.1 r12.2).1) (!b16) h13))
 else (S_chainmanlaw14_RecOrder_4 e10 f11 h) := (jn_eq _).trans (by kernel_rfl)
theorem S_chainmanlaw14_RecOrder_2_eq (p6 : Nat) (q7 : Nat) (a8 : Nat) (b9 : Nat) (e10 : Nat) (f11 : Nat) (s13 : ByteArray) (t58 : Bool) (h : AHeap) : S_chainmanlaw14_RecOrder_2 p6 q7 a8 b9 e10 f11 s13 t58 h =
 bif t58 then (S_chainmanlaw14_RecOrder_5 p6 q7 a8 b9 e10 f11 s13 true h)
 else (S_chainmanlaw14_RecOrder_5 p6 q7 a8 b9 e10 f11 s13 (!decide ((s13.size : Int) = 12)) h) := (jn_eq _).trans (by kernel_rfl)
theorem S_chainmanlaw14_RecOrder_3_eq (a8 : Nat) (b9 : Nat) (e10 : Nat) (f11 : Nat) (s20 : ByteArray) (t128 : Bool) (h : AHeap) : S_chainmanlaw14_RecOrder_3 a8 b9 e10 f11 s20 t128 h =
 bif t128 then (S_chainmanlaw14_RecOrder_6 a8 b9 e10 f11 s20 true h)
 else (S_chainmanlaw14_RecOrder_6 a8 b9 e10 f11 s20 (!decide ((s20.size : Int) = 8)) h) := (jn_eq _).trans (by kernel_rfl)
theorem S_chainmanlaw14_RecOrder_4_eq (e10 : Nat) (f11 : Nat) (h : AHeap) : S_chainmanlaw14_RecOrder_4 e10 f11 h =
 (ldn 4 h (.ptr e10 0)).bind fun xs17 =>
 ((asEdge xs17).bind fun r18 => (req (r18.1 < 9223372036854775808 ∧ r18.2.1 < 9223372036854775808 ∧ r18.2.2.1 < 9223372036854775808)).bind fun _ => some r18).bind fun r18 =>
 bif ((edgeP r18.1 r18.2.1 r18.2.2.1 r18.2.2.2).2) then ((req (((edgeP r18.1 r18.2.1 r18.2.2.1 r18.2.2.2).1).size ≤ 140737488351232)).bind fun _ =>
 (stn 4 ((psh h (.cells [(.lit (.int .i64 0)), (.lit (.int .i64 0)), (.lit (.int .i64 0)), (.lit (.bool false))]))) (.ptr h.length 0) ([(.lit (.int .i64 ((getEdge ((edgeP r18.1 r18.2.1 r18.2.2.1 r18.2.2.2).1)).1))), (.lit (.int .i64 ((getEdge ((edgeP r18.1 r18.2.1 r18.2.2.1 r18.2.2.2).1)).2.1))), (.lit (.int .i64 ((getEdge ((edgeP r18.1 r18.2.1 r18.2.2.1 r18.2.2.2).1)).2.2.1))), (.lit (.bool ((getEdge ((edgeP r18.1 r18.2.1 r18.2.2.1 r18.2.2.2).1)).2.2.2.1)))])).bind fun h19 =>
 bif (!((getEdge ((edgeP r18.1 r18.2.1 r18.2.2.1 r18.2.2.2).1)).2.2.2.2)) then (S_chainmanlaw14_RecOrder_7 e10 f11 ((edgeP r18.1 r18.2.1 r18.2.2.1 r18.2.2.2).1) true h19)
 else ((ldn 4 h19 (.ptr h.length 0)).bind fun xs20 =>
 (ldn 4 h19 (.ptr e10 0)).bind fun xs21 =>
 (leafEq [.int, .int, .int, .bool] xs20 xs21).bind fun b22 =>
 S_chainmanlaw14_RecOrder_7 e10 f11 ((edgeP r18.1 r18.2.1 r18.2.2.1 r18.2.2.2).1) (!b22) h19))
 else (S_chainmanlaw14_RecOrder_8 h) := (jn_eq _).trans (by kernel_rfl)
theorem S_chainmanlaw14_RecOrder_5_eq (p6 : Nat) (q7 : Nat) (a8 : Nat) (b9 : Nat) (e10 : Nat) (f11 : Nat) (s13 : ByteArray) (t63 : Bool) (h : AHeap) : S_chainmanlaw14_RecOrder_5 p6 q7 a8 b9 e10 f11 s13 t63 h =
 bif t63 then (some ((.lit (.bool false)), h))
 else ((ldn 2 h (.ptr q7 0)).bind fun xs23 =>
 (ld1 h (.ptr b9 0)).bind fun x24 =>
 (asI .i64 x24).bind fun n25 =>
 (req (n25 < 9223372036854775808)).bind fun _ =>
 (as2 xs23).bind fun r26 =>
 bif ((cellP r26.1 r26.2 n25).2) then ((ld1 h (.ptr p6 0)).bind fun x27 =>
 (asI .i64 x27).bind fun n28 =>
 (ld1 h (.ptr q7 0)).bind fun x29 =>
 (asI .i64 x29).bind fun n30 =>
 bif (decide (n28 < n30)) then (S_chainmanlaw14_RecOrder_9 a8 b9 e10 f11 (!decide ((sless s13 ((cellP r26.1 r26.2 n25).1)) = true)) h)
 else ((ld1 h (.ptr p6 0)).bind fun x31 =>
 (asI .i64 x31).bind fun n32 =>
 (ld1 h (.ptr q7 0)).bind fun x33 =>
 (asI .i64 x33).bind fun n34 =>
 bif (decide (n32 = n34)) then ((ld1 h (.ptr p6 1)).bind fun x35 =>
 (asI .i64 x35).bind fun n36 =>
 (ld1 h (.ptr q7 1)).bind fun x37 =>
 (asI .i64 x37).bind fun n38 =>
 bif (decide (n36 < n38)) then (S_chainmanlaw14_RecOrder_9 a8 b9 e10 f11 (!decide ((sless s13 ((cellP r26.1 r26.2 n25).1)) = true)) h)
 else ((ld1 h (.ptr p6 1)).bind fun x39 =>
 (asI .i64 x39).bind fun n40 =>
 (ld1 h (.ptr q7 1)).bind fun x41 =>
 (asI .i64 x41).bind fun n42 =>
 bif (decide (n40 = n42)) then ((ld1 h (.ptr a8 0)).bind fun x43 =>
 (asI .i64 x43).bind fun n44 =>
 (ld1 h (.ptr b9 0)).bind fun x45 =>
 (asI .i64 x45).bind fun n46 =>
 S_chainmanlaw14_RecOrder_9 a8 b9 e10 f11 (!decide ((sless s13 ((cellP r26.1 r26.2 n25).1)) = (decide (n44 < n46)))) h)
 else (S_chainmanlaw14_RecOrder_9 a8 b9 e10 f11 (!decide ((sless s13 ((cellP r26.1 r26.2 n25).1)) = false)) h)))
 else (S_chainmanlaw14_RecOrder_9 a8 b9 e10 f11 (!decide ((sless s13 ((cellP r26.1 r26.2 n25).1)) = false)) h)))
 else (S_chainmanlaw14_RecOrder_9 a8 b9 e10 f11 false h)) := (jn_eq _).trans (by kernel_rfl)
theorem S_chainmanlaw14_RecOrder_6_eq (a8 : Nat) (b9 : Nat) (e10 : Nat) (f11 : Nat) (s20 : ByteArray) (t133 : Bool) (h : AHeap) : S_chainmanlaw14_RecOrder_6 a8 b9 e10 f11 s20 t133 h =
 bif t133 then (some ((.lit (.bool false)), h))
 else ((ldn 2 h (.ptr b9 0)).bind fun xs47 =>
 ((as2 xs47).bind fun r48 => (req (r48.1 < 9223372036854775808 ∧ r48.2 < 9223372036854775808)).bind fun _ => some r48).bind fun r48 =>
 bif ((pairP r48.1 r48.2).2) then ((ld1 h (.ptr a8 0)).bind fun x49 =>
 (asI .i64 x49).bind fun n50 =>
 (ld1 h (.ptr b9 0)).bind fun x51 =>
 (asI .i64 x51).bind fun n52 =>
 bif (decide (n50 < n52)) then (S_chainmanlaw14_RecOrder_10 e10 f11 (!decide ((sless s20 ((pairP r48.1 r48.2).1)) = true)) h)
 else ((ld1 h (.ptr a8 0)).bind fun x53 =>
 (asI .i64 x53).bind fun n54 =>
 (ld1 h (.ptr b9 0)).bind fun x55 =>
 (asI .i64 x55).bind fun n56 =>
 bif (decide (n54 = n56)) then ((ld1 h (.ptr a8 1)).bind fun x57 =>
 (asI .i64 x57).bind fun n58 =>
 (ld1 h (.ptr b9 1)).bind fun x59 =>
 (asI .i64 x59).bind fun n60 =>
 S_chainmanlaw14_RecOrder_10 e10 f11 (!decide ((sless s20 ((pairP r48.1 r48.2).1)) = (decide (n58 < n60)))) h)
 else (S_chainmanlaw14_RecOrder_10 e10 f11 (!decide ((sless s20 ((pairP r48.1 r48.2).1)) = false)) h)))
 else (S_chainmanlaw14_RecOrder_10 e10 f11 false h)) := (jn_eq _).trans (by kernel_rfl)
theorem S_chainmanlaw14_RecOrder_7_eq (e10 : Nat) (f11 : Nat) (s26 : ByteArray) (t182 : Bool) (h : AHeap) : S_chainmanlaw14_RecOrder_7 e10 f11 s26 t182 h =
 bif t182 then (S_chainmanlaw14_RecOrder_11 e10 f11 s26 true h)
 else (S_chainmanlaw14_RecOrder_11 e10 f11 s26 (!decide ((s26.size : Int) = 17)) h) := (jn_eq _).trans (by kernel_rfl)
theorem S_chainmanlaw14_RecOrder_8_eq  (h : AHeap) : S_chainmanlaw14_RecOrder_8  h =
 some ((.lit (.bool true)), h) := (jn_eq _).trans (by kernel_rfl)
theorem S_chainmanlaw14_RecOrder_9_eq (a8 : Nat) (b9 : Nat) (e10 : Nat) (f11 : Nat) (t110 : Bool) (h : AHeap) : S_chainmanlaw14_RecOrder_9 a8 b9 e10 f11 t110 h =
 bif t110 then (some ((.lit (.bool false)), h))
 else (S_chainmanlaw14_RecOrder_1 a8 b9 e10 f11 h) := (jn_eq _).trans (by kernel_rfl)
theorem S_chainmanlaw14_RecOrder_10_eq (e10 : Nat) (f11 : Nat) (t164 : Bool) (h : AHeap) : S_chainmanlaw14_RecOrder_10 e10 f11 t164 h =
 bif t164 then (some ((.lit (.bool false)), h))
 else (S_chainmanlaw14_RecOrder_4 e10 f11 h) := (jn_eq _).trans (by kernel_rfl)
theorem S_chainmanlaw14_RecOrder_11_eq (e10 : Nat) (f11 : Nat) (s26 : ByteArray) (t187 : Bool) (h : AHeap) : S_chainmanlaw14_RecOrder_11 e10 f11 s26 t187 h =
 bif t187 then (some ((.lit (.bool false)), h))
 else ((ldn 4 h (.ptr f11 0)).bind fun xs61 =>
 ((asEdge xs61).bind fun r62 => (req (r62.1 < 9223372036854775808 ∧ r62.2.1 < 9223372036854775808 ∧ r62.2.2.1 < 9223372036854775808)).bind fun _ => some r62).bind fun r62 =>
 bif ((edgeP r62.1 r62.2.1 r62.2.2.1 r62.2.2.2).2) then ((ldn 4 h (.ptr e10 0)).bind fun xs63 =>
 (ldn 4 h (.ptr f11 0)).bind fun xs64 =>
 (edgeLessV xs63 xs64).bind fun r65 =>
 S_chainmanlaw14_RecOrder_12 (!decide ((sless s26 ((edgeP r62.1 r62.2.1 r62.2.2.1 r62.2.2.2).1)) = r65)) h)
 else (S_chainmanlaw14_RecOrder_12 false h)) := (jn_eq _).trans (by kernel_rfl)
theorem S_chainmanlaw14_RecOrder_12_eq (t202 : Bool) (h : AHeap) : S_chainmanlaw14_RecOrder_12 t202 h =
 bif t202 then (some ((.lit (.bool false)), h))
 else (S_chainmanlaw14_RecOrder_8 h) := (jn_eq _).trans (by kernel_rfl)
theorem S_chainmanlaw14_RecOrder_ends {p0 : List AVal} {q1 : List AVal} {a2 : List AVal} {b3 : List AVal} {e4 : List AVal} {f5 : List AVal} {h h' : AHeap} {v : AVal} {R : AEnd → AHeap → Prop} (hx : S_chainmanlaw14_RecOrder p0 q1 a2 b3 e4 f5 h = some (v, h')) (hR : HOk h → h.length ≤ h'.length → ABody.AEnds h h' (.ret v) R) : ACalls Try.prog 9 [(.agg p0), (.agg q1), (.agg a2), (.agg b3), (.agg e4), (.agg f5)] h R := xfun_ends Echainmanlaw14_RecOrder_ok tmix (i := 9) (by rfl) (by kernel_rfl) (by kernel_rfl) hx hR
abbrev vI (n : Int) : AVal := .lit (.int .i64 n)
abbrev vB (b : Bool) : AVal := .lit (.bool b)
theorem ord12 (h : AHeap) : Tru (S_chainmanlaw14_RecOrder_12 false h) := by rw [S_chainmanlaw14_RecOrder_12_eq, cond_false, S_chainmanlaw14_RecOrder_8_eq]; exact .here
theorem ord4 {e10 f11 : Nat} {h : AHeap} {f d i f' d' i' : Int} {b b' : Bool} (He : cellsAt h e10 = some [vI f, vI d, vI i, vB b]) (Hf : cellsAt h f11 = some [vI f', vI d', vI i', vB b'])
    (u : f < 9223372036854775808 ∧ d < 9223372036854775808 ∧ i < 9223372036854775808) (u' : f' < 9223372036854775808 ∧ d' < 9223372036854775808 ∧ i' < 9223372036854775808) : Tru (S_chainmanlaw14_RecOrder_4 e10 f11 h) := by
  rw [S_chainmanlaw14_RecOrder_4_eq, ldn_of He (by simp)]
  simp only [List.drop_zero, List.take_succ_cons, List.take_zero, Option.bind_some, asEdge, req_true u]
  rcases Bool.eq_false_or_eq_true (edgeP f d i b).2 with hP | hP
  · obtain ⟨hb, hz⟩ := edge_back hP
    rw [hP, cond_true, req_true (by rw [hz]; omega), Option.bind_some, hb]
    simp only
    rw [stn_new (n := 4) (vs := [vI f, vI d, vI i, vB b]) rfl rfl rfl, Option.bind_some]
    simp only [Bool.not_true, cond_false]
    have K1 := cellsAt_new h [vI f, vI d, vI i, vB b]
    have K2 := cellsAt_psh (.cells [vI f, vI d, vI i, vB b]) He
    have K3 := cellsAt_psh (.cells [vI f, vI d, vI i, vB b]) Hf
    generalize psh h (.cells [vI f, vI d, vI i, vB b]) = g at K1 K2 K3 ⊢
    rw [ldn_of K1 (by simp), ldn_of K2 (by simp)]
    simp only [splice, List.take_zero, List.nil_append, List.length_cons, List.length_nil, List.drop_zero, List.take_succ_cons, Option.bind_some, leafEq, kindEq, decide_true, Bool.and_true, List.cons_append, List.drop_succ_cons, List.drop_nil, Bool.not_true,
      S_chainmanlaw14_RecOrder_7_eq, S_chainmanlaw14_RecOrder_11_eq, hz, cond_false, Nat.zero_add, Nat.reduceAdd]
    simp only [show ((17 : Nat) : Int) = 17 from rfl, decide_true, Bool.not_true, cond_false]
    rw [ldn_of K3 (by simp)]
    simp only [List.drop_zero, List.take_succ_cons, List.take_zero, Option.bind_some, asEdge, req_true u']
    rcases Bool.eq_false_or_eq_true (edgeP f' d' i' b').2 with hP' | hP'
    · rw [hP', cond_true, ldn_of K2 (by simp)]
      simp only [List.drop_zero, List.take_succ_cons, List.take_zero, Option.bind_some, edgeLessV, asEdge, edgeLtV, edge_less hP hP']
      simp only [decide_true, Bool.not_true]
      exact ord12 _
    · rw [hP', cond_false]; exact ord12 _
  · rw [hP, cond_false, S_chainmanlaw14_RecOrder_8_eq]; exact .here
/-- The two edges lie there still. -/
def Es (e10 f11 : Nat) (f d i : Int) (b : Bool) (f' d' i' : Int) (b' : Bool) (h : AHeap) : Prop :=
  cellsAt h e10 = some [vI f, vI d, vI i, vB b] ∧ cellsAt h f11 = some [vI f', vI d', vI i', vB b'] ∧
  (f < 9223372036854775808 ∧ d < 9223372036854775808 ∧ i < 9223372036854775808) ∧ (f' < 9223372036854775808 ∧ d' < 9223372036854775808 ∧ i' < 9223372036854775808)
theorem Es.psh {e10 f11 : Nat} {f d i : Int} {b : Bool} {f' d' i' : Int} {b' : Bool} {h : AHeap} (E : Es e10 f11 f d i b f' d' i' b' h) (o : AObj) : Es e10 f11 f d i b f' d' i' b' (psh h o) :=
  ⟨cellsAt_psh o E.1, cellsAt_psh o E.2.1, E.2.2⟩
theorem ord10 {e10 f11 : Nat} {f d i : Int} {b : Bool} {f' d' i' : Int} {b' : Bool} {h : AHeap} (E : Es e10 f11 f d i b f' d' i' b' h) : Tru (S_chainmanlaw14_RecOrder_10 e10 f11 false h) := by
  rw [S_chainmanlaw14_RecOrder_10_eq, cond_false]; exact ord4 E.1 E.2.1 E.2.2.1 E.2.2.2
theorem ord1 {a8 b9 e10 f11 : Nat} {f d i : Int} {b : Bool} {f' d' i' : Int} {b' : Bool} {h : AHeap} (E : Es e10 f11 f d i b f' d' i' b' h)
    {m n m' n' : Int} (Ha : cellsAt h a8 = some [vI m, vI n]) (Hb : cellsAt h b9 = some [vI m', vI n'])
    (u : m < 9223372036854775808 ∧ n < 9223372036854775808) (u' : m' < 9223372036854775808 ∧ n' < 9223372036854775808) : Tru (S_chainmanlaw14_RecOrder_1 a8 b9 e10 f11 h) := by
  rw [S_chainmanlaw14_RecOrder_1_eq, ldn_of Ha (by simp)]
  simp only [List.drop_zero, List.take_succ_cons, List.take_zero, Option.bind_some, as2, req_true u]
  rcases Bool.eq_false_or_eq_true (pairP m n).2 with hP | hP
  · obtain ⟨hb, hz⟩ := pair_back hP
    rw [hP, cond_true, req_true (by rw [hz]; omega), Option.bind_some, hb]
    simp only
    rw [stn_new (n := 2) (vs := [vI m, vI n]) rfl rfl rfl, Option.bind_some]
    simp only [Bool.not_true, cond_false]
    have K1 := cellsAt_new h [vI m, vI n]
    have K2 := cellsAt_psh (.cells [vI m, vI n]) Ha
    have K3 := cellsAt_psh (.cells [vI m, vI n]) Hb
    have E' := E.psh (.cells [vI m, vI n])
    generalize AL.psh h (.cells [vI m, vI n]) = g at K1 K2 K3 E' ⊢
    rw [ldn_of K1 (by simp), ldn_of K2 (by simp)]
    simp only [List.take_zero, List.nil_append, List.length_cons, List.length_nil, List.drop_zero, List.take_succ_cons, Option.bind_some, leafEq, kindEq, decide_true, Bool.and_true, List.drop_nil, Bool.not_true,
      S_chainmanlaw14_RecOrder_3_eq, S_chainmanlaw14_RecOrder_6_eq, hz, cond_false, show ((8 : Nat) : Int) = 8 from rfl]
    rw [ldn_of K3 (by simp)]
    simp only [List.drop_zero, List.take_succ_cons, List.take_zero, Option.bind_some, as2, req_true u']
    rcases Bool.eq_false_or_eq_true (pairP m' n').2 with hP' | hP'
    · rw [hP', cond_true]
      simp only [ld1_of K2, ld1_of K3, Option.bind_some, List.getElem?_cons_zero, List.getElem?_cons_succ, asI, kindEq, pair_less hP hP']
      by_cases e1 : m < m'
      · simp [e1]; exact ord10 E'
      · by_cases e2 : m = m'
        · subst e2; simp; exact ord10 E'
        · simp [e1, e2]; exact ord10 E'
    · rw [hP', cond_false]; exact ord10 E'
  · rw [hP, cond_false]; exact ord4 E.1 E.2.1 E.2.2.1 E.2.2.2
theorem recOrder_run (x y x' y' m n m' n' f d i f' d' i' : Int) (b b' : Bool)
    (um : m < 9223372036854775808 ∧ n < 9223372036854775808) (um' : m' < 9223372036854775808 ∧ n' < 9223372036854775808)
    (ue : f < 9223372036854775808 ∧ d < 9223372036854775808 ∧ i < 9223372036854775808) (ue' : f' < 9223372036854775808 ∧ d' < 9223372036854775808 ∧ i' < 9223372036854775808) :
    Tru (S_chainmanlaw14_RecOrder [vI x, vI y] [vI x', vI y'] [vI m, vI n] [vI m', vI n'] [vI f, vI d, vI i, vB b] [vI f', vI d', vI i', vB b'] []) := by
  rw [S_chainmanlaw14_RecOrder_eq]
  have Hp : cellsAt (psh (psh (psh (psh (psh (psh [] (.cells [vI x, vI y])) (.cells [vI x', vI y'])) (.cells [vI m, vI n])) (.cells [vI m', vI n'])) (.cells [vI f, vI d, vI i, vB b])) (.cells [vI f', vI d', vI i', vB b'])) 0 = some [vI x, vI y] := rfl
  have Hq : cellsAt (psh (psh (psh (psh (psh (psh [] (.cells [vI x, vI y])) (.cells [vI x', vI y'])) (.cells [vI m, vI n])) (.cells [vI m', vI n'])) (.cells [vI f, vI d, vI i, vB b])) (.cells [vI f', vI d', vI i', vB b'])) 1 = some [vI x', vI y'] := rfl
  have Ha : cellsAt (psh (psh (psh (psh (psh (psh [] (.cells [vI x, vI y])) (.cells [vI x', vI y'])) (.cells [vI m, vI n])) (.cells [vI m', vI n'])) (.cells [vI f, vI d, vI i, vB b])) (.cells [vI f', vI d', vI i', vB b'])) 2 = some [vI m, vI n] := rfl
  have Hb : cellsAt (psh (psh (psh (psh (psh (psh [] (.cells [vI x, vI y])) (.cells [vI x', vI y'])) (.cells [vI m, vI n])) (.cells [vI m', vI n'])) (.cells [vI f, vI d, vI i, vB b])) (.cells [vI f', vI d', vI i', vB b'])) 3 = some [vI m', vI n'] := rfl
  have E : Es 4 5 f d i b f' d' i' b' (psh (psh (psh (psh (psh (psh [] (.cells [vI x, vI y])) (.cells [vI x', vI y'])) (.cells [vI m, vI n])) (.cells [vI m', vI n'])) (.cells [vI f, vI d, vI i, vB b])) (.cells [vI f', vI d', vI i', vB b'])) := ⟨rfl, rfl, ue, ue'⟩
  have L : (psh (psh (psh (psh (psh (psh [] (.cells [vI x, vI y])) (.cells [vI x', vI y'])) (.cells [vI m, vI n])) (.cells [vI m', vI n'])) (.cells [vI f, vI d, vI i, vB b])) (.cells [vI f', vI d', vI i', vB b'])).length = 6 := rfl
  simp only [psh_length, List.length_nil, Nat.zero_add, Nat.reduceAdd]
  generalize psh (psh (psh (psh (psh (psh [] (.cells [vI x, vI y])) (.cells [vI x', vI y'])) (.cells [vI m, vI n])) (.cells [vI m', vI n'])) (.cells [vI f, vI d, vI i, vB b])) (.cells [vI f', vI d', vI i', vB b']) = h at Hp Hq Ha Hb E L ⊢
  rw [ldn_of Hp (by simp), ld1_of Ha]
  simp only [List.drop_zero, List.take_succ_cons, List.take_zero, Option.bind_some, as2, List.getElem?_cons_zero, asI, kindEq, req_true um.1]
  have ord9 : ∀ {g : AHeap}, Es 4 5 f d i b f' d' i' b' g → cellsAt g 2 = some [vI m, vI n] → cellsAt g 3 = some [vI m', vI n'] → Tru (S_chainmanlaw14_RecOrder_9 2 3 4 5 false g) := fun E h1 h2 => by
    rw [S_chainmanlaw14_RecOrder_9_eq, cond_false]; exact ord1 E h1 h2 um um'
  rcases Bool.eq_false_or_eq_true (cellP x y m).2 with hP | hP
  · obtain ⟨hb, hz⟩ := cell_back hP
    rw [hP, cond_true, req_true (by rw [hz]; omega), Option.bind_some, hb]
    simp only [← L]
    rw [stn_new (n := 2) (vs := [vI x, vI y]) rfl rfl rfl, Option.bind_some]
    simp only [Bool.not_true, cond_false]
    have K1 := cellsAt_new h [vI x, vI y]
    have K2 := cellsAt_psh (.cells [vI x, vI y]) Hp
    have K3 := cellsAt_psh (.cells [vI x, vI y]) Hq
    have K4 := cellsAt_psh (.cells [vI x, vI y]) Ha
    have K5 := cellsAt_psh (.cells [vI x, vI y]) Hb
    have E' := E.psh (.cells [vI x, vI y])
    generalize AL.psh h (.cells [vI x, vI y]) = g at K1 K2 K3 K4 K5 E' ⊢
    rw [ldn_of K1 (by simp), ldn_of K2 (by simp)]
    simp only [List.take_zero, List.nil_append, List.length_cons, List.length_nil, List.drop_zero, List.take_succ_cons, Option.bind_some, leafEq, kindEq, decide_true, Bool.and_true, List.drop_nil, Bool.not_true,
      S_chainmanlaw14_RecOrder_0_eq, S_chainmanlaw14_RecOrder_2_eq, S_chainmanlaw14_RecOrder_5_eq, hz, cond_false, show ((12 : Nat) : Int) = 12 from rfl, ld1_of K4, List.getElem?_cons_zero, asI]
    rw [ldn_of K3 (by simp), ld1_of K5]
    simp only [List.drop_zero, List.take_succ_cons, List.take_zero, Option.bind_some, as2, List.getElem?_cons_zero, asI, kindEq, req_true um'.1]
    rcases Bool.eq_false_or_eq_true (cellP x' y' m').2 with hP' | hP'
    · rw [hP', cond_true]
      simp only [ld1_of K2, ld1_of K3, ld1_of K4, ld1_of K5, Option.bind_some, List.getElem?_cons_zero, List.getElem?_cons_succ, asI, kindEq, cell_less hP hP']
      have q := ord9 E' K4 K5
      by_cases e1 : x < x'
      · simp [e1]; exact q
      · by_cases e2 : x = x'
        · subst e2
          by_cases e3 : y < y'
          · simp [e3]; exact q
          · by_cases e4 : y = y'
            · subst e4; simp; exact q
            · simp [e3, e4]; exact q
        · simp [e1, e2]; exact q
    · rw [hP', cond_false]; exact ord9 E' K4 K5
  · rw [hP, cond_false]; exact ord1 E Ha Hb um um'
theorem recOrder (x y x' y' m n m' n' f d i f' d' i' : Int) (b b' : Bool)
    (um : m < 9223372036854775808 ∧ n < 9223372036854775808) (um' : m' < 9223372036854775808 ∧ n' < 9223372036854775808)
    (ue : f < 9223372036854775808 ∧ d < 9223372036854775808 ∧ i < 9223372036854775808) (ue' : f' < 9223372036854775808 ∧ d' < 9223372036854775808 ∧ i' < 9223372036854775808) :
    ACalls Try.prog 9 [.agg [vI x, vI y], .agg [vI x', vI y'], .agg [vI m, vI n], .agg [vI m', vI n'], .agg [vI f, vI d, vI i, vB b], .agg [vI f', vI d', vI i', vB b']] [] fun e h' => e = .ret (.lit (.bool true)) ∧ True := by
  obtain ⟨h', hx⟩ := recOrder_run x y x' y' m n m' n' f d i f' d' i' b b' um um' ue ue'
  exact S_chainmanlaw14_RecOrder_ends hx fun hok _ => ends_same (L := h') hok rfl ⟨rfl, trivial⟩
end Go.Proofs.Ytpjocohpogihcaa.AL
