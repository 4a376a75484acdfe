/- The document's tree: printed. -/
import Derived.Test.YtpjocohpogihcaaTx
import Derived.Test.YtpjocohpogihcaaX7
namespace Go.Proofs.Ytpjocohpogihcaa.AL
set_option linter.unusedVariables false
set_option linter.unusedSimpArgs false
set_option maxRecDepth 100000
open Go
open Go.Proofs.Try
-- (*chainman/chainmanref15.Tree).Least: function 34
noncomputable def Echainmanref15_Tree_Least : XE := { T := tabOf [(3, r3), (4, r4), (9, r9), (46, r46), (47, r47), (52, r52), (59, r59)], C := [], D := [(5, ⟨[], [0, 1, 2, 3, 4, 5, 6, 7, 8, 9, 10, 11, 12, 13, 14, 15, 16, 17, 18, 19, 20, 21, 22, 23, 24, 25, 26, 27, 28], [], [], [], [], []⟩)], Ms := [(4, [0, 4, 5]), (6, [0, 4, 5, 43]), (7, [4])], Ml := [(3, [0, 4, 5])], Mo := [], n := 49 }
theorem Echainmanref15_Tree_Least_ok : XE.Ok Echainmanref15_Tree_Least Try.prog := ⟨tabOf_ok (⟨r3_ok, ⟨r4_ok, ⟨r9_ok, ⟨r46_ok, ⟨r47_ok, ⟨r52_ok, ⟨r59_ok, trivial⟩⟩⟩⟩⟩⟩⟩), trivial⟩
noncomputable def c34 : Code := bodyOf f34
noncomputable def S_chainmanref15_Tree_Least (t0 : Nat) (t0o : Nat) (h : AHeap) : Option (AVal × AHeap) := xfun Echainmanref15_Tree_Least f34 [(.ptr t0 t0o)] h
noncomputable def S_chainmanref15_Tree_Least_0 (t0 : Nat) (t0o : Nat) (best4 : Int) (i5 : Int) (h : AHeap) : Option (AVal × AHeap) := xexec Echainmanref15_Tree_Least (.loop (ca (ca (cb (ca (cb (cb c34))))))) (AVal × AHeap) [(0, (.ptr t0 t0o)), (4, (.lit (.int .i64 best4))), (5, (.lit (.int .i64 i5)))] h (kBlk 0 (kSeq Echainmanref15_Tree_Least (cb (cb (cb c34))) (xend Echainmanref15_Tree_Least f34)))
noncomputable def S_chainmanref15_Tree_Least_1 (t0 : Nat) (t0o : Nat) (best4 : Int) (i5 : Int) (t43 : Bool) (h : AHeap) : Option (AVal × AHeap) := jn (xexec Echainmanref15_Tree_Least (cb (ca (ca (cb (ca (ca (cb (ca (cb (cb c34)))))))))) (AVal × AHeap) [(0, (.ptr t0 t0o)), (4, (.lit (.int .i64 best4))), (5, (.lit (.int .i64 i5))), (43, (.lit (.bool t43)))] h (kBlk 1 (kSeq Echainmanref15_Tree_Least (cb (cb (ca (ca (cb (ca (cb (cb c34)))))))) (kLoop Echainmanref15_Tree_Least (ca (ca (cb (ca (cb (cb c34)))))) (kBlk 0 (kSeq Echainmanref15_Tree_Least (cb (cb (cb c34))) (xend Echainmanref15_Tree_Least f34)))))))
noncomputable def S_chainmanref15_Tree_Least_2 (best4 : Int) (h : AHeap) : Option (AVal × AHeap) := jn (xexec Echainmanref15_Tree_Least (cb (cb (cb c34))) (AVal × AHeap) [(4, (.lit (.int .i64 best4)))] h (xend Echainmanref15_Tree_Least f34))
noncomputable def S_chainmanref15_Tree_Least_3 (t0 : Nat) (t0o : Nat) (best4 : Int) (i5 : Int) (h : AHeap) : Option (AVal × AHeap) := jn (xexec Echainmanref15_Tree_Least (cb (cb (ca (ca (cb (ca (cb (cb c34)))))))) (AVal × AHeap) [(0, (.ptr t0 t0o)), (4, (.lit (.int .i64 best4))), (5, (.lit (.int .i64 i5)))] h (kLoop Echainmanref15_Tree_Least (ca (ca (cb (ca (cb (cb c34)))))) (kBlk 0 (kSeq Echainmanref15_Tree_Least (cb (cb (cb c34))) (xend Echainmanref15_Tree_Least f34)))))
theorem S_chainmanref15_Tree_Least_eq (t0 : Nat) (t0o : Nat) (h : AHeap) : S_chainmanref15_Tree_Least t0 t0o h =
 S_chainmanref15_Tree_Least_0 t0 t0o (-1) 0 h := by kernel_rfl
theorem S_chainmanref15_Tree_Least_0_eq (t0 : Nat) (t0o : Nat) (best4 : Int) (i5 : Int) (h : AHeap) : S_chainmanref15_Tree_Least_0 t0 t0o best4 i5 h =
 (ld1 h (.ptr t0 (t0o + 0))).bind fun x1 =>
 (lenV x1).bind fun n2 =>
 bif (decide (i5 < n2)) then ((ld1 h (.ptr t0 (t0o + 1))).bind fun x3 =>
 (idxP 1 x3 i5).bind fun p4 =>
 (ld1 h p4).bind fun x5 =>
 (asB x5).bind fun b6 =>
 bif (!b6) then (bif (decide (best4 < 0)) then (S_chainmanref15_Tree_Least_1 t0 t0o best4 i5 true h)
 else ((ld1 h (.ptr t0 (t0o + 0))).bind fun x7 =>
 (idxP 1 x7 i5).bind fun p8 =>
 (ld1 h p8).bind fun x9 =>
 (asS x9).bind fun s10 =>
 (ld1 h (.ptr t0 (t0o + 0))).bind fun x11 =>
 (idxP 1 x11 best4).bind fun p12 =>
 (ld1 h p12).bind fun x13 =>
 (asS x13).bind fun s14 =>
 S_chainmanref15_Tree_Least_1 t0 t0o best4 i5 (sless s10 s14) h))
 else (S_chainmanref15_Tree_Least_1 t0 t0o best4 i5 false h))
 else (S_chainmanref15_Tree_Least_2 best4 h) := (xexec_loop Echainmanref15_Tree_Least Echainmanref15_Tree_Least_ok.C.nat _ _ _ _ _).trans (by kernel_rfl)
theorem S_chainmanref15_Tree_Least_1_eq (t0 : Nat) (t0o : Nat) (best4 : Int) (i5 : Int) (t43 : Bool) (h : AHeap) : S_chainmanref15_Tree_Least_1 t0 t0o best4 i5 t43 h =
 bif t43 then (S_chainmanref15_Tree_Least_3 t0 t0o i5 i5 h)
 else (S_chainmanref15_Tree_Least_3 t0 t0o best4 i5 h) := (jn_eq _).trans (by kernel_rfl)
theorem S_chainmanref15_Tree_Least_2_eq (best4 : Int) (h : AHeap) : S_chainmanref15_Tree_Least_2 best4 h =
 some ((.tup [(.lit (.int .i64 (maxI 0 best4))), (.lit (.bool (decide (best4 ≥ 0))))]), h) := (jn_eq _).trans (by kernel_rfl)
theorem S_chainmanref15_Tree_Least_3_eq (t0 : Nat) (t0o : Nat) (best4 : Int) (i5 : Int) (h : AHeap) : S_chainmanref15_Tree_Least_3 t0 t0o best4 i5 h =
 S_chainmanref15_Tree_Least_0 t0 t0o best4 (IntKind.wrap .i64 (i5 + 1)) h := (jn_eq _).trans (by kernel_rfl)
theorem S_chainmanref15_Tree_Least_ends {t0 : Nat} {t0o : Nat} {h h' : AHeap} {v : AVal} {R : AEnd → AHeap → Prop} (hx : S_chainmanref15_Tree_Least t0 t0o h = some (v, h')) (hR : HOk h → h.length ≤ h'.length → ABody.AEnds h h' (.ret v) R) : ACalls Try.prog 34 [(.ptr t0 t0o)] h R := xfun_ends Echainmanref15_Tree_Least_ok tmix (i := 34) (by rfl) (by kernel_rfl) (by kernel_rfl) hx hR
noncomputable def w_chainmanref15_Tree_Least : XC := .q fun R args h K => match args with
  | [a0] => (onlyR (ptrV (fun b o => S_chainmanref15_Tree_Least b o) a0 h) h).bind fun r => K r
  | _ => none
theorem w_chainmanref15_Tree_Least_ok : XC.Nat w_chainmanref15_Tree_Least ∧ XC.Ok Try.prog 34 w_chainmanref15_Tree_Least := by
  refine ⟨fun R args h K => ?_, tc34, fun args h v hx => ?_⟩
  · dsimp only; split <;> simp [Option.bind_assoc, mkP]
  · dsimp only at hx; split at hx
    · obtain ⟨r, hopt, hx⟩ := Option.bind_eq_some_iff.1 hx
      cases hx
      exact (by have hopt := onlyR_some hopt; obtain ⟨b, o, rfl, hopt⟩ := ptrV_some hopt; exact S_chainmanref15_Tree_Least_ends hopt selfR)
    · cases hx
-- (*chainman/chainmanref15.Tree).Next: function 39
noncomputable def Echainmanref15_Tree_Next : XE := { T := tabOf [(3, r3), (4, r4), (9, r9), (46, r46), (47, r47), (52, r52), (59, r59)], C := [(34, w_chainmanref15_Tree_Least)], D := [], Ms := [], Ml := [], Mo := [], n := 29 }
theorem Echainmanref15_Tree_Next_ok : XE.Ok Echainmanref15_Tree_Next Try.prog := ⟨tabOf_ok (⟨r3_ok, ⟨r4_ok, ⟨r9_ok, ⟨r46_ok, ⟨r47_ok, ⟨r52_ok, ⟨r59_ok, trivial⟩⟩⟩⟩⟩⟩⟩), ⟨w_chainmanref15_Tree_Least_ok, trivial⟩⟩
noncomputable def c39 : Code := bodyOf f39
noncomputable def S_chainmanref15_Tree_Next (t0 : Nat) (t0o : Nat) (head1 : ByteArray) (over2 : Bool) (h : AHeap) : Option (AVal × AHeap) := xfun Echainmanref15_Tree_Next f39 [(.ptr t0 t0o), (.lit (.string head1)), (.lit (.bool over2))] h
theorem S_chainmanref15_Tree_Next_eq (t0 : Nat) (t0o : Nat) (head1 : ByteArray) (over2 : Bool) (h : AHeap) : S_chainmanref15_Tree_Next t0 t0o head1 over2 h =
 (onlyR (ptrV (fun b o => S_chainmanref15_Tree_Least b o) (.ptr t0 t0o) h) h).bind fun r1 =>
 (xExtract r1 0).bind fun x2 =>
 (asI .i64 x2).bind fun n3 =>
 (xExtract r1 1).bind fun x4 =>
 (asB x4).bind fun b5 =>
 bif (!b5) then (some ((.tup []), h))
 else ((ld1 h (.ptr t0 (t0o + 0))).bind fun x6 =>
 (idxP 1 x6 n3).bind fun p7 =>
 (st1 h p7 (.lit (.string head1))).bind fun h8 =>
 (ld1 h8 (.ptr t0 (t0o + 1))).bind fun x9 =>
 (idxP 1 x9 n3).bind fun p10 =>
 (st1 h8 p10 (.lit (.bool over2))).bind fun h11 =>
 some ((.tup []), h11)) := by kernel_rfl
theorem S_chainmanref15_Tree_Next_ends {t0 : Nat} {t0o : Nat} {head1 : ByteArray} {over2 : Bool} {h h' : AHeap} {v : AVal} {R : AEnd → AHeap → Prop} (hx : S_chainmanref15_Tree_Next t0 t0o head1 over2 h = some (v, h')) (hR : HOk h → h.length ≤ h'.length → ABody.AEnds h h' (.ret v) R) : ACalls Try.prog 39 [(.ptr t0 t0o), (.lit (.string head1)), (.lit (.bool over2))] h R := xfun_ends Echainmanref15_Tree_Next_ok tmix (i := 39) (by rfl) (by kernel_rfl) (by kernel_rfl) hx hR
-- (*chainman/chainmanref15.Tree).Left: function 36
noncomputable def Echainmanref15_Tree_Left : XE := { T := tabOf [(3, r3), (4, r4), (9, r9), (46, r46), (47, r47), (52, r52), (59, r59)], C := [], D := [], Ms := [(4, [0, 3, 4]), (7, [3])], Ml := [(3, [0, 3, 4])], Mo := [], n := 25 }
theorem Echainmanref15_Tree_Left_ok : XE.Ok Echainmanref15_Tree_Left Try.prog := ⟨tabOf_ok (⟨r3_ok, ⟨r4_ok, ⟨r9_ok, ⟨r46_ok, ⟨r47_ok, ⟨r52_ok, ⟨r59_ok, trivial⟩⟩⟩⟩⟩⟩⟩), trivial⟩
noncomputable def c36 : Code := bodyOf f36
noncomputable def S_chainmanref15_Tree_Left (t0 : Nat) (t0o : Nat) (h : AHeap) : Option (AVal × AHeap) := xfun Echainmanref15_Tree_Left f36 [(.ptr t0 t0o)] h
noncomputable def S_chainmanref15_Tree_Left_0 (t0 : Nat) (t0o : Nat) (n3 : Int) (i4 : Int) (h : AHeap) : Option (AVal × AHeap) := xexec Echainmanref15_Tree_Left (.loop (ca (ca (cb (ca (cb (cb c36))))))) (AVal × AHeap) [(0, (.ptr t0 t0o)), (3, (.lit (.int .i64 n3))), (4, (.lit (.int .i64 i4)))] h (kBlk 0 (kSeq Echainmanref15_Tree_Left (cb (cb (cb c36))) (xend Echainmanref15_Tree_Left f36)))
noncomputable def S_chainmanref15_Tree_Left_1 (t0 : Nat) (t0o : Nat) (n3 : Int) (i4 : Int) (h : AHeap) : Option (AVal × AHeap) := jn (xexec Echainmanref15_Tree_Left (cb (cb (ca (ca (cb (ca (cb (cb c36)))))))) (AVal × AHeap) [(0, (.ptr t0 t0o)), (3, (.lit (.int .i64 n3))), (4, (.lit (.int .i64 i4)))] h (kLoop Echainmanref15_Tree_Left (ca (ca (cb (ca (cb (cb c36)))))) (kBlk 0 (kSeq Echainmanref15_Tree_Left (cb (cb (cb c36))) (xend Echainmanref15_Tree_Left f36)))))
noncomputable def S_chainmanref15_Tree_Left_2 (n3 : Int) (h : AHeap) : Option (AVal × AHeap) := jn (xexec Echainmanref15_Tree_Left (cb (cb (cb c36))) (AVal × AHeap) [(3, (.lit (.int .i64 n3)))] h (xend Echainmanref15_Tree_Left f36))
theorem S_chainmanref15_Tree_Left_eq (t0 : Nat) (t0o : Nat) (h : AHeap) : S_chainmanref15_Tree_Left t0 t0o h =
 S_chainmanref15_Tree_Left_0 t0 t0o 0 0 h := by kernel_rfl
theorem S_chainmanref15_Tree_Left_0_eq (t0 : Nat) (t0o : Nat) (n3 : Int) (i4 : Int) (h : AHeap) : S_chainmanref15_Tree_Left_0 t0 t0o n3 i4 h =
 (ld1 h (.ptr t0 (t0o + 1))).bind fun x1 =>
 (lenV x1).bind fun n2 =>
 bif (decide (i4 < n2)) then ((ld1 h (.ptr t0 (t0o + 1))).bind fun x3 =>
 (idxP 1 x3 i4).bind fun p4 =>
 (ld1 h p4).bind fun x5 =>
 (asB x5).bind fun b6 =>
 bif (!b6) then (S_chainmanref15_Tree_Left_1 t0 t0o (IntKind.wrap .i64 (n3 + 1)) i4 h)
 else (S_chainmanref15_Tree_Left_1 t0 t0o n3 i4 h))
 else (S_chainmanref15_Tree_Left_2 n3 h) := (xexec_loop Echainmanref15_Tree_Left Echainmanref15_Tree_Left_ok.C.nat _ _ _ _ _).trans (by kernel_rfl)
theorem S_chainmanref15_Tree_Left_1_eq (t0 : Nat) (t0o : Nat) (n3 : Int) (i4 : Int) (h : AHeap) : S_chainmanref15_Tree_Left_1 t0 t0o n3 i4 h =
 S_chainmanref15_Tree_Left_0 t0 t0o n3 (IntKind.wrap .i64 (i4 + 1)) h := (jn_eq _).trans (by kernel_rfl)
theorem S_chainmanref15_Tree_Left_2_eq (n3 : Int) (h : AHeap) : S_chainmanref15_Tree_Left_2 n3 h =
 some ((.lit (.int .i64 n3)), h) := (jn_eq _).trans (by kernel_rfl)
theorem S_chainmanref15_Tree_Left_ends {t0 : Nat} {t0o : Nat} {h h' : AHeap} {v : AVal} {R : AEnd → AHeap → Prop} (hx : S_chainmanref15_Tree_Left t0 t0o h = some (v, h')) (hR : HOk h → h.length ≤ h'.length → ABody.AEnds h h' (.ret v) R) : ACalls Try.prog 36 [(.ptr t0 t0o)] h R := xfun_ends Echainmanref15_Tree_Left_ok tmix (i := 36) (by rfl) (by kernel_rfl) (by kernel_rfl) hx hR
-- chainman/chainmanref15.New: function 32
noncomputable def Echainmanref15_New : XE := { T := tabOf [(3, r3), (4, r4), (9, r9), (46, r46), (47, r47), (52, r52), (59, r59)], C := [], D := [(7, ⟨[0, 1, 5, 6], [2, 3, 4, 7, 8, 9], [10, 11, 12, 13], [9], [], [], []⟩), (8, ⟨[0, 1, 5, 6], [2, 3, 4, 7, 8, 9, 10, 11, 12, 13, 14, 15], [16, 17, 18, 19], [15], [], [], []⟩)], Ms := [(6, [0, 1, 5, 6]), (9, [5])], Ml := [(5, [0, 1, 5, 6])], Mo := [], n := 51 }
theorem Echainmanref15_New_ok : XE.Ok Echainmanref15_New Try.prog := ⟨tabOf_ok (⟨r3_ok, ⟨r4_ok, ⟨r9_ok, ⟨r46_ok, ⟨r47_ok, ⟨r52_ok, ⟨r59_ok, trivial⟩⟩⟩⟩⟩⟩⟩), trivial⟩
noncomputable def c32 : Code := bodyOf f32
noncomputable def S_chainmanref15_New (heads0 : AVal) (over1 : AVal) (h : AHeap) : Option (AVal × AHeap) := xfun Echainmanref15_New f32 [heads0, over1] h
noncomputable def S_chainmanref15_New_0 (heads0 : AVal) (over1 : AVal) (t5 : Nat) (i6 : Int) (h : AHeap) : Option (AVal × AHeap) := xexec Echainmanref15_New (.loop (ca (ca (cb (ca (cb (cb (cb c32)))))))) (AVal × AHeap) [(0, heads0), (1, over1), (5, (.ptr t5 0)), (6, (.lit (.int .i64 i6)))] h (kBlk 0 (kSeq Echainmanref15_New (cb (cb (cb (cb c32)))) (xend Echainmanref15_New f32)))
noncomputable def S_chainmanref15_New_1 (heads0 : AVal) (over1 : AVal) (t5 : Nat) (i6 : Int) (h : AHeap) : Option (AVal × AHeap) := jn (xexec Echainmanref15_New (cb (cb (ca (ca (cb (ca (cb (cb (cb c32))))))))) (AVal × AHeap) [(0, heads0), (1, over1), (5, (.ptr t5 0)), (6, (.lit (.int .i64 i6)))] h (kLoop Echainmanref15_New (ca (ca (cb (ca (cb (cb (cb c32))))))) (kBlk 0 (kSeq Echainmanref15_New (cb (cb (cb (cb c32)))) (xend Echainmanref15_New f32)))))
noncomputable def S_chainmanref15_New_2 (t5 : Nat) (h : AHeap) : Option (AVal × AHeap) := jn (xexec Echainmanref15_New (cb (cb (cb (cb c32)))) (AVal × AHeap) [(5, (.ptr t5 0))] h (xend Echainmanref15_New f32))
theorem S_chainmanref15_New_eq (heads0 : AVal) (over1 : AVal) (h : AHeap) : S_chainmanref15_New heads0 over1 h =
 (lenV heads0).bind fun n1 =>
 bif (decide (n1 > 64)) then (some ((.lit (.pointer none)), h))
 else (S_chainmanref15_New_0 heads0 over1 h.length 0 ((psh h (.cells ([(.lit (.slice none 0 0)), (.lit (.slice none 0 0))]))))) := by kernel_rfl
theorem S_chainmanref15_New_0_eq (heads0 : AVal) (over1 : AVal) (t5 : Nat) (i6 : Int) (h : AHeap) : S_chainmanref15_New_0 heads0 over1 t5 i6 h =
 (lenV heads0).bind fun n2 =>
 bif (decide (i6 < n2)) then ((ld1 h (.ptr t5 0)).bind fun x3 =>
 (idxP 1 heads0 i6).bind fun p4 =>
 (ld1 h p4).bind fun x5 =>
 (asS x5).bind fun s6 =>
 (blitA 1 [(.lit (.string ({ data := #[] })))] 1 [(0, (.lit (.string s6)))]).bind fun cs7 =>
 (appV 1 16 (apd h [.cells cs7]) x3 (.sl 1 h.length 0 1)).bind fun r8 =>
 (st1 r8.2 (.ptr t5 0) r8.1).bind fun h9 =>
 (ld1 h9 (.ptr t5 1)).bind fun x10 =>
 (lenV over1).bind fun n11 =>
 bif (decide (i6 < n11)) then ((idxP 1 over1 i6).bind fun p12 =>
 (ld1 h9 p12).bind fun x13 =>
 (asB x13).bind fun b14 =>
 (blitA 1 [(.lit (.bool false))] 1 [(0, (.lit (.bool b14)))]).bind fun cs15 =>
 (appV 1 1 (apd h9 [.cells cs15]) x10 (.sl 1 h9.length 0 1)).bind fun r16 =>
 (st1 r16.2 (.ptr t5 1) r16.1).bind fun h17 =>
 S_chainmanref15_New_1 heads0 over1 t5 i6 h17)
 else ((blitA 1 [(.lit (.bool false))] 1 [(0, (.lit (.bool false)))]).bind fun cs18 =>
 (appV 1 1 (apd h9 [.cells cs18]) x10 (.sl 1 h9.length 0 1)).bind fun r19 =>
 (st1 r19.2 (.ptr t5 1) r19.1).bind fun h20 =>
 S_chainmanref15_New_1 heads0 over1 t5 i6 h20))
 else (S_chainmanref15_New_2 t5 h) := (xexec_loop Echainmanref15_New Echainmanref15_New_ok.C.nat _ _ _ _ _).trans (by kernel_rfl)
theorem S_chainmanref15_New_1_eq (heads0 : AVal) (over1 : AVal) (t5 : Nat) (i6 : Int) (h : AHeap) : S_chainmanref15_New_1 heads0 over1 t5 i6 h =
 S_chainmanref15_New_0 heads0 over1 t5 (IntKind.wrap .i64 (i6 + 1)) h := (jn_eq _).trans (by kernel_rfl)
theorem S_chainmanref15_New_2_eq (t5 : Nat) (h : AHeap) : S_chainmanref15_New_2 t5 h =
 some ((.ptr t5 0), h) := (jn_eq _).trans (by kernel_rfl)
theorem S_chainmanref15_New_ends {heads0 : AVal} {over1 : AVal} {h h' : AHeap} {v : AVal} {R : AEnd → AHeap → Prop} (hx : S_chainmanref15_New heads0 over1 h = some (v, h')) (hR : HOk h → h.length ≤ h'.length → ABody.AEnds h h' (.ret v) R) : ACalls Try.prog 32 [heads0, over1] h R := xfun_ends Echainmanref15_New_ok tmix (i := 32) (by rfl) (by kernel_rfl) (by kernel_rfl) hx hR
end Go.Proofs.Ytpjocohpogihcaa.AL
