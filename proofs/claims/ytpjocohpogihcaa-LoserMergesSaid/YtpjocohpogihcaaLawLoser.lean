/- The law: whatever heads come, the least is the document's. -/
import Derived.Test.YtpjocohpogihcaaLoserRef
import Derived.Test.YtpjocohpogihcaaAwLoser
namespace Go.Proofs.Ytpjocohpogihcaa.AL
set_option linter.unusedVariables false
set_option linter.unusedSimpArgs false
set_option maxRecDepth 100000
open Go
open Go.Proofs.Try
-- chainman/chainmanref06.Few: function 29
noncomputable def Echainmanref06_Few : XE := { T := tabOf [(3, r3), (4, r4), (9, r9), (46, r46)], C := [], D := [], Ms := [(6, [0, 1])], Ml := [(2, [0, 1, 5])], Mo := [(2009, [0, 1, 5, 14])], n := 27 }
theorem Echainmanref06_Few_ok : XE.Ok Echainmanref06_Few Try.prog := ⟨tabOf_ok (⟨r3_ok, ⟨r4_ok, ⟨r9_ok, ⟨r46_ok, trivial⟩⟩⟩⟩), trivial⟩
noncomputable def c29 : Code := bodyOf f29
noncomputable def S_chainmanref06_Few (l0 : AVal) (most1 : Int) (h : AHeap) : Option (AVal × AHeap) := xfun Echainmanref06_Few f29 [l0, (.lit (.int .i64 most1))] h
noncomputable def S_chainmanref06_Few_0 (l0 : AVal) (most1 : Int) (i5 : Int) (h : AHeap) : Option (AVal × AHeap) := xexec Echainmanref06_Few (.loop (ca (ca (cb (ca (cb c29)))))) (AVal × AHeap) [(0, l0), (1, (.lit (.int .i64 most1))), (5, (.lit (.int .i64 i5)))] h (kBlk 0 (kSeq Echainmanref06_Few (cb (cb c29)) (xend Echainmanref06_Few f29)))
noncomputable def S_chainmanref06_Few_1 (l0 : AVal) (most1 : Int) (i5 : Int) (t14 : Bool) (h : AHeap) : Option (AVal × AHeap) := jn (xops Echainmanref06_Few 2 (rops (ca (ca (ca (ca (cb (ca (cb c29)))))))) ((rops (ca (ca (ca (ca (cb (ca (cb c29)))))))).toList.drop 9) 9 [(0, l0), (1, (.lit (.int .i64 most1))), (5, (.lit (.int .i64 i5))), (14, (.lit (.bool t14)))] h (kN (kSeq Echainmanref06_Few (cb (ca (ca (ca (cb (ca (cb c29))))))) (kSeq Echainmanref06_Few (cb (ca (ca (cb (ca (cb c29)))))) (kLoop Echainmanref06_Few (ca (ca (cb (ca (cb c29))))) (kBlk 0 (kSeq Echainmanref06_Few (cb (cb c29)) (xend Echainmanref06_Few f29))))))))
noncomputable def S_chainmanref06_Few_2 (l0 : AVal) (most1 : Int) (h : AHeap) : Option (AVal × AHeap) := jn (xexec Echainmanref06_Few (cb (cb c29)) (AVal × AHeap) [(0, l0), (1, (.lit (.int .i64 most1)))] h (xend Echainmanref06_Few f29))
theorem S_chainmanref06_Few_eq (l0 : AVal) (most1 : Int) (h : AHeap) : S_chainmanref06_Few l0 most1 h =
 S_chainmanref06_Few_0 l0 most1 0 h := by kernel_rfl
theorem S_chainmanref06_Few_0_eq (l0 : AVal) (most1 : Int) (i5 : Int) (h : AHeap) : S_chainmanref06_Few_0 l0 most1 i5 h =
 (lenV l0).bind fun n1 =>
 bif (decide (i5 < n1)) then (S_chainmanref06_Few_1 l0 most1 i5 (decide (i5 < most1)) h)
 else (S_chainmanref06_Few_1 l0 most1 i5 false h) := (xexec_loop Echainmanref06_Few Echainmanref06_Few_ok.C.nat _ _ _ _ _).trans (by kernel_rfl)
theorem S_chainmanref06_Few_1_eq (l0 : AVal) (most1 : Int) (i5 : Int) (t14 : Bool) (h : AHeap) : S_chainmanref06_Few_1 l0 most1 i5 t14 h =
 bif t14 then ((idxP 1 l0 i5).bind fun p2 =>
 (ld1 h p2).bind fun x3 =>
 (asS x3).bind fun s4 =>
 bif (decide ((s4.size : Int) > 80)) then (some ((.lit (.bool false)), h))
 else (S_chainmanref06_Few_0 l0 most1 (IntKind.wrap .i64 (i5 + 1)) h))
 else (S_chainmanref06_Few_2 l0 most1 h) := (jn_eq _).trans (by kernel_rfl)
theorem S_chainmanref06_Few_2_eq (l0 : AVal) (most1 : Int) (h : AHeap) : S_chainmanref06_Few_2 l0 most1 h =
 (lenV l0).bind fun n5 =>
 some ((.lit (.bool (decide (n5 ≤ most1)))), h) := (jn_eq _).trans (by kernel_rfl)
theorem S_chainmanref06_Few_ends {l0 : AVal} {most1 : Int} {h h' : AHeap} {v : AVal} {R : AEnd → AHeap → Prop} (hx : S_chainmanref06_Few l0 most1 h = some (v, h')) (hR : HOk h → h.length ≤ h'.length → ABody.AEnds h h' (.ret v) R) : ACalls Try.prog 29 [l0, (.lit (.int .i64 most1))] h R := xfun_ends Echainmanref06_Few_ok tmix (i := 29) (by rfl) (by kernel_rfl) (by kernel_rfl) hx hR
noncomputable def w_chainmanref06_Few : XC := .q fun R args h K => match args with
  | [a0, .lit (.int .i64 a1)] => (onlyR (S_chainmanref06_Few a0 a1 h) h).bind fun r => K r
  | _ => none
theorem w_chainmanref06_Few_ok : XC.Nat w_chainmanref06_Few ∧ XC.Ok Try.prog 29 w_chainmanref06_Few := by
  refine ⟨fun R args h K => ?_, tc29, fun args h v hx => ?_⟩
  · dsimp only; split <;> simp [Option.bind_assoc, mkP]
  · dsimp only at hx; split at hx
    · obtain ⟨r, hopt, hx⟩ := Option.bind_eq_some_iff.1 hx
      cases hx
      exact (by have hopt := onlyR_some hopt; exact S_chainmanref06_Few_ends hopt selfR)
    · cases hx
noncomputable def w_loser_New : XC := .l fun R args h K => match args with
  | [a0, a1] => (S_loser_New a0 a1 h).bind fun r => K r.1 r.2
  | _ => none
theorem w_loser_New_ok : XC.Nat w_loser_New ∧ XC.Ok Try.prog 31 w_loser_New := by
  refine ⟨fun R args h K => ?_, tc31, fun args h v h' hx => ?_⟩
  · dsimp only; split <;> simp [Option.bind_assoc, mkP]
  · dsimp only at hx; split at hx
    · obtain ⟨r, hopt, hx⟩ := Option.bind_eq_some_iff.1 hx
      simp only [mkP, Option.some.injEq, Prod.mk.injEq] at hx
      obtain ⟨rfl, rfl⟩ := hx
      exact (by obtain ⟨v, h'⟩ := r; exact S_loser_New_ends hopt selfR)
    · cases hx
noncomputable def w_chainmanref15_New : XC := .l fun R args h K => match args with
  | [a0, a1] => (S_chainmanref15_New a0 a1 h).bind fun r => K r.1 r.2
  | _ => none
theorem w_chainmanref15_New_ok : XC.Nat w_chainmanref15_New ∧ XC.Ok Try.prog 32 w_chainmanref15_New := by
  refine ⟨fun R args h K => ?_, tc32, fun args h v h' hx => ?_⟩
  · dsimp only; split <;> simp [Option.bind_assoc, mkP]
  · dsimp only at hx; split at hx
    · obtain ⟨r, hopt, hx⟩ := Option.bind_eq_some_iff.1 hx
      simp only [mkP, Option.some.injEq, Prod.mk.injEq] at hx
      obtain ⟨rfl, rfl⟩ := hx
      exact (by obtain ⟨v, h'⟩ := r; exact S_chainmanref15_New_ends hopt selfR)
    · cases hx
noncomputable def w_loser_Tree_Least : XC := .q fun R args h K => match args with
  | [a0] => (onlyR (ptrV (fun b o => S_loser_Tree_Least b o) a0 h) h).bind fun r => K r
  | _ => none
theorem w_loser_Tree_Least_ok : XC.Nat w_loser_Tree_Least ∧ XC.Ok Try.prog 33 w_loser_Tree_Least := by
  refine ⟨fun R args h K => ?_, tc33, fun args h v hx => ?_⟩
  · dsimp only; split <;> simp [Option.bind_assoc, mkP]
  · dsimp only at hx; split at hx
    · obtain ⟨r, hopt, hx⟩ := Option.bind_eq_some_iff.1 hx
      cases hx
      exact (by have hopt := onlyR_some hopt; obtain ⟨b, o, rfl, hopt⟩ := ptrV_some hopt; exact S_loser_Tree_Least_ends hopt selfR)
    · cases hx
noncomputable def w_loser_Tree_Head : XC := .q fun R args h K => match args with
  | [a0] => (onlyR (ptrV (fun b o => S_loser_Tree_Head b o) a0 h) h).bind fun r => K r
  | _ => none
theorem w_loser_Tree_Head_ok : XC.Nat w_loser_Tree_Head ∧ XC.Ok Try.prog 37 w_loser_Tree_Head := by
  refine ⟨fun R args h K => ?_, tc37, fun args h v hx => ?_⟩
  · dsimp only; split <;> simp [Option.bind_assoc, mkP]
  · dsimp only at hx; split at hx
    · obtain ⟨r, hopt, hx⟩ := Option.bind_eq_some_iff.1 hx
      cases hx
      exact (by have hopt := onlyR_some hopt; obtain ⟨b, o, rfl, hopt⟩ := ptrV_some hopt; exact S_loser_Tree_Head_ends hopt selfR)
    · cases hx
noncomputable def w_loser_Tree_Left : XC := .q fun R args h K => match args with
  | [a0] => (onlyR (ptrV (fun b o => S_loser_Tree_Left b o) a0 h) h).bind fun r => K r
  | _ => none
theorem w_loser_Tree_Left_ok : XC.Nat w_loser_Tree_Left ∧ XC.Ok Try.prog 35 w_loser_Tree_Left := by
  refine ⟨fun R args h K => ?_, tc35, fun args h v hx => ?_⟩
  · dsimp only; split <;> simp [Option.bind_assoc, mkP]
  · dsimp only at hx; split at hx
    · obtain ⟨r, hopt, hx⟩ := Option.bind_eq_some_iff.1 hx
      cases hx
      exact (by have hopt := onlyR_some hopt; obtain ⟨b, o, rfl, hopt⟩ := ptrV_some hopt; exact S_loser_Tree_Left_ends hopt selfR)
    · cases hx
noncomputable def w_loser_Tree_Next : XC := .l fun R args h K => match args with
  | [a0, .lit (.string a1), .lit (.bool a2)] => (ptrV (fun b o => S_loser_Tree_Next b o a1 a2) a0 h).bind fun r => K r.1 r.2
  | _ => none
theorem w_loser_Tree_Next_ok : XC.Nat w_loser_Tree_Next ∧ XC.Ok Try.prog 38 w_loser_Tree_Next := by
  refine ⟨fun R args h K => ?_, tc38, fun args h v h' hx => ?_⟩
  · dsimp only; split <;> simp [Option.bind_assoc, mkP]
  · dsimp only at hx; split at hx
    · obtain ⟨r, hopt, hx⟩ := Option.bind_eq_some_iff.1 hx
      simp only [mkP, Option.some.injEq, Prod.mk.injEq] at hx
      obtain ⟨rfl, rfl⟩ := hx
      exact (by obtain ⟨v, h'⟩ := r; obtain ⟨b, o, rfl, hopt⟩ := ptrV_some hopt; exact S_loser_Tree_Next_ends hopt selfR)
    · cases hx
noncomputable def w_chainmanref15_Tree_Left : XC := .q fun R args h K => match args with
  | [a0] => (onlyR (ptrV (fun b o => S_chainmanref15_Tree_Left b o) a0 h) h).bind fun r => K r
  | _ => none
theorem w_chainmanref15_Tree_Left_ok : XC.Nat w_chainmanref15_Tree_Left ∧ XC.Ok Try.prog 36 w_chainmanref15_Tree_Left := by
  refine ⟨fun R args h K => ?_, tc36, fun args h v hx => ?_⟩
  · dsimp only; split <;> simp [Option.bind_assoc, mkP]
  · dsimp only at hx; split at hx
    · obtain ⟨r, hopt, hx⟩ := Option.bind_eq_some_iff.1 hx
      cases hx
      exact (by have hopt := onlyR_some hopt; obtain ⟨b, o, rfl, hopt⟩ := ptrV_some hopt; exact S_chainmanref15_Tree_Left_ends hopt selfR)
    · cases hx
noncomputable def w_chainmanref15_Tree_Next : XC := .l fun R args h K => match args with
  | [a0, .lit (.string a1), .lit (.bool a2)] => (ptrV (fun b o => S_chainmanref15_Tree_Next b o a1 a2) a0 h).bind fun r => K r.1 r.2
  | _ => none
theorem w_chainmanref15_Tree_Next_ok : XC.Nat w_chainmanref15_Tree_Next ∧ XC.Ok Try.prog 39 w_chainmanref15_Tree_Next := by
  refine ⟨fun R args h K => ?_, tc39, fun args h v h' hx => ?_⟩
  · dsimp only; split <;> simp [Option.bind_assoc, mkP]
  · dsimp only at hx; split at hx
    · obtain ⟨r, hopt, hx⟩ := Option.bind_eq_some_iff.1 hx
      simp only [mkP, Option.some.injEq, Prod.mk.injEq] at hx
      obtain ⟨rfl, rfl⟩ := hx
      exact (by obtain ⟨v, h'⟩ := r; obtain ⟨b, o, rfl, hopt⟩ := ptrV_some hopt; exact S_chainmanref15_Tree_Next_ends hopt selfR)
    · cases hx
noncomputable def w_chainmanlaw15_awake : XC := .p fun R args K => match args with
  | [] => K (.lit (.bool true))
  | _ => none
theorem w_chainmanlaw15_awake_ok : XC.Nat w_chainmanlaw15_awake ∧ XC.Ok Try.prog 30 w_chainmanlaw15_awake := by
  refine ⟨fun R args K => ?_, tc30, fun args h v hx => ?_⟩
  · dsimp only; split <;> simp [Option.bind_assoc, mkP]
  · dsimp only at hx; split at hx
    · cases hx
      exact awake15_run _
    · cases hx
-- chainman/chainmanlaw15.LoserPlays: function 5
noncomputable def Echainmanlaw15_LoserPlays : XE := { T := tabOf [(3, r3), (4, r4), (9, r9), (46, r46), (47, r47), (48, r48), (50, r50), (52, r52), (59, r59), (61, r61)], C := [(29, w_chainmanref06_Few), (30, w_chainmanlaw15_awake), (31, w_loser_New), (32, w_chainmanref15_New), (33, w_loser_Tree_Least), (34, w_chainmanref15_Tree_Least), (35, w_loser_Tree_Left), (36, w_chainmanref15_Tree_Left), (37, w_loser_Tree_Head), (38, w_loser_Tree_Next), (39, w_chainmanref15_Tree_Next)], D := [(11, ⟨[], [0, 1, 2, 3, 4, 5, 6, 7, 8, 9, 10, 11, 12, 13, 14, 15, 16, 17, 18, 19, 20, 21, 22, 23, 24, 25, 26, 27, 28, 29, 30, 31, 32, 33, 34, 35, 36, 37, 38], [], [], [], [], []⟩), (16, ⟨[], [0, 1, 2, 3, 4, 5, 6, 7, 8, 9, 10], [11], [], [], [], []⟩), (17, ⟨[], [0, 1, 2, 3, 4, 5, 6, 7, 8, 9, 10], [11], [], [], [], []⟩)], Ms := [(8, [2, 7, 8, 9]), (12, [2, 7, 8, 9, 90]), (18, [])], Ml := [(7, [2, 7, 8, 9])], Mo := [(1008, [0, 1, 2, 21]), (1013, [0, 1, 2, 26])], n := 128 }
theorem Echainmanlaw15_LoserPlays_ok : XE.Ok Echainmanlaw15_LoserPlays Try.prog := ⟨tabOf_ok (⟨r3_ok, ⟨r4_ok, ⟨r9_ok, ⟨r46_ok, ⟨r47_ok, ⟨r48_ok, ⟨r50_ok, ⟨r52_ok, ⟨r59_ok, ⟨r61_ok, trivial⟩⟩⟩⟩⟩⟩⟩⟩⟩⟩), ⟨w_chainmanref06_Few_ok, ⟨w_chainmanlaw15_awake_ok, ⟨w_loser_New_ok, ⟨w_chainmanref15_New_ok, ⟨w_loser_Tree_Least_ok, ⟨w_chainmanref15_Tree_Least_ok, ⟨w_loser_Tree_Left_ok, ⟨w_chainmanref15_Tree_Left_ok, ⟨w_loser_Tree_Head_ok, ⟨w_loser_Tree_Next_ok, ⟨w_chainmanref15_Tree_Next_ok, trivial⟩⟩⟩⟩⟩⟩⟩⟩⟩⟩⟩⟩
noncomputable def c5 : Code := bodyOf f5
noncomputable def S_chainmanlaw15_LoserPlays (heads0 : AVal) (over1 : AVal) (steps2 : AVal) (h : AHeap) : Option (AVal × AHeap) := xfun Echainmanlaw15_LoserPlays f5 [heads0, over1, steps2] h
noncomputable def S_chainmanlaw15_LoserPlays_0 (heads0 : AVal) (over1 : AVal) (steps2 : AVal) (t21 : Bool) (h : AHeap) : Option (AVal × AHeap) := jn (xops Echainmanlaw15_LoserPlays 1 (rops (ca (ca (cb c5)))) ((rops (ca (ca (cb c5)))).toList.drop 8) 8 [(0, heads0), (1, over1), (2, steps2), (21, (.lit (.bool t21)))] h (kN (kSeq Echainmanlaw15_LoserPlays (cb (ca (cb c5))) (kSeq Echainmanlaw15_LoserPlays (cb (cb c5)) (xend Echainmanlaw15_LoserPlays f5)))))
noncomputable def S_chainmanlaw15_LoserPlays_1 (heads0 : AVal) (over1 : AVal) (steps2 : AVal) (t26 : Bool) (h : AHeap) : Option (AVal × AHeap) := jn (xops Echainmanlaw15_LoserPlays 1 (rops (ca (ca (cb c5)))) ((rops (ca (ca (cb c5)))).toList.drop 13) 13 [(0, heads0), (1, over1), (2, steps2), (26, (.lit (.bool t26)))] h (kN (kSeq Echainmanlaw15_LoserPlays (cb (ca (cb c5))) (kSeq Echainmanlaw15_LoserPlays (cb (cb c5)) (xend Echainmanlaw15_LoserPlays f5)))))
noncomputable def S_chainmanlaw15_LoserPlays_2 (steps2 : AVal) (t7 : AVal) (x8 : AVal) (i9 : Int) (h : AHeap) : Option (AVal × AHeap) := xexec Echainmanlaw15_LoserPlays (.loop (ca (ca (cb (ca (cb (cb (cb (cb c5))))))))) (AVal × AHeap) [(2, steps2), (7, t7), (8, x8), (9, (.lit (.int .i64 i9)))] h (kBlk 0 (kSeq Echainmanlaw15_LoserPlays (cb (cb (cb (cb (cb c5))))) (xend Echainmanlaw15_LoserPlays f5)))
noncomputable def S_chainmanlaw15_LoserPlays_3 (steps2 : AVal) (t7 : AVal) (x8 : AVal) (i9 : Int) (t90 : Bool) (h : AHeap) : Option (AVal × AHeap) := jn (xexec Echainmanlaw15_LoserPlays (cb (ca (cb (cb (ca (ca (cb (ca (ca (cb (ca (cb (cb (cb (cb c5))))))))))))))) (AVal × AHeap) [(2, steps2), (7, t7), (8, x8), (9, (.lit (.int .i64 i9))), (90, (.lit (.bool t90)))] h (kSeq Echainmanlaw15_LoserPlays (cb (cb (cb (ca (ca (cb (ca (ca (cb (ca (cb (cb (cb (cb c5)))))))))))))) (kBlk 1 (kSeq Echainmanlaw15_LoserPlays (cb (cb (ca (ca (cb (ca (cb (cb (cb (cb c5)))))))))) (kLoop Echainmanlaw15_LoserPlays (ca (ca (cb (ca (cb (cb (cb (cb c5)))))))) (kBlk 0 (kSeq Echainmanlaw15_LoserPlays (cb (cb (cb (cb (cb c5))))) (xend Echainmanlaw15_LoserPlays f5))))))))
noncomputable def S_chainmanlaw15_LoserPlays_4  (h : AHeap) : Option (AVal × AHeap) := jn (xexec Echainmanlaw15_LoserPlays (cb (cb (cb (cb (cb c5))))) (AVal × AHeap) [] h (xend Echainmanlaw15_LoserPlays f5))
noncomputable def S_chainmanlaw15_LoserPlays_5 (steps2 : AVal) (t7 : AVal) (x8 : AVal) (i9 : Int) (h : AHeap) : Option (AVal × AHeap) := jn (xexec Echainmanlaw15_LoserPlays (cb (cb (ca (ca (cb (ca (cb (cb (cb (cb c5)))))))))) (AVal × AHeap) [(2, steps2), (7, t7), (8, x8), (9, (.lit (.int .i64 i9)))] h (kLoop Echainmanlaw15_LoserPlays (ca (ca (cb (ca (cb (cb (cb (cb c5)))))))) (kBlk 0 (kSeq Echainmanlaw15_LoserPlays (cb (cb (cb (cb (cb c5))))) (xend Echainmanlaw15_LoserPlays f5)))))
theorem S_chainmanlaw15_LoserPlays_eq (heads0 : AVal) (over1 : AVal) (steps2 : AVal) (h : AHeap) : S_chainmanlaw15_LoserPlays heads0 over1 steps2 h =
 (onlyR (S_chainmanref06_Few heads0 30 h) h).bind fun r1 =>
 (asB r1).bind fun b2 =>
 bif (!b2) then (S_chainmanlaw15_LoserPlays_0 heads0 over1 steps2 true h)
 else ((lenV over1).bind fun n3 =>
 S_chainmanlaw15_LoserPlays_0 heads0 over1 steps2 (decide (n3 > 40)) h) := by kernel_rfl
theorem S_chainmanlaw15_LoserPlays_0_eq (heads0 : AVal) (over1 : AVal) (steps2 : AVal) (t21 : Bool) (h : AHeap) : S_chainmanlaw15_LoserPlays_0 heads0 over1 steps2 t21 h =
 bif t21 then (S_chainmanlaw15_LoserPlays_1 heads0 over1 steps2 true h)
 else ((lenV steps2).bind fun n4 =>
 S_chainmanlaw15_LoserPlays_1 heads0 over1 steps2 (decide (n4 > 60)) h) := (jn_eq _).trans (by kernel_rfl)
theorem S_chainmanlaw15_LoserPlays_1_eq (heads0 : AVal) (over1 : AVal) (steps2 : AVal) (t26 : Bool) (h : AHeap) : S_chainmanlaw15_LoserPlays_1 heads0 over1 steps2 t26 h =
 bif t26 then (some ((.lit (.bool true)), h))
 else ((S_loser_New heads0 over1 h).bind fun r5 =>
 (S_chainmanref15_New heads0 over1 r5.2).bind fun r6 =>
 (AVal.isNil .ptr r5.1).bind fun b7 =>
 bif b7 then (some ((.lit (.bool false)), r6.2))
 else (S_chainmanlaw15_LoserPlays_2 steps2 r5.1 r6.1 0 r6.2)) := (jn_eq _).trans (by kernel_rfl)
theorem S_chainmanlaw15_LoserPlays_2_eq (steps2 : AVal) (t7 : AVal) (x8 : AVal) (i9 : Int) (h : AHeap) : S_chainmanlaw15_LoserPlays_2 steps2 t7 x8 i9 h =
 (lenV steps2).bind fun n8 =>
 bif (decide (i9 ≤ n8)) then ((onlyR (ptrV (fun b o => S_loser_Tree_Least b o) t7 h) h).bind fun r9 =>
 (xExtract r9 0).bind fun x10 =>
 (asI .i64 x10).bind fun n11 =>
 (xExtract r9 1).bind fun x12 =>
 (asB x12).bind fun b13 =>
 (onlyR (ptrV (fun b o => S_chainmanref15_Tree_Least b o) x8 h) h).bind fun r14 =>
 (xExtract r14 0).bind fun x15 =>
 (asI .i64 x15).bind fun n16 =>
 (xExtract r14 1).bind fun x17 =>
 (asB x17).bind fun b18 =>
 bif (!decide (n11 = n16)) then (S_chainmanlaw15_LoserPlays_3 steps2 t7 x8 i9 true h)
 else (bif (!decide (b13 = b18)) then (S_chainmanlaw15_LoserPlays_3 steps2 t7 x8 i9 true h)
 else ((onlyR (ptrV (fun b o => S_loser_Tree_Left b o) t7 h) h).bind fun r19 =>
 (asI .i64 r19).bind fun n20 =>
 (onlyR (ptrV (fun b o => S_chainmanref15_Tree_Left b o) x8 h) h).bind fun r21 =>
 (asI .i64 r21).bind fun n22 =>
 bif (!decide (n20 = n22)) then (S_chainmanlaw15_LoserPlays_3 steps2 t7 x8 i9 true h)
 else (bif b18 then ((onlyR (ptrV (fun b o => S_loser_Tree_Head b o) t7 h) h).bind fun r23 =>
 (asS r23).bind fun s24 =>
 (nilCk x8).bind fun p25 =>
 (fieldP 0 p25).bind fun p26 =>
 (ld1 h p26).bind fun x27 =>
 (idxP 1 x27 n16).bind fun p28 =>
 (ld1 h p28).bind fun x29 =>
 (asS x29).bind fun s30 =>
 bif (!decide (s24 = s30)) then (S_chainmanlaw15_LoserPlays_3 steps2 t7 x8 i9 true h)
 else (bif (!b18) then ((onlyR (ptrV (fun b o => S_loser_Tree_Head b o) t7 h) h).bind fun r31 =>
 (asS r31).bind fun s32 =>
 S_chainmanlaw15_LoserPlays_3 steps2 t7 x8 i9 (!decide (s32 = ({ data := #[] }))) h)
 else (S_chainmanlaw15_LoserPlays_3 steps2 t7 x8 i9 false h)))
 else (bif (!b18) then ((onlyR (ptrV (fun b o => S_loser_Tree_Head b o) t7 h) h).bind fun r33 =>
 (asS r33).bind fun s34 =>
 S_chainmanlaw15_LoserPlays_3 steps2 t7 x8 i9 (!decide (s34 = ({ data := #[] }))) h)
 else (S_chainmanlaw15_LoserPlays_3 steps2 t7 x8 i9 false h))))))
 else (S_chainmanlaw15_LoserPlays_4 h) := (xexec_loop Echainmanlaw15_LoserPlays Echainmanlaw15_LoserPlays_ok.C.nat _ _ _ _ _).trans (by kernel_rfl)
theorem S_chainmanlaw15_LoserPlays_3_eq (steps2 : AVal) (t7 : AVal) (x8 : AVal) (i9 : Int) (t90 : Bool) (h : AHeap) : S_chainmanlaw15_LoserPlays_3 steps2 t7 x8 i9 t90 h =
 bif t90 then (some ((.lit (.bool false)), h))
 else ((lenV steps2).bind fun n35 =>
 bif (decide (i9 < n35)) then ((idxP 2 steps2 i9).bind fun p36 =>
 (fieldP 0 p36).bind fun p37 =>
 (ld1 h p37).bind fun x38 =>
 (asS x38).bind fun s39 =>
 bif (decide ((s39.size : Int) > 80)) then (some ((.lit (.bool true)), h))
 else ((idxP 2 steps2 i9).bind fun p40 =>
 (fieldP 0 p40).bind fun p41 =>
 (ld1 h p41).bind fun x42 =>
 (asS x42).bind fun s43 =>
 (idxP 2 steps2 i9).bind fun p44 =>
 (fieldP 1 p44).bind fun p45 =>
 (ld1 h p45).bind fun x46 =>
 (asB x46).bind fun b47 =>
 (ptrV (fun b o => S_loser_Tree_Next b o s43 b47) t7 h).bind fun r48 =>
 (idxP 2 steps2 i9).bind fun p49 =>
 (fieldP 0 p49).bind fun p50 =>
 (ld1 r48.2 p50).bind fun x51 =>
 (asS x51).bind fun s52 =>
 (idxP 2 steps2 i9).bind fun p53 =>
 (fieldP 1 p53).bind fun p54 =>
 (ld1 r48.2 p54).bind fun x55 =>
 (asB x55).bind fun b56 =>
 (ptrV (fun b o => S_chainmanref15_Tree_Next b o s52 b56) x8 r48.2).bind fun r57 =>
 S_chainmanlaw15_LoserPlays_5 steps2 t7 x8 i9 r57.2))
 else (S_chainmanlaw15_LoserPlays_5 steps2 t7 x8 i9 h)) := (jn_eq _).trans (by kernel_rfl)
theorem S_chainmanlaw15_LoserPlays_4_eq  (h : AHeap) : S_chainmanlaw15_LoserPlays_4  h =
 some ((.lit (.bool true)), h) := (jn_eq _).trans (by kernel_rfl)
theorem S_chainmanlaw15_LoserPlays_5_eq (steps2 : AVal) (t7 : AVal) (x8 : AVal) (i9 : Int) (h : AHeap) : S_chainmanlaw15_LoserPlays_5 steps2 t7 x8 i9 h =
 S_chainmanlaw15_LoserPlays_2 steps2 t7 x8 (IntKind.wrap .i64 (i9 + 1)) h := (jn_eq _).trans (by kernel_rfl)
theorem S_chainmanlaw15_LoserPlays_ends {heads0 : AVal} {over1 : AVal} {steps2 : AVal} {h h' : AHeap} {v : AVal} {R : AEnd → AHeap → Prop} (hx : S_chainmanlaw15_LoserPlays heads0 over1 steps2 h = some (v, h')) (hR : HOk h → h.length ≤ h'.length → ABody.AEnds h h' (.ret v) R) : ACalls Try.prog 5 [heads0, over1, steps2] h R := xfun_ends Echainmanlaw15_LoserPlays_ok tmix (i := 5) (by rfl) (by kernel_rfl) (by kernel_rfl) hx hR
/-! ### What both trees tell -/
structure Both (N : Nat) (h : AHeap) (t bs bl x : Nat) (hs : List Src) (ls : List Nat) : Prop where
  T : TreeAt h t bs bl hs ls (cnt hs : Nat)
  I : InvN hs ls
  all : ∀ k ∈ ls, k < hs.length
  R : RefAt N h x hs
  lt : t < N ∧ bs < N ∧ bl < N
  few : hs.length ≤ 64
variable {N : Nat} {h : AHeap} {t bs bl x : Nat} {hs : List Src} {ls : List Nat}
theorem len_pos (hc : 0 < cnt hs) : 0 < hs.length := Nat.lt_of_lt_of_le hc (cnt_le hs)
theorem Both.least (B : Both N h t bs bl x hs ls) : onlyR (ptrV (fun b o => S_loser_Tree_Least b o) (.ptr t 0) h) h = some (leastV hs) := by
  show onlyR (S_loser_Tree_Least t 0 h) h = _
  have key : S_loser_Tree_Least t 0 h = some (leastV hs, h) := by
    by_cases hc : 0 < cnt hs
    · rw [Least_run B.T (len_pos hc), if_pos (by omega)]
      unfold leastV
      rw [if_pos hc, B.I.top (len_pos hc)]
    · rw [S_loser_Tree_Least_eq, some_run B.T]
      unfold leastV
      rw [if_neg hc]
      have e : decide (((cnt hs : Nat) : Int) > 0) = false := decide_eq_false (by omega)
      simp only [Option.bind_some, asB, e, Bool.not_false, cond_true]
  rw [key, onlyR_same]
theorem Both.rleast (B : Both N h t bs bl x hs ls) : onlyR (ptrV (fun b o => S_chainmanref15_Tree_Least b o) (.ptr x 0) h) h = some (leastV hs) := by
  show onlyR (S_chainmanref15_Tree_Least x 0 h) h = _
  rw [refLeast_run B.few B.R, onlyR_same]
theorem Both.left (B : Both N h t bs bl x hs ls) : onlyR (ptrV (fun b o => S_loser_Tree_Left b o) (.ptr t 0) h) h = some (tI (cnt hs : Nat)) := by
  show onlyR (S_loser_Tree_Left t 0 h) h = _
  rw [Left_run B.T, onlyR_same]
  congr 3
  split <;> omega
theorem Both.rleft (B : Both N h t bs bl x hs ls) : onlyR (ptrV (fun b o => S_chainmanref15_Tree_Left b o) (.ptr x 0) h) h = some (tI (cnt hs : Nat)) := by
  show onlyR (S_chainmanref15_Tree_Left x 0 h) h = _
  rw [refLeft_run B.few B.R, onlyR_same]
theorem Both.head (B : Both N h t bs bl x hs ls) : onlyR (ptrV (fun b o => S_loser_Tree_Head b o) (.ptr t 0) h) h = some (.lit (.string (if 0 < cnt hs then (srcN hs (winN hs 1)).1 else ⟨#[]⟩))) := by
  show onlyR (S_loser_Tree_Head t 0 h) h = _
  have key : S_loser_Tree_Head t 0 h = some (.lit (.string (if 0 < cnt hs then (srcN hs (winN hs 1)).1 else ⟨#[]⟩)), h) := by
    by_cases hc : 0 < cnt hs
    · obtain ⟨_, _, hw⟩ := (best_win (hs := hs)).2 hc
      have ht := B.I.top (len_pos hc)
      rw [Head_run B.T (len_pos hc) (by rw [ht]; exact hw), if_pos (by omega), if_pos hc, ht]
    · rw [S_loser_Tree_Head_eq, some_run B.T, if_neg hc]
      have e : decide (((cnt hs : Nat) : Int) > 0) = false := decide_eq_false (by omega)
      simp only [Option.bind_some, asB, e, Bool.not_false, cond_true]
  rw [key, onlyR_same]
theorem cnt_set : ∀ {hs : List Src} {i : Nat} (s : ByteArray) (o : Bool), i < hs.length → (srcN hs i).2 = false → cnt (hs.set i (s, o)) + (if o then 1 else 0) = cnt hs
  | x :: l, 0, s, o, _, h => by
    have hx : x.2 = false := by simpa [srcN] using h
    simp only [List.set_cons_zero, cnt, hx]
    cases o <;> simp
  | x :: l, i + 1, s, o, hi, h => by
    have := cnt_set (hs := l) (i := i) s o (by simpa using hi) (by simpa [srcN] using h)
    simp only [List.set_cons_succ, cnt]
    omega
theorem Both.next (B : Both N h t bs bl x hs ls) (s : ByteArray) (o : Bool) : ∃ h1 h2 hs' ls', ptrV (fun b p => S_loser_Tree_Next b p s o) (.ptr t 0) h = some (.tup [], h1) ∧ ptrV (fun b p => S_chainmanref15_Tree_Next b p s o) (.ptr x 0) h1 = some (.tup [], h2) ∧ Both N h2 t bs bl x hs' ls' ∧ hs'.length = hs.length := by
  show ∃ h1 h2 hs' ls', S_loser_Tree_Next t 0 s o h = some (.tup [], h1) ∧ S_chainmanref15_Tree_Next x 0 s o h1 = some (.tup [], h2) ∧ Both N h2 t bs bl x hs' ls' ∧ hs'.length = hs.length
  obtain ⟨l1, l2, l3⟩ := B.lt
  by_cases hc : 0 < cnt hs
  · obtain ⟨_, hwo, hw⟩ := (best_win (hs := hs)).2 hc
    have ht := B.I.top (len_pos hc)
    obtain ⟨h1, a1, a2, a3, a4⟩ := Next_run B.few B.T (by omega) (by have := cnt_le hs; have := B.few; omega) (len_pos hc) B.all (by rw [ht]; exact hw) s o
    rw [ht] at a3
    have R1 : RefAt N h1 x hs := B.R.keep fun b hb => a4 b (by omega) (by omega) (by omega)
    obtain ⟨h2, b1, b2, b3, b4⟩ := refNext_run B.few R1 s o
    rw [if_pos hc] at b2
    have hcs := cnt_set (hs := hs) s o hw hwo
    have I' := replays_inv (x := (s, o)) B.I hw rfl
    refine ⟨h1, h2, _, _, a1, b1, ⟨?_, I', fun k hk => ?_, b2, B.lt, by simpa using B.few⟩, by simp⟩
    · have e : (if o then ((cnt hs : Nat) : Int) - 1 else ((cnt hs : Nat) : Int)) = (cnt (hs.set (winN hs 1) (s, o)) : Nat) := by cases o <;> simp at hcs ⊢ <;> omega
      rw [e] at a3
      refine ⟨?_, ?_, ?_, a3.len, a3.ne1, a3.ne2, a3.ne3⟩
      · have := cellsAt_some a3.tc; unfold cellsAt; rw [b4 t l1, this]
      · have := cellsAt_some a3.sc; unfold cellsAt; rw [b4 bs l2, this]
      · have := cellsAt_some a3.lc; unfold cellsAt; rw [b4 bl l3, this]
    · -- whoever is told is a source
      have hlen := I'.len
      obtain ⟨i, hi, rfl⟩ := List.getElem_of_mem hk
      have hg : ∀ (l : List Nat) (hi : i < l.length), l.getD i 0 = l[i] := fun l hi => by simp [List.getD_eq_getElem?_getD, hi]
      rw [← hg _ hi]
      have hp : 0 < (hs.set (winN hs 1) (s, o)).length := by simpa using len_pos hc
      rcases Nat.eq_zero_or_pos i with rfl | hi0
      · rw [I'.top hp]
        exact winN_lt _ 1 rfl (by omega) (by omega)
      · rw [I'.los i hi0 (by omega)]
        unfold losN mx
        have w1 := winN_lt (hs := hs.set (winN hs 1) (s, o)) _ (2 * i) rfl (by omega) (by omega)
        have w2 := winN_lt (hs := hs.set (winN hs 1) (s, o)) _ (2 * i + 1) rfl (by omega) (by omega)
        split <;> omega
  · have a1 : S_loser_Tree_Next t 0 s o h = some (.tup [], h) := by
      rw [S_loser_Tree_Next_eq, some_run B.T]
      have e : decide (((cnt hs : Nat) : Int) > 0) = false := decide_eq_false (by omega)
      simp only [Option.bind_some, asB, e, Bool.not_false, cond_true]
    obtain ⟨h2, b1, b2, b3, b4⟩ := refNext_run B.few B.R s o
    rw [if_neg hc] at b2
    refine ⟨h, h2, hs, ls, a1, b1, ⟨?_, B.I, B.all, b2, B.lt, B.few⟩, rfl⟩
    have T := B.T
    refine ⟨?_, ?_, ?_, T.len, T.ne1, T.ne2, T.ne3⟩
    · have := cellsAt_some T.tc; unfold cellsAt; rw [b4 t l1, this]
    · have := cellsAt_some T.sc; unfold cellsAt; rw [b4 bs l2, this]
    · have := cellsAt_some T.lc; unfold cellsAt; rw [b4 bl l3, this]
/-! ### The law -/
theorem tsrcs_over : ∀ (hs : List Src) (i : Nat), i < hs.length → (tsrcs hs)[2 * i + 1]? = some (.lit (.bool (srcN hs i).2))
  | s :: hs, 0, _ => by simp [tsrcs, srcN]
  | s :: hs, i + 1, h => by
    have := tsrcs_over hs i (by simpa using h)
    rw [show 2 * (i + 1) + 1 = 2 * i + 1 + 1 + 1 by omega]
    show (tsrcs hs)[2 * i + 1]? = _
    rw [this]; simp [srcN]
theorem plays_loop {steps : AVal} {sts : List Src} (hS : ∀ g, Sl 2 g steps sts.length (tsrcs sts)) (hn : sts.length ≤ 60) : ∀ (d i : Nat) (g : AHeap) (hs : List Src) (ls : List Nat), sts.length + 1 - i = d → i ≤ sts.length + 1 → Both N g t bs bl x hs ls →
    Tru (S_chainmanlaw15_LoserPlays_2 steps (.ptr t 0) (.ptr x 0) (i : Nat) g) := by
  intro d
  induction d with
  | zero =>
    intro i g hs ls hd hi B
    rw [S_chainmanlaw15_LoserPlays_2_eq, (hS g).len, Option.bind_some, show decide (((i : Nat) : Int) ≤ ((sts.length : Nat) : Int)) = false from decide_eq_false (by omega), cond_false, S_chainmanlaw15_LoserPlays_4_eq]
    exact .here
  | succ d ih =>
    intro i g hs ls hd hi B
    -- behind the comparison
    have behind : Tru (S_chainmanlaw15_LoserPlays_3 steps (.ptr t 0) (.ptr x 0) (i : Nat) false g) := by
      rw [S_chainmanlaw15_LoserPlays_3_eq, cond_false, (hS g).len, Option.bind_some]
      have nx : ∀ (g' : AHeap) (hs' : List Src) (ls' : List Nat), Both N g' t bs bl x hs' ls' → Tru (S_chainmanlaw15_LoserPlays_5 steps (.ptr t 0) (.ptr x 0) (i : Nat) g') := fun g' hs' ls' B' => by
        rw [S_chainmanlaw15_LoserPlays_5_eq, int_of_wrap (by omega)]
        exact ih (i + 1) g' hs' ls' (by omega) (by omega) B'
      by_cases hlt : i < sts.length
      · rw [show decide (((i : Nat) : Int) < ((sts.length : Nat) : Int)) = true from decide_eq_true (by omega), cond_true]
        have rd : ∀ g, ∃ p q q', idxP 2 steps (i : Nat) = some p ∧ fieldP 0 p = some q ∧ ld1 g q = some (.lit (.string (srcN sts i).1)) ∧ fieldP 1 p = some q' ∧ ld1 g q' = some (.lit (.bool (srcN sts i).2)) := fun g => by
          obtain ⟨p, p1, _, p2, _⟩ := (hS g).idx hlt
          obtain ⟨q, q1, q2⟩ := p2 0 (by omega)
          obtain ⟨q', q3, q4⟩ := p2 1 (by omega)
          rw [Nat.mul_comm i 2] at q2 q4
          exact ⟨p, q, q', p1, q1, by rw [q2, Nat.add_zero, tsrcs_head sts i hlt], q3, by rw [q4, tsrcs_over sts i hlt]⟩
        obtain ⟨p, q, q', p1, q1, q2, q3, q4⟩ := rd g
        simp only [p1, q1, q2, q3, q4, Option.bind_some, asS, asB]
        by_cases h80 : (((srcN sts i).1.size : Nat) : Int) > 80
        · rw [decide_eq_true h80, cond_true]; exact .here
        · rw [decide_eq_false h80, cond_false]
          obtain ⟨h1, h2, hs', ls', n1, n2, B', _⟩ := B.next (srcN sts i).1 (srcN sts i).2
          rw [n1]
          simp only [Option.bind_some]
          obtain ⟨r, s, s', r1, s1, s2, s3, s4⟩ := rd h1
          rw [p1] at r1; cases r1
          rw [q1] at s1; cases s1
          rw [q3] at s3; cases s3
          simp only [s2, s4, Option.bind_some]
          rw [n2]
          exact nx h2 hs' ls' B'
      · rw [show decide (((i : Nat) : Int) < ((sts.length : Nat) : Int)) = false from decide_eq_false (by omega), cond_false]
        exact nx g hs ls B
    rw [S_chainmanlaw15_LoserPlays_2_eq, (hS g).len, Option.bind_some, show decide (((i : Nat) : Int) ≤ ((sts.length : Nat) : Int)) = true from decide_eq_true (by omega), cond_true]
    rw [B.least, Option.bind_some, B.rleast]
    have hh := B.head
    by_cases hc : 0 < cnt hs
    · rw [if_pos hc] at hh
      obtain ⟨_, _, hw⟩ := (best_win (hs := hs)).2 hc
      obtain ⟨⟨vh, vo, rc, O1, _, _⟩, _⟩ := B.R
      obtain ⟨p, p1, _, _, p2⟩ := O1.sl.idx hw
      have p2 := p2 (by omega)
      rw [Nat.mul_one, strVs_src hw] at p2
      unfold leastV
      rw [if_pos hc]
      simp only [xExtract, List.getElem?_cons_zero, List.getElem?_cons_succ, Option.bind_some, asI, asB, kindEq, decide_true, Bool.not_true, cond_false, cond_true, B.left, B.rleft, hh, asS, nilCk, fieldP, Nat.zero_add, ld1_of rc, p1, p2]
      exact behind
    · rw [if_neg hc] at hh
      unfold leastV
      rw [if_neg hc]
      simp only [xExtract, List.getElem?_cons_zero, List.getElem?_cons_succ, Option.bind_some, asI, asB, kindEq, decide_true, Bool.not_true, Bool.not_false, cond_false, cond_true, B.left, B.rleft, hh, asS]
      exact behind
theorem few_run {v : AVal} {l : List ByteArray} (S : Sl 1 h v l.length (strVs l)) (m : Int) (hm : m ≤ 1000) : ∃ b, onlyR (S_chainmanref06_Few v m h) h = some (.lit (.bool b)) ∧ (b = true → (l.length : Int) ≤ m ∧ ∀ s ∈ l, s.size ≤ 80) := by
  have loop : ∀ (d i : Nat), l.length + 1 - i = d → (i : Int) ≤ l.length → (∀ s ∈ l.take i, s.size ≤ 80) → ∃ b, S_chainmanref06_Few_0 v m (i : Nat) h = some (.lit (.bool b), h) ∧ (b = true → (l.length : Int) ≤ m ∧ ∀ s ∈ l, s.size ≤ 80) := by
    intro d
    induction d with
    | zero => intro i hd hi _; omega
    | succ d ih =>
      intro i hd hi hall
      rw [S_chainmanref06_Few_0_eq, S.len, Option.bind_some]
      have out : ((l.length : Int) ≤ m → i = l.length) → ∃ b, S_chainmanref06_Few_1 v m (i : Nat) false h = some (.lit (.bool b), h) ∧ (b = true → (l.length : Int) ≤ m ∧ ∀ s ∈ l, s.size ≤ 80) := fun hi2 => by
        rw [S_chainmanref06_Few_1_eq, cond_false, S_chainmanref06_Few_2_eq, S.len, Option.bind_some]
        refine ⟨_, rfl, fun hb => ?_⟩
        have := of_decide_eq_true hb
        refine ⟨this, ?_⟩
        rw [hi2 this, List.take_length] at hall
        exact hall
      by_cases hlt : i < l.length
      · rw [show decide (((i : Nat) : Int) < ((l.length : Nat) : Int)) = true from decide_eq_true (by omega), cond_true]
        by_cases him : (i : Int) < m
        · rw [decide_eq_true him, S_chainmanref06_Few_1_eq, cond_true]
          obtain ⟨p, p1, _, _, p2⟩ := S.idx hlt
          have p2 := p2 (by omega)
          rw [Nat.mul_one, strVs_get hlt] at p2
          simp only [p1, p2, Option.bind_some, asS]
          by_cases h80 : ((l[i].size : Nat) : Int) > 80
          · rw [decide_eq_true h80, cond_true]; exact ⟨false, rfl, fun hb => by cases hb⟩
          · rw [decide_eq_false h80, cond_false, int_of_wrap (by omega)]
            refine ih (i + 1) (by omega) (by omega) fun s hs => ?_
            rw [List.take_succ_eq_append_getElem hlt] at hs
            rcases List.mem_append.1 hs with hs | hs
            · exact hall s hs
            · rw [List.mem_singleton.1 hs]; omega
        · rw [decide_eq_false him]
          exact out fun h => by omega
      · rw [show decide (((i : Nat) : Int) < ((l.length : Nat) : Int)) = false from decide_eq_false (by omega), cond_false]
        exact out fun _ => by omega
  obtain ⟨b, h1, h2⟩ := loop (l.length + 1) 0 (by omega) (by omega) (fun s hs => by simp at hs)
  refine ⟨b, ?_, h2⟩
  rw [S_chainmanref06_Few_eq]
  rw [show (0 : Int) = ((0 : Nat) : Int) from rfl, h1, onlyR_same]
theorem loserPlays_run {heads over steps : AVal} {l : List ByteArray} {o : List Bool} {sts : List Src} (S1 : ∀ g, Sl 1 g heads l.length (strVs l)) (S2 : ∀ g, Sl 1 g over o.length (boolVs o)) (S3 : ∀ g, Sl 2 g steps sts.length (tsrcs sts)) :
    Tru (S_chainmanlaw15_LoserPlays heads over steps []) := by
  have go1 : Tru (S_chainmanlaw15_LoserPlays_1 heads over steps true []) := by rw [S_chainmanlaw15_LoserPlays_1_eq, cond_true]; exact .here
  have go0 : Tru (S_chainmanlaw15_LoserPlays_0 heads over steps true []) := by rw [S_chainmanlaw15_LoserPlays_0_eq, cond_true]; exact go1
  obtain ⟨b, f1, f2⟩ := few_run (S1 []) 30 (by omega)
  rw [S_chainmanlaw15_LoserPlays_eq, f1]
  simp only [Option.bind_some, asB]
  cases b with
  | false => rw [Bool.not_false, cond_true]; exact go0
  | true =>
    obtain ⟨f3, _⟩ := f2 rfl
    rw [Bool.not_true, cond_false, (S2 []).len, Option.bind_some]
    by_cases h40 : ((o.length : Nat) : Int) > 40
    · rw [decide_eq_true h40]; exact go0
    · rw [decide_eq_false h40, S_chainmanlaw15_LoserPlays_0_eq, cond_false, (S3 []).len, Option.bind_some]
      by_cases h60 : ((sts.length : Nat) : Int) > 60
      · rw [decide_eq_true h60]; exact go1
      · rw [decide_eq_false h60, S_chainmanlaw15_LoserPlays_1_eq, cond_false]
        obtain ⟨g1, ls, n1, T, I, all, _, len1⟩ := New_run (S1 []) (S2 []) (by omega)
        obtain ⟨g2, m1, R, K2⟩ := refNew_run (S1 g1) (S2 g1) (by omega)
        rw [n1, Option.bind_some, m1, Option.bind_some]
        simp only [AVal.isNil, Option.bind_some, cond_false]
        have len0 : ([] : AHeap).length = 0 := rfl
        have B : Both g1.length g2 (([] : AHeap).length + 2) ([] : AHeap).length (([] : AHeap).length + 1) g1.length (srcOf l o) ls := by
          refine ⟨⟨K2.cells (by omega) (by simp) T.tc, K2.cells (by omega) (by simp) T.sc, K2.cells (by omega) (by simp) T.lc, T.len, T.ne1, T.ne2, T.ne3⟩, I, fun k hk => ?_, R, ⟨by omega, by omega, by omega⟩, by rw [srcOf_length]; omega⟩
          have := all k hk
          rw [srcOf_length]; exact this
        exact plays_loop S3 (by omega) (sts.length + 1) 0 g2 _ _ (by omega) (by omega) B
theorem loserPlays {H : Type} {d0 d1 d2 : DataW H} (f0 : Fits (.slice .str) d0) (f1 : Fits (.slice .bool) d1) (f2 : Fits (.slice (.strct [.str, .bool])) d2) :
    ACalls Try.prog 5 [(absD d0).headD .any, (absD d1).headD .any, (absD d2).headD .any] [] fun e h' => e = .ret (.lit (.bool true)) ∧ True := by
  obtain ⟨l, S1⟩ := fits_strs f0 []
  obtain ⟨o, S2⟩ := fits_bools f1 []
  obtain ⟨sts, S3, _, _⟩ := slice_fits (α := Src) (k := 2) (cells := fun s => [.lit (.string s.1), .lit (.bool s.2)]) (Q := fun _ => True) (fun _ => rfl) (fun x hx => by
    simp only [Fits, FitsL] at hx
    obtain ⟨_, rfl, _, _, rfl, ⟨l, rfl, _⟩, _, _, rfl, ⟨b, rfl⟩, rfl⟩ := hx
    exact ⟨(⟨l.toArray⟩, b), rfl, trivial⟩) f2 []
  have any : ∀ {k n : Nat} {v : AVal} {cs : List AVal}, Sl k [] v n cs → ∀ g, Sl k g v n cs := fun S g => S.keep (X := []) ⟨by simp, fun c hc => by simp at hc⟩ (fun _ _ _ _ => by simp)
  obtain ⟨h', hx⟩ := loserPlays_run (any S1) (any S2) (any S3)
  exact S_chainmanlaw15_LoserPlays_ends hx fun hok _ => ends_same (L := h') hok rfl ⟨rfl, trivial⟩
end Go.Proofs.Ytpjocohpogihcaa.AL
