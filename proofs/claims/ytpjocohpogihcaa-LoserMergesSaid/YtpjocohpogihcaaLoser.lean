/- The tree of losers: what its functions do. -/
import Derived.Test.YtpjocohpogihcaaTx
import Derived.Test.YtpjocohpogihcaaLoserRep
import Derived.Test.YtpjocohpogihcaaX7
namespace Go.Proofs.Ytpjocohpogihcaa.AL
set_option linter.unusedVariables false
set_option linter.unusedSimpArgs false
set_option maxRecDepth 100000
open Go
open Go.Proofs.Try
-- (*chainman/loser.Tree).beats: function 87
noncomputable def Eloser_Tree_beats : XE := { T := tabOf [(3, r3), (4, r4), (9, r9), (50, r50), (65, r65), (97, r97), (99, r99), (101, r101)], C := [], D := [(1, ⟨[], [0, 1, 2, 3, 4, 5, 6, 7, 8, 9, 10, 11, 12, 13, 14, 15, 16], [17], [14, 15], [(16, 14)], [], []⟩)], Ms := [], Ml := [], Mo := [(4009, [1, 2, 7, 8, 40])], n := 49 }
theorem Eloser_Tree_beats_ok : XE.Ok Eloser_Tree_beats Try.prog := ⟨tabOf_ok (⟨r3_ok, ⟨r4_ok, ⟨r9_ok, ⟨r50_ok, ⟨r65_ok, ⟨r97_ok, ⟨r99_ok, ⟨r101_ok, trivial⟩⟩⟩⟩⟩⟩⟩⟩), trivial⟩
noncomputable def c87 : Code := bodyOf f87
noncomputable def S_loser_Tree_beats (t0 : Nat) (t0o : Nat) (i1 : Int) (k2 : Int) (h : AHeap) : Option (AVal × AHeap) := xfun Eloser_Tree_beats f87 [(.ptr t0 t0o), (.lit (.int .i64 i1)), (.lit (.int .i64 k2))] h
noncomputable def S_loser_Tree_beats_0 (i1 : Int) (k2 : Int) (a7 : Nat) (b8 : Nat) (t40 : Bool) (h : AHeap) : Option (AVal × AHeap) := jn (xops Eloser_Tree_beats 4 (rops (ca (cb (cb (ca (ca (cb (cb c87)))))))) ((rops (ca (cb (cb (ca (ca (cb (cb c87)))))))).toList.drop 9) 9 [(1, (.lit (.int .i64 i1))), (2, (.lit (.int .i64 k2))), (7, (.ptr a7 0)), (8, (.ptr b8 0)), (40, (.lit (.bool t40)))] h (kN (kSeq Eloser_Tree_beats (cb (cb (cb (ca (ca (cb (cb c87))))))) (kBlk 0 (kSeq Eloser_Tree_beats (cb (cb (cb c87))) (xend Eloser_Tree_beats f87))))))
theorem S_loser_Tree_beats_eq (t0 : Nat) (t0o : Nat) (i1 : Int) (k2 : Int) (h : AHeap) : S_loser_Tree_beats t0 t0o i1 k2 h =
 (ld1 h (.ptr t0 (t0o + 1))).bind fun x1 =>
 (idxP 2 x1 i1).bind fun p2 =>
 (ldn 2 h p2).bind fun xs3 =>
 (ld1 h (.ptr t0 (t0o + 1))).bind fun x4 =>
 (idxP 2 x4 k2).bind fun p5 =>
 (ldn 2 h p5).bind fun xs6 =>
 (stin 2 ([(.lit (.string ({ data := #[] }))), (.lit (.bool false))]) xs3).bind fun cs7 =>
 (stn 2 ((apd h [.cells cs7, .cells ([(.lit (.string ({ data := #[] }))), (.lit (.bool false))])])) (.ptr (h.length + 1) 0) xs6).bind fun h8 =>
 (ld1 h8 (.ptr h.length 1)).bind fun x9 =>
 (asB x9).bind fun b10 =>
 (ld1 h8 (.ptr (h.length + 1) 1)).bind fun x11 =>
 (asB x11).bind fun b12 =>
 bif (!decide (b10 = b12)) then ((ld1 h8 (.ptr (h.length + 1) 1)).bind fun x13 =>
 (asB x13).bind fun b14 =>
 some ((.lit (.bool b14)), h8))
 else ((ld1 h8 (.ptr h.length 1)).bind fun x15 =>
 (asB x15).bind fun b16 =>
 bif b16 then (S_loser_Tree_beats_0 i1 k2 h.length (h.length + 1) true h8)
 else ((ld1 h8 (.ptr h.length 0)).bind fun x17 =>
 (asS x17).bind fun s18 =>
 (ld1 h8 (.ptr (h.length + 1) 0)).bind fun x19 =>
 (asS x19).bind fun s20 =>
 S_loser_Tree_beats_0 i1 k2 h.length (h.length + 1) (decide (s18 = s20)) h8)) := by kernel_rfl
theorem S_loser_Tree_beats_0_eq (i1 : Int) (k2 : Int) (a7 : Nat) (b8 : Nat) (t40 : Bool) (h : AHeap) : S_loser_Tree_beats_0 i1 k2 a7 b8 t40 h =
 bif t40 then (some ((.lit (.bool (decide (i1 < k2)))), h))
 else ((ld1 h (.ptr a7 0)).bind fun x21 =>
 (asS x21).bind fun s22 =>
 (ld1 h (.ptr b8 0)).bind fun x23 =>
 (asS x23).bind fun s24 =>
 some ((.lit (.bool (sless s22 s24))), h)) := (jn_eq _).trans (by kernel_rfl)
theorem S_loser_Tree_beats_ends {t0 : Nat} {t0o : Nat} {i1 : Int} {k2 : Int} {h h' : AHeap} {v : AVal} {R : AEnd → AHeap → Prop} (hx : S_loser_Tree_beats t0 t0o i1 k2 h = some (v, h')) (hR : HOk h → h.length ≤ h'.length → ABody.AEnds h h' (.ret v) R) : ACalls Try.prog 87 [(.ptr t0 t0o), (.lit (.int .i64 i1)), (.lit (.int .i64 k2))] h R := xfun_ends Eloser_Tree_beats_ok tmix (i := 87) (by rfl) (by kernel_rfl) (by kernel_rfl) hx hR
def asSrc (xs : List AVal) : Option (ByteArray × Bool) := match xs with
  | [.lit (.string s), .lit (.bool b)] => some (s, b)
  | _ => none
theorem asSrc_some {xs : List AVal} {r : ByteArray × Bool} (h : asSrc xs = some r) : xs = [.lit (.string r.1), .lit (.bool r.2)] := by
  unfold asSrc at h; split at h <;> cases h; rfl
/-- A source of the tree. -/
def srcAt (h : AHeap) (t o : Nat) (i : Int) : Option (ByteArray × Bool) := (ld1 h (.ptr t (o + 1))).bind fun x => (idxP 2 x i).bind fun p => (ldn 2 h p).bind asSrc
theorem beats_run {h : AHeap} {t o : Nat} {i k : Int} {a b : ByteArray × Bool} (ha : srcAt h t o i = some a) (hb : srcAt h t o k = some b) : ∃ g, S_loser_Tree_beats t o i k h = some (.lit (.bool (ahead i a k b)), h ++ g) := by
  refine ⟨[.cells [.lit (.string a.1), .lit (.bool a.2)], .cells [.lit (.string b.1), .lit (.bool b.2)]], ?_⟩
  rw [S_loser_Tree_beats_eq]
  unfold srcAt at ha hb
  obtain ⟨x, h1, ha⟩ := Option.bind_eq_some_iff.1 ha
  obtain ⟨p, h2, ha⟩ := Option.bind_eq_some_iff.1 ha
  obtain ⟨xs, h3, ha⟩ := Option.bind_eq_some_iff.1 ha
  obtain ⟨x', h1', hb⟩ := Option.bind_eq_some_iff.1 hb
  rw [h1] at h1'; cases h1'
  obtain ⟨q, h4, hb⟩ := Option.bind_eq_some_iff.1 hb
  obtain ⟨ys, h5, hb⟩ := Option.bind_eq_some_iff.1 hb
  have e1 := asSrc_some ha
  have e2 := asSrc_some hb
  subst e1; subst e2
  have hst : stn 2 (apd h [.cells [.lit (.string a.1), .lit (.bool a.2)], .cells [.lit (.string { data := #[] }), .lit (.bool false)]]) (.ptr (h.length + 1) 0) [.lit (.string b.1), .lit (.bool b.2)] = some (h ++ [.cells [.lit (.string a.1), .lit (.bool a.2)], .cells [.lit (.string b.1), .lit (.bool b.2)]]) := by
    have := stn_new (n := 2) (h := psh h (.cells [.lit (.string a.1), .lit (.bool a.2)])) (cs := [.lit (.string { data := #[] }), .lit (.bool false)]) (vs := [.lit (.string b.1), .lit (.bool b.2)]) rfl rfl rfl
    simpa [psh, apd] using this
  have K1 : cellsAt (h ++ [.cells [.lit (.string a.1), .lit (.bool a.2)], .cells [.lit (.string b.1), .lit (.bool b.2)]]) h.length = some [.lit (.string a.1), .lit (.bool a.2)] := by simp [cellsAt]
  have K2 : cellsAt (h ++ [.cells [.lit (.string a.1), .lit (.bool a.2)], .cells [.lit (.string b.1), .lit (.bool b.2)]]) (h.length + 1) = some [.lit (.string b.1), .lit (.bool b.2)] := by simp [cellsAt]
  simp only [h1, h2, h3, h4, h5, Option.bind_some]
  have hsti : stin 2 [.lit (.string { data := #[] }), .lit (.bool false)] [.lit (.string a.1), .lit (.bool a.2)] = some [.lit (.string a.1), .lit (.bool a.2)] := rfl
  rw [hsti, Option.bind_some, hst, Option.bind_some]
  simp only [ld1_of K1, ld1_of K2, List.getElem?_cons_zero, List.getElem?_cons_succ, Option.bind_some, asB, asS, S_loser_Tree_beats_0_eq]
  obtain ⟨s, c⟩ := a
  obtain ⟨s', c'⟩ := b
  unfold ahead
  cases c <;> cases c' <;> by_cases e : s = s' <;> simp [e]
noncomputable def w_loser_Tree_beats : XC := .q fun R args h K => match args with
  | [.ptr t to, .lit (.int .i64 i), .lit (.int .i64 k)] => ((srcAt h t to i).bind fun a => (srcAt h t to k).bind fun b => some (ahead i a k b)).bind fun r => K (.lit (.bool r))
  | _ => none
theorem w_loser_Tree_beats_ok : XC.Nat w_loser_Tree_beats ∧ XC.Ok Try.prog 87 w_loser_Tree_beats := by
  refine ⟨fun R args h K => ?_, tc87, fun args h v hx => ?_⟩
  · dsimp only; split <;> simp [Option.bind_assoc, mkP]
  · dsimp only at hx; split at hx
    · obtain ⟨r, hopt, hx⟩ := Option.bind_eq_some_iff.1 hx
      cases hx
      exact (by obtain ⟨a, h1, h2⟩ := Option.bind_eq_some_iff.1 hopt; obtain ⟨b, h3, h4⟩ := Option.bind_eq_some_iff.1 h2; cases h4; obtain ⟨g, hg⟩ := beats_run h1 h3; exact S_loser_Tree_beats_ends hg fun hok _ => ends_same hok rfl ⟨rfl, rfl⟩)
    · cases hx
-- (*chainman/loser.Tree).replays: function 67
noncomputable def Eloser_Tree_replays : XE := { T := tabOf [(3, r3), (4, r4), (9, r9), (50, r50), (65, r65), (97, r97), (99, r99), (101, r101)], C := [(87, w_loser_Tree_beats)], D := [(5, ⟨[], [0, 1, 2, 3, 4, 5, 6, 7, 8, 9, 10, 11, 12, 13, 14], [15], [], [], [], []⟩)], Ms := [(6, [0, 4, 5])], Ml := [(1000000, [0, 4, 5])], Mo := [], n := 49 }
theorem Eloser_Tree_replays_ok : XE.Ok Eloser_Tree_replays Try.prog := ⟨tabOf_ok (⟨r3_ok, ⟨r4_ok, ⟨r9_ok, ⟨r50_ok, ⟨r65_ok, ⟨r97_ok, ⟨r99_ok, ⟨r101_ok, trivial⟩⟩⟩⟩⟩⟩⟩⟩), ⟨w_loser_Tree_beats_ok, trivial⟩⟩
noncomputable def c67 : Code := bodyOf f67
noncomputable def S_loser_Tree_replays (t0 : Nat) (t0o : Nat) (i1 : Int) (h : AHeap) : Option (AVal × AHeap) := xfun Eloser_Tree_replays f67 [(.ptr t0 t0o), (.lit (.int .i64 i1))] h
noncomputable def S_loser_Tree_replays_0 (t0 : Nat) (t0o : Nat) (node4 : Int) (won5 : Int) (h : AHeap) : Option (AVal × AHeap) := jn (xexec Eloser_Tree_replays (cb (cb (cb (cb (cb (ca c67)))))) (AVal × AHeap) [(0, (.ptr t0 t0o)), (4, (.lit (.int .i64 node4))), (5, (.lit (.int .i64 won5)))] h (xscK Eloser_Tree_replays (xlab Eloser_Tree_replays (ca c67)) (xend Eloser_Tree_replays f67)))
noncomputable def S_loser_Tree_replays_1 (t0 : Nat) (t0o : Nat) (node4 : Int) (won5 : Int) (h : AHeap) : Option (AVal × AHeap) := xjump Eloser_Tree_replays (ca c67) 0 (AVal × AHeap) [(0, (.ptr t0 t0o)), (4, (.lit (.int .i64 node4))), (5, (.lit (.int .i64 won5)))] h (xend Eloser_Tree_replays f67)
theorem S_loser_Tree_replays_eq (t0 : Nat) (t0o : Nat) (i1 : Int) (h : AHeap) : S_loser_Tree_replays t0 t0o i1 h =
 (ld1 h (.ptr t0 (t0o + 1))).bind fun x1 =>
 (lenV x1).bind fun n2 =>
 bif (decide ((IntKind.wrap .i64 ((IntKind.wrap .i64 (i1 + n2)).tdiv 2)) < 1)) then ((ld1 h (.ptr t0 (t0o + 2))).bind fun x3 =>
 (idxP 1 x3 0).bind fun p4 =>
 (st1 h p4 (.lit (.int .i64 i1))).bind fun h5 =>
 some ((.tup []), h5))
 else ((ld1 h (.ptr t0 (t0o + 2))).bind fun x6 =>
 (idxP 1 x6 (IntKind.wrap .i64 ((IntKind.wrap .i64 (i1 + n2)).tdiv 2))).bind fun p7 =>
 (ld1 h p7).bind fun x8 =>
 (asI .i64 x8).bind fun n9 =>
 ((srcAt h t0 t0o n9).bind fun a => (srcAt h t0 t0o i1).bind fun b => some (ahead n9 a i1 b)).bind fun r10 =>
 bif r10 then ((ld1 h (.ptr t0 (t0o + 2))).bind fun x11 =>
 (ld1 h (.ptr t0 (t0o + 2))).bind fun x12 =>
 (idxP 1 x12 (IntKind.wrap .i64 ((IntKind.wrap .i64 (i1 + n2)).tdiv 2))).bind fun p13 =>
 (ld1 h p13).bind fun x14 =>
 (asI .i64 x14).bind fun n15 =>
 (idxP 1 x11 (IntKind.wrap .i64 ((IntKind.wrap .i64 (i1 + n2)).tdiv 2))).bind fun p16 =>
 (st1 h p16 (.lit (.int .i64 i1))).bind fun h17 =>
 S_loser_Tree_replays_0 t0 t0o (IntKind.wrap .i64 ((IntKind.wrap .i64 (i1 + n2)).tdiv 2)) n15 h17)
 else (S_loser_Tree_replays_0 t0 t0o (IntKind.wrap .i64 ((IntKind.wrap .i64 (i1 + n2)).tdiv 2)) i1 h)) := by kernel_rfl
theorem S_loser_Tree_replays_0_eq (t0 : Nat) (t0o : Nat) (node4 : Int) (won5 : Int) (h : AHeap) : S_loser_Tree_replays_0 t0 t0o node4 won5 h =
 S_loser_Tree_replays_1 t0 t0o (IntKind.wrap .i64 ((node4).tdiv 2)) won5 h := (jn_eq _).trans (by kernel_rfl)
theorem S_loser_Tree_replays_1_eq (t0 : Nat) (t0o : Nat) (node4 : Int) (won5 : Int) (h : AHeap) : S_loser_Tree_replays_1 t0 t0o node4 won5 h =
 bif (decide (node4 < 1)) then ((ld1 h (.ptr t0 (t0o + 2))).bind fun x18 =>
 (idxP 1 x18 0).bind fun p19 =>
 (st1 h p19 (.lit (.int .i64 won5))).bind fun h20 =>
 some ((.tup []), h20))
 else ((ld1 h (.ptr t0 (t0o + 2))).bind fun x21 =>
 (idxP 1 x21 node4).bind fun p22 =>
 (ld1 h p22).bind fun x23 =>
 (asI .i64 x23).bind fun n24 =>
 ((srcAt h t0 t0o n24).bind fun a => (srcAt h t0 t0o won5).bind fun b => some (ahead n24 a won5 b)).bind fun r25 =>
 bif r25 then ((ld1 h (.ptr t0 (t0o + 2))).bind fun x26 =>
 (ld1 h (.ptr t0 (t0o + 2))).bind fun x27 =>
 (idxP 1 x27 node4).bind fun p28 =>
 (ld1 h p28).bind fun x29 =>
 (asI .i64 x29).bind fun n30 =>
 (idxP 1 x26 node4).bind fun p31 =>
 (st1 h p31 (.lit (.int .i64 won5))).bind fun h32 =>
 S_loser_Tree_replays_0 t0 t0o node4 n30 h32)
 else (S_loser_Tree_replays_0 t0 t0o node4 won5 h)) := (xjump_eq Eloser_Tree_replays Eloser_Tree_replays_ok.C.nat _ _ _ _ _ _).trans (by kernel_rfl)
theorem S_loser_Tree_replays_ends {t0 : Nat} {t0o : Nat} {i1 : Int} {h h' : AHeap} {v : AVal} {R : AEnd → AHeap → Prop} (hx : S_loser_Tree_replays t0 t0o i1 h = some (v, h')) (hR : HOk h → h.length ≤ h'.length → ABody.AEnds h h' (.ret v) R) : ACalls Try.prog 67 [(.ptr t0 t0o), (.lit (.int .i64 i1))] h R := xfun_ends Eloser_Tree_replays_ok tmix (i := 67) (by rfl) (by kernel_rfl) (by kernel_rfl) hx hR
-- (*chainman/loser.Tree).some: function 66
noncomputable def Eloser_Tree_some : XE := { T := tabOf [(3, r3), (4, r4), (9, r9), (50, r50), (65, r65), (97, r97), (99, r99), (101, r101)], C := [], D := [], Ms := [], Ml := [], Mo := [(1008, [0, 10]), (1015, [17])], n := 18 }
theorem Eloser_Tree_some_ok : XE.Ok Eloser_Tree_some Try.prog := ⟨tabOf_ok (⟨r3_ok, ⟨r4_ok, ⟨r9_ok, ⟨r50_ok, ⟨r65_ok, ⟨r97_ok, ⟨r99_ok, ⟨r101_ok, trivial⟩⟩⟩⟩⟩⟩⟩⟩), trivial⟩
noncomputable def c66 : Code := bodyOf f66
noncomputable def S_loser_Tree_some (t0 : Nat) (t0o : Nat) (h : AHeap) : Option (AVal × AHeap) := xfun Eloser_Tree_some f66 [(.ptr t0 t0o)] h
noncomputable def S_loser_Tree_some_0 (t0 : Nat) (t0o : Nat) (t10 : Bool) (h : AHeap) : Option (AVal × AHeap) := jn (xops Eloser_Tree_some 1 (rops (ca (cb c66))) ((rops (ca (cb c66))).toList.drop 8) 8 [(0, (.ptr t0 t0o)), (10, (.lit (.bool t10)))] h (kN (kSeq Eloser_Tree_some (cb (cb c66)) (xend Eloser_Tree_some f66))))
noncomputable def S_loser_Tree_some_1 (t17 : Bool) (h : AHeap) : Option (AVal × AHeap) := jn (xops Eloser_Tree_some 1 (rops (ca (cb c66))) ((rops (ca (cb c66))).toList.drop 15) 15 [(17, (.lit (.bool t17)))] h (kN (kSeq Eloser_Tree_some (cb (cb c66)) (xend Eloser_Tree_some f66))))
theorem S_loser_Tree_some_eq (t0 : Nat) (t0o : Nat) (h : AHeap) : S_loser_Tree_some t0 t0o h =
 (ld1 h (.ptr t0 (t0o + 0))).bind fun x1 =>
 (asB x1).bind fun b2 =>
 S_loser_Tree_some_0 t0 t0o b2 h := by kernel_rfl
theorem S_loser_Tree_some_0_eq (t0 : Nat) (t0o : Nat) (t10 : Bool) (h : AHeap) : S_loser_Tree_some_0 t0 t0o t10 h =
 bif t10 then ((ld1 h (.ptr t0 (t0o + 3))).bind fun x3 =>
 (asI .i64 x3).bind fun n4 =>
 S_loser_Tree_some_1 (decide (n4 > 0)) h)
 else (S_loser_Tree_some_1 false h) := (jn_eq _).trans (by kernel_rfl)
theorem S_loser_Tree_some_1_eq (t17 : Bool) (h : AHeap) : S_loser_Tree_some_1 t17 h =
 some ((.lit (.bool t17)), h) := (jn_eq _).trans (by kernel_rfl)
theorem S_loser_Tree_some_ends {t0 : Nat} {t0o : Nat} {h h' : AHeap} {v : AVal} {R : AEnd → AHeap → Prop} (hx : S_loser_Tree_some t0 t0o h = some (v, h')) (hR : HOk h → h.length ≤ h'.length → ABody.AEnds h h' (.ret v) R) : ACalls Try.prog 66 [(.ptr t0 t0o)] h R := xfun_ends Eloser_Tree_some_ok tmix (i := 66) (by rfl) (by kernel_rfl) (by kernel_rfl) hx hR
/-! ### The tree in the memory -/
abbrev tI (n : Int) : AVal := .lit (.int .i64 n)
def tsrcs (hs : List Src) : List AVal := hs.flatMap fun s => [.lit (.string s.1), .lit (.bool s.2)]
theorem tsrcs_length (hs : List Src) : (tsrcs hs).length = 2 * hs.length := by
  induction hs with
  | nil => rfl
  | cons s hs ih => unfold tsrcs at ih ⊢; simp only [List.flatMap_cons, List.length_append, List.length_cons, List.length_nil, ih]; omega
theorem tsrcs_get : ∀ (hs : List Src) (i : Nat), i < hs.length → ((tsrcs hs).drop (2 * i)).take 2 = [.lit (.string (srcN hs i).1), .lit (.bool (srcN hs i).2)]
  | s :: hs, 0, _ => by simp [tsrcs, srcN]
  | s :: hs, i + 1, h => by
    have := tsrcs_get hs i (by simpa using h)
    have e : (tsrcs (s :: hs)).drop (2 * (i + 1)) = (tsrcs hs).drop (2 * i) := by
      rw [show 2 * (i + 1) = 2 * i + 1 + 1 by omega]; rfl
    rw [e, this]; simp [srcN]
structure TreeAt (h : AHeap) (t bs bl : Nat) (hs : List Src) (ls : List Nat) (left : Int) : Prop where
  tc : cellsAt h t = some [.lit (.bool true), .sl 2 bs 0 hs.length, .sl 1 bl 0 hs.length, tI left]
  sc : cellsAt h bs = some (tsrcs hs)
  lc : cellsAt h bl = some (ls.map fun l : Nat => tI (l : Int))
  len : ls.length = hs.length
  ne1 : t ≠ bs
  ne2 : t ≠ bl
  ne3 : bs ≠ bl
theorem TreeAt.srcAt {h : AHeap} {t bs bl : Nat} {hs : List Src} {ls : List Nat} {left : Int} (T : TreeAt h t bs bl hs ls left) {i : Nat} (hi : i < hs.length) : srcAt h t 0 (i : Int) = some (srcN hs i) := by
  unfold AL.srcAt
  rw [ld1_of T.tc]
  simp only [Nat.zero_add, List.getElem?_cons_succ, List.getElem?_cons_zero, Option.bind_some]
  unfold idxP
  simp only [Nat.beq_refl]
  rw [req_true (by omega)]
  simp only [Option.bind_some]
  rw [show 0 + (i : Int).toNat * 2 = 2 * i by omega]
  rw [ldn_of T.sc (by rw [tsrcs_length]; omega), tsrcs_get hs i hi]
  rfl
theorem TreeAt.losAt {h : AHeap} {t bs bl : Nat} {hs : List Src} {ls : List Nat} {left : Int} (T : TreeAt h t bs bl hs ls left) {i : Nat} (hi : i < hs.length) :
    ld1 h (.ptr t (0 + 2)) = some (.sl 1 bl 0 hs.length) ∧ idxP 1 (.sl 1 bl 0 hs.length) (i : Int) = some (.ptr bl i) ∧ ld1 h (.ptr bl i) = some (tI (ls.getD i 0 : Nat)) := by
  refine ⟨by rw [ld1_of T.tc]; rfl, ?_, ?_⟩
  · unfold idxP
    simp only [Nat.beq_refl]
    rw [req_true (by omega)]
    simp
  · rw [ld1_of T.lc]
    have hl := T.len
    simp [List.getD_eq_getElem?_getD, show i < ls.length by omega]
theorem TreeAt.setLos {h : AHeap} {t bs bl : Nat} {hs : List Src} {ls : List Nat} {left : Int} (T : TreeAt h t bs bl hs ls left) {i : Nat} (hi : i < hs.length) (v : Nat) :
    st1 h (.ptr bl i) (tI v) = some (h.set bl (.cells ((ls.set i v).map fun l : Nat => tI (l : Int)))) ∧ TreeAt (h.set bl (.cells ((ls.set i v).map fun l : Nat => tI (l : Int)))) t bs bl hs (ls.set i v) left := by
  have hl := T.len
  constructor
  · rw [st1_of T.lc rfl (by simp; omega), List.map_set]
  · exact ⟨cellsAt_set_ne _ (Ne.symm T.ne2) T.tc, cellsAt_set_ne _ (Ne.symm T.ne3) T.sc, cellsAt_set T.lc, by simp [hl], T.ne1, T.ne2, T.ne3⟩
theorem wrap_half {n : Nat} (h : n < 4294967296) : IntKind.wrap .i64 (((n : Int)).tdiv 2) = ((n / 2 : Nat) : Int) := by
  have e : ((n : Int)).tdiv 2 = ((n / 2 : Nat) : Int) := by
    rw [Int.tdiv_eq_ediv_of_nonneg (by omega)]; omega
  rw [e]; exact wrap_nat (by omega)
theorem replays_heap {t bs bl : Nat} {hs : List Src} {left : Int} (hn : hs.length ≤ 64) : ∀ (node won : Nat) (ls : List Nat) (h : AHeap), TreeAt h t bs bl hs ls left → node < hs.length → won < hs.length → (∀ x ∈ ls, x < hs.length) →
    ∃ c, S_loser_Tree_replays_1 t 0 (node : Int) (won : Int) h = some (.tup [], h.set bl c) ∧ TreeAt (h.set bl c) t bs bl hs (repN hs node won ls) left := by
  intro node
  induction node using Nat.strongRecOn with
  | _ node ih =>
    intro won ls h T hnode hwon hall
    have hl := T.len
    rw [S_loser_Tree_replays_1_eq, repN]
    rcases Nat.lt_or_ge node 1 with h0 | h0
    · have : node = 0 := by omega
      subst this
      obtain ⟨a1, a2, a3⟩ := T.losAt (i := 0) (by omega)
      obtain ⟨b1, b2⟩ := T.setLos (i := 0) (by omega) won
      have e : decide (((0 : Nat) : Int) < 1) = true := rfl
      rw [e, cond_true, dif_pos (by omega), a1, Option.bind_some, show (0 : Int) = ((0 : Nat) : Int) from rfl, a2, Option.bind_some, b1, Option.bind_some]
      exact ⟨_, rfl, b2⟩
    · obtain ⟨a1, a2, a3⟩ := T.losAt (i := node) hnode
      have e : decide ((node : Int) < 1) = false := by simp; omega
      have hlt : ls.getD node 0 < hs.length := by
        have : node < ls.length := by omega
        rw [List.getD_eq_getElem?_getD, List.getElem?_eq_getElem this]
        exact hall _ (List.getElem_mem this)
      rw [e, cond_false, dif_neg (by omega)]
      simp only [a1, a2, a3, Option.bind_some, asI, kindEq, T.srcAt hlt, T.srcAt hwon, S_loser_Tree_replays_0_eq, wrap_half (show node < 4294967296 by omega)]
      have eq : ahead ((ls.getD node 0 : Nat) : Int) (srcN hs (ls.getD node 0)) (won : Int) (srcN hs won) = aheadN hs (ls.getD node 0) won := rfl
      rw [eq]
      cases ha : aheadN hs (ls.getD node 0) won with
      | true =>
        obtain ⟨b1, b2⟩ := T.setLos (i := node) hnode won
        simp only [cond_true, if_true]
        rw [b1, Option.bind_some]
        obtain ⟨c, h1, h2⟩ := ih (node / 2) (by omega) (ls.getD node 0) _ _ b2 (by omega) hlt (fun x hx => by
          rcases List.mem_or_eq_of_mem_set hx with hx | hx
          · exact hall x hx
          · omega)
        rw [List.set_set] at h1 h2
        exact ⟨c, h1, h2⟩
      | false =>
        simp only [cond_false, Bool.false_eq_true, if_false]
        exact ih (node / 2) (by omega) won ls h T (by omega) hwon hall
theorem replays_run {t bs bl : Nat} {hs : List Src} {left : Int} {i : Nat} {ls : List Nat} {h : AHeap} (hn : hs.length ≤ 64) (T : TreeAt h t bs bl hs ls left) (hi : i < hs.length) (hall : ∀ x ∈ ls, x < hs.length) :
    ∃ c, S_loser_Tree_replays t 0 (i : Int) h = some (.tup [], h.set bl c) ∧ TreeAt (h.set bl c) t bs bl hs (repN hs ((i + hs.length) / 2) i ls) left := by
  obtain ⟨c, h1, h2⟩ := replays_heap hn ((i + hs.length) / 2) i ls h T (by omega) hi hall
  refine ⟨c, ?_, h2⟩
  rw [← h1, S_loser_Tree_replays_eq, S_loser_Tree_replays_1_eq]
  have e1 : ld1 h (.ptr t (0 + 1)) = some (.sl 2 bs 0 hs.length) := by rw [ld1_of T.tc]; rfl
  have e2 : lenV (.sl 2 bs 0 hs.length) = some (hs.length : Int) := rfl
  have e3 : IntKind.wrap .i64 ((IntKind.wrap .i64 ((i : Int) + (hs.length : Int))).tdiv 2) = (((i + hs.length) / 2 : Nat) : Int) := by
    rw [show (i : Int) + (hs.length : Int) = ((i + hs.length : Nat) : Int) by omega, wrap_nat (by omega), wrap_half (by omega)]
  rw [e1, Option.bind_some, e2, Option.bind_some, e3]
noncomputable def w_loser_Tree_replays : XC := .l fun R args h K => match args with
  | [.ptr t to, .lit (.int .i64 i)] => (S_loser_Tree_replays t to i h).bind fun r => K r.1 r.2
  | _ => none
theorem w_loser_Tree_replays_ok : XC.Nat w_loser_Tree_replays ∧ XC.Ok Try.prog 67 w_loser_Tree_replays := by
  refine ⟨fun R args h K => ?_, tc67, fun args h v h' hx => ?_⟩
  · dsimp only; split <;> simp [Option.bind_assoc, mkP]
  · dsimp only at hx; split at hx
    · obtain ⟨r, hopt, hx⟩ := Option.bind_eq_some_iff.1 hx
      simp only [mkP, Option.some.injEq, Prod.mk.injEq] at hx
      obtain ⟨rfl, rfl⟩ := hx
      exact (by obtain ⟨v, h'⟩ := r; exact S_loser_Tree_replays_ends hopt fun hok hl => ⟨_, .ret _, hl, ⟨rfl, rfl⟩, fun ρ w u hR hE => ⟨Fewer.refl _, hR, hE⟩⟩)
    · cases hx
noncomputable def w_loser_Tree_some : XC := .l fun R args h K => match args with
  | [.ptr t to] => (S_loser_Tree_some t to h).bind fun r => K r.1 r.2
  | _ => none
theorem w_loser_Tree_some_ok : XC.Nat w_loser_Tree_some ∧ XC.Ok Try.prog 66 w_loser_Tree_some := by
  refine ⟨fun R args h K => ?_, tc66, fun args h v h' hx => ?_⟩
  · dsimp only; split <;> simp [Option.bind_assoc, mkP]
  · dsimp only at hx; split at hx
    · obtain ⟨r, hopt, hx⟩ := Option.bind_eq_some_iff.1 hx
      simp only [mkP, Option.some.injEq, Prod.mk.injEq] at hx
      obtain ⟨rfl, rfl⟩ := hx
      exact (by obtain ⟨v, h'⟩ := r; exact S_loser_Tree_some_ends hopt fun hok hl => ⟨_, .ret _, hl, ⟨rfl, rfl⟩, fun ρ w u hR hE => ⟨Fewer.refl _, hR, hE⟩⟩)
    · cases hx
-- (*chainman/loser.Tree).Next: function 38
noncomputable def Eloser_Tree_Next : XE := { T := tabOf [(3, r3), (4, r4), (9, r9), (50, r50), (65, r65), (97, r97), (99, r99), (101, r101)], C := [(66, w_loser_Tree_some), (67, w_loser_Tree_replays)], D := [], Ms := [(5, [0, 6])], Ml := [], Mo := [], n := 36 }
theorem Eloser_Tree_Next_ok : XE.Ok Eloser_Tree_Next Try.prog := ⟨tabOf_ok (⟨r3_ok, ⟨r4_ok, ⟨r9_ok, ⟨r50_ok, ⟨r65_ok, ⟨r97_ok, ⟨r99_ok, ⟨r101_ok, trivial⟩⟩⟩⟩⟩⟩⟩⟩), ⟨w_loser_Tree_some_ok, ⟨w_loser_Tree_replays_ok, trivial⟩⟩⟩
noncomputable def c38 : Code := bodyOf f38
noncomputable def S_loser_Tree_Next (t0 : Nat) (t0o : Nat) (head1 : ByteArray) (over2 : Bool) (h : AHeap) : Option (AVal × AHeap) := xfun Eloser_Tree_Next f38 [(.ptr t0 t0o), (.lit (.string head1)), (.lit (.bool over2))] h
noncomputable def S_loser_Tree_Next_0 (t0 : Nat) (t0o : Nat) (i6 : Int) (h : AHeap) : Option (AVal × AHeap) := jn (xexec Eloser_Tree_Next (cb (cb (cb (cb c38)))) (AVal × AHeap) [(0, (.ptr t0 t0o)), (6, (.lit (.int .i64 i6)))] h (xend Eloser_Tree_Next f38))
theorem S_loser_Tree_Next_eq (t0 : Nat) (t0o : Nat) (head1 : ByteArray) (over2 : Bool) (h : AHeap) : S_loser_Tree_Next t0 t0o head1 over2 h =
 (S_loser_Tree_some t0 t0o h).bind fun r1 =>
 (asB r1.1).bind fun b2 =>
 bif (!b2) then (some ((.tup []), r1.2))
 else ((ld1 r1.2 (.ptr t0 (t0o + 2))).bind fun x3 =>
 (idxP 1 x3 0).bind fun p4 =>
 (ld1 r1.2 p4).bind fun x5 =>
 (asI .i64 x5).bind fun n6 =>
 (ld1 r1.2 (.ptr t0 (t0o + 1))).bind fun x7 =>
 (idxP 2 x7 n6).bind fun p8 =>
 (stn 2 r1.2 p8 ([(.lit (.string head1)), (.lit (.bool over2))])).bind fun h9 =>
 bif over2 then ((ld1 h9 (.ptr t0 (t0o + 3))).bind fun x10 =>
 (asI .i64 x10).bind fun n11 =>
 (st1 h9 (.ptr t0 (t0o + 3)) (.lit (.int .i64 (IntKind.wrap .i64 (n11 - 1))))).bind fun h12 =>
 S_loser_Tree_Next_0 t0 t0o n6 h12)
 else (S_loser_Tree_Next_0 t0 t0o n6 h9)) := by kernel_rfl
theorem S_loser_Tree_Next_0_eq (t0 : Nat) (t0o : Nat) (i6 : Int) (h : AHeap) : S_loser_Tree_Next_0 t0 t0o i6 h =
 (S_loser_Tree_replays t0 t0o i6 h).bind fun r13 =>
 some ((.tup []), r13.2) := (jn_eq _).trans (by kernel_rfl)
theorem S_loser_Tree_Next_ends {t0 : Nat} {t0o : Nat} {head1 : ByteArray} {over2 : Bool} {h h' : AHeap} {v : AVal} {R : AEnd → AHeap → Prop} (hx : S_loser_Tree_Next t0 t0o head1 over2 h = some (v, h')) (hR : HOk h → h.length ≤ h'.length → ABody.AEnds h h' (.ret v) R) : ACalls Try.prog 38 [(.ptr t0 t0o), (.lit (.string head1)), (.lit (.bool over2))] h R := xfun_ends Eloser_Tree_Next_ok tmix (i := 38) (by rfl) (by kernel_rfl) (by kernel_rfl) hx hR
-- (*chainman/loser.Tree).Least: function 33
noncomputable def Eloser_Tree_Least : XE := { T := tabOf [(3, r3), (4, r4), (9, r9), (50, r50), (65, r65), (97, r97), (99, r99), (101, r101)], C := [(66, w_loser_Tree_some)], D := [], Ms := [], Ml := [], Mo := [], n := 13 }
theorem Eloser_Tree_Least_ok : XE.Ok Eloser_Tree_Least Try.prog := ⟨tabOf_ok (⟨r3_ok, ⟨r4_ok, ⟨r9_ok, ⟨r50_ok, ⟨r65_ok, ⟨r97_ok, ⟨r99_ok, ⟨r101_ok, trivial⟩⟩⟩⟩⟩⟩⟩⟩), ⟨w_loser_Tree_some_ok, trivial⟩⟩
noncomputable def c33 : Code := bodyOf f33
noncomputable def S_loser_Tree_Least (t0 : Nat) (t0o : Nat) (h : AHeap) : Option (AVal × AHeap) := xfun Eloser_Tree_Least f33 [(.ptr t0 t0o)] h
theorem S_loser_Tree_Least_eq (t0 : Nat) (t0o : Nat) (h : AHeap) : S_loser_Tree_Least t0 t0o h =
 (S_loser_Tree_some t0 t0o h).bind fun r1 =>
 (asB r1.1).bind fun b2 =>
 bif (!b2) then (some ((.tup [(.lit (.int .i64 0)), (.lit (.bool false))]), r1.2))
 else ((ld1 r1.2 (.ptr t0 (t0o + 2))).bind fun x3 =>
 (idxP 1 x3 0).bind fun p4 =>
 (ld1 r1.2 p4).bind fun x5 =>
 (asI .i64 x5).bind fun n6 =>
 some ((.tup [(.lit (.int .i64 n6)), (.lit (.bool true))]), r1.2)) := by kernel_rfl
theorem S_loser_Tree_Least_ends {t0 : Nat} {t0o : Nat} {h h' : AHeap} {v : AVal} {R : AEnd → AHeap → Prop} (hx : S_loser_Tree_Least t0 t0o h = some (v, h')) (hR : HOk h → h.length ≤ h'.length → ABody.AEnds h h' (.ret v) R) : ACalls Try.prog 33 [(.ptr t0 t0o)] h R := xfun_ends Eloser_Tree_Least_ok tmix (i := 33) (by rfl) (by kernel_rfl) (by kernel_rfl) hx hR
-- (*chainman/loser.Tree).Head: function 37
noncomputable def Eloser_Tree_Head : XE := { T := tabOf [(3, r3), (4, r4), (9, r9), (50, r50), (65, r65), (97, r97), (99, r99), (101, r101)], C := [(66, w_loser_Tree_some)], D := [(3, ⟨[], [0, 1, 2, 3, 4, 5, 6, 7, 8, 9, 10, 11, 12, 13], [], [], [], [], []⟩)], Ms := [], Ml := [], Mo := [], n := 19 }
theorem Eloser_Tree_Head_ok : XE.Ok Eloser_Tree_Head Try.prog := ⟨tabOf_ok (⟨r3_ok, ⟨r4_ok, ⟨r9_ok, ⟨r50_ok, ⟨r65_ok, ⟨r97_ok, ⟨r99_ok, ⟨r101_ok, trivial⟩⟩⟩⟩⟩⟩⟩⟩), ⟨w_loser_Tree_some_ok, trivial⟩⟩
noncomputable def c37 : Code := bodyOf f37
noncomputable def S_loser_Tree_Head (t0 : Nat) (t0o : Nat) (h : AHeap) : Option (AVal × AHeap) := xfun Eloser_Tree_Head f37 [(.ptr t0 t0o)] h
theorem S_loser_Tree_Head_eq (t0 : Nat) (t0o : Nat) (h : AHeap) : S_loser_Tree_Head t0 t0o h =
 (S_loser_Tree_some t0 t0o h).bind fun r1 =>
 (asB r1.1).bind fun b2 =>
 bif (!b2) then (some ((.lit (.string ({ data := #[] }))), r1.2))
 else ((ld1 r1.2 (.ptr t0 (t0o + 1))).bind fun x3 =>
 (ld1 r1.2 (.ptr t0 (t0o + 2))).bind fun x4 =>
 (idxP 1 x4 0).bind fun p5 =>
 (ld1 r1.2 p5).bind fun x6 =>
 (asI .i64 x6).bind fun n7 =>
 (idxP 2 x3 n7).bind fun p8 =>
 (fieldP 0 p8).bind fun p9 =>
 (ld1 r1.2 p9).bind fun x10 =>
 (asS x10).bind fun s11 =>
 some ((.lit (.string s11)), r1.2)) := by kernel_rfl
theorem S_loser_Tree_Head_ends {t0 : Nat} {t0o : Nat} {h h' : AHeap} {v : AVal} {R : AEnd → AHeap → Prop} (hx : S_loser_Tree_Head t0 t0o h = some (v, h')) (hR : HOk h → h.length ≤ h'.length → ABody.AEnds h h' (.ret v) R) : ACalls Try.prog 37 [(.ptr t0 t0o)] h R := xfun_ends Eloser_Tree_Head_ok tmix (i := 37) (by rfl) (by kernel_rfl) (by kernel_rfl) hx hR
-- (*chainman/loser.Tree).Left: function 35
noncomputable def Eloser_Tree_Left : XE := { T := tabOf [(3, r3), (4, r4), (9, r9), (50, r50), (65, r65), (97, r97), (99, r99), (101, r101)], C := [(66, w_loser_Tree_some)], D := [], Ms := [], Ml := [], Mo := [], n := 10 }
theorem Eloser_Tree_Left_ok : XE.Ok Eloser_Tree_Left Try.prog := ⟨tabOf_ok (⟨r3_ok, ⟨r4_ok, ⟨r9_ok, ⟨r50_ok, ⟨r65_ok, ⟨r97_ok, ⟨r99_ok, ⟨r101_ok, trivial⟩⟩⟩⟩⟩⟩⟩⟩), ⟨w_loser_Tree_some_ok, trivial⟩⟩
noncomputable def c35 : Code := bodyOf f35
noncomputable def S_loser_Tree_Left (t0 : Nat) (t0o : Nat) (h : AHeap) : Option (AVal × AHeap) := xfun Eloser_Tree_Left f35 [(.ptr t0 t0o)] h
theorem S_loser_Tree_Left_eq (t0 : Nat) (t0o : Nat) (h : AHeap) : S_loser_Tree_Left t0 t0o h =
 (S_loser_Tree_some t0 t0o h).bind fun r1 =>
 (asB r1.1).bind fun b2 =>
 bif (!b2) then (some ((.lit (.int .i64 0)), r1.2))
 else ((ld1 r1.2 (.ptr t0 (t0o + 3))).bind fun x3 =>
 (asI .i64 x3).bind fun n4 =>
 some ((.lit (.int .i64 n4)), r1.2)) := by kernel_rfl
theorem S_loser_Tree_Left_ends {t0 : Nat} {t0o : Nat} {h h' : AHeap} {v : AVal} {R : AEnd → AHeap → Prop} (hx : S_loser_Tree_Left t0 t0o h = some (v, h')) (hR : HOk h → h.length ≤ h'.length → ABody.AEnds h h' (.ret v) R) : ACalls Try.prog 35 [(.ptr t0 t0o)] h R := xfun_ends Eloser_Tree_Left_ok tmix (i := 35) (by rfl) (by kernel_rfl) (by kernel_rfl) hx hR
theorem some_run {h : AHeap} {t bs bl : Nat} {hs : List Src} {ls : List Nat} {left : Int} (T : TreeAt h t bs bl hs ls left) : S_loser_Tree_some t 0 h = some (.lit (.bool (decide (left > 0))), h) := by
  rw [S_loser_Tree_some_eq]
  simp only [ld1_of T.tc, Nat.zero_add, List.getElem?_cons_zero, List.getElem?_cons_succ, Option.bind_some, asB, S_loser_Tree_some_0_eq, S_loser_Tree_some_1_eq, cond_true, asI, kindEq]
theorem Least_run {h : AHeap} {t bs bl : Nat} {hs : List Src} {ls : List Nat} {left : Int} (T : TreeAt h t bs bl hs ls left) (h0 : 0 < hs.length) :
    S_loser_Tree_Least t 0 h = some (if left > 0 then .tup [tI (ls.getD 0 0 : Nat), .lit (.bool true)] else .tup [tI 0, .lit (.bool false)], h) := by
  rw [S_loser_Tree_Least_eq, some_run T]
  obtain ⟨a1, a2, a3⟩ := T.losAt (i := 0) h0
  by_cases hl : left > 0
  · simp only [Option.bind_some, asB, hl, decide_true, Bool.not_true, cond_false, if_true, a1]
    rw [show (0 : Int) = ((0 : Nat) : Int) from rfl, a2]
    simp only [Option.bind_some, a3, asI, kindEq]
  · simp [asB, hl]
theorem Left_run {h : AHeap} {t bs bl : Nat} {hs : List Src} {ls : List Nat} {left : Int} (T : TreeAt h t bs bl hs ls left) : S_loser_Tree_Left t 0 h = some (tI (if left > 0 then left else 0), h) := by
  rw [S_loser_Tree_Left_eq, some_run T]
  by_cases hl : left > 0
  · simp only [Option.bind_some, asB, hl, decide_true, Bool.not_true, cond_false, if_true, ld1_of T.tc, Nat.zero_add, List.getElem?_cons_zero, List.getElem?_cons_succ, asI, kindEq]
  · simp [asB, hl]
theorem tsrcs_head : ∀ (hs : List Src) (i : Nat), i < hs.length → (tsrcs hs)[2 * i]? = some (.lit (.string (srcN hs i).1))
  | s :: hs, 0, _ => by simp [tsrcs, srcN]
  | s :: hs, i + 1, h => by
    have := tsrcs_head hs i (by simpa using h)
    rw [show 2 * (i + 1) = 2 * i + 1 + 1 by omega]
    show (tsrcs hs)[2 * i]? = _
    rw [this]; simp [srcN]
theorem Head_run {h : AHeap} {t bs bl : Nat} {hs : List Src} {ls : List Nat} {left : Int} (T : TreeAt h t bs bl hs ls left) (h0 : 0 < hs.length) (hl0 : ls.getD 0 0 < hs.length) :
    S_loser_Tree_Head t 0 h = some (.lit (.string (if left > 0 then (srcN hs (ls.getD 0 0)).1 else ⟨#[]⟩)), h) := by
  rw [S_loser_Tree_Head_eq, some_run T]
  obtain ⟨a1, a2, a3⟩ := T.losAt (i := 0) h0
  by_cases hl : left > 0
  · have e1 : ld1 h (.ptr t (0 + 1)) = some (.sl 2 bs 0 hs.length) := by rw [ld1_of T.tc]; rfl
    have e2 : idxP 2 (.sl 2 bs 0 hs.length) ((ls.getD 0 0 : Nat) : Int) = some (.ptr bs (2 * ls.getD 0 0)) := by
      unfold idxP
      simp only [Nat.beq_refl]
      rw [req_true (by omega)]
      simp only [Option.bind_some]
      rw [show 0 + ((ls.getD 0 0 : Nat) : Int).toNat * 2 = 2 * ls.getD 0 0 by omega]
    have e3 : ld1 h (.ptr bs (2 * ls.getD 0 0)) = some (.lit (.string (srcN hs (ls.getD 0 0)).1)) := by rw [ld1_of T.sc, tsrcs_head hs _ hl0]
    simp only [Option.bind_some, asB, hl, decide_true, Bool.not_true, cond_false, if_true, a1, e1]
    rw [show (0 : Int) = ((0 : Nat) : Int) from rfl, a2]
    simp only [Option.bind_some, a3, asI, kindEq, e2, fieldP, Nat.add_zero, e3, asS]
  · simp [asB, hl]
theorem tsrcs_set : ∀ (hs : List Src) (i : Nat) (x : Src), i < hs.length → splice (tsrcs hs) (2 * i) [.lit (.string x.1), .lit (.bool x.2)] = tsrcs (hs.set i x)
  | s :: hs, 0, x, _ => by simp [tsrcs, splice]
  | s :: hs, i + 1, x, h => by
    have := tsrcs_set hs i x (by simpa using h)
    have e : tsrcs ((s :: hs).set (i + 1) x) = .lit (.string s.1) :: .lit (.bool s.2) :: tsrcs (hs.set i x) := rfl
    rw [e, ← this]
    unfold splice
    rw [show 2 * (i + 1) = 2 * i + 1 + 1 by omega]
    have e2 : tsrcs (s :: hs) = .lit (.string s.1) :: .lit (.bool s.2) :: tsrcs hs := rfl
    rw [e2]
    simp only [List.take_succ_cons, List.cons_append, List.length_cons, List.length_nil]
    congr 3
theorem TreeAt.setSrc {h : AHeap} {t bs bl : Nat} {hs : List Src} {ls : List Nat} {left : Int} (T : TreeAt h t bs bl hs ls left) {i : Nat} (hi : i < hs.length) (x : Src) :
    stn 2 h (.ptr bs (2 * i)) [.lit (.string x.1), .lit (.bool x.2)] = some (h.set bs (.cells (tsrcs (hs.set i x)))) ∧ TreeAt (h.set bs (.cells (tsrcs (hs.set i x)))) t bs bl (hs.set i x) ls left := by
  constructor
  · rw [stn_of (n := 2) (vs := [.lit (.string x.1), .lit (.bool x.2)]) T.sc rfl rfl (by rw [tsrcs_length]; simp; omega), tsrcs_set hs i x hi]
  · exact ⟨by rw [List.length_set]; exact cellsAt_set_ne _ (Ne.symm T.ne1) T.tc, cellsAt_set T.sc, cellsAt_set_ne _ T.ne3 T.lc, by rw [List.length_set]; exact T.len, T.ne1, T.ne2, T.ne3⟩
theorem TreeAt.setLeft {h : AHeap} {t bs bl : Nat} {hs : List Src} {ls : List Nat} {left : Int} (T : TreeAt h t bs bl hs ls left) (n : Int) :
    ∃ c, st1 h (.ptr t (0 + 3)) (tI n) = some (h.set t c) ∧ TreeAt (h.set t c) t bs bl hs ls n :=
  ⟨_, st1_of T.tc rfl (by simp), cellsAt_set T.tc, cellsAt_set_ne _ T.ne1 T.sc, cellsAt_set_ne _ T.ne2 T.lc, T.len, T.ne1, T.ne2, T.ne3⟩
/-- The least source is given another head. -/
theorem Next_run {t bs bl : Nat} {hs : List Src} {left : Int} {ls : List Nat} {h : AHeap} (hn : hs.length ≤ 64) (T : TreeAt h t bs bl hs ls left) (hl : left > 0) (hlm : left ≤ 64) (h0 : 0 < hs.length) (hall : ∀ x ∈ ls, x < hs.length) (hi : ls.getD 0 0 < hs.length) (s : ByteArray) (o : Bool) :
    ∃ h', S_loser_Tree_Next t 0 s o h = some (.tup [], h') ∧ h'.length = h.length ∧ TreeAt h' t bs bl (hs.set (ls.getD 0 0) (s, o)) (repN (hs.set (ls.getD 0 0) (s, o)) ((ls.getD 0 0 + hs.length) / 2) (ls.getD 0 0) ls) (if o then left - 1 else left) ∧ ∀ b, b ≠ t → b ≠ bs → b ≠ bl → h'[b]? = h[b]? := by
  rw [S_loser_Tree_Next_eq, some_run T]
  obtain ⟨a1, a2, a3⟩ := T.losAt (i := 0) h0
  have e1 : ld1 h (.ptr t (0 + 1)) = some (.sl 2 bs 0 hs.length) := by rw [ld1_of T.tc]; rfl
  have e2 : idxP 2 (.sl 2 bs 0 hs.length) ((ls.getD 0 0 : Nat) : Int) = some (.ptr bs (2 * ls.getD 0 0)) := by
    unfold idxP
    simp only [Nat.beq_refl]
    rw [req_true (by omega)]
    simp only [Option.bind_some]
    rw [show 0 + ((ls.getD 0 0 : Nat) : Int).toNat * 2 = 2 * ls.getD 0 0 by omega]
  obtain ⟨b1, T1⟩ := T.setSrc hi (s, o)
  simp only [Option.bind_some, asB, hl, decide_true, Bool.not_true, cond_false, a1, e1]
  rw [show (0 : Int) = ((0 : Nat) : Int) from rfl, a2]
  simp only [Option.bind_some, a3, asI, kindEq, e2, b1]
  cases o with
  | true =>
    have e3 : ld1 (h.set bs (.cells (tsrcs (hs.set (ls.getD 0 0) (s, true))))) (.ptr t (0 + 3)) = some (tI left) := by rw [ld1_of T1.tc]; rfl
    obtain ⟨c, c1, T2⟩ := T1.setLeft (left - 1)
    obtain ⟨d, d1, T3⟩ := replays_run (i := ls.getD 0 0) (by simpa using hn) T2 (by simpa using hi) (by simpa using hall)
    simp only [cond_true, e3, Option.bind_some, asI, kindEq]
    rw [wrap_id (by omega) (by omega), c1, Option.bind_some, S_loser_Tree_Next_0_eq, d1]
    exact ⟨_, rfl, by simp, by simpa using T3, fun b h1 h2 h3 => by rw [List.getElem?_set_ne (Ne.symm h3), List.getElem?_set_ne (Ne.symm h1), List.getElem?_set_ne (Ne.symm h2)]⟩
  | false =>
    obtain ⟨d, d1, T3⟩ := replays_run (i := ls.getD 0 0) (by simpa using hn) T1 (by simpa using hi) (by simpa using hall)
    simp only [cond_false]
    rw [S_loser_Tree_Next_0_eq, d1]
    exact ⟨_, rfl, by simp, by simpa using T3, fun b h1 h2 h3 => by rw [List.getElem?_set_ne (Ne.symm h3), List.getElem?_set_ne (Ne.symm h2)]⟩
-- (*chainman/loser.Tree).plays: function 65
noncomputable def Eloser_Tree_plays (P : XP) : XE := { T := tabOf [(3, r3), (4, r4), (9, r9), (50, r50), (65, r65), (97, r97), (99, r99), (101, r101)], C := [(65, recC P), (87, w_loser_Tree_beats)], D := [], Ms := [(7, [0, 1, 6, 7])], Ml := [], Mo := [], n := 42 }
theorem Eloser_Tree_plays_ok {P : XP} (hP : XC.Ok Try.prog 65 (recC P)) : XE.Ok (Eloser_Tree_plays P) Try.prog := ⟨tabOf_ok (⟨r3_ok, ⟨r4_ok, ⟨r9_ok, ⟨r50_ok, ⟨r65_ok, ⟨r97_ok, ⟨r99_ok, ⟨r101_ok, trivial⟩⟩⟩⟩⟩⟩⟩⟩), ⟨⟨recC_nat P, hP⟩, ⟨w_loser_Tree_beats_ok, trivial⟩⟩⟩
noncomputable def c65 : Code := bodyOf f65
noncomputable def S_loser_Tree_plays (P : XP) (t0 : Nat) (t0o : Nat) (node1 : Int) (h : AHeap) : Option (AVal × AHeap) := xfun (Eloser_Tree_plays P) f65 [(.ptr t0 t0o), (.lit (.int .i64 node1))] h
noncomputable def S_loser_Tree_plays_0 (P : XP) (t0 : Nat) (t0o : Nat) (node1 : Int) (a6 : Int) (b7 : Int) (h : AHeap) : Option (AVal × AHeap) := jn (xexec (Eloser_Tree_plays P) (cb (cb (cb (cb (cb c65))))) (AVal × AHeap) [(0, (.ptr t0 t0o)), (1, (.lit (.int .i64 node1))), (6, (.lit (.int .i64 a6))), (7, (.lit (.int .i64 b7)))] h (xend (Eloser_Tree_plays P) f65))
theorem S_loser_Tree_plays_eq (P : XP) (t0 : Nat) (t0o : Nat) (node1 : Int) (h : AHeap) : S_loser_Tree_plays P t0 t0o node1 h =
 (ld1 h (.ptr t0 (t0o + 1))).bind fun x1 =>
 (lenV x1).bind fun n2 =>
 bif (decide (node1 ≥ n2)) then (some ((.lit (.int .i64 (IntKind.wrap .i64 (node1 - n2)))), h))
 else ((P [(.ptr t0 t0o), (.lit (.int .i64 (IntKind.wrap .i64 (2 * node1))))] h).bind fun r3 =>
 (asI .i64 r3.1).bind fun n4 =>
 (P [(.ptr t0 t0o), (.lit (.int .i64 (IntKind.wrap .i64 ((IntKind.wrap .i64 (2 * node1)) + 1))))] r3.2).bind fun r5 =>
 (asI .i64 r5.1).bind fun n6 =>
 ((srcAt r5.2 t0 t0o n6).bind fun a => (srcAt r5.2 t0 t0o n4).bind fun b => some (ahead n6 a n4 b)).bind fun r7 =>
 bif r7 then (S_loser_Tree_plays_0 P t0 t0o node1 n6 n4 r5.2)
 else (S_loser_Tree_plays_0 P t0 t0o node1 n4 n6 r5.2)) := by kernel_rfl
theorem Eloser_Tree_plays_nat (P : XP) : CT.Nat (Eloser_Tree_plays P).C := ⟨recC_nat P, ⟨w_loser_Tree_beats_ok.1, trivial⟩⟩
theorem S_loser_Tree_plays_0_eq (P : XP) (t0 : Nat) (t0o : Nat) (node1 : Int) (a6 : Int) (b7 : Int) (h : AHeap) : S_loser_Tree_plays_0 P t0 t0o node1 a6 b7 h =
 (ld1 h (.ptr t0 (t0o + 2))).bind fun x8 =>
 (idxP 1 x8 node1).bind fun p9 =>
 (st1 h p9 (.lit (.int .i64 b7))).bind fun h10 =>
 some ((.lit (.int .i64 a6)), h10) := (jn_eq _).trans (by kernel_rfl)
theorem S_loser_Tree_plays_ends {P : XP} (hP : XC.Ok Try.prog 65 (recC P)) {t0 : Nat} {t0o : Nat} {node1 : Int} {h h' : AHeap} {v : AVal} {R : AEnd → AHeap → Prop} (hx : S_loser_Tree_plays P t0 t0o node1 h = some (v, h')) (hR : HOk h → h.length ≤ h'.length → ABody.AEnds h h' (.ret v) R) : ACalls Try.prog 65 [(.ptr t0 t0o), (.lit (.int .i64 node1))] h R := xfun_ends (Eloser_Tree_plays_ok hP) tmix (i := 65) (by rfl) (by kernel_rfl) (by kernel_rfl) hx hR
noncomputable def playP : Nat → XP
  | 0 => fun _ _ => none
  | k + 1 => fun args h => match args with
    | [.ptr t to, .lit (.int .i64 node)] => S_loser_Tree_plays (playP k) t to node h
    | _ => none
theorem playP_ok : ∀ k, XC.Ok Try.prog 65 (recC (playP k))
  | 0 => ⟨tc65, fun args h v h' hx => by simp [playP] at hx⟩
  | k + 1 => ⟨tc65, fun args h v h' hx => by
    obtain ⟨r, h1, h2⟩ := Option.bind_eq_some_iff.1 hx
    cases h2
    unfold playP at h1
    split at h1
    · obtain ⟨v, h'⟩ := r
      exact S_loser_Tree_plays_ends (playP_ok k) h1 fun hok hl => ⟨_, .ret _, hl, ⟨rfl, rfl⟩, fun ρ w u hR hE => ⟨Fewer.refl _, hR, hE⟩⟩
    · cases h1⟩
theorem OnWay.le {m k : Nat} (h : OnWay m k) : k ≤ m := by
  obtain ⟨d, rfl⟩ := h; exact Nat.div_le_self _ _
theorem OnWay.split {m k : Nat} (h : OnWay m k) : m = k ∨ OnWay m (2 * k) ∨ OnWay m (2 * k + 1) := by
  obtain ⟨d, rfl⟩ := h
  cases d with
  | zero => exact .inl (by simp)
  | succ d =>
    right
    rw [Nat.pow_succ, ← Nat.div_div_eq_div_mul]
    rcases Nat.mod_two_eq_zero_or_one (m / 2 ^ d) with e | e
    · exact .inl ⟨d, by omega⟩
    · exact .inr ⟨d, by omega⟩
theorem OnWay.dbl {m k : Nat} (h : OnWay m (2 * k)) : OnWay m k := by have := h.up; rwa [show 2 * k / 2 = k by omega] at this
theorem OnWay.dbl1 {m k : Nat} (h : OnWay m (2 * k + 1)) : OnWay m k := by have := h.up; rwa [show (2 * k + 1) / 2 = k by omega] at this
theorem OnWay.notTwo {m k : Nat} (h1 : 1 ≤ k) (h : OnWay m (2 * k)) (h' : OnWay m (2 * k + 1)) : False := by
  have := onway_uniq h h' (by omega) (by omega)
  omega
theorem plays_run {t bs bl : Nat} {hs : List Src} {left : Int} (hn : hs.length ≤ 64) : ∀ (k node : Nat) (ls : List Nat) (h : AHeap), TreeAt h t bs bl hs ls left → 1 ≤ node → node < 2 * hs.length → 2 * hs.length - node ≤ k →
    ∃ h' ls', playP k [.ptr t 0, tI node] h = some (tI (winN hs node : Nat), h') ∧ TreeAt h' t bs bl hs ls' left ∧ h'.length = h.length ∧ (∀ b, b ≠ bl → h'[b]? = h[b]?) ∧
      (∀ m, 1 ≤ m → m < hs.length → OnWay m node → ls'.getD m 0 = losN hs m) ∧ (∀ m, ¬ OnWay m node → ls'.getD m 0 = ls.getD m 0) := by
  intro k
  induction k with
  | zero => intro node ls h T h1 h2 h3; omega
  | succ k ih =>
    intro node ls h T h1 h2 h3
    have hl := T.len
    have e1 : ld1 h (.ptr t (0 + 1)) = some (.sl 2 bs 0 hs.length) := by rw [ld1_of T.tc]; rfl
    have e2 : lenV (.sl 2 bs 0 hs.length) = some (hs.length : Int) := rfl
    have e0 : playP (k + 1) [.ptr t 0, tI node] h = S_loser_Tree_plays (playP k) t 0 node h := rfl
    rw [e0, S_loser_Tree_plays_eq, e1, Option.bind_some, e2, Option.bind_some]
    rcases Nat.lt_or_ge node hs.length with hlt | hge
    · have d1 : decide ((node : Int) ≥ (hs.length : Int)) = false := by simp; omega
      rw [d1, cond_false]
      have w1 : IntKind.wrap .i64 (2 * (node : Int)) = ((2 * node : Nat) : Int) := by rw [show 2 * (node : Int) = ((2 * node : Nat) : Int) by omega]; exact wrap_nat (by omega)
      have w2 : IntKind.wrap .i64 (((2 * node : Nat) : Int) + 1) = ((2 * node + 1 : Nat) : Int) := by rw [show ((2 * node : Nat) : Int) + 1 = ((2 * node + 1 : Nat) : Int) by omega]; exact wrap_nat (by omega)
      rw [w1, w2]
      obtain ⟨g1, l1, p1, T1, q1, r1, s1, u1⟩ := ih (2 * node) ls h T (by omega) (by omega) (by omega)
      rw [p1, Option.bind_some]
      obtain ⟨g2, l2, p2, T2, q2, r2, s2, u2⟩ := ih (2 * node + 1) l1 g1 T1 (by omega) (by omega) (by omega)
      simp only [asI, kindEq, Option.bind_some]
      rw [p2]
      have wa := winN_lt (hs := hs) _ (2 * node) rfl (by omega) (by omega)
      have wb := winN_lt (hs := hs) _ (2 * node + 1) rfl (by omega) (by omega)
      simp only [asI, kindEq, Option.bind_some, T2.srcAt wa, T2.srcAt wb]
      have fin : ∀ (a b : Nat), a = mn hs (winN hs (2 * node)) (winN hs (2 * node + 1)) → b = mx hs (winN hs (2 * node)) (winN hs (2 * node + 1)) →
          ∃ h' ls', S_loser_Tree_plays_0 (playP k) t 0 node a b g2 = some (tI (winN hs node : Nat), h') ∧ TreeAt h' t bs bl hs ls' left ∧ h'.length = h.length ∧ (∀ b, b ≠ bl → h'[b]? = h[b]?) ∧
            (∀ m, 1 ≤ m → m < hs.length → OnWay m node → ls'.getD m 0 = losN hs m) ∧ (∀ m, ¬ OnWay m node → ls'.getD m 0 = ls.getD m 0) := by
        intro a b ha hb
        obtain ⟨c1, c2, c3⟩ := T2.losAt hlt
        obtain ⟨f1, T3⟩ := T2.setLos hlt b
        have hl2 := T2.len
        refine ⟨_, _, ?_, T3, by simp; omega, fun c hc => ?_, fun m m1 m2 m3 => ?_, fun m m1 => ?_⟩
        · rw [S_loser_Tree_plays_0_eq, c1, Option.bind_some, c2, Option.bind_some, f1, Option.bind_some, winN_node h1 hlt, ha]
        · rw [List.getElem?_set_ne (Ne.symm hc), r2 c hc, r1 c hc]
        · rw [getD_set (by omega)]
          by_cases e : node = m
          · rw [if_pos e, hb, ← e]; rfl
          · rw [if_neg e]
            rcases m3.split with e' | e' | e'
            · exact absurd e'.symm e
            · rw [u2 m (fun z => OnWay.notTwo h1 e' z)]; exact s1 m m1 m2 e'
            · exact s2 m m1 m2 e'
        · have e : node ≠ m := fun e => m1 (e ▸ .self _)
          rw [getD_set (by omega), if_neg e, u2 m (fun z => m1 z.dbl1), u1 m (fun z => m1 z.dbl)]
      have eq : ahead ((winN hs (2 * node + 1) : Nat) : Int) (srcN hs (winN hs (2 * node + 1))) ((winN hs (2 * node) : Nat) : Int) (srcN hs (winN hs (2 * node))) = aheadN hs (winN hs (2 * node + 1)) (winN hs (2 * node)) := rfl
      rw [eq]
      cases hb : aheadN hs (winN hs (2 * node + 1)) (winN hs (2 * node)) with
      | true => rw [cond_true]; exact fin _ _ (by unfold mn; rw [if_pos hb]) (by unfold mx; rw [if_pos hb])
      | false => rw [cond_false]; exact fin _ _ (by unfold mn; rw [hb]; rfl) (by unfold mx; rw [hb]; rfl)
    · have d1 : decide ((node : Int) ≥ (hs.length : Int)) = true := by simp; omega
      rw [d1, cond_true, winN_leaf hge]
      refine ⟨h, ls, ?_, T, rfl, fun _ _ => rfl, fun m m1 m2 m3 => ?_, fun _ _ => rfl⟩
      · rw [show (node : Int) - (hs.length : Int) = ((node - hs.length : Nat) : Int) by omega, wrap_nat (by omega)]
      · have := m3.le; omega
noncomputable def w_loser_Tree_plays : XC := .l fun R args h K => match args with
  | [.ptr t to, .lit (.int .i64 i)] => (playP 130 [.ptr t to, .lit (.int .i64 i)] h).bind fun r => K r.1 r.2
  | _ => none
theorem w_loser_Tree_plays_ok : XC.Nat w_loser_Tree_plays ∧ XC.Ok Try.prog 65 w_loser_Tree_plays := by
  refine ⟨fun R args h K => ?_, tc65, fun args h v h' hx => ?_⟩
  · dsimp only; split <;> simp [Option.bind_assoc, mkP]
  · dsimp only at hx; split at hx
    · obtain ⟨r, hopt, hx⟩ := Option.bind_eq_some_iff.1 hx
      simp only [mkP, Option.some.injEq, Prod.mk.injEq] at hx
      obtain ⟨rfl, rfl⟩ := hx
      exact (by obtain ⟨v, h'⟩ := r; exact (playP_ok 130).2 _ _ _ _ (by show (playP 130 _ _).bind _ = _; rw [hopt]; rfl))
    · cases hx
-- chainman/loser.New: function 31
noncomputable def Eloser_New : XE := { T := tabOf [(3, r3), (4, r4), (9, r9), (46, r46), (47, r47), (50, r50), (65, r65), (97, r97), (99, r99), (101, r101)], C := [(65, w_loser_Tree_plays)], D := [(3, ⟨[], [0, 1, 2, 3, 4, 5], [6, 7, 8], [2, 5], [], [], []⟩), (13, ⟨[], [], [], [], [], [0, 1, 2, 3, 4], [(5, [0, 1, 2, 3]), (6, []), (7, [])]⟩)], Ms := [(11, [0, 1, 5, 20, 21, 22]), (12, [0, 5]), (14, [5])], Ml := [(5, [0, 1, 5, 20, 21, 22])], Mo := [(7010, [0, 1, 5, 6, 7, 20, 21, 22, 36])], n := 67 }
theorem Eloser_New_ok : XE.Ok Eloser_New Try.prog := ⟨tabOf_ok (⟨r3_ok, ⟨r4_ok, ⟨r9_ok, ⟨r46_ok, ⟨r47_ok, ⟨r50_ok, ⟨r65_ok, ⟨r97_ok, ⟨r99_ok, ⟨r101_ok, trivial⟩⟩⟩⟩⟩⟩⟩⟩⟩⟩), ⟨w_loser_Tree_plays_ok, trivial⟩⟩
noncomputable def c31 : Code := bodyOf f31
noncomputable def S_loser_New (heads0 : AVal) (over1 : AVal) (h : AHeap) : Option (AVal × AHeap) := xfun Eloser_New f31 [heads0, over1] h
noncomputable def S_loser_New_0 (heads0 : AVal) (over1 : AVal) (t5 : Nat) (t20 : AVal) (t21 : Int) (t22 : Int) (h : AHeap) : Option (AVal × AHeap) := xexec Eloser_New (.loop (ca (ca (cb (ca (cb (cb (cb c31)))))))) (AVal × AHeap) [(0, heads0), (1, over1), (5, (.ptr t5 0)), (20, t20), (21, (.lit (.int .i64 t21))), (22, (.lit (.int .i64 t22)))] h (kBlk 0 (kSeq Eloser_New (cb (cb (cb (cb c31)))) (xend Eloser_New f31)))
noncomputable def S_loser_New_1 (heads0 : AVal) (over1 : AVal) (t5 : Nat) (i6 : Int) (h7 : ByteArray) (t20 : AVal) (t21 : Int) (t22 : Int) (t36 : Bool) (h : AHeap) : Option (AVal × AHeap) := jn (xops Eloser_New 7 (rops (ca (cb (ca (ca (cb (cb (ca (ca (cb (ca (cb (cb (cb c31)))))))))))))) ((rops (ca (cb (ca (ca (cb (cb (ca (ca (cb (ca (cb (cb (cb c31)))))))))))))).toList.drop 10) 10 [(0, heads0), (1, over1), (5, (.ptr t5 0)), (6, (.lit (.int .i64 i6))), (7, (.lit (.string h7))), (20, t20), (21, (.lit (.int .i64 t21))), (22, (.lit (.int .i64 t22))), (36, (.lit (.bool t36)))] h (kN (kSeq Eloser_New (cb (cb (ca (ca (cb (cb (ca (ca (cb (ca (cb (cb (cb c31))))))))))))) (kBlk 1 (kSeq Eloser_New (cb (cb (cb (ca (ca (cb (ca (cb (cb (cb c31)))))))))) (kLoop Eloser_New (ca (ca (cb (ca (cb (cb (cb c31))))))) (kBlk 0 (kSeq Eloser_New (cb (cb (cb (cb c31)))) (xend Eloser_New f31)))))))))
noncomputable def S_loser_New_2 (heads0 : AVal) (t5 : Nat) (h : AHeap) : Option (AVal × AHeap) := jn (xexec Eloser_New (cb (cb (cb (cb c31)))) (AVal × AHeap) [(0, heads0), (5, (.ptr t5 0))] h (xend Eloser_New f31))
noncomputable def S_loser_New_3 (heads0 : AVal) (over1 : AVal) (t5 : Nat) (t20 : AVal) (t21 : Int) (t22 : Int) (h : AHeap) : Option (AVal × AHeap) := jn (xexec Eloser_New (cb (cb (cb (ca (ca (cb (ca (cb (cb (cb c31)))))))))) (AVal × AHeap) [(0, heads0), (1, over1), (5, (.ptr t5 0)), (20, t20), (21, (.lit (.int .i64 t21))), (22, (.lit (.int .i64 t22)))] h (kLoop Eloser_New (ca (ca (cb (ca (cb (cb (cb c31))))))) (kBlk 0 (kSeq Eloser_New (cb (cb (cb (cb c31)))) (xend Eloser_New f31)))))
noncomputable def S_loser_New_4 (t5 : Nat) (h : AHeap) : Option (AVal × AHeap) := jn (xexec Eloser_New (cb (cb (cb (cb (cb c31))))) (AVal × AHeap) [(5, (.ptr t5 0))] h (xend Eloser_New f31))
theorem S_loser_New_eq (heads0 : AVal) (over1 : AVal) (h : AHeap) : S_loser_New heads0 over1 h =
 (lenV heads0).bind fun n1 =>
 bif (decide (n1 > 64)) then (some ((.lit (.pointer none)), h))
 else ((lenV heads0).bind fun n2 =>
 (mkA 24 [(.lit (.string ({ data := #[] }))), (.lit (.bool false))] n2 n2).bind fun cs3 =>
 bif closedL cs3 then ((lenV heads0).bind fun n4 =>
 (mkA 8 [(.lit (.int .i64 0))] n4 n4).bind fun cs5 =>
 bif closedL cs5 then ((lenV heads0).bind fun n6 =>
 S_loser_New_0 heads0 over1 ((apd h [.cells cs3, .cells cs5]).length) heads0 n6 0 ((psh (apd h [.cells cs3, .cells cs5]) (.cells ([(.lit (.bool true)), (.sl 2 h.length 0 ((n2).toNat)), (.sl 1 (h.length + 1) 0 ((n4).toNat)), (.lit (.int .i64 0))])))))
 else none)
 else none) := by kernel_rfl
theorem S_loser_New_0_eq (heads0 : AVal) (over1 : AVal) (t5 : Nat) (t20 : AVal) (t21 : Int) (t22 : Int) (h : AHeap) : S_loser_New_0 heads0 over1 t5 t20 t21 t22 h =
 bif (decide (t22 < t21)) then ((idxP 1 t20 t22).bind fun p7 =>
 (ld1 h p7).bind fun x8 =>
 (asS x8).bind fun s9 =>
 (lenV over1).bind fun n10 =>
 bif (decide (t22 < n10)) then ((idxP 1 over1 t22).bind fun p11 =>
 (ld1 h p11).bind fun x12 =>
 (asB x12).bind fun b13 =>
 S_loser_New_1 heads0 over1 t5 t22 s9 t20 t21 t22 b13 h)
 else (S_loser_New_1 heads0 over1 t5 t22 s9 t20 t21 t22 false h))
 else (S_loser_New_2 heads0 t5 h) := (xexec_loop Eloser_New Eloser_New_ok.C.nat _ _ _ _ _).trans (by kernel_rfl)
theorem S_loser_New_1_eq (heads0 : AVal) (over1 : AVal) (t5 : Nat) (i6 : Int) (h7 : ByteArray) (t20 : AVal) (t21 : Int) (t22 : Int) (t36 : Bool) (h : AHeap) : S_loser_New_1 heads0 over1 t5 i6 h7 t20 t21 t22 t36 h =
 (ld1 h (.ptr t5 1)).bind fun x14 =>
 (idxP 2 x14 i6).bind fun p15 =>
 (stn 2 h p15 ([(.lit (.string h7)), (.lit (.bool t36))])).bind fun h16 =>
 bif (!t36) then ((ld1 h16 (.ptr t5 3)).bind fun x17 =>
 (asI .i64 x17).bind fun n18 =>
 (st1 h16 (.ptr t5 3) (.lit (.int .i64 (IntKind.wrap .i64 (n18 + 1))))).bind fun h19 =>
 S_loser_New_3 heads0 over1 t5 t20 t21 t22 h19)
 else (S_loser_New_3 heads0 over1 t5 t20 t21 t22 h16) := (jn_eq _).trans (by kernel_rfl)
theorem S_loser_New_2_eq (heads0 : AVal) (t5 : Nat) (h : AHeap) : S_loser_New_2 heads0 t5 h =
 (lenV heads0).bind fun n20 =>
 bif (decide (n20 > 0)) then ((ld1 h (.ptr t5 2)).bind fun x21 =>
 (playP 130 [.ptr t5 0, .lit (.int .i64 1)] h).bind fun r22 =>
 (asI .i64 r22.1).bind fun n23 =>
 (reqC (((ld1 r22.2 (.ptr t5 2)).bind fun x24 =>
 some x24) = some x21)).bind fun _ =>
 (idxP 1 x21 0).bind fun p25 =>
 (st1 r22.2 p25 (.lit (.int .i64 n23))).bind fun h26 =>
 S_loser_New_4 t5 h26)
 else (S_loser_New_4 t5 h) := (jn_eq _).trans (by kernel_rfl)
theorem S_loser_New_3_eq (heads0 : AVal) (over1 : AVal) (t5 : Nat) (t20 : AVal) (t21 : Int) (t22 : Int) (h : AHeap) : S_loser_New_3 heads0 over1 t5 t20 t21 t22 h =
 S_loser_New_0 heads0 over1 t5 t20 t21 (IntKind.wrap .i64 (t22 + 1)) h := (jn_eq _).trans (by kernel_rfl)
theorem S_loser_New_4_eq (t5 : Nat) (h : AHeap) : S_loser_New_4 t5 h =
 some ((.ptr t5 0), h) := (jn_eq _).trans (by kernel_rfl)
theorem S_loser_New_ends {heads0 : AVal} {over1 : AVal} {h h' : AHeap} {v : AVal} {R : AEnd → AHeap → Prop} (hx : S_loser_New heads0 over1 h = some (v, h')) (hR : HOk h → h.length ≤ h'.length → ABody.AEnds h h' (.ret v) R) : ACalls Try.prog 31 [heads0, over1] h R := xfun_ends Eloser_New_ok tmix (i := 31) (by rfl) (by kernel_rfl) (by kernel_rfl) hx hR
end Go.Proofs.Ytpjocohpogihcaa.AL
