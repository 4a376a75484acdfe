/- The law: of sources whose heads rise all heads come, in order. -/
import Derived.Test.YtpjocohpogihcaaLawLoser
namespace Go.Proofs.Ytpjocohpogihcaa.AL
set_option linter.unusedVariables false
set_option linter.unusedSimpArgs false
set_option maxRecDepth 100000
open Go
open Go.Proofs.Try
-- chainman/chainmanlaw15.text: function 40
noncomputable def Echainmanlaw15_text : XE := { T := tabOf [(3, r3), (5, r5), (9, r9), (66, r66)], C := [], D := [], Ms := [], Ml := [], Mo := [], n := 11 }
theorem Echainmanlaw15_text_ok : XE.Ok Echainmanlaw15_text Try.prog := ⟨tabOf_ok (⟨r3_ok, ⟨r5_ok, ⟨r9_ok, ⟨r66_ok, trivial⟩⟩⟩⟩), trivial⟩
noncomputable def c40 : Code := bodyOf f40
noncomputable def S_chainmanlaw15_text (n0 : Int) (h : AHeap) : Option (AVal × AHeap) := xfun Echainmanlaw15_text f40 [(.lit (.int .i64 n0))] h
theorem S_chainmanlaw15_text_eq (n0 : Int) (h : AHeap) : S_chainmanlaw15_text n0 h =
 (blitS 1 [(.lit (.int .u8 0))] 2 [(0, (.lit (.int .u8 (IntKind.wrap .u8 (IntKind.wrap .i64 ((n0).tdiv 256)))))), (1, (.lit (.int .u8 (IntKind.wrap .u8 ((n0).tmod 256)))))] h).bind fun r1 =>
 (bytesOf r1.2 r1.1).bind fun s2 =>
 some ((.lit (.string s2)), r1.2) := by kernel_rfl
theorem S_chainmanlaw15_text_ends {n0 : Int} {h h' : AHeap} {v : AVal} {R : AEnd → AHeap → Prop} (hx : S_chainmanlaw15_text n0 h = some (v, h')) (hR : HOk h → h.length ≤ h'.length → ABody.AEnds h h' (.ret v) R) : ACalls Try.prog 40 [(.lit (.int .i64 n0))] h R := xfun_ends Echainmanlaw15_text_ok tmix (i := 40) (by rfl) (by kernel_rfl) (by kernel_rfl) hx hR
def txtN (n : Nat) : ByteArray := ⟨#[UInt8.ofNat (n / 256), UInt8.ofNat (n % 256)]⟩
theorem byteV_of {a : Nat} (h : a < 256) : byteV (UInt8.ofNat a) = .lit (.int .u8 (a : Int)) := by
  unfold byteV
  have : (UInt8.ofNat a).toNat = a := by simp [Nat.mod_eq_of_lt h]
  rw [this]
theorem text_run {n : Nat} (hn : n < 65536) (h : AHeap) : S_chainmanlaw15_text (n : Int) h = some (.lit (.string (txtN n)), h ++ [.cells [byteV (UInt8.ofNat (n / 256)), byteV (UInt8.ofNat (n % 256))]]) := by
  have e1 : IntKind.wrap .u8 (IntKind.wrap .i64 ((n : Int).tdiv 256)) = ((n / 256 : Nat) : Int) := by
    have : ((n : Int)).tdiv 256 = ((n / 256 : Nat) : Int) := by rw [Int.tdiv_eq_ediv_of_nonneg (by omega)]; omega
    rw [this, wrap_nat (by omega), wrap_u8, Nat.mod_eq_of_lt (by omega)]
  have e2 : IntKind.wrap .u8 ((n : Int).tmod 256) = ((n % 256 : Nat) : Int) := by
    have : ((n : Int)).tmod 256 = ((n % 256 : Nat) : Int) := by rw [Int.tmod_eq_emod_of_nonneg (by omega)]; omega
    rw [this, wrap_u8, Nat.mod_eq_of_lt (by omega)]
  rw [S_chainmanlaw15_text_eq, e1, e2, ← byteV_of (a := n / 256) (by omega), ← byteV_of (a := n % 256) (by omega)]
  have hb : blitS 1 [.lit (.int .u8 0)] 2 [(0, byteV (UInt8.ofNat (n / 256))), (1, byteV (UInt8.ofNat (n % 256)))] h = some (.sl 1 h.length 0 2, h ++ [.cells [byteV (UInt8.ofNat (n / 256)), byteV (UInt8.ofNat (n % 256))]]) := by
    unfold blitS
    rw [req_true (by omega)]
    simp [aFill, AVal.parts, byteV, splice]
  rw [hb, Option.bind_some]
  have hc : cellsAt (h ++ [.cells [byteV (UInt8.ofNat (n / 256)), byteV (UInt8.ofNat (n % 256))]]) h.length = some [byteV (UInt8.ofNat (n / 256)), byteV (UInt8.ofNat (n % 256))] := by simp [cellsAt]
  have hs : bytesOf (h ++ [.cells [byteV (UInt8.ofNat (n / 256)), byteV (UInt8.ofNat (n % 256))]]) (.sl 1 h.length 0 2) = some (txtN n) := by
    unfold bytesOf
    simp only [hc, Option.bind_some]
    have := unbytes_map [UInt8.ofNat (n / 256), UInt8.ofNat (n % 256)]
    simp only [List.map_cons, List.map_nil] at this
    simp only [List.drop_zero, List.take_succ_cons, List.take_zero, this, Option.bind_some]
    rw [req_true (by rfl)]; rfl
  simp only [hs, Option.bind_some]
theorem text_ok {n : Int} (hn : 0 ≤ n ∧ n < 65536) (h : AHeap) : ACalls Try.prog 40 [.lit (.int .i64 n)] h fun e h' => e = .ret (.lit (.string (txtN n.toNat))) ∧ h' = h := by
  obtain ⟨m, rfl⟩ : ∃ m : Nat, n = m := ⟨n.toNat, by omega⟩
  exact S_chainmanlaw15_text_ends (text_run (by omega) h) fun hok _ => ends_same hok rfl ⟨by rw [Int.toNat_natCast], rfl⟩
noncomputable def w_chainmanlaw15_text : XC := .p fun R args K => match args with
  | [.lit (.int .i64 n)] => (req (0 ≤ n ∧ n < 65536)).bind fun _ => K (.lit (.string (txtN n.toNat)))
  | _ => none
theorem w_chainmanlaw15_text_ok : XC.Nat w_chainmanlaw15_text ∧ XC.Ok Try.prog 40 w_chainmanlaw15_text := by
  refine ⟨fun R args K => ?_, tc40, fun args h v hx => ?_⟩
  · dsimp only; split <;> simp [Option.bind_assoc, mkP]
  · dsimp only at hx; split at hx
    · obtain ⟨_, hpre, hx⟩ := Option.bind_eq_some_iff.1 hx
      have hpre := req_some hpre
      cases hx
      exact text_ok hpre _
    · cases hx
-- chainman/chainmanlaw15.LoserMerges: function 6
noncomputable def Echainmanlaw15_LoserMerges : XE := { T := tabOf [(3, r3), (4, r4), (5, r5), (9, r9), (46, r46), (47, r47), (50, r50), (64, r64), (65, r65), (66, r66)], C := [(30, w_chainmanlaw15_awake), (31, w_loser_New), (33, w_loser_Tree_Least), (37, w_loser_Tree_Head), (38, w_loser_Tree_Next), (40, w_chainmanlaw15_text)], D := [(33, ⟨[], [0, 1, 2, 3, 4, 5, 6, 7, 8, 9, 10, 11, 12, 13, 14, 15, 16, 17, 18, 19, 20, 21, 22, 23, 24, 25, 26, 27, 28, 29, 30, 31, 32, 33, 34, 35, 36, 37, 38, 39, 40, 41], [], [], [], [], []⟩), (38, ⟨[], [0, 1, 2, 3, 4, 5, 6, 7, 8, 9], [], [], [], [], []⟩), (40, ⟨[], [0, 1, 2, 3, 4, 5, 6, 7, 8, 9, 10, 11, 12, 13, 14, 15, 16, 17, 18], [19], [], [], [], []⟩)], Ms := [(10, [0, 3, 4, 5, 6, 7, 8, 9]), (20, [0, 3, 4, 5, 6, 7, 8, 9]), (24, [0, 3, 4, 5, 6, 7, 8, 9, 12]), (27, [0, 3, 4, 5, 6, 7, 8]), (31, [0, 5, 6, 7, 8, 13, 14, 15]), (34, [0, 5, 6, 7, 8, 13, 15, 16, 154]), (42, [7, 13]), (47, [13])], Ml := [(9, [0, 3, 4, 5, 6, 7, 8, 9]), (15, [0, 3, 4, 5, 6, 7, 8, 9, 10, 11]), (30, [0, 5, 6, 7, 8, 13, 14, 15]), (43, [7, 13, 18])], Mo := [(48005, [229])], n := 230 }
theorem Echainmanlaw15_LoserMerges_ok : XE.Ok Echainmanlaw15_LoserMerges Try.prog := ⟨tabOf_ok (⟨r3_ok, ⟨r4_ok, ⟨r5_ok, ⟨r9_ok, ⟨r46_ok, ⟨r47_ok, ⟨r50_ok, ⟨r64_ok, ⟨r65_ok, ⟨r66_ok, trivial⟩⟩⟩⟩⟩⟩⟩⟩⟩⟩), ⟨w_chainmanlaw15_awake_ok, ⟨w_loser_New_ok, ⟨w_loser_Tree_Least_ok, ⟨w_loser_Tree_Head_ok, ⟨w_loser_Tree_Next_ok, ⟨w_chainmanlaw15_text_ok, trivial⟩⟩⟩⟩⟩⟩⟩
noncomputable def c6 : Code := bodyOf f6
noncomputable def S_chainmanlaw15_LoserMerges (l0 : AVal) (h : AHeap) : Option (AVal × AHeap) := xfun Echainmanlaw15_LoserMerges f6 [l0] h
noncomputable def S_chainmanlaw15_LoserMerges_0 (l0 : AVal) (heads3 : AVal) (over4 : AVal) (at5 : AVal) (now6 : AVal) (all7 : AVal) (count8 : Int) (i9 : Int) (h : AHeap) : Option (AVal × AHeap) := xexec Echainmanlaw15_LoserMerges (.loop (ca (ca (cb (ca (cb (cb (cb (cb (cb (cb (cb c6)))))))))))) (AVal × AHeap) [(0, l0), (3, heads3), (4, over4), (5, at5), (6, now6), (7, all7), (8, (.lit (.int .i64 count8))), (9, (.lit (.int .i64 i9)))] h (kBlk 0 (kSeq Echainmanlaw15_LoserMerges (cb (cb (cb (cb (cb (cb (cb (cb c6)))))))) (xend Echainmanlaw15_LoserMerges f6)))
noncomputable def S_chainmanlaw15_LoserMerges_1 (l0 : AVal) (heads3 : AVal) (over4 : AVal) (at5 : AVal) (now6 : AVal) (all7 : AVal) (count8 : Int) (i9 : Int) (v10 : Int) (k11 : Int) (h : AHeap) : Option (AVal × AHeap) := xexec Echainmanlaw15_LoserMerges (.loop (ca (ca (cb (ca (cb (cb (ca (ca (cb (ca (ca (cb (ca (cb (cb (cb (cb (cb (cb (cb c6))))))))))))))))))))) (AVal × AHeap) [(0, l0), (3, heads3), (4, over4), (5, at5), (6, now6), (7, all7), (8, (.lit (.int .i64 count8))), (9, (.lit (.int .i64 i9))), (10, (.lit (.int .i64 v10))), (11, (.lit (.int .i64 k11)))] h (kBlk 2 (kSeq Echainmanlaw15_LoserMerges (cb (cb (cb (ca (ca (cb (ca (ca (cb (ca (cb (cb (cb (cb (cb (cb (cb c6))))))))))))))))) (kBlk 1 (kSeq Echainmanlaw15_LoserMerges (cb (cb (ca (ca (cb (ca (cb (cb (cb (cb (cb (cb (cb c6))))))))))))) (kLoop Echainmanlaw15_LoserMerges (ca (ca (cb (ca (cb (cb (cb (cb (cb (cb (cb c6))))))))))) (kBlk 0 (kSeq Echainmanlaw15_LoserMerges (cb (cb (cb (cb (cb (cb (cb (cb c6)))))))) (xend Echainmanlaw15_LoserMerges f6))))))))
noncomputable def S_chainmanlaw15_LoserMerges_2 (l0 : AVal) (heads3 : AVal) (over4 : AVal) (at5 : AVal) (now6 : AVal) (all7 : AVal) (count8 : Int) (h : AHeap) : Option (AVal × AHeap) := jn (xexec Echainmanlaw15_LoserMerges (cb (cb (cb (cb (cb (cb (cb (cb c6)))))))) (AVal × AHeap) [(0, l0), (3, heads3), (4, over4), (5, at5), (6, now6), (7, all7), (8, (.lit (.int .i64 count8)))] h (xend Echainmanlaw15_LoserMerges f6))
noncomputable def S_chainmanlaw15_LoserMerges_3 (l0 : AVal) (heads3 : AVal) (over4 : AVal) (at5 : AVal) (now6 : AVal) (all7 : AVal) (count8 : Int) (i9 : Int) (h : AHeap) : Option (AVal × AHeap) := jn (xexec Echainmanlaw15_LoserMerges (cb (cb (cb (ca (ca (cb (ca (ca (cb (ca (cb (cb (cb (cb (cb (cb (cb c6))))))))))))))))) (AVal × AHeap) [(0, l0), (3, heads3), (4, over4), (5, at5), (6, now6), (7, all7), (8, (.lit (.int .i64 count8))), (9, (.lit (.int .i64 i9)))] h (kBlk 1 (kSeq Echainmanlaw15_LoserMerges (cb (cb (ca (ca (cb (ca (cb (cb (cb (cb (cb (cb (cb c6))))))))))))) (kLoop Echainmanlaw15_LoserMerges (ca (ca (cb (ca (cb (cb (cb (cb (cb (cb (cb c6))))))))))) (kBlk 0 (kSeq Echainmanlaw15_LoserMerges (cb (cb (cb (cb (cb (cb (cb (cb c6)))))))) (xend Echainmanlaw15_LoserMerges f6)))))))
noncomputable def S_chainmanlaw15_LoserMerges_4 (l0 : AVal) (at5 : AVal) (now6 : AVal) (all7 : AVal) (count8 : Int) (t13 : AVal) (last14 : Int) (n15 : Int) (h : AHeap) : Option (AVal × AHeap) := xexec Echainmanlaw15_LoserMerges (.loop (ca (ca (cb (ca (cb (cb (cb (cb (cb (cb (cb (cb (cb (cb c6))))))))))))))) (AVal × AHeap) [(0, l0), (5, at5), (6, now6), (7, all7), (8, (.lit (.int .i64 count8))), (13, t13), (14, (.lit (.int .i64 last14))), (15, (.lit (.int .i64 n15)))] h (kBlk 4 (kSeq Echainmanlaw15_LoserMerges (cb (cb (cb (cb (cb (cb (cb (cb (cb (cb (cb c6))))))))))) (xend Echainmanlaw15_LoserMerges f6)))
noncomputable def S_chainmanlaw15_LoserMerges_5 (l0 : AVal) (heads3 : AVal) (over4 : AVal) (at5 : AVal) (now6 : AVal) (all7 : AVal) (count8 : Int) (i9 : Int) (first12 : Int) (h : AHeap) : Option (AVal × AHeap) := jn (xexec Echainmanlaw15_LoserMerges (cb (cb (cb (cb (cb (cb (ca (ca (cb (ca (ca (cb (ca (cb (cb (cb (cb (cb (cb (cb c6)))))))))))))))))))) (AVal × AHeap) [(0, l0), (3, heads3), (4, over4), (5, at5), (6, now6), (7, all7), (8, (.lit (.int .i64 count8))), (9, (.lit (.int .i64 i9))), (12, (.lit (.int .i64 first12)))] h (kBlk 1 (kSeq Echainmanlaw15_LoserMerges (cb (cb (ca (ca (cb (ca (cb (cb (cb (cb (cb (cb (cb c6))))))))))))) (kLoop Echainmanlaw15_LoserMerges (ca (ca (cb (ca (cb (cb (cb (cb (cb (cb (cb c6))))))))))) (kBlk 0 (kSeq Echainmanlaw15_LoserMerges (cb (cb (cb (cb (cb (cb (cb (cb c6)))))))) (xend Echainmanlaw15_LoserMerges f6)))))))
noncomputable def S_chainmanlaw15_LoserMerges_6 (l0 : AVal) (at5 : AVal) (now6 : AVal) (all7 : AVal) (count8 : Int) (t13 : AVal) (n15 : Int) (i16 : Int) (t154 : Bool) (h : AHeap) : Option (AVal × AHeap) := jn (xexec Echainmanlaw15_LoserMerges (cb (ca (cb (ca (ca (cb (ca (ca (cb (ca (cb (cb (cb (cb (cb (cb (cb (cb (cb (cb c6)))))))))))))))))))) (AVal × AHeap) [(0, l0), (5, at5), (6, now6), (7, all7), (8, (.lit (.int .i64 count8))), (13, t13), (15, (.lit (.int .i64 n15))), (16, (.lit (.int .i64 i16))), (154, (.lit (.bool t154)))] h (kSeq Echainmanlaw15_LoserMerges (cb (cb (ca (ca (cb (ca (ca (cb (ca (cb (cb (cb (cb (cb (cb (cb (cb (cb (cb c6))))))))))))))))))) (kBlk 5 (kSeq Echainmanlaw15_LoserMerges (cb (cb (ca (ca (cb (ca (cb (cb (cb (cb (cb (cb (cb (cb (cb (cb c6)))))))))))))))) (kLoop Echainmanlaw15_LoserMerges (ca (ca (cb (ca (cb (cb (cb (cb (cb (cb (cb (cb (cb (cb c6)))))))))))))) (kBlk 4 (kSeq Echainmanlaw15_LoserMerges (cb (cb (cb (cb (cb (cb (cb (cb (cb (cb (cb c6))))))))))) (xend Echainmanlaw15_LoserMerges f6))))))))
noncomputable def S_chainmanlaw15_LoserMerges_7 (all7 : AVal) (t13 : AVal) (h : AHeap) : Option (AVal × AHeap) := jn (xexec Echainmanlaw15_LoserMerges (cb (cb (cb (cb (cb (cb (cb (cb (cb (cb (cb c6))))))))))) (AVal × AHeap) [(7, all7), (13, t13)] h (xend Echainmanlaw15_LoserMerges f6))
noncomputable def S_chainmanlaw15_LoserMerges_8 (l0 : AVal) (heads3 : AVal) (over4 : AVal) (at5 : AVal) (now6 : AVal) (all7 : AVal) (count8 : Int) (i9 : Int) (h : AHeap) : Option (AVal × AHeap) := jn (xexec Echainmanlaw15_LoserMerges (cb (cb (ca (ca (cb (ca (cb (cb (cb (cb (cb (cb (cb c6))))))))))))) (AVal × AHeap) [(0, l0), (3, heads3), (4, over4), (5, at5), (6, now6), (7, all7), (8, (.lit (.int .i64 count8))), (9, (.lit (.int .i64 i9)))] h (kLoop Echainmanlaw15_LoserMerges (ca (ca (cb (ca (cb (cb (cb (cb (cb (cb (cb c6))))))))))) (kBlk 0 (kSeq Echainmanlaw15_LoserMerges (cb (cb (cb (cb (cb (cb (cb (cb c6)))))))) (xend Echainmanlaw15_LoserMerges f6)))))
noncomputable def S_chainmanlaw15_LoserMerges_9 (l0 : AVal) (at5 : AVal) (now6 : AVal) (all7 : AVal) (count8 : Int) (t13 : AVal) (last14 : Int) (n15 : Int) (h : AHeap) : Option (AVal × AHeap) := jn (xexec Echainmanlaw15_LoserMerges (cb (cb (ca (ca (cb (ca (cb (cb (cb (cb (cb (cb (cb (cb (cb (cb c6)))))))))))))))) (AVal × AHeap) [(0, l0), (5, at5), (6, now6), (7, all7), (8, (.lit (.int .i64 count8))), (13, t13), (14, (.lit (.int .i64 last14))), (15, (.lit (.int .i64 n15)))] h (kLoop Echainmanlaw15_LoserMerges (ca (ca (cb (ca (cb (cb (cb (cb (cb (cb (cb (cb (cb (cb c6)))))))))))))) (kBlk 4 (kSeq Echainmanlaw15_LoserMerges (cb (cb (cb (cb (cb (cb (cb (cb (cb (cb (cb c6))))))))))) (xend Echainmanlaw15_LoserMerges f6)))))
noncomputable def S_chainmanlaw15_LoserMerges_10 (all7 : AVal) (t13 : AVal) (v18 : Int) (h : AHeap) : Option (AVal × AHeap) := xexec Echainmanlaw15_LoserMerges (.loop (ca (ca (cb (ca (cb (cb (cb (cb (cb (cb (cb (cb (cb (cb (cb c6)))))))))))))))) (AVal × AHeap) [(7, all7), (13, t13), (18, (.lit (.int .i64 v18)))] h (kBlk 6 (kSeq Echainmanlaw15_LoserMerges (cb (cb (cb (cb (cb (cb (cb (cb (cb (cb (cb (cb c6)))))))))))) (xend Echainmanlaw15_LoserMerges f6)))
noncomputable def S_chainmanlaw15_LoserMerges_11 (t13 : AVal) (h : AHeap) : Option (AVal × AHeap) := jn (xexec Echainmanlaw15_LoserMerges (cb (cb (cb (cb (cb (cb (cb (cb (cb (cb (cb (cb c6)))))))))))) (AVal × AHeap) [(13, t13)] h (xend Echainmanlaw15_LoserMerges f6))
noncomputable def S_chainmanlaw15_LoserMerges_12 (t229 : Bool) (h : AHeap) : Option (AVal × AHeap) := jn (xops Echainmanlaw15_LoserMerges 48 (rops (ca (cb (cb (cb (cb (cb (cb (cb (cb (cb (cb (cb (cb (cb c6))))))))))))))) ((rops (ca (cb (cb (cb (cb (cb (cb (cb (cb (cb (cb (cb (cb (cb c6))))))))))))))).toList.drop 5) 5 [(229, (.lit (.bool t229)))] h (kN (kSeq Echainmanlaw15_LoserMerges (cb (cb (cb (cb (cb (cb (cb (cb (cb (cb (cb (cb (cb (cb c6)))))))))))))) (xend Echainmanlaw15_LoserMerges f6))))
theorem S_chainmanlaw15_LoserMerges_eq (l0 : AVal) (h : AHeap) : S_chainmanlaw15_LoserMerges l0 h =
 (lenV l0).bind fun n1 =>
 bif (decide (n1 > 12)) then (some ((.lit (.bool true)), h))
 else ((mkS 1 8 [(.lit (.int .i64 0))] 4096 4096 h).bind fun r2 =>
 S_chainmanlaw15_LoserMerges_0 l0 ((.lit (.slice none 0 0))) ((.lit (.slice none 0 0))) ((.lit (.slice none 0 0))) ((.lit (.slice none 0 0))) r2.1 0 0 r2.2) := by kernel_rfl
theorem S_chainmanlaw15_LoserMerges_0_eq (l0 : AVal) (heads3 : AVal) (over4 : AVal) (at5 : AVal) (now6 : AVal) (all7 : AVal) (count8 : Int) (i9 : Int) (h : AHeap) : S_chainmanlaw15_LoserMerges_0 l0 heads3 over4 at5 now6 all7 count8 i9 h =
 (lenV l0).bind fun n3 =>
 bif (decide (i9 < n3)) then ((idxP 1 l0 i9).bind fun p4 =>
 (ld1 h p4).bind fun x5 =>
 (lenV x5).bind fun n6 =>
 bif (decide (n6 > 12)) then (some ((.lit (.bool true)), h))
 else (S_chainmanlaw15_LoserMerges_1 l0 heads3 over4 at5 now6 all7 count8 i9 0 0 h))
 else (S_chainmanlaw15_LoserMerges_2 l0 heads3 over4 at5 now6 all7 count8 h) := (xexec_loop Echainmanlaw15_LoserMerges Echainmanlaw15_LoserMerges_ok.C.nat _ _ _ _ _).trans (by kernel_rfl)
theorem S_chainmanlaw15_LoserMerges_1_eq (l0 : AVal) (heads3 : AVal) (over4 : AVal) (at5 : AVal) (now6 : AVal) (all7 : AVal) (count8 : Int) (i9 : Int) (v10 : Int) (k11 : Int) (h : AHeap) : S_chainmanlaw15_LoserMerges_1 l0 heads3 over4 at5 now6 all7 count8 i9 v10 k11 h =
 (idxP 1 l0 i9).bind fun p7 =>
 (ld1 h p7).bind fun x8 =>
 (lenV x8).bind fun n9 =>
 bif (decide (k11 < n9)) then ((idxP 1 l0 i9).bind fun p10 =>
 (ld1 h p10).bind fun x11 =>
 (idxP 1 x11 k11).bind fun p12 =>
 (ld1 h p12).bind fun x13 =>
 (asI .u8 x13).bind fun n14 =>
 (idxP 1 all7 (IntKind.wrap .i64 (v10 + (IntKind.wrap .i64 n14)))).bind fun p15 =>
 (ld1 h p15).bind fun x16 =>
 (asI .i64 x16).bind fun n17 =>
 (idxP 1 all7 (IntKind.wrap .i64 (v10 + (IntKind.wrap .i64 n14)))).bind fun p18 =>
 (st1 h p18 (.lit (.int .i64 (IntKind.wrap .i64 (n17 + 1))))).bind fun h19 =>
 S_chainmanlaw15_LoserMerges_1 l0 heads3 over4 at5 now6 all7 (IntKind.wrap .i64 (count8 + 1)) i9 (IntKind.wrap .i64 (v10 + (IntKind.wrap .i64 n14))) (IntKind.wrap .i64 (k11 + 1)) h19)
 else (S_chainmanlaw15_LoserMerges_3 l0 heads3 over4 at5 now6 all7 count8 i9 h) := (xexec_loop Echainmanlaw15_LoserMerges Echainmanlaw15_LoserMerges_ok.C.nat _ _ _ _ _).trans (by kernel_rfl)
theorem S_chainmanlaw15_LoserMerges_2_eq (l0 : AVal) (heads3 : AVal) (over4 : AVal) (at5 : AVal) (now6 : AVal) (all7 : AVal) (count8 : Int) (h : AHeap) : S_chainmanlaw15_LoserMerges_2 l0 heads3 over4 at5 now6 all7 count8 h =
 (S_loser_New heads3 over4 h).bind fun r20 =>
 S_chainmanlaw15_LoserMerges_4 l0 at5 now6 all7 count8 r20.1 0 0 r20.2 := (jn_eq _).trans (by kernel_rfl)
theorem S_chainmanlaw15_LoserMerges_3_eq (l0 : AVal) (heads3 : AVal) (over4 : AVal) (at5 : AVal) (now6 : AVal) (all7 : AVal) (count8 : Int) (i9 : Int) (h : AHeap) : S_chainmanlaw15_LoserMerges_3 l0 heads3 over4 at5 now6 all7 count8 i9 h =
 (idxP 1 l0 i9).bind fun p21 =>
 (ld1 h p21).bind fun x22 =>
 (lenV x22).bind fun n23 =>
 (blitS 1 [(.lit (.bool false))] 1 [(0, (.lit (.bool (decide (n23 = 0)))))] h).bind fun r24 =>
 (appV 1 1 r24.2 over4 r24.1).bind fun r25 =>
 (idxP 1 l0 i9).bind fun p26 =>
 (ld1 r25.2 p26).bind fun x27 =>
 (lenV x27).bind fun n28 =>
 bif (decide (n28 > 0)) then ((idxP 1 l0 i9).bind fun p29 =>
 (ld1 r25.2 p29).bind fun x30 =>
 (idxP 1 x30 0).bind fun p31 =>
 (ld1 r25.2 p31).bind fun x32 =>
 (asI .u8 x32).bind fun n33 =>
 S_chainmanlaw15_LoserMerges_5 l0 heads3 r25.1 at5 now6 all7 count8 i9 (IntKind.wrap .i64 n33) r25.2)
 else (S_chainmanlaw15_LoserMerges_5 l0 heads3 r25.1 at5 now6 all7 count8 i9 0 r25.2) := (jn_eq _).trans (by kernel_rfl)
theorem S_chainmanlaw15_LoserMerges_4_eq (l0 : AVal) (at5 : AVal) (now6 : AVal) (all7 : AVal) (count8 : Int) (t13 : AVal) (last14 : Int) (n15 : Int) (h : AHeap) : S_chainmanlaw15_LoserMerges_4 l0 at5 now6 all7 count8 t13 last14 n15 h =
 bif (decide (n15 < count8)) then ((onlyR (ptrV (fun b o => S_loser_Tree_Least b o) t13 h) h).bind fun r34 =>
 (xExtract r34 0).bind fun x35 =>
 (asI .i64 x35).bind fun n36 =>
 (xExtract r34 1).bind fun x37 =>
 (asB x37).bind fun b38 =>
 bif (!b38) then (S_chainmanlaw15_LoserMerges_6 l0 at5 now6 all7 count8 t13 n15 n36 true h)
 else (bif (decide (n36 < 0)) then (S_chainmanlaw15_LoserMerges_6 l0 at5 now6 all7 count8 t13 n15 n36 true h)
 else ((lenV l0).bind fun n39 =>
 bif (decide (n36 ≥ n39)) then (S_chainmanlaw15_LoserMerges_6 l0 at5 now6 all7 count8 t13 n15 n36 true h)
 else ((idxP 1 at5 n36).bind fun p40 =>
 (ld1 h p40).bind fun x41 =>
 (asI .i64 x41).bind fun n42 =>
 (idxP 1 l0 n36).bind fun p43 =>
 (ld1 h p43).bind fun x44 =>
 (lenV x44).bind fun n45 =>
 bif (decide (n42 ≥ n45)) then (S_chainmanlaw15_LoserMerges_6 l0 at5 now6 all7 count8 t13 n15 n36 true h)
 else ((onlyR (ptrV (fun b o => S_loser_Tree_Head b o) t13 h) h).bind fun r46 =>
 (asS r46).bind fun s47 =>
 (idxP 1 now6 n36).bind fun p48 =>
 (ld1 h p48).bind fun x49 =>
 (asI .i64 x49).bind fun n50 =>
 (req (0 ≤ n50 ∧ n50 < 65536)).bind fun _ =>
 bif (!decide (s47 = (txtN n50.toNat))) then (S_chainmanlaw15_LoserMerges_6 l0 at5 now6 all7 count8 t13 n15 n36 true h)
 else ((idxP 1 now6 n36).bind fun p51 =>
 (ld1 h p51).bind fun x52 =>
 (asI .i64 x52).bind fun n53 =>
 S_chainmanlaw15_LoserMerges_6 l0 at5 now6 all7 count8 t13 n15 n36 (decide (n53 < last14)) h))))))
 else (S_chainmanlaw15_LoserMerges_7 all7 t13 h) := (xexec_loop Echainmanlaw15_LoserMerges Echainmanlaw15_LoserMerges_ok.C.nat _ _ _ _ _).trans (by kernel_rfl)
theorem S_chainmanlaw15_LoserMerges_5_eq (l0 : AVal) (heads3 : AVal) (over4 : AVal) (at5 : AVal) (now6 : AVal) (all7 : AVal) (count8 : Int) (i9 : Int) (first12 : Int) (h : AHeap) : S_chainmanlaw15_LoserMerges_5 l0 heads3 over4 at5 now6 all7 count8 i9 first12 h =
 (req (0 ≤ first12 ∧ first12 < 65536)).bind fun _ =>
 (blitS 1 [(.lit (.string ({ data := #[] })))] 1 [(0, (.lit (.string (txtN first12.toNat))))] h).bind fun r54 =>
 (appV 1 16 r54.2 heads3 r54.1).bind fun r55 =>
 (blitS 1 [(.lit (.int .i64 0))] 1 [(0, (.lit (.int .i64 0)))] r55.2).bind fun r56 =>
 (appV 1 8 r56.2 at5 r56.1).bind fun r57 =>
 (blitS 1 [(.lit (.int .i64 0))] 1 [(0, (.lit (.int .i64 first12)))] r57.2).bind fun r58 =>
 (appV 1 8 r58.2 now6 r58.1).bind fun r59 =>
 S_chainmanlaw15_LoserMerges_8 l0 r55.1 over4 r57.1 r59.1 all7 count8 i9 r59.2 := (jn_eq _).trans (by kernel_rfl)
theorem S_chainmanlaw15_LoserMerges_6_eq (l0 : AVal) (at5 : AVal) (now6 : AVal) (all7 : AVal) (count8 : Int) (t13 : AVal) (n15 : Int) (i16 : Int) (t154 : Bool) (h : AHeap) : S_chainmanlaw15_LoserMerges_6 l0 at5 now6 all7 count8 t13 n15 i16 t154 h =
 bif t154 then (some ((.lit (.bool false)), h))
 else ((idxP 1 now6 i16).bind fun p60 =>
 (ld1 h p60).bind fun x61 =>
 (asI .i64 x61).bind fun n62 =>
 (idxP 1 all7 n62).bind fun p63 =>
 (ld1 h p63).bind fun x64 =>
 (asI .i64 x64).bind fun n65 =>
 (idxP 1 all7 n62).bind fun p66 =>
 (st1 h p66 (.lit (.int .i64 (IntKind.wrap .i64 (n65 - 1))))).bind fun h67 =>
 (idxP 1 at5 i16).bind fun p68 =>
 (ld1 h67 p68).bind fun x69 =>
 (asI .i64 x69).bind fun n70 =>
 (idxP 1 at5 i16).bind fun p71 =>
 (st1 h67 p71 (.lit (.int .i64 (IntKind.wrap .i64 (n70 + 1))))).bind fun h72 =>
 (idxP 1 at5 i16).bind fun p73 =>
 (ld1 h72 p73).bind fun x74 =>
 (asI .i64 x74).bind fun n75 =>
 (idxP 1 l0 i16).bind fun p76 =>
 (ld1 h72 p76).bind fun x77 =>
 (lenV x77).bind fun n78 =>
 bif (decide (n75 = n78)) then ((ptrV (fun b o => S_loser_Tree_Next b o ({ data := #[] }) true) t13 h72).bind fun r79 =>
 S_chainmanlaw15_LoserMerges_9 l0 at5 now6 all7 count8 t13 n62 n15 r79.2)
 else ((idxP 1 now6 i16).bind fun p80 =>
 (ld1 h72 p80).bind fun x81 =>
 (asI .i64 x81).bind fun n82 =>
 (idxP 1 l0 i16).bind fun p83 =>
 (ld1 h72 p83).bind fun x84 =>
 (idxP 1 at5 i16).bind fun p85 =>
 (ld1 h72 p85).bind fun x86 =>
 (asI .i64 x86).bind fun n87 =>
 (idxP 1 x84 n87).bind fun p88 =>
 (ld1 h72 p88).bind fun x89 =>
 (asI .u8 x89).bind fun n90 =>
 (idxP 1 now6 i16).bind fun p91 =>
 (st1 h72 p91 (.lit (.int .i64 (IntKind.wrap .i64 (n82 + (IntKind.wrap .i64 n90)))))).bind fun h92 =>
 (idxP 1 now6 i16).bind fun p93 =>
 (ld1 h92 p93).bind fun x94 =>
 (asI .i64 x94).bind fun n95 =>
 (req (0 ≤ n95 ∧ n95 < 65536)).bind fun _ =>
 (ptrV (fun b o => S_loser_Tree_Next b o (txtN n95.toNat) false) t13 h92).bind fun r96 =>
 S_chainmanlaw15_LoserMerges_9 l0 at5 now6 all7 count8 t13 n62 n15 r96.2)) := (jn_eq _).trans (by kernel_rfl)
theorem S_chainmanlaw15_LoserMerges_7_eq (all7 : AVal) (t13 : AVal) (h : AHeap) : S_chainmanlaw15_LoserMerges_7 all7 t13 h =
 S_chainmanlaw15_LoserMerges_10 all7 t13 0 h := (jn_eq _).trans (by kernel_rfl)
theorem S_chainmanlaw15_LoserMerges_8_eq (l0 : AVal) (heads3 : AVal) (over4 : AVal) (at5 : AVal) (now6 : AVal) (all7 : AVal) (count8 : Int) (i9 : Int) (h : AHeap) : S_chainmanlaw15_LoserMerges_8 l0 heads3 over4 at5 now6 all7 count8 i9 h =
 S_chainmanlaw15_LoserMerges_0 l0 heads3 over4 at5 now6 all7 count8 (IntKind.wrap .i64 (i9 + 1)) h := (jn_eq _).trans (by kernel_rfl)
theorem S_chainmanlaw15_LoserMerges_9_eq (l0 : AVal) (at5 : AVal) (now6 : AVal) (all7 : AVal) (count8 : Int) (t13 : AVal) (last14 : Int) (n15 : Int) (h : AHeap) : S_chainmanlaw15_LoserMerges_9 l0 at5 now6 all7 count8 t13 last14 n15 h =
 S_chainmanlaw15_LoserMerges_4 l0 at5 now6 all7 count8 t13 last14 (IntKind.wrap .i64 (n15 + 1)) h := (jn_eq _).trans (by kernel_rfl)
theorem S_chainmanlaw15_LoserMerges_10_eq (all7 : AVal) (t13 : AVal) (v18 : Int) (h : AHeap) : S_chainmanlaw15_LoserMerges_10 all7 t13 v18 h =
 (lenV all7).bind fun n97 =>
 bif (decide (v18 < n97)) then ((idxP 1 all7 v18).bind fun p98 =>
 (ld1 h p98).bind fun x99 =>
 (asI .i64 x99).bind fun n100 =>
 bif (!decide (n100 = 0)) then (some ((.lit (.bool false)), h))
 else (S_chainmanlaw15_LoserMerges_10 all7 t13 (IntKind.wrap .i64 (v18 + 1)) h))
 else (S_chainmanlaw15_LoserMerges_11 t13 h) := (xexec_loop Echainmanlaw15_LoserMerges Echainmanlaw15_LoserMerges_ok.C.nat _ _ _ _ _).trans (by kernel_rfl)
theorem S_chainmanlaw15_LoserMerges_11_eq (t13 : AVal) (h : AHeap) : S_chainmanlaw15_LoserMerges_11 t13 h =
 (onlyR (ptrV (fun b o => S_loser_Tree_Least b o) t13 h) h).bind fun r101 =>
 (xExtract r101 0).bind fun x102 =>
 (asI .i64 x102).bind fun n103 =>
 (xExtract r101 1).bind fun x104 =>
 (asB x104).bind fun b105 =>
 bif (!b105) then (S_chainmanlaw15_LoserMerges_12 true h)
 else (S_chainmanlaw15_LoserMerges_12 false h) := (jn_eq _).trans (by kernel_rfl)
theorem S_chainmanlaw15_LoserMerges_12_eq (t229 : Bool) (h : AHeap) : S_chainmanlaw15_LoserMerges_12 t229 h =
 some ((.lit (.bool t229)), h) := (jn_eq _).trans (by kernel_rfl)
theorem S_chainmanlaw15_LoserMerges_ends {l0 : AVal} {h h' : AHeap} {v : AVal} {R : AEnd → AHeap → Prop} (hx : S_chainmanlaw15_LoserMerges l0 h = some (v, h')) (hR : HOk h → h.length ≤ h'.length → ABody.AEnds h h' (.ret v) R) : ACalls Try.prog 6 [l0] h R := xfun_ends Echainmanlaw15_LoserMerges_ok tmix (i := 6) (by rfl) (by kernel_rfl) (by kernel_rfl) hx hR
end Go.Proofs.Ytpjocohpogihcaa.AL
