import Derived.Test.YteclkehnppeobaaG5
import Derived.Test.YteclkehnppeobaaProg
import Derived.Test.YteclkehnppeobaaG2
import Derived.KernelRfl
/- The document's blocks and files: printed. -/
namespace Go.Proofs.Yteclkehnppeobaa.AL
set_option linter.unusedVariables false
set_option linter.unusedSimpArgs false
set_option maxRecDepth 100000
open Go
open Go.Proofs.Try
-- chainman/chainmanref05.All: function 63
noncomputable def Echainmanref05_All : XE := { T := tabOf [(3, r3), (4, r4), (9, r9), (42, r42)], C := [], D := [], Ms := [(6, [])], Ml := [(2, [0, 1, 5])], Mo := [], n := 19 }
theorem Echainmanref05_All_ok : XE.Ok Echainmanref05_All Try.prog := ⟨tabOf_ok (⟨r3_ok, ⟨r4_ok, ⟨r9_ok, ⟨r42_ok, trivial⟩⟩⟩⟩), trivial, ydOk_none, trivial⟩
noncomputable def c63 : Code := bodyOf f63
noncomputable def S_chainmanref05_All (size0 : Int) (l1 : AVal) (h : AHeap) : Option (AVal × AHeap) := xfun Echainmanref05_All f63 [(.lit (.int .i64 size0)), l1] h
noncomputable def S_chainmanref05_All_0 (size0 : Int) (l1 : AVal) (i5 : Int) (h : AHeap) : Option (AVal × AHeap) := xexec Echainmanref05_All (.loop (ca (ca (cb (ca (cb c63)))))) (AVal × AHeap) [(0, (.lit (.int .i64 size0))), (1, l1), (5, (.lit (.int .i64 i5)))] h (kBlk 0 (kSeq Echainmanref05_All (cb (cb c63)) (xend Echainmanref05_All f63)))
noncomputable def S_chainmanref05_All_1  (h : AHeap) : Option (AVal × AHeap) := jn (xexec Echainmanref05_All (cb (cb c63)) (AVal × AHeap) [] h (xend Echainmanref05_All f63))
theorem S_chainmanref05_All_eq (size0 : Int) (l1 : AVal) (h : AHeap) : S_chainmanref05_All size0 l1 h =
 S_chainmanref05_All_0 size0 l1 0 h := by kernel_rfl
theorem S_chainmanref05_All_0_eq (size0 : Int) (l1 : AVal) (i5 : Int) (h : AHeap) : S_chainmanref05_All_0 size0 l1 i5 h =
 (lenV l1).bind fun n1 =>
 bif (decide (i5 < n1)) then ((idxP 1 l1 i5).bind fun p2 =>
 (ld1 h p2).bind fun x3 =>
 (asS x3).bind fun s4 =>
 bif (!decide ((s4.size : Int) = size0)) then (some ((.lit (.bool false)), h))
 else (S_chainmanref05_All_0 size0 l1 (IntKind.wrap .i64 (i5 + 1)) h))
 else (S_chainmanref05_All_1 h) := (xexec_loop Echainmanref05_All Echainmanref05_All_ok.C.nat _ _ _ _ _).trans (by kernel_rfl)
theorem S_chainmanref05_All_1_eq  (h : AHeap) : S_chainmanref05_All_1  h =
 some ((.lit (.bool true)), h) := (jn_eq _).trans (by kernel_rfl)
theorem S_chainmanref05_All_ends {size0 : Int} {l1 : AVal} {h h' : AHeap} {v : AVal} {R : AEnd → AHeap → Prop} (hx : S_chainmanref05_All size0 l1 h = some (v, h')) (hR : HOk h → h.length ≤ h'.length → ABody.AEnds h h' (.ret v) R) : ACalls Try.prog 63 [(.lit (.int .i64 size0)), l1] h R := xfun_ends Echainmanref05_All_ok tmix (i := 63) (by rfl) (by kernel_rfl) (by kernel_rfl) hx hR
noncomputable def w_chainmanref05_All : XC := .q fun R args h K => match args with
  | [.lit (.int .i64 a0), a1] => (onlyR (S_chainmanref05_All a0 a1 h) h).bind fun r => K r
  | _ => none
theorem w_chainmanref05_All_ok : XC.Nat w_chainmanref05_All ∧ XC.Ok Try.prog 63 w_chainmanref05_All := by
  refine ⟨fun R args h K => ?_, tc63, fun args h v hx => ?_⟩
  · dsimp only; split <;> simp [Option.bind_assoc, mkP]
  · dsimp only at hx; split at hx
    · obtain ⟨r, hopt, hx⟩ := Option.bind_eq_some_iff.1 hx
      cases hx
      exact (by have hopt := onlyR_some hopt; exact S_chainmanref05_All_ends hopt selfR)
    · cases hx
-- chainman/chainmanref05.Put: function 64
noncomputable def Echainmanref05_Put : XE := { T := tabOf [(3, r3), (4, r4), (5, r5), (9, r9), (42, r42), (121, r121)], C := [(63, w_chainmanref05_All), (102, w_chainmanref03_Close)], D := [], Ms := [(8, [6])], Ml := [(5, [1, 6, 7])], Mo := [(1006, [0, 1, 13]), (1011, [0, 1, 18]), (1016, [0, 1, 23]), (1022, [1, 29])], n := 49 }
theorem Echainmanref05_Put_ok : XE.Ok Echainmanref05_Put Try.prog := ⟨tabOf_ok (⟨r3_ok, ⟨r4_ok, ⟨r5_ok, ⟨r9_ok, ⟨r42_ok, ⟨r121_ok, trivial⟩⟩⟩⟩⟩⟩), (⟨w_chainmanref05_All_ok, ⟨w_chainmanref03_Close_ok, trivial⟩⟩), ydOk_none, trivial⟩
noncomputable def c64 : Code := bodyOf f64
noncomputable def S_chainmanref05_Put (size0 : Int) (l1 : AVal) (h : AHeap) : Option (AVal × AHeap) := xfun Echainmanref05_Put f64 [(.lit (.int .i64 size0)), l1] h
noncomputable def S_chainmanref05_Put_0 (size0 : Int) (l1 : AVal) (t13 : Bool) (h : AHeap) : Option (AVal × AHeap) := jo Echainmanref05_Put 1 (rops (ca (ca (cb c64)))) ((rops (ca (ca (cb c64)))).toList.drop 6) 6 [(0, (.lit (.int .i64 size0))), (1, l1), (13, (.lit (.bool t13)))] h (kN (kSeq Echainmanref05_Put (cb (ca (cb c64))) (kSeq Echainmanref05_Put (cb (cb c64)) (xend Echainmanref05_Put f64))))
noncomputable def S_chainmanref05_Put_1 (size0 : Int) (l1 : AVal) (t18 : Bool) (h : AHeap) : Option (AVal × AHeap) := jo Echainmanref05_Put 1 (rops (ca (ca (cb c64)))) ((rops (ca (ca (cb c64)))).toList.drop 11) 11 [(0, (.lit (.int .i64 size0))), (1, l1), (18, (.lit (.bool t18)))] h (kN (kSeq Echainmanref05_Put (cb (ca (cb c64))) (kSeq Echainmanref05_Put (cb (cb c64)) (xend Echainmanref05_Put f64))))
noncomputable def S_chainmanref05_Put_2 (size0 : Int) (l1 : AVal) (t23 : Bool) (h : AHeap) : Option (AVal × AHeap) := jo Echainmanref05_Put 1 (rops (ca (ca (cb c64)))) ((rops (ca (ca (cb c64)))).toList.drop 16) 16 [(0, (.lit (.int .i64 size0))), (1, l1), (23, (.lit (.bool t23)))] h (kN (kSeq Echainmanref05_Put (cb (ca (cb c64))) (kSeq Echainmanref05_Put (cb (cb c64)) (xend Echainmanref05_Put f64))))
noncomputable def S_chainmanref05_Put_3 (l1 : AVal) (t29 : Bool) (h : AHeap) : Option (AVal × AHeap) := jo Echainmanref05_Put 1 (rops (ca (ca (cb c64)))) ((rops (ca (ca (cb c64)))).toList.drop 22) 22 [(1, l1), (29, (.lit (.bool t29)))] h (kN (kSeq Echainmanref05_Put (cb (ca (cb c64))) (kSeq Echainmanref05_Put (cb (cb c64)) (xend Echainmanref05_Put f64))))
noncomputable def S_chainmanref05_Put_4 (l1 : AVal) (s6 : ByteArray) (i7 : Int) (h : AHeap) : Option (AVal × AHeap) := xexec Echainmanref05_Put (.loop (ca (ca (cb (ca (cb (cb (cb c64)))))))) (AVal × AHeap) [(1, l1), (6, (.lit (.string s6))), (7, (.lit (.int .i64 i7)))] h (kBlk 0 (kSeq Echainmanref05_Put (cb (cb (cb (cb c64)))) (xend Echainmanref05_Put f64)))
noncomputable def S_chainmanref05_Put_5 (s6 : ByteArray) (h : AHeap) : Option (AVal × AHeap) := jn (xexec Echainmanref05_Put (cb (cb (cb (cb c64)))) (AVal × AHeap) [(6, (.lit (.string s6)))] h (xend Echainmanref05_Put f64))
theorem S_chainmanref05_Put_eq (size0 : Int) (l1 : AVal) (h : AHeap) : S_chainmanref05_Put size0 l1 h =
 bif (decide (size0 < 1)) then (S_chainmanref05_Put_0 size0 l1 true h)
 else (S_chainmanref05_Put_0 size0 l1 (decide (size0 > 64)) h) := by kernel_rfl
theorem S_chainmanref05_Put_0_eq (size0 : Int) (l1 : AVal) (t13 : Bool) (h : AHeap) : S_chainmanref05_Put_0 size0 l1 t13 h =
 bif t13 then (S_chainmanref05_Put_1 size0 l1 true h)
 else ((lenV l1).bind fun n1 =>
 S_chainmanref05_Put_1 size0 l1 (decide (n1 < 1)) h) := (jo_eq ..).trans (by kernel_rfl)
theorem S_chainmanref05_Put_1_eq (size0 : Int) (l1 : AVal) (t18 : Bool) (h : AHeap) : S_chainmanref05_Put_1 size0 l1 t18 h =
 bif t18 then (S_chainmanref05_Put_2 size0 l1 true h)
 else ((lenV l1).bind fun n2 =>
 S_chainmanref05_Put_2 size0 l1 (decide (n2 > 4)) h) := (jo_eq ..).trans (by kernel_rfl)
theorem S_chainmanref05_Put_2_eq (size0 : Int) (l1 : AVal) (t23 : Bool) (h : AHeap) : S_chainmanref05_Put_2 size0 l1 t23 h =
 bif t23 then (S_chainmanref05_Put_3 l1 true h)
 else ((onlyR (S_chainmanref05_All size0 l1 h) h).bind fun r3 =>
 (asB r3).bind fun b4 =>
 S_chainmanref05_Put_3 l1 (!b4) h) := (jo_eq ..).trans (by kernel_rfl)
theorem S_chainmanref05_Put_3_eq (l1 : AVal) (t29 : Bool) (h : AHeap) : S_chainmanref05_Put_3 l1 t29 h =
 bif t29 then (some ((.tup [(.lit (.string (⟨#[]⟩ : ByteArray))), (.lit (.bool false))]), h))
 else ((lenV l1).bind fun n5 =>
 (blitS 1 [(.lit (.int .u8 0))] 1 [(0, (.lit (.int .u8 (IntKind.wrap .u8 n5))))] h).bind fun r6 =>
 (bytesOf r6.2 r6.1).bind fun s7 =>
 S_chainmanref05_Put_4 l1 s7 0 r6.2) := (jo_eq ..).trans (by kernel_rfl)
theorem S_chainmanref05_Put_4_eq (l1 : AVal) (s6 : ByteArray) (i7 : Int) (h : AHeap) : S_chainmanref05_Put_4 l1 s6 i7 h =
 (lenV l1).bind fun n8 =>
 bif (decide (i7 < n8)) then ((idxP 1 l1 i7).bind fun p9 =>
 (ld1 h p9).bind fun x10 =>
 (asS x10).bind fun s11 =>
 (req (s6.size + s11.size ≤ 9223372036854775807)).bind fun u12 =>
 S_chainmanref05_Put_4 l1 (s6 ++ s11) (IntKind.wrap .i64 (i7 + 1)) h)
 else (S_chainmanref05_Put_5 s6 h) := (xexec_loop Echainmanref05_Put Echainmanref05_Put_ok.C.nat _ _ _ _ _).trans (by kernel_rfl)
theorem S_chainmanref05_Put_5_eq (s6 : ByteArray) (h : AHeap) : S_chainmanref05_Put_5 s6 h =
 (goneR (S_chainmanref03_Close s6 h) h).bind fun r13 =>
 (asS r13).bind fun s14 =>
 some ((.tup [(.lit (.string s14)), (.lit (.bool true))]), h) := (jn_eq _).trans (by kernel_rfl)
theorem S_chainmanref05_Put_ends {size0 : Int} {l1 : AVal} {h h' : AHeap} {v : AVal} {R : AEnd → AHeap → Prop} (hx : S_chainmanref05_Put size0 l1 h = some (v, h')) (hR : HOk h → h.length ≤ h'.length → ABody.AEnds h h' (.ret v) R) : ACalls Try.prog 64 [(.lit (.int .i64 size0)), l1] h R := xfun_ends Echainmanref05_Put_ok tmix (i := 64) (by rfl) (by kernel_rfl) (by kernel_rfl) hx hR
noncomputable def w_chainmanref05_Put : XC := .q fun R args h K => match args with
  | [.lit (.int .i64 a0), a1] => (goneR (S_chainmanref05_Put a0 a1 h) h).bind fun r => K r
  | _ => none
theorem w_chainmanref05_Put_ok : XC.Nat w_chainmanref05_Put ∧ XC.Ok Try.prog 64 w_chainmanref05_Put := by
  refine ⟨fun R args h K => ?_, tc64, fun args h v hx => ?_⟩
  · dsimp only; split <;> simp [Option.bind_assoc, mkP]
  · dsimp only at hx; split at hx
    · obtain ⟨r, hopt, hx⟩ := Option.bind_eq_some_iff.1 hx
      cases hx
      exact (by obtain ⟨h', hopt, hg, hc⟩ := goneR_some hopt; exact S_chainmanref05_Put_ends hopt (goneEnds hg hc))
    · cases hx
-- chainman/chainmanref05.PutEnd: function 65
noncomputable def Echainmanref05_PutEnd : XE := { T := tabOf [(3, r3), (4, r4), (9, r9), (50, r50), (52, r52)], C := [(102, w_chainmanref03_Close), (103, w_chainmanref02_Must)], D := [(3, ⟨[], [0, 1, 2, 3, 4, 5, 6, 7, 8, 9, 10, 11], [], [], [], [], []⟩)], Ms := [], Ml := [], Mo := [(1008, [1, 11])], n := 22 }
theorem Echainmanref05_PutEnd_ok : XE.Ok Echainmanref05_PutEnd Try.prog := ⟨tabOf_ok (⟨r3_ok, ⟨r4_ok, ⟨r9_ok, ⟨r50_ok, ⟨r52_ok, trivial⟩⟩⟩⟩⟩), (⟨w_chainmanref03_Close_ok, ⟨w_chainmanref02_Must_ok, trivial⟩⟩), ydOk_none, trivial⟩
noncomputable def c65 : Code := bodyOf f65
noncomputable def S_chainmanref05_PutEnd (x0 : List AVal) (h : AHeap) : Option (AVal × AHeap) := xfun Echainmanref05_PutEnd f65 [(.agg x0)] h
noncomputable def S_chainmanref05_PutEnd_0 (x1 : Nat) (t11 : Bool) (h : AHeap) : Option (AVal × AHeap) := jo Echainmanref05_PutEnd 1 (rops (ca (ca (cb c65)))) ((rops (ca (ca (cb c65)))).toList.drop 8) 8 [(1, (.ptr x1 0)), (11, (.lit (.bool t11)))] h (kN (kSeq Echainmanref05_PutEnd (cb (ca (cb c65))) (kSeq Echainmanref05_PutEnd (cb (cb c65)) (xend Echainmanref05_PutEnd f65))))
theorem S_chainmanref05_PutEnd_eq (x0 : List AVal) (h : AHeap) : S_chainmanref05_PutEnd x0 h =
 (ld1 ((psh h (.cells x0))) (.ptr h.length 0)).bind fun x2 =>
 (asI .i64 x2).bind fun n3 =>
 bif (decide (n3 < 0)) then (S_chainmanref05_PutEnd_0 h.length true ((psh h (.cells x0))))
 else ((ld1 ((psh h (.cells x0))) (.ptr h.length 0)).bind fun x4 =>
 (asI .i64 x4).bind fun n5 =>
 S_chainmanref05_PutEnd_0 h.length (decide (n5 > 4611686018427387904)) ((psh h (.cells x0)))) := by kernel_rfl
theorem S_chainmanref05_PutEnd_0_eq (x1 : Nat) (t11 : Bool) (h : AHeap) : S_chainmanref05_PutEnd_0 x1 t11 h =
 bif t11 then (some ((.tup [(.lit (.string (⟨#[]⟩ : ByteArray))), (.lit (.bool false))]), h))
 else ((ld1 h (.ptr x1 0)).bind fun x6 =>
 (asI .i64 x6).bind fun n7 =>
 (goneR (S_chainmanref02_Must n7 8 h) h).bind fun r8 =>
 (asS r8).bind fun s9 =>
 (req ((⟨#[0]⟩ : ByteArray).size + s9.size ≤ 9223372036854775807)).bind fun u10 =>
 (ld1 h (.ptr x1 1)).bind fun x11 =>
 (asI .u32 x11).bind fun n12 =>
 (goneR (S_chainmanref02_Must (IntKind.wrap .i64 n12) 4 h) h).bind fun r13 =>
 (asS r13).bind fun s14 =>
 (req (((⟨#[0]⟩ : ByteArray) ++ s9).size + s14.size ≤ 9223372036854775807)).bind fun u15 =>
 (goneR (S_chainmanref03_Close (((⟨#[0]⟩ : ByteArray) ++ s9) ++ s14) h) h).bind fun r16 =>
 (asS r16).bind fun s17 =>
 some ((.tup [(.lit (.string s17)), (.lit (.bool true))]), h)) := (jo_eq ..).trans (by kernel_rfl)
theorem S_chainmanref05_PutEnd_ends {x0 : List AVal} {h h' : AHeap} {v : AVal} {R : AEnd → AHeap → Prop} (hx : S_chainmanref05_PutEnd x0 h = some (v, h')) (hR : HOk h → h.length ≤ h'.length → ABody.AEnds h h' (.ret v) R) : ACalls Try.prog 65 [(.agg x0)] h R := xfun_ends Echainmanref05_PutEnd_ok tmix (i := 65) (by rfl) (by kernel_rfl) (by kernel_rfl) hx hR
noncomputable def w_chainmanref05_PutEnd : XC := .q fun R args h K => match args with
  | [.agg a0] => (goneR (S_chainmanref05_PutEnd a0 h) h).bind fun r => K r
  | _ => none
theorem w_chainmanref05_PutEnd_ok : XC.Nat w_chainmanref05_PutEnd ∧ XC.Ok Try.prog 65 w_chainmanref05_PutEnd := by
  refine ⟨fun R args h K => ?_, tc65, fun args h v hx => ?_⟩
  · dsimp only; split <;> simp [Option.bind_assoc, mkP]
  · dsimp only at hx; split at hx
    · obtain ⟨r, hopt, hx⟩ := Option.bind_eq_some_iff.1 hx
      cases hx
      exact (by obtain ⟨h', hopt, hg, hc⟩ := goneR_some hopt; exact S_chainmanref05_PutEnd_ends hopt (goneEnds hg hc))
    · cases hx
-- chainman/chainmanref06.PutHead: function 62
noncomputable def Echainmanref06_PutHead : XE := { T := tabOf [(3, r3), (4, r4), (5, r5), (9, r9), (121, r121)], C := [(102, w_chainmanref03_Close)], D := [], Ms := [], Ml := [], Mo := [(1006, [0, 9])], n := 16 }
theorem Echainmanref06_PutHead_ok : XE.Ok Echainmanref06_PutHead Try.prog := ⟨tabOf_ok (⟨r3_ok, ⟨r4_ok, ⟨r5_ok, ⟨r9_ok, ⟨r121_ok, trivial⟩⟩⟩⟩⟩), (⟨w_chainmanref03_Close_ok, trivial⟩), ydOk_none, trivial⟩
noncomputable def c62 : Code := bodyOf f62
noncomputable def S_chainmanref06_PutHead (size0 : Int) (h : AHeap) : Option (AVal × AHeap) := xfun Echainmanref06_PutHead f62 [(.lit (.int .i64 size0))] h
noncomputable def S_chainmanref06_PutHead_0 (size0 : Int) (t9 : Bool) (h : AHeap) : Option (AVal × AHeap) := jo Echainmanref06_PutHead 1 (rops (ca (ca (cb c62)))) ((rops (ca (ca (cb c62)))).toList.drop 6) 6 [(0, (.lit (.int .i64 size0))), (9, (.lit (.bool t9)))] h (kN (kSeq Echainmanref06_PutHead (cb (ca (cb c62))) (kSeq Echainmanref06_PutHead (cb (cb c62)) (xend Echainmanref06_PutHead f62))))
theorem S_chainmanref06_PutHead_eq (size0 : Int) (h : AHeap) : S_chainmanref06_PutHead size0 h =
 bif (decide (size0 < 1)) then (S_chainmanref06_PutHead_0 size0 true h)
 else (S_chainmanref06_PutHead_0 size0 (decide (size0 > 64)) h) := by kernel_rfl
theorem S_chainmanref06_PutHead_0_eq (size0 : Int) (t9 : Bool) (h : AHeap) : S_chainmanref06_PutHead_0 size0 t9 h =
 bif t9 then (some ((.tup [(.lit (.string (⟨#[]⟩ : ByteArray))), (.lit (.bool false))]), h))
 else ((blitS 1 [(.lit (.int .u8 0))] 1 [(0, (.lit (.int .u8 (IntKind.wrap .u8 size0))))] h).bind fun r1 =>
 (bytesOf r1.2 r1.1).bind fun s2 =>
 (req ((⟨#[67, 72, 65, 73, 78, 49]⟩ : ByteArray).size + s2.size ≤ 9223372036854775807)).bind fun u3 =>
 (goneR (S_chainmanref03_Close ((⟨#[67, 72, 65, 73, 78, 49]⟩ : ByteArray) ++ s2) r1.2) r1.2).bind fun r4 =>
 (asS r4).bind fun s5 =>
 some ((.tup [(.lit (.string s5)), (.lit (.bool true))]), r1.2)) := (jo_eq ..).trans (by kernel_rfl)
theorem S_chainmanref06_PutHead_ends {size0 : Int} {h h' : AHeap} {v : AVal} {R : AEnd → AHeap → Prop} (hx : S_chainmanref06_PutHead size0 h = some (v, h')) (hR : HOk h → h.length ≤ h'.length → ABody.AEnds h h' (.ret v) R) : ACalls Try.prog 62 [(.lit (.int .i64 size0))] h R := xfun_ends Echainmanref06_PutHead_ok tmix (i := 62) (by rfl) (by kernel_rfl) (by kernel_rfl) hx hR
noncomputable def w_chainmanref06_PutHead : XC := .q fun R args h K => match args with
  | [.lit (.int .i64 a0)] => (goneR (S_chainmanref06_PutHead a0 h) h).bind fun r => K r
  | _ => none
theorem w_chainmanref06_PutHead_ok : XC.Nat w_chainmanref06_PutHead ∧ XC.Ok Try.prog 62 w_chainmanref06_PutHead := by
  refine ⟨fun R args h K => ?_, tc62, fun args h v hx => ?_⟩
  · dsimp only; split <;> simp [Option.bind_assoc, mkP]
  · dsimp only at hx; split at hx
    · obtain ⟨r, hopt, hx⟩ := Option.bind_eq_some_iff.1 hx
      cases hx
      exact (by obtain ⟨h', hopt, hg, hc⟩ := goneR_some hopt; exact S_chainmanref06_PutHead_ends hopt (goneEnds hg hc))
    · cases hx
-- chainman/chainmanref06.Sum: function 24
noncomputable def Echainmanref06_Sum : XE := { T := tabOf [(3, r3), (4, r4), (9, r9), (42, r42), (50, r50), (52, r52)], C := [(67, w_chainmanref03_More)], D := [(5, ⟨[], [0, 1, 2, 3, 4, 5, 6, 7], [8], [], [], [], []⟩)], Ms := [(6, [2, 3])], Ml := [(3, [0, 2, 3, 4])], Mo := [], n := 23 }
theorem Echainmanref06_Sum_ok : XE.Ok Echainmanref06_Sum Try.prog := ⟨tabOf_ok (⟨r3_ok, ⟨r4_ok, ⟨r9_ok, ⟨r42_ok, ⟨r50_ok, ⟨r52_ok, trivial⟩⟩⟩⟩⟩⟩), (⟨w_chainmanref03_More_ok, trivial⟩), ydOk_none, trivial⟩
noncomputable def c24 : Code := bodyOf f24
noncomputable def S_chainmanref06_Sum (l0 : AVal) (h : AHeap) : Option (AVal × AHeap) := xfun Echainmanref06_Sum f24 [l0] h
noncomputable def S_chainmanref06_Sum_0 (l0 : AVal) (t2 : Nat) (x3 : Nat) (i4 : Int) (h : AHeap) : Option (AVal × AHeap) := xexec Echainmanref06_Sum (.loop (ca (ca (cb (ca (cb (cb c24))))))) (AVal × AHeap) [(0, l0), (2, (.ptr t2 0)), (3, (.ptr x3 0)), (4, (.lit (.int .i64 i4)))] h (kBlk 0 (kSeq Echainmanref06_Sum (cb (cb (cb c24))) (xend Echainmanref06_Sum f24)))
noncomputable def S_chainmanref06_Sum_1 (t2 : Nat) (x3 : Nat) (h : AHeap) : Option (AVal × AHeap) := jn (xexec Echainmanref06_Sum (cb (cb (cb c24))) (AVal × AHeap) [(2, (.ptr t2 0)), (3, (.ptr x3 0))] h (xend Echainmanref06_Sum f24))
theorem S_chainmanref06_Sum_eq (l0 : AVal) (h : AHeap) : S_chainmanref06_Sum l0 h =
 (lenV l0).bind fun n1 =>
 (stn 2 ((psh ((psh h (.cells [(.lit (.int .i64 0)), (.lit (.int .u32 0))]))) (.cells [(.lit (.int .i64 0)), (.lit (.int .u32 0))]))) (.ptr (((psh h (.cells [(.lit (.int .i64 0)), (.lit (.int .u32 0))]))).length) 0) ([(.lit (.int .i64 n1)), (.lit (.int .u32 0))])).bind fun h2 =>
 S_chainmanref06_Sum_0 l0 h.length (((psh h (.cells [(.lit (.int .i64 0)), (.lit (.int .u32 0))]))).length) 0 h2 := by kernel_rfl
theorem S_chainmanref06_Sum_0_eq (l0 : AVal) (t2 : Nat) (x3 : Nat) (i4 : Int) (h : AHeap) : S_chainmanref06_Sum_0 l0 t2 x3 i4 h =
 (lenV l0).bind fun n3 =>
 bif (decide (i4 < n3)) then ((ld1 h (.ptr x3 1)).bind fun x4 =>
 (asI .u32 x4).bind fun n5 =>
 (idxP 1 l0 i4).bind fun p6 =>
 (ld1 h p6).bind fun x7 =>
 (asS x7).bind fun s8 =>
 (goneR (S_chainmanref03_More n5 s8 h) h).bind fun r9 =>
 (asI .u32 r9).bind fun n10 =>
 (st1 h (.ptr x3 1) (.lit (.int .u32 n10))).bind fun h11 =>
 S_chainmanref06_Sum_0 l0 t2 x3 (IntKind.wrap .i64 (i4 + 1)) h11)
 else (S_chainmanref06_Sum_1 t2 x3 h) := (xexec_loop Echainmanref06_Sum Echainmanref06_Sum_ok.C.nat _ _ _ _ _).trans (by kernel_rfl)
theorem S_chainmanref06_Sum_1_eq (t2 : Nat) (x3 : Nat) (h : AHeap) : S_chainmanref06_Sum_1 t2 x3 h =
 (ldn 2 h (.ptr x3 0)).bind fun xs12 =>
 (stn 2 h (.ptr t2 0) xs12).bind fun h13 =>
 (ldn 2 h13 (.ptr t2 0)).bind fun xs14 =>
 some ((.agg xs14), h13) := (jn_eq _).trans (by kernel_rfl)
theorem S_chainmanref06_Sum_ends {l0 : AVal} {h h' : AHeap} {v : AVal} {R : AEnd → AHeap → Prop} (hx : S_chainmanref06_Sum l0 h = some (v, h')) (hR : HOk h → h.length ≤ h'.length → ABody.AEnds h h' (.ret v) R) : ACalls Try.prog 24 [l0] h R := xfun_ends Echainmanref06_Sum_ok tmix (i := 24) (by rfl) (by kernel_rfl) (by kernel_rfl) hx hR
noncomputable def w_chainmanref06_Sum : XC := .q fun R args h K => match args with
  | [a0] => (goneR (S_chainmanref06_Sum a0 h) h).bind fun r => K r
  | _ => none
theorem w_chainmanref06_Sum_ok : XC.Nat w_chainmanref06_Sum ∧ XC.Ok Try.prog 24 w_chainmanref06_Sum := by
  refine ⟨fun R args h K => ?_, tc24, fun args h v hx => ?_⟩
  · dsimp only; split <;> simp [Option.bind_assoc, mkP]
  · dsimp only at hx; split at hx
    · obtain ⟨r, hopt, hx⟩ := Option.bind_eq_some_iff.1 hx
      cases hx
      exact (by obtain ⟨h', hopt, hg, hc⟩ := goneR_some hopt; exact S_chainmanref06_Sum_ends hopt (goneEnds hg hc))
    · cases hx
-- chainman/chainmanref06.Few: function 15
noncomputable def Echainmanref06_Few : XE := { T := tabOf [(3, r3), (4, r4), (9, r9), (42, r42)], C := [], D := [], Ms := [(6, [0, 1])], Ml := [(2, [0, 1, 5])], Mo := [(2009, [0, 1, 5, 14])], n := 27 }
theorem Echainmanref06_Few_ok : XE.Ok Echainmanref06_Few Try.prog := ⟨tabOf_ok (⟨r3_ok, ⟨r4_ok, ⟨r9_ok, ⟨r42_ok, trivial⟩⟩⟩⟩), trivial, ydOk_none, trivial⟩
noncomputable def c15 : Code := bodyOf f15
noncomputable def S_chainmanref06_Few (l0 : AVal) (most1 : Int) (h : AHeap) : Option (AVal × AHeap) := xfun Echainmanref06_Few f15 [l0, (.lit (.int .i64 most1))] h
noncomputable def S_chainmanref06_Few_0 (l0 : AVal) (most1 : Int) (i5 : Int) (h : AHeap) : Option (AVal × AHeap) := xexec Echainmanref06_Few (.loop (ca (ca (cb (ca (cb c15)))))) (AVal × AHeap) [(0, l0), (1, (.lit (.int .i64 most1))), (5, (.lit (.int .i64 i5)))] h (kBlk 0 (kSeq Echainmanref06_Few (cb (cb c15)) (xend Echainmanref06_Few f15)))
noncomputable def S_chainmanref06_Few_1 (l0 : AVal) (most1 : Int) (i5 : Int) (t14 : Bool) (h : AHeap) : Option (AVal × AHeap) := jo Echainmanref06_Few 2 (rops (ca (ca (ca (ca (cb (ca (cb c15)))))))) ((rops (ca (ca (ca (ca (cb (ca (cb c15)))))))).toList.drop 9) 9 [(0, l0), (1, (.lit (.int .i64 most1))), (5, (.lit (.int .i64 i5))), (14, (.lit (.bool t14)))] h (kN (kSeq Echainmanref06_Few (cb (ca (ca (ca (cb (ca (cb c15))))))) (kSeq Echainmanref06_Few (cb (ca (ca (cb (ca (cb c15)))))) (kLoop Echainmanref06_Few (ca (ca (cb (ca (cb c15))))) (kBlk 0 (kSeq Echainmanref06_Few (cb (cb c15)) (xend Echainmanref06_Few f15)))))))
noncomputable def S_chainmanref06_Few_2 (l0 : AVal) (most1 : Int) (h : AHeap) : Option (AVal × AHeap) := jn (xexec Echainmanref06_Few (cb (cb c15)) (AVal × AHeap) [(0, l0), (1, (.lit (.int .i64 most1)))] h (xend Echainmanref06_Few f15))
theorem S_chainmanref06_Few_eq (l0 : AVal) (most1 : Int) (h : AHeap) : S_chainmanref06_Few l0 most1 h =
 S_chainmanref06_Few_0 l0 most1 0 h := by kernel_rfl
theorem S_chainmanref06_Few_0_eq (l0 : AVal) (most1 : Int) (i5 : Int) (h : AHeap) : S_chainmanref06_Few_0 l0 most1 i5 h =
 (lenV l0).bind fun n1 =>
 bif (decide (i5 < n1)) then (S_chainmanref06_Few_1 l0 most1 i5 (decide (i5 < most1)) h)
 else (S_chainmanref06_Few_1 l0 most1 i5 false h) := (xexec_loop Echainmanref06_Few Echainmanref06_Few_ok.C.nat _ _ _ _ _).trans (by kernel_rfl)
theorem S_chainmanref06_Few_1_eq (l0 : AVal) (most1 : Int) (i5 : Int) (t14 : Bool) (h : AHeap) : S_chainmanref06_Few_1 l0 most1 i5 t14 h =
 bif t14 then ((idxP 1 l0 i5).bind fun p2 =>
 (ld1 h p2).bind fun x3 =>
 (asS x3).bind fun s4 =>
 bif (decide ((s4.size : Int) > 80)) then (some ((.lit (.bool false)), h))
 else (S_chainmanref06_Few_0 l0 most1 (IntKind.wrap .i64 (i5 + 1)) h))
 else (S_chainmanref06_Few_2 l0 most1 h) := (jo_eq ..).trans (by kernel_rfl)
theorem S_chainmanref06_Few_2_eq (l0 : AVal) (most1 : Int) (h : AHeap) : S_chainmanref06_Few_2 l0 most1 h =
 (lenV l0).bind fun n5 =>
 some ((.lit (.bool (decide (n5 ≤ most1)))), h) := (jn_eq _).trans (by kernel_rfl)
theorem S_chainmanref06_Few_ends {l0 : AVal} {most1 : Int} {h h' : AHeap} {v : AVal} {R : AEnd → AHeap → Prop} (hx : S_chainmanref06_Few l0 most1 h = some (v, h')) (hR : HOk h → h.length ≤ h'.length → ABody.AEnds h h' (.ret v) R) : ACalls Try.prog 15 [l0, (.lit (.int .i64 most1))] h R := xfun_ends Echainmanref06_Few_ok tmix (i := 15) (by rfl) (by kernel_rfl) (by kernel_rfl) hx hR
noncomputable def w_chainmanref06_Few : XC := .q fun R args h K => match args with
  | [a0, .lit (.int .i64 a1)] => (onlyR (S_chainmanref06_Few a0 a1 h) h).bind fun r => K r
  | _ => none
theorem w_chainmanref06_Few_ok : XC.Nat w_chainmanref06_Few ∧ XC.Ok Try.prog 15 w_chainmanref06_Few := by
  refine ⟨fun R args h K => ?_, tc15, fun args h v hx => ?_⟩
  · dsimp only; split <;> simp [Option.bind_assoc, mkP]
  · dsimp only at hx; split at hx
    · obtain ⟨r, hopt, hx⟩ := Option.bind_eq_some_iff.1 hx
      cases hx
      exact (by have hopt := onlyR_some hopt; exact S_chainmanref06_Few_ends hopt selfR)
    · cases hx
-- chainman/chainmanref06.Lay: function 21
noncomputable def Echainmanref06_Lay : XE := { T := tabOf [(3, r3), (4, r4), (9, r9), (42, r42), (50, r50), (52, r52)], C := [(24, w_chainmanref06_Sum), (62, w_chainmanref06_PutHead), (63, w_chainmanref05_All), (64, w_chainmanref05_Put), (65, w_chainmanref05_PutEnd)], D := [], Ms := [(9, [1, 6])], Ml := [(5, [0, 1, 6, 8])], Mo := [(2008, [0, 1, 6, 25])], n := 57 }
theorem Echainmanref06_Lay_ok : XE.Ok Echainmanref06_Lay Try.prog := ⟨tabOf_ok (⟨r3_ok, ⟨r4_ok, ⟨r9_ok, ⟨r42_ok, ⟨r50_ok, ⟨r52_ok, trivial⟩⟩⟩⟩⟩⟩), (⟨w_chainmanref06_Sum_ok, ⟨w_chainmanref06_PutHead_ok, ⟨w_chainmanref05_All_ok, ⟨w_chainmanref05_Put_ok, ⟨w_chainmanref05_PutEnd_ok, trivial⟩⟩⟩⟩⟩), ydOk_none, trivial⟩
noncomputable def c21 : Code := bodyOf f21
noncomputable def S_chainmanref06_Lay (size0 : Int) (l1 : AVal) (h : AHeap) : Option (AVal × AHeap) := xfun Echainmanref06_Lay f21 [(.lit (.int .i64 size0)), l1] h
noncomputable def S_chainmanref06_Lay_0 (size0 : Int) (l1 : AVal) (s6 : ByteArray) (t25 : Bool) (h : AHeap) : Option (AVal × AHeap) := jo Echainmanref06_Lay 2 (rops (ca (ca (cb (cb c21))))) ((rops (ca (ca (cb (cb c21))))).toList.drop 8) 8 [(0, (.lit (.int .i64 size0))), (1, l1), (6, (.lit (.string s6))), (25, (.lit (.bool t25)))] h (kN (kSeq Echainmanref06_Lay (cb (ca (cb (cb c21)))) (kSeq Echainmanref06_Lay (cb (cb (cb c21))) (xend Echainmanref06_Lay f21))))
noncomputable def S_chainmanref06_Lay_1 (size0 : Int) (l1 : AVal) (s6 : ByteArray) (at8 : Int) (h : AHeap) : Option (AVal × AHeap) := xexec Echainmanref06_Lay (.loop (ca (ca (cb (ca (cb (cb (cb c21)))))))) (AVal × AHeap) [(0, (.lit (.int .i64 size0))), (1, l1), (6, (.lit (.string s6))), (8, (.lit (.int .i64 at8)))] h (kBlk 0 (kSeq Echainmanref06_Lay (cb (cb (cb (cb c21)))) (xend Echainmanref06_Lay f21)))
noncomputable def S_chainmanref06_Lay_2 (l1 : AVal) (s6 : ByteArray) (h : AHeap) : Option (AVal × AHeap) := jn (xexec Echainmanref06_Lay (cb (cb (cb (cb c21)))) (AVal × AHeap) [(1, l1), (6, (.lit (.string s6)))] h (xend Echainmanref06_Lay f21))
theorem S_chainmanref06_Lay_eq (size0 : Int) (l1 : AVal) (h : AHeap) : S_chainmanref06_Lay size0 l1 h =
 (goneR (S_chainmanref06_PutHead size0 h) h).bind fun r1 =>
 (xExtract r1 0).bind fun x2 =>
 (asS x2).bind fun s3 =>
 (xExtract r1 1).bind fun x4 =>
 (asB x4).bind fun b5 =>
 bif (!b5) then (S_chainmanref06_Lay_0 size0 l1 s3 true h)
 else ((onlyR (S_chainmanref05_All size0 l1 h) h).bind fun r6 =>
 (asB r6).bind fun b7 =>
 S_chainmanref06_Lay_0 size0 l1 s3 (!b7) h) := by kernel_rfl
theorem S_chainmanref06_Lay_0_eq (size0 : Int) (l1 : AVal) (s6 : ByteArray) (t25 : Bool) (h : AHeap) : S_chainmanref06_Lay_0 size0 l1 s6 t25 h =
 bif t25 then (some ((.tup [(.lit (.string (⟨#[]⟩ : ByteArray))), (.lit (.bool false))]), h))
 else (S_chainmanref06_Lay_1 size0 l1 s6 0 h) := (jo_eq ..).trans (by kernel_rfl)
theorem S_chainmanref06_Lay_1_eq (size0 : Int) (l1 : AVal) (s6 : ByteArray) (at8 : Int) (h : AHeap) : S_chainmanref06_Lay_1 size0 l1 s6 at8 h =
 (lenV l1).bind fun n8 =>
 bif (decide (at8 < n8)) then ((lenV l1).bind fun n9 =>
 (cutV 1 l1 (some at8) (some (minI (IntKind.wrap .i64 (at8 + 4)) n9)) none).bind fun v10 =>
 (goneR (S_chainmanref05_Put size0 v10 h) h).bind fun r11 =>
 (xExtract r11 0).bind fun x12 =>
 (asS x12).bind fun s13 =>
 (xExtract r11 1).bind fun x14 =>
 (asB x14).bind fun b15 =>
 (req (s6.size + s13.size ≤ 9223372036854775807)).bind fun u16 =>
 S_chainmanref06_Lay_1 size0 l1 (s6 ++ s13) (IntKind.wrap .i64 (at8 + 4)) h)
 else (S_chainmanref06_Lay_2 l1 s6 h) := (xexec_loop Echainmanref06_Lay Echainmanref06_Lay_ok.C.nat _ _ _ _ _).trans (by kernel_rfl)
theorem S_chainmanref06_Lay_2_eq (l1 : AVal) (s6 : ByteArray) (h : AHeap) : S_chainmanref06_Lay_2 l1 s6 h =
 (goneR (S_chainmanref06_Sum l1 h) h).bind fun r17 =>
 (asA r17).bind fun xs18 =>
 (goneR (S_chainmanref05_PutEnd xs18 h) h).bind fun r19 =>
 (xExtract r19 0).bind fun x20 =>
 (asS x20).bind fun s21 =>
 (xExtract r19 1).bind fun x22 =>
 (asB x22).bind fun b23 =>
 (req (s6.size + s21.size ≤ 9223372036854775807)).bind fun u24 =>
 some ((.tup [(.lit (.string (s6 ++ s21))), (.lit (.bool true))]), h) := (jn_eq _).trans (by kernel_rfl)
theorem S_chainmanref06_Lay_ends {size0 : Int} {l1 : AVal} {h h' : AHeap} {v : AVal} {R : AEnd → AHeap → Prop} (hx : S_chainmanref06_Lay size0 l1 h = some (v, h')) (hR : HOk h → h.length ≤ h'.length → ABody.AEnds h h' (.ret v) R) : ACalls Try.prog 21 [(.lit (.int .i64 size0)), l1] h R := xfun_ends Echainmanref06_Lay_ok tmix (i := 21) (by rfl) (by kernel_rfl) (by kernel_rfl) hx hR
noncomputable def w_chainmanref06_Lay : XC := .q fun R args h K => match args with
  | [.lit (.int .i64 a0), a1] => (goneR (S_chainmanref06_Lay a0 a1 h) h).bind fun r => K r
  | _ => none
theorem w_chainmanref06_Lay_ok : XC.Nat w_chainmanref06_Lay ∧ XC.Ok Try.prog 21 w_chainmanref06_Lay := by
  refine ⟨fun R args h K => ?_, tc21, fun args h v hx => ?_⟩
  · dsimp only; split <;> simp [Option.bind_assoc, mkP]
  · dsimp only at hx; split at hx
    · obtain ⟨r, hopt, hx⟩ := Option.bind_eq_some_iff.1 hx
      cases hx
      exact (by obtain ⟨h', hopt, hg, hc⟩ := goneR_some hopt; exact S_chainmanref06_Lay_ends hopt (goneEnds hg hc))
    · cases hx
-- chainman/chainmanref06.Must: function 50
noncomputable def Echainmanref06_Must : XE := { T := tabOf [(3, r3), (4, r4), (9, r9), (42, r42)], C := [(21, w_chainmanref06_Lay)], D := [], Ms := [], Ml := [], Mo := [], n := 14 }
theorem Echainmanref06_Must_ok : XE.Ok Echainmanref06_Must Try.prog := ⟨tabOf_ok (⟨r3_ok, ⟨r4_ok, ⟨r9_ok, ⟨r42_ok, trivial⟩⟩⟩⟩), (⟨w_chainmanref06_Lay_ok, trivial⟩), ydOk_none, trivial⟩
noncomputable def c50 : Code := bodyOf f50
noncomputable def S_chainmanref06_Must (size0 : Int) (l1 : AVal) (h : AHeap) : Option (AVal × AHeap) := xfun Echainmanref06_Must f50 [(.lit (.int .i64 size0)), l1] h
theorem S_chainmanref06_Must_eq (size0 : Int) (l1 : AVal) (h : AHeap) : S_chainmanref06_Must size0 l1 h =
 (goneR (S_chainmanref06_Lay size0 l1 h) h).bind fun r1 =>
 (xExtract r1 0).bind fun x2 =>
 (asS x2).bind fun s3 =>
 (xExtract r1 1).bind fun x4 =>
 (asB x4).bind fun b5 =>
 some ((.lit (.string s3)), h) := by kernel_rfl
theorem S_chainmanref06_Must_ends {size0 : Int} {l1 : AVal} {h h' : AHeap} {v : AVal} {R : AEnd → AHeap → Prop} (hx : S_chainmanref06_Must size0 l1 h = some (v, h')) (hR : HOk h → h.length ≤ h'.length → ABody.AEnds h h' (.ret v) R) : ACalls Try.prog 50 [(.lit (.int .i64 size0)), l1] h R := xfun_ends Echainmanref06_Must_ok tmix (i := 50) (by rfl) (by kernel_rfl) (by kernel_rfl) hx hR
noncomputable def w_chainmanref06_Must : XC := .q fun R args h K => match args with
  | [.lit (.int .i64 a0), a1] => (goneR (S_chainmanref06_Must a0 a1 h) h).bind fun r => K r
  | _ => none
theorem w_chainmanref06_Must_ok : XC.Nat w_chainmanref06_Must ∧ XC.Ok Try.prog 50 w_chainmanref06_Must := by
  refine ⟨fun R args h K => ?_, tc50, fun args h v hx => ?_⟩
  · dsimp only; split <;> simp [Option.bind_assoc, mkP]
  · dsimp only at hx; split at hx
    · obtain ⟨r, hopt, hx⟩ := Option.bind_eq_some_iff.1 hx
      cases hx
      exact (by obtain ⟨h', hopt, hg, hc⟩ := goneR_some hopt; exact S_chainmanref06_Must_ends hopt (goneEnds hg hc))
    · cases hx
end Go.Proofs.Yteclkehnppeobaa.AL
/- The document's blocks and files: what they are. -/
namespace Go.Proofs.Yteclkehnppeobaa.AL
set_option linter.unusedVariables false
set_option linter.unusedSimpArgs false
set_option maxRecDepth 100000
open Go
open Go.Proofs.Try
theorem moreB_app (a : BitVec 32) (l l' : List UInt8) : moreB (moreB a l) l' = moreB a (l ++ l') := by
  unfold moreB
  rw [BitVec.not_not, List.foldl_append]
theorem blitS_u8 (n : Nat) (h : AHeap) : blitS 1 [.lit (.int .u8 0)] 1 [(0, .lit (.int .u8 (n : Int)))] h = some (.sl 1 h.length 0 1, h ++ [.cells [.lit (.int .u8 (n : Int))]]) := rfl
theorem bytes_one {n : Nat} (hn : n < 256) (h : AHeap) : bytesOf (h ++ [.cells [.lit (.int .u8 (n : Int))]]) (.sl 1 h.length 0 1) = some (bs [b8 n]) := by
  have e : (AVal.lit (.int .u8 (n : Int))) = byteV (b8 n) := by
    unfold byteV b8
    rw [show ((UInt8.ofNat n).toNat : Int) = (n : Int) by show ((n % 2 ^ 8 : Nat) : Int) = (n : Int); omega]
  rw [e]
  have hc : cellsAt (h ++ [.cells [byteV (b8 n)]]) h.length = some [byteV (b8 n)] := cellsAt_new h _
  show (cellsAt _ _).bind _ = _
  rw [hc, Option.bind_some]
  exact (congrArg (Option.bind · _) (unbytes_map [b8 n])).trans rfl
section ref
variable {h : AHeap} {v : AVal} {ss : List ByteArray} {n : Nat}
theorem rall_loop (S : Sl 1 h v ss.length (strVs ss)) (hl : ss.length ≤ 1000) (ha : ∀ s ∈ ss, s.size = n) : ∀ m i, i + m = ss.length → S_chainmanref05_All_0 (n : Int) v (i : Int) h = some (.lit (.bool true), h) := by
  intro m
  induction m with
  | zero =>
    intro i hi
    rw [S_chainmanref05_All_0_eq]
    refine bd S.len (cF (decide_eq_false (by omega)) ?_)
    rw [S_chainmanref05_All_1_eq]
  | succ m ih =>
    intro i hi
    have hlt : i < ss.length := by omega
    obtain ⟨p, a, b⟩ := strs_at S hlt
    rw [S_chainmanref05_All_0_eq]
    refine bd S.len (cT (decide_eq_true (by omega)) (bd a (bd b (bd rfl (cF ?_ ?_)))))
    · rw [ha _ (List.getElem_mem hlt), decide_eq_true rfl]; rfl
    · rw [wrap_i64 (by omega) (by omega)]; exact ih (i + 1) (by omega)
theorem rall_run (S : Sl 1 h v ss.length (strVs ss)) (hl : ss.length ≤ 1000) (ha : ∀ s ∈ ss, s.size = n) : onlyR (S_chainmanref05_All (n : Int) v h) h = some (.lit (.bool true)) := by
  have : S_chainmanref05_All (n : Int) v h = some (.lit (.bool true), h) := by rw [S_chainmanref05_All_eq]; exact rall_loop S hl ha ss.length 0 (by omega)
  rw [this]; exact onlyR_same _ _
theorem rput_w {g : AHeap} (S : Sl 1 g v ss.length (strVs ss)) (h4 : ss.length ≤ 4) (hsz : (catB ss).length ≤ 256) : ∀ m i (l : List UInt8), i + m = ss.length → l.length ≤ 10 →
    S_chainmanref05_Put_4 v (bs (l ++ catB (ss.take i))) (i : Int) g = some (okS (closeB (bs (l ++ catB ss))), g) := by
  intro m
  induction m with
  | zero =>
    intro i l hi hl
    rw [S_chainmanref05_Put_4_eq]
    refine bd S.len (cF (decide_eq_false (by omega)) ?_)
    rw [S_chainmanref05_Put_5_eq, List.take_of_length_le (by omega)]
    exact bd (rclose_run (by rw [bs_size, List.length_append]; omega) g) (bd rfl rfl)
  | succ m ih =>
    intro i l hi hl
    have hlt : i < ss.length := by omega
    obtain ⟨p, a, b⟩ := strs_at S hlt
    have hle := catB_le ss i
    have hle1 := catB_le ss (i + 1)
    have e1 := congrArg List.length (catB_take ss hlt)
    rw [List.length_append, szL] at e1
    rw [S_chainmanref05_Put_4_eq]
    refine bd S.len (cT (decide_eq_true (by omega)) (bd a (bd b (bd rfl (bd (req_true (by rw [bs_size, List.length_append]; omega)) ?_)))))
    rw [wrap_i64 (by omega) (by omega), ← bs_data ss[i], bs_app, List.append_assoc, ← catB_take ss hlt]
    exact ih (i + 1) l (by omega) hl
theorem rblock_run (S : Sl 1 h v ss.length (strVs ss)) (h1 : 1 ≤ n) (h2 : n ≤ 64) (h3 : 1 ≤ ss.length) (h4 : ss.length ≤ 4) (ha : ∀ s ∈ ss, s.size = n) : goneR (S_chainmanref05_Put (n : Int) v h) h = some (okS (blockB ss)) := by
  have hcs := catB_size ha
  have h5 : ss.length * n ≤ 4 * 64 := Nat.mul_le_mul h4 h2
  obtain ⟨g, hg⟩ : ∃ g, g = h ++ [AObj.cells [.lit (.int .u8 (ss.length : Int))]] := ⟨_, rfl⟩
  have G : Grow h g := by rw [hg]; exact (Grow.refl h).psh _
  refine goneR_of (h' := g) ?_ G rfl
  have hb : bytesOf g (.sl 1 h.length 0 1) = some (bs [b8 ss.length]) := by rw [hg]; exact bytes_one (by omega) h
  rw [S_chainmanref05_Put_eq]
  refine cF (decide_eq_false (by omega)) ?_
  rw [S_chainmanref05_Put_0_eq]
  refine cF (decide_eq_false (by omega)) (bd S.len ?_)
  rw [S_chainmanref05_Put_1_eq]
  refine cF (decide_eq_false (by omega)) (bd S.len ?_)
  rw [S_chainmanref05_Put_2_eq]
  refine cF (decide_eq_false (by omega)) (bd (rall_run S (by omega) ha) (bd rfl ?_))
  rw [S_chainmanref05_Put_3_eq]
  refine cF rfl (bd S.len ?_)
  rw [show IntKind.wrap .u8 (ss.length : Int) = (ss.length : Int) by rw [wrap_u8]; omega, blitS_u8, ← hg]
  refine bd rfl (bd hb ?_)
  have := rput_w (S.grow G) h4 (by omega) ss.length 0 [b8 ss.length] (by omega) (by simp)
  exact this
theorem rend_run {c : Nat} (hc : c ≤ 4611686018427387904) (s : BitVec 32) (h : AHeap) : goneR (S_chainmanref05_PutEnd [.lit (.int .i64 (c : Int)), .lit (.int .u32 (u32 s))] h) h = some (okS (endB c s)) := by
  obtain ⟨g, hg⟩ : ∃ g, g = psh h (.cells [.lit (.int .i64 (c : Int)), .lit (.int .u32 (u32 s))]) := ⟨_, rfl⟩
  have g0 : cellsAt g h.length = some [.lit (.int .i64 (c : Int)), .lit (.int .u32 (u32 s))] := by rw [hg]; exact cellsAt_new h _
  refine goneR_of (h' := g) ?_ (by rw [hg]; exact (Grow.refl h).psh _) rfl
  have hs : s.toNat < 4294967296 := s.isLt
  rw [S_chainmanref05_PutEnd_eq, ← hg]
  refine bd (ld1_of g0) (bd rfl (cF (decide_eq_false (by omega)) (bd (ld1_of g0) (bd rfl ?_))))
  rw [S_chainmanref05_PutEnd_0_eq]
  refine cF (decide_eq_false (by omega)) (bd (ld1_of g0) (bd rfl (bd (rmust_ok (n := c) (k := 8) (by omega) (by omega) (by omega) (by omega) g) (bd rfl ?_))))
  have e : (⟨#[0]⟩ : ByteArray) = bs [0] := rfl
  rw [e, bs_app, bs_size, bs_size]
  refine bd (req_true (by simp only [beL_len, List.length_cons, List.length_nil]; omega)) (bd (ld1_of g0) (bd rfl ?_))
  rw [show u32 s = ((s.toNat : Nat) : Int) from rfl, wrap_i64 (by omega) (by omega)]
  refine bd (rmust_ok (n := s.toNat) (k := 4) (by omega) (by omega) (by omega) (by omega) g) (bd rfl ?_)
  rw [bs_app, bs_size, bs_size]
  refine bd (req_true (by simp only [beL_len, List.length_append, List.length_cons, List.length_nil]; omega)) (bd (rclose_run (by rw [bs_size]; simp only [beL_len, List.length_append, List.length_cons, List.length_nil]; omega) g) (bd rfl ?_))
  simp only [List.append_assoc]
  rfl
theorem rhead_run (h1 : 1 ≤ n) (h2 : n ≤ 64) (h : AHeap) : goneR (S_chainmanref06_PutHead (n : Int) h) h = some (okS (headB n)) := by
  obtain ⟨g, hg⟩ : ∃ g, g = h ++ [AObj.cells [.lit (.int .u8 (n : Int))]] := ⟨_, rfl⟩
  refine goneR_of (h' := g) ?_ (by rw [hg]; exact (Grow.refl h).psh _) rfl
  have hb : bytesOf g (.sl 1 h.length 0 1) = some (bs [b8 n]) := by rw [hg]; exact bytes_one (by omega) h
  rw [S_chainmanref06_PutHead_eq]
  refine cF (decide_eq_false (by omega)) ?_
  rw [S_chainmanref06_PutHead_0_eq]
  refine cF (decide_eq_false (by omega)) ?_
  rw [show IntKind.wrap .u8 (n : Int) = (n : Int) by rw [wrap_u8]; omega, blitS_u8, ← hg]
  refine bd rfl (bd hb ?_)
  have e : (⟨#[67, 72, 65, 73, 78, 49]⟩ : ByteArray) = bs [67, 72, 65, 73, 78, 49] := rfl
  rw [e, bs_app, bs_size, bs_size]
  exact bd (req_true (by show (6 : Nat) + 1 ≤ _; omega)) (bd (rclose_run (by rw [bs_size]; show (7 : Nat) ≤ _; omega) g) (bd rfl rfl))
theorem rsum_loop {h0 : AHeap} {a b : Nat} (hl : ss.length ≤ 1000) (hs : ∀ s ∈ ss, s.size ≤ 1000) (S : Sl 1 h0 v ss.length (strVs ss)) (ha : h0.length ≤ a) (hb : h0.length ≤ b) (hab : a ≠ b) : ∀ m i (g : AHeap), i + m = ss.length → Grow h0 g →
    cellsAt g a = some [.lit (.int .i64 0), .lit (.int .u32 0)] → cellsAt g b = some [.lit (.int .i64 (ss.length : Int)), .lit (.int .u32 (u32 (moreB 0#32 (catB (ss.take i)))))] →
    ∃ g', S_chainmanref06_Sum_0 v a b (i : Int) g = some (.agg [.lit (.int .i64 (ss.length : Int)), .lit (.int .u32 (u32 (moreB 0#32 (catB ss))))], g') ∧ Grow h0 g' := by
  intro m
  induction m with
  | zero =>
    intro i g hi G c1 c2
    rw [List.take_of_length_le (by omega)] at c2
    refine ⟨g.set a (.cells [.lit (.int .i64 (ss.length : Int)), .lit (.int .u32 (u32 (moreB 0#32 (catB ss))))]), ?_, G.set ha⟩
    rw [S_chainmanref06_Sum_0_eq]
    refine bd (S.grow G).len (cF (decide_eq_false (by omega)) ?_)
    rw [S_chainmanref06_Sum_1_eq]
    refine bd (ldn_of c2 (by show 2 ≤ 2; omega)) (bd (stn_of c1 rfl rfl (by show 2 ≤ 2; omega)) (bd (ldn_of (cellsAt_set c1) (by show 2 ≤ 2; omega)) rfl))
  | succ m ih =>
    intro i g hi G c1 c2
    have hlt : i < ss.length := by omega
    obtain ⟨p, e1, e2⟩ := strs_at (S.grow G) hlt
    have c1' : cellsAt (g.set b (.cells [.lit (.int .i64 (ss.length : Int)), .lit (.int .u32 (u32 (moreB 0#32 (catB (ss.take (i + 1))))))])) a = some [.lit (.int .i64 0), .lit (.int .u32 0)] := cellsAt_set_ne _ (Ne.symm hab) c1
    obtain ⟨g', r1, r2⟩ := ih (i + 1) _ (by omega) (G.set hb) c1' (cellsAt_set c2)
    refine ⟨g', ?_, r2⟩
    rw [S_chainmanref06_Sum_0_eq]
    refine bd (S.grow G).len (cT (decide_eq_true (by omega)) (bd (ld1_of c2) (bd rfl (bd e1 (bd e2 (bd rfl (bd (rmore_run _ (by have := hs _ (List.getElem_mem hlt); omega) g) (bd rfl ?_))))))))
    rw [moreB_app, ← catB_take ss hlt, wrap_i64 (by omega) (by omega)]
    exact bd (st1_of c2 rfl (by show 1 < 2; omega)) r1
theorem rsum_run (S : Sl 1 h v ss.length (strVs ss)) (hl : ss.length ≤ 1000) (hs : ∀ s ∈ ss, s.size ≤ 1000) : goneR (S_chainmanref06_Sum v h) h = some (.agg [.lit (.int .i64 (ss.length : Int)), .lit (.int .u32 (u32 (moreB 0#32 (catB ss))))]) := by
  obtain ⟨h1, hh1⟩ : ∃ h1, h1 = psh h (.cells [.lit (.int .i64 0), .lit (.int .u32 0)]) := ⟨_, rfl⟩
  have l1 : h1.length = h.length + 1 := by rw [hh1, psh_length]
  have ca : cellsAt h1 h.length = some [.lit (.int .i64 0), .lit (.int .u32 0)] := by rw [hh1]; exact cellsAt_new _ _
  have cb : cellsAt (psh h1 (.cells [.lit (.int .i64 0), .lit (.int .u32 0)])) h1.length = some [.lit (.int .i64 0), .lit (.int .u32 0)] := cellsAt_new _ _
  have G : Grow h h1 := by rw [hh1]; exact (Grow.refl h).psh _
  have st := stn_of (vs := [.lit (.int .i64 (ss.length : Int)), .lit (.int .u32 0)]) (n := 2) cb rfl rfl (by show 2 ≤ 2; omega)
  obtain ⟨g', r1, r2⟩ := rsum_loop (a := h.length) (b := h1.length) hl hs S (Nat.le_refl _) (by omega) (by omega) ss.length 0 _ (by omega) ((G.psh _).set (by omega)) (cellsAt_set_ne _ (by omega) (cellsAt_psh _ ca)) (cellsAt_set cb)
  have e0 : u32 (moreB 0#32 (catB (ss.take 0))) = 0 := by show u32 (moreB 0#32 []) = 0; decide
  rw [e0] at r1
  refine goneR_of (h' := g') ?_ r2 rfl
  rw [S_chainmanref06_Sum_eq, ← hh1]
  exact bd S.len (bd st r1)
theorem rfew_loop (S : Sl 1 h v ss.length (strVs ss)) : ∀ m i, i + m = ss.length → (∀ j (hj : j < ss.length), j < i → ss[j].size ≤ 80) →
    ∃ b, S_chainmanref06_Few_0 v 30 (i : Int) h = some (.lit (.bool b), h) ∧ (b = true → ss.length ≤ 30 ∧ ∀ j (hj : j < ss.length), ss[j].size ≤ 80) := by
  intro m
  induction m with
  | zero =>
    intro i hi hj
    refine ⟨decide ((ss.length : Int) ≤ 30), ?_, fun hb => ⟨by have := of_decide_eq_true hb; omega, fun j hj' => hj j hj' (by omega)⟩⟩
    rw [S_chainmanref06_Few_0_eq]
    refine bd S.len (cF (decide_eq_false (by omega)) ?_)
    rw [S_chainmanref06_Few_1_eq]
    refine cF rfl ?_
    rw [S_chainmanref06_Few_2_eq]
    exact bd S.len rfl
  | succ m ih =>
    intro i hi hj
    have hlt : i < ss.length := by omega
    obtain ⟨p, a, b⟩ := strs_at S hlt
    rw [S_chainmanref06_Few_0_eq, S.len, Option.bind_some, decide_eq_true (by omega), cond_true, S_chainmanref06_Few_1_eq]
    by_cases h30 : i < 30
    · rw [decide_eq_true (by omega), cond_true, a, Option.bind_some, b, Option.bind_some]
      show ∃ b, cond (decide ((ss[i].size : Int) > 80)) _ (S_chainmanref06_Few_0 v 30 (IntKind.wrap .i64 ((i : Int) + 1)) h) = _ ∧ _
      by_cases h80 : ss[i].size ≤ 80
      · rw [decide_eq_false (by omega), cond_false, wrap_i64 (by omega) (by omega)]
        refine ih (i + 1) (by omega) fun j hj1 hj2 => ?_
        by_cases e : j = i
        · subst e; exact h80
        · exact hj j hj1 (by omega)
      · rw [decide_eq_true (by omega)]
        exact ⟨false, rfl, fun hb => by cases hb⟩
    · rw [decide_eq_false (by omega), cond_false, S_chainmanref06_Few_2_eq, S.len, Option.bind_some]
      exact ⟨decide ((ss.length : Int) ≤ 30), rfl, fun hb => by have := of_decide_eq_true hb; omega⟩
theorem rfew_run (S : Sl 1 h v ss.length (strVs ss)) : ∃ b, onlyR (S_chainmanref06_Few v 30 h) h = some (.lit (.bool b)) ∧ (b = true → ss.length ≤ 30 ∧ ∀ j (hj : j < ss.length), ss[j].size ≤ 80) := by
  obtain ⟨b, e, hb⟩ := rfew_loop S ss.length 0 (by omega) fun j _ h => by omega
  refine ⟨b, ?_, hb⟩
  have : S_chainmanref06_Few v 30 h = some (.lit (.bool b), h) := by rw [S_chainmanref06_Few_eq]; exact e
  rw [this]; exact onlyR_same _ _
/-- The blocks ahead, four records each. -/
def preB (n : Nat) (ss : List ByteArray) : Nat → ByteArray
  | 0 => headB n
  | j + 1 => preB n ss j ++ blockB ((ss.drop (4 * j)).take 4)
theorem preB_size (ha : ∀ s ∈ ss, s.size = n) (h2 : n ≤ 64) : ∀ j, (preB n ss j).size ≤ 11 + 261 * j
  | 0 => by rw [preB, headB_size]; omega
  | j + 1 => by
    have h1 := preB_size ha h2 j
    have h3 := catB_size (ss := (ss.drop (4 * j)).take 4) (n := n) fun s hs => ha s (List.mem_of_mem_drop (List.mem_of_mem_take hs))
    have h4 : ((ss.drop (4 * j)).take 4).length * n ≤ 4 * 64 := Nat.mul_le_mul (by rw [List.length_take]; omega) h2
    rw [preB, ByteArray.size_append, blockB_size]; omega
def layB (n : Nat) (ss : List ByteArray) : ByteArray := preB n ss ((ss.length + 3) / 4) ++ endB ss.length (moreB 0#32 (catB ss))
theorem rlay_loop (S : Sl 1 h v ss.length (strVs ss)) (hl : ss.length ≤ 1000) (h1 : 1 ≤ n) (h2 : n ≤ 64) (ha : ∀ s ∈ ss, s.size = n) : ∀ m j, j + m = (ss.length + 3) / 4 →
    S_chainmanref06_Lay_1 (n : Int) v (preB n ss j) ((4 * j : Nat) : Int) h = some (okS (layB n ss), h) := by
  intro m
  induction m with
  | zero =>
    intro j hj
    have hsz := preB_size ha h2 j
    rw [S_chainmanref06_Lay_1_eq]
    refine bd S.len (cF (decide_eq_false (by omega)) ?_)
    rw [S_chainmanref06_Lay_2_eq]
    refine bd (rsum_run S hl fun s hs => by have := ha s hs; omega) (bd rfl (bd (rend_run (by omega) _ h) (bd rfl (bd rfl (bd rfl (bd rfl (bd (req_true (by rw [endB_size]; omega)) ?_)))))))
    rw [show j = (ss.length + 3) / 4 by omega]
    rfl
  | succ m ih =>
    intro j hj
    have hlt : 4 * j < ss.length := by omega
    have hsz := preB_size ha h2 j
    obtain ⟨hi, hhi⟩ : ∃ hi, hi = min (4 * j + 4) ss.length := ⟨_, rfl⟩
    have hmin : minI (IntKind.wrap .i64 (((4 * j : Nat) : Int) + 4)) (ss.length : Int) = (hi : Int) := by
      rw [wrap_i64 (by omega) (by omega)]; unfold minI; split <;> omega
    obtain ⟨v', c1, S'⟩ := S.cut (lo := 4 * j) (hi := hi) (by omega) (by omega)
    have hts : ((strVs ss).drop (4 * j * 1)).take ((hi - 4 * j) * 1) = strVs ((ss.drop (4 * j)).take 4) := by
      rw [Nat.mul_one, Nat.mul_one]
      unfold strVs
      rw [← List.map_drop, ← List.map_take]
      congr 1
      rw [← List.take_eq_take_iff.2 (show min (hi - 4 * j) (ss.drop (4 * j)).length = min 4 (ss.drop (4 * j)).length by rw [List.length_drop]; omega)]
    have hln : hi - 4 * j = ((ss.drop (4 * j)).take 4).length := by rw [List.length_take, List.length_drop]; omega
    rw [hts, hln] at S'
    have hblk := rblock_run S' h1 h2 (by rw [← hln]; omega) (by rw [← hln]; omega) fun s hs => ha s (List.mem_of_mem_drop (List.mem_of_mem_take hs))
    have hsz2 := preB_size ha h2 (j + 1)
    rw [preB, ByteArray.size_append] at hsz2
    rw [S_chainmanref06_Lay_1_eq]
    refine bd S.len (cT (decide_eq_true (by omega)) (bd S.len ?_))
    rw [hmin]
    refine bd c1 (bd hblk (bd rfl (bd rfl (bd rfl (bd rfl (bd (req_true (by omega)) ?_))))))
    rw [wrap_i64 (by omega) (by omega), show ((4 * j : Nat) : Int) + 4 = ((4 * (j + 1) : Nat) : Int) by omega]
    exact ih (j + 1) (by omega)
theorem rlay_run (S : Sl 1 h v ss.length (strVs ss)) (hl : ss.length ≤ 1000) (h1 : 1 ≤ n) (h2 : n ≤ 64) (ha : ∀ s ∈ ss, s.size = n) : goneR (S_chainmanref06_Lay (n : Int) v h) h = some (okS (layB n ss)) := by
  refine goneR_of (h' := h) ?_ (Grow.refl h) rfl
  rw [S_chainmanref06_Lay_eq]
  refine bd (rhead_run h1 h2 h) (bd rfl (bd rfl (bd rfl (bd rfl (cF rfl (bd (rall_run S hl ha) (bd rfl ?_)))))))
  rw [S_chainmanref06_Lay_0_eq]
  exact cF rfl (rlay_loop S hl h1 h2 ha ((ss.length + 3) / 4) 0 (by omega))
theorem rmustl_run (S : Sl 1 h v ss.length (strVs ss)) (hl : ss.length ≤ 1000) (h1 : 1 ≤ n) (h2 : n ≤ 64) (ha : ∀ s ∈ ss, s.size = n) : goneR (S_chainmanref06_Must (n : Int) v h) h = some (.lit (.string (layB n ss))) := by
  refine goneR_of (h' := h) ?_ (Grow.refl h) rfl
  rw [S_chainmanref06_Must_eq]
  exact bd (rlay_run S hl h1 h2 ha) (bd rfl (bd rfl (bd rfl (bd rfl rfl))))
end ref
end Go.Proofs.Yteclkehnppeobaa.AL
/- The writer's file is that of its records: what it has come to behind some records; a disk's bytes; nobody's writer. -/
namespace Go.Proofs.Yteclkehnppeobaa.AL
set_option linter.unusedVariables false
set_option linter.unusedSimpArgs false
set_option maxRecDepth 100000
open Go
open Go.Proofs.Try
/-- A writer behind some records. -/
def stW (R m now hi : Int) (name : ByteArray) (n : Nat) (ss : List ByteArray) : Wrt := ⟨R, preB n ss (ss.length / 4), 0, m, now, hi, name, n, ss.drop (4 * (ss.length / 4)), ss.length, moreB 0#32 (catB ss), true⟩
theorem newW_st (R m now hi : Int) (name : ByteArray) (n : Nat) : newW R m now hi name n = stW R m now hi name n [] := by
  have e : moreB 0#32 (catB []) = 0#32 := by show moreB 0#32 [] = 0#32; decide
  unfold newW stW
  rw [e]
  rfl
theorem preB_more (n : Nat) (ss : List ByteArray) (r : ByteArray) : ∀ j, 4 * j ≤ ss.length → preB n (ss ++ [r]) j = preB n ss j
  | 0, _ => rfl
  | j + 1, hj => by
    rw [preB, preB, preB_more n ss r j (by omega)]
    congr 2
    rw [List.drop_append_of_le_length (by omega), List.take_append_of_le_length (by rw [List.length_drop]; omega)]
theorem putW_st (R m now hi : Int) (name : ByteArray) (n : Nat) (ss : List ByteArray) (r : ByteArray) : putW (stW R m now hi name n ss) r = stW R m now hi name n (ss ++ [r]) := by
  have hl : (ss.drop (4 * (ss.length / 4))).length = ss.length % 4 := by rw [List.length_drop]; omega
  have hd : (ss ++ [r]).drop (4 * (ss.length / 4)) = ss.drop (4 * (ss.length / 4)) ++ [r] := List.drop_append_of_le_length (by omega)
  have hs : moreB (moreB 0#32 (catB ss)) r.data.toList = moreB 0#32 (catB (ss ++ [r])) := by rw [moreB_app, catB_app, catB_one]
  have hlen : (ss ++ [r]).length = ss.length + 1 := by simp
  unfold putW
  by_cases c : (stW R m now hi name n ss).wt.length + 1 < 4
  · rw [if_pos c]
    have c' : ss.length % 4 + 1 < 4 := by rw [← hl]; exact c
    have hq : (ss ++ [r]).length / 4 = ss.length / 4 := by omega
    show Wrt.mk R (preB n ss (ss.length / 4)) 0 m now hi name n (ss.drop (4 * (ss.length / 4)) ++ [r]) (ss.length + 1) (moreB (moreB 0#32 (catB ss)) r.data.toList) true = stW R m now hi name n (ss ++ [r])
    unfold stW
    rw [hq, hd, hs, preB_more n ss r _ (by omega), hlen]
  · rw [if_neg c]
    have c' : ¬ ss.length % 4 + 1 < 4 := by rw [← hl]; exact c
    have hq : (ss ++ [r]).length / 4 = ss.length / 4 + 1 := by omega
    show Wrt.mk R (preB n ss (ss.length / 4) ++ blockB (ss.drop (4 * (ss.length / 4)) ++ [r])) 0 m now hi name n [] (ss.length + 1) (moreB (moreB 0#32 (catB ss)) r.data.toList) true = stW R m now hi name n (ss ++ [r])
    unfold stW
    have hd0 : (ss ++ [r]).drop (4 * (ss.length / 4 + 1)) = [] := List.drop_of_length_le (by omega)
    have ht : ((ss ++ [r]).drop (4 * (ss.length / 4))).take 4 = ss.drop (4 * (ss.length / 4)) ++ [r] := by
      rw [hd]; exact List.take_of_length_le (by rw [List.length_append, hl, List.length_singleton]; omega)
    rw [hq, hd0, hs, preB, preB_more n ss r _ (by omega), ht, hlen]
theorem end_st (R m now hi : Int) (name : ByteArray) (n : Nat) (ss : List ByteArray) : (endW (restW (stW R m now hi name n ss))).t = layB n ss := by
  have hl : (ss.drop (4 * (ss.length / 4))).length = ss.length % 4 := by rw [List.length_drop]; omega
  unfold restW
  by_cases c : (stW R m now hi name n ss).wt = []
  · rw [if_pos c]
    have c' : ss.length % 4 = 0 := by
      rw [← hl]
      have : ss.drop (4 * (ss.length / 4)) = [] := c
      rw [this]; rfl
    show preB n ss (ss.length / 4) ++ endB ss.length (moreB 0#32 (catB ss)) = layB n ss
    unfold layB
    rw [show (ss.length + 3) / 4 = ss.length / 4 by omega]
  · rw [if_neg c]
    have c' : ss.length % 4 ≠ 0 := fun e => c (by rw [← hl] at e; exact List.length_eq_zero_iff.1 e)
    show (preB n ss (ss.length / 4) ++ blockB (ss.drop (4 * (ss.length / 4)))) ++ endB ss.length (moreB 0#32 (catB ss)) = layB n ss
    unfold layB
    rw [show (ss.length + 3) / 4 = ss.length / 4 + 1 by omega, preB]
    have ht : (ss.drop (4 * (ss.length / 4))).take 4 = ss.drop (4 * (ss.length / 4)) := List.take_of_length_le (by rw [hl]; omega)
    rw [ht]
theorem stW_ok {R m now hi : Int} {name : ByteArray} {n : Nat} {ss : List ByteArray} (h1 : 1 ≤ n) (h2 : n ≤ 64) (hr : rightB name = true) (hn : name.size ≤ 100) (hR : R ≤ 16777216) (ha : ∀ s ∈ ss, s.size = n) : WOk (stW R m now hi name n ss) :=
  ⟨hr, hn, h1, h2, hR, by show (ss.drop (4 * (ss.length / 4))).length ≤ 4; rw [List.length_drop]; omega, fun s hs => ha s (List.mem_of_mem_drop hs)⟩
section disk
variable {h : AHeap} {d mb : Nat} {D : Dsk} {R : Int} {t name : ByteArray} {k : Int}
theorem size_w (A : DiskAt h d mb D [(name, t, k)]) (U : UpW D R t) (hr : rightB name = true) (hn : name.size ≤ 100) :
    ∃ g D', S_fs_Disk_Size (.ptr d 0) name h = some (.tup [.lit (.int .i64 (t.size : Int)), .lit (.int .i64 0)], g) ∧ DiskAt g d mb D' [(name, t, k)] ∧ UpW D' R t ∧ Keep h.length [d, mb] h g := by
  obtain ⟨g, e1, H1, T1, l1⟩ := size_run A.dh name (by omega)
  rw [find_w U hr] at e1
  rw [findD_w hr] at H1
  exact ⟨g, _, e1, H1.disk, U.call, H1.keep⟩
theorem read_w (A : DiskAt h d mb D [(name, t, k)]) (U : UpW D R t) (hr : rightB name = true) (hn : name.size ≤ 100) (ht : t.size ≤ 16777216) :
    ∃ g D', S_fs_Disk_Read (.ptr d 0) name 0 (t.size : Int) h = some (.tup [.lit (.string t), .lit (.int .i64 0)], g) ∧ DiskAt g d mb D' [(name, t, k)] ∧ UpW D' R t ∧ Keep h.length [d, mb] h g := by
  have hmin : decide (minI 0 (t.size : Int) ≥ 0) = true := decide_eq_true (by unfold minI; split <;> omega)
  obtain ⟨g, e1, H1, T1, l1⟩ := read_run A.dh name 0 (t.size : Int) (by omega) (by rw [hmin, find_w U hr]; show t.size ≤ _; omega)
  have hrd : readR D [(name, t, k)] name 0 (t.size : Int) = (t, 0) := by
    unfold readR
    simp only [hmin, find_w U hr]
    simp
  rw [hrd] at e1
  rw [hmin, findD_w hr] at H1
  exact ⟨g, _, e1, H1.disk, U.call, H1.keep⟩
theorem new_w (R : Int) : UpW (newDsk R) R ⟨#[]⟩ := ⟨rfl, rfl, rfl, rfl⟩
end disk
/-! ### Nobody's writer -/
theorem ngiven (g : AHeap) : onlyR (S_writer_Writer_given (.lit (.pointer none)) g) g = some (.lit (.bool false)) := by
  have : S_writer_Writer_given (.lit (.pointer none)) g = some (.lit (.bool false), g) := by
    rw [S_writer_Writer_given_eq]
    refine bd rfl (cF rfl ?_)
    rw [S_writer_Writer_given_0_eq]
  rw [this]; exact onlyR_same _ _
theorem ndrop (h : AHeap) : S_writer_Writer_Drop (.lit (.pointer none)) h = some (.tup [], h) := by
  rw [S_writer_Writer_Drop_eq]
  exact bd (ngiven h) (bd rfl (cF rfl rfl))
theorem nput (h : AHeap) (r : ByteArray) : S_writer_Writer_Put (.lit (.pointer none)) r h = some (.lit (.int .i64 14), h) := by
  rw [S_writer_Writer_Put_eq]
  exact bd (ngiven h) (bd rfl (cT rfl rfl))
theorem ncount (h : AHeap) : onlyR (S_writer_Writer_Count (.lit (.pointer none)) h) h = some (.lit (.int .i64 0)) := by
  have : S_writer_Writer_Count (.lit (.pointer none)) h = some (.lit (.int .i64 0), h) := by
    rw [S_writer_Writer_Count_eq]
    exact bd rfl (cT rfl rfl)
  rw [this]; exact onlyR_same _ _
theorem wclose_not {h : AHeap} {w : AVal} (hp : AVal.parts w = some [w]) (hg : ∀ g, Grow h g → onlyR (S_writer_Writer_given w g) g = some (.lit (.bool false))) :
    ∃ g, S_writer_Writer_Close w h = some (.tup [.agg [.lit (.int .i64 0), .lit (.int .u32 0)], .lit (.int .i64 14)], g) ∧ Grow h g := by
  obtain ⟨h2, hh2⟩ : ∃ h2, h2 = psh (psh h (.cells [w])) (.cells [.lit (.int .i64 0), .lit (.int .u32 0)]) := ⟨_, rfl⟩
  have lb : (psh h (.cells [w])).length = h.length + 1 := psh_length _ _
  have G2 : Grow h h2 := by rw [hh2]; exact ((Grow.refl h).psh _).psh _
  have ca : cellsAt h2 h.length = some [w] := by rw [hh2]; exact cellsAt_psh _ (cellsAt_new h _)
  have cb : cellsAt h2 (h.length + 1) = some [.lit (.int .i64 0), .lit (.int .u32 0)] := by rw [hh2, ← lb]; exact cellsAt_new _ _
  refine ⟨h2.set (h.length + 1) (.cells [.lit (.int .i64 0), .lit (.int .u32 0)]), ?_, G2.set (by omega)⟩
  have st3 : stn 2 h2 (.ptr (h.length + 1) 0) [.lit (.int .i64 0), .lit (.int .u32 0)] = some (h2.set (h.length + 1) (.cells [.lit (.int .i64 0), .lit (.int .u32 0)])) := stn_of cb rfl rfl (by show 2 ≤ 2; omega)
  rw [S_writer_Writer_Close_eq]
  refine bd hp ?_
  rw [lb, ← hh2]
  exact bd (ld1_of ca) (bd (hg h2 G2) (bd rfl (cT rfl (bd st3 (bd (ldn_of (cellsAt_set cb) (by show 2 ≤ 2; omega)) rfl)))))
theorem zgiven {g : AHeap} {b : Nat} {cs : List AVal} (H : cellsAt g b = some cs) (h7 : cs[7]? = some (.lit (.bool false))) : onlyR (S_writer_Writer_given (.ptr b 0) g) g = some (.lit (.bool false)) := by
  have : S_writer_Writer_given (.ptr b 0) g = some (.lit (.bool false), g) := by
    rw [S_writer_Writer_given_eq]
    refine bd rfl (cT rfl (bd rfl (bd rfl (bd ((ld1_of H).trans h7) (bd rfl ?_)))))
    rw [S_writer_Writer_given_0_eq]
  rw [this]; exact onlyR_same _ _
end Go.Proofs.Yteclkehnppeobaa.AL
/- The chapter's example of the writer. -/
namespace Go.Proofs.Yteclkehnppeobaa.AL
set_option linter.unusedVariables false
set_option linter.unusedSimpArgs false
set_option maxRecDepth 100000
open Go
open Go.Proofs.Try
-- chainman/chainmanlaw08.awake: function 16
noncomputable def Echainmanlaw08_awake : XE := { T := tabOf [(3, r3), (4, r4), (9, r9), (25, r25), (26, r26), (42, r42), (44, r44), (46, r46), (50, r50), (52, r52), (88, r88), (90, r90)], C := [(8, w_fs_New), (17, w_budget_New), (18, w_writer_Create), (19, w_writer_Writer_Put), (20, w_writer_Writer_Close), (22, w_fs_Disk_Size), (23, w_fs_Disk_Read), (27, w_writer_Writer_Count), (49, w_writer_Writer_Drop), (50, w_chainmanref06_Must)], D := [], Ms := [], Ml := [], Mo := [(12006, [7, 8, 11, 13, 15, 17, 65]), (12010, [7, 11, 13, 15, 17, 69]), (12015, [11, 13, 15, 17, 74]), (12021, [13, 15, 17, 80]), (12025, [13, 17, 84]), (12029, [13, 88]), (12034, [13, 93]), (12039, [98])], n := 99 }
theorem Echainmanlaw08_awake_ok : XE.Ok Echainmanlaw08_awake Try.prog := ⟨tabOf_ok (⟨r3_ok, ⟨r4_ok, ⟨r9_ok, ⟨r25_ok, ⟨r26_ok, ⟨r42_ok, ⟨r44_ok, ⟨r46_ok, ⟨r50_ok, ⟨r52_ok, ⟨r88_ok, ⟨r90_ok, trivial⟩⟩⟩⟩⟩⟩⟩⟩⟩⟩⟩⟩), (⟨w_fs_New_ok, ⟨w_budget_New_ok, ⟨w_writer_Create_ok, ⟨w_writer_Writer_Put_ok, ⟨w_writer_Writer_Close_ok, ⟨w_fs_Disk_Size_ok, ⟨w_fs_Disk_Read_ok, ⟨w_writer_Writer_Count_ok, ⟨w_writer_Writer_Drop_ok, ⟨w_chainmanref06_Must_ok, trivial⟩⟩⟩⟩⟩⟩⟩⟩⟩⟩), ydOk_none, trivial⟩
noncomputable def c16 : Code := bodyOf f16
noncomputable def S_chainmanlaw08_awake  (h : AHeap) : Option (AVal × AHeap) := xfun Echainmanlaw08_awake f16 [] h
noncomputable def S_chainmanlaw08_awake_0 (x7 : Nat) (g8 : Int) (s11 : ByteArray) (none13 : AVal) (h15 : Int) (i17 : Int) (t65 : Bool) (h : AHeap) : Option (AVal × AHeap) := jo Echainmanlaw08_awake 12 (rops (ca (cb (cb (cb (cb (cb (cb (cb (cb (cb (cb (cb (cb c16)))))))))))))) ((rops (ca (cb (cb (cb (cb (cb (cb (cb (cb (cb (cb (cb (cb c16)))))))))))))).toList.drop 6) 6 [(7, (.ptr x7 0)), (8, (.lit (.int .i64 g8))), (11, (.lit (.string s11))), (13, none13), (15, (.lit (.int .i64 h15))), (17, (.lit (.int .i64 i17))), (65, (.lit (.bool t65)))] h (kN (kSeq Echainmanlaw08_awake (cb (cb (cb (cb (cb (cb (cb (cb (cb (cb (cb (cb (cb c16))))))))))))) (xend Echainmanlaw08_awake f16)))
noncomputable def S_chainmanlaw08_awake_1 (x7 : Nat) (s11 : ByteArray) (none13 : AVal) (h15 : Int) (i17 : Int) (t69 : Bool) (h : AHeap) : Option (AVal × AHeap) := jo Echainmanlaw08_awake 12 (rops (ca (cb (cb (cb (cb (cb (cb (cb (cb (cb (cb (cb (cb c16)))))))))))))) ((rops (ca (cb (cb (cb (cb (cb (cb (cb (cb (cb (cb (cb (cb c16)))))))))))))).toList.drop 10) 10 [(7, (.ptr x7 0)), (11, (.lit (.string s11))), (13, none13), (15, (.lit (.int .i64 h15))), (17, (.lit (.int .i64 i17))), (69, (.lit (.bool t69)))] h (kN (kSeq Echainmanlaw08_awake (cb (cb (cb (cb (cb (cb (cb (cb (cb (cb (cb (cb (cb c16))))))))))))) (xend Echainmanlaw08_awake f16)))
noncomputable def S_chainmanlaw08_awake_2 (s11 : ByteArray) (none13 : AVal) (h15 : Int) (i17 : Int) (t74 : Bool) (h : AHeap) : Option (AVal × AHeap) := jo Echainmanlaw08_awake 12 (rops (ca (cb (cb (cb (cb (cb (cb (cb (cb (cb (cb (cb (cb c16)))))))))))))) ((rops (ca (cb (cb (cb (cb (cb (cb (cb (cb (cb (cb (cb (cb c16)))))))))))))).toList.drop 15) 15 [(11, (.lit (.string s11))), (13, none13), (15, (.lit (.int .i64 h15))), (17, (.lit (.int .i64 i17))), (74, (.lit (.bool t74)))] h (kN (kSeq Echainmanlaw08_awake (cb (cb (cb (cb (cb (cb (cb (cb (cb (cb (cb (cb (cb c16))))))))))))) (xend Echainmanlaw08_awake f16)))
noncomputable def S_chainmanlaw08_awake_3 (none13 : AVal) (h15 : Int) (i17 : Int) (t80 : Bool) (h : AHeap) : Option (AVal × AHeap) := jo Echainmanlaw08_awake 12 (rops (ca (cb (cb (cb (cb (cb (cb (cb (cb (cb (cb (cb (cb c16)))))))))))))) ((rops (ca (cb (cb (cb (cb (cb (cb (cb (cb (cb (cb (cb (cb c16)))))))))))))).toList.drop 21) 21 [(13, none13), (15, (.lit (.int .i64 h15))), (17, (.lit (.int .i64 i17))), (80, (.lit (.bool t80)))] h (kN (kSeq Echainmanlaw08_awake (cb (cb (cb (cb (cb (cb (cb (cb (cb (cb (cb (cb (cb c16))))))))))))) (xend Echainmanlaw08_awake f16)))
noncomputable def S_chainmanlaw08_awake_4 (none13 : AVal) (i17 : Int) (t84 : Bool) (h : AHeap) : Option (AVal × AHeap) := jo Echainmanlaw08_awake 12 (rops (ca (cb (cb (cb (cb (cb (cb (cb (cb (cb (cb (cb (cb c16)))))))))))))) ((rops (ca (cb (cb (cb (cb (cb (cb (cb (cb (cb (cb (cb (cb c16)))))))))))))).toList.drop 25) 25 [(13, none13), (17, (.lit (.int .i64 i17))), (84, (.lit (.bool t84)))] h (kN (kSeq Echainmanlaw08_awake (cb (cb (cb (cb (cb (cb (cb (cb (cb (cb (cb (cb (cb c16))))))))))))) (xend Echainmanlaw08_awake f16)))
noncomputable def S_chainmanlaw08_awake_5 (none13 : AVal) (t88 : Bool) (h : AHeap) : Option (AVal × AHeap) := jo Echainmanlaw08_awake 12 (rops (ca (cb (cb (cb (cb (cb (cb (cb (cb (cb (cb (cb (cb c16)))))))))))))) ((rops (ca (cb (cb (cb (cb (cb (cb (cb (cb (cb (cb (cb (cb c16)))))))))))))).toList.drop 29) 29 [(13, none13), (88, (.lit (.bool t88)))] h (kN (kSeq Echainmanlaw08_awake (cb (cb (cb (cb (cb (cb (cb (cb (cb (cb (cb (cb (cb c16))))))))))))) (xend Echainmanlaw08_awake f16)))
noncomputable def S_chainmanlaw08_awake_6 (none13 : AVal) (t93 : Bool) (h : AHeap) : Option (AVal × AHeap) := jo Echainmanlaw08_awake 12 (rops (ca (cb (cb (cb (cb (cb (cb (cb (cb (cb (cb (cb (cb c16)))))))))))))) ((rops (ca (cb (cb (cb (cb (cb (cb (cb (cb (cb (cb (cb (cb c16)))))))))))))).toList.drop 34) 34 [(13, none13), (93, (.lit (.bool t93)))] h (kN (kSeq Echainmanlaw08_awake (cb (cb (cb (cb (cb (cb (cb (cb (cb (cb (cb (cb (cb c16))))))))))))) (xend Echainmanlaw08_awake f16)))
noncomputable def S_chainmanlaw08_awake_7 (t98 : Bool) (h : AHeap) : Option (AVal × AHeap) := jo Echainmanlaw08_awake 12 (rops (ca (cb (cb (cb (cb (cb (cb (cb (cb (cb (cb (cb (cb c16)))))))))))))) ((rops (ca (cb (cb (cb (cb (cb (cb (cb (cb (cb (cb (cb (cb c16)))))))))))))).toList.drop 39) 39 [(98, (.lit (.bool t98)))] h (kN (kSeq Echainmanlaw08_awake (cb (cb (cb (cb (cb (cb (cb (cb (cb (cb (cb (cb (cb c16))))))))))))) (xend Echainmanlaw08_awake f16)))
theorem S_chainmanlaw08_awake_eq  (h : AHeap) : S_chainmanlaw08_awake  h =
 (S_fs_New 100 h).bind fun r1 =>
 (xExtract r1.1 0).bind fun x2 =>
 (xExtract r1.1 1).bind fun x3 =>
 (asI .i64 x3).bind fun n4 =>
 (S_budget_New 9 r1.2).bind fun r5 =>
 (S_writer_Create x2 r5.1 (⟨#[97]⟩ : ByteArray) 1 r5.2).bind fun r6 =>
 (xExtract r6.1 0).bind fun x8 =>
 (xExtract r6.1 1).bind fun x9 =>
 (asI .i64 x9).bind fun n10 =>
 (S_writer_Writer_Put x8 (⟨#[97]⟩ : ByteArray) r6.2).bind fun r11 =>
 (asI .i64 r11.1).bind fun n12 =>
 (S_writer_Writer_Close x8 r11.2).bind fun r13 =>
 (xExtract r13.1 0).bind fun x14 =>
 (asA x14).bind fun xs15 =>
 (xExtract r13.1 1).bind fun x16 =>
 (asI .i64 x16).bind fun n17 =>
 (stn 2 ((psh r13.2 (.cells [(.lit (.int .i64 0)), (.lit (.int .u32 0))]))) (.ptr r13.2.length 0) xs15).bind fun h18 =>
 (S_fs_Disk_Size x2 (⟨#[97]⟩ : ByteArray) h18).bind fun r19 =>
 (xExtract r19.1 0).bind fun x20 =>
 (asI .i64 x20).bind fun n21 =>
 (xExtract r19.1 1).bind fun x22 =>
 (asI .i64 x22).bind fun n23 =>
 (S_fs_Disk_Read x2 (⟨#[97]⟩ : ByteArray) 0 n21 r19.2).bind fun r24 =>
 (xExtract r24.1 0).bind fun x25 =>
 (asS x25).bind fun s26 =>
 (xExtract r24.1 1).bind fun x27 =>
 (asI .i64 x27).bind fun n28 =>
 (S_writer_Writer_Drop ((.lit (.pointer none))) r24.2).bind fun r29 =>
 (S_writer_Writer_Close ((.lit (.pointer none))) r29.2).bind fun r30 =>
 (xExtract r30.1 0).bind fun x31 =>
 (asA x31).bind fun xs32 =>
 (xExtract r30.1 1).bind fun x33 =>
 (asI .i64 x33).bind fun n34 =>
 (stn 2 ((psh r30.2 (.cells [(.lit (.int .i64 0)), (.lit (.int .u32 0))]))) (.ptr r30.2.length 0) xs32).bind fun h35 =>
 (S_writer_Writer_Close (.ptr h35.length 0) ((psh h35 (.cells ([(.lit (.pointer none)), (.lit (.string ({ data := #[] }))), (.lit (.pointer none)), (.lit (.int .i64 0)), (.lit (.slice none 0 0)), (.lit (.int .i64 0)), (.lit (.int .u32 0)), (.lit (.bool false))]))))).bind fun r36 =>
 (xExtract r36.1 0).bind fun x37 =>
 (asA x37).bind fun xs38 =>
 (xExtract r36.1 1).bind fun x39 =>
 (asI .i64 x39).bind fun n40 =>
 (stn 2 ((psh r36.2 (.cells [(.lit (.int .i64 0)), (.lit (.int .u32 0))]))) (.ptr r36.2.length 0) xs38).bind fun h41 =>
 bif (decide (n10 = 0)) then (S_chainmanlaw08_awake_0 r13.2.length n17 s26 ((.lit (.pointer none))) n34 n40 (decide (n12 = 0)) h41)
 else (S_chainmanlaw08_awake_0 r13.2.length n17 s26 ((.lit (.pointer none))) n34 n40 false h41) := by kernel_rfl
theorem S_chainmanlaw08_awake_0_eq (x7 : Nat) (g8 : Int) (s11 : ByteArray) (none13 : AVal) (h15 : Int) (i17 : Int) (t65 : Bool) (h : AHeap) : S_chainmanlaw08_awake_0 x7 g8 s11 none13 h15 i17 t65 h =
 bif t65 then (S_chainmanlaw08_awake_1 x7 s11 none13 h15 i17 (decide (g8 = 0)) h)
 else (S_chainmanlaw08_awake_1 x7 s11 none13 h15 i17 false h) := (jo_eq ..).trans (by kernel_rfl)
theorem S_chainmanlaw08_awake_1_eq (x7 : Nat) (s11 : ByteArray) (none13 : AVal) (h15 : Int) (i17 : Int) (t69 : Bool) (h : AHeap) : S_chainmanlaw08_awake_1 x7 s11 none13 h15 i17 t69 h =
 bif t69 then ((ld1 h (.ptr x7 0)).bind fun x42 =>
 (asI .i64 x42).bind fun n43 =>
 S_chainmanlaw08_awake_2 s11 none13 h15 i17 (decide (n43 = 1)) h)
 else (S_chainmanlaw08_awake_2 s11 none13 h15 i17 false h) := (jo_eq ..).trans (by kernel_rfl)
theorem S_chainmanlaw08_awake_2_eq (s11 : ByteArray) (none13 : AVal) (h15 : Int) (i17 : Int) (t74 : Bool) (h : AHeap) : S_chainmanlaw08_awake_2 s11 none13 h15 i17 t74 h =
 bif t74 then ((blitS 1 [(.lit (.string ({ data := #[] })))] 1 [(0, (.lit (.string (⟨#[97]⟩ : ByteArray))))] h).bind fun r44 =>
 (goneR (S_chainmanref06_Must 1 r44.1 r44.2) r44.2).bind fun r45 =>
 (asS r45).bind fun s46 =>
 S_chainmanlaw08_awake_3 none13 h15 i17 (decide (s11 = s46)) r44.2)
 else (S_chainmanlaw08_awake_3 none13 h15 i17 false h) := (jo_eq ..).trans (by kernel_rfl)
theorem S_chainmanlaw08_awake_3_eq (none13 : AVal) (h15 : Int) (i17 : Int) (t80 : Bool) (h : AHeap) : S_chainmanlaw08_awake_3 none13 h15 i17 t80 h =
 bif t80 then (S_chainmanlaw08_awake_4 none13 i17 (decide (h15 = 14)) h)
 else (S_chainmanlaw08_awake_4 none13 i17 false h) := (jo_eq ..).trans (by kernel_rfl)
theorem S_chainmanlaw08_awake_4_eq (none13 : AVal) (i17 : Int) (t84 : Bool) (h : AHeap) : S_chainmanlaw08_awake_4 none13 i17 t84 h =
 bif t84 then (S_chainmanlaw08_awake_5 none13 (decide (i17 = 14)) h)
 else (S_chainmanlaw08_awake_5 none13 false h) := (jo_eq ..).trans (by kernel_rfl)
theorem S_chainmanlaw08_awake_5_eq (none13 : AVal) (t88 : Bool) (h : AHeap) : S_chainmanlaw08_awake_5 none13 t88 h =
 bif t88 then ((S_writer_Writer_Put none13 (⟨#[97]⟩ : ByteArray) h).bind fun r47 =>
 (asI .i64 r47.1).bind fun n48 =>
 S_chainmanlaw08_awake_6 none13 (decide (n48 = 14)) r47.2)
 else (S_chainmanlaw08_awake_6 none13 false h) := (jo_eq ..).trans (by kernel_rfl)
theorem S_chainmanlaw08_awake_6_eq (none13 : AVal) (t93 : Bool) (h : AHeap) : S_chainmanlaw08_awake_6 none13 t93 h =
 bif t93 then ((onlyR (S_writer_Writer_Count none13 h) h).bind fun r49 =>
 (asI .i64 r49).bind fun n50 =>
 S_chainmanlaw08_awake_7 (decide (n50 = 0)) h)
 else (S_chainmanlaw08_awake_7 false h) := (jo_eq ..).trans (by kernel_rfl)
theorem S_chainmanlaw08_awake_7_eq (t98 : Bool) (h : AHeap) : S_chainmanlaw08_awake_7 t98 h =
 some ((.lit (.bool t98)), h) := (jo_eq ..).trans (by kernel_rfl)
theorem S_chainmanlaw08_awake_ends  {h h' : AHeap} {v : AVal} {R : AEnd → AHeap → Prop} (hx : S_chainmanlaw08_awake  h = some (v, h')) (hR : HOk h → h.length ≤ h'.length → ABody.AEnds h h' (.ret v) R) : ACalls Try.prog 16 [] h R := xfun_ends Echainmanlaw08_awake_ok tmix (i := 16) (by rfl) (by kernel_rfl) (by kernel_rfl) hx hR
abbrev aW : ByteArray := { data := #[97] }
theorem aW_right : rightB aW = true := by decide +kernel
theorem bnew_run {m : Int} (hm : 0 ≤ m) (h : AHeap) : S_budget_New m h = some (.ptr h.length 0, psh h (.cells (budC m 0 0))) := by
  rw [S_budget_New_eq]
  exact cF (decide_eq_false (by omega)) rfl
theorem set_new (g : AHeap) (c : Int) (s : BitVec 32) : stn 2 (psh g (.cells [.lit (.int .i64 0), .lit (.int .u32 0)])) (.ptr g.length 0) [.lit (.int .i64 c), .lit (.int .u32 (u32 s))] = some ((psh g (.cells [.lit (.int .i64 0), .lit (.int .u32 0)])).set g.length (.cells [.lit (.int .i64 c), .lit (.int .u32 (u32 s))])) :=
  stn_of (cellsAt_new _ _) rfl rfl (by show 2 ≤ 2; omega)
theorem set_cells (g : AHeap) (c : Int) (s : BitVec 32) : cellsAt ((psh g (.cells [.lit (.int .i64 0), .lit (.int .u32 0)])).set g.length (.cells [.lit (.int .i64 c), .lit (.int .u32 (u32 s))])) g.length = some [.lit (.int .i64 c), .lit (.int .u32 (u32 s))] := cellsAt_set (cellsAt_new _ _)
theorem set_grow (g : AHeap) (cs : List AVal) : Grow g ((psh g (.cells [.lit (.int .i64 0), .lit (.int .u32 0)])).set g.length (.cells cs)) := ((Grow.refl g).psh _).set (Nat.le_refl _)
theorem Grow.same {h g : AHeap} (G : Grow h g) {c : Nat} (hc : c < h.length) : g[c]? = h[c]? := Keep.get G c hc (fun h => by cases h)
theorem awake_end (x7 : Nat) (t s : ByteArray) (h : AHeap) (hx : cellsAt h x7 = some [.lit (.int .i64 1), .lit (.int .u32 (u32 (moreB 0#32 (catB [aW]))))]) (ht : t = layB 1 [aW]) :
    ∃ g, S_chainmanlaw08_awake_0 x7 0 t (.lit (.pointer none)) 14 14 true h = some (.lit (.bool true), g) := by
  subst ht
  have hc : cellsAt (h ++ [.cells [.lit (.string aW)]]) h.length = some [.lit (.string aW)] := cellsAt_new h _
  have S : Sl 1 (h ++ [.cells [.lit (.string aW)]]) (.sl 1 h.length 0 1) [aW].length (strVs [aW]) := Sl.own hc rfl
  refine ⟨h ++ [.cells [.lit (.string aW)]], ?_⟩
  rw [S_chainmanlaw08_awake_0_eq]
  refine cT rfl ?_
  rw [S_chainmanlaw08_awake_1_eq]
  refine cT rfl (bd (ld1_of hx) (bd rfl ?_))
  rw [S_chainmanlaw08_awake_2_eq]
  refine cT rfl (bd (blitS_str _ _ _) (bd (rmustl_run (n := 1) S (by show 1 ≤ 1000; omega) (by omega) (by omega) (fun s hs => by rw [List.mem_singleton.1 hs]; rfl)) (bd rfl ?_)))
  rw [decide_eq_true rfl, S_chainmanlaw08_awake_3_eq]
  refine cT rfl ?_
  rw [S_chainmanlaw08_awake_4_eq]
  refine cT rfl ?_
  rw [S_chainmanlaw08_awake_5_eq]
  refine cT rfl (bd (nput _ _) (bd rfl ?_))
  rw [S_chainmanlaw08_awake_6_eq]
  refine cT rfl (bd (ncount _) (bd rfl ?_))
  rw [S_chainmanlaw08_awake_7_eq]
  rfl
theorem awake08_go (h : AHeap) : ∃ g, S_chainmanlaw08_awake h = some (.lit (.bool true), g) := by
  obtain ⟨h1, e1, A1, k1, l1⟩ := new_run h (room := 100) (by omega) (by omega)
  obtain ⟨h2, hh2⟩ : ∃ h2, h2 = psh h1 (.cells (budC 9 0 0)) := ⟨_, rfl⟩
  have B2 : cellsAt h2 h1.length = some (budC 9 0 0) := by rw [hh2]; exact cellsAt_new _ _
  have A2 : DiskAt h2 (h.length + 1) h.length (newDsk 100) [] := A1.keep (n := h1.length) (X := []) (by rw [hh2]; exact Keep.psh _ (Nat.le_refl _)) ⟨by omega, by simp⟩ ⟨by omega, by simp⟩
  obtain ⟨g3, wp, e3, S3, l3, lw, k3⟩ := wcreate_run (name := aW) (n := 1) A2 (new_w 100) B2 ⟨by omega, by omega⟩ (by omega) (by omega) aW_right (by decide) (by omega) (by omega) (by omega) (by omega) (by omega)
  rw [newW_st] at S3
  have O3 : WOk (stW 100 9 (0 + 4) (maxI 0 (0 + 4)) aW 1 []) := stW_ok (by omega) (by omega) aW_right (by decide) (by omega) (fun s hs => by cases hs)
  obtain ⟨g4, v4, e4, S4, F4⟩ := wput_run S3 O3 rfl (r := aW) rfl (by show 0 < 4; omega) (by show 0 ≤ 1000; omega) (by
    show ((preB 1 [] 0).size : Int) + ((1 * 1 + 5 : Nat) : Int) ≤ 100
    rw [preB, headB_size]; omega)
  rw [putW_st, List.nil_append] at S4
  have O4 : WOk (stW 100 9 (0 + 4) (maxI 0 (0 + 4)) aW 1 [aW]) := stW_ok (by omega) (by omega) aW_right (by decide) (by omega) (fun s hs => by rw [List.mem_singleton.1 hs]; rfl)
  obtain ⟨g5, v5, e5, S5, F5⟩ := wclose_run S4 O4 rfl (by show 1 ≤ 1000; omega) (by show (4 : Int) ≤ 0 + 4; omega) (by show (0 : Int) + 4 ≤ _; omega) (by
    show ((preB 1 [aW] 0).size : Int) + ((1 * 1 + 22 : Nat) : Int) ≤ 100
    rw [preB, headB_size]; omega)
  obtain ⟨g6, hg6⟩ : ∃ g6, g6 = (psh g5 (.cells [.lit (.int .i64 0), .lit (.int .u32 0)])).set g5.length (.cells [.lit (.int .i64 1), .lit (.int .u32 (u32 (moreB 0#32 (catB [aW]))))]) := ⟨_, rfl⟩
  have G6 : Grow g5 g6 := by rw [hg6]; exact set_grow _ _
  have c6 : cellsAt g6 g5.length = some [.lit (.int .i64 1), .lit (.int .u32 (u32 (moreB 0#32 (catB [aW]))))] := by rw [hg6]; exact set_cells _ _ _
  obtain ⟨S6, F6⟩ := S5.far G6.len fun c hc => G6.same hc
  obtain ⟨D6, A6, U6⟩ := S6.A
  have ht : (shutW (endW (restW (stW 100 9 (0 + 4) (maxI 0 (0 + 4)) aW 1 [aW])))).t = layB 1 [aW] := end_st ..
  have hn : (shutW (endW (restW (stW 100 9 (0 + 4) (maxI 0 (0 + 4)) aW 1 [aW])))).name = aW := by
    unfold restW; split <;> rfl
  have hR : (shutW (endW (restW (stW 100 9 (0 + 4) (maxI 0 (0 + 4)) aW 1 [aW])))).R = 100 := by
    unfold restW; split <;> rfl
  rw [ht, hn] at A6
  rw [ht, hR] at U6
  obtain ⟨g7, D7, e7, A7, U7, K7⟩ := size_w A6 U6 aW_right (by decide)
  have hsz : (layB 1 [aW]).size ≤ 16777216 := by
    have := preB_size (ss := [aW]) (n := 1) (fun s hs => by rw [List.mem_singleton.1 hs]; rfl) (by omega) 1
    show (preB 1 [aW] 1 ++ endB 1 (moreB 0#32 (catB [aW]))).size ≤ _
    rw [ByteArray.size_append, endB_size]; omega
  obtain ⟨g8, D8, e8, A8, U8, K8⟩ := read_w A7 U7 aW_right (by decide) hsz
  have nin : g5.length ∉ [h.length + 1, h.length] := by
    have i1 := S5.lt (c := h.length + 1) (.inl rfl)
    simp only [List.mem_cons, List.not_mem_nil, or_false, not_or]; omega
  have c7 := K7.cells (cellsAt_lt c6) nin c6
  have c8 := K8.cells (cellsAt_lt c7) nin c7
  obtain ⟨g9, e9, G9⟩ := wclose_not (h := g8) (w := .lit (.pointer none)) rfl fun g _ => ngiven g
  have c9 := G9.cells c8
  obtain ⟨g10, hg10⟩ : ∃ g10, g10 = (psh g9 (.cells [.lit (.int .i64 0), .lit (.int .u32 0)])).set g9.length (.cells [.lit (.int .i64 0), .lit (.int .u32 (u32 0#32))]) := ⟨_, rfl⟩
  have G10 : Grow g9 g10 := by rw [hg10]; exact set_grow _ _
  have c10 := G10.cells c9
  have st10 : stn 2 (psh g9 (.cells [.lit (.int .i64 0), .lit (.int .u32 0)])) (.ptr g9.length 0) [.lit (.int .i64 0), .lit (.int .u32 0)] = some g10 := by rw [hg10]; exact set_new g9 0 0#32
  obtain ⟨g11, hg11⟩ : ∃ g11, g11 = psh g10 (.cells [.lit (.pointer none), .lit (.string { data := #[] }), .lit (.pointer none), .lit (.int .i64 0), .lit (.slice none 0 0), .lit (.int .i64 0), .lit (.int .u32 0), .lit (.bool false)]) := ⟨_, rfl⟩
  have cz : cellsAt g11 g10.length = some [.lit (.pointer none), .lit (.string { data := #[] }), .lit (.pointer none), .lit (.int .i64 0), .lit (.slice none 0 0), .lit (.int .i64 0), .lit (.int .u32 0), .lit (.bool false)] := by rw [hg11]; exact cellsAt_new _ _
  have c11 : cellsAt g11 g5.length = some [.lit (.int .i64 1), .lit (.int .u32 (u32 (moreB 0#32 (catB [aW]))))] := by rw [hg11]; exact cellsAt_psh _ c10
  obtain ⟨g12, e12, G12⟩ := wclose_not (h := g11) (w := .ptr g10.length 0) rfl fun g G => zgiven (G.cells cz) rfl
  have c12 := G12.cells c11
  obtain ⟨g13, hg13⟩ : ∃ g13, g13 = (psh g12 (.cells [.lit (.int .i64 0), .lit (.int .u32 0)])).set g12.length (.cells [.lit (.int .i64 0), .lit (.int .u32 (u32 0#32))]) := ⟨_, rfl⟩
  have G13 : Grow g12 g13 := by rw [hg13]; exact set_grow _ _
  have c13 := G13.cells c12
  have st13 : stn 2 (psh g12 (.cells [.lit (.int .i64 0), .lit (.int .u32 0)])) (.ptr g12.length 0) [.lit (.int .i64 0), .lit (.int .u32 0)] = some g13 := by rw [hg13]; exact set_new g12 0 0#32
  obtain ⟨gE, eE⟩ := awake_end g5.length (layB 1 [aW]) (layB 1 [aW]) g13 c13 rfl
  refine ⟨gE, ?_⟩
  rw [S_chainmanlaw08_awake_eq]
  refine bd e1 (bd rfl (bd rfl (bd rfl (bd (bnew_run (by omega) h1) ?_))))
  rw [← hh2]
  refine bd e3 (bd rfl (bd rfl (bd rfl (bd e4 (bd rfl (bd e5 (bd rfl (bd rfl (bd rfl (bd rfl ?_))))))))))
  refine bd (a := g6) (by rw [hg6]; exact set_new g5 1 _) ?_
  refine bd e7 (bd rfl (bd rfl (bd rfl (bd rfl (bd e8 (bd rfl (bd rfl (bd rfl (bd rfl (bd (ndrop g8) (bd e9 (bd rfl (bd rfl (bd rfl (bd rfl (bd st10 ?_))))))))))))))))
  rw [← hg11]
  refine bd e12 (bd rfl (bd rfl (bd rfl (bd rfl (bd st13 (cT rfl ?_))))))
  exact eE
theorem awake08_run (h : AHeap) : ACalls Try.prog 16 [] h fun e g => e = .ret (.lit (.bool true)) ∧ g = h := by
  obtain ⟨g, e⟩ := awake08_go []
  exact acalls_plain rfl rfl ((S_chainmanlaw08_awake_ends e selfR).mono fun e g h => h.1) h
end Go.Proofs.Yteclkehnppeobaa.AL
/- The law of the writer's file: printed. -/
namespace Go.Proofs.Yteclkehnppeobaa.AL
set_option linter.unusedVariables false
set_option linter.unusedSimpArgs false
set_option maxRecDepth 100000
open Go
open Go.Proofs.Try
noncomputable def w_chainmanlaw08_awake : XC := .p fun R args K => match args with
  | [] => K (.lit (.bool true))
  | _ => none
theorem w_chainmanlaw08_awake_ok : XC.Nat w_chainmanlaw08_awake ∧ XC.Ok Try.prog 16 w_chainmanlaw08_awake := by
  refine ⟨fun R args K => ?_, tc16, fun args h v hx => ?_⟩
  · dsimp only; split <;> simp [Option.bind_assoc, mkP]
  · dsimp only at hx; split at hx
    · cases hx
      exact awake08_run _
    · cases hx
-- chainman/chainmanlaw08.WriterLays: function 4
noncomputable def Echainmanlaw08_WriterLays : XE := { T := tabOf [(3, r3), (4, r4), (5, r5), (9, r9), (25, r25), (26, r26), (42, r42), (44, r44), (46, r46), (50, r50), (52, r52)], C := [(8, w_fs_New), (11, w_fs_Disk_Rise), (15, w_chainmanref06_Few), (16, w_chainmanlaw08_awake), (17, w_budget_New), (18, w_writer_Create), (19, w_writer_Writer_Put), (20, w_writer_Writer_Close), (21, w_chainmanref06_Lay), (22, w_fs_Disk_Size), (23, w_fs_Disk_Read), (24, w_chainmanref06_Sum), (25, w_budget_Budget_Now), (26, w_budget_Budget_High), (27, w_writer_Writer_Count)], D := [(23, ⟨[], [0, 1, 2, 3, 4, 5, 6, 7, 8, 9, 10, 11, 12, 13, 14, 15, 16, 17, 18, 19, 20, 21, 22, 23, 24, 25, 26, 27, 28, 29, 30, 31, 32, 33, 34, 35, 36, 37, 38, 39, 40, 41, 42, 43, 44, 45, 46, 47, 48, 49, 50, 51, 52, 53], [], [], [], [], []⟩)], Ms := [(14, [1, 5, 6, 8, 9, 11, 12]), (17, [5, 6, 8, 9, 11])], Ml := [(13, [1, 5, 6, 8, 9, 11, 12])], Mo := [], n := 149 }
theorem Echainmanlaw08_WriterLays_ok : XE.Ok Echainmanlaw08_WriterLays Try.prog := ⟨tabOf_ok (⟨r3_ok, ⟨r4_ok, ⟨r5_ok, ⟨r9_ok, ⟨r25_ok, ⟨r26_ok, ⟨r42_ok, ⟨r44_ok, ⟨r46_ok, ⟨r50_ok, ⟨r52_ok, trivial⟩⟩⟩⟩⟩⟩⟩⟩⟩⟩⟩), (⟨w_fs_New_ok, ⟨w_fs_Disk_Rise_ok, ⟨w_chainmanref06_Few_ok, ⟨w_chainmanlaw08_awake_ok, ⟨w_budget_New_ok, ⟨w_writer_Create_ok, ⟨w_writer_Writer_Put_ok, ⟨w_writer_Writer_Close_ok, ⟨w_chainmanref06_Lay_ok, ⟨w_fs_Disk_Size_ok, ⟨w_fs_Disk_Read_ok, ⟨w_chainmanref06_Sum_ok, ⟨w_budget_Budget_Now_ok, ⟨w_budget_Budget_High_ok, ⟨w_writer_Writer_Count_ok, trivial⟩⟩⟩⟩⟩⟩⟩⟩⟩⟩⟩⟩⟩⟩⟩), ydOk_none, trivial⟩
noncomputable def c4 : Code := bodyOf f4
noncomputable def S_chainmanlaw08_WriterLays (size0 : Int) (l1 : AVal) (h : AHeap) : Option (AVal × AHeap) := xfun Echainmanlaw08_WriterLays f4 [(.lit (.int .u8 size0)), l1] h
noncomputable def S_chainmanlaw08_WriterLays_0 (l1 : AVal) (n5 : Int) (d6 : AVal) (b8 : AVal) (w9 : AVal) (some11 : AVal) (i12 : Int) (h : AHeap) : Option (AVal × AHeap) := xexec Echainmanlaw08_WriterLays (.loop (ca (ca (cb (ca (cb (cb (cb (cb (cb (cb (cb (cb (cb c4)))))))))))))) (AVal × AHeap) [(1, l1), (5, (.lit (.int .i64 n5))), (6, d6), (8, b8), (9, w9), (11, some11), (12, (.lit (.int .i64 i12)))] h (kBlk 0 (kSeq Echainmanlaw08_WriterLays (cb (cb (cb (cb (cb (cb (cb (cb (cb (cb c4)))))))))) (xend Echainmanlaw08_WriterLays f4)))
noncomputable def S_chainmanlaw08_WriterLays_1 (l1 : AVal) (n5 : Int) (d6 : AVal) (b8 : AVal) (w9 : AVal) (some11 : AVal) (i12 : Int) (h : AHeap) : Option (AVal × AHeap) := jn (xexec Echainmanlaw08_WriterLays (cb (cb (ca (ca (cb (ca (cb (cb (cb (cb (cb (cb (cb (cb (cb c4))))))))))))))) (AVal × AHeap) [(1, l1), (5, (.lit (.int .i64 n5))), (6, d6), (8, b8), (9, w9), (11, some11), (12, (.lit (.int .i64 i12)))] h (kLoop Echainmanlaw08_WriterLays (ca (ca (cb (ca (cb (cb (cb (cb (cb (cb (cb (cb (cb c4))))))))))))) (kBlk 0 (kSeq Echainmanlaw08_WriterLays (cb (cb (cb (cb (cb (cb (cb (cb (cb (cb c4)))))))))) (xend Echainmanlaw08_WriterLays f4)))))
noncomputable def S_chainmanlaw08_WriterLays_2 (n5 : Int) (d6 : AVal) (b8 : AVal) (w9 : AVal) (some11 : AVal) (h : AHeap) : Option (AVal × AHeap) := jn (xexec Echainmanlaw08_WriterLays (cb (cb (cb (cb (cb (cb (cb (cb (cb (cb c4)))))))))) (AVal × AHeap) [(5, (.lit (.int .i64 n5))), (6, d6), (8, b8), (9, w9), (11, some11)] h (xend Echainmanlaw08_WriterLays f4))
theorem S_chainmanlaw08_WriterLays_eq (size0 : Int) (l1 : AVal) (h : AHeap) : S_chainmanlaw08_WriterLays size0 l1 h =
 (onlyR (S_chainmanref06_Few l1 30 h) h).bind fun r1 =>
 (asB r1).bind fun b2 =>
 bif (!b2) then (some ((.lit (.bool true)), h))
 else ((S_fs_New 1048576 h).bind fun r3 =>
 (xExtract r3.1 0).bind fun x4 =>
 (xExtract r3.1 1).bind fun x5 =>
 (asI .i64 x5).bind fun n6 =>
 (S_budget_New 4 r3.2).bind fun r7 =>
 bif (!decide (n6 = 0)) then (some ((.lit (.bool false)), r7.2))
 else ((S_writer_Create x4 r7.1 (⟨#[97]⟩ : ByteArray) (IntKind.wrap .i64 (1 + ((IntKind.wrap .i64 size0).tmod 64))) r7.2).bind fun r8 =>
 (xExtract r8.1 0).bind fun x9 =>
 (xExtract r8.1 1).bind fun x10 =>
 (asI .i64 x10).bind fun n11 =>
 bif (!decide (n11 = 0)) then (some ((.lit (.bool false)), r8.2))
 else (S_chainmanlaw08_WriterLays_0 l1 (IntKind.wrap .i64 (1 + ((IntKind.wrap .i64 size0).tmod 64))) x4 r7.1 x9 ((.lit (.slice none 0 0))) 0 r8.2))) := by kernel_rfl
theorem S_chainmanlaw08_WriterLays_0_eq (l1 : AVal) (n5 : Int) (d6 : AVal) (b8 : AVal) (w9 : AVal) (some11 : AVal) (i12 : Int) (h : AHeap) : S_chainmanlaw08_WriterLays_0 l1 n5 d6 b8 w9 some11 i12 h =
 (lenV l1).bind fun n12 =>
 bif (decide (i12 < n12)) then ((idxP 1 l1 i12).bind fun p13 =>
 (ld1 h p13).bind fun x14 =>
 (asS x14).bind fun s15 =>
 (S_writer_Writer_Put w9 s15 h).bind fun r16 =>
 (asI .i64 r16.1).bind fun n17 =>
 bif (decide (n17 = 0)) then ((idxP 1 l1 i12).bind fun p18 =>
 (ld1 r16.2 p18).bind fun x19 =>
 (asS x19).bind fun s20 =>
 (blitS 1 [(.lit (.string ({ data := #[] })))] 1 [(0, (.lit (.string s20)))] r16.2).bind fun r21 =>
 (appV 1 16 r21.2 some11 r21.1).bind fun r22 =>
 S_chainmanlaw08_WriterLays_1 l1 n5 d6 b8 w9 r22.1 i12 r22.2)
 else (S_chainmanlaw08_WriterLays_1 l1 n5 d6 b8 w9 some11 i12 r16.2))
 else (S_chainmanlaw08_WriterLays_2 n5 d6 b8 w9 some11 h) := (xexec_loop Echainmanlaw08_WriterLays Echainmanlaw08_WriterLays_ok.C.nat _ _ _ _ _).trans (by kernel_rfl)
theorem S_chainmanlaw08_WriterLays_1_eq (l1 : AVal) (n5 : Int) (d6 : AVal) (b8 : AVal) (w9 : AVal) (some11 : AVal) (i12 : Int) (h : AHeap) : S_chainmanlaw08_WriterLays_1 l1 n5 d6 b8 w9 some11 i12 h =
 S_chainmanlaw08_WriterLays_0 l1 n5 d6 b8 w9 some11 (IntKind.wrap .i64 (i12 + 1)) h := (jn_eq _).trans (by kernel_rfl)
theorem S_chainmanlaw08_WriterLays_2_eq (n5 : Int) (d6 : AVal) (b8 : AVal) (w9 : AVal) (some11 : AVal) (h : AHeap) : S_chainmanlaw08_WriterLays_2 n5 d6 b8 w9 some11 h =
 (S_writer_Writer_Close w9 h).bind fun r23 =>
 (xExtract r23.1 0).bind fun x24 =>
 (asA x24).bind fun xs25 =>
 (xExtract r23.1 1).bind fun x26 =>
 (asI .i64 x26).bind fun n27 =>
 (stn 2 ((psh r23.2 (.cells [(.lit (.int .i64 0)), (.lit (.int .u32 0))]))) (.ptr r23.2.length 0) xs25).bind fun h28 =>
 (S_writer_Writer_Close w9 h28).bind fun r29 =>
 (xExtract r29.1 0).bind fun x30 =>
 (asA x30).bind fun xs31 =>
 (xExtract r29.1 1).bind fun x32 =>
 (asI .i64 x32).bind fun n33 =>
 (stn 2 ((psh r29.2 (.cells [(.lit (.int .i64 0)), (.lit (.int .u32 0))]))) (.ptr r29.2.length 0) xs31).bind fun h34 =>
 (goneR (S_chainmanref06_Lay n5 some11 h34) h34).bind fun r35 =>
 (xExtract r35 0).bind fun x36 =>
 (asS x36).bind fun s37 =>
 (xExtract r35 1).bind fun x38 =>
 (asB x38).bind fun b39 =>
 (S_fs_Disk_Rise d6 ((.lit (.slice none 0 0))) h34).bind fun r40 =>
 (S_fs_Disk_Size d6 (⟨#[97]⟩ : ByteArray) r40.2).bind fun r41 =>
 (xExtract r41.1 0).bind fun x42 =>
 (asI .i64 x42).bind fun n43 =>
 (xExtract r41.1 1).bind fun x44 =>
 (asI .i64 x44).bind fun n45 =>
 (S_fs_Disk_Read d6 (⟨#[97]⟩ : ByteArray) 0 n43 r41.2).bind fun r46 =>
 (xExtract r46.1 0).bind fun x47 =>
 (asS x47).bind fun s48 =>
 (xExtract r46.1 1).bind fun x49 =>
 (asI .i64 x49).bind fun n50 =>
 bif (decide (n27 = 0)) then (bif (decide (n33 = 14)) then (((S_writer_Writer_Put w9 (⟨#[97]⟩ : ByteArray) r46.2).bind fun r52 =>
 mkP r52.1 r52.2).bind fun r51 =>
 (reqC (r51.2 = r46.2)).bind fun _ =>
 (asI .i64 r51.1).bind fun n53 =>
 bif (decide (n53 = 14)) then ((ldn 2 r46.2 (.ptr r23.2.length 0)).bind fun xs54 =>
 (goneR (S_chainmanref06_Sum some11 r46.2) r46.2).bind fun r55 =>
 (asA r55).bind fun xs56 =>
 (leafEq [.int, .int] xs54 xs56).bind fun b57 =>
 bif b57 then (bif b39 then (bif (decide (n45 = 0)) then (bif (decide (n50 = 0)) then (bif (decide (s48 = s37)) then ((onlyR (S_budget_Budget_Now b8 r46.2) r46.2).bind fun r58 =>
 (asI .i64 r58).bind fun n59 =>
 bif (decide (n59 = 0)) then ((onlyR (S_budget_Budget_High b8 r46.2) r46.2).bind fun r60 =>
 (asI .i64 r60).bind fun n61 =>
 bif (decide (n61 = 4)) then ((onlyR (S_writer_Writer_Count w9 r46.2) r46.2).bind fun r62 =>
 (asI .i64 r62).bind fun n63 =>
 (lenV some11).bind fun n64 =>
 bif (decide (n63 = n64)) then (some ((.lit (.bool true)), r46.2))
 else (some ((.lit (.bool false)), r46.2)))
 else (some ((.lit (.bool false)), r46.2)))
 else (some ((.lit (.bool false)), r46.2)))
 else (some ((.lit (.bool false)), r46.2)))
 else (some ((.lit (.bool false)), r46.2)))
 else (some ((.lit (.bool false)), r46.2)))
 else (some ((.lit (.bool false)), r46.2)))
 else (some ((.lit (.bool false)), r46.2)))
 else (some ((.lit (.bool false)), r46.2)))
 else (some ((.lit (.bool false)), r46.2)))
 else (some ((.lit (.bool false)), r46.2)) := (jn_eq _).trans (by kernel_rfl)
theorem S_chainmanlaw08_WriterLays_ends {size0 : Int} {l1 : AVal} {h h' : AHeap} {v : AVal} {R : AEnd → AHeap → Prop} (hx : S_chainmanlaw08_WriterLays size0 l1 h = some (v, h')) (hR : HOk h → h.length ≤ h'.length → ABody.AEnds h h' (.ret v) R) : ACalls Try.prog 4 [(.lit (.int .u8 size0)), l1] h R := xfun_ends Echainmanlaw08_WriterLays_ok tmix (i := 4) (by rfl) (by kernel_rfl) (by kernel_rfl) hx hR
end Go.Proofs.Yteclkehnppeobaa.AL
/- The file of a writer is that of its records. -/
namespace Go.Proofs.Yteclkehnppeobaa.AL
set_option linter.unusedVariables false
set_option linter.unusedSimpArgs false
set_option maxRecDepth 100000
open Go
open Go.Proofs.Try
theorem Tru.of_eq {x y : Option (AVal × AHeap)} (e : x = y) (t : Tru y) : Tru x := by rw [e]; exact t
section law
variable {L : WLoc} {h g : AHeap} {x : Wrt} {v : AVal}
/-- What is not the writer's may turn. -/
theorem WS.other (S : WS L h x v) (hl : h.length ≤ g.length) (hg : ∀ c, c < h.length → (L.In c ∨ At v c) → g[c]? = h[c]?) : WS L g x v := by
  obtain ⟨D, A, U⟩ := S.A
  have get : ∀ c, L.In c → g[c]? = h[c]? := fun c hc => hg c (S.lt hc) (.inl hc)
  refine ⟨⟨D, ⟨?_, ?_⟩, U⟩, ?_, ?_, S.V.keep fun b hb hv => hg b hb (.inr hv), S.ne, S.nv⟩
  · rw [cellsAt_same (get _ (.inl rfl))]; exact A.dcs
  · rw [get _ (.inr (.inl rfl))]; exact A.ms
  · rw [cellsAt_same (get _ (.inr (.inr (.inl rfl))))]; exact S.B
  · rw [cellsAt_same (get _ (.inr (.inr (.inr rfl))))]; exact S.W
/-- A list of the law's own beside the writer. -/
structure Sme (L : WLoc) (h : AHeap) (v sv : AVal) (so : List ByteArray) : Prop where
  own : Own 1 h sv so.length (strVs so)
  off : ∀ b, At sv b → ¬ L.In b ∧ ¬ At v b
theorem Sme.frame {v' sv : AVal} {so : List ByteArray} (M : Sme L h v sv so) (F : WFr L h g v v') : Sme L g v' sv so :=
  ⟨M.own.keep fun b hb => F.get b (At.own M.own hb) (M.off b hb).1 (M.off b hb).2, fun b hb => ⟨(M.off b hb).1, fun hv => (F.at' b hv).elim (M.off b hb).2 fun h => by have := At.own M.own hb; omega⟩⟩
theorem one_file (t : ByteArray) (k : Int) : namesOf [(aW, t, k)] = [aW] := by
  unfold namesOf sortB
  simp [ofL_bytesL]
theorem rise_w {d mb : Nat} {D : Dsk} {R : Int} {t : ByteArray} (A : DiskAt h d mb D [(aW, t, (t.size : Int))]) (U : UpW D R t) (ht : t.size ≤ 16777216) :
    ∃ g D', S_fs_Disk_Rise (.ptr d 0) (.lit (.slice none 0 0)) h = some (.tup [], g) ∧ DiskAt g d mb D' [(aW, t, (t.size : Int))] ∧ UpW D' R t ∧ Keep h.length [d, mb] h g := by
  obtain ⟨g, e1, H1, T1, l1⟩ := rise_run A.dh (keep := .lit (.slice none 0 0)) (ki := []) (by simp) (fun f hf => by
    rw [List.mem_singleton.1 hf]
    exact ⟨by show (0 : Int) ≤ (t.size : Int); omega, Int.le_refl _, by show (t.size : Int) ≤ _; omega⟩) (fun g _ => Sl.nil 1 g)
  have hf : riseF none (t, (t.size : Int)) = (t, (t.size : Int)) := by
    unfold riseF riseN
    simp only [Int.add_zero, Int.toNat_natCast]
    congr 1
    apply ByteArray.ext
    simp
  have hu : riseS [] 0 (namesOf [(aW, t, (t.size : Int))]) ([(aW, t, (t.size : Int))], D.used) = ([(aW, t, (t.size : Int))], D.used) := by
    rw [one_file]
    simp only [riseS, fileOf, fask, flay, if_true, Option.getD_some, List.getElem?_nil, hf]
    rw [U.used, Int.sub_self, Int.sub_zero, wrap_i64 (by omega) (by omega)]
  rw [hu] at H1
  exact ⟨g, _, e1, H1.disk, ⟨rfl, rfl, U.used, U.room⟩, H1.keep⟩
theorem layB_size {n : Nat} {so : List ByteArray} (ha : ∀ s ∈ so, s.size = n) (h2 : n ≤ 64) (hl : so.length ≤ 30) : (layB n so).size ≤ 10000 := by
  have := preB_size ha h2 ((so.length + 3) / 4)
  unfold layB
  rw [ByteArray.size_append, endB_size]; omega
abbrev lawW (n : Nat) (so : List ByteArray) : Wrt := stW 1048576 4 (0 + 4) (maxI 0 (0 + 4)) aW n so
theorem lays_end {sv : AVal} {so : List ByteArray} {n : Nat} (S : WS L h (lawW n so) v) (M : Sme L h v sv so) (h1 : 1 ≤ n) (h2 : n ≤ 64) (ha : ∀ s ∈ so, s.size = n) (hl : so.length ≤ 30) :
    Tru (S_chainmanlaw08_WriterLays_2 (n : Int) (.ptr L.d 0) (.ptr L.bb 0) (.ptr L.wp 0) sv h) := by
  have O : WOk (lawW n so) := stW_ok h1 h2 aW_right (by decide) (by omega) ha
  have hps := preB_size ha h2 (so.length / 4)
  have hwl : (so.drop (4 * (so.length / 4))).length ≤ 4 := by rw [List.length_drop]; omega
  have hwn : (so.drop (4 * (so.length / 4))).length * n ≤ 4 * 64 := Nat.mul_le_mul hwl h2
  obtain ⟨g1, v1, e1, S1, F1⟩ := wclose_run S O rfl (by show so.length ≤ 1000; omega) (by show (4 : Int) ≤ 0 + 4; omega) (by show (0 : Int) + 4 ≤ _; omega) (by
    show ((preB n so (so.length / 4)).size : Int) + (((so.drop (4 * (so.length / 4))).length * n + 22 : Nat) : Int) ≤ 1048576
    omega)
  have M1 := M.frame F1
  have ht : (shutW (endW (restW (lawW n so)))).t = layB n so := end_st ..
  have hk : (shutW (endW (restW (lawW n so)))).k = ((layB n so).size : Int) := by rw [← ht]; rfl
  have hst : (shutW (endW (restW (lawW n so)))).name = aW ∧ (shutW (endW (restW (lawW n so)))).R = 1048576 ∧ (shutW (endW (restW (lawW n so)))).op = false ∧ (shutW (endW (restW (lawW n so)))).c = so.length ∧ (shutW (endW (restW (lawW n so)))).now = 0 ∧ (shutW (endW (restW (lawW n so)))).hi = 4 := by
    unfold restW; split <;> exact ⟨rfl, rfl, rfl, rfl, (by show (0 : Int) + 4 - 4 = 0; omega), (by show maxI 0 (0 + 4) = 4; decide)⟩
  generalize shutW (endW (restW (lawW n so))) = y at S1 ht hk hst
  obtain ⟨y1, y2, y3, y4, y5, y6⟩ := hst
  obtain ⟨g2, hg2⟩ : ∃ g2, g2 = (psh g1 (.cells [.lit (.int .i64 0), .lit (.int .u32 0)])).set g1.length (.cells [.lit (.int .i64 (so.length : Int)), .lit (.int .u32 (u32 (moreB 0#32 (catB so))))]) := ⟨_, rfl⟩
  have G2 : Grow g1 g2 := by rw [hg2]; exact set_grow _ _
  have c2 : cellsAt g2 g1.length = some [.lit (.int .i64 (so.length : Int)), .lit (.int .u32 (u32 (moreB 0#32 (catB so))))] := by rw [hg2]; exact set_cells _ _ _
  obtain ⟨S2, F2⟩ := S1.far G2.len fun c hc => G2.same hc
  have M2 := M1.frame F2
  have nx := S1.new (c := g1.length) (Nat.le_refl _)
  obtain ⟨g3, e3, S3, F3⟩ := wclose_closed S2 y3
  have M3 := M2.frame F3
  obtain ⟨c3, _⟩ := F3.cells c2 nx.1 nx.2
  obtain ⟨g4, hg4⟩ : ∃ g4, g4 = (psh g3 (.cells [.lit (.int .i64 0), .lit (.int .u32 0)])).set g3.length (.cells [.lit (.int .i64 0), .lit (.int .u32 (u32 0#32))]) := ⟨_, rfl⟩
  have G4 : Grow g3 g4 := by rw [hg4]; exact set_grow _ _
  have st4 : stn 2 (psh g3 (.cells [.lit (.int .i64 0), .lit (.int .u32 0)])) (.ptr g3.length 0) [.lit (.int .i64 0), .lit (.int .u32 0)] = some g4 := by rw [hg4]; exact set_new g3 0 0#32
  obtain ⟨S4, F4⟩ := S3.far G4.len fun c hc => G4.same hc
  have M4 := M3.frame F4
  have c4 := G4.cells c3
  have e5 := rlay_run M4.own.sl (by omega) h1 h2 ha
  obtain ⟨D4, A4, U4⟩ := S4.A
  rw [ht, hk, y1] at A4
  rw [ht, y2] at U4
  have hsz := layB_size ha h2 hl
  obtain ⟨g6, D6, e6, A6, U6, K6⟩ := rise_w A4 U4 (by omega)
  obtain ⟨S6, F6⟩ := S4.disk (t' := layB n so) (k' := ((layB n so).size : Int)) (by rw [y1]; exact A6) (by rw [y2]; exact U6) K6
  obtain ⟨g7, D7, e7, A7, U7, K7⟩ := size_w A6 U6 aW_right (by decide)
  obtain ⟨S7, F7⟩ := S6.disk (t' := layB n so) (k' := ((layB n so).size : Int)) (by show DiskAt g7 L.d L.mb D7 [(y.name, _, _)]; rw [y1]; exact A7) (by show UpW D7 y.R _; rw [y2]; exact U7) K7
  obtain ⟨g8, D8, e8, A8, U8, K8⟩ := read_w A7 U7 aW_right (by decide) (by omega)
  obtain ⟨S8, F8⟩ := S7.disk (t' := layB n so) (k' := ((layB n so).size : Int)) (by show DiskAt g8 L.d L.mb D8 [(y.name, _, _)]; rw [y1]; exact A8) (by show UpW D8 y.R _; rw [y2]; exact U8) K8
  have M8 := ((M4.frame F6).frame F7).frame F8
  have nx4 : ¬ At v1 g1.length := nx.2
  obtain ⟨c6, _⟩ := F6.cells c4 nx.1 nx.2
  obtain ⟨c7, _⟩ := F7.cells c6 nx.1 nx.2
  obtain ⟨c8, _⟩ := F8.cells c7 nx.1 nx.2
  have e9 := wput_closed S8 y3 aW
  have e10 := rsum_run M8.own.sl (by omega) fun s hs => by have := ha s hs; omega
  have leq : leafEq [.int, .int] [.lit (.int .i64 (so.length : Int)), .lit (.int .u32 (u32 (moreB 0#32 (catB so))))] [.lit (.int .i64 (so.length : Int)), .lit (.int .u32 (u32 (moreB 0#32 (catB so))))] = some true := by simp [leafEq, kindEq]
  refine ⟨g8, ?_⟩
  rw [S_chainmanlaw08_WriterLays_2_eq]
  refine bd e1 (bd rfl (bd rfl (bd rfl (bd rfl (bd (a := g2) (by rw [hg2]; exact set_new g1 _ _) (bd e3 (bd rfl (bd rfl (bd rfl (bd rfl (bd st4 (bd e5 ?_))))))))))))
  refine bd rfl (bd rfl (bd rfl (bd rfl (bd e6 (bd e7 (bd rfl (bd rfl (bd rfl (bd rfl (bd e8 (bd rfl (bd rfl (bd rfl (bd rfl ?_))))))))))))))
  refine cT rfl (cT rfl (bd (a := (.lit (.int .i64 14), g8)) (bd e9 rfl) (bd (reqC_true rfl) (bd rfl (cT rfl (bd (ldn_of c8 (by show 2 ≤ 2; omega)) (bd e10 (bd rfl (bd leq (cT rfl (cT rfl (cT rfl (cT rfl (cT (decide_eq_true rfl) ?_))))))))))))))
  refine bd (bnow_run S8.B) (bd rfl (cT (decide_eq_true y5) (bd (bhigh_run S8.B) (bd rfl (cT (decide_eq_true y6) (bd (wcount_run S8) (bd rfl (bd M8.own.sl.len (cT (decide_eq_true ?_) rfl)))))))))
  show (y.c : Int) = _
  rw [y4]
theorem lays_loop {l1 : AVal} {ss : List ByteArray} {n : Nat} (hL : ∀ g, Sl 1 g l1 ss.length (strVs ss)) (h30 : ss.length ≤ 30) (h80 : ∀ j (hj : j < ss.length), ss[j].size ≤ 80) (h1 : 1 ≤ n) (h2 : n ≤ 64) :
    ∀ m i (h : AHeap) (v sv : AVal) (so : List ByteArray), i + m = ss.length → so.length ≤ i → WS L h (lawW n so) v → Sme L h v sv so → (∀ s ∈ so, s.size = n) →
      Tru (S_chainmanlaw08_WriterLays_0 l1 (n : Int) (.ptr L.d 0) (.ptr L.bb 0) (.ptr L.wp 0) sv (i : Int) h) := by
  intro m
  induction m with
  | zero =>
    intro i h v sv so hi hs S M ha
    rw [S_chainmanlaw08_WriterLays_0_eq, (hL h).len, Option.bind_some, decide_eq_false (by omega), cond_false]
    exact lays_end S M h1 h2 ha (by omega)
  | succ m ih =>
    intro i h v sv so hi hs S M ha
    have hlt : i < ss.length := by omega
    obtain ⟨p, a, b⟩ := strs_at (hL h) hlt
    rw [S_chainmanlaw08_WriterLays_0_eq, (hL h).len, Option.bind_some, decide_eq_true (by omega), cond_true, a, Option.bind_some, b, Option.bind_some]
    show Tru ((S_writer_Writer_Put (.ptr L.wp 0) ss[i] h).bind _)
    by_cases hr : ss[i].size = n
    · have O : WOk (lawW n so) := stW_ok h1 h2 aW_right (by decide) (by omega) ha
      have hps := preB_size ha h2 (so.length / 4)
      have hwl : (so.drop (4 * (so.length / 4))).length ≤ 3 := by rw [List.length_drop]; omega
      have hwn : ((so.drop (4 * (so.length / 4))).length + 1) * n ≤ 4 * 64 := Nat.mul_le_mul (by omega) h2
      obtain ⟨g1, v1, e1, S1, F1⟩ := wput_run S O rfl (r := ss[i]) hr (by show (so.drop (4 * (so.length / 4))).length < 4; omega) (by show so.length ≤ 1000; omega) (by
        show ((preB n so (so.length / 4)).size : Int) + ((((so.drop (4 * (so.length / 4))).length + 1) * n + 5 : Nat) : Int) ≤ 1048576
        omega)
      rw [putW_st] at S1
      have M1 := M.frame F1
      obtain ⟨q, a', b'⟩ := strs_at (hL g1) hlt
      rw [a] at a'
      cases a'
      obtain ⟨sv', g2, e2, O2, l2, l2', at2, k2⟩ := push_app (k := 1) (w := 16) M1.own (xs := [.lit (.string ss[i])]) rfl rfl (by omega)
      have S2 : WS L g2 (lawW n (so ++ [ss[i]])) v1 := S1.other l2 fun c hc hx => k2 c hc fun hv => (M1.off c hv).elim fun x1 x2 => hx.elim x1 x2
      have M2 : Sme L g2 v1 sv' (so ++ [ss[i]]) := ⟨by
        have : strVs (so ++ [ss[i]]) = strVs so ++ [.lit (.string ss[i])] := by simp [strVs]
        rw [this, List.length_append]; exact O2, fun c hc => by
        have := at2 c hc
        exact ⟨fun hi => by have := S1.lt hi; omega, fun hv => by have := S1.V.lt hv; omega⟩⟩
      have e2' : appV 1 16 (g1 ++ [.cells [.lit (.string ss[i])]]) sv (.sl 1 g1.length 0 1) = some (sv', g2) := e2
      refine Tru.of_eq (y := S_chainmanlaw08_WriterLays_1 l1 (n : Int) (.ptr L.d 0) (.ptr L.bb 0) (.ptr L.wp 0) sv' (i : Int) g2) (bd e1 (bd rfl (cT rfl (bd rfl (bd b' (bd rfl (bd (blitS_str _ _ _) (bd e2' rfl)))))))) ?_
      rw [S_chainmanlaw08_WriterLays_1_eq, wrap_i64 (by omega) (by omega)]
      exact ih (i + 1) g2 v1 sv' (so ++ [ss[i]]) (by omega) (by simp; omega) S2 M2 fun s hs => (List.mem_append.1 hs).elim (ha s) fun h => by rw [List.mem_singleton.1 h]; exact hr
    · refine Tru.of_eq (y := S_chainmanlaw08_WriterLays_1 l1 (n : Int) (.ptr L.d 0) (.ptr L.bb 0) (.ptr L.wp 0) sv (i : Int) h) (bd (wput_size S rfl hr) (bd rfl (cF rfl rfl))) ?_
      rw [S_chainmanlaw08_WriterLays_1_eq, wrap_i64 (by omega) (by omega)]
      exact ih (i + 1) h v sv so (by omega) (by omega) S M ha
end law
theorem lays_run {size : Int} {l1 : AVal} {ss : List ByteArray} (h0 : 0 ≤ size) (h1 : size ≤ 255) (hL : ∀ g, Sl 1 g l1 ss.length (strVs ss)) (h : AHeap) : Tru (S_chainmanlaw08_WriterLays size l1 h) := by
  obtain ⟨b, e0, hb⟩ := rfew_run (hL h)
  rw [S_chainmanlaw08_WriterLays_eq, e0, Option.bind_some]
  show Tru (cond (!b) _ _)
  cases b with
  | false => exact .here
  | true =>
  obtain ⟨h30, h80⟩ := hb rfl
  obtain ⟨n, hn⟩ : ∃ n : Nat, n = 1 + size.toNat % 64 := ⟨_, rfl⟩
  have hw : IntKind.wrap .i64 (1 + ((IntKind.wrap .i64 size).tmod 64)) = (n : Int) := by
    obtain ⟨k, rfl⟩ := Int.eq_ofNat_of_zero_le h0
    rw [wrap_i64 (n := ((k : Nat) : Int)) (by omega) (by omega), show ((k : Nat) : Int).tmod 64 = ((k % 64 : Nat) : Int) from Int.ofNat_tmod k 64 ▸ rfl, wrap_i64 (by omega) (by omega), hn]
    simp
  rw [hw]
  obtain ⟨g1, e1, A1, k1, l1'⟩ := new_run h (room := 1048576) (by omega) (by omega)
  obtain ⟨g2, hg2⟩ : ∃ g2, g2 = psh g1 (.cells (budC 4 0 0)) := ⟨_, rfl⟩
  have B2 : cellsAt g2 g1.length = some (budC 4 0 0) := by rw [hg2]; exact cellsAt_new _ _
  have A2 : DiskAt g2 (h.length + 1) h.length (newDsk 1048576) [] := A1.keep (n := g1.length) (X := []) (by rw [hg2]; exact Keep.psh _ (Nat.le_refl _)) ⟨by omega, by simp⟩ ⟨by omega, by simp⟩
  obtain ⟨g3, wp, e3, S3, l3, lw, k3⟩ := wcreate_run (name := aW) (n := n) A2 (new_w 1048576) B2 ⟨by omega, by omega⟩ (by omega) (by omega) aW_right (by decide) (by omega) (by omega) (by omega) (by omega) (by omega)
  rw [newW_st] at S3
  have bn : S_budget_New 4 g1 = some (.ptr g1.length 0, g2) := by rw [hg2]; exact bnew_run (by omega) g1
  refine Tru.of_eq (y := S_chainmanlaw08_WriterLays_0 l1 (n : Int) (.ptr (h.length + 1) 0) (.ptr g1.length 0) (.ptr wp 0) (.lit (.slice none 0 0)) 0 g3) (bd e1 (bd rfl (bd rfl (bd rfl (bd bn (cF rfl (bd e3 (bd rfl (bd rfl (bd rfl (cF rfl rfl))))))))))) ?_
  exact lays_loop (L := ⟨h.length + 1, h.length, g1.length, wp⟩) hL h30 h80 (by omega) (by omega) ss.length 0 g3 _ _ [] (by omega) (Nat.le_refl _) S3 ⟨Own.nil _ _, fun b hb => by obtain ⟨_, _, _, e⟩ := hb; cases e⟩ (fun s hs => by cases hs)
theorem writerLays {H : Type} {d1 : DataW H} {size : Int} (l0 : IntKind.u8.min ≤ size) (u0 : size ≤ IntKind.u8.max) (f1 : Fits (.slice .str) d1) :
    ACalls Try.prog 4 [.lit (.int .u8 size), (absD d1).headD .any] [] fun e h' => e = .ret (.lit (.bool true)) ∧ True := by
  have h0 : 0 ≤ size := by have : IntKind.u8.min = 0 := by decide
                           omega
  have h1 : size ≤ 255 := by have : IntKind.u8.max = 255 := by decide
                             omega
  obtain ⟨l, S1⟩ := fits_strs f1 []
  obtain ⟨h', hx⟩ := lays_run h0 h1 S1.everywhere []
  exact S_chainmanlaw08_WriterLays_ends hx fun hok _ => ends_same (L := h') hok rfl ⟨rfl, trivial⟩
end Go.Proofs.Yteclkehnppeobaa.AL
/- Facts on the types of the program, each asked of the loaded table. -/
namespace Go.Proofs.Yteclkehnppeobaa.AL
set_option linter.unusedVariables false
set_option linter.unusedSimpArgs false
open Go
theorem ts3 : tySize Try.prog 3 = some 1 := by kernel_rfl
theorem tb3 : tyBytes Try.prog 3 = some 8 := by kernel_rfl
theorem tg3 : tyAgg Try.prog 3 = some false := by kernel_rfl
theorem tz3 : tyZero Try.prog 3 = some (.lit (.int .i64 0)) := by kernel_rfl
theorem ta3 : tyArray Try.prog 3 = none := by kernel_rfl
theorem tl3 : tySlice Try.prog 3 = none := by kernel_rfl
theorem ti3 : tyInt Try.prog 3 = some .i64 := by kernel_rfl
theorem tt3 : tyString Try.prog 3 = false := by kernel_rfl
theorem tq3 : tyBool Try.prog 3 = false := by kernel_rfl
theorem tn3 : tyNil Try.prog 3 = none := by kernel_rfl
theorem tp3 : tyPlaces Try.prog 3 = none := by kernel_rfl
theorem tu3 : Try.prog.underlying 3 = some (.int .i64) := by kernel_rfl
theorem ts4 : tySize Try.prog 4 = some 1 := by kernel_rfl
theorem tb4 : tyBytes Try.prog 4 = some 1 := by kernel_rfl
theorem tg4 : tyAgg Try.prog 4 = some false := by kernel_rfl
theorem tz4 : tyZero Try.prog 4 = some (.lit (.bool false)) := by kernel_rfl
theorem ta4 : tyArray Try.prog 4 = none := by kernel_rfl
theorem tl4 : tySlice Try.prog 4 = none := by kernel_rfl
theorem ti4 : tyInt Try.prog 4 = none := by kernel_rfl
theorem tt4 : tyString Try.prog 4 = false := by kernel_rfl
theorem tq4 : tyBool Try.prog 4 = true := by kernel_rfl
theorem tn4 : tyNil Try.prog 4 = none := by kernel_rfl
theorem tp4 : tyPlaces Try.prog 4 = none := by kernel_rfl
theorem tu4 : Try.prog.underlying 4 = some .bool := by kernel_rfl
theorem ts5 : tySize Try.prog 5 = some 1 := by kernel_rfl
theorem tb5 : tyBytes Try.prog 5 = some 1 := by kernel_rfl
theorem tg5 : tyAgg Try.prog 5 = some false := by kernel_rfl
theorem tz5 : tyZero Try.prog 5 = some (.lit (.int .u8 0)) := by kernel_rfl
theorem ta5 : tyArray Try.prog 5 = none := by kernel_rfl
theorem tl5 : tySlice Try.prog 5 = none := by kernel_rfl
theorem ti5 : tyInt Try.prog 5 = some .u8 := by kernel_rfl
theorem tt5 : tyString Try.prog 5 = false := by kernel_rfl
theorem tq5 : tyBool Try.prog 5 = false := by kernel_rfl
theorem tn5 : tyNil Try.prog 5 = none := by kernel_rfl
theorem tp5 : tyPlaces Try.prog 5 = none := by kernel_rfl
theorem tu5 : Try.prog.underlying 5 = some (.int .u8) := by kernel_rfl
theorem ts9 : tySize Try.prog 9 = some 1 := by kernel_rfl
theorem tb9 : tyBytes Try.prog 9 = some 16 := by kernel_rfl
theorem tg9 : tyAgg Try.prog 9 = some false := by kernel_rfl
theorem tz9 : tyZero Try.prog 9 = some (.lit (.string { data := #[] })) := by kernel_rfl
theorem ta9 : tyArray Try.prog 9 = none := by kernel_rfl
theorem tl9 : tySlice Try.prog 9 = none := by kernel_rfl
theorem ti9 : tyInt Try.prog 9 = none := by kernel_rfl
theorem tt9 : tyString Try.prog 9 = true := by kernel_rfl
theorem tq9 : tyBool Try.prog 9 = false := by kernel_rfl
theorem tn9 : tyNil Try.prog 9 = none := by kernel_rfl
theorem tp9 : tyPlaces Try.prog 9 = none := by kernel_rfl
theorem tu9 : Try.prog.underlying 9 = some .string := by kernel_rfl
theorem ts21 : tySize Try.prog 21 = some 1 := by kernel_rfl
theorem tb21 : tyBytes Try.prog 21 = some 4 := by kernel_rfl
theorem tg21 : tyAgg Try.prog 21 = some false := by kernel_rfl
theorem tz21 : tyZero Try.prog 21 = some (.lit (.int .i32 0)) := by kernel_rfl
theorem ta21 : tyArray Try.prog 21 = none := by kernel_rfl
theorem tl21 : tySlice Try.prog 21 = none := by kernel_rfl
theorem ti21 : tyInt Try.prog 21 = some .i32 := by kernel_rfl
theorem tt21 : tyString Try.prog 21 = false := by kernel_rfl
theorem tq21 : tyBool Try.prog 21 = false := by kernel_rfl
theorem tn21 : tyNil Try.prog 21 = none := by kernel_rfl
theorem tp21 : tyPlaces Try.prog 21 = none := by kernel_rfl
theorem tu21 : Try.prog.underlying 21 = some (.int .i32) := by kernel_rfl
theorem ts22 : tySize Try.prog 22 = some 1 := by kernel_rfl
theorem tb22 : tyBytes Try.prog 22 = some 24 := by kernel_rfl
theorem tg22 : tyAgg Try.prog 22 = some false := by kernel_rfl
theorem tz22 : tyZero Try.prog 22 = some (.lit (.slice none 0 0)) := by kernel_rfl
theorem ta22 : tyArray Try.prog 22 = none := by kernel_rfl
theorem tl22 : tySlice Try.prog 22 = some 35 := by kernel_rfl
theorem ti22 : tyInt Try.prog 22 = none := by kernel_rfl
theorem tt22 : tyString Try.prog 22 = false := by kernel_rfl
theorem tq22 : tyBool Try.prog 22 = false := by kernel_rfl
theorem tn22 : tyNil Try.prog 22 = some .slice := by kernel_rfl
theorem tp22 : tyPlaces Try.prog 22 = none := by kernel_rfl
theorem tu22 : Try.prog.underlying 22 = some (.slice 35) := by kernel_rfl
theorem ts25 : tySize Try.prog 25 = some 1 := by kernel_rfl
theorem tb25 : tyBytes Try.prog 25 = some 8 := by kernel_rfl
theorem tg25 : tyAgg Try.prog 25 = some false := by kernel_rfl
theorem tz25 : tyZero Try.prog 25 = some (.lit (.pointer none)) := by kernel_rfl
theorem ta25 : tyArray Try.prog 25 = none := by kernel_rfl
theorem tl25 : tySlice Try.prog 25 = none := by kernel_rfl
theorem ti25 : tyInt Try.prog 25 = none := by kernel_rfl
theorem tt25 : tyString Try.prog 25 = false := by kernel_rfl
theorem tq25 : tyBool Try.prog 25 = false := by kernel_rfl
theorem tn25 : tyNil Try.prog 25 = some .ptr := by kernel_rfl
theorem tp25 : tyPlaces Try.prog 25 = none := by kernel_rfl
theorem tu25 : Try.prog.underlying 25 = some (.pointer 73) := by kernel_rfl
theorem ts26 : tySize Try.prog 26 = some 1 := by kernel_rfl
theorem tb26 : tyBytes Try.prog 26 = some 8 := by kernel_rfl
theorem tg26 : tyAgg Try.prog 26 = some false := by kernel_rfl
theorem tz26 : tyZero Try.prog 26 = some (.lit (.int .i64 0)) := by kernel_rfl
theorem ta26 : tyArray Try.prog 26 = none := by kernel_rfl
theorem tl26 : tySlice Try.prog 26 = none := by kernel_rfl
theorem ti26 : tyInt Try.prog 26 = some .i64 := by kernel_rfl
theorem tt26 : tyString Try.prog 26 = false := by kernel_rfl
theorem tq26 : tyBool Try.prog 26 = false := by kernel_rfl
theorem tn26 : tyNil Try.prog 26 = none := by kernel_rfl
theorem tp26 : tyPlaces Try.prog 26 = none := by kernel_rfl
theorem tu26 : Try.prog.underlying 26 = some (.int .i64) := by kernel_rfl
theorem ts29 : tySize Try.prog 29 = some 1 := by kernel_rfl
theorem tb29 : tyBytes Try.prog 29 = some 24 := by kernel_rfl
theorem tg29 : tyAgg Try.prog 29 = some false := by kernel_rfl
theorem tz29 : tyZero Try.prog 29 = some (.lit (.slice none 0 0)) := by kernel_rfl
theorem ta29 : tyArray Try.prog 29 = none := by kernel_rfl
theorem tl29 : tySlice Try.prog 29 = some 85 := by kernel_rfl
theorem ti29 : tyInt Try.prog 29 = none := by kernel_rfl
theorem tt29 : tyString Try.prog 29 = false := by kernel_rfl
theorem tq29 : tyBool Try.prog 29 = false := by kernel_rfl
theorem tn29 : tyNil Try.prog 29 = some .slice := by kernel_rfl
theorem tp29 : tyPlaces Try.prog 29 = none := by kernel_rfl
theorem tu29 : Try.prog.underlying 29 = some (.slice 85) := by kernel_rfl
theorem ts31 : tySize Try.prog 31 = some 3 := by kernel_rfl
theorem tb31 : tyBytes Try.prog 31 = some 40 := by kernel_rfl
theorem tg31 : tyAgg Try.prog 31 = some true := by kernel_rfl
theorem tz31 : tyZero Try.prog 31 = some (.agg [.lit (.int .i64 0), .lit (.int .i64 0), .lit (.slice none 0 0)]) := by kernel_rfl
theorem ta31 : tyArray Try.prog 31 = none := by kernel_rfl
theorem tl31 : tySlice Try.prog 31 = none := by kernel_rfl
theorem ti31 : tyInt Try.prog 31 = none := by kernel_rfl
theorem tt31 : tyString Try.prog 31 = false := by kernel_rfl
theorem tq31 : tyBool Try.prog 31 = false := by kernel_rfl
theorem tn31 : tyNil Try.prog 31 = none := by kernel_rfl
theorem tf31_0 : tyField Try.prog 31 0 = some (0, 3) := by kernel_rfl
theorem tf31_1 : tyField Try.prog 31 1 = some (1, 3) := by kernel_rfl
theorem tf31_2 : tyField Try.prog 31 2 = some (2, 29) := by kernel_rfl
theorem tp31 : tyPlaces Try.prog 31 = some [(0, 1), (1, 1), (2, 1)] := by kernel_rfl
theorem ts33 : tySize Try.prog 33 = some 1 := by kernel_rfl
theorem tb33 : tyBytes Try.prog 33 = some 24 := by kernel_rfl
theorem tg33 : tyAgg Try.prog 33 = some false := by kernel_rfl
theorem tz33 : tyZero Try.prog 33 = some (.lit (.slice none 0 0)) := by kernel_rfl
theorem ta33 : tyArray Try.prog 33 = none := by kernel_rfl
theorem tl33 : tySlice Try.prog 33 = some 3 := by kernel_rfl
theorem ti33 : tyInt Try.prog 33 = none := by kernel_rfl
theorem tt33 : tyString Try.prog 33 = false := by kernel_rfl
theorem tq33 : tyBool Try.prog 33 = false := by kernel_rfl
theorem tn33 : tyNil Try.prog 33 = some .slice := by kernel_rfl
theorem tp33 : tyPlaces Try.prog 33 = none := by kernel_rfl
theorem tu33 : Try.prog.underlying 33 = some (.slice 3) := by kernel_rfl
theorem ts35 : tySize Try.prog 35 = some 5 := by kernel_rfl
theorem tb35 : tyBytes Try.prog 35 = some 72 := by kernel_rfl
theorem tg35 : tyAgg Try.prog 35 = some true := by kernel_rfl
theorem tz35 : tyZero Try.prog 35 = some (.agg [.lit (.int .i64 0), .lit (.int .i64 0), .lit (.slice none 0 0), .lit (.int .i64 0), .lit (.slice none 0 0)]) := by kernel_rfl
theorem ta35 : tyArray Try.prog 35 = none := by kernel_rfl
theorem tl35 : tySlice Try.prog 35 = none := by kernel_rfl
theorem ti35 : tyInt Try.prog 35 = none := by kernel_rfl
theorem tt35 : tyString Try.prog 35 = false := by kernel_rfl
theorem tq35 : tyBool Try.prog 35 = false := by kernel_rfl
theorem tn35 : tyNil Try.prog 35 = none := by kernel_rfl
theorem tf35_0 : tyField Try.prog 35 0 = some (0, 31) := by kernel_rfl
theorem tf35_1 : tyField Try.prog 35 1 = some (3, 3) := by kernel_rfl
theorem tf35_2 : tyField Try.prog 35 2 = some (4, 33) := by kernel_rfl
theorem tp35 : tyPlaces Try.prog 35 = some [(0, 3), (3, 1), (4, 1)] := by kernel_rfl
theorem ts42 : tySize Try.prog 42 = some 1 := by kernel_rfl
theorem tb42 : tyBytes Try.prog 42 = some 24 := by kernel_rfl
theorem tg42 : tyAgg Try.prog 42 = some false := by kernel_rfl
theorem tz42 : tyZero Try.prog 42 = some (.lit (.slice none 0 0)) := by kernel_rfl
theorem ta42 : tyArray Try.prog 42 = none := by kernel_rfl
theorem tl42 : tySlice Try.prog 42 = some 9 := by kernel_rfl
theorem ti42 : tyInt Try.prog 42 = none := by kernel_rfl
theorem tt42 : tyString Try.prog 42 = false := by kernel_rfl
theorem tq42 : tyBool Try.prog 42 = false := by kernel_rfl
theorem tn42 : tyNil Try.prog 42 = some .slice := by kernel_rfl
theorem tp42 : tyPlaces Try.prog 42 = none := by kernel_rfl
theorem tu42 : Try.prog.underlying 42 = some (.slice 9) := by kernel_rfl
theorem ts44 : tySize Try.prog 44 = some 1 := by kernel_rfl
theorem tb44 : tyBytes Try.prog 44 = some 8 := by kernel_rfl
theorem tg44 : tyAgg Try.prog 44 = some false := by kernel_rfl
theorem tz44 : tyZero Try.prog 44 = some (.lit (.pointer none)) := by kernel_rfl
theorem ta44 : tyArray Try.prog 44 = none := by kernel_rfl
theorem tl44 : tySlice Try.prog 44 = none := by kernel_rfl
theorem ti44 : tyInt Try.prog 44 = none := by kernel_rfl
theorem tt44 : tyString Try.prog 44 = false := by kernel_rfl
theorem tq44 : tyBool Try.prog 44 = false := by kernel_rfl
theorem tn44 : tyNil Try.prog 44 = some .ptr := by kernel_rfl
theorem tp44 : tyPlaces Try.prog 44 = none := by kernel_rfl
theorem tu44 : Try.prog.underlying 44 = some (.pointer 93) := by kernel_rfl
theorem ts46 : tySize Try.prog 46 = some 1 := by kernel_rfl
theorem tb46 : tyBytes Try.prog 46 = some 8 := by kernel_rfl
theorem tg46 : tyAgg Try.prog 46 = some false := by kernel_rfl
theorem tz46 : tyZero Try.prog 46 = some (.lit (.pointer none)) := by kernel_rfl
theorem ta46 : tyArray Try.prog 46 = none := by kernel_rfl
theorem tl46 : tySlice Try.prog 46 = none := by kernel_rfl
theorem ti46 : tyInt Try.prog 46 = none := by kernel_rfl
theorem tt46 : tyString Try.prog 46 = false := by kernel_rfl
theorem tq46 : tyBool Try.prog 46 = false := by kernel_rfl
theorem tn46 : tyNil Try.prog 46 = some .ptr := by kernel_rfl
theorem tp46 : tyPlaces Try.prog 46 = none := by kernel_rfl
theorem tu46 : Try.prog.underlying 46 = some (.pointer 90) := by kernel_rfl
theorem ts50 : tySize Try.prog 50 = some 1 := by kernel_rfl
theorem tb50 : tyBytes Try.prog 50 = some 4 := by kernel_rfl
theorem tg50 : tyAgg Try.prog 50 = some false := by kernel_rfl
theorem tz50 : tyZero Try.prog 50 = some (.lit (.int .u32 0)) := by kernel_rfl
theorem ta50 : tyArray Try.prog 50 = none := by kernel_rfl
theorem tl50 : tySlice Try.prog 50 = none := by kernel_rfl
theorem ti50 : tyInt Try.prog 50 = some .u32 := by kernel_rfl
theorem tt50 : tyString Try.prog 50 = false := by kernel_rfl
theorem tq50 : tyBool Try.prog 50 = false := by kernel_rfl
theorem tn50 : tyNil Try.prog 50 = none := by kernel_rfl
theorem tp50 : tyPlaces Try.prog 50 = none := by kernel_rfl
theorem tu50 : Try.prog.underlying 50 = some (.int .u32) := by kernel_rfl
theorem ts52 : tySize Try.prog 52 = some 2 := by kernel_rfl
theorem tb52 : tyBytes Try.prog 52 = some 16 := by kernel_rfl
theorem tg52 : tyAgg Try.prog 52 = some true := by kernel_rfl
theorem tz52 : tyZero Try.prog 52 = some (.agg [.lit (.int .i64 0), .lit (.int .u32 0)]) := by kernel_rfl
theorem ta52 : tyArray Try.prog 52 = none := by kernel_rfl
theorem tl52 : tySlice Try.prog 52 = none := by kernel_rfl
theorem ti52 : tyInt Try.prog 52 = none := by kernel_rfl
theorem tt52 : tyString Try.prog 52 = false := by kernel_rfl
theorem tq52 : tyBool Try.prog 52 = false := by kernel_rfl
theorem tn52 : tyNil Try.prog 52 = none := by kernel_rfl
theorem tf52_0 : tyField Try.prog 52 0 = some (0, 3) := by kernel_rfl
theorem tf52_1 : tyField Try.prog 52 1 = some (1, 50) := by kernel_rfl
theorem tp52 : tyPlaces Try.prog 52 = some [(0, 1), (1, 1)] := by kernel_rfl
theorem tv52 : leaves Try.prog 20 52 = some [.int, .int] := by kernel_rfl
theorem te52 : Try.prog.eqGuardType Try.prog.depth 52 = false := by kernel_rfl
theorem ts64 : tySize Try.prog 64 = some 4 := by kernel_rfl
theorem tb64 : tyBytes Try.prog 64 = some 96 := by kernel_rfl
theorem tg64 : tyAgg Try.prog 64 = some true := by kernel_rfl
theorem tz64 : tyZero Try.prog 64 = some (.agg [.lit (.slice none 0 0), .lit (.slice none 0 0), .lit (.slice none 0 0), .lit (.slice none 0 0)]) := by kernel_rfl
theorem ta64 : tyArray Try.prog 64 = some (4, 33) := by kernel_rfl
theorem tl64 : tySlice Try.prog 64 = none := by kernel_rfl
theorem ti64 : tyInt Try.prog 64 = none := by kernel_rfl
theorem tt64 : tyString Try.prog 64 = false := by kernel_rfl
theorem tq64 : tyBool Try.prog 64 = false := by kernel_rfl
theorem tn64 : tyNil Try.prog 64 = none := by kernel_rfl
theorem tp64 : tyPlaces Try.prog 64 = none := by kernel_rfl
theorem tu64 : Try.prog.underlying 64 = some (.array 4 33) := by kernel_rfl
theorem ts66 : tySize Try.prog 66 = some 1 := by kernel_rfl
theorem tb66 : tyBytes Try.prog 66 = some 24 := by kernel_rfl
theorem tg66 : tyAgg Try.prog 66 = some false := by kernel_rfl
theorem tz66 : tyZero Try.prog 66 = some (.lit (.slice none 0 0)) := by kernel_rfl
theorem ta66 : tyArray Try.prog 66 = none := by kernel_rfl
theorem tl66 : tySlice Try.prog 66 = some 69 := by kernel_rfl
theorem ti66 : tyInt Try.prog 66 = none := by kernel_rfl
theorem tt66 : tyString Try.prog 66 = false := by kernel_rfl
theorem tq66 : tyBool Try.prog 66 = false := by kernel_rfl
theorem tn66 : tyNil Try.prog 66 = some .slice := by kernel_rfl
theorem tp66 : tyPlaces Try.prog 66 = none := by kernel_rfl
theorem tu66 : Try.prog.underlying 66 = some (.slice 69) := by kernel_rfl
theorem ts69 : tySize Try.prog 69 = some 2 := by kernel_rfl
theorem tb69 : tyBytes Try.prog 69 = some 16 := by kernel_rfl
theorem tg69 : tyAgg Try.prog 69 = some true := by kernel_rfl
theorem tz69 : tyZero Try.prog 69 = some (.agg [.lit (.int .i64 0), .lit (.int .i64 0)]) := by kernel_rfl
theorem ta69 : tyArray Try.prog 69 = none := by kernel_rfl
theorem tl69 : tySlice Try.prog 69 = none := by kernel_rfl
theorem ti69 : tyInt Try.prog 69 = none := by kernel_rfl
theorem tt69 : tyString Try.prog 69 = false := by kernel_rfl
theorem tq69 : tyBool Try.prog 69 = false := by kernel_rfl
theorem tn69 : tyNil Try.prog 69 = none := by kernel_rfl
theorem tf69_0 : tyField Try.prog 69 0 = some (0, 3) := by kernel_rfl
theorem tf69_1 : tyField Try.prog 69 1 = some (1, 3) := by kernel_rfl
theorem tp69 : tyPlaces Try.prog 69 = some [(0, 1), (1, 1)] := by kernel_rfl
theorem tv69 : leaves Try.prog 20 69 = some [.int, .int] := by kernel_rfl
theorem te69 : Try.prog.eqGuardType Try.prog.depth 69 = false := by kernel_rfl
theorem ts71 : tySize Try.prog 71 = some 1 := by kernel_rfl
theorem tb71 : tyBytes Try.prog 71 = some 8 := by kernel_rfl
theorem tg71 : tyAgg Try.prog 71 = some false := by kernel_rfl
theorem tz71 : tyZero Try.prog 71 = some (.lit (.map none)) := by kernel_rfl
theorem ta71 : tyArray Try.prog 71 = none := by kernel_rfl
theorem tl71 : tySlice Try.prog 71 = none := by kernel_rfl
theorem ti71 : tyInt Try.prog 71 = none := by kernel_rfl
theorem tt71 : tyString Try.prog 71 = false := by kernel_rfl
theorem tq71 : tyBool Try.prog 71 = false := by kernel_rfl
theorem tn71 : tyNil Try.prog 71 = some .map := by kernel_rfl
theorem tp71 : tyPlaces Try.prog 71 = none := by kernel_rfl
theorem ts73 : tySize Try.prog 73 = some 7 := by kernel_rfl
theorem tb73 : tyBytes Try.prog 73 = some 56 := by kernel_rfl
theorem tg73 : tyAgg Try.prog 73 = some true := by kernel_rfl
theorem tz73 : tyZero Try.prog 73 = some (.agg [.lit (.bool false), .lit (.int .i64 0), .lit (.int .i64 0), .lit (.map none), .lit (.int .i64 0), .lit (.bool false), .lit (.int .i64 0)]) := by kernel_rfl
theorem ta73 : tyArray Try.prog 73 = none := by kernel_rfl
theorem tl73 : tySlice Try.prog 73 = none := by kernel_rfl
theorem ti73 : tyInt Try.prog 73 = none := by kernel_rfl
theorem tt73 : tyString Try.prog 73 = false := by kernel_rfl
theorem tq73 : tyBool Try.prog 73 = false := by kernel_rfl
theorem tn73 : tyNil Try.prog 73 = none := by kernel_rfl
theorem tf73_0 : tyField Try.prog 73 0 = some (0, 4) := by kernel_rfl
theorem tf73_1 : tyField Try.prog 73 1 = some (1, 3) := by kernel_rfl
theorem tf73_2 : tyField Try.prog 73 2 = some (2, 3) := by kernel_rfl
theorem tf73_3 : tyField Try.prog 73 3 = some (3, 71) := by kernel_rfl
theorem tf73_4 : tyField Try.prog 73 4 = some (4, 3) := by kernel_rfl
theorem tf73_5 : tyField Try.prog 73 5 = some (5, 4) := by kernel_rfl
theorem tf73_6 : tyField Try.prog 73 6 = some (6, 3) := by kernel_rfl
theorem tp73 : tyPlaces Try.prog 73 = some [(0, 1), (1, 1), (2, 1), (3, 1), (4, 1), (5, 1), (6, 1)] := by kernel_rfl
theorem ts76 : tySize Try.prog 76 = some 1 := by kernel_rfl
theorem tb76 : tyBytes Try.prog 76 = some 8 := by kernel_rfl
theorem tg76 : tyAgg Try.prog 76 = some false := by kernel_rfl
theorem tz76 : tyZero Try.prog 76 = some (.lit (.nilFunc)) := by kernel_rfl
theorem ta76 : tyArray Try.prog 76 = none := by kernel_rfl
theorem tl76 : tySlice Try.prog 76 = none := by kernel_rfl
theorem ti76 : tyInt Try.prog 76 = none := by kernel_rfl
theorem tt76 : tyString Try.prog 76 = false := by kernel_rfl
theorem tq76 : tyBool Try.prog 76 = false := by kernel_rfl
theorem tn76 : tyNil Try.prog 76 = some .func := by kernel_rfl
theorem tp76 : tyPlaces Try.prog 76 = none := by kernel_rfl
theorem ts78 : tySize Try.prog 78 = some 1 := by kernel_rfl
theorem tb78 : tyBytes Try.prog 78 = some 24 := by kernel_rfl
theorem tg78 : tyAgg Try.prog 78 = some false := by kernel_rfl
theorem tz78 : tyZero Try.prog 78 = some (.lit (.slice none 0 0)) := by kernel_rfl
theorem ta78 : tyArray Try.prog 78 = none := by kernel_rfl
theorem tl78 : tySlice Try.prog 78 = some 76 := by kernel_rfl
theorem ti78 : tyInt Try.prog 78 = none := by kernel_rfl
theorem tt78 : tyString Try.prog 78 = false := by kernel_rfl
theorem tq78 : tyBool Try.prog 78 = false := by kernel_rfl
theorem tn78 : tyNil Try.prog 78 = some .slice := by kernel_rfl
theorem tp78 : tyPlaces Try.prog 78 = none := by kernel_rfl
theorem tu78 : Try.prog.underlying 78 = some (.slice 76) := by kernel_rfl
theorem ts81 : tySize Try.prog 81 = some 2 := by kernel_rfl
theorem tb81 : tyBytes Try.prog 81 = some 24 := by kernel_rfl
theorem tg81 : tyAgg Try.prog 81 = some true := by kernel_rfl
theorem tz81 : tyZero Try.prog 81 = some (.agg [.lit (.string { data := #[] }), .lit (.int .i64 0)]) := by kernel_rfl
theorem ta81 : tyArray Try.prog 81 = none := by kernel_rfl
theorem tl81 : tySlice Try.prog 81 = none := by kernel_rfl
theorem ti81 : tyInt Try.prog 81 = none := by kernel_rfl
theorem tt81 : tyString Try.prog 81 = false := by kernel_rfl
theorem tq81 : tyBool Try.prog 81 = false := by kernel_rfl
theorem tn81 : tyNil Try.prog 81 = none := by kernel_rfl
theorem tf81_0 : tyField Try.prog 81 0 = some (0, 9) := by kernel_rfl
theorem tf81_1 : tyField Try.prog 81 1 = some (1, 3) := by kernel_rfl
theorem tp81 : tyPlaces Try.prog 81 = some [(0, 1), (1, 1)] := by kernel_rfl
theorem tv81 : leaves Try.prog 20 81 = some [.str, .int] := by kernel_rfl
theorem te81 : Try.prog.eqGuardType Try.prog.depth 81 = false := by kernel_rfl
theorem ts85 : tySize Try.prog 85 = some 4 := by kernel_rfl
theorem tb85 : tyBytes Try.prog 85 = some 40 := by kernel_rfl
theorem tg85 : tyAgg Try.prog 85 = some true := by kernel_rfl
theorem tz85 : tyZero Try.prog 85 = some (.agg [.lit (.string { data := #[] }), .lit (.int .i64 0), .lit (.int .i64 0), .lit (.int .u32 0)]) := by kernel_rfl
theorem ta85 : tyArray Try.prog 85 = none := by kernel_rfl
theorem tl85 : tySlice Try.prog 85 = none := by kernel_rfl
theorem ti85 : tyInt Try.prog 85 = none := by kernel_rfl
theorem tt85 : tyString Try.prog 85 = false := by kernel_rfl
theorem tq85 : tyBool Try.prog 85 = false := by kernel_rfl
theorem tn85 : tyNil Try.prog 85 = none := by kernel_rfl
theorem tf85_0 : tyField Try.prog 85 0 = some (0, 9) := by kernel_rfl
theorem tf85_1 : tyField Try.prog 85 1 = some (1, 3) := by kernel_rfl
theorem tf85_2 : tyField Try.prog 85 2 = some (2, 3) := by kernel_rfl
theorem tf85_3 : tyField Try.prog 85 3 = some (3, 50) := by kernel_rfl
theorem tp85 : tyPlaces Try.prog 85 = some [(0, 1), (1, 1), (2, 1), (3, 1)] := by kernel_rfl
theorem tv85 : leaves Try.prog 20 85 = some [.str, .int, .int, .int] := by kernel_rfl
theorem te85 : Try.prog.eqGuardType Try.prog.depth 85 = false := by kernel_rfl
theorem ts86 : tySize Try.prog 86 = some 1 := by kernel_rfl
theorem tb86 : tyBytes Try.prog 86 = some 8 := by kernel_rfl
theorem tg86 : tyAgg Try.prog 86 = some false := by kernel_rfl
theorem tz86 : tyZero Try.prog 86 = some (.lit (.nilFunc)) := by kernel_rfl
theorem ta86 : tyArray Try.prog 86 = none := by kernel_rfl
theorem tl86 : tySlice Try.prog 86 = none := by kernel_rfl
theorem ti86 : tyInt Try.prog 86 = none := by kernel_rfl
theorem tt86 : tyString Try.prog 86 = false := by kernel_rfl
theorem tq86 : tyBool Try.prog 86 = false := by kernel_rfl
theorem tn86 : tyNil Try.prog 86 = some .func := by kernel_rfl
theorem tp86 : tyPlaces Try.prog 86 = none := by kernel_rfl
theorem ts88 : tySize Try.prog 88 = some 2 := by kernel_rfl
theorem tb88 : tyBytes Try.prog 88 = some 24 := by kernel_rfl
theorem tg88 : tyAgg Try.prog 88 = some true := by kernel_rfl
theorem tz88 : tyZero Try.prog 88 = some (.agg [.lit (.pointer none), .lit (.string { data := #[] })]) := by kernel_rfl
theorem ta88 : tyArray Try.prog 88 = none := by kernel_rfl
theorem tl88 : tySlice Try.prog 88 = none := by kernel_rfl
theorem ti88 : tyInt Try.prog 88 = none := by kernel_rfl
theorem tt88 : tyString Try.prog 88 = false := by kernel_rfl
theorem tq88 : tyBool Try.prog 88 = false := by kernel_rfl
theorem tn88 : tyNil Try.prog 88 = none := by kernel_rfl
theorem tf88_0 : tyField Try.prog 88 0 = some (0, 25) := by kernel_rfl
theorem tf88_1 : tyField Try.prog 88 1 = some (1, 9) := by kernel_rfl
theorem tp88 : tyPlaces Try.prog 88 = some [(0, 1), (1, 1)] := by kernel_rfl
theorem ts90 : tySize Try.prog 90 = some 8 := by kernel_rfl
theorem tb90 : tyBytes Try.prog 90 = some 88 := by kernel_rfl
theorem tg90 : tyAgg Try.prog 90 = some true := by kernel_rfl
theorem tz90 : tyZero Try.prog 90 = some (.agg [.lit (.pointer none), .lit (.string { data := #[] }), .lit (.pointer none), .lit (.int .i64 0), .lit (.slice none 0 0), .lit (.int .i64 0), .lit (.int .u32 0), .lit (.bool false)]) := by kernel_rfl
theorem ta90 : tyArray Try.prog 90 = none := by kernel_rfl
theorem tl90 : tySlice Try.prog 90 = none := by kernel_rfl
theorem ti90 : tyInt Try.prog 90 = none := by kernel_rfl
theorem tt90 : tyString Try.prog 90 = false := by kernel_rfl
theorem tq90 : tyBool Try.prog 90 = false := by kernel_rfl
theorem tn90 : tyNil Try.prog 90 = none := by kernel_rfl
theorem tf90_0 : tyField Try.prog 90 0 = some (0, 88) := by kernel_rfl
theorem tf90_1 : tyField Try.prog 90 1 = some (2, 44) := by kernel_rfl
theorem tf90_2 : tyField Try.prog 90 2 = some (3, 3) := by kernel_rfl
theorem tf90_3 : tyField Try.prog 90 3 = some (4, 42) := by kernel_rfl
theorem tf90_4 : tyField Try.prog 90 4 = some (5, 52) := by kernel_rfl
theorem tf90_5 : tyField Try.prog 90 5 = some (7, 4) := by kernel_rfl
theorem tp90 : tyPlaces Try.prog 90 = some [(0, 2), (2, 1), (3, 1), (4, 1), (5, 2), (7, 1)] := by kernel_rfl
theorem ts93 : tySize Try.prog 93 = some 4 := by kernel_rfl
theorem tb93 : tyBytes Try.prog 93 = some 32 := by kernel_rfl
theorem tg93 : tyAgg Try.prog 93 = some true := by kernel_rfl
theorem tz93 : tyZero Try.prog 93 = some (.agg [.lit (.bool false), .lit (.int .i64 0), .lit (.int .i64 0), .lit (.int .i64 0)]) := by kernel_rfl
theorem ta93 : tyArray Try.prog 93 = none := by kernel_rfl
theorem tl93 : tySlice Try.prog 93 = none := by kernel_rfl
theorem ti93 : tyInt Try.prog 93 = none := by kernel_rfl
theorem tt93 : tyString Try.prog 93 = false := by kernel_rfl
theorem tq93 : tyBool Try.prog 93 = false := by kernel_rfl
theorem tn93 : tyNil Try.prog 93 = none := by kernel_rfl
theorem tf93_0 : tyField Try.prog 93 0 = some (0, 4) := by kernel_rfl
theorem tf93_1 : tyField Try.prog 93 1 = some (1, 3) := by kernel_rfl
theorem tf93_2 : tyField Try.prog 93 2 = some (2, 3) := by kernel_rfl
theorem tf93_3 : tyField Try.prog 93 3 = some (3, 3) := by kernel_rfl
theorem tp93 : tyPlaces Try.prog 93 = some [(0, 1), (1, 1), (2, 1), (3, 1)] := by kernel_rfl
theorem tv93 : leaves Try.prog 20 93 = some [.bool, .int, .int, .int] := by kernel_rfl
theorem te93 : Try.prog.eqGuardType Try.prog.depth 93 = false := by kernel_rfl
theorem ts104 : tySize Try.prog 104 = some 2 := by kernel_rfl
theorem tb104 : tyBytes Try.prog 104 = some 48 := by kernel_rfl
theorem tg104 : tyAgg Try.prog 104 = some true := by kernel_rfl
theorem tz104 : tyZero Try.prog 104 = some (.agg [.lit (.slice none 0 0), .lit (.slice none 0 0)]) := by kernel_rfl
theorem ta104 : tyArray Try.prog 104 = none := by kernel_rfl
theorem tl104 : tySlice Try.prog 104 = none := by kernel_rfl
theorem ti104 : tyInt Try.prog 104 = none := by kernel_rfl
theorem tt104 : tyString Try.prog 104 = false := by kernel_rfl
theorem tq104 : tyBool Try.prog 104 = false := by kernel_rfl
theorem tn104 : tyNil Try.prog 104 = none := by kernel_rfl
theorem tf104_0 : tyField Try.prog 104 0 = some (0, 33) := by kernel_rfl
theorem tf104_1 : tyField Try.prog 104 1 = some (1, 33) := by kernel_rfl
theorem tp104 : tyPlaces Try.prog 104 = some [(0, 1), (1, 1)] := by kernel_rfl
theorem ts108 : tySize Try.prog 108 = some 1 := by kernel_rfl
theorem tb108 : tyBytes Try.prog 108 = some 8 := by kernel_rfl
theorem tg108 : tyAgg Try.prog 108 = some false := by kernel_rfl
theorem tz108 : tyZero Try.prog 108 = some (.lit (.nilFunc)) := by kernel_rfl
theorem ta108 : tyArray Try.prog 108 = none := by kernel_rfl
theorem tl108 : tySlice Try.prog 108 = none := by kernel_rfl
theorem ti108 : tyInt Try.prog 108 = none := by kernel_rfl
theorem tt108 : tyString Try.prog 108 = false := by kernel_rfl
theorem tq108 : tyBool Try.prog 108 = false := by kernel_rfl
theorem tn108 : tyNil Try.prog 108 = some .func := by kernel_rfl
theorem tp108 : tyPlaces Try.prog 108 = none := by kernel_rfl
theorem ts113 : tySize Try.prog 113 = some 1 := by kernel_rfl
theorem tb113 : tyBytes Try.prog 113 = some 8 := by kernel_rfl
theorem tg113 : tyAgg Try.prog 113 = some false := by kernel_rfl
theorem tz113 : tyZero Try.prog 113 = some (.lit (.nilFunc)) := by kernel_rfl
theorem ta113 : tyArray Try.prog 113 = none := by kernel_rfl
theorem tl113 : tySlice Try.prog 113 = none := by kernel_rfl
theorem ti113 : tyInt Try.prog 113 = none := by kernel_rfl
theorem tt113 : tyString Try.prog 113 = false := by kernel_rfl
theorem tq113 : tyBool Try.prog 113 = false := by kernel_rfl
theorem tn113 : tyNil Try.prog 113 = some .func := by kernel_rfl
theorem tp113 : tyPlaces Try.prog 113 = none := by kernel_rfl
theorem ts120 : tySize Try.prog 120 = some 1 := by kernel_rfl
theorem tb120 : tyBytes Try.prog 120 = some 8 := by kernel_rfl
theorem tg120 : tyAgg Try.prog 120 = some false := by kernel_rfl
theorem tz120 : tyZero Try.prog 120 = some (.lit (.pointer none)) := by kernel_rfl
theorem ta120 : tyArray Try.prog 120 = none := by kernel_rfl
theorem tl120 : tySlice Try.prog 120 = none := by kernel_rfl
theorem ti120 : tyInt Try.prog 120 = none := by kernel_rfl
theorem tt120 : tyString Try.prog 120 = false := by kernel_rfl
theorem tq120 : tyBool Try.prog 120 = false := by kernel_rfl
theorem tn120 : tyNil Try.prog 120 = some .ptr := by kernel_rfl
theorem tp120 : tyPlaces Try.prog 120 = none := by kernel_rfl
theorem tu120 : Try.prog.underlying 120 = some (.pointer 123) := by kernel_rfl
theorem ts121 : tySize Try.prog 121 = some 1 := by kernel_rfl
theorem tb121 : tyBytes Try.prog 121 = some 24 := by kernel_rfl
theorem tg121 : tyAgg Try.prog 121 = some false := by kernel_rfl
theorem tz121 : tyZero Try.prog 121 = some (.lit (.slice none 0 0)) := by kernel_rfl
theorem ta121 : tyArray Try.prog 121 = none := by kernel_rfl
theorem tl121 : tySlice Try.prog 121 = some 5 := by kernel_rfl
theorem ti121 : tyInt Try.prog 121 = none := by kernel_rfl
theorem tt121 : tyString Try.prog 121 = false := by kernel_rfl
theorem tq121 : tyBool Try.prog 121 = false := by kernel_rfl
theorem tn121 : tyNil Try.prog 121 = some .slice := by kernel_rfl
theorem tp121 : tyPlaces Try.prog 121 = none := by kernel_rfl
theorem tu121 : Try.prog.underlying 121 = some (.slice 5) := by kernel_rfl
theorem ts123 : tySize Try.prog 123 = some 2 := by kernel_rfl
theorem tb123 : tyBytes Try.prog 123 = some 32 := by kernel_rfl
theorem tg123 : tyAgg Try.prog 123 = some true := by kernel_rfl
theorem tz123 : tyZero Try.prog 123 = some (.agg [.lit (.pointer none), .lit (.slice none 0 0)]) := by kernel_rfl
theorem ta123 : tyArray Try.prog 123 = none := by kernel_rfl
theorem tl123 : tySlice Try.prog 123 = none := by kernel_rfl
theorem ti123 : tyInt Try.prog 123 = none := by kernel_rfl
theorem tt123 : tyString Try.prog 123 = false := by kernel_rfl
theorem tq123 : tyBool Try.prog 123 = false := by kernel_rfl
theorem tn123 : tyNil Try.prog 123 = none := by kernel_rfl
theorem tf123_0 : tyField Try.prog 123 0 = some (0, 120) := by kernel_rfl
theorem tf123_1 : tyField Try.prog 123 1 = some (1, 121) := by kernel_rfl
theorem tp123 : tyPlaces Try.prog 123 = some [(0, 1), (1, 1)] := by kernel_rfl
theorem ts133 : tySize Try.prog 133 = some 1 := by kernel_rfl
theorem tb133 : tyBytes Try.prog 133 = some 8 := by kernel_rfl
theorem tg133 : tyAgg Try.prog 133 = some false := by kernel_rfl
theorem tz133 : tyZero Try.prog 133 = some (.lit (.nilFunc)) := by kernel_rfl
theorem ta133 : tyArray Try.prog 133 = none := by kernel_rfl
theorem tl133 : tySlice Try.prog 133 = none := by kernel_rfl
theorem ti133 : tyInt Try.prog 133 = none := by kernel_rfl
theorem tt133 : tyString Try.prog 133 = false := by kernel_rfl
theorem tq133 : tyBool Try.prog 133 = false := by kernel_rfl
theorem tn133 : tyNil Try.prog 133 = some .func := by kernel_rfl
theorem tp133 : tyPlaces Try.prog 133 = none := by kernel_rfl
theorem ts137 : tySize Try.prog 137 = some 1 := by kernel_rfl
theorem tb137 : tyBytes Try.prog 137 = some 8 := by kernel_rfl
theorem tg137 : tyAgg Try.prog 137 = some false := by kernel_rfl
theorem tz137 : tyZero Try.prog 137 = some (.lit (.pointer none)) := by kernel_rfl
theorem ta137 : tyArray Try.prog 137 = none := by kernel_rfl
theorem tl137 : tySlice Try.prog 137 = none := by kernel_rfl
theorem ti137 : tyInt Try.prog 137 = none := by kernel_rfl
theorem tt137 : tyString Try.prog 137 = false := by kernel_rfl
theorem tq137 : tyBool Try.prog 137 = false := by kernel_rfl
theorem tn137 : tyNil Try.prog 137 = some .ptr := by kernel_rfl
theorem tp137 : tyPlaces Try.prog 137 = none := by kernel_rfl
theorem tu137 : Try.prog.underlying 137 = some (.pointer 141) := by kernel_rfl
theorem ts139 : tySize Try.prog 139 = some 1 := by kernel_rfl
theorem tb139 : tyBytes Try.prog 139 = some 16 := by kernel_rfl
theorem tg139 : tyAgg Try.prog 139 = some true := by kernel_rfl
theorem tz139 : tyZero Try.prog 139 = some (.agg [.lit (.string { data := #[] })]) := by kernel_rfl
theorem ta139 : tyArray Try.prog 139 = none := by kernel_rfl
theorem tl139 : tySlice Try.prog 139 = none := by kernel_rfl
theorem ti139 : tyInt Try.prog 139 = none := by kernel_rfl
theorem tt139 : tyString Try.prog 139 = false := by kernel_rfl
theorem tq139 : tyBool Try.prog 139 = false := by kernel_rfl
theorem tn139 : tyNil Try.prog 139 = none := by kernel_rfl
theorem tf139_0 : tyField Try.prog 139 0 = some (0, 9) := by kernel_rfl
theorem tp139 : tyPlaces Try.prog 139 = some [(0, 1)] := by kernel_rfl
theorem tv139 : leaves Try.prog 20 139 = some [.str] := by kernel_rfl
theorem te139 : Try.prog.eqGuardType Try.prog.depth 139 = false := by kernel_rfl
theorem ts141 : tySize Try.prog 141 = some 2 := by kernel_rfl
theorem tb141 : tyBytes Try.prog 141 = some 24 := by kernel_rfl
theorem tg141 : tyAgg Try.prog 141 = some true := by kernel_rfl
theorem tz141 : tyZero Try.prog 141 = some (.agg [.lit (.string { data := #[] }), .lit (.bool false)]) := by kernel_rfl
theorem ta141 : tyArray Try.prog 141 = none := by kernel_rfl
theorem tl141 : tySlice Try.prog 141 = none := by kernel_rfl
theorem ti141 : tyInt Try.prog 141 = none := by kernel_rfl
theorem tt141 : tyString Try.prog 141 = false := by kernel_rfl
theorem tq141 : tyBool Try.prog 141 = false := by kernel_rfl
theorem tn141 : tyNil Try.prog 141 = none := by kernel_rfl
theorem tf141_0 : tyField Try.prog 141 0 = some (0, 139) := by kernel_rfl
theorem tf141_1 : tyField Try.prog 141 1 = some (1, 4) := by kernel_rfl
theorem tp141 : tyPlaces Try.prog 141 = some [(0, 1), (1, 1)] := by kernel_rfl
theorem tv141 : leaves Try.prog 20 141 = some [.str, .bool] := by kernel_rfl
theorem te141 : Try.prog.eqGuardType Try.prog.depth 141 = false := by kernel_rfl
theorem ts144 : tySize Try.prog 144 = some 1 := by kernel_rfl
theorem tb144 : tyBytes Try.prog 144 = some 8 := by kernel_rfl
theorem tg144 : tyAgg Try.prog 144 = some false := by kernel_rfl
theorem tz144 : tyZero Try.prog 144 = some (.lit (.int .u64 0)) := by kernel_rfl
theorem ta144 : tyArray Try.prog 144 = none := by kernel_rfl
theorem tl144 : tySlice Try.prog 144 = none := by kernel_rfl
theorem ti144 : tyInt Try.prog 144 = some .u64 := by kernel_rfl
theorem tt144 : tyString Try.prog 144 = false := by kernel_rfl
theorem tq144 : tyBool Try.prog 144 = false := by kernel_rfl
theorem tn144 : tyNil Try.prog 144 = none := by kernel_rfl
theorem tp144 : tyPlaces Try.prog 144 = none := by kernel_rfl
theorem tu144 : Try.prog.underlying 144 = some (.int .u64) := by kernel_rfl
theorem ts151 : tySize Try.prog 151 = some 1 := by kernel_rfl
theorem tb151 : tyBytes Try.prog 151 = some 8 := by kernel_rfl
theorem tg151 : tyAgg Try.prog 151 = some false := by kernel_rfl
theorem tz151 : tyZero Try.prog 151 = some (.lit (.nilFunc)) := by kernel_rfl
theorem ta151 : tyArray Try.prog 151 = none := by kernel_rfl
theorem tl151 : tySlice Try.prog 151 = none := by kernel_rfl
theorem ti151 : tyInt Try.prog 151 = none := by kernel_rfl
theorem tt151 : tyString Try.prog 151 = false := by kernel_rfl
theorem tq151 : tyBool Try.prog 151 = false := by kernel_rfl
theorem tn151 : tyNil Try.prog 151 = some .func := by kernel_rfl
theorem tp151 : tyPlaces Try.prog 151 = none := by kernel_rfl
theorem ts161 : tySize Try.prog 161 = some 1 := by kernel_rfl
theorem tb161 : tyBytes Try.prog 161 = some 8 := by kernel_rfl
theorem tg161 : tyAgg Try.prog 161 = some false := by kernel_rfl
theorem tz161 : tyZero Try.prog 161 = some (.lit (.nilFunc)) := by kernel_rfl
theorem ta161 : tyArray Try.prog 161 = none := by kernel_rfl
theorem tl161 : tySlice Try.prog 161 = none := by kernel_rfl
theorem ti161 : tyInt Try.prog 161 = none := by kernel_rfl
theorem tt161 : tyString Try.prog 161 = false := by kernel_rfl
theorem tq161 : tyBool Try.prog 161 = false := by kernel_rfl
theorem tn161 : tyNil Try.prog 161 = some .func := by kernel_rfl
theorem tp161 : tyPlaces Try.prog 161 = none := by kernel_rfl
theorem ts164 : tySize Try.prog 164 = some 4 := by kernel_rfl
theorem tb164 : tyBytes Try.prog 164 = some 4 := by kernel_rfl
theorem tg164 : tyAgg Try.prog 164 = some true := by kernel_rfl
theorem tz164 : tyZero Try.prog 164 = some (.agg [.lit (.int .u8 0), .lit (.int .u8 0), .lit (.int .u8 0), .lit (.int .u8 0)]) := by kernel_rfl
theorem ta164 : tyArray Try.prog 164 = some (4, 5) := by kernel_rfl
theorem tl164 : tySlice Try.prog 164 = none := by kernel_rfl
theorem ti164 : tyInt Try.prog 164 = none := by kernel_rfl
theorem tt164 : tyString Try.prog 164 = false := by kernel_rfl
theorem tq164 : tyBool Try.prog 164 = false := by kernel_rfl
theorem tn164 : tyNil Try.prog 164 = none := by kernel_rfl
theorem tp164 : tyPlaces Try.prog 164 = none := by kernel_rfl
theorem tu164 : Try.prog.underlying 164 = some (.array 4 5) := by kernel_rfl
theorem ts166 : tySize Try.prog 166 = some 1 := by kernel_rfl
theorem tb166 : tyBytes Try.prog 166 = some 8 := by kernel_rfl
theorem tg166 : tyAgg Try.prog 166 = some false := by kernel_rfl
theorem tz166 : tyZero Try.prog 166 = some (.lit (.pointer none)) := by kernel_rfl
theorem ta166 : tyArray Try.prog 166 = none := by kernel_rfl
theorem tl166 : tySlice Try.prog 166 = none := by kernel_rfl
theorem ti166 : tyInt Try.prog 166 = none := by kernel_rfl
theorem tt166 : tyString Try.prog 166 = false := by kernel_rfl
theorem tq166 : tyBool Try.prog 166 = false := by kernel_rfl
theorem tn166 : tyNil Try.prog 166 = some .ptr := by kernel_rfl
theorem tp166 : tyPlaces Try.prog 166 = none := by kernel_rfl
theorem tu166 : Try.prog.underlying 166 = some (.pointer 5) := by kernel_rfl
theorem ts170 : tySize Try.prog 170 = some 16 := by kernel_rfl
theorem tb170 : tyBytes Try.prog 170 = some 64 := by kernel_rfl
theorem tg170 : tyAgg Try.prog 170 = some true := by kernel_rfl
theorem tz170 : tyZero Try.prog 170 = some (.agg [.lit (.int .u32 0), .lit (.int .u32 0), .lit (.int .u32 0), .lit (.int .u32 0), .lit (.int .u32 0), .lit (.int .u32 0), .lit (.int .u32 0), .lit (.int .u32 0), .lit (.int .u32 0), .lit (.int .u32 0), .lit (.int .u32 0), .lit (.int .u32 0), .lit (.int .u32 0), .lit (.int .u32 0), .lit (.int .u32 0), .lit (.int .u32 0)]) := by kernel_rfl
theorem ta170 : tyArray Try.prog 170 = some (16, 50) := by kernel_rfl
theorem tl170 : tySlice Try.prog 170 = none := by kernel_rfl
theorem ti170 : tyInt Try.prog 170 = none := by kernel_rfl
theorem tt170 : tyString Try.prog 170 = false := by kernel_rfl
theorem tq170 : tyBool Try.prog 170 = false := by kernel_rfl
theorem tn170 : tyNil Try.prog 170 = none := by kernel_rfl
theorem tp170 : tyPlaces Try.prog 170 = none := by kernel_rfl
theorem tu170 : Try.prog.underlying 170 = some (.array 16 50) := by kernel_rfl
theorem ts173 : tySize Try.prog 173 = some 8 := by kernel_rfl
theorem tb173 : tyBytes Try.prog 173 = some 8 := by kernel_rfl
theorem tg173 : tyAgg Try.prog 173 = some true := by kernel_rfl
theorem tz173 : tyZero Try.prog 173 = some (.agg [.lit (.int .u8 0), .lit (.int .u8 0), .lit (.int .u8 0), .lit (.int .u8 0), .lit (.int .u8 0), .lit (.int .u8 0), .lit (.int .u8 0), .lit (.int .u8 0)]) := by kernel_rfl
theorem ta173 : tyArray Try.prog 173 = some (8, 5) := by kernel_rfl
theorem tl173 : tySlice Try.prog 173 = none := by kernel_rfl
theorem ti173 : tyInt Try.prog 173 = none := by kernel_rfl
theorem tt173 : tyString Try.prog 173 = false := by kernel_rfl
theorem tq173 : tyBool Try.prog 173 = false := by kernel_rfl
theorem tn173 : tyNil Try.prog 173 = none := by kernel_rfl
theorem tp173 : tyPlaces Try.prog 173 = none := by kernel_rfl
theorem tu173 : Try.prog.underlying 173 = some (.array 8 5) := by kernel_rfl
theorem ts174 : tySize Try.prog 174 = some 1 := by kernel_rfl
theorem tb174 : tyBytes Try.prog 174 = some 24 := by kernel_rfl
theorem tg174 : tyAgg Try.prog 174 = some false := by kernel_rfl
theorem tz174 : tyZero Try.prog 174 = some (.lit (.slice none 0 0)) := by kernel_rfl
theorem ta174 : tyArray Try.prog 174 = none := by kernel_rfl
theorem tl174 : tySlice Try.prog 174 = some 33 := by kernel_rfl
theorem ti174 : tyInt Try.prog 174 = none := by kernel_rfl
theorem tt174 : tyString Try.prog 174 = false := by kernel_rfl
theorem tq174 : tyBool Try.prog 174 = false := by kernel_rfl
theorem tn174 : tyNil Try.prog 174 = some .slice := by kernel_rfl
theorem tp174 : tyPlaces Try.prog 174 = none := by kernel_rfl
theorem tu174 : Try.prog.underlying 174 = some (.slice 33) := by kernel_rfl
theorem ts187 : tySize Try.prog 187 = some 1 := by kernel_rfl
theorem tb187 : tyBytes Try.prog 187 = some 8 := by kernel_rfl
theorem tg187 : tyAgg Try.prog 187 = some false := by kernel_rfl
theorem tz187 : tyZero Try.prog 187 = some (.lit (.int .u64 0)) := by kernel_rfl
theorem ta187 : tyArray Try.prog 187 = none := by kernel_rfl
theorem tl187 : tySlice Try.prog 187 = none := by kernel_rfl
theorem ti187 : tyInt Try.prog 187 = some .u64 := by kernel_rfl
theorem tt187 : tyString Try.prog 187 = false := by kernel_rfl
theorem tq187 : tyBool Try.prog 187 = false := by kernel_rfl
theorem tn187 : tyNil Try.prog 187 = none := by kernel_rfl
theorem tp187 : tyPlaces Try.prog 187 = none := by kernel_rfl
theorem tu187 : Try.prog.underlying 187 = some (.int .u64) := by kernel_rfl
theorem ts189 : tySize Try.prog 189 = some 1 := by kernel_rfl
theorem tb189 : tyBytes Try.prog 189 = some 8 := by kernel_rfl
theorem tg189 : tyAgg Try.prog 189 = some false := by kernel_rfl
theorem tz189 : tyZero Try.prog 189 = some (.lit (.pointer none)) := by kernel_rfl
theorem ta189 : tyArray Try.prog 189 = none := by kernel_rfl
theorem tl189 : tySlice Try.prog 189 = none := by kernel_rfl
theorem ti189 : tyInt Try.prog 189 = none := by kernel_rfl
theorem tt189 : tyString Try.prog 189 = false := by kernel_rfl
theorem tq189 : tyBool Try.prog 189 = false := by kernel_rfl
theorem tn189 : tyNil Try.prog 189 = none := by kernel_rfl
theorem tp189 : tyPlaces Try.prog 189 = none := by kernel_rfl
theorem ts196 : tySize Try.prog 196 = some 1 := by kernel_rfl
theorem tb196 : tyBytes Try.prog 196 = some 8 := by kernel_rfl
theorem tg196 : tyAgg Try.prog 196 = some false := by kernel_rfl
theorem tz196 : tyZero Try.prog 196 = some (.lit (.int .u64 0)) := by kernel_rfl
theorem ta196 : tyArray Try.prog 196 = none := by kernel_rfl
theorem tl196 : tySlice Try.prog 196 = none := by kernel_rfl
theorem ti196 : tyInt Try.prog 196 = some .u64 := by kernel_rfl
theorem tt196 : tyString Try.prog 196 = false := by kernel_rfl
theorem tq196 : tyBool Try.prog 196 = false := by kernel_rfl
theorem tn196 : tyNil Try.prog 196 = none := by kernel_rfl
theorem tp196 : tyPlaces Try.prog 196 = none := by kernel_rfl
theorem tu196 : Try.prog.underlying 196 = some (.int .u64) := by kernel_rfl
theorem ts200 : tySize Try.prog 200 = some 1 := by kernel_rfl
theorem tb200 : tyBytes Try.prog 200 = some 8 := by kernel_rfl
theorem tg200 : tyAgg Try.prog 200 = some false := by kernel_rfl
theorem tz200 : tyZero Try.prog 200 = some (.lit (.pointer none)) := by kernel_rfl
theorem ta200 : tyArray Try.prog 200 = none := by kernel_rfl
theorem tl200 : tySlice Try.prog 200 = none := by kernel_rfl
theorem ti200 : tyInt Try.prog 200 = none := by kernel_rfl
theorem tt200 : tyString Try.prog 200 = false := by kernel_rfl
theorem tq200 : tyBool Try.prog 200 = false := by kernel_rfl
theorem tn200 : tyNil Try.prog 200 = some .ptr := by kernel_rfl
theorem tp200 : tyPlaces Try.prog 200 = none := by kernel_rfl
theorem tu200 : Try.prog.underlying 200 = some (.pointer 3) := by kernel_rfl
theorem tw22 : zeroFits Try.prog 22 := zeroFits_of (by kernel_rfl)
theorem tw29 : zeroFits Try.prog 29 := zeroFits_of (by kernel_rfl)
theorem tw33 : zeroFits Try.prog 33 := zeroFits_of (by kernel_rfl)
theorem tw42 : zeroFits Try.prog 42 := zeroFits_of (by kernel_rfl)
theorem tw66 : zeroFits Try.prog 66 := zeroFits_of (by kernel_rfl)
theorem tw78 : zeroFits Try.prog 78 := zeroFits_of (by kernel_rfl)
theorem tw121 : zeroFits Try.prog 121 := zeroFits_of (by kernel_rfl)
theorem tw174 : zeroFits Try.prog 174 := zeroFits_of (by kernel_rfl)
theorem tr2 : Try.f2.results.toList = [] := by kernel_rfl
theorem tr3 : Try.f3.results.toList = [ResultVar.tmp 2] := by kernel_rfl
theorem tr4 : Try.f4.results.toList = [ResultVar.tmp 4] := by kernel_rfl
theorem tr5 : Try.f5.results.toList = [ResultVar.tmp 2] := by kernel_rfl
theorem tr6 : Try.f6.results.toList = [ResultVar.tmp 2] := by kernel_rfl
theorem tr7 : Try.f7.results.toList = [ResultVar.tmp 0] := by kernel_rfl
theorem tr8 : Try.f8.results.toList = [ResultVar.tmp 2, ResultVar.tmp 3] := by kernel_rfl
theorem tr9 : Try.f9.results.toList = [] := by kernel_rfl
theorem tr10 : Try.f10.results.toList = [ResultVar.tmp 4] := by kernel_rfl
theorem tr11 : Try.f11.results.toList = [] := by kernel_rfl
theorem tr12 : Try.f12.results.toList = [ResultVar.cell 2 31, ResultVar.tmp 3, ResultVar.tmp 4] := by kernel_rfl
theorem tr13 : Try.f13.results.toList = [ResultVar.tmp 4] := by kernel_rfl
theorem tr14 : Try.f14.results.toList = [ResultVar.tmp 2] := by kernel_rfl
theorem tr15 : Try.f15.results.toList = [ResultVar.tmp 4] := by kernel_rfl
theorem tr16 : Try.f16.results.toList = [ResultVar.tmp 0] := by kernel_rfl
theorem tr17 : Try.f17.results.toList = [ResultVar.tmp 2] := by kernel_rfl
theorem tr18 : Try.f18.results.toList = [ResultVar.tmp 8, ResultVar.tmp 9] := by kernel_rfl
theorem tr19 : Try.f19.results.toList = [ResultVar.tmp 4] := by kernel_rfl
theorem tr20 : Try.f20.results.toList = [ResultVar.cell 2 52, ResultVar.tmp 3] := by kernel_rfl
theorem tr21 : Try.f21.results.toList = [ResultVar.tmp 4, ResultVar.tmp 5] := by kernel_rfl
theorem tr22 : Try.f22.results.toList = [ResultVar.tmp 4, ResultVar.tmp 5] := by kernel_rfl
theorem tr23 : Try.f23.results.toList = [ResultVar.tmp 8, ResultVar.tmp 9] := by kernel_rfl
theorem tr24 : Try.f24.results.toList = [ResultVar.cell 2 52] := by kernel_rfl
theorem tr25 : Try.f25.results.toList = [ResultVar.tmp 2] := by kernel_rfl
theorem tr26 : Try.f26.results.toList = [ResultVar.tmp 2] := by kernel_rfl
theorem tr27 : Try.f27.results.toList = [ResultVar.tmp 2] := by kernel_rfl
theorem tr28 : Try.f28.results.toList = [ResultVar.tmp 2] := by kernel_rfl
theorem tr29 : Try.f29.results.toList = [ResultVar.tmp 0] := by kernel_rfl
theorem tr30 : Try.f30.results.toList = [ResultVar.tmp 2] := by kernel_rfl
theorem tr31 : Try.f31.results.toList = [ResultVar.tmp 4] := by kernel_rfl
theorem tr32 : Try.f32.results.toList = [ResultVar.tmp 2] := by kernel_rfl
theorem tr33 : Try.f33.results.toList = [ResultVar.tmp 2] := by kernel_rfl
theorem tr34 : Try.f34.results.toList = [ResultVar.tmp 2] := by kernel_rfl
theorem tr35 : Try.f35.results.toList = [ResultVar.tmp 2, ResultVar.tmp 3] := by kernel_rfl
theorem tr36 : Try.f36.results.toList = [ResultVar.tmp 1] := by kernel_rfl
theorem tr37 : Try.f37.results.toList = [ResultVar.tmp 2] := by kernel_rfl
theorem tr38 : Try.f38.results.toList = [ResultVar.tmp 1] := by kernel_rfl
theorem tr39 : Try.f39.results.toList = [ResultVar.tmp 4] := by kernel_rfl
theorem tr40 : Try.f40.results.toList = [ResultVar.tmp 2] := by kernel_rfl
theorem tr41 : Try.f41.results.toList = [ResultVar.tmp 6] := by kernel_rfl
theorem tr42 : Try.f42.results.toList = [ResultVar.tmp 1] := by kernel_rfl
theorem tr43 : Try.f43.results.toList = [ResultVar.tmp 4] := by kernel_rfl
theorem tr44 : Try.f44.results.toList = [ResultVar.tmp 1] := by kernel_rfl
theorem tr45 : Try.f45.results.toList = [ResultVar.tmp 6] := by kernel_rfl
theorem tr46 : Try.f46.results.toList = [ResultVar.tmp 2] := by kernel_rfl
theorem tr47 : Try.f47.results.toList = [ResultVar.cell 2 31, ResultVar.tmp 3] := by kernel_rfl
theorem tr48 : Try.f48.results.toList = [ResultVar.tmp 2] := by kernel_rfl
theorem tr49 : Try.f49.results.toList = [] := by kernel_rfl
theorem tr50 : Try.f50.results.toList = [ResultVar.tmp 4] := by kernel_rfl
theorem tr51 : Try.f51.results.toList = [ResultVar.tmp 2, ResultVar.tmp 3] := by kernel_rfl
theorem tr52 : Try.f52.results.toList = [ResultVar.tmp 4] := by kernel_rfl
theorem tr53 : Try.f53.results.toList = [ResultVar.tmp 4] := by kernel_rfl
theorem tr54 : Try.f54.results.toList = [ResultVar.tmp 2] := by kernel_rfl
theorem tr55 : Try.f55.results.toList = [ResultVar.tmp 2] := by kernel_rfl
theorem tr56 : Try.f56.results.toList = [ResultVar.tmp 4] := by kernel_rfl
theorem tr57 : Try.f57.results.toList = [ResultVar.tmp 2] := by kernel_rfl
theorem tr58 : Try.f58.results.toList = [ResultVar.tmp 2, ResultVar.tmp 3] := by kernel_rfl
theorem tr59 : Try.f59.results.toList = [ResultVar.tmp 4] := by kernel_rfl
theorem tr60 : Try.f60.results.toList = [ResultVar.tmp 2] := by kernel_rfl
theorem tr61 : Try.f61.results.toList = [ResultVar.tmp 2] := by kernel_rfl
theorem tr62 : Try.f62.results.toList = [ResultVar.tmp 2, ResultVar.tmp 3] := by kernel_rfl
theorem tr63 : Try.f63.results.toList = [ResultVar.tmp 4] := by kernel_rfl
theorem tr64 : Try.f64.results.toList = [ResultVar.tmp 4, ResultVar.tmp 5] := by kernel_rfl
theorem tr65 : Try.f65.results.toList = [ResultVar.tmp 2, ResultVar.tmp 3] := by kernel_rfl
theorem tr66 : Try.f66.results.toList = [ResultVar.cell 6 81, ResultVar.tmp 7] := by kernel_rfl
theorem tr67 : Try.f67.results.toList = [ResultVar.tmp 4] := by kernel_rfl
theorem tr68 : Try.f68.results.toList = [ResultVar.tmp 2] := by kernel_rfl
theorem tr69 : Try.f69.results.toList = [ResultVar.cell 2 104] := by kernel_rfl
theorem tr70 : Try.f70.results.toList = [ResultVar.tmp 2] := by kernel_rfl
theorem tr71 : Try.f71.results.toList = [ResultVar.tmp 2] := by kernel_rfl
theorem tr72 : Try.f72.results.toList = [ResultVar.tmp 2] := by kernel_rfl
theorem tr73 : Try.f73.results.toList = [] := by kernel_rfl
theorem tr74 : Try.f74.results.toList = [ResultVar.tmp 4] := by kernel_rfl
theorem tr75 : Try.f75.results.toList = [ResultVar.tmp 2] := by kernel_rfl
theorem tr76 : Try.f76.results.toList = [ResultVar.tmp 4] := by kernel_rfl
theorem tr77 : Try.f77.results.toList = [ResultVar.tmp 2] := by kernel_rfl
theorem tr78 : Try.f78.results.toList = [ResultVar.tmp 4] := by kernel_rfl
theorem tr79 : Try.f79.results.toList = [ResultVar.tmp 2, ResultVar.tmp 3] := by kernel_rfl
theorem tr80 : Try.f80.results.toList = [ResultVar.tmp 4] := by kernel_rfl
theorem tr81 : Try.f81.results.toList = [ResultVar.cell 2 69, ResultVar.tmp 3] := by kernel_rfl
theorem tr82 : Try.f82.results.toList = [ResultVar.tmp 2] := by kernel_rfl
theorem tr83 : Try.f83.results.toList = [ResultVar.tmp 4, ResultVar.tmp 5] := by kernel_rfl
theorem tr84 : Try.f84.results.toList = [] := by kernel_rfl
theorem tr85 : Try.f85.results.toList = [ResultVar.tmp 2] := by kernel_rfl
theorem tr86 : Try.f86.results.toList = [ResultVar.tmp 2] := by kernel_rfl
theorem tr87 : Try.f87.results.toList = [ResultVar.tmp 4] := by kernel_rfl
theorem tr88 : Try.f88.results.toList = [ResultVar.tmp 2] := by kernel_rfl
theorem tr89 : Try.f89.results.toList = [] := by kernel_rfl
theorem tr90 : Try.f90.results.toList = [ResultVar.tmp 2] := by kernel_rfl
theorem tr91 : Try.f91.results.toList = [ResultVar.tmp 2] := by kernel_rfl
theorem tr92 : Try.f92.results.toList = [ResultVar.tmp 2, ResultVar.tmp 3] := by kernel_rfl
theorem tr93 : Try.f93.results.toList = [ResultVar.tmp 4] := by kernel_rfl
theorem tr94 : Try.f94.results.toList = [ResultVar.tmp 4] := by kernel_rfl
theorem tr95 : Try.f95.results.toList = [ResultVar.cell 2 85] := by kernel_rfl
theorem tr96 : Try.f96.results.toList = [] := by kernel_rfl
theorem tr97 : Try.f97.results.toList = [ResultVar.tmp 2] := by kernel_rfl
theorem tr98 : Try.f98.results.toList = [ResultVar.tmp 2] := by kernel_rfl
theorem tr99 : Try.f99.results.toList = [ResultVar.tmp 2] := by kernel_rfl
theorem tr100 : Try.f100.results.toList = [ResultVar.tmp 4, ResultVar.tmp 5] := by kernel_rfl
theorem tr101 : Try.f101.results.toList = [ResultVar.tmp 4, ResultVar.tmp 5] := by kernel_rfl
theorem tr102 : Try.f102.results.toList = [ResultVar.tmp 2] := by kernel_rfl
theorem tr103 : Try.f103.results.toList = [ResultVar.tmp 4] := by kernel_rfl
theorem tr104 : Try.f104.results.toList = [ResultVar.tmp 4] := by kernel_rfl
theorem tr105 : Try.f105.results.toList = [ResultVar.tmp 2] := by kernel_rfl
theorem tr106 : Try.f106.results.toList = [ResultVar.tmp 2] := by kernel_rfl
theorem tr107 : Try.f107.results.toList = [ResultVar.tmp 4] := by kernel_rfl
theorem tr108 : Try.f108.results.toList = [ResultVar.tmp 4] := by kernel_rfl
theorem tr109 : Try.f109.results.toList = [] := by kernel_rfl
theorem tr110 : Try.f110.results.toList = [ResultVar.tmp 2] := by kernel_rfl
theorem tr111 : Try.f111.results.toList = [] := by kernel_rfl
theorem tr112 : Try.f112.results.toList = [ResultVar.tmp 2] := by kernel_rfl
theorem tr113 : Try.f113.results.toList = [ResultVar.tmp 2] := by kernel_rfl
theorem tr114 : Try.f114.results.toList = [ResultVar.tmp 2] := by kernel_rfl
theorem tr115 : Try.f115.results.toList = [ResultVar.tmp 4] := by kernel_rfl
theorem tr116 : Try.f116.results.toList = [ResultVar.tmp 4] := by kernel_rfl
theorem tr117 : Try.f117.results.toList = [ResultVar.tmp 6, ResultVar.tmp 7] := by kernel_rfl
theorem tr118 : Try.f118.results.toList = [ResultVar.tmp 2] := by kernel_rfl
theorem tr119 : Try.f119.results.toList = [ResultVar.tmp 4] := by kernel_rfl
theorem tr120 : Try.f120.results.toList = [ResultVar.tmp 2] := by kernel_rfl
theorem tr121 : Try.f121.results.toList = [] := by kernel_rfl
theorem tr122 : Try.f122.results.toList = [ResultVar.tmp 2] := by kernel_rfl
theorem tr123 : Try.f123.results.toList = [ResultVar.tmp 2] := by kernel_rfl
theorem tr124 : Try.f124.results.toList = [ResultVar.tmp 2] := by kernel_rfl
theorem tr125 : Try.f125.results.toList = [] := by kernel_rfl
theorem tr126 : Try.f126.results.toList = [] := by kernel_rfl
theorem tr127 : Try.f127.results.toList = [ResultVar.tmp 4] := by kernel_rfl
theorem tr128 : Try.f128.results.toList = [ResultVar.tmp 4, ResultVar.tmp 5] := by kernel_rfl
theorem tr129 : Try.f129.results.toList = [ResultVar.tmp 6, ResultVar.tmp 7] := by kernel_rfl
theorem tr130 : Try.f130.results.toList = [ResultVar.tmp 4] := by kernel_rfl
theorem tr131 : Try.f131.results.toList = [ResultVar.tmp 3] := by kernel_rfl
theorem tr132 : Try.f132.results.toList = [ResultVar.tmp 2] := by kernel_rfl
theorem tr133 : Try.f133.results.toList = [ResultVar.tmp 4] := by kernel_rfl
theorem tr134 : Try.f134.results.toList = [ResultVar.tmp 4] := by kernel_rfl
theorem tr135 : Try.f135.results.toList = [ResultVar.tmp 2] := by kernel_rfl
theorem tr136 : Try.f136.results.toList = [ResultVar.tmp 4, ResultVar.tmp 5] := by kernel_rfl
theorem tr137 : Try.f137.results.toList = [] := by kernel_rfl
theorem tr138 : Try.f138.results.toList = [ResultVar.tmp 2] := by kernel_rfl
theorem tr139 : Try.f139.results.toList = [ResultVar.tmp 4] := by kernel_rfl
theorem tr140 : Try.f140.results.toList = [ResultVar.tmp 4] := by kernel_rfl
theorem tr141 : Try.f141.results.toList = [] := by kernel_rfl
theorem tr142 : Try.f142.results.toList = [] := by kernel_rfl
theorem tr143 : Try.f143.results.toList = [] := by kernel_rfl
theorem tr144 : Try.f144.results.toList = [ResultVar.tmp 8, ResultVar.tmp 9] := by kernel_rfl
theorem tr145 : Try.f145.results.toList = [] := by kernel_rfl
theorem tr146 : Try.f146.results.toList = [ResultVar.tmp 8] := by kernel_rfl
theorem tr147 : Try.f147.results.toList = [ResultVar.tmp 10] := by kernel_rfl
theorem tr148 : Try.f148.results.toList = [ResultVar.tmp 10, ResultVar.tmp 11] := by kernel_rfl
theorem tr149 : Try.f149.results.toList = [ResultVar.tmp 2] := by kernel_rfl
theorem tr150 : Try.f150.results.toList = [ResultVar.tmp 2] := by kernel_rfl
theorem tr151 : Try.f151.results.toList = [ResultVar.tmp 4] := by kernel_rfl
theorem tr152 : Try.f152.results.toList = [ResultVar.tmp 3] := by kernel_rfl
theorem tr154 : Try.f154.results.toList = [ResultVar.tmp 4] := by kernel_rfl
theorem tr155 : Try.f155.results.toList = [] := by kernel_rfl
theorem tr156 : Try.f156.results.toList = [ResultVar.tmp 4] := by kernel_rfl
theorem tr157 : Try.f157.results.toList = [] := by kernel_rfl
theorem tr158 : Try.f158.results.toList = [] := by kernel_rfl
theorem tr159 : Try.f159.results.toList = [] := by kernel_rfl
theorem tr160 : Try.f160.results.toList = [ResultVar.tmp 2] := by kernel_rfl
theorem tr161 : Try.f161.results.toList = [ResultVar.tmp 2] := by kernel_rfl
theorem tr162 : Try.f162.results.toList = [ResultVar.tmp 8] := by kernel_rfl
theorem tr163 : Try.f163.results.toList = [ResultVar.tmp 12] := by kernel_rfl
theorem tr164 : Try.f164.results.toList = [] := by kernel_rfl
theorem tr165 : Try.f165.results.toList = [] := by kernel_rfl
theorem tr166 : Try.f166.results.toList = [] := by kernel_rfl
theorem tr167 : Try.f167.results.toList = [ResultVar.tmp 6, ResultVar.tmp 7] := by kernel_rfl
theorem tr168 : Try.f168.results.toList = [] := by kernel_rfl
theorem tr169 : Try.f169.results.toList = [ResultVar.tmp 6] := by kernel_rfl
theorem tr170 : Try.f170.results.toList = [ResultVar.tmp 4] := by kernel_rfl
theorem tr171 : Try.f171.results.toList = [ResultVar.tmp 8] := by kernel_rfl
theorem tr172 : Try.f172.results.toList = [ResultVar.tmp 8, ResultVar.tmp 9] := by kernel_rfl
theorem tr173 : Try.f173.results.toList = [] := by kernel_rfl
theorem tr174 : Try.f174.results.toList = [] := by kernel_rfl
theorem tr175 : Try.f175.results.toList = [] := by kernel_rfl
theorem tr176 : Try.f176.results.toList = [] := by kernel_rfl
theorem tr177 : Try.f177.results.toList = [ResultVar.tmp 6, ResultVar.tmp 7] := by kernel_rfl
theorem tr178 : Try.f178.results.toList = [] := by kernel_rfl
theorem tr179 : Try.f179.results.toList = [ResultVar.tmp 6] := by kernel_rfl
theorem tr180 : Try.f180.results.toList = [ResultVar.tmp 4] := by kernel_rfl
theorem tr181 : Try.f181.results.toList = [ResultVar.tmp 8] := by kernel_rfl
theorem tr182 : Try.f182.results.toList = [ResultVar.tmp 8, ResultVar.tmp 9] := by kernel_rfl
theorem tr183 : Try.f183.results.toList = [ResultVar.tmp 10, ResultVar.tmp 11] := by kernel_rfl
theorem tr184 : Try.f184.results.toList = [] := by kernel_rfl
theorem tr185 : Try.f185.results.toList = [ResultVar.tmp 6] := by kernel_rfl
theorem tr186 : Try.f186.results.toList = [ResultVar.tmp 10] := by kernel_rfl
theorem tr187 : Try.f187.results.toList = [ResultVar.tmp 2] := by kernel_rfl
theorem tr189 : Try.f189.results.toList = [] := by kernel_rfl
theorem tr190 : Try.f190.results.toList = [ResultVar.tmp 6] := by kernel_rfl
theorem tr191 : Try.f191.results.toList = [ResultVar.tmp 10] := by kernel_rfl
theorem tr192 : Try.f192.results.toList = [ResultVar.tmp 8, ResultVar.tmp 9] := by kernel_rfl
theorem tr193 : Try.f193.results.toList = [ResultVar.tmp 8, ResultVar.tmp 9] := by kernel_rfl
attribute [go_sem] ts3 tb3 tg3 tz3 ta3 tl3 ti3 tt3 tq3 tn3 tp3 tu3 ts4 tb4 tg4 tz4 ta4 tl4 ti4 tt4
attribute [go_sem] tq4 tn4 tp4 tu4 ts5 tb5 tg5 tz5 ta5 tl5 ti5 tt5 tq5 tn5 tp5 tu5 ts9 tb9 tg9 tz9
attribute [go_sem] ta9 tl9 ti9 tt9 tq9 tn9 tp9 tu9 ts21 tb21 tg21 tz21 ta21 tl21 ti21 tt21 tq21 tn21 tp21 tu21
attribute [go_sem] ts22 tb22 tg22 tz22 ta22 tl22 ti22 tt22 tq22 tn22 tp22 tu22 ts25 tb25 tg25 tz25 ta25 tl25 ti25 tt25
attribute [go_sem] tq25 tn25 tp25 tu25 ts26 tb26 tg26 tz26 ta26 tl26 ti26 tt26 tq26 tn26 tp26 tu26 ts29 tb29 tg29 tz29
attribute [go_sem] ta29 tl29 ti29 tt29 tq29 tn29 tp29 tu29 ts31 tb31 tg31 tz31 ta31 tl31 ti31 tt31 tq31 tn31 tf31_0 tf31_1
attribute [go_sem] tf31_2 tp31 ts33 tb33 tg33 tz33 ta33 tl33 ti33 tt33 tq33 tn33 tp33 tu33 ts35 tb35 tg35 tz35 ta35 tl35
attribute [go_sem] ti35 tt35 tq35 tn35 tf35_0 tf35_1 tf35_2 tp35 ts42 tb42 tg42 tz42 ta42 tl42 ti42 tt42 tq42 tn42 tp42 tu42
attribute [go_sem] ts44 tb44 tg44 tz44 ta44 tl44 ti44 tt44 tq44 tn44 tp44 tu44 ts46 tb46 tg46 tz46 ta46 tl46 ti46 tt46
attribute [go_sem] tq46 tn46 tp46 tu46 ts50 tb50 tg50 tz50 ta50 tl50 ti50 tt50 tq50 tn50 tp50 tu50 ts52 tb52 tg52 tz52
attribute [go_sem] ta52 tl52 ti52 tt52 tq52 tn52 tf52_0 tf52_1 tp52 tv52 te52 ts64 tb64 tg64 tz64 ta64 tl64 ti64 tt64 tq64
attribute [go_sem] tn64 tp64 tu64 ts66 tb66 tg66 tz66 ta66 tl66 ti66 tt66 tq66 tn66 tp66 tu66 ts69 tb69 tg69 tz69 ta69
attribute [go_sem] tl69 ti69 tt69 tq69 tn69 tf69_0 tf69_1 tp69 tv69 te69 ts71 tb71 tg71 tz71 ta71 tl71 ti71 tt71 tq71 tn71
attribute [go_sem] tp71 ts73 tb73 tg73 tz73 ta73 tl73 ti73 tt73 tq73 tn73 tf73_0 tf73_1 tf73_2 tf73_3 tf73_4 tf73_5 tf73_6 tp73 ts76
attribute [go_sem] tb76 tg76 tz76 ta76 tl76 ti76 tt76 tq76 tn76 tp76 ts78 tb78 tg78 tz78 ta78 tl78 ti78 tt78 tq78 tn78
attribute [go_sem] tp78 tu78 ts81 tb81 tg81 tz81 ta81 tl81 ti81 tt81 tq81 tn81 tf81_0 tf81_1 tp81 tv81 te81 ts85 tb85 tg85
attribute [go_sem] tz85 ta85 tl85 ti85 tt85 tq85 tn85 tf85_0 tf85_1 tf85_2 tf85_3 tp85 tv85 te85 ts86 tb86 tg86 tz86 ta86 tl86
attribute [go_sem] ti86 tt86 tq86 tn86 tp86 ts88 tb88 tg88 tz88 ta88 tl88 ti88 tt88 tq88 tn88 tf88_0 tf88_1 tp88 ts90 tb90
attribute [go_sem] tg90 tz90 ta90 tl90 ti90 tt90 tq90 tn90 tf90_0 tf90_1 tf90_2 tf90_3 tf90_4 tf90_5 tp90 ts93 tb93 tg93 tz93 ta93
attribute [go_sem] tl93 ti93 tt93 tq93 tn93 tf93_0 tf93_1 tf93_2 tf93_3 tp93 tv93 te93 ts104 tb104 tg104 tz104 ta104 tl104 ti104 tt104
attribute [go_sem] tq104 tn104 tf104_0 tf104_1 tp104 ts108 tb108 tg108 tz108 ta108 tl108 ti108 tt108 tq108 tn108 tp108 ts113 tb113 tg113 tz113
attribute [go_sem] ta113 tl113 ti113 tt113 tq113 tn113 tp113 ts120 tb120 tg120 tz120 ta120 tl120 ti120 tt120 tq120 tn120 tp120 tu120 ts121
attribute [go_sem] tb121 tg121 tz121 ta121 tl121 ti121 tt121 tq121 tn121 tp121 tu121 ts123 tb123 tg123 tz123 ta123 tl123 ti123 tt123 tq123
attribute [go_sem] tn123 tf123_0 tf123_1 tp123 ts133 tb133 tg133 tz133 ta133 tl133 ti133 tt133 tq133 tn133 tp133 ts137 tb137 tg137 tz137 ta137
attribute [go_sem] tl137 ti137 tt137 tq137 tn137 tp137 tu137 ts139 tb139 tg139 tz139 ta139 tl139 ti139 tt139 tq139 tn139 tf139_0 tp139 tv139
attribute [go_sem] te139 ts141 tb141 tg141 tz141 ta141 tl141 ti141 tt141 tq141 tn141 tf141_0 tf141_1 tp141 tv141 te141 ts144 tb144 tg144 tz144
attribute [go_sem] ta144 tl144 ti144 tt144 tq144 tn144 tp144 tu144 ts151 tb151 tg151 tz151 ta151 tl151 ti151 tt151 tq151 tn151 tp151 ts161
attribute [go_sem] tb161 tg161 tz161 ta161 tl161 ti161 tt161 tq161 tn161 tp161 ts164 tb164 tg164 tz164 ta164 tl164 ti164 tt164 tq164 tn164
attribute [go_sem] tp164 tu164 ts166 tb166 tg166 tz166 ta166 tl166 ti166 tt166 tq166 tn166 tp166 tu166 ts170 tb170 tg170 tz170 ta170 tl170
attribute [go_sem] ti170 tt170 tq170 tn170 tp170 tu170 ts173 tb173 tg173 tz173 ta173 tl173 ti173 tt173 tq173 tn173 tp173 tu173 ts174 tb174
attribute [go_sem] tg174 tz174 ta174 tl174 ti174 tt174 tq174 tn174 tp174 tu174 ts187 tb187 tg187 tz187 ta187 tl187 ti187 tt187 tq187 tn187
attribute [go_sem] tp187 tu187 ts189 tb189 tg189 tz189 ta189 tl189 ti189 tt189 tq189 tn189 tp189 ts196 tb196 tg196 tz196 ta196 tl196 ti196
attribute [go_sem] tt196 tq196 tn196 tp196 tu196 ts200 tb200 tg200 tz200 ta200 tl200 ti200 tt200 tq200 tn200 tp200 tu200 tw22 tw29 tw33
attribute [go_sem] tw42 tw66 tw78 tw121 tw174 tc6 tc7 tc8 tc9 tc10 tc11 tc12 tc13 tc14 tc15 tc16 tc17 tc18 tc19 tc20
attribute [go_sem] tc21 tc22 tc23 tc24 tc25 tc26 tc27 tc28 tc29 tc30 tc31 tc32 tc33 tc34 tc35 tc37 tc39 tc41 tc43 tc45
attribute [go_sem] tc46 tc47 tc48 tc49 tc50 tc51 tc52 tc53 tc54 tc55 tc56 tc57 tc58 tc59 tc62 tc63 tc64 tc65 tc66 tc67
attribute [go_sem] tc68 tc69 tc70 tc71 tc72 tc73 tc74 tc75 tc76 tc77 tc78 tc79 tc80 tc81 tc82 tc83 tc84 tc85 tc86 tc87
attribute [go_sem] tc88 tc89 tc90 tc91 tc92 tc93 tc94 tc95 tc96 tc97 tc98 tc99 tc100 tc101 tc102 tc103 tc104 tc105 tc106 tc107
attribute [go_sem] tc108 tc110 tc111 tc112 tc113 tc114 tc115 tc116 tc117 tc118 tc119 tc120 tc121 tc122 tc123 tc124 tc125 tc127 tc128 tc129
attribute [go_sem] tc130 tc132 tc133 tc134 tc135 tc136 tc137 tc138 tc139 tc140 tc141 tc142 tc143 tc144 tc145 tc146 tc147 tc148 tc149 tc150
attribute [go_sem] tc151 tc154 tc155 tc156 tc157 tc158 tc159 tc160 tc161 tc162 tc163 tc164 tc165 tc166 tc167 tc168 tc169 tc170 tc171 tc172
attribute [go_sem] tc173 tc174 tc175 tc176 tc177 tc178 tc179 tc180 tc181 tc182 tc183 tc184 tc185 tc186 tc187 tc189 tc190 tc191 tc192 tc193
attribute [go_sem] tr2 tr3 tr4 tr5 tr6 tr7 tr8 tr9 tr10 tr11 tr12 tr13 tr14 tr15 tr16 tr17 tr18 tr19 tr20 tr21
attribute [go_sem] tr22 tr23 tr24 tr25 tr26 tr27 tr28 tr29 tr30 tr31 tr32 tr33 tr34 tr35 tr36 tr37 tr38 tr39 tr40 tr41
attribute [go_sem] tr42 tr43 tr44 tr45 tr46 tr47 tr48 tr49 tr50 tr51 tr52 tr53 tr54 tr55 tr56 tr57 tr58 tr59 tr60 tr61
attribute [go_sem] tr62 tr63 tr64 tr65 tr66 tr67 tr68 tr69 tr70 tr71 tr72 tr73 tr74 tr75 tr76 tr77 tr78 tr79 tr80 tr81
attribute [go_sem] tr82 tr83 tr84 tr85 tr86 tr87 tr88 tr89 tr90 tr91 tr92 tr93 tr94 tr95 tr96 tr97 tr98 tr99 tr100 tr101
attribute [go_sem] tr102 tr103 tr104 tr105 tr106 tr107 tr108 tr109 tr110 tr111 tr112 tr113 tr114 tr115 tr116 tr117 tr118 tr119 tr120 tr121
attribute [go_sem] tr122 tr123 tr124 tr125 tr126 tr127 tr128 tr129 tr130 tr131 tr132 tr133 tr134 tr135 tr136 tr137 tr138 tr139 tr140 tr141
attribute [go_sem] tr142 tr143 tr144 tr145 tr146 tr147 tr148 tr149 tr150 tr151 tr152 tr154 tr155 tr156 tr157 tr158 tr159 tr160 tr161 tr162
attribute [go_sem] tr163 tr164 tr165 tr166 tr167 tr168 tr169 tr170 tr171 tr172 tr173 tr174 tr175 tr176 tr177 tr178 tr179 tr180 tr181 tr182
attribute [go_sem] tr183 tr184 tr185 tr186 tr187 tr189 tr190 tr191 tr192 tr193
end Go.Proofs.Yteclkehnppeobaa.AL
