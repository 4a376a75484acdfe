import Derived.Test.YtogaiomakhapmaaGreatG5
import Derived.Test.YtogaiomakhapmaaGreatG4
set_option linter.unusedVariables false
set_option linter.unusedSimpArgs false
namespace Go.Proofs.YtogaiomakhapmaaGreat.AL
set_option maxRecDepth 100000
open Go
open Go.Proofs.Tryz
noncomputable def Zg0:XE:={ T:=Zn [(3,r3),(4,r4),(9,r9),(52,r52)],C:=[],D:=[],Ms:=[(6,[])],Ml:=[(2,[0,1,5])],Mo:=[],n:=19}
theorem Echainmanref05_All_ok:XE.Ok Zg0 Tryz.prog:=⟨Zp (⟨Z0,⟨Z1,⟨Zz,⟨Zby,trivial⟩⟩⟩⟩),trivial,Zq,trivial⟩
noncomputable def ZqZ:Code:=ZP f115
noncomputable def Zhr (size0:Int) (l1:AVal) (h:Za):Option (AVal×Za):=Zt Zg0 f115 [(.lit (.int .i64 size0)),l1] h
noncomputable def Znz (size0:Int) (l1:AVal) (i5:Int) (h:Za):Option (AVal×Za):=Zl Zg0 (.loop (ca (ca (cb (ca (cb ZqZ)))))) (AVal×Za) [(0,(.lit (.int .i64 size0))),(1,l1),(5,(.lit (.int .i64 i5)))] h (ZW 0 (Zi Zg0 (cb (cb ZqZ)) (Zj Zg0 f115)))
noncomputable def ZwM (h:Za):Option (AVal×Za):=jn (Zl Zg0 (cb (cb ZqZ)) (AVal×Za) [] h (Zj Zg0 f115))
theorem Z72 (size0:Int) (l1:AVal) (h:Za):Zhr size0 l1 h =
 Znz size0 l1 0 h:=by kernel_rfl
theorem ZwN (size0:Int) (l1:AVal) (i5:Int) (h:Za):Znz size0 l1 i5 h =
 (Zbb l1).bind fun n1=>
 bif (decide (i5 < n1)) then ((Zbc 1 l1 i5).bind fun p2=>
 (ld1 h p2).bind fun x3=>
 (asS x3).bind fun s4=>
 bif (!decide ((s4.size:Int) = size0)) then (some ((.lit (.bool false)),h))
 else (Znz size0 l1 (IntKind.wrap .i64 (i5 + 1)) h))
 else (ZwM h):=(ZbO Zg0 Echainmanref05_All_ok.C.nat _ _ _ _ _).trans (by kernel_rfl)
theorem Z74 (h:Za):ZwM h =
 some ((.lit (.bool true)),h):=(ZF _).trans (by kernel_rfl)
theorem Z73 {size0:Int} {l1:AVal} {h h':Za} {v:AVal} {R:AEnd→Za→Prop} (hx:Zhr size0 l1 h = some (v,h')) (hR:HOk h→h.length≤h'.length→ABody.AEnds h h' (.ret v) R):ACalls Tryz.prog 115 [(.lit (.int .i64 size0)),l1] h R:=Zu Echainmanref05_All_ok Zo (i:=115) (by rfl) (by kernel_rfl) (by kernel_rfl) hx hR
noncomputable def ZlL:XC:=.q fun R args h K=>match args with
 | [.lit (.int .i64 a0),a1]=>(Zv (Zhr a0 a1 h) h).bind fun r=>K r
 |_=>none
theorem Ztk:XC.Nat ZlL∧XC.Ok Tryz.prog 115 ZlL:=by
 refine ⟨fun R args h K=>?_,tc115,fun args h v hx=>?_⟩
 ·dsimp only;split<;>simp[Option.bind_assoc,mkP]
 ·dsimp only at hx;split at hx
  ·obtain ⟨r,hopt,hx⟩:=Option.bind_eq_some_iff.1 hx
   cases hx
   exact (by have hopt:=Zc7 hopt;exact Z73 hopt selfR)
  ·cases hx
noncomputable def Zca:XE:={ T:=Zn [(3,r3),(4,r4),(5,r5),(9,r9),(52,r52),(119,ZeR)],C:=[(102,Zju),(115,ZlL)],D:=[],Ms:=[(8,[6])],Ml:=[(5,[1,6,7])],Mo:=[(1006,[0,1,13]),(1011,[0,1,18]),(1016,[0,1,23]),(1022,[1,29])],n:=49}
theorem Echainmanref05_Put_ok:XE.Ok Zca Tryz.prog:=⟨Zp (⟨Z0,⟨Z1,⟨ZdT,⟨Zz,⟨Zby,⟨Zft,trivial⟩⟩⟩⟩⟩⟩),(⟨Zp3,⟨Ztk,trivial⟩⟩),Zq,trivial⟩
noncomputable def c82:Code:=ZP f82
noncomputable def ZfG (size0:Int) (l1:AVal) (h:Za):Option (AVal×Za):=Zt Zca f82 [(.lit (.int .i64 size0)),l1] h
noncomputable def ZrV (size0:Int) (l1:AVal) (t13:Bool) (h:Za):Option (AVal×Za):=jo Zca 1 (Zk (ca (ca (cb c82)))) ((Zk (ca (ca (cb c82)))).toList.drop 6) 6 [(0,(.lit (.int .i64 size0))),(1,l1),(13,(.lit (.bool t13)))] h (kN (Zi Zca (cb (ca (cb c82))) (Zi Zca (cb (cb c82)) (Zj Zca f82))))
noncomputable def ZrU (size0:Int) (l1:AVal) (t18:Bool) (h:Za):Option (AVal×Za):=jo Zca 1 (Zk (ca (ca (cb c82)))) ((Zk (ca (ca (cb c82)))).toList.drop 11) 11 [(0,(.lit (.int .i64 size0))),(1,l1),(18,(.lit (.bool t18)))] h (kN (Zi Zca (cb (ca (cb c82))) (Zi Zca (cb (cb c82)) (Zj Zca f82))))
noncomputable def ZrT (size0:Int) (l1:AVal) (t23:Bool) (h:Za):Option (AVal×Za):=jo Zca 1 (Zk (ca (ca (cb c82)))) ((Zk (ca (ca (cb c82)))).toList.drop 16) 16 [(0,(.lit (.int .i64 size0))),(1,l1),(23,(.lit (.bool t23)))] h (kN (Zi Zca (cb (ca (cb c82))) (Zi Zca (cb (cb c82)) (Zj Zca f82))))
noncomputable def ZrS (l1:AVal) (t29:Bool) (h:Za):Option (AVal×Za):=jo Zca 1 (Zk (ca (ca (cb c82)))) ((Zk (ca (ca (cb c82)))).toList.drop 22) 22 [(1,l1),(29,(.lit (.bool t29)))] h (kN (Zi Zca (cb (ca (cb c82))) (Zi Zca (cb (cb c82)) (Zj Zca f82))))
noncomputable def Zny (l1:AVal) (s6:ByteArray) (i7:Int) (h:Za):Option (AVal×Za):=Zl Zca (.loop (ca (ca (cb (ca (cb (cb (cb c82)))))))) (AVal×Za) [(1,l1),(6,(.lit (.string s6))),(7,(.lit (.int .i64 i7)))] h (ZW 0 (Zi Zca (cb (cb (cb (cb c82)))) (Zj Zca f82)))
noncomputable def ZwK (s6:ByteArray) (h:Za):Option (AVal×Za):=jn (Zl Zca (cb (cb (cb (cb c82)))) (AVal×Za) [(6,(.lit (.string s6)))] h (Zj Zca f82))
theorem Z7s (size0:Int) (l1:AVal) (h:Za):ZfG size0 l1 h =
 bif (decide (size0 < 1)) then (ZrV size0 l1 true h)
 else (ZrV size0 l1 (decide (size0 > 64)) h):=by kernel_rfl
theorem Z7y (size0:Int) (l1:AVal) (t13:Bool) (h:Za):ZrV size0 l1 t13 h =
 bif t13 then (ZrU size0 l1 true h)
 else ((Zbb l1).bind fun n1=>
 ZrU size0 l1 (decide (n1 < 1)) h):=(ZV ..).trans (by kernel_rfl)
theorem Z7x (size0:Int) (l1:AVal) (t18:Bool) (h:Za):ZrU size0 l1 t18 h =
 bif t18 then (ZrT size0 l1 true h)
 else ((Zbb l1).bind fun n2=>
 ZrT size0 l1 (decide (n2 > 4)) h):=(ZV ..).trans (by kernel_rfl)
theorem Z7w (size0:Int) (l1:AVal) (t23:Bool) (h:Za):ZrT size0 l1 t23 h =
 bif t23 then (ZrS l1 true h)
 else ((Zv (Zhr size0 l1 h) h).bind fun r3=>
 (asB r3).bind fun b4=>
 ZrS l1 (!b4) h):=(ZV ..).trans (by kernel_rfl)
theorem Z7v (l1:AVal) (t29:Bool) (h:Za):ZrS l1 t29 h =
 bif t29 then (some ((.tup [(.lit (.string (⟨#[]⟩:ByteArray))),(.lit (.bool false))]),h))
 else ((Zbb l1).bind fun n5=>
 (ZbW 1 [(.lit (.int .u8 0))] 1 [(0,(.lit (.int .u8 (IntKind.wrap .u8 n5))))] h).bind fun r6=>
 (ZcA r6.2 r6.1).bind fun s7=>
 Zny l1 s7 0 r6.2):=(ZV ..).trans (by kernel_rfl)
theorem ZwL (l1:AVal) (s6:ByteArray) (i7:Int) (h:Za):Zny l1 s6 i7 h =
 (Zbb l1).bind fun n8=>
 bif (decide (i7 < n8)) then ((Zbc 1 l1 i7).bind fun p9=>
 (ld1 h p9).bind fun x10=>
 (asS x10).bind fun s11=>
 (req (s6.size + s11.size≤9223372036854775807)).bind fun u12=>
 Zny l1 (s6++s11) (IntKind.wrap .i64 (i7 + 1)) h)
 else (ZwK s6 h):=(ZbO Zca Echainmanref05_Put_ok.C.nat _ _ _ _ _).trans (by kernel_rfl)
theorem Z7u (s6:ByteArray) (h:Za):ZwK s6 h =
 (ZM (Zhw s6 h) h).bind fun r13=>
 (asS r13).bind fun s14=>
 some ((.tup [(.lit (.string s14)),(.lit (.bool true))]),h):=(ZF _).trans (by kernel_rfl)
theorem Z7t {size0:Int} {l1:AVal} {h h':Za} {v:AVal} {R:AEnd→Za→Prop} (hx:ZfG size0 l1 h = some (v,h')) (hR:HOk h→h.length≤h'.length→ABody.AEnds h h' (.ret v) R):ACalls Tryz.prog 82 [(.lit (.int .i64 size0)),l1] h R:=Zu Echainmanref05_Put_ok Zo (i:=82) (by rfl) (by kernel_rfl) (by kernel_rfl) hx hR
noncomputable def Zjq:XC:=.q fun R args h K=>match args with
 | [.lit (.int .i64 a0),a1]=>(ZM (ZfG a0 a1 h) h).bind fun r=>K r
 |_=>none
theorem Zpq:XC.Nat Zjq∧XC.Ok Tryz.prog 82 Zjq:=by
 refine ⟨fun R args h K=>?_,tc82,fun args h v hx=>?_⟩
 ·dsimp only;split<;>simp[Option.bind_assoc,mkP]
 ·dsimp only at hx;split at hx
  ·obtain ⟨r,hopt,hx⟩:=Option.bind_eq_some_iff.1 hx
   cases hx
   exact (by obtain ⟨h',hopt,hg,hc⟩:=Zdq hopt;exact Z7t hopt (Zdr hg hc))
  ·cases hx
noncomputable def ZiS:XE:={ T:=Zn [(3,r3),(4,r4),(9,r9),(65,r65),(67,r67)],C:=[(101,Zp5),(102,Zju)],D:=[(3,⟨[],[0,1,2,3,4,5,6,7,8,9,10,11],[],[],[],[],[]⟩)],Ms:=[],Ml:=[],Mo:=[(1008,[1,11])],n:=22}
theorem Z9F:XE.Ok ZiS Tryz.prog:=⟨Zp (⟨Z0,⟨Z1,⟨Zz,⟨Zci,⟨Zdg,trivial⟩⟩⟩⟩⟩),(⟨ZzF,⟨Zp3,trivial⟩⟩),Zq,trivial⟩
noncomputable def c90:Code:=ZP f90
noncomputable def Zi8 (x0:List AVal) (h:Za):Option (AVal×Za):=Zt ZiS f90 [(.agg x0)] h
noncomputable def ZrW (x1:Nat) (t11:Bool) (h:Za):Option (AVal×Za):=jo ZiS 1 (Zk (ca (ca (cb c90)))) ((Zk (ca (ca (cb c90)))).toList.drop 8) 8 [(1,(.ptr x1 0)),(11,(.lit (.bool t11)))] h (kN (Zi ZiS (cb (ca (cb c90))) (Zi ZiS (cb (cb c90)) (Zj ZiS f90))))
theorem Z7z (x0:List AVal) (h:Za):Zi8 x0 h =
 (ld1 ((psh h (.cells x0))) (.ptr h.length 0)).bind fun x2=>
 (asI .i64 x2).bind fun n3=>
 bif (decide (n3 < 0)) then (ZrW h.length true ((psh h (.cells x0))))
 else ((ld1 ((psh h (.cells x0))) (.ptr h.length 0)).bind fun x4=>
 (asI .i64 x4).bind fun n5=>
 ZrW h.length (decide (n5 > 4611686018427387904)) ((psh h (.cells x0)))):=by kernel_rfl
theorem Z71 (x1:Nat) (t11:Bool) (h:Za):ZrW x1 t11 h =
 bif t11 then (some ((.tup [(.lit (.string (⟨#[]⟩:ByteArray))),(.lit (.bool false))]),h))
 else ((ld1 h (.ptr x1 0)).bind fun x6=>
 (asI .i64 x6).bind fun n7=>
 (ZM (ZiE n7 8 h) h).bind fun r8=>
 (asS r8).bind fun s9=>
 (req ((⟨#[0]⟩:ByteArray).size + s9.size≤9223372036854775807)).bind fun u10=>
 (ld1 h (.ptr x1 1)).bind fun x11=>
 (asI .u32 x11).bind fun n12=>
 (ZM (ZiE (IntKind.wrap .i64 n12) 4 h) h).bind fun r13=>
 (asS r13).bind fun s14=>
 (req (((⟨#[0]⟩:ByteArray)++s9).size + s14.size≤9223372036854775807)).bind fun u15=>
 (ZM (Zhw (((⟨#[0]⟩:ByteArray)++s9)++s14) h) h).bind fun r16=>
 (asS r16).bind fun s17=>
 some ((.tup [(.lit (.string s17)),(.lit (.bool true))]),h)):=(ZV ..).trans (by kernel_rfl)
theorem Z70 {x0:List AVal} {h h':Za} {v:AVal} {R:AEnd→Za→Prop} (hx:Zi8 x0 h = some (v,h')) (hR:HOk h→h.length≤h'.length→ABody.AEnds h h' (.ret v) R):ACalls Tryz.prog 90 [(.agg x0)] h R:=Zu Z9F Zo (i:=90) (by rfl) (by kernel_rfl) (by kernel_rfl) hx hR
noncomputable def ZlK:XC:=.q fun R args h K=>match args with
 | [.agg a0]=>(ZM (Zi8 a0 h) h).bind fun r=>K r
 |_=>none
theorem Ztj:XC.Nat ZlK∧XC.Ok Tryz.prog 90 ZlK:=by
 refine ⟨fun R args h K=>?_,tc90,fun args h v hx=>?_⟩
 ·dsimp only;split<;>simp[Option.bind_assoc,mkP]
 ·dsimp only at hx;split at hx
  ·obtain ⟨r,hopt,hx⟩:=Option.bind_eq_some_iff.1 hx
   cases hx
   exact (by obtain ⟨h',hopt,hg,hc⟩:=Zdq hopt;exact Z70 hopt (Zdr hg hc))
  ·cases hx
noncomputable def ZiR:XE:={ T:=Zn [(3,r3),(4,r4),(5,r5),(9,r9),(119,ZeR)],C:=[(102,Zju)],D:=[],Ms:=[],Ml:=[],Mo:=[(1006,[0,9])],n:=16}
theorem Z9D:XE.Ok ZiR Tryz.prog:=⟨Zp (⟨Z0,⟨Z1,⟨ZdT,⟨Zz,⟨Zft,trivial⟩⟩⟩⟩⟩),(⟨Zp3,trivial⟩),Zq,trivial⟩
noncomputable def c74:Code:=ZP f74
noncomputable def Zhq (size0:Int) (h:Za):Option (AVal×Za):=Zt ZiR f74 [(.lit (.int .i64 size0))] h
noncomputable def ZrP (size0:Int) (t9:Bool) (h:Za):Option (AVal×Za):=jo ZiR 1 (Zk (ca (ca (cb c74)))) ((Zk (ca (ca (cb c74)))).toList.drop 6) 6 [(0,(.lit (.int .i64 size0))),(9,(.lit (.bool t9)))] h (kN (Zi ZiR (cb (ca (cb c74))) (Zi ZiR (cb (cb c74)) (Zj ZiR f74))))
theorem ZwD (size0:Int) (h:Za):Zhq size0 h =
 bif (decide (size0 < 1)) then (ZrP size0 true h)
 else (ZrP size0 (decide (size0 > 64)) h):=by kernel_rfl
theorem ZrO (size0:Int) (t9:Bool) (h:Za):ZrP size0 t9 h =
 bif t9 then (some ((.tup [(.lit (.string (⟨#[]⟩:ByteArray))),(.lit (.bool false))]),h))
 else ((ZbW 1 [(.lit (.int .u8 0))] 1 [(0,(.lit (.int .u8 (IntKind.wrap .u8 size0))))] h).bind fun r1=>
 (ZcA r1.2 r1.1).bind fun s2=>
 (req ((⟨#[67,72,65,73,78,49]⟩:ByteArray).size + s2.size≤9223372036854775807)).bind fun u3=>
 (ZM (Zhw ((⟨#[67,72,65,73,78,49]⟩:ByteArray)++s2) r1.2) r1.2).bind fun r4=>
 (asS r4).bind fun s5=>
 some ((.tup [(.lit (.string s5)),(.lit (.bool true))]),r1.2)):=(ZV ..).trans (by kernel_rfl)
theorem Z7j {size0:Int} {h h':Za} {v:AVal} {R:AEnd→Za→Prop} (hx:Zhq size0 h = some (v,h')) (hR:HOk h→h.length≤h'.length→ABody.AEnds h h' (.ret v) R):ACalls Tryz.prog 74 [(.lit (.int .i64 size0))] h R:=Zu Z9D Zo (i:=74) (by rfl) (by kernel_rfl) (by kernel_rfl) hx hR
noncomputable def ZlJ:XC:=.q fun R args h K=>match args with
 | [.lit (.int .i64 a0)]=>(ZM (Zhq a0 h) h).bind fun r=>K r
 |_=>none
theorem Zti:XC.Nat ZlJ∧XC.Ok Tryz.prog 74 ZlJ:=by
 refine ⟨fun R args h K=>?_,tc74,fun args h v hx=>?_⟩
 ·dsimp only;split<;>simp[Option.bind_assoc,mkP]
 ·dsimp only at hx;split at hx
  ·obtain ⟨r,hopt,hx⟩:=Option.bind_eq_some_iff.1 hx
   cases hx
   exact (by obtain ⟨h',hopt,hg,hc⟩:=Zdq hopt;exact Z7j hopt (Zdr hg hc))
  ·cases hx
noncomputable def Zgz:XE:={ T:=Zn [(3,r3),(4,r4),(9,r9),(52,r52),(65,r65),(67,r67)],C:=[(117,ZlP)],D:=[(5,⟨[],[0,1,2,3,4,5,6,7],[8],[],[],[],[]⟩)],Ms:=[(6,[2,3])],Ml:=[(3,[0,2,3,4])],Mo:=[],n:=23}
theorem Echainmanref06_Sum_ok:XE.Ok Zgz Tryz.prog:=⟨Zp (⟨Z0,⟨Z1,⟨Zz,⟨Zby,⟨Zci,⟨Zdg,trivial⟩⟩⟩⟩⟩⟩),(⟨Ztn,trivial⟩),Zq,trivial⟩
noncomputable def c89:Code:=ZP f89
noncomputable def Zhp (l0:AVal) (h:Za):Option (AVal×Za):=Zt Zgz f89 [l0] h
noncomputable def Znw (l0:AVal) (t2:Nat) (x3:Nat) (i4:Int) (h:Za):Option (AVal×Za):=Zl Zgz (.loop (ca (ca (cb (ca (cb (cb c89))))))) (AVal×Za) [(0,l0),(2,(.ptr t2 0)),(3,(.ptr x3 0)),(4,(.lit (.int .i64 i4)))] h (ZW 0 (Zi Zgz (cb (cb (cb c89))) (Zj Zgz f89)))
noncomputable def ZwB (t2:Nat) (x3:Nat) (h:Za):Option (AVal×Za):=jn (Zl Zgz (cb (cb (cb c89))) (AVal×Za) [(2,(.ptr t2 0)),(3,(.ptr x3 0))] h (Zj Zgz f89))
theorem Z7g (l0:AVal) (h:Za):Zhp l0 h =
 (Zbb l0).bind fun n1=>
 (stn 2 ((psh ((psh h (.cells [(.lit (.int .i64 0)),(.lit (.int .u32 0))]))) (.cells [(.lit (.int .i64 0)),(.lit (.int .u32 0))]))) (.ptr (((psh h (.cells [(.lit (.int .i64 0)),(.lit (.int .u32 0))]))).length) 0) ([(.lit (.int .i64 n1)),(.lit (.int .u32 0))])).bind fun h2=>
 Znw l0 h.length (((psh h (.cells [(.lit (.int .i64 0)),(.lit (.int .u32 0))]))).length) 0 h2:=by kernel_rfl
theorem ZwC (l0:AVal) (t2:Nat) (x3:Nat) (i4:Int) (h:Za):Znw l0 t2 x3 i4 h =
 (Zbb l0).bind fun n3=>
 bif (decide (i4 < n3)) then ((ld1 h (.ptr x3 1)).bind fun x4=>
 (asI .u32 x4).bind fun n5=>
 (Zbc 1 l0 i4).bind fun p6=>
 (ld1 h p6).bind fun x7=>
 (asS x7).bind fun s8=>
 (ZM (ZiD n5 s8 h) h).bind fun r9=>
 (asI .u32 r9).bind fun n10=>
 (st1 h (.ptr x3 1) (.lit (.int .u32 n10))).bind fun h11=>
 Znw l0 t2 x3 (IntKind.wrap .i64 (i4 + 1)) h11)
 else (ZwB t2 x3 h):=(ZbO Zgz Echainmanref06_Sum_ok.C.nat _ _ _ _ _).trans (by kernel_rfl)
theorem Z7i (t2:Nat) (x3:Nat) (h:Za):ZwB t2 x3 h =
 (ldn 2 h (.ptr x3 0)).bind fun xs12=>
 (stn 2 h (.ptr t2 0) xs12).bind fun h13=>
 (ldn 2 h13 (.ptr t2 0)).bind fun xs14=>
 some ((.agg xs14),h13):=(ZF _).trans (by kernel_rfl)
theorem Z7h {l0:AVal} {h h':Za} {v:AVal} {R:AEnd→Za→Prop} (hx:Zhp l0 h = some (v,h')) (hR:HOk h→h.length≤h'.length→ABody.AEnds h h' (.ret v) R):ACalls Tryz.prog 89 [l0] h R:=Zu Echainmanref06_Sum_ok Zo (i:=89) (by rfl) (by kernel_rfl) (by kernel_rfl) hx hR
noncomputable def ZlI:XC:=.q fun R args h K=>match args with
 | [a0]=>(ZM (Zhp a0 h) h).bind fun r=>K r
 |_=>none
theorem Zth:XC.Nat ZlI∧XC.Ok Tryz.prog 89 ZlI:=by
 refine ⟨fun R args h K=>?_,tc89,fun args h v hx=>?_⟩
 ·dsimp only;split<;>simp[Option.bind_assoc,mkP]
 ·dsimp only at hx;split at hx
  ·obtain ⟨r,hopt,hx⟩:=Option.bind_eq_some_iff.1 hx
   cases hx
   exact (by obtain ⟨h',hopt,hg,hc⟩:=Zdq hopt;exact Z7h hopt (Zdr hg hc))
  ·cases hx
noncomputable def Zdx:XE:={ T:=Zn [(3,r3),(4,r4),(9,r9),(52,r52)],C:=[],D:=[],Ms:=[(6,[0,1])],Ml:=[(2,[0,1,5])],Mo:=[(2009,[0,1,5,14])],n:=27}
theorem Echainmanref06_Few_ok:XE.Ok Zdx Tryz.prog:=⟨Zp (⟨Z0,⟨Z1,⟨Zz,⟨Zby,trivial⟩⟩⟩⟩),trivial,Zq,trivial⟩
noncomputable def c25:Code:=ZP f25
noncomputable def Zi7 (l0:AVal) (most1:Int) (h:Za):Option (AVal×Za):=Zt Zdx f25 [l0,(.lit (.int .i64 most1))] h
noncomputable def ZkW (l0:AVal) (most1:Int) (i5:Int) (h:Za):Option (AVal×Za):=Zl Zdx (.loop (ca (ca (cb (ca (cb c25)))))) (AVal×Za) [(0,l0),(1,(.lit (.int .i64 most1))),(5,(.lit (.int .i64 i5)))] h (ZW 0 (Zi Zdx (cb (cb c25)) (Zj Zdx f25)))
noncomputable def ZrR (l0:AVal) (most1:Int) (i5:Int) (t14:Bool) (h:Za):Option (AVal×Za):=jo Zdx 2 (Zk (ca (ca (ca (ca (cb (ca (cb c25)))))))) ((Zk (ca (ca (ca (ca (cb (ca (cb c25)))))))).toList.drop 9) 9 [(0,l0),(1,(.lit (.int .i64 most1))),(5,(.lit (.int .i64 i5))),(14,(.lit (.bool t14)))] h (kN (Zi Zdx (cb (ca (ca (ca (cb (ca (cb c25))))))) (Zi Zdx (cb (ca (ca (cb (ca (cb c25)))))) (Zdp Zdx (ca (ca (cb (ca (cb c25))))) (ZW 0 (Zi Zdx (cb (cb c25)) (Zj Zdx f25)))))))
noncomputable def ZwH (l0:AVal) (most1:Int) (h:Za):Option (AVal×Za):=jn (Zl Zdx (cb (cb c25)) (AVal×Za) [(0,l0),(1,(.lit (.int .i64 most1)))] h (Zj Zdx f25))
theorem Z7q (l0:AVal) (most1:Int) (h:Za):Zi7 l0 most1 h =
 ZkW l0 most1 0 h:=by kernel_rfl
theorem ZwJ (l0:AVal) (most1:Int) (i5:Int) (h:Za):ZkW l0 most1 i5 h =
 (Zbb l0).bind fun n1=>
 bif (decide (i5 < n1)) then (ZrR l0 most1 i5 (decide (i5 < most1)) h)
 else (ZrR l0 most1 i5 false h):=(ZbO Zdx Echainmanref06_Few_ok.C.nat _ _ _ _ _).trans (by kernel_rfl)
theorem ZwI (l0:AVal) (most1:Int) (i5:Int) (t14:Bool) (h:Za):ZrR l0 most1 i5 t14 h =
 bif t14 then ((Zbc 1 l0 i5).bind fun p2=>
 (ld1 h p2).bind fun x3=>
 (asS x3).bind fun s4=>
 bif (decide ((s4.size:Int) > 80)) then (some ((.lit (.bool false)),h))
 else (ZkW l0 most1 (IntKind.wrap .i64 (i5 + 1)) h))
 else (ZwH l0 most1 h):=(ZV ..).trans (by kernel_rfl)
theorem ZwG (l0:AVal) (most1:Int) (h:Za):ZwH l0 most1 h =
 (Zbb l0).bind fun n5=>
 some ((.lit (.bool (decide (n5≤most1)))),h):=(ZF _).trans (by kernel_rfl)
theorem Z7r {l0:AVal} {most1:Int} {h h':Za} {v:AVal} {R:AEnd→Za→Prop} (hx:Zi7 l0 most1 h = some (v,h')) (hR:HOk h→h.length≤h'.length→ABody.AEnds h h' (.ret v) R):ACalls Tryz.prog 25 [l0,(.lit (.int .i64 most1))] h R:=Zu Echainmanref06_Few_ok Zo (i:=25) (by rfl) (by kernel_rfl) (by kernel_rfl) hx hR
noncomputable def Zpp:XC:=.q fun R args h K=>match args with
 | [a0,.lit (.int .i64 a1)]=>(Zv (Zi7 a0 a1 h) h).bind fun r=>K r
 |_=>none
theorem Zz4:XC.Nat Zpp∧XC.Ok Tryz.prog 25 Zpp:=by
 refine ⟨fun R args h K=>?_,tc25,fun args h v hx=>?_⟩
 ·dsimp only;split<;>simp[Option.bind_assoc,mkP]
 ·dsimp only at hx;split at hx
  ·obtain ⟨r,hopt,hx⟩:=Option.bind_eq_some_iff.1 hx
   cases hx
   exact (by have hopt:=Zc7 hopt;exact Z7r hopt selfR)
  ·cases hx
noncomputable def Zeh:XE:={ T:=Zn [(3,r3),(4,r4),(9,r9),(52,r52),(65,r65),(67,r67)],C:=[(74,ZlJ),(82,Zjq),(89,ZlI),(90,ZlK),(115,ZlL)],D:=[],Ms:=[(9,[1,6])],Ml:=[(5,[0,1,6,8])],Mo:=[(2008,[0,1,6,25])],n:=57}
theorem Echainmanref06_Lay_ok:XE.Ok Zeh Tryz.prog:=⟨Zp (⟨Z0,⟨Z1,⟨Zz,⟨Zby,⟨Zci,⟨Zdg,trivial⟩⟩⟩⟩⟩⟩),(⟨Zti,⟨Zpq,⟨Zth,⟨Ztj,⟨Ztk,trivial⟩⟩⟩⟩⟩),Zq,trivial⟩
noncomputable def Zhe:Code:=ZP f110
noncomputable def ZkV (size0:Int) (l1:AVal) (h:Za):Option (AVal×Za):=Zt Zeh f110 [(.lit (.int .i64 size0)),l1] h
noncomputable def ZrQ (size0:Int) (l1:AVal) (s6:ByteArray) (t25:Bool) (h:Za):Option (AVal×Za):=jo Zeh 2 (Zk (ca (ca (cb (cb Zhe))))) ((Zk (ca (ca (cb (cb Zhe))))).toList.drop 8) 8 [(0,(.lit (.int .i64 size0))),(1,l1),(6,(.lit (.string s6))),(25,(.lit (.bool t25)))] h (kN (Zi Zeh (cb (ca (cb (cb Zhe)))) (Zi Zeh (cb (cb (cb Zhe))) (Zj Zeh f110))))
noncomputable def Znx (size0:Int) (l1:AVal) (s6:ByteArray) (at8:Int) (h:Za):Option (AVal×Za):=Zl Zeh (.loop (ca (ca (cb (ca (cb (cb (cb Zhe)))))))) (AVal×Za) [(0,(.lit (.int .i64 size0))),(1,l1),(6,(.lit (.string s6))),(8,(.lit (.int .i64 at8)))] h (ZW 0 (Zi Zeh (cb (cb (cb (cb Zhe)))) (Zj Zeh f110)))
noncomputable def ZwE (l1:AVal) (s6:ByteArray) (h:Za):Option (AVal×Za):=jn (Zl Zeh (cb (cb (cb (cb Zhe)))) (AVal×Za) [(1,l1),(6,(.lit (.string s6)))] h (Zj Zeh f110))
theorem Z7m (size0:Int) (l1:AVal) (h:Za):ZkV size0 l1 h =
 (ZM (Zhq size0 h) h).bind fun r1=>
 (Z6 r1 0).bind fun x2=>
 (asS x2).bind fun s3=>
 (Z6 r1 1).bind fun x4=>
 (asB x4).bind fun b5=>
 bif (!b5) then (ZrQ size0 l1 s3 true h)
 else ((Zv (Zhr size0 l1 h) h).bind fun r6=>
 (asB r6).bind fun b7=>
 ZrQ size0 l1 s3 (!b7) h):=by kernel_rfl
theorem Z7p (size0:Int) (l1:AVal) (s6:ByteArray) (t25:Bool) (h:Za):ZrQ size0 l1 s6 t25 h =
 bif t25 then (some ((.tup [(.lit (.string (⟨#[]⟩:ByteArray))),(.lit (.bool false))]),h))
 else (Znx size0 l1 s6 0 h):=(ZV ..).trans (by kernel_rfl)
theorem ZwF (size0:Int) (l1:AVal) (s6:ByteArray) (at8:Int) (h:Za):Znx size0 l1 s6 at8 h =
 (Zbb l1).bind fun n8=>
 bif (decide (at8 < n8)) then ((Zbb l1).bind fun n9=>
 (ZcQ 1 l1 (some at8) (some (ZbB (IntKind.wrap .i64 (at8 + 4)) n9)) none).bind fun v10=>
 (ZM (ZfG size0 v10 h) h).bind fun r11=>
 (Z6 r11 0).bind fun x12=>
 (asS x12).bind fun s13=>
 (Z6 r11 1).bind fun x14=>
 (asB x14).bind fun b15=>
 (req (s6.size + s13.size≤9223372036854775807)).bind fun u16=>
 Znx size0 l1 (s6++s13) (IntKind.wrap .i64 (at8 + 4)) h)
 else (ZwE l1 s6 h):=(ZbO Zeh Echainmanref06_Lay_ok.C.nat _ _ _ _ _).trans (by kernel_rfl)
theorem Z7o (l1:AVal) (s6:ByteArray) (h:Za):ZwE l1 s6 h =
 (ZM (Zhp l1 h) h).bind fun r17=>
 (asA r17).bind fun xs18=>
 (ZM (Zi8 xs18 h) h).bind fun r19=>
 (Z6 r19 0).bind fun x20=>
 (asS x20).bind fun s21=>
 (Z6 r19 1).bind fun x22=>
 (asB x22).bind fun b23=>
 (req (s6.size + s21.size≤9223372036854775807)).bind fun u24=>
 some ((.tup [(.lit (.string (s6++s21))),(.lit (.bool true))]),h):=(ZF _).trans (by kernel_rfl)
theorem Z7n {size0:Int} {l1:AVal} {h h':Za} {v:AVal} {R:AEnd→Za→Prop} (hx:ZkV size0 l1 h = some (v,h')) (hR:HOk h→h.length≤h'.length→ABody.AEnds h h' (.ret v) R):ACalls Tryz.prog 110 [(.lit (.int .i64 size0)),l1] h R:=Zu Echainmanref06_Lay_ok Zo (i:=110) (by rfl) (by kernel_rfl) (by kernel_rfl) hx hR
noncomputable def Zpo:XC:=.q fun R args h K=>match args with
 | [.lit (.int .i64 a0),a1]=>(ZM (ZkV a0 a1 h) h).bind fun r=>K r
 |_=>none
theorem Zz3:XC.Nat Zpo∧XC.Ok Tryz.prog 110 Zpo:=by
 refine ⟨fun R args h K=>?_,tc110,fun args h v hx=>?_⟩
 ·dsimp only;split<;>simp[Option.bind_assoc,mkP]
 ·dsimp only at hx;split at hx
  ·obtain ⟨r,hopt,hx⟩:=Option.bind_eq_some_iff.1 hx
   cases hx
   exact (by obtain ⟨h',hopt,hg,hc⟩:=Zdq hopt;exact Z7n hopt (Zdr hg hc))
  ·cases hx
noncomputable def ZxF:XE:={ T:=Zn [(3,r3),(4,r4),(9,r9),(52,r52)],C:=[(110,Zpo)],D:=[],Ms:=[],Ml:=[],Mo:=[],n:=14}
theorem Z9E:XE.Ok ZxF Tryz.prog:=⟨Zp (⟨Z0,⟨Z1,⟨Zz,⟨Zby,trivial⟩⟩⟩⟩),(⟨Zz3,trivial⟩),Zq,trivial⟩
noncomputable def ZkU (size0:Int) (l1:AVal) (h:Za):Option (AVal×Za):=Zt ZxF f70 [(.lit (.int .i64 size0)),l1] h
theorem Z7k (size0:Int) (l1:AVal) (h:Za):ZkU size0 l1 h =
 (ZM (ZkV size0 l1 h) h).bind fun r1=>
 (Z6 r1 0).bind fun x2=>
 (asS x2).bind fun s3=>
 (Z6 r1 1).bind fun x4=>
 (asB x4).bind fun b5=>
 some ((.lit (.string s3)),h):=by kernel_rfl
theorem Z7l {size0:Int} {l1:AVal} {h h':Za} {v:AVal} {R:AEnd→Za→Prop} (hx:ZkU size0 l1 h = some (v,h')) (hR:HOk h→h.length≤h'.length→ABody.AEnds h h' (.ret v) R):ACalls Tryz.prog 70 [(.lit (.int .i64 size0)),l1] h R:=Zu Z9E Zo (i:=70) (by rfl) (by kernel_rfl) (by kernel_rfl) hx hR
noncomputable def Zpn:XC:=.q fun R args h K=>match args with
 | [.lit (.int .i64 a0),a1]=>(ZM (ZkU a0 a1 h) h).bind fun r=>K r
 |_=>none
theorem Zz2:XC.Nat Zpn∧XC.Ok Tryz.prog 70 Zpn:=by
 refine ⟨fun R args h K=>?_,tc70,fun args h v hx=>?_⟩
 ·dsimp only;split<;>simp[Option.bind_assoc,mkP]
 ·dsimp only at hx;split at hx
  ·obtain ⟨r,hopt,hx⟩:=Option.bind_eq_some_iff.1 hx
   cases hx
   exact (by obtain ⟨h',hopt,hg,hc⟩:=Zdq hopt;exact Z7l hopt (Zdr hg hc))
  ·cases hx
end Go.Proofs.YtogaiomakhapmaaGreat.AL
namespace Go.Proofs.YtogaiomakhapmaaGreat.AL
set_option maxRecDepth 100000
open Go
open Go.Proofs.Tryz
theorem Zqm (a:BitVec 32) (l l':List UInt8):Zbd (Zbd a l) l' = Zbd a (l++l'):=by
 unfold Zbd
 rw[BitVec.not_not,List.foldl_append]
theorem Zv9 (n:Nat) (h:Za):ZbW 1 [.lit (.int .u8 0)] 1 [(0,.lit (.int .u8 (n:Int)))] h = some (.sl 1 h.length 0 1,h++[.cells [.lit (.int .u8 (n:Int))]]):=rfl
theorem Zv3 {n:Nat} (hn:n < 256) (h:Za):ZcA (h++[.cells [.lit (.int .u8 (n:Int))]]) (.sl 1 h.length 0 1) = some (bs [b8 n]):=by
 have e:(AVal.lit (.int .u8 (n:Int))) = ZR (b8 n):=by
  unfold ZR b8
  rw[show ((UInt8.ofNat n).toNat:Int) = (n:Int) by show ((n % 2 ^ 8:Nat):Int) = (n:Int);omega]
 rw[e]
 have hc:Zb (h++[.cells [ZR (b8 n)]]) h.length = some [ZR (b8 n)]:=ZU h _
 show (Zb _ _).bind _ = _
 rw[hc,Option.bind_some]
 exact (congrArg (Option.bind · _) (Zjx [b8 n])).trans rfl
section ref
variable {h:Za} {v:AVal} {ss:List ByteArray} {n:Nat}
theorem Z1f (S:Sl 1 h v ss.length (ZX ss)) (hl:ss.length≤1000) (ha:∀ s∈ss,s.size = n):∀ m i,i + m = ss.length→Znz (n:Int) v (i:Int) h = some (.lit (.bool true),h):=by
 intro m
 induction m with
 |zero=>
  intro i hi
  rw[ZwN]
  refine bd S.len (cF (decide_eq_false (by omega)) ?_)
  rw[Z74]
 |succ m ih=>
  intro i hi
  have hlt:i < ss.length:=by omega
  obtain ⟨p,a,b⟩:=Zes S hlt
  rw[ZwN]
  refine bd S.len (cT (decide_eq_true (by omega)) (bd a (bd b (bd rfl (cF ?_ ?_)))))
  ·rw[ha _ (List.getElem_mem hlt),decide_eq_true rfl];rfl
  ·rw[wrap_i64 (by omega) (by omega)];exact ih (i + 1) (by omega)
theorem Zub (S:Sl 1 h v ss.length (ZX ss)) (hl:ss.length≤1000) (ha:∀ s∈ss,s.size = n):Zv (Zhr (n:Int) v h) h = some (.lit (.bool true)):=by
 have:Zhr (n:Int) v h = some (.lit (.bool true),h):=by rw[Z72];exact Z1f S hl ha ss.length 0 (by omega)
 rw[this];exact ZbI _ _
theorem Z0K {g:Za} (S:Sl 1 g v ss.length (ZX ss)) (h4:ss.length≤4) (hsz:(Z7 ss).length≤256):∀ m i (l:List UInt8),i + m = ss.length→l.length≤10→
  Zny v (bs (l++Z7 (ss.take i))) (i:Int) g = some (okS (Zf1 (bs (l++Z7 ss))),g):=by
 intro m
 induction m with
 |zero=>
  intro i l hi hl
  rw[ZwL]
  refine bd S.len (cF (decide_eq_false (by omega)) ?_)
  rw[Z7u,List.take_of_length_le (by omega)]
  exact bd (ZpX (by rw[ZbR,List.length_append];omega) g) (bd rfl rfl)
 |succ m ih=>
  intro i l hi hl
  have hlt:i < ss.length:=by omega
  obtain ⟨p,a,b⟩:=Zes S hlt
  have hle:=ZmJ ss i
  have hle1:=ZmJ ss (i + 1)
  have e1:=congrArg List.length (ZmI ss hlt)
  rw[List.length_append,szL] at e1
  rw[ZwL]
  refine bd S.len (cT (decide_eq_true (by omega)) (bd a (bd b (bd rfl (bd (Z8 (by rw[ZbR,List.length_append];omega)) ?_)))))
  rw[wrap_i64 (by omega) (by omega),←Zv5 ss[i],Zgh,List.append_assoc,←ZmI ss hlt]
  exact ih (i + 1) l (by omega) hl
theorem ZpY (S:Sl 1 h v ss.length (ZX ss)) (h1:1≤n) (h2:n≤64) (h3:1≤ss.length) (h4:ss.length≤4) (ha:∀ s∈ss,s.size = n):ZM (ZfG (n:Int) v h) h = some (okS (ZZ ss)):=by
 have hcs:=ZdZ ha
 have h5:ss.length * n≤4 * 64:=Nat.mul_le_mul h4 h2
 obtain ⟨g,hg⟩:∃ g,g = h++[AObj.cells [.lit (.int .u8 (ss.length:Int))]]:=⟨_,rfl⟩
 have G:Grow h g:=by rw[hg];exact (Grow.refl h).psh _
 refine Zdj (h':=g) ?_ G rfl
 have hb:ZcA g (.sl 1 h.length 0 1) = some (bs [b8 ss.length]):=by rw[hg];exact Zv3 (by omega) h
 rw[Z7s]
 refine cF (decide_eq_false (by omega)) ?_
 rw[Z7y]
 refine cF (decide_eq_false (by omega)) (bd S.len ?_)
 rw[Z7x]
 refine cF (decide_eq_false (by omega)) (bd S.len ?_)
 rw[Z7w]
 refine cF (decide_eq_false (by omega)) (bd (Zub S (by omega) ha) (bd rfl ?_))
 rw[Z7v]
 refine cF rfl (bd S.len ?_)
 rw[show IntKind.wrap .u8 (ss.length:Int) = (ss.length:Int) by rw[Zg8];omega,Zv9,←hg]
 refine bd rfl (bd hb ?_)
 have:=Z0K (S.grow G) h4 (by omega) ss.length 0 [b8 ss.length] (by omega) (by simp)
 exact this
theorem ZtY {c:Nat} (hc:c≤4611686018427387904) (s:BitVec 32) (h:Za):ZM (Zi8 [.lit (.int .i64 (c:Int)),.lit (.int .u32 (u32 s))] h) h = some (okS (ZH c s)):=by
 obtain ⟨g,hg⟩:∃ g,g = psh h (.cells [.lit (.int .i64 (c:Int)),.lit (.int .u32 (u32 s))]):=⟨_,rfl⟩
 have g0:Zb g h.length = some [.lit (.int .i64 (c:Int)),.lit (.int .u32 (u32 s))]:=by rw[hg];exact ZU h _
 refine Zdj (h':=g) ?_ (by rw[hg];exact (Grow.refl h).psh _) rfl
 have hs:s.toNat < 4294967296:=s.isLt
 rw[Z7z,←hg]
 refine bd (Zc g0) (bd rfl (cF (decide_eq_false (by omega)) (bd (Zc g0) (bd rfl ?_))))
 rw[Z71]
 refine cF (decide_eq_false (by omega)) (bd (Zc g0) (bd rfl (bd (ZtU (n:=c) (k:=8) (by omega) (by omega) (by omega) (by omega) g) (bd rfl ?_))))
 have e:(⟨#[0]⟩:ByteArray) = bs [0]:=rfl
 rw[e,Zgh,ZbR,ZbR]
 refine bd (Z8 (by simp only[Zf8,List.length_cons,List.length_nil];omega)) (bd (Zc g0) (bd rfl ?_))
 rw[show u32 s = ((s.toNat:Nat):Int) from rfl,wrap_i64 (by omega) (by omega)]
 refine bd (ZtU (n:=s.toNat) (k:=4) (by omega) (by omega) (by omega) (by omega) g) (bd rfl ?_)
 rw[Zgh,ZbR,ZbR]
 refine bd (Z8 (by simp only[Zf8,List.length_append,List.length_cons,List.length_nil];omega)) (bd (ZpX (by rw[ZbR];simp only[Zf8,List.length_append,List.length_cons,List.length_nil];omega) g) (bd rfl ?_))
 simp only[List.append_assoc]
 rfl
theorem ZpU (h1:1≤n) (h2:n≤64) (h:Za):ZM (Zhq (n:Int) h) h = some (okS (ZT n)):=by
 obtain ⟨g,hg⟩:∃ g,g = h++[AObj.cells [.lit (.int .u8 (n:Int))]]:=⟨_,rfl⟩
 refine Zdj (h':=g) ?_ (by rw[hg];exact (Grow.refl h).psh _) rfl
 have hb:ZcA g (.sl 1 h.length 0 1) = some (bs [b8 n]):=by rw[hg];exact Zv3 (by omega) h
 rw[ZwD]
 refine cF (decide_eq_false (by omega)) ?_
 rw[ZrO]
 refine cF (decide_eq_false (by omega)) ?_
 rw[show IntKind.wrap .u8 (n:Int) = (n:Int) by rw[Zg8];omega,Zv9,←hg]
 refine bd rfl (bd hb ?_)
 have e:(⟨#[67,72,65,73,78,49]⟩:ByteArray) = bs [67,72,65,73,78,49]:=rfl
 rw[e,Zgh,ZbR,ZbR]
 exact bd (Z8 (by show (6:Nat) + 1≤_;omega)) (bd (ZpX (by rw[ZbR];show (7:Nat)≤_;omega) g) (bd rfl rfl))
theorem Z0J {h0:Za} {a b:Nat} (hl:ss.length≤1000) (hs:∀ s∈ss,s.size≤1000) (S:Sl 1 h0 v ss.length (ZX ss)) (ha:h0.length≤a) (hb:h0.length≤b) (hab:a≠b):∀ m i (g:Za),i + m = ss.length→Grow h0 g→
  Zb g a = some [.lit (.int .i64 0),.lit (.int .u32 0)]→Zb g b = some [.lit (.int .i64 (ss.length:Int)),.lit (.int .u32 (u32 (Zbd 0#32 (Z7 (ss.take i)))))]→
  ∃ g',Znw v a b (i:Int) g = some (.agg [.lit (.int .i64 (ss.length:Int)),.lit (.int .u32 (u32 (Zbd 0#32 (Z7 ss))))],g')∧Grow h0 g':=by
 intro m
 induction m with
 |zero=>
  intro i g hi G c1 c2
  rw[List.take_of_length_le (by omega)] at c2
  refine ⟨g.set a (.cells [.lit (.int .i64 (ss.length:Int)),.lit (.int .u32 (u32 (Zbd 0#32 (Z7 ss))))]),?_,G.set ha⟩
  rw[ZwC]
  refine bd (S.grow G).len (cF (decide_eq_false (by omega)) ?_)
  rw[Z7i]
  refine bd (Zbh c2 (by show 2≤2;omega)) (bd (Zcn c1 rfl rfl (by show 2≤2;omega)) (bd (Zbh (Zm c1) (by show 2≤2;omega)) rfl))
 |succ m ih=>
  intro i g hi G c1 c2
  have hlt:i < ss.length:=by omega
  obtain ⟨p,e1,e2⟩:=Zes (S.grow G) hlt
  have c1':Zb (g.set b (.cells [.lit (.int .i64 (ss.length:Int)),.lit (.int .u32 (u32 (Zbd 0#32 (Z7 (ss.take (i + 1))))))])) a = some [.lit (.int .i64 0),.lit (.int .u32 0)]:=Zdt _ (Ne.symm hab) c1
  obtain ⟨g',r1,r2⟩:=ih (i + 1) _ (by omega) (G.set hb) c1' (Zm c2)
  refine ⟨g',?_,r2⟩
  rw[ZwC]
  refine bd (S.grow G).len (cT (decide_eq_true (by omega)) (bd (Zc c2) (bd rfl (bd e1 (bd e2 (bd rfl (bd (ZtV _ (by have:=hs _ (List.getElem_mem hlt);omega) g) (bd rfl ?_))))))))
  rw[Zqm,←ZmI ss hlt,wrap_i64 (by omega) (by omega)]
  exact bd (Zbq c2 rfl (by show 1 < 2;omega)) r1
theorem ZtM (S:Sl 1 h v ss.length (ZX ss)) (hl:ss.length≤1000) (hs:∀ s∈ss,s.size≤1000):ZM (Zhp v h) h = some (.agg [.lit (.int .i64 (ss.length:Int)),.lit (.int .u32 (u32 (Zbd 0#32 (Z7 ss))))]):=by
 obtain ⟨h1,hh1⟩:∃ h1,h1 = psh h (.cells [.lit (.int .i64 0),.lit (.int .u32 0)]):=⟨_,rfl⟩
 have l1:h1.length = h.length + 1:=by rw[hh1,Zbm]
 have ca:Zb h1 h.length = some [.lit (.int .i64 0),.lit (.int .u32 0)]:=by rw[hh1];exact ZU _ _
 have cb:Zb (psh h1 (.cells [.lit (.int .i64 0),.lit (.int .u32 0)])) h1.length = some [.lit (.int .i64 0),.lit (.int .u32 0)]:=ZU _ _
 have G:Grow h h1:=by rw[hh1];exact (Grow.refl h).psh _
 have st:=Zcn (vs:=[.lit (.int .i64 (ss.length:Int)),.lit (.int .u32 0)]) (n:=2) cb rfl rfl (by show 2≤2;omega)
 obtain ⟨g',r1,r2⟩:=Z0J (a:=h.length) (b:=h1.length) hl hs S (Nat.le_refl _) (by omega) (by omega) ss.length 0 _ (by omega) ((G.psh _).set (by omega)) (Zdt _ (by omega) (Zgg _ ca)) (Zm cb)
 have e0:u32 (Zbd 0#32 (Z7 (ss.take 0))) = 0:=by show u32 (Zbd 0#32 []) = 0;decide
 rw[e0] at r1
 refine Zdj (h':=g') ?_ r2 rfl
 rw[Z7g,←hh1]
 exact bd S.len (bd st r1)
theorem Z0Y (S:Sl 1 h v ss.length (ZX ss)):∀ m i,i + m = ss.length→(∀ j (hj:j < ss.length),j < i→ss[j].size≤80)→
  ∃ b,ZkW v 30 (i:Int) h = some (.lit (.bool b),h)∧(b = true→ss.length≤30∧∀ j (hj:j < ss.length),ss[j].size≤80):=by
 intro m
 induction m with
 |zero=>
  intro i hi hj
  refine ⟨decide ((ss.length:Int)≤30),?_,fun hb=>⟨by have:=of_decide_eq_true hb;omega,fun j hj'=>hj j hj' (by omega)⟩⟩
  rw[ZwJ]
  refine bd S.len (cF (decide_eq_false (by omega)) ?_)
  rw[ZwI]
  refine cF rfl ?_
  rw[ZwG]
  exact bd S.len rfl
 |succ m ih=>
  intro i hi hj
  have hlt:i < ss.length:=by omega
  obtain ⟨p,a,b⟩:=Zes S hlt
  rw[ZwJ,S.len,Option.bind_some,decide_eq_true (by omega),cond_true,ZwI]
  by_cases h30:i < 30
  ·rw[decide_eq_true (by omega),cond_true,a,Option.bind_some,b,Option.bind_some]
   show ∃ b,cond (decide ((ss[i].size:Int) > 80)) _ (ZkW v 30 (IntKind.wrap .i64 ((i:Int) + 1)) h) = _∧_
   by_cases h80:ss[i].size≤80
   ·rw[decide_eq_false (by omega),cond_false,wrap_i64 (by omega) (by omega)]
    refine ih (i + 1) (by omega) fun j hj1 hj2=>?_
    by_cases e:j = i
    ·subst e;exact h80
    ·exact hj j hj1 (by omega)
   ·rw[decide_eq_true (by omega)]
    exact ⟨false,rfl,fun hb=>by cases hb⟩
  ·rw[decide_eq_false (by omega),cond_false,ZwG,S.len,Option.bind_some]
   exact ⟨decide ((ss.length:Int)≤30),rfl,fun hb=>by have:=of_decide_eq_true hb;omega⟩
theorem Z0X (S:Sl 1 h v ss.length (ZX ss)):∃ b,Zv (Zi7 v 30 h) h = some (.lit (.bool b))∧(b = true→ss.length≤30∧∀ j (hj:j < ss.length),ss[j].size≤80):=by
 obtain ⟨b,e,hb⟩:=Z0Y S ss.length 0 (by omega) fun j _ h=>by omega
 refine ⟨b,?_,hb⟩
 have:Zi7 v 30 h = some (.lit (.bool b),h):=by rw[Z7q];exact e
 rw[this];exact ZbI _ _
def Zce (n:Nat) (ss:List ByteArray):Nat→ByteArray
 | 0=>ZT n
 |j + 1=>Zce n ss j++ZZ ((ss.drop (4 * j)).take 4)
theorem ZjB (ha:∀ s∈ss,s.size = n) (h2:n≤64):∀ j,(Zce n ss j).size≤11 + 261 * j
 | 0=>by rw[Zce,Zfy];omega
 |j + 1=>by
  have h1:=ZjB ha h2 j
  have h3:=ZdZ (ss:=(ss.drop (4 * j)).take 4) (n:=n) fun s hs=>ha s (List.mem_of_mem_drop (List.mem_of_mem_take hs))
  have h4:((ss.drop (4 * j)).take 4).length * n≤4 * 64:=Nat.mul_le_mul (by rw[List.length_take];omega) h2
  rw[Zce,ByteArray.size_append,Zf6];omega
def ZdA (n:Nat) (ss:List ByteArray):ByteArray:=Zce n ss ((ss.length + 3) / 4)++ZH ss.length (Zbd 0#32 (Z7 ss))
theorem Z0Q (S:Sl 1 h v ss.length (ZX ss)) (hl:ss.length≤1000) (h1:1≤n) (h2:n≤64) (ha:∀ s∈ss,s.size = n):∀ m j,j + m = (ss.length + 3) / 4→
  Znx (n:Int) v (Zce n ss j) ((4 * j:Nat):Int) h = some (okS (ZdA n ss),h):=by
 intro m
 induction m with
 |zero=>
  intro j hj
  have hsz:=ZjB ha h2 j
  rw[ZwF]
  refine bd S.len (cF (decide_eq_false (by omega)) ?_)
  rw[Z7o]
  refine bd (ZtM S hl fun s hs=>by have:=ha s hs;omega) (bd rfl (bd (ZtY (by omega) _ h) (bd rfl (bd rfl (bd rfl (bd rfl (bd (Z8 (by rw[Zhc];omega)) ?_)))))))
  rw[show j = (ss.length + 3) / 4 by omega]
  rfl
 |succ m ih=>
  intro j hj
  have hlt:4 * j < ss.length:=by omega
  have hsz:=ZjB ha h2 j
  obtain ⟨hi,hhi⟩:∃ hi,hi = min (4 * j + 4) ss.length:=⟨_,rfl⟩
  have hmin:ZbB (IntKind.wrap .i64 (((4 * j:Nat):Int) + 4)) (ss.length:Int) = (hi:Int):=by
   rw[wrap_i64 (by omega) (by omega)];unfold ZbB;split<;>omega
  obtain ⟨v',c1,S'⟩:=S.cut (lo:=4 * j) (hi:=hi) (by omega) (by omega)
  have hts:((ZX ss).drop (4 * j * 1)).take ((hi - 4 * j) * 1) = ZX ((ss.drop (4 * j)).take 4):=by
   rw[Nat.mul_one,Nat.mul_one]
   unfold ZX
   rw[←List.map_drop,←List.map_take]
   congr 1
   rw[←List.take_eq_take_iff.2 (show min (hi - 4 * j) (ss.drop (4 * j)).length = min 4 (ss.drop (4 * j)).length by rw[List.length_drop];omega)]
  have hln:hi - 4 * j = ((ss.drop (4 * j)).take 4).length:=by rw[List.length_take,List.length_drop];omega
  rw[hts,hln] at S'
  have hblk:=ZpY S' h1 h2 (by rw[←hln];omega) (by rw[←hln];omega) fun s hs=>ha s (List.mem_of_mem_drop (List.mem_of_mem_take hs))
  have hsz2:=ZjB ha h2 (j + 1)
  rw[Zce,ByteArray.size_append] at hsz2
  rw[ZwF]
  refine bd S.len (cT (decide_eq_true (by omega)) (bd S.len ?_))
  rw[hmin]
  refine bd c1 (bd hblk (bd rfl (bd rfl (bd rfl (bd rfl (bd (Z8 (by omega)) ?_))))))
  rw[wrap_i64 (by omega) (by omega),show ((4 * j:Nat):Int) + 4 = ((4 * (j + 1):Nat):Int) by omega]
  exact ih (j + 1) (by omega)
theorem Z0P (S:Sl 1 h v ss.length (ZX ss)) (hl:ss.length≤1000) (h1:1≤n) (h2:n≤64) (ha:∀ s∈ss,s.size = n):ZM (ZkV (n:Int) v h) h = some (okS (ZdA n ss)):=by
 refine Zdj (h':=h) ?_ (Grow.refl h) rfl
 rw[Z7m]
 refine bd (ZpU h1 h2 h) (bd rfl (bd rfl (bd rfl (bd rfl (cF rfl (bd (Zub S hl ha) (bd rfl ?_)))))))
 rw[Z7p]
 exact cF rfl (Z0Q S hl h1 h2 ha ((ss.length + 3) / 4) 0 (by omega))
theorem Z0O (S:Sl 1 h v ss.length (ZX ss)) (hl:ss.length≤1000) (h1:1≤n) (h2:n≤64) (ha:∀ s∈ss,s.size = n):ZM (ZkU (n:Int) v h) h = some (.lit (.string (ZdA n ss))):=by
 refine Zdj (h':=h) ?_ (Grow.refl h) rfl
 rw[Z7k]
 exact bd (Z0P S hl h1 h2 ha) (bd rfl (bd rfl (bd rfl (bd rfl rfl))))
end ref
end Go.Proofs.YtogaiomakhapmaaGreat.AL
namespace Go.Proofs.YtogaiomakhapmaaGreat.AL
set_option maxRecDepth 100000
open Go
open Go.Proofs.Tryz
def stW (R m now hi:Int) (name:ByteArray) (n:Nat) (ss:List ByteArray):Wrt:=⟨R,Zce n ss (ss.length / 4),0,m,now,hi,name,n,ss.drop (4 * (ss.length / 4)),ss.length,Zbd 0#32 (Z7 ss),true⟩
theorem Z1Z (R m now hi:Int) (name:ByteArray) (n:Nat):Zmv R m now hi name n = stW R m now hi name n []:=by
 have e:Zbd 0#32 (Z7 []) = 0#32:=by show Zbd 0#32 [] = 0#32;decide
 unfold Zmv stW
 rw[e]
 rfl
theorem Zqc (n:Nat) (ss:List ByteArray) (r:ByteArray):∀ j,4 * j≤ss.length→Zce n (ss++[r]) j = Zce n ss j
 | 0,_=>rfl
 |j + 1,hj=>by
  rw[Zce,Zce,Zqc n ss r j (by omega)]
  congr 2
  rw[List.drop_append_of_le_length (by omega),List.take_append_of_le_length (by rw[List.length_drop];omega)]
theorem Z1u (R m now hi:Int) (name:ByteArray) (n:Nat) (ss:List ByteArray) (r:ByteArray):Zmh (stW R m now hi name n ss) r = stW R m now hi name n (ss++[r]):=by
 have hl:(ss.drop (4 * (ss.length / 4))).length = ss.length % 4:=by rw[List.length_drop];omega
 have hd:(ss++[r]).drop (4 * (ss.length / 4)) = ss.drop (4 * (ss.length / 4))++[r]:=List.drop_append_of_le_length (by omega)
 have hs:Zbd (Zbd 0#32 (Z7 ss)) r.data.toList = Zbd 0#32 (Z7 (ss++[r])):=by rw[Zqm,Zkb,Zka]
 have hlen:(ss++[r]).length = ss.length + 1:=by simp
 unfold Zmh
 by_cases c:(stW R m now hi name n ss).wt.length + 1 < 4
 ·rw[if_pos c]
  have c':ss.length % 4 + 1 < 4:=by rw[←hl];exact c
  have hq:(ss++[r]).length / 4 = ss.length / 4:=by omega
  show Wrt.mk R (Zce n ss (ss.length / 4)) 0 m now hi name n (ss.drop (4 * (ss.length / 4))++[r]) (ss.length + 1) (Zbd (Zbd 0#32 (Z7 ss)) r.data.toList) true = stW R m now hi name n (ss++[r])
  unfold stW
  rw[hq,hd,hs,Zqc n ss r _ (by omega),hlen]
 ·rw[if_neg c]
  have c':¬ss.length % 4 + 1 < 4:=by rw[←hl];exact c
  have hq:(ss++[r]).length / 4 = ss.length / 4 + 1:=by omega
  show Wrt.mk R (Zce n ss (ss.length / 4)++ZZ (ss.drop (4 * (ss.length / 4))++[r])) 0 m now hi name n [] (ss.length + 1) (Zbd (Zbd 0#32 (Z7 ss)) r.data.toList) true = stW R m now hi name n (ss++[r])
  unfold stW
  have hd0:(ss++[r]).drop (4 * (ss.length / 4 + 1)) = []:=List.drop_of_length_le (by omega)
  have ht:((ss++[r]).drop (4 * (ss.length / 4))).take 4 = ss.drop (4 * (ss.length / 4))++[r]:=by
   rw[hd];exact List.take_of_length_le (by rw[List.length_append,hl,List.length_singleton];omega)
  rw[hq,hd0,hs,Zce,Zqc n ss r _ (by omega),ht,hlen]
theorem Z3r (R m now hi:Int) (name:ByteArray) (n:Nat) (ss:List ByteArray):(ZjT (Zc6 (stW R m now hi name n ss))).t = ZdA n ss:=by
 have hl:(ss.drop (4 * (ss.length / 4))).length = ss.length % 4:=by rw[List.length_drop];omega
 unfold Zc6
 by_cases c:(stW R m now hi name n ss).wt = []
 ·rw[if_pos c]
  have c':ss.length % 4 = 0:=by
   rw[←hl]
   have:ss.drop (4 * (ss.length / 4)) = []:=c
   rw[this];rfl
  show Zce n ss (ss.length / 4)++ZH ss.length (Zbd 0#32 (Z7 ss)) = ZdA n ss
  unfold ZdA
  rw[show (ss.length + 3) / 4 = ss.length / 4 by omega]
 ·rw[if_neg c]
  have c':ss.length % 4≠0:=fun e=>c (by rw[←hl] at e;exact List.length_eq_zero_iff.1 e)
  show (Zce n ss (ss.length / 4)++ZZ (ss.drop (4 * (ss.length / 4))))++ZH ss.length (Zbd 0#32 (Z7 ss)) = ZdA n ss
  unfold ZdA
  rw[show (ss.length + 3) / 4 = ss.length / 4 + 1 by omega,Zce]
  have ht:(ss.drop (4 * (ss.length / 4))).take 4 = ss.drop (4 * (ss.length / 4)):=List.take_of_length_le (by rw[hl];omega)
  rw[ht]
theorem Zt8 {R m now hi:Int} {name:ByteArray} {n:Nat} {ss:List ByteArray} (h1:1≤n) (h2:n≤64) (hr:Zbp name = true) (hn:name.size≤100) (hR:R≤16777216) (ha:∀ s∈ss,s.size = n):WOk (stW R m now hi name n ss):=
 ⟨hr,hn,h1,h2,hR,by show (ss.drop (4 * (ss.length / 4))).length≤4;rw[List.length_drop];omega,fun s hs=>ha s (List.mem_of_mem_drop hs)⟩
section disk
variable {h:Za} {d mb:Nat} {D:Dsk} {R:Int} {t name:ByteArray} {k:Int}
theorem Z03 (A:DiskAt h d mb D [(name,t,k)]) (U:UpW D R t) (hr:Zbp name = true) (hn:name.size≤100):
  ∃ g D',ZfD (.ptr d 0) name h = some (.tup [.lit (.int .i64 (t.size:Int)),.lit (.int .i64 0)],g)∧DiskAt g d mb D' [(name,t,k)]∧UpW D' R t∧Keep h.length [d,mb] h g:=by
 obtain ⟨g,e1,H1,T1,l1⟩:=ZtD A.dh name (by omega)
 rw[Ze7 U hr] at e1
 rw[ZeZ hr] at H1
 exact ⟨g,_,e1,H1.disk,U.call,H1.keep⟩
theorem Z1c (A:DiskAt h d mb D [(name,t,k)]) (U:UpW D R t) (hr:Zbp name = true) (hn:name.size≤100) (ht:t.size≤16777216):
  ∃ g D',ZfE (.ptr d 0) name 0 (t.size:Int) h = some (.tup [.lit (.string t),.lit (.int .i64 0)],g)∧DiskAt g d mb D' [(name,t,k)]∧UpW D' R t∧Keep h.length [d,mb] h g:=by
 have hmin:decide (ZbB 0 (t.size:Int)≥0) = true:=decide_eq_true (by unfold ZbB;split<;>omega)
 obtain ⟨g,e1,H1,T1,l1⟩:=ZtZ A.dh name 0 (t.size:Int) (by omega) (by rw[hmin,Ze7 U hr];show t.size≤_;omega)
 have hrd:ZgJ D [(name,t,k)] name 0 (t.size:Int) = (t,0):=by
  unfold ZgJ
  simp only[hmin,Ze7 U hr]
  simp
 rw[hrd] at e1
 rw[hmin,ZeZ hr] at H1
 exact ⟨g,_,e1,H1.disk,U.call,H1.keep⟩
theorem Z1V (R:Int):UpW (Ze4 R) R ⟨#[]⟩:=⟨rfl,rfl,rfl,rfl⟩
end disk
theorem Zqj (g:Za):Zv (ZcS (.lit (.pointer none)) g) g = some (.lit (.bool false)):=by
 have:ZcS (.lit (.pointer none)) g = some (.lit (.bool false),g):=by
  rw[ZkA]
  refine bd rfl (cF rfl ?_)
  rw[ZkB]
 rw[this];exact ZbI _ _
theorem Z2a (h:Za):Zeg (.lit (.pointer none)) h = some (.tup [],h):=by
 rw[ZkD]
 exact bd (Zqj h) (bd rfl (cF rfl rfl))
theorem Z1Q (h:Za) (r:ByteArray):ZeI (.lit (.pointer none)) r h = some (.lit (.int .i64 14),h):=by
 rw[ZkC]
 exact bd (Zqj h) (bd rfl (cT rfl rfl))
theorem Z2b (h:Za):Zv (ZfA (.lit (.pointer none)) h) h = some (.lit (.int .i64 0)):=by
 have:ZfA (.lit (.pointer none)) h = some (.lit (.int .i64 0),h):=by
  rw[Zwc]
  exact bd rfl (cT rfl rfl)
 rw[this];exact ZbI _ _
theorem ZsU {h:Za} {w:AVal} (hp:AVal.parts w = some [w]) (hg:∀ g,Grow h g→Zv (ZcS w g) g = some (.lit (.bool false))):
  ∃ g,ZeJ w h = some (.tup [.agg [.lit (.int .i64 0),.lit (.int .u32 0)],.lit (.int .i64 14)],g)∧Grow h g:=by
 obtain ⟨h2,hh2⟩:∃ h2,h2 = psh (psh h (.cells [w])) (.cells [.lit (.int .i64 0),.lit (.int .u32 0)]):=⟨_,rfl⟩
 have lb:(psh h (.cells [w])).length = h.length + 1:=Zbm _ _
 have G2:Grow h h2:=by rw[hh2];exact ((Grow.refl h).psh _).psh _
 have ca:Zb h2 h.length = some [w]:=by rw[hh2];exact Zgg _ (ZU h _)
 have cb:Zb h2 (h.length + 1) = some [.lit (.int .i64 0),.lit (.int .u32 0)]:=by rw[hh2,←lb];exact ZU _ _
 refine ⟨h2.set (h.length + 1) (.cells [.lit (.int .i64 0),.lit (.int .u32 0)]),?_,G2.set (by omega)⟩
 have st3:stn 2 h2 (.ptr (h.length + 1) 0) [.lit (.int .i64 0),.lit (.int .u32 0)] = some (h2.set (h.length + 1) (.cells [.lit (.int .i64 0),.lit (.int .u32 0)])):=Zcn cb rfl rfl (by show 2≤2;omega)
 rw[ZkF]
 refine bd hp ?_
 rw[lb,←hh2]
 exact bd (Zc ca) (bd (hg h2 G2) (bd rfl (cT rfl (bd st3 (bd (Zbh (Zm cb) (by show 2≤2;omega)) rfl)))))
theorem ZxW {g:Za} {b:Nat} {cs:List AVal} (H:Zb g b = some cs) (h7:cs[7]? = some (.lit (.bool false))):Zv (ZcS (.ptr b 0) g) g = some (.lit (.bool false)):=by
 have:ZcS (.ptr b 0) g = some (.lit (.bool false),g):=by
  rw[ZkA]
  refine bd rfl (cT rfl (bd rfl (bd rfl (bd ((Zc H).trans h7) (bd rfl ?_)))))
  rw[ZkB]
 rw[this];exact ZbI _ _
end Go.Proofs.YtogaiomakhapmaaGreat.AL
namespace Go.Proofs.YtogaiomakhapmaaGreat.AL
set_option maxRecDepth 100000
open Go
open Go.Proofs.Tryz
noncomputable def ZbN:XE:={ T:=Zn [(3,r3),(4,r4),(9,r9),(25,r25),(26,r26),(52,r52),(54,r54),(59,r59),(65,r65),(67,r67),(102,r102),(104,ZeS)],C:=[(7,ZlB),(27,ZlQ),(28,ZlA),(31,Zl7),(33,Zl8),(35,ZgA),(37,Zl9),(39,ZlD),(40,ZlE),(70,Zpn)],D:=[],Ms:=[],Ml:=[],Mo:=[(12006,[7,8,11,13,15,17,65]),(12010,[7,11,13,15,17,69]),(12015,[11,13,15,17,74]),(12021,[13,15,17,80]),(12025,[13,17,84]),(12029,[13,88]),(12034,[13,93]),(12039,[98])],n:=99}
theorem Z9R:XE.Ok ZbN Tryz.prog:=⟨Zp (⟨Z0,⟨Z1,⟨Zz,⟨ZbQ,⟨ZbE,⟨Zby,⟨ZcN,⟨Zex,⟨Zci,⟨Zdg,⟨Zez,⟨Zfu,trivial⟩⟩⟩⟩⟩⟩⟩⟩⟩⟩⟩⟩),(⟨Ztb,⟨Zto,⟨Zta,⟨ZsX,⟨ZsY,⟨Zjm,⟨ZsZ,⟨Ztc,⟨Ztd,⟨Zz2,trivial⟩⟩⟩⟩⟩⟩⟩⟩⟩⟩),Zq,trivial⟩
noncomputable def c26:Code:=ZP f26
noncomputable def Zsp (h:Za):Option (AVal×Za):=Zt ZbN f26 [] h
noncomputable def ZnE (x7:Nat) (g8:Int) (s11:ByteArray) (none13:AVal) (h15:Int) (i17:Int) (t65:Bool) (h:Za):Option (AVal×Za):=jo ZbN 12 (Zk (ca (cb (cb (cb (cb (cb (cb (cb (cb (cb (cb (cb (cb c26)))))))))))))) ((Zk (ca (cb (cb (cb (cb (cb (cb (cb (cb (cb (cb (cb (cb c26)))))))))))))).toList.drop 6) 6 [(7,(.ptr x7 0)),(8,(.lit (.int .i64 g8))),(11,(.lit (.string s11))),(13,none13),(15,(.lit (.int .i64 h15))),(17,(.lit (.int .i64 i17))),(65,(.lit (.bool t65)))] h (kN (Zi ZbN (cb (cb (cb (cb (cb (cb (cb (cb (cb (cb (cb (cb (cb c26))))))))))))) (Zj ZbN f26)))
noncomputable def Zso (x7:Nat) (s11:ByteArray) (none13:AVal) (h15:Int) (i17:Int) (t69:Bool) (h:Za):Option (AVal×Za):=jo ZbN 12 (Zk (ca (cb (cb (cb (cb (cb (cb (cb (cb (cb (cb (cb (cb c26)))))))))))))) ((Zk (ca (cb (cb (cb (cb (cb (cb (cb (cb (cb (cb (cb (cb c26)))))))))))))).toList.drop 10) 10 [(7,(.ptr x7 0)),(11,(.lit (.string s11))),(13,none13),(15,(.lit (.int .i64 h15))),(17,(.lit (.int .i64 i17))),(69,(.lit (.bool t69)))] h (kN (Zi ZbN (cb (cb (cb (cb (cb (cb (cb (cb (cb (cb (cb (cb (cb c26))))))))))))) (Zj ZbN f26)))
noncomputable def Zsn (s11:ByteArray) (none13:AVal) (h15:Int) (i17:Int) (t74:Bool) (h:Za):Option (AVal×Za):=jo ZbN 12 (Zk (ca (cb (cb (cb (cb (cb (cb (cb (cb (cb (cb (cb (cb c26)))))))))))))) ((Zk (ca (cb (cb (cb (cb (cb (cb (cb (cb (cb (cb (cb (cb c26)))))))))))))).toList.drop 15) 15 [(11,(.lit (.string s11))),(13,none13),(15,(.lit (.int .i64 h15))),(17,(.lit (.int .i64 i17))),(74,(.lit (.bool t74)))] h (kN (Zi ZbN (cb (cb (cb (cb (cb (cb (cb (cb (cb (cb (cb (cb (cb c26))))))))))))) (Zj ZbN f26)))
noncomputable def Zsm (none13:AVal) (h15:Int) (i17:Int) (t80:Bool) (h:Za):Option (AVal×Za):=jo ZbN 12 (Zk (ca (cb (cb (cb (cb (cb (cb (cb (cb (cb (cb (cb (cb c26)))))))))))))) ((Zk (ca (cb (cb (cb (cb (cb (cb (cb (cb (cb (cb (cb (cb c26)))))))))))))).toList.drop 21) 21 [(13,none13),(15,(.lit (.int .i64 h15))),(17,(.lit (.int .i64 i17))),(80,(.lit (.bool t80)))] h (kN (Zi ZbN (cb (cb (cb (cb (cb (cb (cb (cb (cb (cb (cb (cb (cb c26))))))))))))) (Zj ZbN f26)))
noncomputable def Zsl (none13:AVal) (i17:Int) (t84:Bool) (h:Za):Option (AVal×Za):=jo ZbN 12 (Zk (ca (cb (cb (cb (cb (cb (cb (cb (cb (cb (cb (cb (cb c26)))))))))))))) ((Zk (ca (cb (cb (cb (cb (cb (cb (cb (cb (cb (cb (cb (cb c26)))))))))))))).toList.drop 25) 25 [(13,none13),(17,(.lit (.int .i64 i17))),(84,(.lit (.bool t84)))] h (kN (Zi ZbN (cb (cb (cb (cb (cb (cb (cb (cb (cb (cb (cb (cb (cb c26))))))))))))) (Zj ZbN f26)))
noncomputable def Zsk (none13:AVal) (t88:Bool) (h:Za):Option (AVal×Za):=jo ZbN 12 (Zk (ca (cb (cb (cb (cb (cb (cb (cb (cb (cb (cb (cb (cb c26)))))))))))))) ((Zk (ca (cb (cb (cb (cb (cb (cb (cb (cb (cb (cb (cb (cb c26)))))))))))))).toList.drop 29) 29 [(13,none13),(88,(.lit (.bool t88)))] h (kN (Zi ZbN (cb (cb (cb (cb (cb (cb (cb (cb (cb (cb (cb (cb (cb c26))))))))))))) (Zj ZbN f26)))
noncomputable def Zsj (none13:AVal) (t93:Bool) (h:Za):Option (AVal×Za):=jo ZbN 12 (Zk (ca (cb (cb (cb (cb (cb (cb (cb (cb (cb (cb (cb (cb c26)))))))))))))) ((Zk (ca (cb (cb (cb (cb (cb (cb (cb (cb (cb (cb (cb (cb c26)))))))))))))).toList.drop 34) 34 [(13,none13),(93,(.lit (.bool t93)))] h (kN (Zi ZbN (cb (cb (cb (cb (cb (cb (cb (cb (cb (cb (cb (cb (cb c26))))))))))))) (Zj ZbN f26)))
noncomputable def Zsi (t98:Bool) (h:Za):Option (AVal×Za):=jo ZbN 12 (Zk (ca (cb (cb (cb (cb (cb (cb (cb (cb (cb (cb (cb (cb c26)))))))))))))) ((Zk (ca (cb (cb (cb (cb (cb (cb (cb (cb (cb (cb (cb (cb c26)))))))))))))).toList.drop 39) 39 [(98,(.lit (.bool t98)))] h (kN (Zi ZbN (cb (cb (cb (cb (cb (cb (cb (cb (cb (cb (cb (cb (cb c26))))))))))))) (Zj ZbN f26)))
theorem Z8t (h:Za):Zsp h =
 (Zhl 100 h).bind fun r1=>
 (Z6 r1.1 0).bind fun x2=>
 (Z6 r1.1 1).bind fun x3=>
 (asI .i64 x3).bind fun n4=>
 (Zhx 9 r1.2).bind fun r5=>
 (Zdv x2 r5.1 (⟨#[97]⟩:ByteArray) 1 r5.2).bind fun r6=>
 (Z6 r6.1 0).bind fun x8=>
 (Z6 r6.1 1).bind fun x9=>
 (asI .i64 x9).bind fun n10=>
 (ZeI x8 (⟨#[97]⟩:ByteArray) r6.2).bind fun r11=>
 (asI .i64 r11.1).bind fun n12=>
 (ZeJ x8 r11.2).bind fun r13=>
 (Z6 r13.1 0).bind fun x14=>
 (asA x14).bind fun xs15=>
 (Z6 r13.1 1).bind fun x16=>
 (asI .i64 x16).bind fun n17=>
 (stn 2 ((psh r13.2 (.cells [(.lit (.int .i64 0)),(.lit (.int .u32 0))]))) (.ptr r13.2.length 0) xs15).bind fun h18=>
 (ZfD x2 (⟨#[97]⟩:ByteArray) h18).bind fun r19=>
 (Z6 r19.1 0).bind fun x20=>
 (asI .i64 x20).bind fun n21=>
 (Z6 r19.1 1).bind fun x22=>
 (asI .i64 x22).bind fun n23=>
 (ZfE x2 (⟨#[97]⟩:ByteArray) 0 n21 r19.2).bind fun r24=>
 (Z6 r24.1 0).bind fun x25=>
 (asS x25).bind fun s26=>
 (Z6 r24.1 1).bind fun x27=>
 (asI .i64 x27).bind fun n28=>
 (Zeg ((.lit (.pointer none))) r24.2).bind fun r29=>
 (ZeJ ((.lit (.pointer none))) r29.2).bind fun r30=>
 (Z6 r30.1 0).bind fun x31=>
 (asA x31).bind fun xs32=>
 (Z6 r30.1 1).bind fun x33=>
 (asI .i64 x33).bind fun n34=>
 (stn 2 ((psh r30.2 (.cells [(.lit (.int .i64 0)),(.lit (.int .u32 0))]))) (.ptr r30.2.length 0) xs32).bind fun h35=>
 (ZeJ (.ptr h35.length 0) ((psh h35 (.cells ([(.lit (.pointer none)),(.lit (.string ({ data:=#[]}))),(.lit (.pointer none)),(.lit (.int .i64 0)),(.lit (.slice none 0 0)),(.lit (.int .i64 0)),(.lit (.int .u32 0)),(.lit (.bool false))]))))).bind fun r36=>
 (Z6 r36.1 0).bind fun x37=>
 (asA x37).bind fun xs38=>
 (Z6 r36.1 1).bind fun x39=>
 (asI .i64 x39).bind fun n40=>
 (stn 2 ((psh r36.2 (.cells [(.lit (.int .i64 0)),(.lit (.int .u32 0))]))) (.ptr r36.2.length 0) xs38).bind fun h41=>
 bif (decide (n10 = 0)) then (ZnE r13.2.length n17 s26 ((.lit (.pointer none))) n34 n40 (decide (n12 = 0)) h41)
 else (ZnE r13.2.length n17 s26 ((.lit (.pointer none))) n34 n40 false h41):=by kernel_rfl
theorem Z82 (x7:Nat) (g8:Int) (s11:ByteArray) (none13:AVal) (h15:Int) (i17:Int) (t65:Bool) (h:Za):ZnE x7 g8 s11 none13 h15 i17 t65 h =
 bif t65 then (Zso x7 s11 none13 h15 i17 (decide (g8 = 0)) h)
 else (Zso x7 s11 none13 h15 i17 false h):=(ZV ..).trans (by kernel_rfl)
theorem Z81 (x7:Nat) (s11:ByteArray) (none13:AVal) (h15:Int) (i17:Int) (t69:Bool) (h:Za):Zso x7 s11 none13 h15 i17 t69 h =
 bif t69 then ((ld1 h (.ptr x7 0)).bind fun x42=>
 (asI .i64 x42).bind fun n43=>
 Zsn s11 none13 h15 i17 (decide (n43 = 1)) h)
 else (Zsn s11 none13 h15 i17 false h):=(ZV ..).trans (by kernel_rfl)
theorem Z80 (s11:ByteArray) (none13:AVal) (h15:Int) (i17:Int) (t74:Bool) (h:Za):Zsn s11 none13 h15 i17 t74 h =
 bif t74 then ((ZbW 1 [(.lit (.string ({ data:=#[]})))] 1 [(0,(.lit (.string (⟨#[97]⟩:ByteArray))))] h).bind fun r44=>
 (ZM (ZkU 1 r44.1 r44.2) r44.2).bind fun r45=>
 (asS r45).bind fun s46=>
 Zsm none13 h15 i17 (decide (s11 = s46)) r44.2)
 else (Zsm none13 h15 i17 false h):=(ZV ..).trans (by kernel_rfl)
theorem Z8z (none13:AVal) (h15:Int) (i17:Int) (t80:Bool) (h:Za):Zsm none13 h15 i17 t80 h =
 bif t80 then (Zsl none13 i17 (decide (h15 = 14)) h)
 else (Zsl none13 i17 false h):=(ZV ..).trans (by kernel_rfl)
theorem Z8y (none13:AVal) (i17:Int) (t84:Bool) (h:Za):Zsl none13 i17 t84 h =
 bif t84 then (Zsk none13 (decide (i17 = 14)) h)
 else (Zsk none13 false h):=(ZV ..).trans (by kernel_rfl)
theorem Z8x (none13:AVal) (t88:Bool) (h:Za):Zsk none13 t88 h =
 bif t88 then ((ZeI none13 (⟨#[97]⟩:ByteArray) h).bind fun r47=>
 (asI .i64 r47.1).bind fun n48=>
 Zsj none13 (decide (n48 = 14)) r47.2)
 else (Zsj none13 false h):=(ZV ..).trans (by kernel_rfl)
theorem Z8w (none13:AVal) (t93:Bool) (h:Za):Zsj none13 t93 h =
 bif t93 then ((Zv (ZfA none13 h) h).bind fun r49=>
 (asI .i64 r49).bind fun n50=>
 Zsi (decide (n50 = 0)) h)
 else (Zsi false h):=(ZV ..).trans (by kernel_rfl)
theorem Z8v (t98:Bool) (h:Za):Zsi t98 h =
 some ((.lit (.bool t98)),h):=(ZV ..).trans (by kernel_rfl)
theorem Z8u {h h':Za} {v:AVal} {R:AEnd→Za→Prop} (hx:Zsp h = some (v,h')) (hR:HOk h→h.length≤h'.length→ABody.AEnds h h' (.ret v) R):ACalls Tryz.prog 26 [] h R:=Zu Z9R Zo (i:=26) (by rfl) (by kernel_rfl) (by kernel_rfl) hx hR
abbrev aW:ByteArray:={ data:=#[97]}
theorem ZdL:Zbp aW = true:=by decide +kernel
theorem Zrd {m:Int} (hm:0≤m) (h:Za):Zhx m h = some (.ptr h.length 0,psh h (.cells (Zbl m 0 0))):=by
 rw[Zxf]
 exact cF (decide_eq_false (by omega)) rfl
theorem Zj5 (g:Za) (c:Int) (s:BitVec 32):stn 2 (psh g (.cells [.lit (.int .i64 0),.lit (.int .u32 0)])) (.ptr g.length 0) [.lit (.int .i64 c),.lit (.int .u32 (u32 s))] = some ((psh g (.cells [.lit (.int .i64 0),.lit (.int .u32 0)])).set g.length (.cells [.lit (.int .i64 c),.lit (.int .u32 (u32 s))])):=
 Zcn (ZU _ _) rfl rfl (by show 2≤2;omega)
theorem ZpQ (g:Za) (c:Int) (s:BitVec 32):Zb ((psh g (.cells [.lit (.int .i64 0),.lit (.int .u32 0)])).set g.length (.cells [.lit (.int .i64 c),.lit (.int .u32 (u32 s))])) g.length = some [.lit (.int .i64 c),.lit (.int .u32 (u32 s))]:=Zm (ZU _ _)
theorem Zj6 (g:Za) (cs:List AVal):Grow g ((psh g (.cells [.lit (.int .i64 0),.lit (.int .u32 0)])).set g.length (.cells cs)):=((Grow.refl g).psh _).set (Nat.le_refl _)
theorem Grow.same {h g:Za} (G:Grow h g) {c:Nat} (hc:c < h.length):g[c]? = h[c]?:=Keep.get G c hc (fun h=>by cases h)
theorem Z41 (x7:Nat) (t s:ByteArray) (h:Za) (hx:Zb h x7 = some [.lit (.int .i64 1),.lit (.int .u32 (u32 (Zbd 0#32 (Z7 [aW]))))]) (ht:t = ZdA 1 [aW]):
  ∃ g,ZnE x7 0 t (.lit (.pointer none)) 14 14 true h = some (.lit (.bool true),g):=by
 subst ht
 have hc:Zb (h++[.cells [.lit (.string aW)]]) h.length = some [.lit (.string aW)]:=ZU h _
 have S:Sl 1 (h++[.cells [.lit (.string aW)]]) (.sl 1 h.length 0 1) [aW].length (ZX [aW]):=Sl.own hc rfl
 refine ⟨h++[.cells [.lit (.string aW)]],?_⟩
 rw[Z82]
 refine cT rfl ?_
 rw[Z81]
 refine cT rfl (bd (Zc hx) (bd rfl ?_))
 rw[Z80]
 refine cT rfl (bd (Zkf _ _ _) (bd (Z0O (n:=1) S (by show 1≤1000;omega) (by omega) (by omega) (fun s hs=>by rw[List.mem_singleton.1 hs];rfl)) (bd rfl ?_)))
 rw[decide_eq_true rfl,Z8z]
 refine cT rfl ?_
 rw[Z8y]
 refine cT rfl ?_
 rw[Z8x]
 refine cT rfl (bd (Z1Q _ _) (bd rfl ?_))
 rw[Z8w]
 refine cT rfl (bd (Z2b _) (bd rfl ?_))
 rw[Z8v]
 rfl
theorem Z43 (h:Za):∃ g,Zsp h = some (.lit (.bool true),g):=by
 obtain ⟨h1,e1,A1,k1,l1⟩:=Zu9 h (room:=100) (by omega) (by omega)
 obtain ⟨h2,hh2⟩:∃ h2,h2 = psh h1 (.cells (Zbl 9 0 0)):=⟨_,rfl⟩
 have B2:Zb h2 h1.length = some (Zbl 9 0 0):=by rw[hh2];exact ZU _ _
 have A2:DiskAt h2 (h.length + 1) h.length (Ze4 100) []:=A1.keep (n:=h1.length) (X:=[]) (by rw[hh2];exact Keep.psh _ (Nat.le_refl _)) ⟨by omega,by simp⟩ ⟨by omega,by simp⟩
 obtain ⟨g3,wp,e3,S3,l3,lw,k3⟩:=ZyR (name:=aW) (n:=1) A2 (Z1V 100) B2 ⟨by omega,by omega⟩ (by omega) (by omega) ZdL (by decide) (by omega) (by omega) (by omega) (by omega) (by omega)
 rw[Z1Z] at S3
 have O3:WOk (stW 100 9 (0 + 4) (Zs 0 (0 + 4)) aW 1 []):=Zt8 (by omega) (by omega) ZdL (by decide) (by omega) (fun s hs=>by cases hs)
 obtain ⟨g4,v4,e4,S4,F4⟩:=ZyL S3 O3 rfl (r:=aW) rfl (by show 0 < 4;omega) (by show 0≤1000;omega) (by
  show ((Zce 1 [] 0).size:Int) + ((1 * 1 + 5:Nat):Int)≤100
  rw[Zce,Zfy];omega)
 rw[Z1u,List.nil_append] at S4
 have O4:WOk (stW 100 9 (0 + 4) (Zs 0 (0 + 4)) aW 1 [aW]):=Zt8 (by omega) (by omega) ZdL (by decide) (by omega) (fun s hs=>by rw[List.mem_singleton.1 hs];rfl)
 obtain ⟨g5,v5,e5,S5,F5⟩:=ZyS S4 O4 rfl (by show 1≤1000;omega) (by show (4:Int)≤0 + 4;omega) (by show (0:Int) + 4≤_;omega) (by
  show ((Zce 1 [aW] 0).size:Int) + ((1 * 1 + 22:Nat):Int)≤100
  rw[Zce,Zfy];omega)
 obtain ⟨g6,hg6⟩:∃ g6,g6 = (psh g5 (.cells [.lit (.int .i64 0),.lit (.int .u32 0)])).set g5.length (.cells [.lit (.int .i64 1),.lit (.int .u32 (u32 (Zbd 0#32 (Z7 [aW]))))]):=⟨_,rfl⟩
 have G6:Grow g5 g6:=by rw[hg6];exact Zj6 _ _
 have c6:Zb g6 g5.length = some [.lit (.int .i64 1),.lit (.int .u32 (u32 (Zbd 0#32 (Z7 [aW]))))]:=by rw[hg6];exact ZpQ _ _ _
 obtain ⟨S6,F6⟩:=S5.far G6.len fun c hc=>G6.same hc
 obtain ⟨D6,A6,U6⟩:=S6.A
 have ht:(ZlZ (ZjT (Zc6 (stW 100 9 (0 + 4) (Zs 0 (0 + 4)) aW 1 [aW])))).t = ZdA 1 [aW]:=Z3r ..
 have hn:(ZlZ (ZjT (Zc6 (stW 100 9 (0 + 4) (Zs 0 (0 + 4)) aW 1 [aW])))).name = aW:=by
  unfold Zc6;split<;>rfl
 have hR:(ZlZ (ZjT (Zc6 (stW 100 9 (0 + 4) (Zs 0 (0 + 4)) aW 1 [aW])))).R = 100:=by
  unfold Zc6;split<;>rfl
 rw[ht,hn] at A6
 rw[ht,hR] at U6
 obtain ⟨g7,D7,e7,A7,U7,K7⟩:=Z03 A6 U6 ZdL (by decide)
 have hsz:(ZdA 1 [aW]).size≤16777216:=by
  have:=ZjB (ss:=[aW]) (n:=1) (fun s hs=>by rw[List.mem_singleton.1 hs];rfl) (by omega) 1
  show (Zce 1 [aW] 1++ZH 1 (Zbd 0#32 (Z7 [aW]))).size≤_
  rw[ByteArray.size_append,Zhc];omega
 obtain ⟨g8,D8,e8,A8,U8,K8⟩:=Z1c A7 U7 ZdL (by decide) hsz
 have nin:g5.length∉[h.length + 1,h.length]:=by
  have i1:=S5.lt (c:=h.length + 1) (.inl rfl)
  simp only[List.mem_cons,List.not_mem_nil,or_false,not_or];omega
 have c7:=K7.cells (ZB c6) nin c6
 have c8:=K8.cells (ZB c7) nin c7
 obtain ⟨g9,e9,G9⟩:=ZsU (h:=g8) (w:=.lit (.pointer none)) rfl fun g _=>Zqj g
 have c9:=G9.cells c8
 obtain ⟨g10,hg10⟩:∃ g10,g10 = (psh g9 (.cells [.lit (.int .i64 0),.lit (.int .u32 0)])).set g9.length (.cells [.lit (.int .i64 0),.lit (.int .u32 (u32 0#32))]):=⟨_,rfl⟩
 have G10:Grow g9 g10:=by rw[hg10];exact Zj6 _ _
 have c10:=G10.cells c9
 have st10:stn 2 (psh g9 (.cells [.lit (.int .i64 0),.lit (.int .u32 0)])) (.ptr g9.length 0) [.lit (.int .i64 0),.lit (.int .u32 0)] = some g10:=by rw[hg10];exact Zj5 g9 0 0#32
 obtain ⟨g11,hg11⟩:∃ g11,g11 = psh g10 (.cells [.lit (.pointer none),.lit (.string { data:=#[]}),.lit (.pointer none),.lit (.int .i64 0),.lit (.slice none 0 0),.lit (.int .i64 0),.lit (.int .u32 0),.lit (.bool false)]):=⟨_,rfl⟩
 have cz:Zb g11 g10.length = some [.lit (.pointer none),.lit (.string { data:=#[]}),.lit (.pointer none),.lit (.int .i64 0),.lit (.slice none 0 0),.lit (.int .i64 0),.lit (.int .u32 0),.lit (.bool false)]:=by rw[hg11];exact ZU _ _
 have c11:Zb g11 g5.length = some [.lit (.int .i64 1),.lit (.int .u32 (u32 (Zbd 0#32 (Z7 [aW]))))]:=by rw[hg11];exact Zgg _ c10
 obtain ⟨g12,e12,G12⟩:=ZsU (h:=g11) (w:=.ptr g10.length 0) rfl fun g G=>ZxW (G.cells cz) rfl
 have c12:=G12.cells c11
 obtain ⟨g13,hg13⟩:∃ g13,g13 = (psh g12 (.cells [.lit (.int .i64 0),.lit (.int .u32 0)])).set g12.length (.cells [.lit (.int .i64 0),.lit (.int .u32 (u32 0#32))]):=⟨_,rfl⟩
 have G13:Grow g12 g13:=by rw[hg13];exact Zj6 _ _
 have c13:=G13.cells c12
 have st13:stn 2 (psh g12 (.cells [.lit (.int .i64 0),.lit (.int .u32 0)])) (.ptr g12.length 0) [.lit (.int .i64 0),.lit (.int .u32 0)] = some g13:=by rw[hg13];exact Zj5 g12 0 0#32
 obtain ⟨gE,eE⟩:=Z41 g5.length (ZdA 1 [aW]) (ZdA 1 [aW]) g13 c13 rfl
 refine ⟨gE,?_⟩
 rw[Z8t]
 refine bd e1 (bd rfl (bd rfl (bd rfl (bd (Zrd (by omega) h1) ?_))))
 rw[←hh2]
 refine bd e3 (bd rfl (bd rfl (bd rfl (bd e4 (bd rfl (bd e5 (bd rfl (bd rfl (bd rfl (bd rfl ?_))))))))))
 refine bd (a:=g6) (by rw[hg6];exact Zj5 g5 1 _) ?_
 refine bd e7 (bd rfl (bd rfl (bd rfl (bd rfl (bd e8 (bd rfl (bd rfl (bd rfl (bd rfl (bd (Z2a g8) (bd e9 (bd rfl (bd rfl (bd rfl (bd rfl (bd st10 ?_))))))))))))))))
 rw[←hg11]
 refine bd e12 (bd rfl (bd rfl (bd rfl (bd rfl (bd st13 (cT rfl ?_))))))
 exact eE
theorem Z42 (h:Za):ACalls Tryz.prog 26 [] h fun e g=>e = .ret (.lit (.bool true))∧g = h:=by
 obtain ⟨g,e⟩:=Z43 []
 exact Zkn rfl rfl ((Z8u e selfR).mono fun e g h=>h.1) h
end Go.Proofs.YtogaiomakhapmaaGreat.AL
namespace Go.Proofs.YtogaiomakhapmaaGreat.AL
set_option maxRecDepth 100000
open Go
open Go.Proofs.Tryz
noncomputable def ZiT:XE:={ T:=Zn [(3,r3),(4,r4),(9,r9),(29,r29),(43,r43),(45,r45),(88,r88)],C:=[],D:=[],Ms:=[],Ml:=[],Mo:=[(1006,[0,8])],n:=12}
theorem Z9G:XE.Ok ZiT Tryz.prog:=⟨Zp (⟨Z0,⟨Z1,⟨Zz,⟨ZcE,⟨Zd5,⟨Zey,⟨Zd3,trivial⟩⟩⟩⟩⟩⟩⟩),trivial,Zq,trivial⟩
noncomputable def c8:Code:=ZP f8
noncomputable def ZiA (room0:Int) (h:Za):Option (AVal×Za):=Zt ZiT f8 [(.lit (.int .i64 room0))] h
noncomputable def Zsc (room0:Int) (t8:Bool) (h:Za):Option (AVal×Za):=jo ZiT 1 (Zk (ca (ca (cb c8)))) ((Zk (ca (ca (cb c8)))).toList.drop 6) 6 [(0,(.lit (.int .i64 room0))),(8,(.lit (.bool t8)))] h (kN (Zi ZiT (cb (ca (cb c8))) (Zi ZiT (cb (cb c8)) (Zj ZiT f8))))
theorem ZwT (room0:Int) (h:Za):ZiA room0 h =
 bif (decide (room0 < 0)) then (Zsc room0 true h)
 else (Zsc room0 (decide (room0 > 16777216)) h):=by kernel_rfl
theorem Zsb (room0:Int) (t8:Bool) (h:Za):Zsc room0 t8 h =
 bif t8 then (some ((.lit (.pointer none)),h))
 else (some ((.ptr h.length 0),(psh h (.cells ([(.lit (.int .i64 room0)),(.lit (.slice none 0 0)),(.lit (.int .i64 (-1))),(.lit (.bool false)),(.lit (.int .i64 0))]))))):=(ZV ..).trans (by kernel_rfl)
theorem Z7H {room0:Int} {h h':Za} {v:AVal} {R:AEnd→Za→Prop} (hx:ZiA room0 h = some (v,h')) (hR:HOk h→h.length≤h'.length→ABody.AEnds h h' (.ret v) R):ACalls Tryz.prog 8 [(.lit (.int .i64 room0))] h R:=Zu Z9G Zo (i:=8) (by rfl) (by kernel_rfl) (by kernel_rfl) hx hR
noncomputable def Zpt:XC:=.l fun R args h K=>match args with
 | [.lit (.int .i64 a0)]=>(ZiA a0 h).bind fun r=>K r.1 r.2
 |_=>none
theorem Zz5:XC.Nat Zpt∧XC.Ok Tryz.prog 8 Zpt:=by
 refine ⟨fun R args h K=>?_,tc8,fun args h v h' hx=>?_⟩
 ·dsimp only;split<;>simp[Option.bind_assoc,mkP]
 ·dsimp only at hx;split at hx
  ·obtain ⟨r,hopt,hx⟩:=Option.bind_eq_some_iff.1 hx
   simp only[mkP,Option.some.injEq,Prod.mk.injEq] at hx
   obtain ⟨rfl,rfl⟩:=hx
   exact (by obtain ⟨v,h'⟩:=r;exact Z7H hopt selfR)
  ·cases hx
noncomputable def ZbD:XE:={ T:=Zn [(3,r3),(4,r4),(5,r5),(9,r9)],C:=[],D:=[],Ms:=[(7,[0])],Ml:=[(2,[0,3])],Mo:=[(5006,[0,3,4,19]),(5014,[0,3,4,27]),(5018,[0,3,31]),(7008,[39])],n:=40}
theorem Echainmanref04_Right_ok:XE.Ok ZbD Tryz.prog:=⟨Zp (⟨Z0,⟨Z1,⟨ZdT,⟨Zz,trivial⟩⟩⟩⟩),trivial,Zq,trivial⟩
noncomputable def c46:Code:=ZP f46
noncomputable def Zgu (name0:ByteArray) (h:Za):Option (AVal×Za):=Zt ZbD f46 [(.lit (.string name0))] h
noncomputable def ZkZ (name0:ByteArray) (i3:Int) (h:Za):Option (AVal×Za):=Zl ZbD (.loop (ca (ca (cb (ca (cb c46)))))) (AVal×Za) [(0,(.lit (.string name0))),(3,(.lit (.int .i64 i3)))] h (ZW 0 (Zi ZbD (cb (cb c46)) (Zj ZbD f46)))
noncomputable def Zi9 (name0:ByteArray) (i3:Int) (c4:Int) (t19:Bool) (h:Za):Option (AVal×Za):=jo ZbD 5 (Zk (ca (cb (ca (ca (cb (ca (ca (cb (ca (cb c46))))))))))) ((Zk (ca (cb (ca (ca (cb (ca (ca (cb (ca (cb c46))))))))))).toList.drop 6) 6 [(0,(.lit (.string name0))),(3,(.lit (.int .i64 i3))),(4,(.lit (.int .u8 c4))),(19,(.lit (.bool t19)))] h (kN (Zi ZbD (cb (cb (ca (ca (cb (ca (ca (cb (ca (cb c46)))))))))) (ZW 1 (Zi ZbD (cb (cb (ca (ca (cb (ca (cb c46))))))) (Zdp ZbD (ca (ca (cb (ca (cb c46))))) (ZW 0 (Zi ZbD (cb (cb c46)) (Zj ZbD f46))))))))
noncomputable def ZwR (name0:ByteArray) (h:Za):Option (AVal×Za):=jn (Zl ZbD (cb (cb c46)) (AVal×Za) [(0,(.lit (.string name0)))] h (Zj ZbD f46))
noncomputable def ZkY (name0:ByteArray) (i3:Int) (c4:Int) (t27:Bool) (h:Za):Option (AVal×Za):=jo ZbD 5 (Zk (ca (cb (ca (ca (cb (ca (ca (cb (ca (cb c46))))))))))) ((Zk (ca (cb (ca (ca (cb (ca (ca (cb (ca (cb c46))))))))))).toList.drop 14) 14 [(0,(.lit (.string name0))),(3,(.lit (.int .i64 i3))),(4,(.lit (.int .u8 c4))),(27,(.lit (.bool t27)))] h (kN (Zi ZbD (cb (cb (ca (ca (cb (ca (ca (cb (ca (cb c46)))))))))) (ZW 1 (Zi ZbD (cb (cb (ca (ca (cb (ca (cb c46))))))) (Zdp ZbD (ca (ca (cb (ca (cb c46))))) (ZW 0 (Zi ZbD (cb (cb c46)) (Zj ZbD f46))))))))
noncomputable def Zsa (t39:Bool) (h:Za):Option (AVal×Za):=jo ZbD 7 (Zk (ca (cb (cb c46)))) ((Zk (ca (cb (cb c46)))).toList.drop 8) 8 [(39,(.lit (.bool t39)))] h (kN (Zi ZbD (cb (cb (cb c46))) (Zj ZbD f46)))
noncomputable def ZkX (name0:ByteArray) (i3:Int) (t31:Bool) (h:Za):Option (AVal×Za):=jo ZbD 5 (Zk (ca (cb (ca (ca (cb (ca (ca (cb (ca (cb c46))))))))))) ((Zk (ca (cb (ca (ca (cb (ca (ca (cb (ca (cb c46))))))))))).toList.drop 18) 18 [(0,(.lit (.string name0))),(3,(.lit (.int .i64 i3))),(31,(.lit (.bool t31)))] h (kN (Zi ZbD (cb (cb (ca (ca (cb (ca (ca (cb (ca (cb c46)))))))))) (ZW 1 (Zi ZbD (cb (cb (ca (ca (cb (ca (cb c46))))))) (Zdp ZbD (ca (ca (cb (ca (cb c46))))) (ZW 0 (Zi ZbD (cb (cb c46)) (Zj ZbD f46))))))))
theorem Z7B (name0:ByteArray) (h:Za):Zgu name0 h =
 ZkZ name0 0 h:=by kernel_rfl
theorem ZwS (name0:ByteArray) (i3:Int) (h:Za):ZkZ name0 i3 h =
 bif (decide (i3 < (name0.size:Int))) then ((ZgG name0 i3).bind fun n1=>
 bif (decide (n1 < 97)) then (Zi9 name0 i3 n1 true h)
 else (Zi9 name0 i3 n1 (decide (n1 > 122)) h))
 else (ZwR name0 h):=(ZbO ZbD Echainmanref04_Right_ok.C.nat _ _ _ _ _).trans (by kernel_rfl)
theorem Z7G (name0:ByteArray) (i3:Int) (c4:Int) (t19:Bool) (h:Za):Zi9 name0 i3 c4 t19 h =
 bif t19 then (bif (decide (c4 < 48)) then (ZkY name0 i3 c4 true h)
 else (ZkY name0 i3 c4 (decide (c4 > 57)) h))
 else (ZkY name0 i3 c4 false h):=(ZV ..).trans (by kernel_rfl)
theorem Z7F (name0:ByteArray) (h:Za):ZwR name0 h =
 bif (decide ((name0.size:Int)≥1)) then (Zsa (decide ((name0.size:Int)≤24)) h)
 else (Zsa false h):=(ZF _).trans (by kernel_rfl)
theorem Z7E (name0:ByteArray) (i3:Int) (c4:Int) (t27:Bool) (h:Za):ZkY name0 i3 c4 t27 h =
 bif t27 then (ZkX name0 i3 (!decide (c4 = 46)) h)
 else (ZkX name0 i3 false h):=(ZV ..).trans (by kernel_rfl)
theorem ZwQ (t39:Bool) (h:Za):Zsa t39 h =
 some ((.lit (.bool t39)),h):=(ZV ..).trans (by kernel_rfl)
theorem Z7D (name0:ByteArray) (i3:Int) (t31:Bool) (h:Za):ZkX name0 i3 t31 h =
 bif t31 then (some ((.lit (.bool false)),h))
 else (ZkZ name0 (IntKind.wrap .i64 (i3 + 1)) h):=(ZV ..).trans (by kernel_rfl)
theorem Z7C {name0:ByteArray} {h h':Za} {v:AVal} {R:AEnd→Za→Prop} (hx:Zgu name0 h = some (v,h')) (hR:HOk h→h.length≤h'.length→ABody.AEnds h h' (.ret v) R):ACalls Tryz.prog 46 [(.lit (.string name0))] h R:=Zu Echainmanref04_Right_ok Zo (i:=46) (by rfl) (by kernel_rfl) (by kernel_rfl) hx hR
noncomputable def Zjs:XC:=.q fun R args h K=>match args with
 | [.lit (.string a0)]=>(Zv (Zgu a0 h) h).bind fun r=>K r
 |_=>none
theorem Zps:XC.Nat Zjs∧XC.Ok Tryz.prog 46 Zjs:=by
 refine ⟨fun R args h K=>?_,tc46,fun args h v hx=>?_⟩
 ·dsimp only;split<;>simp[Option.bind_assoc,mkP]
 ·dsimp only at hx;split at hx
  ·obtain ⟨r,hopt,hx⟩:=Option.bind_eq_some_iff.1 hx
   cases hx
   exact (by have hopt:=Zc7 hopt;exact Z7C hopt selfR)
  ·cases hx
noncomputable def ZnR:XE:={ T:=Zn [(3,r3),(4,r4),(9,r9),(26,r26),(29,r29),(43,r43),(45,r45),(88,r88)],C:=[],D:=[],Ms:=[(6,[0])],Ml:=[],Mo:=[],n:=35}
theorem Z9H:XE.Ok ZnR Tryz.prog:=⟨Zp (⟨Z0,⟨Z1,⟨Zz,⟨ZbE,⟨ZcE,⟨Zd5,⟨Zey,⟨Zd3,trivial⟩⟩⟩⟩⟩⟩⟩⟩),trivial,Zq,trivial⟩
noncomputable def c45:Code:=ZP f45
noncomputable def ZfH (d0:AVal) (may1:Bool) (h:Za):Option (AVal×Za):=Zt ZnR f45 [d0,(.lit (.bool may1))] h
noncomputable def Zn3 (d0:AVal) (h:Za):Option (AVal×Za):=jn (Zl ZnR (cb (cb (cb (cb c45)))) (AVal×Za) [(0,d0)] h (Zj ZnR f45))
theorem Zsd (d0:AVal) (may1:Bool) (h:Za):ZfH d0 may1 h =
 bif (!may1) then (some ((.lit (.int .i64 1)),h))
 else ((Zg d0).bind fun p1=>
 (Zf 4 p1).bind fun p2=>
 (ld1 h p2).bind fun x3=>
 (asI .i64 x3).bind fun n4=>
 (Zg d0).bind fun p5=>
 (Zf 4 p5).bind fun p6=>
 (st1 h p6 (.lit (.int .i64 (IntKind.wrap .i64 (n4 + 1))))).bind fun h7=>
 (Zg d0).bind fun p8=>
 (Zf 2 p8).bind fun p9=>
 (ld1 h7 p9).bind fun x10=>
 (asI .i64 x10).bind fun n11=>
 bif (decide (n11 = 0)) then ((Zg d0).bind fun p12=>
 (Zf 3 p12).bind fun p13=>
 (st1 h7 p13 (.lit (.bool true))).bind fun h14=>
 Zn3 d0 h14)
 else (Zn3 d0 h7)):=by kernel_rfl
theorem Z7J (d0:AVal) (h:Za):Zn3 d0 h =
 (Zg d0).bind fun p15=>
 (Zf 2 p15).bind fun p16=>
 (ld1 h p16).bind fun x17=>
 (asI .i64 x17).bind fun n18=>
 (Zg d0).bind fun p19=>
 (Zf 2 p19).bind fun p20=>
 (st1 h p20 (.lit (.int .i64 (Zs (-1) (IntKind.wrap .i64 (n18 - 1)))))).bind fun h21=>
 (Zg d0).bind fun p22=>
 (Zf 3 p22).bind fun p23=>
 (ld1 h21 p23).bind fun x24=>
 (asB x24).bind fun b25=>
 bif b25 then (some ((.lit (.int .i64 5)),h21))
 else (some ((.lit (.int .i64 0)),h21)):=(ZF _).trans (by kernel_rfl)
theorem Z7I {d0:AVal} {may1:Bool} {h h':Za} {v:AVal} {R:AEnd→Za→Prop} (hx:ZfH d0 may1 h = some (v,h')) (hR:HOk h→h.length≤h'.length→ABody.AEnds h h' (.ret v) R):ACalls Tryz.prog 45 [d0,(.lit (.bool may1))] h R:=Zu Z9H Zo (i:=45) (by rfl) (by kernel_rfl) (by kernel_rfl) hx hR
noncomputable def Zjt:XC:=.l fun R args h K=>match args with
 | [a0,.lit (.bool a1)]=>(ZfH a0 a1 h).bind fun r=>K r.1 r.2
 |_=>none
theorem Zpu:XC.Nat Zjt∧XC.Ok Tryz.prog 45 Zjt:=by
 refine ⟨fun R args h K=>?_,tc45,fun args h v h' hx=>?_⟩
 ·dsimp only;split<;>simp[Option.bind_assoc,mkP]
 ·dsimp only at hx;split at hx
  ·obtain ⟨r,hopt,hx⟩:=Option.bind_eq_some_iff.1 hx
   simp only[mkP,Option.some.injEq,Prod.mk.injEq] at hx
   obtain ⟨rfl,rfl⟩:=hx
   exact (by obtain ⟨v,h'⟩:=r;exact Z7I hopt selfR)
  ·cases hx
noncomputable def Zg2:XE:={ T:=Zn [(3,r3),(4,r4),(9,r9),(29,r29),(43,r43),(45,r45),(88,r88)],C:=[],D:=[],Ms:=[(6,[])],Ml:=[(2,[0,1,5])],Mo:=[],n:=26}
theorem Echainmanref04_Disk_at_ok:XE.Ok Zg2 Tryz.prog:=⟨Zp (⟨Z0,⟨Z1,⟨Zz,⟨ZcE,⟨Zd5,⟨Zey,⟨Zd3,trivial⟩⟩⟩⟩⟩⟩⟩),trivial,Zq,trivial⟩
noncomputable def c49:Code:=ZP f49
noncomputable def ZfI (d0:AVal) (name1:ByteArray) (h:Za):Option (AVal×Za):=Zt Zg2 f49 [d0,(.lit (.string name1))] h
noncomputable def Zn4 (d0:AVal) (name1:ByteArray) (i5:Int) (h:Za):Option (AVal×Za):=Zl Zg2 (.loop (ca (ca (cb (ca (cb c49)))))) (AVal×Za) [(0,d0),(1,(.lit (.string name1))),(5,(.lit (.int .i64 i5)))] h (ZW 0 (Zi Zg2 (cb (cb c49)) (Zj Zg2 f49)))
noncomputable def ZwU (h:Za):Option (AVal×Za):=jn (Zl Zg2 (cb (cb c49)) (AVal×Za) [] h (Zj Zg2 f49))
theorem Z7K (d0:AVal) (name1:ByteArray) (h:Za):ZfI d0 name1 h =
 Zn4 d0 name1 0 h:=by kernel_rfl
theorem ZwV (d0:AVal) (name1:ByteArray) (i5:Int) (h:Za):Zn4 d0 name1 i5 h =
 (Zg d0).bind fun p1=>
 (Zf 1 p1).bind fun p2=>
 (ld1 h p2).bind fun x3=>
 (Zbb x3).bind fun n4=>
 bif (decide (i5 < n4)) then ((Zg d0).bind fun p5=>
 (Zf 1 p5).bind fun p6=>
 (ld1 h p6).bind fun x7=>
 (Zbc 3 x7 i5).bind fun p8=>
 (Zf 0 p8).bind fun p9=>
 (ld1 h p9).bind fun x10=>
 (asS x10).bind fun s11=>
 bif (decide (s11 = name1)) then (some ((.lit (.int .i64 i5)),h))
 else (Zn4 d0 name1 (IntKind.wrap .i64 (i5 + 1)) h))
 else (ZwU h):=(ZbO Zg2 Echainmanref04_Disk_at_ok.C.nat _ _ _ _ _).trans (by kernel_rfl)
theorem Z7M (h:Za):ZwU h =
 some ((.lit (.int .i64 (-1))),h):=(ZF _).trans (by kernel_rfl)
theorem Z7L {d0:AVal} {name1:ByteArray} {h h':Za} {v:AVal} {R:AEnd→Za→Prop} (hx:ZfI d0 name1 h = some (v,h')) (hR:HOk h→h.length≤h'.length→ABody.AEnds h h' (.ret v) R):ACalls Tryz.prog 49 [d0,(.lit (.string name1))] h R:=Zu Echainmanref04_Disk_at_ok Zo (i:=49) (by rfl) (by kernel_rfl) (by kernel_rfl) hx hR
noncomputable def ZhA:XC:=.q fun R args h K=>match args with
 | [a0,.lit (.string a1)]=>(Zv (ZfI a0 a1 h) h).bind fun r=>K r
 |_=>none
theorem ZlN:XC.Nat ZhA∧XC.Ok Tryz.prog 49 ZhA:=by
 refine ⟨fun R args h K=>?_,tc49,fun args h v hx=>?_⟩
 ·dsimp only;split<;>simp[Option.bind_assoc,mkP]
 ·dsimp only at hx;split at hx
  ·obtain ⟨r,hopt,hx⟩:=Option.bind_eq_some_iff.1 hx
   cases hx
   exact (by have hopt:=Zc7 hopt;exact Z7L hopt selfR)
  ·cases hx
noncomputable def ZxI:XE:={ T:=Zn [(3,r3),(4,r4),(9,r9),(29,r29)],C:=[(49,ZhA)],D:=[],Ms:=[],Ml:=[],Mo:=[],n:=9}
theorem Z9K:XE.Ok ZxI Tryz.prog:=⟨Zp (⟨Z0,⟨Z1,⟨Zz,⟨ZcE,trivial⟩⟩⟩⟩),(⟨ZlN,trivial⟩),Zq,trivial⟩
noncomputable def ZiC (d0:AVal) (name1:ByteArray) (h:Za):Option (AVal×Za):=Zt ZxI f47 [d0,(.lit (.string name1))] h
theorem Z7X (d0:AVal) (name1:ByteArray) (h:Za):ZiC d0 name1 h =
 (Zv (ZfI d0 name1 h) h).bind fun r1=>
 (asI .i64 r1).bind fun n2=>
 some ((.lit (.bool (decide (n2≥0)))),h):=by kernel_rfl
theorem Z7Y {d0:AVal} {name1:ByteArray} {h h':Za} {v:AVal} {R:AEnd→Za→Prop} (hx:ZiC d0 name1 h = some (v,h')) (hR:HOk h→h.length≤h'.length→ABody.AEnds h h' (.ret v) R):ACalls Tryz.prog 47 [d0,(.lit (.string name1))] h R:=Zu Z9K Zo (i:=47) (by rfl) (by kernel_rfl) (by kernel_rfl) hx hR
noncomputable def Zpz:XC:=.q fun R args h K=>match args with
 | [a0,.lit (.string a1)]=>(Zv (ZiC a0 a1 h) h).bind fun r=>K r
 |_=>none
theorem ZzA:XC.Nat Zpz∧XC.Ok Tryz.prog 47 Zpz:=by
 refine ⟨fun R args h K=>?_,tc47,fun args h v hx=>?_⟩
 ·dsimp only;split<;>simp[Option.bind_assoc,mkP]
 ·dsimp only at hx;split at hx
  ·obtain ⟨r,hopt,hx⟩:=Option.bind_eq_some_iff.1 hx
   cases hx
   exact (by have hopt:=Zc7 hopt;exact Z7Y hopt selfR)
  ·cases hx
noncomputable def ZxG:XE:={ T:=Zn [(3,r3),(4,r4),(9,r9),(29,r29),(43,r43),(45,r45),(88,r88)],C:=[(49,ZhA)],D:=[],Ms:=[],Ml:=[],Mo:=[],n:=19}
theorem Z9I:XE.Ok ZxG Tryz.prog:=⟨Zp (⟨Z0,⟨Z1,⟨Zz,⟨ZcE,⟨Zd5,⟨Zey,⟨Zd3,trivial⟩⟩⟩⟩⟩⟩⟩),(⟨ZlN,trivial⟩),Zq,trivial⟩
noncomputable def Zht (d0:AVal) (name1:ByteArray) (h:Za):Option (AVal×Za):=Zt ZxG f42 [d0,(.lit (.string name1))] h
theorem Z7N (d0:AVal) (name1:ByteArray) (h:Za):Zht d0 name1 h =
 (Zv (ZfI d0 name1 h) h).bind fun r1=>
 (asI .i64 r1).bind fun n2=>
 bif (decide (n2 < 0)) then (some ((.lit (.string (⟨#[]⟩:ByteArray))),h))
 else ((Zg d0).bind fun p3=>
 (Zf 1 p3).bind fun p4=>
 (ld1 h p4).bind fun x5=>
 (Zbc 3 x5 n2).bind fun p6=>
 (Zf 1 p6).bind fun p7=>
 (ld1 h p7).bind fun x8=>
 (asS x8).bind fun s9=>
 some ((.lit (.string s9)),h)):=by kernel_rfl
theorem Z7O {d0:AVal} {name1:ByteArray} {h h':Za} {v:AVal} {R:AEnd→Za→Prop} (hx:Zht d0 name1 h = some (v,h')) (hR:HOk h→h.length≤h'.length→ABody.AEnds h h' (.ret v) R):ACalls Tryz.prog 42 [d0,(.lit (.string name1))] h R:=Zu Z9I Zo (i:=42) (by rfl) (by kernel_rfl) (by kernel_rfl) hx hR
noncomputable def Zpv:XC:=.q fun R args h K=>match args with
 | [a0,.lit (.string a1)]=>(Zv (Zht a0 a1 h) h).bind fun r=>K r
 |_=>none
theorem Zz6:XC.Nat Zpv∧XC.Ok Tryz.prog 42 Zpv:=by
 refine ⟨fun R args h K=>?_,tc42,fun args h v hx=>?_⟩
 ·dsimp only;split<;>simp[Option.bind_assoc,mkP]
 ·dsimp only at hx;split at hx
  ·obtain ⟨r,hopt,hx⟩:=Option.bind_eq_some_iff.1 hx
   cases hx
   exact (by have hopt:=Zc7 hopt;exact Z7O hopt selfR)
  ·cases hx
noncomputable def Zg3:XE:={ T:=Zn [(3,r3),(4,r4),(9,r9),(29,r29),(43,r43),(45,r45),(88,r88)],C:=[],D:=[],Ms:=[(6,[3])],Ml:=[(3,[0,3,4])],Mo:=[],n:=26}
theorem Echainmanref04_Disk_Used_ok:XE.Ok Zg3 Tryz.prog:=⟨Zp (⟨Z0,⟨Z1,⟨Zz,⟨ZcE,⟨Zd5,⟨Zey,⟨Zd3,trivial⟩⟩⟩⟩⟩⟩⟩),trivial,Zq,trivial⟩
noncomputable def c24:Code:=ZP f24
noncomputable def ZiB (d0:AVal) (h:Za):Option (AVal×Za):=Zt Zg3 f24 [d0] h
noncomputable def Zla (d0:AVal) (n3:Int) (i4:Int) (h:Za):Option (AVal×Za):=Zl Zg3 (.loop (ca (ca (cb (ca (cb (cb c24))))))) (AVal×Za) [(0,d0),(3,(.lit (.int .i64 n3))),(4,(.lit (.int .i64 i4)))] h (ZW 0 (Zi Zg3 (cb (cb (cb c24))) (Zj Zg3 f24)))
noncomputable def ZwW (n3:Int) (h:Za):Option (AVal×Za):=jn (Zl Zg3 (cb (cb (cb c24))) (AVal×Za) [(3,(.lit (.int .i64 n3)))] h (Zj Zg3 f24))
theorem Z7P (d0:AVal) (h:Za):ZiB d0 h =
 Zla d0 0 0 h:=by kernel_rfl
theorem ZwX (d0:AVal) (n3:Int) (i4:Int) (h:Za):Zla d0 n3 i4 h =
 (Zg d0).bind fun p1=>
 (Zf 1 p1).bind fun p2=>
 (ld1 h p2).bind fun x3=>
 (Zbb x3).bind fun n4=>
 bif (decide (i4 < n4)) then ((Zg d0).bind fun p5=>
 (Zf 1 p5).bind fun p6=>
 (ld1 h p6).bind fun x7=>
 (Zbc 3 x7 i4).bind fun p8=>
 (Zf 1 p8).bind fun p9=>
 (ld1 h p9).bind fun x10=>
 (asS x10).bind fun s11=>
 Zla d0 (IntKind.wrap .i64 (n3 + (s11.size:Int))) (IntKind.wrap .i64 (i4 + 1)) h)
 else (ZwW n3 h):=(ZbO Zg3 Echainmanref04_Disk_Used_ok.C.nat _ _ _ _ _).trans (by kernel_rfl)
theorem Z7R (n3:Int) (h:Za):ZwW n3 h =
 some ((.lit (.int .i64 n3)),h):=(ZF _).trans (by kernel_rfl)
theorem Z7Q {d0:AVal} {h h':Za} {v:AVal} {R:AEnd→Za→Prop} (hx:ZiB d0 h = some (v,h')) (hR:HOk h→h.length≤h'.length→ABody.AEnds h h' (.ret v) R):ACalls Tryz.prog 24 [d0] h R:=Zu Echainmanref04_Disk_Used_ok Zo (i:=24) (by rfl) (by kernel_rfl) (by kernel_rfl) hx hR
noncomputable def Zpw:XC:=.q fun R args h K=>match args with
 | [a0]=>(Zv (ZiB a0 h) h).bind fun r=>K r
 |_=>none
theorem Zz7:XC.Nat Zpw∧XC.Ok Tryz.prog 24 Zpw:=by
 refine ⟨fun R args h K=>?_,tc24,fun args h v hx=>?_⟩
 ·dsimp only;split<;>simp[Option.bind_assoc,mkP]
 ·dsimp only at hx;split at hx
  ·obtain ⟨r,hopt,hx⟩:=Option.bind_eq_some_iff.1 hx
   cases hx
   exact (by have hopt:=Zc7 hopt;exact Z7Q hopt selfR)
  ·cases hx
noncomputable def Zg1:XE:={ T:=Zn [(3,r3),(4,r4),(9,r9),(43,r43),(88,r88)],C:=[],D:=[(3,⟨[],[0,1,2,3,4,5,6,7,8,9,10,11,12,13],[],[],[],[],[]⟩)],Ms:=[(6,[0,3,5,6])],Ml:=[(3,[0,3,5,6])],Mo:=[],n:=39}
theorem Echainmanref04_put_ok:XE.Ok Zg1 Tryz.prog:=⟨Zp (⟨Z0,⟨Z1,⟨Zz,⟨Zd5,⟨Zd3,trivial⟩⟩⟩⟩⟩),trivial,Zq,trivial⟩
noncomputable def c48:Code:=ZP f48
noncomputable def Zgt (l0:AVal) (f1:List AVal) (h:Za):Option (AVal×Za):=Zt Zg1 f48 [l0,(.agg f1)] h
noncomputable def Zn2 (l0:AVal) (f3:Nat) (out5:AVal) (i6:Int) (h:Za):Option (AVal×Za):=Zl Zg1 (.loop (ca (ca (ca (cb (cb (cb c48))))))) (AVal×Za) [(0,l0),(3,(.ptr f3 0)),(5,out5),(6,(.lit (.int .i64 i6)))] h (ZW 0 (Zi Zg1 (cb (cb (cb (cb c48)))) (Zj Zg1 f48)))
noncomputable def Zn1 (l0:AVal) (f3:Nat) (out5:AVal) (i6:Int) (h:Za):Option (AVal×Za):=jn (Zl Zg1 (cb (cb (cb (cb c48)))) (AVal×Za) [(0,l0),(3,(.ptr f3 0)),(5,out5),(6,(.lit (.int .i64 i6)))] h (Zj Zg1 f48))
theorem Z78 (l0:AVal) (f1:List AVal) (h:Za):Zgt l0 f1 h =
 Zn2 l0 h.length ((.lit (.slice none 0 0))) 0 ((psh h (.cells f1))):=by kernel_rfl
theorem ZrZ (l0:AVal) (f3:Nat) (out5:AVal) (i6:Int) (h:Za):Zn2 l0 f3 out5 i6 h =
 (Zbb l0).bind fun n1=>
 bif (decide (i6 < n1)) then ((Zbc 3 l0 i6).bind fun p2=>
 (Zf 0 p2).bind fun p3=>
 (ld1 h p3).bind fun x4=>
 (asS x4).bind fun s5=>
 (ld1 h (.ptr f3 0)).bind fun x6=>
 (asS x6).bind fun s7=>
 bif (ZdR s5 s7) then ((Zbc 3 l0 i6).bind fun p8=>
 (ldn 3 h p8).bind fun xs9=>
 (ZbW 3 [(.lit (.string ({ data:=#[]}))),(.lit (.string ({ data:=#[]}))),(.lit (.int .i64 0))] 1 [(0,(.agg xs9))] h).bind fun r10=>
 (ZbY 3 40 r10.2 out5 r10.1).bind fun r11=>
 Zn2 l0 f3 r11.1 (IntKind.wrap .i64 (i6 + 1)) r11.2)
 else (Zn1 l0 f3 out5 i6 h))
 else (Zn1 l0 f3 out5 i6 h):=(ZbO Zg1 Echainmanref04_put_ok.C.nat _ _ _ _ _).trans (by kernel_rfl)
theorem Z7A (l0:AVal) (f3:Nat) (out5:AVal) (i6:Int) (h:Za):Zn1 l0 f3 out5 i6 h =
 (ldn 3 h (.ptr f3 0)).bind fun xs12=>
 (ZbW 3 [(.lit (.string ({ data:=#[]}))),(.lit (.string ({ data:=#[]}))),(.lit (.int .i64 0))] 1 [(0,(.agg xs12))] h).bind fun r13=>
 (ZbY 3 40 r13.2 out5 r13.1).bind fun r14=>
 (ZcQ 3 l0 (some i6) none none).bind fun v15=>
 (ZbY 3 40 r14.2 r14.1 v15).bind fun r16=>
 some (r16.1,r16.2):=(ZF _).trans (by kernel_rfl)
theorem Z79 {l0:AVal} {f1:List AVal} {h h':Za} {v:AVal} {R:AEnd→Za→Prop} (hx:Zgt l0 f1 h = some (v,h')) (hR:HOk h→h.length≤h'.length→ABody.AEnds h h' (.ret v) R):ACalls Tryz.prog 48 [l0,(.agg f1)] h R:=Zu Echainmanref04_put_ok Zo (i:=48) (by rfl) (by kernel_rfl) (by kernel_rfl) hx hR
noncomputable def Zjr:XC:=.l fun R args h K=>match args with
 | [a0,.agg a1]=>(Zgt a0 a1 h).bind fun r=>K r.1 r.2
 |_=>none
theorem Zpr:XC.Nat Zjr∧XC.Ok Tryz.prog 48 Zjr:=by
 refine ⟨fun R args h K=>?_,tc48,fun args h v h' hx=>?_⟩
 ·dsimp only;split<;>simp[Option.bind_assoc,mkP]
 ·dsimp only at hx;split at hx
  ·obtain ⟨r,hopt,hx⟩:=Option.bind_eq_some_iff.1 hx
   simp only[mkP,Option.some.injEq,Prod.mk.injEq] at hx
   obtain ⟨rfl,rfl⟩:=hx
   exact (by obtain ⟨v,h'⟩:=r;exact Z79 hopt selfR)
  ·cases hx
noncomputable def Zei:XE:={ T:=Zn [(3,r3),(4,r4),(9,r9),(43,r43),(88,r88)],C:=[],D:=[],Ms:=[(4,[0,1,5,6]),(7,[5])],Ml:=[(3,[0,1,5,6])],Mo:=[],n:=28}
theorem Echainmanref04_without_ok:XE.Ok Zei Tryz.prog:=⟨Zp (⟨Z0,⟨Z1,⟨Zz,⟨Zd5,⟨Zd3,trivial⟩⟩⟩⟩⟩),trivial,Zq,trivial⟩
noncomputable def c50:Code:=ZP f50
noncomputable def Zhs (l0:AVal) (name1:ByteArray) (h:Za):Option (AVal×Za):=Zt Zei f50 [l0,(.lit (.string name1))] h
noncomputable def Zn0 (l0:AVal) (name1:ByteArray) (out5:AVal) (i6:Int) (h:Za):Option (AVal×Za):=Zl Zei (.loop (ca (ca (cb (ca (cb (cb c50))))))) (AVal×Za) [(0,l0),(1,(.lit (.string name1))),(5,out5),(6,(.lit (.int .i64 i6)))] h (ZW 0 (Zi Zei (cb (cb (cb c50))) (Zj Zei f50)))
noncomputable def ZrX (l0:AVal) (name1:ByteArray) (out5:AVal) (i6:Int) (h:Za):Option (AVal×Za):=jn (Zl Zei (cb (cb (ca (ca (cb (ca (cb (cb c50)))))))) (AVal×Za) [(0,l0),(1,(.lit (.string name1))),(5,out5),(6,(.lit (.int .i64 i6)))] h (Zdp Zei (ca (ca (cb (ca (cb (cb c50)))))) (ZW 0 (Zi Zei (cb (cb (cb c50))) (Zj Zei f50)))))
noncomputable def ZwO (out5:AVal) (h:Za):Option (AVal×Za):=jn (Zl Zei (cb (cb (cb c50))) (AVal×Za) [(5,out5)] h (Zj Zei f50))
theorem Z75 (l0:AVal) (name1:ByteArray) (h:Za):Zhs l0 name1 h =
 Zn0 l0 name1 ((.lit (.slice none 0 0))) 0 h:=by kernel_rfl
theorem ZrY (l0:AVal) (name1:ByteArray) (out5:AVal) (i6:Int) (h:Za):Zn0 l0 name1 out5 i6 h =
 (Zbb l0).bind fun n1=>
 bif (decide (i6 < n1)) then ((Zbc 3 l0 i6).bind fun p2=>
 (Zf 0 p2).bind fun p3=>
 (ld1 h p3).bind fun x4=>
 (asS x4).bind fun s5=>
 bif (!decide (s5 = name1)) then ((Zbc 3 l0 i6).bind fun p6=>
 (ldn 3 h p6).bind fun xs7=>
 (ZbW 3 [(.lit (.string ({ data:=#[]}))),(.lit (.string ({ data:=#[]}))),(.lit (.int .i64 0))] 1 [(0,(.agg xs7))] h).bind fun r8=>
 (ZbY 3 40 r8.2 out5 r8.1).bind fun r9=>
 ZrX l0 name1 r9.1 i6 r9.2)
 else (ZrX l0 name1 out5 i6 h))
 else (ZwO out5 h):=(ZbO Zei Echainmanref04_without_ok.C.nat _ _ _ _ _).trans (by kernel_rfl)
theorem ZwP (l0:AVal) (name1:ByteArray) (out5:AVal) (i6:Int) (h:Za):ZrX l0 name1 out5 i6 h =
 Zn0 l0 name1 out5 (IntKind.wrap .i64 (i6 + 1)) h:=(ZF _).trans (by kernel_rfl)
theorem Z77 (out5:AVal) (h:Za):ZwO out5 h =
 some (out5,h):=(ZF _).trans (by kernel_rfl)
theorem Z76 {l0:AVal} {name1:ByteArray} {h h':Za} {v:AVal} {R:AEnd→Za→Prop} (hx:Zhs l0 name1 h = some (v,h')) (hR:HOk h→h.length≤h'.length→ABody.AEnds h h' (.ret v) R):ACalls Tryz.prog 50 [l0,(.lit (.string name1))] h R:=Zu Echainmanref04_without_ok Zo (i:=50) (by rfl) (by kernel_rfl) (by kernel_rfl) hx hR
noncomputable def ZlM:XC:=.l fun R args h K=>match args with
 | [a0,.lit (.string a1)]=>(Zhs a0 a1 h).bind fun r=>K r.1 r.2
 |_=>none
theorem Ztl:XC.Nat ZlM∧XC.Ok Tryz.prog 50 ZlM:=by
 refine ⟨fun R args h K=>?_,tc50,fun args h v h' hx=>?_⟩
 ·dsimp only;split<;>simp[Option.bind_assoc,mkP]
 ·dsimp only at hx;split at hx
  ·obtain ⟨r,hopt,hx⟩:=Option.bind_eq_some_iff.1 hx
   simp only[mkP,Option.some.injEq,Prod.mk.injEq] at hx
   obtain ⟨rfl,rfl⟩:=hx
   exact (by obtain ⟨v,h'⟩:=r;exact Z76 hopt selfR)
  ·cases hx
noncomputable def ZxJ:XE:={ T:=Zn [(3,r3),(4,r4),(9,r9),(26,r26),(29,r29),(43,r43),(45,r45),(88,r88)],C:=[(45,Zjt),(46,Zjs),(47,Zpz),(48,Zjr)],D:=[],Ms:=[],Ml:=[],Mo:=[],n:=32}
theorem Z9L:XE.Ok ZxJ Tryz.prog:=⟨Zp (⟨Z0,⟨Z1,⟨Zz,⟨ZbE,⟨ZcE,⟨Zd5,⟨Zey,⟨Zd3,trivial⟩⟩⟩⟩⟩⟩⟩⟩),(⟨Zpu,⟨Zps,⟨ZzA,⟨Zpr,trivial⟩⟩⟩⟩),Zq,trivial⟩
noncomputable def c10:Code:=ZP f10
noncomputable def Zlc (d0:AVal) (name1:ByteArray) (h:Za):Option (AVal×Za):=Zt ZxJ f10 [d0,(.lit (.string name1))] h
theorem Zn8 (d0:AVal) (name1:ByteArray) (h:Za):Zlc d0 name1 h =
 (Zv (Zgu name1 h) h).bind fun r1=>
 (asB r1).bind fun b2=>
 (ZfH d0 b2 h).bind fun r3=>
 (asI .i64 r3.1).bind fun n4=>
 bif (!decide (n4 = 0)) then (some ((.lit (.int .i64 n4)),r3.2))
 else ((Zv (ZiC d0 name1 r3.2) r3.2).bind fun r5=>
 (asB r5).bind fun b6=>
 bif b6 then (some ((.lit (.int .i64 3)),r3.2))
 else ((Zg d0).bind fun p7=>
 (Zf 1 p7).bind fun p8=>
 (ld1 r3.2 p8).bind fun x9=>
 (Zbb x9).bind fun n10=>
 bif (decide (n10≥200)) then (some ((.lit (.int .i64 4)),r3.2))
 else ((Zg d0).bind fun p11=>
 (Zf 1 p11).bind fun p12=>
 (ld1 r3.2 p12).bind fun x13=>
 (Zgt x13 ([(.lit (.string name1)),(.lit (.string ({ data:=#[]}))),(.lit (.int .i64 0))]) r3.2).bind fun r14=>
 (Zg d0).bind fun p15=>
 (Zf 1 p15).bind fun p16=>
 (st1 r14.2 p16 r14.1).bind fun h17=>
 some ((.lit (.int .i64 0)),h17)))):=by kernel_rfl
theorem Z7Z {d0:AVal} {name1:ByteArray} {h h':Za} {v:AVal} {R:AEnd→Za→Prop} (hx:Zlc d0 name1 h = some (v,h')) (hR:HOk h→h.length≤h'.length→ABody.AEnds h h' (.ret v) R):ACalls Tryz.prog 10 [d0,(.lit (.string name1))] h R:=Zu Z9L Zo (i:=10) (by rfl) (by kernel_rfl) (by kernel_rfl) hx hR
noncomputable def Zp0:XC:=.l fun R args h K=>match args with
 | [a0,.lit (.string a1)]=>(Zlc a0 a1 h).bind fun r=>K r.1 r.2
 |_=>none
theorem ZzB:XC.Nat Zp0∧XC.Ok Tryz.prog 10 Zp0:=by
 refine ⟨fun R args h K=>?_,tc10,fun args h v h' hx=>?_⟩
 ·dsimp only;split<;>simp[Option.bind_assoc,mkP]
 ·dsimp only at hx;split at hx
  ·obtain ⟨r,hopt,hx⟩:=Option.bind_eq_some_iff.1 hx
   simp only[mkP,Option.some.injEq,Prod.mk.injEq] at hx
   obtain ⟨rfl,rfl⟩:=hx
   exact (by obtain ⟨v,h'⟩:=r;exact Z7Z hopt selfR)
  ·cases hx
noncomputable def ZxL:XE:={ T:=Zn [(3,r3),(4,r4),(9,r9),(26,r26),(29,r29),(43,r43),(45,r45),(88,r88)],C:=[(24,Zpw),(45,Zjt),(46,Zjs),(48,Zjr),(49,ZhA),(50,ZlM)],D:=[(7,⟨[],[0,1,2,3,4,5,6,7,8,9],[],[],[],[],[]⟩),(11,⟨[],[],[],[],[],[0,1,2,3,4,5,7],[(6,[0,7]),(8,[0]),(9,[]),(10,[]),(11,[])]⟩)],Ms:=[],Ml:=[],Mo:=[],n:=55}
theorem Z9N:XE.Ok ZxL Tryz.prog:=⟨Zp (⟨Z0,⟨Z1,⟨Zz,⟨ZbE,⟨ZcE,⟨Zd5,⟨Zey,⟨Zd3,trivial⟩⟩⟩⟩⟩⟩⟩⟩),(⟨Zz7,⟨Zpu,⟨Zps,⟨Zpr,⟨ZlN,⟨Ztl,trivial⟩⟩⟩⟩⟩⟩),Zq,trivial⟩
noncomputable def c12:Code:=ZP f12
noncomputable def Zhv (d0:AVal) (name1:ByteArray) (s2:ByteArray) (h:Za):Option (AVal×Za):=Zt ZxL f12 [d0,(.lit (.string name1)),(.lit (.string s2))] h
theorem Zn9 (d0:AVal) (name1:ByteArray) (s2:ByteArray) (h:Za):Zhv d0 name1 s2 h =
 (Zv (Zgu name1 h) h).bind fun r1=>
 (asB r1).bind fun b2=>
 (ZfH d0 b2 h).bind fun r3=>
 (asI .i64 r3.1).bind fun n4=>
 bif (!decide (n4 = 0)) then (some ((.lit (.int .i64 n4)),r3.2))
 else ((Zv (ZfI d0 name1 r3.2) r3.2).bind fun r5=>
 (asI .i64 r5).bind fun n6=>
 bif (decide (n6 < 0)) then (some ((.lit (.int .i64 2)),r3.2))
 else ((Zg d0).bind fun p7=>
 (Zf 0 p7).bind fun p8=>
 (ld1 r3.2 p8).bind fun x9=>
 (asI .i64 x9).bind fun n10=>
 (Zv (ZiB d0 r3.2) r3.2).bind fun r11=>
 (asI .i64 r11).bind fun n12=>
 bif (decide ((s2.size:Int) > (IntKind.wrap .i64 (n10 - n12)))) then (some ((.lit (.int .i64 4)),r3.2))
 else ((Zg d0).bind fun p13=>
 (Zf 1 p13).bind fun p14=>
 (ld1 r3.2 p14).bind fun x15=>
 (Zbc 3 x15 n6).bind fun p16=>
 (ldn 3 r3.2 p16).bind fun xs17=>
 (stn 3 ((psh r3.2 (.cells [(.lit (.string ({ data:=#[]}))),(.lit (.string ({ data:=#[]}))),(.lit (.int .i64 0))]))) (.ptr r3.2.length 0) xs17).bind fun h18=>
 (ld1 h18 (.ptr r3.2.length 1)).bind fun x19=>
 (asS x19).bind fun s20=>
 (req (s20.size + s2.size≤9223372036854775807)).bind fun u21=>
 (st1 h18 (.ptr r3.2.length 1) (.lit (.string (s20++s2)))).bind fun h22=>
 (Zg d0).bind fun p23=>
 (Zf 1 p23).bind fun p24=>
 (ld1 h22 p24).bind fun x25=>
 (ldn 3 h22 (.ptr r3.2.length 0)).bind fun xs26=>
 (Zhs x25 name1 h22).bind fun r27=>
 (ZcV ((((ldn 3 r27.2 (.ptr r3.2.length 0)).bind fun xs28=>
 some (.agg xs28)):Option AVal) = some (.agg xs26))).bind fun _=>
 (Zgt r27.1 xs26 r27.2).bind fun r29=>
 (Zg d0).bind fun p30=>
 (Zf 1 p30).bind fun p31=>
 (st1 r29.2 p31 r29.1).bind fun h32=>
 some ((.lit (.int .i64 0)),h32)))):=by kernel_rfl
theorem Z8c {d0:AVal} {name1:ByteArray} {s2:ByteArray} {h h':Za} {v:AVal} {R:AEnd→Za→Prop} (hx:Zhv d0 name1 s2 h = some (v,h')) (hR:HOk h→h.length≤h'.length→ABody.AEnds h h' (.ret v) R):ACalls Tryz.prog 12 [d0,(.lit (.string name1)),(.lit (.string s2))] h R:=Zu Z9N Zo (i:=12) (by rfl) (by kernel_rfl) (by kernel_rfl) hx hR
noncomputable def ZlO:XC:=.l fun R args h K=>match args with
 | [a0,.lit (.string a1),.lit (.string a2)]=>(Zhv a0 a1 a2 h).bind fun r=>K r.1 r.2
 |_=>none
theorem Ztm:XC.Nat ZlO∧XC.Ok Tryz.prog 12 ZlO:=by
 refine ⟨fun R args h K=>?_,tc12,fun args h v h' hx=>?_⟩
 ·dsimp only;split<;>simp[Option.bind_assoc,mkP]
 ·dsimp only at hx;split at hx
  ·obtain ⟨r,hopt,hx⟩:=Option.bind_eq_some_iff.1 hx
   simp only[mkP,Option.some.injEq,Prod.mk.injEq] at hx
   obtain ⟨rfl,rfl⟩:=hx
   exact (by obtain ⟨v,h'⟩:=r;exact Z8c hopt selfR)
  ·cases hx
noncomputable def ZxH:XE:={ T:=Zn [(3,r3),(4,r4),(9,r9),(26,r26),(29,r29),(43,r43),(45,r45),(88,r88)],C:=[(45,Zjt),(46,Zjs),(48,Zjr),(49,ZhA),(50,ZlM)],D:=[(9,⟨[],[],[],[],[],[0,1,2,3,4,5,7],[(6,[0,7]),(8,[0]),(9,[]),(10,[]),(11,[])]⟩)],Ms:=[],Ml:=[],Mo:=[],n:=42}
theorem Z9J:XE.Ok ZxH Tryz.prog:=⟨Zp (⟨Z0,⟨Z1,⟨Zz,⟨ZbE,⟨ZcE,⟨Zd5,⟨Zey,⟨Zd3,trivial⟩⟩⟩⟩⟩⟩⟩⟩),(⟨Zpu,⟨Zps,⟨Zpr,⟨ZlN,⟨Ztl,trivial⟩⟩⟩⟩⟩),Zq,trivial⟩
noncomputable def Zhu (d0:AVal) (name1:ByteArray) (h:Za):Option (AVal×Za):=Zt ZxH f64 [d0,(.lit (.string name1))] h
theorem Zse (d0:AVal) (name1:ByteArray) (h:Za):Zhu d0 name1 h =
 (Zv (Zgu name1 h) h).bind fun r1=>
 (asB r1).bind fun b2=>
 (ZfH d0 b2 h).bind fun r3=>
 (asI .i64 r3.1).bind fun n4=>
 bif (!decide (n4 = 0)) then (some ((.lit (.int .i64 n4)),r3.2))
 else ((Zv (ZfI d0 name1 r3.2) r3.2).bind fun r5=>
 (asI .i64 r5).bind fun n6=>
 bif (decide (n6 < 0)) then (some ((.lit (.int .i64 2)),r3.2))
 else ((Zg d0).bind fun p7=>
 (Zf 1 p7).bind fun p8=>
 (ld1 r3.2 p8).bind fun x9=>
 (Zbc 3 x9 n6).bind fun p10=>
 (ldn 3 r3.2 p10).bind fun xs11=>
 (stn 3 ((psh r3.2 (.cells [(.lit (.string ({ data:=#[]}))),(.lit (.string ({ data:=#[]}))),(.lit (.int .i64 0))]))) (.ptr r3.2.length 0) xs11).bind fun h12=>
 (ld1 h12 (.ptr r3.2.length 1)).bind fun x13=>
 (asS x13).bind fun s14=>
 (st1 h12 (.ptr r3.2.length 2) (.lit (.int .i64 (s14.size:Int)))).bind fun h15=>
 (Zg d0).bind fun p16=>
 (Zf 1 p16).bind fun p17=>
 (ld1 h15 p17).bind fun x18=>
 (ldn 3 h15 (.ptr r3.2.length 0)).bind fun xs19=>
 (Zhs x18 name1 h15).bind fun r20=>
 (ZcV ((((ldn 3 r20.2 (.ptr r3.2.length 0)).bind fun xs21=>
 some (.agg xs21)):Option AVal) = some (.agg xs19))).bind fun _=>
 (Zgt r20.1 xs19 r20.2).bind fun r22=>
 (Zg d0).bind fun p23=>
 (Zf 1 p23).bind fun p24=>
 (st1 r22.2 p24 r22.1).bind fun h25=>
 some ((.lit (.int .i64 0)),h25))):=by kernel_rfl
theorem Z7S {d0:AVal} {name1:ByteArray} {h h':Za} {v:AVal} {R:AEnd→Za→Prop} (hx:Zhu d0 name1 h = some (v,h')) (hR:HOk h→h.length≤h'.length→ABody.AEnds h h' (.ret v) R):ACalls Tryz.prog 64 [d0,(.lit (.string name1))] h R:=Zu Z9J Zo (i:=64) (by rfl) (by kernel_rfl) (by kernel_rfl) hx hR
noncomputable def Zpx:XC:=.l fun R args h K=>match args with
 | [a0,.lit (.string a1)]=>(Zhu a0 a1 h).bind fun r=>K r.1 r.2
 |_=>none
theorem Zz8:XC.Nat Zpx∧XC.Ok Tryz.prog 64 Zpx:=by
 refine ⟨fun R args h K=>?_,tc64,fun args h v h' hx=>?_⟩
 ·dsimp only;split<;>simp[Option.bind_assoc,mkP]
 ·dsimp only at hx;split at hx
  ·obtain ⟨r,hopt,hx⟩:=Option.bind_eq_some_iff.1 hx
   simp only[mkP,Option.some.injEq,Prod.mk.injEq] at hx
   obtain ⟨rfl,rfl⟩:=hx
   exact (by obtain ⟨v,h'⟩:=r;exact Z7S hopt selfR)
  ·cases hx
noncomputable def ZxK:XE:={ T:=Zn [(3,r3),(4,r4),(9,r9),(29,r29),(43,r43),(45,r45),(88,r88)],C:=[],D:=[],Ms:=[],Ml:=[],Mo:=[],n:=9}
theorem Z9M:XE.Ok ZxK Tryz.prog:=⟨Zp (⟨Z0,⟨Z1,⟨Zz,⟨ZcE,⟨Zd5,⟨Zey,⟨Zd3,trivial⟩⟩⟩⟩⟩⟩⟩),trivial,Zq,trivial⟩
noncomputable def Zld (d0:AVal) (n1:Int) (h:Za):Option (AVal×Za):=Zt ZxK f14 [d0,(.lit (.int .i64 n1))] h
theorem Z8a (d0:AVal) (n1:Int) (h:Za):Zld d0 n1 h =
 (Zg d0).bind fun p1=>
 (Zf 2 p1).bind fun p2=>
 (st1 h p2 (.lit (.int .i64 (Zs (-1) n1)))).bind fun h3=>
 some ((.tup []),h3):=by kernel_rfl
theorem Z8b {d0:AVal} {n1:Int} {h h':Za} {v:AVal} {R:AEnd→Za→Prop} (hx:Zld d0 n1 h = some (v,h')) (hR:HOk h→h.length≤h'.length→ABody.AEnds h h' (.ret v) R):ACalls Tryz.prog 14 [d0,(.lit (.int .i64 n1))] h R:=Zu Z9M Zo (i:=14) (by rfl) (by kernel_rfl) (by kernel_rfl) hx hR
noncomputable def Zp1:XC:=.l fun R args h K=>match args with
 | [a0,.lit (.int .i64 a1)]=>(Zld a0 a1 h).bind fun r=>K r.1 r.2
 |_=>none
theorem ZzC:XC.Nat Zp1∧XC.Ok Tryz.prog 14 Zp1:=by
 refine ⟨fun R args h K=>?_,tc14,fun args h v h' hx=>?_⟩
 ·dsimp only;split<;>simp[Option.bind_assoc,mkP]
 ·dsimp only at hx;split at hx
  ·obtain ⟨r,hopt,hx⟩:=Option.bind_eq_some_iff.1 hx
   simp only[mkP,Option.some.injEq,Prod.mk.injEq] at hx
   obtain ⟨rfl,rfl⟩:=hx
   exact (by obtain ⟨v,h'⟩:=r;exact Z8b hopt selfR)
  ·cases hx
noncomputable def ZdO:XE:={ T:=Zn [(3,r3),(4,r4),(9,r9),(29,r29),(37,r37),(43,r43),(45,r45),(88,r88)],C:=[],D:=[(7,⟨[],[0,1,2,3,4,5,6,7,8,9,10,11,12],[],[],[],[],[]⟩)],Ms:=[(8,[0,1,4,5,6,7]),(11,[0,4])],Ml:=[(2,[0,1,4,5])],Mo:=[],n:=66}
theorem Echainmanref04_Disk_Rise_ok:XE.Ok ZdO Tryz.prog:=⟨Zp (⟨Z0,⟨Z1,⟨Zz,⟨ZcE,⟨Zuc,⟨Zd5,⟨Zey,⟨Zd3,trivial⟩⟩⟩⟩⟩⟩⟩⟩),trivial,Zq,trivial⟩
noncomputable def c22:Code:=ZP f22
noncomputable def Zlb (d0:AVal) (keep1:AVal) (h:Za):Option (AVal×Za):=Zt ZdO f22 [d0,keep1] h
noncomputable def Zn7 (d0:AVal) (keep1:AVal) (out4:AVal) (i5:Int) (h:Za):Option (AVal×Za):=Zl ZdO (.loop (ca (ca (cb (ca (cb c22)))))) (AVal×Za) [(0,d0),(1,keep1),(4,out4),(5,(.lit (.int .i64 i5)))] h (ZW 0 (Zi ZdO (cb (cb c22)) (Zj ZdO f22)))
noncomputable def Zn6 (d0:AVal) (keep1:AVal) (out4:AVal) (i5:Int) (f6:Nat) (n7:Int) (h:Za):Option (AVal×Za):=jn (Zl ZdO (cb (cb (cb (ca (ca (cb (ca (ca (cb (ca (cb c22))))))))))) (AVal×Za) [(0,d0),(1,keep1),(4,out4),(5,(.lit (.int .i64 i5))),(6,(.ptr f6 0)),(7,(.lit (.int .i64 n7)))] h (ZW 1 (Zi ZdO (cb (cb (ca (ca (cb (ca (cb c22))))))) (Zdp ZdO (ca (ca (cb (ca (cb c22))))) (ZW 0 (Zi ZdO (cb (cb c22)) (Zj ZdO f22)))))))
noncomputable def Zn5 (d0:AVal) (out4:AVal) (h:Za):Option (AVal×Za):=jn (Zl ZdO (cb (cb c22)) (AVal×Za) [(0,d0),(4,out4)] h (Zj ZdO f22))
theorem Z7T (d0:AVal) (keep1:AVal) (h:Za):Zlb d0 keep1 h =
 Zn7 d0 keep1 ((.lit (.slice none 0 0))) 0 h:=by kernel_rfl
theorem ZwY (d0:AVal) (keep1:AVal) (out4:AVal) (i5:Int) (h:Za):Zn7 d0 keep1 out4 i5 h =
 (Zg d0).bind fun p1=>
 (Zf 1 p1).bind fun p2=>
 (ld1 h p2).bind fun x3=>
 (Zbb x3).bind fun n4=>
 bif (decide (i5 < n4)) then ((Zg d0).bind fun p5=>
 (Zf 1 p5).bind fun p6=>
 (ld1 h p6).bind fun x7=>
 (Zbc 3 x7 i5).bind fun p8=>
 (ldn 3 h p8).bind fun xs9=>
 (stn 3 ((psh h (.cells [(.lit (.string ({ data:=#[]}))),(.lit (.string ({ data:=#[]}))),(.lit (.int .i64 0))]))) (.ptr h.length 0) xs9).bind fun h10=>
 (Zbb keep1).bind fun n11=>
 bif (decide (i5 < n11)) then ((Zbc 1 keep1 i5).bind fun p12=>
 (ld1 h10 p12).bind fun x13=>
 (asI .i64 x13).bind fun n14=>
 (ld1 h10 (.ptr h.length 1)).bind fun x15=>
 (asS x15).bind fun s16=>
 (ld1 h10 (.ptr h.length 2)).bind fun x17=>
 (asI .i64 x17).bind fun n18=>
 Zn6 d0 keep1 out4 i5 h.length (Zs 0 (ZbB n14 (IntKind.wrap .i64 ((s16.size:Int) - n18)))) h10)
 else (Zn6 d0 keep1 out4 i5 h.length 0 h10))
 else (Zn5 d0 out4 h):=(ZbO ZdO Echainmanref04_Disk_Rise_ok.C.nat _ _ _ _ _).trans (by kernel_rfl)
theorem Z7W (d0:AVal) (keep1:AVal) (out4:AVal) (i5:Int) (f6:Nat) (n7:Int) (h:Za):Zn6 d0 keep1 out4 i5 f6 n7 h =
 (ld1 h (.ptr f6 1)).bind fun x19=>
 (asS x19).bind fun s20=>
 (ld1 h (.ptr f6 2)).bind fun x21=>
 (asI .i64 x21).bind fun n22=>
 (ZdY s20 0 (IntKind.wrap .i64 (n22 + n7))).bind fun s23=>
 (st1 h (.ptr f6 1) (.lit (.string s23))).bind fun h24=>
 (ld1 h24 (.ptr f6 1)).bind fun x25=>
 (asS x25).bind fun s26=>
 (st1 h24 (.ptr f6 2) (.lit (.int .i64 (s26.size:Int)))).bind fun h27=>
 (ldn 3 h27 (.ptr f6 0)).bind fun xs28=>
 (ZbW 3 [(.lit (.string ({ data:=#[]}))),(.lit (.string ({ data:=#[]}))),(.lit (.int .i64 0))] 1 [(0,(.agg xs28))] h27).bind fun r29=>
 (ZbY 3 40 r29.2 out4 r29.1).bind fun r30=>
 Zn7 d0 keep1 r30.1 (IntKind.wrap .i64 (i5 + 1)) r30.2:=(ZF _).trans (by kernel_rfl)
theorem Z7V (d0:AVal) (out4:AVal) (h:Za):Zn5 d0 out4 h =
 (Zg d0).bind fun p31=>
 (Zf 1 p31).bind fun p32=>
 (st1 h p32 out4).bind fun h33=>
 (Zg d0).bind fun p34=>
 (Zf 3 p34).bind fun p35=>
 (st1 h33 p35 (.lit (.bool false))).bind fun h36=>
 (Zg d0).bind fun p37=>
 (Zf 2 p37).bind fun p38=>
 (st1 h36 p38 (.lit (.int .i64 (-1)))).bind fun h39=>
 some ((.tup []),h39):=(ZF _).trans (by kernel_rfl)
theorem Z7U {d0:AVal} {keep1:AVal} {h h':Za} {v:AVal} {R:AEnd→Za→Prop} (hx:Zlb d0 keep1 h = some (v,h')) (hR:HOk h→h.length≤h'.length→ABody.AEnds h h' (.ret v) R):ACalls Tryz.prog 22 [d0,keep1] h R:=Zu Echainmanref04_Disk_Rise_ok Zo (i:=22) (by rfl) (by kernel_rfl) (by kernel_rfl) hx hR
noncomputable def Zpy:XC:=.l fun R args h K=>match args with
 | [a0,a1]=>(Zlb a0 a1 h).bind fun r=>K r.1 r.2
 |_=>none
theorem Zz9:XC.Nat Zpy∧XC.Ok Tryz.prog 22 Zpy:=by
 refine ⟨fun R args h K=>?_,tc22,fun args h v h' hx=>?_⟩
 ·dsimp only;split<;>simp[Option.bind_assoc,mkP]
 ·dsimp only at hx;split at hx
  ·obtain ⟨r,hopt,hx⟩:=Option.bind_eq_some_iff.1 hx
   simp only[mkP,Option.some.injEq,Prod.mk.injEq] at hx
   obtain ⟨rfl,rfl⟩:=hx
   exact (by obtain ⟨v,h'⟩:=r;exact Z7U hopt selfR)
  ·cases hx
end Go.Proofs.YtogaiomakhapmaaGreat.AL
namespace Go.Proofs.YtogaiomakhapmaaGreat.AL
set_option maxRecDepth 100000
open Go
open Go.Proofs.Tryz
noncomputable def ZxD:XE:={ T:=Zn [(3,r3),(4,r4),(26,r26),(56,r56),(58,r58)],C:=[],D:=[(3,⟨[],[0,1,2,3,4,5,6,7,8,9,10],[],[],[],[],[]⟩),(6,⟨[],[0,1,2,3,4,5,6,7,8,9,10,11],[12],[],[],[],[]⟩)],Ms:=[],Ml:=[],Mo:=[],n:=39}
theorem Z9B:XE.Ok ZxD Tryz.prog:=⟨Zp (⟨Z0,⟨Z1,⟨ZbE,⟨Zfs,⟨Zqa,trivial⟩⟩⟩⟩⟩),trivial,Zq,trivial⟩
noncomputable def Zi5 (b0:AVal) (n1:Int) (h:Za):Option (AVal×Za):=Zt ZxD f75 [b0,(.lit (.int .i64 n1))] h
theorem ZwA (b0:AVal) (n1:Int) (h:Za):Zi5 b0 n1 h =
 bif (decide (n1 < 0)) then (some ((.lit (.int .i64 1)),h))
 else ((Zg b0).bind fun p1=>
 (Zf 0 p1).bind fun p2=>
 (ld1 h p2).bind fun x3=>
 (asI .i64 x3).bind fun n4=>
 (Zg b0).bind fun p5=>
 (Zf 1 p5).bind fun p6=>
 (ld1 h p6).bind fun x7=>
 (asI .i64 x7).bind fun n8=>
 bif (decide (n1 > (IntKind.wrap .i64 (n4 - n8)))) then (some ((.lit (.int .i64 9)),h))
 else ((Zg b0).bind fun p9=>
 (Zf 1 p9).bind fun p10=>
 (ld1 h p10).bind fun x11=>
 (asI .i64 x11).bind fun n12=>
 (Zg b0).bind fun p13=>
 (Zf 1 p13).bind fun p14=>
 (st1 h p14 (.lit (.int .i64 (IntKind.wrap .i64 (n12 + n1))))).bind fun h15=>
 (Zg b0).bind fun p16=>
 (Zf 2 p16).bind fun p17=>
 (ld1 h15 p17).bind fun x18=>
 (asI .i64 x18).bind fun n19=>
 (Zg b0).bind fun p20=>
 (Zf 1 p20).bind fun p21=>
 (ld1 h15 p21).bind fun x22=>
 (asI .i64 x22).bind fun n23=>
 (Zg b0).bind fun p24=>
 (Zf 2 p24).bind fun p25=>
 (st1 h15 p25 (.lit (.int .i64 (Zs n19 n23)))).bind fun h26=>
 some ((.lit (.int .i64 0)),h26))):=by kernel_rfl
theorem Z7d {b0:AVal} {n1:Int} {h h':Za} {v:AVal} {R:AEnd→Za→Prop} (hx:Zi5 b0 n1 h = some (v,h')) (hR:HOk h→h.length≤h'.length→ABody.AEnds h h' (.ret v) R):ACalls Tryz.prog 75 [b0,(.lit (.int .i64 n1))] h R:=Zu Z9B Zo (i:=75) (by rfl) (by kernel_rfl) (by kernel_rfl) hx hR
noncomputable def Zpm:XC:=.l fun R args h K=>match args with
 | [a0,.lit (.int .i64 a1)]=>(Zi5 a0 a1 h).bind fun r=>K r.1 r.2
 |_=>none
theorem Zz1:XC.Nat Zpm∧XC.Ok Tryz.prog 75 Zpm:=by
 refine ⟨fun R args h K=>?_,tc75,fun args h v h' hx=>?_⟩
 ·dsimp only;split<;>simp[Option.bind_assoc,mkP]
 ·dsimp only at hx;split at hx
  ·obtain ⟨r,hopt,hx⟩:=Option.bind_eq_some_iff.1 hx
   simp only[mkP,Option.some.injEq,Prod.mk.injEq] at hx
   obtain ⟨rfl,rfl⟩:=hx
   exact (by obtain ⟨v,h'⟩:=r;exact Z7d hopt selfR)
  ·cases hx
noncomputable def ZxE:XE:={ T:=Zn [(3,r3),(4,r4),(56,r56),(58,r58)],C:=[],D:=[],Ms:=[],Ml:=[],Mo:=[],n:=16}
theorem Z9C:XE.Ok ZxE Tryz.prog:=⟨Zp (⟨Z0,⟨Z1,⟨Zfs,⟨Zqa,trivial⟩⟩⟩⟩),trivial,Zq,trivial⟩
noncomputable def Zi6 (b0:AVal) (n1:Int) (h:Za):Option (AVal×Za):=Zt ZxE f76 [b0,(.lit (.int .i64 n1))] h
theorem Z7e (b0:AVal) (n1:Int) (h:Za):Zi6 b0 n1 h =
 bif (decide (n1≥0)) then ((Zg b0).bind fun p1=>
 (Zf 1 p1).bind fun p2=>
 (ld1 h p2).bind fun x3=>
 (asI .i64 x3).bind fun n4=>
 (Zg b0).bind fun p5=>
 (Zf 1 p5).bind fun p6=>
 (st1 h p6 (.lit (.int .i64 (Zs 0 (IntKind.wrap .i64 (n4 - n1)))))).bind fun h7=>
 some ((.tup []),h7))
 else (some ((.tup []),h)):=by kernel_rfl
theorem Z7f {b0:AVal} {n1:Int} {h h':Za} {v:AVal} {R:AEnd→Za→Prop} (hx:Zi6 b0 n1 h = some (v,h')) (hR:HOk h→h.length≤h'.length→ABody.AEnds h h' (.ret v) R):ACalls Tryz.prog 76 [b0,(.lit (.int .i64 n1))] h R:=Zu Z9C Zo (i:=76) (by rfl) (by kernel_rfl) (by kernel_rfl) hx hR
noncomputable def ZlH:XC:=.l fun R args h K=>match args with
 | [a0,.lit (.int .i64 a1)]=>(Zi6 a0 a1 h).bind fun r=>K r.1 r.2
 |_=>none
theorem Ztg:XC.Nat ZlH∧XC.Ok Tryz.prog 76 ZlH:=by
 refine ⟨fun R args h K=>?_,tc76,fun args h v h' hx=>?_⟩
 ·dsimp only;split<;>simp[Option.bind_assoc,mkP]
 ·dsimp only at hx;split at hx
  ·obtain ⟨r,hopt,hx⟩:=Option.bind_eq_some_iff.1 hx
   simp only[mkP,Option.some.injEq,Prod.mk.injEq] at hx
   obtain ⟨rfl,rfl⟩:=hx
   exact (by obtain ⟨v,h'⟩:=r;exact Z7f hopt selfR)
  ·cases hx
noncomputable def ZnQ:XE:={ T:=Zn [(3,r3),(4,r4),(9,r9),(26,r26),(29,r29),(52,r52),(56,r56),(62,r62),(111,ZgL)],C:=[(10,Zp0),(12,ZlO),(74,ZlJ),(75,Zpm),(76,ZlH)],D:=[],Ms:=[(10,[0,1,2,3,12])],Ml:=[],Mo:=[],n:=45}
theorem Z9A:XE.Ok ZnQ Tryz.prog:=⟨Zp (⟨Z0,⟨Z1,⟨Zz,⟨ZbE,⟨ZcE,⟨Zby,⟨Zfs,⟨ZgK,⟨ZhI,trivial⟩⟩⟩⟩⟩⟩⟩⟩⟩),(⟨ZzB,⟨Ztm,⟨Zti,⟨Zz1,⟨Ztg,trivial⟩⟩⟩⟩⟩),Zq,trivial⟩
noncomputable def c29:Code:=ZP f29
noncomputable def ZeK (d0:AVal) (b1:AVal) (name2:ByteArray) (size3:Int) (h:Za):Option (AVal×Za):=Zt ZnQ f29 [d0,b1,(.lit (.string name2)),(.lit (.int .i64 size3))] h
noncomputable def Zho (d0:AVal) (b1:AVal) (name2:ByteArray) (size3:Int) (e12:Int) (h:Za):Option (AVal×Za):=jn (Zl ZnQ (cb (cb (cb (cb (cb (cb (cb c29))))))) (AVal×Za) [(0,d0),(1,b1),(2,(.lit (.string name2))),(3,(.lit (.int .i64 size3))),(12,(.lit (.int .i64 e12)))] h (Zj ZnQ f29))
theorem ZrN (d0:AVal) (b1:AVal) (name2:ByteArray) (size3:Int) (h:Za):ZeK d0 b1 name2 size3 h =
 (ZM (Zhq size3 h) h).bind fun r1=>
 (Z6 r1 0).bind fun x2=>
 (asS x2).bind fun s3=>
 (Z6 r1 1).bind fun x4=>
 (asB x4).bind fun b6=>
 bif (!b6) then (some ((.tup [(.lit (.pointer none)),(.lit (.int .i64 1))]),h))
 else ((Zi5 b1 4 h).bind fun r7=>
 (asI .i64 r7.1).bind fun n8=>
 bif (!decide (n8 = 0)) then (some ((.tup [(.lit (.pointer none)),(.lit (.int .i64 n8))]),r7.2))
 else ((Zlc d0 name2 r7.2).bind fun r9=>
 (asI .i64 r9.1).bind fun n10=>
 bif (decide (n10 = 0)) then ((Zhv d0 name2 s3 r9.2).bind fun r11=>
 (asI .i64 r11.1).bind fun n12=>
 Zho d0 b1 name2 size3 n12 r11.2)
 else (Zho d0 b1 name2 size3 n10 r9.2))):=by kernel_rfl
theorem Zw9 (d0:AVal) (b1:AVal) (name2:ByteArray) (size3:Int) (e12:Int) (h:Za):Zho d0 b1 name2 size3 e12 h =
 bif (!decide (e12 = 0)) then ((Zi6 b1 4 h).bind fun r13=>
 some ((.tup [(.lit (.pointer none)),(.lit (.int .i64 e12))]),r13.2))
 else ((Zcp (fun i=>[(0,1),(1,1),(2,1),(3,1),(4,1),(5,1),(6,1)][i]?) [(.lit (.pointer none)),(.lit (.pointer none)),(.lit (.string ({ data:=#[]}))),(.lit (.int .i64 0)),(.lit (.slice none 0 0)),(.lit (.slice none 0 0)),(.lit (.bool false))] [(0,d0),(1,b1),(2,(.lit (.string name2))),(3,(.lit (.int .i64 size3))),(6,(.lit (.bool true)))]).bind fun cs14=>
 some ((.tup [(.ptr h.length 0),(.lit (.int .i64 0))]),(psh h (.cells cs14)))):=(ZF _).trans (by kernel_rfl)
theorem Z7c {d0:AVal} {b1:AVal} {name2:ByteArray} {size3:Int} {h h':Za} {v:AVal} {R:AEnd→Za→Prop} (hx:ZeK d0 b1 name2 size3 h = some (v,h')) (hR:HOk h→h.length≤h'.length→ABody.AEnds h h' (.ret v) R):ACalls Tryz.prog 29 [d0,b1,(.lit (.string name2)),(.lit (.int .i64 size3))] h R:=Zu Z9A Zo (i:=29) (by rfl) (by kernel_rfl) (by kernel_rfl) hx hR
noncomputable def Zpl:XC:=.l fun R args h K=>match args with
 | [a0,a1,.lit (.string a2),.lit (.int .i64 a3)]=>(ZeK a0 a1 a2 a3 h).bind fun r=>K r.1 r.2
 |_=>none
theorem Zz0:XC.Nat Zpl∧XC.Ok Tryz.prog 29 Zpl:=by
 refine ⟨fun R args h K=>?_,tc29,fun args h v h' hx=>?_⟩
 ·dsimp only;split<;>simp[Option.bind_assoc,mkP]
 ·dsimp only at hx;split at hx
  ·obtain ⟨r,hopt,hx⟩:=Option.bind_eq_some_iff.1 hx
   simp only[mkP,Option.some.injEq,Prod.mk.injEq] at hx
   obtain ⟨rfl,rfl⟩:=hx
   exact (by obtain ⟨v,h'⟩:=r;exact Z7c hopt selfR)
  ·cases hx
noncomputable def ZxB:XE:={ T:=Zn [(3,r3),(4,r4),(9,r9),(29,r29),(52,r52),(56,r56),(62,r62),(111,ZgL)],C:=[(76,ZlH)],D:=[],Ms:=[],Ml:=[],Mo:=[],n:=14}
theorem Z97:XE.Ok ZxB Tryz.prog:=⟨Zp (⟨Z0,⟨Z1,⟨Zz,⟨ZcE,⟨Zby,⟨Zfs,⟨ZgK,⟨ZhI,trivial⟩⟩⟩⟩⟩⟩⟩⟩),(⟨Ztg,trivial⟩),Zq,trivial⟩
noncomputable def Zgs (w0:AVal) (h:Za):Option (AVal×Za):=Zt ZxB f36 [w0] h
theorem Zw6 (w0:AVal) (h:Za):Zgs w0 h =
 (Zg w0).bind fun p1=>
 (Zf 6 p1).bind fun p2=>
 (ld1 h p2).bind fun x3=>
 (asB x3).bind fun b4=>
 bif b4 then ((Zg w0).bind fun p5=>
 (Zf 6 p5).bind fun p6=>
 (st1 h p6 (.lit (.bool false))).bind fun h7=>
 (Zg w0).bind fun p8=>
 (Zf 1 p8).bind fun p9=>
 (ld1 h7 p9).bind fun x10=>
 (Zi6 x10 4 h7).bind fun r11=>
 some ((.tup []),r11.2))
 else (some ((.tup []),h)):=by kernel_rfl
theorem Z6X {w0:AVal} {h h':Za} {v:AVal} {R:AEnd→Za→Prop} (hx:Zgs w0 h = some (v,h')) (hR:HOk h→h.length≤h'.length→ABody.AEnds h h' (.ret v) R):ACalls Tryz.prog 36 [w0] h R:=Zu Z97 Zo (i:=36) (by rfl) (by kernel_rfl) (by kernel_rfl) hx hR
noncomputable def Zjp:XC:=.l fun R args h K=>match args with
 | [a0]=>(Zgs a0 h).bind fun r=>K r.1 r.2
 |_=>none
theorem Zpi:XC.Nat Zjp∧XC.Ok Tryz.prog 36 Zjp:=by
 refine ⟨fun R args h K=>?_,tc36,fun args h v h' hx=>?_⟩
 ·dsimp only;split<;>simp[Option.bind_assoc,mkP]
 ·dsimp only at hx;split at hx
  ·obtain ⟨r,hopt,hx⟩:=Option.bind_eq_some_iff.1 hx
   simp only[mkP,Option.some.injEq,Prod.mk.injEq] at hx
   obtain ⟨rfl,rfl⟩:=hx
   exact (by obtain ⟨v,h'⟩:=r;exact Z6X hopt selfR)
  ·cases hx
noncomputable def ZnP:XE:={ T:=Zn [(3,r3),(4,r4),(9,r9),(26,r26),(29,r29),(52,r52),(56,r56),(62,r62),(111,ZgL)],C:=[(12,ZlO),(36,Zjp)],D:=[(1,⟨[],[0,1,2,3,4,5,6,7,8],[9,10],[],[],[],[]⟩)],Ms:=[(4,[5])],Ml:=[],Mo:=[],n:=21}
theorem Z95:XE.Ok ZnP Tryz.prog:=⟨Zp (⟨Z0,⟨Z1,⟨Zz,⟨ZbE,⟨ZcE,⟨Zby,⟨Zfs,⟨ZgK,⟨ZhI,trivial⟩⟩⟩⟩⟩⟩⟩⟩⟩),(⟨Ztm,⟨Zpi,trivial⟩⟩),Zq,trivial⟩
noncomputable def c83:Code:=ZP f83
noncomputable def Zfh (w0:AVal) (s1:ByteArray) (h:Za):Option (AVal×Za):=Zt ZnP f83 [w0,(.lit (.string s1))] h
noncomputable def ZkT (e5:Int) (h:Za):Option (AVal×Za):=jn (Zl ZnP (cb (cb (cb c83))) (AVal×Za) [(5,(.lit (.int .i64 e5)))] h (Zj ZnP f83))
theorem Z6U (w0:AVal) (s1:ByteArray) (h:Za):Zfh w0 s1 h =
 (Zg w0).bind fun p1=>
 (Zf 0 p1).bind fun p2=>
 (ld1 h p2).bind fun x3=>
 (Zg w0).bind fun p4=>
 (Zf 2 p4).bind fun p5=>
 (ld1 h p5).bind fun x6=>
 (asS x6).bind fun s7=>
 (Zhv x3 s7 s1 h).bind fun r8=>
 (asI .i64 r8.1).bind fun n9=>
 bif (!decide (n9 = 0)) then ((Zgs w0 r8.2).bind fun r10=>
 ZkT n9 r10.2)
 else (ZkT n9 r8.2):=by kernel_rfl
theorem Zw5 (e5:Int) (h:Za):ZkT e5 h =
 some ((.lit (.int .i64 e5)),h):=(ZF _).trans (by kernel_rfl)
theorem Z6V {w0:AVal} {s1:ByteArray} {h h':Za} {v:AVal} {R:AEnd→Za→Prop} (hx:Zfh w0 s1 h = some (v,h')) (hR:HOk h→h.length≤h'.length→ABody.AEnds h h' (.ret v) R):ACalls Tryz.prog 83 [w0,(.lit (.string s1))] h R:=Zu Z95 Zo (i:=83) (by rfl) (by kernel_rfl) (by kernel_rfl) hx hR
noncomputable def ZlG:XC:=.l fun R args h K=>match args with
 | [a0,.lit (.string a1)]=>(Zfh a0 a1 h).bind fun r=>K r.1 r.2
 |_=>none
theorem Ztf:XC.Nat ZlG∧XC.Ok Tryz.prog 83 ZlG:=by
 refine ⟨fun R args h K=>?_,tc83,fun args h v h' hx=>?_⟩
 ·dsimp only;split<;>simp[Option.bind_assoc,mkP]
 ·dsimp only at hx;split at hx
  ·obtain ⟨r,hopt,hx⟩:=Option.bind_eq_some_iff.1 hx
   simp only[mkP,Option.some.injEq,Prod.mk.injEq] at hx
   obtain ⟨rfl,rfl⟩:=hx
   exact (by obtain ⟨v,h'⟩:=r;exact Z6V hopt selfR)
  ·cases hx
noncomputable def ZxA:XE:={ T:=Zn [(3,r3),(4,r4),(9,r9),(26,r26),(29,r29),(52,r52),(56,r56),(62,r62),(111,ZgL)],C:=[(82,Zjq),(83,ZlG)],D:=[(9,⟨[],[0,1,2,3,4,5,6,7,8,9,10,11,12,13],[],[],[],[],[]⟩)],Ms:=[],Ml:=[],Mo:=[],n:=63}
theorem Z96:XE.Ok ZxA Tryz.prog:=⟨Zp (⟨Z0,⟨Z1,⟨Zz,⟨ZbE,⟨ZcE,⟨Zby,⟨Zfs,⟨ZgK,⟨ZhI,trivial⟩⟩⟩⟩⟩⟩⟩⟩⟩),(⟨Zpq,⟨Ztf,trivial⟩⟩),Zq,trivial⟩
noncomputable def Zi2 (w0:AVal) (record1:ByteArray) (h:Za):Option (AVal×Za):=Zt ZxA f32 [w0,(.lit (.string record1))] h
theorem ZrM (w0:AVal) (record1:ByteArray) (h:Za):Zi2 w0 record1 h =
 (Zg w0).bind fun p1=>
 (Zf 6 p1).bind fun p2=>
 (ld1 h p2).bind fun x3=>
 (asB x3).bind fun b4=>
 bif (!b4) then (some ((.lit (.int .i64 14)),h))
 else ((Zg w0).bind fun p5=>
 (Zf 3 p5).bind fun p6=>
 (ld1 h p6).bind fun x7=>
 (asI .i64 x7).bind fun n8=>
 bif (!decide ((record1.size:Int) = n8)) then (some ((.lit (.int .i64 1)),h))
 else ((Zg w0).bind fun p9=>
 (Zf 4 p9).bind fun p10=>
 (ld1 h p10).bind fun x11=>
 (ZbW 1 [(.lit (.string ({ data:=#[]})))] 1 [(0,(.lit (.string record1)))] h).bind fun r12=>
 (ZbY 1 16 r12.2 x11 r12.1).bind fun r13=>
 (Zg w0).bind fun p14=>
 (Zf 4 p14).bind fun p15=>
 (st1 r13.2 p15 r13.1).bind fun h16=>
 (Zg w0).bind fun p17=>
 (Zf 5 p17).bind fun p18=>
 (ld1 h16 p18).bind fun x19=>
 (ZbW 1 [(.lit (.string ({ data:=#[]})))] 1 [(0,(.lit (.string record1)))] h16).bind fun r20=>
 (ZbY 1 16 r20.2 x19 r20.1).bind fun r21=>
 (Zg w0).bind fun p22=>
 (Zf 5 p22).bind fun p23=>
 (st1 r21.2 p23 r21.1).bind fun h24=>
 (Zg w0).bind fun p25=>
 (Zf 4 p25).bind fun p26=>
 (ld1 h24 p26).bind fun x27=>
 (Zbb x27).bind fun n28=>
 bif (decide (n28 < 4)) then (some ((.lit (.int .i64 0)),h24))
 else ((Zg w0).bind fun p29=>
 (Zf 3 p29).bind fun p30=>
 (ld1 h24 p30).bind fun x31=>
 (asI .i64 x31).bind fun n32=>
 (Zg w0).bind fun p33=>
 (Zf 4 p33).bind fun p34=>
 (ld1 h24 p34).bind fun x35=>
 (ZM (ZfG n32 x35 h24) h24).bind fun r36=>
 (Z6 r36 0).bind fun x37=>
 (asS x37).bind fun s38=>
 (Z6 r36 1).bind fun x39=>
 (asB x39).bind fun b40=>
 (Zg w0).bind fun p41=>
 (Zf 4 p41).bind fun p42=>
 (st1 h24 p42 (.lit (.slice none 0 0))).bind fun h43=>
 (Zfh w0 s38 h43).bind fun r44=>
 (asI .i64 r44.1).bind fun n45=>
 some ((.lit (.int .i64 n45)),r44.2)))):=by kernel_rfl
theorem Z6W {w0:AVal} {record1:ByteArray} {h h':Za} {v:AVal} {R:AEnd→Za→Prop} (hx:Zi2 w0 record1 h = some (v,h')) (hR:HOk h→h.length≤h'.length→ABody.AEnds h h' (.ret v) R):ACalls Tryz.prog 32 [w0,(.lit (.string record1))] h R:=Zu Z96 Zo (i:=32) (by rfl) (by kernel_rfl) (by kernel_rfl) hx hR
noncomputable def Zph:XC:=.l fun R args h K=>match args with
 | [a0,.lit (.string a1)]=>(Zi2 a0 a1 h).bind fun r=>K r.1 r.2
 |_=>none
theorem Zzx:XC.Nat Zph∧XC.Ok Tryz.prog 32 Zph:=by
 refine ⟨fun R args h K=>?_,tc32,fun args h v h' hx=>?_⟩
 ·dsimp only;split<;>simp[Option.bind_assoc,mkP]
 ·dsimp only at hx;split at hx
  ·obtain ⟨r,hopt,hx⟩:=Option.bind_eq_some_iff.1 hx
   simp only[mkP,Option.some.injEq,Prod.mk.injEq] at hx
   obtain ⟨rfl,rfl⟩:=hx
   exact (by obtain ⟨v,h'⟩:=r;exact Z6W hopt selfR)
  ·cases hx
noncomputable def ZiQ:XE:={ T:=Zn [(3,r3),(4,r4),(9,r9),(26,r26),(29,r29),(52,r52),(56,r56),(62,r62),(65,r65),(67,r67),(111,ZgL)],C:=[(36,Zjp),(64,Zpx),(82,Zjq),(83,ZlG),(89,ZlI),(90,ZlK)],D:=[(5,⟨[],[0,1,2,3,4,5,6,7,8,9,10,11,12,13],[],[],[],[],[]⟩),(12,⟨[],[0,1,2,3,4,5,6,7],[8,9],[],[],[],[]⟩)],Ms:=[(9,[0,2,4]),(13,[0,2,4,10])],Ml:=[],Mo:=[],n:=73}
theorem Z99:XE.Ok ZiQ Tryz.prog:=⟨Zp (⟨Z0,⟨Z1,⟨Zz,⟨ZbE,⟨ZcE,⟨Zby,⟨Zfs,⟨ZgK,⟨Zci,⟨Zdg,⟨ZhI,trivial⟩⟩⟩⟩⟩⟩⟩⟩⟩⟩⟩),(⟨Zpi,⟨Zz8,⟨Zpq,⟨Ztf,⟨Zth,⟨Ztj,trivial⟩⟩⟩⟩⟩⟩),Zq,trivial⟩
noncomputable def c38:Code:=ZP f38
noncomputable def Zhn (w0:AVal) (h:Za):Option (AVal×Za):=Zt ZiQ f38 [w0] h
noncomputable def ZfF (w0:AVal) (t2:Nat) (x4:Nat) (h:Za):Option (AVal×Za):=jn (Zl ZiQ (cb (cb (cb (cb c38)))) (AVal×Za) [(0,w0),(2,(.ptr t2 0)),(4,(.ptr x4 0))] h (Zj ZiQ f38))
noncomputable def Zi4 (w0:AVal) (t2:Nat) (x4:Nat) (e10:Int) (h:Za):Option (AVal×Za):=jn (Zl ZiQ (cb (cb (cb (cb (cb (cb (cb c38))))))) (AVal×Za) [(0,w0),(2,(.ptr t2 0)),(4,(.ptr x4 0)),(10,(.lit (.int .i64 e10)))] h (Zj ZiQ f38))
theorem Zw7 (w0:AVal) (h:Za):Zhn w0 h =
 (Zg w0).bind fun p1=>
 (Zf 6 p1).bind fun p2=>
 (ld1 ((psh h (.cells [(.lit (.int .i64 0)),(.lit (.int .u32 0))]))) p2).bind fun x3=>
 (asB x3).bind fun b4=>
 bif (!b4) then ((stn 2 ((psh h (.cells [(.lit (.int .i64 0)),(.lit (.int .u32 0))]))) (.ptr h.length 0) ([(.lit (.int .i64 0)),(.lit (.int .u32 0))])).bind fun h5=>
 (ldn 2 h5 (.ptr h.length 0)).bind fun xs6=>
 some ((.tup [(.agg xs6),(.lit (.int .i64 14))]),h5))
 else ((Zg w0).bind fun p7=>
 (Zf 5 p7).bind fun p8=>
 (ld1 ((psh h (.cells [(.lit (.int .i64 0)),(.lit (.int .u32 0))]))) p8).bind fun x9=>
 (ZM (Zhp x9 ((psh h (.cells [(.lit (.int .i64 0)),(.lit (.int .u32 0))])))) ((psh h (.cells [(.lit (.int .i64 0)),(.lit (.int .u32 0))])))).bind fun r10=>
 (asA r10).bind fun xs11=>
 (stn 2 ((psh ((psh h (.cells [(.lit (.int .i64 0)),(.lit (.int .u32 0))]))) (.cells [(.lit (.int .i64 0)),(.lit (.int .u32 0))]))) (.ptr (((psh h (.cells [(.lit (.int .i64 0)),(.lit (.int .u32 0))]))).length) 0) xs11).bind fun h12=>
 (Zg w0).bind fun p13=>
 (Zf 4 p13).bind fun p14=>
 (ld1 h12 p14).bind fun x15=>
 (Zbb x15).bind fun n16=>
 bif (decide (n16 > 0)) then ((Zg w0).bind fun p17=>
 (Zf 3 p17).bind fun p18=>
 (ld1 h12 p18).bind fun x19=>
 (asI .i64 x19).bind fun n20=>
 (Zg w0).bind fun p21=>
 (Zf 4 p21).bind fun p22=>
 (ld1 h12 p22).bind fun x23=>
 (ZM (ZfG n20 x23 h12) h12).bind fun r24=>
 (Z6 r24 0).bind fun x25=>
 (asS x25).bind fun s26=>
 (Z6 r24 1).bind fun x27=>
 (asB x27).bind fun b28=>
 (Zfh w0 s26 h12).bind fun r29=>
 (asI .i64 r29.1).bind fun n30=>
 bif (!decide (n30 = 0)) then ((stn 2 r29.2 (.ptr h.length 0) ([(.lit (.int .i64 0)),(.lit (.int .u32 0))])).bind fun h31=>
 (ldn 2 h31 (.ptr h.length 0)).bind fun xs32=>
 some ((.tup [(.agg xs32),(.lit (.int .i64 n30))]),h31))
 else (ZfF w0 h.length (((psh h (.cells [(.lit (.int .i64 0)),(.lit (.int .u32 0))]))).length) r29.2))
 else (ZfF w0 h.length (((psh h (.cells [(.lit (.int .i64 0)),(.lit (.int .u32 0))]))).length) h12)):=by kernel_rfl
theorem Z7b (w0:AVal) (t2:Nat) (x4:Nat) (h:Za):ZfF w0 t2 x4 h =
 (ldn 2 h (.ptr x4 0)).bind fun xs33=>
 (ZM (Zi8 xs33 h) h).bind fun r34=>
 (Z6 r34 0).bind fun x35=>
 (asS x35).bind fun s36=>
 (Z6 r34 1).bind fun x37=>
 (asB x37).bind fun b38=>
 (Zfh w0 s36 h).bind fun r39=>
 (asI .i64 r39.1).bind fun n40=>
 bif (decide (n40 = 0)) then ((Zg w0).bind fun p41=>
 (Zf 0 p41).bind fun p42=>
 (ld1 r39.2 p42).bind fun x43=>
 (Zg w0).bind fun p44=>
 (Zf 2 p44).bind fun p45=>
 (ld1 r39.2 p45).bind fun x46=>
 (asS x46).bind fun s47=>
 (Zhu x43 s47 r39.2).bind fun r48=>
 (asI .i64 r48.1).bind fun n49=>
 Zi4 w0 t2 x4 n49 r48.2)
 else (Zi4 w0 t2 x4 n40 r39.2):=(ZF _).trans (by kernel_rfl)
theorem Zw8 (w0:AVal) (t2:Nat) (x4:Nat) (e10:Int) (h:Za):Zi4 w0 t2 x4 e10 h =
 (Zgs w0 h).bind fun r50=>
 bif (!decide (e10 = 0)) then ((stn 2 r50.2 (.ptr t2 0) ([(.lit (.int .i64 0)),(.lit (.int .u32 0))])).bind fun h51=>
 (ldn 2 h51 (.ptr t2 0)).bind fun xs52=>
 some ((.tup [(.agg xs52),(.lit (.int .i64 e10))]),h51))
 else ((ldn 2 r50.2 (.ptr x4 0)).bind fun xs53=>
 (stn 2 r50.2 (.ptr t2 0) xs53).bind fun h54=>
 (ldn 2 h54 (.ptr t2 0)).bind fun xs55=>
 some ((.tup [(.agg xs55),(.lit (.int .i64 0))]),h54)):=(ZF _).trans (by kernel_rfl)
theorem Z7a {w0:AVal} {h h':Za} {v:AVal} {R:AEnd→Za→Prop} (hx:Zhn w0 h = some (v,h')) (hR:HOk h→h.length≤h'.length→ABody.AEnds h h' (.ret v) R):ACalls Tryz.prog 38 [w0] h R:=Zu Z99 Zo (i:=38) (by rfl) (by kernel_rfl) (by kernel_rfl) hx hR
noncomputable def Zpk:XC:=.l fun R args h K=>match args with
 | [a0]=>(Zhn a0 h).bind fun r=>K r.1 r.2
 |_=>none
theorem Zzz:XC.Nat Zpk∧XC.Ok Tryz.prog 38 Zpk:=by
 refine ⟨fun R args h K=>?_,tc38,fun args h v h' hx=>?_⟩
 ·dsimp only;split<;>simp[Option.bind_assoc,mkP]
 ·dsimp only at hx;split at hx
  ·obtain ⟨r,hopt,hx⟩:=Option.bind_eq_some_iff.1 hx
   simp only[mkP,Option.some.injEq,Prod.mk.injEq] at hx
   obtain ⟨rfl,rfl⟩:=hx
   exact (by obtain ⟨v,h'⟩:=r;exact Z7a hopt selfR)
  ·cases hx
noncomputable def ZxC:XE:={ T:=Zn [(3,r3),(4,r4),(9,r9),(29,r29),(52,r52),(56,r56),(62,r62),(111,ZgL)],C:=[],D:=[],Ms:=[],Ml:=[],Mo:=[],n:=8}
theorem Z98:XE.Ok ZxC Tryz.prog:=⟨Zp (⟨Z0,⟨Z1,⟨Zz,⟨ZcE,⟨Zby,⟨Zfs,⟨ZgK,⟨ZhI,trivial⟩⟩⟩⟩⟩⟩⟩⟩),trivial,Zq,trivial⟩
noncomputable def Zi3 (w0:AVal) (h:Za):Option (AVal×Za):=Zt ZxC f34 [w0] h
theorem Z6Y (w0:AVal) (h:Za):Zi3 w0 h =
 (Zg w0).bind fun p1=>
 (Zf 5 p1).bind fun p2=>
 (ld1 h p2).bind fun x3=>
 (Zbb x3).bind fun n4=>
 some ((.lit (.int .i64 n4)),h):=by kernel_rfl
theorem Z6Z {w0:AVal} {h h':Za} {v:AVal} {R:AEnd→Za→Prop} (hx:Zi3 w0 h = some (v,h')) (hR:HOk h→h.length≤h'.length→ABody.AEnds h h' (.ret v) R):ACalls Tryz.prog 34 [w0] h R:=Zu Z98 Zo (i:=34) (by rfl) (by kernel_rfl) (by kernel_rfl) hx hR
noncomputable def Zpj:XC:=.q fun R args h K=>match args with
 | [a0]=>(Zv (Zi3 a0 h) h).bind fun r=>K r
 |_=>none
theorem Zzy:XC.Nat Zpj∧XC.Ok Tryz.prog 34 Zpj:=by
 refine ⟨fun R args h K=>?_,tc34,fun args h v hx=>?_⟩
 ·dsimp only;split<;>simp[Option.bind_assoc,mkP]
 ·dsimp only at hx;split at hx
  ·obtain ⟨r,hopt,hx⟩:=Option.bind_eq_some_iff.1 hx
   cases hx
   exact (by have hopt:=Zc7 hopt;exact Z6Z hopt selfR)
  ·cases hx
end Go.Proofs.YtogaiomakhapmaaGreat.AL
namespace Go.Proofs.YtogaiomakhapmaaGreat.AL
set_option maxRecDepth 100000
open Go
open Go.Proofs.Tryz
def dfC (f:Zw):List AVal:=[.lit (.string f.1),.lit (.string f.2.1),.lit (.int .i64 f.2.2)]
theorem ZjX (f:Zw):(dfC f).length = 3:=rfl
def ZcW (L:List Zw):List AVal:=L.flatMap dfC
structure DDk where
 room:Int
 fuse:Int
 down:Bool
 calls:Int
def ddC (D:DDk) (v:AVal):List AVal:=[.lit (.int .i64 D.room),v,.lit (.int .i64 D.fuse),.lit (.bool D.down),.lit (.int .i64 D.calls)]
structure DDAt (h:Za) (y:Nat) (D:DDk) (v:AVal) (L:List Zw):Prop where
 dcs:Zb h y = some (ddC D v)
 ls:Own 3 h v L.length (ZcW L)
 off:¬At v y
def Zcz (D:DDk):DDk:={ D with calls:=IntKind.wrap .i64 (D.calls + 1),down:=D.down || decide (D.fuse = 0),fuse:=Zs (-1) (IntKind.wrap .i64 (D.fuse - 1))}
section dd
variable {h:Za} {y:Nat} {D:DDk} {v:AVal} {L:List Zw}
theorem Z39 (d:AVal):ZfH d false h = some (.lit (.int .i64 1),h):=by
 rw[Zsd];rfl
theorem DDAt.sets (A:DDAt h y D v L) {g:Za} {D':DDk} (hc:Zb g y = some (ddC D' v)) (hg:∀ c,c≠y→g[c]? = h[c]?):DDAt g y D' v L:=
 ⟨hc,A.ls.keep fun b hb=>hg b fun e=>A.off (e ▸ hb),A.off⟩
theorem Z38 (A:DDAt h y D v L):∃ g,ZfH (.ptr y 0) true h = some (.lit (.int .i64 (if (Zcz D).down then 5 else 0)),g)∧DDAt g y (Zcz D) v L∧g.length = h.length∧∀ c,c≠y→g[c]? = h[c]?:=by
 obtain ⟨h1,hh1⟩:∃ h1,h1 = h.set y (.cells (ddC { D with calls:=IntKind.wrap .i64 (D.calls + 1)} v)):=⟨_,rfl⟩
 have c1:Zb h1 y = some (ddC { D with calls:=IntKind.wrap .i64 (D.calls + 1)} v):=by rw[hh1];exact Zm A.dcs
 have s1:st1 h (.ptr y (0 + 4)) (.lit (.int .i64 (IntKind.wrap .i64 (D.calls + 1)))) = some h1:=by rw[hh1];exact Zbq A.dcs rfl (by show 4 < 5;omega)
 have k1:∀ c,c≠y→h1[c]? = h[c]?:=fun c hn=>by rw[hh1,List.getElem?_set_ne (Ne.symm hn)]
 obtain ⟨h2,hh2⟩:∃ h2,h2 = h1.set y (.cells (ddC { D with calls:=IntKind.wrap .i64 (D.calls + 1),down:=D.down || decide (D.fuse = 0)} v)):=⟨_,rfl⟩
 have c2:Zb h2 y = some (ddC { D with calls:=IntKind.wrap .i64 (D.calls + 1),down:=D.down || decide (D.fuse = 0)} v):=by rw[hh2];exact Zm c1
 have k2:∀ c,c≠y→h2[c]? = h1[c]?:=fun c hn=>by rw[hh2,List.getElem?_set_ne (Ne.symm hn)]
 have tail:∀ (g:Za) (dn:Bool),dn = (D.down || decide (D.fuse = 0))→Zb g y = some (ddC { D with calls:=IntKind.wrap .i64 (D.calls + 1),down:=dn} v)→
   Zn3 (.ptr y 0) g = some (.lit (.int .i64 (if (Zcz D).down then 5 else 0)),g.set y (.cells (ddC (Zcz D) v))):=fun g dn hd hc=>by
  subst hd
  have c3:Zb (g.set y (.cells (ddC (Zcz D) v))) y = some (ddC (Zcz D) v):=Zm hc
  have s3:st1 g (.ptr y (0 + 2)) (.lit (.int .i64 (Zs (-1) (IntKind.wrap .i64 (D.fuse - 1))))) = some (g.set y (.cells (ddC (Zcz D) v))):=Zbq hc rfl (by show 2 < 5;omega)
  rw[Z7J]
  refine bd rfl (bd rfl (bd (Zc hc) (bd rfl (bd rfl (bd rfl (bd s3 (bd rfl (bd rfl (bd (Zc c3) (bd rfl ?_))))))))))
  cases (Zcz D).down<;>rfl
 by_cases hf:D.fuse = 0
 ·refine ⟨h2.set y (.cells (ddC (Zcz D) v)),?_,A.sets (Zm c2) (fun c hn=>by rw[List.getElem?_set_ne (Ne.symm hn),k2 c hn,k1 c hn]),by rw[hh2,hh1];simp,fun c hn=>by rw[List.getElem?_set_ne (Ne.symm hn),k2 c hn,k1 c hn]⟩
  rw[Zsd]
  have s2:st1 h1 (.ptr y (0 + 3)) (.lit (.bool true)) = some h2:=by
   have e:(D.down || decide (D.fuse = 0)) = true:=by rw[decide_eq_true hf,Bool.or_true]
   rw[hh2,e];exact Zbq c1 (x:=.lit (.bool true)) rfl (by show 3 < 5;omega)
  exact cF rfl (bd rfl (bd rfl (bd (Zc A.dcs) (bd rfl (bd rfl (bd rfl (bd s1 (bd rfl (bd rfl (bd (Zc c1) (bd rfl (cT (decide_eq_true hf) (bd rfl (bd rfl (bd s2 (tail h2 _ rfl c2))))))))))))))))
 ·have hd:D.down = (D.down || decide (D.fuse = 0)):=by rw[decide_eq_false hf,Bool.or_false]
  refine ⟨h1.set y (.cells (ddC (Zcz D) v)),?_,A.sets (Zm c1) (fun c hn=>by rw[List.getElem?_set_ne (Ne.symm hn),k1 c hn]),by rw[hh1];simp,fun c hn=>by rw[List.getElem?_set_ne (Ne.symm hn),k1 c hn]⟩
  rw[Zsd]
  exact cF rfl (bd rfl (bd rfl (bd (Zc A.dcs) (bd rfl (bd rfl (bd rfl (bd s1 (bd rfl (bd rfl (bd (Zc c1) (bd rfl (cF (decide_eq_false hf) (tail h1 D.down hd c1)))))))))))))
def ZbC:List Zw→ByteArray→Option Nat
 | [],_=>none
 |f :: l,n=>if f.1 = n then some 0 else (ZbC l n).map (· + 1)
def Zcx (L:List Zw) (n:ByteArray):Int:=match ZbC L n with
 |some i=>(i:Int)
 |none=> -1
theorem DDAt.file (A:DDAt h y D v L) {i:Nat} (hi:i < L.length):∃ p,Zbc 3 v (i:Int) = some p∧ldn 3 h p = some (dfC L[i])∧∀ o,o < 3→∃ q,Zf o p = some q∧ld1 h q = (dfC L[i])[o]?:=by
 obtain ⟨p,e1,e2,e3,_⟩:=A.ls.sl.idx hi
 refine ⟨p,e1,?_,fun o ho=>?_⟩
 ·rw[e2];exact congrArg some (Zm8 ZjX L i hi)
 ·obtain ⟨q,q1,q2⟩:=e3 o ho
  exact ⟨q,q1,by rw[q2];exact Zvc ZjX L i hi ho⟩
theorem Z3A (A:DDAt h y D v L) (hl:L.length≤1000) (n:ByteArray):∀ m i,i + m = L.length→Zn4 (.ptr y 0) n (i:Int) h = some (.lit (.int .i64 (match ZbC (L.drop i) n with |some j=>((i + j:Nat):Int) |none=> -1)),h):=by
 intro m
 induction m with
 |zero=>
  intro i hi
  rw[ZwV,List.drop_of_length_le (by omega)]
  refine bd rfl (bd rfl (bd (Zc A.dcs) (bd A.ls.sl.len (cF (decide_eq_false (by omega)) ?_))))
  rw[Z7M];rfl
 |succ m ih=>
  intro i hi
  have hlt:i < L.length:=by omega
  obtain ⟨p,e1,e2,e3⟩:=A.file hlt
  obtain ⟨q,q1,q2⟩:=e3 0 (by omega)
  have hd:L.drop i = L[i] :: L.drop (i + 1):=List.drop_eq_getElem_cons hlt
  rw[ZwV,hd]
  refine bd rfl (bd rfl (bd (Zc A.dcs) (bd A.ls.sl.len (cT (decide_eq_true (by omega)) (bd rfl (bd rfl (bd (Zc A.dcs) (bd e1 (bd q1 (bd q2 (bd rfl ?_)))))))))))
  show cond (decide (L[i].1 = n)) _ _ = _
  unfold ZbC
  by_cases hn:L[i].1 = n
  ·rw[decide_eq_true hn,if_pos hn];rfl
  ·rw[decide_eq_false hn,if_neg hn,cond_false,wrap_i64 (by omega) (by omega),show (i:Int) + 1 = ((i + 1:Nat):Int) by omega,ih (i + 1) (by omega)]
   cases ZbC (L.drop (i + 1)) n with
   |none=>rfl
   |some j=>
    show some (AVal.lit (.int .i64 ((i + 1 + j:Nat):Int)),h) = some (AVal.lit (.int .i64 ((i + (j + 1):Nat):Int)),h)
    rw[show i + 1 + j = i + (j + 1) by omega]
theorem ZmG (A:DDAt h y D v L) (hl:L.length≤1000) (n:ByteArray):Zv (ZfI (.ptr y 0) n h) h = some (.lit (.int .i64 (Zcx L n))):=by
 have:ZfI (.ptr y 0) n h = some (.lit (.int .i64 (Zcx L n)),h):=by
  rw[Z7K]
  refine (Z3A A hl n L.length 0 (by omega)).trans ?_
  rw[List.drop_zero]
  unfold Zcx
  cases ZbC L n with
  |none=>rfl
  |some j=>show some (AVal.lit (.int .i64 ((0 + j:Nat):Int)),h) = _;rw[Nat.zero_add]
 rw[this];exact ZbI _ _
def Zcd (L:List Zw):Nat:=(L.map fun f=>f.2.1.size).sum
theorem Z3w (A:DDAt h y D v L) (hl:L.length≤1000) (hu:Zcd L≤4611686018427387904):∀ m i,i + m = L.length→Zla (.ptr y 0) ((Zcd (L.take i):Nat):Int) (i:Int) h = some (.lit (.int .i64 ((Zcd L:Nat):Int)),h):=by
 have hle:∀ i,Zcd (L.take i)≤Zcd L:=fun i=>by
  conv=>rhs;rw[←List.take_append_drop i L]
  unfold Zcd;rw[List.map_append,List.sum_append];omega
 intro m
 induction m with
 |zero=>
  intro i hi
  rw[ZwX,List.take_of_length_le (by omega)]
  refine bd rfl (bd rfl (bd (Zc A.dcs) (bd A.ls.sl.len (cF (decide_eq_false (by omega)) ?_))))
  rw[Z7R]
 |succ m ih=>
  intro i hi
  have hlt:i < L.length:=by omega
  obtain ⟨p,e1,e2,e3⟩:=A.file hlt
  obtain ⟨q,q1,q2⟩:=e3 1 (by omega)
  have ht:Zcd (L.take (i + 1)) = Zcd (L.take i) + L[i].2.1.size:=by
   unfold Zcd
   rw[List.take_add_one,List.getElem?_eq_getElem hlt]
   show ((L.take i++[L[i]]).map fun f=>f.2.1.size).sum = _
   rw[List.map_append,List.sum_append]
   rfl
  have:=hle (i + 1)
  rw[ZwX]
  refine bd rfl (bd rfl (bd (Zc A.dcs) (bd A.ls.sl.len (cT (decide_eq_true (by omega)) (bd rfl (bd rfl (bd (Zc A.dcs) (bd e1 (bd q1 (bd q2 (bd rfl ?_)))))))))))
  show Zla (.ptr y 0) (IntKind.wrap .i64 (((Zcd (L.take i):Nat):Int) + (L[i].2.1.size:Int))) (IntKind.wrap .i64 ((i:Int) + 1)) h = _
  rw[wrap_i64 (by omega) (by omega),wrap_i64 (by omega) (by omega),show ((Zcd (L.take i):Nat):Int) + (L[i].2.1.size:Int) = ((Zcd (L.take (i + 1)):Nat):Int) by omega]
  exact ih (i + 1) (by omega)
theorem Z3v (A:DDAt h y D v L) (hl:L.length≤1000) (hu:Zcd L≤4611686018427387904):Zv (ZiB (.ptr y 0) h) h = some (.lit (.int .i64 ((Zcd L:Nat):Int))):=by
 have:ZiB (.ptr y 0) h = some (.lit (.int .i64 ((Zcd L:Nat):Int)),h):=by
  rw[Z7P];exact Z3w A hl hu L.length 0 (by omega)
 rw[this];exact ZbI _ _
end dd
end Go.Proofs.YtogaiomakhapmaaGreat.AL
namespace Go.Proofs.YtogaiomakhapmaaGreat.AL
set_option maxRecDepth 100000
open Go
open Go.Proofs.Tryz
theorem Z1R (c:Int):(!Zd8 c) = ((decide (c < 97) || decide (c > 122)) && ((decide (c < 48) || decide (c > 57)) && !decide (c = 46))):=by
 apply Bool.eq_iff_iff.2
 unfold Zd8
 simp
 omega
theorem Z32 (name:ByteArray) (i c:Int) (h:Za):(cond (decide (c < 97)) (Zi9 name i c true h) (Zi9 name i c (decide (c > 122)) h)) = cond (!Zd8 c) (some (.lit (.bool false),h)) (ZkZ name (IntKind.wrap .i64 (i + 1)) h):=by
 have e3:∀ t,ZkY name i c t h = ZkX name i (t && !decide (c = 46)) h:=fun t=>by
  rw[Z7E];cases t<;>rfl
 have e1:∀ t,Zi9 name i c t h = ZkX name i (t && ((decide (c < 48) || decide (c > 57)) && !decide (c = 46))) h:=fun t=>by
  rw[Z7G]
  cases t with
  |false=>rw[cond_false,e3];rfl
  |true=>rw[cond_true,e3,e3];cases decide (c < 48)<;>rfl
 rw[Z1R,←Z7D,e1,e1]
 cases decide (c < 97)<;>rfl
theorem Z33 {s:ByteArray} (hs:s.size≤4611686018427387904) (h:Za):∀ m i,i + m = s.size→ZkZ s (i:Int) h = some (.lit (.bool (Zkk (s.data.toList.drop i) && (decide ((s.size:Int)≥1) && decide ((s.size:Int)≤24)))),h):=by
 have hz:s.data.toList.length = s.size:=Array.length_toList
 intro m
 induction m with
 |zero=>
  intro i hi
  rw[ZwS,List.drop_of_length_le (by omega)]
  refine cF (decide_eq_false (by omega)) ?_
  rw[Z7F]
  cases decide ((s.size:Int)≥1)
  ·exact cF rfl (by rw[ZwQ];rfl)
  ·exact cT rfl (by rw[ZwQ];rfl)
 |succ m ih=>
  intro i hi
  have hlt:i < s.data.toList.length:=by omega
  have hd:s.data.toList.drop i = s.data.toList[i] :: s.data.toList.drop (i + 1):=List.drop_eq_getElem_cons hlt
  rw[ZwS,hd]
  refine cT (decide_eq_true (by omega)) (bd (Zt5 (by omega)) ?_)
  rw[Z32,wrap_i64 (by omega) (by omega),show (i:Int) + 1 = ((i + 1:Nat):Int) by omega,ih (i + 1) (by omega)]
  show _ = some (AVal.lit (.bool ((Zd8 (s.data.toList[i].toNat) && Zkk (s.data.toList.drop (i + 1))) && _)),h)
  cases Zd8 (s.data.toList[i].toNat)<;>simp
theorem Ze9 {s:ByteArray} (hs:s.size≤4611686018427387904) (h:Za):Zv (Zgu s h) h = some (.lit (.bool (Zbp s))):=by
 have:Zgu s h = some (.lit (.bool (Zbp s)),h):=by
  rw[Z7B]
  refine (Z33 hs h s.size 0 (by omega)).trans ?_
  rw[List.drop_zero]
  unfold Zbp
  have e:decide ((s.size:Int)≥1) = !decide (s = ({ data:=#[]}:ByteArray)):=by
   by_cases c:s = ({ data:=#[]}:ByteArray)
   ·subst c;rfl
   ·rw[decide_eq_false c]
    refine decide_eq_true ?_
    have:s.size≠0:=fun e=>c (by apply ByteArray.ext;exact Array.eq_empty_of_size_eq_zero e)
    omega
  rw[e]
 rw[this];exact ZbI _ _
def ZdX:List Zw→Zw→List Zw
 | [],f=>[f]
 |a :: l,f=>if ZdR a.1 f.1 then a :: ZdX l f else f :: a :: l
def Zcv (L:List Zw) (n:ByteArray):List Zw:=L.filter fun f=>!decide (f.1 = n)
theorem ZqH (a b:List Zw):ZcW (a++b) = ZcW a++ZcW b:=by simp[ZcW]
theorem Zvh (a:List Zw):(ZcW a).length = a.length * 3:=Z3h ZjX a
theorem Z3k (a:List Zw):(ZcW a).all (·.one) = true:=by
 rw[List.all_eq_true]
 intro v hv
 obtain ⟨f,_,hf⟩:=List.mem_flatMap.1 hv
 simp only[dfC,List.mem_cons,List.not_mem_nil,or_false] at hf
 rcases hf with rfl |rfl |rfl<;>rfl
theorem Z3l (L:List Zw) (i:Nat) (hi:i≤L.length):(ZcW L).drop (i * 3) = ZcW (L.drop i):=by
 conv=>lhs;rw[←List.take_append_drop i L,ZqH]
 exact List.drop_left' (by rw[Zvh,List.length_take,Nat.min_eq_left hi])
theorem ZqI {h:Za} {v:AVal} {L:List Zw} {n i:Nat} (S:Sl 3 h v n (ZcW L)) (hi:i < L.length):∃ p,Zbc 3 v (i:Int) = some p∧ldn 3 h p = some (dfC L[i])∧∀ o,o < 3→∃ q,Zf o p = some q∧ld1 h q = (dfC L[i])[o]?:=by
 have hn:=S.1
 rw[Zvh] at hn
 obtain ⟨p,e1,e2,e3,_⟩:=S.idx (i:=i) (by omega)
 refine ⟨p,e1,?_,fun o ho=>?_⟩
 ·rw[e2];exact congrArg some (Zm8 ZjX L i hi)
 ·obtain ⟨q,q1,q2⟩:=e3 o ho
  exact ⟨q,q1,by rw[q2];exact Zvc ZjX L i hi ho⟩
structure Mk (h0 g:Za) (out:AVal) (L:List Zw):Prop where
 grow:Grow h0 g
 own:Own 3 g out L.length (ZcW L)
 new:∀ b,At out b→h0.length≤b
theorem Mk.push {h0 g:Za} {out:AVal} {L:List Zw} (M:Mk h0 g out L) (f:Zw) (hl:L.length≤1000) {zs:List AVal} (hz:zs.length = 3):
  ∃ v' g',(ZbW 3 zs 1 [(0,.agg (dfC f))] g = some (.sl 3 g.length 0 1,g++[.cells (dfC f)]))∧ZbY 3 40 (g++[.cells (dfC f)]) out (.sl 3 g.length 0 1) = some (v',g')∧Mk h0 g' v' (L++[f])∧(∀ c,c < g.length→¬At out c→g'[c]? = g[c]?)∧(∀ b,At v' b→g.length≤b)∧g.length≤g'.length:=by
 obtain ⟨v',g',e,O,l1,l2,a,k⟩:=Z1v (k:=3) (w:=40) M.own (xs:=dfC f) rfl rfl (by omega)
 refine ⟨v',g',Z4f hz rfl (by omega),e,⟨⟨by have:=M.grow.len;omega,fun c hc _=>(k c (by have:=M.grow.len;omega) fun hv=>by have:=M.new c hv;omega).trans (Keep.get M.grow c hc (fun h=>by cases h))⟩,?_,fun b hb=>by have:=a b hb;have:=M.grow.len;omega⟩,k,a,l1⟩
 rw[List.length_append,ZqH];exact O
end Go.Proofs.YtogaiomakhapmaaGreat.AL
namespace Go.Proofs.YtogaiomakhapmaaGreat.AL
set_option maxRecDepth 100000
open Go
open Go.Proofs.Tryz
section lists
variable {h0:Za} {v:AVal} {L:List Zw}
theorem Zvr (S:Sl 3 h0 v L.length (ZcW L)) (hL:L.length≤500) {g:Za} {out:AVal} {P:List Zw} (M:Mk h0 g out P) (hp:P.length≤L.length) {f3:Nat} {f:Zw} (cf:Zb g f3 = some (dfC f)):
  ∃ v' g',Zn1 v f3 out (P.length:Int) g = some (v',g')∧Mk h0 g' v' (P++f :: L.drop P.length):=by
 obtain ⟨v1,g1,e0,e1,M1,k1,a1,l1⟩:=M.push f (by omega) (zs:=[.lit (.string { data:=#[]}),.lit (.string { data:=#[]}),.lit (.int .i64 0)]) rfl
 obtain ⟨v2,c2,S2⟩:=S.suf (lo:=P.length) hp
 have S2':=S2.grow M1.grow
 have hns:=S2'.1
 rw[Z3l L _ hp] at S2' hns
 obtain ⟨v3,g3,e3,O3,l3,l3',a3,k3⟩:=ZvN (w:=40) M1.own S2'.srcLen S2'.src_all hns (by rw[List.length_append,List.length_singleton];omega) (Z3k _)
 refine ⟨v3,g3,?_,⟨by have:=M1.grow.len;omega,fun c hc hx=>(k3 c (by have:=M1.grow.len;omega) fun hv=>by have:=M1.new c hv;omega).trans (Keep.get M1.grow c hc hx)⟩,?_,fun b hb=>by have:=a3 b hb;have:=M1.grow.len;omega⟩
 ·rw[Z7A]
  exact bd (Zbh cf (by show 3≤3;omega)) (bd e0 (bd e1 (bd c2 (bd e3 rfl))))
 ·have e:P++f :: L.drop P.length = (P++[f])++L.drop P.length:=by simp
  rw[e,ZqH,List.length_append,List.length_drop];exact O3
theorem Z34 (S:Sl 3 h0 v L.length (ZcW L)) (hL:L.length≤500) {f3:Nat} {f:Zw}:∀ (m:Nat) (P:List Zw) (g:Za) (out:AVal),P.length + m = L.length→Mk h0 g out P→Zb g f3 = some (dfC f)→¬At out f3→
  ∃ v' g',Zn2 v f3 out (P.length:Int) g = some (v',g')∧Mk h0 g' v' (P++ZdX (L.drop P.length) f):=by
 intro m
 induction m with
 |zero=>
  intro P g out hm M cf hf
  obtain ⟨v',g',e,M'⟩:=Zvr S hL M (by omega) cf
  refine ⟨v',g',?_,?_⟩
  ·rw[ZrZ]
   exact bd (S.grow M.grow).len (cF (decide_eq_false (by omega)) e)
  ·rw[List.drop_of_length_le (by omega)] at M'⊢;exact M'
 |succ m ih=>
  intro P g out hm M cf hf
  have hlt:P.length < L.length:=by omega
  obtain ⟨p,e1,e2,e3⟩:=ZqI (S.grow M.grow) hlt
  obtain ⟨q,q1,q2⟩:=e3 0 (by omega)
  have hd:L.drop P.length = L[P.length] :: L.drop (P.length + 1):=List.drop_eq_getElem_cons hlt
  by_cases hs:ZdR L[P.length].1 f.1 = true
  ·obtain ⟨v1,g1,b0,b1,M1,k1,a1,l1⟩:=M.push L[P.length] (by omega) (zs:=[.lit (.string { data:=#[]}),.lit (.string { data:=#[]}),.lit (.int .i64 0)]) rfl
   have cf1:Zb g1 f3 = some (dfC f):=by rw[show Zb g1 f3 = Zb g f3 by unfold Zb;rw[k1 f3 (ZB cf) hf]];exact cf
   have hl1:(P++[L[P.length]]).length = P.length + 1:=by simp
   obtain ⟨v',g',e,M'⟩:=ih (P++[L[P.length]]) g1 v1 (by omega) M1 cf1 fun hv=>by have:=a1 f3 hv;have:=ZB cf;omega
   refine ⟨v',g',?_,?_⟩
   ·rw[ZrZ]
    refine bd (S.grow M.grow).len (cT (decide_eq_true (by omega)) (bd e1 (bd q1 (bd q2 (bd rfl (bd (Zc cf) (bd rfl (cT hs (bd e1 (bd e2 (bd b0 (bd b1 ?_))))))))))))
    rw[wrap_i64 (by omega) (by omega),show (P.length:Int) + 1 = ((P++[L[P.length]]).length:Int) by omega]
    exact e
   ·rw[hd,ZdX,if_pos hs]
    rw[hl1,List.append_assoc] at M'
    exact M'
  ·obtain ⟨v',g',e,M'⟩:=Zvr S hL M (by omega) cf
   refine ⟨v',g',?_,?_⟩
   ·rw[ZrZ]
    exact bd (S.grow M.grow).len (cT (decide_eq_true (by omega)) (bd e1 (bd q1 (bd q2 (bd rfl (bd (Zc cf) (bd rfl (cF (by cases hx:ZdR L[P.length].1 f.1 with |true=>exact absurd hx hs |false=>rfl) e))))))))
   ·rw[hd] at M'⊢
    rw[ZdX,if_neg hs];exact M'
theorem Zvq (S:Sl 3 h0 v L.length (ZcW L)) (hL:L.length≤500) (f:Zw):∃ v' g',Zgt v (dfC f) h0 = some (v',g')∧Mk h0 g' v' (ZdX L f):=by
 have M0:Mk h0 (psh h0 (.cells (dfC f))) (.lit (.slice none 0 0)) []:=⟨(Grow.refl h0).psh _,Own.nil _ _,fun b hb=>by obtain ⟨_,_,_,e⟩:=hb;cases e⟩
 obtain ⟨v',g',e,M'⟩:=Z34 S hL L.length [] _ _ (by simp) M0 (ZU h0 (dfC f)) (fun hb=>by obtain ⟨_,_,_,e⟩:=hb;cases e)
 refine ⟨v',g',?_,M'⟩
 rw[Z78];exact e
theorem Z3t (S:Sl 3 h0 v L.length (ZcW L)) (hL:L.length≤500) {n:ByteArray}:∀ (m i:Nat) (g:Za) (out:AVal),i + m = L.length→Mk h0 g out (Zcv (L.take i) n)→
  ∃ v' g',Zn0 v n out (i:Int) g = some (v',g')∧Mk h0 g' v' (Zcv L n):=by
 intro m
 induction m with
 |zero=>
  intro i g out hm M
  rw[List.take_of_length_le (by omega)] at M
  refine ⟨out,g,?_,M⟩
  rw[ZrY]
  refine bd (S.grow M.grow).len (cF (decide_eq_false (by omega)) ?_)
  rw[Z77]
 |succ m ih=>
  intro i g out hm M
  have hlt:i < L.length:=by omega
  obtain ⟨p,e1,e2,e3⟩:=ZqI (S.grow M.grow) hlt
  obtain ⟨q,q1,q2⟩:=e3 0 (by omega)
  have ht:L.take (i + 1) = L.take i++[L[i]]:=by rw[List.take_add_one,List.getElem?_eq_getElem hlt];rfl
  have hle:(Zcv (L.take i) n).length≤1000:=by
   have:=List.length_filter_le (fun f:Zw=>!decide (f.1 = n)) (L.take i)
   rw[List.length_take] at this
   show (List.filter _ _).length≤1000
   omega
  by_cases hs:L[i].1 = n
  ·have M1:Mk h0 g out (Zcv (L.take (i + 1)) n):=by
    have:Zcv (L.take (i + 1)) n = Zcv (L.take i) n:=by unfold Zcv;rw[ht,List.filter_append];simp[hs]
    rw[this];exact M
   obtain ⟨v',g',e,M'⟩:=ih (i + 1) g out (by omega) M1
   refine ⟨v',g',?_,M'⟩
   rw[ZrY]
   refine bd (S.grow M.grow).len (cT (decide_eq_true (by omega)) (bd e1 (bd q1 (bd q2 (bd rfl (cF (by rw[decide_eq_true hs];rfl) ?_))))))
   rw[ZwP,wrap_i64 (by omega) (by omega),show (i:Int) + 1 = ((i + 1:Nat):Int) by omega]
   exact e
  ·obtain ⟨v1,g1,b0,b1,M1,k1,a1,l1⟩:=M.push L[i] hle (zs:=[.lit (.string { data:=#[]}),.lit (.string { data:=#[]}),.lit (.int .i64 0)]) rfl
   have hx:Zcv (L.take (i + 1)) n = Zcv (L.take i) n++[L[i]]:=by unfold Zcv;rw[ht,List.filter_append];simp[hs]
   rw[←hx] at M1
   obtain ⟨v',g',e,M'⟩:=ih (i + 1) g1 v1 (by omega) M1
   refine ⟨v',g',?_,M'⟩
   rw[ZrY]
   refine bd (S.grow M.grow).len (cT (decide_eq_true (by omega)) (bd e1 (bd q1 (bd q2 (bd rfl (cT (by rw[decide_eq_false hs];rfl) (bd e1 (bd e2 (bd b0 (bd b1 ?_))))))))))
   rw[ZwP,wrap_i64 (by omega) (by omega),show (i:Int) + 1 = ((i + 1:Nat):Int) by omega]
   exact e
theorem Z3s (S:Sl 3 h0 v L.length (ZcW L)) (hL:L.length≤500) (n:ByteArray):∃ v' g',Zhs v n h0 = some (v',g')∧Mk h0 g' v' (Zcv L n):=by
 obtain ⟨v',g',e,M'⟩:=Z3t S hL (n:=n) L.length 0 h0 (.lit (.slice none 0 0)) (by omega) ⟨.refl h0,Own.nil _ _,fun b hb=>by obtain ⟨_,_,_,e⟩:=hb;cases e⟩
 refine ⟨v',g',?_,M'⟩
 rw[Z75];exact e
end lists
end Go.Proofs.YtogaiomakhapmaaGreat.AL
namespace Go.Proofs.YtogaiomakhapmaaGreat.AL
set_option maxRecDepth 100000
open Go
open Go.Proofs.Tryz
def dE (D:DDk) (n:ByteArray):Int:=if Zbp n then (if (Zcz D).down then 5 else 0) else 1
def dD (D:DDk) (n:ByteArray):DDk:=if Zbp n then Zcz D else D
structure DFr (y:Nat) (h g:Za) (v v':AVal):Prop where
 len:h.length≤g.length
 get:∀ c,c < h.length→c≠y→g[c]? = h[c]?
 at':∀ b,At v' b→At v b∨h.length≤b
theorem DFr.trans {y:Nat} {h g g':Za} {v v' v'':AVal} (a:DFr y h g v v') (b:DFr y g g' v' v''):DFr y h g' v v'':=
 ⟨Nat.le_trans a.len b.len,fun c hc hn=>(b.get c (Nat.lt_of_lt_of_le hc a.len) hn).trans (a.get c hc hn),fun c hc=>(b.at' c hc).elim (fun h=>a.at' c h) (fun h=>.inr (Nat.le_trans a.len h))⟩
section ops
variable {h:Za} {y:Nat} {D:DDk} {v:AVal} {L:List Zw}
theorem ZqP (A:DDAt h y D v L) (n:ByteArray):∃ g,ZfH (.ptr y 0) (Zbp n) h = some (.lit (.int .i64 (dE D n)),g)∧DDAt g y (dD D n) v L∧DFr y h g v v:=by
 unfold dE dD
 cases Zbp n with
 |false=>exact ⟨h,Z39 _,A,Nat.le_refl _,fun _ _ _=>rfl,fun _ h=>.inl h⟩
 |true=>
  obtain ⟨g,e,A',l,k⟩:=Z38 A
  exact ⟨g,e,A',by omega,fun c _ hn=>k c hn,fun _ h=>.inl h⟩
theorem Own.one' {k n:Nat} {g:Za} {w:AVal} {cs:List AVal} (O:Own k g w n cs):w.one = true:=by
 obtain ⟨_,⟨rfl,_⟩ | ⟨b,rfl,_⟩⟩:=O<;>rfl
theorem ZqM {g1 g2:Za} {w:AVal} {L':List Zw} (A:DDAt g1 y D v L) (M:Mk g1 g2 w L'):∃ g3,st1 g2 (.ptr y (0 + 1)) w = some g3∧DDAt g3 y D w L'∧DFr y g1 g3 v w:=by
 have hy:=ZB A.dcs
 have c2:=M.grow.cells A.dcs
 have c3:Zb (g2.set y (.cells (ddC D w))) y = some (ddC D w):=Zm c2
 have k:∀ c,c≠y→(g2.set y (.cells (ddC D w)))[c]? = g2[c]?:=fun c hn=>List.getElem?_set_ne (Ne.symm hn)
 refine ⟨g2.set y (.cells (ddC D w)),Zbq c2 M.own.one' (by show 1 < 5;omega),⟨c3,M.own.keep fun b hb=>k b (by have:=M.new b hb;omega),fun hb=>by have:=M.new y hb;omega⟩,⟨by have:=M.grow.len;simpa using this,fun c hc hn=>(k c hn).trans (Keep.get M.grow c hc fun h=>by cases h),fun b hb=>.inr (M.new b hb)⟩⟩
theorem ZqO (A:DDAt h y D v L) (hl:L.length≤1000) (n:ByteArray):Zv (ZiC (.ptr y 0) n h) h = some (.lit (.bool (decide (Zcx L n≥0)))):=by
 have:ZiC (.ptr y 0) n h = some (.lit (.bool (decide (Zcx L n≥0))),h):=by
  rw[Z7X]
  exact bd (ZmG A hl n) (bd rfl rfl)
 rw[this];exact ZbI _ _
def Zcw (D:DDk) (L:List Zw) (n:ByteArray):Int:=if dE D n≠0 then dE D n else if Zcx L n≥0 then 3 else if (L.length:Int)≥200 then 4 else 0
def Zhd (D:DDk) (L:List Zw) (n:ByteArray):List Zw:=if Zcw D L n = 0 then ZdX L (n,⟨#[]⟩,0) else L
theorem Z37 (A:DDAt h y D v L) (hl:L.length≤500) (n:ByteArray) (hn:n.size≤4611686018427387904):
  ∃ g v',Zlc (.ptr y 0) n h = some (.lit (.int .i64 (Zcw D L n)),g)∧DDAt g y (dD D n) v' (Zhd D L n)∧DFr y h g v v':=by
 obtain ⟨g1,e1,A1,F1⟩:=ZqP A n
 by_cases c1:dE D n = 0
 ·by_cases c2:Zcx L n≥0
  ·have ee:Zcw D L n = 3:=by unfold Zcw;rw[if_neg (by omega),if_pos c2]
   refine ⟨g1,v,?_,by unfold Zhd;rw[ee,if_neg (by omega)];exact A1,F1⟩
   rw[Zn8,ee]
   exact bd (Ze9 hn h) (bd rfl (bd e1 (bd rfl (cF (by rw[decide_eq_true c1];rfl) (bd (ZqO A1 (by omega) n) (bd rfl (cT (decide_eq_true c2) rfl)))))))
  ·by_cases c3:(L.length:Int)≥200
   ·have ee:Zcw D L n = 4:=by unfold Zcw;rw[if_neg (by omega),if_neg c2,if_pos c3]
    refine ⟨g1,v,?_,by unfold Zhd;rw[ee,if_neg (by omega)];exact A1,F1⟩
    rw[Zn8,ee]
    exact bd (Ze9 hn h) (bd rfl (bd e1 (bd rfl (cF (by rw[decide_eq_true c1];rfl) (bd (ZqO A1 (by omega) n) (bd rfl (cF (decide_eq_false c2) (bd rfl (bd rfl (bd (Zc A1.dcs) (bd A1.ls.sl.len (cT (decide_eq_true c3) rfl))))))))))))
   ·have ee:Zcw D L n = 0:=by unfold Zcw;rw[if_neg (by omega),if_neg c2,if_neg c3]
    obtain ⟨v',g2,e2,M⟩:=Zvq A1.ls.sl hl (n,⟨#[]⟩,0)
    obtain ⟨g3,e3,A3,F3⟩:=ZqM A1 M
    refine ⟨g3,v',?_,by unfold Zhd;rw[if_pos ee];exact A3,F1.trans F3⟩
    have c2':Zb g2 y = some (ddC (dD D n) v):=M.grow.cells A1.dcs
    rw[Zn8,ee]
    refine bd (Ze9 hn h) (bd rfl (bd e1 (bd rfl (cF (by rw[decide_eq_true c1];rfl) (bd (ZqO A1 (by omega) n) (bd rfl (cF (decide_eq_false c2) (bd rfl (bd rfl (bd (Zc A1.dcs) (bd A1.ls.sl.len (cF (decide_eq_false c3) ?_))))))))))))
    exact bd rfl (bd rfl (bd (Zc A1.dcs) (bd e2 (bd rfl (bd rfl (bd e3 rfl))))))
 ·have ee:Zcw D L n = dE D n:=by unfold Zcw;rw[if_pos c1]
  refine ⟨g1,v,?_,by unfold Zhd;rw[ee,if_neg c1];exact A1,F1⟩
  rw[Zn8,ee]
  exact bd (Ze9 hn h) (bd rfl (bd e1 (bd rfl (cT (by rw[decide_eq_false c1];rfl) rfl))))
end ops
end Go.Proofs.YtogaiomakhapmaaGreat.AL
namespace Go.Proofs.YtogaiomakhapmaaGreat.AL
set_option maxRecDepth 100000
open Go
open Go.Proofs.Tryz
theorem ZmH:∀ {L:List Zw} {n:ByteArray} {i:Nat},ZbC L n = some i→∃ hi:i < L.length,L[i].1 = n
 | [],n,i,h=>by cases h
 |f :: l,n,i,h=>by
  unfold ZbC at h
  split at h
  ·rename_i hf;cases h;exact ⟨by simp,hf⟩
  ·obtain ⟨j,h1,rfl⟩:=Option.map_eq_some_iff.1 h
   obtain ⟨h2,h3⟩:=ZmH h1
   exact ⟨by simpa using h2,by simpa using h3⟩
section ops
variable {h:Za} {y:Nat} {D:DDk} {v:AVal} {L:List Zw}
theorem Zvo {g1 g2:Za} (A:DDAt g1 y D v L) (hl:L.length≤499) (G:Grow g1 g2) {F:Nat} {f:Zw} (cF:Zb g2 F = some (dfC f)) (n:ByteArray):
  ∃ v1 g3 v2 g4 g5,Zhs v n g2 = some (v1,g3)∧Zb g3 F = some (dfC f)∧Zgt v1 (dfC f) g3 = some (v2,g4)∧st1 g4 (.ptr y (0 + 1)) v2 = some g5∧DDAt g5 y D v2 (ZdX (Zcv L n) f)∧DFr y g1 g5 v v2:=by
 obtain ⟨v1,g3,e3,M3⟩:=Z3s (A.ls.sl.grow G) (by omega) n
 have hle:(Zcv L n).length≤L.length:=List.length_filter_le _ _
 obtain ⟨v2,g4,e4,M4⟩:=Zvq M3.own.sl (by omega) f
 obtain ⟨g5,e5,A5,F5⟩:=ZqM A (g2:=g4) (w:=v2) (L':=ZdX (Zcv L n) f) ⟨(G.trans M3.grow).trans M4.grow,M4.own,fun b hb=>by have:=M4.new b hb;have:=(G.trans M3.grow).len;omega⟩
 exact ⟨v1,g3,v2,g4,g5,e3,M3.grow.cells cF,e4,e5,A5,F5⟩
def ZcJ (D:DDk) (L:List Zw) (n s:ByteArray):Int:=if dE D n≠0 then dE D n else match ZbC L n with
 |none=>2
 |some _=>if (s.size:Int) > D.room - (Zcd L:Int) then 4 else 0
def Zgd (D:DDk) (L:List Zw) (n s:ByteArray):List Zw:=match ZbC L n with
 |none=>L
 |some i=>if ZcJ D L n s = 0 then ZdX (Zcv L n) (n,(L.getD i (n,⟨#[]⟩,0)).2.1++s,(L.getD i (n,⟨#[]⟩,0)).2.2) else L
theorem ZqQ (D:DDk) (n:ByteArray):(dD D n).room = D.room:=by unfold dD Zcz;split<;>rfl
theorem Zvs (A:DDAt h y D v L) (hl:L.length≤499) (n s:ByteArray) (hn:n.size≤4611686018427387904) (hs:s.size≤4611686018427387904) (hu:Zcd L≤4611686018427387904) (hr:0≤D.room∧D.room≤16777216) (hf:∀ f∈L,f.2.1.size≤4611686018427387904):
  ∃ g v',Zhv (.ptr y 0) n s h = some (.lit (.int .i64 (ZcJ D L n s)),g)∧DDAt g y (dD D n) v' (Zgd D L n s)∧DFr y h g v v':=by
 obtain ⟨g1,e1,A1,F1⟩:=ZqP A n
 by_cases c1:dE D n = 0
 rotate_left
 ·have ee:ZcJ D L n s = dE D n:=by unfold ZcJ;rw[if_pos c1]
  refine ⟨g1,v,?_,by unfold Zgd;rw[ee];split;exact A1;rw[if_neg c1];exact A1,F1⟩
  rw[Zn9,ee]
  exact bd (Ze9 hn h) (bd rfl (bd e1 (bd rfl (cT (by rw[decide_eq_false c1];rfl) rfl))))
 have hat:=ZmG A1 (by omega) n
 cases hd:ZbC L n with
 |none=>
  have ee:ZcJ D L n s = 2:=by unfold ZcJ;rw[if_neg (by omega),hd]
  have hi:Zcx L n = -1:=by unfold Zcx;rw[hd]
  rw[hi] at hat
  refine ⟨g1,v,?_,by unfold Zgd;rw[hd];exact A1,F1⟩
  rw[Zn9,ee]
  exact bd (Ze9 hn h) (bd rfl (bd e1 (bd rfl (cF (by rw[decide_eq_true c1];rfl) (bd hat (bd rfl (cT rfl rfl)))))))
 |some i=>
  obtain ⟨hi,hin⟩:=ZmH hd
  have hI:Zcx L n = (i:Int):=by unfold Zcx;rw[hd]
  rw[hI] at hat
  have hus:=Z3v A1 (by omega) hu
  have hw:IntKind.wrap .i64 ((dD D n).room - ((Zcd L:Nat):Int)) = D.room - (Zcd L:Int):=by rw[ZqQ];exact wrap_i64 (by omega) (by omega)
  by_cases c3:(s.size:Int) > D.room - (Zcd L:Int)
  ·have ee:ZcJ D L n s = 4:=by unfold ZcJ;rw[if_neg (by omega),hd];exact if_pos c3
   refine ⟨g1,v,?_,by unfold Zgd;rw[hd,ee];exact A1,F1⟩
   rw[Zn9,ee]
   exact bd (Ze9 hn h) (bd rfl (bd e1 (bd rfl (cF (by rw[decide_eq_true c1];rfl) (bd hat (bd rfl (cF (decide_eq_false (by omega)) (bd rfl (bd rfl (bd (Zc A1.dcs) (bd rfl (bd hus (bd rfl (cT (by rw[hw];exact decide_eq_true c3) rfl))))))))))))))
  ·have ee:ZcJ D L n s = 0:=by unfold ZcJ;rw[if_neg (by omega),hd];exact if_neg c3
   obtain ⟨p,p1,p2,_⟩:=A1.file hi
   have hg:L.getD i (n,⟨#[]⟩,0) = L[i]:=by simp[List.getD_eq_getElem?_getD,hi]
   obtain ⟨g2,hg2⟩:∃ g2,g2 = (psh g1 (.cells [.lit (.string { data:=#[]}),.lit (.string { data:=#[]}),.lit (.int .i64 0)])).set g1.length (.cells (dfC L[i])):=⟨_,rfl⟩
   have c0:Zb (psh g1 (.cells [.lit (.string { data:=#[]}),.lit (.string { data:=#[]}),.lit (.int .i64 0)])) g1.length = some [.lit (.string { data:=#[]}),.lit (.string { data:=#[]}),.lit (.int .i64 0)]:=ZU _ _
   have s2:stn 3 (psh g1 (.cells [.lit (.string { data:=#[]}),.lit (.string { data:=#[]}),.lit (.int .i64 0)])) (.ptr g1.length 0) (dfC L[i]) = some g2:=by rw[hg2];exact Zcn c0 rfl rfl (by show 3≤3;omega)
   have c2:Zb g2 g1.length = some (dfC L[i]):=by rw[hg2];exact Zm c0
   obtain ⟨g3,hg3⟩:∃ g3,g3 = g2.set g1.length (.cells (dfC (n,L[i].2.1++s,L[i].2.2))):=⟨_,rfl⟩
   have s3:st1 g2 (.ptr g1.length 1) (.lit (.string (L[i].2.1++s))) = some g3:=by
    rw[hg3,←hin];exact Zbq c2 rfl (by show 1 < 3;omega)
   have c3':Zb g3 g1.length = some (dfC (n,L[i].2.1++s,L[i].2.2)):=by rw[hg3];exact Zm c2
   have G3:Grow g1 g3:=by rw[hg3,hg2];exact (((Grow.refl g1).psh _).set (Nat.le_refl _)).set (Nat.le_refl _)
   obtain ⟨v1,g4,v2,g5,g6,e4,c4,e5,e6,A6,F6⟩:=Zvo A1 hl G3 c3' n
   have c3y:Zb g3 y = some (ddC (dD D n) v):=G3.cells A1.dcs
   have hsz:=hf L[i] (List.getElem_mem hi)
   refine ⟨g6,v2,?_,by unfold Zgd;rw[hd];show DDAt g6 y (dD D n) v2 (if ZcJ D L n s = 0 then _ else _);rw[if_pos ee,hg];exact A6,F1.trans F6⟩
   rw[Zn9,ee]
   refine bd (Ze9 hn h) (bd rfl (bd e1 (bd rfl (cF (by rw[decide_eq_true c1];rfl) (bd hat (bd rfl (cF (decide_eq_false (by omega)) (bd rfl (bd rfl (bd (Zc A1.dcs) (bd rfl (bd hus (bd rfl (cF (by rw[hw];exact decide_eq_false c3) ?_))))))))))))))
   refine bd rfl (bd rfl (bd (Zc A1.dcs) (bd p1 (bd p2 (bd s2 (bd (Zc c2) (bd rfl (bd (Z8 (by omega)) (bd s3 ?_)))))))))
   refine bd rfl (bd rfl (bd (Zc c3y) (bd (Zbh c3' (by show 3≤3;omega)) (bd e4 (bd (Zev (bd (Zbh c4 (by show 3≤3;omega)) rfl)) (bd e5 (bd rfl (bd rfl (bd e6 rfl)))))))))
def Zfa (D:DDk) (L:List Zw) (n:ByteArray):Int:=if dE D n≠0 then dE D n else match ZbC L n with
 |none=>2
 |some _=>0
def Zic (D:DDk) (L:List Zw) (n:ByteArray):List Zw:=match ZbC L n with
 |none=>L
 |some i=>if dE D n = 0 then ZdX (Zcv L n) (n,(L.getD i (n,⟨#[]⟩,0)).2.1,((L.getD i (n,⟨#[]⟩,0)).2.1.size:Int)) else L
theorem Z3x (A:DDAt h y D v L) (hl:L.length≤499) (n:ByteArray) (hn:n.size≤4611686018427387904):
  ∃ g v',Zhu (.ptr y 0) n h = some (.lit (.int .i64 (Zfa D L n)),g)∧DDAt g y (dD D n) v' (Zic D L n)∧DFr y h g v v':=by
 obtain ⟨g1,e1,A1,F1⟩:=ZqP A n
 by_cases c1:dE D n = 0
 rotate_left
 ·have ee:Zfa D L n = dE D n:=by unfold Zfa;rw[if_pos c1]
  refine ⟨g1,v,?_,by unfold Zic;split;exact A1;rw[if_neg c1];exact A1,F1⟩
  rw[Zse,ee]
  exact bd (Ze9 hn h) (bd rfl (bd e1 (bd rfl (cT (by rw[decide_eq_false c1];rfl) rfl))))
 have hat:=ZmG A1 (by omega) n
 cases hd:ZbC L n with
 |none=>
  have ee:Zfa D L n = 2:=by unfold Zfa;rw[if_neg (by omega),hd]
  have hi:Zcx L n = -1:=by unfold Zcx;rw[hd]
  rw[hi] at hat
  refine ⟨g1,v,?_,by unfold Zic;rw[hd];exact A1,F1⟩
  rw[Zse,ee]
  exact bd (Ze9 hn h) (bd rfl (bd e1 (bd rfl (cF (by rw[decide_eq_true c1];rfl) (bd hat (bd rfl (cT rfl rfl)))))))
 |some i=>
  obtain ⟨hi,hin⟩:=ZmH hd
  have hI:Zcx L n = (i:Int):=by unfold Zcx;rw[hd]
  rw[hI] at hat
  have ee:Zfa D L n = 0:=by unfold Zfa;rw[if_neg (by omega),hd]
  obtain ⟨p,p1,p2,_⟩:=A1.file hi
  have hg:L.getD i (n,⟨#[]⟩,0) = L[i]:=by simp[List.getD_eq_getElem?_getD,hi]
  obtain ⟨g2,hg2⟩:∃ g2,g2 = (psh g1 (.cells [.lit (.string { data:=#[]}),.lit (.string { data:=#[]}),.lit (.int .i64 0)])).set g1.length (.cells (dfC L[i])):=⟨_,rfl⟩
  have c0:Zb (psh g1 (.cells [.lit (.string { data:=#[]}),.lit (.string { data:=#[]}),.lit (.int .i64 0)])) g1.length = some [.lit (.string { data:=#[]}),.lit (.string { data:=#[]}),.lit (.int .i64 0)]:=ZU _ _
  have s2:stn 3 (psh g1 (.cells [.lit (.string { data:=#[]}),.lit (.string { data:=#[]}),.lit (.int .i64 0)])) (.ptr g1.length 0) (dfC L[i]) = some g2:=by rw[hg2];exact Zcn c0 rfl rfl (by show 3≤3;omega)
  have c2:Zb g2 g1.length = some (dfC L[i]):=by rw[hg2];exact Zm c0
  obtain ⟨g3,hg3⟩:∃ g3,g3 = g2.set g1.length (.cells (dfC (n,L[i].2.1,(L[i].2.1.size:Int)))):=⟨_,rfl⟩
  have s3:st1 g2 (.ptr g1.length 2) (.lit (.int .i64 (L[i].2.1.size:Int))) = some g3:=by
   rw[hg3,←hin];exact Zbq c2 rfl (by show 2 < 3;omega)
  have c3':Zb g3 g1.length = some (dfC (n,L[i].2.1,(L[i].2.1.size:Int))):=by rw[hg3];exact Zm c2
  have G3:Grow g1 g3:=by rw[hg3,hg2];exact (((Grow.refl g1).psh _).set (Nat.le_refl _)).set (Nat.le_refl _)
  obtain ⟨v1,g4,v2,g5,g6,e4,c4,e5,e6,A6,F6⟩:=Zvo A1 hl G3 c3' n
  have c3y:Zb g3 y = some (ddC (dD D n) v):=G3.cells A1.dcs
  refine ⟨g6,v2,?_,by unfold Zic;rw[hd];show DDAt g6 y (dD D n) v2 (if dE D n = 0 then _ else _);rw[if_pos c1,hg];exact A6,F1.trans F6⟩
  rw[Zse,ee]
  refine bd (Ze9 hn h) (bd rfl (bd e1 (bd rfl (cF (by rw[decide_eq_true c1];rfl) (bd hat (bd rfl (cF (decide_eq_false (by omega)) ?_)))))))
  refine bd rfl (bd rfl (bd (Zc A1.dcs) (bd p1 (bd p2 (bd s2 (bd (Zc c2) (bd rfl (bd s3 ?_))))))))
  refine bd rfl (bd rfl (bd (Zc c3y) (bd (Zbh c3' (by show 3≤3;omega)) (bd e4 (bd (Zev (bd (Zbh c4 (by show 3≤3;omega)) rfl)) (bd e5 (bd rfl (bd rfl (bd e6 rfl)))))))))
end ops
end Go.Proofs.YtogaiomakhapmaaGreat.AL
namespace Go.Proofs.YtogaiomakhapmaaGreat.AL
set_option maxRecDepth 100000
open Go
open Go.Proofs.Tryz
structure WG (L:WLoc) (h:Za) (D:Dsk) (x:Wrt) (v:AVal):Prop where
 A:DiskAt h L.d L.mb D [(x.name,x.t,x.k)]
 B:Zb h L.bb = some (Zbl x.m x.now x.hi)
 W:Zb h L.wp = some (Zbe L x v)
 V:Wt h v x.wt
 ne:(L.wp≠L.d∧L.wp≠L.mb∧L.wp≠L.bb)∧L.bb≠L.d∧L.bb≠L.mb
 nv:∀ b,At v b→¬L.In b
section wg
variable {L:WLoc} {h g:Za} {D:Dsk} {x:Wrt} {v:AVal}
theorem WG.lt (S:WG L h D x v) {c:Nat} (hc:L.In c):c < h.length:=by
 rcases hc with rfl |rfl |rfl |rfl
 ·exact ZB S.A.dcs
 ·exact ZE S.A.ms
 ·exact ZB S.B
 ·exact ZB S.W
theorem WG.moved (S:WG L h D x v) {y:Wrt} {v':AVal} (hl:h.length≤g.length) (hg:∀ c,c < h.length→c≠L.wp→¬At v c→g[c]? = h[c]?) (W':Zb g L.wp = some (Zbe L y v')) (V':Wt g v' y.wt)
  (ha:∀ b,At v' b→At v b∨h.length≤b) (hy:y.t = x.t∧y.k = x.k∧y.m = x.m∧y.now = x.now∧y.hi = x.hi∧y.name = x.name):WG L g D y v'∧WFr L h g v v':=by
 obtain ⟨y2,y3,y4,y5,y6,y7⟩:=hy
 have get:∀ c,L.In c→c≠L.wp→g[c]? = h[c]?:=fun c hc hn=>hg c (S.lt hc) hn fun hv=>S.nv c hv hc
 refine ⟨⟨⟨?_,?_⟩,?_,W',V',S.ne,fun b hb hi=>(ha b hb).elim (fun h=>S.nv b h hi) fun h=>?_⟩,⟨hl,fun c hc hi hv=>hg c hc (fun e=>hi (.inr (.inr (.inr e)))) hv,ha⟩⟩
 ·rw[ZO (get _ (.inl rfl) (Ne.symm S.ne.1.1))];exact S.A.dcs
 ·rw[get _ (.inr (.inl rfl)) (Ne.symm S.ne.1.2.1),y2,y3,y7];exact S.A.ms
 ·rw[ZO (get _ (.inr (.inr (.inl rfl))) (Ne.symm S.ne.1.2.2)),y4,y5,y6];exact S.B
 ·have:=S.lt hi;omega
theorem WG.far (S:WG L h D x v) (hl:h.length≤g.length) (hg:∀ c,c < h.length→g[c]? = h[c]?):WG L g D x v∧WFr L h g v v:=
 S.moved hl (fun c hc _ _=>hg c hc) (by rw[ZO (hg _ (S.lt (.inr (.inr (.inr rfl)))))];exact S.W) (S.V.keep fun b hb _=>hg b hb) (fun b hb=>.inl hb) ⟨rfl,rfl,rfl,rfl,rfl,rfl⟩
theorem WG.new (S:WG L h D x v) {c:Nat} (hc:h.length≤c):¬L.In c∧¬At v c:=⟨fun hi=>by have:=S.lt hi;omega,fun hv=>by have:=S.V.lt hv;omega⟩
theorem WG.disk {t':ByteArray} {k':Int} {D':Dsk} (S:WG L h D x v) (A':DiskAt g L.d L.mb D' [(x.name,t',k')]) (K:Keep h.length [L.d,L.mb] h g):WG L g D' { x with t:=t',k:=k'} v∧WFr L h g v v:=by
 refine ⟨⟨A',K.cells (ZB S.B) ?_ S.B,K.cells (ZB S.W) ?_ S.W,S.V.keep fun b hb hv=>K.get b hb ?_,S.ne,S.nv⟩,⟨K.len,fun c hc hl hv=>K.get c hc ?_,fun b hb=>.inl hb⟩⟩
 ·simp only[List.mem_cons,List.not_mem_nil,or_false,not_or];exact S.ne.2
 ·simp only[List.mem_cons,List.not_mem_nil,or_false,not_or];exact ⟨S.ne.1.1,S.ne.1.2.1⟩
 ·have:=S.nv b hv
  simp only[List.mem_cons,List.not_mem_nil,or_false,not_or]
  exact ⟨fun e=>this (.inl e),fun e=>this (.inr (.inl e))⟩
 ·simp only[List.mem_cons,List.not_mem_nil,or_false,not_or]
  exact ⟨fun e=>hl (.inl e),fun e=>hl (.inr (.inl e))⟩
theorem ZfZ (S:WG L h D x v):Zv (ZcS (.ptr L.wp 0) h) h = some (.lit (.bool x.op)):=by
 have:ZcS (.ptr L.wp 0) h = some (.lit (.bool x.op),h):=by
  rw[ZkA]
  refine bd rfl (cT rfl (bd rfl (bd rfl (bd (Zc S.W) (bd rfl ?_)))))
  rw[ZkB]
 rw[this];exact ZbI _ _
def Zb2 (x:Wrt):Wrt:=if x.op then { x with op:=false,now:=x.now - 4} else x
def Zbw (D:Dsk) (x:Wrt) (b:ByteArray):Int:=ZdI D [(x.name,x.t,x.k)] x.name b
def Zd9 (D:Dsk) (x:Wrt) (b:ByteArray):Dsk:=Zim D [(x.name,x.t,x.k)] x.name b
def Zbv (D:Dsk) (x:Wrt) (b:ByteArray):Wrt:={ x with t:=if Zbw D x b = 0 then x.t++b else x.t}
theorem Zq4 (S:WG L h D x v) (h4:x.op = true→4≤x.now) (h3:x.now≤4611686018427387904):
  ∃ g,Zeg (.ptr L.wp 0) h = some (.tup [],g)∧WG L g D (Zb2 x) v∧WFr L h g v v:=by
 unfold Zb2
 cases ho:x.op with
 |false=>
  refine ⟨h,?_,S,.refl _ _ _⟩
  rw[ZkD]
  exact bd (ZfZ S) (bd rfl (cF ho rfl))
 |true=>
  have W1:Zb (h.set L.wp (.cells (Zbe L { x with op:=false} v))) L.wp = some (Zbe L { x with op:=false} v):=Zm S.W
  have B1:Zb (h.set L.wp (.cells (Zbe L { x with op:=false} v))) L.bb = some (Zbl x.m x.now x.hi):=Zdt _ S.ne.1.2.2 S.B
  obtain ⟨g,e1,B2,K⟩:=Zrh B1 (n:=4) (by omega) (h4 ho) h3
  have K0:Keep h.length [L.wp] h (h.set L.wp (.cells (Zbe L { x with op:=false} v))):=Keep.set (.inr (by simp))
  have K1:Keep h.length [L.wp,L.bb] h g:=(K0.less (Nat.le_refl _) (by simp)).trans (K.less K0.len (by simp))
  refine ⟨g,?_,⟨S.A.keep K1 ⟨ZB S.A.dcs,?_⟩ ⟨ZE S.A.ms,?_⟩,B2,?_,S.V.keep fun b hb hv=>K1.get b hb ?_,S.ne,S.nv⟩,⟨K1.len,fun c hc hl hv=>K1.get c hc ?_,fun b hb=>.inl hb⟩⟩
  ·rw[ZkD]
   refine bd (ZfZ S) (bd rfl (cT ho (bd rfl (bd rfl (bd (Zbq S.W rfl (by show 7 < 8;omega)) ?_)))))
   exact bd rfl (bd rfl (bd (Zc W1) (bd e1 rfl)))
  ·simp only[List.mem_cons,List.not_mem_nil,or_false,not_or];exact ⟨Ne.symm S.ne.1.1,Ne.symm S.ne.2.1⟩
  ·simp only[List.mem_cons,List.not_mem_nil,or_false,not_or];exact ⟨Ne.symm S.ne.1.2.1,Ne.symm S.ne.2.2⟩
  ·exact K.cells (ZB W1) (by simp only[List.mem_cons,List.not_mem_nil,or_false];exact S.ne.1.2.2) W1
  ·have:=S.nv b hv
   simp only[List.mem_cons,List.not_mem_nil,or_false,not_or]
   exact ⟨fun e=>this (.inr (.inr (.inr e))),fun e=>this (.inr (.inr (.inl e)))⟩
  ·simp only[List.mem_cons,List.not_mem_nil,or_false,not_or]
   exact ⟨fun e=>hl (.inr (.inr (.inr e))),fun e=>hl (.inr (.inr (.inl e)))⟩
def Zbu (x:Wrt) (e:Int):Wrt:=if e≠0 then Zb2 x else x
theorem Zq5 (S:WG L h D x v) (e:Int) (h4:x.op = true→4≤x.now) (h3:x.now≤4611686018427387904):
  ∃ g,Zff (.ptr L.wp 0) e h = some (.lit (.int .i64 e),g)∧WG L g D (Zbu x e) v∧WFr L h g v v:=by
 unfold Zbu
 by_cases c:e = 0
 ·rw[if_neg (by omega)]
  refine ⟨h,?_,S,.refl _ _ _⟩
  rw[Zrs]
  refine cF (by rw[decide_eq_true c];rfl) ?_
  rw[Zrt]
 ·rw[if_pos c]
  obtain ⟨g,e1,S1,F1⟩:=Zq4 S h4 h3
  refine ⟨g,?_,S1,F1⟩
  rw[Zrs]
  refine cT (by rw[decide_eq_false c];rfl) (bd e1 ?_)
  rw[Zrt]
theorem Z4B (D:Dsk) (x:Wrt) (b:ByteArray) (hr:Zbp x.name = true):Zil D [(x.name,x.t,x.k)] x.name b = [(x.name,(Zbv D x b).t,x.k)]:=by
 unfold Zil Zbv Zbw
 by_cases c:ZdI D [(x.name,x.t,x.k)] x.name b = 0
 ·rw[if_pos c,if_pos c]
  have hf:ZA D [(x.name,x.t,x.k)] x.name true = ((x.t,x.k),0):=by
   unfold ZA
   rw[hr]
   cases hd:Zb3 D with
   |false=>simp[Zcu]
   |true=>
    exfalso
    unfold ZdI at c
    have:ZA D [(x.name,x.t,x.k)] x.name true = ((⟨#[]⟩,0),5):=by unfold ZA;rw[hr,hd];rfl
    rw[this] at c
    simp at c
  rw[hf]
  simp[ZcP]
 ·rw[if_neg c,if_neg c]
theorem Zq1 (S:WG L h D x v) (hr:Zbp x.name = true) (hn:x.name.size≤100) {b:ByteArray} (hs:x.t.size + b.size≤4611686018427387904):
  ∃ g,Zfe [.ptr L.d 0,.lit (.string x.name)] b h = some (.lit (.int .i64 (Zbw D x b)),g)∧WG L g (Zd9 D x b) (Zbv D x b) v∧WFr L h g v v:=by
 have c0:Zb (psh h (.cells [.ptr L.d 0,.lit (.string x.name)])) h.length = some [.ptr L.d 0,.lit (.string x.name)]:=ZU h _
 have A0:=S.A.dh.psh (.cells [.ptr L.d 0,.lit (.string x.name)])
 obtain ⟨g,e1,H1,T1,l1⟩:=ZvM A0.1 x.name b (by omega) (fun hz=>by
  unfold ZA
  rw[hr]
  cases Zb3 D with
  |true=>show (0:Nat) + b.size≤_;omega
  |false=>simp[Zcu];omega)
 rw[Z4B D x b hr] at H1
 obtain ⟨S1,F1⟩:=S.disk (t':=(Zbv D x b).t) (k':=x.k) H1.disk H1.keep
 refine ⟨g,?_,S1,F1⟩
 rw[Zwa]
 exact bd (Zc c0) (bd (Zc c0) (bd rfl (bd e1 (bd rfl rfl))))
end wg
end Go.Proofs.YtogaiomakhapmaaGreat.AL
namespace Go.Proofs.YtogaiomakhapmaaGreat.AL
set_option maxRecDepth 100000
open Go
open Go.Proofs.Tryz
def noW (x:Wrt):Wrt:={ x with wt:=[]}
def Zdk (D:Dsk) (x:Wrt):Int:=if x.wt = [] then 0 else Zbw D (noW x) (ZZ x.wt)
def Zc9 (D:Dsk) (x:Wrt):Dsk:=if x.wt = [] then D else Zd9 D (noW x) (ZZ x.wt)
def Zb6 (D:Dsk) (x:Wrt):Wrt:=if x.wt = [] then x else Zbu (Zbv D (noW x) (ZZ x.wt)) (Zbw D (noW x) (ZZ x.wt))
structure GOk (x:Wrt):Prop where
 right:Zbp x.name = true
 nm:x.name.size≤100
 n1:1≤x.n
 n2:x.n≤64
 wl:x.wt.length≤4
 wa:∀ s∈x.wt,s.size = x.n
 tb:x.t.size≤1000000000
 h4:x.op = true→4≤x.now
 h3:x.now≤4611686018427387904
section wg
variable {L:WLoc} {h g:Za} {D:Dsk} {x:Wrt} {v:AVal}
theorem ZuS (S:WG L h D x v) (O:GOk x):∃ g v',ZeH (.ptr L.wp 0) h = some (.lit (.int .i64 (Zdk D x)),g)∧WG L g (Zc9 D x) (Zb6 D x) v'∧WFr L h g v v':=by
 unfold Zdk Zc9 Zb6
 by_cases h0:x.wt = []
 ·rw[if_pos h0,if_pos h0,if_pos h0]
  have hl:=S.V.sl.len
  rw[h0] at hl
  refine ⟨h,v,?_,S,.refl _ _ _⟩
  rw[Znf]
  exact bd rfl (bd rfl (bd (Zc S.W) (bd hl (cT rfl rfl))))
 rw[if_neg h0,if_neg h0,if_neg h0]
 have hpos:0 < x.wt.length:=List.length_pos_iff.2 h0
 have hp:=ZuX O.n1 O.n2 S.V.sl (by omega) O.wl O.wa
 obtain ⟨v',c1,V',at'⟩:=S.V.cut
 have hv1:v'.one = true:=by
  rcases V' with ⟨rfl,_⟩ | ⟨b,cs,rfl,_⟩<;>rfl
 obtain ⟨h1,hh1⟩:∃ h1,h1 = h.set L.wp (.cells (Zbe L (noW x) v')):=⟨_,rfl⟩
 have W1:Zb h1 L.wp = some (Zbe L (noW x) v'):=by rw[hh1];exact Zm S.W
 have k1:∀ c,c≠L.wp→h1[c]? = h[c]?:=fun c hn=>by rw[hh1,List.getElem?_set_ne (Ne.symm hn)]
 have st:st1 h (.ptr L.wp (0 + 4)) v' = some h1:=by rw[hh1];exact Zbq S.W hv1 (by show 4 < 8;omega)
 obtain ⟨S1,F1⟩:=S.moved (g:=h1) (y:=noW x) (v':=v') (by rw[hh1];simp) (fun c _ hn _=>k1 c hn) W1 (V'.keep fun b hb hv=>k1 b fun e=>S.nv b (at' b hv) (.inr (.inr (.inr e)))) (fun b hb=>.inl (at' b hb)) ⟨rfl,rfl,rfl,rfl,rfl,rfl⟩
 have hcs:=ZdZ O.wa
 have h5:x.wt.length * x.n≤4 * 64:=Nat.mul_le_mul O.wl O.n2
 have hb:(ZZ x.wt).size≤261:=by rw[Zf6,hcs];omega
 have tb:=O.tb
 obtain ⟨g,e1,S2,F2⟩:=Zq1 S1 O.right O.nm (b:=ZZ x.wt) (by show x.t.size + _≤_;omega)
 obtain ⟨g3,e3,S3,F3⟩:=Zq5 S2 (Zbw D (noW x) (ZZ x.wt)) O.h4 O.h3
 refine ⟨g3,v',?_,S3,(F1.trans F2).trans F3⟩
 rw[Znf]
 refine bd rfl (bd rfl (bd (Zc S.W) (bd S.V.sl.len (cF (decide_eq_false (by omega)) (bd rfl (bd rfl (bd (Zc S.W) (bd rfl (bd rfl (bd rfl (bd (Zc S.W) (bd hp ?_))))))))))))
 refine bd rfl (bd rfl (bd rfl (bd rfl (cF rfl (bd rfl (bd rfl (bd (Zc S.W) (bd c1 (bd rfl (bd rfl (bd st ?_)))))))))))
 refine bd rfl (bd rfl (bd (Zbh W1 (by show 2≤8;omega)) (bd e1 (bd rfl (bd e3 rfl)))))
def Zmj (D:Dsk) (x:Wrt) (r:ByteArray):Int:=if x.op then (if r.size = x.n then (if x.wt.length + 1 < 4 then 0 else Zdk D (Zb4 x r)) else 1) else 14
def Zmk (D:Dsk) (x:Wrt) (r:ByteArray):Dsk:=if x.op then (if r.size = x.n then (if x.wt.length + 1 < 4 then D else Zc9 D (Zb4 x r)) else D) else D
def ZhJ (D:Dsk) (x:Wrt) (r:ByteArray):Wrt:=if x.op then (if r.size = x.n then (if x.wt.length + 1 < 4 then Zb4 x r else Zb6 D (Zb4 x r)) else x) else x
theorem Z2S (S:WG L h D x v) (O:GOk x) (hw:x.wt.length < 4) (hc:x.c≤1000) (r:ByteArray):
  ∃ g v',ZeI (.ptr L.wp 0) r h = some (.lit (.int .i64 (Zmj D x r)),g)∧WG L g (Zmk D x r) (ZhJ D x r) v'∧WFr L h g v v':=by
 unfold Zmj Zmk ZhJ
 cases ho:x.op with
 |false=>
  refine ⟨h,v,?_,S,.refl _ _ _⟩
  rw[ZkC]
  exact bd (ZfZ S) (bd rfl (cT (by rw[ho];rfl) rfl))
 |true=>
 by_cases hr:r.size = x.n
 rotate_left
 ·rw[if_neg hr,if_neg hr,if_neg hr]
  refine ⟨h,v,?_,S,.refl _ _ _⟩
  rw[ZkC]
  exact bd (ZfZ S) (bd rfl (cF (by rw[ho];rfl) (bd rfl (bd rfl (bd (Zc S.W) (bd rfl (cT (by rw[decide_eq_false (by omega)];rfl) rfl)))))))
 rw[if_pos hr,if_pos hr,if_pos hr]
 have hwl:=S.lt (.inr (.inr (.inr rfl)))
 have hvw:¬At v L.wp:=fun hv=>S.nv _ hv (.inr (.inr (.inr rfl)))
 obtain ⟨v',g2,a1,V2,l2,at2,k2⟩:=S.V.push r (by omega)
 have W1:Zb (h++[.cells [.lit (.string r)]]) L.wp = some (Zbe L x v):=ZdF _ S.W
 have W2:Zb g2 L.wp = some (Zbe L x v):=by rw[ZO (k2 _ hwl hvw)];exact S.W
 have hv1:v'.one = true:=by rcases V2 with ⟨rfl,_⟩ | ⟨b,cs,rfl,_⟩<;>rfl
 obtain ⟨g3,hg3⟩:∃ g3,g3 = g2.set L.wp (.cells ((Zbe L x v).set 4 v')):=⟨_,rfl⟩
 have W3:Zb g3 L.wp = some ((Zbe L x v).set 4 v'):=by rw[hg3];exact Zm W2
 have st3:st1 g2 (.ptr L.wp (0 + 4)) v' = some g3:=by rw[hg3];exact Zbq W2 hv1 (by show 4 < 8;omega)
 obtain ⟨g4,hg4⟩:∃ g4,g4 = g3.set L.wp (.cells (Zbe L (Zb4 x r) v')):=⟨_,rfl⟩
 have W4:Zb g4 L.wp = some (Zbe L (Zb4 x r) v'):=by rw[hg4];exact Zm W3
 have st4:stn 2 g3 (.ptr L.wp (0 + 5)) [.lit (.int .i64 (IntKind.wrap .i64 ((x.c:Int) + 1))),.lit (.int .u32 (u32 (Zbd x.s r.data.toList)))] = some g4:=by
  rw[hg4,wrap_i64 (by omega) (by omega)]
  exact Zcn W3 rfl rfl (by show 7≤8;omega)
 have ne4:∀ c,c≠L.wp→g4[c]? = g2[c]?:=fun c hn=>by rw[hg4,hg3,List.getElem?_set_ne (Ne.symm hn),List.getElem?_set_ne (Ne.symm hn)]
 have l4:g4.length = g2.length:=by rw[hg4,hg3];simp
 have V4:Wt g4 v' (x.wt++[r]):=V2.keep fun b hb hv=>ne4 b (by have:=at2 b hv;omega)
 obtain ⟨S4,F4⟩:=S.moved (y:=Zb4 x r) (g:=g4) (v':=v') (by omega) (fun c hc hn hv=>(ne4 c hn).trans (k2 c hc hv)) W4 V4 (fun b hb=>.inr (at2 b hb)) ⟨rfl,rfl,rfl,rfl,rfl,rfl⟩
 have O4:GOk (Zb4 x r):=⟨O.right,O.nm,O.n1,O.n2,by show (x.wt++[r]).length≤4;simp;omega,fun s hs=>by
  rcases List.mem_append.1 hs with hs |hs
  ·exact O.wa s hs
  ·rw[List.mem_singleton.1 hs];exact hr,O.tb,O.h4,O.h3⟩
 have hlen:((x.wt++[r]).length:Int) = (x.wt.length:Int) + 1:=by simp
 have hlenV:Zbb v' = some ((x.wt++[r]).length:Int):=V4.sl.len
 have pre:∀ (K:Option (AVal×Za)),(cond (decide (((x.wt++[r]).length:Int) < 4)) (some (.lit (.int .i64 0),g4)) ((ZeH (.ptr L.wp 0) g4).bind fun r35=>(asI .i64 r35.1).bind fun n36=>some (.lit (.int .i64 n36),r35.2))) = K→ZeI (.ptr L.wp 0) r h = K:=fun K hK=>by
  rw[ZkC]
  refine bd (ZfZ S) (bd rfl (cF (by rw[ho];rfl) (bd rfl (bd rfl (bd (Zc S.W) (bd rfl (cF (by rw[decide_eq_true (by omega)];rfl) ?_)))))))
  refine bd rfl (bd rfl (bd (Zc S.W) (bd (show Zd2 r = some r by unfold Zd2;have:=O.n2;rw[decide_eq_true (by omega)];rfl) (bd (Zkf _ _ _) (bd (Zev ?_) (bd a1 ?_))))))
  ·exact bd (Zc W1) rfl
  refine bd rfl (bd rfl (bd st3 (bd rfl (bd rfl (bd rfl (bd (Zc W3) (bd rfl (bd rfl (bd rfl (bd rfl (bd (Zc W3) (bd rfl (bd (Zql _ (by have:=O.n2;omega)) ?_)))))))))))))
  exact bd rfl (bd rfl (bd st4 (bd rfl (bd rfl (bd (Zc W4) (bd hlenV hK))))))
 by_cases h4:x.wt.length + 1 < 4
 ·rw[if_pos h4,if_pos h4,if_pos h4]
  exact ⟨g4,v',pre _ (cT (decide_eq_true (by omega)) rfl),S4,F4⟩
 ·rw[if_neg h4,if_neg h4,if_neg h4]
  obtain ⟨g5,v5,e5,S5,F5⟩:=ZuS S4 O4
  exact ⟨g5,v5,pre _ (cF (decide_eq_false (by omega)) (bd e5 rfl)),S5,F4.trans F5⟩
end wg
end Go.Proofs.YtogaiomakhapmaaGreat.AL
namespace Go.Proofs.YtogaiomakhapmaaGreat.AL
set_option maxRecDepth 100000
open Go
open Go.Proofs.Tryz
def Zc3 (D:Dsk) (x:Wrt):Int:=(ZA D [(x.name,x.t,x.k)] x.name true).2
def Zj3 (D:Dsk) (x:Wrt):Dsk:=Zbt D x.name true
def Zdf (D:Dsk) (x:Wrt):Wrt:={ x with k:=if Zc3 D x = 0 then (x.t.size:Int) else x.k}
theorem Z0j {D:Dsk} {x:Wrt} (hr:Zbp x.name = true) (c:Zc3 D x = 0):ZA D [(x.name,x.t,x.k)] x.name true = ((x.t,x.k),0):=by
 unfold Zc3 at c
 unfold ZA at c⊢
 rw[hr] at c⊢
 cases hd:Zb3 D with
 |false=>simp[Zcu]
 |true=>rw[hd] at c;simp at c
section wg
variable {L:WLoc} {h g:Za} {D:Dsk} {x:Wrt} {v:AVal}
theorem Z2U (S:WG L h D x v) (hr:Zbp x.name = true) (hn:x.name.size≤100):
  ∃ g,Zhi [.ptr L.d 0,.lit (.string x.name)] h = some (.lit (.int .i64 (Zc3 D x)),g)∧WG L g (Zj3 D x) (Zdf D x) v∧WFr L h g v v:=by
 have c0:Zb (psh h (.cells [.ptr L.d 0,.lit (.string x.name)])) h.length = some [.ptr L.d 0,.lit (.string x.name)]:=ZU h _
 have A0:=S.A.dh.psh (.cells [.ptr L.d 0,.lit (.string x.name)])
 obtain ⟨g,e1,H1,T1,l1⟩:=Zt3 A0.1 x.name (by omega)
 have eL:ZhE D [(x.name,x.t,x.k)] x.name = [(x.name,x.t,(Zdf D x).k)]:=by
  unfold ZhE Zdf
  by_cases c:Zc3 D x = 0
  ·have hz:=Z0j hr c
   have c':(ZA D [(x.name,x.t,x.k)] x.name true).2 = 0:=c
   rw[if_pos c',if_pos c,hz]
   simp[ZcP]
  ·have c':¬(ZA D [(x.name,x.t,x.k)] x.name true).2 = 0:=c
   rw[if_neg c',if_neg c]
 rw[eL] at H1
 obtain ⟨S1,F1⟩:=S.disk (t':=x.t) (k':=(Zdf D x).k) H1.disk H1.keep
 refine ⟨g,?_,S1,F1⟩
 rw[Zwb]
 exact bd (Zc c0) (bd (Zc c0) (bd rfl (bd e1 (bd rfl rfl))))
theorem ZuT {a b f i:Nat} {F:AVal} {g g' g'':Za} {cs bs:List AVal} {e:Int} (hf:Zb g f = some cs) (hF:cs[i]? = some F) (hi:i < 2) (ha:Zb g a = some [.ptr L.wp 0]) (ha':Zb g' a = some [.ptr L.wp 0])
  (hrun:∀ {R:Type} (K:AVal→Za→Option R),ZmM Ewriter_Writer_Close.C Ewriter_Writer_Close.Y F [] g K = K (.lit (.int .i64 e)) g')
  (hbr:Zff (.ptr L.wp 0) e g' = some (.lit (.int .i64 e),g'')) (hb:Zb g'' b = some bs) (hbl:bs.length = 2):
  ZfB a b (.sl 1 f 0 2) 2 (i:Int) g = if e = 0 then ZfB a b (.sl 1 f 0 2) 2 ((i + 1:Nat):Int) g'' else some (.tup [.agg [.lit (.int .i64 0),.lit (.int .u32 0)],.lit (.int .i64 e)],g''.set b (.cells [.lit (.int .i64 0),.lit (.int .u32 0)])):=by
 have idx:Zbc 1 (.sl 1 f 0 2) (i:Int) = some (.ptr f i):=by
  unfold Zbc;simp only[Nat.beq_refl];rw[Z8 (by omega)];simp
 have hst:stn 2 g'' (.ptr b 0) [.lit (.int .i64 0),.lit (.int .u32 0)] = some (g''.set b (.cells [.lit (.int .i64 0),.lit (.int .u32 0)])):=by
  match bs,hbl with
  | [u,w],_=>exact Zcn hb rfl rfl (by show 2≤2;omega)
 rw[Zng,decide_eq_true (by omega),cond_true,idx,Option.bind_some,Zc hf,hF,Option.bind_some,Zc ha]
 refine bd rfl ?_
 rw[hrun]
 refine bd rfl (bd (Zev (bd (Zc ha') rfl)) (bd hbr (bd rfl ?_)))
 by_cases c:e = 0
 ·rw[if_pos c]
  refine cF (by rw[decide_eq_true c];rfl) ?_
  rw[wrap_i64 (by omega) (by omega)]
  rfl
 ·rw[if_neg c]
  exact cT (by rw[decide_eq_false c];rfl) (bd hst (bd (Zbh (Zm hb) (by show 2≤2;omega)) rfl))
end wg
end Go.Proofs.YtogaiomakhapmaaGreat.AL
namespace Go.Proofs.YtogaiomakhapmaaGreat.AL
set_option maxRecDepth 100000
open Go
open Go.Proofs.Tryz
structure Sam (x y:Wrt):Prop where
 name:y.name = x.name
 n:y.n = x.n
 c:y.c = x.c
 s:y.s = x.s
 h4:(x.op = true→4≤x.now)→(y.op = true→4≤y.now)
 h3:x.now≤4611686018427387904→y.now≤4611686018427387904
theorem Sam.refl (x:Wrt):Sam x x:=⟨rfl,rfl,rfl,rfl,fun h=>h,fun h=>h⟩
theorem Sam.trans {x y z:Wrt} (a:Sam x y) (b:Sam y z):Sam x z:=⟨b.name.trans a.name,b.n.trans a.n,b.c.trans a.c,b.s.trans a.s,fun h=>b.h4 (a.h4 h),fun h=>b.h3 (a.h3 h)⟩
theorem ZmE (x:Wrt):Sam x (Zb2 x):=by
 unfold Zb2
 cases ho:x.op with
 |false=>exact .refl _
 |true=>exact ⟨rfl,rfl,rfl,rfl,fun _ h=>(by cases h),fun h=>(by show x.now - 4≤_;omega)⟩
theorem Zig (x:Wrt) (e:Int):Sam x (Zbu x e):=by
 unfold Zbu;split
 ·exact ZmE x
 ·exact .refl _
theorem Z2z (D:Dsk) (x:Wrt) (b:ByteArray):Sam x (Zbv D x b):=⟨rfl,rfl,rfl,rfl,fun h=>h,fun h=>h⟩
theorem Z0k (D:Dsk) (x:Wrt):Sam x (Zdf D x):=⟨rfl,rfl,rfl,rfl,fun h=>h,fun h=>h⟩
theorem ZqE (D:Dsk) (x:Wrt):Sam x (Zb6 D x):=by
 unfold Zb6;split
 ·exact .refl _
 ·exact Sam.trans (y:=Zbv D (noW x) (ZZ x.wt)) ⟨rfl,rfl,rfl,rfl,fun h=>h,fun h=>h⟩ (Zig _ _)
theorem Zif (x:Wrt) (e:Int):(Zbu x e).t = x.t:=by
 unfold Zbu Zb2;split
 ·split<;>rfl
 ·rfl
theorem ZqD (D:Dsk) (x:Wrt):(Zb6 D x).t.size≤x.t.size + (ZZ x.wt).size:=by
 unfold Zb6;split
 ·omega
 ·rw[Zif]
  unfold Zbv
  show (if _ then _ else _:ByteArray).size≤_
  split
  ·show (x.t++ZZ x.wt).size≤_;rw[ByteArray.size_append];omega
  ·show x.t.size≤_;omega
section wg
variable {L:WLoc} {h g:Za} {D:Dsk} {x:Wrt} {v:AVal}
structure Clo where
 c:Nat
 s:BitVec 32
 e:Int
 D:Dsk
 x:Wrt
def ZdE (D:Dsk) (x:Wrt):Clo:=
 let D1:=Zc9 D x
 let x1:=Zb6 D x
 let e2:=Zbw D1 x1 (ZH x.c x.s)
 let D2:=Zd9 D1 x1 (ZH x.c x.s)
 let x2:=Zbu (Zbv D1 x1 (ZH x.c x.s)) e2
 let e3:=Zc3 D2 x2
 let D3:=Zj3 D2 x2
 let x3:=Zbu (Zdf D2 x2) e3
 if x.op then (if Zdk D x = 0 then (if e2 = 0 then (if e3 = 0 then ⟨x.c,x.s,0,D3,Zb2 x3⟩ else ⟨0,0#32,e3,D3,x3⟩) else ⟨0,0#32,e2,D2,x2⟩) else ⟨0,0#32,Zdk D x,D1,x1⟩) else ⟨0,0#32,14,D,x⟩
def Zvx (r:Clo):AVal:=.tup [.agg [.lit (.int .i64 (r.c:Int)),.lit (.int .u32 (u32 r.s))],.lit (.int .i64 r.e)]
theorem Z3b (S:WG L h D x v) (O:GOk x) (hc:x.c≤1000):
  ∃ g v',ZeJ (.ptr L.wp 0) h = some (Zvx (ZdE D x),g)∧WG L g (ZdE D x).D (ZdE D x).x v'∧WFr L h g v v':=by
 obtain ⟨h2,hh2⟩:∃ h2,h2 = psh (psh h (.cells [.ptr L.wp 0])) (.cells [.lit (.int .i64 0),.lit (.int .u32 0)]):=⟨_,rfl⟩
 have lb:(psh h (.cells [.ptr L.wp 0])).length = h.length + 1:=Zbm _ _
 have l2:h2.length = h.length + 2:=by rw[hh2,Zbm,lb]
 have ca:Zb h2 h.length = some [.ptr L.wp 0]:=by rw[hh2];exact Zgg _ (ZU h _)
 have cb:Zb h2 (h.length + 1) = some [.lit (.int .i64 0),.lit (.int .u32 0)]:=by rw[hh2,←lb];exact ZU _ _
 obtain ⟨S2,F2⟩:=S.far (g:=h2) (by omega) fun c hc=>by rw[hh2];simp only[psh];rw[List.getElem?_append_left (by simp;omega),List.getElem?_append_left hc]
 have na:=S.new (c:=h.length) (Nat.le_refl _)
 have nb:=S.new (c:=h.length + 1) (by omega)
 have setb:∀ {g:Za} {D':Dsk} {y:Wrt} {w:AVal} {cs:List AVal},WG L g D' y w→WFr L h g v w→Zb g (h.length + 1) = some cs→¬At w (h.length + 1)→∀ o,WG L (g.set (h.length + 1) o) D' y w∧WFr L h (g.set (h.length + 1) o) v w:=fun {g D' y w cs} S' F' hcb hw o=>by
  have k:∀ c,c≠h.length + 1→(g.set (h.length + 1) o)[c]? = g[c]?:=fun c hn=>List.getElem?_set_ne (Ne.symm hn)
  have inb:∀ c,L.In c→c≠h.length + 1:=fun c hi e=>nb.1 (e ▸ hi)
  exact ⟨⟨⟨by rw[ZO (k _ (inb _ (.inl rfl)))];exact S'.A.dcs,by rw[k _ (inb _ (.inr (.inl rfl)))];exact S'.A.ms⟩,by rw[ZO (k _ (inb _ (.inr (.inr (.inl rfl)))))];exact S'.B,by rw[ZO (k _ (inb _ (.inr (.inr (.inr rfl)))))];exact S'.W,S'.V.keep fun b hb hv=>k b fun e=>hw (e ▸ hv),S'.ne,S'.nv⟩,⟨by simpa using F'.len,fun c hc hi hv=>(k c (by omega)).trans (F'.get c hc hi hv),F'.at'⟩⟩
 have zst:∀ {g:Za} {cs:List AVal},Zb g (h.length + 1) = some cs→cs.length = 2→stn 2 g (.ptr (h.length + 1) 0) [.lit (.int .i64 0),.lit (.int .u32 0)] = some (g.set (h.length + 1) (.cells [.lit (.int .i64 0),.lit (.int .u32 0)])):=fun {g cs} hcb hl=>by
  match cs,hl with
  | [u,w],_=>exact Zcn hcb rfl rfl (by show 2≤2;omega)
 unfold ZdE
 simp only
 cases ho:x.op with
 |false=>
  obtain ⟨S3,F3⟩:=setb S2 F2 cb nb.2 (.cells [.lit (.int .i64 0),.lit (.int .u32 0)])
  refine ⟨_,v,?_,S3,F3⟩
  rw[ZkF]
  refine bd rfl ?_
  rw[lb,←hh2]
  exact bd (Zc ca) (bd ((ZfZ S2).trans (by rw[ho])) (bd rfl (cT rfl (bd (zst cb rfl) (bd (Zbh (Zm cb) (by show 2≤2;omega)) rfl)))))
 |true=>
 rw[if_pos (rfl:true = true)]
 obtain ⟨g1,v1,e1,S1,F1⟩:=ZuS S2 O
 obtain ⟨ca1,na1⟩:=F1.cells ca na.1 na.2
 obtain ⟨cb1,nb1⟩:=F1.cells cb nb.1 nb.2
 have pre:∀ r,(bif (!decide (Zdk D x = 0)) then ((stn 2 g1 (.ptr (h.length + 1) 0) ([(.lit (.int .i64 0)),(.lit (.int .u32 0))])).bind fun h10=>(ldn 2 h10 (.ptr (h.length + 1) 0)).bind fun xs11=>some ((.tup [(.agg xs11),(.lit (.int .i64 (Zdk D x)))]),h10)) else r) = (if Zdk D x = 0 then r else some (Zvx ⟨0,0#32,Zdk D x,Zc9 D x,Zb6 D x⟩,g1.set (h.length + 1) (.cells [.lit (.int .i64 0),.lit (.int .u32 0)]))):=fun r=>by
  by_cases c:Zdk D x = 0
  ·rw[if_pos c];exact cF (by rw[decide_eq_true c];rfl) rfl
  ·rw[if_neg c];exact cT (by rw[decide_eq_false c];rfl) (bd (zst cb1 rfl) (bd (Zbh (Zm cb1) (by show 2≤2;omega)) rfl))
 by_cases z1:Zdk D x = 0
 rotate_left
 ·obtain ⟨S3,F3⟩:=setb S1 (F2.trans F1) cb1 nb1 (.cells [.lit (.int .i64 0),.lit (.int .u32 0)])
  rw[if_neg z1]
  refine ⟨_,v1,?_,S3,F3⟩
  rw[ZkF]
  refine bd rfl ?_
  rw[lb,←hh2]
  refine bd (Zc ca) (bd ((ZfZ S2).trans (by rw[ho])) (bd rfl (cF rfl (bd (Zc ca) (bd e1 (bd rfl ?_))))))
  rw[pre,if_neg z1]
 rw[if_pos z1]
 have sam:=ZqE D x
 have hcs:=ZdZ O.wa
 have h5:x.wt.length * x.n≤4 * 64:=Nat.mul_le_mul O.wl O.n2
 have tsz:(Zb6 D x).t.size≤x.t.size + 261:=by have:=ZqD D x;rw[Zf6,hcs] at this;omega
 have tb:=O.tb
 generalize Zb6 D x = x1 at S1 sam tsz⊢
 generalize Zc9 D x = D1 at S1⊢
 have hb:(ZH x.c x.s).size = 17:=Zhc x.c x.s
 obtain ⟨b,hbe⟩:∃ b,b = ZH x.c x.s:=⟨_,rfl⟩
 rw[←hbe] at hb⊢
 obtain ⟨h3,hh3⟩:∃ h3,h3 = (psh g1 (.cells [.lit (.string ⟨#[]⟩)])).set g1.length (.cells [.lit (.string b)]):=⟨_,rfl⟩
 have ce0:Zb (psh g1 (.cells [.lit (.string ⟨#[]⟩)])) g1.length = some [.lit (.string ⟨#[]⟩)]:=ZU _ _
 have st3:st1 (psh g1 (.cells [.lit (.string ⟨#[]⟩)])) (.ptr g1.length 0) (.lit (.string b)) = some h3:=by rw[hh3];exact Zbq ce0 rfl (by show 0 < 1;omega)
 have ce3:Zb h3 g1.length = some [.lit (.string b)]:=by rw[hh3];exact Zm ce0
 have l3:h3.length = g1.length + 1:=by rw[hh3];simp[psh]
 have k3:∀ c,c < g1.length→h3[c]? = g1[c]?:=fun c hc=>by rw[hh3,List.getElem?_set_ne (by omega)];simp only[psh];rw[List.getElem?_append_left hc]
 obtain ⟨S3,F3⟩:=S1.far (g:=h3) (by omega) k3
 obtain ⟨ca3,na3⟩:=F3.cells ca1 na.1 na1
 obtain ⟨cb3,nb3⟩:=F3.cells cb1 nb.1 nb1
 have ne3:=S1.new (c:=g1.length) (Nat.le_refl _)
 obtain ⟨fs,hfs⟩:∃ fs:List AVal,fs = [.fn (.func 87) [] [.ptr h.length 0,.ptr g1.length 0],.fn (.func 88) [.agg [.ptr L.d 0,.lit (.string x1.name)]] []]:=⟨_,rfl⟩
 obtain ⟨h5',hh5⟩:∃ h5,h5 = h3++[.cells fs]:=⟨_,rfl⟩
 have cf5:Zb h5' h3.length = some fs:=by rw[hh5];simp[Zb]
 obtain ⟨S5,F5⟩:=S3.far (g:=h5') (by rw[hh5];simp) fun c hc=>by rw[hh5,List.getElem?_append_left hc]
 obtain ⟨ca5,na5⟩:=F5.cells ca3 na.1 na3
 obtain ⟨cb5,nb5⟩:=F5.cells cb3 nb.1 nb3
 obtain ⟨ce5,ne5⟩:=F5.cells ce3 ne3.1 ne3.2
 have nf:=S3.new (c:=h3.length) (Nat.le_refl _)
 obtain ⟨g6,e6,S6,F6⟩:=Zq1 S5 (by rw[sam.name];exact O.right) (by rw[sam.name];exact O.nm) (b:=b) (by omega)
 obtain ⟨ca6,na6⟩:=F6.cells ca5 na.1 na5
 obtain ⟨cb6,nb6⟩:=F6.cells cb5 nb.1 nb5
 obtain ⟨cf6,nf6⟩:=F6.cells cf5 nf.1 nf.2
 have sam2:=sam.trans (Z2z D1 x1 b)
 obtain ⟨g7,e7,S7,F7⟩:=Zq5 S6 (Zbw D1 x1 b) (sam2.h4 O.h4) (sam2.h3 O.h3)
 have sam3:=sam2.trans (Zig (Zbv D1 x1 b) (Zbw D1 x1 b))
 obtain ⟨ca7,na7⟩:=F7.cells ca6 na.1 na6
 obtain ⟨cb7,nb7⟩:=F7.cells cb6 nb.1 nb6
 obtain ⟨cf7,nf7⟩:=F7.cells cf6 nf.1 nf6
 have FF7:=((((F2.trans F1).trans F3).trans F5).trans F6).trans F7
 have head:∀ r,ZfB h.length (h.length + 1) (.sl 1 h3.length 0 2) 2 0 h5' = r→ZeJ (.ptr L.wp 0) h = r:=fun r hr=>by
  rw[ZkF]
  refine bd rfl ?_
  rw[lb,←hh2]
  refine bd (Zc ca) (bd ((ZfZ S2).trans (by rw[ho])) (bd rfl (cF rfl (bd (Zc ca) (bd e1 (bd rfl ?_))))))
  refine cF (by rw[decide_eq_true z1];rfl) (bd (Zc ca1) (bd rfl (bd rfl (bd (Zbh S1.W (by show 7≤8;omega)) ?_))))
  have hfe:=Zvi (c:=x.c) (by omega) x.s g1
  refine bd (by rw[←sam.c,←sam.s] at hfe;exact hfe) ?_
  rw[sam.c,sam.s,←hbe]
  refine bd rfl (bd rfl (bd rfl (bd rfl (bd st3 (cF rfl (bd (Zc ca3) (bd rfl (bd rfl (bd (Zbh S3.W (by show 2≤8;omega)) (bd (a:=(.sl 1 h3.length 0 2,h5')) ?_ (bd rfl hr)))))))))))
  rw[hh5,hfs]
  rfl
 have step0:=ZuT (L:=L) (b:=h.length + 1) (i:=0) (F:=.fn (.func 87) [] [.ptr h.length 0,.ptr g1.length 0]) (g':=g6) (g'':=g7) (e:=Zbw D1 x1 b) cf5 (by rw[hfs];rfl) (by omega) ca5 ca6 (fun K=>by
  show (ZkE (.ptr h.length 0) (.ptr g1.length 0) h5').bind _ = _
  refine bd (a:=(.lit (.int .i64 (Zbw D1 x1 b)),g6)) ?_ rfl
  rw[Zwd]
  exact bd (Zc ca5) (bd rfl (bd rfl (bd (Zbh S5.W (by show 2≤8;omega)) (bd (Zc ce5) (bd rfl (bd e6 (bd rfl rfl)))))))) e7 cb7 rfl
 by_cases z2:Zbw D1 x1 b = 0
 rotate_left
 ·rw[if_neg z2] at step0
  obtain ⟨S9,F9⟩:=setb S7 FF7 cb7 nb7 (.cells [.lit (.int .i64 0),.lit (.int .u32 0)])
  rw[if_neg z2]
  exact ⟨_,v1,head _ step0,S9,F9⟩
 rw[if_pos z2] at step0
 rw[if_pos z2]
 have nm7:(Zbu (Zbv D1 x1 b) (Zbw D1 x1 b)).name = x.name:=sam3.name
 generalize Zbu (Zbv D1 x1 b) (Zbw D1 x1 b) = x2 at S7 sam3 nm7⊢
 generalize Zd9 D1 x1 b = D2 at S7⊢
 obtain ⟨g8,e8,S8,F8⟩:=Z2U S7 (by rw[nm7];exact O.right) (by rw[nm7];exact O.nm)
 obtain ⟨ca8,na8⟩:=F8.cells ca7 na.1 na7
 obtain ⟨cb8,nb8⟩:=F8.cells cb7 nb.1 nb7
 have sam4:=sam3.trans (Z0k D2 x2)
 obtain ⟨g9,e9,S9,F9⟩:=Zq5 S8 (Zc3 D2 x2) (sam4.h4 O.h4) (sam4.h3 O.h3)
 have sam5:=sam4.trans (Zig (Zdf D2 x2) (Zc3 D2 x2))
 obtain ⟨ca9,na9⟩:=F9.cells ca8 na.1 na8
 obtain ⟨cb9,nb9⟩:=F9.cells cb8 nb.1 nb8
 have FF9:=(FF7.trans F8).trans F9
 have step1:=ZuT (L:=L) (b:=h.length + 1) (i:=1) (F:=.fn (.func 88) [.agg [.ptr L.d 0,.lit (.string x1.name)]] []) (g':=g8) (g'':=g9) (e:=Zc3 D2 x2) cf7 (by rw[hfs];rfl) (by omega) ca7 ca8 (fun K=>by
  show (Zhi [.ptr L.d 0,.lit (.string x1.name)] g7).bind _ = _
  rw[sam.name,←nm7]
  exact bd e8 rfl) e9 cb9 rfl
 by_cases z3:Zc3 D2 x2 = 0
 rotate_left
 ·rw[if_neg z3] at step1
  obtain ⟨S10,F10⟩:=setb S9 FF9 cb9 nb9 (.cells [.lit (.int .i64 0),.lit (.int .u32 0)])
  rw[if_neg z3]
  exact ⟨_,v1,head _ (step0.trans step1),S10,F10⟩
 rw[if_pos z3] at step1
 rw[if_pos z3]
 generalize Zbu (Zdf D2 x2) (Zc3 D2 x2) = x3 at S9 sam5⊢
 generalize Zj3 D2 x2 = D3 at S9⊢
 obtain ⟨g10,e10,S10,F10⟩:=Zq4 S9 (sam5.h4 O.h4) (sam5.h3 O.h3)
 obtain ⟨ca10,na10⟩:=F10.cells ca9 na.1 na9
 obtain ⟨cb10,nb10⟩:=F10.cells cb9 nb.1 nb9
 have sam6:=sam5.trans (ZmE x3)
 obtain ⟨S11,F11⟩:=setb S10 (FF9.trans F10) cb10 nb10 (.cells [.lit (.int .i64 (x.c:Int)),.lit (.int .u32 (u32 x.s))])
 refine ⟨_,v1,head _ (step0.trans (step1.trans ?_)),S11,F11⟩
 rw[Zng]
 refine cF rfl ?_
 rw[Zwe]
 refine bd (Zc ca9) (bd e10 (bd (Zc ca10) (bd rfl (bd rfl (bd (Zbh S10.W (by show 7≤8;omega)) (bd ?_ (bd (Zbh (Zm (cs':=[.lit (.int .i64 (x.c:Int)),.lit (.int .u32 (u32 x.s))]) cb10) (by show 2≤2;omega)) rfl)))))))
 have hw:((Zbe L (Zb2 x3) v1).drop (0 + 5)).take 2 = [.lit (.int .i64 (x.c:Int)),.lit (.int .u32 (u32 x.s))]:=by rw[←sam6.c,←sam6.s];rfl
 rw[hw]
 exact Zcn cb10 rfl rfl (by show 2≤2;omega)
end wg
end Go.Proofs.YtogaiomakhapmaaGreat.AL
namespace Go.Proofs.YtogaiomakhapmaaGreat.AL
set_option maxRecDepth 100000
open Go
open Go.Proofs.Tryz
def ZbF (m now hi:Int):List AVal:=[.lit (.int .i64 m),.lit (.int .i64 now),.lit (.int .i64 hi)]
section bud
variable {h:Za} {b:Nat} {m now hi:Int}
theorem ZzN (B:Zb h b = some (ZbF m now hi)) {n:Int} (h0:0≤n) (h1:0≤now) (h2:now + n≤m) (h3:m≤9223372036854775807):
  ∃ g,Zi5 (.ptr b 0) n h = some (.lit (.int .i64 0),g)∧Zb g b = some (ZbF m (now + n) (Zs hi (now + n)))∧Keep h.length [b] h g:=by
 have c1:Zb (h.set b (.cells (ZbF m (now + n) hi))) b = some (ZbF m (now + n) hi):=Zm B
 refine ⟨(h.set b (.cells (ZbF m (now + n) hi))).set b (.cells (ZbF m (now + n) (Zs hi (now + n)))),?_,Zm c1,(Keep.set (.inr (by simp))).trans (Keep.set (.inr (by simp)))⟩
 rw[ZwA]
 refine cF (decide_eq_false (by omega)) (bd rfl (bd rfl (bd (Zc B) (bd rfl (bd rfl (bd rfl (bd (Zc B) (bd rfl ?_))))))))
 rw[wrap_i64 (by omega) (by omega)]
 refine cF (decide_eq_false (by omega)) (bd rfl (bd rfl (bd (Zc B) (bd rfl (bd rfl (bd rfl ?_))))))
 rw[wrap_i64 (by omega) (by omega)]
 refine bd (Zbq B rfl (by show 1 < 3;omega)) ?_
 refine bd rfl (bd rfl (bd (Zc c1) (bd rfl (bd rfl (bd rfl (bd (Zc c1) (bd rfl (bd rfl (bd rfl (bd (Zbq c1 rfl (by show 2 < 3;omega)) rfl))))))))))
theorem ZzO (B:Zb h b = some (ZbF m now hi)) {n:Int} (h0:0≤n) (h1:0≤now) (h2:now≤m) (h3:m < now + n) (h4:m≤9223372036854775807):Zi5 (.ptr b 0) n h = some (.lit (.int .i64 9),h):=by
 rw[ZwA]
 refine cF (decide_eq_false (by omega)) (bd rfl (bd rfl (bd (Zc B) (bd rfl (bd rfl (bd rfl (bd (Zc B) (bd rfl ?_))))))))
 rw[wrap_i64 (by omega) (by omega)]
 exact cT (decide_eq_true (by omega)) rfl
theorem Ztq (B:Zb h b = some (ZbF m now hi)) {n:Int} (h0:0≤n) (h1:n≤now) (h3:now≤4611686018427387904):
  Zi6 (.ptr b 0) n h = some (.tup [],h.set b (.cells (ZbF m (now - n) hi))):=by
 rw[Z7e]
 refine cT (decide_eq_true (by omega)) (bd rfl (bd rfl (bd (Zc B) (bd rfl (bd rfl (bd rfl ?_))))))
 rw[wrap_i64 (by omega) (by omega),show Zs 0 (now - n) = now - n by unfold Zs;split<;>omega]
 exact bd (Zbq B rfl (by show 1 < 3;omega)) rfl
end bud
structure VLoc where
 y:Nat
 bb:Nat
 wp:Nat
def VLoc.In (L:VLoc) (c:Nat):Prop:=c = L.y∨c = L.bb∨c = L.wp
structure Vrt where
 t:ByteArray
 k:Int
 m:Int
 now:Int
 hi:Int
 name:ByteArray
 n:Int
 wt:List ByteArray
 all:List ByteArray
 op:Bool
def Zcl (L:VLoc) (x:Vrt) (vw va:AVal):List AVal:=[.ptr L.y 0,.ptr L.bb 0,.lit (.string x.name),.lit (.int .i64 x.n),vw,va,.lit (.bool x.op)]
structure Vs where
 d:AVal
 w:AVal
 a:AVal
def Vs.At (v:Vs) (b:Nat):Prop:=AL.At v.d b∨AL.At v.w b∨AL.At v.a b
structure VS (L:VLoc) (h:Za) (D:DDk) (x:Vrt) (v:Vs):Prop where
 A:DDAt h L.y D v.d [(x.name,x.t,x.k)]
 B:Zb h L.bb = some (ZbF x.m x.now x.hi)
 W:Zb h L.wp = some (Zcl L x v.w v.a)
 Vw:Wt h v.w x.wt
 Va:Wt h v.a x.all
 ne:L.wp≠L.y∧L.wp≠L.bb∧L.bb≠L.y
 nv:∀ b,v.At b→¬L.In b
 dis:∀ b,(AL.At v.d b→¬AL.At v.w b∧¬AL.At v.a b)∧(AL.At v.w b→¬AL.At v.a b)
structure VFr (L:VLoc) (h g:Za) (v v':Vs):Prop where
 len:h.length≤g.length
 get:∀ c,c < h.length→¬L.In c→¬v.At c→g[c]? = h[c]?
 at':∀ b,v'.At b→v.At b∨h.length≤b
theorem VFr.refl (L:VLoc) (h:Za) (v:Vs):VFr L h h v v:=⟨Nat.le_refl _,fun _ _ _ _=>rfl,fun _ h=>.inl h⟩
theorem VFr.trans {L:VLoc} {h g g':Za} {v v' v'':Vs} (a:VFr L h g v v') (b:VFr L g g' v' v''):VFr L h g' v v'':=
 ⟨Nat.le_trans a.len b.len,fun c hc hl hv=>(b.get c (Nat.lt_of_lt_of_le hc a.len) hl (fun h=>(a.at' c h).elim hv (fun h=>by omega))).trans (a.get c hc hl hv),fun c hc=>(b.at' c hc).elim (fun h=>a.at' c h) (fun h=>.inr (Nat.le_trans a.len h))⟩
section vs
variable {L:VLoc} {h g:Za} {D:DDk} {x:Vrt} {v:Vs}
theorem VS.lt (S:VS L h D x v) {c:Nat} (hc:L.In c∨v.At c):c < h.length:=by
 rcases hc with (rfl |rfl |rfl) | (h1 |h1 |h1)
 ·exact ZB S.A.dcs
 ·exact ZB S.B
 ·exact ZB S.W
 ·exact AL.At.own S.A.ls h1
 ·exact S.Vw.lt h1
 ·exact S.Va.lt h1
theorem VS.far (S:VS L h D x v) (hg:∀ c,c < h.length→L.In c∨v.At c→g[c]? = h[c]?):VS L g D x v:=by
 have get:∀ c,L.In c∨v.At c→g[c]? = h[c]?:=fun c hc=>hg c (S.lt hc) hc
 refine ⟨⟨?_,S.A.ls.keep fun b hb=>get b (.inr (.inl hb)),S.A.off⟩,?_,?_,S.Vw.keep fun b _ hb=>get b (.inr (.inr (.inl hb))),S.Va.keep fun b _ hb=>get b (.inr (.inr (.inr hb))),S.ne,S.nv,S.dis⟩
 ·rw[ZO (get _ (.inl (.inl rfl)))];exact S.A.dcs
 ·rw[ZO (get _ (.inl (.inr (.inl rfl))))];exact S.B
 ·rw[ZO (get _ (.inl (.inr (.inr rfl))))];exact S.W
theorem VS.grow (S:VS L h D x v) (G:Grow h g):VS L g D x v∧VFr L h g v v:=
 ⟨S.far fun c hc _=>Keep.get G c hc (fun h=>(by cases h)),⟨G.len,fun c hc _ _=>Keep.get G c hc (fun h=>(by cases h)),fun _ h=>.inl h⟩⟩
theorem VS.off (S:VS L h D x v):∀ b,(AL.At v.d b∨AL.At v.w b∨AL.At v.a b)→b≠L.y∧b≠L.bb∧b≠L.wp:=fun b hb=>
 ⟨fun e=>S.nv b hb (.inl e),fun e=>S.nv b hb (.inr (.inl e)),fun e=>S.nv b hb (.inr (.inr e))⟩
theorem VS.bud (S:VS L h D x v) (m' now' hi':Int):VS L (h.set L.bb (.cells (ZbF m' now' hi'))) D { x with m:=m',now:=now',hi:=hi'} v∧VFr L h (h.set L.bb (.cells (ZbF m' now' hi'))) v v:=by
 have k:∀ c,c≠L.bb→(h.set L.bb (.cells (ZbF m' now' hi')))[c]? = h[c]?:=fun c hn=>List.getElem?_set_ne (Ne.symm hn)
 refine ⟨⟨⟨?_,S.A.ls.keep fun b hb=>k b (S.off b (.inl hb)).2.1,S.A.off⟩,Zm S.B,?_,S.Vw.keep fun b _ hb=>k b (S.off b (.inr (.inl hb))).2.1,S.Va.keep fun b _ hb=>k b (S.off b (.inr (.inr hb))).2.1,S.ne,S.nv,S.dis⟩,⟨by simp,fun c _ hl _=>k c fun e=>hl (.inr (.inl e)),fun _ h=>.inl h⟩⟩
 ·rw[ZO (k _ (Ne.symm S.ne.2.2))];exact S.A.dcs
 ·rw[ZO (k _ S.ne.2.1)];exact S.W
theorem VS.wset (S:VS L h D x v) (o:Bool):VS L (h.set L.wp (.cells (Zcl L { x with op:=o} v.w v.a))) D { x with op:=o} v∧VFr L h (h.set L.wp (.cells (Zcl L { x with op:=o} v.w v.a))) v v:=by
 have k:∀ c,c≠L.wp→(h.set L.wp (.cells (Zcl L { x with op:=o} v.w v.a)))[c]? = h[c]?:=fun c hn=>List.getElem?_set_ne (Ne.symm hn)
 refine ⟨⟨⟨?_,S.A.ls.keep fun b hb=>k b (S.off b (.inl hb)).2.2,S.A.off⟩,?_,Zm S.W,S.Vw.keep fun b _ hb=>k b (S.off b (.inr (.inl hb))).2.2,S.Va.keep fun b _ hb=>k b (S.off b (.inr (.inr hb))).2.2,S.ne,S.nv,S.dis⟩,⟨by simp,fun c _ hl _=>k c fun e=>hl (.inr (.inr e)),fun _ h=>.inl h⟩⟩
 ·rw[ZO (k _ (Ne.symm S.ne.1))];exact S.A.dcs
 ·rw[ZO (k _ (Ne.symm S.ne.2.1))];exact S.B
theorem VS.disk (S:VS L h D x v) {D':DDk} {v':AVal} {t':ByteArray} {k':Int} (A':DDAt g L.y D' v' [(x.name,t',k')]) (F:DFr L.y h g v.d v'):VS L g D' { x with t:=t',k:=k'} { v with d:=v'}∧VFr L h g v { v with d:=v'}:=by
 have k:∀ c,c < h.length→c≠L.y→g[c]? = h[c]?:=F.get
 have new:∀ b,AL.At v' b→AL.At v.d b∨h.length≤b:=F.at'
 refine ⟨⟨A',?_,?_,S.Vw.keep fun b hb hv=>k b hb (S.off b (.inr (.inl hv))).1,S.Va.keep fun b hb hv=>k b hb (S.off b (.inr (.inr hv))).1,S.ne,fun b hb hi=>?_,fun b=>⟨fun hb=>?_,(S.dis b).2⟩⟩,⟨F.len,fun c hc hl _=>k c hc fun e=>hl (.inl e),fun b hb=>?_⟩⟩
 ·rw[ZO (k _ (ZB S.B) S.ne.2.2)];exact S.B
 ·rw[ZO (k _ (ZB S.W) S.ne.1)];exact S.W
 ·rcases hb with hb |hb |hb
  ·rcases new b hb with h1 |h1
   ·exact S.nv b (.inl h1) hi
   ·have:=S.lt (.inl hi);omega
  ·exact S.nv b (.inr (.inl hb)) hi
  ·exact S.nv b (.inr (.inr hb)) hi
 ·rcases new b hb with h1 |h1
  ·exact (S.dis b).1 h1
  ·exact ⟨fun hw=>by have:=S.Vw.lt hw;omega,fun hw=>by have:=S.Va.lt hw;omega⟩
 ·rcases hb with hb |hb |hb
  ·exact (new b hb).imp (fun h=>.inl h) id
  ·exact .inl (.inr (.inl hb))
  ·exact .inl (.inr (.inr hb))
theorem VS.pushW (S:VS L h D x v) (r:ByteArray) (hl:x.wt.length≤1000):∃ v' g,ZbY 1 16 (h++[.cells [.lit (.string r)]]) v.w (.sl 1 h.length 0 1) = some (v',g)∧v'.one = true∧Zb g L.wp = some (Zcl L x v.w v.a)∧
  VS L (g.set L.wp (.cells (Zcl L { x with wt:=x.wt++[r]} v' v.a))) D { x with wt:=x.wt++[r]} { v with w:=v'}∧VFr L h (g.set L.wp (.cells (Zcl L { x with wt:=x.wt++[r]} v' v.a))) v { v with w:=v'}:=by
 obtain ⟨v',g,a1,V2,l2,at2,k2⟩:=S.Vw.push r hl
 have hv1:v'.one = true:=by rcases V2 with ⟨rfl,_⟩ | ⟨b,cs,rfl,_⟩<;>rfl
 have nw:∀ c,L.In c∨AL.At v.d c∨AL.At v.a c→¬AL.At v.w c:=fun c hc hw=>hc.elim (S.nv c (.inr (.inl hw))) fun hc=>hc.elim (fun hd=>((S.dis c).1 hd).1 hw) fun ha=>(S.dis c).2 hw ha
 have W2:Zb g L.wp = some (Zcl L x v.w v.a):=by rw[ZO (k2 _ (ZB S.W) (nw _ (.inl (.inr (.inr rfl)))))];exact S.W
 obtain ⟨g3,hg3⟩:∃ g3,g3 = g.set L.wp (.cells (Zcl L { x with wt:=x.wt++[r]} v' v.a)):=⟨_,rfl⟩
 have k3:∀ c,c≠L.wp→g3[c]? = g[c]?:=fun c hn=>by rw[hg3,List.getElem?_set_ne (Ne.symm hn)]
 have kk:∀ c,c < h.length→c≠L.wp→¬AL.At v.w c→g3[c]? = h[c]?:=fun c hc hn hw=>(k3 c hn).trans (k2 c hc hw)
 refine ⟨v',g,a1,hv1,W2,?_⟩
 rw[←hg3]
 refine ⟨⟨⟨?_,S.A.ls.keep fun b hb=>kk b (S.lt (.inr (.inl hb))) (S.off b (.inl hb)).2.2 (nw b (.inr (.inl hb))),S.A.off⟩,?_,by rw[hg3];exact Zm W2,V2.keep fun b hb hv=>k3 b fun e=>?_,S.Va.keep fun b hb hv=>kk b hb (S.off b (.inr (.inr hv))).2.2 (nw b (.inr (.inr hv))),S.ne,fun b hb hi=>?_,fun b=>⟨fun hb=>⟨fun hw=>?_,((S.dis b).1 hb).2⟩,fun hw ha=>?_⟩⟩,
  ⟨by rw[hg3];simpa using l2,fun c hc hl hv=>kk c hc (fun e=>hl (.inr (.inr e))) fun hw=>hv (.inr (.inl hw)),fun b hb=>?_⟩⟩
 ·rw[ZO (kk _ (ZB S.A.dcs) (Ne.symm S.ne.1) (nw _ (.inl (.inl rfl))))];exact S.A.dcs
 ·rw[ZO (kk _ (ZB S.B) (Ne.symm S.ne.2.1) (nw _ (.inl (.inr (.inl rfl)))))];exact S.B
 ·have:=at2 b hv;have:=ZB S.W;omega
 ·rcases hb with hb |hb |hb
  ·exact S.nv b (.inl hb) hi
  ·have:=at2 b hb;have:=S.lt (.inl hi);omega
  ·exact S.nv b (.inr (.inr hb)) hi
 ·have:=at2 b hw;have:=S.lt (c:=b) (.inr (.inl hb));omega
 ·have:=at2 b hw;have:=S.Va.lt ha;omega
 ·rcases hb with hb |hb |hb
  ·exact .inl (.inl hb)
  ·exact .inr (at2 b hb)
  ·exact .inl (.inr (.inr hb))
theorem VS.pushA (S:VS L h D x v) (r:ByteArray) (hl:x.all.length≤1000):∃ v' g,ZbY 1 16 (h++[.cells [.lit (.string r)]]) v.a (.sl 1 h.length 0 1) = some (v',g)∧v'.one = true∧Zb g L.wp = some (Zcl L x v.w v.a)∧
  VS L (g.set L.wp (.cells (Zcl L { x with all:=x.all++[r]} v.w v'))) D { x with all:=x.all++[r]} { v with a:=v'}∧VFr L h (g.set L.wp (.cells (Zcl L { x with all:=x.all++[r]} v.w v'))) v { v with a:=v'}:=by
 obtain ⟨v',g,a1,V2,l2,at2,k2⟩:=S.Va.push r hl
 have hv1:v'.one = true:=by rcases V2 with ⟨rfl,_⟩ | ⟨b,cs,rfl,_⟩<;>rfl
 have nw:∀ c,L.In c∨AL.At v.d c∨AL.At v.w c→¬AL.At v.a c:=fun c hc hw=>hc.elim (S.nv c (.inr (.inr hw))) fun hc=>hc.elim (fun hd=>((S.dis c).1 hd).2 hw) fun ha=>(S.dis c).2 ha hw
 have W2:Zb g L.wp = some (Zcl L x v.w v.a):=by rw[ZO (k2 _ (ZB S.W) (nw _ (.inl (.inr (.inr rfl)))))];exact S.W
 obtain ⟨g3,hg3⟩:∃ g3,g3 = g.set L.wp (.cells (Zcl L { x with all:=x.all++[r]} v.w v')):=⟨_,rfl⟩
 have k3:∀ c,c≠L.wp→g3[c]? = g[c]?:=fun c hn=>by rw[hg3,List.getElem?_set_ne (Ne.symm hn)]
 have kk:∀ c,c < h.length→c≠L.wp→¬AL.At v.a c→g3[c]? = h[c]?:=fun c hc hn hw=>(k3 c hn).trans (k2 c hc hw)
 refine ⟨v',g,a1,hv1,W2,?_⟩
 rw[←hg3]
 refine ⟨⟨⟨?_,S.A.ls.keep fun b hb=>kk b (S.lt (.inr (.inl hb))) (S.off b (.inl hb)).2.2 (nw b (.inr (.inl hb))),S.A.off⟩,?_,by rw[hg3];exact Zm W2,S.Vw.keep fun b hb hv=>kk b hb (S.off b (.inr (.inl hv))).2.2 (nw b (.inr (.inr hv))),V2.keep fun b hb hv=>k3 b fun e=>?_,S.ne,fun b hb hi=>?_,fun b=>⟨fun hb=>⟨((S.dis b).1 hb).1,fun hw=>?_⟩,fun hw ha=>?_⟩⟩,
  ⟨by rw[hg3];simpa using l2,fun c hc hl hv=>kk c hc (fun e=>hl (.inr (.inr e))) fun hw=>hv (.inr (.inr hw)),fun b hb=>?_⟩⟩
 ·rw[ZO (kk _ (ZB S.A.dcs) (Ne.symm S.ne.1) (nw _ (.inl (.inl rfl))))];exact S.A.dcs
 ·rw[ZO (kk _ (ZB S.B) (Ne.symm S.ne.2.1) (nw _ (.inl (.inr (.inl rfl)))))];exact S.B
 ·have:=at2 b hv;have:=ZB S.W;omega
 ·rcases hb with hb |hb |hb
  ·exact S.nv b (.inl hb) hi
  ·exact S.nv b (.inr (.inl hb)) hi
  ·have:=at2 b hb;have:=S.lt (.inl hi);omega
 ·have:=at2 b hw;have:=S.lt (c:=b) (.inr (.inl hb));omega
 ·have:=at2 b ha;have:=S.Vw.lt hw;omega
 ·rcases hb with hb |hb |hb
  ·exact .inl (.inl hb)
  ·exact .inl (.inr (.inl hb))
  ·exact .inr (at2 b hb)
theorem VS.noneW (S:VS L h D x v):VS L (h.set L.wp (.cells (Zcl L { x with wt:=[]} (.lit (.slice none 0 0)) v.a))) D { x with wt:=[]} { v with w:=.lit (.slice none 0 0)}∧
  VFr L h (h.set L.wp (.cells (Zcl L { x with wt:=[]} (.lit (.slice none 0 0)) v.a))) v { v with w:=.lit (.slice none 0 0)}:=by
 have k:∀ c,c≠L.wp→(h.set L.wp (.cells (Zcl L { x with wt:=[]} (.lit (.slice none 0 0)) v.a)))[c]? = h[c]?:=fun c hn=>List.getElem?_set_ne (Ne.symm hn)
 have no:∀ b,¬AL.At (.lit (.slice none 0 0)) b:=fun b hb=>by obtain ⟨_,_,_,e⟩:=hb;cases e
 refine ⟨⟨⟨?_,S.A.ls.keep fun b hb=>k b (S.off b (.inl hb)).2.2,S.A.off⟩,?_,Zm S.W,.inl ⟨rfl,rfl⟩,S.Va.keep fun b _ hb=>k b (S.off b (.inr (.inr hb))).2.2,S.ne,fun b hb=>?_,fun b=>⟨fun hb=>⟨no b,((S.dis b).1 hb).2⟩,fun hw=>absurd hw (no b)⟩⟩,⟨by simp,fun c _ hl _=>k c fun e=>hl (.inr (.inr e)),fun b hb=>?_⟩⟩
 ·rw[ZO (k _ (Ne.symm S.ne.1))];exact S.A.dcs
 ·rw[ZO (k _ (Ne.symm S.ne.2.1))];exact S.B
 ·rcases hb with hb |hb |hb
  ·exact S.nv b (.inl hb)
  ·exact absurd hb (no b)
  ·exact S.nv b (.inr (.inr hb))
 ·rcases hb with hb |hb |hb
  ·exact .inl (.inl hb)
  ·exact absurd hb (no b)
  ·exact .inl (.inr (.inr hb))
def Zb7 (x:Vrt):Vrt:=if x.op then { x with op:=false,now:=x.now - 4} else x
theorem ZpD (S:VS L h D x v) (h4:x.op = true→4≤x.now) (h3:x.now≤4611686018427387904):∃ g,Zgs (.ptr L.wp 0) h = some (.tup [],g)∧VS L g D (Zb7 x) v∧VFr L h g v v:=by
 unfold Zb7
 cases ho:x.op with
 |false=>
  refine ⟨h,?_,S,.refl _ _ _⟩
  rw[Zw6]
  exact bd rfl (bd rfl (bd (Zc S.W) (bd rfl (cF ho rfl))))
 |true=>
  obtain ⟨S1,F1⟩:=S.wset false
  obtain ⟨S2,F2⟩:=S1.bud x.m (x.now - 4) x.hi
  refine ⟨_,?_,S2,F1.trans F2⟩
  rw[Zw6]
  refine bd rfl (bd rfl (bd (Zc S.W) (bd rfl (cT ho (bd rfl (bd rfl (bd (Zbq S.W rfl (by show 6 < 7;omega)) (bd rfl (bd rfl (bd (Zc S1.W) ?_))))))))))
  exact bd (Ztq S1.B (by omega) (h4 ho) h3) rfl
def Zcm (D:DDk) (x:Vrt) (s:ByteArray):Int:=ZcJ D [(x.name,x.t,x.k)] x.name s
def Zb1 (D:DDk) (x:Vrt) (s:ByteArray):Vrt:=if Zcm D x s = 0 then { x with t:=x.t++s} else Zb7 x
structure VOk (D:DDk) (x:Vrt):Prop where
 nm:x.name.size≤100
 room:0≤D.room∧D.room≤16777216
 tb:x.t.size≤1000000000
 h4:x.op = true→4≤x.now
 h3:x.now≤4611686018427387904
theorem Zvt (D:DDk) (n t s:ByteArray) (k:Int):Zgd D [(n,t,k)] n s = [(n,if ZcJ D [(n,t,k)] n s = 0 then t++s else t,k)]:=by
 unfold Zgd
 have hd:ZbC [(n,t,k)] n = some 0:=by simp[ZbC]
 have hw:Zcv [(n,t,k)] n = []:=by simp[Zcv]
 rw[hd]
 simp only
 split
 ·rw[hw];simp[ZdX]
 ·rfl
theorem ZpC (S:VS L h D x v) (O:VOk D x) {s:ByteArray} (hs:s.size≤1000):∃ g v',Zfh (.ptr L.wp 0) s h = some (.lit (.int .i64 (Zcm D x s)),g)∧VS L g (dD D x.name) (Zb1 D x s) v'∧VFr L h g v v':=by
 have nm:=O.nm
 have tb:=O.tb
 obtain ⟨g,v1,e1,A1,F1⟩:=Zvs S.A (by simp) x.name s (by omega) (by omega) (by simp[Zcd];omega) O.room (fun f hf=>by rw[List.mem_singleton.1 hf];show x.t.size≤_;omega)
 rw[Zvt] at A1
 obtain ⟨S1,V1⟩:=S.disk A1 F1
 have pre:∀ r,(bif (!decide (Zcm D x s = 0)) then ((Zgs (.ptr L.wp 0) g).bind fun r10=>ZkT (Zcm D x s) r10.2) else ZkT (Zcm D x s) g) = r→Zfh (.ptr L.wp 0) s h = r:=fun r hr=>by
  rw[Z6U]
  exact bd rfl (bd rfl (bd (Zc S.W) (bd rfl (bd rfl (bd (Zc S.W) (bd rfl (bd e1 (bd rfl hr))))))))
 by_cases c:Zcm D x s = 0
 ·have c':ZcJ D [(x.name,x.t,x.k)] x.name s = 0:=c
  rw[if_pos c'] at S1
  refine ⟨g,{ v with d:=v1},pre _ (cF (by rw[decide_eq_true c];rfl) (by rw[Zw5])),?_,V1⟩
  unfold Zb1
  rw[if_pos c];exact S1
 ·have c':¬ZcJ D [(x.name,x.t,x.k)] x.name s = 0:=c
  rw[if_neg c'] at S1
  have S1':VS L g (dD D x.name) x { v with d:=v1}:=S1
  obtain ⟨g2,e2,S2,V2⟩:=ZpD S1' O.h4 O.h3
  refine ⟨g2,{ v with d:=v1},pre _ (cT (by rw[decide_eq_false c];rfl) (bd e2 (by rw[Zw5]))),?_,V1.trans V2⟩
  unfold Zb1
  rw[if_neg c];exact S2
end vs
end Go.Proofs.YtogaiomakhapmaaGreat.AL
