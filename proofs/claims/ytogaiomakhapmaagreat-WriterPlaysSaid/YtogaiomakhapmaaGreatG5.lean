import Derived.Test.YtogaiomakhapmaaGreatG4
import Derived.Test.YtogaiomakhapmaaGreatG3
set_option linter.unusedVariables false
set_option linter.unusedSimpArgs false
namespace Go.Proofs.YtogaiomakhapmaaGreat.AL
set_option maxRecDepth 100000
open Go
open Go.Proofs.Tryz
def ZjL:List (Value×AVal)→Option (List (ByteArray×AVal))
 | []=>some []
 | (.string s,v) :: es=>(ZjL es).map fun l=>(s,v) :: l
 |_=>none
theorem ZuL:∀ {es:List (Value×AVal)} {L:List (ByteArray×AVal)},ZjL es = some L→es = ZcM L
 | [],L,h=>by cases h;rfl
 | (u,v) :: es,L,h=>by
   cases u with
   |string s=>
    obtain ⟨l,h1,rfl⟩:=Option.map_eq_some_iff.1 h
    rw[ZuL h1];rfl
   |_=>cases h
def ZhY (h:Za) (f:AVal):Option (List ByteArray):=match f with
 | .fn (.func 132) [] [.ptr b 0]=>match Zb h b with
   |some [.map mb]=>match h[mb]? with
    |some (.map .str es)=>(ZjL es).bind fun L=>(req (L.length * 16≤140737488355328)).bind fun _=>some (L.map (·.1))
    |_=>none
   |_=>none
 |_=>none
theorem Z25 {h:Za} {f:AVal} {ks:List ByteArray} (hx:ZhY h f = some ks):ACalls Tryz.prog 108 [f] h fun e g=>e = .ret (Zfp h (ZbP ks))∧g = Zfq h (ZbP ks):=by
 unfold ZhY at hx
 split at hx
 ·split at hx
  ·rename_i b _ mb hb
   split at hx
   ·rename_i es hm
    obtain ⟨L,h1,hx⟩:=Option.bind_eq_some_iff.1 hx
    obtain ⟨_,h2,hx⟩:=Option.bind_eq_some_iff.1 hx
    cases hx
    have h2:=ZY h2
    rw[ZuL h1] at hm
    exact Z0w (ZbV hb) hm h2
   ·cases hx
  ·cases hx
 ·cases hx
noncomputable def ZoJ:XC:=.l fun R args h K=>match args with
 | [f]=>(ZhY h f).bind fun r=>K (Zfp h (ZbP r)) (Zfq h (ZbP r))
 |_=>none
theorem Zza:XC.Nat ZoJ∧XC.Ok Tryz.prog 108 ZoJ:=by
 refine ⟨fun R args h K=>?_,tc108,fun args h v h' hx=>?_⟩
 ·dsimp only;split<;>simp[Option.bind_assoc,mkP]
 ·dsimp only at hx;split at hx
  ·obtain ⟨r,hopt,hx⟩:=Option.bind_eq_some_iff.1 hx
   simp only[mkP,Option.some.injEq,Prod.mk.injEq] at hx
   obtain ⟨rfl,rfl⟩:=hx
   exact Z25 hopt
  ·cases hx
noncomputable def Zx0:XE:={ T:=Zn [(142,Zuh),(143,Zmf)],C:=[],D:=[],Ms:=[],Ml:=[],Mo:=[],n:=4}
theorem Z9l:XE.Ok Zx0 Tryz.prog:=⟨Zp (⟨Z1m,⟨Zqb,trivial⟩⟩),trivial,Zq,trivial⟩
noncomputable def Zwr (m0:AVal) (h:Za):Option (AVal×Za):=Zt Zx0 f109 [m0] h
theorem Z5T (m0:AVal) (h:Za):Zwr m0 h =
 (AVal.parts m0).bind fun vs1=>
 some ((.fn (.func 132) [] [(.ptr h.length 0)]),(psh h (.cells vs1))):=by kernel_rfl
theorem Z5U {m0:AVal} {h h':Za} {v:AVal} {R:AEnd→Za→Prop} (hx:Zwr m0 h = some (v,h')) (hR:HOk h→h.length≤h'.length→ABody.AEnds h h' (.ret v) R):ACalls Tryz.prog 109 [m0] h R:=Zu Z9l Zo (i:=109) (by rfl) (by kernel_rfl) (by kernel_rfl) hx hR
theorem Z26 {h:Za} {m:AVal} {vs:List AVal} (hv:AVal.parts m = some vs):ACalls Tryz.prog 109 [m] h fun e g=>e = .ret (ZdB h.length)∧g = psh h (.cells vs):=by
 refine Z5U (v:=ZdB h.length) (h':=psh h (.cells vs)) ?_ selfR
 rw[Z5T,hv];rfl
noncomputable def ZoO:XC:=.l fun R args h K=>match args with
 | [m]=>(AVal.parts m).bind fun vs=>K (ZdB h.length) (psh h (.cells vs))
 |_=>none
theorem Zzf:XC.Nat ZoO∧XC.Ok Tryz.prog 109 ZoO:=by
 refine ⟨fun R args h K=>?_,tc109,fun args h v h' hx=>?_⟩
 ·dsimp only;split<;>simp[Option.bind_assoc,mkP]
 ·dsimp only at hx;split at hx
  ·obtain ⟨vs,hopt,hx⟩:=Option.bind_eq_some_iff.1 hx
   simp only[mkP,Option.some.injEq,Prod.mk.injEq] at hx
   obtain ⟨rfl,rfl⟩:=hx
   exact Z26 hopt
  ·cases hx
noncomputable def Zx1:XE:={ T:=Zn [(3,r3),(4,r4),(9,r9),(25,r25),(52,r52),(77,r77),(79,r79),(81,r81),(143,Zmf)],C:=[(108,ZoJ),(109,ZoO)],D:=[],Ms:=[],Ml:=[],Mo:=[],n:=9}
theorem Z9o:XE.Ok Zx1 Tryz.prog:=⟨Zp (⟨Z0,⟨Z1,⟨Zz,⟨ZbQ,⟨Zby,⟨ZdS,⟨Zew,⟨Zd4,⟨Zqb,trivial⟩⟩⟩⟩⟩⟩⟩⟩⟩),(⟨Zza,⟨Zzf,trivial⟩⟩),Zq,trivial⟩
noncomputable def Ziu (d0:AVal) (h:Za):Option (AVal×Za):=Zt Zx1 f69 [d0] h
theorem Z6f (d0:AVal) (h:Za):Ziu d0 h =
 (Zg d0).bind fun p1=>
 (Zf 3 p1).bind fun p2=>
 (ld1 h p2).bind fun x3=>
 (AVal.parts x3).bind fun r4=>
 (ZhY (psh h (.cells r4)) (ZdB h.length)).bind fun r5=>
 some ((Zfp (psh h (.cells r4)) (ZbP r5)),Zfq (psh h (.cells r4)) (ZbP r5)):=by kernel_rfl
theorem Z6g {d0:AVal} {h h':Za} {v:AVal} {R:AEnd→Za→Prop} (hx:Ziu d0 h = some (v,h')) (hR:HOk h→h.length≤h'.length→ABody.AEnds h h' (.ret v) R):ACalls Tryz.prog 69 [d0] h R:=Zu Z9o Zo (i:=69) (by rfl) (by kernel_rfl) (by kernel_rfl) hx hR
noncomputable def ZeL:XE:={ T:=Zn [(4,r4),(5,r5)],C:=[],D:=[],Ms:=[],Ml:=[],Mo:=[(1006,[0,8]),(1014,[0,16]),(1018,[20])],n:=21}
theorem Z9m:XE.Ok ZeL Tryz.prog:=⟨Zp (⟨Z1,⟨ZdT,trivial⟩⟩),trivial,Zq,trivial⟩
noncomputable def Zf3:Code:=ZP f118
noncomputable def Zws (c0:Int) (h:Za):Option (AVal×Za):=Zt ZeL f118 [(.lit (.int .u8 c0))] h
noncomputable def Zr4 (c0:Int) (t8:Bool) (h:Za):Option (AVal×Za):=jo ZeL 1 (Zk (ca (cb Zf3))) ((Zk (ca (cb Zf3))).toList.drop 6) 6 [(0,(.lit (.int .u8 c0))),(8,(.lit (.bool t8)))] h (kN (Zi ZeL (cb (cb Zf3)) (Zj ZeL f118)))
noncomputable def Zno (c0:Int) (t16:Bool) (h:Za):Option (AVal×Za):=jo ZeL 1 (Zk (ca (cb Zf3))) ((Zk (ca (cb Zf3))).toList.drop 14) 14 [(0,(.lit (.int .u8 c0))),(16,(.lit (.bool t16)))] h (kN (Zi ZeL (cb (cb Zf3)) (Zj ZeL f118)))
noncomputable def Zr3 (t20:Bool) (h:Za):Option (AVal×Za):=jo ZeL 1 (Zk (ca (cb Zf3))) ((Zk (ca (cb Zf3))).toList.drop 18) 18 [(20,(.lit (.bool t20)))] h (kN (Zi ZeL (cb (cb Zf3)) (Zj ZeL f118)))
theorem Z5V (c0:Int) (h:Za):Zws c0 h =
 bif (decide (97≤c0)) then (Zr4 c0 (decide (c0≤122)) h)
 else (Zr4 c0 false h):=by kernel_rfl
theorem Z5Z (c0:Int) (t8:Bool) (h:Za):Zr4 c0 t8 h =
 bif t8 then (Zno c0 true h)
 else (bif (decide (48≤c0)) then (Zno c0 (decide (c0≤57)) h)
 else (Zno c0 false h)):=(ZV ..).trans (by kernel_rfl)
theorem Z5Y (c0:Int) (t16:Bool) (h:Za):Zno c0 t16 h =
 bif t16 then (Zr3 true h)
 else (Zr3 (decide (c0 = 46)) h):=(ZV ..).trans (by kernel_rfl)
theorem Z5X (t20:Bool) (h:Za):Zr3 t20 h =
 some ((.lit (.bool t20)),h):=(ZV ..).trans (by kernel_rfl)
theorem Z5W {c0:Int} {h h':Za} {v:AVal} {R:AEnd→Za→Prop} (hx:Zws c0 h = some (v,h')) (hR:HOk h→h.length≤h'.length→ABody.AEnds h h' (.ret v) R):ACalls Tryz.prog 118 [(.lit (.int .u8 c0))] h R:=Zu Z9m Zo (i:=118) (by rfl) (by kernel_rfl) (by kernel_rfl) hx hR
def Zd8 (c:Int):Bool:=(decide (97≤c) && decide (c≤122)) || (decide (48≤c) && decide (c≤57)) || decide (c = 46)
theorem Z2t {c:Int} (h:Za):ACalls Tryz.prog 118 [.lit (.int .u8 c)] h fun e g=>e = .ret (.lit (.bool (Zd8 c)))∧g = h:=by
 refine Z5W (v:=.lit (.bool (Zd8 c))) (h':=h) ?_ selfR
 rw[Z5V]
 unfold Zd8
 cases h1:decide (97≤c)<;>cases h2:decide (c≤122)<;>cases h3:decide (48≤c)<;>cases h4:decide (c≤57)<;>simp only[cond_true,cond_false,Z5Z,Z5Y,Z5X,h2,h3,h4,Bool.true_and,Bool.false_and,Bool.true_or,Bool.false_or,Bool.and_true,Bool.and_false]
noncomputable def ZoQ:XC:=.p fun R args K=>match args with
 | [.lit (.int .u8 c)]=>K (.lit (.bool (Zd8 c)))
 |_=>none
theorem Zzh:XC.Nat ZoQ∧XC.Ok Tryz.prog 118 ZoQ:=by
 refine ⟨fun R args K=>?_,tc118,fun args h v hx=>?_⟩
 ·dsimp only;split<;>simp[Option.bind_assoc,mkP]
 ·dsimp only at hx;split at hx
  ·cases hx
   exact Z2t h
  ·cases hx
noncomputable def ZeM:XE:={ T:=Zn [(3,r3),(4,r4),(5,r5),(9,r9),(119,ZeR)],C:=[(118,ZoQ)],D:=[],Ms:=[(7,[0])],Ml:=[(2,[0,6,7,8])],Mo:=[(7007,[22])],n:=23}
theorem Efs_Right_ok:XE.Ok ZeM Tryz.prog:=⟨Zp (⟨Z0,⟨Z1,⟨ZdT,⟨Zz,⟨Zft,trivial⟩⟩⟩⟩⟩),(⟨Zzh,trivial⟩),Zq,trivial⟩
noncomputable def c92:Code:=ZP f92
noncomputable def Zwu (name0:ByteArray) (h:Za):Option (AVal×Za):=Zt ZeM f92 [(.lit (.string name0))] h
noncomputable def ZkL (name0:ByteArray) (t6:AVal) (t7:Int) (t8:Int) (h:Za):Option (AVal×Za):=Zl ZeM (.loop (ca (ca (cb (ca (cb c92)))))) (AVal×Za) [(0,(.lit (.string name0))),(6,t6),(7,(.lit (.int .i64 t7))),(8,(.lit (.int .i64 t8)))] h (ZW 0 (Zi ZeM (cb (cb c92)) (Zj ZeM f92)))
noncomputable def Zr6 (name0:ByteArray) (h:Za):Option (AVal×Za):=jn (Zl ZeM (cb (cb c92)) (AVal×Za) [(0,(.lit (.string name0)))] h (Zj ZeM f92))
noncomputable def Zr5 (t22:Bool) (h:Za):Option (AVal×Za):=jo ZeM 7 (Zk (ca (cb (cb c92)))) ((Zk (ca (cb (cb c92)))).toList.drop 7) 7 [(22,(.lit (.bool t22)))] h (kN (Zi ZeM (cb (cb (cb c92))) (Zj ZeM f92)))
theorem Z6a (name0:ByteArray) (h:Za):Zwu name0 h =
 (Zbb (.sl 1 h.length 0 name0.size)).bind fun n1=>
 ZkL name0 (.sl 1 h.length 0 name0.size) n1 0 ((psh h (.cells ((name0).data.toList.map ZR)))):=by kernel_rfl
theorem Zwt (name0:ByteArray) (t6:AVal) (t7:Int) (t8:Int) (h:Za):ZkL name0 t6 t7 t8 h =
 bif (decide (t8 < t7)) then ((Zbc 1 t6 t8).bind fun p2=>
 (ld1 h p2).bind fun x3=>
 (asI .u8 x3).bind fun n4=>
 bif (!(Zd8 n4)) then (some ((.lit (.bool false)),h))
 else (ZkL name0 t6 t7 (IntKind.wrap .i64 (t8 + 1)) h))
 else (Zr6 name0 h):=(ZbO ZeM Efs_Right_ok.C.nat _ _ _ _ _).trans (by kernel_rfl)
theorem Z6d (name0:ByteArray) (h:Za):Zr6 name0 h =
 bif (!decide (name0 = (⟨#[]⟩:ByteArray))) then (Zr5 (decide ((name0.size:Int)≤24)) h)
 else (Zr5 false h):=(ZF _).trans (by kernel_rfl)
theorem Z6c (t22:Bool) (h:Za):Zr5 t22 h =
 some ((.lit (.bool t22)),h):=(ZV ..).trans (by kernel_rfl)
theorem Z6b {name0:ByteArray} {h h':Za} {v:AVal} {R:AEnd→Za→Prop} (hx:Zwu name0 h = some (v,h')) (hR:HOk h→h.length≤h'.length→ABody.AEnds h h' (.ret v) R):ACalls Tryz.prog 92 [(.lit (.string name0))] h R:=Zu Efs_Right_ok Zo (i:=92) (by rfl) (by kernel_rfl) (by kernel_rfl) hx hR
def Zkk (l:List UInt8):Bool:=l.all fun c=>Zd8 c.toNat
def Zbp (s:ByteArray):Bool:=Zkk s.data.toList && (!decide (s = { data:=#[]}) && decide ((s.size:Int)≤24))
theorem ZsN {i:Nat} (h:i < 9223372036854775807):IntKind.wrap .i64 ((i:Int) + 1) = ((i + 1:Nat):Int):=by
 rw[show (i:Int) + 1 = ((i + 1:Nat):Int) by omega];exact ZyJ (by omega)
theorem Z0V (s:ByteArray) (h:Za):Zr6 s h = some (.lit (.bool (!decide (s = { data:=#[]}) && decide ((s.size:Int)≤24))),h):=by
 rw[Z6d]
 cases decide (s = ({ data:=#[]}:ByteArray))<;>simp only[Bool.not_true,Bool.not_false,cond_true,cond_false,Z6c,Bool.true_and,Bool.false_and]
theorem ZtX {s:ByteArray} {b:Nat} {h:Za} (hc:Zb h b = some (s.data.toList.map ZR)) (hs:s.size≤9223372036854775807):∀ (m i:Nat),s.size - i = m→i≤s.size→
  ZkL s (.sl 1 b 0 s.size) s.size (i:Int) h = some (.lit (.bool (Zkk (s.data.toList.drop i) && (!decide (s = { data:=#[]}) && decide ((s.size:Int)≤24)))),h)
 | 0,i,hm,hi=>by
   rw[Zwt]
   have h1:decide ((i:Int) < (s.size:Int)) = false:=by simp;omega
   rw[h1,cond_false,Z0V,List.drop_of_length_le (by have:s.data.toList.length = s.size:=Array.length_toList;omega)]
   rfl
 |m + 1,i,hm,hi=>by
  rw[Zwt]
  have hlt:i < s.size:=by omega
  have h1:decide ((i:Int) < (s.size:Int)) = true:=by simp;omega
  have hl:i < s.data.toList.length:=by have:s.data.toList.length = s.size:=Array.length_toList;omega
  have h2:Zbc 1 (.sl 1 b 0 s.size) (i:Int) = some (.ptr b i):=by
   simp[Zbc,req,hlt]
  have h3:ld1 h (.ptr b i) = some (ZR s.data.toList[i]):=by
   rw[Zc hc,List.getElem?_map,List.getElem?_eq_getElem hl];rfl
  rw[h1,cond_true,h2,Option.bind_some,h3,Option.bind_some]
  show (some ((s.data.toList[i].toNat:Int))).bind _ = _
  rw[Option.bind_some,List.drop_eq_getElem_cons hl,ZsN (by omega),ZtX hc hs m (i + 1) (by omega) (by omega)]
  show _ = some (AVal.lit (.bool ((Zd8 (s.data.toList[i].toNat) && Zkk (s.data.toList.drop (i + 1))) && _)),h)
  cases Zd8 (s.data.toList[i].toNat)<;>simp
theorem Z0U {s:ByteArray} {h:Za} (hs:s.size≤9223372036854775807):ACalls Tryz.prog 92 [.lit (.string s)] h fun e g=>e = .ret (.lit (.bool (Zbp s)))∧g = h:=by
 refine Z6b (v:=.lit (.bool (Zbp s))) (h':=psh h (.cells (s.data.toList.map ZR))) ?_ fun hok _=>ZqL (L:=[_]) hok rfl ⟨rfl,rfl⟩
 rw[Z6a]
 show ZkL s _ _ ((0:Nat):Int) _ = _
 rw[ZtX (ZU h _) hs s.size 0 rfl (Nat.zero_le _)]
 rfl
noncomputable def ZoR:XC:=.q fun R args h K=>match args with
 | [.lit (.string s)]=>(req (s.size≤9223372036854775807)).bind fun _=>K (.lit (.bool (Zbp s)))
 |_=>none
theorem Zzi:XC.Nat ZoR∧XC.Ok Tryz.prog 92 ZoR:=by
 refine ⟨fun R args h K=>?_,tc92,fun args h v hx=>?_⟩
 ·dsimp only;split<;>simp[Option.bind_assoc,mkP]
 ·dsimp only at hx;split at hx
  ·obtain ⟨_,hpre,hx⟩:=Option.bind_eq_some_iff.1 hx
   have hpre:=ZY hpre
   cases hx
   exact Z0U hpre
  ·cases hx
noncomputable def Zll:XE:={ T:=Zn [(3,r3),(4,r4),(9,r9),(25,r25),(77,r77),(79,r79),(81,r81)],C:=[],D:=[],Ms:=[],Ml:=[],Mo:=[(1008,[10])],n:=11}
theorem Z9p:XE.Ok Zll Tryz.prog:=⟨Zp (⟨Z0,⟨Z1,⟨Zz,⟨ZbQ,⟨ZdS,⟨Zew,⟨Zd4,trivial⟩⟩⟩⟩⟩⟩⟩),trivial,Zq,trivial⟩
noncomputable def c51:Code:=ZP f51
noncomputable def ZfC (d0:AVal) (h:Za):Option (AVal×Za):=Zt Zll f51 [d0] h
noncomputable def Zr9 (t10:Bool) (h:Za):Option (AVal×Za):=jo Zll 1 (Zk (ca (cb c51))) ((Zk (ca (cb c51))).toList.drop 8) 8 [(10,(.lit (.bool t10)))] h (kN (Zi Zll (cb (cb c51)) (Zj Zll f51)))
theorem Z6h (d0:AVal) (h:Za):ZfC d0 h =
 (AVal.isNil .ptr d0).bind fun b1=>
 bif (!b1) then ((Zg d0).bind fun p2=>
 (Zf 0 p2).bind fun p3=>
 (ld1 h p3).bind fun x4=>
 (asB x4).bind fun b5=>
 Zr9 b5 h)
 else (Zr9 false h):=by kernel_rfl
theorem Z6j (t10:Bool) (h:Za):Zr9 t10 h =
 some ((.lit (.bool t10)),h):=(ZV ..).trans (by kernel_rfl)
theorem Z6i {d0:AVal} {h h':Za} {v:AVal} {R:AEnd→Za→Prop} (hx:ZfC d0 h = some (v,h')) (hR:HOk h→h.length≤h'.length→ABody.AEnds h h' (.ret v) R):ACalls Tryz.prog 51 [d0] h R:=Zu Z9p Zo (i:=51) (by rfl) (by kernel_rfl) (by kernel_rfl) hx hR
noncomputable def Zh9:XC:=.q fun R args h K=>match args with
 | [a0]=>(Zv (ZfC a0 h) h).bind fun r=>K r
 |_=>none
theorem ZlC:XC.Nat Zh9∧XC.Ok Tryz.prog 51 Zh9:=by
 refine ⟨fun R args h K=>?_,tc51,fun args h v hx=>?_⟩
 ·dsimp only;split<;>simp[Option.bind_assoc,mkP]
 ·dsimp only at hx;split at hx
  ·obtain ⟨r,hopt,hx⟩:=Option.bind_eq_some_iff.1 hx
   cases hx
   exact (by have hopt:=Zc7 hopt;exact Z6i hopt selfR)
  ·cases hx
noncomputable def ZeN:XE:={ T:=Zn [(3,r3),(4,r4),(9,r9),(25,r25),(26,r26),(77,r77),(79,r79),(81,r81)],C:=[(51,Zh9)],D:=[],Ms:=[(7,[0])],Ml:=[],Mo:=[(1007,[0,11]),(4012,[0,19,30])],n:=49}
theorem Z9r:XE.Ok ZeN Tryz.prog:=⟨Zp (⟨Z0,⟨Z1,⟨Zz,⟨ZbQ,⟨ZbE,⟨ZdS,⟨Zew,⟨Zd4,trivial⟩⟩⟩⟩⟩⟩⟩⟩),(⟨ZlC,trivial⟩),Zq,trivial⟩
noncomputable def c91:Code:=ZP f91
noncomputable def Ziw (d0:AVal) (may1:Bool) (h:Za):Option (AVal×Za):=Zt ZeN f91 [d0,(.lit (.bool may1))] h
noncomputable def ZrB (d0:AVal) (t11:Bool) (h:Za):Option (AVal×Za):=jo ZeN 1 (Zk (ca (ca (cb c91)))) ((Zk (ca (ca (cb c91)))).toList.drop 7) 7 [(0,d0),(11,(.lit (.bool t11)))] h (kN (Zi ZeN (cb (ca (cb c91))) (Zi ZeN (cb (cb c91)) (Zj ZeN f91))))
noncomputable def Ziv (d0:AVal) (t19:AVal) (t30:Bool) (h:Za):Option (AVal×Za):=jo ZeN 4 (Zk (ca (cb (cb (cb c91))))) ((Zk (ca (cb (cb (cb c91))))).toList.drop 12) 12 [(0,d0),(19,t19),(30,(.lit (.bool t30)))] h (kN (Zi ZeN (cb (cb (cb (cb c91)))) (Zj ZeN f91)))
noncomputable def Znq (d0:AVal) (h:Za):Option (AVal×Za):=jn (Zl ZeN (cb (cb (cb (cb (cb c91))))) (AVal×Za) [(0,d0)] h (Zj ZeN f91))
theorem Zww (d0:AVal) (may1:Bool) (h:Za):Ziw d0 may1 h =
 (Zv (ZfC d0 h) h).bind fun r1=>
 (asB r1).bind fun b2=>
 bif (!b2) then (ZrB d0 true h)
 else (ZrB d0 (!may1) h):=by kernel_rfl
theorem Zwy (d0:AVal) (t11:Bool) (h:Za):ZrB d0 t11 h =
 bif t11 then (some ((.lit (.int .i64 1)),h))
 else ((Zg d0).bind fun p3=>
 (Zf 6 p3).bind fun p4=>
 (ld1 h p4).bind fun x5=>
 (asI .i64 x5).bind fun n6=>
 (Zg d0).bind fun p7=>
 (Zf 6 p7).bind fun p8=>
 (st1 h p8 (.lit (.int .i64 (IntKind.wrap .i64 (n6 + 1))))).bind fun h9=>
 (Zg d0).bind fun p10=>
 (Zf 5 p10).bind fun p11=>
 (ld1 h9 p11).bind fun x12=>
 (asB x12).bind fun b13=>
 bif b13 then (Ziv d0 d0 true h9)
 else ((Zg d0).bind fun p14=>
 (Zf 4 p14).bind fun p15=>
 (ld1 h9 p15).bind fun x16=>
 (asI .i64 x16).bind fun n17=>
 Ziv d0 d0 (decide (n17 = 0)) h9)):=(ZV ..).trans (by kernel_rfl)
theorem Zwx (d0:AVal) (t19:AVal) (t30:Bool) (h:Za):Ziv d0 t19 t30 h =
 (Zg t19).bind fun p18=>
 (Zf 5 p18).bind fun p19=>
 (st1 h p19 (.lit (.bool t30))).bind fun h20=>
 (Zg d0).bind fun p21=>
 (Zf 4 p21).bind fun p22=>
 (ld1 h20 p22).bind fun x23=>
 (asI .i64 x23).bind fun n24=>
 bif (decide (n24 > (-1))) then ((Zg d0).bind fun p25=>
 (Zf 4 p25).bind fun p26=>
 (ld1 h20 p26).bind fun x27=>
 (asI .i64 x27).bind fun n28=>
 (Zg d0).bind fun p29=>
 (Zf 4 p29).bind fun p30=>
 (st1 h20 p30 (.lit (.int .i64 (IntKind.wrap .i64 (n28 - 1))))).bind fun h31=>
 Znq d0 h31)
 else (Znq d0 h20):=(ZV ..).trans (by kernel_rfl)
theorem Z6n (d0:AVal) (h:Za):Znq d0 h =
 (Zg d0).bind fun p32=>
 (Zf 5 p32).bind fun p33=>
 (ld1 h p33).bind fun x34=>
 (asB x34).bind fun b35=>
 bif b35 then (some ((.lit (.int .i64 5)),h))
 else (some ((.lit (.int .i64 0)),h)):=(ZF _).trans (by kernel_rfl)
theorem Z6m {d0:AVal} {may1:Bool} {h h':Za} {v:AVal} {R:AEnd→Za→Prop} (hx:Ziw d0 may1 h = some (v,h')) (hR:HOk h→h.length≤h'.length→ABody.AEnds h h' (.ret v) R):ACalls Tryz.prog 91 [d0,(.lit (.bool may1))] h R:=Zu Z9r Zo (i:=91) (by rfl) (by kernel_rfl) (by kernel_rfl) hx hR
noncomputable def ZoT:XC:=.l fun R args h K=>match args with
 | [a0,.lit (.bool a1)]=>(Ziw a0 a1 h).bind fun r=>K r.1 r.2
 |_=>none
theorem Zzk:XC.Nat ZoT∧XC.Ok Tryz.prog 91 ZoT:=by
 refine ⟨fun R args h K=>?_,tc91,fun args h v h' hx=>?_⟩
 ·dsimp only;split<;>simp[Option.bind_assoc,mkP]
 ·dsimp only at hx;split at hx
  ·obtain ⟨r,hopt,hx⟩:=Option.bind_eq_some_iff.1 hx
   simp only[mkP,Option.some.injEq,Prod.mk.injEq] at hx
   obtain ⟨rfl,rfl⟩:=hx
   exact (by obtain ⟨v,h'⟩:=r;exact Z6m hopt selfR)
  ·cases hx
noncomputable def ZiO:XE:={ T:=Zn [(3,r3),(4,r4),(9,r9),(25,r25),(26,r26),(77,r77),(79,r79),(81,r81)],C:=[(91,ZoT),(92,ZoR)],D:=[],Ms:=[],Ml:=[],Mo:=[(1006,[0,1,6,11,16])],n:=35}
theorem Z9q:XE.Ok ZiO Tryz.prog:=⟨Zp (⟨Z0,⟨Z1,⟨Zz,⟨ZbQ,⟨ZbE,⟨ZdS,⟨Zew,⟨Zd4,trivial⟩⟩⟩⟩⟩⟩⟩⟩),(⟨Zzk,⟨Zzi,trivial⟩⟩),Zq,trivial⟩
noncomputable def c44:Code:=ZP f44
noncomputable def Zfg (d0:AVal) (name1:ByteArray) (may2:Bool) (h:Za):Option (AVal×Za):=Zt ZiO f44 [d0,(.lit (.string name1)),(.lit (.bool may2))] h
noncomputable def Znp (d0:AVal) (name1:ByteArray) (t6:Nat) (t11:AVal) (t16:Bool) (h:Za):Option (AVal×Za):=jo ZiO 1 (Zk (ca (ca (cb c44)))) ((Zk (ca (ca (cb c44)))).toList.drop 6) 6 [(0,d0),(1,(.lit (.string name1))),(6,(.ptr t6 0)),(11,t11),(16,(.lit (.bool t16)))] h (kN (Zi ZiO (cb (ca (cb c44))) (Zi ZiO (cb (cb c44)) (Zj ZiO f44))))
theorem Z6k (d0:AVal) (name1:ByteArray) (may2:Bool) (h:Za):Zfg d0 name1 may2 h =
 bif may2 then ((req (name1.size≤9223372036854775807)).bind fun _=>
 Znp d0 name1 h.length d0 (Zbp name1) ((psh h (.cells [(.lit (.string ({ data:=#[]}))),(.lit (.int .i64 0))]))))
 else (Znp d0 name1 h.length d0 false ((psh h (.cells [(.lit (.string ({ data:=#[]}))),(.lit (.int .i64 0))])))):=by kernel_rfl
theorem ZrA (d0:AVal) (name1:ByteArray) (t6:Nat) (t11:AVal) (t16:Bool) (h:Za):Znp d0 name1 t6 t11 t16 h =
 (Ziw t11 t16 h).bind fun r1=>
 (asI .i64 r1.1).bind fun n2=>
 bif (!decide (n2 = 0)) then ((stn 2 r1.2 (.ptr t6 0) ([(.lit (.string ({ data:=#[]}))),(.lit (.int .i64 0))])).bind fun h3=>
 (ldn 2 h3 (.ptr t6 0)).bind fun xs4=>
 some ((.tup [(.agg xs4),(.lit (.int .i64 n2))]),h3))
 else ((Zg d0).bind fun p5=>
 (Zf 3 p5).bind fun p6=>
 (ld1 r1.2 p6).bind fun x7=>
 (Ze5 .str r1.2 x7).bind fun es8=>
 (asA ((ZdW (.agg ([(.lit (.string ({ data:=#[]}))),(.lit (.int .i64 0))])) (.string name1) es8).1)).bind fun xs9=>
 (stn 2 ((psh r1.2 (.cells [(.lit (.string ({ data:=#[]}))),(.lit (.int .i64 0))]))) (.ptr r1.2.length 0) xs9).bind fun h10=>
 bif (!((ZdW (.agg ([(.lit (.string ({ data:=#[]}))),(.lit (.int .i64 0))])) (.string name1) es8).2)) then ((stn 2 h10 (.ptr t6 0) ([(.lit (.string ({ data:=#[]}))),(.lit (.int .i64 0))])).bind fun h11=>
 (ldn 2 h11 (.ptr t6 0)).bind fun xs12=>
 some ((.tup [(.agg xs12),(.lit (.int .i64 2))]),h11))
 else ((ldn 2 h10 (.ptr r1.2.length 0)).bind fun xs13=>
 (stn 2 h10 (.ptr t6 0) xs13).bind fun h14=>
 (ldn 2 h14 (.ptr t6 0)).bind fun xs15=>
 some ((.tup [(.agg xs15),(.lit (.int .i64 0))]),h14))):=(ZV ..).trans (by kernel_rfl)
theorem Z6l {d0:AVal} {name1:ByteArray} {may2:Bool} {h h':Za} {v:AVal} {R:AEnd→Za→Prop} (hx:Zfg d0 name1 may2 h = some (v,h')) (hR:HOk h→h.length≤h'.length→ABody.AEnds h h' (.ret v) R):ACalls Tryz.prog 44 [d0,(.lit (.string name1)),(.lit (.bool may2))] h R:=Zu Z9q Zo (i:=44) (by rfl) (by kernel_rfl) (by kernel_rfl) hx hR
noncomputable def ZgB:XC:=.l fun R args h K=>match args with
 | [a0,.lit (.string a1),.lit (.bool a2)]=>(Zfg a0 a1 a2 h).bind fun r=>K r.1 r.2
 |_=>none
theorem Zjn:XC.Nat ZgB∧XC.Ok Tryz.prog 44 ZgB:=by
 refine ⟨fun R args h K=>?_,tc44,fun args h v h' hx=>?_⟩
 ·dsimp only;split<;>simp[Option.bind_assoc,mkP]
 ·dsimp only at hx;split at hx
  ·obtain ⟨r,hopt,hx⟩:=Option.bind_eq_some_iff.1 hx
   simp only[mkP,Option.some.injEq,Prod.mk.injEq] at hx
   obtain ⟨rfl,rfl⟩:=hx
   exact (by obtain ⟨v,h'⟩:=r;exact Z6l hopt selfR)
  ·cases hx
noncomputable def ZoS:XC:=.l fun R args h K=>match args with
 | [a0]=>(Ziu a0 h).bind fun r=>K r.1 r.2
 |_=>none
theorem Zzj:XC.Nat ZoS∧XC.Ok Tryz.prog 69 ZoS:=by
 refine ⟨fun R args h K=>?_,tc69,fun args h v h' hx=>?_⟩
 ·dsimp only;split<;>simp[Option.bind_assoc,mkP]
 ·dsimp only at hx;split at hx
  ·obtain ⟨r,hopt,hx⟩:=Option.bind_eq_some_iff.1 hx
   simp only[mkP,Option.some.injEq,Prod.mk.injEq] at hx
   obtain ⟨rfl,rfl⟩:=hx
   exact (by obtain ⟨v,h'⟩:=r;exact Z6g hopt selfR)
  ·cases hx
noncomputable def Zx3:XE:={ T:=Zn [(3,r3),(4,r4),(9,r9),(25,r25),(26,r26),(77,r77),(79,r79),(81,r81)],C:=[(44,ZgB)],D:=[],Ms:=[],Ml:=[],Mo:=[],n:=30}
theorem Z9v:XE.Ok Zx3 Tryz.prog:=⟨Zp (⟨Z0,⟨Z1,⟨Zz,⟨ZbQ,⟨ZbE,⟨ZdS,⟨Zew,⟨Zd4,trivial⟩⟩⟩⟩⟩⟩⟩⟩),(⟨Zjn,trivial⟩),Zq,trivial⟩
noncomputable def c9:Code:=ZP f9
noncomputable def Zhm (d0:AVal) (name1:ByteArray) (h:Za):Option (AVal×Za):=Zt Zx3 f9 [d0,(.lit (.string name1))] h
theorem Z6y (d0:AVal) (name1:ByteArray) (h:Za):Zhm d0 name1 h =
 (Zfg d0 name1 true h).bind fun r1=>
 (Z6 r1.1 0).bind fun x2=>
 (asA x2).bind fun xs3=>
 (Z6 r1.1 1).bind fun x4=>
 (asI .i64 x4).bind fun n5=>
 (stn 2 ((psh r1.2 (.cells [(.lit (.string ({ data:=#[]}))),(.lit (.int .i64 0))]))) (.ptr r1.2.length 0) xs3).bind fun h6=>
 bif (!decide (n5 = 2)) then (bif (decide (n5 = 0)) then (some ((.lit (.int .i64 3)),h6))
 else (some ((.lit (.int .i64 n5)),h6)))
 else ((Zg d0).bind fun p7=>
 (Zf 3 p7).bind fun p8=>
 (ld1 h6 p8).bind fun x9=>
 (ZeP h6 x9).bind fun x10=>
 (asI .i64 x10).bind fun n11=>
 bif (decide (n11 = 200)) then (some ((.lit (.int .i64 4)),h6))
 else ((Zg d0).bind fun p12=>
 (Zf 3 p12).bind fun p13=>
 (ld1 h6 p13).bind fun x14=>
 (ZfW .str h6 x14 (ZdV (.string name1) (.agg ([(.lit (.string ({ data:=#[]}))),(.lit (.int .i64 0))])))).bind fun h15=>
 some ((.lit (.int .i64 0)),h15))):=by kernel_rfl
theorem Z6z {d0:AVal} {name1:ByteArray} {h h':Za} {v:AVal} {R:AEnd→Za→Prop} (hx:Zhm d0 name1 h = some (v,h')) (hR:HOk h→h.length≤h'.length→ABody.AEnds h h' (.ret v) R):ACalls Tryz.prog 9 [d0,(.lit (.string name1))] h R:=Zu Z9v Zo (i:=9) (by rfl) (by kernel_rfl) (by kernel_rfl) hx hR
noncomputable def ZoW:XC:=.l fun R args h K=>match args with
 | [a0,.lit (.string a1)]=>(Zhm a0 a1 h).bind fun r=>K r.1 r.2
 |_=>none
theorem Zzn:XC.Nat ZoW∧XC.Ok Tryz.prog 9 ZoW:=by
 refine ⟨fun R args h K=>?_,tc9,fun args h v h' hx=>?_⟩
 ·dsimp only;split<;>simp[Option.bind_assoc,mkP]
 ·dsimp only at hx;split at hx
  ·obtain ⟨r,hopt,hx⟩:=Option.bind_eq_some_iff.1 hx
   simp only[mkP,Option.some.injEq,Prod.mk.injEq] at hx
   obtain ⟨rfl,rfl⟩:=hx
   exact (by obtain ⟨v,h'⟩:=r;exact Z6z hopt selfR)
  ·cases hx
noncomputable def Zx6:XE:={ T:=Zn [(3,r3),(4,r4),(9,r9),(25,r25),(26,r26),(77,r77),(79,r79),(81,r81)],C:=[(44,ZgB)],D:=[(4,⟨[],[0,1,2,3,4,5,6,7,8,9,10,11,12],[],[],[],[],[]⟩),(7,⟨[],[0,1,2,3,4,5],[6],[],[],[],[]⟩)],Ms:=[],Ml:=[],Mo:=[],n:=52}
theorem Z9y:XE.Ok Zx6 Tryz.prog:=⟨Zp (⟨Z0,⟨Z1,⟨Zz,⟨ZbQ,⟨ZbE,⟨ZdS,⟨Zew,⟨Zd4,trivial⟩⟩⟩⟩⟩⟩⟩⟩),(⟨Zjn,trivial⟩),Zq,trivial⟩
noncomputable def c11:Code:=ZP f11
noncomputable def ZkO (d0:AVal) (name1:ByteArray) (s2:ByteArray) (h:Za):Option (AVal×Za):=Zt Zx6 f11 [d0,(.lit (.string name1)),(.lit (.string s2))] h
theorem Z64 (d0:AVal) (name1:ByteArray) (s2:ByteArray) (h:Za):ZkO d0 name1 s2 h =
 (Zfg d0 name1 true h).bind fun r1=>
 (Z6 r1.1 0).bind fun x2=>
 (asA x2).bind fun xs3=>
 (Z6 r1.1 1).bind fun x4=>
 (asI .i64 x4).bind fun n5=>
 (stn 2 ((psh r1.2 (.cells [(.lit (.string ({ data:=#[]}))),(.lit (.int .i64 0))]))) (.ptr r1.2.length 0) xs3).bind fun h6=>
 bif (!decide (n5 = 0)) then (some ((.lit (.int .i64 n5)),h6))
 else ((Zg d0).bind fun p7=>
 (Zf 1 p7).bind fun p8=>
 (ld1 h6 p8).bind fun x9=>
 (asI .i64 x9).bind fun n10=>
 (Zg d0).bind fun p11=>
 (Zf 2 p11).bind fun p12=>
 (ld1 h6 p12).bind fun x13=>
 (asI .i64 x13).bind fun n14=>
 bif (decide ((s2.size:Int) > (IntKind.wrap .i64 (n10 - n14)))) then (some ((.lit (.int .i64 4)),h6))
 else ((ld1 h6 (.ptr r1.2.length 0)).bind fun x15=>
 (asS x15).bind fun s16=>
 (req (s16.size + s2.size≤9223372036854775807)).bind fun u17=>
 (st1 h6 (.ptr r1.2.length 0) (.lit (.string (s16++s2)))).bind fun h18=>
 (Zg d0).bind fun p19=>
 (Zf 3 p19).bind fun p20=>
 (ld1 h18 p20).bind fun x21=>
 (ldn 2 h18 (.ptr r1.2.length 0)).bind fun xs22=>
 (ZfW .str h18 x21 (ZdV (.string name1) (.agg xs22))).bind fun h23=>
 (Zg d0).bind fun p24=>
 (Zf 2 p24).bind fun p25=>
 (ld1 h23 p25).bind fun x26=>
 (asI .i64 x26).bind fun n27=>
 (Zg d0).bind fun p28=>
 (Zf 2 p28).bind fun p29=>
 (st1 h23 p29 (.lit (.int .i64 (IntKind.wrap .i64 (n27 + (s2.size:Int)))))).bind fun h30=>
 some ((.lit (.int .i64 0)),h30))):=by kernel_rfl
theorem Z65 {d0:AVal} {name1:ByteArray} {s2:ByteArray} {h h':Za} {v:AVal} {R:AEnd→Za→Prop} (hx:ZkO d0 name1 s2 h = some (v,h')) (hR:HOk h→h.length≤h'.length→ABody.AEnds h h' (.ret v) R):ACalls Tryz.prog 11 [d0,(.lit (.string name1)),(.lit (.string s2))] h R:=Zu Z9y Zo (i:=11) (by rfl) (by kernel_rfl) (by kernel_rfl) hx hR
noncomputable def ZoZ:XC:=.l fun R args h K=>match args with
 | [a0,.lit (.string a1),.lit (.string a2)]=>(ZkO a0 a1 a2 h).bind fun r=>K r.1 r.2
 |_=>none
theorem Zzq:XC.Nat ZoZ∧XC.Ok Tryz.prog 11 ZoZ:=by
 refine ⟨fun R args h K=>?_,tc11,fun args h v h' hx=>?_⟩
 ·dsimp only;split<;>simp[Option.bind_assoc,mkP]
 ·dsimp only at hx;split at hx
  ·obtain ⟨r,hopt,hx⟩:=Option.bind_eq_some_iff.1 hx
   simp only[mkP,Option.some.injEq,Prod.mk.injEq] at hx
   obtain ⟨rfl,rfl⟩:=hx
   exact (by obtain ⟨v,h'⟩:=r;exact Z65 hopt selfR)
  ·cases hx
noncomputable def ZiP:XE:={ T:=Zn [(3,r3),(4,r4),(9,r9),(25,r25),(26,r26),(81,r81)],C:=[(44,ZgB)],D:=[],Ms:=[],Ml:=[],Mo:=[(4014,[2,3,10,40])],n:=48}
theorem Z9u:XE.Ok ZiP Tryz.prog:=⟨Zp (⟨Z0,⟨Z1,⟨Zz,⟨ZbQ,⟨ZbE,⟨Zd4,trivial⟩⟩⟩⟩⟩⟩),(⟨Zjn,trivial⟩),Zq,trivial⟩
noncomputable def c40:Code:=ZP f40
noncomputable def ZfE (d0:AVal) (name1:ByteArray) (at2:Int) (n3:Int) (h:Za):Option (AVal×Za):=Zt ZiP f40 [d0,(.lit (.string name1)),(.lit (.int .i64 at2)),(.lit (.int .i64 n3))] h
noncomputable def Znt (at2:Int) (n3:Int) (f10:Nat) (t40:Bool) (h:Za):Option (AVal×Za):=jo ZiP 4 (Zk (ca (cb (cb (ca (ca (cb (cb c40)))))))) ((Zk (ca (cb (cb (ca (ca (cb (cb c40)))))))).toList.drop 14) 14 [(2,(.lit (.int .i64 at2))),(3,(.lit (.int .i64 n3))),(10,(.ptr f10 0)),(40,(.lit (.bool t40)))] h (kN (Zi ZiP (cb (cb (cb (ca (ca (cb (cb c40))))))) (ZW 0 (Zi ZiP (cb (cb (cb c40))) (Zj ZiP f40)))))
theorem Z6w (d0:AVal) (name1:ByteArray) (at2:Int) (n3:Int) (h:Za):ZfE d0 name1 at2 n3 h =
 (Zfg d0 name1 (decide ((ZbB at2 n3)≥0)) h).bind fun r1=>
 (Z6 r1.1 0).bind fun x2=>
 (asA x2).bind fun xs3=>
 (Z6 r1.1 1).bind fun x4=>
 (asI .i64 x4).bind fun n5=>
 (stn 2 ((psh r1.2 (.cells [(.lit (.string ({ data:=#[]}))),(.lit (.int .i64 0))]))) (.ptr r1.2.length 0) xs3).bind fun h6=>
 bif (!decide (n5 = 0)) then (some ((.tup [(.lit (.string (⟨#[]⟩:ByteArray))),(.lit (.int .i64 n5))]),h6))
 else ((ld1 h6 (.ptr r1.2.length 0)).bind fun x7=>
 (asS x7).bind fun s8=>
 bif (decide (at2 > (s8.size:Int))) then (Znt at2 n3 r1.2.length true h6)
 else ((ld1 h6 (.ptr r1.2.length 0)).bind fun x9=>
 (asS x9).bind fun s10=>
 Znt at2 n3 r1.2.length (decide (n3 > (IntKind.wrap .i64 ((s10.size:Int) - at2)))) h6)):=by kernel_rfl
theorem Zw1 (at2:Int) (n3:Int) (f10:Nat) (t40:Bool) (h:Za):Znt at2 n3 f10 t40 h =
 bif t40 then (some ((.tup [(.lit (.string (⟨#[]⟩:ByteArray))),(.lit (.int .i64 10))]),h))
 else ((ld1 h (.ptr f10 0)).bind fun x11=>
 (asS x11).bind fun s12=>
 (ZdY s12 at2 (IntKind.wrap .i64 (at2 + n3))).bind fun s13=>
 some ((.tup [(.lit (.string s13)),(.lit (.int .i64 0))]),h)):=(ZV ..).trans (by kernel_rfl)
theorem Z6x {d0:AVal} {name1:ByteArray} {at2:Int} {n3:Int} {h h':Za} {v:AVal} {R:AEnd→Za→Prop} (hx:ZfE d0 name1 at2 n3 h = some (v,h')) (hR:HOk h→h.length≤h'.length→ABody.AEnds h h' (.ret v) R):ACalls Tryz.prog 40 [d0,(.lit (.string name1)),(.lit (.int .i64 at2)),(.lit (.int .i64 n3))] h R:=Zu Z9u Zo (i:=40) (by rfl) (by kernel_rfl) (by kernel_rfl) hx hR
noncomputable def ZlE:XC:=.l fun R args h K=>match args with
 | [a0,.lit (.string a1),.lit (.int .i64 a2),.lit (.int .i64 a3)]=>(ZfE a0 a1 a2 a3 h).bind fun r=>K r.1 r.2
 |_=>none
theorem Ztd:XC.Nat ZlE∧XC.Ok Tryz.prog 40 ZlE:=by
 refine ⟨fun R args h K=>?_,tc40,fun args h v h' hx=>?_⟩
 ·dsimp only;split<;>simp[Option.bind_assoc,mkP]
 ·dsimp only at hx;split at hx
  ·obtain ⟨r,hopt,hx⟩:=Option.bind_eq_some_iff.1 hx
   simp only[mkP,Option.some.injEq,Prod.mk.injEq] at hx
   obtain ⟨rfl,rfl⟩:=hx
   exact (by obtain ⟨v,h'⟩:=r;exact Z6x hopt selfR)
  ·cases hx
noncomputable def Zx2:XE:={ T:=Zn [(3,r3),(9,r9),(25,r25),(26,r26),(81,r81)],C:=[(44,ZgB)],D:=[],Ms:=[],Ml:=[],Mo:=[],n:=18}
theorem Z9t:XE.Ok Zx2 Tryz.prog:=⟨Zp (⟨Z0,⟨Zz,⟨ZbQ,⟨ZbE,⟨Zd4,trivial⟩⟩⟩⟩⟩),(⟨Zjn,trivial⟩),Zq,trivial⟩
noncomputable def ZfD (d0:AVal) (name1:ByteArray) (h:Za):Option (AVal×Za):=Zt Zx2 f39 [d0,(.lit (.string name1))] h
theorem Z6q (d0:AVal) (name1:ByteArray) (h:Za):ZfD d0 name1 h =
 (Zfg d0 name1 true h).bind fun r1=>
 (Z6 r1.1 0).bind fun x2=>
 (asA x2).bind fun xs3=>
 (Z6 r1.1 1).bind fun x4=>
 (asI .i64 x4).bind fun n5=>
 (stn 2 ((psh r1.2 (.cells [(.lit (.string ({ data:=#[]}))),(.lit (.int .i64 0))]))) (.ptr r1.2.length 0) xs3).bind fun h6=>
 (ld1 h6 (.ptr r1.2.length 0)).bind fun x7=>
 (asS x7).bind fun s8=>
 some ((.tup [(.lit (.int .i64 (s8.size:Int))),(.lit (.int .i64 n5))]),h6):=by kernel_rfl
theorem Z6r {d0:AVal} {name1:ByteArray} {h h':Za} {v:AVal} {R:AEnd→Za→Prop} (hx:ZfD d0 name1 h = some (v,h')) (hR:HOk h→h.length≤h'.length→ABody.AEnds h h' (.ret v) R):ACalls Tryz.prog 39 [d0,(.lit (.string name1))] h R:=Zu Z9t Zo (i:=39) (by rfl) (by kernel_rfl) (by kernel_rfl) hx hR
noncomputable def ZlD:XC:=.l fun R args h K=>match args with
 | [a0,.lit (.string a1)]=>(ZfD a0 a1 h).bind fun r=>K r.1 r.2
 |_=>none
theorem Ztc:XC.Nat ZlD∧XC.Ok Tryz.prog 39 ZlD:=by
 refine ⟨fun R args h K=>?_,tc39,fun args h v h' hx=>?_⟩
 ·dsimp only;split<;>simp[Option.bind_assoc,mkP]
 ·dsimp only at hx;split at hx
  ·obtain ⟨r,hopt,hx⟩:=Option.bind_eq_some_iff.1 hx
   simp only[mkP,Option.some.injEq,Prod.mk.injEq] at hx
   obtain ⟨rfl,rfl⟩:=hx
   exact (by obtain ⟨v,h'⟩:=r;exact Z6r hopt selfR)
  ·cases hx
noncomputable def ZnO:XE:={ T:=Zn [(3,r3),(4,r4),(9,r9),(25,r25),(26,r26),(77,r77),(79,r79),(81,r81)],C:=[(44,ZgB)],D:=[(4,⟨[],[0,1,2,3,4,5],[6],[],[],[],[]⟩)],Ms:=[(5,[6])],Ml:=[],Mo:=[],n:=26}
theorem Z9s:XE.Ok ZnO Tryz.prog:=⟨Zp (⟨Z0,⟨Z1,⟨Zz,⟨ZbQ,⟨ZbE,⟨ZdS,⟨Zew,⟨Zd4,trivial⟩⟩⟩⟩⟩⟩⟩⟩),(⟨Zjn,trivial⟩),Zq,trivial⟩
noncomputable def c58:Code:=ZP f58
noncomputable def ZkM (d0:AVal) (name1:ByteArray) (h:Za):Option (AVal×Za):=Zt ZnO f58 [d0,(.lit (.string name1))] h
noncomputable def ZrC (e6:Int) (h:Za):Option (AVal×Za):=jn (Zl ZnO (cb (cb (cb c58))) (AVal×Za) [(6,(.lit (.int .i64 e6)))] h (Zj ZnO f58))
theorem Z6o (d0:AVal) (name1:ByteArray) (h:Za):ZkM d0 name1 h =
 (Zfg d0 name1 true h).bind fun r1=>
 (Z6 r1.1 0).bind fun x2=>
 (asA x2).bind fun xs3=>
 (Z6 r1.1 1).bind fun x4=>
 (asI .i64 x4).bind fun n5=>
 (stn 2 ((psh r1.2 (.cells [(.lit (.string ({ data:=#[]}))),(.lit (.int .i64 0))]))) (.ptr r1.2.length 0) xs3).bind fun h6=>
 bif (decide (n5 = 0)) then ((ld1 h6 (.ptr r1.2.length 0)).bind fun x7=>
 (asS x7).bind fun s8=>
 (st1 h6 (.ptr r1.2.length 1) (.lit (.int .i64 (s8.size:Int)))).bind fun h9=>
 (Zg d0).bind fun p10=>
 (Zf 3 p10).bind fun p11=>
 (ld1 h9 p11).bind fun x12=>
 (ldn 2 h9 (.ptr r1.2.length 0)).bind fun xs13=>
 (ZfW .str h9 x12 (ZdV (.string name1) (.agg xs13))).bind fun h14=>
 ZrC n5 h14)
 else (ZrC n5 h6):=by kernel_rfl
theorem Zwz (e6:Int) (h:Za):ZrC e6 h =
 some ((.lit (.int .i64 e6)),h):=(ZF _).trans (by kernel_rfl)
theorem Z6p {d0:AVal} {name1:ByteArray} {h h':Za} {v:AVal} {R:AEnd→Za→Prop} (hx:ZkM d0 name1 h = some (v,h')) (hR:HOk h→h.length≤h'.length→ABody.AEnds h h' (.ret v) R):ACalls Tryz.prog 58 [d0,(.lit (.string name1))] h R:=Zu Z9s Zo (i:=58) (by rfl) (by kernel_rfl) (by kernel_rfl) hx hR
noncomputable def ZoU:XC:=.l fun R args h K=>match args with
 | [a0,.lit (.string a1)]=>(ZkM a0 a1 h).bind fun r=>K r.1 r.2
 |_=>none
theorem Zzl:XC.Nat ZoU∧XC.Ok Tryz.prog 58 ZoU:=by
 refine ⟨fun R args h K=>?_,tc58,fun args h v h' hx=>?_⟩
 ·dsimp only;split<;>simp[Option.bind_assoc,mkP]
 ·dsimp only at hx;split at hx
  ·obtain ⟨r,hopt,hx⟩:=Option.bind_eq_some_iff.1 hx
   simp only[mkP,Option.some.injEq,Prod.mk.injEq] at hx
   obtain ⟨rfl,rfl⟩:=hx
   exact (by obtain ⟨v,h'⟩:=r;exact Z6p hopt selfR)
  ·cases hx
noncomputable def Zx5:XE:={ T:=Zn [(3,r3),(4,r4),(9,r9),(25,r25),(77,r77),(79,r79),(81,r81)],C:=[(51,Zh9)],D:=[],Ms:=[],Ml:=[],Mo:=[],n:=11}
theorem Z9x:XE.Ok Zx5 Tryz.prog:=⟨Zp (⟨Z0,⟨Z1,⟨Zz,⟨ZbQ,⟨ZdS,⟨Zew,⟨Zd4,trivial⟩⟩⟩⟩⟩⟩⟩),(⟨ZlC,trivial⟩),Zq,trivial⟩
noncomputable def c13:Code:=ZP f13
noncomputable def Ziz (d0:AVal) (n1:Int) (h:Za):Option (AVal×Za):=Zt Zx5 f13 [d0,(.lit (.int .i64 n1))] h
theorem Z62 (d0:AVal) (n1:Int) (h:Za):Ziz d0 n1 h =
 (Zv (ZfC d0 h) h).bind fun r1=>
 (asB r1).bind fun b2=>
 bif b2 then ((Zg d0).bind fun p3=>
 (Zf 4 p3).bind fun p4=>
 (st1 h p4 (.lit (.int .i64 (Zs (-1) n1)))).bind fun h5=>
 some ((.tup []),h5))
 else (some ((.tup []),h)):=by kernel_rfl
theorem Z63 {d0:AVal} {n1:Int} {h h':Za} {v:AVal} {R:AEnd→Za→Prop} (hx:Ziz d0 n1 h = some (v,h')) (hR:HOk h→h.length≤h'.length→ABody.AEnds h h' (.ret v) R):ACalls Tryz.prog 13 [d0,(.lit (.int .i64 n1))] h R:=Zu Z9x Zo (i:=13) (by rfl) (by kernel_rfl) (by kernel_rfl) hx hR
noncomputable def ZoY:XC:=.l fun R args h K=>match args with
 | [a0,.lit (.int .i64 a1)]=>(Ziz a0 a1 h).bind fun r=>K r.1 r.2
 |_=>none
theorem Zzp:XC.Nat ZoY∧XC.Ok Tryz.prog 13 ZoY:=by
 refine ⟨fun R args h K=>?_,tc13,fun args h v h' hx=>?_⟩
 ·dsimp only;split<;>simp[Option.bind_assoc,mkP]
 ·dsimp only at hx;split at hx
  ·obtain ⟨r,hopt,hx⟩:=Option.bind_eq_some_iff.1 hx
   simp only[mkP,Option.some.injEq,Prod.mk.injEq] at hx
   obtain ⟨rfl,rfl⟩:=hx
   exact (by obtain ⟨v,h'⟩:=r;exact Z63 hopt selfR)
  ·cases hx
noncomputable def ZdN:XE:={ T:=Zn [(3,r3),(4,r4),(9,r9),(25,r25),(37,r37),(52,r52),(77,r77),(79,r79),(81,r81)],C:=[(51,Zh9),(69,ZoS)],D:=[(6,⟨[],[0,1,2,3,4,5,6,7,8,9,10,11,12],[],[],[],[],[]⟩),(8,⟨[],[0,1,2,3,4,5,6,7,8,9,10,11,12],[13],[],[],[],[]⟩),(10,⟨[],[0,1,2,3,4,5],[6],[],[],[],[]⟩)],Ms:=[(7,[0,1,5,6,7,12,13,14]),(12,[0])],Ml:=[(2,[0,1,12,13,14])],Mo:=[],n:=78}
theorem Efs_Disk_Rise_ok:XE.Ok ZdN Tryz.prog:=⟨Zp (⟨Z0,⟨Z1,⟨Zz,⟨ZbQ,⟨Zuc,⟨Zby,⟨ZdS,⟨Zew,⟨Zd4,trivial⟩⟩⟩⟩⟩⟩⟩⟩⟩),(⟨ZlC,⟨Zzj,trivial⟩⟩),Zq,trivial⟩
noncomputable def c21:Code:=ZP f21
noncomputable def Zix (d0:AVal) (keep1:AVal) (h:Za):Option (AVal×Za):=Zt ZdN f21 [d0,keep1] h
noncomputable def Zns (d0:AVal) (keep1:AVal) (t12:AVal) (t13:Int) (t14:Int) (h:Za):Option (AVal×Za):=Zl ZdN (.loop (ca (ca (cb (ca (cb c21)))))) (AVal×Za) [(0,d0),(1,keep1),(12,t12),(13,(.lit (.int .i64 t13))),(14,(.lit (.int .i64 t14)))] h (ZW 0 (Zi ZdN (cb (cb c21)) (Zj ZdN f21)))
noncomputable def ZkN (d0:AVal) (keep1:AVal) (name5:ByteArray) (f6:Nat) (n7:Int) (t12:AVal) (t13:Int) (t14:Int) (h:Za):Option (AVal×Za):=jn (Zl ZdN (cb (cb (cb (ca (ca (cb (cb (ca (ca (cb (ca (cb c21)))))))))))) (AVal×Za) [(0,d0),(1,keep1),(5,(.lit (.string name5))),(6,(.ptr f6 0)),(7,(.lit (.int .i64 n7))),(12,t12),(13,(.lit (.int .i64 t13))),(14,(.lit (.int .i64 t14)))] h (ZW 1 (Zi ZdN (cb (cb (cb (ca (ca (cb (ca (cb c21)))))))) (Zdp ZdN (ca (ca (cb (ca (cb c21))))) (ZW 0 (Zi ZdN (cb (cb c21)) (Zj ZdN f21)))))))
noncomputable def Znr (d0:AVal) (h:Za):Option (AVal×Za):=jn (Zl ZdN (cb (cb c21)) (AVal×Za) [(0,d0)] h (Zj ZdN f21))
theorem Z6s (d0:AVal) (keep1:AVal) (h:Za):Zix d0 keep1 h =
 (Zv (ZfC d0 h) h).bind fun r1=>
 (asB r1).bind fun b2=>
 bif (!b2) then (some ((.tup []),h))
 else ((Ziu d0 h).bind fun r3=>
 (Zbb r3.1).bind fun n4=>
 Zns d0 keep1 r3.1 n4 0 r3.2):=by kernel_rfl
theorem Zw0 (d0:AVal) (keep1:AVal) (t12:AVal) (t13:Int) (t14:Int) (h:Za):Zns d0 keep1 t12 t13 t14 h =
 bif (decide (t14 < t13)) then ((Zbc 1 t12 t14).bind fun p5=>
 (ld1 h p5).bind fun x6=>
 (asS x6).bind fun s7=>
 (Zg d0).bind fun p8=>
 (Zf 3 p8).bind fun p9=>
 (ld1 h p9).bind fun x10=>
 (Ze5 .str h x10).bind fun es11=>
 (asA ((ZdW (.agg ([(.lit (.string ({ data:=#[]}))),(.lit (.int .i64 0))])) (.string s7) es11).1)).bind fun xs12=>
 (stn 2 ((psh h (.cells [(.lit (.string ({ data:=#[]}))),(.lit (.int .i64 0))]))) (.ptr h.length 0) xs12).bind fun h13=>
 (Zbb keep1).bind fun n14=>
 bif (decide (t14 < n14)) then ((Zbc 1 keep1 t14).bind fun p15=>
 (ld1 h13 p15).bind fun x16=>
 (asI .i64 x16).bind fun n17=>
 (ld1 h13 (.ptr h.length 0)).bind fun x18=>
 (asS x18).bind fun s19=>
 (ld1 h13 (.ptr h.length 1)).bind fun x20=>
 (asI .i64 x20).bind fun n21=>
 ZkN d0 keep1 s7 h.length (Zs 0 (ZbB n17 (IntKind.wrap .i64 ((s19.size:Int) - n21)))) t12 t13 t14 h13)
 else (ZkN d0 keep1 s7 h.length 0 t12 t13 t14 h13))
 else (Znr d0 h):=(ZbO ZdN Efs_Disk_Rise_ok.C.nat _ _ _ _ _).trans (by kernel_rfl)
theorem Z6v (d0:AVal) (keep1:AVal) (name5:ByteArray) (f6:Nat) (n7:Int) (t12:AVal) (t13:Int) (t14:Int) (h:Za):ZkN d0 keep1 name5 f6 n7 t12 t13 t14 h =
 (ld1 h (.ptr f6 1)).bind fun x22=>
 (asI .i64 x22).bind fun n23=>
 (st1 h (.ptr f6 1) (.lit (.int .i64 (IntKind.wrap .i64 (n23 + n7))))).bind fun h24=>
 (Zg d0).bind fun p25=>
 (Zf 2 p25).bind fun p26=>
 (ld1 h24 p26).bind fun x27=>
 (asI .i64 x27).bind fun n28=>
 (ld1 h24 (.ptr f6 0)).bind fun x29=>
 (asS x29).bind fun s30=>
 (ld1 h24 (.ptr f6 1)).bind fun x31=>
 (asI .i64 x31).bind fun n32=>
 (Zg d0).bind fun p33=>
 (Zf 2 p33).bind fun p34=>
 (st1 h24 p34 (.lit (.int .i64 (IntKind.wrap .i64 (n28 - (IntKind.wrap .i64 ((s30.size:Int) - n32))))))).bind fun h35=>
 (ld1 h35 (.ptr f6 0)).bind fun x36=>
 (asS x36).bind fun s37=>
 (ld1 h35 (.ptr f6 1)).bind fun x38=>
 (asI .i64 x38).bind fun n39=>
 (ZdY s37 0 n39).bind fun s40=>
 (st1 h35 (.ptr f6 0) (.lit (.string s40))).bind fun h41=>
 (Zg d0).bind fun p42=>
 (Zf 3 p42).bind fun p43=>
 (ld1 h41 p43).bind fun x44=>
 (ldn 2 h41 (.ptr f6 0)).bind fun xs45=>
 (ZfW .str h41 x44 (ZdV (.string name5) (.agg xs45))).bind fun h46=>
 Zns d0 keep1 t12 t13 (IntKind.wrap .i64 (t14 + 1)) h46:=(ZF _).trans (by kernel_rfl)
theorem Z6u (d0:AVal) (h:Za):Znr d0 h =
 (Zg d0).bind fun p47=>
 (Zf 4 p47).bind fun p48=>
 (st1 h p48 (.lit (.int .i64 (-1)))).bind fun h49=>
 (Zg d0).bind fun p50=>
 (Zf 5 p50).bind fun p51=>
 (st1 h49 p51 (.lit (.bool false))).bind fun h52=>
 some ((.tup []),h52):=(ZF _).trans (by kernel_rfl)
theorem Z6t {d0:AVal} {keep1:AVal} {h h':Za} {v:AVal} {R:AEnd→Za→Prop} (hx:Zix d0 keep1 h = some (v,h')) (hR:HOk h→h.length≤h'.length→ABody.AEnds h h' (.ret v) R):ACalls Tryz.prog 21 [d0,keep1] h R:=Zu Efs_Disk_Rise_ok Zo (i:=21) (by rfl) (by kernel_rfl) (by kernel_rfl) hx hR
noncomputable def ZoV:XC:=.l fun R args h K=>match args with
 | [a0,a1]=>(Zix a0 a1 h).bind fun r=>K r.1 r.2
 |_=>none
theorem Zzm:XC.Nat ZoV∧XC.Ok Tryz.prog 21 ZoV:=by
 refine ⟨fun R args h K=>?_,tc21,fun args h v h' hx=>?_⟩
 ·dsimp only;split<;>simp[Option.bind_assoc,mkP]
 ·dsimp only at hx;split at hx
  ·obtain ⟨r,hopt,hx⟩:=Option.bind_eq_some_iff.1 hx
   simp only[mkP,Option.some.injEq,Prod.mk.injEq] at hx
   obtain ⟨rfl,rfl⟩:=hx
   exact (by obtain ⟨v,h'⟩:=r;exact Z6t hopt selfR)
  ·cases hx
noncomputable def Zx4:XE:={ T:=Zn [(3,r3),(4,r4),(9,r9),(25,r25),(77,r77),(79,r79),(81,r81)],C:=[(51,Zh9)],D:=[],Ms:=[],Ml:=[],Mo:=[],n:=10}
theorem Z9w:XE.Ok Zx4 Tryz.prog:=⟨Zp (⟨Z0,⟨Z1,⟨Zz,⟨ZbQ,⟨ZdS,⟨Zew,⟨Zd4,trivial⟩⟩⟩⟩⟩⟩⟩),(⟨ZlC,trivial⟩),Zq,trivial⟩
noncomputable def c17:Code:=ZP f17
noncomputable def Ziy (d0:AVal) (h:Za):Option (AVal×Za):=Zt Zx4 f17 [d0] h
theorem Z60 (d0:AVal) (h:Za):Ziy d0 h =
 (Zv (ZfC d0 h) h).bind fun r1=>
 (asB r1).bind fun b2=>
 bif (!b2) then (some ((.lit (.int .i64 0)),h))
 else ((Zg d0).bind fun p3=>
 (Zf 6 p3).bind fun p4=>
 (ld1 h p4).bind fun x5=>
 (asI .i64 x5).bind fun n6=>
 some ((.lit (.int .i64 n6)),h)):=by kernel_rfl
theorem Z61 {d0:AVal} {h h':Za} {v:AVal} {R:AEnd→Za→Prop} (hx:Ziy d0 h = some (v,h')) (hR:HOk h→h.length≤h'.length→ABody.AEnds h h' (.ret v) R):ACalls Tryz.prog 17 [d0] h R:=Zu Z9w Zo (i:=17) (by rfl) (by kernel_rfl) (by kernel_rfl) hx hR
noncomputable def ZoX:XC:=.l fun R args h K=>match args with
 | [a0]=>(Ziy a0 h).bind fun r=>K r.1 r.2
 |_=>none
theorem Zzo:XC.Nat ZoX∧XC.Ok Tryz.prog 17 ZoX:=by
 refine ⟨fun R args h K=>?_,tc17,fun args h v h' hx=>?_⟩
 ·dsimp only;split<;>simp[Option.bind_assoc,mkP]
 ·dsimp only at hx;split at hx
  ·obtain ⟨r,hopt,hx⟩:=Option.bind_eq_some_iff.1 hx
   simp only[mkP,Option.some.injEq,Prod.mk.injEq] at hx
   obtain ⟨rfl,rfl⟩:=hx
   exact (by obtain ⟨v,h'⟩:=r;exact Z61 hopt selfR)
  ·cases hx
end Go.Proofs.YtogaiomakhapmaaGreat.AL
namespace Go.Proofs.YtogaiomakhapmaaGreat.AL
set_option maxRecDepth 100000
open Go
open Go.Proofs.Tryz
abbrev Zw:=ByteArray×ByteArray×Int
def Zbj (s:ByteArray) (k:Int):List AVal:=[.lit (.string s),.lit (.int .i64 k)]
def Zbi (l:List Zw):List (Value×AVal):=l.map fun f=>(.string f.1,.agg (Zbj f.2.1 f.2.2))
abbrev zfC:List AVal:=[.lit (.string { data:=#[]}),.lit (.int .i64 0)]
structure Dsk where
 room:Int
 used:Int
 fuse:Int
 down:Bool
 calls:Int
def Zbk (mb:Nat) (D:Dsk):List AVal:=[.lit (.bool true),.lit (.int .i64 D.room),.lit (.int .i64 D.used),.map mb,.lit (.int .i64 D.fuse),.lit (.bool D.down),.lit (.int .i64 D.calls)]
structure DH (h0 h:Za) (d mb:Nat) (dc:List AVal) (es:List (Value×AVal)):Prop where
 dcs:Zb h d = some dc
 ms:h[mb]? = some (.map .str es)
 ne:d≠mb
 lt:d < h0.length∧mb < h0.length
 keep:Keep h0.length [d,mb] h0 h
def Tmp (h0 h h':Za):Prop:=∀ c,h0.length≤c→c < h.length→h'[c]? = h[c]?
section mem
variable {h0 h:Za} {d mb:Nat} {dc:List AVal} {es:List (Value×AVal)}
theorem DH.one (H:DH h0 h d mb dc es) {b:Nat} {o:AObj} (hb:b≠d∧b≠mb∧h0.length≤b):DH h0 (h.set b o) d mb dc es:=
 ⟨Zdt o hb.1 H.dcs,by rw[List.getElem?_set_ne hb.2.1];exact H.ms,H.ne,H.lt,H.keep.trans (Keep.set (.inl hb.2.2))⟩
theorem DH.ld (H:DH h0 h d mb dc es) {k:Nat} {v:AVal} (hk:dc[k]? = some v):ld1 h (.ptr d k) = some v:=by rw[Zc H.dcs];exact hk
theorem DH.std (H:DH h0 h d mb dc es) {k:Nat} {v:AVal} (hk:k < dc.length) (hv:v.one = true):
  ∃ h',st1 h (.ptr d k) v = some h'∧DH h0 h' d mb (dc.set k v) es∧Tmp h0 h h'∧h'.length = h.length:=by
 refine ⟨_,Zbq H.dcs hv hk,⟨Zm H.dcs,by rw[List.getElem?_set_ne H.ne];exact H.ms,H.ne,H.lt,H.keep.trans (Keep.set (.inr (by simp)))⟩,fun c hc _=>List.getElem?_set_ne (by have:=H.lt;omega),by simp⟩
theorem DH.stm (H:DH h0 h d mb dc es) (g:List (Value×AVal)→List (Value×AVal)):
  ∃ h',ZfW .str h (.map mb) g = some h'∧DH h0 h' d mb dc (g es)∧Tmp h0 h h'∧h'.length = h.length:=by
 refine ⟨h.set mb (.map .str (g es)),?_,⟨Zdt _ (Ne.symm H.ne) H.dcs,by rw[List.getElem?_set_self (ZE H.ms)],H.ne,H.lt,H.keep.trans (Keep.set (.inr (by simp)))⟩,fun c hc _=>List.getElem?_set_ne (by have:=H.lt;omega),by simp⟩
 unfold ZfW
 simp only[H.ms,ZfU]
theorem DH.at (H:DH h0 h d mb dc es):Ze5 .str h (.map mb) = some es:=by
 unfold Ze5
 simp only[H.ms,ZfU]
theorem DH.len (H:DH h0 h d mb dc es):ZeP h (.map mb) = some (.lit (.int .i64 es.length)):=by
 unfold ZeP
 simp only[H.ms]
theorem DH.psh (H:DH h0 h d mb dc es) (o:AObj):DH h0 (psh h o) d mb dc es∧Tmp h0 h (psh h o):=
 ⟨⟨Zgg _ H.dcs,by show (h++[o])[mb]? = _;rw[List.getElem?_append_left (ZE H.ms)];exact H.ms,H.ne,H.lt,H.keep.trans (Keep.psh o H.keep.len)⟩,fun c _ hc=>List.getElem?_append_left hc⟩
theorem DH.far (H:DH h0 h d mb dc es) {b:Nat} (hb:h0.length≤b):b≠d∧b≠mb∧h0.length≤b:=by have:=H.lt;exact ⟨by omega,by omega,hb⟩
theorem DH.tst (H:DH h0 h d mb dc es) {f k:Nat} {v:AVal} {fc:List AVal} (hf:h0.length≤f) (hc:Zb h f = some fc) (hk:k < fc.length) (hv:v.one = true):
  ∃ h',st1 h (.ptr f k) v = some h'∧DH h0 h' d mb dc es∧Zb h' f = some (fc.set k v)∧h'.length = h.length∧∀ c,c≠f→h'[c]? = h[c]?:=
 ⟨_,Zbq hc hv hk,H.one (H.far hf),Zm hc,by simp,fun c hcf=>List.getElem?_set_ne (Ne.symm hcf)⟩
theorem DH.tstn (H:DH h0 h d mb dc es) {f n:Nat} {vs fc:List AVal} (hf:h0.length≤f) (hc:Zb h f = some fc) (h1:vs.all (·.one) = true) (hn:n = vs.length) (hl:fc.length = n):
  ∃ h',stn n h (.ptr f 0) vs = some h'∧DH h0 h' d mb dc es∧Zb h' f = some vs∧h'.length = h.length∧∀ c,c≠f→h'[c]? = h[c]?:=by
 refine ⟨_,Zcn hc h1 hn (by omega),H.one (H.far hf),?_,by simp,fun c hcf=>List.getElem?_set_ne (Ne.symm hcf)⟩
 rw[Zm hc,Zbr,List.take_zero,List.nil_append,List.drop_of_length_le (by omega),List.append_nil]
theorem Tmp.refl:Tmp h0 h h:=fun _ _ _=>rfl
theorem Tmp.trans {h1 h2:Za} (a:Tmp h0 h h1) (b:Tmp h0 h1 h2) (hl:h.length≤h1.length):Tmp h0 h h2:=fun c hc hl'=>(b c hc (by omega)).trans (a c hc hl')
theorem Tmp.cells {h1:Za} (a:Tmp h0 h h1) {f:Nat} {fc:List AVal} (hf:h0.length≤f) (hc:Zb h f = some fc):Zb h1 f = some fc:=by
 have:=ZbV hc
 unfold Zb
 rw[a f hf (ZB hc),this]
end mem
structure DiskAt (h:Za) (d mb:Nat) (D:Dsk) (l:List Zw):Prop where
 dcs:Zb h d = some (Zbk mb D)
 ms:h[mb]? = some (.map .str (Zbi l))
theorem DiskAt.ne {h:Za} {d mb:Nat} {D:Dsk} {l:List Zw} (A:DiskAt h d mb D l):d≠mb:=by
 intro e
 have h1:=ZbV A.dcs
 have h2:=A.ms
 rw[e,h2] at h1;cases h1
theorem DiskAt.dh {h:Za} {d mb:Nat} {D:Dsk} {l:List Zw} (A:DiskAt h d mb D l):DH h h d mb (Zbk mb D) (Zbi l):=⟨A.dcs,A.ms,A.ne,⟨ZB A.dcs,ZE A.ms⟩,Keep.refl _ _ _⟩
theorem DH.disk {h0 h:Za} {d mb:Nat} {D:Dsk} {l:List Zw} (H:DH h0 h d mb (Zbk mb D) (Zbi l)):DiskAt h d mb D l:=⟨H.dcs,H.ms⟩
theorem DiskAt.keep {h h':Za} {d mb:Nat} {D:Dsk} {l:List Zw} (A:DiskAt h d mb D l) {n:Nat} {X:List Nat} (K:Keep n X h h') (hd:d < n∧d∉X) (hm:mb < n∧mb∉X):DiskAt h' d mb D l:=
 ⟨K.cells hd.1 hd.2 A.dcs,by rw[K.get mb hm.1 hm.2];exact A.ms⟩
def Zcu:List Zw→ByteArray→Option (ByteArray×Int)
 | [],_=>none
 |f :: l,n=>if f.1 = n then some f.2 else Zcu l n
def ZcP:List Zw→ByteArray→ByteArray×Int→List Zw
 | [],n,x=>[(n,x)]
 |f :: l,n,x=>if f.1 = n then (n,x) :: l else f :: ZcP l n x
theorem ZuD (z:AVal) (n:ByteArray) (l:List Zw):ZdW z (.string n) (Zbi l) = match Zcu l n with
  |some x=>(.agg (Zbj x.1 x.2),true)
  |none=>(z,false):=by
 have key:(Zbz (.string n) (Zbi l)).map (·.2) = (Zcu l n).map fun x=>.agg (Zbj x.1 x.2):=by
  induction l with
  |nil=>rfl
  |cons f l ih=>
   simp only[Zbi,List.map_cons,Zbz,ZgI,Zcu] at ih⊢
   by_cases h:f.1 = n
   ·simp[h]
   ·rw[if_neg h]
    simp only[decide_eq_false h]
    rw[←ih]
    cases Zbz (.string n) (List.map (fun f=>(Value.string f.1,AVal.agg (Zbj f.2.1 f.2.2))) l)<;>rfl
 unfold ZdW
 cases hm:Zbz (.string n) (Zbi l) with
 |none=>rw[hm] at key;cases hg:Zcu l n with
  |none=>rfl
  |some x=>rw[hg] at key;simp at key
 |some p=>rw[hm] at key;cases hg:Zcu l n with
  |none=>rw[hg] at key;simp at key
  |some x=>rw[hg] at key;simp only[Option.map_some,Option.some.injEq] at key;simp only[key]
theorem Zmw (n s:ByteArray) (k:Int) (l:List Zw):ZdV (.string n) (.agg (Zbj s k)) (Zbi l) = Zbi (ZcP l n (s,k)):=by
 induction l with
 |nil=>rfl
 |cons f l ih=>
  unfold ZdV at ih⊢
  simp only[Zbi,List.map_cons,Zbz,ZgI,ZcP] at ih⊢
  by_cases h:f.1 = n
  ·simp only[h,decide_true,if_true,List.set_cons_zero,List.map_cons]
  ·simp only[decide_eq_false h,if_neg h,List.map_cons]
   cases hm:Zbz (.string n) (List.map (fun f=>(Value.string f.1,AVal.agg (Zbj f.2.1 f.2.2))) l) with
   |none=>rw[hm] at ih;simp only at ih⊢;rw[←ih];rfl
   |some p=>rw[hm] at ih;simp only at ih⊢;rw[←ih];rfl
end Go.Proofs.YtogaiomakhapmaaGreat.AL
namespace Go.Proofs.YtogaiomakhapmaaGreat.AL
set_option maxRecDepth 100000
open Go
open Go.Proofs.Tryz
def Zb3 (D:Dsk):Bool:=D.down || decide (D.fuse = 0)
def ZbM (D:Dsk):Dsk:={ D with calls:=IntKind.wrap .i64 (D.calls + 1),down:=Zb3 D,fuse:=if D.fuse > -1 then IntKind.wrap .i64 (D.fuse - 1) else D.fuse}
section run
variable {h0 h:Za} {d mb:Nat} {D:Dsk} {es:List (Value×AVal)} {l:List Zw}
theorem Zgc:(Zbk mb D).length = 7:=rfl
theorem ZjO (H:DH h0 h d mb (Zbk mb D) es):Zv (ZfC (.ptr d 0) h) h = some (.lit (.bool true)):=by
 rw[show ZfC (.ptr d 0) h = some (.lit (.bool true),h) from ?_,ZbI]
 rw[Z6h]
 refine bd rfl (cT rfl (bd rfl (bd rfl (bd (H.ld (k:=0) rfl) (bd rfl ?_)))))
 exact Z6j _ _
theorem Z3R (H:DH h0 h d mb (Zbk mb D) es):Ziw (.ptr d 0) false h = some (.lit (.int .i64 1),h):=by
 rw[Zww]
 refine bd (ZjO H) (bd rfl (cF rfl ?_))
 rw[Zwy];rfl
theorem Z3S (H:DH h0 h d mb (Zbk mb D) es):∃ h',Ziw (.ptr d 0) true h = some (.lit (.int .i64 (if Zb3 D then 5 else 0)),h')∧DH h0 h' d mb (Zbk mb (ZbM D)) es∧Tmp h0 h h'∧h'.length = h.length:=by
 obtain ⟨h1,e1,H1,T1,l1⟩:=H.std (k:=6) (v:=.lit (.int .i64 (IntKind.wrap .i64 (D.calls + 1)))) (by rw[Zgc];omega) rfl
 obtain ⟨h2,e2,H2,T2,l2⟩:=H1.std (k:=5) (v:=.lit (.bool (Zb3 D))) (by rw[List.length_set,Zgc];omega) rfl
 obtain ⟨h3,H3,T3,l3,e3⟩:∃ h3,DH h0 h3 d mb (Zbk mb (ZbM D)) es∧Tmp h0 h2 h3∧h3.length = h2.length∧Ziv (.ptr d 0) (.ptr d 0) (Zb3 D) h1 = Znq (.ptr d 0) h3:=by
  by_cases hf:D.fuse > -1
  ·obtain ⟨h3,e3,H3,T3,l3⟩:=H2.std (k:=4) (v:=.lit (.int .i64 (IntKind.wrap .i64 (D.fuse - 1)))) (by rw[List.length_set,List.length_set,Zgc];omega) rfl
   refine ⟨h3,?_,T3,l3,?_⟩
   ·have e:(((Zbk mb D).set 6 (.lit (.int .i64 (IntKind.wrap .i64 (D.calls + 1))))).set 5 (.lit (.bool (Zb3 D)))).set 4 (.lit (.int .i64 (IntKind.wrap .i64 (D.fuse - 1)))) = Zbk mb (ZbM D):=by
     unfold ZbM;rw[if_pos hf];rfl
    rw[←e];exact H3
   ·rw[Zwx]
    exact bd rfl (bd rfl (bd e2 (bd rfl (bd rfl (bd (H2.ld (k:=4) rfl) (bd rfl (cT (decide_eq_true hf) (bd rfl (bd rfl (bd (H2.ld (k:=4) rfl) (bd rfl (bd rfl (bd rfl (bd e3 rfl))))))))))))))
  ·refine ⟨h2,?_,Tmp.refl,rfl,?_⟩
   ·have e:((Zbk mb D).set 6 (.lit (.int .i64 (IntKind.wrap .i64 (D.calls + 1))))).set 5 (.lit (.bool (Zb3 D))) = Zbk mb (ZbM D):=by
     unfold ZbM;rw[if_neg hf];rfl
    rw[←e];exact H2
   ·rw[Zwx]
    exact bd rfl (bd rfl (bd e2 (bd rfl (bd rfl (bd (H2.ld (k:=4) rfl) (bd rfl (cF (decide_eq_false hf) rfl)))))))
 refine ⟨h3,?_,H3,(T1.trans T2 (by omega)).trans T3 (by omega),by omega⟩
 rw[Zww]
 refine bd (ZjO H) (bd rfl (cF rfl ?_))
 rw[Zwy]
 refine cF rfl (bd rfl (bd rfl (bd (H.ld (k:=6) rfl) (bd rfl (bd rfl (bd rfl (bd e1 (bd rfl (bd rfl (bd (H1.ld (k:=5) rfl) (bd rfl ?_)))))))))))
 have fin:Ziv (.ptr d 0) (.ptr d 0) (Zb3 D) h1 = some (.lit (.int .i64 (if Zb3 D then 5 else 0)),h3):=by
  rw[e3,Z6n]
  refine bd rfl (bd rfl (bd (H3.ld (k:=5) rfl) (bd rfl ?_)))
  show cond (Zb3 D) _ _ = _
  cases Zb3 D<;>rfl
 cases hd:D.down with
 |true=>
  show Ziv _ _ true h1 = _
  have:Zb3 D = true:=by unfold Zb3;rw[hd];rfl
  rw[this] at fin⊢;exact fin
 |false=>
  refine cF rfl (bd rfl (bd rfl (bd (H1.ld (k:=4) rfl) (bd rfl ?_))))
  have:Zb3 D = decide (D.fuse = 0):=by unfold Zb3;rw[hd];rfl
  rw[←this];exact fin
def ZA (D:Dsk) (l:List Zw) (name:ByteArray) (may:Bool):(ByteArray×Int)×Int:=if may && Zbp name then (if Zb3 D then ((⟨#[]⟩,0),5) else match Zcu l name with
    |some x=>(x,0)
    |none=>((⟨#[]⟩,0),2)) else ((⟨#[]⟩,0),1)
def Zbt (D:Dsk) (name:ByteArray) (may:Bool):Dsk:=if may && Zbp name then ZbM D else D
theorem Z3j (H:DH h0 h d mb (Zbk mb D) (Zbi l)) (name:ByteArray) (hn:name.size≤9223372036854775807) (may:Bool):
  ∃ h',Zfg (.ptr d 0) name may h = some (.tup [.agg (Zbj (ZA D l name may).1.1 (ZA D l name may).1.2),.lit (.int .i64 (ZA D l name may).2)],h')∧DH h0 h' d mb (Zbk mb (Zbt D name may)) (Zbi l)∧Tmp h0 h h'∧h.length≤h'.length:=by
 have hN:=H.keep.len
 obtain ⟨H1,T1⟩:=H.psh (.cells zfC)
 have hc1:Zb (psh h (.cells zfC)) h.length = some zfC:=ZU h zfC
 suffices key:∀ ok,ok = (may && Zbp name)→∃ h',Znp (.ptr d 0) name h.length (.ptr d 0) ok (psh h (.cells zfC)) = some (.tup [.agg (Zbj (ZA D l name may).1.1 (ZA D l name may).1.2),.lit (.int .i64 (ZA D l name may).2)],h')∧DH h0 h' d mb (Zbk mb (Zbt D name may)) (Zbi l)∧Tmp h0 h h'∧h.length≤h'.length by
  obtain ⟨h',e,r⟩:=key _ rfl
  refine ⟨h',?_,r⟩
  rw[Z6k]
  cases may with
  |true=>exact cT rfl (bd (Z8 hn) e)
  |false=>exact cF rfl e
 intro ok hok
 unfold ZA Zbt
 rw[←hok]
 cases ok with
 |false=>
  obtain ⟨h2,e2,H2,c2,l2,o2⟩:=H1.tstn (f:=h.length) (n:=2) (vs:=zfC) hN hc1 rfl rfl rfl
  refine ⟨h2,?_,H2,fun c hc hl=>(o2 c (by omega)).trans (T1 c hc hl),by rw[l2,Zbm];omega⟩
  rw[ZrA]
  exact bd (Z3R H1) (bd rfl (cT rfl (bd e2 (bd (Zbh (n:=2) (off:=0) c2 (Nat.le_refl _)) rfl))))
 |true=>
  obtain ⟨h2,e2,H2,T2,l2⟩:=Z3S H1
  have hc2:=T2.cells hN hc1
  rw[Zbm] at l2
  cases hd:Zb3 D with
  |true=>
   rw[hd] at e2
   obtain ⟨h3,e3,H3,c3,l3,o3⟩:=H2.tstn (f:=h.length) (n:=2) (vs:=zfC) hN hc2 rfl rfl rfl
   refine ⟨h3,?_,H3,fun c hc hl=>(o3 c (by omega)).trans ((T2 c hc (by rw[Zbm];omega)).trans (T1 c hc hl)),by omega⟩
   rw[ZrA]
   exact bd e2 (bd rfl (cT rfl (bd e3 (bd (Zbh (n:=2) (off:=0) c3 (Nat.le_refl _)) rfl))))
  |false=>
   rw[hd] at e2
   obtain ⟨H3,T3⟩:=H2.psh (.cells zfC)
   have hml:=ZuD (.agg zfC) name l
   have ml:Ze5 .str h2 (.map mb) = some (Zbi l):=H2.at
   rw[ZrA]
   cases hg:Zcu l name with
   |none=>
    rw[hg] at hml
    have s1:stn 2 (psh h2 (.cells zfC)) (.ptr h2.length 0) zfC = some (psh h2 (.cells zfC)):=ZlW rfl rfl rfl
    have hc3:=T3.cells hN hc2
    obtain ⟨h4,e4,H4,c4,l4,o4⟩:=H3.tstn (f:=h.length) (n:=2) (vs:=zfC) hN hc3 rfl rfl rfl
    rw[Zbm] at l4
    refine ⟨h4,?_,H4,fun c hc hl=>(o4 c (by omega)).trans ((T3 c hc (by omega)).trans ((T2 c hc (by rw[Zbm];omega)).trans (T1 c hc hl))),by omega⟩
    refine bd e2 (bd rfl (cF rfl (bd rfl (bd rfl (bd (H2.ld (k:=3) rfl) (bd ml ?_))))))
    rw[hml]
    exact bd rfl (bd s1 (cT rfl (bd e4 (bd (Zbh (n:=2) (off:=0) c4 (Nat.le_refl _)) rfl))))
   |some x=>
    rw[hg] at hml
    have s1:stn 2 (psh h2 (.cells zfC)) (.ptr h2.length 0) (Zbj x.1 x.2) = some (psh h2 (.cells (Zbj x.1 x.2))):=ZlW rfl rfl rfl
    obtain ⟨H3,T3⟩:=H2.psh (.cells (Zbj x.1 x.2))
    have hc3:=T3.cells hN hc2
    obtain ⟨h4,e4,H4,c4,l4,o4⟩:=H3.tstn (f:=h.length) (n:=2) (vs:=Zbj x.1 x.2) hN hc3 rfl rfl rfl
    rw[Zbm] at l4
    refine ⟨h4,?_,H4,fun c hc hl=>(o4 c (by omega)).trans ((T3 c hc (by omega)).trans ((T2 c hc (by rw[Zbm];omega)).trans (T1 c hc hl))),by omega⟩
    refine bd e2 (bd rfl (cF rfl (bd rfl (bd rfl (bd (H2.ld (k:=3) rfl) (bd ml ?_))))))
    rw[hml]
    exact bd rfl (bd s1 (cF rfl (bd (Zbh (n:=2) (off:=0) (ZU h2 _) (Nat.le_refl _)) (bd e4 (bd (Zbh (n:=2) (off:=0) c4 (Nat.le_refl _)) rfl)))))
end run
end Go.Proofs.YtogaiomakhapmaaGreat.AL
namespace Go.Proofs.YtogaiomakhapmaaGreat.AL
set_option maxRecDepth 100000
open Go
open Go.Proofs.Tryz
section ops
variable {h0 h:Za} {d mb:Nat} {D:Dsk} {l:List Zw}
theorem Zkm (H:DH h0 h d mb (Zbk mb D) (Zbi l)) (name:ByteArray) (hn:name.size≤9223372036854775807) (may:Bool):
  ∃ g,Zfg (.ptr d 0) name may h = some (.tup [.agg (Zbj (ZA D l name may).1.1 (ZA D l name may).1.2),.lit (.int .i64 (ZA D l name may).2)],g)∧
    stn 2 (psh g (.cells zfC)) (.ptr g.length 0) (Zbj (ZA D l name may).1.1 (ZA D l name may).1.2) = some (psh g (.cells (Zbj (ZA D l name may).1.1 (ZA D l name may).1.2)))∧
    DH h0 (psh g (.cells (Zbj (ZA D l name may).1.1 (ZA D l name may).1.2))) d mb (Zbk mb (Zbt D name may)) (Zbi l)∧Tmp h0 h (psh g (.cells (Zbj (ZA D l name may).1.1 (ZA D l name may).1.2)))∧h.length≤g.length∧h0.length≤g.length:=by
 obtain ⟨g,e,H1,T1,l1⟩:=Z3j H name hn may
 obtain ⟨H2,T2⟩:=H1.psh (.cells (Zbj (ZA D l name may).1.1 (ZA D l name may).1.2))
 exact ⟨g,e,ZlW rfl rfl rfl,H2,T1.trans T2 l1,l1,H1.keep.len⟩
def ZcX (D:Dsk) (l:List Zw) (name:ByteArray):Int:=if (ZA D l name true).2 = 2 then (if l.length = 200 then 4 else 0) else if (ZA D l name true).2 = 0 then 3 else (ZA D l name true).2
def Zge (D:Dsk) (l:List Zw) (name:ByteArray):List Zw:=if (ZA D l name true).2 = 2∧l.length≠200 then ZcP l name (⟨#[]⟩,0) else l
theorem Zvu (H:DH h0 h d mb (Zbk mb D) (Zbi l)) (name:ByteArray) (hn:name.size≤9223372036854775807):
  ∃ h',Zhm (.ptr d 0) name h = some (.lit (.int .i64 (ZcX D l name)),h')∧DH h0 h' d mb (Zbk mb (Zbt D name true)) (Zbi (Zge D l name))∧Tmp h0 h h'∧h.length≤h'.length:=by
 obtain ⟨g,e,s1,H1,T1,l1,l0⟩:=Zkm H name hn true
 unfold ZcX Zge
 rw[Z6y]
 generalize hR:ZA D l name true = R at e s1 H1 T1⊢
 by_cases h2:R.2 = 2
 ·by_cases h3:l.length = 200
  ·refine ⟨psh g (.cells (Zbj R.1.1 R.1.2)),?_,?_,T1,by rw[Zbm];omega⟩
   ·rw[if_pos h2,if_pos h3]
    refine bd e (bd rfl (bd rfl (bd rfl (bd rfl (bd s1 (cF (by simp[h2]) (bd rfl (bd rfl (bd (H1.ld (k:=3) rfl) (bd H1.len (bd rfl (cT ?_ rfl))))))))))))
    have:(Zbi l).length = 200:=by simp[Zbi,h3]
    simp[this]
   ·rw[if_neg (by simp[h3])];exact H1
  ·obtain ⟨h4,e4,H4,T4,l4⟩:=H1.stm (ZdV (.string name) (.agg zfC))
   rw[Zbm] at l4
   refine ⟨h4,?_,?_,T1.trans T4 (by rw[Zbm];omega),by omega⟩
   ·rw[if_pos h2,if_neg h3]
    refine bd e (bd rfl (bd rfl (bd rfl (bd rfl (bd s1 (cF (by simp[h2]) (bd rfl (bd rfl (bd (H1.ld (k:=3) rfl) (bd H1.len (bd rfl (cF ?_ (bd rfl (bd rfl (bd (H1.ld (k:=3) rfl) (bd e4 rfl))))))))))))))))
    have:(Zbi l).length≠200:=by simpa[Zbi] using h3
    simp;omega
   ·rw[if_pos ⟨h2,h3⟩,←Zmw];exact H4
 ·refine ⟨psh g (.cells (Zbj R.1.1 R.1.2)),?_,?_,T1,by rw[Zbm];omega⟩
  ·rw[if_neg h2]
   refine bd e (bd rfl (bd rfl (bd rfl (bd rfl (bd s1 (cT (by simp[h2]) ?_))))))
   show cond (decide (R.2 = 0)) _ _ = _
   by_cases h3:R.2 = 0
   ·rw[if_pos h3];exact cT (decide_eq_true h3) rfl
   ·rw[if_neg h3];exact cF (decide_eq_false h3) rfl
  ·rw[if_neg (fun h=>h2 h.1)];exact H1
def Zga (D:Dsk) (s:ByteArray):Bool:=decide ((s.size:Int) > IntKind.wrap .i64 (D.room - D.used))
def ZdI (D:Dsk) (l:List Zw) (name s:ByteArray):Int:=if (ZA D l name true).2≠0 then (ZA D l name true).2 else if Zga D s then 4 else 0
def Zim (D:Dsk) (l:List Zw) (name s:ByteArray):Dsk:=if ZdI D l name s = 0 then { Zbt D name true with used:=IntKind.wrap .i64 (D.used + (s.size:Int))} else Zbt D name true
def Zil (D:Dsk) (l:List Zw) (name s:ByteArray):List Zw:=if ZdI D l name s = 0 then ZcP l name ((ZA D l name true).1.1++s,(ZA D l name true).1.2) else l
theorem Zvg (D:Dsk) (name:ByteArray) (may:Bool):(Zbt D name may).room = D.room:=by unfold Zbt;split<;>rfl
theorem Zvf (D:Dsk) (name:ByteArray) (may:Bool):(Zbt D name may).used = D.used:=by unfold Zbt;split<;>rfl
theorem ZvM (H:DH h0 h d mb (Zbk mb D) (Zbi l)) (name s:ByteArray) (hn:name.size≤9223372036854775807) (hs:ZdI D l name s = 0→(ZA D l name true).1.1.size + s.size≤9223372036854775807):
  ∃ h',ZkO (.ptr d 0) name s h = some (.lit (.int .i64 (ZdI D l name s)),h')∧DH h0 h' d mb (Zbk mb (Zim D l name s)) (Zbi (Zil D l name s))∧Tmp h0 h h'∧h.length≤h'.length:=by
 obtain ⟨g,e,s1,H1,T1,l1,l0⟩:=Zkm H name hn true
 unfold Zim Zil
 rw[Z64]
 have hE:ZdI D l name s = if (ZA D l name true).2≠0 then (ZA D l name true).2 else if Zga D s then 4 else 0:=rfl
 have hr:(Zbk mb (Zbt D name true))[1]? = some (.lit (.int .i64 D.room)):=by rw[←Zvg D name true];rfl
 have hu:(Zbk mb (Zbt D name true))[2]? = some (.lit (.int .i64 D.used)):=by rw[←Zvf D name true];rfl
 generalize hR:ZA D l name true = R at e s1 H1 T1 hE hs⊢
 by_cases h2:R.2 = 0
 ·rw[if_neg (by simp[h2])] at hE
  cases hf:Zga D s with
  |true=>
   rw[hf,if_pos rfl] at hE
   rw[hE]
   refine ⟨psh g (.cells (Zbj R.1.1 R.1.2)),?_,by rw[if_neg (by omega),if_neg (by omega)];exact H1,T1,by rw[Zbm];omega⟩
   exact bd e (bd rfl (bd rfl (bd rfl (bd rfl (bd s1 (cF (by simp[h2]) (bd rfl (bd rfl (bd (H1.ld hr) (bd rfl (bd rfl (bd rfl (bd (H1.ld hu) (bd rfl (cT hf rfl)))))))))))))))
  |false=>
   rw[hf,if_neg (by simp)] at hE
   rw[hE,if_pos rfl,if_pos rfl]
   have c1:Zb (psh g (.cells (Zbj R.1.1 R.1.2))) g.length = some (Zbj R.1.1 R.1.2):=ZU _ _
   obtain ⟨h2',e2,H2,c2,l2,o2⟩:=H1.tst (k:=0) (v:=.lit (.string (R.1.1++s))) l0 c1 (Nat.zero_lt_succ _) rfl
   obtain ⟨h3,e3,H3,T3,l3⟩:=H2.stm (ZdV (.string name) (.agg (Zbj (R.1.1++s) R.1.2)))
   obtain ⟨h4,e4,H4,T4,l4⟩:=H3.std (k:=2) (v:=.lit (.int .i64 (IntKind.wrap .i64 (D.used + (s.size:Int))))) (by rw[Zgc];omega) rfl
   rw[Zbm] at l2
   refine ⟨h4,?_,?_,fun c hc hl=>(T4 c hc (by omega)).trans ((T3 c hc (by omega)).trans ((o2 c (by omega)).trans (T1 c hc hl))),by omega⟩
   ·exact bd e (bd rfl (bd rfl (bd rfl (bd rfl (bd s1 (cF (by simp[h2]) (bd rfl (bd rfl (bd (H1.ld hr) (bd rfl (bd rfl (bd rfl (bd (H1.ld hu) (bd rfl (cF hf
     (bd (Zc c1) (bd rfl (bd (Z8 (hs hE)) (bd e2 (bd rfl (bd rfl (bd (H2.ld (k:=3) rfl) (bd (Zbh (n:=2) (off:=0) c2 (Nat.le_refl _)) (bd e3 (bd rfl (bd rfl (bd (H3.ld hu) (bd rfl (bd rfl (bd rfl (bd e4 rfl)))))))))))))))))))))))))))))))
   ·rw[←Zmw];exact H4
 ·rw[if_pos h2] at hE
  rw[hE]
  refine ⟨psh g (.cells (Zbj R.1.1 R.1.2)),?_,by rw[if_neg h2,if_neg h2];exact H1,T1,by rw[Zbm];omega⟩
  exact bd e (bd rfl (bd rfl (bd rfl (bd rfl (bd s1 (cT (by simp[h2]) rfl))))))
theorem ZtD (H:DH h0 h d mb (Zbk mb D) (Zbi l)) (name:ByteArray) (hn:name.size≤9223372036854775807):
  ∃ h',ZfD (.ptr d 0) name h = some (.tup [.lit (.int .i64 ((ZA D l name true).1.1.size:Int)),.lit (.int .i64 (ZA D l name true).2)],h')∧DH h0 h' d mb (Zbk mb (Zbt D name true)) (Zbi l)∧Tmp h0 h h'∧h.length≤h'.length:=by
 obtain ⟨g,e,s1,H1,T1,l1,l0⟩:=Zkm H name hn true
 refine ⟨_,?_,H1,T1,by rw[Zbm];omega⟩
 rw[Z6q]
 exact bd e (bd rfl (bd rfl (bd rfl (bd rfl (bd s1 (bd (Zc (ZU _ _)) (bd rfl rfl)))))))
def ZgJ (D:Dsk) (l:List Zw) (name:ByteArray) (i n:Int):ByteArray×Int:=
 let R:=ZA D l name (decide (ZbB i n≥0))
 if R.2≠0 then (⟨#[]⟩,R.2) else if i > (R.1.1.size:Int)∨n > (R.1.1.size:Int) - i then (⟨#[]⟩,10) else (R.1.1.extract i.toNat (i + n).toNat,0)
theorem Z2g {a b:Int} (h:ZbB a b≥0):0≤a∧0≤b:=by unfold ZbB at h;split at h<;>omega
theorem ZtZ (H:DH h0 h d mb (Zbk mb D) (Zbi l)) (name:ByteArray) (i n:Int) (hn:name.size≤9223372036854775807) (hs:(ZA D l name (decide (ZbB i n≥0))).1.1.size≤9223372036854775807):
  ∃ h',ZfE (.ptr d 0) name i n h = some (.tup [.lit (.string (ZgJ D l name i n).1),.lit (.int .i64 (ZgJ D l name i n).2)],h')∧DH h0 h' d mb (Zbk mb (Zbt D name (decide (ZbB i n≥0)))) (Zbi l)∧Tmp h0 h h'∧h.length≤h'.length:=by
 obtain ⟨g,e,s1,H1,T1,l1,l0⟩:=Zkm H name hn (decide (ZbB i n≥0))
 have hrr:ZgJ D l name i n = let R:=ZA D l name (decide (ZbB i n≥0));if R.2≠0 then (⟨#[]⟩,R.2) else if i > (R.1.1.size:Int)∨n > (R.1.1.size:Int) - i then (⟨#[]⟩,10) else (R.1.1.extract i.toNat (i + n).toNat,0):=rfl
 have hmay:(ZA D l name (decide (ZbB i n≥0))).2 = 0→0≤i∧0≤n:=fun h=>by
  by_cases hm:ZbB i n≥0
  ·exact Z2g hm
  ·unfold ZA at h;rw[decide_eq_false hm] at h;simp at h
 rw[Z6w]
 generalize hR:ZA D l name (decide (ZbB i n≥0)) = R at e s1 H1 T1 hrr hs hmay⊢
 simp only at hrr
 have c1:Zb (psh g (.cells (Zbj R.1.1 R.1.2))) g.length = some (Zbj R.1.1 R.1.2):=ZU _ _
 refine ⟨psh g (.cells (Zbj R.1.1 R.1.2)),?_,H1,T1,by rw[Zbm];omega⟩
 by_cases h2:R.2 = 0
 ·obtain ⟨p1,p2⟩:=hmay h2
  rw[if_neg (by simp[h2])] at hrr
  refine bd e (bd rfl (bd rfl (bd rfl (bd rfl (bd s1 (cF (by simp[h2]) (bd (Zc c1) (bd rfl ?_))))))))
  by_cases h3:i > (R.1.1.size:Int)
  ·rw[if_pos (.inl h3)] at hrr
   rw[hrr]
   refine cT (decide_eq_true h3) ?_
   rw[Zw1];rfl
  ·refine cF (decide_eq_false h3) (bd (Zc c1) (bd rfl ?_))
   have hw:IntKind.wrap .i64 ((R.1.1.size:Int) - i) = (R.1.1.size:Int) - i:=wrap_i64 (by omega) (by omega)
   show Znt i n g.length (decide (n > IntKind.wrap .i64 ((R.1.1.size:Int) - i))) _ = _
   rw[hw,Zw1]
   by_cases h4:n > (R.1.1.size:Int) - i
   ·rw[if_pos (.inr h4)] at hrr
    rw[hrr]
    exact cT (decide_eq_true h4) rfl
   ·rw[if_neg (by omega)] at hrr
    rw[hrr]
    refine cF (decide_eq_false h4) (bd (Zc c1) (bd rfl ?_))
    show (ZdY R.1.1 i (IntKind.wrap .i64 (i + n))).bind _ = _
    rw[wrap_i64 (by omega) (by omega)]
    unfold ZdY
    rw[Z8 (by omega)]
    rfl
 ·rw[if_pos h2] at hrr
  rw[hrr]
  exact bd e (bd rfl (bd rfl (bd rfl (bd rfl (bd s1 (cT (by simp[h2]) rfl))))))
def ZhE (D:Dsk) (l:List Zw) (name:ByteArray):List Zw:=if (ZA D l name true).2 = 0 then ZcP l name ((ZA D l name true).1.1,((ZA D l name true).1.1.size:Int)) else l
theorem Zt3 (H:DH h0 h d mb (Zbk mb D) (Zbi l)) (name:ByteArray) (hn:name.size≤9223372036854775807):
  ∃ h',ZkM (.ptr d 0) name h = some (.lit (.int .i64 (ZA D l name true).2),h')∧DH h0 h' d mb (Zbk mb (Zbt D name true)) (Zbi (ZhE D l name))∧Tmp h0 h h'∧h.length≤h'.length:=by
 obtain ⟨g,e,s1,H1,T1,l1,l0⟩:=Zkm H name hn true
 unfold ZhE
 rw[Z6o]
 generalize hR:ZA D l name true = R at e s1 H1 T1⊢
 by_cases h2:R.2 = 0
 ·have c1:Zb (psh g (.cells (Zbj R.1.1 R.1.2))) g.length = some (Zbj R.1.1 R.1.2):=ZU _ _
  obtain ⟨h2',e2,H2,c2,l2,o2⟩:=H1.tst (k:=1) (v:=.lit (.int .i64 (R.1.1.size:Int))) l0 c1 (Nat.le_refl _) rfl
  obtain ⟨h3,e3,H3,T3,l3⟩:=H2.stm (ZdV (.string name) (.agg (Zbj R.1.1 (R.1.1.size:Int))))
  rw[Zbm] at l2
  refine ⟨h3,?_,?_,fun c hc hl=>(T3 c hc (by omega)).trans ((o2 c (by omega)).trans (T1 c hc hl)),by omega⟩
  ·refine bd e (bd rfl (bd rfl (bd rfl (bd rfl (bd s1 (cT (by simp[h2]) (bd (Zc c1) (bd rfl (bd e2 (bd rfl (bd rfl (bd (H2.ld (k:=3) rfl) (bd (Zbh (n:=2) (off:=0) c2 (Nat.le_refl _)) (bd e3 ?_))))))))))))))
   rw[Zwz]
  ·rw[if_pos h2,←Zmw];exact H3
 ·refine ⟨psh g (.cells (Zbj R.1.1 R.1.2)),?_,by rw[if_neg h2];exact H1,T1,by rw[Zbm];omega⟩
  refine bd e (bd rfl (bd rfl (bd rfl (bd rfl (bd s1 (cF (by simp[h2]) ?_))))))
  rw[Zwz]
theorem Z48 (H:DH h0 h d mb (Zbk mb D) (Zbi l)) (n:Int):
  ∃ h',Ziz (.ptr d 0) n h = some (.tup [],h')∧DH h0 h' d mb (Zbk mb { D with fuse:=Zs (-1) n}) (Zbi l)∧Tmp h0 h h'∧h'.length = h.length:=by
 obtain ⟨h1,e1,H1,T1,l1⟩:=H.std (k:=4) (v:=.lit (.int .i64 (Zs (-1) n))) (by rw[Zgc];omega) rfl
 refine ⟨h1,?_,H1,T1,l1⟩
 rw[Z62]
 exact bd (ZjO H) (bd rfl (cT rfl (bd rfl (bd rfl (bd e1 rfl)))))
theorem Zv2 (H:DH h0 h d mb (Zbk mb D) (Zbi l)):Ziy (.ptr d 0) h = some (.lit (.int .i64 D.calls),h):=by
 rw[Z60]
 refine bd (ZjO H) (bd rfl (cF rfl (bd rfl (bd rfl (bd (H.ld (k:=6) rfl) rfl)))))
end ops
end Go.Proofs.YtogaiomakhapmaaGreat.AL
namespace Go.Proofs.YtogaiomakhapmaaGreat.AL
set_option maxRecDepth 100000
open Go
open Go.Proofs.Tryz
section ops
variable {h0 h:Za} {d mb:Nat} {D:Dsk} {l:List Zw}
def Zd7 (l:List Zw):List ByteArray:=ZbP (l.map (·.1))
theorem ZuM:∀ l:List Zw,ZjL (Zbi l) = some (l.map fun f=>(f.1,.agg (Zbj f.2.1 f.2.2)))
 | []=>rfl
 |f :: l=>by
  have:=ZuM l
  simp only[Zbi,List.map_cons,ZjL] at this⊢
  rw[this];rfl
theorem Z2c (H:DH h0 h d mb (Zbk mb D) (Zbi l)) (hl:l.length≤1000):
  ∃ h' v,Ziu (.ptr d 0) h = some (v,h')∧Own 1 h' v (Zd7 l).length (ZX (Zd7 l))∧(∀ b,At v b→h.length≤b)∧DH h0 h' d mb (Zbk mb D) (Zbi l)∧Tmp h0 h h'∧h.length≤h'.length:=by
 obtain ⟨H1,T1⟩:=H.psh (.cells [.map mb])
 have hk:ZhY (psh h (.cells [.map mb])) (ZdB h.length) = some (l.map (·.1)):=by
  unfold ZhY ZdB
  simp only[ZU,H1.ms]
  rw[ZuM,Option.bind_some,Z8 (by simp;omega)]
  simp
 have e:Ziu (.ptr d 0) h = some (Zfp (psh h (.cells [.map mb])) (Zd7 l),Zfq (psh h (.cells [.map mb])) (Zd7 l)):=by
  rw[Z6f]
  exact bd rfl (bd rfl (bd (H.ld (k:=3) rfl) (bd rfl (bd hk rfl))))
 unfold Zfp Zfq at e
 by_cases hn:Zd7 l = []
 ·rw[if_pos hn,if_pos hn] at e
  refine ⟨_,_,e,?_,?_,H1,T1,by rw[Zbm];omega⟩
  ·rw[hn];exact Own.nil 1 _
  ·rintro b ⟨k,off,len,hb⟩;cases hb
 ·rw[if_neg hn,if_neg hn] at e
  obtain ⟨H2,T2⟩:=H1.psh (.cells ((Zd7 l).map ZbH))
  refine ⟨_,_,e,⟨by simp[ZX],.inr ⟨_,rfl,ZU _ _⟩⟩,?_,H2,T1.trans T2 (by rw[Zbm];omega),by simp[psh]⟩
  rintro b ⟨k,off,len,hb⟩
  cases hb
  rw[Zbm];omega
def Ze8 (l:List Zw) (name:ByteArray):ByteArray×Int:=(Zcu l name).getD (⟨#[]⟩,0)
def ZbT (k:Option Int) (x:ByteArray×Int):Int:=match k with
 |some v=>Zs 0 (ZbB v ((x.1.size:Int) - x.2))
 |none=>0
def Zch (k:Option Int) (x:ByteArray×Int):ByteArray×Int:=(x.1.extract 0 (x.2 + ZbT k x).toNat,x.2 + ZbT k x)
def ZdM (x:ByteArray×Int):Prop:=0≤x.2∧x.2≤(x.1.size:Int)∧(x.1.size:Int)≤4611686018427387904
theorem ZpT {k:Option Int} {x:ByteArray×Int} (hx:ZdM x):0≤ZbT k x∧ZbT k x≤(x.1.size:Int) - x.2:=by
 obtain ⟨a,b,c⟩:=hx
 unfold ZbT
 split
 ·unfold Zs ZbB;constructor<;>(split<;>split<;>omega)
 ·omega
theorem Z04 {s:ByteArray} {n:Nat} (h:n≤s.size):(s.extract 0 n).size = n:=by rw[ByteArray.size_extract];omega
theorem Zmd {k:Option Int} {x:ByteArray×Int} (hx:ZdM x):ZdM (Zch k x)∧((Zch k x).1.size:Int) = x.2 + ZbT k x:=by
 obtain ⟨a1,a2⟩:=ZpT (k:=k) hx
 obtain ⟨a,b,c⟩:=hx
 have e:((Zch k x).1.size:Int) = x.2 + ZbT k x:=by
  show ((x.1.extract 0 (x.2 + ZbT k x).toNat).size:Int) = _
  rw[Z04 (by omega)];omega
 refine ⟨⟨?_,?_,?_⟩,e⟩
 ·show 0≤x.2 + ZbT k x;omega
 ·rw[e];exact Int.le_refl _
 ·rw[e];omega
def Zeu (ki:List Int):Nat→List ByteArray→List Zw×Int→List Zw×Int
 |_,[],r=>r
 |i,n :: ns,r=>Zeu ki (i + 1) ns (ZcP r.1 n (Zch (ki[i]?) (Ze8 r.1 n)),IntKind.wrap .i64 (r.2 - ((Ze8 r.1 n).1.size - (Zch (ki[i]?) (Ze8 r.1 n)).2)))
theorem Z3m {l:List Zw} (hl:∀ f∈l,ZdM f.2) (n:ByteArray):ZdM (Ze8 l n):=by
 unfold Ze8
 induction l with
 |nil=>exact ⟨by simp[Zcu],by simp[Zcu],by show (0:Int)≤_;omega⟩
 |cons f l ih=>
  unfold Zcu
  split
  ·exact hl f (by simp)
  ·exact ih fun f hf=>hl f (by simp[hf])
theorem Zva {p:Zw→Prop}:∀ {l:List Zw} {n:ByteArray} {x:ByteArray×Int},(∀ f∈l,p f)→p (n,x)→∀ f∈ZcP l n x,p f
 | [],n,x,_,hx,f,hf=>by simp[ZcP] at hf;subst hf;exact hx
 |g :: l,n,x,hl,hx,f,hf=>by
  unfold ZcP at hf
  split at hf
  ·rcases List.mem_cons.1 hf with rfl |hf
   ·exact hx
   ·exact hl f (by simp[hf])
  ·rcases List.mem_cons.1 hf with rfl |hf
   ·exact hl _ (by simp)
   ·exact Zva (fun f hf=>hl f (by simp[hf])) hx f hf
theorem Z0S {v keep:AVal} {ks:List ByteArray} {ki:List Int} (hk:ks.length≤1000) (hS:∀ g,Keep h0.length [d,mb] h0 g→Sl 1 g keep ki.length (Zia ki)):
  ∀ (m i:Nat) (g:Za) (l:List Zw) (D:Dsk),ks.length - i = m→i≤ks.length→DH h0 g d mb (Zbk mb D) (Zbi l)→(∀ f∈l,ZdM f.2)→Own 1 g v ks.length (ZX ks)→(∀ b,At v b→h0.length≤b)→
    ∃ g',Zns (.ptr d 0) keep v (ks.length:Nat) (i:Nat) g = Znr (.ptr d 0) g'∧DH h0 g' d mb (Zbk mb { D with used:=(Zeu ki i (ks.drop i) (l,D.used)).2}) (Zbi (Zeu ki i (ks.drop i) (l,D.used)).1)∧Tmp h0 g g'∧g.length≤g'.length:=by
 intro m
 induction m with
 |zero=>
  intro i g l D hm hi H hl O hv
  have hd:ks.drop i = []:=List.drop_of_length_le (by omega)
  refine ⟨g,?_,by rw[hd];exact H,Tmp.refl,Nat.le_refl _⟩
  rw[Zw0]
  exact cF (by simp;omega) rfl
 |succ m ih=>
  intro i g l D hm hi H hl O hv
  have hlt:i < ks.length:=by omega
  have hd:ks.drop i = ks[i] :: ks.drop (i + 1):=List.drop_eq_getElem_cons hlt
  obtain ⟨p,p1,_,_,p2⟩:=O.sl.idx hlt
  have p2:=p2 (by omega)
  rw[Nat.mul_one] at p2
  have p2:ld1 g p = some (.lit (.string ks[i])):=by rw[p2];simp[ZX,hlt]
  have hml:=ZuD (.agg zfC) ks[i] l
  have hfo:ZdM (Ze8 l ks[i]):=Z3m hl _
  have hml1:(ZdW (.agg zfC) (.string ks[i]) (Zbi l)).1 = .agg (Zbj (Ze8 l ks[i]).1 (Ze8 l ks[i]).2):=by
   rw[hml];unfold Ze8;cases Zcu l ks[i]<;>rfl
  generalize hx:Ze8 l ks[i] = x at hfo hml1
  have s1:stn 2 (psh g (.cells zfC)) (.ptr g.length 0) (Zbj x.1 x.2) = some (psh g (.cells (Zbj x.1 x.2))):=ZlW rfl rfl rfl
  obtain ⟨H1,T1⟩:=H.psh (.cells (Zbj x.1 x.2))
  have c1:Zb (psh g (.cells (Zbj x.1 x.2))) g.length = some (Zbj x.1 x.2):=ZU _ _
  have hgl:=H.keep.len
  obtain ⟨n1,n2⟩:=ZpT (k:=ki[i]?) hfo
  obtain ⟨r1,r2⟩:=Zmd (k:=ki[i]?) hfo
  obtain ⟨b1,b2,b3⟩:=hfo
  have behind:∃ g',ZkN (.ptr d 0) keep ks[i] g.length (ZbT (ki[i]?) x) v (ks.length:Nat) (i:Nat) (psh g (.cells (Zbj x.1 x.2))) = Znr (.ptr d 0) g'∧DH h0 g' d mb (Zbk mb { D with used:=(Zeu ki i (ks.drop i) (l,D.used)).2}) (Zbi (Zeu ki i (ks.drop i) (l,D.used)).1)∧Tmp h0 g g'∧g.length≤g'.length:=by
   have w1:IntKind.wrap .i64 (x.2 + ZbT (ki[i]?) x) = x.2 + ZbT (ki[i]?) x:=wrap_i64 (by omega) (by omega)
   obtain ⟨h2,e2,H2,c2,l2,o2⟩:=H1.tst (k:=1) (v:=.lit (.int .i64 (x.2 + ZbT (ki[i]?) x))) hgl c1 (Nat.le_refl _) rfl
   have w2:IntKind.wrap .i64 ((x.1.size:Int) - (x.2 + ZbT (ki[i]?) x)) = (x.1.size:Int) - (x.2 + ZbT (ki[i]?) x):=wrap_i64 (by omega) (by omega)
   obtain ⟨h3,e3,H3,T3,l3⟩:=H2.std (k:=2) (v:=.lit (.int .i64 (IntKind.wrap .i64 (D.used - ((x.1.size:Int) - (x.2 + ZbT (ki[i]?) x)))))) (by rw[Zgc];omega) rfl
   have c3:=T3.cells hgl c2
   obtain ⟨h4,e4,H4,c4,l4,o4⟩:=H3.tst (k:=0) (v:=.lit (.string (Zch (ki[i]?) x).1)) hgl c3 (Nat.zero_lt_succ _) rfl
   obtain ⟨h5,e5,H5,T5,l5⟩:=H4.stm (ZdV (.string ks[i]) (.agg (Zbj (Zch (ki[i]?) x).1 (Zch (ki[i]?) x).2)))
   rw[Zbm] at l2
   have hT:Tmp h0 g h5:=fun c hc hl'=>(T5 c hc (by omega)).trans ((o4 c (by omega)).trans ((T3 c hc (by omega)).trans ((o2 c (by omega)).trans (T1 c hc hl'))))
   rw[Zmw] at H5
   have O5:Own 1 h5 v ks.length (ZX ks):=O.keep fun b hb=>hT b (hv b hb) (At.own O hb)
   obtain ⟨g',q1,q2,q3,q4⟩:=ih (i + 1) h5 (ZcP l ks[i] (Zch (ki[i]?) x)) { D with used:=IntKind.wrap .i64 (D.used - ((x.1.size:Int) - (x.2 + ZbT (ki[i]?) x)))} (by omega) (by omega) H5 (Zva hl r1) O5 hv
   refine ⟨g',?_,?_,hT.trans q3 (by omega),by omega⟩
   ·rw[←q1,Z6v]
    refine bd (Zc c1) (bd rfl ?_)
    show (st1 _ _ (.lit (.int .i64 (IntKind.wrap .i64 (x.2 + ZbT (ki[i]?) x))))).bind _ = _
    rw[w1]
    refine bd e2 (bd rfl (bd rfl (bd (H2.ld (k:=2) rfl) (bd rfl (bd (Zc c2) (bd rfl (bd (Zc c2) (bd rfl (bd rfl (bd rfl ?_))))))))))
    show (st1 _ _ (.lit (.int .i64 (IntKind.wrap .i64 (D.used - IntKind.wrap .i64 ((x.1.size:Int) - (x.2 + ZbT (ki[i]?) x))))))).bind _ = _
    rw[w2]
    have hcut:ZdY x.1 0 (x.2 + ZbT (ki[i]?) x) = some (Zch (ki[i]?) x).1:=by
     unfold ZdY;rw[Z8 (by omega)];rfl
    refine bd e3 (bd (Zc c3) (bd rfl (bd (Zc c3) (bd rfl (bd hcut (bd e4 (bd rfl (bd rfl (bd (H4.ld (k:=3) rfl) (bd (Zbh (n:=2) (off:=0) c4 (Nat.le_refl _)) (bd e5 ?_)))))))))))
    rw[show IntKind.wrap .i64 ((i:Int) + 1) = ((i + 1:Nat):Int) from ZsN (by omega)]
   ·have e:Zeu ki i (ks.drop i) (l,D.used) = Zeu ki (i + 1) (ks.drop (i + 1)) (ZcP l ks[i] (Zch (ki[i]?) x),IntKind.wrap .i64 (D.used - ((x.1.size:Int) - (x.2 + ZbT (ki[i]?) x)))):=by
     rw[hd,←hx];rfl
    rw[e];exact q2
  obtain ⟨g',q1,q2,q3,q4⟩:=behind
  refine ⟨g',?_,q2,q3,q4⟩
  rw[←q1,Zw0]
  have S:=hS _ H1.keep
  refine cT (by simp;omega) (bd p1 (bd p2 (bd rfl (bd rfl (bd rfl (bd (H.ld (k:=3) rfl) (bd H.at ?_)))))))
  rw[hml1]
  refine bd rfl (bd s1 (bd S.len ?_))
  by_cases hik:i < ki.length
  ·obtain ⟨p',p1',_,_,p2'⟩:=S.idx hik
   have p2':=p2' (by omega)
   rw[Nat.mul_one] at p2'
   have p2':ld1 (psh g (.cells (Zbj x.1 x.2))) p' = some (.lit (.int .i64 ki[i])):=by rw[p2'];simp[Zia,hik]
   have e:ki[i]? = some ki[i]:=List.getElem?_eq_getElem hik
   refine cT (by simp;omega) (bd p1' (bd p2' (bd rfl (bd (Zc c1) (bd rfl (bd (Zc c1) (bd rfl ?_)))))))
   show ZkN _ _ _ _ (Zs 0 (ZbB ki[i] (IntKind.wrap .i64 ((x.1.size:Int) - x.2)))) _ _ _ _ = _
   rw[show IntKind.wrap .i64 ((x.1.size:Int) - x.2) = (x.1.size:Int) - x.2 from wrap_i64 (by omega) (by omega),e]
   rfl
  ·have e:ki[i]? = none:=List.getElem?_eq_none (by omega)
   refine cF (by simp;omega) ?_
   rw[e];rfl
theorem Z0R (H:DH h0 h d mb (Zbk mb D) (Zbi l)) {keep:AVal} {ki:List Int} (hl:l.length≤1000) (hf:∀ f∈l,ZdM f.2) (hS:∀ g,Keep h0.length [d,mb] h0 g→Sl 1 g keep ki.length (Zia ki)):
  ∃ h',Zix (.ptr d 0) keep h = some (.tup [],h')∧DH h0 h' d mb (Zbk mb { D with used:=(Zeu ki 0 (Zd7 l) (l,D.used)).2,fuse:= -1,down:=false}) (Zbi (Zeu ki 0 (Zd7 l) (l,D.used)).1)∧Tmp h0 h h'∧h.length≤h'.length:=by
 obtain ⟨h1,v,e1,O,f1,H1,T1,l1⟩:=Z2c H hl
 have hn:(Zd7 l).length≤1000:=by unfold Zd7;rw[Zj4];simpa using hl
 obtain ⟨h2,e2,H2,T2,l2⟩:=Z0S hn hS _ 0 h1 l D rfl (Nat.zero_le _) H1 hf O (fun b hb=>Nat.le_trans H.keep.len (f1 b hb))
 obtain ⟨h3,e3,H3,T3,l3⟩:=H2.std (k:=4) (v:=.lit (.int .i64 (-1))) (by rw[Zgc];omega) rfl
 obtain ⟨h4,e4,H4,T4,l4⟩:=H3.std (k:=5) (v:=.lit (.bool false)) (by rw[List.length_set,Zgc];omega) rfl
 refine ⟨h4,?_,H4,((T1.trans T2 l1).trans T3 (by omega)).trans T4 (by omega),by omega⟩
 rw[Z6s]
 refine bd (ZjO H) (bd rfl (cF rfl (bd e1 (bd O.sl.len ?_))))
 refine (show _ = _ from e2).trans ?_
 rw[Z6u]
 exact bd rfl (bd rfl (bd e3 (bd rfl (bd rfl (bd e4 rfl)))))
def Ze4 (room:Int):Dsk:=⟨room,0, -1,false,0⟩
noncomputable def ZiN:XE:={ T:=Zn [(3,r3),(4,r4),(9,r9),(25,r25),(26,r26),(77,r77),(79,r79),(81,r81)],C:=[],D:=[],Ms:=[],Ml:=[],Mo:=[(1006,[0,9])],n:=14}
theorem Z9n:XE.Ok ZiN Tryz.prog:=⟨Zp (⟨Z0,⟨Z1,⟨Zz,⟨ZbQ,⟨ZbE,⟨ZdS,⟨Zew,⟨Zd4,trivial⟩⟩⟩⟩⟩⟩⟩⟩),trivial,Zq,trivial⟩
noncomputable def c7:Code:=ZP f7
noncomputable def Zhl (room0:Int) (h:Za):Option (AVal×Za):=Zt ZiN f7 [(.lit (.int .i64 room0))] h
noncomputable def Zr8 (room0:Int) (t9:Bool) (h:Za):Option (AVal×Za):=jo ZiN 1 (Zk (ca (ca (cb c7)))) ((Zk (ca (ca (cb c7)))).toList.drop 6) 6 [(0,(.lit (.int .i64 room0))),(9,(.lit (.bool t9)))] h (kN (Zi ZiN (cb (ca (cb c7))) (Zi ZiN (cb (cb c7)) (Zj ZiN f7))))
theorem Zwv (room0:Int) (h:Za):Zhl room0 h =
 bif (decide (room0 < 0)) then (Zr8 room0 true h)
 else (Zr8 room0 (decide (room0 > 16777216)) h):=by kernel_rfl
theorem Zr7 (room0:Int) (t9:Bool) (h:Za):Zr8 room0 t9 h =
 bif t9 then (some ((.tup [(.lit (.pointer none)),(.lit (.int .i64 1))]),h))
 else (some ((.tup [(.ptr (((psh h (.map .str []))).length) 0),(.lit (.int .i64 0))]),(psh ((psh h (.map .str []))) (.cells ([(.lit (.bool true)),(.lit (.int .i64 room0)),(.lit (.int .i64 0)),(.map h.length),(.lit (.int .i64 (-1))),(.lit (.bool false)),(.lit (.int .i64 0))]))))):=(ZV ..).trans (by kernel_rfl)
theorem Z6e {room0:Int} {h h':Za} {v:AVal} {R:AEnd→Za→Prop} (hx:Zhl room0 h = some (v,h')) (hR:HOk h→h.length≤h'.length→ABody.AEnds h h' (.ret v) R):ACalls Tryz.prog 7 [(.lit (.int .i64 room0))] h R:=Zu Z9n Zo (i:=7) (by rfl) (by kernel_rfl) (by kernel_rfl) hx hR
noncomputable def ZlB:XC:=.l fun R args h K=>match args with
 | [.lit (.int .i64 a0)]=>(Zhl a0 h).bind fun r=>K r.1 r.2
 |_=>none
theorem Ztb:XC.Nat ZlB∧XC.Ok Tryz.prog 7 ZlB:=by
 refine ⟨fun R args h K=>?_,tc7,fun args h v h' hx=>?_⟩
 ·dsimp only;split<;>simp[Option.bind_assoc,mkP]
 ·dsimp only at hx;split at hx
  ·obtain ⟨r,hopt,hx⟩:=Option.bind_eq_some_iff.1 hx
   simp only[mkP,Option.some.injEq,Prod.mk.injEq] at hx
   obtain ⟨rfl,rfl⟩:=hx
   exact (by obtain ⟨v,h'⟩:=r;exact Z6e hopt selfR)
  ·cases hx
theorem Zu9 (h:Za) {room:Int} (h0:0≤room) (h1:room≤16777216):∃ h',Zhl room h = some (.tup [.ptr (h.length + 1) 0,.lit (.int .i64 0)],h')∧DiskAt h' (h.length + 1) h.length (Ze4 room) []∧(∀ c,c < h.length→h'[c]? = h[c]?)∧h'.length = h.length + 2:=by
 refine ⟨psh (psh h (.map .str [])) (.cells (Zbk h.length (Ze4 room))),?_,⟨?_,?_⟩,fun c hc=>?_,by simp[psh]⟩
 ·rw[Zwv]
  refine cF (by simp;omega) ?_
  rw[Zr7]
  refine cF (by simp;omega) ?_
  rw[Zbm];rfl
 ·have:=ZU (psh h (.map .str [])) (Zbk h.length (Ze4 room))
  rw[Zbm] at this;exact this
 ·show ((h++[_])++[_])[h.length]? = _
  rw[List.getElem?_append_left (by simp)];simp;rfl
 ·show ((h++[_])++[_])[c]? = _
  rw[List.getElem?_append_left (by simp;omega),List.getElem?_append_left hc]
theorem Z1Y (h:Za) {room:Int} (h0:room < 0∨16777216 < room):Zhl room h = some (.tup [.lit (.pointer none),.lit (.int .i64 1)],h):=by
 rw[Zwv]
 by_cases hr:room < 0
 ·refine cT (by simpa using hr) ?_
  rw[Zr7];rfl
 ·refine cF (by simpa using hr) ?_
  rw[Zr7]
  exact cT (by simp;omega) rfl
end ops
end Go.Proofs.YtogaiomakhapmaaGreat.AL
namespace Go.Proofs.YtogaiomakhapmaaGreat.AL
set_option maxRecDepth 100000
open Go
open Go.Proofs.Tryz
noncomputable def ZxP:XE:={ T:=Zn [(3,r3),(4,r4),(54,r54),(107,ZfT)],C:=[],D:=[],Ms:=[],Ml:=[],Mo:=[],n:=8}
theorem Z9S:XE.Ok ZxP Tryz.prog:=⟨Zp (⟨Z0,⟨Z1,⟨ZcN,⟨ZgM,trivial⟩⟩⟩⟩),trivial,Zq,trivial⟩
noncomputable def Zhx (m0:Int) (h:Za):Option (AVal×Za):=Zt ZxP f27 [(.lit (.int .i64 m0))] h
theorem Zxf (m0:Int) (h:Za):Zhx m0 h =
 bif (decide (m0 < 0)) then (some ((.lit (.pointer none)),h))
 else (some ((.ptr h.length 0),(psh h (.cells ([(.lit (.bool true)),(.lit (.int .i64 m0)),(.lit (.int .i64 0)),(.lit (.int .i64 0))]))))):=by kernel_rfl
theorem Z8A {m0:Int} {h h':Za} {v:AVal} {R:AEnd→Za→Prop} (hx:Zhx m0 h = some (v,h')) (hR:HOk h→h.length≤h'.length→ABody.AEnds h h' (.ret v) R):ACalls Tryz.prog 27 [(.lit (.int .i64 m0))] h R:=Zu Z9S Zo (i:=27) (by rfl) (by kernel_rfl) (by kernel_rfl) hx hR
noncomputable def ZlQ:XC:=.l fun R args h K=>match args with
 | [.lit (.int .i64 a0)]=>(Zhx a0 h).bind fun r=>K r.1 r.2
 |_=>none
theorem Zto:XC.Nat ZlQ∧XC.Ok Tryz.prog 27 ZlQ:=by
 refine ⟨fun R args h K=>?_,tc27,fun args h v h' hx=>?_⟩
 ·dsimp only;split<;>simp[Option.bind_assoc,mkP]
 ·dsimp only at hx;split at hx
  ·obtain ⟨r,hopt,hx⟩:=Option.bind_eq_some_iff.1 hx
   simp only[mkP,Option.some.injEq,Prod.mk.injEq] at hx
   obtain ⟨rfl,rfl⟩:=hx
   exact (by obtain ⟨v,h'⟩:=r;exact Z8A hopt selfR)
  ·cases hx
noncomputable def Zln:XE:={ T:=Zn [(3,r3),(4,r4),(54,r54),(107,ZfT)],C:=[],D:=[],Ms:=[],Ml:=[],Mo:=[(1008,[10])],n:=11}
theorem Z9T:XE.Ok Zln Tryz.prog:=⟨Zp (⟨Z0,⟨Z1,⟨ZcN,⟨ZgM,trivial⟩⟩⟩⟩),trivial,Zq,trivial⟩
noncomputable def c77:Code:=ZP f77
noncomputable def Zfi (b0:AVal) (h:Za):Option (AVal×Za):=Zt Zln f77 [b0] h
noncomputable def Zsy (t10:Bool) (h:Za):Option (AVal×Za):=jo Zln 1 (Zk (ca (cb c77))) ((Zk (ca (cb c77))).toList.drop 8) 8 [(10,(.lit (.bool t10)))] h (kN (Zi Zln (cb (cb c77)) (Zj Zln f77)))
theorem Z8B (b0:AVal) (h:Za):Zfi b0 h =
 (AVal.isNil .ptr b0).bind fun b2=>
 bif (!b2) then ((Zg b0).bind fun p3=>
 (Zf 0 p3).bind fun p4=>
 (ld1 h p4).bind fun x5=>
 (asB x5).bind fun b6=>
 Zsy b6 h)
 else (Zsy false h):=by kernel_rfl
theorem Z8D (t10:Bool) (h:Za):Zsy t10 h =
 some ((.lit (.bool t10)),h):=(ZV ..).trans (by kernel_rfl)
theorem Z8C {b0:AVal} {h h':Za} {v:AVal} {R:AEnd→Za→Prop} (hx:Zfi b0 h = some (v,h')) (hR:HOk h→h.length≤h'.length→ABody.AEnds h h' (.ret v) R):ACalls Tryz.prog 77 [b0] h R:=Zu Z9T Zo (i:=77) (by rfl) (by kernel_rfl) (by kernel_rfl) hx hR
noncomputable def ZgC:XC:=.q fun R args h K=>match args with
 | [a0]=>(Zv (Zfi a0 h) h).bind fun r=>K r
 |_=>none
theorem Zjv:XC.Nat ZgC∧XC.Ok Tryz.prog 77 ZgC:=by
 refine ⟨fun R args h K=>?_,tc77,fun args h v hx=>?_⟩
 ·dsimp only;split<;>simp[Option.bind_assoc,mkP]
 ·dsimp only at hx;split at hx
  ·obtain ⟨r,hopt,hx⟩:=Option.bind_eq_some_iff.1 hx
   cases hx
   exact (by have hopt:=Zc7 hopt;exact Z8C hopt selfR)
  ·cases hx
noncomputable def ZxR:XE:={ T:=Zn [(3,r3),(4,r4),(54,r54),(107,ZfT)],C:=[(77,ZgC)],D:=[(3,⟨[],[0,1,2,3,4,5,6,7,8,9],[],[],[],[],[]⟩)],Ms:=[],Ml:=[],Mo:=[],n:=15}
theorem Z9W:XE.Ok ZxR Tryz.prog:=⟨Zp (⟨Z0,⟨Z1,⟨ZcN,⟨ZgM,trivial⟩⟩⟩⟩),(⟨Zjv,trivial⟩),Zq,trivial⟩
noncomputable def ZiI (b0:AVal) (h:Za):Option (AVal×Za):=Zt ZxR f111 [b0] h
theorem Z8H (b0:AVal) (h:Za):ZiI b0 h =
 (Zv (Zfi b0 h) h).bind fun r1=>
 (asB r1).bind fun b2=>
 bif (!b2) then (some ((.lit (.int .i64 0)),h))
 else ((Zg b0).bind fun p3=>
 (Zf 1 p3).bind fun p4=>
 (ld1 h p4).bind fun x5=>
 (asI .i64 x5).bind fun n6=>
 (Zg b0).bind fun p7=>
 (Zf 2 p7).bind fun p8=>
 (ld1 h p8).bind fun x9=>
 (asI .i64 x9).bind fun n10=>
 some ((.lit (.int .i64 (IntKind.wrap .i64 (n6 - n10)))),h)):=by kernel_rfl
theorem Z8I {b0:AVal} {h h':Za} {v:AVal} {R:AEnd→Za→Prop} (hx:ZiI b0 h = some (v,h')) (hR:HOk h→h.length≤h'.length→ABody.AEnds h h' (.ret v) R):ACalls Tryz.prog 111 [b0] h R:=Zu Z9W Zo (i:=111) (by rfl) (by kernel_rfl) (by kernel_rfl) hx hR
noncomputable def Zp9:XC:=.q fun R args h K=>match args with
 | [a0]=>(Zv (ZiI a0 h) h).bind fun r=>K r
 |_=>none
theorem ZzJ:XC.Nat Zp9∧XC.Ok Tryz.prog 111 Zp9:=by
 refine ⟨fun R args h K=>?_,tc111,fun args h v hx=>?_⟩
 ·dsimp only;split<;>simp[Option.bind_assoc,mkP]
 ·dsimp only at hx;split at hx
  ·obtain ⟨r,hopt,hx⟩:=Option.bind_eq_some_iff.1 hx
   cases hx
   exact (by have hopt:=Zc7 hopt;exact Z8I hopt selfR)
  ·cases hx
noncomputable def ZiU:XE:={ T:=Zn [(3,r3),(4,r4),(26,r26),(54,r54),(107,ZfT)],C:=[(77,ZgC),(111,Zp9)],D:=[(6,⟨[],[0,1,2,3,4,5,6,7,8,9,10,11],[12],[],[],[],[]⟩)],Ms:=[],Ml:=[],Mo:=[(1007,[0,1,12])],n:=38}
theorem Z9U:XE.Ok ZiU Tryz.prog:=⟨Zp (⟨Z0,⟨Z1,⟨ZbE,⟨ZcN,⟨ZgM,trivial⟩⟩⟩⟩⟩),(⟨Zjv,⟨ZzJ,trivial⟩⟩),Zq,trivial⟩
noncomputable def c72:Code:=ZP f72
noncomputable def ZiH (b0:AVal) (n1:Int) (h:Za):Option (AVal×Za):=Zt ZiU f72 [b0,(.lit (.int .i64 n1))] h
noncomputable def Zsz (b0:AVal) (n1:Int) (t12:Bool) (h:Za):Option (AVal×Za):=jo ZiU 1 (Zk (ca (ca (ca (cb c72))))) ((Zk (ca (ca (ca (cb c72))))).toList.drop 7) 7 [(0,b0),(1,(.lit (.int .i64 n1))),(12,(.lit (.bool t12)))] h (kN (Zi ZiU (cb (ca (ca (cb c72)))) (ZW 0 (Zi ZiU (cb (cb c72)) (Zj ZiU f72)))))
theorem Zxg (b0:AVal) (n1:Int) (h:Za):ZiH b0 n1 h =
 (Zv (Zfi b0 h) h).bind fun r1=>
 (asB r1).bind fun b3=>
 bif (!b3) then (Zsz b0 n1 true h)
 else (Zsz b0 n1 (decide (n1 < 0)) h):=by kernel_rfl
theorem Zxh (b0:AVal) (n1:Int) (t12:Bool) (h:Za):Zsz b0 n1 t12 h =
 bif t12 then (some ((.lit (.int .i64 1)),h))
 else ((Zv (ZiI b0 h) h).bind fun r4=>
 (asI .i64 r4).bind fun n5=>
 bif (decide (n1 > n5)) then (some ((.lit (.int .i64 9)),h))
 else ((Zg b0).bind fun p6=>
 (Zf 2 p6).bind fun p7=>
 (ld1 h p7).bind fun x8=>
 (asI .i64 x8).bind fun n9=>
 (Zg b0).bind fun p10=>
 (Zf 2 p10).bind fun p11=>
 (st1 h p11 (.lit (.int .i64 (IntKind.wrap .i64 (n9 + n1))))).bind fun h12=>
 (Zg b0).bind fun p13=>
 (Zf 3 p13).bind fun p14=>
 (ld1 h12 p14).bind fun x15=>
 (asI .i64 x15).bind fun n16=>
 (Zg b0).bind fun p17=>
 (Zf 2 p17).bind fun p18=>
 (ld1 h12 p18).bind fun x19=>
 (asI .i64 x19).bind fun n20=>
 (Zg b0).bind fun p21=>
 (Zf 3 p21).bind fun p22=>
 (st1 h12 p22 (.lit (.int .i64 (Zs n16 n20)))).bind fun h23=>
 some ((.lit (.int .i64 0)),h23))):=(ZV ..).trans (by kernel_rfl)
theorem Z8E {b0:AVal} {n1:Int} {h h':Za} {v:AVal} {R:AEnd→Za→Prop} (hx:ZiH b0 n1 h = some (v,h')) (hR:HOk h→h.length≤h'.length→ABody.AEnds h h' (.ret v) R):ACalls Tryz.prog 72 [b0,(.lit (.int .i64 n1))] h R:=Zu Z9U Zo (i:=72) (by rfl) (by kernel_rfl) (by kernel_rfl) hx hR
noncomputable def Zp7:XC:=.l fun R args h K=>match args with
 | [a0,.lit (.int .i64 a1)]=>(ZiH a0 a1 h).bind fun r=>K r.1 r.2
 |_=>none
theorem ZzH:XC.Nat Zp7∧XC.Ok Tryz.prog 72 Zp7:=by
 refine ⟨fun R args h K=>?_,tc72,fun args h v h' hx=>?_⟩
 ·dsimp only;split<;>simp[Option.bind_assoc,mkP]
 ·dsimp only at hx;split at hx
  ·obtain ⟨r,hopt,hx⟩:=Option.bind_eq_some_iff.1 hx
   simp only[mkP,Option.some.injEq,Prod.mk.injEq] at hx
   obtain ⟨rfl,rfl⟩:=hx
   exact (by obtain ⟨v,h'⟩:=r;exact Z8E hopt selfR)
  ·cases hx
noncomputable def Zlo:XE:={ T:=Zn [(3,r3),(4,r4),(54,r54),(107,ZfT)],C:=[(77,ZgC)],D:=[(1,⟨[],[0,1,2,3,4,5,6,7,8,9,10,11,12],[13],[],[],[],[]⟩)],Ms:=[],Ml:=[],Mo:=[(6,[0,1,9])],n:=23}
theorem Z9Y:XE.Ok Zlo Tryz.prog:=⟨Zp (⟨Z0,⟨Z1,⟨ZcN,⟨ZgM,trivial⟩⟩⟩⟩),(⟨Zjv,trivial⟩),Zq,trivial⟩
noncomputable def c84:Code:=ZP f84
noncomputable def Zlh (b0:AVal) (n1:Int) (h:Za):Option (AVal×Za):=Zt Zlo f84 [b0,(.lit (.int .i64 n1))] h
noncomputable def Zs0 (b0:AVal) (n1:Int) (t9:Bool) (h:Za):Option (AVal×Za):=jo Zlo 0 (Zk (ca c84)) ((Zk (ca c84)).toList.drop 6) 6 [(0,b0),(1,(.lit (.int .i64 n1))),(9,(.lit (.bool t9)))] h (kN (Zi Zlo (cb c84) (Zj Zlo f84)))
theorem Z8L (b0:AVal) (n1:Int) (h:Za):Zlh b0 n1 h =
 (Zv (Zfi b0 h) h).bind fun r1=>
 (asB r1).bind fun b3=>
 bif b3 then (Zs0 b0 n1 (decide (n1≥0)) h)
 else (Zs0 b0 n1 false h):=by kernel_rfl
theorem Z8N (b0:AVal) (n1:Int) (t9:Bool) (h:Za):Zs0 b0 n1 t9 h =
 bif t9 then ((Zg b0).bind fun p4=>
 (Zf 2 p4).bind fun p5=>
 (ld1 h p5).bind fun x6=>
 (asI .i64 x6).bind fun n7=>
 (Zg b0).bind fun p8=>
 (Zf 2 p8).bind fun p9=>
 (ld1 h p9).bind fun x10=>
 (asI .i64 x10).bind fun n11=>
 (Zg b0).bind fun p12=>
 (Zf 2 p12).bind fun p13=>
 (st1 h p13 (.lit (.int .i64 (IntKind.wrap .i64 (n7 - (ZbB n1 n11)))))).bind fun h14=>
 some ((.tup []),h14))
 else (some ((.tup []),h)):=(ZV ..).trans (by kernel_rfl)
theorem Z8M {b0:AVal} {n1:Int} {h h':Za} {v:AVal} {R:AEnd→Za→Prop} (hx:Zlh b0 n1 h = some (v,h')) (hR:HOk h→h.length≤h'.length→ABody.AEnds h h' (.ret v) R):ACalls Tryz.prog 84 [b0,(.lit (.int .i64 n1))] h R:=Zu Z9Y Zo (i:=84) (by rfl) (by kernel_rfl) (by kernel_rfl) hx hR
noncomputable def ZpB:XC:=.l fun R args h K=>match args with
 | [a0,.lit (.int .i64 a1)]=>(Zlh a0 a1 h).bind fun r=>K r.1 r.2
 |_=>none
theorem ZzL:XC.Nat ZpB∧XC.Ok Tryz.prog 84 ZpB:=by
 refine ⟨fun R args h K=>?_,tc84,fun args h v h' hx=>?_⟩
 ·dsimp only;split<;>simp[Option.bind_assoc,mkP]
 ·dsimp only at hx;split at hx
  ·obtain ⟨r,hopt,hx⟩:=Option.bind_eq_some_iff.1 hx
   simp only[mkP,Option.some.injEq,Prod.mk.injEq] at hx
   obtain ⟨rfl,rfl⟩:=hx
   exact (by obtain ⟨v,h'⟩:=r;exact Z8M hopt selfR)
  ·cases hx
noncomputable def ZxQ:XE:={ T:=Zn [(3,r3),(4,r4),(54,r54),(107,ZfT)],C:=[(77,ZgC)],D:=[],Ms:=[],Ml:=[],Mo:=[],n:=10}
theorem Z9V:XE.Ok ZxQ Tryz.prog:=⟨Zp (⟨Z0,⟨Z1,⟨ZcN,⟨ZgM,trivial⟩⟩⟩⟩),(⟨Zjv,trivial⟩),Zq,trivial⟩
noncomputable def Zgv (b0:AVal) (h:Za):Option (AVal×Za):=Zt ZxQ f30 [b0] h
theorem Z8F (b0:AVal) (h:Za):Zgv b0 h =
 (Zv (Zfi b0 h) h).bind fun r1=>
 (asB r1).bind fun b2=>
 bif (!b2) then (some ((.lit (.int .i64 0)),h))
 else ((Zg b0).bind fun p3=>
 (Zf 2 p3).bind fun p4=>
 (ld1 h p4).bind fun x5=>
 (asI .i64 x5).bind fun n6=>
 some ((.lit (.int .i64 n6)),h)):=by kernel_rfl
theorem Z8G {b0:AVal} {h h':Za} {v:AVal} {R:AEnd→Za→Prop} (hx:Zgv b0 h = some (v,h')) (hR:HOk h→h.length≤h'.length→ABody.AEnds h h' (.ret v) R):ACalls Tryz.prog 30 [b0] h R:=Zu Z9V Zo (i:=30) (by rfl) (by kernel_rfl) (by kernel_rfl) hx hR
noncomputable def Zp8:XC:=.q fun R args h K=>match args with
 | [a0]=>(Zv (Zgv a0 h) h).bind fun r=>K r
 |_=>none
theorem ZzI:XC.Nat Zp8∧XC.Ok Tryz.prog 30 Zp8:=by
 refine ⟨fun R args h K=>?_,tc30,fun args h v hx=>?_⟩
 ·dsimp only;split<;>simp[Option.bind_assoc,mkP]
 ·dsimp only at hx;split at hx
  ·obtain ⟨r,hopt,hx⟩:=Option.bind_eq_some_iff.1 hx
   cases hx
   exact (by have hopt:=Zc7 hopt;exact Z8G hopt selfR)
  ·cases hx
noncomputable def ZxS:XE:={ T:=Zn [(3,r3),(4,r4),(54,r54),(107,ZfT)],C:=[(77,ZgC)],D:=[],Ms:=[],Ml:=[],Mo:=[],n:=10}
theorem Z9X:XE.Ok ZxS Tryz.prog:=⟨Zp (⟨Z0,⟨Z1,⟨ZcN,⟨ZgM,trivial⟩⟩⟩⟩),(⟨Zjv,trivial⟩),Zq,trivial⟩
noncomputable def ZiJ (b0:AVal) (h:Za):Option (AVal×Za):=Zt ZxS f41 [b0] h
theorem Z8J (b0:AVal) (h:Za):ZiJ b0 h =
 (Zv (Zfi b0 h) h).bind fun r1=>
 (asB r1).bind fun b2=>
 bif (!b2) then (some ((.lit (.int .i64 0)),h))
 else ((Zg b0).bind fun p3=>
 (Zf 3 p3).bind fun p4=>
 (ld1 h p4).bind fun x5=>
 (asI .i64 x5).bind fun n6=>
 some ((.lit (.int .i64 n6)),h)):=by kernel_rfl
theorem Z8K {b0:AVal} {h h':Za} {v:AVal} {R:AEnd→Za→Prop} (hx:ZiJ b0 h = some (v,h')) (hR:HOk h→h.length≤h'.length→ABody.AEnds h h' (.ret v) R):ACalls Tryz.prog 41 [b0] h R:=Zu Z9X Zo (i:=41) (by rfl) (by kernel_rfl) (by kernel_rfl) hx hR
noncomputable def ZpA:XC:=.q fun R args h K=>match args with
 | [a0]=>(Zv (ZiJ a0 h) h).bind fun r=>K r
 |_=>none
theorem ZzK:XC.Nat ZpA∧XC.Ok Tryz.prog 41 ZpA:=by
 refine ⟨fun R args h K=>?_,tc41,fun args h v hx=>?_⟩
 ·dsimp only;split<;>simp[Option.bind_assoc,mkP]
 ·dsimp only at hx;split at hx
  ·obtain ⟨r,hopt,hx⟩:=Option.bind_eq_some_iff.1 hx
   cases hx
   exact (by have hopt:=Zc7 hopt;exact Z8K hopt selfR)
  ·cases hx
noncomputable def Zxj:XE:={ T:=Zn [(9,r9),(25,r25),(26,r26),(102,r102)],C:=[(11,ZoZ)],D:=[],Ms:=[],Ml:=[],Mo:=[],n:=11}
theorem Z8Q:XE.Ok Zxj Tryz.prog:=⟨Zp (⟨Zz,⟨ZbQ,⟨ZbE,⟨Zez,trivial⟩⟩⟩⟩),(⟨Zzq,trivial⟩),Zq,trivial⟩
noncomputable def Zfe (s0:List AVal) (b1:ByteArray) (h:Za):Option (AVal×Za):=Zt Zxj f73 [(.agg s0),(.lit (.string b1))] h
theorem Zwa (s0:List AVal) (b1:ByteArray) (h:Za):Zfe s0 b1 h =
 (ld1 ((psh h (.cells s0))) (.ptr h.length 0)).bind fun x1=>
 (ld1 ((psh h (.cells s0))) (.ptr h.length 1)).bind fun x2=>
 (asS x2).bind fun s3=>
 (ZkO x1 s3 b1 ((psh h (.cells s0)))).bind fun r4=>
 (asI .i64 r4.1).bind fun n5=>
 some ((.lit (.int .i64 n5)),r4.2):=by kernel_rfl
theorem Z50 {s0:List AVal} {b1:ByteArray} {h h':Za} {v:AVal} {R:AEnd→Za→Prop} (hx:Zfe s0 b1 h = some (v,h')) (hR:HOk h→h.length≤h'.length→ABody.AEnds h h' (.ret v) R):ACalls Tryz.prog 73 [(.agg s0),(.lit (.string b1))] h R:=Zu Z8Q Zo (i:=73) (by rfl) (by kernel_rfl) (by kernel_rfl) hx hR
noncomputable def Zjk:XC:=.l fun R args h K=>match args with
 | [.agg a0,.lit (.string a1)]=>(Zfe a0 a1 h).bind fun r=>K r.1 r.2
 |_=>none
theorem ZoA:XC.Nat Zjk∧XC.Ok Tryz.prog 73 Zjk:=by
 refine ⟨fun R args h K=>?_,tc73,fun args h v h' hx=>?_⟩
 ·dsimp only;split<;>simp[Option.bind_assoc,mkP]
 ·dsimp only at hx;split at hx
  ·obtain ⟨r,hopt,hx⟩:=Option.bind_eq_some_iff.1 hx
   simp only[mkP,Option.some.injEq,Prod.mk.injEq] at hx
   obtain ⟨rfl,rfl⟩:=hx
   exact (by obtain ⟨v,h'⟩:=r;exact Z50 hopt selfR)
  ·cases hx
noncomputable def Zxk:XE:={ T:=Zn [(9,r9),(25,r25),(26,r26),(102,r102)],C:=[(58,ZoU)],D:=[],Ms:=[],Ml:=[],Mo:=[],n:=8}
theorem Z8R:XE.Ok Zxk Tryz.prog:=⟨Zp (⟨Zz,⟨ZbQ,⟨ZbE,⟨Zez,trivial⟩⟩⟩⟩),(⟨Zzl,trivial⟩),Zq,trivial⟩
noncomputable def Zhi (s0:List AVal) (h:Za):Option (AVal×Za):=Zt Zxk f88 [(.agg s0)] h
theorem Zwb (s0:List AVal) (h:Za):Zhi s0 h =
 (ld1 ((psh h (.cells s0))) (.ptr h.length 0)).bind fun x1=>
 (ld1 ((psh h (.cells s0))) (.ptr h.length 1)).bind fun x2=>
 (asS x2).bind fun s3=>
 (ZkM x1 s3 ((psh h (.cells s0)))).bind fun r4=>
 (asI .i64 r4.1).bind fun n5=>
 some ((.lit (.int .i64 n5)),r4.2):=by kernel_rfl
theorem Z51 {s0:List AVal} {h h':Za} {v:AVal} {R:AEnd→Za→Prop} (hx:Zhi s0 h = some (v,h')) (hR:HOk h→h.length≤h'.length→ABody.AEnds h h' (.ret v) R):ACalls Tryz.prog 88 [(.agg s0)] h R:=Zu Z8R Zo (i:=88) (by rfl) (by kernel_rfl) (by kernel_rfl) hx hR
noncomputable def ZoB:XC:=.l fun R args h K=>match args with
 | [.agg a0]=>(Zhi a0 h).bind fun r=>K r.1 r.2
 |_=>none
theorem ZyT:XC.Nat ZoB∧XC.Ok Tryz.prog 88 ZoB:=by
 refine ⟨fun R args h K=>?_,Z0e,fun args h v h' hx=>?_⟩
 ·dsimp only;split<;>simp[Option.bind_assoc,mkP]
 ·dsimp only at hx;split at hx
  ·obtain ⟨r,hopt,hx⟩:=Option.bind_eq_some_iff.1 hx
   simp only[mkP,Option.some.injEq,Prod.mk.injEq] at hx
   obtain ⟨rfl,rfl⟩:=hx
   exact (by obtain ⟨v,h'⟩:=r;exact Z51 hopt selfR)
  ·cases hx
noncomputable def Zlk:XE:={ T:=Zn [(3,r3),(4,r4),(9,r9),(25,r25),(52,r52),(54,r54),(59,r59),(65,r65),(67,r67),(102,r102),(104,ZeS)],C:=[],D:=[],Ms:=[],Ml:=[],Mo:=[(1008,[10])],n:=11}
theorem Z8S:XE.Ok Zlk Tryz.prog:=⟨Zp (⟨Z0,⟨Z1,⟨Zz,⟨ZbQ,⟨Zby,⟨ZcN,⟨Zex,⟨Zci,⟨Zdg,⟨Zez,⟨Zfu,trivial⟩⟩⟩⟩⟩⟩⟩⟩⟩⟩⟩),trivial,Zq,trivial⟩
noncomputable def c78:Code:=ZP f78
noncomputable def ZcS (w0:AVal) (h:Za):Option (AVal×Za):=Zt Zlk f78 [w0] h
noncomputable def Zrr (t10:Bool) (h:Za):Option (AVal×Za):=jo Zlk 1 (Zk (ca (cb c78))) ((Zk (ca (cb c78))).toList.drop 8) 8 [(10,(.lit (.bool t10)))] h (kN (Zi Zlk (cb (cb c78)) (Zj Zlk f78)))
theorem ZkA (w0:AVal) (h:Za):ZcS w0 h =
 (AVal.isNil .ptr w0).bind fun b1=>
 bif (!b1) then ((Zg w0).bind fun p2=>
 (Zf 7 p2).bind fun p3=>
 (ld1 h p3).bind fun x4=>
 (asB x4).bind fun b5=>
 Zrr b5 h)
 else (Zrr false h):=by kernel_rfl
theorem ZkB (t10:Bool) (h:Za):Zrr t10 h =
 some ((.lit (.bool t10)),h):=(ZV ..).trans (by kernel_rfl)
theorem Z52 {w0:AVal} {h h':Za} {v:AVal} {R:AEnd→Za→Prop} (hx:ZcS w0 h = some (v,h')) (hR:HOk h→h.length≤h'.length→ABody.AEnds h h' (.ret v) R):ACalls Tryz.prog 78 [w0] h R:=Zu Z8S Zo (i:=78) (by rfl) (by kernel_rfl) (by kernel_rfl) hx hR
noncomputable def Zjl:XC:=.q fun R args h K=>match args with
 | [a0]=>(Zv (ZcS a0 h) h).bind fun r=>K r
 |_=>none
theorem ZoC:XC.Nat Zjl∧XC.Ok Tryz.prog 78 Zjl:=by
 refine ⟨fun R args h K=>?_,tc78,fun args h v hx=>?_⟩
 ·dsimp only;split<;>simp[Option.bind_assoc,mkP]
 ·dsimp only at hx;split at hx
  ·obtain ⟨r,hopt,hx⟩:=Option.bind_eq_some_iff.1 hx
   cases hx
   exact (by have hopt:=Zc7 hopt;exact Z52 hopt selfR)
  ·cases hx
noncomputable def Zxn:XE:={ T:=Zn [(3,r3),(4,r4),(9,r9),(25,r25),(52,r52),(54,r54),(59,r59),(65,r65),(67,r67),(102,r102),(104,ZeS)],C:=[(78,Zjl),(84,ZpB)],D:=[],Ms:=[],Ml:=[],Mo:=[],n:=12}
theorem Z8W:XE.Ok Zxn Tryz.prog:=⟨Zp (⟨Z0,⟨Z1,⟨Zz,⟨ZbQ,⟨Zby,⟨ZcN,⟨Zex,⟨Zci,⟨Zdg,⟨Zez,⟨Zfu,trivial⟩⟩⟩⟩⟩⟩⟩⟩⟩⟩⟩),(⟨ZoC,⟨ZzL,trivial⟩⟩),Zq,trivial⟩
noncomputable def Zeg (w0:AVal) (h:Za):Option (AVal×Za):=Zt Zxn f35 [w0] h
theorem ZkD (w0:AVal) (h:Za):Zeg w0 h =
 (Zv (ZcS w0 h) h).bind fun r1=>
 (asB r1).bind fun b2=>
 bif b2 then ((Zg w0).bind fun p3=>
 (Zf 7 p3).bind fun p4=>
 (st1 h p4 (.lit (.bool false))).bind fun h5=>
 (Zg w0).bind fun p6=>
 (Zf 2 p6).bind fun p7=>
 (ld1 h5 p7).bind fun x8=>
 (Zlh x8 4 h5).bind fun r9=>
 some ((.tup []),r9.2))
 else (some ((.tup []),h)):=by kernel_rfl
theorem Z56 {w0:AVal} {h h':Za} {v:AVal} {R:AEnd→Za→Prop} (hx:Zeg w0 h = some (v,h')) (hR:HOk h→h.length≤h'.length→ABody.AEnds h h' (.ret v) R):ACalls Tryz.prog 35 [w0] h R:=Zu Z8W Zo (i:=35) (by rfl) (by kernel_rfl) (by kernel_rfl) hx hR
noncomputable def ZgA:XC:=.l fun R args h K=>match args with
 | [a0]=>(Zeg a0 h).bind fun r=>K r.1 r.2
 |_=>none
theorem Zjm:XC.Nat ZgA∧XC.Ok Tryz.prog 35 ZgA:=by
 refine ⟨fun R args h K=>?_,tc35,fun args h v h' hx=>?_⟩
 ·dsimp only;split<;>simp[Option.bind_assoc,mkP]
 ·dsimp only at hx;split at hx
  ·obtain ⟨r,hopt,hx⟩:=Option.bind_eq_some_iff.1 hx
   simp only[mkP,Option.some.injEq,Prod.mk.injEq] at hx
   obtain ⟨rfl,rfl⟩:=hx
   exact (by obtain ⟨v,h'⟩:=r;exact Z56 hopt selfR)
  ·cases hx
noncomputable def ZnM:XE:={ T:=Zn [(4,r4),(26,r26),(59,r59)],C:=[(35,ZgA)],D:=[],Ms:=[(3,[1])],Ml:=[],Mo:=[],n:=10}
theorem Z8U:XE.Ok ZnM Tryz.prog:=⟨Zp (⟨Z1,⟨ZbE,⟨Zex,trivial⟩⟩⟩),(⟨Zjm,trivial⟩),Zq,trivial⟩
noncomputable def c86:Code:=ZP f86
noncomputable def Zff (w0:AVal) (e1:Int) (h:Za):Option (AVal×Za):=Zt ZnM f86 [w0,(.lit (.int .i64 e1))] h
noncomputable def Zru (e1:Int) (h:Za):Option (AVal×Za):=jn (Zl ZnM (cb (cb c86)) (AVal×Za) [(1,(.lit (.int .i64 e1)))] h (Zj ZnM f86))
theorem Zrs (w0:AVal) (e1:Int) (h:Za):Zff w0 e1 h =
 bif (!decide (e1 = 0)) then ((Zeg w0 h).bind fun r1=>
 Zru e1 r1.2)
 else (Zru e1 h):=by kernel_rfl
theorem Zrt (e1:Int) (h:Za):Zru e1 h =
 some ((.lit (.int .i64 e1)),h):=(ZF _).trans (by kernel_rfl)
theorem Z54 {w0:AVal} {e1:Int} {h h':Za} {v:AVal} {R:AEnd→Za→Prop} (hx:Zff w0 e1 h = some (v,h')) (hR:HOk h→h.length≤h'.length→ABody.AEnds h h' (.ret v) R):ACalls Tryz.prog 86 [w0,(.lit (.int .i64 e1))] h R:=Zu Z8U Zo (i:=86) (by rfl) (by kernel_rfl) (by kernel_rfl) hx hR
noncomputable def Zl6:XC:=.l fun R args h K=>match args with
 | [a0,.lit (.int .i64 a1)]=>(Zff a0 a1 h).bind fun r=>K r.1 r.2
 |_=>none
theorem ZsW:XC.Nat Zl6∧XC.Ok Tryz.prog 86 Zl6:=by
 refine ⟨fun R args h K=>?_,tc86,fun args h v h' hx=>?_⟩
 ·dsimp only;split<;>simp[Option.bind_assoc,mkP]
 ·dsimp only at hx;split at hx
  ·obtain ⟨r,hopt,hx⟩:=Option.bind_eq_some_iff.1 hx
   simp only[mkP,Option.some.injEq,Prod.mk.injEq] at hx
   obtain ⟨rfl,rfl⟩:=hx
   exact (by obtain ⟨v,h'⟩:=r;exact Z54 hopt selfR)
  ·cases hx
noncomputable def Zxl:XE:={ T:=Zn [(3,r3),(4,r4),(9,r9),(25,r25),(26,r26),(52,r52),(54,r54),(59,r59),(65,r65),(67,r67),(102,r102),(104,ZeS)],C:=[(73,Zjk),(86,Zl6),(114,Zpd)],D:=[(3,⟨[],[0,1,2,3,4,5,6,7,8,9,10,11,12,13],[],[],[],[],[]⟩)],Ms:=[],Ml:=[],Mo:=[],n:=43}
theorem Z8T:XE.Ok Zxl Tryz.prog:=⟨Zp (⟨Z0,⟨Z1,⟨Zz,⟨ZbQ,⟨ZbE,⟨Zby,⟨ZcN,⟨Zex,⟨Zci,⟨Zdg,⟨Zez,⟨Zfu,trivial⟩⟩⟩⟩⟩⟩⟩⟩⟩⟩⟩⟩),(⟨ZoA,⟨ZsW,⟨Zzs,trivial⟩⟩⟩),Zq,trivial⟩
noncomputable def ZeH (w0:AVal) (h:Za):Option (AVal×Za):=Zt Zxl f81 [w0] h
theorem Znf (w0:AVal) (h:Za):ZeH w0 h =
 (Zg w0).bind fun p1=>
 (Zf 4 p1).bind fun p2=>
 (ld1 h p2).bind fun x3=>
 (Zbb x3).bind fun n4=>
 bif (decide (n4 = 0)) then (some ((.lit (.int .i64 0)),h))
 else ((Zg w0).bind fun p5=>
 (Zf 3 p5).bind fun p6=>
 (ld1 h p6).bind fun x7=>
 (asI .i64 x7).bind fun n8=>
 (Zg w0).bind fun p9=>
 (Zf 4 p9).bind fun p10=>
 (ld1 h p10).bind fun x11=>
 (ZM (ZkR n8 x11 h) h).bind fun r12=>
 (Z6 r12 0).bind fun x13=>
 (asS x13).bind fun s14=>
 (Z6 r12 1).bind fun x15=>
 (asB x15).bind fun b16=>
 bif (!b16) then ((Zff w0 1 h).bind fun r17=>
 (asI .i64 r17.1).bind fun n18=>
 some ((.lit (.int .i64 n18)),r17.2))
 else ((Zg w0).bind fun p19=>
 (Zf 4 p19).bind fun p20=>
 (ld1 h p20).bind fun x21=>
 (ZcQ 1 x21 none (some 0) none).bind fun v22=>
 (Zg w0).bind fun p23=>
 (Zf 4 p23).bind fun p24=>
 (st1 h p24 v22).bind fun h25=>
 (Zg w0).bind fun p26=>
 (Zf 0 p26).bind fun p27=>
 (ldn 2 h25 p27).bind fun xs28=>
 (Zfe xs28 s14 h25).bind fun r29=>
 (asI .i64 r29.1).bind fun n30=>
 (Zff w0 n30 r29.2).bind fun r31=>
 (asI .i64 r31.1).bind fun n32=>
 some ((.lit (.int .i64 n32)),r31.2))):=by kernel_rfl
theorem Z53 {w0:AVal} {h h':Za} {v:AVal} {R:AEnd→Za→Prop} (hx:ZeH w0 h = some (v,h')) (hR:HOk h→h.length≤h'.length→ABody.AEnds h h' (.ret v) R):ACalls Tryz.prog 81 [w0] h R:=Zu Z8T Zo (i:=81) (by rfl) (by kernel_rfl) (by kernel_rfl) hx hR
noncomputable def Zl5:XC:=.l fun R args h K=>match args with
 | [a0]=>(ZeH a0 h).bind fun r=>K r.1 r.2
 |_=>none
theorem ZsV:XC.Nat Zl5∧XC.Ok Tryz.prog 81 Zl5:=by
 refine ⟨fun R args h K=>?_,tc81,fun args h v h' hx=>?_⟩
 ·dsimp only;split<;>simp[Option.bind_assoc,mkP]
 ·dsimp only at hx;split at hx
  ·obtain ⟨r,hopt,hx⟩:=Option.bind_eq_some_iff.1 hx
   simp only[mkP,Option.some.injEq,Prod.mk.injEq] at hx
   obtain ⟨rfl,rfl⟩:=hx
   exact (by obtain ⟨v,h'⟩:=r;exact Z53 hopt selfR)
  ·cases hx
noncomputable def Zxm:XE:={ T:=Zn [(3,r3),(4,r4),(9,r9),(25,r25),(26,r26),(52,r52),(54,r54),(59,r59),(65,r65),(67,r67),(102,r102),(104,ZeS)],C:=[(78,Zjl),(79,ZoF),(80,ZlF),(81,Zl5)],D:=[(5,⟨[],[],[],[],[],[0,1,2,3,4,5,6],[(7,[0,1,2,3,4]),(8,[0]),(9,[]),(10,[]),(11,[])]⟩),(6,⟨[],[0,1,2,3,4,5,6,7,8,9,10,11,12,13,14,15,16],[17],[],[],[],[]⟩)],Ms:=[],Ml:=[],Mo:=[],n:=53}
theorem Z8V:XE.Ok Zxm Tryz.prog:=⟨Zp (⟨Z0,⟨Z1,⟨Zz,⟨ZbQ,⟨ZbE,⟨Zby,⟨ZcN,⟨Zex,⟨Zci,⟨Zdg,⟨Zez,⟨Zfu,trivial⟩⟩⟩⟩⟩⟩⟩⟩⟩⟩⟩⟩),(⟨ZoC,⟨ZyW,⟨Zte,⟨ZsV,trivial⟩⟩⟩⟩),Zq,trivial⟩
noncomputable def ZeI (w0:AVal) (record1:ByteArray) (h:Za):Option (AVal×Za):=Zt Zxm f31 [w0,(.lit (.string record1))] h
theorem ZkC (w0:AVal) (record1:ByteArray) (h:Za):ZeI w0 record1 h =
 (Zv (ZcS w0 h) h).bind fun r1=>
 (asB r1).bind fun b2=>
 bif (!b2) then (some ((.lit (.int .i64 14)),h))
 else ((Zg w0).bind fun p3=>
 (Zf 3 p3).bind fun p4=>
 (ld1 h p4).bind fun x5=>
 (asI .i64 x5).bind fun n6=>
 bif (!decide ((record1.size:Int) = n6)) then (some ((.lit (.int .i64 1)),h))
 else ((Zg w0).bind fun p7=>
 (Zf 4 p7).bind fun p8=>
 (ld1 h p8).bind fun x9=>
 (Zd2 record1).bind fun r10=>
 (ZbW 1 [(.lit (.string ({ data:=#[]})))] 1 [(0,(.lit (.string r10)))] h).bind fun r11=>
 (ZcV ((((ld1 r11.2 p8).bind fun x12=>
 some x12):Option AVal) = some x9)).bind fun _=>
 (ZbY 1 16 r11.2 x9 r11.1).bind fun r13=>
 (Zg w0).bind fun p14=>
 (Zf 4 p14).bind fun p15=>
 (st1 r13.2 p15 r13.1).bind fun h16=>
 (Zg w0).bind fun p17=>
 (Zf 5 p17).bind fun p18=>
 (Zf 0 p18).bind fun p19=>
 (ld1 h16 p19).bind fun x20=>
 (asI .i64 x20).bind fun n21=>
 (Zg w0).bind fun p22=>
 (Zf 5 p22).bind fun p23=>
 (Zf 1 p23).bind fun p24=>
 (ld1 h16 p24).bind fun x25=>
 (asI .u32 x25).bind fun n26=>
 (ZgQ n26 record1).bind fun r27=>
 (Zg w0).bind fun p28=>
 (Zf 5 p28).bind fun p29=>
 (stn 2 h16 p29 ([(.lit (.int .i64 (IntKind.wrap .i64 (n21 + 1)))),(.lit (.int .u32 r27))])).bind fun h30=>
 (Zg w0).bind fun p31=>
 (Zf 4 p31).bind fun p32=>
 (ld1 h30 p32).bind fun x33=>
 (Zbb x33).bind fun n34=>
 bif (decide (n34 < 4)) then (some ((.lit (.int .i64 0)),h30))
 else ((ZeH w0 h30).bind fun r35=>
 (asI .i64 r35.1).bind fun n36=>
 some ((.lit (.int .i64 n36)),r35.2)))):=by kernel_rfl
theorem Z55 {w0:AVal} {record1:ByteArray} {h h':Za} {v:AVal} {R:AEnd→Za→Prop} (hx:ZeI w0 record1 h = some (v,h')) (hR:HOk h→h.length≤h'.length→ABody.AEnds h h' (.ret v) R):ACalls Tryz.prog 31 [w0,(.lit (.string record1))] h R:=Zu Z8V Zo (i:=31) (by rfl) (by kernel_rfl) (by kernel_rfl) hx hR
noncomputable def Zl7:XC:=.l fun R args h K=>match args with
 | [a0,.lit (.string a1)]=>(ZeI a0 a1 h).bind fun r=>K r.1 r.2
 |_=>none
theorem ZsX:XC.Nat Zl7∧XC.Ok Tryz.prog 31 Zl7:=by
 refine ⟨fun R args h K=>?_,tc31,fun args h v h' hx=>?_⟩
 ·dsimp only;split<;>simp[Option.bind_assoc,mkP]
 ·dsimp only at hx;split at hx
  ·obtain ⟨r,hopt,hx⟩:=Option.bind_eq_some_iff.1 hx
   simp only[mkP,Option.some.injEq,Prod.mk.injEq] at hx
   obtain ⟨rfl,rfl⟩:=hx
   exact (by obtain ⟨v,h'⟩:=r;exact Z55 hopt selfR)
  ·cases hx
noncomputable def Zxo:XE:={ T:=Zn [(3,r3),(4,r4),(9,r9),(25,r25),(52,r52),(54,r54),(59,r59),(65,r65),(67,r67),(102,r102),(104,ZeS)],C:=[],D:=[],Ms:=[],Ml:=[],Mo:=[],n:=10}
theorem Z8X:XE.Ok Zxo Tryz.prog:=⟨Zp (⟨Z0,⟨Z1,⟨Zz,⟨ZbQ,⟨Zby,⟨ZcN,⟨Zex,⟨Zci,⟨Zdg,⟨Zez,⟨Zfu,trivial⟩⟩⟩⟩⟩⟩⟩⟩⟩⟩⟩),trivial,Zq,trivial⟩
noncomputable def ZfA (w0:AVal) (h:Za):Option (AVal×Za):=Zt Zxo f33 [w0] h
theorem Zwc (w0:AVal) (h:Za):ZfA w0 h =
 (AVal.isNil .ptr w0).bind fun b1=>
 bif b1 then (some ((.lit (.int .i64 0)),h))
 else ((Zg w0).bind fun p2=>
 (Zf 5 p2).bind fun p3=>
 (Zf 0 p3).bind fun p4=>
 (ld1 h p4).bind fun x5=>
 (asI .i64 x5).bind fun n6=>
 some ((.lit (.int .i64 n6)),h)):=by kernel_rfl
theorem Z57 {w0:AVal} {h h':Za} {v:AVal} {R:AEnd→Za→Prop} (hx:ZfA w0 h = some (v,h')) (hR:HOk h→h.length≤h'.length→ABody.AEnds h h' (.ret v) R):ACalls Tryz.prog 33 [w0] h R:=Zu Z8X Zo (i:=33) (by rfl) (by kernel_rfl) (by kernel_rfl) hx hR
noncomputable def Zl8:XC:=.q fun R args h K=>match args with
 | [a0]=>(Zv (ZfA a0 h) h).bind fun r=>K r
 |_=>none
theorem ZsY:XC.Nat Zl8∧XC.Ok Tryz.prog 33 Zl8:=by
 refine ⟨fun R args h K=>?_,tc33,fun args h v hx=>?_⟩
 ·dsimp only;split<;>simp[Option.bind_assoc,mkP]
 ·dsimp only at hx;split at hx
  ·obtain ⟨r,hopt,hx⟩:=Option.bind_eq_some_iff.1 hx
   cases hx
   exact (by have hopt:=Zc7 hopt;exact Z57 hopt selfR)
  ·cases hx
noncomputable def ZnN:XE:={ T:=Zn [(3,r3),(4,r4),(9,r9),(25,r25),(26,r26),(52,r52),(54,r54),(59,r59),(65,r65),(67,r67),(102,r102),(104,ZeS)],C:=[(9,ZoW),(35,ZgA),(71,ZoM),(72,Zp7),(73,Zjk)],D:=[],Ms:=[(11,[13,14])],Ml:=[],Mo:=[],n:=51}
theorem Z8Z:XE.Ok ZnN Tryz.prog:=⟨Zp (⟨Z0,⟨Z1,⟨Zz,⟨ZbQ,⟨ZbE,⟨Zby,⟨ZcN,⟨Zex,⟨Zci,⟨Zdg,⟨Zez,⟨Zfu,trivial⟩⟩⟩⟩⟩⟩⟩⟩⟩⟩⟩⟩),(⟨Zzn,⟨Zjm,⟨Zzd,⟨ZzH,⟨ZoA,trivial⟩⟩⟩⟩⟩),Zq,trivial⟩
noncomputable def c28:Code:=ZP f28
noncomputable def Zdv (d0:AVal) (b1:AVal) (name2:ByteArray) (size3:Int) (h:Za):Option (AVal×Za):=Zt ZnN f28 [d0,b1,(.lit (.string name2)),(.lit (.int .i64 size3))] h
noncomputable def Zhj (w13:Nat) (e14:Int) (h:Za):Option (AVal×Za):=jn (Zl ZnN (cb (cb (cb (cb (cb (cb (cb c28))))))) (AVal×Za) [(13,(.ptr w13 0)),(14,(.lit (.int .i64 e14)))] h (Zj ZnN f28))
theorem Znh (d0:AVal) (b1:AVal) (name2:ByteArray) (size3:Int) (h:Za):Zdv d0 b1 name2 size3 h =
 (Zv (Zit size3 h) h).bind fun r1=>
 (Z6 r1 0).bind fun x2=>
 (asS x2).bind fun s3=>
 (Z6 r1 1).bind fun x4=>
 (asB x4).bind fun b6=>
 bif (!b6) then (some ((.tup [(.lit (.pointer none)),(.lit (.int .i64 1))]),h))
 else ((ZiH b1 4 h).bind fun r7=>
 (asI .i64 r7.1).bind fun n8=>
 bif (!decide (n8 = 0)) then (some ((.tup [(.lit (.pointer none)),(.lit (.int .i64 n8))]),r7.2))
 else ((Zcp (fun i=>[(0,1),(1,1)][i]?) [(.lit (.pointer none)),(.lit (.string ({ data:=#[]})))] [(0,d0),(1,(.lit (.string name2)))]).bind fun cs9=>
 (Zcp (fun i=>[(0,2),(2,1),(3,1),(4,1),(5,2),(7,1)][i]?) [(.lit (.pointer none)),(.lit (.string ({ data:=#[]}))),(.lit (.pointer none)),(.lit (.int .i64 0)),(.lit (.slice none 0 0)),(.lit (.int .i64 0)),(.lit (.int .u32 0)),(.lit (.bool false))] [(0,(.agg cs9)),(1,b1),(2,(.lit (.int .i64 size3))),(5,(.lit (.bool true)))]).bind fun cs10=>
 (Zhm d0 name2 ((psh r7.2 (.cells cs10)))).bind fun r11=>
 (asI .i64 r11.1).bind fun n12=>
 bif (decide (n12 = 0)) then ((ldn 2 r11.2 (.ptr r7.2.length 0)).bind fun xs13=>
 (Zfe xs13 s3 r11.2).bind fun r14=>
 (asI .i64 r14.1).bind fun n15=>
 Zhj r7.2.length n15 r14.2)
 else (Zhj r7.2.length n12 r11.2))):=by kernel_rfl
theorem Zrw (w13:Nat) (e14:Int) (h:Za):Zhj w13 e14 h =
 bif (!decide (e14 = 0)) then ((Zeg (.ptr w13 0) h).bind fun r16=>
 some ((.tup [(.lit (.pointer none)),(.lit (.int .i64 e14))]),r16.2))
 else (some ((.tup [(.ptr w13 0),(.lit (.int .i64 0))]),h)):=(ZF _).trans (by kernel_rfl)
theorem Z5A {d0:AVal} {b1:AVal} {name2:ByteArray} {size3:Int} {h h':Za} {v:AVal} {R:AEnd→Za→Prop} (hx:Zdv d0 b1 name2 size3 h = some (v,h')) (hR:HOk h→h.length≤h'.length→ABody.AEnds h h' (.ret v) R):ACalls Tryz.prog 28 [d0,b1,(.lit (.string name2)),(.lit (.int .i64 size3))] h R:=Zu Z8Z Zo (i:=28) (by rfl) (by kernel_rfl) (by kernel_rfl) hx hR
noncomputable def ZlA:XC:=.l fun R args h K=>match args with
 | [a0,a1,.lit (.string a2),.lit (.int .i64 a3)]=>(Zdv a0 a1 a2 a3 h).bind fun r=>K r.1 r.2
 |_=>none
theorem Zta:XC.Nat ZlA∧XC.Ok Tryz.prog 28 ZlA:=by
 refine ⟨fun R args h K=>?_,tc28,fun args h v h' hx=>?_⟩
 ·dsimp only;split<;>simp[Option.bind_assoc,mkP]
 ·dsimp only at hx;split at hx
  ·obtain ⟨r,hopt,hx⟩:=Option.bind_eq_some_iff.1 hx
   simp only[mkP,Option.some.injEq,Prod.mk.injEq] at hx
   obtain ⟨rfl,rfl⟩:=hx
   exact (by obtain ⟨v,h'⟩:=r;exact Z5A hopt selfR)
  ·cases hx
noncomputable def Zxp:XE:={ T:=Zn [(3,r3),(4,r4),(9,r9),(25,r25),(26,r26),(52,r52),(54,r54),(59,r59),(65,r65),(67,r67),(102,r102),(104,ZeS)],C:=[(73,Zjk)],D:=[(1,⟨[],[0,1,2,3,4],[5,6],[],[],[],[]⟩)],Ms:=[],Ml:=[],Mo:=[],n:=9}
theorem Z8Y:XE.Ok Zxp Tryz.prog:=⟨Zp (⟨Z0,⟨Z1,⟨Zz,⟨ZbQ,⟨ZbE,⟨Zby,⟨ZcN,⟨Zex,⟨Zci,⟨Zdg,⟨Zez,⟨Zfu,trivial⟩⟩⟩⟩⟩⟩⟩⟩⟩⟩⟩⟩),(⟨ZoA,trivial⟩),Zq,trivial⟩
noncomputable def ZkE (t0:AVal) (t1:AVal) (h:Za):Option (AVal×Za):=Zt Zxp f87 [t0,t1] h
theorem Zwd (t0:AVal) (t1:AVal) (h:Za):ZkE t0 t1 h =
 (ld1 h t0).bind fun x1=>
 (Zg x1).bind fun p2=>
 (Zf 0 p2).bind fun p3=>
 (ldn 2 h p3).bind fun xs4=>
 (ld1 h t1).bind fun x5=>
 (asS x5).bind fun s6=>
 (Zfe xs4 s6 h).bind fun r7=>
 (asI .i64 r7.1).bind fun n8=>
 some ((.lit (.int .i64 n8)),r7.2):=by kernel_rfl
theorem Z58 {t0:AVal} {t1:AVal} {h h':Za} {v:AVal} {R:AEnd→Za→Prop} (hx:ZkE t0 t1 h = some (v,h')) (hR:HOk h→h.length≤h'.length→ABody.AEnds h h' (.ret v) R):ACalls Tryz.prog 87 [t0,t1] h R:=Zu Z8Y Zo (i:=87) (by rfl) (by kernel_rfl) (by kernel_rfl) hx hR
noncomputable def ZoD:XC:=.l fun R args h K=>match args with
 | [a0,a1]=>(ZkE a0 a1 h).bind fun r=>K r.1 r.2
 |_=>none
theorem ZyU:XC.Nat ZoD∧XC.Ok Tryz.prog 87 ZoD:=by
 refine ⟨fun R args h K=>?_,Z0f,fun args h v h' hx=>?_⟩
 ·dsimp only;split<;>simp[Option.bind_assoc,mkP]
 ·dsimp only at hx;split at hx
  ·obtain ⟨r,hopt,hx⟩:=Option.bind_eq_some_iff.1 hx
   simp only[mkP,Option.some.injEq,Prod.mk.injEq] at hx
   obtain ⟨rfl,rfl⟩:=hx
   exact (by obtain ⟨v,h'⟩:=r;exact Z58 hopt selfR)
  ·cases hx
noncomputable def Ewriter_Writer_Close:XE:={ T:=Zn [(3,r3),(4,r4),(9,r9),(25,r25),(26,r26),(52,r52),(54,r54),(59,r59),(65,r65),(67,r67),(94,r94),(95,r95),(102,r102),(104,ZeS)],C:=[(35,ZgA),(78,Zjl),(81,Zl5),(85,Zpc),(86,Zl6),(87,ZoD),(88,ZoB)],D:=[(12,⟨[],[],[],[],[],[0,1],[(2,[0]),(3,[]),(4,[])]⟩)],Ms:=[(16,[1,2])],Ml:=[(10,[1,2,39,40,41])],Mo:=[],n:=60}
theorem Ewriter_Writer_Close_ok:XE.Ok Ewriter_Writer_Close Tryz.prog:=⟨Zp (⟨Z0,⟨Z1,⟨Zz,⟨ZbQ,⟨ZbE,⟨Zby,⟨ZcN,⟨Zex,⟨Zci,⟨Zdg,⟨Z1h,⟨Z1g,⟨Zez,⟨Zfu,trivial⟩⟩⟩⟩⟩⟩⟩⟩⟩⟩⟩⟩⟩⟩),(⟨Zjm,⟨ZoC,⟨ZsV,⟨Zzu,⟨ZsW,⟨ZyU,⟨ZyT,trivial⟩⟩⟩⟩⟩⟩⟩),Zq,trivial⟩
noncomputable def c37:Code:=ZP f37
noncomputable def ZeJ (w0:AVal) (h:Za):Option (AVal×Za):=Zt Ewriter_Writer_Close f37 [w0] h
noncomputable def ZfB (w1:Nat) (t2:Nat) (t39:AVal) (t40:Int) (t41:Int) (h:Za):Option (AVal×Za):=Zl Ewriter_Writer_Close (.loop (ca (ca (cb (ca (cb (cb (cb (cb (cb c37)))))))))) (AVal×Za) [(1,(.ptr w1 0)),(2,(.ptr t2 0)),(39,t39),(40,(.lit (.int .i64 t40))),(41,(.lit (.int .i64 t41)))] h (ZW 0 (Zi Ewriter_Writer_Close (cb (cb (cb (cb (cb (cb c37)))))) (Zj Ewriter_Writer_Close f37)))
noncomputable def Zrv (w1:Nat) (t2:Nat) (h:Za):Option (AVal×Za):=jn (Zl Ewriter_Writer_Close (cb (cb (cb (cb (cb (cb c37)))))) (AVal×Za) [(1,(.ptr w1 0)),(2,(.ptr t2 0))] h (Zj Ewriter_Writer_Close f37))
theorem ZkF (w0:AVal) (h:Za):ZeJ w0 h =
 (AVal.parts w0).bind fun vs1=>
 (ld1 ((psh ((psh h (.cells vs1))) (.cells [(.lit (.int .i64 0)),(.lit (.int .u32 0))]))) (.ptr h.length 0)).bind fun x2=>
 (Zv (ZcS x2 ((psh ((psh h (.cells vs1))) (.cells [(.lit (.int .i64 0)),(.lit (.int .u32 0))])))) ((psh ((psh h (.cells vs1))) (.cells [(.lit (.int .i64 0)),(.lit (.int .u32 0))])))).bind fun r3=>
 (asB r3).bind fun b4=>
 bif (!b4) then ((stn 2 ((psh ((psh h (.cells vs1))) (.cells [(.lit (.int .i64 0)),(.lit (.int .u32 0))]))) (.ptr (((psh h (.cells vs1))).length) 0) ([(.lit (.int .i64 0)),(.lit (.int .u32 0))])).bind fun h5=>
 (ldn 2 h5 (.ptr (((psh h (.cells vs1))).length) 0)).bind fun xs6=>
 some ((.tup [(.agg xs6),(.lit (.int .i64 14))]),h5))
 else ((ld1 ((psh ((psh h (.cells vs1))) (.cells [(.lit (.int .i64 0)),(.lit (.int .u32 0))]))) (.ptr h.length 0)).bind fun x7=>
 (ZeH x7 ((psh ((psh h (.cells vs1))) (.cells [(.lit (.int .i64 0)),(.lit (.int .u32 0))])))).bind fun r8=>
 (asI .i64 r8.1).bind fun n9=>
 bif (!decide (n9 = 0)) then ((stn 2 r8.2 (.ptr (((psh h (.cells vs1))).length) 0) ([(.lit (.int .i64 0)),(.lit (.int .u32 0))])).bind fun h10=>
 (ldn 2 h10 (.ptr (((psh h (.cells vs1))).length) 0)).bind fun xs11=>
 some ((.tup [(.agg xs11),(.lit (.int .i64 n9))]),h10))
 else ((ld1 r8.2 (.ptr h.length 0)).bind fun x12=>
 (Zg x12).bind fun p13=>
 (Zf 5 p13).bind fun p14=>
 (ldn 2 r8.2 p14).bind fun xs15=>
 (ZM (ZkQ xs15 r8.2) r8.2).bind fun r16=>
 (Z6 r16 0).bind fun x17=>
 (asS x17).bind fun s18=>
 (Z6 r16 1).bind fun x19=>
 (asB x19).bind fun b20=>
 (st1 ((psh r8.2 (.cells [(.lit (.string ({ data:=#[]})))]))) (.ptr r8.2.length 0) (.lit (.string s18))).bind fun h21=>
 bif (!b20) then ((ld1 h21 (.ptr h.length 0)).bind fun x22=>
 (Zff x22 1 h21).bind fun r23=>
 (asI .i64 r23.1).bind fun n24=>
 (stn 2 r23.2 (.ptr (((psh h (.cells vs1))).length) 0) ([(.lit (.int .i64 0)),(.lit (.int .u32 0))])).bind fun h25=>
 (ldn 2 h25 (.ptr (((psh h (.cells vs1))).length) 0)).bind fun xs26=>
 some ((.tup [(.agg xs26),(.lit (.int .i64 n24))]),h25))
 else ((ld1 h21 (.ptr h.length 0)).bind fun x27=>
 (Zg x27).bind fun p28=>
 (Zf 0 p28).bind fun p29=>
 (ldn 2 h21 p29).bind fun xs30=>
 (ZbW 1 [(.lit (.nilFunc))] 2 [(0,(.fn (.func 87) [] [(.ptr h.length 0),(.ptr r8.2.length 0)])),(1,(.fn (.func 88) [(.agg xs30)] []))] h21).bind fun r31=>
 (Zbb r31.1).bind fun n32=>
 ZfB h.length (((psh h (.cells vs1))).length) r31.1 n32 0 r31.2))):=by kernel_rfl
theorem Zng (w1:Nat) (t2:Nat) (t39:AVal) (t40:Int) (t41:Int) (h:Za):ZfB w1 t2 t39 t40 t41 h =
 bif (decide (t41 < t40)) then ((Zbc 1 t39 t41).bind fun p33=>
 (ld1 h p33).bind fun x34=>
 (ld1 h (.ptr w1 0)).bind fun x35=>
 ZmM Ewriter_Writer_Close.C Ewriter_Writer_Close.Y x34 [] h fun r36 h37=>
 (asI .i64 r36).bind fun n38=>
 (ZcV ((((ld1 h37 (.ptr w1 0)).bind fun x39=>
 some x39):Option AVal) = some x35)).bind fun _=>
 (Zff x35 n38 h37).bind fun r40=>
 (asI .i64 r40.1).bind fun n41=>
 bif (!decide (n41 = 0)) then ((stn 2 r40.2 (.ptr t2 0) ([(.lit (.int .i64 0)),(.lit (.int .u32 0))])).bind fun h42=>
 (ldn 2 h42 (.ptr t2 0)).bind fun xs43=>
 some ((.tup [(.agg xs43),(.lit (.int .i64 n41))]),h42))
 else (ZfB w1 t2 t39 t40 (IntKind.wrap .i64 (t41 + 1)) r40.2))
 else (Zrv w1 t2 h):=(ZbO Ewriter_Writer_Close Ewriter_Writer_Close_ok.C.nat _ _ _ _ _).trans (by kernel_rfl)
theorem Zwe (w1:Nat) (t2:Nat) (h:Za):Zrv w1 t2 h =
 (ld1 h (.ptr w1 0)).bind fun x44=>
 (Zeg x44 h).bind fun r45=>
 (ld1 r45.2 (.ptr w1 0)).bind fun x46=>
 (Zg x46).bind fun p47=>
 (Zf 5 p47).bind fun p48=>
 (ldn 2 r45.2 p48).bind fun xs49=>
 (stn 2 r45.2 (.ptr t2 0) xs49).bind fun h50=>
 (ldn 2 h50 (.ptr t2 0)).bind fun xs51=>
 some ((.tup [(.agg xs51),(.lit (.int .i64 0))]),h50):=(ZF _).trans (by kernel_rfl)
theorem Z59 {w0:AVal} {h h':Za} {v:AVal} {R:AEnd→Za→Prop} (hx:ZeJ w0 h = some (v,h')) (hR:HOk h→h.length≤h'.length→ABody.AEnds h h' (.ret v) R):ACalls Tryz.prog 37 [w0] h R:=Zu Ewriter_Writer_Close_ok Zo (i:=37) (by rfl) (by kernel_rfl) (by kernel_rfl) hx hR
noncomputable def Zl9:XC:=.l fun R args h K=>match args with
 | [a0]=>(ZeJ a0 h).bind fun r=>K r.1 r.2
 |_=>none
theorem ZsZ:XC.Nat Zl9∧XC.Ok Tryz.prog 37 Zl9:=by
 refine ⟨fun R args h K=>?_,tc37,fun args h v h' hx=>?_⟩
 ·dsimp only;split<;>simp[Option.bind_assoc,mkP]
 ·dsimp only at hx;split at hx
  ·obtain ⟨r,hopt,hx⟩:=Option.bind_eq_some_iff.1 hx
   simp only[mkP,Option.some.injEq,Prod.mk.injEq] at hx
   obtain ⟨rfl,rfl⟩:=hx
   exact (by obtain ⟨v,h'⟩:=r;exact Z59 hopt selfR)
  ·cases hx
end Go.Proofs.YtogaiomakhapmaaGreat.AL
namespace Go.Proofs.YtogaiomakhapmaaGreat.AL
set_option maxRecDepth 100000
open Go
open Go.Proofs.Tryz
def Zbl (m now hi:Int):List AVal:=[.lit (.bool true),.lit (.int .i64 m),.lit (.int .i64 now),.lit (.int .i64 hi)]
section bud
variable {h:Za} {b:Nat} {m now hi:Int}
theorem Zii (B:Zb h b = some (Zbl m now hi)):Zv (Zfi (.ptr b 0) h) h = some (.lit (.bool true)):=by
 have:Zfi (.ptr b 0) h = some (.lit (.bool true),h):=by
  rw[Z8B]
  refine bd rfl (cT rfl (bd rfl (bd rfl (bd (Zc B) (bd rfl ?_)))))
  rw[Z8D]
 rw[this];exact ZbI _ _
theorem ZvA (B:Zb h b = some (Zbl m now hi)) (h1:0≤now) (h2:now≤m) (h3:m≤9223372036854775807):Zv (ZiI (.ptr b 0) h) h = some (.lit (.int .i64 (m - now))):=by
 have:ZiI (.ptr b 0) h = some (.lit (.int .i64 (m - now)),h):=by
  rw[Z8H]
  refine bd (Zii B) (bd rfl (cF rfl (bd rfl (bd rfl (bd (Zc B) (bd rfl (bd rfl (bd rfl (bd (Zc B) (bd rfl ?_))))))))))
  rw[wrap_i64 (by omega) (by omega)]
 rw[this];exact ZbI _ _
theorem Zrc (B:Zb h b = some (Zbl m now hi)):Zv (Zgv (.ptr b 0) h) h = some (.lit (.int .i64 now)):=by
 have:Zgv (.ptr b 0) h = some (.lit (.int .i64 now),h):=by
  rw[Z8F]
  exact bd (Zii B) (bd rfl (cF rfl (bd rfl (bd rfl (bd (Zc B) (bd rfl rfl))))))
 rw[this];exact ZbI _ _
theorem Z4p (B:Zb h b = some (Zbl m now hi)):Zv (ZiJ (.ptr b 0) h) h = some (.lit (.int .i64 hi)):=by
 have:ZiJ (.ptr b 0) h = some (.lit (.int .i64 hi),h):=by
  rw[Z8J]
  exact bd (Zii B) (bd rfl (cF rfl (bd rfl (bd rfl (bd (Zc B) (bd rfl rfl))))))
 rw[this];exact ZbI _ _
theorem Zv4 (B:Zb h b = some (Zbl m now hi)) {n:Int} (h0:0≤n) (h1:0≤now) (h2:now + n≤m) (h3:m≤9223372036854775807):
  ∃ g,ZiH (.ptr b 0) n h = some (.lit (.int .i64 0),g)∧Zb g b = some (Zbl m (now + n) (Zs hi (now + n)))∧Keep h.length [b] h g:=by
 have c1:Zb (h.set b (.cells (Zbl m (now + n) hi))) b = some (Zbl m (now + n) hi):=Zm B
 refine ⟨(h.set b (.cells (Zbl m (now + n) hi))).set b (.cells (Zbl m (now + n) (Zs hi (now + n)))),?_,Zm c1,(Keep.set (.inr (by simp))).trans (Keep.set (.inr (by simp)))⟩
 rw[Zxg]
 refine bd (Zii B) (bd rfl (cF rfl ?_))
 rw[Zxh]
 refine cF (decide_eq_false (by omega)) (bd (ZvA B h1 (by omega) h3) (bd rfl (cF (decide_eq_false (by omega)) (bd rfl (bd rfl (bd (Zc B) (bd rfl ?_)))))))
 rw[wrap_i64 (by omega) (by omega)]
 refine bd rfl (bd rfl (bd (Zbq B rfl (by show 2 < 4;omega)) ?_))
 show (Zg (.ptr b 0)).bind _ = _
 refine bd rfl (bd rfl (bd (Zc c1) (bd rfl (bd rfl (bd rfl (bd (Zc c1) (bd rfl (bd rfl (bd rfl (bd (Zbq c1 rfl (by show 3 < 4;omega)) rfl))))))))))
theorem Zrh (B:Zb h b = some (Zbl m now hi)) {n:Int} (h0:0≤n) (h1:n≤now) (h3:now≤4611686018427387904):
  ∃ g,Zlh (.ptr b 0) n h = some (.tup [],g)∧Zb g b = some (Zbl m (now - n) hi)∧Keep h.length [b] h g:=by
 refine ⟨h.set b (.cells (Zbl m (now - n) hi)),?_,Zm B,Keep.set (.inr (by simp))⟩
 rw[Z8L]
 refine bd (Zii B) (bd rfl (cT rfl ?_))
 rw[Z8N]
 refine cT (decide_eq_true (by omega)) (bd rfl (bd rfl (bd (Zc B) (bd rfl (bd rfl (bd rfl (bd (Zc B) (bd rfl ?_))))))))
 rw[show ZbB n now = n by unfold ZbB;split<;>omega,wrap_i64 (by omega) (by omega)]
 exact bd rfl (bd rfl (bd (Zbq B rfl (by show 2 < 4;omega)) rfl))
end bud
structure UpW (D:Dsk) (R:Int) (t:ByteArray):Prop where
 down:D.down = false
 fuse:D.fuse = -1
 used:D.used = (t.size:Int)
 room:D.room = R
theorem UpW.off {D:Dsk} {R:Int} {t:ByteArray} (U:UpW D R t):Zb3 D = false:=by unfold Zb3;rw[U.down,U.fuse];rfl
theorem UpW.call {D:Dsk} {R:Int} {t:ByteArray} (U:UpW D R t):UpW (ZbM D) R t:=⟨U.off,by unfold ZbM;simp only;rw[if_neg (by rw[U.fuse];omega)];exact U.fuse,U.used,U.room⟩
section disk
variable {h:Za} {d mb:Nat} {D:Dsk} {R:Int} {t name:ByteArray} {k:Int}
theorem Ze7 (U:UpW D R t) (hr:Zbp name = true):ZA D [(name,t,k)] name true = ((t,k),0):=by
 unfold ZA
 rw[hr,U.off]
 simp[Zcu]
theorem ZeZ (hr:Zbp name = true):Zbt D name true = ZbM D:=by unfold Zbt;rw[hr];rfl
theorem Zqy (A:DiskAt h d mb D [(name,t,k)]) (U:UpW D R t) (hr:Zbp name = true) (hn:name.size≤100) {b:ByteArray} (h1:(t.size:Int) + (b.size:Int)≤R) (h2:R≤16777216):
  ∃ g D',Zfe [.ptr d 0,.lit (.string name)] b h = some (.lit (.int .i64 0),g)∧DiskAt g d mb D' [(name,t++b,k)]∧UpW D' R (t++b)∧Keep h.length [d,mb] h g:=by
 have c0:Zb (psh h (.cells [.ptr d 0,.lit (.string name)])) h.length = some [.ptr d 0,.lit (.string name)]:=ZU h _
 have K0:Keep h.length [d,mb] h (psh h (.cells [.ptr d 0,.lit (.string name)])):=Keep.psh _ (Nat.le_refl _)
 have A0:=A.dh.psh (.cells [.ptr d 0,.lit (.string name)])
 have e0:ZdI D [(name,t,k)] name b = 0:=by
  unfold ZdI
  rw[Ze7 U hr,if_neg (by simp)]
  have:Zga D b = false:=by
   unfold Zga
   rw[U.room,U.used,wrap_i64 (by omega) (by omega)]
   exact decide_eq_false (by omega)
  rw[this];rfl
 obtain ⟨g,e1,H1,T1,l1⟩:=ZvM A0.1 name b (by omega) (fun _=>by rw[Ze7 U hr];show t.size + b.size≤_;omega)
 rw[e0] at e1
 have eL:Zil D [(name,t,k)] name b = [(name,t++b,k)]:=by
  unfold Zil
  rw[if_pos e0,Ze7 U hr]
  simp[ZcP]
 have eD:Zim D [(name,t,k)] name b = { ZbM D with used:=((t++b).size:Int)}:=by
  unfold Zim
  rw[if_pos e0,ZeZ hr,U.used,wrap_i64 (by omega) (by omega),ByteArray.size_append]
  congr 1
 rw[eL,eD] at H1
 refine ⟨g,_,?_,H1.disk,⟨U.call.down,U.call.fuse,rfl,U.call.room⟩,H1.keep⟩
 rw[Zwa]
 exact bd (Zc c0) (bd (Zc c0) (bd rfl (bd e1 (bd rfl rfl))))
theorem Z28 (A:DiskAt h d mb D [(name,t,k)]) (U:UpW D R t) (hr:Zbp name = true) (hn:name.size≤100):
  ∃ g D',Zhi [.ptr d 0,.lit (.string name)] h = some (.lit (.int .i64 0),g)∧DiskAt g d mb D' [(name,t,(t.size:Int))]∧UpW D' R t∧Keep h.length [d,mb] h g:=by
 have c0:Zb (psh h (.cells [.ptr d 0,.lit (.string name)])) h.length = some [.ptr d 0,.lit (.string name)]:=ZU h _
 have A0:=A.dh.psh (.cells [.ptr d 0,.lit (.string name)])
 obtain ⟨g,e1,H1,T1,l1⟩:=Zt3 A0.1 name (by omega)
 rw[Ze7 U hr] at e1
 have eL:ZhE D [(name,t,k)] name = [(name,t,(t.size:Int))]:=by
  unfold ZhE
  rw[Ze7 U hr]
  simp[ZcP]
 rw[eL,ZeZ hr] at H1
 refine ⟨g,_,?_,H1.disk,U.call,H1.keep⟩
 rw[Zwb]
 exact bd (Zc c0) (bd (Zc c0) (bd rfl (bd e1 (bd rfl rfl))))
end disk
end Go.Proofs.YtogaiomakhapmaaGreat.AL
namespace Go.Proofs.YtogaiomakhapmaaGreat.AL
set_option maxRecDepth 100000
open Go
open Go.Proofs.Tryz
structure WLoc where
 d:Nat
 mb:Nat
 bb:Nat
 wp:Nat
def WLoc.In (L:WLoc) (c:Nat):Prop:=c = L.d∨c = L.mb∨c = L.bb∨c = L.wp
structure Wrt where
 R:Int
 t:ByteArray
 k:Int
 m:Int
 now:Int
 hi:Int
 name:ByteArray
 n:Nat
 wt:List ByteArray
 c:Nat
 s:BitVec 32
 op:Bool
def Zbe (L:WLoc) (x:Wrt) (v:AVal):List AVal:=[.ptr L.d 0,.lit (.string x.name),.ptr L.bb 0,.lit (.int .i64 (x.n:Int)),v,.lit (.int .i64 (x.c:Int)),.lit (.int .u32 (u32 x.s)),.lit (.bool x.op)]
def Wt (h:Za) (v:AVal) (ss:List ByteArray):Prop:=(v = .lit (.slice none 0 0)∧ss = [])∨∃ b cs,v = .sl 1 b 0 ss.length∧Zb h b = some cs∧cs.take ss.length = ZX ss∧ss.length≤cs.length
structure WS (L:WLoc) (h:Za) (x:Wrt) (v:AVal):Prop where
 A:∃ D,DiskAt h L.d L.mb D [(x.name,x.t,x.k)]∧UpW D x.R x.t
 B:Zb h L.bb = some (Zbl x.m x.now x.hi)
 W:Zb h L.wp = some (Zbe L x v)
 V:Wt h v x.wt
 ne:(L.wp≠L.d∧L.wp≠L.mb∧L.wp≠L.bb)∧L.bb≠L.d∧L.bb≠L.mb
 nv:∀ b,At v b→¬L.In b
structure WFr (L:WLoc) (h g:Za) (v v':AVal):Prop where
 len:h.length≤g.length
 get:∀ c,c < h.length→¬L.In c→¬At v c→g[c]? = h[c]?
 at':∀ b,At v' b→At v b∨h.length≤b
theorem WFr.refl (L:WLoc) (h:Za) (v:AVal):WFr L h h v v:=⟨Nat.le_refl _,fun _ _ _ _=>rfl,fun _ h=>.inl h⟩
theorem WFr.trans {L:WLoc} {h g g':Za} {v v' v'':AVal} (a:WFr L h g v v') (b:WFr L g g' v' v''):WFr L h g' v v'':=
 ⟨Nat.le_trans a.len b.len,fun c hc hl hv=>(b.get c (Nat.lt_of_lt_of_le hc a.len) hl (fun h=>(a.at' c h).elim hv (fun h=>by omega))).trans (a.get c hc hl hv),fun c hc=>(b.at' c hc).elim (fun h=>a.at' c h) (fun h=>.inr (Nat.le_trans a.len h))⟩
theorem Wt.sl {h:Za} {v:AVal} {ss:List ByteArray} (V:Wt h v ss):Sl 1 h v ss.length (ZX ss):=by
 rcases V with ⟨rfl,rfl⟩ | ⟨b,cs,rfl,H,h1,h2⟩
 ·exact Sl.nil _ _
 ·exact ⟨by simp[ZX],rfl,rfl,cs,H,by omega,by rw[List.drop_zero,Nat.mul_one];exact h1⟩
theorem Wt.keep {h g:Za} {v:AVal} {ss:List ByteArray} (V:Wt h v ss) (K:∀ b,b < h.length→At v b→g[b]? = h[b]?):Wt g v ss:=by
 rcases V with ⟨rfl,rfl⟩ | ⟨b,cs,rfl,H,h1,h2⟩
 ·exact .inl ⟨rfl,rfl⟩
 ·refine .inr ⟨b,cs,rfl,?_,h1,h2⟩
  have:=ZbV H
  unfold Zb
  rw[K b (ZB H) ⟨_,_,_,rfl⟩,this]
theorem Wt.lt {h:Za} {v:AVal} {ss:List ByteArray} (V:Wt h v ss) {b:Nat} (hb:At v b):b < h.length:=by
 obtain ⟨_,_,_,e⟩:=hb
 rcases V with ⟨rfl,rfl⟩ | ⟨b',cs,rfl,H,h1,h2⟩
 ·cases e
 ·cases e;exact ZB H
theorem Wt.cut {h:Za} {v:AVal} {ss:List ByteArray} (V:Wt h v ss):∃ v',ZcQ 1 v none (some 0) none = some v'∧Wt h v' []∧∀ b,At v' b→At v b:=by
 rcases V with ⟨rfl,rfl⟩ | ⟨b,cs,rfl,H,h1,h2⟩
 ·exact ⟨_,rfl,.inl ⟨rfl,rfl⟩,fun b hb=>hb⟩
 ·refine ⟨.sl 1 b 0 0,?_,.inr ⟨b,cs,rfl,H,rfl,by simp⟩,fun c hc=>?_⟩
  ·unfold ZcQ
   simp only[Nat.beq_refl]
   rw[Z8 ⟨by simp,by simp,by simp,fun m hm=>by cases hm⟩]
   rfl
  ·obtain ⟨_,_,_,e⟩:=hc;cases e;exact ⟨_,_,_,rfl⟩
theorem Wt.push {h:Za} {v:AVal} {ss:List ByteArray} (V:Wt h v ss) (r:ByteArray) (hl:ss.length≤1000):
  ∃ v' g,ZbY 1 16 (h++[.cells [.lit (.string r)]]) v (.sl 1 h.length 0 1) = some (v',g)∧Wt g v' (ss++[r])∧h.length≤g.length∧(∀ b,At v' b→h.length≤b)∧∀ c,c < h.length→¬At v c→g[c]? = h[c]?:=by
 have hsrc:Zcs (h++[.cells [.lit (.string r)]]) 1 (.sl 1 h.length 0 1) 1 = some [.lit (.string r)]:=by
  unfold Zcs
  simp
 rcases V with ⟨rfl,rfl⟩ | ⟨b,cs,rfl,H,h1,h2⟩
 ·refine ⟨.sl 1 (h.length + 1) 0 1,(h++[.cells [.lit (.string r)]])++[.cells [.lit (.string r)]],?_,.inr ⟨h.length + 1,[.lit (.string r)],rfl,by simp[Zb],rfl,Nat.le_refl _⟩,by simp,fun b hb=>?_,fun c hc _=>?_⟩
  ·unfold ZbY
   rw[show srcLen (.sl 1 h.length 0 1) = some 1 from rfl,Option.bind_some,hsrc,Option.bind_some]
   simp only
   rw[Z8 (by omega)]
   simp
  ·obtain ⟨_,_,_,e⟩:=hb;cases e;omega
  ·rw[List.getElem?_append_left (by simp;omega),List.getElem?_append_left hc]
 ·have hb:=ZB H
  have H':Zb (h++[.cells [.lit (.string r)]]) b = some cs:=ZdF _ H
  refine ⟨.sl 1 (h.length + 1) 0 (ss.length + 1),((h++[AObj.cells [.lit (.string r)]]).set b .dead)++[AObj.cells (ZX ss++[.lit (.string r)])],?_,.inr ⟨h.length + 1,ZX ss++[.lit (.string r)],by simp,by simp[Zb],?_,by simp[ZX]⟩,by simp;omega,fun c hc=>?_,fun c hc hn=>?_⟩
  ·unfold ZbY
   rw[show srcLen (.sl 1 h.length 0 1) = some 1 from rfl,Option.bind_some,hsrc,Option.bind_some]
   simp only
   rw[H',Option.bind_some,Z8 ⟨trivial,by omega,by omega,rfl⟩,Option.bind_some,List.drop_zero,Nat.mul_one,h1]
   simp
  ·rw[List.take_of_length_le (by simp[ZX])];simp[ZX]
  ·obtain ⟨_,_,_,e⟩:=hc;cases e;omega
  ·rw[List.getElem?_append_left (by simp;omega),List.getElem?_set_ne (fun e=>hn ⟨_,_,_,by rw[e]⟩),List.getElem?_append_left hc]
section wtr
variable {L:WLoc} {h:Za} {x:Wrt} {v:AVal}
structure WOk (x:Wrt):Prop where
 right:Zbp x.name = true
 nm:x.name.size≤100
 n1:1≤x.n
 n2:x.n≤64
 R:x.R≤16777216
 wl:x.wt.length≤4
 wa:∀ s∈x.wt,s.size = x.n
theorem Zo9 (S:WS L h x v):Zv (ZcS (.ptr L.wp 0) h) h = some (.lit (.bool x.op)):=by
 have:ZcS (.ptr L.wp 0) h = some (.lit (.bool x.op),h):=by
  rw[ZkA]
  refine bd rfl (cT rfl (bd rfl (bd rfl (bd (Zc S.W) (bd rfl ?_)))))
  rw[ZkB]
 rw[this];exact ZbI _ _
theorem ZyQ (S:WS L h x v) (ho:x.op = true) (h4:4≤x.now) (h3:x.now≤4611686018427387904):
  ∃ g,Zeg (.ptr L.wp 0) h = some (.tup [],g)∧WS L g { x with op:=false,now:=x.now - 4} v∧WFr L h g v v:=by
 have W1:Zb (h.set L.wp (.cells (Zbe L { x with op:=false} v))) L.wp = some (Zbe L { x with op:=false} v):=Zm S.W
 have B1:Zb (h.set L.wp (.cells (Zbe L { x with op:=false} v))) L.bb = some (Zbl x.m x.now x.hi):=Zdt _ S.ne.1.2.2 S.B
 obtain ⟨g,e1,B2,K⟩:=Zrh B1 (n:=4) (by omega) h4 h3
 have K0:Keep h.length [L.wp] h (h.set L.wp (.cells (Zbe L { x with op:=false} v))):=Keep.set (.inr (by simp))
 have K1:Keep h.length [L.wp,L.bb] h g:=(K0.less (Nat.le_refl _) (by simp)).trans (K.less K0.len (by simp))
 obtain ⟨D,A,U⟩:=S.A
 refine ⟨g,?_,⟨⟨D,A.keep K1 ⟨ZB A.dcs,?_⟩ ⟨ZE A.ms,?_⟩,U⟩,B2,?_,S.V.keep fun b hb hv=>K1.get b hb ?_,S.ne,S.nv⟩,⟨K1.len,fun c hc hl hv=>K1.get c hc ?_,fun b hb=>.inl hb⟩⟩
 ·rw[ZkD]
  refine bd (Zo9 S) (bd rfl (cT ho (bd rfl (bd rfl (bd (Zbq S.W rfl (by show 7 < 8;omega)) ?_)))))
  exact bd rfl (bd rfl (bd (Zc W1) (bd e1 rfl)))
 ·simp only[List.mem_cons,List.not_mem_nil,or_false,not_or];exact ⟨Ne.symm S.ne.1.1,Ne.symm S.ne.2.1⟩
 ·simp only[List.mem_cons,List.not_mem_nil,or_false,not_or];exact ⟨Ne.symm S.ne.1.2.1,Ne.symm S.ne.2.2⟩
 ·exact K.cells (ZB W1) (by simp only[List.mem_cons,List.not_mem_nil,or_false];exact S.ne.1.2.2) W1
 ·have:=S.nv b hv
  simp only[List.mem_cons,List.not_mem_nil,or_false,not_or]
  exact ⟨fun e=>this (.inr (.inr (.inr e))),fun e=>this (.inr (.inr (.inl e)))⟩
 ·simp only[List.mem_cons,List.not_mem_nil,or_false,not_or]
  exact ⟨fun e=>hl (.inr (.inr (.inr e))),fun e=>hl (.inr (.inr (.inl e)))⟩
theorem Zv6 (w:AVal):Zff w 0 h = some (.lit (.int .i64 0),h):=by
 rw[Zrs]
 refine cF rfl ?_
 rw[Zrt]
theorem ZyO (S:WS L h x v) (h0:x.wt = []):ZeH (.ptr L.wp 0) h = some (.lit (.int .i64 0),h):=by
 have hl:=S.V.sl.len
 rw[h0] at hl
 rw[Znf]
 exact bd rfl (bd rfl (bd (Zc S.W) (bd hl (cT rfl rfl))))
theorem WS.disk {g:Za} {t':ByteArray} {k':Int} {D':Dsk} (S:WS L h x v) (A':DiskAt g L.d L.mb D' [(x.name,t',k')]) (U':UpW D' x.R t') (K:Keep h.length [L.d,L.mb] h g):WS L g { x with t:=t',k:=k'} v∧WFr L h g v v:=by
 refine ⟨⟨⟨D',A',U'⟩,K.cells (ZB S.B) ?_ S.B,K.cells (ZB S.W) ?_ S.W,S.V.keep fun b hb hv=>K.get b hb ?_,S.ne,S.nv⟩,⟨K.len,fun c hc hl hv=>K.get c hc ?_,fun b hb=>.inl hb⟩⟩
 ·simp only[List.mem_cons,List.not_mem_nil,or_false,not_or];exact S.ne.2
 ·simp only[List.mem_cons,List.not_mem_nil,or_false,not_or];exact ⟨S.ne.1.1,S.ne.1.2.1⟩
 ·have:=S.nv b hv
  simp only[List.mem_cons,List.not_mem_nil,or_false,not_or]
  exact ⟨fun e=>this (.inl e),fun e=>this (.inr (.inl e))⟩
 ·simp only[List.mem_cons,List.not_mem_nil,or_false,not_or]
  exact ⟨fun e=>hl (.inl e),fun e=>hl (.inr (.inl e))⟩
theorem ZsQ (S:WS L h x v) (O:WOk x) (h0:x.wt≠[]) (hroom:(x.t.size:Int) + (((Z7 x.wt).length + 5:Nat):Int)≤x.R):
  ∃ g v',ZeH (.ptr L.wp 0) h = some (.lit (.int .i64 0),g)∧WS L g { x with t:=x.t++ZZ x.wt,wt:=[]} v'∧WFr L h g v v':=by
 have hpos:0 < x.wt.length:=List.length_pos_iff.2 h0
 have hp:=ZuX O.n1 O.n2 S.V.sl (by omega) O.wl O.wa
 obtain ⟨v',c1,V',at'⟩:=S.V.cut
 have hv1:v'.one = true:=by
  rcases V' with ⟨rfl,_⟩ | ⟨b,cs,rfl,_⟩<;>rfl
 obtain ⟨h1,hh1⟩:∃ h1,h1 = h.set L.wp (.cells (Zbe L { x with wt:=[]} v')):=⟨_,rfl⟩
 have W1:Zb h1 L.wp = some (Zbe L { x with wt:=[]} v'):=by rw[hh1];exact Zm S.W
 have K0:Keep h.length [L.wp] h h1:=by rw[hh1];exact Keep.set (.inr (by simp))
 obtain ⟨D,A,U⟩:=S.A
 have nw:∀ c,¬L.In c→c∉[L.wp]:=fun c hc=>by simp only[List.mem_cons,List.not_mem_nil,or_false];exact fun e=>hc (.inr (.inr (.inr e)))
 have S1:WS L h1 { x with wt:=[]} v':=by
  refine ⟨⟨D,A.keep K0 ⟨ZB A.dcs,?_⟩ ⟨ZE A.ms,?_⟩,U⟩,K0.cells (ZB S.B) ?_ S.B,W1,V'.keep fun b hb hv=>K0.get b hb (nw b (S.nv b (at' b hv))),S.ne,fun b hb=>S.nv b (at' b hb)⟩
  ·simp only[List.mem_cons,List.not_mem_nil,or_false];exact Ne.symm S.ne.1.1
  ·simp only[List.mem_cons,List.not_mem_nil,or_false];exact Ne.symm S.ne.1.2.1
  ·simp only[List.mem_cons,List.not_mem_nil,or_false];exact Ne.symm S.ne.1.2.2
 have F1:WFr L h h1 v v':=⟨K0.len,fun c hc hl hv=>K0.get c hc (nw c hl),fun b hb=>.inl (at' b hb)⟩
 obtain ⟨D1,A1,U1⟩:=S1.A
 obtain ⟨g,D2,e1,A2,U2,K2⟩:=Zqy A1 U1 O.right O.nm (b:=ZZ x.wt) (by rw[Zf6];exact hroom) O.R
 obtain ⟨S2,F2⟩:=S1.disk A2 U2 K2
 refine ⟨g,v',?_,S2,F1.trans F2⟩
 have st:st1 h (.ptr L.wp (0 + 4)) v' = some h1:=by rw[hh1];exact Zbq S.W hv1 (by show 4 < 8;omega)
 rw[Znf]
 refine bd rfl (bd rfl (bd (Zc S.W) (bd S.V.sl.len (cF (decide_eq_false (by omega)) (bd rfl (bd rfl (bd (Zc S.W) (bd rfl (bd rfl (bd rfl (bd (Zc S.W) (bd hp ?_))))))))))))
 refine bd rfl (bd rfl (bd rfl (bd rfl (cF rfl (bd rfl (bd rfl (bd (Zc S.W) (bd c1 (bd rfl (bd rfl (bd st ?_)))))))))))
 refine bd rfl (bd rfl (bd (Zbh W1 (by show 2≤8;omega)) (bd e1 (bd rfl (bd (Zv6 _) rfl)))))
end wtr
end Go.Proofs.YtogaiomakhapmaaGreat.AL
namespace Go.Proofs.YtogaiomakhapmaaGreat.AL
set_option maxRecDepth 100000
open Go
open Go.Proofs.Tryz
theorem ZO {h g:Za} {c:Nat} (e:g[c]? = h[c]?):Zb g c = Zb h c:=by unfold Zb;rw[e]
theorem Zkf (z s:ByteArray) (h:Za):ZbW 1 [.lit (.string z)] 1 [(0,.lit (.string s))] h = some (.sl 1 h.length 0 1,h++[.cells [.lit (.string s)]]):=rfl
section wtr
variable {L:WLoc} {h g:Za} {x:Wrt} {v:AVal}
theorem WS.lt (S:WS L h x v) {c:Nat} (hc:L.In c):c < h.length:=by
 obtain ⟨D,A,U⟩:=S.A
 rcases hc with rfl |rfl |rfl |rfl
 ·exact ZB A.dcs
 ·exact ZE A.ms
 ·exact ZB S.B
 ·exact ZB S.W
theorem WS.moved (S:WS L h x v) {y:Wrt} {v':AVal} (hl:h.length≤g.length) (hg:∀ c,c < h.length→c≠L.wp→¬At v c→g[c]? = h[c]?) (W':Zb g L.wp = some (Zbe L y v')) (V':Wt g v' y.wt)
  (ha:∀ b,At v' b→At v b∨h.length≤b) (hy:y.R = x.R∧y.t = x.t∧y.k = x.k∧y.m = x.m∧y.now = x.now∧y.hi = x.hi∧y.name = x.name):WS L g y v'∧WFr L h g v v':=by
 obtain ⟨y1,y2,y3,y4,y5,y6,y7⟩:=hy
 obtain ⟨D,A,U⟩:=S.A
 have get:∀ c,L.In c→c≠L.wp→g[c]? = h[c]?:=fun c hc hn=>hg c (S.lt hc) hn fun hv=>S.nv c hv hc
 refine ⟨⟨⟨D,⟨?_,?_⟩,?_⟩,?_,W',V',S.ne,fun b hb hi=>(ha b hb).elim (fun h=>S.nv b h hi) fun h=>?_⟩,⟨hl,fun c hc hi hv=>hg c hc (fun e=>hi (.inr (.inr (.inr e)))) hv,ha⟩⟩
 ·rw[ZO (get _ (.inl rfl) (Ne.symm S.ne.1.1))];exact A.dcs
 ·rw[get _ (.inr (.inl rfl)) (Ne.symm S.ne.1.2.1),y2,y3,y7];exact A.ms
 ·rw[y1,y2];exact U
 ·rw[ZO (get _ (.inr (.inr (.inl rfl))) (Ne.symm S.ne.1.2.2)),y4,y5,y6];exact S.B
 ·have:=S.lt hi;omega
theorem WFr.cells {v':AVal} {c:Nat} {cs:List AVal} (F:WFr L h g v v') (hc:Zb h c = some cs) (hi:¬L.In c) (hv:¬At v c):Zb g c = some cs∧¬At v' c:=by
 refine ⟨by rw[ZO (F.get c (ZB hc) hi hv)];exact hc,fun h=>(F.at' c h).elim hv fun h=>?_⟩
 have:=ZB hc
 omega
theorem WS.far (S:WS L h x v) (hl:h.length≤g.length) (hg:∀ c,c < h.length→g[c]? = h[c]?):WS L g x v∧WFr L h g v v:=
 S.moved hl (fun c hc _ _=>hg c hc) (by rw[ZO (hg _ (S.lt (.inr (.inr (.inr rfl)))))];exact S.W) (S.V.keep fun b hb _=>hg b hb) (fun b hb=>.inl hb) ⟨rfl,rfl,rfl,rfl,rfl,rfl,rfl⟩
theorem WS.new (S:WS L h x v) {c:Nat} (hc:h.length≤c):¬L.In c∧¬At v c:=⟨fun hi=>by have:=S.lt hi;omega,fun hv=>by have:=S.V.lt hv;omega⟩
def Zb4 (x:Wrt) (r:ByteArray):Wrt:={ x with wt:=x.wt++[r],c:=x.c + 1,s:=Zbd x.s r.data.toList}
def ZuZ (x:Wrt):Wrt:={ x with t:=x.t++ZZ x.wt,wt:=[]}
def Zmh (x:Wrt) (r:ByteArray):Wrt:=if x.wt.length + 1 < 4 then Zb4 x r else ZuZ (Zb4 x r)
theorem ZyL (S:WS L h x v) (O:WOk x) (ho:x.op = true) {r:ByteArray} (hr:r.size = x.n) (hw:x.wt.length < 4) (hc:x.c≤1000) (hroom:(x.t.size:Int) + (((x.wt.length + 1) * x.n + 5:Nat):Int)≤x.R):
  ∃ g v',ZeI (.ptr L.wp 0) r h = some (.lit (.int .i64 0),g)∧WS L g (Zmh x r) v'∧WFr L h g v v':=by
 have hwl:=S.lt (.inr (.inr (.inr rfl)))
 have hvw:¬At v L.wp:=fun hv=>S.nv _ hv (.inr (.inr (.inr rfl)))
 obtain ⟨v',g2,a1,V2,l2,at2,k2⟩:=S.V.push r (by omega)
 have W1:Zb (h++[.cells [.lit (.string r)]]) L.wp = some (Zbe L x v):=ZdF _ S.W
 have W2:Zb g2 L.wp = some (Zbe L x v):=by rw[ZO (k2 _ hwl hvw)];exact S.W
 have hv1:v'.one = true:=by rcases V2 with ⟨rfl,_⟩ | ⟨b,cs,rfl,_⟩<;>rfl
 obtain ⟨g3,hg3⟩:∃ g3,g3 = g2.set L.wp (.cells ((Zbe L x v).set 4 v')):=⟨_,rfl⟩
 have W3:Zb g3 L.wp = some ((Zbe L x v).set 4 v'):=by rw[hg3];exact Zm W2
 have st3:st1 g2 (.ptr L.wp (0 + 4)) v' = some g3:=by rw[hg3];exact Zbq W2 hv1 (by show 4 < 8;omega)
 obtain ⟨g4,hg4⟩:∃ g4,g4 = g3.set L.wp (.cells (Zbe L (Zb4 x r) v')):=⟨_,rfl⟩
 have W4:Zb g4 L.wp = some (Zbe L (Zb4 x r) v'):=by rw[hg4];exact Zm W3
 have st4:stn 2 g3 (.ptr L.wp (0 + 5)) [.lit (.int .i64 (IntKind.wrap .i64 ((x.c:Int) + 1))),.lit (.int .u32 (u32 (Zbd x.s r.data.toList)))] = some g4:=by
  rw[hg4,wrap_i64 (by omega) (by omega)]
  exact Zcn W3 rfl rfl (by show 7≤8;omega)
 have ne4:∀ c,c≠L.wp→g4[c]? = g2[c]?:=fun c hn=>by rw[hg4,hg3,List.getElem?_set_ne (Ne.symm hn),List.getElem?_set_ne (Ne.symm hn)]
 have l4:g4.length = g2.length:=by rw[hg4,hg3];simp
 have V4:Wt g4 v' (x.wt++[r]):=V2.keep fun b hb hv=>ne4 b (by have:=at2 b hv;omega)
 obtain ⟨S4,F4⟩:=S.moved (y:=Zb4 x r) (g:=g4) (v':=v') (by omega) (fun c hc hn hv=>(ne4 c hn).trans (k2 c hc hv)) W4 V4 (fun b hb=>.inr (at2 b hb)) ⟨rfl,rfl,rfl,rfl,rfl,rfl,rfl⟩
 have O4:WOk (Zb4 x r):=⟨O.right,O.nm,O.n1,O.n2,O.R,by show (x.wt++[r]).length≤4;simp;omega,fun s hs=>by
  rcases List.mem_append.1 hs with hs |hs
  ·exact O.wa s hs
  ·rw[List.mem_singleton.1 hs];exact hr⟩
 have hlen:((x.wt++[r]).length:Int) = (x.wt.length:Int) + 1:=by simp
 have hlenV:Zbb v' = some ((x.wt++[r]).length:Int):=V4.sl.len
 have pre:∀ (K:Option (AVal×Za)),(cond (decide (((x.wt++[r]).length:Int) < 4)) (some (.lit (.int .i64 0),g4)) ((ZeH (.ptr L.wp 0) g4).bind fun r35=>(asI .i64 r35.1).bind fun n36=>some (.lit (.int .i64 n36),r35.2))) = K→ZeI (.ptr L.wp 0) r h = K:=fun K hK=>by
  rw[ZkC]
  refine bd (Zo9 S) (bd rfl (cF (by rw[ho];rfl) (bd rfl (bd rfl (bd (Zc S.W) (bd rfl (cF (by rw[decide_eq_true (by omega)];rfl) ?_)))))))
  refine bd rfl (bd rfl (bd (Zc S.W) (bd (show Zd2 r = some r by unfold Zd2;have:=O.n2;rw[decide_eq_true (by omega)];rfl) (bd (Zkf _ _ _) (bd (Zev ?_) (bd a1 ?_))))))
  ·exact bd (Zc W1) rfl
  refine bd rfl (bd rfl (bd st3 (bd rfl (bd rfl (bd rfl (bd (Zc W3) (bd rfl (bd rfl (bd rfl (bd rfl (bd (Zc W3) (bd rfl (bd (Zql _ (by have:=O.n2;omega)) ?_)))))))))))))
  exact bd rfl (bd rfl (bd st4 (bd rfl (bd rfl (bd (Zc W4) (bd hlenV hK))))))
 unfold Zmh
 by_cases h4:x.wt.length + 1 < 4
 ·rw[if_pos h4]
  exact ⟨g4,v',pre _ (cT (decide_eq_true (by omega)) rfl),S4,F4⟩
 ·rw[if_neg h4]
  have hcs:=ZdZ O4.wa
  obtain ⟨g5,v5,e5,S5,F5⟩:=ZsQ S4 O4 (by show x.wt++[r]≠[];simp) (by
   show (x.t.size:Int) + _≤x.R
   rw[show (Zb4 x r).n = x.n from rfl,show (Zb4 x r).wt.length = x.wt.length + 1 by show (x.wt++[r]).length = _;simp] at hcs
   rw[hcs];exact hroom)
  exact ⟨g5,v5,pre _ (cF (decide_eq_false (by omega)) (bd e5 rfl)),S5,F4.trans F5⟩
def ZjT (x:Wrt):Wrt:={ x with t:=x.t++ZH x.c x.s}
def ZlZ (x:Wrt):Wrt:={ x with k:=(x.t.size:Int),op:=false,now:=x.now - 4}
def Zc6 (x:Wrt):Wrt:=if x.wt = [] then x else ZuZ x
theorem ZsT {a b f i:Nat} {F w:AVal} {g g':Za} {cs:List AVal} (hf:Zb g f = some cs) (hF:cs[i]? = some F) (hi:i < 2) (ha:Zb g a = some [w]) (ha':Zb g' a = some [w])
  (hrun:∀ {R:Type} (K:AVal→Za→Option R),ZmM Ewriter_Writer_Close.C Ewriter_Writer_Close.Y F [] g K = K (.lit (.int .i64 0)) g'):
  ZfB a b (.sl 1 f 0 2) 2 (i:Int) g = ZfB a b (.sl 1 f 0 2) 2 ((i + 1:Nat):Int) g':=by
 have idx:Zbc 1 (.sl 1 f 0 2) (i:Int) = some (.ptr f i):=by
  unfold Zbc;simp only[Nat.beq_refl];rw[Z8 (by omega)];simp
 rw[Zng,decide_eq_true (by omega),cond_true,idx,Option.bind_some,Zc hf,hF,Option.bind_some,Zc ha]
 refine bd rfl ?_
 rw[hrun]
 refine bd rfl (bd (Zev (bd (Zc ha') rfl)) (bd (Zv6 _) (bd rfl (cF rfl ?_))))
 rw[wrap_i64 (by omega) (by omega)]
 rfl
theorem ZyS (S:WS L h x v) (O:WOk x) (ho:x.op = true) (hc:x.c≤1000) (h4:4≤x.now) (hnow:x.now≤4611686018427387904) (hroom:(x.t.size:Int) + ((x.wt.length * x.n + 22:Nat):Int)≤x.R):
  ∃ g v',ZeJ (.ptr L.wp 0) h = some (.tup [.agg [.lit (.int .i64 (x.c:Int)),.lit (.int .u32 (u32 x.s))],.lit (.int .i64 0)],g)∧WS L g (ZlZ (ZjT (Zc6 x))) v'∧WFr L h g v v':=by
 obtain ⟨h2,hh2⟩:∃ h2,h2 = psh (psh h (.cells [.ptr L.wp 0])) (.cells [.lit (.int .i64 0),.lit (.int .u32 0)]):=⟨_,rfl⟩
 have lb:(psh h (.cells [.ptr L.wp 0])).length = h.length + 1:=Zbm _ _
 have l2:h2.length = h.length + 2:=by rw[hh2,Zbm,lb]
 have ca:Zb h2 h.length = some [.ptr L.wp 0]:=by rw[hh2];exact Zgg _ (ZU h _)
 have cb:Zb h2 (h.length + 1) = some [.lit (.int .i64 0),.lit (.int .u32 0)]:=by rw[hh2,←lb];exact ZU _ _
 obtain ⟨S2,F2⟩:=S.far (g:=h2) (by omega) fun c hc=>by rw[hh2];simp only[psh];rw[List.getElem?_append_left (by simp;omega),List.getElem?_append_left hc]
 have na:=S.new (c:=h.length) (Nat.le_refl _)
 have nb:=S.new (c:=h.length + 1) (by omega)
 have flu:∃ g1 v1,ZeH (.ptr L.wp 0) h2 = some (.lit (.int .i64 0),g1)∧WS L g1 (Zc6 x) v1∧WFr L h2 g1 v v1:=by
  unfold Zc6
  by_cases hw:x.wt = []
  ·rw[if_pos hw];exact ⟨h2,v,ZyO S2 hw,S2,.refl _ _ _⟩
  ·rw[if_neg hw]
   have hcs:=ZdZ O.wa
   exact ZsQ S2 O hw (by rw[hcs];omega)
 obtain ⟨g1,v1,e1,S1,F1⟩:=flu
 have hrt:((Zc6 x).t.size:Int)≤(x.t.size:Int) + ((x.wt.length * x.n + 5:Nat):Int)∧(Zc6 x).name = x.name∧(Zc6 x).R = x.R∧(Zc6 x).c = x.c∧(Zc6 x).s = x.s∧(Zc6 x).op = true∧(Zc6 x).now = x.now:=by
  unfold Zc6
  by_cases hw:x.wt = []
  ·rw[if_pos hw];exact ⟨by omega,rfl,rfl,rfl,rfl,ho,rfl⟩
  ·rw[if_neg hw]
   have hcs:=ZdZ O.wa
   refine ⟨?_,rfl,rfl,rfl,rfl,ho,rfl⟩
   show ((x.t++ZZ x.wt).size:Int)≤_
   rw[ByteArray.size_append,Zf6,hcs];omega
 generalize Zc6 x = y at S1 hrt⊢
 obtain ⟨t1,t2,t3,t4,t5,t6,t7⟩:=hrt
 obtain ⟨ca1,na1⟩:=F1.cells ca na.1 na.2
 obtain ⟨cb1,nb1⟩:=F1.cells cb nb.1 nb.2
 obtain ⟨h3,hh3⟩:∃ h3,h3 = (psh g1 (.cells [.lit (.string ⟨#[]⟩)])).set g1.length (.cells [.lit (.string (ZH x.c x.s))]):=⟨_,rfl⟩
 have ce0:Zb (psh g1 (.cells [.lit (.string ⟨#[]⟩)])) g1.length = some [.lit (.string ⟨#[]⟩)]:=ZU _ _
 have st3:st1 (psh g1 (.cells [.lit (.string ⟨#[]⟩)])) (.ptr g1.length 0) (.lit (.string (ZH x.c x.s))) = some h3:=by rw[hh3];exact Zbq ce0 rfl (by show 0 < 1;omega)
 have ce3:Zb h3 g1.length = some [.lit (.string (ZH x.c x.s))]:=by rw[hh3];exact Zm ce0
 have l3:h3.length = g1.length + 1:=by rw[hh3];simp[psh]
 have k3:∀ c,c < g1.length→h3[c]? = g1[c]?:=fun c hc=>by rw[hh3,List.getElem?_set_ne (by omega)];simp only[psh];rw[List.getElem?_append_left hc]
 obtain ⟨S3,F3⟩:=S1.far (g:=h3) (by omega) k3
 obtain ⟨ca3,na3⟩:=F3.cells ca1 na.1 na1
 obtain ⟨cb3,nb3⟩:=F3.cells cb1 nb.1 nb1
 have ne3:=S1.new (c:=g1.length) (Nat.le_refl _)
 obtain ⟨fs,hfs⟩:∃ fs:List AVal,fs = [.fn (.func 87) [] [.ptr h.length 0,.ptr g1.length 0],.fn (.func 88) [.agg [.ptr L.d 0,.lit (.string y.name)]] []]:=⟨_,rfl⟩
 obtain ⟨h5,hh5⟩:∃ h5,h5 = h3++[.cells fs]:=⟨_,rfl⟩
 have cf5:Zb h5 h3.length = some fs:=by rw[hh5];simp[Zb]
 obtain ⟨S5,F5⟩:=S3.far (g:=h5) (by rw[hh5];simp) fun c hc=>by rw[hh5,List.getElem?_append_left hc]
 obtain ⟨ca5,na5⟩:=F5.cells ca3 na.1 na3
 obtain ⟨cb5,nb5⟩:=F5.cells cb3 nb.1 nb3
 obtain ⟨ce5,ne5⟩:=F5.cells ce3 ne3.1 ne3.2
 have nf:=S3.new (c:=h3.length) (Nat.le_refl _)
 obtain ⟨D5,A5,U5⟩:=S5.A
 have hsz:=Zhc x.c x.s
 obtain ⟨g6,D6,e6,A6,U6,K6⟩:=Zqy A5 U5 (by rw[t2];exact O.right) (by rw[t2];exact O.nm) (b:=ZH x.c x.s) (by rw[t3,hsz];omega) (by rw[t3];exact O.R)
 obtain ⟨S6,F6⟩:=S5.disk A6 U6 K6
 obtain ⟨ca6,na6⟩:=F6.cells ca5 na.1 na5
 obtain ⟨cb6,nb6⟩:=F6.cells cb5 nb.1 nb5
 obtain ⟨cf6,nf6⟩:=F6.cells cf5 nf.1 nf.2
 obtain ⟨g7,D7,e7,A7,U7,K7⟩:=Z28 A6 U6 (by rw[t2];exact O.right) (by rw[t2];exact O.nm)
 obtain ⟨S7,F7⟩:=S6.disk A7 U7 K7
 obtain ⟨ca7,na7⟩:=F7.cells ca6 na.1 na6
 obtain ⟨cb7,nb7⟩:=F7.cells cb6 nb.1 nb6
 obtain ⟨g8,e8,S8,F8⟩:=ZyQ S7 t6 (by show 4≤y.now;omega) (by show y.now≤_;omega)
 obtain ⟨ca8,na8⟩:=F8.cells ca7 na.1 na7
 obtain ⟨cb8,nb8⟩:=F8.cells cb7 nb.1 nb7
 have w8:(Zbe L { y with t:=y.t++ZH x.c x.s,k:=((y.t++ZH x.c x.s).size:Int),op:=false,now:=y.now - 4} v1).drop 5 = [.lit (.int .i64 (x.c:Int)),.lit (.int .u32 (u32 x.s)),.lit (.bool false)]:=by
  rw[←t4,←t5];rfl
 obtain ⟨g9,hg9⟩:∃ g9,g9 = g8.set (h.length + 1) (.cells [.lit (.int .i64 (x.c:Int)),.lit (.int .u32 (u32 x.s))]):=⟨_,rfl⟩
 have st9:stn 2 g8 (.ptr (h.length + 1) 0) [.lit (.int .i64 (x.c:Int)),.lit (.int .u32 (u32 x.s))] = some g9:=by rw[hg9];exact Zcn cb8 rfl rfl (by show 2≤2;omega)
 have cb9:Zb g9 (h.length + 1) = some [.lit (.int .i64 (x.c:Int)),.lit (.int .u32 (u32 x.s))]:=by rw[hg9];exact Zm cb8
 have k9:∀ c,c≠h.length + 1→g9[c]? = g8[c]?:=fun c hn=>by rw[hg9,List.getElem?_set_ne (Ne.symm hn)]
 have l9:g9.length = g8.length:=by rw[hg9];simp
 have inb:∀ c,L.In c→c≠h.length + 1:=fun c hi e=>nb.1 (e ▸ hi)
 obtain ⟨D8,A8,U8⟩:=S8.A
 have S9:WS L g9 { y with t:=y.t++ZH x.c x.s,k:=((y.t++ZH x.c x.s).size:Int),op:=false,now:=y.now - 4} v1:=
  ⟨⟨D8,⟨by rw[ZO (k9 _ (inb _ (.inl rfl)))];exact A8.dcs,by rw[k9 _ (inb _ (.inr (.inl rfl)))];exact A8.ms⟩,U8⟩,by rw[ZO (k9 _ (inb _ (.inr (.inr (.inl rfl)))))];exact S8.B,by rw[ZO (k9 _ (inb _ (.inr (.inr (.inr rfl)))))];exact S8.W,S8.V.keep fun b hb hv=>k9 b fun e=>nb8 (e ▸ hv),S8.ne,S8.nv⟩
 have F9:WFr L h g9 v v1:=by
  have F:=(((((F2.trans F1).trans F3).trans F5).trans F6).trans F7).trans F8
  exact ⟨by rw[l9];exact F.len,fun c hc hi hv=>(k9 c (by omega)).trans (F.get c hc hi hv),F.at'⟩
 refine ⟨g9,v1,?_,?_,F9⟩
 ·
  have last:Zrv h.length (h.length + 1) g7 = some (.tup [.agg [.lit (.int .i64 (x.c:Int)),.lit (.int .u32 (u32 x.s))],.lit (.int .i64 0)],g9):=by
   rw[Zwe]
   refine bd (Zc ca7) (bd e8 (bd (Zc ca8) (bd rfl (bd rfl (bd (Zbh S8.W (by show 7≤8;omega)) (bd ?_ (bd (Zbh cb9 (by show 2≤2;omega)) rfl)))))))
   rw[show (0:Nat) + 5 = 5 from rfl,w8]
   exact st9
  have loop:ZfB h.length (h.length + 1) (.sl 1 h3.length 0 2) 2 0 h5 = some (.tup [.agg [.lit (.int .i64 (x.c:Int)),.lit (.int .u32 (u32 x.s))],.lit (.int .i64 0)],g9):=by
   refine (ZsT (i:=0) (F:=.fn (.func 87) [] [.ptr h.length 0,.ptr g1.length 0]) (g':=g6) cf5 (by rw[hfs];rfl) (by omega) ca5 ca6 fun K=>?_).trans ?_
   ·show (ZkE (.ptr h.length 0) (.ptr g1.length 0) h5).bind _ = _
    refine bd (a:=(.lit (.int .i64 0),g6)) ?_ rfl
    rw[Zwd]
    exact bd (Zc ca5) (bd rfl (bd rfl (bd (Zbh S5.W (by show 2≤8;omega)) (bd (Zc ce5) (bd rfl (bd e6 (bd rfl rfl)))))))
   refine (ZsT (i:=1) (F:=.fn (.func 88) [.agg [.ptr L.d 0,.lit (.string y.name)]] []) (g':=g7) cf6 (by rw[hfs];rfl) (by omega) ca6 ca7 fun K=>?_).trans ?_
   ·show (Zhi [.ptr L.d 0,.lit (.string y.name)] g6).bind _ = _
    exact bd e7 rfl
   rw[Zng]
   exact cF rfl last
  rw[ZkF]
  refine bd rfl ?_
  rw[lb,←hh2]
  refine bd (Zc ca) (bd ((Zo9 S2).trans (by rw[ho])) (bd rfl (cF rfl (bd (Zc ca) (bd e1 (bd rfl (cF rfl (bd (Zc ca1) (bd rfl (bd rfl (bd (Zbh S1.W (by show 7≤8;omega)) ?_)))))))))))
  have hfe:=Zvi (c:=x.c) (by omega) x.s g1
  refine bd (by rw[←t4,←t5] at hfe;exact hfe) ?_
  rw[t4,t5]
  refine bd rfl (bd rfl (bd rfl (bd rfl (bd st3 (cF rfl (bd (Zc ca3) (bd rfl (bd rfl (bd (Zbh S3.W (by show 2≤8;omega)) (bd (a:=(.sl 1 h3.length 0 2,h5)) ?_ (bd rfl loop)))))))))))
  rw[hh5,hfs]
  rfl
 ·show WS L g9 { y with t:=y.t++ZH y.c y.s,k:=((y.t++ZH y.c y.s).size:Int),op:=false,now:=y.now - 4} v1
  have e:ZH y.c y.s = ZH x.c x.s:=by rw[t4,t5]
  rw[e];exact S9
end wtr
end Go.Proofs.YtogaiomakhapmaaGreat.AL
namespace Go.Proofs.YtogaiomakhapmaaGreat.AL
set_option maxRecDepth 100000
open Go
open Go.Proofs.Tryz
section wtr
variable {L:WLoc} {h:Za} {x:Wrt} {v:AVal}
end wtr
def Zmv (R m now hi:Int) (name:ByteArray) (n:Nat):Wrt:=⟨R,ZT n,0,m,now,hi,name,n,[],0,0#32,true⟩
theorem ZyR {h:Za} {d mb bb:Nat} {D:Dsk} {R m now hi:Int} {name:ByteArray} {n:Nat} (A:DiskAt h d mb D []) (U:UpW D R ⟨#[]⟩) (B:Zb h bb = some (Zbl m now hi)) (hbb:bb≠d∧bb≠mb)
  (h1:1≤n) (h2:n≤64) (hr:Zbp name = true) (hn:name.size≤100) (hR:11≤R) (hR2:R≤16777216) (hb:0≤now) (hb2:now + 4≤m) (hm:m≤9223372036854775807):
  ∃ g wp,Zdv (.ptr d 0) (.ptr bb 0) name (n:Int) h = some (.tup [.ptr wp 0,.lit (.int .i64 0)],g)∧WS ⟨d,mb,bb,wp⟩ g (Zmv R m (now + 4) (Zs hi (now + 4)) name n) (.lit (.slice none 0 0))∧h.length≤g.length∧h.length≤wp∧∀ c,c < h.length→c≠d→c≠mb→c≠bb→g[c]? = h[c]?:=by
 obtain ⟨g1,e1,B1,K1⟩:=Zv4 B (n:=4) (by omega) hb hb2 hm
 have hd:=ZB A.dcs
 have hmb:=ZE A.ms
 have hbl:=ZB B
 have A1:=A.keep K1 ⟨hd,by simp only[List.mem_cons,List.not_mem_nil,or_false];exact Ne.symm hbb.1⟩ ⟨hmb,by simp only[List.mem_cons,List.not_mem_nil,or_false];exact Ne.symm hbb.2⟩
 have hl1:=K1.len
 let x:Wrt:={ Zmv R m (now + 4) (Zs hi (now + 4)) name n with t:=⟨#[]⟩}
 obtain ⟨h2',hh2⟩:∃ h2',h2' = psh g1 (.cells (Zbe ⟨d,mb,bb,g1.length⟩ x (.lit (.slice none 0 0)))):=⟨_,rfl⟩
 have K2:Keep h.length [] g1 h2':=by rw[hh2];exact Keep.psh _ hl1
 have cw:Zb h2' g1.length = some (Zbe ⟨d,mb,bb,g1.length⟩ x (.lit (.slice none 0 0))):=by rw[hh2];exact ZU _ _
 have A2:DiskAt h2' d mb D []:=A1.keep K2 ⟨hd,by simp⟩ ⟨hmb,by simp⟩
 have B2:Zb h2' bb = some (Zbl m (now + 4) (Zs hi (now + 4))):=K2.cells hbl (by simp) B1
 have l2:h2'.length = g1.length + 1:=by rw[hh2,Zbm]
 have hf:ZA D [] name true = ((⟨#[]⟩,0),2):=by unfold ZA;rw[hr,U.off];rfl
 obtain ⟨g3,e3,H3,T3,l3⟩:=Zvu A2.dh name (by omega)
 have eE:ZcX D [] name = 0:=by unfold ZcX;rw[hf];rfl
 have eL:Zge D [] name = [(name,⟨#[]⟩,0)]:=by unfold Zge;rw[hf];rfl
 rw[eE] at e3
 rw[eL,ZeZ hr] at H3
 have K3:=H3.keep
 have nm:∀ c,c≠d→c≠mb→c∉[d,mb]:=fun c a b=>by simp only[List.mem_cons,List.not_mem_nil,or_false,not_or];exact ⟨a,b⟩
 have S3:WS ⟨d,mb,bb,g1.length⟩ g3 x (.lit (.slice none 0 0)):=
  ⟨⟨_,H3.disk,U.call⟩,K3.cells (by show bb < _;omega) (nm _ hbb.1 hbb.2) B2,K3.cells (by show g1.length < _;omega) (nm _ (by show g1.length≠d;omega) (by show g1.length≠mb;omega)) cw,.inl ⟨rfl,rfl⟩,⟨⟨by show g1.length≠d;omega,by show g1.length≠mb;omega,by show g1.length≠bb;omega⟩,hbb⟩,fun b hb=>by obtain ⟨_,_,_,e⟩:=hb;cases e⟩
 obtain ⟨D3,A3,U3⟩:=S3.A
 obtain ⟨g4,D4,e4,A4,U4,K4⟩:=Zqy A3 U3 (b:=ZT n) hr hn (by rw[Zfy];show ((0:Nat):Int) + ((11:Nat):Int)≤R;omega) hR2
 have e0:(⟨#[]⟩:ByteArray)++ZT n = ZT n:=by
  apply ByteArray.ext;simp
 have A4':DiskAt g4 d mb D4 [(name,ZT n,0)]:=by rw[←e0];exact A4
 have U4':UpW D4 R (ZT n):=by rw[←e0];exact U4
 obtain ⟨S4,F4⟩:=S3.disk (t':=ZT n) (k':=0) A4' U4' K4
 have hgl:=K3.len
 refine ⟨g4,g1.length,?_,S4,by have:=F4.len;omega,hl1,fun c hc a b e=>?_⟩
 ·rw[Znh]
  refine bd (by rw[Zqd h1 h2];exact ZbI _ _) (bd rfl (bd rfl (bd rfl (bd rfl (cF rfl (bd e1 (bd rfl (cF rfl (bd rfl (bd rfl ?_))))))))))
  show (Zhm (.ptr d 0) name (psh g1 (.cells (Zbe ⟨d,mb,bb,g1.length⟩ x (.lit (.slice none 0 0)))))).bind _ = _
  rw[←hh2]
  refine bd e3 (bd rfl (cT rfl (bd (Zbh S3.W (by show 2≤8;omega)) (bd e4 (bd rfl ?_)))))
  rw[Zrw]
  exact cF rfl rfl
 ·have hn:¬WLoc.In ⟨d,mb,bb,g1.length⟩ c:=by
   rintro (rfl |rfl |rfl |hc')
   ·exact a rfl
   ·exact b rfl
   ·exact e rfl
   ·have:c = g1.length:=hc'
    omega
  have hv:¬At (.lit (.slice none 0 0)) c:=fun ⟨_,_,_,e⟩=>by cases e
  rw[F4.get c (by omega) hn hv,K3.get c (by omega) (nm c a b),K2.get c hc (by simp),K1.get c hc (by simp only[List.mem_cons,List.not_mem_nil,or_false];exact e)]
end Go.Proofs.YtogaiomakhapmaaGreat.AL
namespace Go.Proofs.YtogaiomakhapmaaGreat.AL
set_option maxRecDepth 100000
open Go
open Go.Proofs.Tryz
noncomputable def Zcb:XE:={ T:=Zn [(3,r3),(4,r4),(5,r5),(9,r9),(65,r65)],C:=[],D:=[],Ms:=[(4,[1,5,6]),(8,[1,5,6,7]),(13,[5])],Ml:=[(3,[1,5,6]),(7,[1,5,6,7])],Mo:=[],n:=37}
theorem Echainmanref03_More_ok:XE.Ok Zcb Tryz.prog:=⟨Zp (⟨Z0,⟨Z1,⟨ZdT,⟨Zz,⟨Zci,trivial⟩⟩⟩⟩⟩),trivial,Zq,trivial⟩
noncomputable def Zdl:Code:=ZP f117
noncomputable def ZiD (sum0:Int) (s1:ByteArray) (h:Za):Option (AVal×Za):=Zt Zcb f117 [(.lit (.int .u32 sum0)),(.lit (.string s1))] h
noncomputable def ZnC (s1:ByteArray) (n5:Int) (i6:Int) (h:Za):Option (AVal×Za):=Zl Zcb (.loop (ca (ca (cb (ca (cb (cb Zdl))))))) (AVal×Za) [(1,(.lit (.string s1))),(5,(.lit (.int .u32 n5))),(6,(.lit (.int .i64 i6)))] h (ZW 0 (Zi Zcb (cb (cb (cb Zdl))) (Zj Zcb f117)))
noncomputable def Zlf (s1:ByteArray) (n5:Int) (i6:Int) (k7:Int) (h:Za):Option (AVal×Za):=Zl Zcb (.loop (ca (ca (cb (cb (ca (ca (cb (ca (ca (cb (ca (cb (cb Zdl)))))))))))))) (AVal×Za) [(1,(.lit (.string s1))),(5,(.lit (.int .u32 n5))),(6,(.lit (.int .i64 i6))),(7,(.lit (.int .i64 k7)))] h (ZW 2 (ZW 1 (Zi Zcb (cb (cb (ca (ca (cb (ca (cb (cb Zdl)))))))) (Zdp Zcb (ca (ca (cb (ca (cb (cb Zdl)))))) (ZW 0 (Zi Zcb (cb (cb (cb Zdl))) (Zj Zcb f117)))))))
noncomputable def ZwZ (n5:Int) (h:Za):Option (AVal×Za):=jn (Zl Zcb (cb (cb (cb Zdl))) (AVal×Za) [(5,(.lit (.int .u32 n5)))] h (Zj Zcb f117))
noncomputable def ZnB (s1:ByteArray) (n5:Int) (i6:Int) (k7:Int) (h:Za):Option (AVal×Za):=jn (Zl Zcb (cb (cb (ca (ca (cb (cb (ca (ca (cb (ca (ca (cb (ca (cb (cb Zdl))))))))))))))) (AVal×Za) [(1,(.lit (.string s1))),(5,(.lit (.int .u32 n5))),(6,(.lit (.int .i64 i6))),(7,(.lit (.int .i64 k7)))] h (Zdp Zcb (ca (ca (cb (cb (ca (ca (cb (ca (ca (cb (ca (cb (cb Zdl))))))))))))) (ZW 2 (ZW 1 (Zi Zcb (cb (cb (ca (ca (cb (ca (cb (cb Zdl)))))))) (Zdp Zcb (ca (ca (cb (ca (cb (cb Zdl)))))) (ZW 0 (Zi Zcb (cb (cb (cb Zdl))) (Zj Zcb f117)))))))))
noncomputable def ZnA (s1:ByteArray) (n5:Int) (i6:Int) (h:Za):Option (AVal×Za):=jn (Zl Zcb (cb (cb (ca (ca (cb (ca (cb (cb Zdl)))))))) (AVal×Za) [(1,(.lit (.string s1))),(5,(.lit (.int .u32 n5))),(6,(.lit (.int .i64 i6)))] h (Zdp Zcb (ca (ca (cb (ca (cb (cb Zdl)))))) (ZW 0 (Zi Zcb (cb (cb (cb Zdl))) (Zj Zcb f117)))))
theorem Z8f (sum0:Int) (s1:ByteArray) (h:Za):ZiD sum0 s1 h =
 ZnC s1 (ZcU .u32 sum0 4294967295) 0 h:=by kernel_rfl
theorem Zxb (s1:ByteArray) (n5:Int) (i6:Int) (h:Za):ZnC s1 n5 i6 h =
 bif (decide (i6 < (s1.size:Int))) then ((ZgG s1 i6).bind fun n1=>
 Zlf s1 (ZcU .u32 n5 (IntKind.wrap .u32 n1)) i6 0 h)
 else (ZwZ n5 h):=(ZbO Zcb Echainmanref03_More_ok.C.nat _ _ _ _ _).trans (by kernel_rfl)
theorem Zxa (s1:ByteArray) (n5:Int) (i6:Int) (k7:Int) (h:Za):Zlf s1 n5 i6 k7 h =
 bif (decide (k7 < 8)) then (bif (decide (((n5).tmod 2) = 1)) then (ZnB s1 (ZcU .u32 (IntKind.wrap .u32 (Int.tdiv (n5) (2))) 3988292384) i6 k7 h)
 else (ZnB s1 (IntKind.wrap .u32 (Int.tdiv (n5) (2))) i6 k7 h))
 else (ZnA s1 n5 i6 h):=(ZbO Zcb Echainmanref03_More_ok.C.nat _ _ _ _ _).trans (by kernel_rfl)
theorem Z8j (n5:Int) (h:Za):ZwZ n5 h =
 some ((.lit (.int .u32 (ZcU .u32 n5 4294967295))),h):=(ZF _).trans (by kernel_rfl)
theorem Z8i (s1:ByteArray) (n5:Int) (i6:Int) (k7:Int) (h:Za):ZnB s1 n5 i6 k7 h =
 Zlf s1 n5 i6 (IntKind.wrap .i64 (k7 + 1)) h:=(ZF _).trans (by kernel_rfl)
theorem Z8h (s1:ByteArray) (n5:Int) (i6:Int) (h:Za):ZnA s1 n5 i6 h =
 ZnC s1 n5 (IntKind.wrap .i64 (i6 + 1)) h:=(ZF _).trans (by kernel_rfl)
theorem Z8g {sum0:Int} {s1:ByteArray} {h h':Za} {v:AVal} {R:AEnd→Za→Prop} (hx:ZiD sum0 s1 h = some (v,h')) (hR:HOk h→h.length≤h'.length→ABody.AEnds h h' (.ret v) R):ACalls Tryz.prog 117 [(.lit (.int .u32 sum0)),(.lit (.string s1))] h R:=Zu Echainmanref03_More_ok Zo (i:=117) (by rfl) (by kernel_rfl) (by kernel_rfl) hx hR
noncomputable def ZlP:XC:=.q fun R args h K=>match args with
 | [.lit (.int .u32 a0),.lit (.string a1)]=>(ZM (ZiD a0 a1 h) h).bind fun r=>K r
 |_=>none
theorem Ztn:XC.Nat ZlP∧XC.Ok Tryz.prog 117 ZlP:=by
 refine ⟨fun R args h K=>?_,tc117,fun args h v hx=>?_⟩
 ·dsimp only;split<;>simp[Option.bind_assoc,mkP]
 ·dsimp only at hx;split at hx
  ·obtain ⟨r,hopt,hx⟩:=Option.bind_eq_some_iff.1 hx
   cases hx
   exact (by obtain ⟨h',hopt,hg,hc⟩:=Zdq hopt;exact Z8g hopt (Zdr hg hc))
  ·cases hx
noncomputable def ZxM:XE:={ T:=Zn [(9,r9),(65,r65)],C:=[(117,ZlP)],D:=[],Ms:=[],Ml:=[],Mo:=[],n:=5}
theorem Z9O:XE.Ok ZxM Tryz.prog:=⟨Zp (⟨Zz,⟨Zci,trivial⟩⟩),(⟨Ztn,trivial⟩),Zq,trivial⟩
noncomputable def Zle (s0:ByteArray) (h:Za):Option (AVal×Za):=Zt ZxM f125 [(.lit (.string s0))] h
theorem Z8d (s0:ByteArray) (h:Za):Zle s0 h =
 (ZM (ZiD 0 s0 h) h).bind fun r1=>
 (asI .u32 r1).bind fun n2=>
 some ((.lit (.int .u32 n2)),h):=by kernel_rfl
theorem Z8e {s0:ByteArray} {h h':Za} {v:AVal} {R:AEnd→Za→Prop} (hx:Zle s0 h = some (v,h')) (hR:HOk h→h.length≤h'.length→ABody.AEnds h h' (.ret v) R):ACalls Tryz.prog 125 [(.lit (.string s0))] h R:=Zu Z9O Zo (i:=125) (by rfl) (by kernel_rfl) (by kernel_rfl) hx hR
noncomputable def Zp2:XC:=.q fun R args h K=>match args with
 | [.lit (.string a0)]=>(ZM (Zle a0 h) h).bind fun r=>K r
 |_=>none
theorem ZzD:XC.Nat Zp2∧XC.Ok Tryz.prog 125 Zp2:=by
 refine ⟨fun R args h K=>?_,tc125,fun args h v hx=>?_⟩
 ·dsimp only;split<;>simp[Option.bind_assoc,mkP]
 ·dsimp only at hx;split at hx
  ·obtain ⟨r,hopt,hx⟩:=Option.bind_eq_some_iff.1 hx
   cases hx
   exact (by obtain ⟨h',hopt,hg,hc⟩:=Zdq hopt;exact Z8e hopt (Zdr hg hc))
  ·cases hx
noncomputable def ZxN:XE:={ T:=Zn [(5,r5),(9,r9),(65,r65),(119,ZeR)],C:=[(125,Zp2)],D:=[],Ms:=[],Ml:=[],Mo:=[],n:=24}
theorem Z9P:XE.Ok ZxN Tryz.prog:=⟨Zp (⟨ZdT,⟨Zz,⟨Zci,⟨Zft,trivial⟩⟩⟩⟩),(⟨ZzD,trivial⟩),Zq,trivial⟩
noncomputable def Zhw (s0:ByteArray) (h:Za):Option (AVal×Za):=Zt ZxN f102 [(.lit (.string s0))] h
theorem Z8k (s0:ByteArray) (h:Za):Zhw s0 h =
 (ZM (Zle s0 h) h).bind fun r1=>
 (asI .u32 r1).bind fun n2=>
 (ZbW 1 [(.lit (.int .u8 0))] 4 [(0,(.lit (.int .u8 (IntKind.wrap .u8 (ZdJ .u32 n2 255))))),(1,(.lit (.int .u8 (IntKind.wrap .u8 (ZdJ .u32 (ZbL .u32 n2 8) 255))))),(2,(.lit (.int .u8 (IntKind.wrap .u8 (ZdJ .u32 (ZbL .u32 n2 16) 255))))),(3,(.lit (.int .u8 (IntKind.wrap .u8 (ZbL .u32 n2 24)))))] h).bind fun r3=>
 (ZcA r3.2 r3.1).bind fun s4=>
 (req (s0.size + s4.size≤9223372036854775807)).bind fun u5=>
 some ((.lit (.string (s0++s4))),r3.2):=by kernel_rfl
theorem Z8l {s0:ByteArray} {h h':Za} {v:AVal} {R:AEnd→Za→Prop} (hx:Zhw s0 h = some (v,h')) (hR:HOk h→h.length≤h'.length→ABody.AEnds h h' (.ret v) R):ACalls Tryz.prog 102 [(.lit (.string s0))] h R:=Zu Z9P Zo (i:=102) (by rfl) (by kernel_rfl) (by kernel_rfl) hx hR
noncomputable def Zju:XC:=.q fun R args h K=>match args with
 | [.lit (.string a0)]=>(ZM (Zhw a0 h) h).bind fun r=>K r
 |_=>none
theorem Zp3:XC.Nat Zju∧XC.Ok Tryz.prog 102 Zju:=by
 refine ⟨fun R args h K=>?_,tc102,fun args h v hx=>?_⟩
 ·dsimp only;split<;>simp[Option.bind_assoc,mkP]
 ·dsimp only at hx;split at hx
  ·obtain ⟨r,hopt,hx⟩:=Option.bind_eq_some_iff.1 hx
   cases hx
   exact (by obtain ⟨h',hopt,hg,hc⟩:=Zdq hopt;exact Z8l hopt (Zdr hg hc))
  ·cases hx
noncomputable def Zdb:XE:={ T:=Zn [(3,r3),(4,r4),(5,r5),(9,r9),(119,ZeR)],C:=[],D:=[],Ms:=[(9,[0,6])],Ml:=[(5,[0,1,6,7])],Mo:=[(1006,[0,1,13]),(1010,[0,1,17])],n:=35}
theorem Echainmanref02_Put_ok:XE.Ok Zdb Tryz.prog:=⟨Zp (⟨Z0,⟨Z1,⟨ZdT,⟨Zz,⟨Zft,trivial⟩⟩⟩⟩⟩),trivial,Zq,trivial⟩
noncomputable def ZeC:Code:=ZP f124
noncomputable def Zlg (n0:Int) (k1:Int) (h:Za):Option (AVal×Za):=Zt Zdb f124 [(.lit (.int .i64 n0)),(.lit (.int .i64 k1))] h
noncomputable def Zsh (n0:Int) (k1:Int) (t13:Bool) (h:Za):Option (AVal×Za):=jo Zdb 1 (Zk (ca (ca (cb ZeC)))) ((Zk (ca (ca (cb ZeC)))).toList.drop 6) 6 [(0,(.lit (.int .i64 n0))),(1,(.lit (.int .i64 k1))),(13,(.lit (.bool t13)))] h (kN (Zi Zdb (cb (ca (cb ZeC))) (Zi Zdb (cb (cb ZeC)) (Zj Zdb f124))))
noncomputable def Zsg (n0:Int) (k1:Int) (t17:Bool) (h:Za):Option (AVal×Za):=jo Zdb 1 (Zk (ca (ca (cb ZeC)))) ((Zk (ca (ca (cb ZeC)))).toList.drop 10) 10 [(0,(.lit (.int .i64 n0))),(1,(.lit (.int .i64 k1))),(17,(.lit (.bool t17)))] h (kN (Zi Zdb (cb (ca (cb ZeC))) (Zi Zdb (cb (cb ZeC)) (Zj Zdb f124))))
noncomputable def ZnD (n0:Int) (k1:Int) (s6:ByteArray) (i7:Int) (h:Za):Option (AVal×Za):=Zl Zdb (.loop (ca (ca (cb (ca (cb (cb (cb ZeC)))))))) (AVal×Za) [(0,(.lit (.int .i64 n0))),(1,(.lit (.int .i64 k1))),(6,(.lit (.string s6))),(7,(.lit (.int .i64 i7)))] h (ZW 0 (Zi Zdb (cb (cb (cb (cb ZeC)))) (Zj Zdb f124)))
noncomputable def Zsf (n0:Int) (s6:ByteArray) (h:Za):Option (AVal×Za):=jn (Zl Zdb (cb (cb (cb (cb ZeC)))) (AVal×Za) [(0,(.lit (.int .i64 n0))),(6,(.lit (.string s6)))] h (Zj Zdb f124))
theorem Z8m (n0:Int) (k1:Int) (h:Za):Zlg n0 k1 h =
 bif (decide (k1 < 1)) then (Zsh n0 k1 true h)
 else (Zsh n0 k1 (decide (k1 > 8)) h):=by kernel_rfl
theorem Z8q (n0:Int) (k1:Int) (t13:Bool) (h:Za):Zsh n0 k1 t13 h =
 bif t13 then (Zsg n0 k1 true h)
 else (Zsg n0 k1 (decide (n0 < 0)) h):=(ZV ..).trans (by kernel_rfl)
theorem Z8p (n0:Int) (k1:Int) (t17:Bool) (h:Za):Zsg n0 k1 t17 h =
 bif t17 then (some ((.tup [(.lit (.string (⟨#[]⟩:ByteArray))),(.lit (.bool false))]),h))
 else (ZnD n0 k1 (⟨#[]⟩:ByteArray) 0 h):=(ZV ..).trans (by kernel_rfl)
theorem Zxc (n0:Int) (k1:Int) (s6:ByteArray) (i7:Int) (h:Za):ZnD n0 k1 s6 i7 h =
 bif (decide (i7 < k1)) then ((ZbW 1 [(.lit (.int .u8 0))] 1 [(0,(.lit (.int .u8 (IntKind.wrap .u8 ((n0).tmod 256)))))] h).bind fun r1=>
 (ZcA r1.2 r1.1).bind fun s2=>
 (req (s2.size + s6.size≤9223372036854775807)).bind fun u3=>
 ZnD (IntKind.wrap .i64 (Int.tdiv (n0) (256))) k1 (s2++s6) (IntKind.wrap .i64 (i7 + 1)) r1.2)
 else (Zsf n0 s6 h):=(ZbO Zdb Echainmanref02_Put_ok.C.nat _ _ _ _ _).trans (by kernel_rfl)
theorem Z8o (n0:Int) (s6:ByteArray) (h:Za):Zsf n0 s6 h =
 bif (decide (n0 > 0)) then (some ((.tup [(.lit (.string (⟨#[]⟩:ByteArray))),(.lit (.bool false))]),h))
 else (some ((.tup [(.lit (.string s6)),(.lit (.bool true))]),h)):=(ZF _).trans (by kernel_rfl)
theorem Z8n {n0:Int} {k1:Int} {h h':Za} {v:AVal} {R:AEnd→Za→Prop} (hx:Zlg n0 k1 h = some (v,h')) (hR:HOk h→h.length≤h'.length→ABody.AEnds h h' (.ret v) R):ACalls Tryz.prog 124 [(.lit (.int .i64 n0)),(.lit (.int .i64 k1))] h R:=Zu Echainmanref02_Put_ok Zo (i:=124) (by rfl) (by kernel_rfl) (by kernel_rfl) hx hR
noncomputable def Zp4:XC:=.q fun R args h K=>match args with
 | [.lit (.int .i64 a0),.lit (.int .i64 a1)]=>(ZM (Zlg a0 a1 h) h).bind fun r=>K r
 |_=>none
theorem ZzE:XC.Nat Zp4∧XC.Ok Tryz.prog 124 Zp4:=by
 refine ⟨fun R args h K=>?_,tc124,fun args h v hx=>?_⟩
 ·dsimp only;split<;>simp[Option.bind_assoc,mkP]
 ·dsimp only at hx;split at hx
  ·obtain ⟨r,hopt,hx⟩:=Option.bind_eq_some_iff.1 hx
   cases hx
   exact (by obtain ⟨h',hopt,hg,hc⟩:=Zdq hopt;exact Z8n hopt (Zdr hg hc))
  ·cases hx
noncomputable def ZxO:XE:={ T:=Zn [(3,r3),(4,r4),(9,r9)],C:=[(124,Zp4)],D:=[],Ms:=[],Ml:=[],Mo:=[],n:=14}
theorem Z9Q:XE.Ok ZxO Tryz.prog:=⟨Zp (⟨Z0,⟨Z1,⟨Zz,trivial⟩⟩⟩),(⟨ZzE,trivial⟩),Zq,trivial⟩
noncomputable def ZiE (n0:Int) (k1:Int) (h:Za):Option (AVal×Za):=Zt ZxO f101 [(.lit (.int .i64 n0)),(.lit (.int .i64 k1))] h
theorem Z8r (n0:Int) (k1:Int) (h:Za):ZiE n0 k1 h =
 (ZM (Zlg n0 k1 h) h).bind fun r1=>
 (Z6 r1 0).bind fun x2=>
 (asS x2).bind fun s3=>
 (Z6 r1 1).bind fun x4=>
 (asB x4).bind fun b5=>
 some ((.lit (.string s3)),h):=by kernel_rfl
theorem Z8s {n0:Int} {k1:Int} {h h':Za} {v:AVal} {R:AEnd→Za→Prop} (hx:ZiE n0 k1 h = some (v,h')) (hR:HOk h→h.length≤h'.length→ABody.AEnds h h' (.ret v) R):ACalls Tryz.prog 101 [(.lit (.int .i64 n0)),(.lit (.int .i64 k1))] h R:=Zu Z9Q Zo (i:=101) (by rfl) (by kernel_rfl) (by kernel_rfl) hx hR
noncomputable def Zp5:XC:=.q fun R args h K=>match args with
 | [.lit (.int .i64 a0),.lit (.int .i64 a1)]=>(ZM (ZiE a0 a1 h) h).bind fun r=>K r
 |_=>none
theorem ZzF:XC.Nat Zp5∧XC.Ok Tryz.prog 101 Zp5:=by
 refine ⟨fun R args h K=>?_,tc101,fun args h v hx=>?_⟩
 ·dsimp only;split<;>simp[Option.bind_assoc,mkP]
 ·dsimp only at hx;split at hx
  ·obtain ⟨r,hopt,hx⟩:=Option.bind_eq_some_iff.1 hx
   cases hx
   exact (by obtain ⟨h',hopt,hg,hc⟩:=Zdq hopt;exact Z8s hopt (Zdr hg hc))
  ·cases hx
end Go.Proofs.YtogaiomakhapmaaGreat.AL
namespace Go.Proofs.YtogaiomakhapmaaGreat.AL
set_option maxRecDepth 100000
open Go
open Go.Proofs.Tryz
def Zmm:BitVec 32:=0xedb88320#32
def Zc0 (n:BitVec 32):BitVec 32:=if n.getLsbD 0 then (n >>> 1) ^^^ Zmm else n >>> 1
theorem ZmO (a b:BitVec 32):Zc0 (a ^^^ b) = Zc0 a ^^^ Zc0 b:=by
 unfold Zc0
 rw[BitVec.getLsbD_xor,BitVec.ushiftRight_xor_distrib]
 generalize a >>> 1 = x
 generalize b >>> 1 = y
 cases a.getLsbD 0<;>cases b.getLsbD 0<;>simp
 ·rw[BitVec.xor_assoc]
 ·rw[BitVec.xor_assoc,BitVec.xor_comm y,←BitVec.xor_assoc]
 ·rw[BitVec.xor_assoc,←BitVec.xor_assoc Zmm,BitVec.xor_comm Zmm,BitVec.xor_assoc y,BitVec.xor_self,BitVec.xor_zero]
def ZeD (n:BitVec 32):BitVec 32:=Zc0 (Zc0 (Zc0 (Zc0 n)))
theorem Z4l (a b:BitVec 32):ZeD (a ^^^ b) = ZeD a ^^^ ZeD b:=by unfold ZeD;rw[ZmO,ZmO,ZmO,ZmO]
theorem Z3n:∀ i,i < 32→(15#32).getLsbD i = decide (i < 4):=by decide
theorem Z2p (n:BitVec 32):n = ((n >>> 4) <<< 4) ^^^ (n &&& 15#32):=by
 apply BitVec.eq_of_getLsbD_eq
 intro i hi
 rw[BitVec.getLsbD_xor,BitVec.getLsbD_shiftLeft,BitVec.getLsbD_ushiftRight,BitVec.getLsbD_and,Z3n i hi]
 by_cases h:i < 4
 ·simp[h,hi]
 ·simp[h,hi,show 4 + (i - 4) = i by omega]
theorem Z4n (n:BitVec 32):ZeD ((n >>> 4) <<< 4) = n >>> 4:=by
 have z:∀ j,j < 4→((n >>> 4) <<< 4).getLsbD j = false:=fun j hj=>by rw[BitVec.getLsbD_shiftLeft];simp[hj]
 have s1:Zc0 ((n >>> 4) <<< 4) = (n >>> 4) <<< 4 >>> 1:=by unfold Zc0;rw[z 0 (by omega)];rfl
 have s2:Zc0 ((n >>> 4) <<< 4 >>> 1) = (n >>> 4) <<< 4 >>> 1 >>> 1:=by unfold Zc0;rw[BitVec.getLsbD_ushiftRight,z 1 (by omega)];rfl
 have s3:Zc0 ((n >>> 4) <<< 4 >>> 1 >>> 1) = (n >>> 4) <<< 4 >>> 1 >>> 1 >>> 1:=by unfold Zc0;rw[BitVec.getLsbD_ushiftRight,BitVec.getLsbD_ushiftRight,z 2 (by omega)];rfl
 have s4:Zc0 ((n >>> 4) <<< 4 >>> 1 >>> 1 >>> 1) = (n >>> 4) <<< 4 >>> 1 >>> 1 >>> 1 >>> 1:=by unfold Zc0;rw[BitVec.getLsbD_ushiftRight,BitVec.getLsbD_ushiftRight,BitVec.getLsbD_ushiftRight,z 3 (by omega)];rfl
 unfold ZeD
 rw[s1,s2,s3,s4]
 apply BitVec.eq_of_getLsbD_eq
 intro i hi
 simp only[BitVec.getLsbD_ushiftRight,BitVec.getLsbD_shiftLeft]
 by_cases h:i + 4 < 32
 ·simp[show 1 + (1 + (1 + (1 + i))) = i + 4 by omega,h]
 ·have e:n.getLsbD (4 + i) = false:=BitVec.getLsbD_of_ge _ _ (by omega)
  simp[show 1 + (1 + (1 + (1 + i))) = i + 4 by omega,h,e]
theorem Z4m:∀ k,k < 16→ZeD (BitVec.ofNat 32 k) = nibT.getD k 0#32:=by decide
theorem ZvD (n:BitVec 32):ZeD n = (n >>> 4) ^^^ Zfv n:=by
 have e:ZeD (n &&& 15#32) = Zfv n:=by
  have h:=Z4m _ (Zu5 n)
  rw[show BitVec.ofNat 32 (n &&& 15#32).toNat = n &&& 15#32 by simp] at h
  exact h
 conv=>lhs;rw[Z2p n,Z4l,Z4n,e]
def Zm0:Nat→BitVec 32→BitVec 32
 | 0,n=>n
 |k + 1,n=>Zm0 k (Zc0 n)
theorem Z0p (n:BitVec 32) (b:UInt8):ZlY n b = Zm0 8 (n ^^^ BitVec.ofNat 32 b.toNat):=by
 show (_ ^^^ _) = ZeD (ZeD (n ^^^ BitVec.ofNat 32 b.toNat))
 rw[ZvD (n ^^^ BitVec.ofNat 32 b.toNat),ZvD]
theorem Z1P (n:BitVec 32):decide ((u32 n).tmod 2 = 1) = n.getLsbD 0:=by
 unfold u32
 rw[BitVec.getLsbD,Nat.testBit_zero]
 have:((n.toNat:Int)).tmod 2 = ((n.toNat % 2:Nat):Int):=by rw[Int.tmod_eq_emod_of_nonneg (by omega)];rfl
 rw[this]
 congr 1
 exact propext ⟨fun h=>by omega,fun h=>by omega⟩
theorem Z2N (n:BitVec 32):IntKind.wrap .u32 ((u32 n).tdiv 2) = u32 (n >>> 1):=by
 unfold u32
 rw[BitVec.toNat_ushiftRight,Nat.shiftRight_eq_div_pow]
 have:((n.toNat:Int)).tdiv 2 = ((n.toNat / 2:Nat):Int):=by rw[Int.tdiv_eq_ediv_of_nonneg (by omega)];exact (Int.natCast_ediv _ _).symm
 rw[this,Zjj (by have:=n.isLt;omega)]
theorem ZvB (s:ByteArray) (i:Int) (h:Za):∀ (m k:Nat) (n:BitVec 32),k + m = 8→Zlf s (u32 n) i (k:Int) h = ZnA s (u32 (Zm0 m n)) i h
 | 0,k,n,hk=>by rw[Zxa,decide_eq_false (by omega),cond_false];rfl
 |m + 1,k,n,hk=>by
  have ih:=ZvB s i h m (k + 1) (Zc0 n) (by omega)
  have e3:∀ x,ZnB s x i (k:Int) h = Zlf s x i ((k + 1:Nat):Int) h:=fun x=>by rw[Z8i,wrap_i64 (by omega) (by omega)];rfl
  rw[Zxa,decide_eq_true (by omega),cond_true,Z1P,Z2N,e3,e3,show (3988292384:Int) = u32 Zmm from rfl,ZfK]
  show _ = ZnA s (u32 (Zm0 m (Zc0 n))) i h
  rw[←ih]
  unfold Zc0
  cases n.getLsbD 0<;>rfl
theorem ZtW (s:ByteArray) (hs:s.size≤4611686018427387904) (h:Za):∀ (m i:Nat) (n:BitVec 32),i + m = s.size→ZnC s (u32 n) (i:Int) h = some (.lit (.int .u32 (u32 (~~~((s.data.toList.drop i).foldl ZlY n)))),h)
 | 0,i,n,hi=>by
   have hl:s.data.toList.length = s.size:=Array.length_toList
   rw[Zxb,decide_eq_false (by omega),cond_false,Z8j,List.drop_of_length_le (by omega),show (4294967295:Int) = u32 (BitVec.allOnes 32) from rfl,ZfK,BitVec.xor_allOnes];rfl
 |m + 1,i,n,hi=>by
  have hl:s.data.toList.length = s.size:=Array.length_toList
  have hil:i < s.data.toList.length:=by omega
  have hb:s.data.toList[i].toNat < 256:=s.data.toList[i].toNat_lt
  have hw:IntKind.wrap .u32 (s.data.toList[i].toNat:Int) = u32 (BitVec.ofNat 32 s.data.toList[i].toNat):=by
   rw[Zjj (by omega)]
   unfold u32
   rw[BitVec.toNat_ofNat,Nat.mod_eq_of_lt (by omega)]
  rw[Zxb,decide_eq_true (by omega),cond_true,Zt5 (by omega),Option.bind_some,hw,ZfK,List.drop_eq_getElem_cons hil]
  have:=ZvB s (i:Int) h 8 0 (n ^^^ BitVec.ofNat 32 s.data.toList[i].toNat) rfl
  rw[show (((0:Nat):Int)) = 0 from rfl] at this
  rw[this,←Z0p,Z8h,wrap_i64 (by omega) (by omega),show (i:Int) + 1 = ((i + 1:Nat):Int) by omega,ZtW s hs h m (i + 1) _ (by omega)]
  rfl
theorem ZtV (a:BitVec 32) {s:ByteArray} (hs:s.size≤4611686018427387904) (h:Za):ZM (ZiD (u32 a) s h) h = some (.lit (.int .u32 (u32 (Zbd a s.data.toList)))):=by
 refine Zdj (h':=h) ?_ (.refl h) rfl
 rw[Z8f,show (4294967295:Int) = u32 (BitVec.allOnes 32) from rfl,ZfK,BitVec.xor_allOnes]
 exact ZtW s hs h s.size 0 (~~~a) (by omega)
theorem Z0M {s:ByteArray} (hs:s.size≤4611686018427387904) (h:Za):ZM (Zle s h) h = some (.lit (.int .u32 (u32 (ZcC s)))):=by
 refine Zdj (h':=h) ?_ (.refl h) rfl
 rw[Z8d,show (0:Int) = u32 0#32 from rfl,ZtV _ hs];rfl
theorem Zrm (n:BitVec 32) (i:Nat):IntKind.wrap .u8 (ZdJ .u32 (ZbL .u32 (u32 n) (i:Int)) 255) = IntKind.wrap .u8 (ZbL .u32 (u32 n) (i:Int)):=by
 have e:ZbL .u32 (u32 n) (i:Int) = u32 (n >>> (min i 32)):=by
  unfold ZbL u32
  rw[BitVec.toNat_ushiftRight,Nat.shiftRight_eq_div_pow]
  show (n.toNat:Int).fdiv (2 ^ (min (i:Int).toNat 32)) = _
  rw[Int.toNat_natCast,show ((2:Int) ^ (min i 32)) = ((2 ^ (min i 32):Nat):Int) by simp,Int.fdiv_eq_ediv_of_nonneg _ (Int.natCast_nonneg _)]
  exact (Int.natCast_ediv _ _).symm
 rw[e,show (255:Int) = u32 255#32 from rfl,ZvO]
 unfold u32
 rw[Zg8,Zg8,BitVec.toNat_and,show (255#32).toNat = 2 ^ 8 - 1 from rfl,Nat.and_two_pow_sub_one_eq_mod]
 omega
theorem ZpX {s:ByteArray} (hs:s.size≤4611686018427387904) (h:Za):ZM (Zhw s h) h = some (.lit (.string (Zf1 s))):=by
 have b0:IntKind.wrap .u8 (ZdJ .u32 (u32 (ZcC s)) 255) = ((ZL s 0).toNat:Int):=by
  have h1:=Zrm (ZcC s) 0
  have e0:ZbL .u32 (u32 (ZcC s)) ((0:Nat):Int) = u32 (ZcC s):=by
   unfold ZbL
   show (u32 (ZcC s)).fdiv (2 ^ 0) = _
   simp
  rw[e0] at h1
  rw[h1,←ZjY s (i:=0) (by omega)]
  rw[show IntKind.wrap .i64 (8 * ((0:Nat):Int)) = ((0:Nat):Int) from rfl,e0]
 have b1:IntKind.wrap .u8 (ZdJ .u32 (ZbL .u32 (u32 (ZcC s)) 8) 255) = ((ZL s 1).toNat:Int):=by
  rw[←ZjY s (i:=1) (by omega)];exact Zrm (ZcC s) 8
 have b2:IntKind.wrap .u8 (ZdJ .u32 (ZbL .u32 (u32 (ZcC s)) 16) 255) = ((ZL s 2).toNat:Int):=by
  rw[←ZjY s (i:=2) (by omega)];exact Zrm (ZcC s) 16
 have b3:IntKind.wrap .u8 (ZbL .u32 (u32 (ZcC s)) 24) = ((ZL s 3).toNat:Int):=by
  rw[←ZjY s (i:=3) (by omega)];rfl
 have hb:ZcA (h++[.cells ([ZL s 0,ZL s 1,ZL s 2,ZL s 3].map ZR)]) (.sl 1 h.length 0 4) = some (⟨#[ZL s 0,ZL s 1,ZL s 2,ZL s 3]⟩:ByteArray):=by
  have hc:Zb (h++[.cells ([ZL s 0,ZL s 1,ZL s 2,ZL s 3].map ZR)]) h.length = some ([ZL s 0,ZL s 1,ZL s 2,ZL s 3].map ZR):=ZU h _
  show (Zb _ _).bind _ = _
  rw[hc,Option.bind_some]
  exact (congrArg (Option.bind · _) (Zjx [ZL s 0,ZL s 1,ZL s 2,ZL s 3])).trans rfl
 refine Zdj (h':=h++[.cells ([ZL s 0,ZL s 1,ZL s 2,ZL s 3].map ZR)]) ?_ ((Grow.refl h).psh _) rfl
 rw[Z8k,Z0M hs h]
 refine bd rfl (bd rfl ?_)
 rw[b0,b1,b2,b3]
 refine bd (a:=(.sl 1 h.length 0 4,h++[.cells ([ZL s 0,ZL s 1,ZL s 2,ZL s 3].map ZR)])) rfl (bd hb (bd (Z8 ?_) rfl))
 show s.size + 4≤_
 omega
theorem ZtN (n0:Nat) (hn:n0 < 9223372036854775808) {k:Nat} (hk:k≤8) {h0:Za}:∀ (m i:Nat) (g:Za),i + m = k→Grow h0 g→∃ g',ZnD ((n0 / 256 ^ i:Nat):Int) (k:Int) (bs (beL n0 i)) (i:Int) g = Zsf ((n0 / 256 ^ k:Nat):Int) (bs (beL n0 k)) g'∧Grow h0 g'
 | 0,i,g,hi,G=>by
   obtain rfl:i = k:=by omega
   exact ⟨g,by rw[Zxc,decide_eq_false (by omega),cond_false],G⟩
 |m + 1,i,g,hi,G=>by
  have hq:n0 / 256 ^ i≤n0:=Nat.div_le_self _ _
  have hby:IntKind.wrap .u8 (((n0 / 256 ^ i:Nat):Int).tmod 256) = ((by8 n0 i).toNat:Int):=by
   rw[Z3X]
   generalize n0 / 256 ^ i = q at hq
   have e1:((q:Nat):Int).tmod 256 = ((q % 256:Nat):Int):=by rw[Int.tmod_eq_emod_of_nonneg (by omega)];omega
   rw[e1,Zg8];omega
  have hdv:IntKind.wrap .i64 (((n0 / 256 ^ i:Nat):Int).tdiv 256) = ((n0 / 256 ^ (i + 1):Nat):Int):=by
   rw[Nat.pow_succ,←Nat.div_div_eq_div_mul]
   generalize n0 / 256 ^ i = q at hq
   have e1:((q:Nat):Int).tdiv 256 = ((q / 256:Nat):Int):=by rw[Int.tdiv_eq_ediv_of_nonneg (by omega)];omega
   rw[e1,wrap_i64 (by omega) (by omega)]
  have hb:ZcA (g++[.cells [ZR (by8 n0 i)]]) (.sl 1 g.length 0 1) = some (bs [by8 n0 i]):=by
   have hc:Zb (g++[.cells [ZR (by8 n0 i)]]) g.length = some [ZR (by8 n0 i)]:=ZU g _
   show (Zb _ _).bind _ = _
   rw[hc,Option.bind_some]
   exact (congrArg (Option.bind · _) (Zjx [by8 n0 i])).trans rfl
  have happ:bs [by8 n0 i]++bs (beL n0 i) = bs (beL n0 (i + 1)):=by apply ByteArray.ext;simp[beL]
  obtain ⟨g',r1,r2⟩:=ZtN n0 hn hk m (i + 1) (g++[.cells [ZR (by8 n0 i)]]) (by omega) (G.psh _)
  refine ⟨g',?_,r2⟩
  rw[←r1,Zxc,decide_eq_true (by omega),cond_true,hby,hdv,wrap_i64 (by omega) (by omega)]
  refine bd (a:=(.sl 1 g.length 0 1,g++[.cells [ZR (by8 n0 i)]])) rfl (bd hb (bd (Z8 ?_) ?_))
  ·rw[ZbR,ZbR,Zf8];simp;omega
  ·rw[happ];rfl
theorem Z0L {n:Nat} {k:Nat} (h1:1≤k) (hk:k≤8) (hn:n < 256 ^ k) (h63:n < 9223372036854775808) (h:Za):ZM (Zlg (n:Int) (k:Int) h) h = some (.tup [.lit (.string (bs (beL n k))),.lit (.bool true)]):=by
 obtain ⟨g,r1,r2⟩:=ZtN n h63 hk k 0 h (by omega) (.refl h)
 refine Zdj (h':=g) ?_ r2 rfl
 rw[Nat.pow_zero,Nat.div_one] at r1
 rw[Z8m,decide_eq_false (by omega),cond_false,decide_eq_false (by omega),Z8q,cond_false,decide_eq_false (by omega),Z8p,cond_false]
 refine (show _ = _ from r1).trans ?_
 rw[Z8o,Nat.div_eq_of_lt hn];rfl
theorem ZtU {n:Nat} {k:Nat} (h1:1≤k) (hk:k≤8) (hn:n < 256 ^ k) (h63:n < 9223372036854775808) (h:Za):ZM (ZiE (n:Int) (k:Int) h) h = some (.lit (.string (bs (beL n k)))):=by
 refine Zdj (h':=h) ?_ (.refl h) rfl
 rw[Z8r,Z0L h1 hk hn h63 h];rfl
end Go.Proofs.YtogaiomakhapmaaGreat.AL
