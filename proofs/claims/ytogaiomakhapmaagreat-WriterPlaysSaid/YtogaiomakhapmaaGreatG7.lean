import Derived.Test.YtogaiomakhapmaaGreatG6
import Derived.Test.YtogaiomakhapmaaGreatG5
import Derived.Test.YtogaiomakhapmaaGreatProg
import Derived.Test.YtogaiomakhapmaaGreatG2
import Derived.KernelRfl
set_option linter.unusedVariables false
set_option linter.unusedSimpArgs false
namespace Go.Proofs.YtogaiomakhapmaaGreat.AL
set_option maxRecDepth 100000
open Go
open Go.Proofs.Tryz
def Zfn (y:Vrt) (r:ByteArray):Vrt:={ y with wt:=y.wt++[r],all:=y.all++[r]}
def ZgN (y:Vrt):Vrt:={ y with wt:=[]}
def ZlR (E:DDk) (y:Vrt) (r:ByteArray):Int:=if y.op then (if (r.size:Int) = y.n then (if y.wt.length + 1 < 4 then 0 else Zcm E (ZgN (Zfn y r)) (ZZ (y.wt++[r]))) else 1) else 14
def ZlS (E:DDk) (y:Vrt) (r:ByteArray):DDk:=if y.op then (if (r.size:Int) = y.n then (if y.wt.length + 1 < 4 then E else dD E y.name) else E) else E
def ZhB (E:DDk) (y:Vrt) (r:ByteArray):Vrt:=if y.op then (if (r.size:Int) = y.n then (if y.wt.length + 1 < 4 then Zfn y r else Zb1 E (ZgN (Zfn y r)) (ZZ (y.wt++[r]))) else y) else y
def Zjw (E:DDk) (y:Vrt):Int:=if y.wt = [] then 0 else Zcm E y (ZZ y.wt)
def ZgD (E:DDk) (y:Vrt):DDk:=if y.wt = [] then E else dD E y.name
def ZfQ (E:DDk) (y:Vrt):Vrt:=if y.wt = [] then y else Zb1 E y (ZZ y.wt)
def Zeo (E:DDk) (y:Vrt):Int:=Zfa E [(y.name,y.t,y.k)] y.name
def Zfm (E:DDk) (y:Vrt):Vrt:={ y with k:=if Zeo E y = 0 then (y.t.size:Int) else y.k}
structure VClo where
 c:Nat
 s:BitVec 32
 e:Int
 E:DDk
 y:Vrt
def Zep (E:DDk) (y:Vrt):VClo:=
 let E1:=ZgD E y
 let y1:=ZfQ E y
 let e2:=Zcm E1 y1 (ZH y.all.length (Zbd 0#32 (Z7 y.all)))
 let E2:=dD E1 y1.name
 let y2:=Zb1 E1 y1 (ZH y.all.length (Zbd 0#32 (Z7 y.all)))
 let e3:=Zeo E2 y2
 if y.op then (if Zjw E y = 0 then (if e2 = 0 then (if e3 = 0 then ⟨y.all.length,Zbd 0#32 (Z7 y.all),0,dD E2 y2.name,Zb7 (Zfm E2 y2)⟩ else ⟨0,0#32,e3,dD E2 y2.name,Zb7 (Zfm E2 y2)⟩) else ⟨0,0#32,e2,E2,Zb7 y2⟩) else ⟨0,0#32,Zjw E y,E1,y1⟩) else ⟨0,0#32,14,E,y⟩
structure RD (D:Dsk) (E:DDk) (t:ByteArray):Prop where
 room:E.room = D.room
 used:D.used = (t.size:Int)
 fuse:E.fuse = D.fuse
 f1: -1≤D.fuse∧D.fuse≤9223372036854775807
 down:E.down = D.down
 calls:E.calls = D.calls
 r1:0≤D.room∧D.room≤16777216
theorem RD.call {D:Dsk} {E:DDk} {t:ByteArray} (R:RD D E t):RD (ZbM D) (Zcz E) t∧(Zcz E).down = Zb3 D:=by
 have f1:=R.f1
 have hf:(Zcz E).fuse = (ZbM D).fuse∧ -1≤(ZbM D).fuse∧(ZbM D).fuse≤9223372036854775807:=by
  unfold Zcz ZbM
  simp only
  rw[R.fuse]
  have w:IntKind.wrap .i64 (D.fuse - 1) = D.fuse - 1:=wrap_i64 (by omega) (by omega)
  by_cases c:D.fuse > -1
  ·rw[if_pos c,w];unfold Zs;split<;>omega
  ·rw[if_neg c,w];unfold Zs;split<;>omega
 have hd:(Zcz E).down = Zb3 D:=by
  unfold Zcz Zb3;simp only;rw[R.down,R.fuse]
 exact ⟨⟨R.room,R.used,hf.1,hf.2,hd,by unfold Zcz ZbM;simp only;rw[R.calls],R.r1⟩,hd⟩
theorem RD.find {D:Dsk} {E:DDk} {t:ByteArray} (R:RD D E t) {n:ByteArray} (hr:Zbp n = true):RD (Zbt D n true) (dD E n) t∧dE E n = if Zb3 D then 5 else 0:=by
 obtain ⟨a,b⟩:=R.call
 unfold Zbt dD dE
 rw[hr]
 exact ⟨a,by rw[if_pos rfl,b]⟩
theorem Zvd {D:Dsk} {t:ByteArray} {k:Int} {n:ByteArray} (hr:Zbp n = true):ZA D [(n,t,k)] n true = if Zb3 D then ((⟨#[]⟩,0),5) else ((t,k),0):=by
 unfold ZA
 rw[hr]
 simp[Zcu]
structure RB (D:Dsk) (x:Wrt) (E:DDk) (y:Vrt):Prop where
 d:RD D E x.t
 t:y.t = x.t
 k:y.k = x.k
 m:y.m = x.m
 now:y.now = x.now
 hi:y.hi = x.hi
 name:y.name = x.name
 n:y.n = (x.n:Int)
 op:y.op = x.op
 right:Zbp x.name = true
theorem RB.lay {D:Dsk} {x:Wrt} {E:DDk} {y:Vrt} (R:RB D x E y) {b:ByteArray} (hs:x.t.size + b.size≤4611686018427387904):
  Zcm E y b = Zbw D x b∧RB (Zd9 D x b) (Zbu (Zbv D x b) (Zbw D x b)) (dD E y.name) (Zb1 E y b):=by
 obtain ⟨F,hE⟩:=R.d.find R.right
 have hE:dE E y.name = if Zb3 D then 5 else 0:=by rw[R.name];exact hE
 have hdat:ZbC [(y.name,y.t,y.k)] y.name = some 0:=by simp[ZbC]
 have hu:Zcd [(y.name,y.t,y.k)] = x.t.size:=by simp[Zcd,R.t]
 have hfull:Zga (Zbt D x.name true) b = decide ((b.size:Int) > D.room - (x.t.size:Int))∧Zga D b = decide ((b.size:Int) > D.room - (x.t.size:Int)):=by
  have r1:=R.d.r1
  have hw:IntKind.wrap .i64 (D.room - (x.t.size:Int)) = D.room - (x.t.size:Int):=wrap_i64 (by omega) (by omega)
  unfold Zga
  rw[Zvg,Zvf,R.d.used,hw]
  exact ⟨rfl,rfl⟩
 have e0:Zcm E y b = Zbw D x b:=by
  unfold Zcm ZcJ Zbw ZdI
  rw[hdat,hE,Zvd R.right,hu,R.d.room,hfull.2]
  cases Zb3 D with
  |true=>rfl
  |false=>simp
 refine ⟨e0,?_⟩
 have hRD:RD (Zd9 D x b) (dD E y.name) (Zbv D x b).t:=by
  unfold Zbv Zd9 Zim
  rw[R.name]
  by_cases c:Zbw D x b = 0
  ·have c':ZdI D [(x.name,x.t,x.k)] x.name b = 0:=c
   rw[if_pos c,if_pos c']
   exact ⟨F.room,by
    show IntKind.wrap .i64 (D.used + (b.size:Int)) = ((x.t++b).size:Int)
    rw[R.d.used,wrap_i64 (by omega) (by omega),ByteArray.size_append];omega,F.fuse,F.f1,F.down,F.calls,F.r1⟩
  ·have c':¬ZdI D [(x.name,x.t,x.k)] x.name b = 0:=c
   rw[if_neg c,if_neg c']
   exact F
 unfold Zb1
 rw[e0]
 unfold Zbu
 by_cases c:Zbw D x b = 0
 ·rw[if_pos c,if_neg (by omega)]
  refine ⟨hRD,?_,R.k,R.m,R.now,R.hi,R.name,R.n,R.op,R.right⟩
  show y.t++b = (Zbv D x b).t
  unfold Zbv;rw[if_pos c,R.t]
 ·rw[if_neg c,if_pos c]
  have ht:(Zbv D x b).t = x.t:=by unfold Zbv;rw[if_neg c]
  unfold Zb7 Zb2
  have hop:(Zbv D x b).op = x.op:=rfl
  rw[hop,R.op]
  cases x.op with
  |true=>exact ⟨hRD,R.t.trans ht.symm,R.k,R.m,by show y.now - 4 = x.now - 4;rw[R.now],R.hi,R.name,R.n,rfl,R.right⟩
  |false=>exact ⟨hRD,R.t.trans ht.symm,R.k,R.m,R.now,R.hi,R.name,R.n,R.op,R.right⟩
theorem RB.drop {D:Dsk} {x:Wrt} {E:DDk} {y:Vrt} (R:RB D x E y):RB D (Zb2 x) E (Zb7 y):=by
 have hop:=R.op
 have hn:=R.now
 unfold Zb7 Zb2
 rw[hop]
 cases x.op with
 |true=>exact ⟨R.d,R.t,R.k,R.m,by show y.now - 4 = x.now - 4;rw[hn],R.hi,R.name,R.n,rfl,R.right⟩
 |false=>exact R
theorem RB.syn {D:Dsk} {x:Wrt} {E:DDk} {y:Vrt} (R:RB D x E y):Zeo E y = Zc3 D x∧RB (Zj3 D x) (Zdf D x) (dD E y.name) (Zfm E y):=by
 obtain ⟨F,hE⟩:=R.d.find R.right
 have hdat:ZbC [(y.name,y.t,y.k)] y.name = some 0:=by simp[ZbC]
 have e0:Zeo E y = Zc3 D x:=by
  unfold Zeo Zfa Zc3
  rw[hdat,R.name,hE,Zvd R.right]
  cases Zb3 D<;>rfl
 refine ⟨e0,?_⟩
 have F':RD (Zbt D x.name true) (dD E y.name) x.t:=by rw[R.name];exact F
 unfold Zfm Zdf Zj3
 rw[e0]
 exact ⟨F',R.t,by show (if Zc3 D x = 0 then (y.t.size:Int) else y.k) = (if Zc3 D x = 0 then (x.t.size:Int) else x.k);rw[R.t,R.k],R.m,R.now,R.hi,R.name,R.n,R.op,R.right⟩
structure RW (D:Dsk) (x:Wrt) (E:DDk) (y:Vrt):Prop where
 b:RB D x E y
 wt:y.wt = x.wt
 c:x.c = y.all.length
 s:x.s = Zbd 0#32 (Z7 y.all)
theorem RW.put {D:Dsk} {x:Wrt} {E:DDk} {y:Vrt} (R:RW D x E y) (r:ByteArray) (hs:x.t.size + (ZZ (x.wt++[r])).size≤4611686018427387904):
  ZlR E y r = Zmj D x r∧RW (Zmk D x r) (ZhJ D x r) (ZlS E y r) (ZhB E y r):=by
 unfold ZlR Zmj Zmk ZhJ ZlS ZhB
 rw[R.b.op,R.b.n,R.wt]
 cases ho:x.op with
 |false=>exact ⟨rfl,R⟩
 |true=>
 simp only[if_true]
 by_cases hr:r.size = x.n
 rotate_left
 ·have hr':¬((r.size:Int) = (x.n:Int)):=by omega
  rw[if_neg hr,if_neg hr',if_neg hr,if_neg hr,if_neg hr',if_neg hr']
  exact ⟨rfl,R⟩
 have hr':(r.size:Int) = (x.n:Int):=by omega
 rw[if_pos hr,if_pos hr',if_pos hr,if_pos hr,if_pos hr',if_pos hr']
 have hc:x.c + 1 = (y.all++[r]).length:=by rw[List.length_append,R.c];rfl
 have hsum:Zbd x.s r.data.toList = Zbd 0#32 (Z7 (y.all++[r])):=by rw[R.s,Zqm,Zkb,Zka]
 by_cases h4:x.wt.length + 1 < 4
 ·rw[if_pos h4,if_pos h4,if_pos h4,if_pos h4,if_pos h4,if_pos h4]
  exact ⟨rfl,⟨⟨R.b.d,R.b.t,R.b.k,R.b.m,R.b.now,R.b.hi,R.b.name,R.b.n,R.b.op,R.b.right⟩,by show y.wt++[r] = x.wt++[r];rw[R.wt],hc,hsum⟩⟩
 ·rw[if_neg h4,if_neg h4,if_neg h4,if_neg h4,if_neg h4,if_neg h4]
  have hne:¬(Zb4 x r).wt = []:=by show ¬x.wt++[r] = [];simp
  unfold Zdk Zc9 Zb6
  rw[if_neg hne,if_neg hne,if_neg hne]
  have R1:RB D (noW (Zb4 x r)) E (ZgN (Zfn y r)):=⟨R.b.d,R.b.t,R.b.k,R.b.m,R.b.now,R.b.hi,R.b.name,R.b.n,R.b.op,R.b.right⟩
  obtain ⟨q1,q2⟩:=R1.lay (b:=ZZ (x.wt++[r])) hs
  refine ⟨q1,⟨q2,?_,?_,?_⟩⟩
  ·unfold Zb1 Zbu
   rw[q1]
   show _ = _
   by_cases c:Zbw D (noW (Zb4 x r)) (ZZ (x.wt++[r])) = 0
   ·rw[if_pos c]
    rw[show (Zb4 x r).wt = x.wt++[r] from rfl,if_neg (by omega)];rfl
   ·rw[if_neg c,show (Zb4 x r).wt = x.wt++[r] from rfl,if_pos c]
    unfold Zb7 Zb2
    split<;>split<;>rfl
  ·unfold Zb1 Zbu
   rw[q1]
   by_cases c:Zbw D (noW (Zb4 x r)) (ZZ (x.wt++[r])) = 0
   ·rw[if_pos c,show (Zb4 x r).wt = x.wt++[r] from rfl,if_neg (by omega)];exact hc
   ·rw[if_neg c,show (Zb4 x r).wt = x.wt++[r] from rfl,if_pos c]
    unfold Zb7 Zb2
    split<;>split<;>exact hc
  ·unfold Zb1 Zbu
   rw[q1]
   by_cases c:Zbw D (noW (Zb4 x r)) (ZZ (x.wt++[r])) = 0
   ·rw[if_pos c,show (Zb4 x r).wt = x.wt++[r] from rfl,if_neg (by omega)];exact hsum
   ·rw[if_neg c,show (Zb4 x r).wt = x.wt++[r] from rfl,if_pos c]
    unfold Zb7 Zb2
    split<;>split<;>exact hsum
theorem RW.close {D:Dsk} {x:Wrt} {E:DDk} {y:Vrt} (R:RW D x E y) (hs:x.t.size + (ZZ x.wt).size + 17≤4611686018427387904):
  (Zep E y).c = (ZdE D x).c∧(Zep E y).s = (ZdE D x).s∧(Zep E y).e = (ZdE D x).e∧RB (ZdE D x).D (ZdE D x).x (Zep E y).E (Zep E y).y:=by
 unfold Zep ZdE
 simp only
 rw[R.b.op]
 cases ho:x.op with
 |false=>exact ⟨rfl,rfl,rfl,R.b⟩
 |true=>
 simp only[if_true]
 rw[←R.c,←R.s]
 have flu:Zjw E y = Zdk D x∧RB (Zc9 D x) (Zb6 D x) (ZgD E y) (ZfQ E y)∧(Zb6 D x).t.size≤x.t.size + (ZZ x.wt).size:=by
  unfold Zjw Zdk Zc9 Zb6 ZgD ZfQ
  rw[R.wt]
  by_cases c:x.wt = []
  ·rw[if_pos c,if_pos c,if_pos c,if_pos c,if_pos c,if_pos c]
   exact ⟨rfl,R.b,by omega⟩
  ·rw[if_neg c,if_neg c,if_neg c,if_neg c,if_neg c,if_neg c]
   have R1:RB D (noW x) E y:=⟨R.b.d,R.b.t,R.b.k,R.b.m,R.b.now,R.b.hi,R.b.name,R.b.n,R.b.op,R.b.right⟩
   obtain ⟨q1,q2⟩:=R1.lay (b:=ZZ x.wt) (by show x.t.size + _≤_;omega)
   refine ⟨q1,q2,?_⟩
   rw[Zif]
   unfold Zbv
   show (if _ then x.t++_ else x.t).size≤_
   split
   ·rw[ByteArray.size_append];exact Nat.le_refl _
   ·omega
 obtain ⟨f1,f2,f3⟩:=flu
 rw[f1]
 by_cases c1:Zdk D x = 0
 rotate_left
 ·rw[if_neg c1,if_neg c1];exact ⟨rfl,rfl,rfl,f2⟩
 rw[if_pos c1,if_pos c1]
 obtain ⟨g1,g2⟩:=f2.lay (b:=ZH x.c x.s) (by rw[Zhc];omega)
 rw[g1]
 by_cases c2:Zbw (Zc9 D x) (Zb6 D x) (ZH x.c x.s) = 0
 rotate_left
 ·rw[if_neg c2,if_neg c2]
  refine ⟨rfl,rfl,rfl,?_⟩
  have hd:Zb7 (Zb1 (ZgD E y) (ZfQ E y) (ZH x.c x.s)) = Zb1 (ZgD E y) (ZfQ E y) (ZH x.c x.s):=by
   unfold Zb1
   rw[g1,if_neg c2]
   unfold Zb7
   cases ho2:(ZfQ E y).op with
   |true=>simp
   |false=>simp[ho2]
  show RB _ _ _ (Zb7 (Zb1 (ZgD E y) (ZfQ E y) (ZH x.c x.s)))
  rw[hd];exact g2
 rw[if_pos c2,if_pos c2]
 obtain ⟨s1,s2⟩:=g2.syn
 rw[s1]
 by_cases c3:Zc3 (Zd9 (Zc9 D x) (Zb6 D x) (ZH x.c x.s)) (Zbu (Zbv (Zc9 D x) (Zb6 D x) (ZH x.c x.s)) (Zbw (Zc9 D x) (Zb6 D x) (ZH x.c x.s))) = 0
 ·rw[if_pos c3,if_pos c3]
  refine ⟨rfl,rfl,rfl,?_⟩
  have hb:∀ z,Zbu z (0:Int) = z:=fun z=>by unfold Zbu;rw[if_neg (by omega)]
  show RB _ (Zb2 (Zbu _ _)) _ _
  rw[c3,hb]
  exact s2.drop
 ·rw[if_neg c3,if_neg c3]
  refine ⟨rfl,rfl,rfl,?_⟩
  have hb:∀ (z:Wrt) (e:Int),e≠0→Zbu z e = Zb2 z:=fun z e h=>by unfold Zbu;rw[if_pos h]
  show RB _ (Zbu _ _) _ _
  rw[hb _ _ c3]
  exact s2.drop
end Go.Proofs.YtogaiomakhapmaaGreat.AL
namespace Go.Proofs.YtogaiomakhapmaaGreat.AL
set_option maxRecDepth 100000
open Go
open Go.Proofs.Tryz
structure VPk (x:Vrt) (N:Nat):Prop where
 n:x.n = (N:Int)
 n1:1≤N
 n2:N≤64
 wa:∀ s∈x.wt,s.size = N
 wl:x.wt.length≤4
 al:x.all.length≤1000
 aa:∀ s∈x.all,s.size≤1000
def ZlT (D:DDk) (x:Vrt) (c:Nat) (s:BitVec 32):VClo:=
 if Zcm D x (ZH c s) = 0 then (if Zeo (dD D x.name) (Zb1 D x (ZH c s)) = 0 then ⟨c,s,0,dD (dD D x.name) (Zb1 D x (ZH c s)).name,Zb7 (Zfm (dD D x.name) (Zb1 D x (ZH c s)))⟩
  else ⟨0,0#32,Zeo (dD D x.name) (Zb1 D x (ZH c s)),dD (dD D x.name) (Zb1 D x (ZH c s)).name,Zb7 (Zfm (dD D x.name) (Zb1 D x (ZH c s)))⟩) else ⟨0,0#32,Zcm D x (ZH c s),dD D x.name,Zb7 (Zb1 D x (ZH c s))⟩
def zI:List AVal:=[.lit (.int .i64 0),.lit (.int .u32 0)]
def Zfx (c:Nat) (s:BitVec 32):List AVal:=[.lit (.int .i64 (c:Int)),.lit (.int .u32 (u32 s))]
def Ztu (r:VClo):AVal:=.tup [.agg (Zfx r.c r.s),.lit (.int .i64 r.e)]
section vs
variable {L:VLoc} {h g:Za} {D:DDk} {x:Vrt} {v:Vs} {N:Nat}
theorem VFr.out {u:Vs} (F:VFr L h g u v) {c:Nat} (hc:h.length≤c) (o:AObj):VFr L h (g.set c o) u v:=
 ⟨by rw[List.length_set];exact F.len,fun b hb h1 h2=>by rw[List.getElem?_set_ne (by omega)];exact F.get b hb h1 h2,F.at'⟩
theorem VS.out (S:VS L h D x v) {c:Nat} (h1:¬L.In c) (h2:¬v.At c) (o:AObj):VS L (h.set c o) D x v:=
 S.far fun b _ hb=>List.getElem?_set_ne fun e=>by subst e;exact hb.elim h1 h2
theorem ZzR (S:VS L h D x v) (O:VOk D x) (Q:VPk x N) (hw:x.wt.length < 4) (ha:x.all.length < 1000) (r:ByteArray) (hr80:r.size≤1000):
  ∃ g v',Zi2 (.ptr L.wp 0) r h = some (.lit (.int .i64 (ZlR D x r)),g)∧VS L g (ZlS D x r) (ZhB D x r) v'∧VFr L h g v v':=by
 unfold ZlR ZlS ZhB
 cases ho:x.op with
 |false=>
  refine ⟨h,v,?_,S,.refl _ _ _⟩
  rw[ZrM]
  exact bd rfl (bd rfl (bd (Zc S.W) (bd rfl (cT (by rw[ho];rfl) rfl))))
 |true=>
 by_cases hr:(r.size:Int) = x.n
 rotate_left
 ·rw[if_neg hr,if_neg hr,if_neg hr]
  refine ⟨h,v,?_,S,.refl _ _ _⟩
  rw[ZrM]
  exact bd rfl (bd rfl (bd (Zc S.W) (bd rfl (cF (by rw[ho];rfl) (bd rfl (bd rfl (bd (Zc S.W) (bd rfl (cT (by rw[decide_eq_false hr];rfl) rfl)))))))))
 rw[if_pos hr,if_pos hr,if_pos hr]
 have hrN:r.size = N:=by have:=Q.n;omega
 obtain ⟨w1,g1,a1,o1,W1,S1,F1⟩:=S.pushW r (by omega)
 obtain ⟨h1,hh1⟩:∃ h1,h1 = g1.set L.wp (.cells (Zcl L { x with wt:=x.wt++[r]} w1 v.a)):=⟨_,rfl⟩
 rw[←hh1] at S1 F1
 have st1':st1 g1 (.ptr L.wp (0 + 4)) w1 = some h1:=by rw[hh1];exact Zbq W1 o1 (by show 4 < 7;omega)
 obtain ⟨w2,g2,a2,o2,W2,S2,F2⟩:=S1.pushA r (by show x.all.length≤1000;omega)
 obtain ⟨h2,hh2⟩:∃ h2,h2 = g2.set L.wp (.cells (Zcl L { x with wt:=x.wt++[r],all:=x.all++[r]} w1 w2)):=⟨_,rfl⟩
 have S2:VS L h2 D (Zfn x r) { d:=v.d,w:=w1,a:=w2}:=by rw[hh2];exact S2
 have F2:VFr L h1 h2 { v with w:=w1} { d:=v.d,w:=w1,a:=w2}:=by rw[hh2];exact F2
 have st2':st1 g2 (.ptr L.wp (0 + 5)) w2 = some h2:=by rw[hh2];exact Zbq W2 o2 (by show 5 < 7;omega)
 have hl2:Zbb w1 = some ((x.wt++[r]).length:Int):=S2.Vw.sl.len
 have hlen:((x.wt++[r]).length:Int) = (x.wt.length:Int) + 1:=by simp
 have pre:∀ K,(bif (decide (((x.wt++[r]).length:Int) < 4)) then (some (AVal.lit (.int .i64 0),h2))
   else ((Zg (.ptr L.wp 0)).bind fun p29=>(Zf 3 p29).bind fun p30=>(ld1 h2 p30).bind fun x31=>(asI .i64 x31).bind fun n32=>(Zg (.ptr L.wp 0)).bind fun p33=>(Zf 4 p33).bind fun p34=>(ld1 h2 p34).bind fun x35=>
    (ZM (ZfG n32 x35 h2) h2).bind fun r36=>(Z6 r36 0).bind fun x37=>(asS x37).bind fun s38=>(Z6 r36 1).bind fun x39=>(asB x39).bind fun b40=>(Zg (.ptr L.wp 0)).bind fun p41=>(Zf 4 p41).bind fun p42=>
    (st1 h2 p42 (.lit (.slice none 0 0))).bind fun h43=>(Zfh (.ptr L.wp 0) s38 h43).bind fun r44=>(asI .i64 r44.1).bind fun n45=>some ((.lit (.int .i64 n45)),r44.2))) = K→Zi2 (.ptr L.wp 0) r h = K:=fun K hK=>by
  rw[ZrM]
  refine bd rfl (bd rfl (bd (Zc S.W) (bd rfl (cF (by rw[ho];rfl) (bd rfl (bd rfl (bd (Zc S.W) (bd rfl (cF (by rw[decide_eq_true hr];rfl) ?_)))))))))
  refine bd rfl (bd rfl (bd (Zc S.W) (bd (Zkf _ _ _) (bd a1 (bd rfl (bd rfl (bd st1' ?_)))))))
  refine bd rfl (bd rfl (bd (Zc S1.W) (bd (Zkf _ _ _) (bd a2 (bd rfl (bd rfl (bd st2' ?_)))))))
  exact bd rfl (bd rfl (bd (Zc S2.W) (bd hl2 hK)))
 by_cases h4:x.wt.length + 1 < 4
 ·rw[if_pos h4,if_pos h4,if_pos h4]
  exact ⟨h2,_,pre _ (cT (decide_eq_true (by omega)) rfl),S2,F1.trans F2⟩
 ·rw[if_neg h4,if_neg h4,if_neg h4]
  have hp:=ZpY (n:=N) S2.Vw.sl Q.n1 Q.n2 (by show 1≤(x.wt++[r]).length;simp) (by show (x.wt++[r]).length≤4;simp;omega) (fun s hs=>by
   rcases List.mem_append.1 hs with hs |hs
   ·exact Q.wa s hs
   ·rw[List.mem_singleton.1 hs];exact hrN)
  obtain ⟨S3,F3⟩:=S2.noneW
  obtain ⟨h3,hh3⟩:∃ h3,h3 = h2.set L.wp (.cells (Zcl L (ZgN (Zfn x r)) (.lit (.slice none 0 0)) w2)):=⟨_,rfl⟩
  have st3:st1 h2 (.ptr L.wp (0 + 4)) (.lit (.slice none 0 0)) = some h3:=by rw[hh3];exact Zbq S2.W rfl (by show 4 < 7;omega)
  have S3:VS L h3 D (ZgN (Zfn x r)) { d:=v.d,w:=.lit (.slice none 0 0),a:=w2}:=by rw[hh3];exact S3
  have F3:VFr L h2 h3 { d:=v.d,w:=w1,a:=w2} { d:=v.d,w:=.lit (.slice none 0 0),a:=w2}:=by rw[hh3];exact F3
  have hcs:(Z7 (x.wt++[r])).length = (x.wt++[r]).length * N:=ZdZ (fun s hs=>by
   rcases List.mem_append.1 hs with hs |hs
   ·exact Q.wa s hs
   ·rw[List.mem_singleton.1 hs];exact hrN)
  have h5:(x.wt++[r]).length * N≤4 * 64:=Nat.mul_le_mul (by simp;omega) Q.n2
  obtain ⟨g4,v4,e4,S4,F4⟩:=ZpC S3 (⟨O.nm,O.room,O.tb,O.h4,O.h3⟩:VOk D (ZgN (Zfn x r))) (s:=ZZ (x.wt++[r])) (by rw[Zf6,hcs];omega)
  refine ⟨g4,v4,pre _ (cF (decide_eq_false (by omega)) ?_),S4,((F1.trans F2).trans F3).trans F4⟩
  refine bd rfl (bd rfl (bd (Zc S2.W) (bd (show asI .i64 (.lit (.int .i64 x.n)) = some (N:Int) by rw[Q.n];rfl) (bd rfl (bd rfl (bd (Zc S2.W) (bd hp ?_)))))))
  exact bd rfl (bd rfl (bd rfl (bd rfl (bd rfl (bd rfl (bd st3 (bd e4 (bd rfl rfl))))))))
structure Own2 (L:VLoc) (h g:Za) (v:Vs) (t2 x4:Nat) (c:Nat) (s:BitVec 32):Prop where
 l:h.length≤t2∧h.length≤x4∧t2≠x4
 a:Zb g t2 = some zI
 b:Zb g x4 = some (Zfx c s)
 i:¬L.In t2∧¬L.In x4
 v:¬v.At t2∧¬v.At x4
theorem Own2.fr {g':Za} {v':Vs} {t2 x4 c:Nat} {s:BitVec 32} (O:Own2 L h g v t2 x4 c s) (F:VFr L g g' v v'):Own2 L h g' v' t2 x4 c s:=by
 have l1:=ZB O.a
 have l2:=ZB O.b
 exact ⟨O.l,by rw[ZO (F.get t2 l1 O.i.1 O.v.1)];exact O.a,by rw[ZO (F.get x4 l2 O.i.2 O.v.2)];exact O.b,O.i,
  fun hv=>(F.at' t2 hv).elim O.v.1 fun h=>by omega,fun hv=>(F.at' x4 hv).elim O.v.2 fun h=>by omega⟩
theorem ZzP (S:VS L h D x v) (hn:x.name.size≤100):∃ g v',Zhu (.ptr L.y 0) x.name h = some (.lit (.int .i64 (Zeo D x)),g)∧VS L g (dD D x.name) (Zfm D x) v'∧VFr L h g v v':=by
 obtain ⟨g,v1,e1,A1,F1⟩:=Z3x S.A (by simp) x.name (by omega)
 have hL:Zic D [(x.name,x.t,x.k)] x.name = [(x.name,x.t,(Zfm D x).k)]:=by
  have hd:ZbC [(x.name,x.t,x.k)] x.name = some 0:=by simp[ZbC]
  have hw:Zcv [(x.name,x.t,x.k)] x.name = []:=by simp[Zcv]
  unfold Zic Zfm Zeo Zfa
  rw[hd]
  simp only
  by_cases c:dE D x.name = 0
  ·rw[if_pos c,hw];simp[ZdX,c]
  ·rw[if_neg c];simp[c]
 rw[hL] at A1
 obtain ⟨S1,V1⟩:=S.disk A1 F1
 exact ⟨g,{ v with d:=v1},e1,S1,V1⟩
theorem Zts {u:Vs} {t2 x4 c:Nat} {s:BitVec 32} (S:VS L g D x v) (F:VFr L h g u v) (W:Own2 L h g v t2 x4 c s) (h4:x.op = true→4≤x.now) (h3:x.now≤4611686018427387904) (e:Int):
  ∃ g',Zi4 (.ptr L.wp 0) t2 x4 e g = some (.tup [.agg (if e = 0 then Zfx c s else zI),.lit (.int .i64 e)],g')∧VS L g' D (Zb7 x) v∧VFr L h g' u v:=by
 obtain ⟨g1,e1,S1,F1⟩:=ZpD S h4 h3
 have W1:=W.fr F1
 by_cases c0:e = 0
 ·subst c0
  rw[if_pos rfl]
  have c1:Zb (g1.set t2 (.cells (Zfx c s))) t2 = some (Zfx c s):=Zm W1.a
  refine ⟨g1.set t2 (.cells (Zfx c s)),?_,S1.out W1.i.1 W1.v.1 _,(F.trans F1).out W1.l.1 _⟩
  rw[Zw8]
  refine bd e1 (cF rfl (bd (Zbh W1.b (by show 2≤2;omega)) (bd (Zcn W1.a rfl rfl (by show 2≤2;omega)) (bd (Zbh c1 (by show 2≤2;omega)) rfl))))
 ·rw[if_neg c0]
  have c1:Zb (g1.set t2 (.cells zI)) t2 = some zI:=Zm W1.a
  refine ⟨g1.set t2 (.cells zI),?_,S1.out W1.i.1 W1.v.1 _,(F.trans F1).out W1.l.1 _⟩
  rw[Zw8]
  refine bd e1 (cT (by rw[decide_eq_false c0];rfl) (bd (Zcn W1.a rfl rfl (by show 2≤2;omega)) (bd (Zbh c1 (by show 2≤2;omega)) rfl)))
theorem Z3z {x:Vrt} (h4:x.op = true→4≤x.now) (h3:x.now≤4611686018427387904):((Zb7 x).op = true→4≤(Zb7 x).now)∧(Zb7 x).now≤4611686018427387904∧(Zb7 x).name = x.name∧(Zb7 x).t = x.t:=by
 unfold Zb7
 cases ho:x.op with
 |true=>exact ⟨fun h=>(by cases h),by show x.now - 4≤_;omega,rfl,rfl⟩
 |false=>exact ⟨fun h=>h4 h,h3,rfl,rfl⟩
theorem Ztp {D:DDk} {x:Vrt} (b:ByteArray) (h4:x.op = true→4≤x.now) (h3:x.now≤4611686018427387904):((Zb1 D x b).op = true→4≤(Zb1 D x b).now)∧(Zb1 D x b).now≤4611686018427387904∧(Zb1 D x b).name = x.name∧(Zb1 D x b).t.size≤x.t.size + b.size:=by
 unfold Zb1
 split
 ·exact ⟨h4,h3,rfl,by show (x.t++b).size≤_;rw[ByteArray.size_append];omega⟩
 ·obtain ⟨a,b',c,d⟩:=Z3z h4 h3
  exact ⟨a,b',c,by rw[d];omega⟩
theorem Z3C (D:DDk) (n:ByteArray) (hr:0≤D.room∧D.room≤16777216):0≤(dD D n).room∧(dD D n).room≤16777216:=by rw[ZqQ];exact hr
theorem Ztt {u:Vs} {t2 x4 c:Nat} {s:BitVec 32} (S:VS L g D x v) (F:VFr L h g u v) (W:Own2 L h g v t2 x4 c s) (O:VOk D x) (hc:c≤1000):
  ∃ g' v',ZfF (.ptr L.wp 0) t2 x4 g = some (Ztu (ZlT D x c s),g')∧VS L g' (ZlT D x c s).E (ZlT D x c s).y v'∧VFr L h g' u v':=by
 obtain ⟨g1,v1,e1,S1,F1⟩:=ZpC S O (s:=ZH c s) (by rw[Zhc];omega)
 have W1:=W.fr F1
 have hre:=ZtY (c:=c) (by omega) s g
 obtain ⟨k1,k2,k3,k4⟩:=Ztp (D:=D) (ZH c s) O.h4 O.h3
 have pre:∀ K,(bif (decide (Zcm D x (ZH c s) = 0)) then ((Zg (.ptr L.wp 0)).bind fun p41=>(Zf 0 p41).bind fun p42=>(ld1 g1 p42).bind fun x43=>(Zg (.ptr L.wp 0)).bind fun p44=>(Zf 2 p44).bind fun p45=>(ld1 g1 p45).bind fun x46=>(asS x46).bind fun s47=>
   (Zhu x43 s47 g1).bind fun r48=>(asI .i64 r48.1).bind fun n49=>Zi4 (.ptr L.wp 0) t2 x4 n49 r48.2) else (Zi4 (.ptr L.wp 0) t2 x4 (Zcm D x (ZH c s)) g1)) = K→ZfF (.ptr L.wp 0) t2 x4 g = K:=fun K hK=>by
  rw[Z7b]
  exact bd (Zbh W.b (by show 2≤2;omega)) (bd hre (bd rfl (bd rfl (bd rfl (bd rfl (bd e1 (bd rfl hK)))))))
 unfold ZlT
 by_cases c2:Zcm D x (ZH c s) = 0
 ·rw[if_pos c2]
  obtain ⟨g2,v2,q2,S2,F2⟩:=ZzP S1 (by rw[k3];exact O.nm)
  have W2:=W1.fr F2
  obtain ⟨g3,q3,S3,F3⟩:=Zts S2 ((F.trans F1).trans F2) W2 k1 k2 (Zeo (dD D x.name) (Zb1 D x (ZH c s)))
  have q4:ZfF (.ptr L.wp 0) t2 x4 g = _:=pre _ (cT (decide_eq_true c2) (bd rfl (bd rfl (bd (Zc S1.W) (bd rfl (bd rfl (bd (Zc S1.W) (bd rfl (bd q2 (bd rfl q3))))))))))
  by_cases c3:Zeo (dD D x.name) (Zb1 D x (ZH c s)) = 0
  ·rw[if_pos c3] at q4⊢
   refine ⟨g3,v2,?_,S3,F3⟩
   rw[q4,c3];rfl
  ·rw[if_neg c3] at q4⊢
   exact ⟨g3,v2,q4,S3,F3⟩
 ·rw[if_neg c2]
  obtain ⟨g3,q3,S3,F3⟩:=Zts S1 (F.trans F1) W1 k1 k2 (Zcm D x (ZH c s))
  rw[if_neg c2] at q3
  exact ⟨g3,v1,pre _ (cF (decide_eq_false c2) q3),S3,F3⟩
theorem ZzW (S:VS L h D x v) (O:VOk D x) (Q:VPk x N) (hb:x.t.size≤1000000):∃ g v',Zhn (.ptr L.wp 0) h = some (Ztu (Zep D x),g)∧VS L g (Zep D x).E (Zep D x).y v'∧VFr L h g v v':=by
 obtain ⟨h1,hh1⟩:∃ h1,h1 = psh h (.cells zI):=⟨_,rfl⟩
 have l1:h1.length = h.length + 1:=by rw[hh1];exact Zbm _ _
 have G1:Grow h h1:=by rw[hh1];exact (Grow.refl h).psh _
 obtain ⟨S1,F1⟩:=S.grow G1
 have ca1:Zb h1 h.length = some zI:=by rw[hh1];exact ZU _ _
 have nin:∀ c,h.length≤c→¬L.In c∧¬v.At c:=fun c hc=>⟨fun hi=>by have:=S.lt (.inl hi);omega,fun hv=>by have:=S.lt (.inr hv);omega⟩
 unfold Zep
 simp only
 cases ho:x.op with
 |false=>
  have c2:Zb (h1.set h.length (.cells zI)) h.length = some zI:=Zm ca1
  refine ⟨h1.set h.length (.cells zI),v,?_,S1.out (nin _ (Nat.le_refl _)).1 (nin _ (Nat.le_refl _)).2 _,F1.out (Nat.le_refl _) _⟩
  rw[Zw7]
  show (Zg _).bind _ = _
  refine bd rfl (bd rfl (bd (x:=ld1 (psh h (.cells zI)) (.ptr L.wp (0 + 6))) (a:=.lit (.bool x.op)) (by rw[←hh1];exact Zc S1.W) (bd rfl (cT (by rw[ho];rfl) ?_))))
  refine bd (a:=h1.set h.length (.cells zI)) ?_ (bd (Zbh c2 (by show 2≤2;omega)) rfl)
  show stn 2 (psh h (.cells zI)) (.ptr h.length 0) zI = _
  rw[←hh1];exact Zcn ca1 rfl rfl (by show 2≤2;omega)
 |true=>
 simp only[if_true]
 obtain ⟨C,hC⟩:∃ C,C = x.all.length:=⟨_,rfl⟩
 obtain ⟨M,hM⟩:∃ M,M = Zbd 0#32 (Z7 x.all):=⟨_,rfl⟩
 have hsum:=ZtM S1.Va.sl Q.al Q.aa
 rw[←hC,←hM] at hsum
 rw[←hC,←hM]
 obtain ⟨h2,hh2⟩:∃ h2,h2 = (psh h1 (.cells zI)).set h1.length (.cells (Zfx C M)):=⟨_,rfl⟩
 have cz:Zb (psh h1 (.cells zI)) h1.length = some zI:=ZU _ _
 have st2:stn 2 (psh h1 (.cells zI)) (.ptr h1.length 0) (Zfx C M) = some h2:=by rw[hh2];exact Zcn cz rfl rfl (by show 2≤2;omega)
 have l2:h2.length = h.length + 2:=by rw[hh2,List.length_set,Zbm,l1]
 have k2:∀ c,c < h1.length→h2[c]? = h1[c]?:=fun c hc=>by
  rw[hh2,List.getElem?_set_ne (by omega)];simp only[psh];exact List.getElem?_append_left hc
 have S2:VS L h2 D x v:=S1.far fun c hc _=>k2 c hc
 have F2:VFr L h h2 v v:=⟨by omega,fun c hc a b=>(k2 c (by omega)).trans (F1.get c hc a b),fun _ h=>.inl h⟩
 have W2:Own2 L h h2 v h.length h1.length C M:=⟨by omega,by rw[ZO (k2 _ (by omega))];exact ca1,by rw[hh2];exact Zm cz,⟨(nin _ (Nat.le_refl _)).1,(nin _ (by omega)).1⟩,⟨(nin _ (Nat.le_refl _)).2,(nin _ (by omega)).2⟩⟩
 have hlw:Zbb v.w = some (x.wt.length:Int):=S2.Vw.sl.len
 have pre:∀ K,(bif (decide ((x.wt.length:Int) > 0)) then ((Zg (.ptr L.wp 0)).bind fun p17=>(Zf 3 p17).bind fun p18=>(ld1 h2 p18).bind fun x19=>(asI .i64 x19).bind fun n20=>(Zg (.ptr L.wp 0)).bind fun p21=>(Zf 4 p21).bind fun p22=>(ld1 h2 p22).bind fun x23=>
   (ZM (ZfG n20 x23 h2) h2).bind fun r24=>(Z6 r24 0).bind fun x25=>(asS x25).bind fun s26=>(Z6 r24 1).bind fun x27=>(asB x27).bind fun b28=>(Zfh (.ptr L.wp 0) s26 h2).bind fun r29=>(asI .i64 r29.1).bind fun n30=>
   bif (!decide (n30 = 0)) then ((stn 2 r29.2 (.ptr h.length 0) zI).bind fun h31=>(ldn 2 h31 (.ptr h.length 0)).bind fun xs32=>some ((AVal.tup [(.agg xs32),(.lit (.int .i64 n30))]),h31)) else (ZfF (.ptr L.wp 0) h.length h1.length r29.2))
   else (ZfF (.ptr L.wp 0) h.length h1.length h2)) = K→Zhn (.ptr L.wp 0) h = K:=fun K hK=>by
  rw[Zw7]
  show (Zg _).bind _ = _
  refine bd rfl (bd rfl (bd (x:=ld1 (psh h (.cells zI)) (.ptr L.wp (0 + 6))) (a:=.lit (.bool x.op)) (by rw[←hh1];exact Zc S1.W) (bd rfl (cF (by rw[ho];rfl) ?_))))
  refine bd rfl (bd rfl (bd (x:=ld1 (psh h (.cells zI)) (.ptr L.wp (0 + 5))) (a:=v.a) (by rw[←hh1];exact Zc S1.W) ?_))
  refine bd (x:=ZM (Zhp v.a (psh h (.cells zI))) (psh h (.cells zI))) (by rw[←hh1];exact hsum) (bd rfl ?_)
  refine bd (x:=stn 2 (psh (psh h (.cells zI)) (.cells zI)) (.ptr (psh h (.cells zI)).length 0) (Zfx C M)) (by rw[←hh1];exact st2) ?_
  have hh1':psh h (.cells [.lit (.int .i64 0),.lit (.int .u32 0)]) = h1:=hh1.symm
  rw[hh1']
  exact bd rfl (bd rfl (bd (Zc S2.W) (bd hlw hK)))
 unfold Zjw ZgD ZfQ
 by_cases c:x.wt = []
 ·rw[if_pos c,if_pos c,if_pos c,if_pos rfl]
  obtain ⟨g,v',q,S3,F3⟩:=Ztt S2 F2 W2 O (by have:=Q.al;omega)
  exact ⟨g,v',pre _ (cF (decide_eq_false (by rw[c];simp)) q),S3,F3⟩
 ·rw[if_neg c,if_neg c,if_neg c]
  have hpos:0 < x.wt.length:=List.length_pos_iff.2 c
  have hp:=ZpY (n:=N) S2.Vw.sl Q.n1 Q.n2 (by omega) Q.wl Q.wa
  have hcs:(Z7 x.wt).length = x.wt.length * N:=ZdZ Q.wa
  have h5:x.wt.length * N≤4 * 64:=Nat.mul_le_mul Q.wl Q.n2
  have hbs:(ZZ x.wt).size≤261:=by rw[Zf6,hcs];omega
  obtain ⟨g3,v3,q3,S3,F3⟩:=ZpC S2 O (s:=ZZ x.wt) (by omega)
  have W3:=W2.fr F3
  have pre2:∀ K,(bif (!decide (Zcm D x (ZZ x.wt) = 0)) then ((stn 2 g3 (.ptr h.length 0) zI).bind fun h31=>(ldn 2 h31 (.ptr h.length 0)).bind fun xs32=>some ((AVal.tup [(.agg xs32),(.lit (.int .i64 (Zcm D x (ZZ x.wt))))]),h31)) else (ZfF (.ptr L.wp 0) h.length h1.length g3)) = K→Zhn (.ptr L.wp 0) h = K:=fun K hK=>by
   refine pre _ (cT (decide_eq_true (by omega)) ?_)
   refine bd rfl (bd rfl (bd (Zc S2.W) (bd (show asI .i64 (.lit (.int .i64 x.n)) = some (N:Int) by rw[Q.n];rfl) (bd rfl (bd rfl (bd (Zc S2.W) (bd hp ?_)))))))
   exact bd rfl (bd rfl (bd rfl (bd rfl (bd q3 (bd rfl hK)))))
  by_cases c1:Zcm D x (ZZ x.wt) = 0
  ·rw[if_pos c1]
   obtain ⟨k1,k2',k3,k4⟩:=Ztp (D:=D) (ZZ x.wt) O.h4 O.h3
   have O3:VOk (dD D x.name) (Zb1 D x (ZZ x.wt)):=⟨by rw[k3];exact O.nm,Z3C _ _ O.room,by omega,k1,k2'⟩
   obtain ⟨g,v',q,S4,F4⟩:=Ztt S3 (F2.trans F3) W3 O3 (by have:=Q.al;omega)
   exact ⟨g,v',pre2 _ (cF (by rw[decide_eq_true c1];rfl) q),S4,F4⟩
  ·rw[if_neg c1]
   have c5:Zb (g3.set h.length (.cells zI)) h.length = some zI:=Zm W3.a
   refine ⟨g3.set h.length (.cells zI),v3,pre2 _ (cT (by rw[decide_eq_false c1];rfl) ?_),S3.out W3.i.1 W3.v.1 _,(F2.trans F3).out (Nat.le_refl _) _⟩
   exact bd (Zcn W3.a rfl rfl (by show 2≤2;omega)) (bd (Zbh c5 (by show 2≤2;omega)) rfl)
end vs
end Go.Proofs.YtogaiomakhapmaaGreat.AL
namespace Go.Proofs.YtogaiomakhapmaaGreat.AL
set_option maxRecDepth 100000
open Go
open Go.Proofs.Tryz
theorem Z12 {n:Int} (hn:n < 1∨64 < n) (h:Za):Zit n h = some (.tup [.lit (.string ⟨#[]⟩),.lit (.bool false)],h):=by
 rw[Zwm]
 by_cases c:n < 1
 ·refine cT (decide_eq_true c) ?_
  rw[Zrz];rfl
 ·refine cF (decide_eq_false c) ?_
  rw[Zrz]
  exact cT (decide_eq_true (by omega)) rfl
theorem Z2X {n:Int} (hn:n < 1∨64 < n) (d b:AVal) (name:ByteArray) (h:Za):Zdv d b name n h = some (.tup [.lit (.pointer none),.lit (.int .i64 1)],h):=by
 rw[Znh]
 exact bd (by rw[Z12 hn];exact ZbI _ _) (bd rfl (bd rfl (bd rfl (bd rfl (cT rfl rfl)))))
theorem Z3Y {h:Za} {b:Nat} {m now hi:Int} (B:Zb h b = some (Zbl m now hi)) {n:Int} (h0:0≤n) (h1:0≤now) (h2:now≤m) (h3:m < now + n) (h4:m≤9223372036854775807):
  ZiH (.ptr b 0) n h = some (.lit (.int .i64 9),h):=by
 rw[Zxg]
 refine bd (Zii B) (bd rfl (cF rfl ?_))
 rw[Zxh]
 exact cF (decide_eq_false (by omega)) (bd (ZvA B h1 h2 h4) (bd rfl (cT (decide_eq_true (by omega)) rfl)))
theorem Z2Z {h:Za} {bb:Nat} {m now hi:Int} {n:Nat} (B:Zb h bb = some (Zbl m now hi)) (h1:1≤n) (h2:n≤64) (h0:0≤now) (hm:now≤m) (h3:m < now + 4) (h4:m≤9223372036854775807) (d:AVal) (name:ByteArray):
  Zdv d (.ptr bb 0) name (n:Int) h = some (.tup [.lit (.pointer none),.lit (.int .i64 9)],h):=by
 rw[Znh]
 exact bd (by rw[Zqd h1 h2];exact ZbI _ _) (bd rfl (bd rfl (bd rfl (bd rfl (cF rfl (bd (Z3Y B (by omega) h0 hm h3 h4) (bd rfl (cT rfl rfl))))))))
theorem Z3y {h:Za} {L:WLoc} {x:Wrt} {v:AVal} (W:Zb h L.wp = some (Zbe L x v)) (B:Zb h L.bb = some (Zbl x.m x.now x.hi)) (ho:x.op = true) (hne:L.wp≠L.bb) (h4:4≤x.now) (h3:x.now≤4611686018427387904):
  ∃ g,Zeg (.ptr L.wp 0) h = some (.tup [],g)∧Zb g L.bb = some (Zbl x.m (x.now - 4) x.hi)∧Keep h.length [L.wp,L.bb] h g:=by
 have W1:Zb (h.set L.wp (.cells (Zbe L { x with op:=false} v))) L.wp = some (Zbe L { x with op:=false} v):=Zm W
 have B1:Zb (h.set L.wp (.cells (Zbe L { x with op:=false} v))) L.bb = some (Zbl x.m x.now x.hi):=Zdt _ hne B
 obtain ⟨g,e1,B2,K⟩:=Zrh B1 (n:=4) (by omega) h4 h3
 have K0:Keep h.length [L.wp] h (h.set L.wp (.cells (Zbe L { x with op:=false} v))):=Keep.set (.inr (by simp))
 refine ⟨g,?_,B2,(K0.less (Nat.le_refl _) (by simp)).trans (K.less K0.len (by simp))⟩
 have hg:Zv (ZcS (.ptr L.wp 0) h) h = some (.lit (.bool x.op)):=by
  have:ZcS (.ptr L.wp 0) h = some (.lit (.bool x.op),h):=by
   rw[ZkA]
   refine bd rfl (cT rfl (bd rfl (bd rfl (bd (Zc W) (bd rfl ?_)))))
   rw[ZkB]
  rw[this];exact ZbI _ _
 rw[ZkD]
 refine bd hg (bd rfl (cT ho (bd rfl (bd rfl (bd (Zbq W rfl (by show 7 < 8;omega)) ?_)))))
 exact bd rfl (bd rfl (bd (Zc W1) (bd e1 rfl)))
end Go.Proofs.YtogaiomakhapmaaGreat.AL
namespace Go.Proofs.YtogaiomakhapmaaGreat.AL
set_option maxRecDepth 100000
open Go
open Go.Proofs.Tryz
def ZbX (m now hi:Int) (name:ByteArray) (n:Nat):Wrt:=⟨0,⟨#[]⟩,0,m,now,hi,name,n,[],0,0#32,true⟩
structure CFr (h g:Za) (d mb bb:Nat):Prop where
 len:h.length≤g.length
 get:∀ c,c < h.length→c≠d→c≠mb→c≠bb→g[c]? = h[c]?
theorem Z2Y {h:Za} {d mb bb:Nat} {D:Dsk} {m now hi:Int} {name:ByteArray} {n:Nat} (A:DiskAt h d mb D []) (B:Zb h bb = some (Zbl m now hi)) (hbb:bb≠d∧bb≠mb)
  (h1:1≤n) (h2:n≤64) (hr:Zbp name = true) (hn:name.size≤100) (hb:0≤now) (hb2:now + 4≤m) (hm:m≤9223372036854775807) (h9:now≤1000):
  (ZcX D [] name≠0∧∃ g,Zdv (.ptr d 0) (.ptr bb 0) name (n:Int) h = some (.tup [.lit (.pointer none),.lit (.int .i64 (ZcX D [] name))],g)∧DiskAt g d mb (Zbt D name true) []∧Zb g bb = some (Zbl m now (Zs hi (now + 4)))∧CFr h g d mb bb)∨
  (ZcX D [] name = 0∧(∃ g wp,let x:=ZbX m (now + 4) (Zs hi (now + 4)) name n
   let e:=Zbw (Zbt D name true) x (ZT n)
   (e≠0→Zdv (.ptr d 0) (.ptr bb 0) name (n:Int) h = some (.tup [.lit (.pointer none),.lit (.int .i64 e)],g)∧DiskAt g d mb (Zd9 (Zbt D name true) x (ZT n)) [(name,⟨#[]⟩,0)]∧Zb g bb = some (Zbl m now (Zs hi (now + 4))))∧
   (e = 0→Zdv (.ptr d 0) (.ptr bb 0) name (n:Int) h = some (.tup [.ptr wp 0,.lit (.int .i64 0)],g)∧WG ⟨d,mb,bb,wp⟩ g (Zd9 (Zbt D name true) x (ZT n)) { x with t:=ZT n} (.lit (.slice none 0 0))∧h.length≤wp)∧CFr h g d mb bb)):=by
 obtain ⟨g1,e1,B1,K1⟩:=Zv4 B (n:=4) (by omega) hb hb2 hm
 have hd:=ZB A.dcs
 have hmb:=ZE A.ms
 have hbl:=ZB B
 have A1:=A.keep K1 ⟨hd,by simp only[List.mem_cons,List.not_mem_nil,or_false];exact Ne.symm hbb.1⟩ ⟨hmb,by simp only[List.mem_cons,List.not_mem_nil,or_false];exact Ne.symm hbb.2⟩
 have hl1:=K1.len
 obtain ⟨x,hx⟩:∃ x,x = ZbX m (now + 4) (Zs hi (now + 4)) name n:=⟨_,rfl⟩
 obtain ⟨L,hL⟩:∃ L:WLoc,L = ⟨d,mb,bb,g1.length⟩:=⟨_,rfl⟩
 obtain ⟨h2',hh2⟩:∃ h2',h2' = psh g1 (.cells (Zbe L x (.lit (.slice none 0 0)))):=⟨_,rfl⟩
 have K2:Keep h.length [] g1 h2':=by rw[hh2];exact Keep.psh _ hl1
 have cw:Zb h2' g1.length = some (Zbe L x (.lit (.slice none 0 0))):=by rw[hh2];exact ZU _ _
 have A2:DiskAt h2' d mb D []:=A1.keep K2 ⟨hd,by simp⟩ ⟨hmb,by simp⟩
 have B2:Zb h2' bb = some (Zbl m (now + 4) (Zs hi (now + 4))):=K2.cells hbl (by simp) B1
 have l2:h2'.length = g1.length + 1:=by rw[hh2,Zbm]
 obtain ⟨g3,e3,H3,T3,l3⟩:=Zvu A2.dh name (by omega)
 rw[ZeZ hr] at H3
 have K3:=H3.keep
 have nm:∀ c,c≠d→c≠mb→c∉[d,mb]:=fun c a b=>by simp only[List.mem_cons,List.not_mem_nil,or_false,not_or];exact ⟨a,b⟩
 have B3:=K3.cells (by show bb < _;omega) (nm _ hbb.1 hbb.2) B2
 have W3:=K3.cells (by show g1.length < _;omega) (nm _ (by omega) (by omega)) cw
 have hgl:=K3.len
 have F3:CFr h g3 d mb bb:=⟨by omega,fun c hc a b e=>by rw[K3.get c (by omega) (nm c a b),K2.get c hc (by simp),K1.get c hc (by simp only[List.mem_cons,List.not_mem_nil,or_false];exact e)]⟩
 have pre:∀ r,(cond (decide (ZcX D [] name = 0)) ((ldn 2 g3 (.ptr g1.length 0)).bind fun xs13=>(Zfe xs13 (ZT n) g3).bind fun r14=>(asI .i64 r14.1).bind fun n15=>Zhj g1.length n15 r14.2) (Zhj g1.length (ZcX D [] name) g3)) = r→
   Zdv (.ptr d 0) (.ptr bb 0) name (n:Int) h = r:=fun r hr'=>by
  rw[Znh]
  refine bd (by rw[Zqd h1 h2];exact ZbI _ _) (bd rfl (bd rfl (bd rfl (bd rfl (cF rfl (bd e1 (bd rfl (cF rfl (bd rfl (bd rfl ?_))))))))))
  subst hL hx
  show (Zhm (.ptr d 0) name (psh g1 (.cells (Zbe ⟨d,mb,bb,g1.length⟩ (ZbX m (now + 4) (Zs hi (now + 4)) name n) (.lit (.slice none 0 0)))))).bind _ = _
  rw[←hh2]
  exact bd e3 (bd rfl hr')
 have hLw:L.wp = g1.length:=by rw[hL]
 have hLb:L.bb = bb:=by rw[hL]
 have out:∀ (g:Za) (e:Int),e≠0→Zb g g1.length = some (Zbe L x (.lit (.slice none 0 0)))→Zb g bb = some (Zbl m (now + 4) (Zs hi (now + 4)))→
   ∃ g',Zhj g1.length e g = some (.tup [.lit (.pointer none),.lit (.int .i64 e)],g')∧Zb g' bb = some (Zbl m now (Zs hi (now + 4)))∧Keep g.length [g1.length,bb] g g':=fun g e he hw hbu=>by
  have hxm:x.m = m∧x.now = now + 4∧x.hi = Zs hi (now + 4)∧x.op = true:=by rw[hx];exact ⟨rfl,rfl,rfl,rfl⟩
  obtain ⟨q1,q2,q3,q4⟩:=hxm
  obtain ⟨g',e',b',k'⟩:=Z3y (L:=L) (x:=x) (v:=.lit (.slice none 0 0)) (by rw[hLw];exact hw) (by rw[hLb,q1,q2,q3];exact hbu) q4 (by rw[hLw,hLb];omega) (by omega) (by omega)
  rw[hLw,hLb] at k'
  rw[hLb,q1,q2,q3,show now + 4 - 4 = now by omega] at b'
  rw[hLw] at e'
  refine ⟨g',?_,b',k'⟩
  rw[Zrw]
  exact cT (by rw[decide_eq_false he];rfl) (bd e' rfl)
 by_cases z:ZcX D [] name = 0
 ·have eL:Zge D [] name = [(name,⟨#[]⟩,0)]:=by
   unfold ZcX at z
   unfold Zge
   by_cases c:(ZA D [] name true).2 = 2
   ·rw[if_pos ⟨c,by simp⟩];rfl
   ·rw[if_neg c] at z
    split at z
    ·cases z
    ·rename_i c2;exact absurd z c2
  rw[eL] at H3
  have hxn:x.name = name∧x.t = ⟨#[]⟩∧x.k = 0∧x.m = m∧x.now = now + 4∧x.hi = Zs hi (now + 4)∧x.wt = []:=by rw[hx];exact ⟨rfl,rfl,rfl,rfl,rfl,rfl,rfl⟩
  obtain ⟨q1,q2,q3,q4,q5,q6,q7⟩:=hxn
  have S3:WG L g3 (ZbM D) x (.lit (.slice none 0 0)):=
   ⟨by rw[hL,q1,q2,q3];exact H3.disk,by rw[hLb,q4,q5,q6];exact B3,by rw[hLw];exact W3,by rw[q7];exact .inl ⟨rfl,rfl⟩,by rw[hL];exact ⟨⟨by show g1.length≠d;omega,by show g1.length≠mb;omega,by show g1.length≠bb;omega⟩,hbb⟩,fun b hb=>by obtain ⟨_,_,_,e⟩:=hb;cases e⟩
  obtain ⟨g4,e4,S4,F4⟩:=Zq1 S3 (by rw[q1];exact hr) (by rw[q1];exact hn) (b:=ZT n) (by rw[q2,Zfy];show (0:Nat) + 11≤_;omega)
  have hin:∀ c,c < h.length→c≠d→c≠mb→c≠bb→¬L.In c:=fun c hc a b e hi=>by
   rw[hL] at hi
   rcases hi with rfl |rfl |rfl |hc'
   ·exact a rfl
   ·exact b rfl
   ·exact e rfl
   ·have:c = g1.length:=hc';omega
  have F4':CFr h g4 d mb bb:=⟨by have:=F4.len;have:=F3.len;omega,fun c hc a b e=>(F4.get c (by have:=F3.len;omega) (hin c hc a b e) fun ⟨_,_,_,e⟩=>by cases e).trans (F3.get c hc a b e)⟩
  refine .inr ⟨z,?_⟩
  rw[ZeZ hr]
  have hxe:=hx
  subst hx
  have hmid:∀ r,Zhj g1.length (Zbw (ZbM D) (ZbX m (now + 4) (Zs hi (now + 4)) name n) (ZT n)) g4 = r→Zdv (.ptr d 0) (.ptr bb 0) name (n:Int) h = r:=fun r hr'=>by
   refine pre _ (cT (decide_eq_true z) (bd (Zbh W3 (by show 2≤8;omega)) ?_))
   have e4':Zfe (((Zbe L (ZbX m (now + 4) (Zs hi (now + 4)) name n) (.lit (.slice none 0 0))).drop 0).take 2) (ZT n) g3 = some (.lit (.int .i64 (Zbw (ZbM D) (ZbX m (now + 4) (Zs hi (now + 4)) name n) (ZT n))),g4):=e4
   exact bd e4' (bd rfl hr')
  by_cases z2:Zbw (ZbM D) (ZbX m (now + 4) (Zs hi (now + 4)) name n) (ZT n) = 0
  ·have hw:Zbv (ZbM D) (ZbX m (now + 4) (Zs hi (now + 4)) name n) (ZT n) = { ZbX m (now + 4) (Zs hi (now + 4)) name n with t:=ZT n}:=by
    unfold Zbv
    rw[if_pos z2]
    have:(ZbX m (now + 4) (Zs hi (now + 4)) name n).t++ZT n = ZT n:=by apply ByteArray.ext;simp[ZbX]
    rw[this]
   rw[hw] at S4
   subst hL
   refine ⟨g4,g1.length,fun ne=>absurd z2 ne,fun _=>⟨hmid _ ?_,S4,hl1⟩,F4'⟩
   rw[Zrw,z2]
   rfl
  ·have A4:=S4.A
   have ht4:(Zbv (ZbM D) (ZbX m (now + 4) (Zs hi (now + 4)) name n) (ZT n)).t = ⟨#[]⟩:=by unfold Zbv;rw[if_neg z2];rfl
   rw[ht4] at A4
   have W4:Zb g4 L.wp = some (Zbe L (ZbX m (now + 4) (Zs hi (now + 4)) name n) (.lit (.slice none 0 0))):=S4.W
   have B4:Zb g4 L.bb = some (Zbl m (now + 4) (Zs hi (now + 4))):=S4.B
   rw[hLw] at W4
   rw[hLb] at B4
   obtain ⟨g',e',b',k'⟩:=out g4 _ z2 W4 B4
   have hg4:=F4'.len
   subst hL
   refine ⟨g',0,fun _=>⟨hmid _ e',?_,b'⟩,fun e=>absurd e z2,⟨by have:=k'.len;omega,fun c hc a b e=>(k'.get c (by omega) (by simp only[List.mem_cons,List.not_mem_nil,or_false,not_or];exact ⟨by omega,e⟩)).trans (F4'.get c hc a b e)⟩⟩
   exact DiskAt.keep (D:=Zd9 (ZbM D) (ZbX m (now + 4) (Zs hi (now + 4)) name n) (ZT n)) A4 k' ⟨by omega,by simp only[List.mem_cons,List.not_mem_nil,or_false,not_or];exact ⟨by omega,Ne.symm hbb.1⟩⟩ ⟨by omega,by simp only[List.mem_cons,List.not_mem_nil,or_false,not_or];exact ⟨by omega,Ne.symm hbb.2⟩⟩
 ·have eL:Zge D [] name = []:=by
   unfold ZcX at z
   unfold Zge
   by_cases c:(ZA D [] name true).2 = 2
   ·rw[if_pos c] at z;exact absurd rfl z
   ·rw[if_neg (fun h=>c h.1)]
  rw[eL] at H3
  obtain ⟨g',e',b',k'⟩:=out g3 _ z W3 B3
  refine .inl ⟨z,g',pre _ (cF (decide_eq_false z) e'),?_,b',⟨by have:=k'.len;have:=F3.len;omega,fun c hc a b e=>(k'.get c (by have:=F3.len;omega) (by simp only[List.mem_cons,List.not_mem_nil,or_false,not_or];exact ⟨by omega,e⟩)).trans (F3.get c hc a b e)⟩⟩
  rw[ZeZ hr]
  exact H3.disk.keep k' ⟨by omega,by simp only[List.mem_cons,List.not_mem_nil,or_false,not_or];exact ⟨by omega,Ne.symm hbb.1⟩⟩ ⟨by omega,by simp only[List.mem_cons,List.not_mem_nil,or_false,not_or];exact ⟨by omega,Ne.symm hbb.2⟩⟩
end Go.Proofs.YtogaiomakhapmaaGreat.AL
namespace Go.Proofs.YtogaiomakhapmaaGreat.AL
set_option maxRecDepth 100000
open Go
open Go.Proofs.Tryz
structure Both (LW:WLoc) (LV:VLoc) (h:Za) (D:Dsk) (x:Wrt) (v:AVal) (E:DDk) (y:Vrt) (u:Vs):Prop where
 W:WG LW h D x v
 V:VS LV h E y u
 dis:∀ c,(LW.In c∨At v c)→¬(LV.In c∨u.At c)
section both
variable {LW:WLoc} {LV:VLoc} {h g:Za} {D D':Dsk} {x x':Wrt} {v v':AVal} {E E':DDk} {y y':Vrt} {u u':Vs}
theorem WG.ltv (S:WG LW h D x v) {c:Nat} (hc:LW.In c∨At v c):c < h.length:=hc.elim S.lt S.V.lt
theorem Both.ww (B:Both LW LV h D x v E y u) (S:WG LW g D' x' v') (F:WFr LW h g v v'):Both LW LV g D' x' v' E y u:=by
 refine ⟨S,B.V.far fun c hc hv=>F.get c hc (fun hi=>B.dis c (.inl hi) hv) (fun ha=>B.dis c (.inr ha) hv),fun c hc hv=>?_⟩
 rcases hc with hc |hc
 ·exact B.dis c (.inl hc) hv
 ·rcases F.at' c hc with h1 |h1
  ·exact B.dis c (.inr h1) hv
  ·have:=B.V.lt hv;omega
theorem WG.farv (S:WG LW h D x v) (hl:h.length≤g.length) (hg:∀ c,c < h.length→(LW.In c∨At v c)→g[c]? = h[c]?):WG LW g D x v:=by
 have get:∀ c,LW.In c→g[c]? = h[c]?:=fun c hc=>hg c (S.lt hc) (.inl hc)
 refine ⟨⟨?_,?_⟩,?_,?_,S.V.keep fun b hb hv=>hg b hb (.inr hv),S.ne,S.nv⟩
 ·rw[ZO (get _ (.inl rfl))];exact S.A.dcs
 ·rw[get _ (.inr (.inl rfl))];exact S.A.ms
 ·rw[ZO (get _ (.inr (.inr (.inl rfl))))];exact S.B
 ·rw[ZO (get _ (.inr (.inr (.inr rfl))))];exact S.W
theorem Both.vv (B:Both LW LV h D x v E y u) (S:VS LV g E' y' u') (F:VFr LV h g u u'):Both LW LV g D x v E' y' u':=by
 refine ⟨B.W.farv F.len fun c hc hw=>F.get c hc (fun hi=>B.dis c hw (.inl hi)) (fun ha=>B.dis c hw (.inr ha)),S,fun c hc hv=>?_⟩
 rcases hv with hv |hv
 ·exact B.dis c hc (.inl hv)
 ·rcases F.at' c hv with h1 |h1
  ·exact B.dis c hc (.inr h1)
  ·have:=B.W.ltv hc;omega
end both
end Go.Proofs.YtogaiomakhapmaaGreat.AL
namespace Go.Proofs.YtogaiomakhapmaaGreat.AL
set_option maxRecDepth 100000
open Go
open Go.Proofs.Tryz
theorem Z0W {n:Int} (hn:n < 1∨64 < n) (h:Za):ZM (Zhq n h) h = some (.tup [.lit (.string ⟨#[]⟩),.lit (.bool false)]):=by
 refine Zdj (h':=h) ?_ (Grow.refl h) rfl
 rw[ZwD]
 by_cases c:n < 1
 ·refine cT (decide_eq_true c) ?_
  rw[ZrO];rfl
 ·refine cF (decide_eq_false c) ?_
  rw[ZrO]
  exact cT (decide_eq_true (by omega)) rfl
theorem ZzT {n:Int} (hn:n < 1∨64 < n) (d b:AVal) (name:ByteArray) (h:Za):ZeK d b name n h = some (.tup [.lit (.pointer none),.lit (.int .i64 1)],h):=by
 rw[ZrN]
 exact bd (Z0W hn h) (bd rfl (bd rfl (bd rfl (bd rfl (cT rfl rfl)))))
theorem ZzU {h:Za} {bb:Nat} {m now hi:Int} {n:Nat} (B:Zb h bb = some (ZbF m now hi)) (h1:1≤n) (h2:n≤64) (h0:0≤now) (hm:now≤m) (h3:m < now + 4) (h4:m≤9223372036854775807) (d:AVal) (name:ByteArray):
  ZeK d (.ptr bb 0) name (n:Int) h = some (.tup [.lit (.pointer none),.lit (.int .i64 9)],h):=by
 rw[ZrN]
 exact bd (ZpU h1 h2 h) (bd rfl (bd rfl (bd rfl (bd rfl (cF rfl (bd (ZzO B (by omega) h0 hm h3 h4) (bd rfl (cT rfl rfl))))))))
structure CFv (h g:Za) (y bb:Nat):Prop where
 len:h.length≤g.length
 get:∀ c,c < h.length→c≠y→c≠bb→g[c]? = h[c]?
def ZmP (m now hi:Int) (name:ByteArray) (n:Nat):Vrt:=⟨⟨#[]⟩,0,m,now,hi,name,(n:Int),[],[],true⟩
def ZfR (E:DDk) (name:ByteArray) (n:Nat):Int:=if Zcw E [] name = 0 then ZcJ (dD E name) [(name,⟨#[]⟩,0)] name (ZT n) else Zcw E [] name
def ZgE (E:DDk) (name:ByteArray):DDk:=if Zcw E [] name = 0 then dD (dD E name) name else dD E name
theorem ZvE (b:ByteArray):(⟨#[]⟩:ByteArray)++b = b:=by
 apply ByteArray.ext
 simp
theorem Ztr {h:Za} {y bb:Nat} {E:DDk} {vd:AVal} {m now hi:Int} {name:ByteArray} {n:Nat} (A:DDAt h y E vd []) (B:Zb h bb = some (ZbF m now hi)) (hby:bb≠y) (hvb:¬At vd bb)
  (h1:1≤n) (h2:n≤64) (hr:Zbp name = true) (hn:name.size≤100) (hb:0≤now) (hb2:now + 4≤m) (hm:m≤9223372036854775807) (h9:now≤1000) (hroom:0≤E.room∧E.room≤16777216):
  (ZfR E name n≠0→∃ g v' Lf,ZeK (.ptr y 0) (.ptr bb 0) name (n:Int) h = some (.tup [.lit (.pointer none),.lit (.int .i64 (ZfR E name n))],g)∧DDAt g y (ZgE E name) v' Lf∧Zb g bb = some (ZbF m now (Zs hi (now + 4)))∧CFv h g y bb)∧
  (ZfR E name n = 0→∃ g wp v',ZeK (.ptr y 0) (.ptr bb 0) name (n:Int) h = some (.tup [.ptr wp 0,.lit (.int .i64 0)],g)∧VS ⟨y,bb,wp⟩ g (ZgE E name) { ZmP m (now + 4) (Zs hi (now + 4)) name n with t:=ZT n} ⟨v',.lit (.slice none 0 0),.lit (.slice none 0 0)⟩∧h.length≤wp∧
   (∀ b,At v' b→At vd b∨h.length≤b)∧CFv h g y bb):=by
 obtain ⟨g1,e1,B1,K1⟩:=ZzN B (n:=4) (by omega) hb hb2 hm
 have hy:=ZB A.dcs
 have hbl:=ZB B
 have k1:∀ c,c < h.length→c≠bb→g1[c]? = h[c]?:=fun c hc hn=>K1.get c hc (by simp only[List.mem_cons,List.not_mem_nil,or_false];exact hn)
 have hl1:=K1.len
 have A1:DDAt g1 y E vd []:=⟨by rw[ZO (k1 _ hy (Ne.symm hby))];exact A.dcs,A.ls.keep fun b hb'=>k1 b (At.own A.ls hb') (fun e=>hvb (e ▸ hb')),A.off⟩
 obtain ⟨g2,v2,e2,A2,F2⟩:=Z37 A1 (by simp) name (by omega)
 have hfl:=F2.len
 have B2:Zb g2 bb = some (ZbF m (now + 4) (Zs hi (now + 4))):=by rw[ZO (F2.get bb (by omega) hby)];exact B1
 have C2:CFv h g2 y bb:=⟨by omega,fun c hc a b=>(F2.get c (by omega) a).trans (k1 c hc b)⟩
 have pre:∀ K,(bif (decide (Zcw E [] name = 0)) then ((Zhv (.ptr y 0) name (ZT n) g2).bind fun r11=>(asI .i64 r11.1).bind fun n12=>Zho (.ptr y 0) (.ptr bb 0) name (n:Int) n12 r11.2) else (Zho (.ptr y 0) (.ptr bb 0) name (n:Int) (Zcw E [] name) g2)) = K→
   ZeK (.ptr y 0) (.ptr bb 0) name (n:Int) h = K:=fun K hK=>by
  rw[ZrN]
  exact bd (ZpU h1 h2 h) (bd rfl (bd rfl (bd rfl (bd rfl (cF rfl (bd e1 (bd rfl (cF rfl (bd e2 (bd rfl hK))))))))))
 have bad:∀ (g:Za) (e:Int) (D:DDk) (v:AVal) (Lf:List Zw),e≠0→DDAt g y D v Lf→¬At v bb→Zb g bb = some (ZbF m (now + 4) (Zs hi (now + 4)))→CFv h g y bb→
   ∃ g',Zho (.ptr y 0) (.ptr bb 0) name (n:Int) e g = some (.tup [.lit (.pointer none),.lit (.int .i64 e)],g')∧DDAt g' y D v Lf∧Zb g' bb = some (ZbF m now (Zs hi (now + 4)))∧CFv h g' y bb:=fun g e D v Lf he Ag hv hB C=>by
  have hg:=Ztq hB (n:=4) (by omega) (by omega) (by omega)
  rw[show now + 4 - 4 = now by omega] at hg
  have k:∀ c,c≠bb→(g.set bb (.cells (ZbF m now (Zs hi (now + 4)))))[c]? = g[c]?:=fun c hc=>List.getElem?_set_ne (Ne.symm hc)
  refine ⟨g.set bb (.cells (ZbF m now (Zs hi (now + 4)))),?_,⟨by rw[ZO (k _ (Ne.symm hby))];exact Ag.dcs,Ag.ls.keep fun b hb'=>k b fun e=>hv (e ▸ hb'),Ag.off⟩,Zm hB,⟨by rw[List.length_set];exact C.len,fun c hc a b=>(k c b).trans (C.get c hc a b)⟩⟩
  rw[Zw9]
  exact cT (by rw[decide_eq_false he];rfl) (bd hg rfl)
 have nv2:¬At v2 bb:=fun hv=>(F2.at' bb hv).elim hvb fun h=>by omega
 unfold ZfR ZgE
 by_cases c1:Zcw E [] name = 0
 rotate_left
 ·rw[if_neg c1,if_neg c1]
  refine ⟨fun _=>?_,fun h=>absurd h c1⟩
  obtain ⟨g',q,Ag,Bg,C⟩:=bad g2 _ _ _ _ c1 A2 nv2 B2 C2
  exact ⟨g',v2,_,pre _ (cF (decide_eq_false c1) q),Ag,Bg,C⟩
 rw[if_pos c1,if_pos c1]
 have hL2:Zhd E [] name = [(name,⟨#[]⟩,0)]:=by unfold Zhd;rw[if_pos c1];rfl
 rw[hL2] at A2
 obtain ⟨g3,v3,e3,A3,F3⟩:=Zvs A2 (by simp) name (ZT n) (by omega) (by rw[Zfy];omega) (by show (0 + 0:Nat)≤4611686018427387904;omega) (by rw[ZqQ];exact hroom) (fun f hf=>by rw[List.mem_singleton.1 hf];show (0:Nat)≤_;omega)
 have hf3:=F3.len
 have B3:Zb g3 bb = some (ZbF m (now + 4) (Zs hi (now + 4))):=by rw[ZO (F3.get bb (by omega) hby)];exact B2
 have C3:CFv h g3 y bb:=⟨by have:=C2.len;omega,fun c hc a b=>(F3.get c (by have:=C2.len;omega) a).trans (C2.get c hc a b)⟩
 have nv3:¬At v3 bb:=fun hv=>(F3.at' bb hv).elim nv2 fun h=>by omega
 have go:∀ K,Zho (.ptr y 0) (.ptr bb 0) name (n:Int) (ZcJ (dD E name) [(name,⟨#[]⟩,0)] name (ZT n)) g3 = K→ZeK (.ptr y 0) (.ptr bb 0) name (n:Int) h = K:=fun K hK=>pre _ (cT (decide_eq_true c1) (bd e3 (bd rfl hK)))
 refine ⟨fun c2=>?_,fun c2=>?_⟩
 ·obtain ⟨g',q,Ag,Bg,C⟩:=bad g3 _ _ _ _ c2 A3 nv3 B3 C3
  exact ⟨g',v3,_,go _ q,Ag,Bg,C⟩
 ·have hL3:Zgd (dD E name) [(name,⟨#[]⟩,0)] name (ZT n) = [(name,ZT n,0)]:=by
   rw[Zvt,if_pos c2,ZvE]
  rw[hL3] at A3
  have no:∀ b,¬At (.lit (.slice none 0 0)) b:=fun b hb=>by obtain ⟨_,_,_,e⟩:=hb;cases e
  obtain ⟨g4,hg4⟩:∃ g4,g4 = psh g3 (.cells (Zcl ⟨y,bb,g3.length⟩ { ZmP m (now + 4) (Zs hi (now + 4)) name n with t:=ZT n} (.lit (.slice none 0 0)) (.lit (.slice none 0 0)))):=⟨_,rfl⟩
  have k4:∀ c,c < g3.length→g4[c]? = g3[c]?:=fun c hc=>by rw[hg4];simp only[psh];exact List.getElem?_append_left hc
  have hyl:=ZB A3.dcs
  have hbl3:=ZB B3
  refine ⟨g4,g3.length,v3,go _ ?_,⟨⟨by rw[ZO (k4 _ hyl)];exact A3.dcs,A3.ls.keep fun b hb'=>k4 b (At.own A3.ls hb'),A3.off⟩,by rw[ZO (k4 _ hbl3)];exact B3,by rw[hg4];exact ZU _ _,.inl ⟨rfl,rfl⟩,.inl ⟨rfl,rfl⟩,⟨by show g3.length≠y;omega,by show g3.length≠bb;omega,hby⟩,fun b hb' hi=>?_,fun b=>⟨fun _=>⟨no b,no b⟩,fun hw=>absurd hw (no b)⟩⟩,by have:=C3.len;omega,fun b hb'=>?_,⟨by rw[hg4,Zbm];have:=C3.len;omega,fun c hc a b=>(k4 c (by have:=C3.len;omega)).trans (C3.get c hc a b)⟩⟩
  ·rw[Zw9,hg4]
   refine cF (by rw[decide_eq_true c2];rfl) ?_
   rfl
  ·rcases hb' with hb' |hb' |hb'
   ·rcases hi with hi |hi |hi
    ·have hi:b = y:=hi
     rw[hi] at hb';exact A3.off hb'
    ·have hi:b = bb:=hi
     rw[hi] at hb';exact nv3 hb'
    ·have:=At.own A3.ls hb';have hi:b = g3.length:=hi;omega
   ·exact no b hb'
   ·exact no b hb'
  ·rcases F3.at' b hb' with q |q
   ·rcases F2.at' b q with q |q
    ·exact .inl q
    ·exact .inr (by omega)
   ·exact .inr (by omega)
end Go.Proofs.YtogaiomakhapmaaGreat.AL
namespace Go.Proofs.YtogaiomakhapmaaGreat.AL
set_option maxRecDepth 100000
open Go
open Go.Proofs.Tryz
noncomputable def Zp6:XC:=.p fun R args K=>match args with
 | []=>K (.lit (.bool true))
 |_=>none
theorem ZzG:XC.Nat Zp6∧XC.Ok Tryz.prog 26 Zp6:=by
 refine ⟨fun R args K=>?_,tc26,fun args h v hx=>?_⟩
 ·dsimp only;split<;>simp[Option.bind_assoc,mkP]
 ·dsimp only at hx;split at hx
  ·cases hx
   exact Z42 _
  ·cases hx
noncomputable def Zbg:XE:={ T:=Zn [(3,r3),(4,r4),(9,r9),(25,r25),(26,r26),(29,r29),(43,r43),(45,r45),(52,r52),(54,r54),(56,r56),(58,r58),(59,r59),(62,r62),(65,r65),(67,r67),(88,r88)],C:=[(7,ZlB),(8,Zpt),(13,ZoY),(14,Zp1),(17,ZoX),(21,ZoV),(22,Zpy),(25,Zpp),(26,Zp6),(27,ZlQ),(28,ZlA),(29,Zpl),(30,Zp8),(31,Zl7),(32,Zph),(33,Zl8),(34,Zpj),(35,ZgA),(36,Zjp),(37,Zl9),(38,Zpk),(39,ZlD),(40,ZlE),(41,ZpA),(42,Zpv)],D:=[(13,⟨[],[0,1,2,3,4,5,6,7,8,9,10,11,12,13,14,15,16,17,18],[],[],[],[],[]⟩),(18,⟨[],[],[12,13,14,15,16,17,18,19,20,21,22,23,24,25,26,27,28],[],[],[0,1,2,3,4,6,7,8,9,10],[(5,[6,7,8,9,10]),(11,[])]⟩),(21,⟨[],[],[],[],[],[0,2,3,4,5],[(1,[2,3,4,5]),(6,[]),(7,[]),(8,[]),(9,[]),(10,[])]⟩),(31,⟨[],[0,1,2,3,4,5,6,7,8,9,10,11,12,13,14,15,16,17,18,19,20,21,22,23,24,25,26,27,28,29,30,31,32,33,34,35,36,37,38,39,40,41,42,43,44,45,46,47,48,49,50,51,52,53],[],[],[],[],[]⟩)],Ms:=[(14,[1,5,13,15,16,17,18,20,114]),(19,[1,5,13,15,16,17,18,20,22,153]),(20,[5,13,15,16,17,18,20]),(25,[13,15,16,17,18,20])],Ml:=[(16,[1,5,13,15,16,17,18,20,22])],Mo:=[(6006,[0,1,3,4,5,13,14,15,16,49]),(6010,[0,1,3,4,5,13,14,15,16,53]),(6014,[0,1,3,4,5,13,14,15,16,57]),(7012,[69]),(7015,[72]),(16008,[1,5,13,15,16,17,18,20,22,122])],n:=249}
theorem Echainmanlaw08_WriterPlays_ok:XE.Ok Zbg Tryz.prog:=⟨Zp (⟨Z0,⟨Z1,⟨Zz,⟨ZbQ,⟨ZbE,⟨ZcE,⟨Zd5,⟨Zey,⟨Zby,⟨ZcN,⟨Zfs,⟨Zqa,⟨Zex,⟨ZgK,⟨Zci,⟨Zdg,⟨Zd3,trivial⟩⟩⟩⟩⟩⟩⟩⟩⟩⟩⟩⟩⟩⟩⟩⟩⟩),(⟨Ztb,⟨Zz5,⟨Zzp,⟨ZzC,⟨Zzo,⟨Zzm,⟨Zz9,⟨Zz4,⟨ZzG,⟨Zto,⟨Zta,⟨Zz0,⟨ZzI,⟨ZsX,⟨Zzx,⟨ZsY,⟨Zzy,⟨Zjm,⟨Zpi,⟨ZsZ,⟨Zzz,⟨Ztc,⟨Ztd,⟨ZzK,⟨Zz6,trivial⟩⟩⟩⟩⟩⟩⟩⟩⟩⟩⟩⟩⟩⟩⟩⟩⟩⟩⟩⟩⟩⟩⟩⟩⟩),Zq,trivial⟩
noncomputable def c4:Code:=ZP f4
noncomputable def Zsx (size0:Int) (l1:AVal) (room2:Int) (m3:Int) (fuse4:Int) (drop5:Bool) (h:Za):Option (AVal×Za):=Zt Zbg f4 [(.lit (.int .i64 size0)),l1,(.lit (.int .i64 room2)),(.lit (.int .i64 m3)),(.lit (.int .i64 fuse4)),(.lit (.bool drop5))] h
noncomputable def ZnK (size0:Int) (l1:AVal) (m3:Int) (fuse4:Int) (drop5:Bool) (d13:AVal) (e14:Int) (y15:AVal) (b16:AVal) (t49:Bool) (h:Za):Option (AVal×Za):=jo Zbg 6 (Zk (ca (ca (cb (cb (cb (cb (cb c4)))))))) ((Zk (ca (ca (cb (cb (cb (cb (cb c4)))))))).toList.drop 6) 6 [(0,(.lit (.int .i64 size0))),(1,l1),(3,(.lit (.int .i64 m3))),(4,(.lit (.int .i64 fuse4))),(5,(.lit (.bool drop5))),(13,d13),(14,(.lit (.int .i64 e14))),(15,y15),(16,b16),(49,(.lit (.bool t49)))] h (kN (Zi Zbg (cb (ca (cb (cb (cb (cb (cb c4))))))) (Zi Zbg (cb (cb (cb (cb (cb (cb c4)))))) (Zj Zbg f4))))
noncomputable def Zsv (size0:Int) (l1:AVal) (m3:Int) (fuse4:Int) (drop5:Bool) (d13:AVal) (e14:Int) (y15:AVal) (b16:AVal) (t53:Bool) (h:Za):Option (AVal×Za):=jo Zbg 6 (Zk (ca (ca (cb (cb (cb (cb (cb c4)))))))) ((Zk (ca (ca (cb (cb (cb (cb (cb c4)))))))).toList.drop 10) 10 [(0,(.lit (.int .i64 size0))),(1,l1),(3,(.lit (.int .i64 m3))),(4,(.lit (.int .i64 fuse4))),(5,(.lit (.bool drop5))),(13,d13),(14,(.lit (.int .i64 e14))),(15,y15),(16,b16),(53,(.lit (.bool t53)))] h (kN (Zi Zbg (cb (ca (cb (cb (cb (cb (cb c4))))))) (Zi Zbg (cb (cb (cb (cb (cb (cb c4)))))) (Zj Zbg f4))))
noncomputable def ZiG (size0:Int) (l1:AVal) (m3:Int) (fuse4:Int) (drop5:Bool) (d13:AVal) (e14:Int) (y15:AVal) (b16:AVal) (t57:Bool) (h:Za):Option (AVal×Za):=jo Zbg 6 (Zk (ca (ca (cb (cb (cb (cb (cb c4)))))))) ((Zk (ca (ca (cb (cb (cb (cb (cb c4)))))))).toList.drop 14) 14 [(0,(.lit (.int .i64 size0))),(1,l1),(3,(.lit (.int .i64 m3))),(4,(.lit (.int .i64 fuse4))),(5,(.lit (.bool drop5))),(13,d13),(14,(.lit (.int .i64 e14))),(15,y15),(16,b16),(57,(.lit (.bool t57)))] h (kN (Zi Zbg (cb (ca (cb (cb (cb (cb (cb c4))))))) (Zi Zbg (cb (cb (cb (cb (cb (cb c4)))))) (Zj Zbg f4))))
noncomputable def Zst (t69:Bool) (h:Za):Option (AVal×Za):=jo Zbg 7 (Zk (ca (ca (cb (ca (cb (cb (cb (cb (cb c4)))))))))) ((Zk (ca (ca (cb (ca (cb (cb (cb (cb (cb c4)))))))))).toList.drop 12) 12 [(69,(.lit (.bool t69)))] h (kN (Zi Zbg (cb (ca (cb (ca (cb (cb (cb (cb (cb c4))))))))) (Zi Zbg (cb (cb (cb (cb (cb (cb c4)))))) (Zj Zbg f4))))
noncomputable def ZnI (l1:AVal) (drop5:Bool) (d13:AVal) (y15:AVal) (b16:AVal) (c17:Nat) (w18:AVal) (x20:AVal) (t114:Bool) (h:Za):Option (AVal×Za):=jn (Zl Zbg (cb (ca (cb (cb (cb (cb (cb (cb (cb (cb (cb (cb (cb c4))))))))))))) (AVal×Za) [(1,l1),(5,(.lit (.bool drop5))),(13,d13),(15,y15),(16,b16),(17,(.ptr c17 0)),(18,w18),(20,x20),(114,(.lit (.bool t114)))] h (Zi Zbg (cb (cb (cb (cb (cb (cb (cb (cb (cb (cb (cb (cb c4)))))))))))) (Zj Zbg f4)))
noncomputable def Zss (t72:Bool) (h:Za):Option (AVal×Za):=jo Zbg 7 (Zk (ca (ca (cb (ca (cb (cb (cb (cb (cb c4)))))))))) ((Zk (ca (ca (cb (ca (cb (cb (cb (cb (cb c4)))))))))).toList.drop 15) 15 [(72,(.lit (.bool t72)))] h (kN (Zi Zbg (cb (ca (cb (ca (cb (cb (cb (cb (cb c4))))))))) (Zi Zbg (cb (cb (cb (cb (cb (cb c4)))))) (Zj Zbg f4))))
noncomputable def ZiF (l1:AVal) (drop5:Bool) (d13:AVal) (y15:AVal) (b16:AVal) (c17:Nat) (w18:AVal) (x20:AVal) (i22:Int) (h:Za):Option (AVal×Za):=Zl Zbg (.loop (ca (ca (cb (ca (cb (cb (cb (cb (cb (cb (cb (cb (cb (cb (cb (cb c4))))))))))))))))) (AVal×Za) [(1,l1),(5,(.lit (.bool drop5))),(13,d13),(15,y15),(16,b16),(17,(.ptr c17 0)),(18,w18),(20,x20),(22,(.lit (.int .i64 i22)))] h (ZW 0 (Zi Zbg (cb (cb (cb (cb (cb (cb (cb (cb (cb (cb (cb (cb (cb c4))))))))))))) (Zj Zbg f4)))
noncomputable def ZnH (l1:AVal) (drop5:Bool) (d13:AVal) (y15:AVal) (b16:AVal) (c17:Nat) (w18:AVal) (x20:AVal) (i22:Int) (t122:Bool) (h:Za):Option (AVal×Za):=jo Zbg 16 (Zk (ca (ca (ca (ca (cb (ca (cb (cb (cb (cb (cb (cb (cb (cb (cb (cb (cb (cb c4))))))))))))))))))) ((Zk (ca (ca (ca (ca (cb (ca (cb (cb (cb (cb (cb (cb (cb (cb (cb (cb (cb (cb c4))))))))))))))))))).toList.drop 8) 8 [(1,l1),(5,(.lit (.bool drop5))),(13,d13),(15,y15),(16,b16),(17,(.ptr c17 0)),(18,w18),(20,x20),(22,(.lit (.int .i64 i22))),(122,(.lit (.bool t122)))] h (kN (Zi Zbg (cb (ca (ca (ca (cb (ca (cb (cb (cb (cb (cb (cb (cb (cb (cb (cb (cb (cb c4)))))))))))))))))) (Zi Zbg (cb (ca (ca (cb (ca (cb (cb (cb (cb (cb (cb (cb (cb (cb (cb (cb (cb c4))))))))))))))))) (Zdp Zbg (ca (ca (cb (ca (cb (cb (cb (cb (cb (cb (cb (cb (cb (cb (cb (cb c4)))))))))))))))) (ZW 0 (Zi Zbg (cb (cb (cb (cb (cb (cb (cb (cb (cb (cb (cb (cb (cb c4))))))))))))) (Zj Zbg f4)))))))
noncomputable def ZnG (l1:AVal) (drop5:Bool) (d13:AVal) (y15:AVal) (b16:AVal) (c17:Nat) (w18:AVal) (x20:AVal) (i22:Int) (t153:Bool) (h:Za):Option (AVal×Za):=jn (Zl Zbg (cb (ca (ca (cb (ca (ca (cb (ca (cb (cb (cb (cb (cb (cb (cb (cb (cb (cb (cb (cb c4)))))))))))))))))))) (AVal×Za) [(1,l1),(5,(.lit (.bool drop5))),(13,d13),(15,y15),(16,b16),(17,(.ptr c17 0)),(18,w18),(20,x20),(22,(.lit (.int .i64 i22))),(153,(.lit (.bool t153)))] h (ZW 1 (Zi Zbg (cb (cb (ca (ca (cb (ca (cb (cb (cb (cb (cb (cb (cb (cb (cb (cb (cb (cb c4)))))))))))))))))) (Zdp Zbg (ca (ca (cb (ca (cb (cb (cb (cb (cb (cb (cb (cb (cb (cb (cb (cb c4)))))))))))))))) (ZW 0 (Zi Zbg (cb (cb (cb (cb (cb (cb (cb (cb (cb (cb (cb (cb (cb c4))))))))))))) (Zj Zbg f4)))))))
noncomputable def ZnF (drop5:Bool) (d13:AVal) (y15:AVal) (b16:AVal) (c17:Nat) (w18:AVal) (x20:AVal) (h:Za):Option (AVal×Za):=jn (Zl Zbg (cb (cb (cb (cb (cb (cb (cb (cb (cb (cb (cb (cb (cb c4))))))))))))) (AVal×Za) [(5,(.lit (.bool drop5))),(13,d13),(15,y15),(16,b16),(17,(.ptr c17 0)),(18,w18),(20,x20)] h (Zj Zbg f4))
noncomputable def ZnJ (d13:AVal) (y15:AVal) (b16:AVal) (c17:Nat) (w18:AVal) (x20:AVal) (h:Za):Option (AVal×Za):=jn (Zl Zbg (cb (cb (cb (cb (cb (cb (cb (cb (cb (cb (cb (cb (cb (cb (cb c4))))))))))))))) (AVal×Za) [(13,d13),(15,y15),(16,b16),(17,(.ptr c17 0)),(18,w18),(20,x20)] h (Zj Zbg f4))
theorem Z83 (size0:Int) (l1:AVal) (room2:Int) (m3:Int) (fuse4:Int) (drop5:Bool) (h:Za):Zsx size0 l1 room2 m3 fuse4 drop5 h =
 (Zv (Zi7 l1 30 h) h).bind fun r1=>
 (asB r1).bind fun b2=>
 bif (!b2) then (some ((.lit (.bool true)),h))
 else ((Zhl room2 h).bind fun r3=>
 (Z6 r3.1 0).bind fun x4=>
 (Z6 r3.1 1).bind fun x5=>
 (asI .i64 x5).bind fun n6=>
 (ZiA room2 r3.2).bind fun r7=>
 (Zhx m3 r7.2).bind fun r8=>
 bif (!decide (n6 = 0)) then (ZnK size0 l1 m3 fuse4 drop5 x4 n6 r7.1 r8.1 true r8.2)
 else ((AVal.isNil .ptr r8.1).bind fun b9=>
 ZnK size0 l1 m3 fuse4 drop5 x4 n6 r7.1 r8.1 b9 r8.2)):=by kernel_rfl
theorem Zsw (size0:Int) (l1:AVal) (m3:Int) (fuse4:Int) (drop5:Bool) (d13:AVal) (e14:Int) (y15:AVal) (b16:AVal) (t49:Bool) (h:Za):ZnK size0 l1 m3 fuse4 drop5 d13 e14 y15 b16 t49 h =
 bif t49 then (Zsv size0 l1 m3 fuse4 drop5 d13 e14 y15 b16 true h)
 else ((AVal.isNil .ptr y15).bind fun b10=>
 Zsv size0 l1 m3 fuse4 drop5 d13 e14 y15 b16 b10 h):=(ZV ..).trans (by kernel_rfl)
theorem Zsu (size0:Int) (l1:AVal) (m3:Int) (fuse4:Int) (drop5:Bool) (d13:AVal) (e14:Int) (y15:AVal) (b16:AVal) (t53:Bool) (h:Za):Zsv size0 l1 m3 fuse4 drop5 d13 e14 y15 b16 t53 h =
 bif t53 then (ZiG size0 l1 m3 fuse4 drop5 d13 e14 y15 b16 true h)
 else ((AVal.isNil .ptr d13).bind fun b11=>
 ZiG size0 l1 m3 fuse4 drop5 d13 e14 y15 b16 b11 h):=(ZV ..).trans (by kernel_rfl)
theorem Zxe (size0:Int) (l1:AVal) (m3:Int) (fuse4:Int) (drop5:Bool) (d13:AVal) (e14:Int) (y15:AVal) (b16:AVal) (t57:Bool) (h:Za):ZiG size0 l1 m3 fuse4 drop5 d13 e14 y15 b16 t57 h =
 bif t57 then ((AVal.isNil .ptr y15).bind fun b12=>
 bif (decide ((!decide (e14 = 0)) = b12)) then ((AVal.isNil .ptr b16).bind fun b13=>
 Zst (decide (b13 = (decide (m3 < 0)))) h)
 else (Zst false h))
 else ((Ziz d13 fuse4 ((psh h (.cells ([(.lit (.int .i64 m3)),(.lit (.int .i64 0)),(.lit (.int .i64 0))]))))).bind fun r14=>
 (Zld y15 fuse4 r14.2).bind fun r15=>
 (Zdv d13 b16 (⟨#[97]⟩:ByteArray) size0 r15.2).bind fun r16=>
 (Z6 r16.1 0).bind fun x17=>
 (Z6 r16.1 1).bind fun x18=>
 (asI .i64 x18).bind fun n19=>
 (ZeK y15 (.ptr h.length 0) (⟨#[97]⟩:ByteArray) size0 r16.2).bind fun r20=>
 (Z6 r20.1 0).bind fun x21=>
 (Z6 r20.1 1).bind fun x22=>
 (asI .i64 x22).bind fun n23=>
 bif (!decide (n19 = n23)) then (ZnI l1 drop5 d13 y15 b16 h.length x17 x21 true r20.2)
 else ((AVal.isNil .ptr x17).bind fun b24=>
 (AVal.isNil .ptr x21).bind fun b25=>
 bif (!decide (b24 = b25)) then (ZnI l1 drop5 d13 y15 b16 h.length x17 x21 true r20.2)
 else ((Zv (Zgv b16 r20.2) r20.2).bind fun r26=>
 (asI .i64 r26).bind fun n28=>
 (ld1 r20.2 (.ptr h.length 1)).bind fun x29=>
 (asI .i64 x29).bind fun n30=>
 ZnI l1 drop5 d13 y15 b16 h.length x17 x21 (!decide (n28 = n30)) r20.2))):=(ZV ..).trans (by kernel_rfl)
theorem Z88 (t69:Bool) (h:Za):Zst t69 h =
 bif t69 then (Zss true h)
 else (Zss false h):=(ZV ..).trans (by kernel_rfl)
theorem Z87 (l1:AVal) (drop5:Bool) (d13:AVal) (y15:AVal) (b16:AVal) (c17:Nat) (w18:AVal) (x20:AVal) (t114:Bool) (h:Za):ZnI l1 drop5 d13 y15 b16 c17 w18 x20 t114 h =
 bif t114 then (some ((.lit (.bool false)),h))
 else (ZiF l1 drop5 d13 y15 b16 c17 w18 x20 0 h):=(ZF _).trans (by kernel_rfl)
theorem Z86 (t72:Bool) (h:Za):Zss t72 h =
 some ((.lit (.bool t72)),h):=(ZV ..).trans (by kernel_rfl)
theorem Zsr (l1:AVal) (drop5:Bool) (d13:AVal) (y15:AVal) (b16:AVal) (c17:Nat) (w18:AVal) (x20:AVal) (i22:Int) (h:Za):ZiF l1 drop5 d13 y15 b16 c17 w18 x20 i22 h =
 (Zbb l1).bind fun n31=>
 bif (decide (i22 < n31)) then ((AVal.isNil .ptr x20).bind fun b32=>
 ZnH l1 drop5 d13 y15 b16 c17 w18 x20 i22 (!b32) h)
 else (ZnH l1 drop5 d13 y15 b16 c17 w18 x20 i22 false h):=(ZbO Zbg Echainmanlaw08_WriterPlays_ok.C.nat _ _ _ _ _).trans (by kernel_rfl)
theorem Zsq (l1:AVal) (drop5:Bool) (d13:AVal) (y15:AVal) (b16:AVal) (c17:Nat) (w18:AVal) (x20:AVal) (i22:Int) (t122:Bool) (h:Za):ZnH l1 drop5 d13 y15 b16 c17 w18 x20 i22 t122 h =
 bif t122 then ((Zbc 1 l1 i22).bind fun p33=>
 (ld1 h p33).bind fun x34=>
 (asS x34).bind fun s35=>
 (Zbc 1 l1 i22).bind fun p36=>
 (ld1 h p36).bind fun x37=>
 (asS x37).bind fun s38=>
 (ZeI w18 s35 h).bind fun r39=>
 (asI .i64 r39.1).bind fun n40=>
 (ZcV ((((ld1 r39.2 p36).bind fun x41=>
 (asS x41).bind fun s42=>
 some (.lit (.string s42))):Option AVal) = some (.lit (.string s38)))).bind fun _=>
 (Zi2 x20 s38 r39.2).bind fun r43=>
 (asI .i64 r43.1).bind fun n44=>
 bif (!decide (n40 = n44)) then (ZnG l1 drop5 d13 y15 b16 c17 w18 x20 i22 true r43.2)
 else ((Zv (ZfA w18 r43.2) r43.2).bind fun r45=>
 (asI .i64 r45).bind fun n46=>
 (Zv (Zi3 x20 r43.2) r43.2).bind fun r47=>
 (asI .i64 r47).bind fun n48=>
 bif (!decide (n46 = n48)) then (ZnG l1 drop5 d13 y15 b16 c17 w18 x20 i22 true r43.2)
 else ((Zv (Zgv b16 r43.2) r43.2).bind fun r49=>
 (asI .i64 r49).bind fun n50=>
 (ld1 r43.2 (.ptr c17 1)).bind fun x51=>
 (asI .i64 x51).bind fun n52=>
 ZnG l1 drop5 d13 y15 b16 c17 w18 x20 i22 (!decide (n50 = n52)) r43.2)))
 else (ZnF drop5 d13 y15 b16 c17 w18 x20 h):=(ZV ..).trans (by kernel_rfl)
theorem Z85 (l1:AVal) (drop5:Bool) (d13:AVal) (y15:AVal) (b16:AVal) (c17:Nat) (w18:AVal) (x20:AVal) (i22:Int) (t153:Bool) (h:Za):ZnG l1 drop5 d13 y15 b16 c17 w18 x20 i22 t153 h =
 bif t153 then (some ((.lit (.bool false)),h))
 else (ZiF l1 drop5 d13 y15 b16 c17 w18 x20 (IntKind.wrap .i64 (i22 + 1)) h):=(ZF _).trans (by kernel_rfl)
theorem Zxd (drop5:Bool) (d13:AVal) (y15:AVal) (b16:AVal) (c17:Nat) (w18:AVal) (x20:AVal) (h:Za):ZnF drop5 d13 y15 b16 c17 w18 x20 h =
 (AVal.isNil .ptr x20).bind fun b53=>
 bif b53 then ((Zg y15).bind fun p54=>
 (Zf 4 p54).bind fun p55=>
 (ld1 h p55).bind fun x56=>
 (asI .i64 x56).bind fun n57=>
 (Ziy d13 h).bind fun r58=>
 (asI .i64 r58.1).bind fun n59=>
 (ZcV ((((ld1 r58.2 p55).bind fun x60=>
 (asI .i64 x60).bind fun n61=>
 some (.lit (.int .i64 n61))):Option AVal) = some (.lit (.int .i64 n57)))).bind fun _=>
 bif (decide (n59 = n57)) then (some ((.lit (.bool true)),r58.2))
 else (some ((.lit (.bool false)),r58.2)))
 else (bif drop5 then ((Zeg w18 h).bind fun r62=>
 (Zgs x20 r62.2).bind fun r63=>
 ZnJ d13 y15 b16 c17 w18 x20 r63.2)
 else (ZnJ d13 y15 b16 c17 w18 x20 h)):=(ZF _).trans (by kernel_rfl)
theorem Z89 (d13:AVal) (y15:AVal) (b16:AVal) (c17:Nat) (w18:AVal) (x20:AVal) (h:Za):ZnJ d13 y15 b16 c17 w18 x20 h =
 (ZeJ w18 h).bind fun r64=>
 (Z6 r64.1 0).bind fun x65=>
 (asA x65).bind fun xs66=>
 (Z6 r64.1 1).bind fun x67=>
 (asI .i64 x67).bind fun n68=>
 (stn 2 ((psh r64.2 (.cells [(.lit (.int .i64 0)),(.lit (.int .u32 0))]))) (.ptr r64.2.length 0) xs66).bind fun h69=>
 (Zhn x20 h69).bind fun r70=>
 (Z6 r70.1 0).bind fun x71=>
 (asA x71).bind fun xs72=>
 (Z6 r70.1 1).bind fun x73=>
 (asI .i64 x73).bind fun n74=>
 (stn 2 ((psh r70.2 (.cells [(.lit (.int .i64 0)),(.lit (.int .u32 0))]))) (.ptr r70.2.length 0) xs72).bind fun h75=>
 (Zix d13 ((.lit (.slice none 0 0))) h75).bind fun r76=>
 (ZfD d13 (⟨#[97]⟩:ByteArray) r76.2).bind fun r77=>
 (Z6 r77.1 0).bind fun x78=>
 (asI .i64 x78).bind fun n79=>
 (Z6 r77.1 1).bind fun x80=>
 (asI .i64 x80).bind fun n81=>
 (ZfE d13 (⟨#[97]⟩:ByteArray) 0 n79 r77.2).bind fun r82=>
 (Z6 r82.1 0).bind fun x83=>
 (asS x83).bind fun s84=>
 (Z6 r82.1 1).bind fun x85=>
 (asI .i64 x85).bind fun n86=>
 (Zlb y15 ((.lit (.slice none 0 0))) r82.2).bind fun r87=>
 (ldn 2 r87.2 (.ptr r64.2.length 0)).bind fun xs88=>
 (ldn 2 r87.2 (.ptr r70.2.length 0)).bind fun xs89=>
 (ZeW [.int,.int] xs88 xs89).bind fun b90=>
 bif b90 then (bif (decide (n68 = n74)) then ((Zv (Zgv b16 r87.2) r87.2).bind fun r91=>
 (asI .i64 r91).bind fun n92=>
 (ld1 r87.2 (.ptr c17 1)).bind fun x93=>
 (asI .i64 x93).bind fun n94=>
 bif (decide (n92 = n94)) then ((Zv (ZiJ b16 r87.2) r87.2).bind fun r95=>
 (asI .i64 r95).bind fun n96=>
 (ld1 r87.2 (.ptr c17 2)).bind fun x97=>
 (asI .i64 x97).bind fun n98=>
 bif (decide (n96 = n98)) then (bif (decide (n81 = 0)) then (bif (decide (n86 = 0)) then ((Zv (Zht y15 (⟨#[97]⟩:ByteArray) r87.2) r87.2).bind fun r99=>
 (asS r99).bind fun s100=>
 bif (decide (s84 = s100)) then (((Ziy d13 r87.2).bind fun r102=>
 mkP r102.1 r102.2).bind fun r101=>
 (ZcV (r101.2 = r87.2)).bind fun _=>
 (asI .i64 r101.1).bind fun n103=>
 (Zg y15).bind fun p104=>
 (Zf 4 p104).bind fun p105=>
 (ld1 r87.2 p105).bind fun x106=>
 (asI .i64 x106).bind fun n107=>
 bif (decide (n103 = (IntKind.wrap .i64 (n107 + 2)))) then (some ((.lit (.bool true)),r87.2))
 else (some ((.lit (.bool false)),r87.2)))
 else (some ((.lit (.bool false)),r87.2)))
 else (some ((.lit (.bool false)),r87.2)))
 else (some ((.lit (.bool false)),r87.2)))
 else (some ((.lit (.bool false)),r87.2)))
 else (some ((.lit (.bool false)),r87.2)))
 else (some ((.lit (.bool false)),r87.2)))
 else (some ((.lit (.bool false)),r87.2)):=(ZF _).trans (by kernel_rfl)
theorem Z84 {size0:Int} {l1:AVal} {room2:Int} {m3:Int} {fuse4:Int} {drop5:Bool} {h h':Za} {v:AVal} {R:AEnd→Za→Prop} (hx:Zsx size0 l1 room2 m3 fuse4 drop5 h = some (v,h')) (hR:HOk h→h.length≤h'.length→ABody.AEnds h h' (.ret v) R):ACalls Tryz.prog 4 [(.lit (.int .i64 size0)),l1,(.lit (.int .i64 room2)),(.lit (.int .i64 m3)),(.lit (.int .i64 fuse4)),(.lit (.bool drop5))] h R:=Zu Echainmanlaw08_WriterPlays_ok Zo (i:=4) (by rfl) (by kernel_rfl) (by kernel_rfl) hx hR
end Go.Proofs.YtogaiomakhapmaaGreat.AL
namespace Go.Proofs.YtogaiomakhapmaaGreat.AL
set_option maxRecDepth 100000
open Go
open Go.Proofs.Tryz
theorem ZyI (n:Int):IntKind.wrap .i64 (IntKind.wrap .i64 (n + 1) + 1) = IntKind.wrap .i64 (n + 2):=by
 have e:∀ n,IntKind.i64.wrap n = (n + 9223372036854775808) % 18446744073709551616 - 9223372036854775808:=fun n=>by
  simp only[IntKind.wrap,IntKind.signed,IntKind.bits]
  simp
  split<;>omega
 rw[e,e,e]
 omega
def KOk (x:Wrt):Prop:=0≤x.k∧x.k≤(x.t.size:Int)
theorem ZqN {x:Wrt} (K:KOk x):KOk (Zb2 x):=by unfold Zb2;split<;>exact K
theorem Zgi {x:Wrt} {e:Int} (K:KOk x):KOk (Zbu x e):=by
 unfold Zbu
 split
 ·exact ZqN K
 ·exact K
theorem ZjI {D:Dsk} {x:Wrt} {b:ByteArray} (K:KOk x):KOk (Zbv D x b):=by
 unfold Zbv KOk
 refine ⟨K.1,?_⟩
 have h:=K.2
 show x.k≤((if Zbw D x b = 0 then x.t++b else x.t:ByteArray).size:Int)
 split
 ·rw[ByteArray.size_append];omega
 ·exact h
theorem ZpK {D:Dsk} {x:Wrt} (K:KOk x):KOk (Zdf D x):=by
 unfold Zdf KOk
 show 0≤(if Zc3 D x = 0 then (x.t.size:Int) else x.k)∧(if Zc3 D x = 0 then (x.t.size:Int) else x.k)≤(x.t.size:Int)
 split
 ·omega
 ·exact K
theorem ZqF {D:Dsk} {x:Wrt} (K:KOk x):KOk (Zb6 D x):=by
 unfold Zb6;split
 ·exact K
 ·exact Zgi (ZjI K)
theorem Z4b (x:Wrt) (e:Int):(Zbu x e).wt = x.wt:=by
 unfold Zbu Zb2;split
 ·split<;>rfl
 ·rfl
theorem Z2y (D:Dsk) (x:Wrt) (b:ByteArray):(Zbv D x b).t.size≤x.t.size + b.size:=by
 show (if Zbw D x b = 0 then x.t++b else x.t:ByteArray).size≤_
 split
 ·rw[ByteArray.size_append];exact Nat.le_refl _
 ·omega
theorem Zre {ss:List ByteArray} {n:Nat} (ha:∀ s∈ss,s.size = n) (hl:ss.length≤4) (h2:n≤64):(ZZ ss).size≤261:=by
 have h:=ZdZ ha
 have h5:ss.length * n≤4 * 64:=Nat.mul_le_mul hl h2
 rw[Zf6,h];omega
structure Fit (x:Wrt) (n i:Nat):Prop where
 g:GOk x
 k:KOk x
 wt:x.wt.length < 4
 c:x.c≤i
 ts:x.t.size≤100 + 300 * i
 name:x.name = aW
 n:x.n = n
theorem Fit.put {x:Wrt} {n i:Nat} (F:Fit x n i) (hi:i≤30) (D:Dsk) (r:ByteArray):Fit (ZhJ D x r) n (i + 1):=by
 obtain ⟨g,k,wt,c,ts,name,hn⟩:=F
 have same:Fit x n (i + 1):=⟨g,k,wt,by omega,by omega,name,hn⟩
 unfold ZhJ
 split
 rotate_left
 ·exact same
 split
 rotate_left
 ·exact same
 rename_i ho hr
 have wa:∀ s∈x.wt++[r],s.size = x.n:=fun s hs=>(List.mem_append.1 hs).elim (g.wa s) fun h=>by rw[List.mem_singleton.1 h];exact hr
 split
 ·rename_i h4
  exact ⟨⟨g.right,g.nm,g.n1,g.n2,by show (x.wt++[r]).length≤4;simp;omega,wa,g.tb,g.h4,g.h3⟩,k,by show (x.wt++[r]).length < 4;simp;omega,by show x.c + 1≤_;omega,by show x.t.size≤_;omega,name,hn⟩
 ·rename_i h4
  have S:=ZqE D (Zb4 x r)
  have hne:(Zb4 x r).wt≠[]:=by show x.wt++[r]≠[];simp
  have hw:(Zb6 D (Zb4 x r)).wt = []:=by
   unfold Zb6
   rw[if_neg hne,Z4b];rfl
  have ht:=ZqD D (Zb4 x r)
  have hb:(ZZ (Zb4 x r).wt).size≤261:=Zre (n:=x.n) wa (by show (x.wt++[r]).length≤4;simp;omega) g.n2
  have ht2:(Zb6 D (Zb4 x r)).t.size≤x.t.size + 261:=Nat.le_trans ht (Nat.add_le_add_left hb _)
  refine ⟨⟨by rw[S.name];exact g.right,by rw[S.name];exact g.nm,by rw[S.n];exact g.n1,by rw[S.n];exact g.n2,by rw[hw];simp,by rw[hw];simp,by omega,S.h4 g.h4,S.h3 g.h3⟩,ZqF k,by rw[hw];simp,?_,by omega,S.name.trans name,S.n.trans hn⟩
  rw[S.c];show x.c + 1≤_;omega
theorem Fit.drop {x:Wrt} {n i:Nat} (F:Fit x n i):Fit (Zb2 x) n i:=by
 have S:=ZmE x
 have hw:(Zb2 x).wt = x.wt:=by unfold Zb2;split<;>rfl
 have ht:(Zb2 x).t = x.t:=by unfold Zb2;split<;>rfl
 exact ⟨⟨by rw[S.name];exact F.g.right,by rw[S.name];exact F.g.nm,by rw[S.n];exact F.g.n1,by rw[S.n];exact F.g.n2,by rw[hw];exact F.g.wl,by rw[hw,S.n];exact F.g.wa,by rw[ht];exact F.g.tb,S.h4 F.g.h4,S.h3 F.g.h3⟩,ZqN F.k,by rw[hw];exact F.wt,by rw[S.c];exact F.c,by rw[ht];exact F.ts,S.name.trans F.name,S.n.trans F.n⟩
structure Lft (x x':Wrt):Prop where
 k:KOk x→KOk x'
 t:x'.t.size≤x.t.size + 300
 name:x'.name = x.name
theorem Z3I (D:Dsk) {x:Wrt} {n i:Nat} (F:Fit x n i):Lft x (ZdE D x).x:=by
 have hb:(ZZ x.wt).size≤261:=Zre F.g.wa F.g.wl F.g.n2
 have t1:=ZqD D x
 have e1:=(ZqE D x).name
 have k1:KOk x→KOk (Zb6 D x):=ZqF
 have t2:=Z2y (Zc9 D x) (Zb6 D x) (ZH x.c x.s)
 rw[Zhc] at t2
 unfold ZdE
 simp only
 split
 rotate_left
 ·exact ⟨id,Nat.le_add_right _ _,rfl⟩
 split
 rotate_left
 ·exact ⟨k1,(by show (Zb6 D x).t.size≤_;omega),e1⟩
 split
 rotate_left
 ·exact ⟨fun k=>Zgi (ZjI (k1 k)),by rw[Zif];omega,((Zig _ _).name).trans e1⟩
 have k3:∀ D e e',KOk x→KOk (Zbu (Zdf D (Zbu (Zbv (Zc9 D x) (Zb6 D x) (ZH x.c x.s)) e)) e'):=fun D e e' k=>Zgi (ZpK (Zgi (ZjI (ZqF k))))
 have t3:∀ D' e e',(Zbu (Zdf D' (Zbu (Zbv (Zc9 D x) (Zb6 D x) (ZH x.c x.s)) e)) e').t.size≤x.t.size + 300:=fun D' e e'=>by
  rw[Zif]
  show (Zbu (Zbv (Zc9 D x) (Zb6 D x) (ZH x.c x.s)) e).t.size≤_
  rw[Zif];omega
 have n3:∀ D' e e',(Zbu (Zdf D' (Zbu (Zbv (Zc9 D x) (Zb6 D x) (ZH x.c x.s)) e)) e').name = x.name:=fun D' e e'=>(Zig _ _).name.trans ((Zig (Zbv (Zc9 D x) (Zb6 D x) (ZH x.c x.s)) e).name.trans e1)
 split
 ·refine ⟨fun k=>ZqN (Zgi (ZpK (Zgi (ZjI (k1 k))))),?_,(ZmE _).name.trans (n3 _ _ _)⟩
  have:∀ z,(Zb2 z).t = z.t:=fun z=>by unfold Zb2;split<;>rfl
  rw[this];exact t3 _ _ _
 ·exact ⟨fun k=>Zgi (ZpK (Zgi (ZjI (k1 k)))),t3 _ _ _,n3 _ _ _⟩
theorem RB.vok {D:Dsk} {x:Wrt} {E:DDk} {y:Vrt} (R:RB D x E y) (O:GOk x):VOk E y:=
 ⟨by rw[R.name];exact O.nm,by rw[R.d.room];exact R.d.r1,by rw[R.t];exact O.tb,by rw[R.op,R.now];exact O.h4,by rw[R.now];exact O.h3⟩
theorem RW.vpk {D:Dsk} {x:Wrt} {E:DDk} {y:Vrt} {n i:Nat} (R:RW D x E y) (F:Fit x n i) (hi:i≤1000) (aa:∀ s∈y.all,s.size≤1000):VPk y n:=
 ⟨by rw[R.b.n,F.n],by rw[←F.n];exact F.g.n1,by rw[←F.n];exact F.g.n2,by rw[R.wt,←F.n];exact F.g.wa,by rw[R.wt];exact F.g.wl,by rw[←R.c];have:=F.c;omega,aa⟩
theorem RW.drop {D:Dsk} {x:Wrt} {E:DDk} {y:Vrt} (R:RW D x E y):RW D (Zb2 x) E (Zb7 y):=by
 have hw:(Zb2 x).wt = x.wt:=by unfold Zb2;split<;>rfl
 have hc:(Zb2 x).c = x.c:=by unfold Zb2;split<;>rfl
 have hs:(Zb2 x).s = x.s:=by unfold Zb2;split<;>rfl
 have hw':(Zb7 y).wt = y.wt:=by unfold Zb7;split<;>rfl
 have ha':(Zb7 y).all = y.all:=by unfold Zb7;split<;>rfl
 exact ⟨R.b.drop,by rw[hw,hw',R.wt],by rw[hc,ha',R.c],by rw[hs,ha',R.s]⟩
theorem Zvp (y:Vrt):(Zb7 y).all = y.all:=by unfold Zb7;split<;>rfl
theorem ZzS {E:DDk} {y:Vrt} {r:ByteArray}:∀ s∈(ZhB E y r).all,s∈y.all∨s = r:=by
 unfold ZhB
 intro s hs
 split at hs
 ·split at hs
  ·split at hs
   ·exact (List.mem_append.1 hs).imp id fun h=>List.mem_singleton.1 h
   ·have:(Zb1 E (ZgN (Zfn y r)) (ZZ (y.wt++[r]))).all = y.all++[r]:=by
     unfold Zb1
     split
     ·rfl
     ·rw[Zvp];rfl
    rw[this] at hs
    exact (List.mem_append.1 hs).imp id fun h=>List.mem_singleton.1 h
  ·exact .inl hs
 ·exact .inl hs
section disk
variable {h:Za} {d mb:Nat} {D:Dsk} {t name:ByteArray} {k:Int}
theorem Z2d (t:ByteArray) (k:Int) (name:ByteArray):Zd7 [(name,t,k)] = [name]:=by
 unfold Zd7 ZbP
 simp[Z1O]
theorem Z0T (A:DiskAt h d mb D [(name,t,k)]) (hu:D.used = (t.size:Int)) (K:0≤k∧k≤(t.size:Int)) (ht:t.size≤16777216):
  ∃ g,Zix (.ptr d 0) (.lit (.slice none 0 0)) h = some (.tup [],g)∧DiskAt g d mb { D with used:=((Zch none (t,k)).1.size:Int),fuse:= -1,down:=false} [(name,Zch none (t,k))]∧Keep h.length [d,mb] h g:=by
 have ok:ZdM (t,k):=⟨K.1,K.2,by show (t.size:Int)≤_;omega⟩
 obtain ⟨g,e1,H1,T1,l1⟩:=Z0R A.dh (keep:=.lit (.slice none 0 0)) (ki:=[]) (by simp) (fun f hf=>by
  rw[List.mem_singleton.1 hf];exact ok) (fun g _=>Sl.nil 1 g)
 obtain ⟨_,e⟩:=Zmd (k:=none) ok
 have hk:(Zch none (t,k)).2 = k:=by show k + 0 = k;omega
 have e':((Zch none (t,k)).1.size:Int) = k:=by rw[e];show k + 0 = k;omega
 have hu2:Zeu [] 0 (Zd7 [(name,t,k)]) ([(name,t,k)],D.used) = ([(name,Zch none (t,k))],((Zch none (t,k)).1.size:Int)):=by
  rw[Z2d]
  simp only[Zeu,Ze8,Zcu,ZcP,if_true,Option.getD_some,List.getElem?_nil]
  rw[hu,hk,e',wrap_i64 (by show -9223372036854775808≤(t.size:Int) - ((t.size:Int) - k);omega) (by show (t.size:Int) - ((t.size:Int) - k)≤_;omega)]
  congr 1
  show (t.size:Int) - ((t.size:Int) - k) = k
  omega
 rw[hu2] at H1
 exact ⟨g,e1,H1.disk,H1.keep⟩
theorem Z05 (A:DiskAt h d mb D [(name,t,k)]) {R:Int} (U:UpW D R t) (hr:Zbp name = true) (hn:name.size≤100):
  ∃ g,ZfD (.ptr d 0) name h = some (.tup [.lit (.int .i64 (t.size:Int)),.lit (.int .i64 0)],g)∧DiskAt g d mb (ZbM D) [(name,t,k)]∧Keep h.length [d,mb] h g:=by
 obtain ⟨g,e1,H1,T1,l1⟩:=ZtD A.dh name (by omega)
 rw[Ze7 U hr] at e1
 rw[ZeZ hr] at H1
 exact ⟨g,e1,H1.disk,H1.keep⟩
theorem Z1d (A:DiskAt h d mb D [(name,t,k)]) {R:Int} (U:UpW D R t) (hr:Zbp name = true) (hn:name.size≤100) (ht:t.size≤16777216):
  ∃ g,ZfE (.ptr d 0) name 0 (t.size:Int) h = some (.tup [.lit (.string t),.lit (.int .i64 0)],g)∧DiskAt g d mb (ZbM D) [(name,t,k)]∧Keep h.length [d,mb] h g:=by
 have hmin:decide (ZbB 0 (t.size:Int)≥0) = true:=decide_eq_true (by unfold ZbB;split<;>omega)
 obtain ⟨g,e1,H1,T1,l1⟩:=ZtZ A.dh name 0 (t.size:Int) (by omega) (by rw[hmin,Ze7 U hr];show t.size≤_;omega)
 have hrd:ZgJ D [(name,t,k)] name 0 (t.size:Int) = (t,0):=by
  unfold ZgJ
  simp only[hmin,Ze7 U hr]
  simp
 rw[hrd] at e1
 rw[hmin,ZeZ hr] at H1
 exact ⟨g,e1,H1.disk,H1.keep⟩
end disk
end Go.Proofs.YtogaiomakhapmaaGreat.AL
namespace Go.Proofs.YtogaiomakhapmaaGreat.AL
set_option maxRecDepth 100000
open Go
open Go.Proofs.Tryz
theorem Z35 {room:Int} (h0:0≤room) (h1:room≤16777216) (h:Za):∃ g,ZiA room h = some (.ptr h.length 0,g)∧DDAt g h.length ⟨room, -1,false,0⟩ (.lit (.slice none 0 0)) []∧Grow h g:=by
 refine ⟨_,?_,⟨ZU h _,Own.nil _ _,fun hb=>by obtain ⟨_,_,_,e⟩:=hb;cases e⟩,(Grow.refl h).psh _⟩
 rw[ZwT]
 refine cF (decide_eq_false (by omega)) ?_
 rw[Zsb]
 exact cF (decide_eq_false (by omega)) rfl
theorem Z36 {room:Int} (h0:room < 0∨16777216 < room) (h:Za):ZiA room h = some (.lit (.pointer none),h):=by
 rw[ZwT]
 by_cases c:room < 0
 ·refine cT (decide_eq_true c) ?_
  rw[Zsb];rfl
 ·refine cF (decide_eq_false c) ?_
  rw[Zsb]
  exact cT (decide_eq_true (by omega)) rfl
section ops
variable {h:Za} {y:Nat} {D:DDk} {v:AVal} {L:List Zw}
theorem Z3B (A:DDAt h y D v L) (n:Int):∃ g,Zld (.ptr y 0) n h = some (.tup [],g)∧DDAt g y { D with fuse:=Zs (-1) n} v L∧DFr y h g v v:=by
 have k:∀ c,c≠y→(h.set y (.cells (ddC { D with fuse:=Zs (-1) n} v)))[c]? = h[c]?:=fun c hn=>List.getElem?_set_ne (Ne.symm hn)
 refine ⟨h.set y (.cells (ddC { D with fuse:=Zs (-1) n} v)),?_,A.sets (Zm A.dcs) k,⟨by simp,fun c _ hn=>k c hn,fun b hb=>.inl hb⟩⟩
 rw[Z8a]
 exact bd rfl (bd rfl (bd (Zbq A.dcs rfl (by show 2 < 5;omega)) rfl))
theorem Z3u (A:DDAt h y D v L) (hl:L.length≤1000) (n:ByteArray):Zv (Zht (.ptr y 0) n h) h = some (.lit (.string (match ZbC L n with |none=>⟨#[]⟩ |some i=>(L.getD i (n,⟨#[]⟩,0)).2.1))):=by
 have hat:=ZmG A hl n
 have:Zht (.ptr y 0) n h = some (.lit (.string (match ZbC L n with |none=>⟨#[]⟩ |some i=>(L.getD i (n,⟨#[]⟩,0)).2.1)),h):=by
  rw[Z7N]
  cases hd:ZbC L n with
  |none=>
   have hi:Zcx L n = -1:=by unfold Zcx;rw[hd]
   rw[hi] at hat
   exact bd hat (bd rfl (cT rfl rfl))
  |some i=>
   obtain ⟨hi,_⟩:=ZmH hd
   have hI:Zcx L n = (i:Int):=by unfold Zcx;rw[hd]
   rw[hI] at hat
   obtain ⟨p,p1,_,p3⟩:=A.file hi
   obtain ⟨q,q1,q2⟩:=p3 1 (by omega)
   have hg:L.getD i (n,⟨#[]⟩,0) = L[i]:=by simp[List.getD_eq_getElem?_getD,hi]
   refine bd hat (bd rfl (cF (decide_eq_false (by omega)) (bd rfl (bd rfl (bd (Zc A.dcs) (bd p1 (bd q1 (bd q2 (bd rfl ?_)))))))))
   show _ = some (AVal.lit (.string (L.getD i (n,⟨#[]⟩,0)).2.1),h)
   rw[hg]
 rw[this];exact ZbI _ _
def ZjU (ki:List Int):Nat→List Zw→List Zw
 |_,[]=>[]
 |i,f :: l=>(f.1,Zch (ki[i]?) f.2) :: ZjU ki (i + 1) l
theorem Mk.more {h0 g g':Za} {out:AVal} {P:List Zw} (M:Mk h0 g out P) (G:Grow g g'):Mk h0 g' out P:=⟨M.grow.trans G,M.own.grow G,M.new⟩
theorem Z31 (A:DDAt h y D v L) (hl:L.length≤500) {keep:AVal} {ki:List Int} (hK:Sl 1 h keep ki.length (Zia ki)) (hok:∀ f∈L,ZdM f.2):∀ (m:Nat) (P:List Zw) (g:Za) (out:AVal),P.length + m = L.length→Mk h g out P→
  ∃ v' g',Zn7 (.ptr y 0) keep out (P.length:Int) g = Zn5 (.ptr y 0) v' g'∧Mk h g' v' (P++ZjU ki P.length (L.drop P.length)):=by
 intro m
 induction m with
 |zero=>
  intro P g out hm M
  refine ⟨out,g,?_,?_⟩
  ·rw[ZwY]
   exact bd rfl (bd rfl (bd (Zc (M.grow.cells A.dcs)) (bd (A.ls.sl.grow M.grow).len (cF (decide_eq_false (by omega)) rfl))))
  ·rw[List.drop_of_length_le (by omega)];simpa[ZjU] using M
 |succ m ih=>
  intro P g out hm M
  have hlt:P.length < L.length:=by omega
  have hd:L.drop P.length = L[P.length] :: L.drop (P.length + 1):=List.drop_eq_getElem_cons hlt
  obtain ⟨p,e1,e2,_⟩:=ZqI (A.ls.sl.grow M.grow) hlt
  have ok:=hok _ (List.getElem_mem hlt)
  generalize hf:L[P.length] = f at e2 hd ok
  obtain ⟨r1,r2⟩:=ZpT (k:=ki[P.length]?) ok
  obtain ⟨_,rsz⟩:=Zmd (k:=ki[P.length]?) ok
  obtain ⟨k1,k2,k3⟩:=ok
  obtain ⟨g2,hg2⟩:∃ g2,g2 = (psh g (.cells [.lit (.string { data:=#[]}),.lit (.string { data:=#[]}),.lit (.int .i64 0)])).set g.length (.cells (dfC f)):=⟨_,rfl⟩
  have c0:Zb (psh g (.cells [.lit (.string { data:=#[]}),.lit (.string { data:=#[]}),.lit (.int .i64 0)])) g.length = some [.lit (.string { data:=#[]}),.lit (.string { data:=#[]}),.lit (.int .i64 0)]:=ZU _ _
  have s2:stn 3 (psh g (.cells [.lit (.string { data:=#[]}),.lit (.string { data:=#[]}),.lit (.int .i64 0)])) (.ptr g.length 0) (dfC f) = some g2:=by rw[hg2];exact Zcn c0 rfl rfl (by show 3≤3;omega)
  have c2:Zb g2 g.length = some (dfC f):=by rw[hg2];exact Zm c0
  have G2:Grow g g2:=by rw[hg2];exact ((Grow.refl g).psh _).set (Nat.le_refl _)
  obtain ⟨s',hs'⟩:∃ s',s' = (Zch (ki[P.length]?) f.2).1:=⟨_,rfl⟩
  rw[←hs'] at rsz
  obtain ⟨g3,hg3⟩:∃ g3,g3 = g2.set g.length (.cells (dfC (f.1,s',f.2.2))):=⟨_,rfl⟩
  have s3:st1 g2 (.ptr g.length 1) (.lit (.string s')) = some g3:=by rw[hg3];exact Zbq c2 rfl (by show 1 < 3;omega)
  have c3:Zb g3 g.length = some (dfC (f.1,s',f.2.2)):=by rw[hg3];exact Zm c2
  obtain ⟨g4,hg4⟩:∃ g4,g4 = g3.set g.length (.cells (dfC (f.1,s',(s'.size:Int)))):=⟨_,rfl⟩
  have s4:st1 g3 (.ptr g.length 2) (.lit (.int .i64 (s'.size:Int))) = some g4:=by rw[hg4];exact Zbq c3 rfl (by show 2 < 3;omega)
  have c4:Zb g4 g.length = some (dfC (f.1,s',(s'.size:Int))):=by rw[hg4];exact Zm c3
  have G4:Grow g g4:=by rw[hg4,hg3];exact (G2.set (Nat.le_refl _)).set (Nat.le_refl _)
  obtain ⟨v1,g5,b0,b1,M5,kk,aa,ll⟩:=(M.more G4).push (f.1,s',(s'.size:Int)) (by omega) (zs:=[.lit (.string { data:=#[]}),.lit (.string { data:=#[]}),.lit (.int .i64 0)]) rfl
  have hl1:(P++[(f.1,s',(s'.size:Int))]).length = P.length + 1:=by simp
  obtain ⟨v',g',e,M'⟩:=ih (P++[(f.1,s',(s'.size:Int))]) g5 v1 (by omega) M5
  have body:∀ n,n = ZbT (ki[P.length]?) f.2→Zn6 (.ptr y 0) keep out (P.length:Int) g.length n g2 = Zn5 (.ptr y 0) v' g':=fun n hn=>by
   subst hn
   have hcut:ZdY f.2.1 0 (IntKind.wrap .i64 (f.2.2 + ZbT (ki[P.length]?) f.2)) = some s':=by
    rw[wrap_i64 (by omega) (by omega),hs']
    unfold ZdY
    rw[Z8 (by omega)];rfl
   rw[Z7W]
   refine bd (Zc c2) (bd rfl (bd (Zc c2) (bd rfl (bd hcut (bd s3 (bd (Zc c3) (bd rfl (bd s4 (bd (Zbh c4 (by show 3≤3;omega)) (bd b0 (bd b1 ?_)))))))))))
   rw[wrap_i64 (by omega) (by omega),show (P.length:Int) + 1 = ((P++[(f.1,s',(s'.size:Int))]).length:Int) by omega]
   exact e
  refine ⟨v',g',?_,?_⟩
  ·rw[ZwY]
   refine bd rfl (bd rfl (bd (Zc (M.grow.cells A.dcs)) (bd (A.ls.sl.grow M.grow).len (cT (decide_eq_true (by omega)) (bd rfl (bd rfl (bd (Zc (M.grow.cells A.dcs)) (bd e1 (bd e2 (bd s2 (bd (hK.grow M.grow).len ?_)))))))))))
   by_cases hk:P.length < ki.length
   ·obtain ⟨q,q1,_,_,q2⟩:=(hK.grow (M.grow.trans G2)).idx hk
    have q2:=q2 (by omega)
    have q2:ld1 g2 q = some (.lit (.int .i64 ki[P.length])):=by rw[q2];simp[Zia,hk]
    refine cT (decide_eq_true (by omega)) (bd q1 (bd q2 (bd rfl (bd (Zc c2) (bd rfl (bd (Zc c2) (bd rfl ?_)))))))
    refine body _ ?_
    rw[wrap_i64 (by omega) (by omega),List.getElem?_eq_getElem hk]
    rfl
   ·refine cF (decide_eq_false (by omega)) (body 0 ?_)
    rw[List.getElem?_eq_none (by omega)];rfl
  ·rw[hl1,List.append_assoc] at M'
   rw[hd,ZjU]
   have e2':Zch (ki[P.length]?) f.2 = (s',(s'.size:Int)):=by
    rw[rsz,hs'];rfl
   rw[e2'];exact M'
theorem Z30 (A:DDAt h y D v L) (hl:L.length≤500) {keep:AVal} {ki:List Int} (hK:Sl 1 h keep ki.length (Zia ki)) (hok:∀ f∈L,ZdM f.2):
  ∃ g v',Zlb (.ptr y 0) keep h = some (.tup [],g)∧DDAt g y { D with fuse:= -1,down:=false} v' (ZjU ki 0 L)∧DFr y h g v v':=by
 obtain ⟨v',g',e,M⟩:=Z31 A hl hK hok L.length [] h (.lit (.slice none 0 0)) (by simp) ⟨.refl h,Own.nil _ _,fun b hb=>by obtain ⟨_,_,_,e⟩:=hb;cases e⟩
 obtain ⟨g1,s1,A1,F1⟩:=ZqM A M
 have c2:Zb (g1.set y (.cells (ddC { D with down:=false} v'))) y = some (ddC { D with down:=false} v'):=Zm A1.dcs
 have k:∀ c,c≠y→((g1.set y (.cells (ddC { D with down:=false} v'))).set y (.cells (ddC { D with fuse:= -1,down:=false} v')))[c]? = g1[c]?:=fun c hn=>by rw[List.getElem?_set_ne (Ne.symm hn),List.getElem?_set_ne (Ne.symm hn)]
 refine ⟨_,v',?_,A1.sets (Zm c2) k,F1.trans ⟨by simp,fun c _ hn=>k c hn,fun b hb=>.inl hb⟩⟩
 rw[Z7T]
 refine Eq.trans e ?_
 rw[Z7V]
 exact bd rfl (bd rfl (bd s1 (bd rfl (bd rfl (bd (Zbq A1.dcs rfl (by show 3 < 5;omega)) (bd rfl (bd rfl (bd (Zbq c2 rfl (by show 2 < 5;omega)) rfl))))))))
end ops
end Go.Proofs.YtogaiomakhapmaaGreat.AL
namespace Go.Proofs.YtogaiomakhapmaaGreat.AL
set_option maxRecDepth 100000
open Go
open Go.Proofs.Tryz
theorem Tru.bd {α:Type} {x:Option α} {a:α} {f:α→Option (AVal×Za)} (h:x = some a) (k:Tru (f a)):Tru (x.bind f):=by rw[h];exact k
theorem Tru.cT {c:Bool} {x y:Option (AVal×Za)} (h:c = true) (k:Tru x):Tru (cond c x y):=by rw[h];exact k
theorem Tru.cF {c:Bool} {x y:Option (AVal×Za)} (h:c = false) (k:Tru y):Tru (cond c x y):=by rw[h];exact k
section law
variable {LW:WLoc} {LV:VLoc} {h g:Za} {D D':Dsk} {x x':Wrt} {v v':AVal} {E E':DDk} {y y':Vrt} {u u':Vs} {n i c:Nat} {cs:List AVal}
theorem Z3a (S:WG LW h D x v):Zv (ZfA (.ptr LW.wp 0) h) h = some (.lit (.int .i64 (x.c:Int))):=by
 have:ZfA (.ptr LW.wp 0) h = some (.lit (.int .i64 (x.c:Int)),h):=by
  rw[Zwc]
  exact bd rfl (cF rfl (bd rfl (bd rfl (bd rfl (bd (Zc S.W) (bd rfl rfl))))))
 rw[this];exact ZbI _ _
theorem ZzV (S:VS LV h E y u):Zv (Zi3 (.ptr LV.wp 0) h) h = some (.lit (.int .i64 (y.all.length:Int))):=by
 have:Zi3 (.ptr LV.wp 0) h = some (.lit (.int .i64 (y.all.length:Int)),h):=by
  rw[Z6Y]
  exact bd rfl (bd rfl (bd (Zc S.W) (bd S.Va.sl.len rfl)))
 rw[this];exact ZbI _ _
theorem Both.grow (B:Both LW LV h D x v E y u) (G:Grow h g):Both LW LV g D x v E y u:=⟨(B.W.far G.len fun c hc=>G.same hc).1,(B.V.grow G).1,B.dis⟩
structure Asd (LW:WLoc) (LV:VLoc) (h:Za) (v:AVal) (u:Vs) (c:Nat) (cs:List AVal):Prop where
 cell:Zb h c = some cs
 nw:¬LW.In c∧¬At v c
 nv:¬LV.In c∧¬u.At c
theorem Asd.ww (A:Asd LW LV h v u c cs) (F:WFr LW h g v v'):Asd LW LV g v' u c cs:=
 ⟨(F.cells A.cell A.nw.1 A.nw.2).1,⟨A.nw.1,(F.cells A.cell A.nw.1 A.nw.2).2⟩,A.nv⟩
theorem Asd.vv (A:Asd LW LV h v u c cs) (F:VFr LV h g u u'):Asd LW LV g v u' c cs:=
 ⟨by rw[ZO (F.get c (ZB A.cell) A.nv.1 A.nv.2)];exact A.cell,A.nw,⟨A.nv.1,fun hu=>(F.at' c hu).elim A.nv.2 fun hh=>by have:=ZB A.cell;omega⟩⟩
theorem Asd.grow (A:Asd LW LV h v u c cs) (G:Grow h g):Asd LW LV g v u c cs:=⟨G.cells A.cell,A.nw,A.nv⟩
theorem Both.new (B:Both LW LV h D x v E y u) (hc:h.length≤c) (hcell:Zb g c = some cs):Asd LW LV g v u c cs:=
 ⟨hcell,⟨fun hi=>by have:=B.W.lt hi;omega,fun hv=>by have:=B.W.V.lt hv;omega⟩,⟨fun hi=>by have:=B.V.lt (.inl hi);omega,fun hu=>by have:=B.V.lt (.inr hu);omega⟩⟩
theorem Zun (B:Both LW LV h D x v E y u) (R:RW D x E y) (F:Fit x n i) (hi:i≤100) (aa:∀ s∈y.all,s.size≤1000):
  Tru (ZnJ (.ptr LW.d 0) (.ptr LV.y 0) (.ptr LW.bb 0) LV.bb (.ptr LW.wp 0) (.ptr LV.wp 0) h):=by
 have ts:=F.ts
 have hb:=Zre F.g.wa F.g.wl F.g.n2
 obtain ⟨g1,v1,e1,S1,F1⟩:=Z3b B.W F.g (by have:=F.c;omega)
 have B1:=B.ww S1 F1
 obtain ⟨q1,q2,q3,RB1⟩:=R.close (by omega)
 have hL:=Z3I D F
 have vok:=R.b.vok F.g
 have vpk:=R.vpk F (by omega) aa
 have vt:y.t.size≤1000000:=by rw[R.b.t];omega
 have vrun:=fun g (S:VS LV g E y u)=>ZzW S vok vpk vt
 have hn:=hL.name.trans F.name
 have hk:=hL.k F.k
 have ht:=hL.t
 clear hL
 generalize ZdE D x = r at *
 generalize Zep E y = s at *
 obtain ⟨g2,hg2⟩:∃ g2,g2 = (psh g1 (.cells [.lit (.int .i64 0),.lit (.int .u32 0)])).set g1.length (.cells [.lit (.int .i64 (r.c:Int)),.lit (.int .u32 (u32 r.s))]):=⟨_,rfl⟩
 have st2:stn 2 (psh g1 (.cells [.lit (.int .i64 0),.lit (.int .u32 0)])) (.ptr g1.length 0) [.lit (.int .i64 (r.c:Int)),.lit (.int .u32 (u32 r.s))] = some g2:=by rw[hg2];exact Zj5 g1 _ _
 have G2:Grow g1 g2:=by rw[hg2];exact Zj6 _ _
 have B2:=B1.grow G2
 have A2:=B1.new (g:=g2) (c:=g1.length) (Nat.le_refl _) (by rw[hg2];exact ZpQ _ _ _)
 obtain ⟨g3,u3,e3,S3,F3⟩:=vrun g2 B2.V
 have B3:=B2.vv S3 F3
 have A3:=A2.vv F3
 obtain ⟨g4,hg4⟩:∃ g4,g4 = (psh g3 (.cells [.lit (.int .i64 0),.lit (.int .u32 0)])).set g3.length (.cells [.lit (.int .i64 (s.c:Int)),.lit (.int .u32 (u32 s.s))]):=⟨_,rfl⟩
 have st4:stn 2 (psh g3 (.cells [.lit (.int .i64 0),.lit (.int .u32 0)])) (.ptr g3.length 0) [.lit (.int .i64 (s.c:Int)),.lit (.int .u32 (u32 s.s))] = some g4:=by rw[hg4];exact Zj5 g3 _ _
 have G4:Grow g3 g4:=by rw[hg4];exact Zj6 _ _
 have B4:=B3.grow G4
 have A4:=A3.grow G4
 have C4:=B3.new (g:=g4) (c:=g3.length) (Nat.le_refl _) (by rw[hg4];exact ZpQ _ _ _)
 obtain ⟨g5,e5,A5,K5⟩:=Z0T B4.W.A RB1.d.used hk (by omega)
 have ok:ZdM (r.x.t,r.x.k):=⟨hk.1,hk.2,by show (r.x.t.size:Int)≤_;omega⟩
 obtain ⟨p1,hp1⟩:∃ p,p = Zch none (r.x.t,r.x.k):=⟨_,rfl⟩
 have hps:p1.1.size≤16777216:=by
  obtain ⟨_,e⟩:=Zmd (k:=none) ok
  rw[←hp1] at e
  have:(r.x.t,r.x.k).2 + ZbT none (r.x.t,r.x.k) = r.x.k:=by show r.x.k + 0 = _;omega
  rw[this] at e
  have:=hk.2
  omega
 rw[←hp1] at A5
 obtain ⟨S5,F5⟩:=B4.W.disk (t':=p1.1) (k':=p1.2) A5 K5
 have B5:=B4.ww S5 F5
 have A5':=A4.ww F5
 have C5:=C4.ww F5
 have U5:UpW { r.D with used:=(p1.1.size:Int),fuse:= -1,down:=false} r.D.room p1.1:=⟨rfl,rfl,rfl,rfl⟩
 obtain ⟨g6,e6,A6,K6⟩:=Z05 B5.W.A U5 RB1.right (by show r.x.name.size≤100;rw[hn];decide)
 obtain ⟨S6,F6⟩:=B5.W.disk (t':=p1.1) (k':=p1.2) A6 K6
 have B6:=B5.ww S6 F6
 obtain ⟨g7,e7,A7,K7⟩:=Z1d B6.W.A U5.call RB1.right (by show r.x.name.size≤100;rw[hn];decide) hps
 obtain ⟨S7,F7⟩:=B6.W.disk (t':=p1.1) (k':=p1.2) A7 K7
 have B7:=B6.ww S7 F7
 have A7':=(A5'.ww F6).ww F7
 have C7:=(C5.ww F6).ww F7
 obtain ⟨g8,v8,e8,A8,F8⟩:=Z30 B7.V.A (by simp) (keep:=.lit (.slice none 0 0)) (ki:=[]) (Sl.nil 1 _) (fun f hf=>by
  rw[List.mem_singleton.1 hf];show ZdM (s.y.t,s.y.k);rw[RB1.t,RB1.k];exact ok)
 have A8:DDAt g8 LV.y { s.E with fuse:= -1,down:=false} v8 [(s.y.name,Zch none (s.y.t,s.y.k))]:=A8
 rw[RB1.t,RB1.k,←hp1] at A8
 obtain ⟨S8,F8'⟩:=B7.V.disk (t':=p1.1) (k':=p1.2) A8 F8
 have B8:=B7.vv S8 F8'
 have A9:=A7'.vv F8'
 have C9:=C7.vv F8'
 have e9:=Z3u B8.V.A (by simp) aW
 have hd:ZbC [(s.y.name,p1.1,p1.2)] aW = some 0:=by rw[RB1.name,hn];simp[ZbC]
 have e9:Zv (Zht (.ptr LV.y 0) aW g8) g8 = some (.lit (.string p1.1)):=by
  rw[e9]
  show some (AVal.lit (.string (match ZbC [(s.y.name,p1.1,p1.2)] aW with |none=>⟨#[]⟩ |some i=>([(s.y.name,p1.1,p1.2)].getD i (aW,⟨#[]⟩,0)).2.1))) = _
  rw[hd];rfl
 have e10:=Zv2 B8.W.A.dh
 have leq:ZeW [.int,.int] [.lit (.int .i64 (r.c:Int)),.lit (.int .u32 (u32 r.s))] [.lit (.int .i64 (s.c:Int)),.lit (.int .u32 (u32 s.s))] = some true:=by rw[q1,q2];simp[ZeW,ZeX]
 have e6':ZfD (.ptr LW.d 0) aW g5 = some (.tup [.lit (.int .i64 (p1.1.size:Int)),.lit (.int .i64 0)],g6):=by rw[←hn];exact e6
 have e7':ZfE (.ptr LW.d 0) aW 0 (p1.1.size:Int) g6 = some (.tup [.lit (.string p1.1),.lit (.int .i64 0)],g7):=by rw[←hn];exact e7
 rw[Z89]
 refine .bd e1 (.bd rfl (.bd rfl (.bd rfl (.bd rfl (.bd st2 (.bd e3 (.bd rfl (.bd rfl (.bd rfl (.bd rfl (.bd st4 (.bd e5 ?_))))))))))))
 refine .bd e6' (.bd rfl (.bd rfl (.bd rfl (.bd rfl (.bd e7' (.bd rfl (.bd rfl (.bd rfl (.bd rfl (.bd e8 ?_))))))))))
 refine .bd (Zbh A9.cell (by show 2≤2;omega)) (.bd (Zbh C9.cell (by show 2≤2;omega)) (.bd leq (.cT rfl (.cT (decide_eq_true q3.symm) ?_))))
 refine .bd (Zrc B8.W.B) (.bd rfl (.bd (Zc B8.V.B) (.bd rfl (.cT (decide_eq_true RB1.now.symm) ?_))))
 refine .bd (Z4p B8.W.B) (.bd rfl (.bd (Zc B8.V.B) (.bd rfl (.cT (decide_eq_true RB1.hi.symm) (.cT rfl (.cT rfl ?_))))))
 refine .bd e9 (.bd rfl (.cT (decide_eq_true rfl) ?_))
 refine .bd (bd e10 rfl) (.bd (Zev rfl) (.bd rfl (.bd rfl (.bd rfl (.bd (Zc B8.V.A.dcs) (.bd rfl (.cT (decide_eq_true ?_) .here)))))))
 show IntKind.wrap .i64 (IntKind.wrap .i64 (r.D.calls + 1) + 1) = IntKind.wrap .i64 (s.E.calls + 2)
 rw[RB1.d.calls,ZyI]
theorem Z10 (B:Both LW LV h D x v E y u) (R:RW D x E y) (F:Fit x n i) (hi:i≤100) (aa:∀ s∈y.all,s.size≤1000) (drop:Bool):
  Tru (ZnF drop (.ptr LW.d 0) (.ptr LV.y 0) (.ptr LW.bb 0) LV.bb (.ptr LW.wp 0) (.ptr LV.wp 0) h):=by
 rw[Zxd]
 refine .bd (a:=false) rfl (.cF rfl ?_)
 cases drop with
 |false=>exact .cF rfl (Zun B R F hi aa)
 |true=>
  obtain ⟨g1,e1,S1,F1⟩:=Zq4 B.W F.g.h4 F.g.h3
  have B1:=B.ww S1 F1
  obtain ⟨g2,e2,S2,F2⟩:=ZpD B1.V (R.b.vok F.g).h4 (R.b.vok F.g).h3
  exact .cT rfl (.bd e1 (.bd e2 (Zun (B1.vv S2 F2) R.drop F.drop hi (by rw[Zvp];exact aa))))
theorem Z1z {l1:AVal} {ss:List ByteArray} (hL:∀ g,Sl 1 g l1 ss.length (ZX ss)) (h30:ss.length≤30) (h80:∀ j (hj:j < ss.length),ss[j].size≤80) (drop:Bool):
  ∀ m i (h:Za) (D:Dsk) (x:Wrt) (v:AVal) (E:DDk) (y:Vrt) (u:Vs),i + m = ss.length→Both LW LV h D x v E y u→RW D x E y→Fit x n i→(∀ s∈y.all,s.size≤1000)→
    Tru (ZiF l1 drop (.ptr LW.d 0) (.ptr LV.y 0) (.ptr LW.bb 0) LV.bb (.ptr LW.wp 0) (.ptr LV.wp 0) (i:Int) h):=by
 intro m
 induction m with
 |zero=>
  intro i h D x v E y u hi B R F aa
  rw[Zsr]
  refine .bd (hL h).len (.cF (decide_eq_false (by omega)) ?_)
  rw[Zsq]
  exact .cF rfl (Z10 B R F (by omega) aa drop)
 |succ m ih=>
  intro i h D x v E y u hi B R F aa
  have hlt:i < ss.length:=by omega
  have h8:=h80 i hlt
  obtain ⟨p,a,b⟩:=Zes (hL h) hlt
  have hbk:(ZZ (x.wt++[ss[i]])).size≤1000:=by
   have h1:=ZdZ F.g.wa
   have h5:x.wt.length * x.n≤4 * 64:=Nat.mul_le_mul F.g.wl F.g.n2
   rw[Zf6,Zkb,Zka,List.length_append,h1,szL];omega
  have ts:=F.ts
  obtain ⟨q1,R1⟩:=R.put ss[i] (by omega)
  obtain ⟨g1,v1,e1,S1,F1⟩:=Z2S B.W F.g F.wt (by have:=F.c;omega) ss[i]
  have B1:=B.ww S1 F1
  obtain ⟨g2,u2,e2,S2,F2⟩:=ZzR B1.V (R.b.vok F.g) (R.vpk F (by omega) aa) (by rw[R.wt];exact F.wt) (by rw[←R.c];have:=F.c;omega) ss[i] (by omega)
  have B2:=B1.vv S2 F2
  obtain ⟨q,a',b'⟩:=Zes (hL g1) hlt
  rw[a] at a'
  cases a'
  have next:=ih (i + 1) g2 _ _ _ _ _ _ (by omega) B2 R1 (F.put (by omega) D ss[i]) (fun s hs=>(ZzS s hs).elim (aa s) fun e=>by rw[e];omega)
  rw[Zsr]
  refine .bd (hL h).len (.cT (decide_eq_true (by omega)) (.bd (a:=false) rfl ?_))
  rw[Zsq]
  refine .cT rfl (.bd a (.bd b (.bd rfl (.bd a (.bd b (.bd rfl (.bd e1 (.bd rfl (.bd (Zev (by rw[b'];rfl)) (.bd e2 (.bd rfl (.cF (by rw[decide_eq_true q1.symm];rfl) ?_))))))))))))
  refine .bd (Z3a B2.W) (.bd rfl (.bd (ZzV B2.V) (.bd rfl (.cF (by rw[decide_eq_true (by rw[R1.c])];rfl) ?_))))
  refine .bd (Zrc B2.W.B) (.bd rfl (.bd (Zc B2.V.B) (.bd rfl ?_)))
  rw[decide_eq_true R1.b.now.symm,Z85,wrap_i64 (by omega) (by omega)]
  exact .cF rfl next
end law
section nil
variable {h:Za} {d mb y b c:Nat} {D:Dsk} {E:DDk} {l L:List Zw} {w:AVal}
theorem Zmn (A:DiskAt h d mb D l) (V:DDAt h y E w L) (hc:E.calls = D.calls) {l1:AVal} {ss:List ByteArray} (hL:∀ g,Sl 1 g l1 ss.length (ZX ss)) (drop:Bool):
  Tru (ZiF l1 drop (.ptr d 0) (.ptr y 0) (.ptr b 0) c (.lit (.pointer none)) (.lit (.pointer none)) 0 h):=by
 have nine:Tru (ZnF drop (.ptr d 0) (.ptr y 0) (.ptr b 0) c (.lit (.pointer none)) (.lit (.pointer none)) h):=by
  rw[Zxd]
  refine .bd (a:=true) rfl (.cT rfl (.bd rfl (.bd rfl (.bd (Zc V.dcs) (.bd rfl (.bd (Zv2 A.dh) (.bd rfl (.bd (Zev ?_) (.cT (decide_eq_true hc.symm) .here)))))))))
  exact bd (Zc V.dcs) rfl
 have seven:∀ i,Tru (ZnH l1 drop (.ptr d 0) (.ptr y 0) (.ptr b 0) c (.lit (.pointer none)) (.lit (.pointer none)) i false h):=fun i=>by
  rw[Zsq]
  exact .cF rfl nine
 rw[Zsr]
 refine .bd (hL h).len ?_
 cases decide ((0:Int) < (ss.length:Int)) with
 |true=>exact .cT rfl (.bd (a:=true) rfl (seven 0))
 |false=>exact .cF rfl (seven 0)
end nil
end Go.Proofs.YtogaiomakhapmaaGreat.AL
namespace Go.Proofs.YtogaiomakhapmaaGreat.AL
set_option maxRecDepth 100000
open Go
open Go.Proofs.Tryz
theorem Z3D {D:Dsk} {E:DDk} (R:RD D E ⟨#[]⟩) {n:ByteArray} (hr:Zbp n = true):ZcX D [] n = (if Zb3 D then 5 else 0)∧Zcw E [] n = (if Zb3 D then 5 else 0):=by
 constructor
 ·unfold ZcX ZA
  rw[hr]
  cases Zb3 D<;>simp[Zcu]
 ·have h:=(R.find hr).2
  unfold Zcw
  rw[h]
  cases Zb3 D<;>simp[Zcx,ZbC]
theorem Zuo {size m fuse e14:Int} {l1 d13 y15 b16:AVal} {drop:Bool} {h:Za} (hy:AVal.isNil .ptr y15 = some (!decide (e14 = 0))) (hb:AVal.isNil .ptr b16 = some (decide (m < 0))):
  Tru (ZiG size l1 m fuse drop d13 e14 y15 b16 true h):=by
 rw[Zxe]
 refine .cT rfl (.bd hy (.cT (decide_eq_true rfl) (.bd hb ?_)))
 rw[decide_eq_true (rfl:decide (m < 0) = decide (m < 0)),Z88]
 refine .cT rfl ?_
 rw[Z86]
 exact .here
theorem Z1y {l1:AVal} {ss:List ByteArray} (hL:∀ g,Sl 1 g l1 ss.length (ZX ss)) (h30:ss.length≤30) (h80:∀ j (hj:j < ss.length),ss[j].size≤80) (drop:Bool) {size m fuse room:Int} {h:Za} {d mb y b:Nat}
  (A:DiskAt h d mb (Ze4 room) []) (V:DDAt h y ⟨room, -1,false,0⟩ (.lit (.slice none 0 0)) []) (B:Zb h b = some (Zbl m 0 0)) (hn:y≠d∧y≠mb∧b≠d∧b≠mb∧b≠y) (hr:0≤room∧room≤16777216) (hm:0≤m∧m≤9223372036854775807) (hf:fuse≤9223372036854775807):
  Tru (ZiG size l1 m fuse drop (.ptr d 0) 0 (.ptr y 0) (.ptr b 0) false h):=by
 obtain ⟨n1,n2,n3,n4,n5⟩:=hn
 have no:∀ c,¬At (.lit (.slice none 0 0)) c:=fun c hc=>by obtain ⟨_,_,_,e⟩:=hc;cases e
 have ld:=ZB A.dcs
 have lm:=ZE A.ms
 have ly:=ZB V.dcs
 have lb:=ZB B
 obtain ⟨g0,hg0⟩:∃ g0,g0 = psh h (.cells (ZbF m 0 0)):=⟨_,rfl⟩
 have G0:Grow h g0:=by rw[hg0];exact (Grow.refl h).psh _
 have l0:g0.length = h.length + 1:=by rw[hg0];exact Zbm _ _
 have C0:Zb g0 h.length = some (ZbF m 0 0):=by rw[hg0];exact ZU _ _
 have A0:DiskAt g0 d mb (Ze4 room) []:=A.keep G0 ⟨ld,by simp⟩ ⟨lm,by simp⟩
 obtain ⟨g1,e1,H1,T1,l1'⟩:=Z48 A0.dh fuse
 have k1:∀ c,c < g0.length→c≠d→c≠mb→g1[c]? = g0[c]?:=fun c hc a b=>H1.keep.get c hc (by simp only[List.mem_cons,List.not_mem_nil,or_false,not_or];exact ⟨a,b⟩)
 have A1:=H1.disk
 have V1:DDAt g1 y ⟨room, -1,false,0⟩ (.lit (.slice none 0 0)) []:=⟨by rw[ZO (k1 y (by omega) n1 n2)];exact G0.cells V.dcs,Own.nil _ _,no _⟩
 obtain ⟨g2,e2,V2,F2⟩:=Z3B V1 fuse
 have A2:DiskAt g2 d mb { Ze4 room with fuse:=Zs (-1) fuse} []:=⟨by rw[ZO (F2.get d (by omega) (Ne.symm n1))];exact A1.dcs,by rw[F2.get mb (by omega) (Ne.symm n2)];exact A1.ms⟩
 have B2:Zb g2 b = some (Zbl m 0 0):=by rw[ZO (F2.get b (by omega) n5),ZO (k1 b (by omega) n3 n4)];exact G0.cells B
 have C2:Zb g2 h.length = some (ZbF m 0 0):=by rw[ZO (F2.get _ (by omega) (by omega)),ZO (k1 _ (by omega) (by omega) (by omega))];exact C0
 have R:RD { Ze4 room with fuse:=Zs (-1) fuse} ⟨room,Zs (-1) fuse,false,0⟩ ⟨#[]⟩:=⟨rfl,rfl,rfl,by show -1≤Zs (-1) fuse∧Zs (-1) fuse≤_;unfold Zs;split<;>omega,rfl,rfl,hr⟩
 have l2:=F2.len
 have e1':Ziz (.ptr d 0) fuse (psh h (.cells (ZbF m 0 0))) = some (.tup [],g1):=by rw[←hg0];exact e1
 have mk:∀ (w x:AVal) (e:Int) (bw:Bool) (g3 g4:Za) (now hi hi':Int),Zdv (.ptr d 0) (.ptr b 0) aW size g2 = some (.tup [w,.lit (.int .i64 e)],g3)→ZeK (.ptr y 0) (.ptr h.length 0) aW size g3 = some (.tup [x,.lit (.int .i64 e)],g4)→
   AVal.isNil .ptr w = some bw→AVal.isNil .ptr x = some bw→Zb g4 b = some (Zbl m now hi)→Zb g4 h.length = some (ZbF m now hi')→
   Tru (ZiF l1 drop (.ptr d 0) (.ptr y 0) (.ptr b 0) h.length w x 0 g4)→Tru (ZiG size l1 m fuse drop (.ptr d 0) 0 (.ptr y 0) (.ptr b 0) false h):=by
  intro w x e bw g3 g4 now hi hi' p q hw hx hb hc t
  rw[Zxe]
  refine .cF rfl (.bd e1' (.bd e2 (.bd p (.bd rfl (.bd rfl (.bd rfl (.bd q (.bd rfl (.bd rfl (.bd rfl (.cF (by rw[decide_eq_true rfl];rfl) ?_)))))))))))
  refine .bd hw (.bd hx (.cF (by rw[decide_eq_true rfl];rfl) (.bd (Zrc hb) (.bd rfl (.bd (Zc hc) (.bd rfl ?_))))))
  rw[decide_eq_true (rfl:now = now),Z87]
  exact .cF rfl t
 generalize ({ Ze4 room with fuse:=Zs (-1) fuse}:Dsk) = D at A2 R
 have V2:DDAt g2 y ⟨room,Zs (-1) fuse,false,0⟩ (.lit (.slice none 0 0)) []:=V2
 have hroom:0≤(⟨room,Zs (-1) fuse,false,0⟩:DDk).room∧(⟨room,Zs (-1) fuse,false,0⟩:DDk).room≤16777216:=hr
 generalize (⟨room,Zs (-1) fuse,false,0⟩:DDk) = E at V2 R hroom
 by_cases hs:size < 1∨64 < size
 ·exact mk _ _ 1 true g2 g2 0 0 0 (Z2X hs _ _ _ _) (ZzT hs _ _ _ _) rfl rfl B2 C2 (Zmn A2 V2 R.calls hL drop)
 obtain ⟨n,rfl⟩:∃ n:Nat,size = n:=⟨size.toNat,by omega⟩
 by_cases hb4:m < 4
 ·exact mk _ _ 9 true g2 g2 0 0 0 (Z2Z B2 (by omega) (by omega) (by omega) hm.1 (by omega) hm.2 _ _) (ZzU C2 (by omega) (by omega) (by omega) hm.1 (by omega) hm.2 _ _) rfl rfl B2 C2 (Zmn A2 V2 R.calls hL drop)
 obtain ⟨RF,_⟩:=R.find ZdL
 obtain ⟨cr1,cr2⟩:=Z3D R ZdL
 have far:∀ g3,CFr g2 g3 d mb b→DDAt g3 y E (.lit (.slice none 0 0)) []∧Zb g3 h.length = some (ZbF m 0 0):=fun g3 F=>
  ⟨⟨by rw[ZO (F.get y (by omega) n1 n2 (Ne.symm n5))];exact V2.dcs,Own.nil _ _,no _⟩,by rw[ZO (F.get _ (by omega) (by omega) (by omega) (by omega))];exact C2⟩
 have far2:∀ g3 g4,CFr g2 g3 d mb b→CFv g3 g4 y h.length→∀ c,c < g3.length→c≠y→c≠h.length→g4[c]? = g3[c]?:=fun g3 g4 _ F c hc a b=>F.get c hc a b
 rcases Z2Y A2 B2 ⟨n3,n4⟩ (n:=n) (by omega) (by omega) ZdL (by decide) (by omega) (by omega) hm.2 (by omega) with ⟨ne,g3,p,A3,B3,F3⟩ | ⟨eq,g3,wp,pn,p0,F3⟩
 ·have hl3:=F3.len
  obtain ⟨V3,C3⟩:=far g3 F3
  obtain ⟨vn,_⟩:=Ztr V3 C3 (by omega) (no _) (n:=n) (by omega) (by omega) ZdL (by decide) (by omega) (by omega) hm.2 (by omega) hroom
  have hde:Zcw E [] aW = ZcX D [] aW:=cr2.trans cr1.symm
  have hve:ZfR E aW n = ZcX D [] aW:=by unfold ZfR;rw[hde,if_neg ne]
  have hvd:ZgE E aW = dD E aW:=by unfold ZgE;rw[hde,if_neg ne]
  rw[hve,hvd] at vn
  obtain ⟨g4,v4,Lf,q,V4,C4,G4⟩:=vn ne
  have A4:DiskAt g4 d mb (Zbt D aW true) []:=⟨by rw[ZO (G4.get d (by omega) (Ne.symm n1) (by omega))];exact A3.dcs,by rw[G4.get mb (by omega) (Ne.symm n2) (by omega)];exact A3.ms⟩
  have B4:Zb g4 b = some (Zbl m 0 (Zs 0 (0 + 4))):=by rw[ZO (G4.get b (by omega) n5 (by omega))];exact B3
  exact mk _ _ _ true g3 g4 0 _ _ p q rfl rfl B4 C4 (Zmn A4 V4 RF.calls hL drop)
 ·have hl3:=F3.len
  obtain ⟨V3,C3⟩:=far g3 F3
  obtain ⟨vn,v0⟩:=Ztr V3 C3 (by omega) (no _) (n:=n) (by omega) (by omega) ZdL (by decide) (by omega) (by omega) hm.2 (by omega) hroom
  have hde:Zcw E [] aW = 0:=(cr2.trans cr1.symm).trans eq
  have RB0:RB (Zbt D aW true) (ZbX m (0 + 4) (Zs 0 (0 + 4)) aW n) (dD E aW) (ZmP m (0 + 4) (Zs 0 (0 + 4)) aW n):=⟨RF,rfl,rfl,rfl,rfl,rfl,rfl,rfl,rfl,ZdL⟩
  obtain ⟨y1,y2⟩:=RB0.lay (b:=ZT n) (by rw[Zfy];show 0 + 11≤_;omega)
  have hve:ZfR E aW n = Zbw (Zbt D aW true) (ZbX m (0 + 4) (Zs 0 (0 + 4)) aW n) (ZT n):=by unfold ZfR;rw[if_pos hde];exact y1
  have hvd:ZgE E aW = dD (dD E aW) aW:=by unfold ZgE;rw[if_pos hde]
  rw[hve,hvd] at vn v0
  by_cases e0:Zbw (Zbt D aW true) (ZbX m (0 + 4) (Zs 0 (0 + 4)) aW n) (ZT n) = 0
  rotate_left
  ·obtain ⟨p,A3,B3⟩:=pn e0
   obtain ⟨g4,v4,Lf,q,V4,C4,G4⟩:=vn e0
   have A4:DiskAt g4 d mb (Zd9 (Zbt D aW true) (ZbX m (0 + 4) (Zs 0 (0 + 4)) aW n) (ZT n)) [(aW,⟨#[]⟩,0)]:=⟨by rw[ZO (G4.get d (by omega) (Ne.symm n1) (by omega))];exact A3.dcs,by rw[G4.get mb (by omega) (Ne.symm n2) (by omega)];exact A3.ms⟩
   have B4:Zb g4 b = some (Zbl m 0 (Zs 0 (0 + 4))):=by rw[ZO (G4.get b (by omega) n5 (by omega))];exact B3
   exact mk _ _ _ true g3 g4 0 _ _ p q rfl rfl B4 C4 (Zmn A4 V4 y2.d.calls hL drop)
  obtain ⟨p,W3,lw⟩:=p0 e0
  obtain ⟨g4,wp',v4,q,S4,l4,at4,G4⟩:=v0 e0
  have lt3:∀ c,(WLoc.mk d mb b wp).In c→c < g3.length:=fun c hc=>W3.lt hc
  have nin:∀ c,(WLoc.mk d mb b wp).In c→c≠y∧c≠h.length:=fun c hc=>by
   rcases hc with e |e |e |e
   ·have e:c = d:=e
    omega
   ·have e:c = mb:=e
    omega
   ·have e:c = b:=e
    omega
   ·have e:c = wp:=e
    omega
  have W4:=W3.farv G4.len fun c hc hx=>hx.elim (fun hi=>G4.get c hc (nin c hi).1 (nin c hi).2) fun hv=>absurd hv (no c)
  have Bo:Both ⟨d,mb,b,wp⟩ ⟨y,h.length,wp'⟩ g4 _ _ _ _ _ _:=⟨W4,S4,fun c hw hv=>by
   rcases hw with hw |hw
   ·have:=lt3 c hw
    have hni:=nin c hw
    rcases hv with (e |e |e) | (hv |hv |hv)
    ·exact hni.1 e
    ·exact hni.2 e
    ·have e:c = wp':=e
     omega
    ·exact (at4 c hv).elim (no c) fun h=>by omega
    ·exact no c hv
    ·exact no c hv
   ·exact no c hw⟩
  have ht:(Zbu (Zbv (Zbt D aW true) (ZbX m (0 + 4) (Zs 0 (0 + 4)) aW n) (ZT n)) (Zbw (Zbt D aW true) (ZbX m (0 + 4) (Zs 0 (0 + 4)) aW n) (ZT n))).t = ZT n:=by
   rw[Zif]
   show (if Zbw (Zbt D aW true) (ZbX m (0 + 4) (Zs 0 (0 + 4)) aW n) (ZT n) = 0 then _ else _:ByteArray) = _
   rw[if_pos e0]
   exact ZvE _
  have RD1:=y2.d
  rw[ht] at RD1
  have Rw:RW (Zd9 (Zbt D aW true) (ZbX m (0 + 4) (Zs 0 (0 + 4)) aW n) (ZT n)) { ZbX m (0 + 4) (Zs 0 (0 + 4)) aW n with t:=ZT n} (dD (dD E aW) aW) { ZmP m (0 + 4) (Zs 0 (0 + 4)) aW n with t:=ZT n}:=
   ⟨⟨RD1,rfl,rfl,rfl,rfl,rfl,rfl,rfl,rfl,ZdL⟩,rfl,rfl,by show 0#32 = Zbd 0#32 (Z7 []);decide⟩
  have Ft:Fit { ZbX m (0 + 4) (Zs 0 (0 + 4)) aW n with t:=ZT n} n 0:=
   ⟨⟨ZdL,by show aW.size≤100;decide,by show 1≤n;omega,by show n≤64;omega,by show (0:Nat)≤4;omega,(fun s hs=>by cases hs),by show (ZT n).size≤_;rw[Zfy];omega,fun _=>by show (4:Int)≤0 + 4;omega,by show (0:Int) + 4≤_;omega⟩,
     ⟨by show (0:Int)≤0;omega,by show (0:Int)≤((ZT n).size:Int);omega⟩,by show (0:Nat) < 4;omega,by show (0:Nat)≤0;omega,by show (ZT n).size≤_;rw[Zfy];omega,rfl,rfl⟩
  exact mk _ _ 0 false g3 g4 (0 + 4) _ _ p q rfl rfl Bo.W.B Bo.V.B (Z1z (LW:=⟨d,mb,b,wp⟩) (LV:=⟨y,h.length,wp'⟩) hL h30 h80 drop ss.length 0 g4 _ _ _ _ _ _ (by omega) Bo Rw Ft (fun s hs=>by cases hs))
theorem Zv7 {m:Int} (hm:m < 0) (h:Za):Zhx m h = some (.lit (.pointer none),h):=by
 rw[Zxf]
 exact cT (decide_eq_true hm) rfl
theorem Z1x {l1:AVal} {ss:List ByteArray} (hL:∀ g,Sl 1 g l1 ss.length (ZX ss)) {size room m fuse:Int} {drop:Bool} (hm:m≤9223372036854775807) (hf:fuse≤9223372036854775807) (h:Za):
  Tru (Zsx size l1 room m fuse drop h):=by
 obtain ⟨b,e0,hb⟩:=Z0X (hL h)
 rw[Z83]
 refine .bd e0 (.bd rfl ?_)
 cases b with
 |false=>exact .cT rfl .here
 |true=>
 obtain ⟨h30,h80⟩:=hb rfl
 refine .cF rfl ?_
 by_cases hr:room < 0∨16777216 < room
 ·refine .bd (Z1Y h hr) (.bd rfl (.bd rfl (.bd rfl (.bd (Z36 hr h) ?_))))
  have bad:∀ (b16:AVal) (g:Za),AVal.isNil .ptr b16 = some (decide (m < 0))→Tru (ZnK size l1 m fuse drop (.lit (.pointer none)) 1 (.lit (.pointer none)) b16 true g):=fun b16 g hb16=>by
   rw[Zsw]
   refine .cT rfl ?_
   rw[Zsu]
   exact .cT rfl (Zuo rfl hb16)
  by_cases hm0:m < 0
  ·exact .bd (Zv7 hm0 h) (.cT rfl (bad _ _ (by rw[decide_eq_true hm0];rfl)))
  ·exact .bd (Zrd (by omega) h) (.cT rfl (bad _ _ (by rw[decide_eq_false hm0];rfl)))
 ·obtain ⟨g1,e1,A1,k1,l1'⟩:=Zu9 h (room:=room) (by omega) (by omega)
  obtain ⟨g2,e2,V2,G2⟩:=Z35 (room:=room) (by omega) (by omega) g1
  refine .bd e1 (.bd rfl (.bd rfl (.bd rfl (.bd e2 ?_))))
  by_cases hm0:m < 0
  ·refine .bd (Zv7 hm0 g2) (.cF rfl (.bd (a:=true) rfl ?_))
   rw[Zsw]
   refine .cT rfl ?_
   rw[Zsu]
   exact .cT rfl (Zuo rfl (by rw[decide_eq_true hm0];rfl))
  ·refine .bd (Zrd (by omega) g2) (.cF rfl (.bd (a:=false) rfl ?_))
   rw[Zsw]
   refine .cF rfl (.bd (a:=false) rfl ?_)
   rw[Zsu]
   refine .cF rfl (.bd (a:=false) rfl ?_)
   have ly:=ZB V2.dcs
   have l2:=G2.len
   have G3:Grow g2 (psh g2 (.cells (Zbl m 0 0))):=(Grow.refl g2).psh _
   have A3:DiskAt (psh g2 (.cells (Zbl m 0 0))) (h.length + 1) h.length (Ze4 room) []:=(A1.keep G2 ⟨by omega,by simp⟩ ⟨by omega,by simp⟩).keep G3 ⟨by omega,by simp⟩ ⟨by omega,by simp⟩
   have V3:DDAt (psh g2 (.cells (Zbl m 0 0))) g1.length ⟨room, -1,false,0⟩ (.lit (.slice none 0 0)) []:=⟨G3.cells V2.dcs,Own.nil _ _,fun hb=>by obtain ⟨_,_,_,e⟩:=hb;cases e⟩
   exact Z1y hL h30 h80 drop A3 V3 (ZU g2 _) ⟨by omega,by omega,by omega,by omega,by omega⟩ ⟨by omega,by omega⟩ ⟨by omega,hm⟩ hf
theorem writerPlays {H:Type} {d1:DataW H} {size room m fuse:Int} {drop:Bool} (um:m≤IntKind.i64.max) (uf:fuse≤IntKind.i64.max) (f1:ZcT (.slice .str) d1):
  ACalls Tryz.prog 4 [.lit (.int .i64 size),(Zb0 d1).headD .any,.lit (.int .i64 room),.lit (.int .i64 m),.lit (.int .i64 fuse),.lit (.bool drop)] [] fun e h'=>e = .ret (.lit (.bool true))∧True:=by
 have hmax:IntKind.i64.max = 9223372036854775807:=by decide
 obtain ⟨l,S1⟩:=Z3i f1 []
 obtain ⟨h',hx⟩:=Z1x (size:=size) (room:=room) (m:=m) (fuse:=fuse) (drop:=drop) S1.everywhere (by omega) (by omega) []
 exact Z84 hx fun hok _=>ZqL (L:=h') hok rfl ⟨rfl,trivial⟩
end Go.Proofs.YtogaiomakhapmaaGreat.AL
namespace Go.Proofs.YtogaiomakhapmaaGreat.AL
open Go
theorem ts3:Zx Tryz.prog 3 = some 1:=by kernel_rfl
theorem tb3:ZK Tryz.prog 3 = some 8:=by kernel_rfl
theorem tg3:Zy Tryz.prog 3 = some false:=by kernel_rfl
theorem tz3:Z5 Tryz.prog 3 = some (.lit (.int .i64 0)):=by kernel_rfl
theorem ta3:Z9 Tryz.prog 3 = none:=by kernel_rfl
theorem tl3:Z3 Tryz.prog 3 = none:=by kernel_rfl
theorem ti3:ZD Tryz.prog 3 = some .i64:=by kernel_rfl
theorem tt3:ZG Tryz.prog 3 = false:=by kernel_rfl
theorem tq3:ZQ Tryz.prog 3 = false:=by kernel_rfl
theorem tn3:ZJ Tryz.prog 3 = none:=by kernel_rfl
theorem tp3:ZI Tryz.prog 3 = none:=by kernel_rfl
theorem tu3:Tryz.prog.underlying 3 = some (.int .i64):=by kernel_rfl
theorem ts4:Zx Tryz.prog 4 = some 1:=by kernel_rfl
theorem tb4:ZK Tryz.prog 4 = some 1:=by kernel_rfl
theorem tg4:Zy Tryz.prog 4 = some false:=by kernel_rfl
theorem tz4:Z5 Tryz.prog 4 = some (.lit (.bool false)):=by kernel_rfl
theorem ta4:Z9 Tryz.prog 4 = none:=by kernel_rfl
theorem tl4:Z3 Tryz.prog 4 = none:=by kernel_rfl
theorem ti4:ZD Tryz.prog 4 = none:=by kernel_rfl
theorem tt4:ZG Tryz.prog 4 = false:=by kernel_rfl
theorem tq4:ZQ Tryz.prog 4 = true:=by kernel_rfl
theorem tn4:ZJ Tryz.prog 4 = none:=by kernel_rfl
theorem tp4:ZI Tryz.prog 4 = none:=by kernel_rfl
theorem tu4:Tryz.prog.underlying 4 = some .bool:=by kernel_rfl
theorem ts5:Zx Tryz.prog 5 = some 1:=by kernel_rfl
theorem tb5:ZK Tryz.prog 5 = some 1:=by kernel_rfl
theorem tg5:Zy Tryz.prog 5 = some false:=by kernel_rfl
theorem tz5:Z5 Tryz.prog 5 = some (.lit (.int .u8 0)):=by kernel_rfl
theorem ta5:Z9 Tryz.prog 5 = none:=by kernel_rfl
theorem tl5:Z3 Tryz.prog 5 = none:=by kernel_rfl
theorem ti5:ZD Tryz.prog 5 = some .u8:=by kernel_rfl
theorem tt5:ZG Tryz.prog 5 = false:=by kernel_rfl
theorem tq5:ZQ Tryz.prog 5 = false:=by kernel_rfl
theorem tn5:ZJ Tryz.prog 5 = none:=by kernel_rfl
theorem tp5:ZI Tryz.prog 5 = none:=by kernel_rfl
theorem tu5:Tryz.prog.underlying 5 = some (.int .u8):=by kernel_rfl
theorem ts9:Zx Tryz.prog 9 = some 1:=by kernel_rfl
theorem tb9:ZK Tryz.prog 9 = some 16:=by kernel_rfl
theorem tg9:Zy Tryz.prog 9 = some false:=by kernel_rfl
theorem tz9:Z5 Tryz.prog 9 = some (.lit (.string { data:=#[]})):=by kernel_rfl
theorem ta9:Z9 Tryz.prog 9 = none:=by kernel_rfl
theorem tl9:Z3 Tryz.prog 9 = none:=by kernel_rfl
theorem ti9:ZD Tryz.prog 9 = none:=by kernel_rfl
theorem tt9:ZG Tryz.prog 9 = true:=by kernel_rfl
theorem tq9:ZQ Tryz.prog 9 = false:=by kernel_rfl
theorem tn9:ZJ Tryz.prog 9 = none:=by kernel_rfl
theorem tp9:ZI Tryz.prog 9 = none:=by kernel_rfl
theorem tu9:Tryz.prog.underlying 9 = some .string:=by kernel_rfl
theorem ts21:Zx Tryz.prog 21 = some 1:=by kernel_rfl
theorem tb21:ZK Tryz.prog 21 = some 4:=by kernel_rfl
theorem tg21:Zy Tryz.prog 21 = some false:=by kernel_rfl
theorem tz21:Z5 Tryz.prog 21 = some (.lit (.int .i32 0)):=by kernel_rfl
theorem ta21:Z9 Tryz.prog 21 = none:=by kernel_rfl
theorem tl21:Z3 Tryz.prog 21 = none:=by kernel_rfl
theorem ti21:ZD Tryz.prog 21 = some .i32:=by kernel_rfl
theorem tt21:ZG Tryz.prog 21 = false:=by kernel_rfl
theorem tq21:ZQ Tryz.prog 21 = false:=by kernel_rfl
theorem tn21:ZJ Tryz.prog 21 = none:=by kernel_rfl
theorem tp21:ZI Tryz.prog 21 = none:=by kernel_rfl
theorem tu21:Tryz.prog.underlying 21 = some (.int .i32):=by kernel_rfl
theorem ts22:Zx Tryz.prog 22 = some 1:=by kernel_rfl
theorem tb22:ZK Tryz.prog 22 = some 24:=by kernel_rfl
theorem tg22:Zy Tryz.prog 22 = some false:=by kernel_rfl
theorem tz22:Z5 Tryz.prog 22 = some (.lit (.slice none 0 0)):=by kernel_rfl
theorem ta22:Z9 Tryz.prog 22 = none:=by kernel_rfl
theorem tl22:Z3 Tryz.prog 22 = some 39:=by kernel_rfl
theorem ti22:ZD Tryz.prog 22 = none:=by kernel_rfl
theorem tt22:ZG Tryz.prog 22 = false:=by kernel_rfl
theorem tq22:ZQ Tryz.prog 22 = false:=by kernel_rfl
theorem tn22:ZJ Tryz.prog 22 = some .slice:=by kernel_rfl
theorem tp22:ZI Tryz.prog 22 = none:=by kernel_rfl
theorem tu22:Tryz.prog.underlying 22 = some (.slice 39):=by kernel_rfl
theorem ts25:Zx Tryz.prog 25 = some 1:=by kernel_rfl
theorem tb25:ZK Tryz.prog 25 = some 8:=by kernel_rfl
theorem tg25:Zy Tryz.prog 25 = some false:=by kernel_rfl
theorem tz25:Z5 Tryz.prog 25 = some (.lit (.pointer none)):=by kernel_rfl
theorem ta25:Z9 Tryz.prog 25 = none:=by kernel_rfl
theorem tl25:Z3 Tryz.prog 25 = none:=by kernel_rfl
theorem ti25:ZD Tryz.prog 25 = none:=by kernel_rfl
theorem tt25:ZG Tryz.prog 25 = false:=by kernel_rfl
theorem tq25:ZQ Tryz.prog 25 = false:=by kernel_rfl
theorem tn25:ZJ Tryz.prog 25 = some .ptr:=by kernel_rfl
theorem tp25:ZI Tryz.prog 25 = none:=by kernel_rfl
theorem tu25:Tryz.prog.underlying 25 = some (.pointer 79):=by kernel_rfl
theorem ts26:Zx Tryz.prog 26 = some 1:=by kernel_rfl
theorem tb26:ZK Tryz.prog 26 = some 8:=by kernel_rfl
theorem tg26:Zy Tryz.prog 26 = some false:=by kernel_rfl
theorem tz26:Z5 Tryz.prog 26 = some (.lit (.int .i64 0)):=by kernel_rfl
theorem ta26:Z9 Tryz.prog 26 = none:=by kernel_rfl
theorem tl26:Z3 Tryz.prog 26 = none:=by kernel_rfl
theorem ti26:ZD Tryz.prog 26 = some .i64:=by kernel_rfl
theorem tt26:ZG Tryz.prog 26 = false:=by kernel_rfl
theorem tq26:ZQ Tryz.prog 26 = false:=by kernel_rfl
theorem tn26:ZJ Tryz.prog 26 = none:=by kernel_rfl
theorem tp26:ZI Tryz.prog 26 = none:=by kernel_rfl
theorem tu26:Tryz.prog.underlying 26 = some (.int .i64):=by kernel_rfl
theorem ts29:Zx Tryz.prog 29 = some 1:=by kernel_rfl
theorem tb29:ZK Tryz.prog 29 = some 8:=by kernel_rfl
theorem tg29:Zy Tryz.prog 29 = some false:=by kernel_rfl
theorem tz29:Z5 Tryz.prog 29 = some (.lit (.pointer none)):=by kernel_rfl
theorem ta29:Z9 Tryz.prog 29 = none:=by kernel_rfl
theorem tl29:Z3 Tryz.prog 29 = none:=by kernel_rfl
theorem ti29:ZD Tryz.prog 29 = none:=by kernel_rfl
theorem tt29:ZG Tryz.prog 29 = false:=by kernel_rfl
theorem tq29:ZQ Tryz.prog 29 = false:=by kernel_rfl
theorem tn29:ZJ Tryz.prog 29 = some .ptr:=by kernel_rfl
theorem tp29:ZI Tryz.prog 29 = none:=by kernel_rfl
theorem tu29:Tryz.prog.underlying 29 = some (.pointer 45):=by kernel_rfl
theorem ts34:Zx Tryz.prog 34 = some 1:=by kernel_rfl
theorem tb34:ZK Tryz.prog 34 = some 24:=by kernel_rfl
theorem tg34:Zy Tryz.prog 34 = some false:=by kernel_rfl
theorem tz34:Z5 Tryz.prog 34 = some (.lit (.slice none 0 0)):=by kernel_rfl
theorem ta34:Z9 Tryz.prog 34 = none:=by kernel_rfl
theorem tl34:Z3 Tryz.prog 34 = some 99:=by kernel_rfl
theorem ti34:ZD Tryz.prog 34 = none:=by kernel_rfl
theorem tt34:ZG Tryz.prog 34 = false:=by kernel_rfl
theorem tq34:ZQ Tryz.prog 34 = false:=by kernel_rfl
theorem tn34:ZJ Tryz.prog 34 = some .slice:=by kernel_rfl
theorem tp34:ZI Tryz.prog 34 = none:=by kernel_rfl
theorem tu34:Tryz.prog.underlying 34 = some (.slice 99):=by kernel_rfl
theorem ts36:Zx Tryz.prog 36 = some 3:=by kernel_rfl
theorem tb36:ZK Tryz.prog 36 = some 40:=by kernel_rfl
theorem tg36:Zy Tryz.prog 36 = some true:=by kernel_rfl
theorem tz36:Z5 Tryz.prog 36 = some (.agg [.lit (.int .i64 0),.lit (.int .i64 0),.lit (.slice none 0 0)]):=by kernel_rfl
theorem ta36:Z9 Tryz.prog 36 = none:=by kernel_rfl
theorem tl36:Z3 Tryz.prog 36 = none:=by kernel_rfl
theorem ti36:ZD Tryz.prog 36 = none:=by kernel_rfl
theorem tt36:ZG Tryz.prog 36 = false:=by kernel_rfl
theorem tq36:ZQ Tryz.prog 36 = false:=by kernel_rfl
theorem tn36:ZJ Tryz.prog 36 = none:=by kernel_rfl
theorem tf36_0:ZC Tryz.prog 36 0 = some (0,3):=by kernel_rfl
theorem tf36_1:ZC Tryz.prog 36 1 = some (1,3):=by kernel_rfl
theorem tf36_2:ZC Tryz.prog 36 2 = some (2,34):=by kernel_rfl
theorem tp36:ZI Tryz.prog 36 = some [(0,1),(1,1),(2,1)]:=by kernel_rfl
theorem ts37:Zx Tryz.prog 37 = some 1:=by kernel_rfl
theorem tb37:ZK Tryz.prog 37 = some 24:=by kernel_rfl
theorem tg37:Zy Tryz.prog 37 = some false:=by kernel_rfl
theorem tz37:Z5 Tryz.prog 37 = some (.lit (.slice none 0 0)):=by kernel_rfl
theorem ta37:Z9 Tryz.prog 37 = none:=by kernel_rfl
theorem tl37:Z3 Tryz.prog 37 = some 3:=by kernel_rfl
theorem ti37:ZD Tryz.prog 37 = none:=by kernel_rfl
theorem tt37:ZG Tryz.prog 37 = false:=by kernel_rfl
theorem tq37:ZQ Tryz.prog 37 = false:=by kernel_rfl
theorem tn37:ZJ Tryz.prog 37 = some .slice:=by kernel_rfl
theorem tp37:ZI Tryz.prog 37 = none:=by kernel_rfl
theorem tu37:Tryz.prog.underlying 37 = some (.slice 3):=by kernel_rfl
theorem ts39:Zx Tryz.prog 39 = some 5:=by kernel_rfl
theorem tb39:ZK Tryz.prog 39 = some 72:=by kernel_rfl
theorem tg39:Zy Tryz.prog 39 = some true:=by kernel_rfl
theorem tz39:Z5 Tryz.prog 39 = some (.agg [.lit (.int .i64 0),.lit (.int .i64 0),.lit (.slice none 0 0),.lit (.int .i64 0),.lit (.slice none 0 0)]):=by kernel_rfl
theorem ta39:Z9 Tryz.prog 39 = none:=by kernel_rfl
theorem tl39:Z3 Tryz.prog 39 = none:=by kernel_rfl
theorem ti39:ZD Tryz.prog 39 = none:=by kernel_rfl
theorem tt39:ZG Tryz.prog 39 = false:=by kernel_rfl
theorem tq39:ZQ Tryz.prog 39 = false:=by kernel_rfl
theorem tn39:ZJ Tryz.prog 39 = none:=by kernel_rfl
theorem tf39_0:ZC Tryz.prog 39 0 = some (0,36):=by kernel_rfl
theorem tf39_1:ZC Tryz.prog 39 1 = some (3,3):=by kernel_rfl
theorem tf39_2:ZC Tryz.prog 39 2 = some (4,37):=by kernel_rfl
theorem tp39:ZI Tryz.prog 39 = some [(0,3),(3,1),(4,1)]:=by kernel_rfl
theorem ts43:Zx Tryz.prog 43 = some 1:=by kernel_rfl
theorem tb43:ZK Tryz.prog 43 = some 24:=by kernel_rfl
theorem tg43:Zy Tryz.prog 43 = some false:=by kernel_rfl
theorem tz43:Z5 Tryz.prog 43 = some (.lit (.slice none 0 0)):=by kernel_rfl
theorem ta43:Z9 Tryz.prog 43 = none:=by kernel_rfl
theorem tl43:Z3 Tryz.prog 43 = some 88:=by kernel_rfl
theorem ti43:ZD Tryz.prog 43 = none:=by kernel_rfl
theorem tt43:ZG Tryz.prog 43 = false:=by kernel_rfl
theorem tq43:ZQ Tryz.prog 43 = false:=by kernel_rfl
theorem tn43:ZJ Tryz.prog 43 = some .slice:=by kernel_rfl
theorem tp43:ZI Tryz.prog 43 = none:=by kernel_rfl
theorem tu43:Tryz.prog.underlying 43 = some (.slice 88):=by kernel_rfl
theorem ts45:Zx Tryz.prog 45 = some 5:=by kernel_rfl
theorem tb45:ZK Tryz.prog 45 = some 56:=by kernel_rfl
theorem tg45:Zy Tryz.prog 45 = some true:=by kernel_rfl
theorem tz45:Z5 Tryz.prog 45 = some (.agg [.lit (.int .i64 0),.lit (.slice none 0 0),.lit (.int .i64 0),.lit (.bool false),.lit (.int .i64 0)]):=by kernel_rfl
theorem ta45:Z9 Tryz.prog 45 = none:=by kernel_rfl
theorem tl45:Z3 Tryz.prog 45 = none:=by kernel_rfl
theorem ti45:ZD Tryz.prog 45 = none:=by kernel_rfl
theorem tt45:ZG Tryz.prog 45 = false:=by kernel_rfl
theorem tq45:ZQ Tryz.prog 45 = false:=by kernel_rfl
theorem tn45:ZJ Tryz.prog 45 = none:=by kernel_rfl
theorem tf45_0:ZC Tryz.prog 45 0 = some (0,3):=by kernel_rfl
theorem tf45_1:ZC Tryz.prog 45 1 = some (1,43):=by kernel_rfl
theorem tf45_2:ZC Tryz.prog 45 2 = some (2,3):=by kernel_rfl
theorem tf45_3:ZC Tryz.prog 45 3 = some (3,4):=by kernel_rfl
theorem tf45_4:ZC Tryz.prog 45 4 = some (4,3):=by kernel_rfl
theorem tp45:ZI Tryz.prog 45 = some [(0,1),(1,1),(2,1),(3,1),(4,1)]:=by kernel_rfl
theorem ts52:Zx Tryz.prog 52 = some 1:=by kernel_rfl
theorem tb52:ZK Tryz.prog 52 = some 24:=by kernel_rfl
theorem tg52:Zy Tryz.prog 52 = some false:=by kernel_rfl
theorem tz52:Z5 Tryz.prog 52 = some (.lit (.slice none 0 0)):=by kernel_rfl
theorem ta52:Z9 Tryz.prog 52 = none:=by kernel_rfl
theorem tl52:Z3 Tryz.prog 52 = some 9:=by kernel_rfl
theorem ti52:ZD Tryz.prog 52 = none:=by kernel_rfl
theorem tt52:ZG Tryz.prog 52 = false:=by kernel_rfl
theorem tq52:ZQ Tryz.prog 52 = false:=by kernel_rfl
theorem tn52:ZJ Tryz.prog 52 = some .slice:=by kernel_rfl
theorem tp52:ZI Tryz.prog 52 = none:=by kernel_rfl
theorem tu52:Tryz.prog.underlying 52 = some (.slice 9):=by kernel_rfl
theorem ts54:Zx Tryz.prog 54 = some 1:=by kernel_rfl
theorem tb54:ZK Tryz.prog 54 = some 8:=by kernel_rfl
theorem tg54:Zy Tryz.prog 54 = some false:=by kernel_rfl
theorem tz54:Z5 Tryz.prog 54 = some (.lit (.pointer none)):=by kernel_rfl
theorem ta54:Z9 Tryz.prog 54 = none:=by kernel_rfl
theorem tl54:Z3 Tryz.prog 54 = none:=by kernel_rfl
theorem ti54:ZD Tryz.prog 54 = none:=by kernel_rfl
theorem tt54:ZG Tryz.prog 54 = false:=by kernel_rfl
theorem tq54:ZQ Tryz.prog 54 = false:=by kernel_rfl
theorem tn54:ZJ Tryz.prog 54 = some .ptr:=by kernel_rfl
theorem tp54:ZI Tryz.prog 54 = none:=by kernel_rfl
theorem tu54:Tryz.prog.underlying 54 = some (.pointer 107):=by kernel_rfl
theorem ts56:Zx Tryz.prog 56 = some 1:=by kernel_rfl
theorem tb56:ZK Tryz.prog 56 = some 8:=by kernel_rfl
theorem tg56:Zy Tryz.prog 56 = some false:=by kernel_rfl
theorem tz56:Z5 Tryz.prog 56 = some (.lit (.pointer none)):=by kernel_rfl
theorem ta56:Z9 Tryz.prog 56 = none:=by kernel_rfl
theorem tl56:Z3 Tryz.prog 56 = none:=by kernel_rfl
theorem ti56:ZD Tryz.prog 56 = none:=by kernel_rfl
theorem tt56:ZG Tryz.prog 56 = false:=by kernel_rfl
theorem tq56:ZQ Tryz.prog 56 = false:=by kernel_rfl
theorem tn56:ZJ Tryz.prog 56 = some .ptr:=by kernel_rfl
theorem tp56:ZI Tryz.prog 56 = none:=by kernel_rfl
theorem tu56:Tryz.prog.underlying 56 = some (.pointer 58):=by kernel_rfl
theorem ts58:Zx Tryz.prog 58 = some 3:=by kernel_rfl
theorem tb58:ZK Tryz.prog 58 = some 24:=by kernel_rfl
theorem tg58:Zy Tryz.prog 58 = some true:=by kernel_rfl
theorem tz58:Z5 Tryz.prog 58 = some (.agg [.lit (.int .i64 0),.lit (.int .i64 0),.lit (.int .i64 0)]):=by kernel_rfl
theorem ta58:Z9 Tryz.prog 58 = none:=by kernel_rfl
theorem tl58:Z3 Tryz.prog 58 = none:=by kernel_rfl
theorem ti58:ZD Tryz.prog 58 = none:=by kernel_rfl
theorem tt58:ZG Tryz.prog 58 = false:=by kernel_rfl
theorem tq58:ZQ Tryz.prog 58 = false:=by kernel_rfl
theorem tn58:ZJ Tryz.prog 58 = none:=by kernel_rfl
theorem tf58_0:ZC Tryz.prog 58 0 = some (0,3):=by kernel_rfl
theorem tf58_1:ZC Tryz.prog 58 1 = some (1,3):=by kernel_rfl
theorem tf58_2:ZC Tryz.prog 58 2 = some (2,3):=by kernel_rfl
theorem tp58:ZI Tryz.prog 58 = some [(0,1),(1,1),(2,1)]:=by kernel_rfl
theorem tv58:Zco Tryz.prog 20 58 = some [.int,.int,.int]:=by kernel_rfl
theorem te58:Tryz.prog.eqGuardType Tryz.prog.depth 58 = false:=by kernel_rfl
theorem ts59:Zx Tryz.prog 59 = some 1:=by kernel_rfl
theorem tb59:ZK Tryz.prog 59 = some 8:=by kernel_rfl
theorem tg59:Zy Tryz.prog 59 = some false:=by kernel_rfl
theorem tz59:Z5 Tryz.prog 59 = some (.lit (.pointer none)):=by kernel_rfl
theorem ta59:Z9 Tryz.prog 59 = none:=by kernel_rfl
theorem tl59:Z3 Tryz.prog 59 = none:=by kernel_rfl
theorem ti59:ZD Tryz.prog 59 = none:=by kernel_rfl
theorem tt59:ZG Tryz.prog 59 = false:=by kernel_rfl
theorem tq59:ZQ Tryz.prog 59 = false:=by kernel_rfl
theorem tn59:ZJ Tryz.prog 59 = some .ptr:=by kernel_rfl
theorem tp59:ZI Tryz.prog 59 = none:=by kernel_rfl
theorem tu59:Tryz.prog.underlying 59 = some (.pointer 104):=by kernel_rfl
theorem ts62:Zx Tryz.prog 62 = some 1:=by kernel_rfl
theorem tb62:ZK Tryz.prog 62 = some 8:=by kernel_rfl
theorem tg62:Zy Tryz.prog 62 = some false:=by kernel_rfl
theorem tz62:Z5 Tryz.prog 62 = some (.lit (.pointer none)):=by kernel_rfl
theorem ta62:Z9 Tryz.prog 62 = none:=by kernel_rfl
theorem tl62:Z3 Tryz.prog 62 = none:=by kernel_rfl
theorem ti62:ZD Tryz.prog 62 = none:=by kernel_rfl
theorem tt62:ZG Tryz.prog 62 = false:=by kernel_rfl
theorem tq62:ZQ Tryz.prog 62 = false:=by kernel_rfl
theorem tn62:ZJ Tryz.prog 62 = some .ptr:=by kernel_rfl
theorem tp62:ZI Tryz.prog 62 = none:=by kernel_rfl
theorem tu62:Tryz.prog.underlying 62 = some (.pointer 111):=by kernel_rfl
theorem ts65:Zx Tryz.prog 65 = some 1:=by kernel_rfl
theorem tb65:ZK Tryz.prog 65 = some 4:=by kernel_rfl
theorem tg65:Zy Tryz.prog 65 = some false:=by kernel_rfl
theorem tz65:Z5 Tryz.prog 65 = some (.lit (.int .u32 0)):=by kernel_rfl
theorem ta65:Z9 Tryz.prog 65 = none:=by kernel_rfl
theorem tl65:Z3 Tryz.prog 65 = none:=by kernel_rfl
theorem ti65:ZD Tryz.prog 65 = some .u32:=by kernel_rfl
theorem tt65:ZG Tryz.prog 65 = false:=by kernel_rfl
theorem tq65:ZQ Tryz.prog 65 = false:=by kernel_rfl
theorem tn65:ZJ Tryz.prog 65 = none:=by kernel_rfl
theorem tp65:ZI Tryz.prog 65 = none:=by kernel_rfl
theorem tu65:Tryz.prog.underlying 65 = some (.int .u32):=by kernel_rfl
theorem ts67:Zx Tryz.prog 67 = some 2:=by kernel_rfl
theorem tb67:ZK Tryz.prog 67 = some 16:=by kernel_rfl
theorem tg67:Zy Tryz.prog 67 = some true:=by kernel_rfl
theorem tz67:Z5 Tryz.prog 67 = some (.agg [.lit (.int .i64 0),.lit (.int .u32 0)]):=by kernel_rfl
theorem ta67:Z9 Tryz.prog 67 = none:=by kernel_rfl
theorem tl67:Z3 Tryz.prog 67 = none:=by kernel_rfl
theorem ti67:ZD Tryz.prog 67 = none:=by kernel_rfl
theorem tt67:ZG Tryz.prog 67 = false:=by kernel_rfl
theorem tq67:ZQ Tryz.prog 67 = false:=by kernel_rfl
theorem tn67:ZJ Tryz.prog 67 = none:=by kernel_rfl
theorem tf67_0:ZC Tryz.prog 67 0 = some (0,3):=by kernel_rfl
theorem tf67_1:ZC Tryz.prog 67 1 = some (1,65):=by kernel_rfl
theorem tp67:ZI Tryz.prog 67 = some [(0,1),(1,1)]:=by kernel_rfl
theorem tv67:Zco Tryz.prog 20 67 = some [.int,.int]:=by kernel_rfl
theorem te67:Tryz.prog.eqGuardType Tryz.prog.depth 67 = false:=by kernel_rfl
theorem ts77:Zx Tryz.prog 77 = some 1:=by kernel_rfl
theorem tb77:ZK Tryz.prog 77 = some 8:=by kernel_rfl
theorem tg77:Zy Tryz.prog 77 = some false:=by kernel_rfl
theorem tz77:Z5 Tryz.prog 77 = some (.lit (.map none)):=by kernel_rfl
theorem ta77:Z9 Tryz.prog 77 = none:=by kernel_rfl
theorem tl77:Z3 Tryz.prog 77 = none:=by kernel_rfl
theorem ti77:ZD Tryz.prog 77 = none:=by kernel_rfl
theorem tt77:ZG Tryz.prog 77 = false:=by kernel_rfl
theorem tq77:ZQ Tryz.prog 77 = false:=by kernel_rfl
theorem tn77:ZJ Tryz.prog 77 = some .map:=by kernel_rfl
theorem tp77:ZI Tryz.prog 77 = none:=by kernel_rfl
theorem ts79:Zx Tryz.prog 79 = some 7:=by kernel_rfl
theorem tb79:ZK Tryz.prog 79 = some 56:=by kernel_rfl
theorem tg79:Zy Tryz.prog 79 = some true:=by kernel_rfl
theorem tz79:Z5 Tryz.prog 79 = some (.agg [.lit (.bool false),.lit (.int .i64 0),.lit (.int .i64 0),.lit (.map none),.lit (.int .i64 0),.lit (.bool false),.lit (.int .i64 0)]):=by kernel_rfl
theorem ta79:Z9 Tryz.prog 79 = none:=by kernel_rfl
theorem tl79:Z3 Tryz.prog 79 = none:=by kernel_rfl
theorem ti79:ZD Tryz.prog 79 = none:=by kernel_rfl
theorem tt79:ZG Tryz.prog 79 = false:=by kernel_rfl
theorem tq79:ZQ Tryz.prog 79 = false:=by kernel_rfl
theorem tn79:ZJ Tryz.prog 79 = none:=by kernel_rfl
theorem tf79_0:ZC Tryz.prog 79 0 = some (0,4):=by kernel_rfl
theorem tf79_1:ZC Tryz.prog 79 1 = some (1,3):=by kernel_rfl
theorem tf79_2:ZC Tryz.prog 79 2 = some (2,3):=by kernel_rfl
theorem tf79_3:ZC Tryz.prog 79 3 = some (3,77):=by kernel_rfl
theorem tf79_4:ZC Tryz.prog 79 4 = some (4,3):=by kernel_rfl
theorem tf79_5:ZC Tryz.prog 79 5 = some (5,4):=by kernel_rfl
theorem tf79_6:ZC Tryz.prog 79 6 = some (6,3):=by kernel_rfl
theorem tp79:ZI Tryz.prog 79 = some [(0,1),(1,1),(2,1),(3,1),(4,1),(5,1),(6,1)]:=by kernel_rfl
theorem ts81:Zx Tryz.prog 81 = some 2:=by kernel_rfl
theorem tb81:ZK Tryz.prog 81 = some 24:=by kernel_rfl
theorem tg81:Zy Tryz.prog 81 = some true:=by kernel_rfl
theorem tz81:Z5 Tryz.prog 81 = some (.agg [.lit (.string { data:=#[]}),.lit (.int .i64 0)]):=by kernel_rfl
theorem ta81:Z9 Tryz.prog 81 = none:=by kernel_rfl
theorem tl81:Z3 Tryz.prog 81 = none:=by kernel_rfl
theorem ti81:ZD Tryz.prog 81 = none:=by kernel_rfl
theorem tt81:ZG Tryz.prog 81 = false:=by kernel_rfl
theorem tq81:ZQ Tryz.prog 81 = false:=by kernel_rfl
theorem tn81:ZJ Tryz.prog 81 = none:=by kernel_rfl
theorem tf81_0:ZC Tryz.prog 81 0 = some (0,9):=by kernel_rfl
theorem tf81_1:ZC Tryz.prog 81 1 = some (1,3):=by kernel_rfl
theorem tp81:ZI Tryz.prog 81 = some [(0,1),(1,1)]:=by kernel_rfl
theorem tv81:Zco Tryz.prog 20 81 = some [.str,.int]:=by kernel_rfl
theorem te81:Tryz.prog.eqGuardType Tryz.prog.depth 81 = false:=by kernel_rfl
theorem ts85:Zx Tryz.prog 85 = some 1:=by kernel_rfl
theorem tb85:ZK Tryz.prog 85 = some 8:=by kernel_rfl
theorem tg85:Zy Tryz.prog 85 = some false:=by kernel_rfl
theorem tz85:Z5 Tryz.prog 85 = some (.lit (.nilFunc)):=by kernel_rfl
theorem ta85:Z9 Tryz.prog 85 = none:=by kernel_rfl
theorem tl85:Z3 Tryz.prog 85 = none:=by kernel_rfl
theorem ti85:ZD Tryz.prog 85 = none:=by kernel_rfl
theorem tt85:ZG Tryz.prog 85 = false:=by kernel_rfl
theorem tq85:ZQ Tryz.prog 85 = false:=by kernel_rfl
theorem tn85:ZJ Tryz.prog 85 = some .func:=by kernel_rfl
theorem tp85:ZI Tryz.prog 85 = none:=by kernel_rfl
theorem ts88:Zx Tryz.prog 88 = some 3:=by kernel_rfl
theorem tb88:ZK Tryz.prog 88 = some 40:=by kernel_rfl
theorem tg88:Zy Tryz.prog 88 = some true:=by kernel_rfl
theorem tz88:Z5 Tryz.prog 88 = some (.agg [.lit (.string { data:=#[]}),.lit (.string { data:=#[]}),.lit (.int .i64 0)]):=by kernel_rfl
theorem ta88:Z9 Tryz.prog 88 = none:=by kernel_rfl
theorem tl88:Z3 Tryz.prog 88 = none:=by kernel_rfl
theorem ti88:ZD Tryz.prog 88 = none:=by kernel_rfl
theorem tt88:ZG Tryz.prog 88 = false:=by kernel_rfl
theorem tq88:ZQ Tryz.prog 88 = false:=by kernel_rfl
theorem tn88:ZJ Tryz.prog 88 = none:=by kernel_rfl
theorem tf88_0:ZC Tryz.prog 88 0 = some (0,9):=by kernel_rfl
theorem tf88_1:ZC Tryz.prog 88 1 = some (1,9):=by kernel_rfl
theorem tf88_2:ZC Tryz.prog 88 2 = some (2,3):=by kernel_rfl
theorem tp88:ZI Tryz.prog 88 = some [(0,1),(1,1),(2,1)]:=by kernel_rfl
theorem tv88:Zco Tryz.prog 20 88 = some [.str,.str,.int]:=by kernel_rfl
theorem te88:Tryz.prog.eqGuardType Tryz.prog.depth 88 = false:=by kernel_rfl
theorem ts94:Zx Tryz.prog 94 = some 1:=by kernel_rfl
theorem tb94:ZK Tryz.prog 94 = some 8:=by kernel_rfl
theorem tg94:Zy Tryz.prog 94 = some false:=by kernel_rfl
theorem tz94:Z5 Tryz.prog 94 = some (.lit (.nilFunc)):=by kernel_rfl
theorem ta94:Z9 Tryz.prog 94 = none:=by kernel_rfl
theorem tl94:Z3 Tryz.prog 94 = none:=by kernel_rfl
theorem ti94:ZD Tryz.prog 94 = none:=by kernel_rfl
theorem tt94:ZG Tryz.prog 94 = false:=by kernel_rfl
theorem tq94:ZQ Tryz.prog 94 = false:=by kernel_rfl
theorem tn94:ZJ Tryz.prog 94 = some .func:=by kernel_rfl
theorem tp94:ZI Tryz.prog 94 = none:=by kernel_rfl
theorem ts95:Zx Tryz.prog 95 = some 1:=by kernel_rfl
theorem tb95:ZK Tryz.prog 95 = some 24:=by kernel_rfl
theorem tg95:Zy Tryz.prog 95 = some false:=by kernel_rfl
theorem tz95:Z5 Tryz.prog 95 = some (.lit (.slice none 0 0)):=by kernel_rfl
theorem ta95:Z9 Tryz.prog 95 = none:=by kernel_rfl
theorem tl95:Z3 Tryz.prog 95 = some 94:=by kernel_rfl
theorem ti95:ZD Tryz.prog 95 = none:=by kernel_rfl
theorem tt95:ZG Tryz.prog 95 = false:=by kernel_rfl
theorem tq95:ZQ Tryz.prog 95 = false:=by kernel_rfl
theorem tn95:ZJ Tryz.prog 95 = some .slice:=by kernel_rfl
theorem tp95:ZI Tryz.prog 95 = none:=by kernel_rfl
theorem tu95:Tryz.prog.underlying 95 = some (.slice 94):=by kernel_rfl
theorem ts99:Zx Tryz.prog 99 = some 4:=by kernel_rfl
theorem tb99:ZK Tryz.prog 99 = some 40:=by kernel_rfl
theorem tg99:Zy Tryz.prog 99 = some true:=by kernel_rfl
theorem tz99:Z5 Tryz.prog 99 = some (.agg [.lit (.string { data:=#[]}),.lit (.int .i64 0),.lit (.int .i64 0),.lit (.int .u32 0)]):=by kernel_rfl
theorem ta99:Z9 Tryz.prog 99 = none:=by kernel_rfl
theorem tl99:Z3 Tryz.prog 99 = none:=by kernel_rfl
theorem ti99:ZD Tryz.prog 99 = none:=by kernel_rfl
theorem tt99:ZG Tryz.prog 99 = false:=by kernel_rfl
theorem tq99:ZQ Tryz.prog 99 = false:=by kernel_rfl
theorem tn99:ZJ Tryz.prog 99 = none:=by kernel_rfl
theorem tf99_0:ZC Tryz.prog 99 0 = some (0,9):=by kernel_rfl
theorem tf99_1:ZC Tryz.prog 99 1 = some (1,3):=by kernel_rfl
theorem tf99_2:ZC Tryz.prog 99 2 = some (2,3):=by kernel_rfl
theorem tf99_3:ZC Tryz.prog 99 3 = some (3,65):=by kernel_rfl
theorem tp99:ZI Tryz.prog 99 = some [(0,1),(1,1),(2,1),(3,1)]:=by kernel_rfl
theorem tv99:Zco Tryz.prog 20 99 = some [.str,.int,.int,.int]:=by kernel_rfl
theorem te99:Tryz.prog.eqGuardType Tryz.prog.depth 99 = false:=by kernel_rfl
theorem ts102:Zx Tryz.prog 102 = some 2:=by kernel_rfl
theorem tb102:ZK Tryz.prog 102 = some 24:=by kernel_rfl
theorem tg102:Zy Tryz.prog 102 = some true:=by kernel_rfl
theorem tz102:Z5 Tryz.prog 102 = some (.agg [.lit (.pointer none),.lit (.string { data:=#[]})]):=by kernel_rfl
theorem ta102:Z9 Tryz.prog 102 = none:=by kernel_rfl
theorem tl102:Z3 Tryz.prog 102 = none:=by kernel_rfl
theorem ti102:ZD Tryz.prog 102 = none:=by kernel_rfl
theorem tt102:ZG Tryz.prog 102 = false:=by kernel_rfl
theorem tq102:ZQ Tryz.prog 102 = false:=by kernel_rfl
theorem tn102:ZJ Tryz.prog 102 = none:=by kernel_rfl
theorem tf102_0:ZC Tryz.prog 102 0 = some (0,25):=by kernel_rfl
theorem tf102_1:ZC Tryz.prog 102 1 = some (1,9):=by kernel_rfl
theorem tp102:ZI Tryz.prog 102 = some [(0,1),(1,1)]:=by kernel_rfl
theorem ts104:Zx Tryz.prog 104 = some 8:=by kernel_rfl
theorem tb104:ZK Tryz.prog 104 = some 88:=by kernel_rfl
theorem tg104:Zy Tryz.prog 104 = some true:=by kernel_rfl
theorem tz104:Z5 Tryz.prog 104 = some (.agg [.lit (.pointer none),.lit (.string { data:=#[]}),.lit (.pointer none),.lit (.int .i64 0),.lit (.slice none 0 0),.lit (.int .i64 0),.lit (.int .u32 0),.lit (.bool false)]):=by kernel_rfl
theorem ta104:Z9 Tryz.prog 104 = none:=by kernel_rfl
theorem tl104:Z3 Tryz.prog 104 = none:=by kernel_rfl
theorem ti104:ZD Tryz.prog 104 = none:=by kernel_rfl
theorem tt104:ZG Tryz.prog 104 = false:=by kernel_rfl
theorem tq104:ZQ Tryz.prog 104 = false:=by kernel_rfl
theorem tn104:ZJ Tryz.prog 104 = none:=by kernel_rfl
theorem tf104_0:ZC Tryz.prog 104 0 = some (0,102):=by kernel_rfl
theorem tf104_1:ZC Tryz.prog 104 1 = some (2,54):=by kernel_rfl
theorem tf104_2:ZC Tryz.prog 104 2 = some (3,3):=by kernel_rfl
theorem tf104_3:ZC Tryz.prog 104 3 = some (4,52):=by kernel_rfl
theorem tf104_4:ZC Tryz.prog 104 4 = some (5,67):=by kernel_rfl
theorem tf104_5:ZC Tryz.prog 104 5 = some (7,4):=by kernel_rfl
theorem tp104:ZI Tryz.prog 104 = some [(0,2),(2,1),(3,1),(4,1),(5,2),(7,1)]:=by kernel_rfl
theorem ts107:Zx Tryz.prog 107 = some 4:=by kernel_rfl
theorem tb107:ZK Tryz.prog 107 = some 32:=by kernel_rfl
theorem tg107:Zy Tryz.prog 107 = some true:=by kernel_rfl
theorem tz107:Z5 Tryz.prog 107 = some (.agg [.lit (.bool false),.lit (.int .i64 0),.lit (.int .i64 0),.lit (.int .i64 0)]):=by kernel_rfl
theorem ta107:Z9 Tryz.prog 107 = none:=by kernel_rfl
theorem tl107:Z3 Tryz.prog 107 = none:=by kernel_rfl
theorem ti107:ZD Tryz.prog 107 = none:=by kernel_rfl
theorem tt107:ZG Tryz.prog 107 = false:=by kernel_rfl
theorem tq107:ZQ Tryz.prog 107 = false:=by kernel_rfl
theorem tn107:ZJ Tryz.prog 107 = none:=by kernel_rfl
theorem tf107_0:ZC Tryz.prog 107 0 = some (0,4):=by kernel_rfl
theorem tf107_1:ZC Tryz.prog 107 1 = some (1,3):=by kernel_rfl
theorem tf107_2:ZC Tryz.prog 107 2 = some (2,3):=by kernel_rfl
theorem tf107_3:ZC Tryz.prog 107 3 = some (3,3):=by kernel_rfl
theorem tp107:ZI Tryz.prog 107 = some [(0,1),(1,1),(2,1),(3,1)]:=by kernel_rfl
theorem tv107:Zco Tryz.prog 20 107 = some [.bool,.int,.int,.int]:=by kernel_rfl
theorem te107:Tryz.prog.eqGuardType Tryz.prog.depth 107 = false:=by kernel_rfl
theorem ts111:Zx Tryz.prog 111 = some 7:=by kernel_rfl
theorem tb111:ZK Tryz.prog 111 = some 96:=by kernel_rfl
theorem tg111:Zy Tryz.prog 111 = some true:=by kernel_rfl
theorem tz111:Z5 Tryz.prog 111 = some (.agg [.lit (.pointer none),.lit (.pointer none),.lit (.string { data:=#[]}),.lit (.int .i64 0),.lit (.slice none 0 0),.lit (.slice none 0 0),.lit (.bool false)]):=by kernel_rfl
theorem ta111:Z9 Tryz.prog 111 = none:=by kernel_rfl
theorem tl111:Z3 Tryz.prog 111 = none:=by kernel_rfl
theorem ti111:ZD Tryz.prog 111 = none:=by kernel_rfl
theorem tt111:ZG Tryz.prog 111 = false:=by kernel_rfl
theorem tq111:ZQ Tryz.prog 111 = false:=by kernel_rfl
theorem tn111:ZJ Tryz.prog 111 = none:=by kernel_rfl
theorem tf111_0:ZC Tryz.prog 111 0 = some (0,29):=by kernel_rfl
theorem tf111_1:ZC Tryz.prog 111 1 = some (1,56):=by kernel_rfl
theorem tf111_2:ZC Tryz.prog 111 2 = some (2,9):=by kernel_rfl
theorem tf111_3:ZC Tryz.prog 111 3 = some (3,3):=by kernel_rfl
theorem tf111_4:ZC Tryz.prog 111 4 = some (4,52):=by kernel_rfl
theorem tf111_5:ZC Tryz.prog 111 5 = some (5,52):=by kernel_rfl
theorem tf111_6:ZC Tryz.prog 111 6 = some (6,4):=by kernel_rfl
theorem tp111:ZI Tryz.prog 111 = some [(0,1),(1,1),(2,1),(3,1),(4,1),(5,1),(6,1)]:=by kernel_rfl
theorem ts118:Zx Tryz.prog 118 = some 1:=by kernel_rfl
theorem tb118:ZK Tryz.prog 118 = some 8:=by kernel_rfl
theorem tg118:Zy Tryz.prog 118 = some false:=by kernel_rfl
theorem tz118:Z5 Tryz.prog 118 = some (.lit (.pointer none)):=by kernel_rfl
theorem ta118:Z9 Tryz.prog 118 = none:=by kernel_rfl
theorem tl118:Z3 Tryz.prog 118 = none:=by kernel_rfl
theorem ti118:ZD Tryz.prog 118 = none:=by kernel_rfl
theorem tt118:ZG Tryz.prog 118 = false:=by kernel_rfl
theorem tq118:ZQ Tryz.prog 118 = false:=by kernel_rfl
theorem tn118:ZJ Tryz.prog 118 = some .ptr:=by kernel_rfl
theorem tp118:ZI Tryz.prog 118 = none:=by kernel_rfl
theorem tu118:Tryz.prog.underlying 118 = some (.pointer 121):=by kernel_rfl
theorem ts119:Zx Tryz.prog 119 = some 1:=by kernel_rfl
theorem tb119:ZK Tryz.prog 119 = some 24:=by kernel_rfl
theorem tg119:Zy Tryz.prog 119 = some false:=by kernel_rfl
theorem tz119:Z5 Tryz.prog 119 = some (.lit (.slice none 0 0)):=by kernel_rfl
theorem ta119:Z9 Tryz.prog 119 = none:=by kernel_rfl
theorem tl119:Z3 Tryz.prog 119 = some 5:=by kernel_rfl
theorem ti119:ZD Tryz.prog 119 = none:=by kernel_rfl
theorem tt119:ZG Tryz.prog 119 = false:=by kernel_rfl
theorem tq119:ZQ Tryz.prog 119 = false:=by kernel_rfl
theorem tn119:ZJ Tryz.prog 119 = some .slice:=by kernel_rfl
theorem tp119:ZI Tryz.prog 119 = none:=by kernel_rfl
theorem tu119:Tryz.prog.underlying 119 = some (.slice 5):=by kernel_rfl
theorem ts121:Zx Tryz.prog 121 = some 2:=by kernel_rfl
theorem tb121:ZK Tryz.prog 121 = some 32:=by kernel_rfl
theorem tg121:Zy Tryz.prog 121 = some true:=by kernel_rfl
theorem tz121:Z5 Tryz.prog 121 = some (.agg [.lit (.pointer none),.lit (.slice none 0 0)]):=by kernel_rfl
theorem ta121:Z9 Tryz.prog 121 = none:=by kernel_rfl
theorem tl121:Z3 Tryz.prog 121 = none:=by kernel_rfl
theorem ti121:ZD Tryz.prog 121 = none:=by kernel_rfl
theorem tt121:ZG Tryz.prog 121 = false:=by kernel_rfl
theorem tq121:ZQ Tryz.prog 121 = false:=by kernel_rfl
theorem tn121:ZJ Tryz.prog 121 = none:=by kernel_rfl
theorem tf121_0:ZC Tryz.prog 121 0 = some (0,118):=by kernel_rfl
theorem tf121_1:ZC Tryz.prog 121 1 = some (1,119):=by kernel_rfl
theorem tp121:ZI Tryz.prog 121 = some [(0,1),(1,1)]:=by kernel_rfl
theorem ts132:Zx Tryz.prog 132 = some 1:=by kernel_rfl
theorem tb132:ZK Tryz.prog 132 = some 8:=by kernel_rfl
theorem tg132:Zy Tryz.prog 132 = some false:=by kernel_rfl
theorem tz132:Z5 Tryz.prog 132 = some (.lit (.pointer none)):=by kernel_rfl
theorem ta132:Z9 Tryz.prog 132 = none:=by kernel_rfl
theorem tl132:Z3 Tryz.prog 132 = none:=by kernel_rfl
theorem ti132:ZD Tryz.prog 132 = none:=by kernel_rfl
theorem tt132:ZG Tryz.prog 132 = false:=by kernel_rfl
theorem tq132:ZQ Tryz.prog 132 = false:=by kernel_rfl
theorem tn132:ZJ Tryz.prog 132 = some .ptr:=by kernel_rfl
theorem tp132:ZI Tryz.prog 132 = none:=by kernel_rfl
theorem tu132:Tryz.prog.underlying 132 = some (.pointer 136):=by kernel_rfl
theorem ts134:Zx Tryz.prog 134 = some 1:=by kernel_rfl
theorem tb134:ZK Tryz.prog 134 = some 16:=by kernel_rfl
theorem tg134:Zy Tryz.prog 134 = some true:=by kernel_rfl
theorem tz134:Z5 Tryz.prog 134 = some (.agg [.lit (.string { data:=#[]})]):=by kernel_rfl
theorem ta134:Z9 Tryz.prog 134 = none:=by kernel_rfl
theorem tl134:Z3 Tryz.prog 134 = none:=by kernel_rfl
theorem ti134:ZD Tryz.prog 134 = none:=by kernel_rfl
theorem tt134:ZG Tryz.prog 134 = false:=by kernel_rfl
theorem tq134:ZQ Tryz.prog 134 = false:=by kernel_rfl
theorem tn134:ZJ Tryz.prog 134 = none:=by kernel_rfl
theorem tf134_0:ZC Tryz.prog 134 0 = some (0,9):=by kernel_rfl
theorem tp134:ZI Tryz.prog 134 = some [(0,1)]:=by kernel_rfl
theorem tv134:Zco Tryz.prog 20 134 = some [.str]:=by kernel_rfl
theorem te134:Tryz.prog.eqGuardType Tryz.prog.depth 134 = false:=by kernel_rfl
theorem ts136:Zx Tryz.prog 136 = some 2:=by kernel_rfl
theorem tb136:ZK Tryz.prog 136 = some 24:=by kernel_rfl
theorem tg136:Zy Tryz.prog 136 = some true:=by kernel_rfl
theorem tz136:Z5 Tryz.prog 136 = some (.agg [.lit (.string { data:=#[]}),.lit (.bool false)]):=by kernel_rfl
theorem ta136:Z9 Tryz.prog 136 = none:=by kernel_rfl
theorem tl136:Z3 Tryz.prog 136 = none:=by kernel_rfl
theorem ti136:ZD Tryz.prog 136 = none:=by kernel_rfl
theorem tt136:ZG Tryz.prog 136 = false:=by kernel_rfl
theorem tq136:ZQ Tryz.prog 136 = false:=by kernel_rfl
theorem tn136:ZJ Tryz.prog 136 = none:=by kernel_rfl
theorem tf136_0:ZC Tryz.prog 136 0 = some (0,134):=by kernel_rfl
theorem tf136_1:ZC Tryz.prog 136 1 = some (1,4):=by kernel_rfl
theorem tp136:ZI Tryz.prog 136 = some [(0,1),(1,1)]:=by kernel_rfl
theorem tv136:Zco Tryz.prog 20 136 = some [.str,.bool]:=by kernel_rfl
theorem te136:Tryz.prog.eqGuardType Tryz.prog.depth 136 = false:=by kernel_rfl
theorem ts143:Zx Tryz.prog 143 = some 1:=by kernel_rfl
theorem tb143:ZK Tryz.prog 143 = some 8:=by kernel_rfl
theorem tg143:Zy Tryz.prog 143 = some false:=by kernel_rfl
theorem tz143:Z5 Tryz.prog 143 = some (.lit (.nilFunc)):=by kernel_rfl
theorem ta143:Z9 Tryz.prog 143 = none:=by kernel_rfl
theorem tl143:Z3 Tryz.prog 143 = none:=by kernel_rfl
theorem ti143:ZD Tryz.prog 143 = none:=by kernel_rfl
theorem tt143:ZG Tryz.prog 143 = false:=by kernel_rfl
theorem tq143:ZQ Tryz.prog 143 = false:=by kernel_rfl
theorem tn143:ZJ Tryz.prog 143 = some .func:=by kernel_rfl
theorem tp143:ZI Tryz.prog 143 = none:=by kernel_rfl
theorem ts145:Zx Tryz.prog 145 = some 1:=by kernel_rfl
theorem tb145:ZK Tryz.prog 145 = some 8:=by kernel_rfl
theorem tg145:Zy Tryz.prog 145 = some false:=by kernel_rfl
theorem tz145:Z5 Tryz.prog 145 = some (.lit (.int .u64 0)):=by kernel_rfl
theorem ta145:Z9 Tryz.prog 145 = none:=by kernel_rfl
theorem tl145:Z3 Tryz.prog 145 = none:=by kernel_rfl
theorem ti145:ZD Tryz.prog 145 = some .u64:=by kernel_rfl
theorem tt145:ZG Tryz.prog 145 = false:=by kernel_rfl
theorem tq145:ZQ Tryz.prog 145 = false:=by kernel_rfl
theorem tn145:ZJ Tryz.prog 145 = none:=by kernel_rfl
theorem tp145:ZI Tryz.prog 145 = none:=by kernel_rfl
theorem tu145:Tryz.prog.underlying 145 = some (.int .u64):=by kernel_rfl
theorem ts150:Zx Tryz.prog 150 = some 1:=by kernel_rfl
theorem tb150:ZK Tryz.prog 150 = some 8:=by kernel_rfl
theorem tg150:Zy Tryz.prog 150 = some false:=by kernel_rfl
theorem tz150:Z5 Tryz.prog 150 = some (.lit (.nilFunc)):=by kernel_rfl
theorem ta150:Z9 Tryz.prog 150 = none:=by kernel_rfl
theorem tl150:Z3 Tryz.prog 150 = none:=by kernel_rfl
theorem ti150:ZD Tryz.prog 150 = none:=by kernel_rfl
theorem tt150:ZG Tryz.prog 150 = false:=by kernel_rfl
theorem tq150:ZQ Tryz.prog 150 = false:=by kernel_rfl
theorem tn150:ZJ Tryz.prog 150 = some .func:=by kernel_rfl
theorem tp150:ZI Tryz.prog 150 = none:=by kernel_rfl
theorem ts153:Zx Tryz.prog 153 = some 4:=by kernel_rfl
theorem tb153:ZK Tryz.prog 153 = some 4:=by kernel_rfl
theorem tg153:Zy Tryz.prog 153 = some true:=by kernel_rfl
theorem tz153:Z5 Tryz.prog 153 = some (.agg [.lit (.int .u8 0),.lit (.int .u8 0),.lit (.int .u8 0),.lit (.int .u8 0)]):=by kernel_rfl
theorem ta153:Z9 Tryz.prog 153 = some (4,5):=by kernel_rfl
theorem tl153:Z3 Tryz.prog 153 = none:=by kernel_rfl
theorem ti153:ZD Tryz.prog 153 = none:=by kernel_rfl
theorem tt153:ZG Tryz.prog 153 = false:=by kernel_rfl
theorem tq153:ZQ Tryz.prog 153 = false:=by kernel_rfl
theorem tn153:ZJ Tryz.prog 153 = none:=by kernel_rfl
theorem tp153:ZI Tryz.prog 153 = none:=by kernel_rfl
theorem tu153:Tryz.prog.underlying 153 = some (.array 4 5):=by kernel_rfl
theorem ts155:Zx Tryz.prog 155 = some 1:=by kernel_rfl
theorem tb155:ZK Tryz.prog 155 = some 8:=by kernel_rfl
theorem tg155:Zy Tryz.prog 155 = some false:=by kernel_rfl
theorem tz155:Z5 Tryz.prog 155 = some (.lit (.pointer none)):=by kernel_rfl
theorem ta155:Z9 Tryz.prog 155 = none:=by kernel_rfl
theorem tl155:Z3 Tryz.prog 155 = none:=by kernel_rfl
theorem ti155:ZD Tryz.prog 155 = none:=by kernel_rfl
theorem tt155:ZG Tryz.prog 155 = false:=by kernel_rfl
theorem tq155:ZQ Tryz.prog 155 = false:=by kernel_rfl
theorem tn155:ZJ Tryz.prog 155 = some .ptr:=by kernel_rfl
theorem tp155:ZI Tryz.prog 155 = none:=by kernel_rfl
theorem tu155:Tryz.prog.underlying 155 = some (.pointer 5):=by kernel_rfl
theorem ts158:Zx Tryz.prog 158 = some 16:=by kernel_rfl
theorem tb158:ZK Tryz.prog 158 = some 64:=by kernel_rfl
theorem tg158:Zy Tryz.prog 158 = some true:=by kernel_rfl
theorem tz158:Z5 Tryz.prog 158 = some (.agg [.lit (.int .u32 0),.lit (.int .u32 0),.lit (.int .u32 0),.lit (.int .u32 0),.lit (.int .u32 0),.lit (.int .u32 0),.lit (.int .u32 0),.lit (.int .u32 0),.lit (.int .u32 0),.lit (.int .u32 0),.lit (.int .u32 0),.lit (.int .u32 0),.lit (.int .u32 0),.lit (.int .u32 0),.lit (.int .u32 0),.lit (.int .u32 0)]):=by kernel_rfl
theorem ta158:Z9 Tryz.prog 158 = some (16,65):=by kernel_rfl
theorem tl158:Z3 Tryz.prog 158 = none:=by kernel_rfl
theorem ti158:ZD Tryz.prog 158 = none:=by kernel_rfl
theorem tt158:ZG Tryz.prog 158 = false:=by kernel_rfl
theorem tq158:ZQ Tryz.prog 158 = false:=by kernel_rfl
theorem tn158:ZJ Tryz.prog 158 = none:=by kernel_rfl
theorem tp158:ZI Tryz.prog 158 = none:=by kernel_rfl
theorem tu158:Tryz.prog.underlying 158 = some (.array 16 65):=by kernel_rfl
theorem ts162:Zx Tryz.prog 162 = some 8:=by kernel_rfl
theorem tb162:ZK Tryz.prog 162 = some 8:=by kernel_rfl
theorem tg162:Zy Tryz.prog 162 = some true:=by kernel_rfl
theorem tz162:Z5 Tryz.prog 162 = some (.agg [.lit (.int .u8 0),.lit (.int .u8 0),.lit (.int .u8 0),.lit (.int .u8 0),.lit (.int .u8 0),.lit (.int .u8 0),.lit (.int .u8 0),.lit (.int .u8 0)]):=by kernel_rfl
theorem ta162:Z9 Tryz.prog 162 = some (8,5):=by kernel_rfl
theorem tl162:Z3 Tryz.prog 162 = none:=by kernel_rfl
theorem ti162:ZD Tryz.prog 162 = none:=by kernel_rfl
theorem tt162:ZG Tryz.prog 162 = false:=by kernel_rfl
theorem tq162:ZQ Tryz.prog 162 = false:=by kernel_rfl
theorem tn162:ZJ Tryz.prog 162 = none:=by kernel_rfl
theorem tp162:ZI Tryz.prog 162 = none:=by kernel_rfl
theorem tu162:Tryz.prog.underlying 162 = some (.array 8 5):=by kernel_rfl
theorem ts164:Zx Tryz.prog 164 = some 1:=by kernel_rfl
theorem tb164:ZK Tryz.prog 164 = some 8:=by kernel_rfl
theorem tg164:Zy Tryz.prog 164 = some false:=by kernel_rfl
theorem tz164:Z5 Tryz.prog 164 = some (.lit (.pointer none)):=by kernel_rfl
theorem ta164:Z9 Tryz.prog 164 = none:=by kernel_rfl
theorem tl164:Z3 Tryz.prog 164 = none:=by kernel_rfl
theorem ti164:ZD Tryz.prog 164 = none:=by kernel_rfl
theorem tt164:ZG Tryz.prog 164 = false:=by kernel_rfl
theorem tq164:ZQ Tryz.prog 164 = false:=by kernel_rfl
theorem tn164:ZJ Tryz.prog 164 = none:=by kernel_rfl
theorem tp164:ZI Tryz.prog 164 = none:=by kernel_rfl
theorem ts167:Zx Tryz.prog 167 = some 1:=by kernel_rfl
theorem tb167:ZK Tryz.prog 167 = some 8:=by kernel_rfl
theorem tg167:Zy Tryz.prog 167 = some false:=by kernel_rfl
theorem tz167:Z5 Tryz.prog 167 = some (.lit (.int .u64 0)):=by kernel_rfl
theorem ta167:Z9 Tryz.prog 167 = none:=by kernel_rfl
theorem tl167:Z3 Tryz.prog 167 = none:=by kernel_rfl
theorem ti167:ZD Tryz.prog 167 = some .u64:=by kernel_rfl
theorem tt167:ZG Tryz.prog 167 = false:=by kernel_rfl
theorem tq167:ZQ Tryz.prog 167 = false:=by kernel_rfl
theorem tn167:ZJ Tryz.prog 167 = none:=by kernel_rfl
theorem tp167:ZI Tryz.prog 167 = none:=by kernel_rfl
theorem tu167:Tryz.prog.underlying 167 = some (.int .u64):=by kernel_rfl
theorem ts181:Zx Tryz.prog 181 = some 1:=by kernel_rfl
theorem tb181:ZK Tryz.prog 181 = some 8:=by kernel_rfl
theorem tg181:Zy Tryz.prog 181 = some false:=by kernel_rfl
theorem tz181:Z5 Tryz.prog 181 = some (.lit (.int .u64 0)):=by kernel_rfl
theorem ta181:Z9 Tryz.prog 181 = none:=by kernel_rfl
theorem tl181:Z3 Tryz.prog 181 = none:=by kernel_rfl
theorem ti181:ZD Tryz.prog 181 = some .u64:=by kernel_rfl
theorem tt181:ZG Tryz.prog 181 = false:=by kernel_rfl
theorem tq181:ZQ Tryz.prog 181 = false:=by kernel_rfl
theorem tn181:ZJ Tryz.prog 181 = none:=by kernel_rfl
theorem tp181:ZI Tryz.prog 181 = none:=by kernel_rfl
theorem tu181:Tryz.prog.underlying 181 = some (.int .u64):=by kernel_rfl
theorem ts185:Zx Tryz.prog 185 = some 1:=by kernel_rfl
theorem tb185:ZK Tryz.prog 185 = some 8:=by kernel_rfl
theorem tg185:Zy Tryz.prog 185 = some false:=by kernel_rfl
theorem tz185:Z5 Tryz.prog 185 = some (.lit (.pointer none)):=by kernel_rfl
theorem ta185:Z9 Tryz.prog 185 = none:=by kernel_rfl
theorem tl185:Z3 Tryz.prog 185 = none:=by kernel_rfl
theorem ti185:ZD Tryz.prog 185 = none:=by kernel_rfl
theorem tt185:ZG Tryz.prog 185 = false:=by kernel_rfl
theorem tq185:ZQ Tryz.prog 185 = false:=by kernel_rfl
theorem tn185:ZJ Tryz.prog 185 = some .ptr:=by kernel_rfl
theorem tp185:ZI Tryz.prog 185 = none:=by kernel_rfl
theorem tu185:Tryz.prog.underlying 185 = some (.pointer 3):=by kernel_rfl
theorem tw22:ZdP Tryz.prog 22:=Zdz (by kernel_rfl)
theorem tw34:ZdP Tryz.prog 34:=Zdz (by kernel_rfl)
theorem tw37:ZdP Tryz.prog 37:=Zdz (by kernel_rfl)
theorem tw43:ZdP Tryz.prog 43:=Zdz (by kernel_rfl)
theorem tw52:ZdP Tryz.prog 52:=Zdz (by kernel_rfl)
theorem tw95:ZdP Tryz.prog 95:=Zdz (by kernel_rfl)
theorem tw119:ZdP Tryz.prog 119:=Zdz (by kernel_rfl)
theorem tr2:Tryz.f2.results.toList = []:=by kernel_rfl
theorem tr3:Tryz.f3.results.toList = [ResultVar.tmp 6]:=by kernel_rfl
theorem tr4:Tryz.f4.results.toList = [ResultVar.tmp 12]:=by kernel_rfl
theorem tr5:Tryz.f5.results.toList = [ResultVar.tmp 2]:=by kernel_rfl
theorem tr6:Tryz.f6.results.toList = [ResultVar.tmp 0]:=by kernel_rfl
theorem tr7:Tryz.f7.results.toList = [ResultVar.tmp 2,ResultVar.tmp 3]:=by kernel_rfl
theorem tr8:Tryz.f8.results.toList = [ResultVar.tmp 2]:=by kernel_rfl
theorem tr9:Tryz.f9.results.toList = [ResultVar.tmp 4]:=by kernel_rfl
theorem tr10:Tryz.f10.results.toList = [ResultVar.tmp 4]:=by kernel_rfl
theorem tr11:Tryz.f11.results.toList = [ResultVar.tmp 6]:=by kernel_rfl
theorem tr12:Tryz.f12.results.toList = [ResultVar.tmp 6]:=by kernel_rfl
theorem tr13:Tryz.f13.results.toList = []:=by kernel_rfl
theorem tr14:Tryz.f14.results.toList = []:=by kernel_rfl
theorem tr15:Tryz.f15.results.toList = [ResultVar.tmp 4]:=by kernel_rfl
theorem tr16:Tryz.f16.results.toList = [ResultVar.tmp 4]:=by kernel_rfl
theorem tr17:Tryz.f17.results.toList = [ResultVar.tmp 2]:=by kernel_rfl
theorem tr18:Tryz.f18.results.toList = [ResultVar.cell 2 36,ResultVar.tmp 3,ResultVar.tmp 4]:=by kernel_rfl
theorem tr19:Tryz.f19.results.toList = [ResultVar.cell 2 36,ResultVar.tmp 3,ResultVar.tmp 4]:=by kernel_rfl
theorem tr20:Tryz.f20.results.toList = [ResultVar.tmp 4]:=by kernel_rfl
theorem tr21:Tryz.f21.results.toList = []:=by kernel_rfl
theorem tr22:Tryz.f22.results.toList = []:=by kernel_rfl
theorem tr23:Tryz.f23.results.toList = [ResultVar.tmp 2]:=by kernel_rfl
theorem tr24:Tryz.f24.results.toList = [ResultVar.tmp 2]:=by kernel_rfl
theorem tr25:Tryz.f25.results.toList = [ResultVar.tmp 4]:=by kernel_rfl
theorem tr26:Tryz.f26.results.toList = [ResultVar.tmp 0]:=by kernel_rfl
theorem tr27:Tryz.f27.results.toList = [ResultVar.tmp 2]:=by kernel_rfl
theorem tr28:Tryz.f28.results.toList = [ResultVar.tmp 8,ResultVar.tmp 9]:=by kernel_rfl
theorem tr29:Tryz.f29.results.toList = [ResultVar.tmp 8,ResultVar.tmp 9]:=by kernel_rfl
theorem tr30:Tryz.f30.results.toList = [ResultVar.tmp 2]:=by kernel_rfl
theorem tr31:Tryz.f31.results.toList = [ResultVar.tmp 4]:=by kernel_rfl
theorem tr32:Tryz.f32.results.toList = [ResultVar.tmp 4]:=by kernel_rfl
theorem tr33:Tryz.f33.results.toList = [ResultVar.tmp 2]:=by kernel_rfl
theorem tr34:Tryz.f34.results.toList = [ResultVar.tmp 2]:=by kernel_rfl
theorem tr35:Tryz.f35.results.toList = []:=by kernel_rfl
theorem tr36:Tryz.f36.results.toList = []:=by kernel_rfl
theorem tr37:Tryz.f37.results.toList = [ResultVar.cell 2 67,ResultVar.tmp 3]:=by kernel_rfl
theorem tr38:Tryz.f38.results.toList = [ResultVar.cell 2 67,ResultVar.tmp 3]:=by kernel_rfl
theorem tr39:Tryz.f39.results.toList = [ResultVar.tmp 4,ResultVar.tmp 5]:=by kernel_rfl
theorem tr40:Tryz.f40.results.toList = [ResultVar.tmp 8,ResultVar.tmp 9]:=by kernel_rfl
theorem tr41:Tryz.f41.results.toList = [ResultVar.tmp 2]:=by kernel_rfl
theorem tr42:Tryz.f42.results.toList = [ResultVar.tmp 4]:=by kernel_rfl
theorem tr43:Tryz.f43.results.toList = [ResultVar.tmp 2]:=by kernel_rfl
theorem tr44:Tryz.f44.results.toList = [ResultVar.cell 6 81,ResultVar.tmp 7]:=by kernel_rfl
theorem tr45:Tryz.f45.results.toList = [ResultVar.tmp 4]:=by kernel_rfl
theorem tr46:Tryz.f46.results.toList = [ResultVar.tmp 2]:=by kernel_rfl
theorem tr47:Tryz.f47.results.toList = [ResultVar.tmp 4]:=by kernel_rfl
theorem tr48:Tryz.f48.results.toList = [ResultVar.tmp 4]:=by kernel_rfl
theorem tr49:Tryz.f49.results.toList = [ResultVar.tmp 4]:=by kernel_rfl
theorem tr50:Tryz.f50.results.toList = [ResultVar.tmp 4]:=by kernel_rfl
theorem tr51:Tryz.f51.results.toList = [ResultVar.tmp 2]:=by kernel_rfl
theorem tr52:Tryz.f52.results.toList = [ResultVar.tmp 2,ResultVar.tmp 3]:=by kernel_rfl
theorem tr53:Tryz.f53.results.toList = [ResultVar.tmp 1]:=by kernel_rfl
theorem tr54:Tryz.f54.results.toList = [ResultVar.tmp 2]:=by kernel_rfl
theorem tr55:Tryz.f55.results.toList = [ResultVar.tmp 1]:=by kernel_rfl
theorem tr56:Tryz.f56.results.toList = [ResultVar.tmp 2]:=by kernel_rfl
theorem tr57:Tryz.f57.results.toList = [ResultVar.tmp 1]:=by kernel_rfl
theorem tr58:Tryz.f58.results.toList = [ResultVar.tmp 4]:=by kernel_rfl
theorem tr59:Tryz.f59.results.toList = [ResultVar.tmp 1]:=by kernel_rfl
theorem tr60:Tryz.f60.results.toList = [ResultVar.tmp 6]:=by kernel_rfl
theorem tr61:Tryz.f61.results.toList = [ResultVar.tmp 2,ResultVar.tmp 3]:=by kernel_rfl
theorem tr62:Tryz.f62.results.toList = [ResultVar.tmp 4,ResultVar.tmp 5]:=by kernel_rfl
theorem tr63:Tryz.f63.results.toList = [ResultVar.tmp 4]:=by kernel_rfl
theorem tr64:Tryz.f64.results.toList = [ResultVar.tmp 4]:=by kernel_rfl
theorem tr65:Tryz.f65.results.toList = [ResultVar.tmp 6]:=by kernel_rfl
theorem tr66:Tryz.f66.results.toList = [ResultVar.cell 2 36,ResultVar.tmp 3]:=by kernel_rfl
theorem tr67:Tryz.f67.results.toList = [ResultVar.tmp 8,ResultVar.tmp 9]:=by kernel_rfl
theorem tr68:Tryz.f68.results.toList = [ResultVar.cell 2 36,ResultVar.tmp 3]:=by kernel_rfl
theorem tr69:Tryz.f69.results.toList = [ResultVar.tmp 2]:=by kernel_rfl
theorem tr70:Tryz.f70.results.toList = [ResultVar.tmp 4]:=by kernel_rfl
theorem tr71:Tryz.f71.results.toList = [ResultVar.tmp 2,ResultVar.tmp 3]:=by kernel_rfl
theorem tr72:Tryz.f72.results.toList = [ResultVar.tmp 4]:=by kernel_rfl
theorem tr73:Tryz.f73.results.toList = [ResultVar.tmp 4]:=by kernel_rfl
theorem tr74:Tryz.f74.results.toList = [ResultVar.tmp 2,ResultVar.tmp 3]:=by kernel_rfl
theorem tr75:Tryz.f75.results.toList = [ResultVar.tmp 4]:=by kernel_rfl
theorem tr76:Tryz.f76.results.toList = []:=by kernel_rfl
theorem tr77:Tryz.f77.results.toList = [ResultVar.tmp 2]:=by kernel_rfl
theorem tr78:Tryz.f78.results.toList = [ResultVar.tmp 2]:=by kernel_rfl
theorem tr79:Tryz.f79.results.toList = [ResultVar.tmp 2]:=by kernel_rfl
theorem tr80:Tryz.f80.results.toList = [ResultVar.tmp 4]:=by kernel_rfl
theorem tr81:Tryz.f81.results.toList = [ResultVar.tmp 2]:=by kernel_rfl
theorem tr82:Tryz.f82.results.toList = [ResultVar.tmp 4,ResultVar.tmp 5]:=by kernel_rfl
theorem tr83:Tryz.f83.results.toList = [ResultVar.tmp 4]:=by kernel_rfl
theorem tr84:Tryz.f84.results.toList = []:=by kernel_rfl
theorem tr85:Tryz.f85.results.toList = [ResultVar.tmp 2,ResultVar.tmp 3]:=by kernel_rfl
theorem tr86:Tryz.f86.results.toList = [ResultVar.tmp 4]:=by kernel_rfl
theorem tr87:Tryz.f87.results.toList = [ResultVar.tmp 2]:=by kernel_rfl
theorem tr88:Tryz.f88.results.toList = [ResultVar.tmp 2]:=by kernel_rfl
theorem tr89:Tryz.f89.results.toList = [ResultVar.cell 2 67]:=by kernel_rfl
theorem tr90:Tryz.f90.results.toList = [ResultVar.tmp 2,ResultVar.tmp 3]:=by kernel_rfl
theorem tr91:Tryz.f91.results.toList = [ResultVar.tmp 4]:=by kernel_rfl
theorem tr92:Tryz.f92.results.toList = [ResultVar.tmp 2]:=by kernel_rfl
theorem tr93:Tryz.f93.results.toList = [ResultVar.tmp 2]:=by kernel_rfl
theorem tr94:Tryz.f94.results.toList = [ResultVar.tmp 4,ResultVar.tmp 5]:=by kernel_rfl
theorem tr95:Tryz.f95.results.toList = []:=by kernel_rfl
theorem tr96:Tryz.f96.results.toList = [ResultVar.tmp 2]:=by kernel_rfl
theorem tr97:Tryz.f97.results.toList = [ResultVar.tmp 2]:=by kernel_rfl
theorem tr98:Tryz.f98.results.toList = [ResultVar.tmp 4]:=by kernel_rfl
theorem tr99:Tryz.f99.results.toList = []:=by kernel_rfl
theorem tr100:Tryz.f100.results.toList = [ResultVar.tmp 2]:=by kernel_rfl
theorem tr101:Tryz.f101.results.toList = [ResultVar.tmp 4]:=by kernel_rfl
theorem tr102:Tryz.f102.results.toList = [ResultVar.tmp 2]:=by kernel_rfl
theorem tr103:Tryz.f103.results.toList = [ResultVar.tmp 2,ResultVar.tmp 3]:=by kernel_rfl
theorem tr104:Tryz.f104.results.toList = [ResultVar.tmp 4]:=by kernel_rfl
theorem tr105:Tryz.f105.results.toList = [ResultVar.tmp 4]:=by kernel_rfl
theorem tr106:Tryz.f106.results.toList = [ResultVar.cell 2 99]:=by kernel_rfl
theorem tr107:Tryz.f107.results.toList = [ResultVar.tmp 6,ResultVar.tmp 7]:=by kernel_rfl
theorem tr108:Tryz.f108.results.toList = [ResultVar.tmp 2]:=by kernel_rfl
theorem tr109:Tryz.f109.results.toList = [ResultVar.tmp 2]:=by kernel_rfl
theorem tr110:Tryz.f110.results.toList = [ResultVar.tmp 4,ResultVar.tmp 5]:=by kernel_rfl
theorem tr111:Tryz.f111.results.toList = [ResultVar.tmp 2]:=by kernel_rfl
theorem tr112:Tryz.f112.results.toList = [ResultVar.tmp 2]:=by kernel_rfl
theorem tr113:Tryz.f113.results.toList = [ResultVar.tmp 2]:=by kernel_rfl
theorem tr114:Tryz.f114.results.toList = [ResultVar.tmp 4,ResultVar.tmp 5]:=by kernel_rfl
theorem tr115:Tryz.f115.results.toList = [ResultVar.tmp 4]:=by kernel_rfl
theorem tr116:Tryz.f116.results.toList = [ResultVar.tmp 4,ResultVar.tmp 5]:=by kernel_rfl
theorem tr117:Tryz.f117.results.toList = [ResultVar.tmp 4]:=by kernel_rfl
theorem tr118:Tryz.f118.results.toList = [ResultVar.tmp 2]:=by kernel_rfl
theorem tr119:Tryz.f119.results.toList = [ResultVar.tmp 2]:=by kernel_rfl
theorem tr120:Tryz.f120.results.toList = [ResultVar.tmp 4]:=by kernel_rfl
theorem tr121:Tryz.f121.results.toList = [ResultVar.tmp 2]:=by kernel_rfl
theorem tr122:Tryz.f122.results.toList = []:=by kernel_rfl
theorem tr123:Tryz.f123.results.toList = [ResultVar.tmp 2]:=by kernel_rfl
theorem tr124:Tryz.f124.results.toList = [ResultVar.tmp 4,ResultVar.tmp 5]:=by kernel_rfl
theorem tr125:Tryz.f125.results.toList = [ResultVar.tmp 2]:=by kernel_rfl
theorem tr126:Tryz.f126.results.toList = [ResultVar.tmp 4]:=by kernel_rfl
theorem tr127:Tryz.f127.results.toList = [ResultVar.tmp 4,ResultVar.tmp 5]:=by kernel_rfl
theorem tr128:Tryz.f128.results.toList = [ResultVar.tmp 6,ResultVar.tmp 7]:=by kernel_rfl
theorem tr129:Tryz.f129.results.toList = [ResultVar.tmp 4]:=by kernel_rfl
theorem tr130:Tryz.f130.results.toList = [ResultVar.tmp 2]:=by kernel_rfl
theorem tr131:Tryz.f131.results.toList = []:=by kernel_rfl
theorem tr132:Tryz.f132.results.toList = []:=by kernel_rfl
theorem tr133:Tryz.f133.results.toList = [ResultVar.tmp 3]:=by kernel_rfl
theorem tr134:Tryz.f134.results.toList = [ResultVar.tmp 2]:=by kernel_rfl
theorem tr135:Tryz.f135.results.toList = [ResultVar.tmp 4]:=by kernel_rfl
theorem tr136:Tryz.f136.results.toList = [ResultVar.tmp 4]:=by kernel_rfl
theorem tr137:Tryz.f137.results.toList = [ResultVar.tmp 4]:=by kernel_rfl
theorem tr138:Tryz.f138.results.toList = [ResultVar.tmp 3]:=by kernel_rfl
theorem tr140:Tryz.f140.results.toList = [ResultVar.tmp 4]:=by kernel_rfl
theorem tr141:Tryz.f141.results.toList = []:=by kernel_rfl
theorem tr142:Tryz.f142.results.toList = [ResultVar.tmp 2]:=by kernel_rfl
theorem tr143:Tryz.f143.results.toList = [ResultVar.tmp 4]:=by kernel_rfl
theorem tr144:Tryz.f144.results.toList = []:=by kernel_rfl
theorem tr145:Tryz.f145.results.toList = []:=by kernel_rfl
theorem tr146:Tryz.f146.results.toList = []:=by kernel_rfl
theorem tr147:Tryz.f147.results.toList = []:=by kernel_rfl
theorem tr148:Tryz.f148.results.toList = [ResultVar.tmp 6,ResultVar.tmp 7]:=by kernel_rfl
theorem tr149:Tryz.f149.results.toList = []:=by kernel_rfl
theorem tr150:Tryz.f150.results.toList = [ResultVar.tmp 6]:=by kernel_rfl
theorem tr151:Tryz.f151.results.toList = [ResultVar.tmp 4]:=by kernel_rfl
theorem tr152:Tryz.f152.results.toList = [ResultVar.tmp 8]:=by kernel_rfl
theorem tr153:Tryz.f153.results.toList = [ResultVar.tmp 8,ResultVar.tmp 9]:=by kernel_rfl
theorem tr154:Tryz.f154.results.toList = [ResultVar.tmp 2]:=by kernel_rfl
theorem tr155:Tryz.f155.results.toList = [ResultVar.tmp 2]:=by kernel_rfl
theorem tr156:Tryz.f156.results.toList = []:=by kernel_rfl
theorem tr157:Tryz.f157.results.toList = []:=by kernel_rfl
theorem tr158:Tryz.f158.results.toList = [ResultVar.tmp 2]:=by kernel_rfl
theorem tr159:Tryz.f159.results.toList = [ResultVar.tmp 2]:=by kernel_rfl
theorem tr160:Tryz.f160.results.toList = [ResultVar.tmp 6]:=by kernel_rfl
theorem tr161:Tryz.f161.results.toList = [ResultVar.tmp 10]:=by kernel_rfl
theorem tr162:Tryz.f162.results.toList = [ResultVar.tmp 2]:=by kernel_rfl
theorem tr164:Tryz.f164.results.toList = [ResultVar.tmp 8,ResultVar.tmp 9]:=by kernel_rfl
attribute [go_sem] ts3 tb3 tg3 tz3 ta3 tl3 ti3 tt3 tq3 tn3 tp3 tu3 ts4 tb4 tg4 tz4 ta4 tl4 ti4 tt4
attribute [go_sem] tq4 tn4 tp4 tu4 ts5 tb5 tg5 tz5 ta5 tl5 ti5 tt5 tq5 tn5 tp5 tu5 ts9 tb9 tg9 tz9
attribute [go_sem] ta9 tl9 ti9 tt9 tq9 tn9 tp9 tu9 ts21 tb21 tg21 tz21 ta21 tl21 ti21 tt21 tq21 tn21 tp21 tu21
attribute [go_sem] ts22 tb22 tg22 tz22 ta22 tl22 ti22 tt22 tq22 tn22 tp22 tu22 ts25 tb25 tg25 tz25 ta25 tl25 ti25 tt25
attribute [go_sem] tq25 tn25 tp25 tu25 ts26 tb26 tg26 tz26 ta26 tl26 ti26 tt26 tq26 tn26 tp26 tu26 ts29 tb29 tg29 tz29
attribute [go_sem] ta29 tl29 ti29 tt29 tq29 tn29 tp29 tu29 ts34 tb34 tg34 tz34 ta34 tl34 ti34 tt34 tq34 tn34 tp34 tu34
attribute [go_sem] ts36 tb36 tg36 tz36 ta36 tl36 ti36 tt36 tq36 tn36 tf36_0 tf36_1 tf36_2 tp36 ts37 tb37 tg37 tz37 ta37 tl37
attribute [go_sem] ti37 tt37 tq37 tn37 tp37 tu37 ts39 tb39 tg39 tz39 ta39 tl39 ti39 tt39 tq39 tn39 tf39_0 tf39_1 tf39_2 tp39
attribute [go_sem] ts43 tb43 tg43 tz43 ta43 tl43 ti43 tt43 tq43 tn43 tp43 tu43 ts45 tb45 tg45 tz45 ta45 tl45 ti45 tt45
attribute [go_sem] tq45 tn45 tf45_0 tf45_1 tf45_2 tf45_3 tf45_4 tp45 ts52 tb52 tg52 tz52 ta52 tl52 ti52 tt52 tq52 tn52 tp52 tu52
attribute [go_sem] ts54 tb54 tg54 tz54 ta54 tl54 ti54 tt54 tq54 tn54 tp54 tu54 ts56 tb56 tg56 tz56 ta56 tl56 ti56 tt56
attribute [go_sem] tq56 tn56 tp56 tu56 ts58 tb58 tg58 tz58 ta58 tl58 ti58 tt58 tq58 tn58 tf58_0 tf58_1 tf58_2 tp58 tv58 te58
attribute [go_sem] ts59 tb59 tg59 tz59 ta59 tl59 ti59 tt59 tq59 tn59 tp59 tu59 ts62 tb62 tg62 tz62 ta62 tl62 ti62 tt62
attribute [go_sem] tq62 tn62 tp62 tu62 ts65 tb65 tg65 tz65 ta65 tl65 ti65 tt65 tq65 tn65 tp65 tu65 ts67 tb67 tg67 tz67
attribute [go_sem] ta67 tl67 ti67 tt67 tq67 tn67 tf67_0 tf67_1 tp67 tv67 te67 ts77 tb77 tg77 tz77 ta77 tl77 ti77 tt77 tq77
attribute [go_sem] tn77 tp77 ts79 tb79 tg79 tz79 ta79 tl79 ti79 tt79 tq79 tn79 tf79_0 tf79_1 tf79_2 tf79_3 tf79_4 tf79_5 tf79_6 tp79
attribute [go_sem] ts81 tb81 tg81 tz81 ta81 tl81 ti81 tt81 tq81 tn81 tf81_0 tf81_1 tp81 tv81 te81 ts85 tb85 tg85 tz85 ta85
attribute [go_sem] tl85 ti85 tt85 tq85 tn85 tp85 ts88 tb88 tg88 tz88 ta88 tl88 ti88 tt88 tq88 tn88 tf88_0 tf88_1 tf88_2 tp88
attribute [go_sem] tv88 te88 ts94 tb94 tg94 tz94 ta94 tl94 ti94 tt94 tq94 tn94 tp94 ts95 tb95 tg95 tz95 ta95 tl95 ti95
attribute [go_sem] tt95 tq95 tn95 tp95 tu95 ts99 tb99 tg99 tz99 ta99 tl99 ti99 tt99 tq99 tn99 tf99_0 tf99_1 tf99_2 tf99_3 tp99
attribute [go_sem] tv99 te99 ts102 tb102 tg102 tz102 ta102 tl102 ti102 tt102 tq102 tn102 tf102_0 tf102_1 tp102 ts104 tb104 tg104 tz104 ta104
attribute [go_sem] tl104 ti104 tt104 tq104 tn104 tf104_0 tf104_1 tf104_2 tf104_3 tf104_4 tf104_5 tp104 ts107 tb107 tg107 tz107 ta107 tl107 ti107 tt107
attribute [go_sem] tq107 tn107 tf107_0 tf107_1 tf107_2 tf107_3 tp107 tv107 te107 ts111 tb111 tg111 tz111 ta111 tl111 ti111 tt111 tq111 tn111 tf111_0
attribute [go_sem] tf111_1 tf111_2 tf111_3 tf111_4 tf111_5 tf111_6 tp111 ts118 tb118 tg118 tz118 ta118 tl118 ti118 tt118 tq118 tn118 tp118 tu118 ts119
attribute [go_sem] tb119 tg119 tz119 ta119 tl119 ti119 tt119 tq119 tn119 tp119 tu119 ts121 tb121 tg121 tz121 ta121 tl121 ti121 tt121 tq121
attribute [go_sem] tn121 tf121_0 tf121_1 tp121 ts132 tb132 tg132 tz132 ta132 tl132 ti132 tt132 tq132 tn132 tp132 tu132 ts134 tb134 tg134 tz134
attribute [go_sem] ta134 tl134 ti134 tt134 tq134 tn134 tf134_0 tp134 tv134 te134 ts136 tb136 tg136 tz136 ta136 tl136 ti136 tt136 tq136 tn136
attribute [go_sem] tf136_0 tf136_1 tp136 tv136 te136 ts143 tb143 tg143 tz143 ta143 tl143 ti143 tt143 tq143 tn143 tp143 ts145 tb145 tg145 tz145
attribute [go_sem] ta145 tl145 ti145 tt145 tq145 tn145 tp145 tu145 ts150 tb150 tg150 tz150 ta150 tl150 ti150 tt150 tq150 tn150 tp150 ts153
attribute [go_sem] tb153 tg153 tz153 ta153 tl153 ti153 tt153 tq153 tn153 tp153 tu153 ts155 tb155 tg155 tz155 ta155 tl155 ti155 tt155 tq155
attribute [go_sem] tn155 tp155 tu155 ts158 tb158 tg158 tz158 ta158 tl158 ti158 tt158 tq158 tn158 tp158 tu158 ts162 tb162 tg162 tz162 ta162
attribute [go_sem] tl162 ti162 tt162 tq162 tn162 tp162 tu162 ts164 tb164 tg164 tz164 ta164 tl164 ti164 tt164 tq164 tn164 tp164 ts167 tb167
attribute [go_sem] tg167 tz167 ta167 tl167 ti167 tt167 tq167 tn167 tp167 tu167 ts181 tb181 tg181 tz181 ta181 tl181 ti181 tt181 tq181 tn181
attribute [go_sem] tp181 tu181 ts185 tb185 tg185 tz185 ta185 tl185 ti185 tt185 tq185 tn185 tp185 tu185 tw22 tw34 tw37 tw43 tw52 tw95
attribute [go_sem] tw119 tc5 tc6 tc7 tc8 tc9 tc10 tc11 tc12 tc13 tc14 tc15 tc16 tc17 tc18 tc19 tc20 tc21 tc22 tc23
attribute [go_sem] tc24 tc25 tc26 tc27 tc28 tc29 tc30 tc31 tc32 tc33 tc34 tc35 tc36 tc37 tc38 tc39 tc40 tc41 tc42 tc43
attribute [go_sem] tc44 tc45 tc46 tc47 tc48 tc49 tc50 tc51 tc52 tc54 tc58 tc60 tc61 tc62 tc63 tc64 tc65 tc66 tc67 tc68
attribute [go_sem] tc69 tc70 tc71 tc72 tc73 tc74 tc75 tc76 tc77 tc78 tc79 tc80 tc81 tc82 tc83 tc84 tc85 tc86 tc89 tc90
attribute [go_sem] tc91 tc92 tc93 tc94 tc95 tc96 tc97 tc98 tc99 tc100 tc101 tc102 tc103 tc104 tc105 tc106 tc107 tc108 tc109 tc110
attribute [go_sem] tc111 tc112 tc113 tc114 tc115 tc116 tc117 tc118 tc119 tc120 tc121 tc122 tc123 tc124 tc125 tc126 tc127 tc128 tc129 tc130
attribute [go_sem] tc131 tc134 tc135 tc136 tc137 tc140 tc141 tc142 tc143 tc144 tc145 tc146 tc147 tc148 tc149 tc150 tc151 tc152 tc153 tc154
attribute [go_sem] tc155 tc156 tc157 tc158 tc159 tc160 tc161 tc162 tc164 tr2 tr3 tr4 tr5 tr6 tr7 tr8 tr9 tr10 tr11 tr12
attribute [go_sem] tr13 tr14 tr15 tr16 tr17 tr18 tr19 tr20 tr21 tr22 tr23 tr24 tr25 tr26 tr27 tr28 tr29 tr30 tr31 tr32
attribute [go_sem] tr33 tr34 tr35 tr36 tr37 tr38 tr39 tr40 tr41 tr42 tr43 tr44 tr45 tr46 tr47 tr48 tr49 tr50 tr51 tr52
attribute [go_sem] tr53 tr54 tr55 tr56 tr57 tr58 tr59 tr60 tr61 tr62 tr63 tr64 tr65 tr66 tr67 tr68 tr69 tr70 tr71 tr72
attribute [go_sem] tr73 tr74 tr75 tr76 tr77 tr78 tr79 tr80 tr81 tr82 tr83 tr84 tr85 tr86 tr87 tr88 tr89 tr90 tr91 tr92
attribute [go_sem] tr93 tr94 tr95 tr96 tr97 tr98 tr99 tr100 tr101 tr102 tr103 tr104 tr105 tr106 tr107 tr108 tr109 tr110 tr111 tr112
attribute [go_sem] tr113 tr114 tr115 tr116 tr117 tr118 tr119 tr120 tr121 tr122 tr123 tr124 tr125 tr126 tr127 tr128 tr129 tr130 tr131 tr132
attribute [go_sem] tr133 tr134 tr135 tr136 tr137 tr138 tr140 tr141 tr142 tr143 tr144 tr145 tr146 tr147 tr148 tr149 tr150 tr151 tr152 tr153
attribute [go_sem] tr154 tr155 tr156 tr157 tr158 tr159 tr160 tr161 tr162 tr164
end Go.Proofs.YtogaiomakhapmaaGreat.AL
