import Derived.Test.YtogaiomakhapmaaGreatG2
import Derived.Scope
import Derived.Test.YtogaiomakhapmaaGreatProg
import Derived.KernelRfl
import Derived.Shelf.Strings.BuilderK
import Derived.Shelf.Strings.Builder2
set_option linter.unusedVariables false
set_option linter.unusedSimpArgs false
namespace Go.Proofs.YtogaiomakhapmaaGreat.AL
open Go
def ZgP (h:Za) (cs:List AVal):AVal×Za:=(.ptr h.length 0,h++[.cells cs])
def st1 (h:Za) (p x:AVal):Option Za:=match p with
 | .ptr b off=>(Zb h b).bind fun cs=>(req (x.one = true∧off < cs.length)).bind fun _=>some (h.set b (.cells (cs.set off x)))
 |_=>none
def stn (n:Nat) (h:Za) (p:AVal) (vs:List AVal):Option Za:=match p with
 | .ptr b off=>(Zb h b).bind fun cs=>(req (vs.all (·.one) = true∧n = vs.length∧off + vs.length≤cs.length)).bind fun _=>some (h.set b (.cells (Zbr cs off vs)))
 |_=>none
def Zja (T:Tab) (t:Nat) (h:Za) (p x:AVal):Option Za:=match T.agg t,T.siz t with
 |some false,some 1=>st1 h p x
 |some true,some n=>x.parts.bind fun vs=>stn n h p vs
 |_,_=>none
theorem Zyn {T:Tab} {P:Program} (hT:T.Ok P) {t:Nat} {h g:Za} {p x:AVal} {K:Za→Prop} (hv:Zja T t h p x = some g) (hK:K g):Zgm P t h p x K:=by
 unfold Zja at hv;unfold Zgm
 split at hv
 ·rename_i ha hs
  unfold st1 at hv
  split at hv
  ·obtain ⟨cs,h1,hv⟩:=Option.bind_eq_some_iff.1 hv
   obtain ⟨u,h2,hv⟩:=Option.bind_eq_some_iff.1 hv
   cases hv
   simp only[ZbV h1,hT.agg ha]
   exact ⟨(ZY h2).1,hT.siz _ _ hs,(ZY h2).2,hK⟩
  ·cases hv
 ·rename_i ha hs
  obtain ⟨vs,h0,hv⟩:=Option.bind_eq_some_iff.1 hv
  unfold stn at hv
  split at hv
  ·obtain ⟨cs,h1,hv⟩:=Option.bind_eq_some_iff.1 hv
   obtain ⟨u,h2,hv⟩:=Option.bind_eq_some_iff.1 hv
   cases hv
   obtain ⟨a1,a2,a3⟩:=ZY h2
   subst a2
   simp only[ZbV h1,hT.agg ha,h0]
   exact ⟨a1,hT.siz _ _ hs,a3,hK⟩
  ·cases hv
 ·cases hv
def mkS (k b:Nat) (zs:List AVal) (l c:Int) (h:Za):Option (AVal×Za):=
 (req (0≤l∧l≤c∧b * c≤140737488355328∧c≤9223372036854775807)).bind fun _=>some (.sl k h.length 0 l.toNat,h++[.cells (List.replicate l.toNat zs).flatten])
def Zjc (T:Tab) (t:Nat) (l c:AVal) (h:Za):Option (AVal×Za):=match T.und t,l,c with
 |some (.slice e),.lit (.int _ l),.lit (.int _ c)=>match T.siz e,T.byt e,T.zer e with
  |some k,some b,some z=>match z.parts with
   |some zs=>match Nat.beq zs.length k with
    |true=>mkS k b zs l c h
    |false=>none
   |none=>none
  |_,_,_=>none
 |_,_,_=>none
theorem ZsF {T:Tab} {P:Program} (hT:T.Ok P) {t:Nat} {l c:AVal} {h:Za} {r:AVal×Za} {K:AVal→Za→Prop} (hv:Zjc T t l c h = some r) (hK:K r.1 r.2):Zku P t l c h K:=by
 unfold Zjc at hv;unfold Zku
 split at hv
 ·rename_i hu
  simp only[(hT.slice (Tab.slice_of hu)).1]
  split at hv
  ·rename_i h1 h2 h3
   simp only[hT.siz _ _ h1,hT.byt _ _ h2,hT.zer _ _ h3]
   split at hv
   ·rename_i hp
    simp only[hp]
    split at hv
    ·rename_i hk
     unfold mkS at hv
     obtain ⟨u,h4,h5⟩:=Option.bind_eq_some_iff.1 hv
     cases h5
     obtain ⟨a1,a2,a3,a4⟩:=ZY h4
     exact ⟨Nat.eq_of_beq_eq_true hk,a1,a2,a3,a4,hK⟩
    ·cases hv
   ·cases hv
  ·cases hv
 ·cases hv
def ZbW (k:Nat) (zs:List AVal) (len:Nat) (parts:List (Nat×AVal)) (h:Za):Option (AVal×Za):=
 (req (len * k≤16777216)).bind fun _=>(Zcp (fun i=>some (i * k,k)) (List.replicate len zs).flatten parts).bind fun cs=>some (.sl k h.length 0 len,h++[.cells cs])
def Zjg (T:Tab) (t:Nat) (len:Nat) (parts:List (Nat×AVal)) (h:Za):Option (AVal×Za):=match T.und t with
 |some (.slice e)=>match T.siz e,T.zer e with
  |some k,some z=>match z.parts with
   |some zs=>match Nat.beq zs.length k with
    |true=>ZbW k zs len parts h
    |false=>none
   |none=>none
  |_,_=>none
 |_=>none
theorem ZsK {T:Tab} {P:Program} (hT:T.Ok P) {t len:Nat} {parts:List (Nat×AVal)} {h:Za} {r:AVal×Za} {K:AVal→Za→Prop} (hv:Zjg T t len parts h = some r) (hK:K r.1 r.2):
  Zk5 P t len parts h K:=by
 unfold Zjg at hv;unfold Zk5
 split at hv
 ·rename_i hu
  simp only[(hT.slice (Tab.slice_of hu)).1]
  split at hv
  ·rename_i h1 h3
   simp only[hT.siz _ _ h1,hT.zer _ _ h3]
   split at hv
   ·rename_i hp
    simp only[hp]
    split at hv
    ·rename_i hk
     unfold ZbW at hv
     obtain ⟨u,h4,hv⟩:=Option.bind_eq_some_iff.1 hv
     obtain ⟨cs,h5,hv⟩:=Option.bind_eq_some_iff.1 hv
     cases hv
     refine ⟨Nat.eq_of_beq_eq_true hk,ZY h4,?_⟩
     simp only[h5];exact hK
    ·cases hv
   ·cases hv
  ·cases hv
 ·cases hv
def Z0d (s:ByteArray) (h:Za):AVal×Za:=(.sl 1 h.length 0 s.size,h++[.cells (s.data.toList.map ZR)])
def Zjf (T:Tab) (src dst:Nat) (x:AVal) (h:Za):Option (AVal×Za):=match T.und src,T.und dst,x with
 |some _,some (.slice e),.lit (.string s)=>match T.und e with
  |some (.int .u8)=>some (Z0d s h)
  |_=>none
 |_,_,_=>none
theorem ZsJ {T:Tab} {P:Program} (hT:T.Ok P) {src dst:Nat} {x:AVal} {h:Za} {r:AVal×Za} {K:AVal→Za→Prop} (hv:Zjf T src dst x h = some r) (hK:K r.1 r.2):Zhh P src dst x h K:=by
 unfold Zjf at hv;unfold Zhh
 split at hv
 ·rename_i h1 h2
  refine ⟨by rw[hT.und _ _ h1];rfl,?_⟩
  simp only[hT.und _ _ h2]
  split at hv
  ·rename_i he
   cases hv
   exact ⟨hT.int (Tab.int_of he),hK⟩
  ·cases hv
 ·cases hv
def ZbY (k b:Nat) (h:Za) (s x:AVal):Option (AVal×Za):=
 (srcLen x).bind fun n=>(Zcs h k x n).bind fun ns=>match s with
  | .lit (.slice none 0 0)=>(req (n * b≤140737488355328)).bind fun _=>some (if n = 0 then (.lit (.slice none 0 0),h) else (.sl k h.length 0 n,h++[.cells ns]))
  | .sl k' o off len=>(Zb h o).bind fun cs=>(req (k' = k∧off + len * k≤cs.length∧(len + n) * b≤140737488355328∧ns.all (·.one) = true)).bind fun _=>
    some (.sl k h.length 0 (len + n),h.set o .dead++[.cells ((cs.drop off).take (len * k)++ns)])
  |_=>none
def Zo6 (T:Tab) (sT xT:Nat) (h:Za) (s x:AVal):Option (AVal×Za):=match T.und sT,T.und xT,T.fit sT with
 |some (.slice e),some d,true=>match d with
  | .int _=>none
  |_=>match T.siz e,T.byt e,T.zer e with
   |some k,some (b + 1),some _=>ZbY k (b + 1) h s x
   |_,_,_=>none
 |_,_,_=>none
theorem ZyG {T:Tab} {P:Program} (hT:T.Ok P) {sT xT:Nat} {s x:AVal} {h:Za} {r:AVal×Za} {K:AVal→Za→Prop} (hv:Zo6 T sT xT h s x = some r) (hK:K r.1 r.2):
  ZdP P sT∧Zk8 P sT xT h s x K:=by
 unfold Zo6 at hv
 split at hv
 ·rename_i h1 h2 h3
  refine ⟨hT.fit _ h3,?_⟩
  unfold Zk8
  split at hv
  ·cases hv
  ·rename_i d hn
   refine ⟨?_,?_⟩
   ·rw[hT.und _ _ h2]
    split
    ·rename_i e;cases e;exact (hn _ rfl).elim
    ·trivial
    ·contradiction
   ·simp only[(hT.slice (Tab.slice_of h1)).1]
    split at hv
    ·rename_i g1 g2 g3
     simp only[hT.siz _ _ g1,hT.byt _ _ g2,hT.zer _ _ g3]
     unfold ZbY at hv
     obtain ⟨n,e1,hv⟩:=Option.bind_eq_some_iff.1 hv
     obtain ⟨ns,e2,hv⟩:=Option.bind_eq_some_iff.1 hv
     simp only[e1,e2]
     split at hv
     ·obtain ⟨u,e3,hv⟩:=Option.bind_eq_some_iff.1 hv
      refine ⟨ZY e3,fun h0=>?_,fun h0=>?_⟩
      ·rw[if_pos h0] at hv;cases hv;exact hK
      ·rw[if_neg h0] at hv;cases hv;exact hK
     ·obtain ⟨cs,e3,hv⟩:=Option.bind_eq_some_iff.1 hv
      obtain ⟨u,e4,hv⟩:=Option.bind_eq_some_iff.1 hv
      cases hv
      obtain ⟨a1,a2,a3,a4⟩:=ZY e4
      simp only[ZbV e3]
      exact ⟨a1,a2,a3,a4,hK⟩
     ·cases hv
    ·cases hv
 ·cases hv
def Zvv (k:Nat) (h:Za) (d x:AVal):Option (AVal×Za):=match d with
 | .sl k' b off len=>(srcLen x).bind fun n=>(Zb h b).bind fun cs=>(Zcs h k x (min n len)).bind fun ns=>
   (req (k' = k∧off + (min n len) * k≤cs.length∧ns.all (·.one) = true)).bind fun _=>some (.lit (.int .i64 (min n len:Nat)),h.set b (.cells (Zbr cs off ns)))
 |_=>none
def Zo2 (T:Tab) (dT:Nat) (h:Za) (d x:AVal):Option (AVal×Za):=match T.und dT with
 |some (.slice e)=>match T.siz e with
  |some k=>Zvv k h d x
  |none=>none
 |_=>none
theorem ZyA {T:Tab} {P:Program} (hT:T.Ok P) {dT:Nat} {d x:AVal} {h:Za} {r:AVal×Za} {K:AVal→Za→Prop} (hv:Zo2 T dT h d x = some r) (hK:K r.1 r.2):Zk4 P dT h d x K:=by
 unfold Zo2 at hv;unfold Zk4
 split at hv
 ·rename_i hu
  simp only[(hT.slice (Tab.slice_of hu)).1]
  split at hv
  ·rename_i hs
   simp only[hT.siz _ _ hs]
   unfold Zvv at hv
   split at hv
   ·obtain ⟨n,e1,hv⟩:=Option.bind_eq_some_iff.1 hv
    obtain ⟨cs,e2,hv⟩:=Option.bind_eq_some_iff.1 hv
    obtain ⟨ns,e3,hv⟩:=Option.bind_eq_some_iff.1 hv
    obtain ⟨u,e4,hv⟩:=Option.bind_eq_some_iff.1 hv
    cases hv
    obtain ⟨a1,a2,a3⟩:=ZY e4
    simp only[e1,ZbV e2,e3]
    exact ⟨a1,a2,a3,hK⟩
   ·cases hv
  ·cases hv
 ·cases hv
def ZdV (u:Value) (v:AVal) (es:List (Value×AVal)):List (Value×AVal):=match Zbz u es with
 |some (i,_)=>es.set i (u,v)
 |none=>es++[(u,v)]
def Zqn (u:Value) (es:List (Value×AVal)):List (Value×AVal):=match Zbz u es with
 |some (i,_)=>es.eraseIdx i
 |none=>es
def ZfW (d:MKey) (h:Za) (x:AVal) (f:List (Value×AVal)→List (Value×AVal)):Option Za:=match x with
 | .map b=>match h[b]? with
   |some (.map d' es)=>match ZfU d' d with
    |true=>some (h.set b (.map d (f es)))
    |false=>none
   |_=>none
 |_=>none
def ZuG (d:MKey) (h:Za) (x:AVal) (f:List (Value×AVal)→List (Value×AVal)):Option Za:=match x with
 | .map b=>match h[b]? with
   |some (.map d' es)=>match ZfU d' d with
    |true=>some (h.set b (.map d (f es)))
    |false=>none
   |some (.mapU d' es)=>match ZfU d' d with
    |true=>some (h.set b (.mapU d (f es)))
    |false=>none
   |_=>none
 |_=>none
def Zh5 (T:Tab) (t:Nat) (h:Za) (m k v:AVal):Option Za:=match T.mkey t,k with
 |some (d,_,_),.lit u=>match ZhZ d u with
  |true=>ZfW d h m (ZdV u v)
  |false=>none
 |_,_=>none
theorem ZsE {T:Tab} {P:Program} (hT:T.Ok P) {t:Nat} {h g:Za} {m k v:AVal} {K:Za→Prop} (hv:Zh5 T t h m k v = some g) (hK:K g):Ziq P t h m k v K:=by
 unfold Zh5 at hv;unfold Ziq
 split at hv
 ·rename_i d kt et u ht
  simp only[(hT.mkey ht).1]
  split at hv
  ·rename_i hk
   unfold ZfW at hv
   split at hv
   ·refine ⟨Zqz hk,?_⟩
    split at hv
    ·rename_i hb
     split at hv
     ·rename_i he
      cases hv
      simp only[hb]
      refine ⟨ZgR he,?_⟩
      unfold ZdV at hK
      split at hK<;>(rename_i hm;simp only[hm];exact hK)
     ·cases hv
    ·cases hv
   ·cases hv
  ·cases hv
 ·cases hv
def Zl2 (T:Tab) (t:Nat) (h:Za) (m k:AVal):Option Za:=match T.mkey t,k with
 |some (d,_,_),.lit u=>match ZhZ d u with
  |true=>match m with
   | .lit (.map none)=>some h
   |m=>ZuG d h m (Zqn u)
  |false=>none
 |_,_=>none
theorem ZpP {h:Za} {b:Nat} {o:AObj} (hb:h[b]? = some o):h.set b o = h:=by
 apply List.ext_getElem?
 intro c
 by_cases hcb:b = c
 ·subst hcb;rw[List.getElem?_set_self (ZE hb),hb]
 ·rw[List.getElem?_set_ne hcb]
theorem Zy9 {T:Tab} {P:Program} (hT:T.Ok P) {t:Nat} {h g:Za} {m k:AVal} {K:AVal→Za→Prop} (hv:Zl2 T t h m k = some g) (hK:K (.tup []) g):Zk3 P t h m k K:=by
 unfold Zl2 at hv;unfold Zk3
 split at hv
 ·rename_i d kt et u ht
  simp only[(hT.mkey ht).1]
  split at hv
  ·rename_i hk
   refine ⟨Zqz hk,?_⟩
   split at hv
   ·cases hv;exact hK
   ·rename_i hn
    unfold ZuG at hv
    split at hv
    ·split at hv
     ·rename_i hb
      split at hv
      ·rename_i he
       cases hv
       simp only[hb]
       refine ⟨ZgR he,?_⟩
       unfold Zqn at hK
       split at hK
       ·rename_i hm;simp only[hm];exact hK
       ·rename_i hm
        simp only[hm]
        rw[ZgR he] at hb
        rw[ZpP hb] at hK
        exact hK
      ·cases hv
     ·rename_i hb
      split at hv
      ·rename_i he
       cases hv
       simp only[hb]
       refine ⟨ZgR he,?_⟩
       unfold Zqn at hK
       split at hK
       ·rename_i hm;simp only[hm];exact hK
       ·rename_i hm
        simp only[hm]
        rw[ZgR he] at hb
        rw[ZpP hb] at hK
        exact hK
      ·cases hv
     ·cases hv
    ·cases hv
  ·cases hv
 ·cases hv
def ZpN (h:Za) (x:AVal):Option (Nat×ByteArray×Nat):=match x with
 | .ptr b 0=>match h[b]? with
   |some (.sit s pos)=>some (b,s,pos)
   |_=>none
 |_=>none
def Zu7 (q:Nat×ByteArray×Nat):AVal:=.tup [.lit (.bool true),.lit (.int .i64 q.2.2),.lit (.int .i32 (Utf8.decode q.2.1 q.2.2).1)]
def Zu8 (h:Za) (q:Nat×ByteArray×Nat):Za:=h.set q.1 (.sit q.2.1 (q.2.2 + (Utf8.decode q.2.1 q.2.2).2))
def Zl0 (h:Za) (x:AVal):Option (AVal×Za):=(ZpN h x).bind fun q=>cond (Nat.blt q.2.2 q.2.1.size) (some (Zu7 q,Zu8 h q)) (some (.tup [.lit (.bool false)],h))
theorem Zyt {h:Za} {x:AVal} {r:AVal×Za} {K:AVal→Za→Prop} (hv:Zl0 h x = some r) (hK:K r.1 r.2):Zks x h K:=by
 unfold Zl0 at hv
 obtain ⟨q,h1,h2⟩:=Option.bind_eq_some_iff.1 hv
 unfold ZpN at h1
 split at h1
 ·split at h1
  ·rename_i b _ s pos hb
   cases h1
   unfold Zks
   simp only[hb]
   simp only at h2
   cases hlt:Nat.blt pos s.size with
   |true=>
    rw[hlt] at h2
    cases h2
    rw[if_pos (by rw[Nat.blt_eq] at hlt;exact hlt)]
    exact hK
   |false=>
    rw[hlt] at h2
    cases h2
    rw[if_neg (fun h=>by rw[←Nat.blt_eq] at h;rw[h] at hlt;cases hlt)]
    exact hK
  ·cases h1
 ·cases h1
def ZgV (z:AVal):Bool:=match z with
 | .agg [.lit (.pointer none),.lit (.slice none 0 0)]=>true
 |_=>false
theorem ZuP {z:AVal} (h:ZgV z = true):z = .agg [.lit (.pointer none),.lit (.slice none 0 0)]:=by
 unfold ZgV at h;split at h
 ·rfl
 ·cases h
def Zrg (T:Tab) (t:Nat):Bool:=match T.und t with
 |some (.struct _)=>T.fit t
 |_=>false
def xl (T:Tab) (o:Op) (g:Operand→AVal) (h:Za):Option (AVal×Za):=match o with
 | .alloc t=>match T.zer t with
   |some z=>match T.fit t,ZgV z with
    |true,true=>some (.ptr h.length 0,h++[.bld t none 0])
    |_,_=>z.parts.bind fun vs=>some (ZgP h vs)
   |none=>none
 | .box t x=>match Zrg T t with
   |false=>(g x).parts.bind fun vs=>some (ZgP h vs)
   |true=>match ZgV (g x) with
    |true=>some (.ptr h.length 0,h++[.bld t none 0])
    |false=>(g x).parts.bind fun vs=>some (ZgP h vs)
 | .buildSlice t len ps=>Zjg T t len (ps.toList.map fun p=>(p.1,g p.2)) h
 | .store t p x=>(Zja T t h (g p) (g x)).bind fun h'=>some (.any,h')
 | .convert s d x=>Zjf T s d (g x) h
 | .makeSlice t l c=>Zjc T t (g l) (g c) h
 | .makeMap t none=>match T.mkey t with
   |some (d,_,_)=>some (.map h.length,h++[.map d []])
   |none=>none
 | .mapUpdate t m k x=>(Zh5 T t h (g m) (g k) (g x)).bind fun h'=>some (.any,h')
 | .insert t m k x=>(Zh5 T t h (g m) (g k) (g x)).bind fun h'=>some (.any,h')
 | .range t x=>match T.und t with
   |some .string=>(asS (g x)).bind fun s=>some (.ptr h.length 0,h++[.sit s 0])
   |_=>none
 | .next it true=>Zl0 h (g it)
 | .call { callee:=.builtin b,args,argTypes}=>match b,args.toList,argTypes.toList with
   | .append,[s,x],[sT,xT]=>Zo6 T sT xT h (g s) (g x)
   | .copy,[d,x],[dT,_]=>Zo2 T dT h (g d) (g x)
   | .delete,[m,k],[mt,_]=>(Zl2 T mt h (g m) (g k)).bind fun h'=>some (.tup [],h')
   |_,_,_=>none
 |_=>none
theorem Zs6 {T:Tab} {P:Program} (hT:T.Ok P) {o:Op} {ty:Nat} {a:List AVal} {h:Za} {r:AVal×Za} {K:AVal→Za→Prop} (hv:xl T o (Ze a) h = some r) (hK:K r.1 r.2):AOp P o ty a h K:=by
 unfold xl at hv
 cases o with
 |alloc t=>
  simp only at hv
  simp only[AOp,Zk9]
  split at hv
  ·rename_i z hz
   simp only[hT.zer _ _ hz]
   split at hv
   ·rename_i _ hb
    have hz':=ZuP hb
    cases hv
    subst hz'
    exact .inr ⟨rfl,hK⟩
   ·obtain ⟨vs,h1,h2⟩:=Option.bind_eq_some_iff.1 hv
    cases h2
    simp only[h1];exact .inl hK
  ·cases hv
 |box t x=>
  simp only[AOp,Zk7]
  simp only at hv
  have plain:((Ze a x).parts.bind fun vs=>some (ZgP h vs)) = some r→(match (Ze a x).parts with
    |some vs=>K (.ptr h.length 0) (h++[.cells vs])∨((Ze a x) = .agg [.lit (.pointer none),.lit (.slice none 0 0)]∧K (.ptr h.length 0) (h++[.bld t none 0]))
    |none=>False):=fun hv=>by
   obtain ⟨vs,h1,h2⟩:=Option.bind_eq_some_iff.1 hv
   cases h2
   simp only[h1];exact .inl hK
  split at hv
  ·exact plain hv
  ·split at hv
   ·rename_i hb
    have hb':=ZuP hb
    cases hv
    rw[hb']
    exact .inr ⟨rfl,hK⟩
   ·exact plain hv
 |buildSlice t len ps=>exact ZsK hT hv hK
 |store t p x=>
  obtain ⟨g,h1,h2⟩:=Option.bind_eq_some_iff.1 hv
  cases h2
  exact Zyn (K:=fun h'=>K .any h') hT h1 hK
 |convert s d x=>exact ZsJ hT hv hK
 |makeSlice t l c=>exact ZsF hT hv hK
 |makeMap t r=>
  cases r with
  |none=>
   simp only at hv
   simp only[AOp,ZmZ]
   split at hv
   ·rename_i ht
    simp only[(hT.mkey ht).1]
    cases hv;exact hK
   ·cases hv
  |some r=>cases hv
 |mapUpdate t m k x=>
  obtain ⟨g,h1,h2⟩:=Option.bind_eq_some_iff.1 hv
  cases h2
  exact ZsE (K:=fun h'=>K .any h') hT h1 hK
 |insert t m k x=>
  obtain ⟨g,h1,h2⟩:=Option.bind_eq_some_iff.1 hv
  cases h2
  exact ZsE (K:=fun h'=>K .any h') hT h1 hK
 |range t x=>
  simp only at hv
  simp only[AOp]
  split at hv
  ·rename_i hu
   obtain ⟨s,h1,h2⟩:=Option.bind_eq_some_iff.1 hv
   cases h2
   rw[ZmT h1]
   show Zkq P t _ h K
   unfold Zkq
   rw[hT.und _ _ hu];exact hK
  ·cases hv
 |next it isS=>
  cases isS with
  |true=>exact Zyt hv hK
  |false=>cases hv
 |call c=>
  obtain ⟨callee,args,argTypes⟩:=c
  cases callee with
  |builtin b=>
   simp only at hv
   simp only[AOp]
   split at hv
   ·rename_i e1 e2
    simp only[e1,e2];exact ZyG hT hv hK
   ·rename_i e1 e2
    simp only[e1,e2];exact ZyA hT hv hK
   ·rename_i e1 e2
    simp only[e1,e2]
    obtain ⟨g,h1,h2⟩:=Option.bind_eq_some_iff.1 hv
    cases h2
    exact Zy9 hT h1 hK
   ·cases hv
  |value f=>simp at hv
  |invoke r m=>simp at hv
 |_=>simp at hv
def mkA (b:Nat) (zs:List AVal) (l c:Int):Option (List AVal):=
 (req (0≤l∧l≤c∧b * c≤140737488355328∧c≤9223372036854775807)).bind fun _=>some (List.replicate l.toNat zs).flatten
def Zkg (k:Nat) (zs:List AVal) (len:Nat) (parts:List (Nat×AVal)):Option (List AVal):=
 (req (len * k≤16777216)).bind fun _=>Zcp (fun i=>some (i * k,k)) (List.replicate len zs).flatten parts
def xA {R:Type} (T:Tab) (o:Op) (g:Operand→AVal) (K:AMk→List AVal→Option R):Option R:=match o with
 | .alloc t=>match T.zer t with
   |some z=>z.parts.bind fun vs=>K .ptr vs
   |none=>none
 | .box t x=>(g x).parts.bind fun vs=>K .ptr vs
 | .makeSlice t l c=>match T.und t,g l,g c with
   |some (.slice e),.lit (.int _ l),.lit (.int _ c)=>match T.siz e,T.byt e,T.zer e with
    |some k,some b,some z=>match z.parts with
     |some zs=>match Nat.beq zs.length k with
      |true=>(mkA b zs l c).bind fun cs=>K (.sl k l.toNat) cs
      |false=>none
     |none=>none
    |_,_,_=>none
   |_,_,_=>none
 | .buildSlice t len ps=>match T.und t with
   |some (.slice e)=>match T.siz e,T.zer e with
    |some k,some z=>match z.parts with
     |some zs=>match Nat.beq zs.length k with
      |true=>(Zkg k zs len (ps.toList.map fun p=>(p.1,g p.2))).bind fun cs=>K (.sl k len) cs
      |false=>none
     |none=>none
    |_,_=>none
   |_=>none
 | .convert s d x=>match T.und s,T.und d,g x with
   |some _,some (.slice e),.lit (.string s)=>match T.und e with
    |some (.int .u8)=>K (.sl 1 s.size) (s.data.toList.map ZR)
    |_=>none
   |_,_,_=>none
 |_=>none
def ZhT (m:AMk) (cs:List AVal):Option AData:=some ⟨m,cs⟩
theorem Zo7 {R:Type} (T:Tab) (o:Op) (g:Operand→AVal) (K:AMk→List AVal→Option R):xA T o g K = (xA T o g ZhT).bind fun D=>K D.how D.cs:=by
 cases o with
 |alloc t=>
  simp only[xA]
  rcases T.zer t with _ |z
  ·rfl
  ·simp[Option.bind_assoc,ZhT]
 |box t x=>simp[xA,Option.bind_assoc,ZhT]
 |makeSlice t l c=>
  simp only[xA]
  split
  ·split
   ·split
    ·split
     ·simp[Option.bind_assoc,ZhT]
     ·rfl
    ·rfl
   ·rfl
  ·rfl
 |buildSlice t len ps=>
  simp only[xA]
  split
  ·split
   ·split
    ·split
     ·simp[Option.bind_assoc,ZhT]
     ·rfl
    ·rfl
   ·rfl
  ·rfl
 |convert s d x=>
  simp only[xA]
  split
  ·split<;>rfl
  ·rfl
 |_=>rfl
theorem ZyH {T:Tab} {P:Program} (hT:T.Ok P) {o:Op} {ty:Nat} {a:List AVal} {D:AData} (hv:xA T o (Ze a) ZhT = some D):
  (∀ f args tys,o≠ .call { callee:=.value f,args:=args,argTypes:=tys})∧∀ h:Za,AOp P o ty a h fun v' g=>v' = D.how.val h.length∧g = h++[.cells D.cs]:=by
 cases o with
 |alloc t=>
  refine ⟨(fun _ _ _ e=>by cases e),fun h=>?_⟩
  simp only[xA] at hv
  simp only[AOp,Zk9]
  split at hv
  ·rename_i hz
   simp only[hT.zer _ _ hz]
   obtain ⟨vs,h1,h2⟩:=Option.bind_eq_some_iff.1 hv
   cases h2
   simp only[h1];exact .inl ⟨by first |trivial |rfl,by first |trivial |rfl⟩
  ·cases hv
 |box t x=>
  refine ⟨(fun _ _ _ e=>by cases e),fun h=>?_⟩
  simp only[xA] at hv
  simp only[AOp,Zk7]
  obtain ⟨vs,h1,h2⟩:=Option.bind_eq_some_iff.1 hv
  cases h2
  simp only[h1];exact .inl ⟨by first |trivial |rfl,by first |trivial |rfl⟩
 |makeSlice t l c=>
  refine ⟨(fun _ _ _ e=>by cases e),fun h=>?_⟩
  have key:Zjc T t (Ze a l) (Ze a c) h = some (D.how.val h.length,h++[.cells D.cs]):=by
   simp only[xA] at hv
   unfold Zjc
   split at hv
   ·rename_i h1 h2 h3
    (try simp only[h1,h2,h3])
    split at hv
    ·rename_i g1 g2 g3
     (try simp only[g1,g2,g3])
     split at hv
     ·rename_i hp
      (try simp only[hp])
      split at hv
      ·rename_i hb
       (try simp only[hb])
       obtain ⟨cs,e1,e2⟩:=Option.bind_eq_some_iff.1 hv
       cases e2
       unfold mkA at e1
       obtain ⟨u,e3,e4⟩:=Option.bind_eq_some_iff.1 e1
       cases e4
       unfold mkS
       rw[e3];rfl
      ·cases hv
     ·cases hv
    ·cases hv
   ·cases hv
  exact ZsF (K:=fun v' g=>v' = D.how.val h.length∧g = h++[.cells D.cs]) hT key ⟨rfl,rfl⟩
 |buildSlice t len ps=>
  refine ⟨(fun _ _ _ e=>by cases e),fun h=>?_⟩
  have key:Zjg T t len (ps.toList.map fun p=>(p.1,Ze a p.2)) h = some (D.how.val h.length,h++[.cells D.cs]):=by
   simp only[xA] at hv
   unfold Zjg
   split at hv
   ·rename_i h1
    (try simp only[h1])
    split at hv
    ·rename_i g1 g3
     (try simp only[g1,g3])
     split at hv
     ·rename_i hp
      (try simp only[hp])
      split at hv
      ·rename_i hb
       (try simp only[hb])
       obtain ⟨cs,e1,e2⟩:=Option.bind_eq_some_iff.1 hv
       cases e2
       unfold Zkg at e1
       obtain ⟨u,e3,e4⟩:=Option.bind_eq_some_iff.1 e1
       unfold ZbW
       rw[e3,Option.bind_some,e4];rfl
      ·cases hv
     ·cases hv
    ·cases hv
   ·cases hv
  exact ZsK (K:=fun v' g=>v' = D.how.val h.length∧g = h++[.cells D.cs]) hT key ⟨rfl,rfl⟩
 |convert s d x=>
  refine ⟨(fun _ _ _ e=>by cases e),fun h=>?_⟩
  have key:Zjf T s d (Ze a x) h = some (D.how.val h.length,h++[.cells D.cs]):=by
   simp only[xA] at hv
   unfold Zjf
   split at hv
   ·rename_i h1 h2 h3
    (try simp only[h1,h2,h3])
    split at hv
    ·rename_i he
     (try simp only[he])
     cases hv;rfl
    ·cases hv
   ·cases hv
  exact ZsJ (K:=fun v' g=>v' = D.how.val h.length∧g = h++[.cells D.cs]) hT key ⟨rfl,rfl⟩
 |_=>simp[xA] at hv
abbrev Fr:=List (Nat×AVal)
noncomputable def Fr.get (f:Fr) (i:Nat):AVal:=List.rec (motive:=fun _=>AVal) .any (fun p _ ih=>cond (Nat.beq i p.1) p.2 ih) f
noncomputable def Fr.lst (n:Nat) (f:Fr):List AVal:=(List.range n).map f.get
def Fr.Wf (n:Nat) (f:Fr):Prop:=∀ t,n≤t→f.get t = .any
noncomputable def Zbn (f:Fr):Operand→AVal
 | .tmp t=>f.get t
 | .const v=>litA v
 | .global g=>.lit (.pointer (some ⟨g,0,none⟩))
 | .func i=>.fn (.func i) [] []
theorem Zio {n:Nat} {f:Fr} (hw:f.Wf n) (t:Nat):Z2 (f.lst n) t = f.get t:=by
 unfold Z2 Fr.lst
 rcases Nat.lt_or_ge t n with h |h
 ·simp[List.getD_eq_getElem?_getD,h]
 ·simp[List.getD_eq_getElem?_getD,hw t h,Nat.not_lt.2 h]
theorem Zgp {n:Nat} {f:Fr} (hw:f.Wf n):Ze (f.lst n) = Zbn f:=by
 funext x;cases x<;>simp[Ze,Zbn,Zio hw]
theorem Fr.get_cons (k:Nat) (v:AVal) (f:Fr) (i:Nat):Fr.get ((k,v) :: f) i = if i = k then v else f.get i:=by
 show cond (Nat.beq i k) v (f.get i) = _
 by_cases h:i = k
 ·subst h;simp
 ·rw[if_neg h]
  have:Nat.beq i k = false:=by rw[Bool.eq_false_iff];intro e;exact h (Nat.eq_of_beq_eq_true e)
  rw[this];rfl
theorem Z2o {n d:Nat} (hd:d < n) (v:AVal) (f:Fr):Fr.lst n ((d,v) :: f) = (f.lst n).set d v:=by
 unfold Fr.lst
 apply List.ext_getElem
 ·simp
 ·intro i h1 h2
  simp only[List.getElem_map,List.getElem_range,Fr.get_cons,List.getElem_set]
  by_cases h:i = d
  ·subst h;simp
  ·rw[if_neg h,if_neg (fun e=>h e.symm)]
theorem ZyP {n d:Nat} (hd:d < n) (v:AVal) {f:Fr} (hw:f.Wf n):Fr.Wf n ((d,v) :: f):=by
 intro t ht
 rw[Fr.get_cons,if_neg (by omega)]
 exact hw t ht
def Zm6 (n:Nat) (f:Fr) (d:Option Nat) (v:AVal):Option Fr:=match d with
 |none=>some f
 |some d=>match Nat.blt d n with
  |true=>some ((d,v) :: f)
  |false=>none
theorem Ze6 {n:Nat} {f f':Fr} {d:Option Nat} {v:AVal} (h:Zm6 n f d v = some f') (hw:f.Wf n):f'.lst n = Zh (f.lst n) d v∧f'.Wf n:=by
 unfold Zm6 at h
 split at h
 ·cases h;exact ⟨rfl,hw⟩
 ·split at h
  ·rename_i d _ hb
   have hd:d < n:=by rw[Nat.blt_eq] at hb;exact hb
   cases h
   exact ⟨Z2o hd v f,ZyP hd v hw⟩
  ·cases h
noncomputable def Zha (f:Fr) (ks:List Nat):Fr:=List.rec (motive:=fun _=>Fr) [] (fun k _ ih=>(k,f.get k) :: ih) ks
theorem ZuY (f:Fr):∀ (ks:List Nat) (i:Nat),(Zha f ks).get i = .any∨(Zha f ks).get i = f.get i
 | [],i=>.inl rfl
 |k :: ks,i=>by
  show Fr.get ((k,f.get k) :: Zha f ks) i = .any∨Fr.get ((k,f.get k) :: Zha f ks) i = _
  rw[Fr.get_cons]
  by_cases h:i = k
  ·rw[if_pos h];subst h;exact .inr rfl
  ·rw[if_neg h];exact ZuY f ks i
noncomputable def findN.{u} {α:Type u} (l:List (Nat×α)) (i:Nat):Option α:=List.rec (motive:=fun _=>Option α) none (fun p _ ih=>cond (Nat.beq i p.1) (some p.2) ih) l
theorem findN_cons.{u} {α:Type u} (k:Nat) (v:α) (l:List (Nat×α)) (i:Nat):findN ((k,v) :: l) i = cond (Nat.beq i k) (some v) (findN l i):=rfl
theorem findN_some.{u} {α:Type u} {k:Nat} {v c:α} {l:List (Nat×α)} {i:Nat} (h:findN ((k,v) :: l) i = some c):(i = k∧v = c)∨findN l i = some c:=by
 rw[findN_cons] at h
 cases hb:Nat.beq i k with
 |true=>rw[hb] at h;cases h;exact .inl ⟨Nat.eq_of_beq_eq_true hb,rfl⟩
 |false=>rw[hb] at h;exact .inr h
noncomputable def Zct (f:Fr) (m:Option (List Nat)):Fr:=match m with
 |none=>f
 |some ks=>Zha f ks
theorem ZuF (f:Fr) (m:Option (List Nat)) (i:Nat):(Zct f m).get i = .any∨(Zct f m).get i = f.get i:=by
 unfold Zct
 split
 ·exact .inr rfl
 ·exact ZuY f _ i
theorem ZhU {n:Nat} {f:Fr} (hw:f.Wf n) (m:Option (List Nat)):(Zct f m).Wf n:=by
 intro t ht
 rcases ZuF f m t with h |h
 ·exact h
 ·rw[h];exact hw t ht
theorem ZsS:∀ {a b:List AVal},a.length = b.length→(∀ (i:Nat) (h1:i < a.length) (h2:i < b.length),b[i] = .any∨a[i] = b[i])→Weak a b
 | [],[],_,_=>trivial
 | [],_ :: _,h,_=>by simp at h
 |_ :: _,[],h,_=>by simp at h
 |x :: a,y :: b,h,hg=>⟨hg 0 (by simp) (by simp),ZsS (by simpa using h) fun i h1 h2=>hg (i + 1) (by simpa using h1) (by simpa using h2)⟩
theorem ZhV (n:Nat) (f:Fr) (m:Option (List Nat)):Weak (f.lst n) ((Zct f m).lst n):=by
 refine ZsS (by simp[Fr.lst]) fun i h1 h2=>?_
 simp only[Fr.lst,List.getElem_map,List.getElem_range]
 rcases ZuF f m i with h |h
 ·exact .inl h
 ·exact .inr h.symm
section cps
variable {R:Type}
def Zkd (T:Tab) (t:Nat) (v:AVal) (K:AVal→Option R):Option R:=match T.und t with
 |some (.int k)=>(asI k v).bind fun n=>K (.lit (.int k n))
 |some .string=>(asS v).bind fun s=>K (.lit (.string s))
 |some .bool=>(asB v).bind fun b=>K (.lit (.bool b))
 |some (.struct _)=>(asA v).bind fun xs=>K (.agg xs)
 |some (.array _ _)=>(asA v).bind fun xs=>K (.agg xs)
 |_=>K v
theorem Zv1 (T:Tab) (t:Nat) (v:AVal) (K:AVal→Option R):Zkd T t v K = (Zkc T t v).bind K:=by
 unfold Zkd Zkc
 cases T.und t with
 |none=>rfl
 |some d=>cases d<;>simp[Option.bind_assoc]
def Zjd (T:Tab) (t:Nat) (h:Za) (v:AVal) (K:AVal→Option R):Option R:=match T.agg t with
 |some false=>(ld1 h v).bind K
 |some true=>match T.siz t with
  |some n=>(ldn n h v).bind fun xs=>K (.agg xs)
  |none=>none
 |none=>none
theorem ZsH (T:Tab) (t:Nat) (h:Za) (v:AVal) (K:AVal→Option R):Zjd T t h v K = (Zfl T t h v).bind K:=by
 unfold Zjd Zfl
 rcases T.agg t with _ |b
 ·rfl
 ·cases b
  ·rfl
  ·rcases T.siz t with _ |n<;>simp[Option.bind_assoc]
def Zox (op:BinOp) (k:IntKind) (x y:Int) (K:AVal→Option R):Option R:=match op with
 | .quo=>(req (y≠0)).bind fun _=>K (.lit (.int k (k.wrap (x.tdiv y))))
 | .rem=>(req (y≠0)).bind fun _=>K (.lit (.int k (x.tmod y)))
 |op=>(Zh7 op k x y).bind K
theorem Zy0 (op:BinOp) (k:IntKind) (x y:Int) (K:AVal→Option R):Zox op k x y K = (Zh7 op k x y).bind K:=by
 cases op<;>simp[Zox,Zh7,Option.bind_assoc]
def Zoq (op:BinOp) (x y:ByteArray) (K:AVal→Option R):Option R:=match op with
 | .add=>(req (x.size + y.size≤9223372036854775807)).bind fun _=>K (.lit (.string (x++y)))
 |op=>(Zh3 op x y).bind K
theorem Zym (op:BinOp) (x y:ByteArray) (K:AVal→Option R):Zoq op x y K = (Zh3 op x y).bind K:=by
 cases op<;>simp[Zoq,Zh3,Option.bind_assoc]
def Zrb (op:BinOp) (p:Bool) (K:AVal→Option R):Option R:=match op with
 | .eql=>K (.lit (.bool p))
 | .neq=>K (.lit (.bool (!p)))
 |_=>none
def Zot (T:Tab) (op:BinOp) (t:Nat) (ox oy:Operand) (x y:AVal) (K:AVal→Option R):Option R:=match T.nilK t with
 |none=>none
 |some k=>match ZfY oy k y with
  |true=>(x.isNil k).bind fun p=>Zrb op p K
  |false=>match ZfY ox k x with
   |true=>(y.isNil k).bind fun p=>Zrb op p K
   |false=>none
theorem Zys (T:Tab) (op:BinOp) (t:Nat) (ox oy:Operand) (x y:AVal) (K:AVal→Option R):Zot T op t ox oy x y K = (Zjb T op t ox oy x y).bind K:=by
 unfold Zot Zjb
 rcases T.nilK t with _ |k
 ·rfl
 ·simp only
  cases ZfY oy k y
  ·cases ZfY ox k x
   ·rfl
   ·simp only[Option.bind_assoc];congr 1;funext p;cases op<;>rfl
  ·simp only[Option.bind_assoc];congr 1;funext p;cases op<;>rfl
def Zl4 (T:Tab) (op:BinOp) (t:Nat) (ox oy:Operand) (x y:AVal) (K:AVal→Option R):Option R:=match T.nilK t with
 |some _=>Zot T op t ox oy x y K
 |none=>match x,y with
  | .lit (.int k a),.lit (.int k' b)=>match op with
    | .shl=>(req (0≤b)).bind fun _=>K (.lit (.int k (ZpO k a b)))
    | .shr=>(req (0≤b)).bind fun _=>K (.lit (.int k (ZbL k a b)))
    |op=>match ZeX k k' with
     |true=>Zox op k a b K
     |false=>none
  | .lit (.string a),.lit (.string b)=>Zoq op a b K
  | .lit (.bool a),.lit (.bool b)=>match T.und t,op with
    |some .bool,.eql=>K (.lit (.bool (decide (a = b))))
    |some .bool,.neq=>K (.lit (.bool (!decide (a = b))))
    |_,_=>none
  | .agg xs,.agg ys=>match T.lvs t with
    |none=>none
    |some ls=>(ZeW ls xs ys).bind fun r=>Zrb op r K
  |_,_=>none
theorem Zl3 (T:Tab) (op:BinOp) (t:Nat) (ox oy:Operand) (x y:AVal) (K:AVal→Option R):Zl4 T op t ox oy x y K = (Zji T op t ox oy x y).bind K:=by
 unfold Zl4 Zji
 rcases T.nilK t with _ |k
 ·simp only
  cases x with
  |lit u=>
   cases u with
   |int k a=>
    cases y with
    |lit v=>
     cases v with
     |int k' b=>
      cases op<;>simp only[]<;>first
       | (cases ZeX k k'<;>first |rfl |exact Zy0 ..)
       | (simp only[Option.bind_assoc];rfl)
     |_=>rfl
    |_=>rfl
   |string a=>
    cases y with
    |lit v=>
     cases v with
     |string b=>exact Zym ..
     |_=>rfl
    |_=>rfl
   |bool a=>
    cases y with
    |lit v=>
     cases v with
     |bool b=>
      simp only
      rcases T.und t with _ |d
      ·rfl
      ·cases d<;>cases op<;>rfl
     |_=>rfl
    |_=>rfl
   |_=>rfl
  |agg xs=>
   cases y with
   |agg ys=>
    simp only
    rcases T.lvs t with _ |ls
    ·rfl
    ·simp only[Option.bind_assoc];congr 1;funext p;cases op<;>rfl
   |_=>rfl
  |_=>rfl
 ·exact Zys ..
def Zlz (T:Tab) (t:Nat) (vs:List AVal) (off:Nat) (K:AVal→Option R):Option R:=match T.agg t with
 |some true=>match T.siz t with
  |some n=>(ZpJ vs off n).bind fun xs=>K (.agg xs)
  |none=>none
 |some false=>(vs[off]?).bind K
 |none=>none
theorem ZsD (T:Tab) (t:Nat) (vs:List AVal) (off:Nat) (K:AVal→Option R):Zlz T t vs off K = (Zh4 T t vs off).bind K:=by
 unfold Zlz Zh4
 rcases T.agg t with _ |b
 ·rfl
 ·cases b
  ·rfl
  ·rcases T.siz t with _ |n<;>simp[Option.bind_assoc]
def Zl1 (T:Tab) (t:Nat) (x i:AVal) (K:AVal→Option R):Option R:=match i,x with
 | .lit (.int _ i),.lit (.string s)=>match T.und t with
   |some .string=>(ZgG s i).bind fun b=>K (.lit (.int .u8 b))
   |_=>none
 | .lit (.int _ i),.agg vs=>match T.und t with
   |some (.array n e)=>match T.siz e with
    |some k=>(req (0≤i∧i < n)).bind fun _=>Zlz T e vs (i.toNat * k) K
    |none=>none
   |_=>none
 |_,_=>none
theorem Zy2 (T:Tab) (t:Nat) (x i:AVal) (K:AVal→Option R):Zl1 T t x i K = (Zh8 T t x i).bind K:=by
 cases i with
 |lit u=>
  cases u with
  |int k i=>
   cases x with
   |lit v=>
    cases v with
    |string s=>
     simp only[Zl1,Zh8]
     rcases T.und t with _ |d
     ·rfl
     ·cases d<;>simp[Option.bind_assoc]
    |_=>rfl
   |agg vs=>
    simp only[Zl1,Zh8]
    rcases T.und t with _ |d
    ·rfl
    ·cases d<;>try rfl
     simp only
     rcases T.siz _ with _ |k
     ·rfl
     ·simp only[Option.bind_assoc];congr 1;funext u;exact ZsD ..
   |_=>rfl
  |_=>rfl
 |_=>rfl
def Zo0 (T:Tab) (t:Nat) (x:AVal) (i:Nat) (K:AVal→Option R):Option R:=match x with
 | .agg vs=>match T.field t i with
   |some (off,ft)=>Zlz T ft vs off K
   |none=>none
 |_=>none
theorem Zy7 (T:Tab) (t:Nat) (x:AVal) (i:Nat) (K:AVal→Option R):Zo0 T t x i K = (Zje T t x i).bind K:=by
 cases x with
 |agg vs=>
  simp only[Zo0,Zje]
  rcases T.field t i with _ |p
  ·rfl
  ·exact ZsD ..
 |_=>rfl
def Zos (T:Tab) (t:Nat) (h:Za) (x:AVal) (lo hi mx:Option AVal) (K:AVal→Option R):Option R:=match T.und t with
 |some .string=>match x,lo,hi,mx with
  | .lit (.string s),lo,hi,none=>(Zf5 lo 0).bind fun l=>(Zf5 hi s.size).bind fun r=>(ZdY s l r).bind fun z=>K (.lit (.string z))
  |_,_,_,_=>none
 |some (.slice e)=>match T.siz e with
  |some k=>(ZeY lo).bind fun l=>(ZeY hi).bind fun r=>(ZeY mx).bind fun m=>(ZcQ k x l r m).bind K
  |none=>none
 |some (.array n e)=>match T.siz e,mx with
  |some 1,none=>(Zf5 lo 0).bind fun l=>(Zf5 hi n).bind fun r=>(ZdD n 1 h x l r).bind K
  |_,_=>none
 |_=>none
theorem Zyq (T:Tab) (t:Nat) (h:Za) (x:AVal) (lo hi mx:Option AVal) (K:AVal→Option R):Zos T t h x lo hi mx K = (ZfN T t h x lo hi mx).bind K:=by
 unfold Zos ZfN
 rcases T.und t with _ |d
 ·rfl
 ·cases d<;>try rfl
  ·simp only
   cases x with
   |lit u=>
    cases u with
    |string s=>cases mx<;>simp[Option.bind_assoc]
    |_=>rfl
   |_=>rfl
  ·simp only
   rcases T.siz _ with _ |k<;>simp[Option.bind_assoc]
  ·simp only
   rcases T.siz _ with _ |_ |_ |k
   ·rfl
   ·rfl
   ·cases mx<;>simp[Option.bind_assoc]
   ·rfl
def Zow (T:Tab) (t:Nat) (x:AVal) (K:AVal→Option R):Option R:=match T.und t with
 |some (.array n _)=>K (.lit (.int .i64 n))
 |some (.slice _)=>(Zbb x).bind fun n=>K (.lit (.int .i64 n))
 |some .string=>(asS x).bind fun s=>K (.lit (.int .i64 s.size))
 |_=>none
theorem ZsI (T:Tab) (t:Nat) (x:AVal) (K:AVal→Option R):Zow T t x K = (Zh6 T t x).bind K:=by
 unfold Zow Zh6
 rcases T.und t with _ |d
 ·rfl
 ·cases d<;>simp[Option.bind_assoc]
def Zo4 (T:Tab) (t:Nat) (parts:List (Nat×AVal)) (K:AVal→Option R):Option R:=match T.zer t with
 |none=>none
 |some z=>match z.parts with
  |none=>none
  |some zs=>match T.und t with
   |some (.struct _)=>(T.places t).bind fun ps=>(Zcp (ps[·]?) zs parts).bind fun cs=>K (.agg cs)
   |some (.array _ e)=>match T.siz e with
    |some k=>(Zcp (fun i=>some (i * k,k)) zs parts).bind fun cs=>K (.agg cs)
    |none=>none
   |_=>none
theorem ZyE (T:Tab) (t:Nat) (parts:List (Nat×AVal)) (K:AVal→Option R):Zo4 T t parts K = (Zjh T t parts).bind K:=by
 unfold Zo4 Zjh
 rcases T.zer t with _ |z
 ·rfl
 ·simp only
  rcases z.parts with _ |zs
  ·rfl
  ·simp only
   rcases T.und t with _ |d
   ·rfl
   ·cases d<;>try rfl
    ·simp only
     rcases T.siz _ with _ |k<;>simp[Option.bind_assoc]
    ·simp[Option.bind_assoc]
def Zo3 (T:Tab) (src dst:Nat) (x:AVal) (h:Za) (K:AVal→Option R):Option R:=match T.und src,T.und dst with
 |some (.int _),some (.int k)=>(ZhQ x).bind fun n=>K (.lit (.int k (k.wrap n)))
 |some (.int _),some .string=>(ZhQ x).bind fun n=>K (.lit (.string (Utf8.encode n)))
 |some .string,some .string=>(asS x).bind fun s=>K (.lit (.string s))
 |some (.slice e),some .string=>match T.und e with
  |some (.int .u8)=>(ZcA h x).bind fun s=>K (.lit (.string s))
  |_=>none
 |_,_=>none
theorem ZyC (T:Tab) (src dst:Nat) (x:AVal) (h:Za) (K:AVal→Option R):Zo3 T src dst x h K = (ZfP T src dst x h).bind K:=by
 unfold Zo3 ZfP
 rcases T.und src with _ |ds
 ·rfl
 ·rcases T.und dst with _ |dd
  ·cases ds<;>rfl
  ·cases ds<;>cases dd<;>first
    |rfl
    | (simp[Option.bind_assoc];done)
    | (simp only
       rcases T.und _ with _ |d2
       ·rfl
       ·cases d2<;>try rfl
        rename_i k
        cases k<;>simp[Option.bind_assoc])
def Zou (T:Tab) (t:Nat) (h:Za) (x k:AVal) (ok:Bool) (K:AVal→Option R):Option R:=match T.mkey t,k with
 |some (d,_,et),.lit u=>match ZhZ d u,T.zer et with
  |true,some z=>(Ze5 d h x).bind fun es=>K (mres ok (ZdW z u es).1 (ZdW z u es).2)
  |_,_=>none
 |_,_=>none
theorem Zyx (T:Tab) (t:Nat) (h:Za) (x k:AVal) (ok:Bool) (K:AVal→Option R):Zou T t h x k ok K = (ZfO T t h x k ok).bind K:=by
 unfold Zou ZfO
 rcases T.mkey t with _ | ⟨d,kt,et⟩
 ·rfl
 ·cases k<;>try rfl
  simp only
  cases ZhZ d _<;>try rfl
  cases T.zer et<;>try rfl
  simp only[Option.bind_assoc,Option.bind_some]
def xqK (T:Tab) (o:Op) (g:Operand→AVal) (h:Za) (K:AVal→Option R):Option R:=match o with
 | .move x | .assign x=>K (g x)
 | .pick c x y=>(asB (g c)).bind fun b=>K (match b with |true=>g x |false=>g y)
 | .load t x=>Zjd T t h (g x) K
 | .binOp op t x y _=>Zl4 T op t x y (g x) (g y) K
 | .convert s d x=>Zo3 T s d (g x) h K
 | .makeFunc f xs ys=>K (.fn f (Zcf g xs) (Zcf g ys))
 | .build t ps=>Zo4 T t (ps.toList.map fun p=>(p.1,g p.2)) K
 | .slice t x lo hi mx=>Zos T t h (g x) (lo.map g) (hi.map g) (mx.map g) K
 | .field t x i=>Zo0 T t (g x) i K
 | .index t x i=>Zl1 T t (g x) (g i) K
 | .lookup t x k ok=>Zou T t h (g x) (g k) ok K
 | .call { callee:=.builtin .len,args,argTypes}=>match args.toList,argTypes.toList with
   | [x],[t]=>match T.und t with
     |some (.map _ _)=>(ZeP h (g x)).bind K
     |_=>Zow T t (g x) K
   |_,_=>none
 |o=>(xq T o g h).bind K
theorem Zg6 (T:Tab) (o:Op) (g:Operand→AVal) (h:Za) (K:AVal→Option R):xqK T o g h K = (xq T o g h).bind K:=by
 cases o with
 |move x=>rfl
 |assign x=>rfl
 |pick c x y=>simp only[xqK,xq,Option.bind_assoc];congr 1
 |load t x=>exact ZsH ..
 |binOp op t x y _=>exact Zl3 ..
 |convert s d x=>exact ZyC ..
 |makeFunc f xs ys=>rfl
 |build t ps=>exact ZyE ..
 |slice t x lo hi mx=>exact Zyq ..
 |field t x i=>exact Zy7 ..
 |index t x i=>exact Zy2 ..
 |lookup t x k ok=>exact Zyx ..
 |call c=>
  obtain ⟨callee,args,argTypes⟩:=c
  cases callee with
  |builtin b=>
   cases b<;>try rfl
   simp only[xqK,xq]
   rcases args.toList with _ | ⟨x,_ | ⟨y,l⟩⟩<;>rcases argTypes.toList with _ | ⟨t,_ | ⟨u,l'⟩⟩<;>try rfl
   simp only
   rcases T.und t with _ |d
   ·exact ZsI ..
   ·cases d<;>first |exact ZsI .. |rfl
  |_=>rfl
 |_=>rfl
def Zor (T:Tab) (t:Nat) (h:Za) (p x:AVal) (K:Za→Option R):Option R:=match T.agg t,T.siz t with
 |some false,some 1=>(st1 h p x).bind K
 |some true,some n=>x.parts.bind fun vs=>(stn n h p vs).bind K
 |_,_=>none
theorem Zyo (T:Tab) (t:Nat) (h:Za) (p x:AVal) (K:Za→Option R):Zor T t h p x K = (Zja T t h p x).bind K:=by
 unfold Zor Zja
 rcases T.agg t with _ |b
 ·rfl
 ·rcases T.siz t with _ |n
  ·cases b<;>rfl
  ·cases b
   ·rcases n with _ |_ |n<;>rfl
   ·simp[Option.bind_assoc]
def xlK (T:Tab) (o:Op) (g:Operand→AVal) (h:Za) (K:AVal→Za→Option R):Option R:=match o with
 | .alloc t=>match T.zer t with
   |some z=>match T.fit t,ZgV z with
    |true,true=>K (.ptr h.length 0) (h++[.bld t none 0])
    |_,_=>z.parts.bind fun vs=>K (.ptr h.length 0) (h++[.cells vs])
   |none=>none
 | .box t x=>match Zrg T t with
   |false=>(g x).parts.bind fun vs=>K (.ptr h.length 0) (h++[.cells vs])
   |true=>match ZgV (g x) with
    |true=>K (.ptr h.length 0) (h++[.bld t none 0])
    |false=>(g x).parts.bind fun vs=>K (.ptr h.length 0) (h++[.cells vs])
 | .store t p x=>Zor T t h (g p) (g x) fun h'=>K .any h'
 | .makeMap t none=>match T.mkey t with
   |some (d,_,_)=>K (.map h.length) (h++[.map d []])
   |none=>none
 | .mapUpdate t m k x=>(Zh5 T t h (g m) (g k) (g x)).bind fun h'=>K .any h'
 | .insert t m k x=>(Zh5 T t h (g m) (g k) (g x)).bind fun h'=>K .any h'
 | .range t x=>match T.und t with
   |some .string=>(asS (g x)).bind fun s=>K (.ptr h.length 0) (h++[.sit s 0])
   |_=>none
 | .next it true=>(ZpN h (g it)).bind fun q=>cond (Nat.blt q.2.2 q.2.1.size) (K (Zu7 q) (Zu8 h q)) (K (.tup [.lit (.bool false)]) h)
 | .call { callee:=.builtin .delete,args,argTypes}=>match args.toList,argTypes.toList with
   | [m,k],[mt,_]=>(Zl2 T mt h (g m) (g k)).bind fun h'=>K (.tup []) h'
   |_,_=>none
 |o=>(xl T o g h).bind fun r=>K r.1 r.2
theorem Zly (T:Tab) (o:Op) (g:Operand→AVal) (h:Za) (K:AVal→Za→Option R):xlK T o g h K = (xl T o g h).bind fun r=>K r.1 r.2:=by
 cases o with
 |alloc t=>
  simp only[xlK,xl]
  rcases T.zer t with _ |z
  ·rfl
  ·simp only
   split
   ·rename_i e1 e2;simp[e1,e2]
   ·simp[Option.bind_assoc,ZgP]
 |box t x=>
  simp only[xlK,xl]
  cases Zrg T t with
  |false=>simp[Option.bind_assoc,ZgP]
  |true=>
   simp only
   cases ZgV (g x) with
   |true=>rfl
   |false=>simp[Option.bind_assoc,ZgP]
 |store t p x=>simp only[xlK,xl];rw[Zyo,Option.bind_assoc];rfl
 |makeMap t r=>
  cases r with
  |none=>simp only[xlK,xl];split<;>rfl
  |some r=>rfl
 |mapUpdate t m k x=>simp[xlK,xl,Option.bind_assoc]
 |insert t m k x=>simp[xlK,xl,Option.bind_assoc]
 |range t x=>simp only[xlK,xl];split<;>simp[Option.bind_assoc]
 |next it isS=>
  cases isS with
  |true=>
   simp only[xlK,xl,Zl0,Option.bind_assoc]
   congr 1;funext q
   cases Nat.blt q.2.2 q.2.1.size<;>rfl
  |false=>rfl
 |call c=>
  obtain ⟨callee,args,argTypes⟩:=c
  cases callee with
  |builtin b=>
   cases b<;>try rfl
   simp only[xlK,xl]
   rcases args.toList with _ | ⟨x,_ | ⟨y,_ | ⟨z,l⟩⟩⟩<;>rcases argTypes.toList with _ | ⟨t,_ | ⟨u,_ | ⟨w,l'⟩⟩⟩<;>try rfl
   simp only[Option.bind_assoc,Option.bind_some]
  |_=>rfl
 |_=>rfl
end cps
noncomputable def jnF:{ f:∀ R:Type,Option R→Option R // ∀ R x,f R x = x}:=Classical.choice ⟨⟨fun _ x=>x,fun _ _=>rfl⟩⟩
noncomputable def jn {R:Type} (x:Option R):Option R:=jnF.1 R x
theorem ZF {R:Type} (x:Option R):jn x = x:=jnF.2 R x
noncomputable def ZvI {R:Type} (m:Option (List Nat)) (f:Fr) (go:Fr→Option R):Option R:=match m with
 |none=>go f
 |some ks=>jn (go (Zha f ks))
theorem Z45 {R:Type} (m:Option (List Nat)) (f:Fr) (go:Fr→Option R):ZvI m f go = go (Zct f m):=by
 cases m with
 |none=>rfl
 |some ks=>exact ZF _
inductive XC:Type 1 where
 |p (g:∀ R:Type,List AVal→(AVal→Option R)→Option R)
 |q (g:∀ R:Type,List AVal→Za→(AVal→Option R)→Option R)
 |l (g:∀ R:Type,List AVal→Za→(AVal→Za→Option R)→Option R)
def mkP (v:AVal) (h:Za):Option (AVal×Za):=some (v,h)
def XC.Nat:XC→Prop
 | .p g=>∀ R args K,g R args K = (g AVal args some).bind K
 | .q g=>∀ R args h K,g R args h K = (g AVal args h some).bind K
 | .l g=>∀ R args h K,g R args h K = (g (AVal×Za) args h mkP).bind fun r=>K r.1 r.2
def XC.Ok (P:Program) (i:FuncId):XC→Prop
 | .p g=>Zd P i = true∧∀ args h v,g AVal args some = some v→ACalls P i args h fun e h'=>e = .ret v∧h' = h
 | .q g=>Zd P i = true∧∀ args h v,g AVal args h some = some v→ACalls P i args h fun e h'=>e = .ret v∧h' = h
 | .l g=>Zd P i = true∧∀ args h v h',g (AVal×Za) args h mkP = some (v,h')→ACalls P i args h fun e g=>e = .ret v∧g = h'
abbrev CT:=List (Nat×XC)
def CT.Ok (P:Program):CT→Prop
 | []=>True
 | (i,c) :: l=>(c.Nat∧c.Ok P i)∧CT.Ok P l
def CT.Nat:CT→Prop
 | []=>True
 | (_,c) :: l=>c.Nat∧CT.Nat l
theorem CT.Ok.find {P:Program}:∀ {C:CT} {i:_root_.Nat} {c:XC},CT.Ok P C→findN C i = some c→c.Nat∧c.Ok P i
 | [],i,c,_,h=>by cases h
 | (k,x) :: l,i,c,hC,h=>by
   rcases findN_some h with ⟨rfl,rfl⟩ |h
   ·exact hC.1
   ·exact CT.Ok.find hC.2 h
theorem CT.Nat.find:∀ {C:CT} {i:_root_.Nat} {c:XC},CT.Nat C→findN C i = some c→c.Nat
 | [],i,c,_,h=>by cases h
 | (k,x) :: l,i,c,hC,h=>by
   rcases findN_some h with ⟨rfl,rfl⟩ |h
   ·exact hC.1
   ·exact CT.Nat.find hC.2 h
theorem CT.Ok.nat {P:Program}:∀ {C:CT},CT.Ok P C→CT.Nat C
 | [],_=>trivial
 | (_,_) :: _,hC=>⟨hC.1.1,CT.Ok.nat hC.2⟩
abbrev XP:=List AVal→Za→Option (AVal×Za)
abbrev XI:=(Nat→XP)→XP
structure XE where
 T:Tab
 C:List (Nat×XC)
 D:List (Nat×DPart)
 Ms:List (Nat×List Nat)
 Ml:List (Nat×List Nat)
 Mo:List (Nat×List Nat)
 n:Nat
 Y:Nat→XP:=fun _ _ _=>none
 I:List (Nat×XI):=[]
def Zmg (T:Tab):Op→Bool
 | .alloc _ | .box _ _ | .buildSlice _ _ _ | .store _ _ _ | .makeSlice _ _ _ | .makeMap _ _ | .mapUpdate _ _ _ _ | .insert _ _ _ _ | .range _ _ | .next _ _=>false
 | .convert _ d _=>match T.und d with
   |some (.slice _)=>false
   |_=>true
 | .call { callee:=.builtin b, .. }=>match b with
   | .append | .copy | .delete=>false
   |_=>true
 |_=>true
section step
variable {R:Type}
def ZqW (T:Tab) (d:Option Nat) (t:Nat) (v:AVal):Option AVal:=match d with
 |none=>some v
 |some _=>Zkc T t v
def Zcg (T:Tab) (d:Option Nat) (t:Nat) (v:AVal) (K:AVal→Option R):Option R:=match d with
 |none=>K v
 |some _=>Zkd T t v K
theorem Zke (T:Tab) (d:Option Nat) (t:Nat) (v:AVal) (K:AVal→Option R):Zcg T d t v K = (ZqW T d t v).bind K:=by
 cases d
 ·rfl
 ·exact Zv1 ..
noncomputable def ZcV (p:Prop):Option Unit:=@ite _ p (Classical.propDecidable p) (some ()) none
theorem Zme {p:Prop} {u:Unit} (h:ZcV p = some u):p:=by
 unfold ZcV at h
 split at h
 ·assumption
 ·cases h
theorem Zev {p:Prop} (h:p):ZcV p = some ():=by unfold ZcV;rw[if_pos h]
noncomputable def Zek (E:XE) (only:Bool) (o:Oper) (f:Fr) (h:Za) (K:AVal→Option R):Option R:=match o.op with
 | .call { callee:=.value fv,args, .. }=>match Zbn f fv with
   | .fn (.func i) vs ws=>match findN E.C i with
     |some (.p g)=>g R (vs++Zcf (Zbn f) args++ws) fun v=>Zcg E.T o.dst o.type v K
     |some (.q g)=>match only with
      |true=>none
      |false=>g R (vs++Zcf (Zbn f) args++ws) h fun v=>Zcg E.T o.dst o.type v K
     |some (.l g)=>match only with
      |true=>none
      |false=>(g (AVal×Za) (vs++Zcf (Zbn f) args++ws) h mkP).bind fun r=>(ZcV (r.2 = h)).bind fun _=>Zcg E.T o.dst o.type r.1 K
     |_=>none
   |_=>none
 |op=>match Zmg E.T op with
  |true=>xqK E.T op (Zbn f) h fun v=>Zcg E.T o.dst o.type v K
  |false=>none
noncomputable def Zdd (E:XE) (o:Oper) (f:Fr) (h:Za) (K:AVal→Za→Option R):Option R:=match o.op with
 | .call { callee:=.value fv,args, .. }=>match Zbn f fv with
   | .fn (.func i) vs ws=>match findN E.C i with
     |some (.p g)=>g R (vs++Zcf (Zbn f) args++ws) fun v=>Zcg E.T o.dst o.type v fun v=>K v h
     |some (.q g)=>g R (vs++Zcf (Zbn f) args++ws) h fun v=>Zcg E.T o.dst o.type v fun v=>K v h
     |some (.l g)=>g R (vs++Zcf (Zbn f) args++ws) h fun v h=>Zcg E.T o.dst o.type v fun v=>K v h
     |_=>none
   | .yld b=>(E.Y b (Zcf (Zbn f) args) h).bind fun r=>Zcg E.T o.dst o.type r.1 fun v=>K v r.2
   |_=>none
 |op=>match Zmg E.T op with
  |true=>xqK E.T op (Zbn f) h fun v=>Zcg E.T o.dst o.type v fun v=>K v h
  |false=>xlK E.T op (Zbn f) h fun v h=>Zcg E.T o.dst o.type v fun v=>K v h
theorem ZmK (T:Tab) (d:Option Nat) (t:Nat) (v:AVal) (K:AVal→Option R):Zcg T d t v K = (Zcg T d t v some).bind K:=by
 rw[Zke,Zke,Option.bind_assoc];rfl
theorem Zlu {E:XE} (hN:CT.Nat E.C) (only:Bool) (o:Oper) (f:Fr) (h:Za) (K:AVal→Option R):Zek E only o f h K = (Zek E only o f h some).bind K:=by
 unfold Zek
 split
 ·split
  ·split
   ·rename_i g hg
    have hn:=hN.find hg
    rw[hn R,hn AVal _ fun v=>Zcg E.T o.dst o.type v some,Option.bind_assoc]
    congr 1;funext v
    exact ZmK ..
   ·rename_i g hg
    have hn:=hN.find hg
    cases only with
    |true=>rfl
    |false=>
     simp only
     rw[hn R,hn AVal _ _ fun v=>Zcg E.T o.dst o.type v some,Option.bind_assoc]
     congr 1;funext v
     exact ZmK ..
   ·cases only with
    |true=>rfl
    |false=>
     simp only
     rw[Option.bind_assoc]
     congr 1;funext r
     rw[Option.bind_assoc]
     congr 1;funext u
     exact ZmK ..
   ·rfl
  ·rfl
 ·split
  ·rw[Zg6,Zg6,Option.bind_assoc]
   congr 1;funext v
   exact ZmK ..
  ·rfl
theorem Zie (T:Tab) (d:Option Nat) (t:Nat) (v:AVal) (h:Za) (K:AVal→Za→Option R):(Zcg T d t v fun v=>K v h) = (Zcg T d t v fun v=>mkP v h).bind fun r=>K r.1 r.2:=by
 rw[Zke,Zke,Option.bind_assoc];rfl
theorem Zlt {E:XE} (hN:CT.Nat E.C) (o:Oper) (f:Fr) (h:Za) (K:AVal→Za→Option R):Zdd E o f h K = (Zdd E o f h mkP).bind fun r=>K r.1 r.2:=by
 unfold Zdd
 split
 ·split
  ·split
   ·rename_i g hg
    have hn:=hN.find hg
    rw[hn R,hn (AVal×Za) _ fun v=>Zcg E.T o.dst o.type v fun v=>mkP v h,Option.bind_assoc]
    congr 1;funext v
    exact Zie ..
   ·rename_i g hg
    have hn:=hN.find hg
    rw[hn R,hn (AVal×Za) _ _ fun v=>Zcg E.T o.dst o.type v fun v=>mkP v h,Option.bind_assoc]
    congr 1;funext v
    exact Zie ..
   ·rename_i g hg
    have hn:=hN.find hg
    rw[hn R,hn (AVal×Za) _ _ fun v h=>Zcg E.T o.dst o.type v fun v=>mkP v h,Option.bind_assoc]
    congr 1;funext v
    exact Zie ..
   ·rfl
  ·rw[Option.bind_assoc]
   congr 1;funext r
   exact Zie ..
  ·rfl
 ·split
  ·rw[Zg6,Zg6,Option.bind_assoc]
   congr 1;funext v
   exact Zie ..
  ·rw[Zly,Zly,Option.bind_assoc]
   congr 1;funext v
   exact Zie ..
def Zbs (n:Nat) (f:Fr) (d:Option Nat) (v:AVal) (K:Fr→Option R):Option R:=match d with
 |none=>K f
 |some d=>match Nat.blt d n with
  |true=>K ((d,v) :: f)
  |false=>none
theorem ZbA (n:Nat) (f:Fr) (d:Option Nat) (v:AVal) (K:Fr→Option R):Zbs n f d v K = (Zm6 n f d v).bind K:=by
 cases d with
 |none=>rfl
 |some d=>unfold Zbs Zm6;simp only;cases Nat.blt d n<;>rfl
noncomputable def Zde (ops:Array Oper) (o:Oper) (f:Fr) (yes no:Fr→Option R):Option R:=match o.guard with
 |none=>yes f
 |some (j,want)=>match (ops[j]?).bind (·.dst) with
  |some d=>match f.get d with
   | .lit (.bool b)=>cond b (cond want (yes ((d,.lit (.bool true)) :: f)) (no ((d,.lit (.bool true)) :: f))) (cond want (no ((d,.lit (.bool false)) :: f)) (yes ((d,.lit (.bool false)) :: f)))
   | .lit (.tuple _)=>no f
   |_=>none
  |none=>none
noncomputable def ZdQ {R:Type} (E:XE) (rid:Nat) (ops:Array Oper) (l:List Oper):Nat→Fr→Za→(Fr→Za→Option R)→Option R:=
 List.rec (motive:=fun _=>Nat→Fr→Za→(Fr→Za→Option R)→Option R) (fun _ f h K=>K f h) (fun o _ ih i f h K=>Zde ops o f
   (fun f=>Zdd E o f h fun v h=>Zbs E.n f o.dst v fun f=>ih (i + 1) (Zct f (findN E.Mo (rid * 1000 + (i + 1)))) h K)
   (fun f=>Zbs E.n f o.dst Zc4 fun f=>ih (i + 1) (Zct f (findN E.Mo (rid * 1000 + (i + 1)))) h K)) l
noncomputable def joF:{ g:∀ R:Type,XE→Nat→Array Oper→List Oper→Nat→Fr→Za→(Fr→Za→Option R)→Option R // ∀ R E rid ops l i f h K,g R E rid ops l i f h K = ZdQ E rid ops l i f h K}:=
 Classical.choice ⟨⟨fun R E rid ops l i f h K=>ZdQ E rid ops l i f h K,fun _ _ _ _ _ _ _ _ _=>rfl⟩⟩
noncomputable def jo {R:Type} (E:XE) (rid:Nat) (ops:Array Oper) (l:List Oper) (i:Nat) (f:Fr) (h:Za) (K:Fr→Za→Option R):Option R:=joF.1 R E rid ops l i f h K
theorem ZuO {R:Type} (E:XE) (rid:Nat) (ops:Array Oper) (l:List Oper) (i:Nat) (f:Fr) (h:Za) (K:Fr→Za→Option R):jo E rid ops l i f h K = ZdQ E rid ops l i f h K:=joF.2 R E rid ops l i f h K
noncomputable def Zij {R:Type} (E:XE) (rid:Nat) (ops:Array Oper) (l:List Oper) (m:Option (List Nat)) (i:Nat) (f:Fr) (h:Za) (K:Fr→Za→Option R) (go:Fr→Option R):Option R:=match m with
 |none=>go f
 |some ks=>jo E rid ops l i (Zha f ks) h K
noncomputable def Zcc (E:XE) (rid:Nat) (ops:Array Oper) (l:List Oper):Nat→Fr→Za→(Fr→Za→Option R)→Option R:=
 List.rec (motive:=fun _=>Nat→Fr→Za→(Fr→Za→Option R)→Option R) (fun _ f h K=>K f h) (fun o rest ih i f h K=>Zde ops o f
   (fun f=>Zdd E o f h fun v h=>Zbs E.n f o.dst v fun f=>Zij E rid ops rest (findN E.Mo (rid * 1000 + (i + 1))) (i + 1) f h K fun f=>ih (i + 1) f h K)
   (fun f=>Zbs E.n f o.dst Zc4 fun f=>Zij E rid ops rest (findN E.Mo (rid * 1000 + (i + 1))) (i + 1) f h K fun f=>ih (i + 1) f h K)) l
theorem Zye (E:XE) (rid:Nat) (ops:Array Oper) (o:Oper) (rest:List Oper) (i:Nat) (f:Fr) (h:Za) (K:Fr→Za→Option R):ZdQ E rid ops (o :: rest) i f h K = Zde ops o f
   (fun f=>Zdd E o f h fun v h=>Zbs E.n f o.dst v fun f=>ZdQ E rid ops rest (i + 1) (Zct f (findN E.Mo (rid * 1000 + (i + 1)))) h K)
   (fun f=>Zbs E.n f o.dst Zc4 fun f=>ZdQ E rid ops rest (i + 1) (Zct f (findN E.Mo (rid * 1000 + (i + 1)))) h K):=rfl
theorem Z44 (E:XE) (rid:Nat) (ops:Array Oper) (l:List Oper) (m:Option (List Nat)) (i:Nat) (f:Fr) (h:Za) (K:Fr→Za→Option R) (go:Fr→Option R) (hg:∀ f,go f = ZdQ E rid ops l i f h K):Zij E rid ops l m i f h K go = ZdQ E rid ops l i (Zct f m) h K:=by
 cases m with
 |none=>exact hg f
 |some ks=>exact ZuO ..
theorem Zlw {E:XE} {rid:Nat} {ops:Array Oper}:∀ (l:List Oper) (i:Nat) (f:Fr) (h:Za) (K:Fr→Za→Option R),ZdQ E rid ops l i f h K = Zcc E rid ops l i f h K
 | [],_,_,_,_=>rfl
 |o :: rest,i,f,h,K=>by
  show Zde ops o f (fun f=>Zdd E o f h fun v h=>Zbs E.n f o.dst v fun f=>ZdQ E rid ops rest (i + 1) (Zct f (findN E.Mo (rid * 1000 + (i + 1)))) h K)
   (fun f=>Zbs E.n f o.dst Zc4 fun f=>ZdQ E rid ops rest (i + 1) (Zct f (findN E.Mo (rid * 1000 + (i + 1)))) h K) =
   Zde ops o f (fun f=>Zdd E o f h fun v h=>Zbs E.n f o.dst v fun f=>Zij E rid ops rest (findN E.Mo (rid * 1000 + (i + 1))) (i + 1) f h K fun f=>Zcc E rid ops rest (i + 1) f h K)
   (fun f=>Zbs E.n f o.dst Zc4 fun f=>Zij E rid ops rest (findN E.Mo (rid * 1000 + (i + 1))) (i + 1) f h K fun f=>Zcc E rid ops rest (i + 1) f h K)
  have e:∀ f h,Zij E rid ops rest (findN E.Mo (rid * 1000 + (i + 1))) (i + 1) f h K (fun f=>Zcc E rid ops rest (i + 1) f h K) = ZdQ E rid ops rest (i + 1) (Zct f (findN E.Mo (rid * 1000 + (i + 1)))) h K:=
   fun f h=>Z44 _ _ _ _ _ _ _ _ _ _ fun f=>(Zlw rest _ _ _ _).symm
  simp only[e]
theorem ZV (E:XE) (rid:Nat) (ops:Array Oper) (l:List Oper) (i:Nat) (f:Fr) (h:Za) (K:Fr→Za→Option R):jo E rid ops l i f h K = Zcc E rid ops l i f h K:=(ZuO ..).trans (Zlw ..)
theorem Zoe (E:XE) (rid:Nat) (ops:Array Oper) (o:Oper) (rest:List Oper) (i:Nat) (f:Fr) (h:Za) (K:Fr→Za→Option R):Zcc E rid ops (o :: rest) i f h K = Zde ops o f
   (fun f=>Zdd E o f h fun v h=>Zbs E.n f o.dst v fun f=>Zcc E rid ops rest (i + 1) (Zct f (findN E.Mo (rid * 1000 + (i + 1)))) h K)
   (fun f=>Zbs E.n f o.dst Zc4 fun f=>Zcc E rid ops rest (i + 1) (Zct f (findN E.Mo (rid * 1000 + (i + 1)))) h K):=by
 rw[←Zlw,Zye]
 simp only[Zlw]
abbrev Pd:=List (Nat×Option Nat×AMk×List AVal)
def ZhN:Pd→Nat→Option (Option Nat×AMk×List AVal)
 | [],_=>none
 | (i,d,m,cs) :: p,j=>match Nat.beq i j with
   |true=>some (d,m,cs)
   |false=>ZhN p j
def ZdU:Pd→Nat→List AVal→Pd
 | [],_,_=>[]
 | (i,d,m,cs) :: p,j,cs'=>match Nat.beq i j with
   |true=>(i,d,m,cs') :: p
   |false=>(i,d,m,cs) :: ZdU p j cs'
def Zt7 (cs:List AVal) (x:AVal):Option (List AVal):=(req (x.one = true∧cs.length = 1)).bind fun _=>some [x]
def Zt6 (n:Nat) (cs vs:List AVal):Option (List AVal):=(req (vs.all (·.one) = true∧n = vs.length∧cs.length = n)).bind fun _=>some vs
def ZiV (T:Tab) (t:Nat) (x:AVal) (cs:List AVal) (K:List AVal→Option R):Option R:=match T.agg t,T.siz t with
 |some false,some 1=>(Zt7 cs x).bind K
 |some true,some n=>x.parts.bind fun vs=>(Zt6 n cs vs).bind K
 |_,_=>none
theorem ZxY (T:Tab) (t:Nat) (x:AVal) (cs:List AVal) (K:List AVal→Option R):ZiV T t x cs K = (ZiV T t x cs some).bind K:=by
 unfold ZiV
 rcases T.agg t with _ |b
 ·rfl
 ·rcases T.siz t with _ |n
  ·cases b<;>rfl
  ·cases b
   ·rcases n with _ |_ |n<;>first |rfl |simp
   ·simp[Option.bind_assoc]
def Zu4 (y:Operand) (d:Nat):Bool:=match y with
 | .tmp e=>!(Nat.beq e d)
 |_=>true
def ZfJ (T:Tab) (n:Nat) (o:Oper) (g:Operand→AVal) (q:Option (Option Nat×AMk×List AVal)) (K:List AVal→Option R):Option R:=match o.op with
 | .store t (.tmp e) y=>match q with
   |some (some d,.ptr,cs)=>match Nat.beq e d && Zu4 y d && Nat.blt d n && o.dst.isNone with
    |true=>ZiV T t (g y) cs K
    |false=>none
   |_=>none
 |_=>none
theorem ZnX (T:Tab) (n:Nat) (o:Oper) (g:Operand→AVal) (q:Option (Option Nat×AMk×List AVal)) (K:List AVal→Option R):ZfJ T n o g q K = (ZfJ T n o g q some).bind K:=by
 unfold ZfJ
 split
 ·split
  ·split
   ·exact ZxY ..
   ·rfl
  ·rfl
 ·rfl
def ZhG (A:List Nat) (cs:List AVal):Bool:=match Nat.ble 2 A.length with
 |true=>ZeB cs
 |false=>true
noncomputable def ZbS (E:XE) (ops:Array Oper) (A:List Nat) (S:Sts) (h:Za) (l:List Nat):Fr→Pd→(Fr→Pd→Option R)→Option R:=
 List.rec (motive:=fun _=>Fr→Pd→(Fr→Pd→Option R)→Option R) (fun f p K=>K f p) (fun i _ ih f p K=>match ops[i]? with
  |some o=>Zde ops o f
   (fun f=>match Zc8 S i with
    |some j=>ZfJ E.T E.n o (Zbn f) (ZhN p j) fun cs=>ih f (ZdU p j cs) K
    |none=>match A.contains i with
     |true=>xA E.T o.op (Zbn f) fun m cs=>cond (ZhG A cs) (Zbs E.n f o.dst .any fun f=>ih f (p++[(i,o.dst,m,cs)]) K) none
     |false=>Zek E (!A.isEmpty) o f h fun v=>Zbs E.n f o.dst v fun f=>ih f p K)
   (fun f=>Zbs E.n f o.dst Zc4 fun f=>ih f p K)
  |none=>none) l
theorem Zof (E:XE) (ops:Array Oper) (A:List Nat) (S:Sts) (h:Za) (i:Nat) (rest:List Nat) (f:Fr) (p:Pd) (K:Fr→Pd→Option R):ZbS E ops A S h (i :: rest) f p K = match ops[i]? with
  |some o=>Zde ops o f
   (fun f=>match Zc8 S i with
    |some j=>ZfJ E.T E.n o (Zbn f) (ZhN p j) fun cs=>ZbS E ops A S h rest f (ZdU p j cs) K
    |none=>match A.contains i with
     |true=>xA E.T o.op (Zbn f) fun m cs=>cond (ZhG A cs) (Zbs E.n f o.dst .any fun f=>ZbS E ops A S h rest f (p++[(i,o.dst,m,cs)]) K) none
     |false=>Zek E (!A.isEmpty) o f h fun v=>Zbs E.n f o.dst v fun f=>ZbS E ops A S h rest f p K)
   (fun f=>Zbs E.n f o.dst Zc4 fun f=>ZbS E ops A S h rest f p K)
  |none=>none:=rfl
noncomputable def ZlX (E:XE) (fv:Operand):Bool:=match fv with
 | .func i=>match findN E.C i with
   |some (.p _)=>true
   |some (.q _)=>true
   |_=>false
 |_=>false
noncomputable def ZfS (E:XE) (o:Oper) (f:Fr):Bool:=match o.op with
 | .call { callee:=.value fv, .. }=>ZlX E fv
 |op=>Zmg E.T op
theorem Z0o {E:XE} {f:Fr} {fv:Operand} {i:Nat} {vs ws:List AVal} (hf:Zbn f fv = .fn (.func i) vs ws) (hs:ZlX E fv = true) (hp:∀ g,findN E.C i≠some (.p g)) (hq:∀ g,findN E.C i≠some (.q g)):False:=by
 unfold ZlX at hs
 split at hs
 ·rename_i j
  have e:Zbn f (.func j) = .fn (.func j) [] []:=rfl
  rw[e] at hf;cases hf
  split at hs
  ·rename_i g hg;exact hp g hg
  ·rename_i g hg;exact hq g hg
  ·cases hs
 ·cases hs
noncomputable def Zel (E:XE) (ops:Array Oper) (h:Za) (l:List Nat):Fr→List (Nat×AVal)→(Fr→List (Nat×AVal)→Option R)→Option R:=
 List.rec (motive:=fun _=>Fr→List (Nat×AVal)→(Fr→List (Nat×AVal)→Option R)→Option R) (fun f ls K=>K f ls) (fun i _ ih f ls K=>match ops[i]? with
  |some o=>match o.guard with
   |none=>Zek E false o f h fun v=>Zbs E.n f o.dst v fun f=>ih f (ls++[(i,v)]) K
   |some _=>none
  |none=>none) l
theorem Zob (E:XE) (ops:Array Oper) (h:Za) (i:Nat) (rest:List Nat) (f:Fr) (ls:List (Nat×AVal)) (K:Fr→List (Nat×AVal)→Option R):Zel E ops h (i :: rest) f ls K = match ops[i]? with
  |some o=>match o.guard with
   |none=>Zek E false o f h fun v=>Zbs E.n f o.dst v fun f=>Zel E ops h rest f (ls++[(i,v)]) K
   |some _=>none
  |none=>none:=rfl
noncomputable def ZfM (E:XE) (ops:Array Oper) (f:Fr) (h:Za) (K:Option R) (ls:List (Nat×AVal)):Option R:=
 List.rec (motive:=fun _=>Option R) K (fun r _ ih=>match ops[r.1]? with
  |some o=>match ZgZ o.op with
   |true=>ih
   |false=>(ZcV (Zek E false o f h some = some r.2)).bind fun _=>ih
  |none=>none) ls
theorem Zoo (E:XE) (ops:Array Oper) (f:Fr) (h:Za) (K:Option R) (r:Nat×AVal) (ls:List (Nat×AVal)):ZfM E ops f h K (r :: ls) = match ops[r.1]? with
  |some o=>match ZgZ o.op with
   |true=>ZfM E ops f h K ls
   |false=>(ZcV (Zek E false o f h some = some r.2)).bind fun _=>ZfM E ops f h K ls
  |none=>none:=rfl
noncomputable def Zd0 (E:XE) (ops:Array Oper) (T:TP):List (Nat×AVal)→Fr→Za→(Fr→Za→Option R)→Option R:=
 List.rec (motive:=fun _=>List (Nat×AVal)→Fr→Za→(Fr→Za→Option R)→Option R) (fun _ f h K=>K f h) (fun x _ ih ls f h K=>match ops[x.1]? with
  |some o=>Zde ops o f
   (fun f=>Zdd E o f h fun v h'=>Zbs E.n f o.dst v fun f'=>match ZfS E o f with
    |true=>ih (ZbU x.2 ls) f' h' K
    |false=>ZfM E ops f' h' (ih (ZbU x.2 ls) f' h' K) (ZbU x.2 ls))
   (fun f=>Zbs E.n f o.dst Zc4 fun f=>ih (ZbU x.2 ls) f h K)
  |none=>none) T
theorem Zog (E:XE) (ops:Array Oper) (x:Nat×List Nat) (T:TP) (ls:List (Nat×AVal)) (f:Fr) (h:Za) (K:Fr→Za→Option R):Zd0 E ops (x :: T) ls f h K = match ops[x.1]? with
  |some o=>Zde ops o f
   (fun f=>Zdd E o f h fun v h'=>Zbs E.n f o.dst v fun f'=>match ZfS E o f with
    |true=>Zd0 E ops T (ZbU x.2 ls) f' h' K
    |false=>ZfM E ops f' h' (Zd0 E ops T (ZbU x.2 ls) f' h' K) (ZbU x.2 ls))
   (fun f=>Zbs E.n f o.dst Zc4 fun f=>Zd0 E ops T (ZbU x.2 ls) f h K)
  |none=>none:=rfl
def Zg7 (T:Tab) (o:Oper) (g:Operand→AVal) (K:AVal→Option R):Option R:=match o.guard with
 |some _=>none
 |none=>match o.op with
  | .move x=>K (g x)
  | .assign x=>K (g x)
  | .binOp op t x y _=>match g x,g y with
    | .lit (.int k a),.lit (.int k' b)=>Zl4 T op t x y (.lit (.int k a)) (.lit (.int k' b)) K
    |_,_=>none
  |_=>none
theorem Zom (T:Tab) (o:Oper) (g:Operand→AVal) (K:AVal→Option R):Zg7 T o g K = (Zg7 T o g some).bind K:=by
 unfold Zg7
 split
 ·rfl
 ·split
  ·rfl
  ·rfl
  ·split
   ·rw[Zl3,Zl3,Option.bind_assoc];rfl
   ·rfl
  ·rfl
noncomputable def Zdn (T:Tab) (n:Nat) (ops:Array Oper) (l:List Nat):Fr→(Fr→Option R)→Option R:=
 List.rec (motive:=fun _=>Fr→(Fr→Option R)→Option R) (fun f K=>K f) (fun i _ ih f K=>match ops[i]? with
  |some o=>Zg7 T o (Zbn f) fun v=>Zbs n f o.dst v fun f=>ih f K
  |none=>none) l
theorem Zol (T:Tab) (n:Nat) (ops:Array Oper) (i:Nat) (rest:List Nat) (f:Fr) (K:Fr→Option R):Zdn T n ops (i :: rest) f K = match ops[i]? with
  |some o=>Zg7 T o (Zbn f) fun v=>Zbs n f o.dst v fun f=>Zdn T n ops rest f K
  |none=>none:=rfl
def ZhM:Pd→List AObj
 | []=>[]
 | (_,_,_,cs) :: p=>.cells cs :: ZhM p
def ZeT (h:Za) (p:Pd):Za:=match p with
 | []=>h
 |x :: p=>h++ZhM (x :: p)
theorem Z13 (h:Za) (p:Pd):ZeT h p = h++ZhM p:=by
 cases p with
 |nil=>simp[ZeT,ZhM]
 |cons x p=>rfl
def Zd6 (n:Nat):Pd→Nat→Fr→(Fr→Option R)→Option R
 | [],_,f,K=>K f
 | (_,d,m,_) :: p,b,f,K=>Zbs n f d (m.val b) fun f=>Zd6 n p (b + 1) f K
end step
end Go.Proofs.YtogaiomakhapmaaGreat.AL
namespace Go.Proofs.YtogaiomakhapmaaGreat.AL
open Go
variable {ρ ρ':Env} {h h':Za} {w w':World} {P:Program}
theorem Z3P {T:Tab} {d:Option Nat} {t:Nat} {v v':AVal} (hc:ZqW T d t v = some v'):v' = v:=by
 unfold ZqW at hc
 split at hc
 ·cases hc;rfl
 ·exact Zv0 hc
theorem ZcZ {R:Type} {T:Tab} {d:Option Nat} {t:Nat} {v:AVal} {K:AVal→Option R} {r:R} (hc:Zcg T d t v K = some r):K v = some r:=by
 rw[Zke] at hc
 obtain ⟨v',h1,h2⟩:=Option.bind_eq_some_iff.1 hc
 rw[Z3P h1] at h2;exact h2
def Zrq (P:Program) (b:Nat) (Y:XP):Prop:=∀ args h v h',Y args h = some (v,h')→AYield P b args h fun e g=>e = .ret v∧g = h'
def XI.Ok (P:Program) (i:FuncId) (I:XI):Prop:=Zd P i = true∧∀ Y:Nat→XP,(∀ b,Zrq P b (Y b))→∀ args h v h',I Y args h = some (v,h')→ACalls P i args h fun e g=>e = .ret v∧g = h'
def ITOk (P:Program):List (Nat×XI)→Prop
 | []=>True
 | (i,I) :: l=>XI.Ok P i I∧ITOk P l
theorem ITOk.find {P:Program}:∀ {C:List (Nat×XI)} {i:Nat} {c:XI},ITOk P C→findN C i = some c→XI.Ok P i c
 | [],i,c,_,h=>by cases h
 | (k,x) :: l,i,c,hC,h=>by
   rcases findN_some h with ⟨rfl,rfl⟩ |h
   ·exact hC.1
   ·exact ITOk.find hC.2 h
theorem Zq {P:Program}:∀ b:Nat,Zrq P b ((fun _ _ _=>none:Nat→XP) b):=fun b args h v h' hx=>by cases hx
structure XE.Ok (E:XE) (P:Program):Prop where
 T:E.T.Ok P
 C:CT.Ok P E.C
 Y:∀ b,Zrq P b (E.Y b)
 I:ITOk P E.I
theorem ZxZ {R:Type} {E:XE} (hE:E.Ok P) {o:Oper} {f:Fr} {K0:AVal→Za→Option R} {r:R} {K:List AVal→Za→Prop} {Q:AQ} (hw:f.Wf E.n) (hs:Zdd E o f h K0 = some r)
  (hK:∀ v h',K0 v h' = some r→K (Zh (f.lst E.n) o.dst v) h'):ZcB P o (f.lst E.n) h K Q:=by
 unfold Zdd at hs
 unfold ZcB
 have ev:=Zgp hw
 have plain:(match Zmg E.T o.op with
  |true=>xqK E.T o.op (Zbn f) h fun v=>Zcg E.T o.dst o.type v fun v=>K0 v h
  |false=>xlK E.T o.op (Zbn f) h fun v h=>Zcg E.T o.dst o.type v fun v=>K0 v h) = some r→AOp P o.op o.type (f.lst E.n) h fun v h'=>K (Zh (f.lst E.n) o.dst v) h':=by
  intro hs
  split at hs
  ·rw[Zg6] at hs
   obtain ⟨v,h1,hs⟩:=Option.bind_eq_some_iff.1 hs
   exact Zod hE.T (by rw[ev];exact h1) (hK _ _ (ZcZ hs))
  ·rw[Zly] at hs
   obtain ⟨v,h1,hs⟩:=Option.bind_eq_some_iff.1 hs
   exact Zs6 hE.T (by rw[ev];exact h1) (hK _ _ (ZcZ hs))
 split
 ·rename_i fv args tys he
  simp only[he] at hs
  unfold Zg5
  rw[ev]
  split at hs
  ·rename_i i vs ws hf
   simp only[hf]
   have evs_eq:evs (f.lst E.n) args = Zcf (Zbn f) args:=by unfold evs Zcf;rw[ev]
   split at hs
   ·rename_i g hg
    obtain ⟨hn,hc⟩:=hE.C.find hg
    rw[hn] at hs
    obtain ⟨v,h1,hs⟩:=Option.bind_eq_some_iff.1 hs
    refine ⟨hc.1,?_⟩
    rw[evs_eq]
    refine (hc.2 _ h _ h1).mono ?_
    rintro e h' ⟨rfl,rfl⟩
    exact hK _ _ (ZcZ hs)
   ·rename_i g hg
    obtain ⟨hn,hc⟩:=hE.C.find hg
    rw[hn] at hs
    obtain ⟨v,h1,hs⟩:=Option.bind_eq_some_iff.1 hs
    refine ⟨hc.1,?_⟩
    rw[evs_eq]
    refine (hc.2 _ _ _ h1).mono ?_
    rintro e h' ⟨rfl,rfl⟩
    exact hK _ _ (ZcZ hs)
   ·rename_i g hg
    obtain ⟨hn,hc⟩:=hE.C.find hg
    rw[hn] at hs
    obtain ⟨r',h1,hs⟩:=Option.bind_eq_some_iff.1 hs
    refine ⟨hc.1,?_⟩
    rw[evs_eq]
    refine (hc.2 _ _ _ _ h1).mono ?_
    rintro e h' ⟨rfl,rfl⟩
    exact hK _ _ (ZcZ hs)
   ·cases hs
  ·rename_i b hf
   simp only[hf]
   have evs_eq:evs (f.lst E.n) args = Zcf (Zbn f) args:=by unfold evs Zcf;rw[ev]
   obtain ⟨r',h1,hs⟩:=Option.bind_eq_some_iff.1 hs
   rw[evs_eq]
   refine (hE.Y b _ _ _ _ h1).mono ?_
   rintro e h' ⟨rfl,rfl⟩
   exact hK _ _ (ZcZ hs)
  ·cases hs
 ·rename_i hn
  refine plain ?_
  split at hs
  ·rename_i he;exact (hn _ _ _ he).elim
  ·exact hs
theorem ZnY {R:Type} {E:XE} (hE:E.Ok P) {only:Bool} {o:Oper} {f:Fr} {K0:AVal→Option R} {r:R} (hw:f.Wf E.n) (hs:Zek E only o f h K0 = some r):
  ∃ v,K0 v = some r∧∀ e:Za,(only = false→e = [])→Zcq P o (f.lst E.n) (h++e) v:=by
 unfold Zek at hs
 unfold Zcq
 have ev:=Zgp hw
 split
 ·rename_i fv args tys he
  simp only[he] at hs
  rw[ev]
  split at hs
  ·rename_i i vs ws hf
   simp only[hf]
   have evs_eq:evs (f.lst E.n) args = Zcf (Zbn f) args:=by unfold evs Zcf;rw[ev]
   split at hs
   ·rename_i g hg
    obtain ⟨hn,hc⟩:=hE.C.find hg
    rw[hn] at hs
    obtain ⟨v,h1,hs⟩:=Option.bind_eq_some_iff.1 hs
    refine ⟨v,ZcZ hs,fun e _=>⟨hc.1,?_⟩⟩
    rw[evs_eq]
    exact hc.2 _ _ _ h1
   ·rename_i g hg
    obtain ⟨hn,hc⟩:=hE.C.find hg
    cases only with
    |true=>cases hs
    |false=>
     simp only at hs
     rw[hn] at hs
     obtain ⟨v,h1,hs⟩:=Option.bind_eq_some_iff.1 hs
     refine ⟨v,ZcZ hs,fun e he=>⟨hc.1,?_⟩⟩
     rw[evs_eq,he rfl,List.append_nil]
     exact hc.2 _ _ _ h1
   ·rename_i g hg
    obtain ⟨hn,hc⟩:=hE.C.find hg
    cases only with
    |true=>cases hs
    |false=>
     simp only at hs
     obtain ⟨⟨v,h'⟩,h1,hs1⟩:=Option.bind_eq_some_iff.1 hs
     obtain ⟨_,hq,hs2⟩:=Option.bind_eq_some_iff.1 hs1
     have hq':h' = h:=Zme hq
     subst hq'
     refine ⟨v,ZcZ hs2,fun e he=>⟨hc.1,?_⟩⟩
     rw[evs_eq,he rfl,List.append_nil]
     exact hc.2 _ _ _ _ h1
   ·cases hs
  ·cases hs
 ·rename_i hn
  split at hs
  ·rename_i he;exact (hn _ _ _ he).elim
  ·split at hs
   ·rw[Zg6] at hs
    obtain ⟨v,h1,hs⟩:=Option.bind_eq_some_iff.1 hs
    exact ⟨v,ZcZ hs,fun e _=>Zod hE.T (by rw[ev];exact Zyd e h1) ⟨rfl,rfl⟩⟩
   ·cases hs
theorem ZuH {n d:Nat} {f:Fr} {v:AVal} (hg:f.get d = v):Fr.lst n ((d,v) :: f) = f.lst n:=by
 unfold Fr.lst
 refine List.map_congr_left fun i _=>?_
 rw[Fr.get_cons]
 by_cases h:i = d
 ·subst h;rw[if_pos rfl];exact hg.symm
 ·rw[if_neg h]
theorem ZsR {n d:Nat} {f:Fr} {v:AVal} (hg:f.get d = v) (hw:f.Wf n):Fr.Wf n ((d,v) :: f):=by
 intro t ht
 rw[Fr.get_cons]
 by_cases h:t = d
 ·subst h;rw[if_pos rfl,←hg];exact hw _ ht
 ·rw[if_neg h];exact hw _ ht
theorem Zoh {R:Type} {n:Nat} {ops:Array Oper} {o:Oper} {f:Fr} {yes no:Fr→Option R} {r:R} (hw:f.Wf n) (hx:Zde ops o f yes no = some r):
  ∃ g:Fr,g.Wf n∧g.lst n = f.lst n∧((Zc1 ops o (f.lst n) = some true∧yes g = some r)∨(Zc1 ops o (f.lst n) = some false∧no g = some r)):=by
 unfold Zde at hx;unfold Zc1
 rcases hg:o.guard with _ | ⟨j,want⟩
 ·simp only[hg] at hx⊢;exact ⟨f,hw,rfl,.inl ⟨by first |trivial |rfl,hx⟩⟩
 ·simp only[hg] at hx⊢
  rcases hd:(ops[j]?).bind (·.dst) with _ |d
  ·simp[hd] at hx
  ·simp only[hd] at hx⊢
   rw[Zio hw]
   split at hx
   ·rename_i b hb
    simp only[hb]
    cases b with
    |true=>
     refine ⟨_,ZsR hb hw,ZuH (n:=n) hb,?_⟩
     cases want with
     |true=>exact .inl ⟨rfl,hx⟩
     |false=>exact .inr ⟨rfl,hx⟩
    |false=>
     refine ⟨_,ZsR hb hw,ZuH (n:=n) hb,?_⟩
     cases want with
     |true=>exact .inr ⟨rfl,hx⟩
     |false=>exact .inl ⟨rfl,hx⟩
   ·rename_i us hb
    simp only[hb]
    exact ⟨f,hw,rfl,.inr ⟨by first |trivial |rfl,hx⟩⟩
   ·cases hx
theorem Zlv {R:Type} {E:XE} (hE:E.Ok P) {rid:Nat} {ops:Array Oper} {Q:AQ} {K:Fr→Za→Option R} {r:R} (hQ:∀ f h,f.Wf E.n→K f h = some r→Q .normal (f.lst E.n) h):
  ∀ (l:List Oper) (i:Nat) (f f0:Fr) (h:Za),f.Wf E.n→Weak (f0.lst E.n) (f.lst E.n)→Zcc E rid ops l i f h K = some r→Zgr P ops Q l (f0.lst E.n) h
 | [],i,f,f0,h,hw,hwk,hx=>⟨_,hwk,hQ f h hw hx⟩
 |o :: rest,i,f,f0,h,hw,hwk,hx=>by
  refine ⟨f.lst E.n,hwk,?_⟩
  rw[Zoe] at hx
  obtain ⟨g,hg,hl,hx⟩:=Zoh hw hx
  rcases hx with ⟨hw2,hx⟩ | ⟨hw2,hx⟩
  ·refine .inl ⟨hw2,?_⟩
   rw[←hl]
   refine ZxZ hE hg hx fun v h' hx=>?_
   rw[ZbA] at hx
   obtain ⟨f',h2,hx⟩:=Option.bind_eq_some_iff.1 hx
   obtain ⟨e1,e2⟩:=Ze6 h2 hg
   rw[←e1]
   exact Zlv hE hQ rest (i + 1) _ f' _ (ZhU e2 _) (ZhV _ _ _) hx
  ·refine .inr ⟨hw2,?_⟩
   rw[ZbA] at hx
   obtain ⟨f',h2,hx⟩:=Option.bind_eq_some_iff.1 hx
   obtain ⟨e1,e2⟩:=Ze6 h2 hg
   rw[←hl,←e1]
   exact Zlv hE hQ rest (i + 1) _ f' _ (ZhU e2 _) (ZhV _ _ _) hx
theorem Zya {R:Type} {E:XE} (hE:E.Ok P) {o:Oper} {f:Fr} {K0:AVal→Za→Option R} {r:R} {K:AVal→Za→Prop} (hw:f.Wf E.n) (hs:Zdd E o f h K0 = some r)
  (hK:∀ v h',(ZfS E o f = true→h' = h)→K0 v h' = some r→K v h'):Zg4 P o (f.lst E.n) h K:=by
 unfold Zdd at hs
 unfold Zg4
 have ev:=Zgp hw
 split
 ·rename_i fv args tys he
  simp only[he] at hs
  rw[ev]
  split at hs
  ·rename_i i vs ws hf
   simp only[hf]
   have evs_eq:evs (f.lst E.n) args = Zcf (Zbn f) args:=by unfold evs Zcf;rw[ev]
   split at hs
   ·rename_i g hg
    obtain ⟨hn,hc⟩:=hE.C.find hg
    rw[hn] at hs
    obtain ⟨v,h1,hs⟩:=Option.bind_eq_some_iff.1 hs
    refine ⟨hc.1,?_⟩
    rw[evs_eq]
    refine (hc.2 _ h _ h1).mono ?_
    rintro e h' ⟨rfl,rfl⟩
    exact ⟨v,rfl,hK _ _ (fun _=>rfl) (ZcZ hs)⟩
   ·rename_i g hg
    obtain ⟨hn,hc⟩:=hE.C.find hg
    rw[hn] at hs
    obtain ⟨v,h1,hs⟩:=Option.bind_eq_some_iff.1 hs
    refine ⟨hc.1,?_⟩
    rw[evs_eq]
    refine (hc.2 _ _ _ h1).mono ?_
    rintro e h' ⟨rfl,rfl⟩
    exact ⟨v,rfl,hK _ _ (fun _=>rfl) (ZcZ hs)⟩
   ·rename_i g hg
    obtain ⟨hn,hc⟩:=hE.C.find hg
    rw[hn] at hs
    obtain ⟨r',h1,hs⟩:=Option.bind_eq_some_iff.1 hs
    refine ⟨hc.1,?_⟩
    rw[evs_eq]
    refine (hc.2 _ _ _ _ h1).mono ?_
    rintro e h' ⟨rfl,rfl⟩
    refine ⟨r'.1,rfl,hK _ _ (fun hst=>?_) (ZcZ hs)⟩
    unfold ZfS at hst
    simp only[he] at hst
    exact (Z0o hf hst (fun g' h=>by rw[hg] at h;cases h) (fun g' h=>by rw[hg] at h;cases h)).elim
   ·cases hs
  ·rename_i b hf
   simp only[hf]
   have evs_eq:evs (f.lst E.n) args = Zcf (Zbn f) args:=by unfold evs Zcf;rw[ev]
   obtain ⟨r',h1,hs⟩:=Option.bind_eq_some_iff.1 hs
   rw[evs_eq]
   refine (hE.Y b _ _ _ _ h1).mono ?_
   rintro e h' ⟨rfl,rfl⟩
   refine ⟨r'.1,rfl,hK _ _ (fun hst=>?_) (ZcZ hs)⟩
   unfold ZfS at hst
   simp only[he] at hst
   unfold ZlX at hst
   split at hst
   ·rename_i j
    have e:Zbn f (.func j) = .fn (.func j) [] []:=rfl
    rw[e] at hf;cases hf
   ·cases hst
  ·cases hs
 ·rename_i hn
  split at hs
  ·rename_i he;exact (hn _ _ _ he).elim
  ·rename_i hnv
   split at hs
   ·rw[Zg6] at hs
    obtain ⟨v,h1,hs⟩:=Option.bind_eq_some_iff.1 hs
    exact Zod hE.T (by rw[ev];exact h1) (hK _ _ (fun _=>rfl) (ZcZ hs))
   ·rename_i hqb
    rw[Zly] at hs
    obtain ⟨v,h1,hs⟩:=Option.bind_eq_some_iff.1 hs
    refine Zs6 hE.T (by rw[ev];exact h1) (hK _ _ (fun hst=>?_) (ZcZ hs))
    unfold ZfS at hst
    split at hst
    ·rename_i he;exact (hn _ _ _ he).elim
    ·rw[hqb] at hst;cases hst
theorem Zon {R:Type} {E:XE} (hE:E.Ok P) {ops:Array Oper} {f:Fr} {h':Za} {K:Option R} {r:R} (hw:f.Wf E.n):∀ {ls:List (Nat×AVal)},ZfM E ops f h' K ls = some r→
  (∀ x∈ls,∃ o,ops[x.1]? = some o∧o.guard = none∧(ZgZ o.op = true→Zcq P o (f.lst E.n) h' x.2))→K = some r∧∀ x∈ls,HoldsAt P ops x (f.lst E.n) h'
 | [],hx,_=>⟨hx,fun x hm=>by cases hm⟩
 |x :: ls,hx,hf=>by
  obtain ⟨o,ho,hg,hfr⟩:=hf x (by simp)
  rw[Zoo,ho] at hx
  simp only at hx
  cases hb:ZgZ o.op with
  |true=>
   rw[hb] at hx
   obtain ⟨h1,h2⟩:=Zon hE hw hx fun y hy=>hf y (by simp[hy])
   refine ⟨h1,fun y hy=>?_⟩
   rcases List.mem_cons.1 hy with rfl |hy
   ·exact ⟨o,ho,hg,hfr hb⟩
   ·exact h2 y hy
  |false=>
   rw[hb] at hx
   obtain ⟨u,hq,hx⟩:=Option.bind_eq_some_iff.1 hx
   obtain ⟨h1,h2⟩:=Zon hE hw hx fun y hy=>hf y (by simp[hy])
   refine ⟨h1,fun y hy=>?_⟩
   rcases List.mem_cons.1 hy with rfl |hy
   ·obtain ⟨v,h3,h4⟩:=ZnY hE hw (Zme hq)
    cases h3
    have:=h4 [] (fun _=>rfl)
    rw[List.append_nil] at this
    exact ⟨o,ho,hg,this⟩
   ·exact h2 y hy
theorem ZiX {R:Type} {E:XE} (hE:E.Ok P) {ops:Array Oper} {Q:List AVal→Za→Prop} {K:Fr→Za→Option R} {r:R} (hQ:∀ f h,f.Wf E.n→K f h = some r→Q (f.lst E.n) h):
  ∀ (T:TP) (ls:List (Nat×AVal)) (f:Fr) (h:Za),(∀ k pk,(k,pk)∈T→∀ i∈pk,∃ oi ok,ops[i]? = some oi∧ops[k]? = some ok∧oi.apart ops ok = true)→f.Wf E.n→(∀ x∈ls,HoldsAt P ops x (f.lst E.n) h)→
    Zd0 E ops T ls f h K = some r→Zfj P ops Q T ls (f.lst E.n) h
 | [],ls,f,h,_,hw,_,hx=>hQ f h hw hx
 | (k,pk) :: T,ls,f,h,hsep,hw,hls,hx=>by
   rw[Zog] at hx
   cases ho:ops[k]? with
   |none=>rw[ho] at hx;cases hx
   |some o=>
    rw[ho] at hx
    simp only at hx
    refine ⟨o,ho,?_⟩
    have keep:∀ (d:Option Nat) (v:AVal),d = o.dst→∀ x∈ZbU pk ls,HoldsAt P ops x (Zh (f.lst E.n) d v) h:=fun d v hd x hx=>by
     obtain ⟨h1,h2⟩:=pendAfter_mem.1 hx
     subst hd
     refine (hls x h1).put fun oi hoi e he=>?_
     obtain ⟨oi',ok,h3,h4,h5⟩:=hsep k pk (by simp) x.1 h2
     rw[hoi] at h3;cases h3
     rw[ho] at h4;cases h4
     exact (Oper.apart_spec h5).2.2 e he
    obtain ⟨g,hg,hl,hx⟩:=Zoh hw hx
    rcases hx with ⟨hw2,hx⟩ | ⟨hw2,hx⟩
    ·refine .inl ⟨hw2,?_⟩
     rw[←hl]
     refine Zya hE hg hx fun v h' hst hx1=>?_
     rw[ZbA] at hx1
     obtain ⟨f',h2,hx2⟩:=Option.bind_eq_some_iff.1 hx1
     obtain ⟨e1,e2⟩:=Ze6 h2 hg
     have kp:=keep o.dst v rfl
     rw[←hl,←e1] at kp
     rw[←e1]
     cases hs:ZfS E o g with
     |true=>
      rw[hs] at hx2
      have:=hst hs
      subst this
      exact ⟨kp,ZiX hE hQ T _ f' _ (fun k pk hk=>hsep k pk (by simp[hk])) e2 kp hx2⟩
     |false=>
      rw[hs] at hx2
      obtain ⟨h3,h4⟩:=Zon hE e2 hx2 fun x hm=>by
       obtain ⟨oi,a1,a2,a3⟩:=kp x hm
       exact ⟨oi,a1,a2,fun hf=>Z4R hf a3⟩
      exact ⟨h4,ZiX hE hQ T _ f' h' (fun k pk hk=>hsep k pk (by simp[hk])) e2 h4 h3⟩
    ·refine .inr ⟨hw2,?_⟩
     rw[ZbA] at hx
     obtain ⟨f',h2,hx⟩:=Option.bind_eq_some_iff.1 hx
     obtain ⟨e1,e2⟩:=Ze6 h2 hg
     have kp:=keep o.dst Zc4 rfl
     refine ⟨kp,?_⟩
     rw[←hl,←e1] at kp
     rw[←hl,←e1]
     exact ZiX hE hQ T _ f' h (fun k pk hk=>hsep k pk (by simp[hk])) e2 kp hx
theorem Zoa {R:Type} {E:XE} (hE:E.Ok P) {ops:Array Oper} {Q:List AVal→Za→Prop} {T:TP} {K:Fr→List (Nat×AVal)→Option R} {r:R}
  (hQ:∀ f ls,f.Wf E.n→K f ls = some r→(∀ x∈ls,HoldsAt P ops x (f.lst E.n) h)→Zfj P ops Q T ls (f.lst E.n) h):
  ∀ (is:List Nat) (f:Fr) (ls:List (Nat×AVal)),f.Wf E.n→Zel E ops h is f ls K = some r→LRd P ops Q T h is ls (f.lst E.n)
 | [],f,ls,hw,hx=>fun hls=>hQ f ls hw hx hls
 |i :: is,f,ls,hw,hx=>by
  rw[Zob] at hx
  split at hx
  ·rename_i o ho
   split at hx
   ·rename_i hg
    obtain ⟨v,hx,h1⟩:=ZnY hE hw hx
    have h1:=h1 [] (fun _=>rfl)
    rw[List.append_nil] at h1
    rw[ZbA] at hx
    obtain ⟨f',h2,hx⟩:=Option.bind_eq_some_iff.1 hx
    obtain ⟨e1,e2⟩:=Ze6 h2 hw
    refine ⟨o,v,ho,hg,h1,?_⟩
    rw[←e1]
    exact Zoa hE hQ is f' _ e2 hx
   ·cases hx
  ·cases hx
def Zbo (ops:Array Oper) (S:Sts) (g:Gh):List Nat→Pd→Prop
 | [],p=>p = []
 |i :: A,p=>match g i with
  |some D=>∃ p',p = (i,Zbx ops i,D.how,Zcy S g i D) :: p'∧Zbo ops S g A p'
  |none=>Zbo ops S g A p
theorem Zq7 {ops:Array Oper} {S:Sts} {g:Gh}:∀ {A:List Nat} {p:Pd},Zbo ops S g A p→Ze2 S g A = ZhM p
 | [],p,h=>by unfold Zbo at h;subst h;rfl
 |i :: A,p,h=>by
  unfold Zbo at h;unfold Ze2
  split at h
  ·rename_i D hg
   obtain ⟨p',rfl,h⟩:=h
   simp only[hg,ZhM,Zq7 h]
  ·rename_i hg
   simp only[hg]
   exact Zq7 h
theorem Zq9 {R:Type} {ops:Array Oper} {S:Sts} {g:Gh} {n:Nat} {K:Fr→Option R} {r:R}:∀ {A:List Nat} {p:Pd} {b:Nat} {f:Fr},Zbo ops S g A p→f.Wf n→Zd6 n p b f K = some r→
  ∃ f':Fr,f'.Wf n∧f'.lst n = Zfz ops g A b (f.lst n)∧K f' = some r
 | [],p,b,f,h,hw,hx=>by unfold Zbo at h;subst h;exact ⟨f,hw,rfl,hx⟩
 |i :: A,p,b,f,h,hw,hx=>by
  unfold Zbo at h;unfold Zfz
  split at h
  ·rename_i D hg
   obtain ⟨p',rfl,h⟩:=h
   simp only[Zd6] at hx
   rw[ZbA] at hx
   obtain ⟨f',h2,hx⟩:=Option.bind_eq_some_iff.1 hx
   obtain ⟨e1,e2⟩:=Ze6 h2 hw
   have:=Zq9 h e2 hx
   rw[e1] at this
   simp only[hg]
   exact this
  ·rename_i hg
   simp only[hg]
   exact Zq9 h hw hx
def Zer:List Nat→List Nat→Bool
 | [],_=>true
 |_ :: _,[]=>false
 |a :: A,k :: l=>cond (Nat.beq a k) (Zer A l) (Zer (a :: A) l && !(A.contains k))
theorem ZuV {ops:Array Oper} {S:Sts} {g:Gh}:∀ {A:List Nat},(∀ k∈A,g k = none)→Zbo ops S g A []
 | [],_=>rfl
 |i :: A,h=>by unfold Zbo;rw[h i (by simp)];exact ZuV fun k hk=>h k (by simp[hk])
theorem Zm4 {ops:Array Oper} {S:Sts} {g:Gh}:∀ {A B:List Nat} {p q:Pd},Zbo ops S g A p→Zbo ops S g B q→Zbo ops S g (A++B) (p++q)
 | [],B,p,q,h,hq=>by unfold Zbo at h;subst h;exact hq
 |i :: A,B,p,q,h,hq=>by
  unfold Zbo at h
  show Zbo ops S g (i :: (A++B)) (p++q)
  unfold Zbo
  split at h
  ·rename_i D hg
   obtain ⟨p',rfl,h⟩:=h
   exact ⟨p'++q,rfl,Zm4 h hq⟩
  ·exact Zm4 h hq
theorem ZqA {ops:Array Oper} {S:Sts} {g g':Gh}:∀ {A:List Nat} {p:Pd},(∀ k∈A,g k = g' k∧∀ D,Zcy S g k D = Zcy S g' k D)→Zbo ops S g A p→Zbo ops S g' A p
 | [],p,_,h=>h
 |i :: A,p,hk,h=>by
  unfold Zbo at h⊢
  rw[←(hk i (by simp)).1]
  split at h
  ·obtain ⟨p',rfl,h⟩:=h
   exact ⟨p',by rw[(hk i (by simp)).2],ZqA (fun k hk'=>hk k (by simp[hk'])) h⟩
  ·exact ZqA (fun k hk'=>hk k (by simp[hk'])) h
theorem ZqR {S:Sts} {g:Gh} {i k:Nat} {d:Option AData} (h2:Zcr S k≠some i) (D:AData):Zcy S (ZN g i d) k D = Zcy S g k D:=by
 have e2:(Zcr S k).bind (ZN g i d) = (Zcr S k).bind g:=by
  cases hs:Zcr S k with
  |none=>rfl
  |some j=>
   rw[hs] at h2
   simp only[Option.bind_some,ZN]
   rw[if_neg (fun e=>h2 (by rw[e]))]
 unfold Zcy
 rw[e2]
theorem Zq8 {ops:Array Oper} {S:Sts} {g:Gh} {j:Nat} {d:Option Nat} {m:AMk} {cs:List AVal}:∀ {A:List Nat} {p:Pd},Zbo ops S g A p→ZhN p j = some (d,m,cs)→j∈A∧∃ D,g j = some D∧d = Zbx ops j∧m = D.how∧cs = Zcy S g j D
 | [],p,h,hp=>by unfold Zbo at h;subst h;cases hp
 |i :: A,p,h,hp=>by
  unfold Zbo at h
  split at h
  ·rename_i D hg
   obtain ⟨p',rfl,h⟩:=h
   unfold ZhN at hp
   split at hp
   ·rename_i e
    have e:=Nat.eq_of_beq_eq_true e
    subst e
    cases hp
    exact ⟨by simp,D,hg,rfl,rfl,rfl⟩
   ·obtain ⟨h1,h2⟩:=Zq8 h hp
    exact ⟨by simp[h1],h2⟩
  ·obtain ⟨h1,h2⟩:=Zq8 h hp
   exact ⟨by simp[h1],h2⟩
theorem Zup {j:Nat} {cs:List AVal}:∀ {p:Pd},(∀ x∈p,x.1≠j)→ZdU p j cs = p
 | [],_=>rfl
 | (i,d,m,c) :: p,h=>by
   unfold ZdU
   have h1:Nat.beq i j = false:=by
    cases hb:Nat.beq i j with
    |false=>rfl
    |true=>exact absurd (Nat.eq_of_beq_eq_true hb) (h (i,d,m,c) (by simp))
   rw[h1]
   simp only
   rw[Zup fun x hx=>h x (by simp[hx])]
theorem Zq6 {ops:Array Oper} {S:Sts} {g:Gh}:∀ {A:List Nat} {p:Pd},Zbo ops S g A p→∀ x∈p,x.1∈A
 | [],p,h,x,hx=>by unfold Zbo at h;subst h;cases hx
 |i :: A,p,h,x,hx=>by
  unfold Zbo at h
  split at h
  ·obtain ⟨p',rfl,h⟩:=h
   rcases List.mem_cons.1 hx with rfl |hx
   ·simp
   ·exact List.mem_cons_of_mem _ (Zq6 h x hx)
  ·exact List.mem_cons_of_mem _ (Zq6 h x hx)
theorem ZuU {ops:Array Oper} {S:Sts} {g g':Gh} {j:Nat} {cs:List AVal}:∀ {A:List Nat} {p:Pd},A.Nodup→(∀ k∈A,g k = g' k∧(k≠j→∀ D,Zcy S g k D = Zcy S g' k D))→(∀ D,Zcy S g' j D = cs)→Zbo ops S g A p→Zbo ops S g' A (ZdU p j cs)
 | [],p,_,_,_,h=>by unfold Zbo at h;subst h;exact rfl
 |i :: A,p,hn,hk,hj,h=>by
  unfold Zbo at h⊢
  rw[←(hk i (by simp)).1]
  have hn':=List.nodup_cons.1 hn
  have ih:∀ p,Zbo ops S g A p→Zbo ops S g' A (ZdU p j cs):=fun p h=>ZuU hn'.2 (fun k hk'=>hk k (by simp[hk'])) hj h
  split at h
  ·obtain ⟨p',rfl,h⟩:=h
   unfold ZdU
   cases hb:Nat.beq i j with
   |true=>
    have e:=Nat.eq_of_beq_eq_true hb
    subst e
    refine ⟨p',by rw[hj],?_⟩
    have h2:=ih p' h
    rwa [Zup] at h2
    exact fun x hx e=>hn'.1 (e ▸ Zq6 h x hx)
   |false=>
    exact ⟨ZdU p' j cs,by simp only;rw[(hk i (by simp)).2 (Nat.ne_of_beq_eq_false hb)],ih p' h⟩
  ·exact ih p h
theorem ZxX {T:Tab} (hT:T.Ok P) {n:Nat} {o:Oper} {f:Fr} {d:Option Nat} {m:AMk} {cs cs':List AVal} (hw:f.Wf n) (hx:ZfJ T n o (Zbn f) (some (d,m,cs)) some = some cs'):
  m = .ptr∧∃ dj x,d = some dj∧o.dst = none∧(∀ f args tys,o.op≠ .call { callee:=.value f,args:=args,argTypes:=tys})∧x∈o.op.operands∧cs' = ZcY (Ze (f.lst n) x)∧
    ∀ (H:Za) (b:Nat),H[b]? = some (.cells cs)→AOp P o.op o.type (Zh (f.lst n) (some dj) (.ptr b 0)) H fun _ G=>G = H.set b (.cells (ZcY (Ze (f.lst n) x))):=by
 unfold ZfJ at hx
 split at hx
 ·rename_i t e y ho
  split at hx
  ·rename_i dj cs0 hq
   cases hq
   split at hx
   ·rename_i hb
    simp only[Bool.and_eq_true] at hb
    obtain ⟨⟨⟨h1,h2⟩,h3⟩,h4⟩:=hb
    have e1:=Nat.eq_of_beq_eq_true h1
    subst e1
    have hlt:e < n:=by
     have:Nat.ble (e + 1) n = true:=h3
     exact Nat.le_of_ble_eq_true this
    refine ⟨rfl,e,y,rfl,by simpa using h4,fun _ _ _ he=>(by rw[ho] at he;cases he),by rw[ho];simp[Op.operands],?_⟩
    have ey:Ze (f.lst n) y = Zbn f y:=by rw[Zgp hw]
    have hy:∀ (v:AVal),Ze (Zh (f.lst n) (some e) v) y = Ze (f.lst n) y:=fun v=>ZvZ fun d hd he=>by
     cases hd
     rw[he] at h2
     have hbe:Nat.beq e e = true:=Nat.beq_refl e
     simp[Zu4,hbe] at h2
    have hp:∀ v:AVal,Ze (Zh (f.lst n) (some e) v) (.tmp e) = v:=fun v=>by
     have:e < (f.lst n).length:=by simpa[Fr.lst] using hlt
     simp[Ze,Z2,Zh,List.getD,this]
    have fin:∀ (H:Za) (b:Nat),H[b]? = some (.cells cs)→∀ K,Zgm P t H (.ptr b 0) (Ze (f.lst n) y) (fun h'=>K .any h')→AOp P o.op o.type (Zh (f.lst n) (some e) (.ptr b 0)) H K:=fun H b hb K hK=>by
     rw[ho]
     simp only[AOp]
     rw[hp,hy];exact hK
    unfold ZiV at hx
    split at hx
    ·rename_i ha hs
     unfold Zt7 at hx
     obtain ⟨vs,hx,h5⟩:=Option.bind_eq_some_iff.1 hx
     cases h5
     obtain ⟨u,h6,hx⟩:=Option.bind_eq_some_iff.1 hx
     cases hx
     obtain ⟨h7,h8⟩:=ZY h6
     refine ⟨by rw[ey,Zvy h7],fun H b hb=>fin H b hb _ ?_⟩
     unfold Zgm
     simp only[hb,hT.agg ha]
     rw[←ey] at h7
     refine ⟨h7,hT.siz _ _ hs,by omega,?_⟩
     rw[Zvy h7]
     congr 2
     cases cs with
     |nil=>simp at h8
     |cons c l=>cases l with
      |nil=>rfl
      |cons c' l=>simp at h8
    ·rename_i k ha hs
     obtain ⟨vs,hpt,hx⟩:=Option.bind_eq_some_iff.1 hx
     obtain ⟨us,hx,h5⟩:=Option.bind_eq_some_iff.1 hx
     cases h5
     unfold Zt6 at hx
     obtain ⟨u,h6,hx⟩:=Option.bind_eq_some_iff.1 hx
     cases hx
     obtain ⟨h7,h8,h9⟩:=ZY h6
     rw[←ey] at hpt
     have hc:ZcY (Ze (f.lst n) y) = cs':=by unfold ZcY;rw[hpt]
     refine ⟨hc.symm,fun H b hb=>fin H b hb _ ?_⟩
     unfold Zgm
     simp only[hb,hT.agg ha,hpt]
     refine ⟨h7,by rw[hT.siz _ _ hs,h8],by omega,?_⟩
     rw[hc]
     congr 2
     unfold Zbr
     rw[List.take_zero,List.nil_append,List.drop_of_length_le (by omega),List.append_nil]
    ·cases hx
   ·cases hx
  ·cases hx
 ·cases hx
theorem Zh1 {R:Type} {E:XE} (hE:E.Ok P) {md:Region.Mode} {ops:Array Oper} {A:List Nat} {S:Sts} (hS:StsOk md ops A S) {r:R} {K:Fr→Pd→Option R} {K':List AVal→Gh→Prop}
  (hQ:∀ f p g,f.Wf E.n→Zbo ops S g A p→K f p = some r→K' (f.lst E.n) g):
  ∀ (l:List Nat) (A1 A2:List Nat) (f:Fr) (p:Pd) (g:Gh),A = A1++A2→A.Nodup→Zer A2 l = true→(∀ k∈A1,k∉l)→l.Nodup→f.Wf E.n→Zbo ops S g A1 p→(∀ k∈l,g k = none)→(∀ k∈A2,g k = none)→
    (∀ t j,Zc8 S t = some j→g j = none→g t = none)→ZbS E ops A S h l f p K = some r→Zej P ops A S h K' l (f.lst E.n) g
 | [],A1,A2,f,p,g,hA,hAn,hs,h1,hln,hw,hg,hn,hn2,hst,hx=>by
   have h0:A2 = []:=by cases A2 with
    |nil=>rfl
    |cons x l=>simp[Zer] at hs
   subst h0
   rw[List.append_nil] at hA
   subst hA
   exact hQ f p g hw hg hx
 |i :: rest,A1,A2,f,p,g,hA,hAn,hs,h1,hln,hw,hg,hn,hn2,hst,hx=>by
  rw[Zof] at hx
  unfold Zej
  have hi1:i∉A1:=fun hk=>h1 i hk (by simp)
  have hir:i∉rest:=(List.nodup_cons.1 hln).1
  have hrn:rest.Nodup:=(List.nodup_cons.1 hln).2
  have h1':∀ k∈A1,k∉rest:=fun k hk hkr=>h1 k hk (by simp[hkr])
  have hgi:g i = none:=hn i (by simp)
  have hnr:∀ k∈rest,g k = none:=fun k hk=>hn k (by simp[hk])
  have hA1n:A1.Nodup:=by rw[hA] at hAn;exact (List.nodup_append.1 hAn).1
  have hsame:∀ d k,k≠i→ZN g i d k = g k:=fun d k hk=>by unfold ZN;rw[if_neg hk]
  have cases2:(∃ A3,A2 = i :: A3∧Zer A3 rest = true)∨(i∉A2∧Zer A2 rest = true):=by
   cases A2 with
   |nil=>exact .inr ⟨by simp,by cases rest<;>rfl⟩
   |cons a A3=>
    unfold Zer at hs
    cases hb:Nat.beq a i with
    |true=>
     rw[hb,cond_true] at hs
     have:=Nat.eq_of_beq_eq_true hb
     subst this
     exact .inl ⟨A3,rfl,hs⟩
    |false=>
     rw[hb,cond_false] at hs
     simp only[Bool.and_eq_true,Bool.not_eq_true'] at hs
     refine .inr ⟨fun hm=>?_,hs.1⟩
     rcases List.mem_cons.1 hm with e |e
     ·exact Nat.ne_of_beq_eq_false hb e.symm
     ·have h2:=hs.2
      simp at h2;exact h2 e
  split at hx
  ·rename_i o ho
   rw[ho]
   simp only
   have go:∀ (f':Fr),f'.Wf E.n→ZbS E ops A S h rest f' p K = some r→Zej P ops A S h K' rest (f'.lst E.n) g:=by
    intro f' hw' hx'
    rcases cases2 with ⟨A3,e,h3⟩ | ⟨_,h3⟩
    ·have hg1:Zbo ops S g (A1++[i]) p:=by
      have:=Zm4 hg (ZuV (ops:=ops) (S:=S) (g:=g) (A:=[i]) (fun k hk=>by
       obtain rfl:k = i:=by simpa using hk
       exact hgi))
      rwa [List.append_nil] at this
     exact Zh1 hE hS hQ rest (A1++[i]) A3 f' p g (by rw[hA,e];simp) hAn h3 (fun k hk=>by
      rcases List.mem_append.1 hk with hk |hk
      ·exact h1' k hk
      ·obtain rfl:k = i:=by simpa using hk
       exact hir) hrn hw' hg1 hnr (fun k hk=>hn2 k (by rw[e];simp[hk])) hst hx'
    ·exact Zh1 hE hS hQ rest A1 A2 f' p g hA hAn h3 h1' hrn hw' hg hnr hn2 hst hx'
   obtain ⟨f1,hf1,hl1,hx⟩:=Zoh hw hx
   rcases hx with ⟨hw2,hx⟩ | ⟨hw2,hx⟩
   ·split at hx
    ·rename_i j hob
     obtain ⟨hiA,hstj,hjA,_⟩:=hS.fwd _ _ hob
     have h3:i∉A2∧Zer A2 rest = true:=by
      rcases cases2 with ⟨A3,e,_⟩ |h3
      ·exact absurd (by rw[hA,e];simp) hiA
      ·exact h3
     rw[ZnX] at hx
     obtain ⟨cs',hc,hx⟩:=Option.bind_eq_some_iff.1 hx
     cases hp:ZhN p j with
     |none=>
      rw[hp] at hc
      unfold ZfJ at hc
      split at hc<;>cases hc
     |some q=>
      obtain ⟨d,m,cs⟩:=q
      rw[hp] at hc
      obtain ⟨hm,dj,x,hd,hdst,hnc,hxo,hcs,hop⟩:=ZxX hE.T hf1 hc
      obtain ⟨hjA1,D,hgj,e1,e2,e3⟩:=Zq8 hg hp
      have hcsD:cs = D.cs:=by
       rw[e3];unfold Zcy;rw[hstj];simp only[Option.bind_some];rw[hgi]
      have hji:j≠i:=fun e=>hi1 (e ▸ hjA1)
      have hg2:Zbo ops S (ZN g i (some ⟨.ptr,cs'⟩)) A1 (ZdU p j cs'):=by
       refine ZuU hA1n (fun k hk=>⟨(hsame _ k (fun e=>hi1 (e ▸ hk))).symm,fun hkj D=>(ZqR (fun e=>hkj ?_) D).symm⟩) (fun D=>?_) hg
       ·have:=hS.bwd _ _ e
        rw[hob] at this;cases this;rfl
       ·unfold Zcy;rw[hstj];simp[ZN]
      have ih:=Zh1 hE hS hQ rest A1 A2 f1 (ZdU p j cs') (ZN g i (some ⟨.ptr,cs'⟩)) hA hAn h3.2 h1' hrn hf1 hg2 (fun k hk=>by rw[hsame _ k (fun e=>hir (e ▸ hk))];exact hnr k hk)
       (fun k hk=>by rw[hsame _ k (fun e=>h3.1 (e ▸ hk))];exact hn2 k hk) (fun t q htq hq=>by
        by_cases hti:t = i
        ·subst hti
         rw[hob] at htq;cases htq
         rw[hsame _ _ hji,hgj] at hq;cases hq
        ·rw[hsame _ t hti]
         refine hst t q htq ?_
         by_cases hqi:q = i
         ·subst hqi;exact hgi
         ·rwa [hsame _ q hqi] at hq) hx
      refine ⟨Zc4,some ⟨.ptr,cs'⟩,.inr (.inr ⟨hw2,j,D,dj,x,hob,hgj,by rw[←e2,hm],by rw[←e1,hd],hdst,hnc,hxo,?_,?_⟩),?_⟩
      ·rw[←hl1,hcs]
      ·rw[←hl1];rw[hcsD] at hop;exact hop
      ·rw[hdst,←hl1];exact ih
    ·rename_i hob
     split at hx
     ·rename_i hc
      have hiA:i∈A:=by simpa using hc
      have hi2:∃ A3,A2 = i :: A3∧Zer A3 rest = true:=by
       rcases cases2 with h | ⟨h,_⟩
       ·exact h
       ·rw[hA] at hiA
        rcases List.mem_append.1 hiA with e |e
        ·exact absurd e hi1
        ·exact absurd e h
      obtain ⟨A3,e,h3⟩:=hi2
      rw[Zo7] at hx
      obtain ⟨D,hD,hx⟩:=Option.bind_eq_some_iff.1 hx
      cases hsb:ZhG A D.cs with
      |false=>rw[hsb] at hx;cases hx
      |true=>
       rw[hsb,cond_true,ZbA] at hx
       obtain ⟨f',h2,hx⟩:=Option.bind_eq_some_iff.1 hx
       obtain ⟨e1,e2⟩:=Ze6 h2 hf1
       have hd:Zbx ops i = o.dst:=by unfold Zbx;rw[ho];rfl
       have hself:ZN g i (some D) i = some D:=by unfold ZN;rw[if_pos rfl]
       have hsti:∀ k,Zcr S k≠some i:=fun k hk=>by
        have:=hS.bwd _ _ hk
        rw[hob] at this;cases this
       have hg2:Zbo ops S (ZN g i (some D)) (A1++[i]) (p++[(i,o.dst,D.how,D.cs)]):=by
        refine Zm4 (ZqA (fun k hk=>⟨(hsame _ k (fun e=>hi1 (e ▸ hk))).symm,fun D'=>(ZqR (hsti k) D').symm⟩) hg) ?_
        unfold Zbo
        rw[hself]
        have hcs:Zcy S (ZN g i (some D)) i D = D.cs:=by
         rw[ZqR (hsti i)]
         unfold Zcy
         cases hs2:Zcr S i with
         |none=>rfl
         |some t=>
          simp only[Option.bind_some]
          rw[hst t i (hS.bwd _ _ hs2) hgi]
        exact ⟨[],by rw[hd,hcs],rfl⟩
       have hA2n:A2.Nodup:=by rw[hA] at hAn;exact (List.nodup_append.1 hAn).2.1
       have hi3:i∉A3:=by rw[e] at hA2n;exact (List.nodup_cons.1 hA2n).1
       have ih:=Zh1 hE hS hQ rest (A1++[i]) A3 f' _ (ZN g i (some D)) (by rw[hA,e];simp) hAn h3 (fun k hk=>by
        rcases List.mem_append.1 hk with hk |hk
        ·exact h1' k hk
        ·obtain rfl:k = i:=by simpa using hk
         exact hir) hrn e2 hg2 (fun k hk=>by rw[hsame _ k (fun e=>hir (e ▸ hk))];exact hnr k hk) (fun k hk=>by rw[hsame _ k (fun e=>hi3 (e ▸ hk))];exact hn2 k (by rw[e];simp[hk]))
        (fun t q htq hq=>by
         have hti:t≠i:=fun e=>by subst e;rw[hob] at htq;cases htq
         rw[hsame _ t hti]
         refine hst t q htq ?_
         by_cases hqi:q = i
         ·subst hqi;exact hgi
         ·rwa [hsame _ q hqi] at hq) hx
       obtain ⟨hn1,hop⟩:=ZyH (ty:=o.type) (a:=f1.lst E.n) hE.T (by rw[Zgp hf1];exact hD)
       refine ⟨.any,some D,.inl ⟨hw2,hob,⟨hiA,fun h2=>?_⟩,rfl,hn1,fun e=>?_⟩,?_⟩
       ·unfold ZhG at hsb
        have:Nat.ble 2 A.length = true:=(by rw[Nat.ble_eq];exact h2)
        rw[this] at hsb;exact hsb
       ·rw[←hl1];exact hop _
       ·rw[←hl1,←e1];exact ih
     ·obtain ⟨v,hx,hv⟩:=ZnY hE hf1 hx
      rw[ZbA] at hx
      obtain ⟨f',h2,hx⟩:=Option.bind_eq_some_iff.1 hx
      obtain ⟨e1,e2⟩:=Ze6 h2 hf1
      have ih:=go f' e2 hx
      refine ⟨v,none,.inl ⟨hw2,hob,trivial,fun e he=>?_⟩,?_⟩
      ·rw[←hl1]
       refine hv e fun hb=>he ?_
       cases A with
       |nil=>rfl
       |cons x l=>simp at hb
      ·rw[Zm3 hgi,←hl1,←e1];exact ih
   ·rw[ZbA] at hx
    obtain ⟨f',h2,hx⟩:=Option.bind_eq_some_iff.1 hx
    obtain ⟨e1,e2⟩:=Ze6 h2 hf1
    have ih:=go f' e2 hx
    refine ⟨Zc4,none,.inr (.inl ⟨hw2,rfl,rfl⟩),?_⟩
    rw[Zm3 hgi,←hl1,←e1];exact ih
  ·cases hx
theorem Zyg {T:Tab} (hT:T.Ok P) {n:Nat} {o:Oper} {f:Fr} {v:AVal} (hw:f.Wf n) (hx:Zg7 T o (Zbn f) some = some v):FlV P o (f.lst n) v:=by
 unfold Zg7 at hx
 unfold FlV
 rw[Zgp hw]
 split at hx
 ·cases hx
 ·rename_i hg
  refine ⟨hg,?_⟩
  split at hx
  ·rename_i x ho;cases hx;exact .inl ⟨x,.inl ho,rfl⟩
  ·rename_i x ho;cases hx;exact .inl ⟨x,.inr ho,rfl⟩
  ·rename_i op t x y yt ho
   split at hx
   ·rename_i k a k' b h1 h2
    rw[Zl3] at hx
    obtain ⟨z,hz,hx⟩:=Option.bind_eq_some_iff.1 hx
    cases hx
    exact .inr ⟨op,t,x,y,yt,k,a,k',b,ho,h1,h2,ZsL hT hz rfl⟩
   ·cases hx
  ·cases hx
theorem Zok {R:Type} {T:Tab} (hT:T.Ok P) {n:Nat} {ops:Array Oper} {K:Fr→Option R} {r:R}:∀ (l:List Nat) (f:Fr),f.Wf n→Zdn T n ops l f K = some r→∃ f':Fr,f'.Wf n∧ZiL P ops l (f.lst n) (f'.lst n)∧K f' = some r
 | [],f,hw,hx=>⟨f,hw,rfl,hx⟩
 |i :: l,f,hw,hx=>by
  rw[Zol] at hx
  split at hx
  ·rename_i o ho
   rw[Zom] at hx
   obtain ⟨v,h1,hx⟩:=Option.bind_eq_some_iff.1 hx
   rw[ZbA] at hx
   obtain ⟨f',h2,hx⟩:=Option.bind_eq_some_iff.1 hx
   obtain ⟨e1,e2⟩:=Ze6 h2 hw
   obtain ⟨f2,h3,h4,h5⟩:=Zok hT l f' e2 hx
   rw[e1] at h4
   exact ⟨f2,h3,⟨o,v,ho,Zyg hT hw h1,h4⟩,h5⟩
  ·cases hx
abbrev XK (R:Type):=Exit→Fr→Za→Option R
abbrev XS:=∀ (R:Type),Fr→Za→XK R→Option R
abbrev XR:=Exit×Fr×Za
def Zms (a b:Option Nat):Option Nat:=match a with
 |some i=>some i
 |none=>b
noncomputable def ZcH (c:Code):Option Nat:=Code.rec (motive:=fun _=>Option Nat) none (fun id _ _=>some id) (fun _ _ a b=>Zms a b) (fun _ _ _ a b=>Zms a b) (fun _ _ a=>a) (fun _ a=>a) (fun _ _ _ _ a b=>Zms a b)
 (fun _=>none) (fun _ a=>a) (fun _=>none) (fun _=>none) none (fun _=>none) c
noncomputable def ZeV (l:List (Nat×List Nat)) (k:Option Nat) (f:Fr):Fr:=match k with
 |some k=>Zct f (findN l k)
 |none=>f
noncomputable def ZeF {R:Type} (l:List (Nat×List Nat)) (k:Option Nat) (f:Fr) (go:Fr→Option R):Option R:=match k with
 |some k=>ZvI (findN l k) f go
 |none=>go f
theorem Zrk {R:Type} (l:List (Nat×List Nat)) (k:Option Nat) (f:Fr) (go:Fr→Option R):ZeF l k f go = go (ZeV l k f):=by
 cases k with
 |none=>rfl
 |some k=>exact Z45 _ _ _
def ZcK (mask:Fr→Fr) (step:Fr→Za→Option XR):Nat→Fr→Za→Option XR
 | 0,_,_=>none
 |m + 1,f,h=>(step f h).bind fun r=>match r with
  | (.normal,f',h')=>ZcK mask step m (mask f') h'
  |r=>some r
open Classical in
noncomputable def Zlx {α:Type} (g:Nat→Option α):Option α:=if h:∃ r m,g m = some r then some h.choose else none
def ZcD {R:Type} (K:XK R) (r:XR):Option R:=K r.1 r.2.1 r.2.2
noncomputable def ZeO (mask:Fr→Fr) (step:Fr→Za→Option XR) (f:Fr) (h:Za):Option XR:=Zlx fun m=>ZcK mask step m f h
def ZbG (e:Exit) (f:Fr) (h:Za):Option XR:=some (e,f,h)
abbrev XL:=Nat→Option XS
noncomputable def ZjF (E:XE) (l:Nat) (f:Fr):Fr:=Zct f (findN E.Ml (1000000 + l))
def mkM (lab:XL) (mask:Nat→Fr→Fr) (q:XR):XR:=match q with
 | (.goto l,f,h)=>match lab l with
   |some _=>(.goto l,mask l f,h)
   |none=>(.goto l,f,h)
 |q=>q
def ZcL (lab:XL) (mask:Nat→Fr→Fr):Nat→XR→Option XR
 | 0,_=>none
 |m + 1,(e,f,h)=>match e with
  | .goto l=>match lab l with
    |some r=>(r XR f h ZbG).bind fun q=>ZcL lab mask m (mkM lab mask q)
    |none=>some (.goto l,f,h)
  |e=>some (e,f,h)
noncomputable def Zoj (lab:XL) (mask:Nat→Fr→Fr) (r:XR):Option XR:=Zlx fun m=>ZcL lab mask m r
noncomputable def Zh2 (E:XE) (lab:XL) (l:Nat) (R:Type) (f:Fr) (h:Za) (K:XK R):Option R:=jn ((Zoj lab (ZjF E) (.goto l,ZjF E l f,h)).bind (ZcD K))
noncomputable def Zs5 (E:XE) (lab:XL) {R:Type} (K:XK R):XK R:=fun e f h=>match e with
 | .goto l=>match lab l with
   |some _=>Zh2 E lab l R f h K
   |none=>K (.goto l) f h
 |e=>K e f h
abbrev XB:=Exit×Za
def Zra (h:Za) (b:Nat):Option Za:=match h[b]? with
 |some (.loop .ready p a ps x y)=>some (h.set b (.loop .busy p a ps x y))
 |_=>none
def ZhO (h:Za) (b:Nat) (st:LoopState) (pend:Option Code):Option Za:=match h[b]? with
 |some (.loop _ _ a ps x y)=>some (h.set b (.loop st pend a ps x y))
 |_=>none
def ZtT (b:Nat) (r:XB):Option (AVal×Za):=match r.1 with
 | .normal=>(ZhO r.2 b .ready none).bind fun h=>some (.lit (.bool true),h)
 | .ret=>(ZhO r.2 b .done (some .ret)).bind fun h=>some (.lit (.bool false),h)
 | .exit id=>(ZhO r.2 b .done (some (.exit id))).bind fun h=>some (.lit (.bool false),h)
 | .goto l=>(ZhO r.2 b .done (some (.goto l))).bind fun h=>some (.lit (.bool false),h)
 |_=>none
open Classical in
noncomputable def ZtS (b:Nat) (a:List AVal) (ps:Array Tmp) (x y:Code) (rb:List AVal→Za→Option XB):XP:=fun args h=>
 if h[b]? = some (.loop .ready none a ps x y)∧args.length = ps.size then (rb args h).bind (ZtT b) else none
noncomputable def ZtR (Y0:Nat→XP) (b:Nat) (a:List AVal) (ps:Array Tmp) (x y:Code) (rb:List AVal→Za→Option XB):Nat→XP:=fun c=>if c = b then ZtS b a ps x y rb else Y0 c
def ZtO (pend:Option Code) (h:Za):Option XB:=match pend with
 |none=>some (.normal,h)
 |some .ret=>some (.ret,h)
 |some (.exit id)=>some (.exit id,h)
 |some (.goto l)=>some (.goto l,h)
 |_=>none
def ZtP (b:Nat) (r:AVal×Za):Option XB:=match r.2[b]? with
 |some (.loop st pend _ _ _ _)=>match st with
  | .busy=>none
  |_=>ZtO pend (r.2.set b .dead)
 |_=>none
noncomputable def ZtQ (I:List (Nat×XI)) (Y0:Nat→XP) (v:AVal) (a:List AVal) (ps:Array Tmp) (x y:Code) (rb:Nat→List AVal→Za→Option XB) (h:Za):Option XB:=match v with
 | .fn (.func i) vs us=>match findN I i with
   |some f=>(f (ZtR Y0 h.length a ps x y (rb h.length)) (vs++[.yld h.length]++us) (h++[.loop .ready none a ps x y])).bind (ZtP h.length)
   |none=>none
 |_=>none
noncomputable def ZpS {R:Type} (q:XB) (n r:Za→Option R) (xs ls:List (Nat×(Za→Option R))):Option R:=match q.1 with
 | .normal=>n q.2
 | .ret=>r q.2
 | .exit i=>match findN xs i with
   |some k=>k q.2
   |none=>none
 | .goto l=>match findN ls l with
   |some k=>k q.2
   |none=>none
 |_=>none
noncomputable def Z3p (c:Code):List Nat:=Code.rec (motive:=fun _=>List Nat) [] (fun _ _ _=>[]) (fun _ _ a b=>a++b) (fun _ _ _ a b=>a++b) (fun _ _ a=>a) (fun _ a=>a) (fun _ _ _ _ a b=>a++b)
 (fun id=>[id]) (fun _ a=>a) (fun _=>[]) (fun _=>[]) [] (fun _=>[]) c
noncomputable def Z2T (c:Code):List Nat:=Code.rec (motive:=fun _=>List Nat) [] (fun _ _ _=>[]) (fun _ _ a b=>a++b) (fun _ _ _ a b=>a++b) (fun _ _ a=>a) (fun _ a=>a) (fun _ _ _ _ a b=>a++b)
 (fun _=>[]) (fun _ a=>a) (fun _=>[]) (fun l=>[l]) [] (fun _=>[]) c
noncomputable def ZqC {R:Type} (n:Nat) (ps:List Nat):Fr→List AVal→(Fr→Option R)→Option R:=
 List.rec (motive:=fun _=>Fr→List AVal→(Fr→Option R)→Option R) (fun f _ K=>K f) (fun p _ ih f args K=>match args with
  |v :: args=>Zbs n f (some p) v fun f=>ih f args K
  | []=>none) ps
def Z1e:XK XB:=fun e _ h=>some (e,h)
noncomputable def Z0N (iy:XS) (b:Nat):XK XB:=fun e f h=>match e with
 | .normal=>(Zra h b).bind fun h=>iy XB f h Z1e
 |_=>none
noncomputable def ZjE (E:XE) (k:Option Nat) (f:Fr):Fr:=match k with
 |some k=>Zct f (findN E.Ml (2000000 + k))
 |none=>f
noncomputable def Zua (E:XE) (ps:Array Tmp) (f:Fr) (ix iy:XS):Nat→List AVal→Za→Option XB:=fun b args h=>ZqC E.n ps.toList f args fun f=>jn (ix XB f h (Z0N iy b))
noncomputable def Zhz (E:XE) (g:Operand) (ps:Array Tmp) (x y:Code) (ix iy:XS) (R:Type) (f:Fr) (h:Za) (K:XK R):Option R:=
 (ZtQ E.I E.Y (Zbn f g) (f.lst E.n) ps x y (Zua E ps f ix iy) h).bind fun q=>ZpS q (K .normal f) (K .ret f) ((Z3p y).map fun e=>(e,K (.exit e) f)) ((Z2T y).map fun e=>(e,K (.goto e) f))
noncomputable def xex (E:XE) (c:Code):XS×XL:=Code.rec (motive:=fun _=>XS×XL)
 (fun R f h K=>K .normal f h,fun _=>none)
 (fun id ops draw=>(fun R f h K=>match draw with
  |false=>Zcc E id ops ops.toList 0 f h fun f h=>K .normal f h
  |true=>match findN E.D id with
   |some D=>match D.L with
    | []=>Zdn E.T E.n ops D.F f fun f=>ZbS E ops D.A D.S h D.Hd f [] fun f p=>Zd6 E.n p h.length f fun f=>Zcc E id ops (Zdi ops D.Tl) 500 f (ZeT h p) fun f h=>K .normal f h
    |_ :: _=>Zdn E.T E.n ops D.F f fun f=>Zel E ops h D.L f [] fun f ls=>Zd0 E ops D.T ls f h fun f h=>ZbS E ops [] [] h D.Tl f [] fun f _=>K .normal f h
   |none=>none,fun _=>none))
 (fun _ b ia ib=>(fun R f h K=>ia.1 R f h fun e f h=>match e with
  | .normal=>ZeF E.Ms (ZcH b) f fun f=>ib.1 R f h K
  |e=>K e f h,fun l=>match ia.2 l with
  |some r=>some fun R f h K=>r R f h fun e f h=>match e with
   | .normal=>ZeF E.Ms (ZcH b) f fun f=>ib.1 R f h K
   |e=>K e f h
  |none=>ib.2 l))
 (fun c _ _ ia ib=>(fun R f h K=>match Zbn f c with
  | .lit (.bool b)=>cond b (ia.1 R f h K) (ib.1 R f h K)
  |_=>none,fun _=>none))
 (fun id _ ia=>(fun R f h K=>ia.1 R f h fun e f h=>match e with
  | .exit id'=>match Nat.beq id' id with
    |true=>K .normal f h
    |false=>K (.exit id') f h
  |e=>K e f h,fun _=>none))
 (fun c ia=>(fun R f h K=>jn ((ZeO (ZeV E.Ml (ZcH c)) (fun f h=>ia.1 XR f h fun e f h=>some (e,f,h)) (ZeV E.Ml (ZcH c) f) h).bind (ZcD K)),fun _=>none))
 (fun g ps x y ix iy=>(fun R f h K=>Zhz E g ps x y ix.1 iy.1 R (ZjE E (Zms (ZcH x) (ZcH y)) f) h K,fun _=>none))
 (fun id=>(fun R f h K=>K (.exit id) f h,fun _=>none))
 (fun _ ia=>(fun R f h K=>ia.1 R f h (Zs5 E ia.2 K),fun _=>none))
 (fun l'=>(fun R f h K=>K .normal f h,fun l=>match Nat.beq l' l with
  |true=>some fun R f h K=>K .normal f h
  |false=>none))
 (fun l=>(fun R f h K=>K (.goto l) f h,fun _=>none))
 (fun R f h K=>K .ret f h,fun _=>none)
 (fun _=>(fun R f h K=>none,fun _=>none)) c
noncomputable def Zl (E:XE) (c:Code):XS:=(xex E c).1
noncomputable def Zc2 (E:XE) (c:Code):XL:=(xex E c).2
theorem Zoi {R S:Type} {ops:Array Oper} {o:Oper} {f:Fr} {yes no:Fr→Option S} {k:S→Option R}:
  (Zde ops o f yes no).bind k = Zde ops o f (fun f=>(yes f).bind k) (fun f=>(no f).bind k):=by
 unfold Zde
 rcases hg:o.guard with _ | ⟨j,want⟩
 ·rfl
 ·simp only
  rcases hd:(ops[j]?).bind (·.dst) with _ |d
  ·rfl
  ·simp only
   split
   ·rename_i b _
    cases b<;>cases want<;>rfl
   ·rfl
   ·rfl
theorem Zh0 {R:Type} {E:XE} (hN:CT.Nat E.C) {rid:Nat} {ops:Array Oper} {K:Fr→Za→Option R}:∀ (l:List Oper) (i:Nat) (f:Fr) (h:Za),
  Zcc E rid ops l i f h K = (Zcc E rid ops l i f h fun f h=>some (f,h)).bind fun r=>K r.1 r.2
 | [],i,f,h=>rfl
 |o :: rest,i,f,h=>by
  rw[Zoe,Zoe,Zoi]
  congr 1
  ·funext g
   rw[Zlt hN,Zlt hN (K:=fun v h=>Zbs E.n g o.dst v fun f=>Zcc E rid ops rest (i + 1) (Zct f (findN E.Mo (rid * 1000 + (i + 1)))) h fun f h=>some (f,h)),Option.bind_assoc]
   congr 1;funext r
   rw[ZbA,ZbA,Option.bind_assoc]
   congr 1;funext f'
   exact Zh0 hN rest _ _ _
  ·funext g
   rw[ZbA,ZbA,Option.bind_assoc]
   congr 1;funext f'
   exact Zh0 hN rest _ _ _
def mkQ (f:Fr) (p:Pd):Option (Fr×Pd):=some (f,p)
theorem ZfL {R:Type} {E:XE} (hN:CT.Nat E.C) {ops:Array Oper} {A:List Nat} {S:Sts} {h:Za} {K:Fr→Pd→Option R}:∀ (l:List Nat) (f:Fr) (p:Pd),
  ZbS E ops A S h l f p K = (ZbS E ops A S h l f p mkQ).bind fun r=>K r.1 r.2
 | [],f,p=>rfl
 |i :: rest,f,p=>by
  rw[Zof,Zof]
  rcases ops[i]? with _ |o
  ·rfl
  ·simp only
   rw[Zoi]
   congr 1
   ·funext g
    split
    ·rw[ZnX,ZnX (K:=fun cs=>ZbS E ops A S h rest g (ZdU p _ cs) mkQ),Option.bind_assoc]
     congr 1;funext cs
     exact ZfL hN rest _ _
    ·split
     ·rw[Zo7,Zo7 (K:=fun m cs=>cond (ZhG A cs) (Zbs E.n g o.dst .any fun f=>ZbS E ops A S h rest f (p++[(i,o.dst,m,cs)]) mkQ) none),Option.bind_assoc]
      congr 1;funext D
      cases ZhG A D.cs with
      |false=>rfl
      |true=>
       simp only[cond_true]
       rw[ZbA,ZbA,Option.bind_assoc]
       congr 1;funext f'
       exact ZfL hN rest _ _
     ·rw[Zlu hN,Zlu hN (K:=fun v=>Zbs E.n g o.dst v fun f=>ZbS E ops A S h rest f p mkQ),Option.bind_assoc]
      congr 1;funext r
      rw[ZbA,ZbA,Option.bind_assoc]
      congr 1;funext f'
      exact ZfL hN rest _ _
   ·funext g
    rw[ZbA,ZbA,Option.bind_assoc]
    congr 1;funext f'
    exact ZfL hN rest _ _
theorem ZiZ {R:Type} {T:Tab} {n:Nat} {ops:Array Oper} {K:Fr→Option R}:∀ (l:List Nat) (f:Fr),Zdn T n ops l f K = (Zdn T n ops l f some).bind K
 | [],f=>rfl
 |i :: l,f=>by
  rw[Zol,Zol]
  rcases ops[i]? with _ |o
  ·rfl
  ·simp only
   rw[Zom,Zom (K:=fun v=>Zbs n f o.dst v fun f=>Zdn T n ops l f some),Option.bind_assoc]
   congr 1;funext v
   rw[ZbA,ZbA,Option.bind_assoc]
   congr 1;funext f'
   exact ZiZ l _
theorem Zqe {R:Type} {n:Nat} {K:Fr→Option R}:∀ (p:Pd) (b:Nat) (f:Fr),Zd6 n p b f K = (Zd6 n p b f some).bind K
 | [],b,f=>rfl
 | (i,d,m,cs) :: p,b,f=>by
   simp only[Zd6]
   rw[ZbA,ZbA,Option.bind_assoc]
   congr 1;funext f'
   exact Zqe p _ _
theorem Zoc {R:Type} {E:XE} (hN:CT.Nat E.C) {ops:Array Oper} {h:Za} {K:Fr→List (Nat×AVal)→Option R}:∀ (l:List Nat) (f:Fr) (ls:List (Nat×AVal)),Zel E ops h l f ls K = (Zel E ops h l f ls fun f ls=>some (f,ls)).bind fun r=>K r.1 r.2
 | [],f,ls=>rfl
 |i :: rest,f,ls=>by
  rw[Zob,Zob]
  cases ops[i]? with
  |none=>rfl
  |some o=>
   simp only
   cases o.guard with
   |some g=>rfl
   |none=>
    simp only
    rw[Zlu hN,Zlu hN false o f h (fun v=>Zbs E.n f o.dst v fun f=>Zel E ops h rest f (ls++[(i,v)]) fun f ls=>some (f,ls)),Option.bind_assoc]
    congr 1;funext v
    rw[ZbA,ZbA,Option.bind_assoc]
    congr 1;funext f'
    exact Zoc hN rest _ _
theorem Zop {R S:Type} {E:XE} {ops:Array Oper} {f:Fr} {h:Za} {K:Option S} {k:S→Option R}:∀ (ls:List (Nat×AVal)),(ZfM E ops f h K ls).bind k = ZfM E ops f h (K.bind k) ls
 | []=>rfl
 |r :: ls=>by
  rw[Zoo,Zoo]
  cases ops[r.1]? with
  |none=>rfl
  |some o=>
   simp only
   cases ZgZ o.op with
   |true=>exact Zop ls
   |false=>
    simp only
    rw[Option.bind_assoc]
    congr 1;funext u
    exact Zop ls
theorem ZiY {R:Type} {E:XE} (hN:CT.Nat E.C) {ops:Array Oper} {K:Fr→Za→Option R}:∀ (T:TP) (ls:List (Nat×AVal)) (f:Fr) (h:Za),Zd0 E ops T ls f h K = (Zd0 E ops T ls f h fun f h=>some (f,h)).bind fun r=>K r.1 r.2
 | [],ls,f,h=>rfl
 |x :: T,ls,f,h=>by
  rw[Zog,Zog]
  cases ops[x.1]? with
  |none=>rfl
  |some o=>
   simp only
   rw[Zoi]
   congr 1
   ·funext f
    refine (Zlt hN o f h _).trans (Eq.trans ?_ (congrArg (Option.bind · _) (Zlt hN o f h _)).symm)
    rw[Option.bind_assoc]
    congr 1;funext r
    rw[ZbA,ZbA,Option.bind_assoc]
    congr 1;funext f'
    cases ZfS E o f with
    |true=>exact ZiY hN T _ _ _
    |false=>
     simp only
     rw[Zop]
     congr 1
     exact ZiY hN T _ _ _
   ·funext f
    rw[ZbA,ZbA,Option.bind_assoc]
    congr 1;funext f'
    exact ZiY hN T _ _ _
theorem ZjR {α:Type} {k:Nat→α} {i:Nat}:∀ {l:List Nat} {c:α},findN (l.map fun e=>(e,k e)) i = some c→c = k i
 | [],c,h=>by cases h
 |e :: l,c,h=>by
  rcases findN_some h with ⟨rfl,rfl⟩ |h
  ·rfl
  ·exact ZjR h
theorem ZqG {α β:Type} {k:Nat→α} {k':Nat→β} {i:Nat}:∀ {l:List Nat},findN (l.map fun e=>(e,k e)) i = none→findN (l.map fun e=>(e,k' e)) i = none
 | [],_=>rfl
 |e :: l,h=>by
  rw[List.map_cons,findN_cons] at h⊢
  cases hb:Nat.beq i e with
  |true=>rw[hb] at h;cases h
  |false=>rw[hb] at h;exact ZqG h
theorem Zve {R:Type} {S:Type} {k:Nat→Za→Option R} {k':Nat→Za→Option S} {j:S→Option R} (hk:∀ e h,k e h = (k' e h).bind j) (l:List Nat) (i:Nat) (h:Za):(match findN (l.map fun e=>(e,k e)) i with
  |some k=>k h
  |none=>none) = (match findN (l.map fun e=>(e,k' e)) i with
  |some k=>k h
  |none=>none).bind j:=by
 cases h1:findN (l.map fun e=>(e,k e)) i with
 |none=>
  have h2:=ZqG (k':=k') h1
  simp only[h2];rfl
 |some c=>
  cases h2:findN (l.map fun e=>(e,k' e)) i with
  |none=>have:=ZqG (k':=k) h2;rw[this] at h1;cases h1
  |some c'=>
   have e1:=ZjR h1
   have e2:=ZjR h2
   subst e1 e2
   exact hk i h
theorem Zyc {E:XE} {g:Operand} {ps:Array Tmp} {x y:Code} {ix iy:XS} (R:Type) (f:Fr) (h:Za) (K:XK R):Zhz E g ps x y ix iy R f h K = (Zhz E g ps x y ix iy XR f h ZbG).bind (ZcD K):=by
 unfold Zhz
 rw[Option.bind_assoc]
 congr 1;funext q
 obtain ⟨e,g1⟩:=q
 cases e with
 |exit i=>exact Zve (k:=fun e=>K (.exit e) f) (k':=fun e=>ZbG (.exit e) f) (j:=ZcD K) (fun e h=>rfl) _ _ _
 |goto i=>exact Zve (k:=fun e=>K (.goto e) f) (k':=fun e=>ZbG (.goto e) f) (j:=ZcD K) (fun e h=>rfl) _ _ _
 |_=>rfl
def Zne (r:XS):Prop:=∀ (R:Type) (f:Fr) (h:Za) (K:XK R),r R f h K = (r XR f h ZbG).bind (ZcD K)
theorem Zyj (E:XE) (hN:CT.Nat E.C) (c:Code):Zne (Zl E c)∧∀ l r,Zc2 E c l = some r→Zne r:=by
 induction c with
 |skip=>exact ⟨fun R f h K=>rfl,fun l r hr=>by cases hr⟩
 |region id ops draw=>
  refine ⟨?_,fun l r hr=>by cases hr⟩
  intro R f h K
  cases draw with
  |false=>
   show Zcc E id ops ops.toList 0 f h _ = (Zcc E id ops ops.toList 0 f h _).bind _
   rw[Zh0 hN,Zh0 hN (K:=fun f h=>ZbG .normal f h),Option.bind_assoc];rfl
  |true=>
   show (match findN E.D id with
    |some D=>match D.L with
     | []=>Zdn E.T E.n ops D.F f fun f=>ZbS E ops D.A D.S h D.Hd f [] fun f p=>Zd6 E.n p h.length f fun f=>Zcc E id ops (Zdi ops D.Tl) 500 f (ZeT h p) fun f h=>K .normal f h
     |_ :: _=>Zdn E.T E.n ops D.F f fun f=>Zel E ops h D.L f [] fun f ls=>Zd0 E ops D.T ls f h fun f h=>ZbS E ops [] [] h D.Tl f [] fun f _=>K .normal f h
    |none=>none) = (match findN E.D id with
    |some D=>match D.L with
     | []=>Zdn E.T E.n ops D.F f fun f=>ZbS E ops D.A D.S h D.Hd f [] fun f p=>Zd6 E.n p h.length f fun f=>Zcc E id ops (Zdi ops D.Tl) 500 f (ZeT h p) fun f h=>ZbG .normal f h
     |_ :: _=>Zdn E.T E.n ops D.F f fun f=>Zel E ops h D.L f [] fun f ls=>Zd0 E ops D.T ls f h fun f h=>ZbS E ops [] [] h D.Tl f [] fun f _=>ZbG .normal f h
    |none=>none).bind _
   cases findN E.D id with
   |none=>rfl
   |some D=>
    simp only
    rcases hDL:D.L with _ | ⟨l0,ll⟩
    rotate_left
    ·simp only
     rw[ZiZ,ZiZ (K:=fun f=>Zel E ops h (l0 :: ll) f [] fun f ls=>Zd0 E ops D.T ls f h fun f h=>ZbS E ops [] [] h D.Tl f [] fun f _=>ZbG .normal f h),Option.bind_assoc]
     congr 1;funext f0
     rw[Zoc hN,Zoc hN (K:=fun f ls=>Zd0 E ops D.T ls f h fun f h=>ZbS E ops [] [] h D.Tl f [] fun f _=>ZbG .normal f h),Option.bind_assoc]
     congr 1;funext r
     rw[ZiY hN,ZiY hN (K:=fun f h=>ZbS E ops [] [] h D.Tl f [] fun f _=>ZbG .normal f h),Option.bind_assoc]
     congr 1;funext r2
     rw[ZfL hN,ZfL hN (K:=fun f _=>ZbG .normal f r2.2),Option.bind_assoc];rfl
    ·simp only
     rw[ZiZ,ZiZ (K:=fun f=>ZbS E ops D.A D.S h D.Hd f [] fun f p=>Zd6 E.n p h.length f fun f=>Zcc E id ops (Zdi ops D.Tl) 500 f (ZeT h p) fun f h=>ZbG .normal f h),Option.bind_assoc]
     congr 1;funext f0
     rw[ZfL hN,ZfL hN (K:=fun f p=>Zd6 E.n p h.length f fun f=>Zcc E id ops (Zdi ops D.Tl) 500 f (ZeT h p) fun f h=>ZbG .normal f h),Option.bind_assoc]
     congr 1;funext r
     rw[Zqe,Zqe (K:=fun f=>Zcc E id ops (Zdi ops D.Tl) 500 f (ZeT h r.2) fun f h=>ZbG .normal f h),Option.bind_assoc]
     congr 1;funext f'
     rw[Zh0 hN,Zh0 hN (K:=fun f h=>ZbG .normal f h),Option.bind_assoc];rfl
 |seq a b iha ihb=>
  have key:∀ q:XS,Zne q→Zne (fun R f h K=>q R f h fun e f h=>match e with
    | .normal=>ZeF E.Ms (ZcH b) f fun f=>Zl E b R f h K
    |e=>K e f h):=by
   intro q hq R f h K
   refine (hq R f h _).trans (Eq.trans ?_ (congrArg (Option.bind · (ZcD K)) (hq XR f h _)).symm)
   rw[Option.bind_assoc]
   congr 1;funext r
   obtain ⟨e,f',h'⟩:=r
   cases e with
   |normal=>
    show ZeF E.Ms (ZcH b) f' (fun f=>Zl E b R f h' K) = (ZeF E.Ms (ZcH b) f' fun f=>Zl E b XR f h' ZbG).bind (ZcD K)
    rw[Zrk,Zrk]
    exact ihb.1 R _ _ _
   |_=>rfl
  refine ⟨key _ iha.1,fun l r hr=>?_⟩
  change (match Zc2 E a l with
   |some r=>some fun R f h K=>r R f h fun e f h=>match e with
    | .normal=>ZeF E.Ms (ZcH b) f fun f=>Zl E b R f h K
    |e=>K e f h
   |none=>Zc2 E b l) = some r at hr
  cases hq:Zc2 E a l with
  |some q=>
   rw[hq] at hr
   simp only[Option.some.injEq] at hr
   subst hr
   exact key q (iha.2 l q hq)
  |none=>rw[hq] at hr;exact ihb.2 l r hr
 |cond c a b iha ihb=>
  refine ⟨?_,fun l r hr=>by cases hr⟩
  intro R f h K
  show (match Zbn f c with
   | .lit (.bool b')=>cond b' (Zl E a R f h K) (Zl E b R f h K)
   |_=>none) = (match Zbn f c with
   | .lit (.bool b')=>cond b' (Zl E a XR f h ZbG) (Zl E b XR f h ZbG)
   |_=>none).bind _
  split
  ·rename_i b' _
   cases b'
   ·exact ihb.1 R f h K
   ·exact iha.1 R f h K
  ·rfl
 |block id a iha=>
  refine ⟨?_,fun l r hr=>by cases hr⟩
  intro R f h K
  refine (iha.1 R f h _).trans (Eq.trans ?_ (congrArg (Option.bind · (ZcD K)) (iha.1 XR f h _)).symm)
  rw[Option.bind_assoc]
  congr 1;funext r
  obtain ⟨e,f',h'⟩:=r
  cases e with
  |exit id'=>
   simp only[ZcD]
   cases Nat.beq id' id<;>rfl
  |_=>rfl
 |loop a iha=>
  refine ⟨?_,fun l r hr=>by cases hr⟩
  intro R f h K
  show jn ((ZeO _ _ _ _).bind (ZcD K)) = (jn ((ZeO _ _ _ _).bind (ZcD ZbG))).bind (ZcD K)
  rw[ZF,ZF]
  rw[Option.bind_assoc]
  congr 1
 |rangeFunc g ps x y ihx ihy=>exact ⟨fun R f h K=>Zyc R _ h K,fun l r hr=>by cases hr⟩
 |exit id=>exact ⟨fun R f h K=>rfl,fun l r hr=>by cases hr⟩
 |scope a iha=>
  refine ⟨?_,fun l r hr=>by cases hr⟩
  intro R f h K
  refine (iha.1 R f h _).trans (Eq.trans ?_ (congrArg (Option.bind · (ZcD K)) (iha.1 XR f h _)).symm)
  rw[Option.bind_assoc]
  congr 1;funext r
  obtain ⟨e,f',h'⟩:=r
  cases e with
  |goto l=>
   show (match Zc2 E a l with
    |some _=>Zh2 E (Zc2 E a) l R f' h' K
    |none=>K (.goto l) f' h') = (match Zc2 E a l with
    |some _=>Zh2 E (Zc2 E a) l XR f' h' ZbG
    |none=>ZbG (.goto l) f' h').bind (ZcD K)
   cases Zc2 E a l with
   |none=>rfl
   |some q=>
    simp only[Zh2,ZF]
    rw[Option.bind_assoc]
    congr 1
  |_=>rfl
 |label l'=>
  refine ⟨fun R f h K=>rfl,fun l r hr=>?_⟩
  change (match Nat.beq l' l with
   |true=>some fun R f h K=>K .normal f h
   |false=>none) = some r at hr
  cases hb:Nat.beq l' l with
  |true=>rw[hb] at hr;cases hr;exact fun R f h K=>rfl
  |false=>rw[hb] at hr;cases hr
 |goto l=>exact ⟨fun R f h K=>rfl,fun l r hr=>by cases hr⟩
 |ret=>exact ⟨fun R f h K=>rfl,fun l r hr=>by cases hr⟩
 |refuse=>exact ⟨fun R f h K=>rfl,fun l r hr=>by cases hr⟩
theorem Zyh (E:XE) (hN:CT.Nat E.C) (c:Code) (R:Type) (f:Fr) (h:Za) (K:XK R):Zl E c R f h K = (Zl E c XR f h ZbG).bind (ZcD K):=(Zyj E hN c).1 R f h K
theorem Zs7 {mask:Fr→Fr} {step:Fr→Za→Option XR}:∀ {m:Nat} {f:Fr} {h:Za} {r:XR},ZcK mask step m f h = some r→ZcK mask step (m + 1) f h = some r
 | 0,f,h,r,hx=>by simp[ZcK] at hx
 |m + 1,f,h,r,hx=>by
  unfold ZcK at hx⊢
  obtain ⟨q,h1,h2⟩:=Option.bind_eq_some_iff.1 hx
  rw[h1,Option.bind_some]
  obtain ⟨e,f',h'⟩:=q
  cases e with
  |normal=>exact Zs7 h2
  |_=>exact h2
theorem Zs8 {mask:Fr→Fr} {step:Fr→Za→Option XR} {m n:Nat} (hmn:m≤n) {f:Fr} {h:Za} {r:XR} (hx:ZcK mask step m f h = some r):ZcK mask step n f h = some r:=by
 induction hmn with
 |refl=>exact hx
 |step _ ih=>exact Zs7 ih
theorem xloop_some {mask:Fr→Fr} {step:Fr→Za→Option XR} {f:Fr} {h:Za} {r:XR}:ZeO mask step f h = some r↔∃ m,ZcK mask step m f h = some r:=by
 unfold ZeO Zlx
 constructor
 ·intro hx
  split at hx
  ·rename_i hh;cases hx;exact hh.choose_spec
  ·cases hx
 ·rintro ⟨m,hm⟩
  have hh:∃ r m,ZcK mask step m f h = some r:=⟨r,m,hm⟩
  rw[dif_pos hh]
  obtain ⟨m',hm'⟩:=hh.choose_spec
  have h1:=Zs8 (Nat.le_max_left m m') hm
  have h2:=Zs8 (Nat.le_max_right m m') hm'
  rw[h1] at h2
  exact h2.symm
theorem Zyf (mask:Fr→Fr) (step:Fr→Za→Option XR) (f:Fr) (h:Za):ZeO mask step f h = (step f h).bind fun r=>match r with
  | (.normal,f',h')=>ZeO mask step (mask f') h'
  |r=>some r:=by
 apply Option.ext
 intro r
 show ZeO mask step f h = some r↔_ = some r
 rw[xloop_some]
 constructor
 ·rintro ⟨m,hm⟩
  cases m with
  |zero=>simp[ZcK] at hm
  |succ m=>
   unfold ZcK at hm
   obtain ⟨q,h1,h2⟩:=Option.bind_eq_some_iff.1 hm
   rw[h1,Option.bind_some]
   obtain ⟨e,f',h'⟩:=q
   cases e with
   |normal=>exact xloop_some.2 ⟨m,h2⟩
   |_=>exact h2
 ·intro hx
  obtain ⟨q,h1,h2⟩:=Option.bind_eq_some_iff.1 hx
  obtain ⟨e,f',h'⟩:=q
  cases e with
  |normal=>
   obtain ⟨m,hm⟩:=xloop_some.1 h2
   refine ⟨m + 1,?_⟩
   unfold ZcK
   rw[h1,Option.bind_some];exact hm
  |_=>
   refine ⟨1,?_⟩
   unfold ZcK
   rw[h1,Option.bind_some];exact h2
theorem ZbO (E:XE) (hN:CT.Nat E.C) (c:Code) (R:Type) (f:Fr) (h:Za) (K:XK R):
  Zl E (.loop c) R f h K = Zl E c R (ZeV E.Ml (ZcH c) f) h (fun e f h=>match e with
   | .normal=>Zl E (.loop c) R f h K
   |e=>K e f h):=by
 rw[Zyh E hN c R]
 show jn ((ZeO _ _ _ _).bind (ZcD K)) = _
 rw[ZF]
 rw[Zyf,Option.bind_assoc]
 congr 1;funext r
 obtain ⟨e,f',h'⟩:=r
 cases e with
 |normal=>exact (ZF _).symm
 |_=>rfl
theorem Zs9 {lab:XL} {mask:Nat→Fr→Fr}:∀ {m:Nat} {r q:XR},ZcL lab mask m r = some q→ZcL lab mask (m + 1) r = some q
 | 0,r,q,hx=>by simp[ZcL] at hx
 |m + 1,(e,f,h),q,hx=>by
  unfold ZcL at hx⊢
  cases e with
  |goto l=>
   simp only at hx⊢
   cases hl:lab l with
   |none=>rw[hl] at hx;exact hx
   |some r=>
    rw[hl] at hx
    simp only at hx⊢
    obtain ⟨p,h1,h2⟩:=Option.bind_eq_some_iff.1 hx
    rw[h1,Option.bind_some]
    exact Zs9 h2
  |_=>exact hx
theorem ZsA {lab:XL} {mask:Nat→Fr→Fr} {m n:Nat} (hmn:m≤n) {r q:XR} (hx:ZcL lab mask m r = some q):ZcL lab mask n r = some q:=by
 induction hmn with
 |refl=>exact hx
 |step _ ih=>exact Zs9 ih
theorem xgos_some {lab:XL} {mask:Nat→Fr→Fr} {r q:XR}:Zoj lab mask r = some q↔∃ m,ZcL lab mask m r = some q:=by
 unfold Zoj Zlx
 constructor
 ·intro hx
  split at hx
  ·rename_i hh;cases hx;exact hh.choose_spec
  ·cases hx
 ·rintro ⟨m,hm⟩
  have hh:∃ q m,ZcL lab mask m r = some q:=⟨q,m,hm⟩
  rw[dif_pos hh]
  obtain ⟨m',hm'⟩:=hh.choose_spec
  have h1:=ZsA (Nat.le_max_left m m') hm
  have h2:=ZsA (Nat.le_max_right m m') hm'
  rw[h1] at h2
  exact h2.symm
end Go.Proofs.YtogaiomakhapmaaGreat.AL
namespace Go.Proofs.YtogaiomakhapmaaGreat.AL
open Go
variable {G:Rnd} {ρ ρ':Env} {h h':Za} {w w':World} {P:Program}
theorem ZmC (hR:Rel ρ h w) (o:Obj):Evo ρ h w ρ h (w.alloc o):=by
 refine ⟨Nat.le_refl _,fun _ _=>rfl,by simp,⟨rfl,rfl,rfl⟩,fun c hc hn=>⟨?_,hn⟩,fun l r hr=>⟨r,?_⟩⟩
 ·show (w.heap.push o)[c]? = _
  rw[Array.getElem?_push,if_neg (by omega)]
 ·show (w.heap.push o)[l]? = _
  rw[Array.getElem?_push,if_neg (by have:=Zb9 hr;omega)];exact hr
theorem Z1b (hR:Rel ρ h w) (o:Obj):Rel ρ h (w.alloc o):=
 ⟨hR.glob.evo (ZmC hR o),fun b o' hb=>(hR.obj b o' hb).evo (ZmC hR o) fun hd=>by
  show (w.heap.push o)[_]? = _
  rw[Array.getElem?_push,if_neg (by have:=hR.blk_lt hb hd;omega)],hR.inj⟩
theorem ZpI (hR:Rel ρ h w) {b:Nat} {st:LoopState} {pend:Option Code} {a:List AVal} {ps:Array Tmp} {x y:Code} (hb:h[b]? = some (.loop st pend a ps x y)) {o:AObj} {r':Loop}
  (ho:∀ r:Loop,w.heap[(ρ b).blk]? = some (.loop r)→o = .dead∨o = .loop r'.state r'.pending a ps x y∧r'.tmps = r.tmps∧r'.params = r.params∧r'.assign = r.assign∧r'.body = r.body):
  Evo ρ h w ρ (h.set b o) (w.putObj (ρ b).blk (.loop r'))∧Rel ρ (h.set b o) (w.putObj (ρ b).blk (.loop r')):=by
 have hobj:=hR.obj b _ hb
 obtain ⟨r,hr,h1,h2,h3,h4,h5,h6,h7⟩:=hobj
 have hne:(AObj.loop st pend a ps x y)≠ .dead:=by simp
 have hsz:w.heap.size≤(w.putObj (ρ b).blk (.loop r')).heap.size:=by simp
 have hoth:∀ c,c≠(ρ b).blk→(w.putObj (ρ b).blk (.loop r')).heap[c]? = w.heap[c]?:=fun c hc=>World.putObj_heap_other hc
 have hk:∀ r:Loop,w.heap[(ρ b).blk]? = some (Obj.loop r)→∃ r2:Loop,(w.putObj (ρ b).blk (.loop r')).heap[(ρ b).blk]? = some (Obj.loop r2):=fun r hr=>⟨r',World.putObj_heap_same (Zb9 hr)⟩
 have e:Evo ρ h w ρ (h.set b o) (w.putObj (ρ b).blk (.loop r')):=ZdC hR hb hne ⟨rfl,rfl,rfl⟩ hsz hoth hk
 refine ⟨e,hR.set hb hne ⟨rfl,rfl,rfl⟩ hsz hoth hk ?_⟩
 rcases ho r hr with rfl | ⟨rfl,g1,g2,g3,g4⟩
 ·trivial
 ·exact ⟨r',World.putObj_heap_same (Zb9 hr),rfl,rfl,g2.trans h3,g3.trans h4,g4.trans h5,by rw[g1];exact h6,fun i hi=>by rw[g1];exact (h7 i hi).evo e⟩
def ZnT (P:Program) (g:Operand) (ps:Array Tmp) (assign body:Code) (Q:AQ) (a:List AVal) (h:Za):Prop:=
 match Ze a g with
 | .fn (.func i) vs us=>Zd P i = true∧ACalls P i (vs++[.yld h.length]++us) (h++[.loop .ready none a ps assign body]) fun e h2=>match e with
   | .ret _=>∃ st pend a' ps' x y,h2[h.length]? = some (.loop st pend a' ps' x y)∧st≠ .busy∧match pend with
     |none=>Q .normal a (h2.set h.length .dead)
     |some c=>AWp P c Q a (h2.set h.length .dead)
   | .panic c=>Q (.panic c) a h2
 |_=>False
theorem Z0H {ca:Act} {g:Operand} {l i:Nat} {us xs:Array Value} {w:World} (hf:ca.eval g = .func (.func i) us xs) (hc:Zd P i = true):
  ∃ d,(resolve ca.eval (rangeCall g l) 0).run P w = .ok d w∧(invoke d.target d.args).run P w = .ok (.enter i (us++#[.func (.yield l) #[] #[]]++xs)) w:=by
 unfold Zd at hc
 cases hfn:P.funcs[i]? with
 |none=>rw[hfn] at hc;simp at hc
 |some fn=>
  rw[hfn] at hc
  simp only[Bool.and_eq_true,Bool.not_eq_true'] at hc
  obtain ⟨h1,h2⟩:=hc
  have h3:fn.body.isNone = false:=by cases hb:fn.body<;>simp_all
  refine ⟨{ target:=.fn (.func i) xs,args:=us++#[.func (.yield l) #[] #[]]},?_,?_⟩
  ·simp only[rangeCall,resolve,List.map_toArray,List.map_cons,List.map_nil]
   rw[hf];rfl
  ·simp only[invoke,callFunc,Sem.run_bind,run_program,Result.andThen_ok,hfn,h1,h3,Bool.false_eq_true,if_false,Sem.run_pure]
theorem ZvG {g:Operand} {ps:Array Tmp} {assign body:Code} {Q:AQ} {a:List AVal} (hA:ZnT P g ps assign body Q a h):AWp P (.rangeFunc g ps assign body) Q a h:=by
 intro G ρ w ca hR ha
 unfold ZnT at hA
 split at hA
 ·rename_i i vs us hg
  obtain ⟨hc,hA⟩:=hA
  have hv:=ha.eval g
  rw[hg] at hv
  generalize hu:ca.eval g = u at hv
  cases hv with |fn _ _ _ us' xs hl hl' hv hw=>
  have main:∀ (fn:FuncId) (w0:World) (D:Nat) (mark:List Deferred),Evo ρ h w ρ h w0→Rel ρ h w0→(Instr.enterLoop fn ca.tmps ps assign body (FW G.ro).round).run P w = .ok (w0.heap.size,mark) (w0.alloc (.loop { state:=.ready,pending:=none,fn,tmps:=ca.tmps,params:=ps,assign,body,defers:=D}))→
    ARest G ρ h w0 (mark++ca.defers)→∃ (l:Nat) (mark:List Deferred) (w₁:World) (d:Deferred) (w₁':World) (f:FuncId) (args:Array Value) (w₂:World),
   (Instr.enterLoop fn ca.tmps ps assign body (FW G.ro).round).run P w = .ok (l,mark) w₁∧
   (resolve ca.eval (rangeCall g l) 0).run P w₁ = .ok d w₁'∧
   (∀ f',Target.leads P w₁' d.target d.args = some f'→(FW G.ro).fn f')∧
   (invoke d.target d.args).run P w₁' = .ok (.enter f args) w₂∧
   ((FW G.ro).depth.isSome = true→1≤0)∧
   CallsIn (FW G.ro) (0 - 1) P f args w₂ (rangePost (FW G.ro) 0 P l (fun e ca' w'=>∃ ρ' h' a',Evo ρ h w ρ' h' w'∧Rel ρ' h' w'∧AR G ρ' h' w' a' ca'∧Q e a' h') { ca with defers:=mark++ca.defers}):=by
   intro fn w0 D mark e0 R0 hrun hrest
   let rc:Loop:={ state:=.ready,pending:=none,fn,tmps:=ca.tmps,params:=ps,assign,body,defers:=D}
   let ρ1:=ext ρ h.length ⟨w0.heap.size,0,0,1⟩
   have e1:Evo ρ h w0 ρ1 (h++[.loop .ready none a ps assign body]) (w0.alloc (.loop rc)):=Zf0 (o:=.loop .ready none a ps assign body) (co:=.loop rc) (l:=⟨w0.heap.size,0,0,1⟩) R0 rfl
   have R1:Rel ρ1 (h++[.loop .ready none a ps assign body]) (w0.alloc (.loop rc)):=R0.push (o:=.loop .ready none a ps assign body) (co:=.loop rc) (l:=⟨w0.heap.size,0,0,1⟩) rfl
    ⟨rc,by show (w0.heap.push _)[w0.heap.size]? = _;simp,rfl,rfl,rfl,rfl,rfl,ha.size,fun j hj=>((ha.slot j hj).evo e0).evo e1⟩
   obtain ⟨d,h1,h2⟩:=Z0H (P:=P) (l:=w0.heap.size) (w:=w0.alloc (.loop rc)) hu hc
   refine ⟨w0.heap.size,mark,_,d,_,i,_,_,hrun,h1,fun _ _=>trivial,h2,fun hd=>by simp at hd,?_⟩
   have hargs:VRs ρ1 (h++[.loop .ready none a ps assign body]) (w0.alloc (.loop rc)) (vs++[.yld h.length]++us) (us'++#[.func (.yield w0.heap.size) #[] #[]]++xs):=by
    have hy:VR ρ1 (h++[.loop .ready none a ps assign body]) (w0.alloc (.loop rc)) (.yld h.length) (.func (.yield w0.heap.size) #[] #[]):=by
     have:=VR.yld (ρ:=ρ1) (h:=h++[.loop .ready none a ps assign body]) (w:=w0.alloc (.loop rc)) h.length (by simp)
     simpa[ρ1,ext] using this
    exact ((VRs.evo (e0.trans e1) ⟨hl,hv⟩).append (VRs.one hy)).append (VRs.evo (e0.trans e1) ⟨hl',hw⟩)
   refine (ZmL (hA ρ1 _ _ R1 hargs)).mono ?_
   rintro e w3 ⟨ρ3,h3,e',ev,R3,hE,hq⟩
   have ev3:=(e0.trans e1).trans ev
   have hrest3:ARest G ρ3 h3 w3 (mark++ca.defers):=by
    have hnew:ARest G ρ1 (h++[.loop .ready none a ps assign body]) (w0.alloc (.loop rc)) (mark++ca.defers):=hrest.evo e1
    exact hnew.evo ev
   have ha3:AR G ρ3 h3 w3 a { ca with defers:=mark++ca.defers}:=⟨ha.size,fun j hj=>(ha.slot j hj).evo ev3,hrest3⟩
   cases hE with
   |panic c=>exact ⟨ρ3,h3,a,ev3,R3,ha3,hq⟩
   |ret v u hvu=>
    obtain ⟨st,pend,a',ps',x,y,hb,hst,hq⟩:=hq
    obtain ⟨r,hr,g1,g2,g3,g4,g5,g6,g7⟩:=R3.obj _ _ hb
    have hblk:(ρ3 h.length).blk = w0.heap.size:=by
     rw[ev.env h.length (by simp)];simp[ρ1,ext]
    rw[hblk] at hr
    have hend:=run_endLoop (P:=P) hr (by rw[g1];exact hst)
    obtain ⟨e4,R4⟩:=ZpI (o:=.dead) (r':={ r with state:=.exhausted}) R3 hb (fun _ _=>.inl rfl)
    rw[hblk] at e4 R4
    have ha4:=ha3.evo e4
    refine ⟨_,_,hend,?_⟩
    rw[←g2] at hq
    have fin:∀ pd:Option Code,(match pd with
      |none=>Q .normal a (h3.set h.length .dead)
      |some c=>AWp P c Q a (h3.set h.length .dead))→(match pd with
      |none=>∃ ρ' h' a',Evo ρ h w ρ' h' (w3.putObj w0.heap.size (.loop { r with state:=.exhausted}))∧Rel ρ' h' (w3.putObj w0.heap.size (.loop { r with state:=.exhausted}))∧AR G ρ' h' (w3.putObj w0.heap.size (.loop { r with state:=.exhausted})) a' { ca with defers:=mark++ca.defers}∧Q .normal a' h'
      |some c=>c.wpIn (FW G.ro) 0 P (fun e ca' w'=>∃ ρ' h' a',Evo ρ h w ρ' h' w'∧Rel ρ' h' w'∧AR G ρ' h' w' a' ca'∧Q e a' h') { ca with defers:=mark++ca.defers} (w3.putObj w0.heap.size (.loop { r with state:=.exhausted}))):=by
     intro pd hq
     cases pd with
     |none=>exact ⟨ρ3,_,a,ev3.trans e4,R4,ha4,hq⟩
     |some c=>
      refine wpIn_mono (hq G ρ3 _ _ R4 ha4) ?_
      rintro e5 ca5 w5 ⟨ρ5,h5,a5,ev5,R5,ha5,hq5⟩
      exact ⟨ρ5,h5,a5,(ev3.trans e4).trans ev5,R5,ha5,hq5⟩
    exact fin _ hq
  refine wpIn_rangeFunc fun fn _=>?_
  cases hro:G.ro with
  |none=>
   rw[hro] at main
   refine main fn (w.alloc (.deferred (some []))) w.heap.size [{ target:=.collected w.heap.size,args:=#[]}] (ZmC hR _) (Z1b hR _) ?_ ?_
   ·have:=run_enterLoop_outer (P:=P) (w:=w) fn ca.tmps ps assign body
    simpa using this
   ·exact ha.plain.push (ZmC hR _) (fun ho=>by have:=Z1L hR ho;omega) (World.alloc_heap_new w _)
  |some l0=>
   obtain ⟨r0,hr0⟩:=ha.plain.round l0 hro
   rw[hro] at main
   refine main fn w r0.defers [] (.refl ..) hR ?_ ha.plain
   unfold Instr.enterLoop
   simp only[Sem.run_bind,run_getLoop hr0,Result.andThen,Sem.run_pure,run_newObj_alloc]
 ·exact hA.elim
def Zgl (a:List AVal) (ps:List Tmp) (args:List AVal):List AVal:=(ps.zip args).foldl (fun a p=>Zh a (some p.1) p.2) a
theorem ZvL:∀ (ps:List Tmp) (a args:List AVal) (ts:Array Value) (us:List Value),a.length = ts.size→(∀ (i:Nat) (hi:i < a.length),VR ρ h w a[i] (ts.getD i undef))→args.length = us.length→(∀ (i:Nat) (hi:i < args.length),VR ρ h w args[i] (us.getD i undef))→
  (Zgl a ps args).length = ((ps.zip us).foldl (fun (tmps:Array Value) (p:Tmp×Value)=>tmps.setIfInBounds p.1 p.2) ts).size∧∀ (i:Nat) (hi:i < (Zgl a ps args).length),VR ρ h w (Zgl a ps args)[i] (((ps.zip us).foldl (fun (tmps:Array Value) (p:Tmp×Value)=>tmps.setIfInBounds p.1 p.2) ts).getD i undef)
 | [],a,args,ts,us,h1,h2,_,_=>⟨h1,h2⟩
 |p :: ps,a,[],ts,[],h1,h2,_,_=>⟨h1,h2⟩
 |p :: ps,a,v :: args,ts,u :: us,h1,h2,h3,h4=>by
  refine ZvL ps (Zh a (some p) v) args (ts.setIfInBounds p u) us (by simp[Zh,h1]) (fun i hi=>?_) (by simpa using h3) (fun i hi=>by have:=h4 (i + 1) (by simpa using hi);simpa using this)
  have hi':i < a.length:=by simpa[Zh] using hi
  have hs:i < ts.size:=by rw[←h1];exact hi'
  have hvu:VR ρ h w v u:=by have:=h4 0 (by simp);simpa using this
  by_cases e:p = i
  ·subst e
   simp[Zh,Array.getD,hs,hvu]
  ·have:=h2 i hi'
   simpa[Zh,Array.getD,hs,e,Array.getElem_setIfInBounds] using this
 |_ :: _,_,[],_,_ :: _,_,_,h3,_=>by simp at h3
 |_ :: _,_,_ :: _,_,[],_,_,h3,_=>by simp at h3
def ZxT (b:Nat) (R:AEnd→Za→Prop):AQ
 | .normal,_,h=>∃ st p a ps x y,h[b]? = some (.loop st p a ps x y)∧R (.ret (.lit (.bool true))) (h.set b (.loop .ready none a ps x y))
 | .ret,_,h=>∃ st p a ps x y,h[b]? = some (.loop st p a ps x y)∧R (.ret (.lit (.bool false))) (h.set b (.loop .done (some .ret) a ps x y))
 | .exit id,_,h=>∃ st p a ps x y,h[b]? = some (.loop st p a ps x y)∧R (.ret (.lit (.bool false))) (h.set b (.loop .done (some (.exit id)) a ps x y))
 | .goto l,_,h=>∃ st p a ps x y,h[b]? = some (.loop st p a ps x y)∧R (.ret (.lit (.bool false))) (h.set b (.loop .done (some (.goto l)) a ps x y))
 |_,_,_=>False
theorem ZvF {b:Nat} {p:Option Code} {a:List AVal} {ps:Array Tmp} {x y:Code} {args:List AVal} {R:AEnd→Za→Prop} (hb:h[b]? = some (.loop .ready p a ps x y)) (hn:args.length = ps.size)
  (hA:AWp P x (ZnS (fun a1 h1=>∃ p a ps u v,h1[b]? = some (.loop .ready p a ps u v)∧AWp P y (ZxT b R) a1 (h1.set b (.loop .busy p a ps u v))) fun _ _ _=>False) (Zgl a ps.toList args) h):AYield P b args h R:=by
 intro ρ w us hR hv
 obtain ⟨r,hr,g1,g2,g3,g4,g5,g6,g7⟩:=hR.obj _ _ hb
 have hbl:b < h.length:=ZE hb
 have hus:us.size = r.params.size:=by rw[g3,←hn,hv.1]
 refine ⟨_,_,_,_,_root_.Go.run_yield (P:=P) hr hus,?_⟩
 rw[g4,g5]
 refine roundIn_of_wpIn (F:=FW none) trivial ?_
 have htm:=ZvL ps.toList a args r.tmps us.toList g6 g7 (by rw[hv.1];simp) (fun i hi=>by have:=hv.2 i hi;simpa[Array.getD_eq_getD_getElem?,List.getD_eq_getElem?_getD] using this)
 have hfold:(r.params.zip us).foldl (fun tmps (x:Tmp×Value)=>tmps.setIfInBounds x.1 x.2) r.tmps = (ps.toList.zip us.toList).foldl (fun (tmps:Array Value) (p:Tmp×Value)=>tmps.setIfInBounds p.1 p.2) r.tmps:=by
  rw[g3,←Array.foldl_toList,Array.toList_zip]
 have hAR:AR ⟨some (ρ b).blk,0,[]⟩ ρ h w (Zgl a ps.toList args) { tmps:=(r.params.zip us).foldl (fun tmps (x:Tmp×Value)=>tmps.setIfInBounds x.1 x.2) r.tmps,defers:=[]}:=by
  rw[hfold]
  exact ⟨htm.1,htm.2,⟨⟨[],rfl,List.nodup_nil,fun d hd=>by simp at hd⟩,fun c hc=>by simp at hc,fun l hl=>by cases hl;exact ⟨r,hr⟩,Nat.zero_le _⟩⟩
 have h0:=hA ⟨some (ρ b).blk,0,[]⟩ ρ w _ hR hAR
 refine wpIn_mono h0 ?_
 rintro e ca1 w1 ⟨ρ1,h1,a1,ev1,R1,ha1,hq⟩
 cases e with
 |normal=>
  obtain ⟨p1,a2,ps2,x2,y2,hb1,hbody⟩:=hq
  obtain ⟨r1,hr1,k1,k2,k3,k4,k5,k6,k7⟩:=R1.obj _ _ hb1
  have hblk1:(ρ1 b).blk = (ρ b).blk:=by rw[ev1.env b hbl]
  rw[hblk1] at hr1
  obtain ⟨e2,R2⟩:=ZpI (o:=.loop .busy p1 a2 ps2 x2 y2) (r':={ r1 with state:=.busy}) R1 hb1 (fun r' hr'=>by
   rw[hblk1,hr1] at hr';cases hr'
   exact .inr ⟨by rw[k2],rfl,rfl,rfl,rfl⟩)
  rw[hblk1] at e2 R2
  refine ⟨_,run_beginRound (P:=P) hr1 k1,?_⟩
  refine wpIn_mono (hbody ⟨some (ρ b).blk,0,[]⟩ ρ1 _ ca1 R2 (ha1.evo e2)) ?_
  rintro e ca3 w3 ⟨ρ3,h3,a3,ev3,R3,ha3,hq3⟩
  have ev13:=(ev1.trans e2).trans ev3
  have hblk3:(ρ3 b).blk = (ρ b).blk:=by rw[ev13.env b hbl]
  have fin:∀ (jump:Option Code) (o:AObj),(∃ st p a ps x y,h3[b]? = some (.loop st p a ps x y)∧R (.ret (.lit (.bool jump.isNone))) (h3.set b (.loop (if jump.isNone then .ready else .done) jump a ps x y)))→
    ∃ v w',(Instr.endRound (ρ b).blk jump).run P w3 = .ok v w'∧∃ ρ' h' e',Evo ρ h w ρ' h' w'∧Rel ρ' h' w'∧EndR ρ' h' w' e' (.returned v)∧R e' h':=by
   rintro jump o ⟨st,p4,a4,ps4,x4,y4,hb4,hr4⟩
   obtain ⟨r4,hr4',m1,m2,m3,m4,m5,m6,m7⟩:=R3.obj _ _ hb4
   rw[hblk3] at hr4'
   obtain ⟨e4,R4⟩:=ZpI (o:=.loop (if jump.isNone then .ready else .done) jump a4 ps4 x4 y4) (r':={ r4 with state:=if jump.isNone then .ready else .done,pending:=jump}) R3 hb4 (fun r' hr'=>by
    rw[hblk3,hr4'] at hr';cases hr'
    exact .inr ⟨rfl,rfl,rfl,rfl,rfl⟩)
   rw[hblk3] at e4 R4
   exact ⟨_,_,run_endRound (P:=P) jump hr4',ρ3,_,_,ev13.trans e4,R4,.ret _ _ (.lit _),hr4⟩
  cases e with
  |normal=>exact fin none .dead hq3
  |ret=>exact fin (some .ret) .dead hq3
  |exit id=>exact fin (some (.exit id)) .dead hq3
  |goto l=>exact fin (some (.goto l)) .dead hq3
  |panic c=>exact hq3.elim
  |outgrown=>exact hq3.elim
 |exit id=>exact hq.elim
 |goto l=>exact hq.elim
 |ret=>exact hq.elim
 |panic c=>exact hq.elim
 |outgrown=>exact hq.elim
theorem Z4u {b:Nat} {p:Option Code} {a:List AVal} {ps:Array Tmp} {x y:Code} {args:List AVal} {R:AEnd→Za→Prop} (hb:h[b]? = some (.loop .ready p a ps x y)) (hn:args.length = ps.size)
  (hA:AWp P x (ZnS (fun a1 h1=>∃ p,h1[b]? = some (.loop .ready p a ps x y)∧AWp P y (ZxT b R) a1 (h1.set b (.loop .busy p a ps x y))) fun _ _ _=>False) (Zgl a ps.toList args) h):AYield P b args h R:=by
 refine ZvF hb hn (ZeE hA ?_)
 intro e a1 h1 hq
 cases e with
 |normal=>
  obtain ⟨p1,h2,h3⟩:=hq
  exact ⟨p1,a,ps,x,y,h2,h3⟩
 |_=>exact hq
end Go.Proofs.YtogaiomakhapmaaGreat.AL
namespace Go.Proofs.YtogaiomakhapmaaGreat.AL
open Go
variable {G:Rnd} {ρ ρ':Env} {h h':Za} {w w':World} {P:Program}
section moves
variable {b:Frame} {a:Act} {k:List Item} {cs:List Frame}
theorem Z0q {c:Code}:step P (lone (b.atR a (.code (.scope c) :: k)) cs w) = .next (lone (b.atR a (.code c :: .inScope c :: k)) cs w):=
 step_lone_go (by simp[stepG,stepG.exec,Frame.atR])
theorem Z0r {c:Code}:step P (lone (b.atR a (.inScope c :: k)) cs w) = .next (lone (b.atR a k) cs w):=
 step_lone_go (by simp[stepG,stepG.exec,Frame.atR])
end moves
noncomputable def ZeA (nt:Nat) (D:List (Nat×DPart)) (c:Code):Bool:=Code.rec (motive:=fun _=>Bool) true
 (fun id ops draw=>match draw with
  |false=>true
  |true=>match findN D id with
   |some d=>match d.L with
    | []=>ZmF ops d && Zkr ops nt d.A && Ze3 d.A && Zer d.A d.Hd && Ze3 d.Hd && ZlV .any ops d.A d.S
    |_ :: _=>(match d.Tl with | []=>ZjW ops d.F d.L d.T |_ :: _=>ZjV ops d.F d.L d.T d.Tl && Ze3 d.Tl) && ZjA ops d.L
   |none=>true)
 (fun _ _ a b=>a && b) (fun _ _ _ a b=>a && b) (fun _ _ a=>a) (fun _ a=>a) (fun _ _ _ _ a b=>a && b)
 (fun _=>true) (fun _ a=>a) (fun _=>true) (fun _=>true) true (fun _=>true) c
def QK {R:Type} (n:Nat) (K:XK R) (r:R):AQ:=fun e a h=>(∀ c,e≠ .panic c)∧∃ f:Fr,f.Wf n∧a = f.lst n∧K e f h = some r
theorem Z2J {E:XE} {c:Code} {mask:Fr→Fr} {step:Fr→Za→Option XR} (hmw:∀ f:Fr,f.Wf E.n→(mask f).Wf E.n) (hmk:∀ f:Fr,Weak (f.lst E.n) ((mask f).lst E.n))
  (hstep:∀ (f:Fr) (h:Za) (r:XR),f.Wf E.n→step f h = some r→AWp P c (QK E.n ZbG r) (f.lst E.n) h):
  ∀ (m:Nat) (f:Fr) (h:Za) (e:Exit) (f':Fr) (h':Za),f.Wf E.n→ZcK mask step m f h = some (e,f',h')→∀ (ρ:Env) (w:World) (ca:Act) b k cs,b.roundOf = G.ro→Rel ρ h w→AR G ρ h w (f.lst E.n) ca→
    ∃ ca' w',(∃ ρ',Evo ρ h w ρ' h' w'∧Rel ρ' h' w'∧AR G ρ' h' w' (f'.lst E.n) ca'∧f'.Wf E.n∧∀ c,e≠ .panic c)∧ArrivesIn (Machine.fenced P (FW G.ro)) P (lone (b.atR ca (.code c :: .inLoop c :: k)) cs w) b k cs e ca' w':=by
 intro m
 induction m with
 |zero=>intro f h e f' h' hw hx;simp[ZcK] at hx
 |succ m ih=>
  intro f h e f' h' hw hx ρ w ca b k cs hro hR ha
  unfold ZcK at hx
  obtain ⟨⟨e1,f1,h1⟩,hs,hx⟩:=Option.bind_eq_some_iff.1 hx
  obtain ⟨e2,ca1,w1,⟨ρ1,h2,a2,ev,hR1,ha1,hnp,g,hg,rfl,hd⟩,harr⟩:=hstep f h _ hw hs G ρ w ca hR ha b (.inLoop c :: k) cs hro trivial (ZgY _ _)
  cases hd
  cases e1 with
  |normal=>
   obtain ⟨ca3,w3,⟨ρ3,ev3,hR3,ha3,hw3⟩,harr3⟩:=ih (mask f1) h1 e f' h' (hmw _ hg) hx ρ1 w1 ca1 b k cs hro hR1 (ha1.weak (hmk _))
   exact ⟨ca3,w3,⟨ρ3,ev.trans ev3,hR3,ha3,hw3⟩,.of_steps (StepsIn.trans harr (.one (fenced_calm (F:=FW G.ro) (n:=0) trivial (ZgY _ _) rfl) stepR_inLoop)) harr3⟩
  |exit id=>cases hx;exact ⟨ca1,w1,⟨ρ1,ev,hR1,ha1,hg,hnp⟩,.pass (x:=.inLoop c) rfl (fun _ _=>.inl (by simp)) harr⟩
  |goto l=>cases hx;exact ⟨ca1,w1,⟨ρ1,ev,hR1,ha1,hg,hnp⟩,.pass (x:=.inLoop c) rfl (fun _ _=>.inl (by simp)) harr⟩
  |ret=>cases hx;exact ⟨ca1,w1,⟨ρ1,ev,hR1,ha1,hg,hnp⟩,.pass (x:=.inLoop c) rfl (fun _ _=>.inl (by simp)) harr⟩
  |panic ch=>cases hx;exact ⟨ca1,w1,⟨ρ1,ev,hR1,ha1,hg,hnp⟩,.pass (x:=.inLoop c) rfl (fun _ _=>.inl (by simp)) harr⟩
  |outgrown=>cases hx;exact ⟨ca1,w1,⟨ρ1,ev,hR1,ha1,hg,hnp⟩,.pass (x:=.inLoop c) rfl (fun _ _=>.inl (by simp)) harr⟩
theorem Zqp {n:Nat} {f:Fr} (hw:f.Wf n) (l:List (Nat×List Nat)) (k:Option Nat):(ZeV l k f).Wf n:=by
 unfold ZeV;split
 ·exact ZhU hw _
 ·exact hw
theorem Zqq (n:Nat) (f:Fr) (l:List (Nat×List Nat)) (k:Option Nat):Weak (f.lst n) ((ZeV l k f).lst n):=by
 unfold ZeV;split
 ·exact ZhV n f _
 ·exact Weak.refl _
def Zgq (P:Program) (n:Nat) (c:Code) (q:XS):Prop:=∀ (R:Type) (f:Fr) (h:Za) (K:XK R) (r:R),f.Wf n→q R f h K = some r→AWp P c (QK n K r) (f.lst n) h
def Zxi (P:Program) (n:Nat) (c:Code) (lab:XL):Prop:=∀ l,match lab l with
 |some q=>∃ rest,findLabel c l = some rest∧Zgq P n rest q
 |none=>findLabel c l = none
theorem Z2M {n:Nat} {c:Code} {lab:XL} {mask:Nat→Fr→Fr} (hmw:∀ l (f:Fr),f.Wf n→(mask l f).Wf n) (hmk:∀ l (f:Fr),Weak (f.lst n) ((mask l f).lst n)) (hl:Zxi P n c lab):
  ∀ (m:Nat) (e:Exit) (f:Fr) (h:Za) (e':Exit) (f':Fr) (h':Za),f.Wf n→ZcL lab mask m (e,f,h) = some (e',f',h')→(∀ c,e≠ .panic c)→∀ (ρ:Env) (w:World) (ca:Act) b k cs s0,b.roundOf = G.ro→Rel ρ h w→AR G ρ h w (f.lst n) ca→
    ArrivesIn (Machine.fenced P (FW G.ro)) P s0 b (.inScope c :: k) cs e ca w→∃ ca' w',(∃ ρ',Evo ρ h w ρ' h' w'∧Rel ρ' h' w'∧AR G ρ' h' w' (f'.lst n) ca'∧f'.Wf n∧∀ c,e'≠ .panic c)∧ArrivesIn (Machine.fenced P (FW G.ro)) P s0 b k cs e' ca' w':=by
 intro m
 induction m with
 |zero=>intro e f h e' f' h' hw hx;simp[ZcL] at hx
 |succ m ih=>
  intro e f h e' f' h' hw hx hnp ρ w ca b k cs s0 hro hR ha harr
  unfold ZcL at hx
  cases e with
  |goto l=>
   simp only at hx
   have h1:=hl l
   cases hq:lab l with
   |none=>
    rw[hq] at hx h1
    cases hx
    simp only at h1
    exact ⟨ca,w,⟨ρ,.refl ..,hR,ha,hw,hnp⟩,fun k' hk=>harr.1 k' (by simp[gotoIn,h1,hk]),fun hr hk=>harr.2 hr (by simp[gotoIn,h1,hk])⟩
   |some q=>
    rw[hq] at hx h1
    simp only at hx h1
    obtain ⟨rest,hf,hs⟩:=h1
    obtain ⟨⟨e1,f1,h1⟩,h2,hx⟩:=Option.bind_eq_some_iff.1 hx
    obtain ⟨e2,ca1,w1,⟨ρ1,h3,a2,ev,hR1,ha1,hnp1,g,hg,rfl,hd⟩,harr1⟩:=hs XR f h ZbG _ hw h2 G ρ w ca hR ha b (.inScope c :: k) cs hro trivial (ZgY _ _)
    cases hd
    have hmm:∃ f2:Fr,mkM lab mask (e1,f1,h1) = (e1,f2,h1)∧f2.Wf n∧Weak (f1.lst n) (f2.lst n):=by
     unfold mkM
     cases e1 with
     |goto l'=>
      simp only
      cases lab l' with
      |none=>exact ⟨f1,rfl,hg,.refl _⟩
      |some _=>exact ⟨_,rfl,hmw l' f1 hg,hmk l' f1⟩
     |_=>exact ⟨f1,rfl,hg,.refl _⟩
    obtain ⟨f2,hme,hg2,hwk⟩:=hmm
    simp only[hme] at hx
    obtain ⟨ca3,w3,⟨ρ3,ev3,hR3,ha3,hw3⟩,harr3⟩:=ih e1 f2 h1 e' f' h' hg2 hx hnp1 ρ1 w1 ca1 b k cs s0 hro hR1 (ha1.weak hwk) (.of_steps (harr.1 _ (by simp[gotoIn,hf])) harr1)
    exact ⟨ca3,w3,⟨ρ3,ev.trans ev3,hR3,ha3,hw3⟩,harr3⟩
  |normal=>cases hx;exact ⟨ca,w,⟨ρ,.refl ..,hR,ha,hw,hnp⟩,StepsIn.trans harr (.one (fenced_calm (F:=FW G.ro) (n:=0) trivial (ZgY _ _) rfl) Z0r)⟩
  |exit id=>cases hx;exact ⟨ca,w,⟨ρ,.refl ..,hR,ha,hw,hnp⟩,fun k' hk=>harr.1 k' (by simp[exitTo,hk]),fun hr hk=>harr.2 hr (by simp[exitTo,hk])⟩
  |ret=>cases hx;exact ⟨ca,w,⟨ρ,.refl ..,hR,ha,hw,hnp⟩,harr⟩
  |panic ch=>exact absurd rfl (hnp ch)
  |outgrown=>cases hx;exact ⟨ca,w,⟨ρ,.refl ..,hR,ha,hw,hnp⟩,harr⟩
theorem ZuW {R:Type} {n:Nat} {K:Fr→Option R} {r:R}:∀ (ps:List Nat) {f:Fr} {args:List AVal},f.Wf n→ZqC n ps f args K = some r→∃ f':Fr,f'.Wf n∧f'.lst n = Zgl (f.lst n) ps args∧K f' = some r
 | [],f,args,hw,hx=>⟨f,hw,rfl,hx⟩
 |p :: ps,f,[],hw,hx=>by cases hx
 |p :: ps,f,v :: args,hw,hx=>by
  change Zbs n f (some p) v (fun f=>ZqC n ps f args K) = some r at hx
  rw[ZbA] at hx
  obtain ⟨f1,h1,hx⟩:=Option.bind_eq_some_iff.1 hx
  obtain ⟨e1,e2⟩:=Ze6 h1 hw
  obtain ⟨f',a1,a2,a3⟩:=ZuW ps e2 hx
  exact ⟨f',a1,by rw[a2,e1];rfl,a3⟩
theorem Zmq {h g:Za} {b:Nat} {st:LoopState} {pend:Option Code} (hx:ZhO h b st pend = some g):∃ st' p a ps x y,h[b]? = some (.loop st' p a ps x y)∧g = h.set b (.loop st pend a ps x y):=by
 unfold ZhO at hx
 split at hx
 ·rename_i hb
  cases hx
  exact ⟨_,_,_,_,_,_,hb,rfl⟩
 ·cases hx
theorem Z2h {E:XE} {n:Nat} {f:Fr} (hw:f.Wf n) (k:Option Nat):(ZjE E k f).Wf n:=by
 unfold ZjE;split
 ·exact ZhU hw _
 ·exact hw
theorem Z2i (E:XE) (n:Nat) (f:Fr) (k:Option Nat):Weak (f.lst n) ((ZjE E k f).lst n):=by
 unfold ZjE;split
 ·exact ZhV n f _
 ·exact Weak.refl _
theorem Zyb {E:XE} (hE:E.Ok P) {g:Operand} {ps:Array Tmp} {x y:Code} {ix iy:XS} (hix:Zgq P E.n x ix) (hiy:Zgq P E.n y iy) {R:Type} {f:Fr} {h:Za} {K:XK R} {r:R} (hw:f.Wf E.n)
  (hq:Zhz E g ps x y ix iy R f h K = some r):AWp P (.rangeFunc g ps x y) (QK E.n K r) (f.lst E.n) h:=by
 unfold Zhz at hq
 obtain ⟨q,h1,h2⟩:=Option.bind_eq_some_iff.1 hq
 unfold ZtQ at h1
 split at h1
 ·rename_i i vs us hv
  split at h1
  ·rename_i I hI
   obtain ⟨hc,hI⟩:=hE.I.find hI
   obtain ⟨r1,h3,h4⟩:=Option.bind_eq_some_iff.1 h1
   refine ZvG ?_
   unfold ZnT
   rw[show Ze (f.lst E.n) g = .fn (.func i) vs us from (by rw[Zgp hw];exact hv)]
   refine ⟨hc,(hI _ ?_ _ _ _ _ h3).mono ?_⟩
   ·intro c
    unfold ZtR
    by_cases hcb:c = h.length
    ·rw[if_pos hcb]
     subst hcb
     intro args g0 v h' hx
     unfold ZtS at hx
     split at hx
     ·rename_i hcond
      obtain ⟨hb,hn⟩:=hcond
      obtain ⟨q1,h5,h6⟩:=Option.bind_eq_some_iff.1 hx
      unfold Zua at h5
      obtain ⟨f',hw',hl',h7⟩:=ZuW ps.toList hw h5
      rw[ZF] at h7
      refine ZvF hb hn ?_
      rw[←hl']
      refine ZeE (hix XB f' g0 _ q1 hw' h7) ?_
      rintro e a1 g1 ⟨_,f1,hw1,rfl,hk⟩
      cases e with
      |normal=>
       change (Zra g1 h.length).bind _ = some q1 at hk
       obtain ⟨g2,h8,h9⟩:=Option.bind_eq_some_iff.1 hk
       unfold Zra at h8
       split at h8
       ·rename_i p a2 ps2 x2 y2 hb2
        cases h8
        refine ⟨p,a2,ps2,x2,y2,hb2,ZeE (hiy XB f1 _ _ q1 hw1 h9) ?_⟩
        rintro e3 a3 g3 ⟨hnp,f3,hw3,rfl,hk3⟩
        cases hk3
        unfold ZtT at h6
        cases e3 with
        |normal=>
         obtain ⟨g4,h10,h11⟩:=Option.bind_eq_some_iff.1 h6
         obtain ⟨_,_,_,_,_,_,h12,rfl⟩:=Zmq h10
         cases h11
         exact ⟨_,_,_,_,_,_,h12,rfl,rfl⟩
        |ret=>
         obtain ⟨g4,h10,h11⟩:=Option.bind_eq_some_iff.1 h6
         obtain ⟨_,_,_,_,_,_,h12,rfl⟩:=Zmq h10
         cases h11
         exact ⟨_,_,_,_,_,_,h12,rfl,rfl⟩
        |exit id=>
         obtain ⟨g4,h10,h11⟩:=Option.bind_eq_some_iff.1 h6
         obtain ⟨_,_,_,_,_,_,h12,rfl⟩:=Zmq h10
         cases h11
         exact ⟨_,_,_,_,_,_,h12,rfl,rfl⟩
        |goto l=>
         obtain ⟨g4,h10,h11⟩:=Option.bind_eq_some_iff.1 h6
         obtain ⟨_,_,_,_,_,_,h12,rfl⟩:=Zmq h10
         cases h11
         exact ⟨_,_,_,_,_,_,h12,rfl,rfl⟩
        |panic c=>cases h6
        |outgrown=>cases h6
       ·cases h8
      |_=>cases hk
     ·cases hx
    ·rw[if_neg hcb];exact hE.Y c
   ·rintro e g2 ⟨rfl,rfl⟩
    unfold ZtP at h4
    split at h4
    ·rename_i st pend a' ps' x' y' hb
     have hst:st≠ .busy:=by
      rintro rfl
      simp at h4
     have h5:ZtO pend (r1.2.set h.length .dead) = some q:=by
      cases st with
      |busy=>exact absurd rfl hst
      |_=>exact h4
     refine ⟨st,pend,a',ps',x',y',hb,hst,?_⟩
     cases pend with
     |none=>
      cases h5
      exact ⟨(fun _ e=>by cases e),f,hw,rfl,h2⟩
     |some c=>
      cases c with
      |ret=>
       cases h5
       exact Zri ⟨(fun _ e=>by cases e),f,hw,rfl,h2⟩
      |exit id=>
       cases h5
       refine Zrj ⟨(fun _ e=>by cases e),f,hw,rfl,?_⟩
       unfold ZpS at h2
       simp only at h2
       split at h2
       ·rename_i k hk
        rw[ZjR (k:=fun e=>K (.exit e) f) hk] at h2;exact h2
       ·cases h2
      |goto id=>
       cases h5
       refine ZvH ⟨(fun _ e=>by cases e),f,hw,rfl,?_⟩
       unfold ZpS at h2
       simp only at h2
       split at h2
       ·rename_i k hk
        rw[ZjR (k:=fun e=>K (.goto e) f) hk] at h2;exact h2
       ·cases h2
      |_=>cases h5
    ·cases h4
  ·cases h1
 ·cases h1
theorem Zyi {E:XE} (hE:E.Ok P) (hm:P.follows .mixedOrders = true) (c:Code):ZeA E.n E.D c = true→Zgq P E.n c (Zl E c)∧Zxi P E.n c (Zc2 E c):=by
 induction c with
 |skip=>exact fun hd=>⟨fun R f h K r hw hx=>ZmQ ⟨(fun _ e=>by cases e),f,hw,rfl,hx⟩,fun l=>rfl⟩
 |region id ops draw=>
  intro hd
  refine ⟨?_,fun l=>rfl⟩
  intro R f h K r hw hx
  have fin:∀ (f:Fr) (h:Za),f.Wf E.n→(fun f h=>K .normal f h) f h = some r→QK E.n K r .normal (f.lst E.n) h:=fun f h hw hx=>⟨(fun _ e=>by cases e),f,hw,rfl,hx⟩
  cases draw with
  |false=>
   exact Z4v (Zlv hE fin _ _ f f h hw (Weak.refl _) hx)
  |true=>
   change (match findN E.D id with
    |some D=>match D.L with
     | []=>Zdn E.T E.n ops D.F f fun f=>ZbS E ops D.A D.S h D.Hd f [] fun f p=>Zd6 E.n p h.length f fun f=>Zcc E id ops (Zdi ops D.Tl) 500 f (ZeT h p) fun f h=>K .normal f h
     |_ :: _=>Zdn E.T E.n ops D.F f fun f=>Zel E ops h D.L f [] fun f ls=>Zd0 E ops D.T ls f h fun f h=>ZbS E ops [] [] h D.Tl f [] fun f _=>K .normal f h
    |none=>none) = some r at hx
   change (match findN E.D id with
    |some d=>match d.L with
     | []=>ZmF ops d && Zkr ops E.n d.A && Ze3 d.A && Zer d.A d.Hd && Ze3 d.Hd && ZlV .any ops d.A d.S
     |_ :: _=>(match d.Tl with | []=>ZjW ops d.F d.L d.T |_ :: _=>ZjV ops d.F d.L d.T d.Tl && Ze3 d.Tl) && ZjA ops d.L
    |none=>true) = true at hd
   cases hf:findN E.D id with
   |none=>simp[hf] at hx
   |some D=>
    rcases hDL:D.L with _ | ⟨l0,ll⟩
    rotate_left
    ·simp only[hf,hDL,Bool.and_eq_true] at hx hd
     obtain ⟨hd1,hd2⟩:=hd
     obtain ⟨f0,hw0,hl0,hx⟩:=Zok hE.T D.F f hw hx
     rcases hTl:D.Tl with _ | ⟨m0,ml⟩
     rotate_left
     ·rw[hTl] at hd1 hx
      simp only[Bool.and_eq_true] at hd1
      obtain ⟨hd1,hd3⟩:=hd1
      have hlo:LateOk .any ops (D.F++(m0 :: ml)) (l0 :: ll) D.T (TP.nums D.T):=by
       have hd1':=hd1
       simp only[ZjV,Bool.and_eq_true] at hd1'
       exact Zmy hd1'.1.1.1.1.1.1.1.1.2
      refine Z4y hm (fun c a h hq=>hq.1 c rfl) hd1 hl0 (Zqv _ _ _ hd2 (fun r hr=>by cases hr) ?_)
      refine Zoa hE (fun f ls hw hx hls=>ZiX hE (fun f h hw hx=>?_) D.T ls f h hlo.sep hw hls hx) _ f0 [] hw0 hx
      exact Zh1 hE (ZhF (md:=.any) (A:=[]) (S:=[]) rfl) (K:=fun f _=>K .normal f h) (fun f p g hw _ hk=>fin f h hw hk)
       (m0 :: ml) [] [] f [] (fun _=>none) rfl List.nodup_nil rfl (fun k hk=>by cases hk) (ZhS hd3) hw rfl (fun _ _=>rfl) (fun _ _=>rfl) (fun _ _ _ _=>rfl) hx
     rw[hTl] at hd1 hx
     simp only at hd1
     have hlo:LateOk .any ops D.F (l0 :: ll) D.T (TP.nums D.T):=by
      simp only[ZjW,Bool.and_eq_true] at hd1
      exact Zmy hd1.1.1.2
     refine Z4z hm (fun c a h hq=>hq.1 c rfl) hd1 hl0 (Zqv _ _ _ hd2 (fun r hr=>by cases hr) ?_)
     exact Zoa hE (fun f ls hw hx hls=>ZiX hE fin D.T ls f h hlo.sep hw hls hx) _ f0 [] hw0 hx
    ·simp only[hf,hDL] at hx hd
     simp only[Bool.and_eq_true] at hd
     obtain ⟨⟨⟨⟨⟨hd1,hd2⟩,hd3⟩,hd4⟩,hd5⟩,hd6⟩:=hd
     obtain ⟨f0,hw0,hl0,hx⟩:=Zok hE.T D.F f hw hx
     refine Z40 D hm (fun c a h hq=>hq.1 c rfl) hd1 (by rw[show (f.lst E.n).length = E.n by simp[Fr.lst]];exact hd2) hd3 hd6 hl0 ?_
     refine Zh1 hE (ZhF hd6) (K:=fun f p=>Zd6 E.n p h.length f fun f=>Zcc E id ops (Zdi ops D.Tl) 500 f (ZeT h p) fun f h=>K .normal f h) ?_
      D.Hd [] D.A f0 [] (fun _=>none) rfl (ZhS hd3) hd4 (fun k hk=>by cases hk) (ZhS hd5) hw0 rfl (fun _ _=>rfl) (fun _ _=>rfl) (fun _ _ _ _=>rfl) hx
     intro f' p g hf' hg hk
     obtain ⟨f2,hw2,hl2,hk⟩:=Zq9 hg hf' hk
     rw[Zq7 hg,←hl2]
     rw[Z13] at hk
     exact Zlv hE fin _ _ f2 f2 _ hw2 (Weak.refl _) hk
 |seq a b iha ihb=>
  intro hd
  have hd':(ZeA E.n E.D a && ZeA E.n E.D b) = true:=hd
  rw[Bool.and_eq_true] at hd'
  have key:∀ (q:XS) (c:Code),Zgq P E.n c q→Zgq P E.n (.seq c b) (fun R f h K=>q R f h fun e f h=>match e with
    | .normal=>ZeF E.Ms (ZcH b) f fun f=>Zl E b R f h K
    |e=>K e f h):=by
   intro q c hq R f h K r hw hx
   refine Zdm (ZeE (hq R f h _ r hw hx) ?_)
   rintro e a' h1 ⟨hnp,g,hg,rfl,hk⟩
   cases e with
   |normal=>
    change ZeF E.Ms (ZcH b) g (fun f=>Zl E b R f h1 K) = some r at hk
    rw[Zrk] at hk
    exact Zf9 (Zqq _ _ _ _) ((ihb hd'.2).1 R _ h1 K r (Zqp hg _ _) hk)
   |_=>exact ⟨hnp,g,hg,rfl,hk⟩
  refine ⟨key _ a (iha hd'.1).1,fun l=>?_⟩
  have ha:=(iha hd'.1).2 l
  have hb:=(ihb hd'.2).2 l
  show match (match Zc2 E a l with
   |some r=>some fun R f h K=>r R f h fun e f h=>match e with
    | .normal=>ZeF E.Ms (ZcH b) f fun f=>Zl E b R f h K
    |e=>K e f h
   |none=>Zc2 E b l) with
   |some q=>∃ rest,findLabel (.seq a b) l = some rest∧Zgq P E.n rest q
   |none=>findLabel (.seq a b) l = none
  cases hq:Zc2 E a l with
  |some q=>
   rw[hq] at ha
   obtain ⟨rest,hf,hs⟩:=ha
   exact ⟨.seq rest b,by simp[findLabel,hf],key q rest hs⟩
  |none=>
   rw[hq] at ha
   simp only at ha⊢
   have e:findLabel (.seq a b) l = findLabel b l:=by simp[findLabel,ha]
   rw[e];exact hb
 |cond c a b iha ihb=>
  intro hd
  refine ⟨?_,fun l=>rfl⟩
  intro R f h K r hw hx
  have hd':(ZeA E.n E.D a && ZeA E.n E.D b) = true:=hd
  rw[Bool.and_eq_true] at hd'
  change (match Zbn f c with
   | .lit (.bool b')=>cond b' (Zl E a R f h K) (Zl E b R f h K)
   |_=>none) = some r at hx
  split at hx
  ·rename_i b' hb
   refine ZmR (b:=b') (by rw[Zgp hw];exact hb) (fun e=>?_) (fun e=>?_)
   ·subst e;exact (iha hd'.1).1 R f h K r hw hx
   ·subst e;exact (ihb hd'.2).1 R f h K r hw hx
  ·cases hx
 |block id a iha=>
  intro hd
  refine ⟨?_,fun l=>rfl⟩
  intro R f h K r hw hx
  refine ZmS (ZeE ((iha hd).1 R f h _ r hw hx) ?_)
  rintro e a' h1 ⟨hnp,g,hg,rfl,hk⟩
  cases e with
  |exit id'=>
   simp only at hk
   simp only[ZnV]
   split at hk
   ·rename_i hb
    rw[if_pos (Nat.eq_of_beq_eq_true hb)];exact ⟨(fun _ e=>by cases e),g,hg,rfl,hk⟩
   ·rename_i hb
    rw[if_neg (Nat.ne_of_beq_eq_false hb)];exact ⟨hnp,g,hg,rfl,hk⟩
  |_=>exact ⟨hnp,g,hg,rfl,hk⟩
 |loop a iha=>
  intro hd
  refine ⟨?_,fun l=>rfl⟩
  intro R f h K r hw hx
  change jn ((ZeO (ZeV E.Ml (ZcH a)) (fun f h=>Zl E a XR f h ZbG) (ZeV E.Ml (ZcH a) f) h).bind (ZcD K)) = some r at hx
  rw[ZF] at hx
  obtain ⟨⟨e,f',h'⟩,h1,h2⟩:=Option.bind_eq_some_iff.1 hx
  obtain ⟨m,hm⟩:=xloop_some.1 h1
  refine Zf9 (Zqq E.n f E.Ml (ZcH a)) ?_
  intro G ρ w ca hR ha b k cs hro _ _
  obtain ⟨ca',w',⟨ρ',ev,hR',ha',hw',hnp⟩,harr⟩:=Z2J (G:=G) (P:=P) (E:=E) (c:=a) (fun f hf=>Zqp hf _ _) (fun f=>Zqq _ f _ _)
   (fun f h r hw hs=>(iha hd).1 XR f h ZbG r hw hs) m _ h e f' h' (Zqp hw _ _) hm ρ w ca b k cs hro hR ha
  exact ⟨e,ca',w',⟨ρ',h',_,ev,hR',ha',hnp,f',hw',rfl,h2⟩,.of_steps (.one (fenced_calm (F:=FW G.ro) (n:=0) trivial (ZgY _ _) rfl) stepR_loop) harr⟩
 |rangeFunc g ps x y ihx ihy=>
  intro hd
  refine ⟨fun R f h K r hw hx=>?_,fun l=>rfl⟩
  have hd':(ZeA E.n E.D x && ZeA E.n E.D y) = true:=hd
  rw[Bool.and_eq_true] at hd'
  exact Zf9 (Z2i E E.n f _) (Zyb hE (ihx hd'.1).1 (ihy hd'.2).1 (Z2h hw _) hx)
 |exit id=>exact fun hd=>⟨fun R f h K r hw hx=>Zrj ⟨(fun _ e=>by cases e),f,hw,rfl,hx⟩,fun l=>rfl⟩
 |scope a iha=>
  intro hd
  refine ⟨?_,fun l=>rfl⟩
  intro R f h K r hw hx
  obtain ⟨hs,hl⟩:=iha hd
  intro G ρ w ca hR ha b k cs hro _ _
  obtain ⟨e,ca1,w1,⟨ρ1,h1,a1,ev,hR1,ha1,hnp,g,hg,rfl,hk⟩,harr⟩:=hs R f h _ r hw hx G ρ w ca hR ha b (.inScope a :: k) cs hro trivial (ZgY _ _)
  have harr0:ArrivesIn (Machine.fenced P (FW G.ro)) P (lone (b.atR ca (.code (.scope a) :: k)) cs w) b (.inScope a :: k) cs e ca1 w1:=.of_steps (.one (fenced_calm (F:=FW G.ro) (n:=0) trivial (ZgY _ _) rfl) Z0q) harr
  have out:∃ (g':Fr) (e':Exit) (f':Fr) (h':Za),(g'.Wf E.n∧Weak (g.lst E.n) (g'.lst E.n))∧(∃ m,ZcL (Zc2 E a) (ZjF E) m (e,g',h1) = some (e',f',h'))∧K e' f' h' = some r:=by
   unfold Zs5 at hk
   have triv:(∀ l,e≠ .goto l)→∃ m,ZcL (Zc2 E a) (ZjF E) m (e,g,h1) = some (e,g,h1):=fun hne=>⟨1,by
    unfold ZcL
    cases e with
    |goto l=>exact absurd rfl (hne l)
    |_=>rfl⟩
   cases e with
   |goto l=>
    simp only at hk
    change (match Zc2 E a l with
     |some _=>Zh2 E (Zc2 E a) l R g h1 K
     |none=>K (.goto l) g h1) = some r at hk
    cases hq:Zc2 E a l with
    |none=>
     rw[hq] at hk
     exact ⟨g,_,_,_,⟨hg,.refl _⟩,⟨1,by unfold ZcL;simp only[hq]⟩,hk⟩
    |some q=>
     rw[hq] at hk
     simp only at hk
     unfold Zh2 at hk
     rw[ZF] at hk
     obtain ⟨⟨e',f',h'⟩,h2,h3⟩:=Option.bind_eq_some_iff.1 hk
     exact ⟨_,e',f',h',⟨ZhU hg _,ZhV _ _ _⟩,xgos_some.1 h2,h3⟩
   |normal=>exact ⟨g,_,_,_,⟨hg,.refl _⟩,triv (fun l e=>by cases e),hk⟩
   |exit id=>exact ⟨g,_,_,_,⟨hg,.refl _⟩,triv (fun l e=>by cases e),hk⟩
   |ret=>exact ⟨g,_,_,_,⟨hg,.refl _⟩,triv (fun l e=>by cases e),hk⟩
   |panic c=>exact ⟨g,_,_,_,⟨hg,.refl _⟩,triv (fun l e=>by cases e),hk⟩
   |outgrown=>exact ⟨g,_,_,_,⟨hg,.refl _⟩,triv (fun l e=>by cases e),hk⟩
  obtain ⟨g',e',f',h',⟨hg',hwk'⟩,⟨m,hmx⟩,hk'⟩:=out
  obtain ⟨ca',w',⟨ρ',ev',hR',ha',hw',hnp'⟩,harr'⟩:=Z2M (G:=G) (P:=P) (n:=E.n) (c:=a) (lab:=Zc2 E a) (mask:=ZjF E) (fun l f hf=>ZhU hf _) (fun l f=>ZhV _ _ _) hl m e g' h1 e' f' h' hg' hmx hnp ρ1 w1 ca1 b k cs _ hro hR1 (ha1.weak hwk') harr0
  exact ⟨e',ca',w',⟨ρ',h',_,ev.trans ev',hR',ha',hnp',f',hw',rfl,hk'⟩,harr'⟩
 |label l'=>
  intro hd
  refine ⟨fun R f h K r hw hx=>Z4x ⟨(fun _ e=>by cases e),f,hw,rfl,hx⟩,fun l=>?_⟩
  show match (match Nat.beq l' l with
   |true=>some fun R f h K=>K .normal f h
   |false=>none:Option XS) with
   |some q=>∃ rest,findLabel (.label l') l = some rest∧Zgq P E.n rest q
   |none=>findLabel (.label l') l = none
  cases hb:Nat.beq l' l with
  |true=>
   have e:=Nat.eq_of_beq_eq_true hb
   subst e
   exact ⟨.skip,by simp[findLabel],fun R f h K r hw hx=>ZmQ ⟨(fun _ e=>by cases e),f,hw,rfl,hx⟩⟩
  |false=>
   have e:=Nat.ne_of_beq_eq_false hb
   simp[findLabel,e]
 |goto l=>exact fun hd=>⟨fun R f h K r hw hx=>ZvH ⟨(fun _ e=>by cases e),f,hw,rfl,hx⟩,fun l=>rfl⟩
 |ret=>exact fun hd=>⟨fun R f h K r hw hx=>Zri ⟨(fun _ e=>by cases e),f,hw,rfl,hx⟩,fun l=>rfl⟩
 |refuse=>exact fun hd=>⟨fun R f h K r hw hx=>(by cases hx),fun l=>rfl⟩
theorem ZsB {E:XE} (hE:E.Ok P) (hm:P.follows .mixedOrders = true) (c:Code) (hd:ZeA E.n E.D c = true) (R:Type) (f:Fr) (h:Za) (K:XK R) (r:R) (hw:f.Wf E.n) (hx:Zl E c R f h K = some r):AWp P c (QK E.n K r) (f.lst E.n) h:=
 (Zyi hE hm c hd).1 R f h K r hw hx
def Zqg (vs:List AVal):AVal:=match vs with
 | [v]=>v
 |vs=>.tup vs
noncomputable def ZiW {R:Type} (T:Tab) (f:Fr) (h:Za) (rs:List ResultVar):List AVal→(AVal→Option R)→Option R:=
 List.rec (motive:=fun _=>List AVal→(AVal→Option R)→Option R) (fun vs K=>K (Zqg vs)) (fun r _ ih vs K=>match r with
  | .tmp t=>ih (vs++[f.get t]) K
  | .cell c t=>Zjd T t h (f.get c) fun v=>Zkd T t v fun v=>ih (vs++[v]) K) rs
theorem ZnZ {R:Type} {T:Tab} (hT:T.Ok P) {n:Nat} {f:Fr} (hw:f.Wf n) {h:Za} {K:AVal→Prop} {K0:AVal→Option R} {r:R}:∀ (rs:List ResultVar) (vs:List AVal),ZiW T f h rs vs K0 = some r→(∀ v,K0 v = some r→K v)→aResults.go P (f.lst n) h rs vs K
 | [],vs,hx,hK=>by
   change K0 (Zqg vs) = some r at hx
   have:=hK _ hx
   unfold aResults.go
   unfold Zqg at this
   rcases vs with _ | ⟨v,_ | ⟨u,l⟩⟩
   ·exact this
   ·exact this
   ·exact this
 | .tmp t :: rs,vs,hx,hK=>by
   unfold aResults.go
   rw[Zio hw]
   exact ZnZ hT hw rs _ hx hK
 | .cell c t :: rs,vs,hx,hK=>by
   change (Zjd T t h (f.get c) fun v=>Zkd T t v fun v=>ZiW T f h rs (vs++[v]) K0) = some r at hx
   unfold aResults.go
   rw[ZsH] at hx
   obtain ⟨y,h1,hx⟩:=Option.bind_eq_some_iff.1 hx
   rw[Zv1] at hx
   obtain ⟨y',h2,hx⟩:=Option.bind_eq_some_iff.1 hx
   have e2:=Zv0 h2
   subst e2
   rw[Zio hw]
   exact Zov hT h1 (ZnZ hT hw rs _ (by rw[h2] at hx;exact hx) hK)
def ZcI:List AVal→Nat→Fr
 | [],_=>[]
 |v :: vs,i=>(i,v) :: ZcI vs (i + 1)
theorem ZqJ:∀ (l:List AVal) (i j:Nat),(ZcI l i).get j = if i≤j∧j < i + l.length then l.getD (j - i) .any else .any
 | [],i,j=>by
   have:¬(i≤j∧j < i + ([]:List AVal).length):=by simp only[List.length_nil];omega
   rw[if_neg this];rfl
 |v :: l,i,j=>by
  rw[ZcI,Fr.get_cons,ZqJ l (i + 1) j]
  simp only[List.length_cons]
  by_cases h:j = i
  ·subst h;simp
  ·rw[if_neg h]
   by_cases h2:i + 1≤j∧j < i + 1 + l.length
   ·rw[if_pos h2,if_pos (by omega)]
    have:j - i = (j - (i + 1)) + 1:=by omega
    rw[this];rfl
   ·rw[if_neg h2,if_neg (by omega)]
theorem Z3o {l:List AVal} {n:Nat} (hn:l.length≤n):(ZcI l 0).Wf n:=by
 intro t ht;rw[ZqJ,if_neg (by omega)]
theorem Zvj {l:List AVal} {n:Nat} (hn:l.length≤n):(ZcI l 0).lst n = l++List.replicate (n - l.length) .any:=by
 apply List.ext_getElem
 ·simp[Fr.lst];omega
 ·intro i h1 h2
  simp only[Fr.lst,List.getElem_map,List.getElem_range,ZqJ]
  rcases Nat.lt_or_ge i l.length with h |h
  ·rw[if_pos (by omega),List.getElem_append_left h]
   simp[List.getD_eq_getElem?_getD,h]
  ·rw[if_neg (by omega),List.getElem_append_right h,List.getElem_replicate]
noncomputable def Zj (E:XE) (fn:Func):XK (AVal×Za):=fun e f h=>match e with
 | .normal=>ZiW E.T f h fn.results.toList [] fun v=>some (v,h)
 | .ret=>ZiW E.T f h fn.results.toList [] fun v=>some (v,h)
 |_=>none
noncomputable def Zt (E:XE) (fn:Func) (args:List AVal) (h:Za):Option (AVal×Za):=match fn.body,Nat.ble args.length E.n with
 |some c,true=>Zl E c _ (ZcI args 0) h (Zj E fn)
 |_,_=>none
theorem Zki {c:Code} {Q:AQ} {a:List AVal} (hc:AWp P c Q a h):AWp P c (fun e a' h'=>Q e a' h'∧h.length≤h'.length) a h:=
 fun G ρ w ca hR ha=>wpIn_mono (hc G ρ w ca hR ha) fun _ _ _ ⟨ρ',h',a',h1,h2,h3,h4⟩=>⟨ρ',h',a',h1,h2,h3,h4,h1.ids⟩
theorem Zu {E:XE} (hE:E.Ok P) (hm:P.follows .mixedOrders = true) {i:FuncId} {fn:Func} (hf:P.funcs[i]? = some fn) (hn:fn.ntmps = E.n) (hd:(match fn.body with
  |some c=>ZeA E.n E.D c
  |none=>true) = true) {args:List AVal} {v:AVal} {R:AEnd→Za→Prop} (hx:Zt E fn args h = some (v,h')) (hR:HOk h→h.length≤h'.length→ABody.AEnds h h' (.ret v) R):ACalls P i args h R:=by
 unfold Zt at hx
 split at hx
 ·rename_i c hb hl
  have hl':args.length≤E.n:=Nat.le_of_ble_eq_true hl
  refine ZvR hf hb fun hok=>?_
  rw[hb] at hd
  have h1:=ZsB hE hm c hd _ _ h (Zj E fn) _ (Z3o hl') hx
  rw[Zvj hl',←hn] at h1
  refine ZeE (Zki h1) ?_
  rintro e a g ⟨⟨_,f,hw,rfl,hk⟩,hlen⟩
  have done:ZiW E.T f g fn.results.toList [] (fun v=>some (v,g)) = some (v,h')→aResults P fn (f.lst fn.ntmps) g fun v=>ABody.AEnds h g (.ret v) R:=by
   intro hk
   unfold aResults
   refine ZnZ hE.T hw _ _ hk fun v' hv=>?_
   cases hv
   exact hR hok hlen
  cases e with
  |normal=>exact done hk
  |ret=>exact done hk
  |_=>cases hk
 ·cases hx
end Go.Proofs.YtogaiomakhapmaaGreat.AL
namespace Go.Proofs.YtogaiomakhapmaaGreat.AL
open Go
structure TyRow where
 desc:TypeDesc
 siz:Nat
 byt:Nat
 zer:Option AVal
 fit:Bool
 lvs:Option (List Leaf)
structure RowOk (P:Program) (t:Nat) (r:TyRow):Prop where
 und:P.underlying t = some r.desc
 siz:Zx P t = some r.siz
 byt:ZK P t = some r.byt
 zer:∀ z,r.zer = some z→Z5 P t = some z
 fit:r.fit = true→ZdP P t
 lvs:∀ l,r.lvs = some l→Zco P 20 t = some l∧Zy P t = some true∧P.eqGuardType P.depth t = false
noncomputable def Zn (rows:List (Nat×TyRow)):Tab where
 und t:=match findN rows t with
  |some r=>some r.desc
  |none=>none
 siz t:=match findN rows t with
  |some r=>some r.siz
  |none=>none
 byt t:=match findN rows t with
  |some r=>some r.byt
  |none=>none
 zer t:=match findN rows t with
  |some r=>r.zer
  |none=>none
 fit t:=match findN rows t with
  |some r=>r.fit
  |none=>false
 lvs t:=match findN rows t with
  |some r=>r.lvs
  |none=>none
def RowsOk (P:Program):List (Nat×TyRow)→Prop
 | []=>True
 | (t,r) :: l=>RowOk P t r∧RowsOk P l
theorem RowsOk.find {P:Program}:∀ {l:List (Nat×TyRow)} {t:Nat} {r:TyRow},RowsOk P l→findN l t = some r→RowOk P t r
 | [],t,r,_,h=>by cases h
 | (k,x) :: l,t,r,hl,h=>by
   rcases findN_some h with ⟨rfl,rfl⟩ |h
   ·exact hl.1
   ·exact RowsOk.find hl.2 h
theorem Zp {P:Program} {rows:List (Nat×TyRow)} (hl:RowsOk P rows):(Zn rows).Ok P:=by
 constructor
 ·intro t d h;simp only[Zn] at h;split at h
  ·rename_i hf;cases h;exact (hl.find hf).und
  ·cases h
 ·intro t d h;simp only[Zn] at h;split at h
  ·rename_i hf;cases h;exact (hl.find hf).siz
  ·cases h
 ·intro t d h;simp only[Zn] at h;split at h
  ·rename_i hf;cases h;exact (hl.find hf).byt
  ·cases h
 ·intro t d h;simp only[Zn] at h;split at h
  ·rename_i hf;exact (hl.find hf).zer _ h
  ·cases h
 ·intro t h;simp only[Zn] at h;split at h
  ·rename_i hf;exact (hl.find hf).fit h
  ·cases h
 ·intro t d h;simp only[Zn] at h;split at h
  ·rename_i hf;exact (hl.find hf).lvs _ h
  ·cases h
def psh (h:Za) (o:AObj):Za:=h++[o]
def apd (h:Za) (l:List AObj):Za:=h++l
def ZP (fn:Func):Code:=match fn.body with
 |some c=>c
 |none=>.skip
def ca:Code→Code
 | .seq a _=>a
 | .cond _ a _=>a
 | .block _ a=>a
 | .loop a=>a
 | .scope a=>a
 | .rangeFunc _ _ a _=>a
 |c=>c
def cb:Code→Code
 | .seq _ b=>b
 | .cond _ _ b=>b
 | .rangeFunc _ _ _ b=>b
 |c=>c
def Zk:Code→Array Oper
 | .region _ ops _=>ops
 |_=>#[]
noncomputable def Zi {R:Type} (E:XE) (b:Code) (K:XK R):XK R:=fun e f h=>match e with
 | .normal=>ZeF E.Ms (ZcH b) f fun f=>Zl E b R f h K
 |e=>K e f h
def ZW {R:Type} (id:Nat) (K:XK R):XK R:=fun e f h=>match e with
 | .exit id'=>match Nat.beq id' id with
   |true=>K .normal f h
   |false=>K (.exit id') f h
 |e=>K e f h
noncomputable def Zdp {R:Type} (E:XE) (c:Code) (K:XK R):XK R:=fun e f h=>match e with
 | .normal=>Zl E (.loop c) R f h K
 |e=>K e f h
def kN {R:Type} (K:XK R):Fr→Za→Option R:=fun f h=>K .normal f h
end Go.Proofs.YtogaiomakhapmaaGreat.AL
namespace Go.Proofs.YtogaiomakhapmaaGreat.AL
set_option maxRecDepth 10000
open Go
noncomputable def r3:TyRow:={ desc:=.int .i64,siz:=1,byt:=8,zer:=some (.lit (.int .i64 0)),fit:=false,lvs:=none}
theorem Z0:RowOk Tryz.prog 3 r3:=⟨by kernel_rfl,by kernel_rfl,by kernel_rfl,(fun z hz=>by cases hz;kernel_rfl),(fun h=>by cases h),(fun l hl=>by cases hl)⟩
noncomputable def r4:TyRow:={ desc:=.bool,siz:=1,byt:=1,zer:=some (.lit (.bool false)),fit:=false,lvs:=none}
theorem Z1:RowOk Tryz.prog 4 r4:=⟨by kernel_rfl,by kernel_rfl,by kernel_rfl,(fun z hz=>by cases hz;kernel_rfl),(fun h=>by cases h),(fun l hl=>by cases hl)⟩
noncomputable def r5:TyRow:={ desc:=.int .u8,siz:=1,byt:=1,zer:=some (.lit (.int .u8 0)),fit:=false,lvs:=none}
theorem ZdT:RowOk Tryz.prog 5 r5:=⟨by kernel_rfl,by kernel_rfl,by kernel_rfl,(fun z hz=>by cases hz;kernel_rfl),(fun h=>by cases h),(fun l hl=>by cases hl)⟩
noncomputable def r9:TyRow:={ desc:=.string,siz:=1,byt:=16,zer:=some (.lit (.string { data:=#[]})),fit:=false,lvs:=none}
theorem Zz:RowOk Tryz.prog 9 r9:=⟨by kernel_rfl,by kernel_rfl,by kernel_rfl,(fun z hz=>by cases hz;kernel_rfl),(fun h=>by cases h),(fun l hl=>by cases hl)⟩
noncomputable def r20:TyRow:={ desc:=.interface #[],siz:=1,byt:=16,zer:=some (.lit (.nilIface)),fit:=false,lvs:=none}
theorem Z1i:RowOk Tryz.prog 20 r20:=⟨by kernel_rfl,by kernel_rfl,by kernel_rfl,(fun z hz=>by cases hz;kernel_rfl),(fun h=>by cases h),(fun l hl=>by cases hl)⟩
noncomputable def r21:TyRow:={ desc:=.int .i32,siz:=1,byt:=4,zer:=some (.lit (.int .i32 0)),fit:=false,lvs:=none}
theorem Zud:RowOk Tryz.prog 21 r21:=⟨by kernel_rfl,by kernel_rfl,by kernel_rfl,(fun z hz=>by cases hz;kernel_rfl),(fun h=>by cases h),(fun l hl=>by cases hl)⟩
noncomputable def r22:TyRow:={ desc:=.slice 39,siz:=1,byt:=24,zer:=some (.lit (.slice none 0 0)),fit:=true,lvs:=none}
noncomputable def r25:TyRow:={ desc:=.pointer 79,siz:=1,byt:=8,zer:=some (.lit (.pointer none)),fit:=false,lvs:=none}
theorem ZbQ:RowOk Tryz.prog 25 r25:=⟨by kernel_rfl,by kernel_rfl,by kernel_rfl,(fun z hz=>by cases hz;kernel_rfl),(fun h=>by cases h),(fun l hl=>by cases hl)⟩
noncomputable def r26:TyRow:={ desc:=.int .i64,siz:=1,byt:=8,zer:=some (.lit (.int .i64 0)),fit:=false,lvs:=none}
theorem ZbE:RowOk Tryz.prog 26 r26:=⟨by kernel_rfl,by kernel_rfl,by kernel_rfl,(fun z hz=>by cases hz;kernel_rfl),(fun h=>by cases h),(fun l hl=>by cases hl)⟩
noncomputable def r29:TyRow:={ desc:=.pointer 45,siz:=1,byt:=8,zer:=some (.lit (.pointer none)),fit:=false,lvs:=none}
theorem ZcE:RowOk Tryz.prog 29 r29:=⟨by kernel_rfl,by kernel_rfl,by kernel_rfl,(fun z hz=>by cases hz;kernel_rfl),(fun h=>by cases h),(fun l hl=>by cases hl)⟩
noncomputable def r34:TyRow:={ desc:=.slice 99,siz:=1,byt:=24,zer:=some (.lit (.slice none 0 0)),fit:=true,lvs:=none}
noncomputable def r36:TyRow:={ desc:=.struct #[{ name:= "Stage",type:=3,offset:=0,embedded:=false,tag:= "",pkgPath:= "",byteOffset:=0},{ name:= "Pass",type:=3,offset:=1,embedded:=false,tag:= "",pkgPath:= "",byteOffset:=8},{ name:= "Files",type:=34,offset:=2,embedded:=false,tag:= "",pkgPath:= "",byteOffset:=16}],siz:=3,byt:=40,zer:=some (.agg [.lit (.int .i64 0),.lit (.int .i64 0),.lit (.slice none 0 0)]),fit:=false,lvs:=none}
noncomputable def r37:TyRow:={ desc:=.slice 3,siz:=1,byt:=24,zer:=some (.lit (.slice none 0 0)),fit:=true,lvs:=none}
theorem Zuc:RowOk Tryz.prog 37 r37:=⟨by kernel_rfl,by kernel_rfl,by kernel_rfl,(fun z hz=>by cases hz;kernel_rfl),(fun _=>Zdz (by kernel_rfl)),(fun l hl=>by cases hl)⟩
noncomputable def r39:TyRow:={ desc:=.struct #[{ name:= "M",type:=36,offset:=0,embedded:=false,tag:= "",pkgPath:= "",byteOffset:=0},{ name:= "Fuse",type:=3,offset:=3,embedded:=false,tag:= "",pkgPath:= "",byteOffset:=40},{ name:= "Keep",type:=37,offset:=4,embedded:=false,tag:= "",pkgPath:= "",byteOffset:=48}],siz:=5,byt:=72,zer:=some (.agg [.lit (.int .i64 0),.lit (.int .i64 0),.lit (.slice none 0 0),.lit (.int .i64 0),.lit (.slice none 0 0)]),fit:=false,lvs:=none}
noncomputable def r43:TyRow:={ desc:=.slice 88,siz:=1,byt:=24,zer:=some (.lit (.slice none 0 0)),fit:=true,lvs:=none}
theorem Zd5:RowOk Tryz.prog 43 r43:=⟨by kernel_rfl,by kernel_rfl,by kernel_rfl,(fun z hz=>by cases hz;kernel_rfl),(fun _=>Zdz (by kernel_rfl)),(fun l hl=>by cases hl)⟩
noncomputable def r45:TyRow:={ desc:=.struct #[{ name:= "Room",type:=3,offset:=0,embedded:=false,tag:= "",pkgPath:= "",byteOffset:=0},{ name:= "L",type:=43,offset:=1,embedded:=false,tag:= "",pkgPath:= "",byteOffset:=8},{ name:= "Fuse",type:=3,offset:=2,embedded:=false,tag:= "",pkgPath:= "",byteOffset:=32},{ name:= "Down",type:=4,offset:=3,embedded:=false,tag:= "",pkgPath:= "",byteOffset:=40},{ name:= "Calls",type:=3,offset:=4,embedded:=false,tag:= "",pkgPath:= "",byteOffset:=48}],siz:=5,byt:=56,zer:=some (.agg [.lit (.int .i64 0),.lit (.slice none 0 0),.lit (.int .i64 0),.lit (.bool false),.lit (.int .i64 0)]),fit:=false,lvs:=none}
theorem Zey:RowOk Tryz.prog 45 r45:=⟨by kernel_rfl,by kernel_rfl,by kernel_rfl,(fun z hz=>by cases hz;kernel_rfl),(fun h=>by cases h),(fun l hl=>by cases hl)⟩
noncomputable def r52:TyRow:={ desc:=.slice 9,siz:=1,byt:=24,zer:=some (.lit (.slice none 0 0)),fit:=true,lvs:=none}
theorem Zby:RowOk Tryz.prog 52 r52:=⟨by kernel_rfl,by kernel_rfl,by kernel_rfl,(fun z hz=>by cases hz;kernel_rfl),(fun _=>Zdz (by kernel_rfl)),(fun l hl=>by cases hl)⟩
noncomputable def r54:TyRow:={ desc:=.pointer 107,siz:=1,byt:=8,zer:=some (.lit (.pointer none)),fit:=false,lvs:=none}
theorem ZcN:RowOk Tryz.prog 54 r54:=⟨by kernel_rfl,by kernel_rfl,by kernel_rfl,(fun z hz=>by cases hz;kernel_rfl),(fun h=>by cases h),(fun l hl=>by cases hl)⟩
noncomputable def r56:TyRow:={ desc:=.pointer 58,siz:=1,byt:=8,zer:=some (.lit (.pointer none)),fit:=false,lvs:=none}
theorem Zfs:RowOk Tryz.prog 56 r56:=⟨by kernel_rfl,by kernel_rfl,by kernel_rfl,(fun z hz=>by cases hz;kernel_rfl),(fun h=>by cases h),(fun l hl=>by cases hl)⟩
noncomputable def r58:TyRow:={ desc:=.struct #[{ name:= "M",type:=3,offset:=0,embedded:=false,tag:= "",pkgPath:= "",byteOffset:=0},{ name:= "Now",type:=3,offset:=1,embedded:=false,tag:= "",pkgPath:= "",byteOffset:=8},{ name:= "High",type:=3,offset:=2,embedded:=false,tag:= "",pkgPath:= "",byteOffset:=16}],siz:=3,byt:=24,zer:=some (.agg [.lit (.int .i64 0),.lit (.int .i64 0),.lit (.int .i64 0)]),fit:=false,lvs:=some [.int,.int,.int]}
theorem Zqa:RowOk Tryz.prog 58 r58:=⟨by kernel_rfl,by kernel_rfl,by kernel_rfl,(fun z hz=>by cases hz;kernel_rfl),(fun h=>by cases h),(fun l hl=>by cases hl;exact ⟨by kernel_rfl,by kernel_rfl,by kernel_rfl⟩)⟩
noncomputable def r59:TyRow:={ desc:=.pointer 104,siz:=1,byt:=8,zer:=some (.lit (.pointer none)),fit:=false,lvs:=none}
theorem Zex:RowOk Tryz.prog 59 r59:=⟨by kernel_rfl,by kernel_rfl,by kernel_rfl,(fun z hz=>by cases hz;kernel_rfl),(fun h=>by cases h),(fun l hl=>by cases hl)⟩
noncomputable def r62:TyRow:={ desc:=.pointer 111,siz:=1,byt:=8,zer:=some (.lit (.pointer none)),fit:=false,lvs:=none}
theorem ZgK:RowOk Tryz.prog 62 r62:=⟨by kernel_rfl,by kernel_rfl,by kernel_rfl,(fun z hz=>by cases hz;kernel_rfl),(fun h=>by cases h),(fun l hl=>by cases hl)⟩
noncomputable def r65:TyRow:={ desc:=.int .u32,siz:=1,byt:=4,zer:=some (.lit (.int .u32 0)),fit:=false,lvs:=none}
theorem Zci:RowOk Tryz.prog 65 r65:=⟨by kernel_rfl,by kernel_rfl,by kernel_rfl,(fun z hz=>by cases hz;kernel_rfl),(fun h=>by cases h),(fun l hl=>by cases hl)⟩
noncomputable def r67:TyRow:={ desc:=.struct #[{ name:= "Count",type:=3,offset:=0,embedded:=false,tag:= "",pkgPath:= "",byteOffset:=0},{ name:= "Sum",type:=65,offset:=1,embedded:=false,tag:= "",pkgPath:= "",byteOffset:=8}],siz:=2,byt:=16,zer:=some (.agg [.lit (.int .i64 0),.lit (.int .u32 0)]),fit:=false,lvs:=some [.int,.int]}
theorem Zdg:RowOk Tryz.prog 67 r67:=⟨by kernel_rfl,by kernel_rfl,by kernel_rfl,(fun z hz=>by cases hz;kernel_rfl),(fun h=>by cases h),(fun l hl=>by cases hl;exact ⟨by kernel_rfl,by kernel_rfl,by kernel_rfl⟩)⟩
noncomputable def r77:TyRow:={ desc:=.map 9 81,siz:=1,byt:=8,zer:=some (.lit (.map none)),fit:=false,lvs:=none}
theorem ZdS:RowOk Tryz.prog 77 r77:=⟨by kernel_rfl,by kernel_rfl,by kernel_rfl,(fun z hz=>by cases hz;kernel_rfl),(fun h=>by cases h),(fun l hl=>by cases hl)⟩
noncomputable def r79:TyRow:={ desc:=.struct #[{ name:= "made",type:=4,offset:=0,embedded:=false,tag:= "",pkgPath:= "chainman/fs",byteOffset:=0},{ name:= "room",type:=3,offset:=1,embedded:=false,tag:= "",pkgPath:= "chainman/fs",byteOffset:=8},{ name:= "used",type:=3,offset:=2,embedded:=false,tag:= "",pkgPath:= "chainman/fs",byteOffset:=16},{ name:= "files",type:=77,offset:=3,embedded:=false,tag:= "",pkgPath:= "chainman/fs",byteOffset:=24},{ name:= "fuse",type:=3,offset:=4,embedded:=false,tag:= "",pkgPath:= "chainman/fs",byteOffset:=32},{ name:= "down",type:=4,offset:=5,embedded:=false,tag:= "",pkgPath:= "chainman/fs",byteOffset:=40},{ name:= "calls",type:=3,offset:=6,embedded:=false,tag:= "",pkgPath:= "chainman/fs",byteOffset:=48}],siz:=7,byt:=56,zer:=some (.agg [.lit (.bool false),.lit (.int .i64 0),.lit (.int .i64 0),.lit (.map none),.lit (.int .i64 0),.lit (.bool false),.lit (.int .i64 0)]),fit:=false,lvs:=none}
theorem Zew:RowOk Tryz.prog 79 r79:=⟨by kernel_rfl,by kernel_rfl,by kernel_rfl,(fun z hz=>by cases hz;kernel_rfl),(fun h=>by cases h),(fun l hl=>by cases hl)⟩
noncomputable def r81:TyRow:={ desc:=.struct #[{ name:= "s",type:=9,offset:=0,embedded:=false,tag:= "",pkgPath:= "chainman/fs",byteOffset:=0},{ name:= "kept",type:=3,offset:=1,embedded:=false,tag:= "",pkgPath:= "chainman/fs",byteOffset:=16}],siz:=2,byt:=24,zer:=some (.agg [.lit (.string { data:=#[]}),.lit (.int .i64 0)]),fit:=false,lvs:=some [.str,.int]}
theorem Zd4:RowOk Tryz.prog 81 r81:=⟨by kernel_rfl,by kernel_rfl,by kernel_rfl,(fun z hz=>by cases hz;kernel_rfl),(fun h=>by cases h),(fun l hl=>by cases hl;exact ⟨by kernel_rfl,by kernel_rfl,by kernel_rfl⟩)⟩
noncomputable def r85:TyRow:={ desc:=.func #[9] #[4] false,siz:=1,byt:=8,zer:=some (.lit (.nilFunc)),fit:=false,lvs:=none}
theorem ZpZ:RowOk Tryz.prog 85 r85:=⟨by kernel_rfl,by kernel_rfl,by kernel_rfl,(fun z hz=>by cases hz;kernel_rfl),(fun h=>by cases h),(fun l hl=>by cases hl)⟩
noncomputable def r88:TyRow:={ desc:=.struct #[{ name:= "Name",type:=9,offset:=0,embedded:=false,tag:= "",pkgPath:= "",byteOffset:=0},{ name:= "S",type:=9,offset:=1,embedded:=false,tag:= "",pkgPath:= "",byteOffset:=16},{ name:= "Kept",type:=3,offset:=2,embedded:=false,tag:= "",pkgPath:= "",byteOffset:=32}],siz:=3,byt:=40,zer:=some (.agg [.lit (.string { data:=#[]}),.lit (.string { data:=#[]}),.lit (.int .i64 0)]),fit:=false,lvs:=some [.str,.str,.int]}
theorem Zd3:RowOk Tryz.prog 88 r88:=⟨by kernel_rfl,by kernel_rfl,by kernel_rfl,(fun z hz=>by cases hz;kernel_rfl),(fun h=>by cases h),(fun l hl=>by cases hl;exact ⟨by kernel_rfl,by kernel_rfl,by kernel_rfl⟩)⟩
noncomputable def r94:TyRow:={ desc:=.func #[] #[26] false,siz:=1,byt:=8,zer:=some (.lit (.nilFunc)),fit:=false,lvs:=none}
theorem Z1h:RowOk Tryz.prog 94 r94:=⟨by kernel_rfl,by kernel_rfl,by kernel_rfl,(fun z hz=>by cases hz;kernel_rfl),(fun h=>by cases h),(fun l hl=>by cases hl)⟩
noncomputable def r95:TyRow:={ desc:=.slice 94,siz:=1,byt:=24,zer:=some (.lit (.slice none 0 0)),fit:=true,lvs:=none}
theorem Z1g:RowOk Tryz.prog 95 r95:=⟨by kernel_rfl,by kernel_rfl,by kernel_rfl,(fun z hz=>by cases hz;kernel_rfl),(fun _=>Zdz (by kernel_rfl)),(fun l hl=>by cases hl)⟩
noncomputable def r99:TyRow:={ desc:=.struct #[{ name:= "Name",type:=9,offset:=0,embedded:=false,tag:= "",pkgPath:= "",byteOffset:=0},{ name:= "Size",type:=3,offset:=1,embedded:=false,tag:= "",pkgPath:= "",byteOffset:=16},{ name:= "Count",type:=3,offset:=2,embedded:=false,tag:= "",pkgPath:= "",byteOffset:=24},{ name:= "Sum",type:=65,offset:=3,embedded:=false,tag:= "",pkgPath:= "",byteOffset:=32}],siz:=4,byt:=40,zer:=some (.agg [.lit (.string { data:=#[]}),.lit (.int .i64 0),.lit (.int .i64 0),.lit (.int .u32 0)]),fit:=false,lvs:=some [.str,.int,.int,.int]}
noncomputable def r102:TyRow:={ desc:=.struct #[{ name:= "d",type:=25,offset:=0,embedded:=false,tag:= "",pkgPath:= "chainman/writer",byteOffset:=0},{ name:= "name",type:=9,offset:=1,embedded:=false,tag:= "",pkgPath:= "chainman/writer",byteOffset:=8}],siz:=2,byt:=24,zer:=some (.agg [.lit (.pointer none),.lit (.string { data:=#[]})]),fit:=false,lvs:=none}
theorem Zez:RowOk Tryz.prog 102 r102:=⟨by kernel_rfl,by kernel_rfl,by kernel_rfl,(fun z hz=>by cases hz;kernel_rfl),(fun h=>by cases h),(fun l hl=>by cases hl)⟩
noncomputable def ZeS:TyRow:={ desc:=.struct #[{ name:= "sink",type:=102,offset:=0,embedded:=true,tag:= "",pkgPath:= "chainman/writer",byteOffset:=0},{ name:= "b",type:=54,offset:=2,embedded:=false,tag:= "",pkgPath:= "chainman/writer",byteOffset:=24},{ name:= "size",type:=3,offset:=3,embedded:=false,tag:= "",pkgPath:= "chainman/writer",byteOffset:=32},{ name:= "wait",type:=52,offset:=4,embedded:=false,tag:= "",pkgPath:= "chainman/writer",byteOffset:=40},{ name:= "told",type:=67,offset:=5,embedded:=false,tag:= "",pkgPath:= "chainman/writer",byteOffset:=64},{ name:= "open",type:=4,offset:=7,embedded:=false,tag:= "",pkgPath:= "chainman/writer",byteOffset:=80}],siz:=8,byt:=88,zer:=some (.agg [.lit (.pointer none),.lit (.string { data:=#[]}),.lit (.pointer none),.lit (.int .i64 0),.lit (.slice none 0 0),.lit (.int .i64 0),.lit (.int .u32 0),.lit (.bool false)]),fit:=false,lvs:=none}
theorem Zfu:RowOk Tryz.prog 104 ZeS:=⟨by kernel_rfl,by kernel_rfl,by kernel_rfl,(fun z hz=>by cases hz;kernel_rfl),(fun h=>by cases h),(fun l hl=>by cases hl)⟩
noncomputable def ZfT:TyRow:={ desc:=.struct #[{ name:= "made",type:=4,offset:=0,embedded:=false,tag:= "",pkgPath:= "chainman/budget",byteOffset:=0},{ name:= "most",type:=3,offset:=1,embedded:=false,tag:= "",pkgPath:= "chainman/budget",byteOffset:=8},{ name:= "now",type:=3,offset:=2,embedded:=false,tag:= "",pkgPath:= "chainman/budget",byteOffset:=16},{ name:= "high",type:=3,offset:=3,embedded:=false,tag:= "",pkgPath:= "chainman/budget",byteOffset:=24}],siz:=4,byt:=32,zer:=some (.agg [.lit (.bool false),.lit (.int .i64 0),.lit (.int .i64 0),.lit (.int .i64 0)]),fit:=false,lvs:=some [.bool,.int,.int,.int]}
theorem ZgM:RowOk Tryz.prog 107 ZfT:=⟨by kernel_rfl,by kernel_rfl,by kernel_rfl,(fun z hz=>by cases hz;kernel_rfl),(fun h=>by cases h),(fun l hl=>by cases hl;exact ⟨by kernel_rfl,by kernel_rfl,by kernel_rfl⟩)⟩
noncomputable def ZgL:TyRow:={ desc:=.struct #[{ name:= "D",type:=29,offset:=0,embedded:=false,tag:= "",pkgPath:= "",byteOffset:=0},{ name:= "B",type:=56,offset:=1,embedded:=false,tag:= "",pkgPath:= "",byteOffset:=8},{ name:= "Name",type:=9,offset:=2,embedded:=false,tag:= "",pkgPath:= "",byteOffset:=16},{ name:= "Size",type:=3,offset:=3,embedded:=false,tag:= "",pkgPath:= "",byteOffset:=32},{ name:= "Wait",type:=52,offset:=4,embedded:=false,tag:= "",pkgPath:= "",byteOffset:=40},{ name:= "All",type:=52,offset:=5,embedded:=false,tag:= "",pkgPath:= "",byteOffset:=64},{ name:= "Open",type:=4,offset:=6,embedded:=false,tag:= "",pkgPath:= "",byteOffset:=88}],siz:=7,byt:=96,zer:=some (.agg [.lit (.pointer none),.lit (.pointer none),.lit (.string { data:=#[]}),.lit (.int .i64 0),.lit (.slice none 0 0),.lit (.slice none 0 0),.lit (.bool false)]),fit:=false,lvs:=none}
theorem ZhI:RowOk Tryz.prog 111 ZgL:=⟨by kernel_rfl,by kernel_rfl,by kernel_rfl,(fun z hz=>by cases hz;kernel_rfl),(fun h=>by cases h),(fun l hl=>by cases hl)⟩
noncomputable def Zuj:TyRow:={ desc:=.pointer 121,siz:=1,byt:=8,zer:=some (.lit (.pointer none)),fit:=false,lvs:=none}
theorem Z1o:RowOk Tryz.prog 118 Zuj:=⟨by kernel_rfl,by kernel_rfl,by kernel_rfl,(fun z hz=>by cases hz;kernel_rfl),(fun h=>by cases h),(fun l hl=>by cases hl)⟩
noncomputable def ZeR:TyRow:={ desc:=.slice 5,siz:=1,byt:=24,zer:=some (.lit (.slice none 0 0)),fit:=true,lvs:=none}
theorem Zft:RowOk Tryz.prog 119 ZeR:=⟨by kernel_rfl,by kernel_rfl,by kernel_rfl,(fun z hz=>by cases hz;kernel_rfl),(fun _=>Zdz (by kernel_rfl)),(fun l hl=>by cases hl)⟩
noncomputable def Zui:TyRow:={ desc:=.struct #[{ name:= "addr",type:=118,offset:=0,embedded:=false,tag:= "",pkgPath:= "strings",byteOffset:=0},{ name:= "buf",type:=119,offset:=1,embedded:=false,tag:= "",pkgPath:= "strings",byteOffset:=8}],siz:=2,byt:=32,zer:=some (.agg [.lit (.pointer none),.lit (.slice none 0 0)]),fit:=true,lvs:=none}
theorem Z1n:RowOk Tryz.prog 121 Zui:=⟨by kernel_rfl,by kernel_rfl,by kernel_rfl,(fun z hz=>by cases hz;kernel_rfl),(fun _=>Zdz (by kernel_rfl)),(fun l hl=>by cases hl)⟩
noncomputable def Zuh:TyRow:={ desc:=.func #[85] #[] false,siz:=1,byt:=8,zer:=some (.lit (.nilFunc)),fit:=false,lvs:=none}
theorem Z1m:RowOk Tryz.prog 142 Zuh:=⟨by kernel_rfl,by kernel_rfl,by kernel_rfl,(fun z hz=>by cases hz;kernel_rfl),(fun h=>by cases h),(fun l hl=>by cases hl)⟩
noncomputable def Zmf:TyRow:={ desc:=.func #[85] #[] false,siz:=1,byt:=8,zer:=some (.lit (.nilFunc)),fit:=false,lvs:=none}
theorem Zqb:RowOk Tryz.prog 143 Zmf:=⟨by kernel_rfl,by kernel_rfl,by kernel_rfl,(fun z hz=>by cases hz;kernel_rfl),(fun h=>by cases h),(fun l hl=>by cases hl)⟩
noncomputable def Zug:TyRow:={ desc:=.array 4 5,siz:=4,byt:=4,zer:=some (.agg [.lit (.int .u8 0),.lit (.int .u8 0),.lit (.int .u8 0),.lit (.int .u8 0)]),fit:=false,lvs:=none}
theorem Z1l:RowOk Tryz.prog 153 Zug:=⟨by kernel_rfl,by kernel_rfl,by kernel_rfl,(fun z hz=>by cases hz;kernel_rfl),(fun h=>by cases h),(fun l hl=>by cases hl)⟩
noncomputable def Zuf:TyRow:={ desc:=.array 16 65,siz:=16,byt:=64,zer:=some (.agg [.lit (.int .u32 0),.lit (.int .u32 0),.lit (.int .u32 0),.lit (.int .u32 0),.lit (.int .u32 0),.lit (.int .u32 0),.lit (.int .u32 0),.lit (.int .u32 0),.lit (.int .u32 0),.lit (.int .u32 0),.lit (.int .u32 0),.lit (.int .u32 0),.lit (.int .u32 0),.lit (.int .u32 0),.lit (.int .u32 0),.lit (.int .u32 0)]),fit:=false,lvs:=none}
theorem Z1k:RowOk Tryz.prog 158 Zuf:=⟨by kernel_rfl,by kernel_rfl,by kernel_rfl,(fun z hz=>by cases hz;kernel_rfl),(fun h=>by cases h),(fun l hl=>by cases hl)⟩
noncomputable def Zue:TyRow:={ desc:=.array 8 5,siz:=8,byt:=8,zer:=some (.agg [.lit (.int .u8 0),.lit (.int .u8 0),.lit (.int .u8 0),.lit (.int .u8 0),.lit (.int .u8 0),.lit (.int .u8 0),.lit (.int .u8 0),.lit (.int .u8 0)]),fit:=false,lvs:=none}
theorem Z1j:RowOk Tryz.prog 162 Zue:=⟨by kernel_rfl,by kernel_rfl,by kernel_rfl,(fun z hz=>by cases hz;kernel_rfl),(fun h=>by cases h),(fun l hl=>by cases hl)⟩
theorem Zo:Tryz.prog.follows .mixedOrders = true:=by kernel_rfl
theorem tc5:Zd Tryz.prog 5 = true:=by kernel_rfl
theorem tc6:Zd Tryz.prog 6 = true:=by kernel_rfl
theorem tc7:Zd Tryz.prog 7 = true:=by kernel_rfl
theorem tc8:Zd Tryz.prog 8 = true:=by kernel_rfl
theorem tc9:Zd Tryz.prog 9 = true:=by kernel_rfl
theorem tc10:Zd Tryz.prog 10 = true:=by kernel_rfl
theorem tc11:Zd Tryz.prog 11 = true:=by kernel_rfl
theorem tc12:Zd Tryz.prog 12 = true:=by kernel_rfl
theorem tc13:Zd Tryz.prog 13 = true:=by kernel_rfl
theorem tc14:Zd Tryz.prog 14 = true:=by kernel_rfl
theorem tc15:Zd Tryz.prog 15 = true:=by kernel_rfl
theorem tc16:Zd Tryz.prog 16 = true:=by kernel_rfl
theorem tc17:Zd Tryz.prog 17 = true:=by kernel_rfl
theorem tc18:Zd Tryz.prog 18 = true:=by kernel_rfl
theorem tc19:Zd Tryz.prog 19 = true:=by kernel_rfl
theorem tc20:Zd Tryz.prog 20 = true:=by kernel_rfl
theorem tc21:Zd Tryz.prog 21 = true:=by kernel_rfl
theorem tc22:Zd Tryz.prog 22 = true:=by kernel_rfl
theorem tc23:Zd Tryz.prog 23 = true:=by kernel_rfl
theorem tc24:Zd Tryz.prog 24 = true:=by kernel_rfl
theorem tc25:Zd Tryz.prog 25 = true:=by kernel_rfl
theorem tc26:Zd Tryz.prog 26 = true:=by kernel_rfl
theorem tc27:Zd Tryz.prog 27 = true:=by kernel_rfl
theorem tc28:Zd Tryz.prog 28 = true:=by kernel_rfl
theorem tc29:Zd Tryz.prog 29 = true:=by kernel_rfl
theorem tc30:Zd Tryz.prog 30 = true:=by kernel_rfl
theorem tc31:Zd Tryz.prog 31 = true:=by kernel_rfl
theorem tc32:Zd Tryz.prog 32 = true:=by kernel_rfl
theorem tc33:Zd Tryz.prog 33 = true:=by kernel_rfl
theorem tc34:Zd Tryz.prog 34 = true:=by kernel_rfl
theorem tc35:Zd Tryz.prog 35 = true:=by kernel_rfl
theorem tc36:Zd Tryz.prog 36 = true:=by kernel_rfl
theorem tc37:Zd Tryz.prog 37 = true:=by kernel_rfl
theorem tc38:Zd Tryz.prog 38 = true:=by kernel_rfl
theorem tc39:Zd Tryz.prog 39 = true:=by kernel_rfl
theorem tc40:Zd Tryz.prog 40 = true:=by kernel_rfl
theorem tc41:Zd Tryz.prog 41 = true:=by kernel_rfl
theorem tc42:Zd Tryz.prog 42 = true:=by kernel_rfl
theorem tc43:Zd Tryz.prog 43 = true:=by kernel_rfl
theorem tc44:Zd Tryz.prog 44 = true:=by kernel_rfl
theorem tc45:Zd Tryz.prog 45 = true:=by kernel_rfl
theorem tc46:Zd Tryz.prog 46 = true:=by kernel_rfl
theorem tc47:Zd Tryz.prog 47 = true:=by kernel_rfl
theorem tc48:Zd Tryz.prog 48 = true:=by kernel_rfl
theorem tc49:Zd Tryz.prog 49 = true:=by kernel_rfl
theorem tc50:Zd Tryz.prog 50 = true:=by kernel_rfl
theorem tc51:Zd Tryz.prog 51 = true:=by kernel_rfl
theorem tc52:Zd Tryz.prog 52 = true:=by kernel_rfl
theorem tc54:Zd Tryz.prog 54 = true:=by kernel_rfl
theorem tc58:Zd Tryz.prog 58 = true:=by kernel_rfl
theorem tc60:Zd Tryz.prog 60 = true:=by kernel_rfl
theorem tc61:Zd Tryz.prog 61 = true:=by kernel_rfl
theorem tc62:Zd Tryz.prog 62 = true:=by kernel_rfl
theorem tc63:Zd Tryz.prog 63 = true:=by kernel_rfl
theorem tc64:Zd Tryz.prog 64 = true:=by kernel_rfl
theorem tc65:Zd Tryz.prog 65 = true:=by kernel_rfl
theorem tc66:Zd Tryz.prog 66 = true:=by kernel_rfl
theorem tc67:Zd Tryz.prog 67 = true:=by kernel_rfl
theorem tc68:Zd Tryz.prog 68 = true:=by kernel_rfl
theorem tc69:Zd Tryz.prog 69 = true:=by kernel_rfl
theorem tc70:Zd Tryz.prog 70 = true:=by kernel_rfl
theorem tc71:Zd Tryz.prog 71 = true:=by kernel_rfl
theorem tc72:Zd Tryz.prog 72 = true:=by kernel_rfl
theorem tc73:Zd Tryz.prog 73 = true:=by kernel_rfl
theorem tc74:Zd Tryz.prog 74 = true:=by kernel_rfl
theorem tc75:Zd Tryz.prog 75 = true:=by kernel_rfl
theorem tc76:Zd Tryz.prog 76 = true:=by kernel_rfl
theorem tc77:Zd Tryz.prog 77 = true:=by kernel_rfl
theorem tc78:Zd Tryz.prog 78 = true:=by kernel_rfl
theorem tc79:Zd Tryz.prog 79 = true:=by kernel_rfl
theorem tc80:Zd Tryz.prog 80 = true:=by kernel_rfl
theorem tc81:Zd Tryz.prog 81 = true:=by kernel_rfl
theorem tc82:Zd Tryz.prog 82 = true:=by kernel_rfl
theorem tc83:Zd Tryz.prog 83 = true:=by kernel_rfl
theorem tc84:Zd Tryz.prog 84 = true:=by kernel_rfl
theorem tc85:Zd Tryz.prog 85 = true:=by kernel_rfl
theorem tc86:Zd Tryz.prog 86 = true:=by kernel_rfl
theorem Z0f:Zd Tryz.prog 87 = true:=by kernel_rfl
theorem Z0e:Zd Tryz.prog 88 = true:=by kernel_rfl
theorem tc89:Zd Tryz.prog 89 = true:=by kernel_rfl
theorem tc90:Zd Tryz.prog 90 = true:=by kernel_rfl
theorem tc91:Zd Tryz.prog 91 = true:=by kernel_rfl
theorem tc92:Zd Tryz.prog 92 = true:=by kernel_rfl
theorem tc93:Zd Tryz.prog 93 = true:=by kernel_rfl
theorem tc94:Zd Tryz.prog 94 = true:=by kernel_rfl
theorem tc95:Zd Tryz.prog 95 = true:=by kernel_rfl
theorem tc96:Zd Tryz.prog 96 = true:=by kernel_rfl
theorem tc97:Zd Tryz.prog 97 = true:=by kernel_rfl
theorem tc98:Zd Tryz.prog 98 = true:=by kernel_rfl
theorem tc99:Zd Tryz.prog 99 = true:=by kernel_rfl
theorem tc100:Zd Tryz.prog 100 = true:=by kernel_rfl
theorem tc101:Zd Tryz.prog 101 = true:=by kernel_rfl
theorem tc102:Zd Tryz.prog 102 = true:=by kernel_rfl
theorem tc103:Zd Tryz.prog 103 = true:=by kernel_rfl
theorem tc104:Zd Tryz.prog 104 = true:=by kernel_rfl
theorem tc105:Zd Tryz.prog 105 = true:=by kernel_rfl
theorem tc106:Zd Tryz.prog 106 = true:=by kernel_rfl
theorem tc107:Zd Tryz.prog 107 = true:=by kernel_rfl
theorem tc108:Zd Tryz.prog 108 = true:=by kernel_rfl
theorem tc109:Zd Tryz.prog 109 = true:=by kernel_rfl
theorem tc110:Zd Tryz.prog 110 = true:=by kernel_rfl
theorem tc111:Zd Tryz.prog 111 = true:=by kernel_rfl
theorem tc112:Zd Tryz.prog 112 = true:=by kernel_rfl
theorem tc113:Zd Tryz.prog 113 = true:=by kernel_rfl
theorem tc114:Zd Tryz.prog 114 = true:=by kernel_rfl
theorem tc115:Zd Tryz.prog 115 = true:=by kernel_rfl
theorem tc116:Zd Tryz.prog 116 = true:=by kernel_rfl
theorem tc117:Zd Tryz.prog 117 = true:=by kernel_rfl
theorem tc118:Zd Tryz.prog 118 = true:=by kernel_rfl
theorem tc119:Zd Tryz.prog 119 = true:=by kernel_rfl
theorem tc120:Zd Tryz.prog 120 = true:=by kernel_rfl
theorem tc121:Zd Tryz.prog 121 = true:=by kernel_rfl
theorem tc122:Zd Tryz.prog 122 = true:=by kernel_rfl
theorem tc123:Zd Tryz.prog 123 = true:=by kernel_rfl
theorem tc124:Zd Tryz.prog 124 = true:=by kernel_rfl
theorem tc125:Zd Tryz.prog 125 = true:=by kernel_rfl
theorem tc126:Zd Tryz.prog 126 = true:=by kernel_rfl
theorem tc127:Zd Tryz.prog 127 = true:=by kernel_rfl
theorem tc128:Zd Tryz.prog 128 = true:=by kernel_rfl
theorem tc129:Zd Tryz.prog 129 = true:=by kernel_rfl
theorem tc130:Zd Tryz.prog 130 = true:=by kernel_rfl
theorem tc131:Zd Tryz.prog 131 = true:=by kernel_rfl
theorem Z0g:Zd Tryz.prog 133 = true:=by kernel_rfl
theorem tc134:Zd Tryz.prog 134 = true:=by kernel_rfl
theorem tc135:Zd Tryz.prog 135 = true:=by kernel_rfl
theorem tc136:Zd Tryz.prog 136 = true:=by kernel_rfl
theorem tc137:Zd Tryz.prog 137 = true:=by kernel_rfl
theorem tc140:Zd Tryz.prog 140 = true:=by kernel_rfl
theorem tc141:Zd Tryz.prog 141 = true:=by kernel_rfl
theorem tc142:Zd Tryz.prog 142 = true:=by kernel_rfl
theorem tc143:Zd Tryz.prog 143 = true:=by kernel_rfl
theorem tc144:Zd Tryz.prog 144 = true:=by kernel_rfl
theorem tc145:Zd Tryz.prog 145 = true:=by kernel_rfl
theorem tc146:Zd Tryz.prog 146 = true:=by kernel_rfl
theorem tc147:Zd Tryz.prog 147 = true:=by kernel_rfl
theorem tc148:Zd Tryz.prog 148 = true:=by kernel_rfl
theorem tc149:Zd Tryz.prog 149 = true:=by kernel_rfl
theorem tc150:Zd Tryz.prog 150 = true:=by kernel_rfl
theorem tc151:Zd Tryz.prog 151 = true:=by kernel_rfl
theorem tc152:Zd Tryz.prog 152 = true:=by kernel_rfl
theorem tc153:Zd Tryz.prog 153 = true:=by kernel_rfl
theorem tc154:Zd Tryz.prog 154 = true:=by kernel_rfl
theorem tc155:Zd Tryz.prog 155 = true:=by kernel_rfl
theorem tc156:Zd Tryz.prog 156 = true:=by kernel_rfl
theorem tc157:Zd Tryz.prog 157 = true:=by kernel_rfl
theorem tc158:Zd Tryz.prog 158 = true:=by kernel_rfl
theorem tc159:Zd Tryz.prog 159 = true:=by kernel_rfl
theorem tc160:Zd Tryz.prog 160 = true:=by kernel_rfl
theorem tc161:Zd Tryz.prog 161 = true:=by kernel_rfl
theorem tc162:Zd Tryz.prog 162 = true:=by kernel_rfl
theorem tc164:Zd Tryz.prog 164 = true:=by kernel_rfl
end Go.Proofs.YtogaiomakhapmaaGreat.AL
namespace Go.Proofs.YtogaiomakhapmaaGreat.AL
open Go
theorem Zbm (h:Za) (o:AObj):(psh h o).length = h.length + 1:=by simp[psh]
theorem ZB {h:Za} {b:Nat} {cs:List AVal} (H:Zb h b = some cs):b < h.length:=ZE (ZbV H)
theorem ZU (h:Za) (cs:List AVal):Zb (psh h (.cells cs)) h.length = some cs:=by simp[Zb,psh]
theorem Zgg {h:Za} {b:Nat} {cs:List AVal} (o:AObj) (H:Zb h b = some cs):Zb (psh h o) b = some cs:=ZdF [o] H
theorem Zm {h:Za} {b:Nat} {cs cs':List AVal} (H:Zb h b = some cs):Zb (h.set b (.cells cs')) b = some cs':=by
 have:=ZB H
 simp[Zb,this]
theorem Zdt {h:Za} {b c:Nat} {cs:List AVal} (o:AObj) (hn:c≠b) (H:Zb h b = some cs):Zb (h.set c o) b = some cs:=by
 have:=ZbV H
 unfold Zb
 rw[List.getElem?_set_ne hn,this]
theorem Z8 {p:Prop} [Decidable p] (h:p):req p = some ():=if_pos h
theorem Zc {h:Za} {b off:Nat} {cs:List AVal} (H:Zb h b = some cs):ld1 h (.ptr b off) = cs[off]?:=by simp[ld1,H]
theorem Zbh {n:Nat} {h:Za} {b off:Nat} {cs:List AVal} (H:Zb h b = some cs) (hl:off + n≤cs.length):ldn n h (.ptr b off) = some ((cs.drop off).take n):=by simp[ldn,H,req,hl]
theorem Zbq {h:Za} {b off:Nat} {cs:List AVal} {x:AVal} (H:Zb h b = some cs) (h1:x.one = true) (hl:off < cs.length):st1 h (.ptr b off) x = some (h.set b (.cells (cs.set off x))):=by simp[st1,H,req,hl,h1]
theorem Zcn {n:Nat} {h:Za} {b off:Nat} {cs vs:List AVal} (H:Zb h b = some cs) (h1:vs.all (·.one) = true) (hn:n = vs.length) (hl:off + vs.length≤cs.length):stn n h (.ptr b off) vs = some (h.set b (.cells (Zbr cs off vs))):=by
 subst hn
 show (Zb h b).bind _ = _
 rw[H,Option.bind_some,Z8 ⟨h1,rfl,hl⟩];rfl
theorem Z08 (h:Za) (o o':AObj):(psh h o).set h.length o' = psh h o':=by simp[psh]
theorem ZlW {n:Nat} {h:Za} {cs vs:List AVal} (h1:vs.all (·.one) = true) (hn:n = vs.length) (hl:cs.length = n):stn n (psh h (.cells cs)) (.ptr h.length 0) vs = some (psh h (.cells vs)):=by
 rw[Zcn (ZU h cs) h1 hn (by omega),Z08,Zbr,List.take_zero,List.nil_append,List.drop_of_length_le (by omega),List.append_nil]
theorem selfR {h h':Za} {v:AVal} (_:HOk h) (hl:h.length≤h'.length):ABody.AEnds h h' (.ret v) fun e g=>e = .ret v∧g = h':=⟨_,.ret _,hl,⟨rfl,rfl⟩,fun ρ w u hR hE=>⟨Fewer.refl _,hR,hE⟩⟩
noncomputable def Zv (x:Option (AVal×Za)) (h:Za):Option AVal:=x.bind fun r=>(ZcV (r.2 = h)).bind fun _=>some r.1
theorem Zc7 {x:Option (AVal×Za)} {h:Za} {v:AVal} (hx:Zv x h = some v):x = some (v,h):=by
 unfold Zv at hx
 obtain ⟨r,h1,hx⟩:=Option.bind_eq_some_iff.1 hx
 obtain ⟨u,h2,hx⟩:=Option.bind_eq_some_iff.1 hx
 cases hx
 rw[h1,←Zme h2]
theorem ZbI (v:AVal) (h:Za):Zv (some (v,h)) h = some v:=by unfold Zv;rw[Option.bind_some,Zev rfl];rfl
def Tru (x:Option (AVal×Za)):Prop:=∃ h',x = some (.lit (.bool true),h')
theorem Tru.here {h:Za}:Tru (some (.lit (.bool true),h)):=⟨h,rfl⟩
end Go.Proofs.YtogaiomakhapmaaGreat.AL
namespace Go.Proofs.YtogaiomakhapmaaGreat.AL
set_option maxRecDepth 10000
open Go
structure Keep (n:Nat) (X:List Nat) (h h':Za):Prop where
 len:h.length≤h'.length
 get:∀ c:Nat,c < n→c∉X→h'[c]? = h[c]?
theorem Keep.refl (n:Nat) (X:List Nat) (h:Za):Keep n X h h:=⟨Nat.le_refl _,fun _ _ _=>rfl⟩
theorem Keep.trans {n:Nat} {X:List Nat} {h h' h'':Za} (a:Keep n X h h') (b:Keep n X h' h''):Keep n X h h'':=⟨Nat.le_trans a.len b.len,fun c hc hx=>(b.get c hc hx).trans (a.get c hc hx)⟩
theorem Keep.less {n m:Nat} {X Y:List Nat} {h h':Za} (hm:m≤n) (hx:∀ c∈X,c < m→c∈Y) (a:Keep n X h h'):Keep m Y h h':=⟨a.len,fun c hc hy=>a.get c (by omega) fun hm=>hy (hx c hm hc)⟩
theorem Keep.set {n b:Nat} {X:List Nat} {h:Za} {o:AObj} (hb:n≤b∨b∈X):Keep n X h (h.set b o):=⟨by simp,fun c hc hx=>by
 refine List.getElem?_set_ne fun e=>?_
 subst e
 rcases hb with h |h
 ·omega
 ·exact hx h⟩
theorem Keep.app {n:Nat} {X:List Nat} {h:Za} (e:Za) (hn:n≤h.length):Keep n X h (h++e):=⟨by simp,fun c hc _=>List.getElem?_append_left (by omega)⟩
theorem Keep.psh {n:Nat} {X:List Nat} {h:Za} (o:AObj) (hn:n≤h.length):Keep n X h (psh h o):=Keep.app [o] hn
theorem Keep.apd {n:Nat} {X:List Nat} {h:Za} (l:List AObj) (hn:n≤h.length):Keep n X h (apd h l):=Keep.app l hn
theorem Keep.cells {n:Nat} {X:List Nat} {h h':Za} (a:Keep n X h h') {b:Nat} {cs:List AVal} (hb:b < n) (hx:b∉X) (H:Zb h b = some cs):Zb h' b = some cs:=by
 have:=ZbV H
 unfold Zb
 rw[a.get b hb hx,this]
theorem Zvk {ρ:Env} {h:Za} {w w':World} (hR:Rel ρ h w) (hs:Same w w') (hz:w.heap.size≤w'.heap.size) (hw:∀ c,c < w.heap.size→w'.heap[c]? = w.heap[c]?):Evo ρ h w ρ h w'∧Rel ρ h w':=by
 have e:Evo ρ h w ρ h w':=⟨Nat.le_refl _,fun _ _=>rfl,hz,hs,fun c hc hn=>⟨hw c hc,hn⟩,fun l r hr=>⟨r,(hw l (Zb9 hr)).trans hr⟩⟩
 exact ⟨e,hR.glob.evo e,fun b o hb=>(hR.obj b o hb).evo e fun hd=>hw _ (hR.blk_lt hb hd),hR.inj⟩
theorem bd {α β:Type} {x:Option α} {a:α} {f:α→Option β} {r:Option β} (h:x = some a) (k:f a = r):x.bind f = r:=by rw[h];exact k
theorem cT {α:Type} {c:Bool} {x y r:α} (h:c = true) (k:x = r):(cond c x y) = r:=by rw[h];exact k
theorem cF {α:Type} {c:Bool} {x y r:α} (h:c = false) (k:y = r):(cond c x y) = r:=by rw[h];exact k
end Go.Proofs.YtogaiomakhapmaaGreat.AL
namespace Go.Proofs.YtogaiomakhapmaaGreat.AL
open Go Go.RowKit Go.Proofs
theorem ZuQ:∃ j,Tryz.prog.info? 121 = some j∧j.size = 2:=by
 have h:(Tryz.prog.info? 121).map (·.size) = some 2:=by kernel_rfl
 obtain ⟨j,h1,h2⟩:=Option.map_eq_some_iff.1 h
 exact ⟨j,h1,h2⟩
set_option maxHeartbeats 1000000 in
set_option maxRecDepth 100000 in
theorem Z3N (b:Nat) (w:World) (h0:w.cell? ⟨b,0,none⟩ = some (.pointer (some ⟨b,0,none⟩))):
  Calls Tryz.prog 122 #[.pointer (some ⟨b,0,none⟩)] w fun e w'=>e = .returned (.tuple #[])∧w' = w:=by
 obtain ⟨j,hj,_⟩:=ZuQ
 have mixed:=Zo
 have t121:=Tryz.underlying121;have a121:=Tryz.isAgg121;have z121:=Tryz.sizeOf121;have v121:=Tryz.zeroValue121;have u121:=fun w=>Zr (w:=w) Tryz.underlying121
 have t118:=Tryz.underlying118;have a118:=Tryz.isAgg118;have z118:=Tryz.sizeOf118;have v118:=Tryz.zeroValue118;have u118:=fun w=>Zr (w:=w) Tryz.underlying118
 have t4:=Tryz.underlying4;have a4:=Tryz.isAgg4;have z4:=Tryz.sizeOf4;have v4:=Tryz.zeroValue4;have u4:=fun w=>Zr (w:=w) Tryz.underlying4
 have t164:=Tryz.underlying164;have a164:=Tryz.isAgg164;have z164:=Tryz.sizeOf164;have v164:=Tryz.zeroValue164;have u164:=fun w=>Zr (w:=w) Tryz.underlying164
 go_enter Tryz.func122,Tryz.ntmps122
 go_wp2
 rw[Lib.run_neq_ptr_same w _ t118 hj]
 go_wp2
 go_end0
 exact ⟨rfl,rfl⟩
set_option maxHeartbeats 1000000 in
set_option maxRecDepth 100000 in
theorem Z3O (b:Nat) (w:World) (h0:w.cell? ⟨b,0,none⟩ = some (.pointer none)) (hsh:w.shape? b = some (121,2)) (hfz:w.frozen? ⟨b,0,none⟩ = false):
  Calls Tryz.prog 122 #[.pointer (some ⟨b,0,none⟩)] w fun e w'=>e = .returned (.tuple #[])∧w' = w.setCell ⟨b,0,none⟩ (.pointer (some ⟨b,0,none⟩)):=by
 obtain ⟨j,hj,hjs⟩:=ZuQ
 have mixed:=Zo
 have t121:=Tryz.underlying121;have a121:=Tryz.isAgg121;have z121:=Tryz.sizeOf121;have v121:=Tryz.zeroValue121;have u121:=fun w=>Zr (w:=w) Tryz.underlying121
 have t118:=Tryz.underlying118;have a118:=Tryz.isAgg118;have z118:=Tryz.sizeOf118;have v118:=Tryz.zeroValue118;have u118:=fun w=>Zr (w:=w) Tryz.underlying118
 have t4:=Tryz.underlying4;have a4:=Tryz.isAgg4;have z4:=Tryz.sizeOf4;have v4:=Tryz.zeroValue4;have u4:=fun w=>Zr (w:=w) Tryz.underlying4
 have t164:=Tryz.underlying164;have a164:=Tryz.isAgg164;have z164:=Tryz.sizeOf164;have v164:=Tryz.zeroValue164;have u164:=fun w=>Zr (w:=w) Tryz.underlying164
 go_enter Tryz.func122,Tryz.ntmps122
 go_wp2
 rw[Lib.run_to_unsafe w ⟨b,0,none⟩ t118 t164 hj (by rw[hjs];decide) hsh (Nat.zero_lt_succ 1)]
 simp only[Result.andThen]
 rw[Oper.upon_value]
 go_wp2
 rw[run_callFunc_extern Tryz.func139 (by kernel_rfl) (by kernel_rfl) (by kernel_rfl) (e:=Extern.AbiNoEscape.same) (by kernel_rfl)]
 rw[Lib.run_noEscape]
 simp only[Result.andThen]
 rw[Oper.upon_value]
 go_wp2
 rw[Lib.run_from_unsafe w ⟨b,0,none⟩ t164 t118 hj hsh (by kernel_rfl)]
 simp only[Result.andThen]
 rw[Oper.upon_value]
 go_wp2
 go_end0
 exact ⟨rfl,rfl⟩
end Go.Proofs.YtogaiomakhapmaaGreat.AL
namespace Go.Proofs.YtogaiomakhapmaaGreat.AL
open Go Go.RowKit Go.Proofs
variable {P:Program}
theorem Z1K {w:World} {base:Nat} {e:TypeId} {v:Value} {n:Nat} {xs:List Value} (h:w.ownsRowF base e 1 v n xs):w.ownsRowF 0 e 1 v n xs:=by
 refine ⟨h.1,?_⟩
 rcases h.2 with h | ⟨g,cap,cur,fz,h1,_,r⟩
 ·exact .inl h
 ·exact .inr ⟨g,cap,cur,fz,h1,Nat.zero_le _,r⟩
theorem Z4A (w:World) (t u ty e:TypeId) (i:TypeInfo) (ht:P.underlying t = some (.slice e)) (hu:P.underlying u = some .string) (hi:P.info? e = some i) (hz:i.zero = some (.int .u8 0))
  (hsize:i.size = 1) (hby:i.bytes = 1) (v:Value) (n:Nat) (xs:List Value) (hown:w.ownsRowF 0 e 1 v n xs) (s:ByteArray) (h63:n + s.size≤maxLen) (hbytes:n + s.size≤140737488355328):
  ∃ v' w',(Builtin.append_ #[t,u] ty #[v,.string s]).run P w = .ok v' w'∧w'.ownsRowF 0 e 1 v' (n + s.size) (xs++Lib.strCells s)∧w.grownBy w' v.ownBlock∧(∀ g,v'.ownBlock = some g→v.ownBlock = some g∨w.heap.size≤g)∧(v' = .slice none 0 0↔v = .slice none 0 0∧s.size = 0):=by
 rcases hown.2 with ⟨rfl,rfl⟩ | ⟨g,cap,cur,fz,rfl,hbg,hg,hfz,hnc,hcm,hcs,htake⟩
 ·obtain ⟨v',w',h1,h2,h3,h4⟩:=Lib.run_append_own_stringF (P:=P) w w.heap.size t u ty e i ht hu hi hz hsize hby (.slice none 0 0) 0 xs ⟨hown.1,.inl ⟨rfl,rfl⟩⟩ s h63 hbytes (Nat.le_refl _)
  exact ⟨v',w',h1,Z1K h2,h3,fun g hg=>.inr (h2.lt g hg).1,h4⟩
 ·obtain ⟨v',w',h1,h2,h3,h4⟩:=Lib.run_append_own_stringF (P:=P) w 0 t u ty e i ht hu hi hz hsize hby _ n xs hown s h63 hbytes (Nat.zero_le _)
  refine ⟨v',w',h1,h2,h3,fun g' hg'=>?_,h4⟩
  have hsmall:n + s.size≤9223372036854775807:=by simp only[maxLen] at h63;omega
  have hxl:xs.length = n:=by simpa using hown.1
  by_cases hroom:n + s.size≤cap
  ·have hcs':cur.size = cap:=by simpa using hcs
   have hr:=Lib.run_append_room_stringF (P:=P) w t u ty e i ht hu hi hsize g n cap cur fz hg (by simpa using hfz) s hroom (by omega)
   rw[h1] at hr
   simp only[Result.ok.injEq] at hr
   rw[hr.1] at hg'
   exact .inl hg'
  ·have holds:∀ j u,xs[j]? = some u→w.cell? ((⟨g,0,none⟩:Addr).add j) = some u:=hown.cells (g:=g) rfl
   have hr:=Lib.run_append_grow_string (P:=P) w t u ty e i (.int .u8 0) ht hu hi hz ⟨g,0,none⟩ n cap xs (by rw[hsize];simpa using hxl) holds s (by omega) (by omega) (by rw[hby];exact growslice_fits (by omega) (by omega))
   rw[h1] at hr
   simp only[Result.ok.injEq] at hr
   rw[hr.1] at hg'
   simp[Value.ownBlock] at hg'
   exact .inr (by omega)
theorem ZyN {w:World} {ops:Array Oper} {rest:List Oper} {o:Oper} {a:Act} {Q:Exit→Act→World→Prop} (hgd:o.guard = none) (sl x:Operand) (t u:TypeId)
  (ho:o.op = .call { callee:=.builtin .append,args:=#[sl,x],argTypes:=#[t,u]})
  (e:TypeId) (i:TypeInfo) (ht:P.underlying t = some (.slice e)) (hu:P.underlying u = some .string) (hi:P.info? e = some i) (hz:i.zero = some (.int .u8 0)) (hsize:i.size = 1) (hby:i.bytes = 1)
  (v:Value) (n:Nat) (xs:List Value) (hs:a.eval sl = v) (hown:w.ownsRowF 0 e 1 v n xs) (s:ByteArray) (hx:a.eval x = .string s) (h63:n + s.size≤maxLen) (hbytes:n + s.size≤140737488355328)
  (h:∀ v' w',w'.ownsRowF 0 e 1 v' (n + s.size) (xs++Lib.strCells s)→w.grownBy w' v.ownBlock→(∀ g,v'.ownBlock = some g→v.ownBlock = some g∨w.heap.size≤g)→(v' = .slice none 0 0↔v = .slice none 0 0∧s.size = 0)→wpList P ops Q rest (a.put o.dst v') w'):wpList P ops Q (o :: rest) a w:=by
 refine wpList_plain hgd fun K hK=>?_
 obtain ⟨v',w',hr,h2,h3,h4,h5⟩:=Z4A (P:=P) w t u o.type e i ht hu hi hz hsize hby v n xs hown s h63 hbytes
 unfold Oper.wp execOp
 simp only[ho,resolve,invoke,builtin,Sem.run_bind,Sem.run_pure,Result.andThen_ok,List.map_toArray,List.map_cons,List.map_nil,hs,hx,hr]
 exact hK _ _ (h v' w' h2 h3 h4 h5)
theorem Z2L:∃ i,Tryz.prog.info? 5 = some i∧i.zero = some (.int .u8 0)∧i.size = 1∧i.bytes = 1:=by
 have h:(Tryz.prog.info? 5).map (fun i=>(i.zero,i.size,i.bytes)) = some (some (.int .u8 0),1,1):=by kernel_rfl
 obtain ⟨j,h1,h2⟩:=Option.map_eq_some_iff.1 h
 simp only[Prod.mk.injEq] at h2
 exact ⟨j,h1,h2.1,h2.2.1,h2.2.2⟩
structure Lone (w w':World) (b:Nat) (row:Option Nat):Prop where
 same:Same w w'
 size:w.heap.size≤w'.heap.size
 block:∀ k,k < w.heap.size→k≠b→some k≠row→w'.heap[k]? = w.heap[k]?
theorem Z09 {w:World} {b:Nat} {p q v:Value} (hb:w.heap[b]? = some (.cells #[p,v] 121 (0,0))):(w.setCell ⟨b,0,none⟩ q).heap[b]? = some (.cells #[q,v] 121 (0,0)):=by
 simp[World.setCell,Array.getElem?_modify,hb]
theorem Zvz (b:Nat) (w:World) {p v:Value} (hb:w.heap[b]? = some (.cells #[p,v] 121 (0,0))) (hp:p = .pointer none∨p = .pointer (some ⟨b,0,none⟩)):
  Calls Tryz.prog 122 #[.pointer (some ⟨b,0,none⟩)] w fun e w'=>e = .returned (.tuple #[])∧w'.heap[b]? = some (.cells #[.pointer (some ⟨b,0,none⟩),v] 121 (0,0))∧Same w w'∧w'.heap.size = w.heap.size∧∀ k,k≠b→w'.heap[k]? = w.heap[k]?:=by
 rcases hp with rfl |rfl
 ·refine (Z3O b w (by rw[Lib.cell_of_heap hb];rfl) (by simp[World.shape?,hb]) (Lib.frozen_of_heap hb 0)).mono ?_
  rintro e w' ⟨rfl,rfl⟩
  exact ⟨rfl,Z09 hb,⟨rfl,rfl,rfl⟩,by simp[World.setCell],fun k hk=>Below.heap_setCell _ _ _ _ hk⟩
 ·refine (Z3N b w (by rw[Lib.cell_of_heap hb];rfl)).mono ?_
  rintro e w' ⟨rfl,rfl⟩
  exact ⟨rfl,hb,Same.refl _,rfl,fun _ _=>rfl⟩
set_option maxHeartbeats 2000000 in
set_option maxRecDepth 100000 in
theorem ZsM (b:Nat) (p v:Value) (bs:List Value) (s:ByteArray) (w:World) (hb:w.heap[b]? = some (.cells #[p,v] 121 (0,0))) (hp:p = .pointer none∨p = .pointer (some ⟨b,0,none⟩)) (hown0:w.ownsRowF 0 5 1 v bs.length bs) (hne:v.ownBlock≠some b)
  (hlen:bs.length + s.size≤140737488355328):
  Calls Tryz.prog 94 #[.pointer (some ⟨b,0,none⟩),.string s] w fun e w'=>e = .returned (.tuple #[.int .i64 s.size,.nilIface])∧∃ v',w'.heap[b]? = some (.cells #[.pointer (some ⟨b,0,none⟩),v'] 121 (0,0))∧
   w'.ownsRowF 0 5 1 v' (bs.length + s.size) (bs++Lib.strCells s)∧(∀ g,v'.ownBlock = some g→v.ownBlock = some g∨w.heap.size≤g)∧(v' = .slice none 0 0↔v = .slice none 0 0∧s.size = 0)∧Lone w w' b v.ownBlock:=by
 obtain ⟨i0,hi,hz0,hz1,hz2⟩:=Z2L
 have mixed:=Zo
 have t121:=Tryz.underlying121;have a121:=Tryz.isAgg121;have z121:=Tryz.sizeOf121;have v121:=Tryz.zeroValue121;have u121:=fun w=>Zr (w:=w) Tryz.underlying121
 have t118:=Tryz.underlying118;have a118:=Tryz.isAgg118;have z118:=Tryz.sizeOf118;have v118:=Tryz.zeroValue118;have u118:=fun w=>Zr (w:=w) Tryz.underlying118
 have t119:=Tryz.underlying119;have a119:=Tryz.isAgg119;have z119:=Tryz.sizeOf119;have v119:=Tryz.zeroValue119;have u119:=fun w=>Zr (w:=w) Tryz.underlying119
 have t3:=Tryz.underlying3;have a3:=Tryz.isAgg3;have z3:=Tryz.sizeOf3;have v3:=Tryz.zeroValue3;have u3:=fun w=>Zr (w:=w) Tryz.underlying3
 have t9:=Tryz.underlying9;have a9:=Tryz.isAgg9;have z9:=Tryz.sizeOf9;have v9:=Tryz.zeroValue9;have u9:=fun w=>Zr (w:=w) Tryz.underlying9
 have t4:=Tryz.underlying4;have a4:=Tryz.isAgg4;have z4:=Tryz.sizeOf4;have v4:=Tryz.zeroValue4;have u4:=fun w=>Zr (w:=w) Tryz.underlying4
 have t164:=Tryz.underlying164;have a164:=Tryz.isAgg164;have z164:=Tryz.sizeOf164;have v164:=Tryz.zeroValue164;have u164:=fun w=>Zr (w:=w) Tryz.underlying164
 have t5:=Tryz.underlying5;have a5:=Tryz.isAgg5;have z5:=Tryz.sizeOf5;have v5:=Tryz.zeroValue5;have u5:=fun w=>Zr (w:=w) Tryz.underlying5
 go_enter Tryz.func94,Tryz.ntmps94
 go_wp2_with (go_at_call 122;refine (Zvz b _ hb hp).mono ?_)
 rintro e w1 ⟨rfl,hbk,hs1,hz,hk1⟩
 have hown:w1.ownsRowF 0 5 1 v bs.length bs:=hown0.kept (row:=some b) ⟨hs1.1,hs1.2.1,hs1.2.2,by omega,fun k hk hkb=>hk1 k (fun e=>hkb (by rw[e]))⟩ (.inr hne)
 have c0:w1.cell? ⟨b,0,none⟩ = some (.pointer (some ⟨b,0,none⟩)):=by rw[Lib.cell_of_heap hbk];rfl
 have c1:w1.cell? ⟨b,1,none⟩ = some v:=by rw[Lib.cell_of_heap hbk];rfl
 go_wp2_with (at_builtin;refine ZyN rfl _ _ 119 9 rfl 5 i0 t119 t9 hi hz0 hz1 hz2 _ _ _ rfl hown s rfl ?c3 ?c4 ?_)
 case c3=>unfold maxLen;omega
 case c4=>omega
 intro v' w2 hown' hgrow hnew hnil
 have hlt:b < w1.heap.size:=by
  rcases Nat.lt_or_ge b w1.heap.size with h' |h'
  ·exact h'
  ·simp[Array.getElem?_eq_none h'] at hbk
 have hb2:w2.heap[b]? = some (.cells #[.pointer (some ⟨b,0,none⟩),v] 121 (0,0)):=by
  rw[hgrow.block b hlt (fun e=>hne e.symm)]
  exact hbk
 have d0:w2.cell? ⟨b,0,none⟩ = some (.pointer (some ⟨b,0,none⟩)):=by rw[Lib.cell_of_heap hb2];rfl
 have d1:w2.cell? ⟨b,1,none⟩ = some v:=by rw[Lib.cell_of_heap hb2];rfl
 have f1:w2.frozen? ⟨b,1,none⟩ = false:=Lib.frozen_of_heap hb2 1
 have hne':v'.ownBlock≠some b:=fun e=>by
  rcases hnew b e with h |h
  ·exact hne h
  ·omega
 obtain ⟨ao,n',cap,rfl⟩:∃ ao n' cap,v' = .slice ao n' cap:=by
  rcases hown'.2 with ⟨hv,_⟩ | ⟨g,cap,cur,fz,hv,_⟩
  ·exact ⟨_,_,_,hv⟩
  ·exact ⟨_,_,_,hv⟩
 go_wp2
 go_ret2
 refine ⟨rfl,_,?_,hown'.kept (row:=some b) ⟨rfl,rfl,rfl,by simp[World.setCell],fun k _ hk=>Below.heap_setCell _ _ _ _ (fun e=>hk (by simp[e]))⟩ (.inr hne'),fun g hg=>?_,by simpa using hnil,⟨hs1.trans ⟨hgrow.os,hgrow.tape,hgrow.output⟩,?_,fun k hk hkb hkr=>?_⟩⟩
 ·simp[World.setCell,Array.getElem?_modify,hb2]
 ·rcases hnew g hg with h |h
  ·exact .inl h
  ·exact .inr (by omega)
 ·have:=hgrow.size;simp[World.setCell];omega
 ·rw[Below.heap_setCell _ _ _ _ hkb,hgrow.block k (by omega) hkr,hk1 k hkb]
theorem Z3d (w:World) (g n:Nat) {cur:Array Value} {e:TypeId} {fz:Nat×Nat} (hg:w.heap[g]? = some (.cells cur e fz)):
  Same w (w.freeze ⟨g,0,none⟩ n)∧(w.freeze ⟨g,0,none⟩ n).heap.size = w.heap.size∧(∀ k,k≠g→(w.freeze ⟨g,0,none⟩ n).heap[k]? = w.heap[k]?)∧∀ r,(w.freeze ⟨g,0,none⟩ n).heap[g]?≠some (.loop r):=by
 unfold World.freeze
 split
 ·exact ⟨Same.refl _,rfl,fun _ _=>rfl,fun r hr=>by rw[hg] at hr;cases hr⟩
 ·refine ⟨⟨rfl,rfl,rfl⟩,by simp,fun k hk=>?_,fun r hr=>?_⟩
  ·simp only[Array.getElem?_modify]
   rw[if_neg (fun e=>hk e.symm)]
  ·simp only[Array.getElem?_modify,if_true,hg,Option.map_some] at hr
   cases hr
set_option maxHeartbeats 2000000 in
set_option maxRecDepth 100000 in
theorem Z4a (b:Nat) (p:Value) (w:World) (hbk:w.heap[b]? = some (.cells #[p,.slice none 0 0] 121 (0,0))):
  Calls Tryz.prog 97 #[.pointer (some ⟨b,0,none⟩)] w fun e w'=>e = .returned (.string ⟨#[]⟩)∧Same w w'∧w'.heap = w.heap:=by
 have c1:w.drew.cell? ⟨b,1,none⟩ = some (.slice none 0 0):=by
  have:w.drew.heap[b]? = some (.cells #[p,.slice none 0 0] 121 (0,0)):=hbk
  rw[Lib.cell_of_heap this];rfl
 have hSD:(Builtin.unsafeSliceData_ #[119] 155 #[.slice none 0 0]).run Tryz.prog w.drew = .ok (.pointer none) w.drew:=rfl
 have hUS:(Builtin.unsafeString_ #[155,3] 9 #[.pointer none,.int .i64 0]).run Tryz.prog w.drew = .ok (.string .empty) w.drew:=Lib.run_unsafeString_none _ _ _ _ _
 have mixed:=Zo
 have t121:=Tryz.underlying121;have a121:=Tryz.isAgg121;have z121:=Tryz.sizeOf121;have v121:=Tryz.zeroValue121;have u121:=fun w=>Zr (w:=w) Tryz.underlying121
 have t118:=Tryz.underlying118;have a118:=Tryz.isAgg118;have z118:=Tryz.sizeOf118;have v118:=Tryz.zeroValue118;have u118:=fun w=>Zr (w:=w) Tryz.underlying118
 have t119:=Tryz.underlying119;have a119:=Tryz.isAgg119;have z119:=Tryz.sizeOf119;have v119:=Tryz.zeroValue119;have u119:=fun w=>Zr (w:=w) Tryz.underlying119
 have t155:=Tryz.underlying155;have a155:=Tryz.isAgg155;have z155:=Tryz.sizeOf155;have v155:=Tryz.zeroValue155;have u155:=fun w=>Zr (w:=w) Tryz.underlying155
 have t3:=Tryz.underlying3;have a3:=Tryz.isAgg3;have z3:=Tryz.sizeOf3;have v3:=Tryz.zeroValue3;have u3:=fun w=>Zr (w:=w) Tryz.underlying3
 have t9:=Tryz.underlying9;have a9:=Tryz.isAgg9;have z9:=Tryz.sizeOf9;have v9:=Tryz.zeroValue9;have u9:=fun w=>Zr (w:=w) Tryz.underlying9
 have t5:=Tryz.underlying5;have a5:=Tryz.isAgg5;have z5:=Tryz.sizeOf5;have v5:=Tryz.zeroValue5;have u5:=fun w=>Zr (w:=w) Tryz.underlying5
 go_enter Tryz.func97,Tryz.ntmps97
 go_wp2
 go_region_o
 all_goals (go_wp2;go_ret;exact ⟨rfl,⟨rfl,rfl,rfl⟩,rfl⟩)
set_option maxHeartbeats 2000000 in
set_option maxRecDepth 100000 in
theorem Z3Z (b g cap:Nat) (p:Value) (cur:Array Value) (fz:Nat×Nat) (l:List UInt8) (w:World) (hbk:w.heap[b]? = some (.cells #[p,.slice (some ⟨g,0,none⟩) l.length cap] 121 (0,0))) (hg:w.heap[g]? = some (.cells cur 5 fz)) (h0:l≠[])
  (hcap:l.length≤cap) (hcs:cur.size = cap) (hm:cap≤maxLen) (hcur:cur.toList.take l.length = l.map fun b=>.int .u8 b.toNat):
  Calls Tryz.prog 97 #[.pointer (some ⟨b,0,none⟩)] w fun e w'=>e = .returned (.string ⟨l.toArray⟩)∧Same w w'∧w'.heap.size = w.heap.size∧(∀ k,k≠g→w'.heap[k]? = w.heap[k]?)∧∀ r,w'.heap[g]?≠some (.loop r):=by
 have hl0:l.length≠0:=by simpa using h0
 have c1:w.drew.cell? ⟨b,1,none⟩ = some (.slice (some ⟨g,0,none⟩) l.length cap):=by
  have:w.drew.heap[b]? = some (.cells #[p,.slice (some ⟨g,0,none⟩) l.length cap] 121 (0,0)):=hbk
  rw[Lib.cell_of_heap this];rfl
 have hg':w.drew.heap[g]? = some (.cells cur 5 fz):=hg
 have hSD:(Builtin.unsafeSliceData_ #[119] 155 #[.slice (some ⟨g,0,none⟩) l.length cap]).run Tryz.prog w.drew = .ok (.pointer (some ⟨g,0,none⟩)) w.drew:=
  Lib.run_unsafeSliceData_row _ _ _ _ _ _ (by omega)
 have hUS:(Builtin.unsafeString_ #[155,3] 9 #[.pointer (some ⟨g,0,none⟩),.int .i64 l.length]).run Tryz.prog w.drew = .ok (.string ⟨l.toArray⟩) (w.drew.freeze ⟨g,0,none⟩ l.length):=by
  refine Lib.run_unsafeString_row w.drew 155 3 9 5 Tryz.underlying155 (by kernel_rfl) g cur.size (by simp[World.shape?,hg']) l h0 (by omega) (by unfold maxLen at hm;omega) ?_
  intro j x hx
  have hadd:(⟨g,0,none⟩:Addr).add j = ⟨g,j,none⟩:=by unfold Addr.add;split<;>simp_all
  have hj:j < l.length:=(List.getElem?_eq_some_iff.1 hx).1
  have:cur.toList[j]? = some (.int .u8 x.toNat):=by
   have e:(cur.toList.take l.length)[j]? = cur.toList[j]?:=List.getElem?_take_of_lt hj
   rw[←e,hcur,List.getElem?_map,hx];rfl
  rw[hadd]
  simpa[World.cell?,hg'] using this
 have mixed:=Zo
 have t121:=Tryz.underlying121;have a121:=Tryz.isAgg121;have z121:=Tryz.sizeOf121;have v121:=Tryz.zeroValue121;have u121:=fun w=>Zr (w:=w) Tryz.underlying121
 have t118:=Tryz.underlying118;have a118:=Tryz.isAgg118;have z118:=Tryz.sizeOf118;have v118:=Tryz.zeroValue118;have u118:=fun w=>Zr (w:=w) Tryz.underlying118
 have t119:=Tryz.underlying119;have a119:=Tryz.isAgg119;have z119:=Tryz.sizeOf119;have v119:=Tryz.zeroValue119;have u119:=fun w=>Zr (w:=w) Tryz.underlying119
 have t155:=Tryz.underlying155;have a155:=Tryz.isAgg155;have z155:=Tryz.sizeOf155;have v155:=Tryz.zeroValue155;have u155:=fun w=>Zr (w:=w) Tryz.underlying155
 have t3:=Tryz.underlying3;have a3:=Tryz.isAgg3;have z3:=Tryz.sizeOf3;have v3:=Tryz.zeroValue3;have u3:=fun w=>Zr (w:=w) Tryz.underlying3
 have t9:=Tryz.underlying9;have a9:=Tryz.isAgg9;have z9:=Tryz.sizeOf9;have v9:=Tryz.zeroValue9;have u9:=fun w=>Zr (w:=w) Tryz.underlying9
 have t5:=Tryz.underlying5;have a5:=Tryz.isAgg5;have z5:=Tryz.sizeOf5;have v5:=Tryz.zeroValue5;have u5:=fun w=>Zr (w:=w) Tryz.underlying5
 go_enter Tryz.func97,Tryz.ntmps97
 go_wp2
 go_region_o
 all_goals (go_wp2;go_ret;exact ⟨rfl,Z3d w.drew g _ hg'⟩)
end Go.Proofs.YtogaiomakhapmaaGreat.AL
namespace Go.Proofs.YtogaiomakhapmaaGreat.AL
open Go Go.RowKit Go.Proofs
structure Grown (w w':World) (b:Nat) (cs:Array Value):Prop where
 bk:w'.heap[b]? = some (.cells #[.pointer (some ⟨b,0,none⟩),.slice (some ⟨w.heap.size,0,none⟩) 0 cs.size] 121 (0,0))
 row:w'.heap[w.heap.size]? = some (.cells cs 5 (0,0))
 max:cs.size≤maxLen
 same:Same w w'
 size:w'.heap.size = w.heap.size + 1
 oth:∀ k,k < w.heap.size→k≠b→w'.heap[k]? = w.heap[k]?
set_option maxHeartbeats 2000000 in
set_option maxRecDepth 1000000 in
theorem Z2R (b n:Nat) (w:World) (hbk:w.heap[b]? = some (.cells #[.pointer (some ⟨b,0,none⟩),.slice none 0 0] 121 (0,0))) (hn:n≤281474976710656):
  Calls Tryz.prog 156 #[.pointer (some ⟨b,0,none⟩),.int .i64 n] w fun e w'=>e = .returned (.tuple #[])∧∃ cs,Grown w w' b cs:=by
 obtain ⟨cs,hrun,hle,hmax⟩:=Lib.run_makeNoZero (P:=Tryz.prog) w.drew #[3] 119 5 Tryz.underlying119 n hn
 have hw:IntKind.i64.wrap (IntKind.i64.wrap 0 + (n:Int)) = n:=by
  rw[IntKind.wrap_i64,IntKind.wrap_i64]
  omega
 have hcall:(callFunc 163 #[.int .i64 (IntKind.i64.wrap (IntKind.i64.wrap 0 + (n:Int)))]).run Tryz.prog w.drew = .ok (.value (.slice (some ⟨w.drew.heap.size,0,none⟩) n cs.size)) (w.drew.drew.drew.alloc (.cells cs 5)):=by
  rw[hw,run_callFunc_extern Tryz.func163 (by kernel_rfl) (by kernel_rfl) (by kernel_rfl) (e:=Extern.BytealgMakeNoZero.makeNoZero #[3] #[119]) (by kernel_rfl),hrun]
  rfl
 have hlt:b < w.heap.size:=by
  rcases Nat.lt_or_ge b w.heap.size with h' |h'
  ·exact h'
  ·simp[Array.getElem?_eq_none h'] at hbk
 have c1:w.drew.cell? ⟨b,1,none⟩ = some (.slice none 0 0):=by
  have:w.drew.heap[b]? = _:=hbk
  rw[Lib.cell_of_heap this];rfl
 have hal:(w.alloc (.cells cs 5)).heap[b]? = some (.cells #[.pointer (some ⟨b,0,none⟩),.slice none 0 0] 121 (0,0)):=(Lib.alloc_old w _ b hlt).trans hbk
 have c2:(w.alloc (.cells cs 5)).cell? ⟨b,1,none⟩ = some (.slice none 0 0):=by
  rw[Lib.cell_of_heap hal];rfl
 have f2:(w.alloc (.cells cs 5)).frozen? ⟨b,1,none⟩ = false:=Lib.frozen_of_heap hal 1
 have hcopy:∀ W:World,(Builtin.copy_ #[119,119] 3 #[.slice (some ⟨w.heap.size,0,none⟩) 0 cs.size,.slice none 0 0]).run Tryz.prog W = .ok (goInt 0) W:=
  fun W=>run_copy_none W 119 119 3 5 _ _ 0 cs.size 0 0 Tryz.underlying119 (by kernel_rfl) rfl
 clear hw
 have mixed:=Zo
 have t121:=Tryz.underlying121;have a121:=Tryz.isAgg121;have z121:=Tryz.sizeOf121;have v121:=Tryz.zeroValue121;have u121:=fun w=>Zr (w:=w) Tryz.underlying121
 have t118:=Tryz.underlying118;have a118:=Tryz.isAgg118;have z118:=Tryz.sizeOf118;have v118:=Tryz.zeroValue118;have u118:=fun w=>Zr (w:=w) Tryz.underlying118
 have t119:=Tryz.underlying119;have a119:=Tryz.isAgg119;have z119:=Tryz.sizeOf119;have v119:=Tryz.zeroValue119;have u119:=fun w=>Zr (w:=w) Tryz.underlying119
 have t3:=Tryz.underlying3;have a3:=Tryz.isAgg3;have z3:=Tryz.sizeOf3;have v3:=Tryz.zeroValue3;have u3:=fun w=>Zr (w:=w) Tryz.underlying3
 have t5:=Tryz.underlying5;have a5:=Tryz.isAgg5;have z5:=Tryz.sizeOf5;have v5:=Tryz.zeroValue5;have u5:=fun w=>Zr (w:=w) Tryz.underlying5
 have fin:Grown w (((w.alloc (.cells cs 5)).setCell ⟨b,1,none⟩ (.slice (some ⟨w.heap.size,0,none⟩) 0 cs.size)).drew.drew.drew) b cs:=by
  refine ⟨?_,?_,hmax (by unfold maxLen;omega),⟨rfl,rfl,rfl⟩,?_,fun k hk hkb=>?_⟩
  ·show ((w.alloc (.cells cs 5)).setCell ⟨b,1,none⟩ (.slice (some ⟨w.heap.size,0,none⟩) 0 cs.size)).heap[b]? = _
   simp only[World.setCell,Array.getElem?_modify,if_true,hal,Option.map_some];rfl
  ·show ((w.alloc (.cells cs 5)).setCell ⟨b,1,none⟩ (.slice (some ⟨w.heap.size,0,none⟩) 0 cs.size)).heap[w.heap.size]? = _
   rw[Below.heap_setCell _ _ _ _ (show w.heap.size≠b by omega)]
   exact World.alloc_heap_new w _
  ·show ((w.alloc (.cells cs 5)).setCell ⟨b,1,none⟩ _).heap.size = _
   simp[World.setCell]
  ·show ((w.alloc (.cells cs 5)).setCell ⟨b,1,none⟩ (.slice (some ⟨w.heap.size,0,none⟩) 0 cs.size)).heap[k]? = _
   rw[Below.heap_setCell _ _ _ _ hkb]
   exact Lib.alloc_old w _ k hk
 have fin2:Grown w (((w.setCell ⟨b,1,none⟩ (.slice (some ⟨w.heap.size,0,none⟩) 0 cs.size)).alloc (.cells cs 5)).drew.drew.drew) b cs:=by
  have hsz:(w.setCell ⟨b,1,none⟩ (.slice (some ⟨w.heap.size,0,none⟩) 0 cs.size)).heap.size = w.heap.size:=by simp[World.setCell]
  refine ⟨?_,?_,hmax (by unfold maxLen;omega),⟨rfl,rfl,rfl⟩,?_,fun k hk hkb=>?_⟩
  ·show ((w.setCell ⟨b,1,none⟩ (.slice (some ⟨w.heap.size,0,none⟩) 0 cs.size)).alloc (.cells cs 5)).heap[b]? = _
   rw[Lib.alloc_old _ _ b (by omega)]
   simp only[World.setCell,Array.getElem?_modify,if_true,hbk,Option.map_some];rfl
  ·show ((w.setCell ⟨b,1,none⟩ (.slice (some ⟨w.heap.size,0,none⟩) 0 cs.size)).alloc (.cells cs 5)).heap[w.heap.size]? = _
   have:=World.alloc_heap_new (w.setCell ⟨b,1,none⟩ (.slice (some ⟨w.heap.size,0,none⟩) 0 cs.size)) (.cells cs 5)
   rw[hsz] at this;exact this
  ·show ((w.setCell ⟨b,1,none⟩ _).alloc (.cells cs 5)).heap.size = _
   simp[World.setCell]
  ·show ((w.setCell ⟨b,1,none⟩ (.slice (some ⟨w.heap.size,0,none⟩) 0 cs.size)).alloc (.cells cs 5)).heap[k]? = _
   rw[Lib.alloc_old _ _ k (by omega),Below.heap_setCell _ _ _ _ hkb]
 go_enter Tryz.func156,Tryz.ntmps156
 go_wp2
 go_region_o
 all_goals (go_wp2;go_end0;first |exact ⟨rfl,_,fin⟩ |exact ⟨rfl,_,fin2⟩)
end Go.Proofs.YtogaiomakhapmaaGreat.AL
namespace Go.Proofs.YtogaiomakhapmaaGreat.AL
open Go Go.RowKit Go.Proofs
structure GGrown (w w':World) (b n:Nat):Prop where
 same:Same w w'
 oth:∀ k,k < w.heap.size→k≠b→w'.heap[k]? = w.heap[k]?
 how:(n = 0∧w'.heap[b]? = some (.cells #[.pointer (some ⟨b,0,none⟩),.slice none 0 0] 121 (0,0))∧w'.heap.size = w.heap.size)∨
    (n≠0∧∃ cs,w'.heap[b]? = some (.cells #[.pointer (some ⟨b,0,none⟩),.slice (some ⟨w.heap.size,0,none⟩) 0 cs.size] 121 (0,0))∧w'.heap[w.heap.size]? = some (.cells cs 5 (0,0))∧cs.size≤maxLen∧w'.heap.size = w.heap.size + 1)
set_option maxHeartbeats 2000000 in
set_option maxRecDepth 1000000 in
theorem Z3c (b n:Nat) (p:Value) (w:World) (hb:w.heap[b]? = some (.cells #[p,.slice none 0 0] 121 (0,0))) (hp:p = .pointer none∨p = .pointer (some ⟨b,0,none⟩)) (hn:n≤281474976710656):
  Calls Tryz.prog 144 #[.pointer (some ⟨b,0,none⟩),.int .i64 n] w fun e w'=>e = .returned (.tuple #[])∧GGrown w w' b n:=by
 have mixed:=Zo
 have t121:=Tryz.underlying121;have a121:=Tryz.isAgg121;have z121:=Tryz.sizeOf121;have v121:=Tryz.zeroValue121;have u121:=fun w=>Zr (w:=w) Tryz.underlying121
 have t118:=Tryz.underlying118;have a118:=Tryz.isAgg118;have z118:=Tryz.sizeOf118;have v118:=Tryz.zeroValue118;have u118:=fun w=>Zr (w:=w) Tryz.underlying118
 have t119:=Tryz.underlying119;have a119:=Tryz.isAgg119;have z119:=Tryz.sizeOf119;have v119:=Tryz.zeroValue119;have u119:=fun w=>Zr (w:=w) Tryz.underlying119
 have t3:=Tryz.underlying3;have a3:=Tryz.isAgg3;have z3:=Tryz.sizeOf3;have v3:=Tryz.zeroValue3;have u3:=fun w=>Zr (w:=w) Tryz.underlying3
 have t9:=Tryz.underlying9;have a9:=Tryz.isAgg9;have z9:=Tryz.sizeOf9;have v9:=Tryz.zeroValue9;have u9:=fun w=>Zr (w:=w) Tryz.underlying9
 have t4:=Tryz.underlying4;have a4:=Tryz.isAgg4;have z4:=Tryz.sizeOf4;have v4:=Tryz.zeroValue4;have u4:=fun w=>Zr (w:=w) Tryz.underlying4
 have t5:=Tryz.underlying5;have a5:=Tryz.isAgg5;have z5:=Tryz.sizeOf5;have v5:=Tryz.zeroValue5;have u5:=fun w=>Zr (w:=w) Tryz.underlying5
 go_enter Tryz.func144,Tryz.ntmps144
 go_wp2_with (go_at_call 122;refine (Zvz b _ hb hp).mono ?_)
 rintro e w1 ⟨rfl,hbk,hs1,hz,hk1⟩
 have c1:w1.drew.cell? ⟨b,1,none⟩ = some (.slice none 0 0):=by
  have:w1.drew.heap[b]? = _:=hbk
  rw[Lib.cell_of_heap this];rfl
 have z0:n = 0→GGrown w w1.drew b n:=fun h=>⟨hs1,fun k _ hkb=>hk1 k hkb,.inl ⟨h,hbk,hz⟩⟩
 have z1:n≠0→∀ w2 cs,Grown w1.drew w2 b cs→GGrown w w2 b n:=fun h w2 cs G=>by
  have hz':w1.drew.heap.size = w.heap.size:=hz
  obtain ⟨g1,g2,g3,g4,g5,g6⟩:=G
  rw[hz'] at g1 g2 g5 g6
  exact ⟨hs1.trans g4,fun k hk hkb=>(g6 k hk hkb).trans (hk1 k hkb),.inr ⟨h,cs,g1,g2,g3,g5⟩⟩
 go_wp2
 go_region_o
 all_goals go_wp2_with (go_at_call 156;refine (Z2R b n w1.drew hbk hn).mono ?_;rintro e w2 ⟨rfl,cs,G⟩)
 all_goals first
  | (go_end0;exact ⟨rfl,z1 (by omega) _ _ G⟩)
  | (go_end0;exact ⟨rfl,z0 (by omega)⟩)
end Go.Proofs.YtogaiomakhapmaaGreat.AL
