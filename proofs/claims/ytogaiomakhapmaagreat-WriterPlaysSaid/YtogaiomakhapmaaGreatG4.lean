import Derived.Test.YtogaiomakhapmaaGreatG3
import Derived.Shelf.Strconv.Clone
import Derived.Test.YtogaiomakhapmaaGreatG2
import Derived.Shelf.Sort.Plain
import Derived.Test.YtogaiomakhapmaaGreatProg
import Derived.Shelf.Slices.In.SortNone
import Derived.Sort.OwnSorted
import Derived.Sort.KeysCollected
import Derived.Ground.NamesProg
set_option linter.unusedVariables false
set_option linter.unusedSimpArgs false
namespace Go.Proofs.YtogaiomakhapmaaGreat.AL
set_option maxRecDepth 100000
open Go Go.RowKit Go.Proofs
open Go.Proofs.Tryz
theorem Z0B {h:Za} {s:ByteArray} (hs:s.size≤281474976710656):ACalls Tryz.prog 112 [.lit (.string s)] h fun e g=>e = .ret (.lit (.string s))∧g = h:=by
 intro ρ w us hR hv
 obtain ⟨u,rfl,hu⟩:=hv.single
 cases hu with
 |lit=>
  refine (Any.stringslite_Clone (P:=Tryz.prog) Tryz.laysSClone s w hs).mono ?_
  rintro e w' ⟨rfl,hb⟩
  obtain ⟨ev,R'⟩:=Zvk hR ⟨hb.os,hb.tape,hb.output⟩ hb.size hb.block
  exact ⟨ρ,h,.ret (.lit (.string s)),ev,R',.ret _ _ (.lit _),rfl,rfl⟩
def Zd2 (s:ByteArray):Option ByteArray:=cond (decide (s.size≤281474976710656)) (some s) none
theorem ZtG {s z:ByteArray} (h:Zd2 s = some z):s.size≤281474976710656∧z = s:=by
 unfold Zd2 at h
 by_cases c:s.size≤281474976710656
 ·rw[decide_eq_true c] at h;cases h;exact ⟨c,rfl⟩
 ·rw[decide_eq_false c] at h;cases h
theorem Z0A {h:Za} {s z:ByteArray} (hx:Zd2 s = some z):ACalls Tryz.prog 112 [.lit (.string s)] h fun e g=>e = .ret (.lit (.string z))∧g = h:=by
 obtain ⟨h1,rfl⟩:=ZtG hx
 exact Z0B h1
noncomputable def ZoP:XC:=.q fun R args h K=>match args with
 | [.lit (.string s)]=>(Zd2 s).bind fun z=>K (.lit (.string z))
 |_=>none
theorem Zzg:XC.Nat ZoP∧XC.Ok Tryz.prog 112 ZoP:=by
 refine ⟨fun R args h K=>?_,tc112,fun args h v hx=>?_⟩
 ·dsimp only;split<;>simp[Option.bind_assoc,mkP]
 ·dsimp only at hx;split at hx
  ·obtain ⟨z,hopt,hx⟩:=Option.bind_eq_some_iff.1 hx
   cases hx
   exact Z0A hopt
  ·cases hx
noncomputable def Zxq:XE:={ T:=Zn [(9,r9)],C:=[(112,ZoP)],D:=[],Ms:=[],Ml:=[],Mo:=[],n:=5}
theorem Z9a:XE.Ok Zxq Tryz.prog:=⟨Zp (⟨Zz,trivial⟩),(⟨Zzg,trivial⟩),Zq,trivial⟩
noncomputable def Zwj (s0:ByteArray) (h:Za):Option (AVal×Za):=Zt Zxq f79 [(.lit (.string s0))] h
theorem Z5I (s0:ByteArray) (h:Za):Zwj s0 h =
 (Zd2 s0).bind fun r1=>
 some ((.lit (.string r1)),h):=by kernel_rfl
theorem Z5J {s0:ByteArray} {h h':Za} {v:AVal} {R:AEnd→Za→Prop} (hx:Zwj s0 h = some (v,h')) (hR:HOk h→h.length≤h'.length→ABody.AEnds h h' (.ret v) R):ACalls Tryz.prog 79 [(.lit (.string s0))] h R:=Zu Z9a Zo (i:=79) (by rfl) (by kernel_rfl) (by kernel_rfl) hx hR
theorem Z3J (h:Za) (s:ByteArray) (hs:s.size≤281474976710656):ACalls Tryz.prog 79 [.lit (.string s)] h fun e g=>e = .ret (.lit (.string s))∧g = h:=by
 refine Z5J (v:=.lit (.string s)) (h':=h) ?_ selfR
 rw[Z5I]
 simp only[Zd2,decide_eq_true hs,cond_true,Option.bind_some]
theorem Z3K {h:Za} {s z:ByteArray} (hx:Zd2 s = some z):ACalls Tryz.prog 79 [.lit (.string s)] h fun e g=>e = .ret (.lit (.string z))∧g = h:=by
 obtain ⟨h1,rfl⟩:=ZtG hx
 exact Z3J h _ h1
noncomputable def ZoF:XC:=.q fun R args h K=>match args with
 | [.lit (.string s)]=>(Zd2 s).bind fun z=>K (.lit (.string z))
 |_=>none
theorem ZyW:XC.Nat ZoF∧XC.Ok Tryz.prog 79 ZoF:=by
 refine ⟨fun R args h K=>?_,tc79,fun args h v hx=>?_⟩
 ·dsimp only;split<;>simp[Option.bind_assoc,mkP]
 ·dsimp only at hx;split at hx
  ·obtain ⟨z,hopt,hx⟩:=Option.bind_eq_some_iff.1 hx
   cases hx
   exact Z3K hopt
  ·cases hx
end Go.Proofs.YtogaiomakhapmaaGreat.AL
namespace Go.Proofs.YtogaiomakhapmaaGreat.AL
open Go Go.RowKit Go.Proofs
variable {ρ:Env} {h:Za} {w w':World}
def Zdo (h:Za) (k:Option Nat):Za:=match k with
 |none=>h
 |some k=>h.set k .dead
theorem ZjK (h:Za) (k:Option Nat):(Zdo h k).length = h.length:=by cases k<;>simp[Zdo]
theorem Z23 {h:Za} {k:Option Nat} {c:Nat} {o:AObj} (hc:(Zdo h k)[c]? = some o) (hd:o≠ .dead):k≠some c∧h[c]? = some o:=by
 cases k with
 |none=>exact ⟨by simp,hc⟩
 |some k=>
  unfold Zdo at hc
  by_cases e:k = c
  ·subst e
   have hl:k < h.length:=by have:=ZE hc;simpa using this
   rw[List.getElem?_set_self hl] at hc
   cases hc;exact (hd rfl).elim
  ·rw[List.getElem?_set_ne e] at hc
   exact ⟨by simpa using e,hc⟩
theorem Zrf (hR:Rel ρ h w) {b:Nat} {T U:TypeId} {k:Option Nat} {n n' cap g:Nat} {p v:Value} {bs:List UInt8} (hb:h[b]? = some (.bld T k n)) (hk:∀ k',k = some k'→k'≠b∧∃ xs,h[k']? = some (.buf U xs))
  (hL:Lone w w' (ρ b).blk (k.map fun k'=>(ρ k').blk)) (hg:(∃ k',k = some k'∧g = (ρ k').blk)∨w.heap.size≤g) (hbase:(ρ b).base = 0)
  (hw:w'.heap[(ρ b).blk]? = some (.cells #[p,v] T (0,0))) (hp:p = .pointer none∨p = .pointer (some ⟨(ρ b).blk,0,none⟩)) (hv:v = .slice (some ⟨g,0,none⟩) n' cap) (hbuf:Zlp w' U bs ⟨g,0,cap,1⟩):
  Evo ρ h w (ext ρ h.length ⟨g,0,cap,1⟩) ((Zdo h k).set b (.bld T (some h.length) n')++[.buf U bs]) w'∧Rel (ext ρ h.length ⟨g,0,cap,1⟩) ((Zdo h k).set b (.bld T (some h.length) n')++[.buf U bs]) w':=by
 have hbl:=ZE hb
 have hlen:((Zdo h k).set b (.bld T (some h.length) n')).length = h.length:=by simp[ZjK]
 have old:∀ c o,((Zdo h k).set b (.bld T (some h.length) n')++[.buf U bs])[c]? = some o→o≠ .dead→
   (c < h.length∧c≠b∧k≠some c∧h[c]? = some o∧ext ρ h.length ⟨g,0,cap,1⟩ c = ρ c)∨(c = b∧o = .bld T (some h.length) n'∧ext ρ h.length ⟨g,0,cap,1⟩ c = ρ b)∨(c = h.length∧o = .buf U bs∧ext ρ h.length ⟨g,0,cap,1⟩ c = ⟨g,0,cap,1⟩):=by
  intro c o hc hd
  rcases Nat.lt_or_ge c h.length with hlt |hge
  ·rw[List.getElem?_append_left (by omega)] at hc
   by_cases hcb:c = b
   ·subst hcb
    rw[List.getElem?_set_self (by rw[ZjK];exact hlt)] at hc
    cases hc
    exact .inr (.inl ⟨rfl,rfl,by simp[ext,Nat.ne_of_lt hlt]⟩)
   ·rw[List.getElem?_set_ne (Ne.symm hcb)] at hc
    obtain ⟨h1,h2⟩:=Z23 hc hd
    exact .inl ⟨hlt,hcb,h1,h2,by simp[ext,Nat.ne_of_lt hlt]⟩
  ·have:c < ((Zdo h k).set b (.bld T (some h.length) n')++[AObj.buf U bs]).length:=ZE hc
   have hce:c = h.length:=by simp[ZjK] at this;omega
   subst hce
   rw[List.getElem?_append_right (by omega),hlen,Nat.sub_self] at hc
   simp at hc
   exact .inr (.inr ⟨rfl,hc.symm,by simp[ext]⟩)
 have hbd:AObj.bld T k n≠ .dead:=by simp
 have gcells:∃ C fz,w'.heap[g]? = some (.cells C U fz):=let ⟨_,C,fz,h1,_⟩:=hbuf;⟨C,fz,h1⟩
 have other:∀ c o,h[c]? = some o→o≠ .dead→c≠b→k≠some c→w'.heap[(ρ c).blk]? = w.heap[(ρ c).blk]?:=fun c o hc hd hcb hck=>by
  refine hL.block _ (hR.blk_lt hc hd) (fun e=>hcb (hR.inj _ _ _ _ hc hb hd hbd e)) fun e=>?_
  cases k with
  |none=>simp at e
  |some k'=>
   obtain ⟨_,xs,hx⟩:=hk k' rfl
   simp only[Option.map_some,Option.some.injEq] at e
   exact hck (by rw[hR.inj _ _ _ _ hc hx hd (by simp) e])
 have gnot:∀ c o,h[c]? = some o→o≠ .dead→k≠some c→(ρ c).blk≠g:=fun c o hc hd hck e=>by
  rcases hg with ⟨k',rfl,rfl⟩ |hg
  ·obtain ⟨_,xs,hx⟩:=hk k' rfl
   exact hck (by rw[hR.inj _ _ _ _ hc hx hd (by simp) e])
  ·have:=hR.blk_lt hc hd;omega
 have bnk:k≠some b:=fun e=>(hk b e).1 rfl
 have ev:Evo ρ h w (ext ρ h.length ⟨g,0,cap,1⟩) ((Zdo h k).set b (.bld T (some h.length) n')++[.buf U bs]) w':=by
  refine ⟨by simp[ZjK],fun c hc=>by simp[ext,Nat.ne_of_lt hc],hL.size,hL.same,fun c hc hn=>⟨?_,?_⟩,fun l r hr=>?_⟩
  ·refine hL.block c hc (fun e=>hn ⟨b,_,hb,hbd,e.symm⟩) fun e=>?_
   cases k with
   |none=>simp at e
   |some k'=>
    obtain ⟨_,xs,hx⟩:=hk k' rfl
    simp only[Option.map_some,Option.some.injEq] at e
    exact hn ⟨k',_,hx,by simp,e.symm⟩
  ·rintro ⟨b2,o2,hb2,hd2,he⟩
   rcases old b2 o2 hb2 hd2 with ⟨_,_,_,h4,h5⟩ | ⟨_,_,h5⟩ | ⟨_,_,h5⟩
   ·rw[h5] at he;exact hn ⟨b2,o2,h4,hd2,he⟩
   ·rw[h5] at he;exact hn ⟨b,_,hb,hbd,he⟩
   ·rw[h5] at he
    have he:g = c:=he
    subst he
    rcases hg with ⟨k',rfl,rfl⟩ |hg
    ·obtain ⟨_,xs,hx⟩:=hk k' rfl
     exact hn ⟨k',_,hx,by simp,rfl⟩
    ·omega
  ·refine ⟨r,?_⟩
   rw[hL.block l (Zb9 hr) (fun e=>?_) (fun e=>?_)]
   ·exact hr
   ·obtain ⟨_,p0,v0,h1,_⟩:=hR.obj b _ hb
    rw[e,h1] at hr;cases hr
   ·cases k with
    |none=>simp at e
    |some k'=>
     obtain ⟨_,xs,hx⟩:=hk k' rfl
     obtain ⟨_,C,fz,h1,_⟩:=hR.obj k' _ hx
     simp only[Option.map_some,Option.some.injEq] at e
     rw[e,h1] at hr;cases hr
 refine ⟨ev,hR.glob.evo ev,fun c o hc=>?_,fun c c' o1 o2 h1 h2 d1 d2 he=>?_⟩
 ·by_cases hd:o = .dead
  ·subst hd;trivial
  rcases old c o hc hd with ⟨_,h2,h3,h4,h5⟩ | ⟨rfl,rfl,h5⟩ | ⟨rfl,rfl,h5⟩
  ·rw[h5];exact (hR.obj c o h4).evo ev fun hd=>other c o h4 hd h2 h3
  ·rw[h5]
   exact ⟨hbase,p,v,hw,hp,by simp[ZjK],by rw[Zds];exact hv⟩
  ·rw[h5];exact hbuf
 ·rcases old c o1 h1 d1 with ⟨_,a2,a3,a4,a5⟩ | ⟨rfl,rfl,a5⟩ | ⟨rfl,rfl,a5⟩<;>rcases old c' o2 h2 d2 with ⟨_,b2,b3,b4,b5⟩ | ⟨rfl,rfl,b5⟩ | ⟨rfl,rfl,b5⟩<;>(have he:=(congrArg Loc.blk a5).symm.trans (he.trans (congrArg Loc.blk b5)))
  ·exact hR.inj _ _ _ _ a4 b4 d1 d2 he
  ·exact hR.inj _ _ _ _ a4 hb d1 hbd he
  ·exact (gnot c o1 a4 d1 a3 he).elim
  ·exact hR.inj _ _ _ _ hb b4 hbd d2 he
  ·rfl
  ·exact (gnot _ _ hb hbd bnk he).elim
  ·exact (gnot c' o2 b4 d2 b3 he.symm).elim
  ·exact (gnot _ _ hb hbd bnk he.symm).elim
  ·rfl
def ZdH (l:List UInt8):List Value:=l.map fun b=>.int .u8 b.toNat
def Zem (s:ByteArray):AVal:=.tup [.lit (.int .i64 s.size),.lit .nilIface]
inductive Bld (h:Za) (b:Nat):List UInt8→Prop
 |fresh (hb:h[b]? = some (.bld 121 none 0)):Bld h b []
 |held (k:Nat) (bs:List UInt8) (hb:h[b]? = some (.bld 121 (some k) bs.length)) (hk:h[k]? = some (.buf 5 bs)) (h0:bs≠[]):Bld h b bs
def Zf7 (h:Za) (p:AVal) (s:ByteArray):Option (AVal×Za):=match p with
 | .ptr b 0=>match h[b]? with
   |some (.bld T k n)=>(req (T = 121∧s.size≠0∧n + s.size≤140737488355328)).bind fun _=>match k with
    |none=>(req (n = 0)).bind fun _=>some (Zem s,(h.set b (.bld 121 (some h.length) s.size))++[.buf 5 s.data.toList])
    |some k=>match h[k]? with
     |some (.buf U bs)=>(req (U = 5∧bs.length = n)).bind fun _=>some (Zem s,((h.set k .dead).set b (.bld 121 (some h.length) (n + s.size)))++[.buf 5 (bs++s.data.toList)])
     |_=>none
   |_=>none
 |_=>none
theorem Zt4 (s:ByteArray):Lib.strCells s = ZdH s.data.toList:=rfl
theorem Z4h {p:AVal} {s:ByteArray} {r:AVal×Za} (hx:Zf7 h p s = some r):ACalls Tryz.prog 94 [p,.lit (.string s)] h fun e g=>e = .ret r.1∧g = r.2:=by
 unfold Zf7 at hx
 split at hx
 rotate_left
 ·cases hx
 rename_i b
 split at hx
 rotate_left
 ·cases hx
 rename_i T k n hb
 obtain ⟨_,hT,hx1⟩:=Option.bind_eq_some_iff.1 hx
 clear hx
 obtain ⟨rfl,h0,hsz⟩:=ZY hT
 intro ρ w us hR hv
 obtain ⟨hl,hv⟩:=hv
 obtain ⟨us⟩:=us
 match us,hl with
 | [u0,u1],_=>
 have hv0:=hv 0 (by simp)
 have hv1:=hv 1 (by simp)
 simp only[List.getElem_cons_zero,List.getElem_cons_succ] at hv0 hv1
 obtain ⟨hbase,p0,v0,hh,hp0,hm⟩:=hR.obj b _ hb
 have e0:u0 = .pointer (some ⟨(ρ b).blk,0,none⟩):=by
  generalize hq:((#[u0,u1]:Array Value).getD 0 undef) = q at hv0
  have:q = u0:=by rw[←hq];rfl
  subst this
  cases hv0 with
  |ptr=>rw[hbase]
 have e1:u1 = .string s:=by
  generalize hq:((#[u0,u1]:Array Value).getD 1 undef) = q at hv1
  have:q = u1:=by rw[←hq];rfl
  subst this
  cases hv1;rfl
 subst e0 e1
 have hbd:AObj.bld 121 k n≠ .dead:=by simp
 have ret:∀ (ρ':Env) (h':Za) (w':World),EndR ρ' h' w' (.ret (Zem s)) (.returned (.tuple #[.int .i64 s.size,.nilIface])):=fun ρ' h' w'=>
  .ret _ _ (.tup _ _ rfl fun i hi=>by
   match i,hi with
   | 0,_=>exact .lit _
   | 1,_=>exact .lit _)
 have done:∀ (bs:List UInt8),bs.length = n→(∀ k',k = some k'→k'≠b∧h[k']? = some (.buf 5 bs))→w.ownsRowF 0 5 1 v0 n (ZdH bs)→v0.ownBlock = k.map (fun k'=>(ρ k').blk)→v0.ownBlock≠some (ρ b).blk→
   Calls Tryz.prog 94 #[.pointer (some ⟨(ρ b).blk,0,none⟩),.string s] w fun e w'=>∃ ρ' h' e',Evo ρ h w ρ' h' w'∧Rel ρ' h' w'∧EndR ρ' h' w' e' e∧e' = .ret (Zem s)∧h' = (Zdo h k).set b (.bld 121 (some h.length) (n + s.size))++[.buf 5 (bs++s.data.toList)]:=by
  intro bs hbs hkk hown hob hne
  have hbl:(ZdH bs).length = n:=by simp[ZdH,hbs]
  refine (ZsM (ρ b).blk p0 v0 (ZdH bs) s w hh hp0 (by rw[hbl];exact hown) hne (by rw[hbl];exact hsz)).mono ?_
  rintro e w' ⟨rfl,v',a1,a2,a3,a4,a5⟩
  rw[hbl] at a2
  rcases a2.2 with ⟨hv',_⟩ | ⟨g,cap,cur,fz,hv',_,hg,hfz,hnc,hcm,hcs,htake⟩
  ·exact (h0 (a4.1 hv').2).elim
  ·have hgo:(∃ k',k = some k'∧g = (ρ k').blk)∨w.heap.size≤g:=by
    rcases a3 g (by rw[hv'];rfl) with h |h
    ·rw[hob] at h
     cases k with
     |none=>simp at h
     |some k'=>exact .inl ⟨k',rfl,by simpa using h.symm⟩
    ·exact .inr h
   have hsl:s.data.toList.length = s.size:=Array.length_toList
   have hbuf:Zlp w' 5 (bs++s.data.toList) ⟨g,0,cap,1⟩:=by
    refine ⟨rfl,cur,fz,hg,by simpa using hcs,by simp[hbs,hsl];omega,by simp[hbs,hsl];omega,hcm,?_⟩
    rw[show (bs++s.data.toList).length = (n + s.size) * 1 by simp[hbs,hsl],htake]
    simp[ZdH,Zt4]
   obtain ⟨ev,R'⟩:=Zrf (T:=121) (U:=5) (k:=k) (n':=n + s.size) hR hb (fun k' hk'=>let ⟨x1,x2⟩:=hkk k' hk';⟨x1,bs,x2⟩) (by rw[←hob];exact a5) hgo hbase a1 (.inr rfl) hv' hbuf
   exact ⟨_,_,_,ev,R',ret _ _ _,rfl,rfl⟩
 cases k with
 |none=>
  obtain ⟨_,hq,hx2⟩:=Option.bind_eq_some_iff.1 hx1
  obtain rfl:=ZY hq
  obtain ⟨rfl,_⟩:=hm
  cases hx2
  refine (done [] rfl (fun k' hk'=>by cases hk') (World.ownsRowF_nil w 0 5 1) rfl (by simp[Value.ownBlock])).mono ?_
  rintro e w' ⟨ρ',h',e',x1,x2,x3,x4,x5⟩
  refine ⟨ρ',h',e',x1,x2,x3,x4,x5.trans ?_⟩
  simp[Zdo]
 |some k=>
  simp only at hx1
  split at hx1
  rotate_left
  ·cases hx1
  rename_i U bs hk
  obtain ⟨_,hq,hx2⟩:=Option.bind_eq_some_iff.1 hx1
  obtain ⟨rfl,hn⟩:=ZY hq
  cases hx2
  obtain ⟨hkl,rfl⟩:=hm
  obtain ⟨kb,C,fz,c1,c2,c3,c4,c5,c6⟩:=hR.obj k _ hk
  have hkb:k≠b:=fun e=>by rw[e,hb] at hk;cases hk
  refine (done bs hn (fun k' hk'=>by cases hk';exact ⟨hkb,hk⟩) ⟨by simp[ZdH,hn],.inr ⟨_,_,C,fz,rfl,Nat.zero_le _,c1,by omega,by omega,c5,by omega,by rw[Nat.mul_one,←hn];exact c6⟩⟩ rfl ?_).mono ?_
  ·simp only[Value.ownBlock,ne_eq,Option.some.injEq]
   exact fun e=>hkb (hR.inj _ _ _ _ hk hb (by simp) hbd e)
  ·rintro e w' ⟨ρ',h',e',x1,x2,x3,x4,x5⟩
   exact ⟨ρ',h',e',x1,x2,x3,x4,x5⟩
theorem Bld.write {h:Za} {b:Nat} {l:List UInt8} (B:Bld h b l) {s:ByteArray} (h0:s.size≠0) (hn:l.length + s.size≤140737488355328):
  ∃ h',Zf7 h (.ptr b 0) s = some (Zem s,h')∧Bld h' b (l++s.data.toList)∧(∀ c,c < h.length→c≠b→(∀ T bs,h[c]?≠some (.buf T bs))→h'[c]? = h[c]?)∧h'.length = h.length + 1:=by
 have hsl:s.data.toList.length = s.size:=Array.length_toList
 have hs0:s.data.toList≠[]:=fun e=>by rw[e] at hsl;simp at hsl;exact h0 hsl.symm
 cases B with
 |fresh hb=>
  have hbl:=ZE hb
  refine ⟨(h.set b (.bld 121 (some h.length) s.size))++[.buf 5 s.data.toList],?_,.held h.length _ ?_ ?_ (by simpa using hs0),fun c hc hcb _=>?_,by simp⟩
  ·unfold Zf7
   simp only[hb]
   rw[Z8 (⟨trivial,h0,by simpa using hn⟩:True∧s.size≠0∧0 + s.size≤140737488355328),Z8 trivial]
   rfl
  ·rw[List.getElem?_append_left (by simpa using hbl),List.getElem?_set_self hbl];simp[hsl]
  ·rw[List.getElem?_append_right (by simp)];simp
  ·rw[List.getElem?_append_left (by simpa using hc),List.getElem?_set_ne (Ne.symm hcb)]
 |held k _ hb hk hl0=>
  have hbl:=ZE hb
  have hkb:k≠b:=fun e=>by rw[e,hb] at hk;cases hk
  refine ⟨((h.set k .dead).set b (.bld 121 (some h.length) (l.length + s.size)))++[.buf 5 (l++s.data.toList)],?_,.held h.length _ ?_ ?_ (by simp[hl0]),fun c hc hcb hcd=>?_,by simp⟩
  ·unfold Zf7
   simp only[hb]
   rw[Z8 (⟨trivial,h0,hn⟩:True∧s.size≠0∧l.length + s.size≤140737488355328)]
   simp only[Option.bind_some,hk]
   rw[Z8 (⟨trivial,trivial⟩:True∧True)]
   rfl
  ·rw[List.getElem?_append_left (by simpa using hbl),List.getElem?_set_self (by simpa using hbl)];simp[hsl]
  ·rw[List.getElem?_append_right (by simp)];simp
  ·rw[List.getElem?_append_left (by simpa using hc),List.getElem?_set_ne (Ne.symm hcb),List.getElem?_set_ne (fun e=>by subst e;exact hcd _ _ hk)]
def Zec (h:Za) (p:AVal):Option (AVal×Za):=match p with
 | .ptr b 0=>match h[b]? with
   |some (.bld T k n)=>(req (T = 121)).bind fun _=>match k with
    |none=>(req (n = 0)).bind fun _=>some (.lit (.string ⟨#[]⟩),h)
    |some k=>match h[k]? with
     |some (.buf U bs)=>(req (U = 5∧bs.length = n∧bs≠[])).bind fun _=>some (.lit (.string ⟨bs.toArray⟩),h.set k .dead)
     |_=>none
   |_=>none
 |_=>none
theorem Z4i {p:AVal} {r:AVal×Za} (hx:Zec h p = some r):ACalls Tryz.prog 97 [p] h fun e g=>e = .ret r.1∧g = r.2:=by
 unfold Zec at hx
 split at hx
 rotate_left
 ·cases hx
 rename_i b
 split at hx
 rotate_left
 ·cases hx
 rename_i T k n hb
 obtain ⟨_,hT,hx1⟩:=Option.bind_eq_some_iff.1 hx
 clear hx
 obtain rfl:=ZY hT
 intro ρ w us hR hv
 obtain ⟨u,rfl,hu⟩:=hv.single
 obtain ⟨hbase,p0,v0,hh,hp0,hm⟩:=hR.obj b _ hb
 have e0:u = .pointer (some ⟨(ρ b).blk,0,none⟩):=by cases hu with |ptr=>rw[hbase]
 subst e0
 cases k with
 |none=>
  obtain ⟨_,hq,hx2⟩:=Option.bind_eq_some_iff.1 hx1
  cases hx2
  obtain ⟨rfl,_⟩:=hm
  refine (Z4a (ρ b).blk p0 w hh).mono ?_
  rintro e w' ⟨rfl,hs,hw⟩
  obtain ⟨R',ev⟩:=hR.like hs hw
  exact ⟨ρ,h,_,ev,R',.ret _ _ (.lit _),rfl,rfl⟩
 |some k=>
  simp only at hx1
  split at hx1
  rotate_left
  ·cases hx1
  rename_i U bs hk
  obtain ⟨_,hq,hx2⟩:=Option.bind_eq_some_iff.1 hx1
  obtain ⟨rfl,hn,hb0⟩:=ZY hq
  cases hx2
  obtain ⟨hkl,rfl⟩:=hm
  obtain ⟨kb,C,fz,c1,c2,c3,c4,c5,c6⟩:=hR.obj k _ hk
  subst hn
  refine (Z3Z (ρ b).blk (ρ k).blk (ρ k).size p0 C fz bs w hh c1 hb0 c4 c2 c5 c6).mono ?_
  rintro e w' ⟨rfl,hs,hz,ho,hloop⟩
  have nl:∀ r:Loop,w.heap[(ρ k).blk]? = some (Obj.loop r)→∃ r':Loop,w'.heap[(ρ k).blk]? = some (Obj.loop r'):=fun r hr=>by rw[c1] at hr;cases hr
  exact ⟨ρ,_,_,ZdC hR hk (by simp) hs (by omega) ho nl,hR.set (o':=.dead) hk (by simp) hs (by omega) ho nl trivial,.ret _ _ (.lit _),rfl,rfl⟩
theorem Bld.string {h:Za} {b:Nat} {l:List UInt8} (B:Bld h b l):∃ h',Zec h (.ptr b 0) = some (.lit (.string ⟨l.toArray⟩),h')∧(∀ c,c < h.length→(∀ T bs,h[c]?≠some (.buf T bs))→h'[c]? = h[c]?)∧h'.length = h.length:=by
 cases B with
 |fresh hb=>
  refine ⟨h,?_,fun _ _ _=>rfl,rfl⟩
  unfold Zec
  simp only[hb]
  rfl
 |held k _ hb hk hl0=>
  refine ⟨h.set k .dead,?_,fun c hc hcd=>List.getElem?_set_ne (fun e=>by subst e;exact hcd _ _ hk),by simp⟩
  unfold Zec
  simp only[hb]
  rw[Z8 trivial]
  simp only[Option.bind_some,hk]
  rw[Z8 (⟨trivial,trivial,hl0⟩:True∧True∧l≠[])]
  rfl
end Go.Proofs.YtogaiomakhapmaaGreat.AL
namespace Go.Proofs.YtogaiomakhapmaaGreat.AL
set_option maxRecDepth 10000
open Go
def Sl (k:Nat) (h:Za) (v:AVal) (n:Nat) (cs:List AVal):Prop:=cs.length = n * k∧match v with
 | .sl k' b off len=>k' = k∧len = n∧∃ all,Zb h b = some all∧off + n * k≤all.length∧(all.drop off).take (n * k) = cs
 | .ros all len=>len = n∧n * k≤all.length∧all.take (n * k) = cs
 | .lit (.slice none 0 0)=>n = 0
 |_=>False
theorem Sl.nil (k:Nat) (h:Za):Sl k h (.lit (.slice none 0 0)) 0 []:=⟨by simp,rfl⟩
theorem Sl.own {k b n:Nat} {h:Za} {cs:List AVal} (H:Zb h b = some cs) (hl:cs.length = n * k):Sl k h (.sl k b 0 n) n cs:=⟨hl,rfl,rfl,cs,H,by omega,by simp[List.take_of_length_le,hl]⟩
theorem Sl.keep {k n:Nat} {h h':Za} {v:AVal} {cs:List AVal} (S:Sl k h v n cs) {X:List Nat} (K:Keep h.length X h h') (hx:∀ b off len,v = .sl k b off len→b∉X):Sl k h' v n cs:=by
 refine ⟨S.1,?_⟩
 have h2:=S.2
 split at h2
 ·obtain ⟨rfl,rfl,all,H,h3,h4⟩:=h2
  exact ⟨rfl,rfl,all,K.cells (ZB H) (hx _ _ _ rfl) H,h3,h4⟩
 ·exact h2
 ·exact h2
 ·exact h2.elim
theorem Sl.len {k n:Nat} {h:Za} {v:AVal} {cs:List AVal} (S:Sl k h v n cs):Zbb v = some (n:Int):=by
 have h2:=S.2
 split at h2
 ·obtain ⟨rfl,rfl,_⟩:=h2;rfl
 ·obtain ⟨rfl,_⟩:=h2;rfl
 ·subst h2;rfl
 ·exact h2.elim
theorem Sl.srcLen {k n:Nat} {h:Za} {v:AVal} {cs:List AVal} (S:Sl k h v n cs):srcLen v = some n:=by
 have h2:=S.2
 split at h2
 ·obtain ⟨rfl,rfl,_⟩:=h2;rfl
 ·obtain ⟨rfl,_⟩:=h2;rfl
 ·subst h2;rfl
 ·exact h2.elim
theorem Sl.src {k n m:Nat} {h:Za} {v:AVal} {cs:List AVal} (S:Sl k h v n cs) (hm:m≤n):Zcs h k v m = some (cs.take (m * k)):=by
 have h2:=S.2
 have hmk:m * k≤n * k:=Nat.mul_le_mul_right k hm
 split at h2
 ·obtain ⟨rfl,rfl,all,H,h3,h4⟩:=h2
  unfold Zcs
  simp only[ZbV H]
  rw[if_pos ⟨by first |trivial |rfl,hm,by omega⟩,←h4,List.take_take,Nat.min_eq_left hmk]
 ·obtain ⟨rfl,h3,h4⟩:=h2
  unfold Zcs
  simp only
  rw[if_pos ⟨hm,by omega⟩,←h4,List.take_take,Nat.min_eq_left hmk]
 ·subst h2
  have:m = 0:=by omega
  subst this
  simp[Zcs]
 ·exact h2.elim
theorem Sl.src_all {k n:Nat} {h:Za} {v:AVal} {cs:List AVal} (S:Sl k h v n cs):Zcs h k v n = some cs:=by
 rw[S.src (Nat.le_refl _),←S.1,List.take_length]
theorem Sl.idx {k n i:Nat} {h:Za} {v:AVal} {cs:List AVal} (S:Sl k h v n cs) (hi:i < n):
  ∃ p,Zbc k v (i:Int) = some p∧ldn k h p = some ((cs.drop (i * k)).take k)∧(∀ o,o < k→∃ q,Zf o p = some q∧ld1 h q = cs[i * k + o]?)∧(0 < k→ld1 h p = cs[i * k]?):=by
 have h2:=S.2
 have hik:(i + 1) * k≤n * k:=Nat.mul_le_mul_right k hi
 rw[Nat.add_mul,Nat.one_mul] at hik
 have hint:(0:Int)≤(i:Int)∧(i:Int) < (n:Int):=by omega
 split at h2
 ·rename_i k' b off len
  obtain ⟨rfl,rfl,all,H,h3,h4⟩:=h2
  refine ⟨.ptr b (off + i * k'),?_,?_,fun o ho=>⟨_,rfl,?_⟩,fun hk=>?_⟩
  ·unfold Zbc;simp only[Nat.beq_refl];rw[Z8 hint];rfl
  ·rw[Zbh H (by omega),←h4,List.drop_take,List.take_take,List.drop_drop,Nat.min_eq_left (by omega)]
  ·rw[Zc H,←h4,List.getElem?_take_of_lt (by omega),List.getElem?_drop];congr 1;omega
  ·rw[Zc H,←h4,List.getElem?_take_of_lt (by omega),List.getElem?_drop]
 ·rename_i all len
  obtain ⟨rfl,h3,h4⟩:=h2
  refine ⟨.rop (all.drop (i * k)),?_,?_,fun o ho=>⟨_,rfl,?_⟩,fun hk=>?_⟩
  ·unfold Zbc;simp only;rw[Z8 hint];rfl
  ·unfold ldn;simp only;rw[Z8 (by simp;omega),←h4,List.drop_take,List.take_take,Nat.min_eq_left (by omega)];rfl
  ·unfold ld1;simp only[List.drop_drop]
   rw[List.getElem?_drop,←h4,List.getElem?_take_of_lt (by omega)];rfl
  ·unfold ld1;simp only
   rw[List.getElem?_drop,←h4,List.getElem?_take_of_lt (by omega)];rfl
 ·omega
 ·exact h2.elim
def Own (k:Nat) (h:Za) (v:AVal) (n:Nat) (cs:List AVal):Prop:=cs.length = n * k∧((v = .lit (.slice none 0 0)∧n = 0)∨∃ b,v = .sl k b 0 n∧Zb h b = some cs)
theorem Own.sl {k n:Nat} {h:Za} {v:AVal} {cs:List AVal} (O:Own k h v n cs):Sl k h v n cs:=by
 obtain ⟨h1,⟨rfl,rfl⟩ | ⟨b,rfl,H⟩⟩:=O
 ·have:cs = []:=List.length_eq_zero_iff.1 (by omega)
  subst this;exact Sl.nil _ _
 ·exact Sl.own H h1
theorem Own.nil (k:Nat) (h:Za):Own k h (.lit (.slice none 0 0)) 0 []:=⟨by simp,.inl ⟨rfl,rfl⟩⟩
def At (v:AVal) (b:Nat):Prop:=∃ k off len,v = .sl k b off len
theorem Own.keep {k n:Nat} {h h':Za} {v:AVal} {cs:List AVal} (O:Own k h v n cs) (K:∀ b,At v b→h'[b]? = h[b]?):Own k h' v n cs:=by
 obtain ⟨h1,⟨rfl,rfl⟩ | ⟨b,rfl,H⟩⟩:=O
 ·exact ⟨h1,.inl ⟨rfl,rfl⟩⟩
 ·refine ⟨h1,.inr ⟨b,rfl,?_⟩⟩
  have:=ZbV H
  unfold Zb
  rw[K b ⟨_,_,_,rfl⟩,this]
theorem ZvN {k w:Nat} {h:Za} {v x:AVal} {n m:Nat} {cs ns:List AVal} (O:Own k h v n cs) (h1:srcLen x = some m) (h2:Zcs h k x m = some ns) (hns:ns.length = m * k) (h3:(n + m) * w≤140737488355328) (h4:ns.all (·.one) = true):
  ∃ v' h',ZbY k w h v x = some (v',h')∧Own k h' v' (n + m) (cs++ns)∧h.length≤h'.length∧h'.length≤h.length + 1∧(∀ b,At v' b→b = h.length)∧∀ c,c < h.length→¬At v c→h'[c]? = h[c]?:=by
 obtain ⟨hl,⟨rfl,rfl⟩ | ⟨b,rfl,H⟩⟩:=O
 ·have:cs = []:=List.length_eq_zero_iff.1 (by omega)
  subst this
  unfold ZbY
  rw[h1,Option.bind_some,h2,Option.bind_some]
  simp only
  rw[Z8 (by rw[Nat.zero_add] at h3;exact h3)]
  simp only[Option.bind_some]
  by_cases hm:m = 0
  ·subst hm
   have:ns = []:=List.length_eq_zero_iff.1 (by omega)
   subst this
   rw[if_pos rfl]
   refine ⟨_,_,rfl,Own.nil _ _,Nat.le_refl _,by omega,fun b hb=>?_,fun _ _ _=>rfl⟩
   obtain ⟨_,_,_,hb⟩:=hb;cases hb
  ·rw[if_neg hm]
   refine ⟨_,_,rfl,⟨by simpa using hns,.inr ⟨_,by rw[Nat.zero_add],by simp[Zb]⟩⟩,by simp,by simp,fun b hb=>?_,fun c hc _=>List.getElem?_append_left hc⟩
   obtain ⟨_,_,_,hb⟩:=hb;cases hb;rfl
 ·unfold ZbY
  rw[h1,Option.bind_some,h2,Option.bind_some]
  simp only
  rw[H,Option.bind_some,Z8 ⟨by first |trivial |rfl,by omega,h3,h4⟩]
  simp only[Option.bind_some]
  refine ⟨_,_,rfl,⟨by simp[hl,hns,Nat.add_mul],.inr ⟨_,rfl,?_⟩⟩,by simp,by simp,fun c hb=>?_,fun c hc hn=>?_⟩
  ·have e:(cs.drop 0).take (n * k) = cs:=by rw[List.drop_zero,←hl,List.take_length]
   rw[e]
   simp[Zb]
  ·obtain ⟨_,_,_,hb⟩:=hb;cases hb;rfl
  ·rw[List.getElem?_append_left (by simpa using hc)]
   exact List.getElem?_set_ne fun e=>hn ⟨_,_,_,by rw[e]⟩
theorem Z4d {k:Nat} {zs xs:List AVal} (hz:zs.length = k) (h:xs.length = k) (hk:k≤16777216):Zkg k zs 1 [(0,.agg xs)] = some xs:=by
 unfold Zkg
 rw[Z8 (by omega)]
 simp only[Option.bind_some,Zcp,AVal.parts,List.replicate_one,List.flatten_cons,List.flatten_nil,List.append_nil,Nat.zero_mul,Nat.zero_add]
 rw[if_pos ⟨h,by omega⟩]
 simp[Zbr,h,hz]
theorem Z1v {k w n:Nat} {h:Za} {v:AVal} {cs xs:List AVal} (O:Own k h v n cs) (hx:xs.length = k) (h1:xs.all (·.one) = true) (hw:(n + 1) * w≤140737488355328):
  ∃ v' h',ZbY k w (apd h [.cells xs]) v (.sl k h.length 0 1) = some (v',h')∧Own k h' v' (n + 1) (cs++xs)∧h.length≤h'.length∧h'.length≤h.length + 2∧(∀ b,At v' b→h.length≤b)∧∀ c,c < h.length→¬At v c→h'[c]? = h[c]?:=by
 have hid:∀ b,At v b→b < h.length:=by
  intro b hb
  obtain ⟨_,⟨rfl,_⟩ | ⟨c,rfl,H⟩⟩:=O
  ·obtain ⟨_,_,_,hb⟩:=hb;cases hb
  ·obtain ⟨_,_,_,hb⟩:=hb;cases hb;exact ZB H
 have O':Own k (apd h [.cells xs]) v n cs:=O.keep fun b hb=>by simp only[apd];exact List.getElem?_append_left (hid b hb)
 have hc:(apd h [AObj.cells xs])[h.length]? = some (.cells xs):=by simp[apd]
 obtain ⟨v',h',a1,a2,a3,a4,a5,a6⟩:=ZvN (w:=w) (x:=.sl k h.length 0 1) (m:=1) (ns:=xs) O' rfl (by
  unfold Zcs
  simp only[hc]
  rw[if_pos ⟨by first |trivial |rfl,Nat.le_refl _,by omega⟩]
  simp[←hx]) (by omega) hw h1
 refine ⟨v',h',a1,a2,?_,?_,fun b hb=>?_,fun c hc hn=>?_⟩
 ·simp[apd] at a3;omega
 ·simp[apd] at a4;omega
 ·rw[a5 b hb];simp[apd]
 ·rw[a6 c (by simp[apd];omega) hn]
  simp only[apd];exact List.getElem?_append_left hc
theorem At.own {k n:Nat} {h:Za} {v:AVal} {cs:List AVal} (O:Own k h v n cs) {b:Nat} (hb:At v b):b < h.length:=by
 obtain ⟨_,⟨rfl,_⟩ | ⟨c,rfl,H⟩⟩:=O
 ·obtain ⟨_,_,_,hb⟩:=hb;cases hb
 ·obtain ⟨_,_,_,hb⟩:=hb;cases hb;exact ZB H
theorem Sl.cut {k n lo hi:Nat} {h:Za} {v:AVal} {cs:List AVal} (S:Sl k h v n cs) (h1:lo≤hi) (h2:hi≤n):
  ∃ v',ZcQ k v (some (lo:Int)) (some (hi:Int)) none = some v'∧Sl k h v' (hi - lo) ((cs.drop (lo * k)).take ((hi - lo) * k)):=by
 have e1:hi * k≤n * k:=Nat.mul_le_mul_right k h2
 have e2:lo * k≤hi * k:=Nat.mul_le_mul_right k h1
 have e3:(hi - lo) * k = hi * k - lo * k:=Nat.sub_mul _ _ _
 have e4:((hi:Int) - (lo:Int)).toNat = hi - lo:=by omega
 have e5:(lo:Int).toNat = lo:=by omega
 have hs:=S.2
 have hl:=S.1
 have hlen:((cs.drop (lo * k)).take ((hi - lo) * k)).length = (hi - lo) * k:=by simp;omega
 split at hs
 ·rename_i k' b off len
  obtain ⟨rfl,rfl,all,H,h3,h4⟩:=hs
  refine ⟨.sl k' b (off + lo * k') (hi - lo),?_,hlen,rfl,rfl,all,H,by omega,?_⟩
  ·unfold ZcQ
   simp only[Nat.beq_refl,Option.getD_some]
   rw[Z8 ⟨by omega,by omega,by omega,fun m hm=>by cases hm⟩]
   simp only[Option.bind_some,e4,e5]
  ·rw[←h4,List.drop_take,List.take_take,List.drop_drop,Nat.min_eq_left (by omega)]
 ·rename_i all len
  obtain ⟨rfl,h3,h4⟩:=hs
  refine ⟨.ros (all.drop (lo * k)) (hi - lo),?_,hlen,rfl,by simp;omega,?_⟩
  ·unfold ZcQ
   simp only[Option.getD_some]
   rw[Z8 ⟨by omega,by omega,by omega,fun m hm=>by cases hm⟩]
   simp only[Option.bind_some,e4,e5]
  ·rw[←h4,List.drop_take,List.take_take,Nat.min_eq_left (by omega)]
 ·subst hs
  have:hi = 0:=by omega
  subst this
  have:lo = 0:=by omega
  subst this
  refine ⟨.lit (.slice none 0 0),?_,hlen,rfl⟩
  unfold ZcQ
  simp only[Option.getD_some]
  rw[Z8 ⟨by rfl,by rfl,by rfl⟩];rfl
 ·exact hs.elim
def ZX (l:List ByteArray):List AVal:=l.map fun s=>.lit (.string s)
def Zia (l:List Int):List AVal:=l.map fun n=>.lit (.int .i64 n)
theorem Z01 {α H:Type} {e:Sh} {k:Nat} {cells:α→List AVal} {Q:α→Prop} (hk:∀ a,(cells a).length = k) (he:∀ x:DataW H,ZcT e x→∃ a,Zb0 x = cells a∧Q a) {d:DataW H} (hd:ZcT (.slice e) d) (h:Za):
  ∃ l:List α,Sl k h ((Zb0 d).headD .any) l.length (l.flatMap cells)∧(∀ a∈l,Q a)∧l.length≤maxLen:=by
 simp only[ZcT] at hd
 rcases hd with rfl | ⟨es,sp,rfl,hl,hall⟩
 ·refine ⟨[],Sl.nil _ _,?_,?_⟩
  ·intro a ha;cases ha
  ·exact Nat.zero_le _
 ·have key:∀ es:List (DataW H),(∀ x∈es,ZcT e x)→∃ l:List α,l.length = es.length∧ZbK es = l.flatMap cells∧∀ a∈l,Q a:=by
   intro es
   induction es with
   |nil=>intro _;exact ⟨[],rfl,rfl,fun a ha=>by cases ha⟩
   |cons x es ih=>
    intro hx
    obtain ⟨a,h1,h2⟩:=he x (hx x (by simp))
    obtain ⟨l,h3,h4,h5⟩:=ih fun y hy=>hx y (by simp[hy])
    refine ⟨a :: l,by simp[h3],by simp[ZbK,h1,h4],fun b hb=>?_⟩
    rcases List.mem_cons.1 hb with rfl |hb
    ·exact h2
    ·exact h5 b hb
  obtain ⟨l,h1,h2,h3⟩:=key es hall
  have hlen:(l.flatMap cells).length = l.length * k:=by
   clear h1 h2 h3
   induction l with
   |nil=>simp
   |cons a l ih=>simp[hk,ih,Nat.add_mul,Nat.add_comm]
  refine ⟨l,?_,h3,by omega⟩
  simp only[Zb0,List.headD_cons]
  rw[h2,←h1]
  exact ⟨hlen,rfl,by omega,by rw[←hlen,List.take_length]⟩
theorem Z3i {H:Type} {d:DataW H} (hd:ZcT (.slice .str) d) (h:Za):∃ l:List ByteArray,Sl 1 h ((Zb0 d).headD .any) l.length (ZX l):=by
 obtain ⟨l,h1,_,_⟩:=Z01 (α:=ByteArray) (k:=1) (cells:=fun s=>[.lit (.string s)]) (Q:=fun _=>True) (fun _=>rfl) (fun x hx=>by
  simp only[ZcT] at hx
  obtain ⟨l,rfl,_⟩:=hx
  exact ⟨⟨l.toArray⟩,rfl,trivial⟩) hd h
 refine ⟨l,?_⟩
 have:(l.flatMap fun s=>[AVal.lit (.string s)]) = ZX l:=by simp[ZX,List.map_eq_flatMap]
 rwa [this] at h1
theorem Sl.everywhere {k n:Nat} {v:AVal} {cs:List AVal} (S:Sl k [] v n cs) (g:Za):Sl k g v n cs:=S.keep (X:=[]) ⟨by simp,fun c hc=>by simp at hc⟩ (fun _ _ _ _=>by simp)
end Go.Proofs.YtogaiomakhapmaaGreat.AL
namespace Go.Proofs.YtogaiomakhapmaaGreat.AL
set_option maxRecDepth 100000
open Go
abbrev Grow (h h':Za):Prop:=Keep h.length [] h h'
theorem Grow.refl (h:Za):Grow h h:=Keep.refl _ _ _
theorem Grow.trans {h h' h'':Za} (a:Grow h h') (b:Grow h' h''):Grow h h'':=Keep.trans a (b.less a.len (fun c hc=>by cases hc))
theorem Grow.psh {h g:Za} (a:Grow h g) (o:AObj):Grow h (psh g o):=Keep.trans a (Keep.psh o a.len)
theorem Grow.set {h g:Za} (a:Grow h g) {b:Nat} {o:AObj} (hb:h.length≤b):Grow h (g.set b o):=Keep.trans a (Keep.set (.inl hb))
theorem Grow.get {h g:Za} (a:Grow h g) {b:Nat} {o:AObj} (hb:h[b]? = some o):g[b]? = some o:=(Keep.get a b (ZE hb) (fun h=>by cases h)).trans hb
theorem Grow.cells {h g:Za} (a:Grow h g) {b:Nat} {cs:List AVal} (hb:Zb h b = some cs):Zb g b = some cs:=Keep.cells a (ZB hb) (fun h=>by cases h) hb
theorem Sl.grow {k n:Nat} {h h':Za} {v:AVal} {cs:List AVal} (S:Sl k h v n cs) (a:Grow h h'):Sl k h' v n cs:=S.keep a (fun _ _ _ _ h=>by cases h)
theorem Own.grow {k n:Nat} {h h':Za} {v:AVal} {cs:List AVal} (O:Own k h v n cs) (a:Grow h h'):Own k h' v n cs:=O.keep fun b hb=>Keep.get a b (At.own O hb) (fun h=>by cases h)
theorem Zm8 {α:Type} {cells:α→List AVal} {k:Nat} (hk:∀ a,(cells a).length = k):∀ (l:List α) (i:Nat) (hi:i < l.length),((l.flatMap cells).drop (i * k)).take k = cells l[i]
 |a :: l,0,_=>by
  rw[Nat.zero_mul,List.drop_zero,List.flatMap_cons,List.take_append_of_le_length (by rw[hk];exact Nat.le_refl _),List.take_of_length_le (by rw[hk];exact Nat.le_refl _)];rfl
 |a :: l,i + 1,hi=>by
  rw[List.flatMap_cons,List.drop_append,List.drop_of_length_le (by rw[hk,Nat.add_mul];omega),List.nil_append,hk,show (i + 1) * k - k = i * k by rw[Nat.add_mul];omega]
  exact Zm8 hk l i (by simpa using hi)
theorem Zvc {α:Type} {cells:α→List AVal} {k:Nat} (hk:∀ a,(cells a).length = k) (l:List α) (i:Nat) (hi:i < l.length) {o:Nat} (ho:o < k):(l.flatMap cells)[i * k + o]? = (cells l[i])[o]?:=by
 rw[←Zm8 hk l i hi,List.getElem?_take_of_lt ho,List.getElem?_drop]
theorem Z3h {α:Type} {cells:α→List AVal} {k:Nat} (hk:∀ a,(cells a).length = k) (l:List α):(l.flatMap cells).length = l.length * k:=by
 induction l with
 |nil=>simp
 |cons a l ih=>rw[List.flatMap_cons,List.length_append,hk,ih,List.length_cons,Nat.add_mul,Nat.one_mul,Nat.add_comm]
theorem Sl.pre {k n hi:Nat} {h:Za} {v:AVal} {cs:List AVal} (S:Sl k h v n cs) (h2:hi≤n):∃ v',ZcQ k v none (some (hi:Int)) none = some v'∧Sl k h v' hi (cs.take (hi * k)):=by
 obtain ⟨v',e1,e2⟩:=S.cut (lo:=0) (hi:=hi) (Nat.zero_le _) h2
 refine ⟨v',?_,by simpa using e2⟩
 rw[←e1];rfl
end Go.Proofs.YtogaiomakhapmaaGreat.AL
namespace Go.Proofs.YtogaiomakhapmaaGreat.AL
set_option maxRecDepth 100000
open Go
def Cel (h h':Za):Prop:=h.length≤h'.length∧∀ c cs,Zb h c = some cs→Zb h' c = some cs
theorem Cel.refl (h:Za):Cel h h:=⟨Nat.le_refl _,fun _ _ h=>h⟩
theorem Cel.trans {h h' h'':Za} (a:Cel h h') (b:Cel h' h''):Cel h h'':=⟨Nat.le_trans a.1 b.1,fun c cs hc=>b.2 c cs (a.2 c cs hc)⟩
theorem Cel.psh (h:Za) (o:AObj):Cel h (psh h o):=⟨by rw[Zbm];omega,fun c cs hc=>Zgg o hc⟩
theorem Cel.of {h h':Za} (a:Grow h h'):Cel h h':=⟨a.len,fun c cs hc=>a.cells hc⟩
theorem Sl.cel {k n:Nat} {h h':Za} {v:AVal} {cs:List AVal} (S:Sl k h v n cs) (a:Cel h h'):Sl k h' v n cs:=by
 refine ⟨S.1,?_⟩
 have h2:=S.2
 split at h2
 ·obtain ⟨rfl,rfl,all,H,h3,h4⟩:=h2
  exact ⟨rfl,rfl,all,a.2 _ _ H,h3,h4⟩
 ·exact h2
 ·exact h2
 ·exact h2.elim
inductive BldN (n:Nat) (h:Za) (b:Nat):List UInt8→Prop
 |fresh (hb:h[b]? = some (.bld 121 none 0)) (hn:n≤b):BldN n h b []
 |held (k:Nat) (bs:List UInt8) (hb:h[b]? = some (.bld 121 (some k) bs.length)) (hk:h[k]? = some (.buf 5 bs)) (h0:bs≠[]) (hn:n≤b) (hnk:n≤k):BldN n h b bs
theorem BldN.new {n:Nat} {h:Za} (hn:n≤h.length):BldN n (psh h (.bld 121 none 0)) h.length []:=.fresh (by simp[psh]) hn
theorem BldN.psh {n:Nat} {h:Za} {b:Nat} {l:List UInt8} (B:BldN n h b l) (o:AObj):BldN n (psh h o) b l:=by
 have ex:∀ {c:Nat} {x:AObj},h[c]? = some x→(h++[o])[c]? = some x:=fun hc=>by rw[List.getElem?_append_left (ZE hc)];exact hc
 cases B with
 |fresh hb hn=>exact .fresh (ex hb) hn
 |held k _ hb hk h0 hn hnk=>exact .held k l (ex hb) (ex hk) h0 hn hnk
theorem BldN.write {n:Nat} {h:Za} {b:Nat} {l:List UInt8} (B:BldN n h b l) {s:ByteArray} (h0:s.size≠0) (hs:l.length + s.size≤140737488355328):
  ∃ h',Zf7 h (.ptr b 0) s = some (Zem s,h')∧BldN n h' b (l++s.data.toList)∧Cel h h'∧Keep n [] h h':=by
 have hsl:s.data.toList.length = s.size:=Array.length_toList
 have hs0:s.data.toList≠[]:=fun e=>by rw[e] at hsl;simp at hsl;exact h0 hsl.symm
 cases B with
 |fresh hb hn=>
  have hbl:=ZE hb
  refine ⟨(h.set b (.bld 121 (some h.length) s.size))++[.buf 5 s.data.toList],?_,.held h.length _ ?_ ?_ (by simpa using hs0) hn (by omega),⟨by simp,fun c cs hc=>?_⟩,⟨by simp,fun c hc _=>?_⟩⟩
  ·unfold Zf7
   simp only[hb]
   rw[Z8 (⟨trivial,h0,by simpa using hs⟩:True∧s.size≠0∧0 + s.size≤140737488355328),Z8 trivial]
   rfl
  ·rw[List.getElem?_append_left (by simpa using hbl),List.getElem?_set_self hbl];simp[hsl]
  ·rw[List.getElem?_append_right (by simp)];simp
  ·have hcb:b≠c:=fun e=>by subst e;have:=ZbV hc;rw[hb] at this;cases this
   exact ZdF _ (Zdt _ hcb hc)
  ·rw[List.getElem?_append_left (by simp;omega),List.getElem?_set_ne (by omega)]
 |held k _ hb hk hl0 hn hnk=>
  have hbl:=ZE hb
  have hkb:k≠b:=fun e=>by rw[e,hb] at hk;cases hk
  refine ⟨((h.set k .dead).set b (.bld 121 (some h.length) (l.length + s.size)))++[.buf 5 (l++s.data.toList)],?_,.held h.length _ ?_ ?_ (by simp[hl0]) hn (by omega),⟨by simp,fun c cs hc=>?_⟩,⟨by simp,fun c hc _=>?_⟩⟩
  ·unfold Zf7
   simp only[hb]
   rw[Z8 (⟨trivial,h0,hs⟩:True∧s.size≠0∧l.length + s.size≤140737488355328)]
   simp only[Option.bind_some,hk]
   rw[Z8 (⟨trivial,trivial⟩:True∧True)]
   rfl
  ·rw[List.getElem?_append_left (by simpa using hbl),List.getElem?_set_self (by simpa using hbl)];simp[hsl]
  ·rw[List.getElem?_append_right (by simp)];simp
  ·have hcb:b≠c:=fun e=>by subst e;have:=ZbV hc;rw[hb] at this;cases this
   have hck:k≠c:=fun e=>by subst e;have:=ZbV hc;rw[hk] at this;cases this
   exact ZdF _ (Zdt _ hcb (Zdt _ hck hc))
  ·rw[List.getElem?_append_left (by simp;omega),List.getElem?_set_ne (by omega),List.getElem?_set_ne (by omega)]
theorem BldN.string {n:Nat} {h:Za} {b:Nat} {l:List UInt8} (B:BldN n h b l):∃ h',Zec h (.ptr b 0) = some (.lit (.string ⟨l.toArray⟩),h')∧Cel h h'∧Keep n [] h h':=by
 cases B with
 |fresh hb hn=>
  refine ⟨h,?_,.refl h,Keep.refl _ _ _⟩
  unfold Zec
  simp only[hb]
  rfl
 |held k _ hb hk hl0 hn hnk=>
  refine ⟨h.set k .dead,?_,⟨by simp,fun c cs hc=>?_⟩,⟨by simp,fun c hc _=>List.getElem?_set_ne (by omega)⟩⟩
  ·unfold Zec
   simp only[hb]
   rw[Z8 trivial]
   simp only[Option.bind_some,hk]
   rw[Z8 (⟨trivial,trivial,hl0⟩:True∧True∧l≠[])]
   rfl
  ·have hck:k≠c:=fun e=>by subst e;have:=ZbV hc;rw[hk] at this;cases this
   exact Zdt _ hck hc
end Go.Proofs.YtogaiomakhapmaaGreat.AL
namespace Go.Proofs.YtogaiomakhapmaaGreat.AL
set_option maxRecDepth 100000
open Go
theorem Z2Q {h h':Za} (G:Grow h h'):h' = h++h'.drop h.length:=by
 apply List.ext_getElem?
 intro i
 rcases Nat.lt_or_ge i h.length with hi |hi
 ·rw[List.getElem?_append_left hi];exact Keep.get G i hi (fun h=>by cases h)
 ·rw[List.getElem?_append_right hi,List.getElem?_drop];congr 1;omega
theorem Zdr {h h':Za} {v:AVal} (G:Grow h h') (hc:v.closed = true) (hok:HOk h) (_:h.length≤h'.length):ABody.AEnds h h' (.ret v) fun e g=>e = .ret v∧g = h:=by
 rw[Z2Q G]
 exact ZqL (L:=h'.drop h.length) hok hc ⟨rfl,rfl⟩
noncomputable def ZM (x:Option (AVal×Za)) (h:Za):Option AVal:=x.bind fun r=>(ZcV (Grow h r.2∧r.1.closed = true)).bind fun _=>some r.1
theorem Zdq {x:Option (AVal×Za)} {h:Za} {v:AVal} (hx:ZM x h = some v):∃ h',x = some (v,h')∧Grow h h'∧v.closed = true:=by
 unfold ZM at hx
 obtain ⟨r,h1,hx⟩:=Option.bind_eq_some_iff.1 hx
 obtain ⟨u,h2,hx⟩:=Option.bind_eq_some_iff.1 hx
 cases hx
 obtain ⟨h3,h4⟩:=Zme h2
 exact ⟨r.2,h1,h3,h4⟩
theorem Zdj {x:Option (AVal×Za)} {h h':Za} {v:AVal} (hx:x = some (v,h')) (G:Grow h h') (hc:v.closed = true):ZM x h = some v:=by
 unfold ZM
 rw[hx,Option.bind_some,Zev ⟨G,hc⟩];rfl
end Go.Proofs.YtogaiomakhapmaaGreat.AL
namespace Go.Proofs.YtogaiomakhapmaaGreat.AL
open Go Go.RowKit Go.Proofs
variable {ρ:Env} {h:Za} {w w':World}
def Zih (h:Za) (p:AVal) (n:Int):Option Za:=match p with
 | .ptr b 0=>match h[b]? with
   |some (.bld T none m)=>(req (T = 121∧m = 0∧0≤n∧n≤140737488355328)).bind fun _=>cond (decide (n = 0)) (some h) (some ((h.set b (.bld 121 (some h.length) 0))++[.buf 5 []]))
   |_=>none
 |_=>none
def ZAb (ρ:Env) (h:Za) (n:Nat) (v:Value):Option Nat→Prop
 |none=>v = .slice none 0 0∧n = 0
 |some k=>k < h.length∧v = .slice (some ⟨(ρ k).blk,0,none⟩) n (ρ k).size
theorem Z4j (hR:Rel ρ h w) {b:Nat} {T:TypeId} {k:Option Nat} {n:Nat} (hb:h[b]? = some (.bld T k n)) (hs:Same w w') (hz:w.heap.size≤w'.heap.size) (ho:∀ c,c < w.heap.size→c≠(ρ b).blk→w'.heap[c]? = w.heap[c]?)
  (hn:∃ p v,w'.heap[(ρ b).blk]? = some (.cells #[p,v] T (0,0))∧(p = .pointer none∨p = .pointer (some ⟨(ρ b).blk,0,none⟩))∧ZAb ρ h n v k):Evo ρ h w ρ h w'∧Rel ρ h w':=by
 have hbd:AObj.bld T k n≠ .dead:=by simp
 have hblt:=hR.blk_lt hb hbd
 obtain ⟨hbase,p0,v0,h0,_⟩:=hR.obj b _ hb
 have e:Evo ρ h w ρ h w':=⟨Nat.le_refl _,fun _ _=>rfl,hz,hs,fun c hc hno=>⟨ho c hc (fun e=>hno ⟨b,_,hb,hbd,e.symm⟩),hno⟩,fun l r hr=>by
  by_cases e:l = (ρ b).blk
  ·rw[e,h0] at hr;cases hr
  ·exact ⟨r,(ho l (Zb9 hr) e).trans hr⟩⟩
 refine ⟨e,hR.glob.evo e,fun c o hc=>?_,hR.inj⟩
 by_cases hcb:c = b
 ·subst hcb
  rw[hb] at hc;cases hc
  obtain ⟨p,v,a1,a2,a3⟩:=hn
  refine ⟨hbase,p,v,a1,a2,?_⟩
  cases k with
  |none=>exact a3
  |some k=>exact a3
 ·by_cases hd:o = .dead
  ·subst hd;trivial
  ·exact (hR.obj c o hc).evo e fun hd'=>ho _ (hR.blk_lt hc hd) (fun e=>hcb (hR.inj _ _ _ _ hc hb hd hbd e))
theorem Z4k {p:AVal} {n:Int} {g:Za} (hx:Zih h p n = some g):ACalls Tryz.prog 144 [p,.lit (.int .i64 n)] h fun e g'=>e = .ret (.tup [])∧g' = g:=by
 unfold Zih at hx
 split at hx
 rotate_left
 ·cases hx
 rename_i b
 split at hx
 rotate_left
 ·cases hx
 rename_i T m hb
 obtain ⟨_,hT,hx2⟩:=Option.bind_eq_some_iff.1 hx
 clear hx
 obtain ⟨rfl,rfl,h0,h1⟩:=ZY hT
 obtain ⟨m,rfl⟩:=Int.eq_ofNat_of_zero_le h0
 intro ρ w us hR hv
 obtain ⟨hl,hv⟩:=hv
 obtain ⟨us⟩:=us
 match us,hl with
 | [u0,u1],_=>
 have hv0:=hv 0 (by simp)
 have hv1:=hv 1 (by simp)
 simp only[List.getElem_cons_zero,List.getElem_cons_succ] at hv0 hv1
 obtain ⟨hbase,p0,v0,hh,hp0,rfl,_⟩:=hR.obj b _ hb
 have e0:u0 = .pointer (some ⟨(ρ b).blk,0,none⟩):=by
  generalize hq:((#[u0,u1]:Array Value).getD 0 undef) = q at hv0
  have:q = u0:=by rw[←hq];rfl
  subst this
  cases hv0 with
  |ptr=>rw[hbase]
 have e1:u1 = .int .i64 (m:Int):=by
  generalize hq:((#[u0,u1]:Array Value).getD 1 undef) = q at hv1
  have:q = u1:=by rw[←hq];rfl
  subst this
  cases hv1;rfl
 subst e0 e1
 have hbd:AObj.bld 121 none 0≠ .dead:=by simp
 have hblt:=hR.blk_lt hb hbd
 have ret:∀ (ρ':Env) (h':Za) (w':World),EndR ρ' h' w' (.ret (.tup [])) (.returned (.tuple #[])):=fun ρ' h' w'=>.ret _ _ (.tup _ _ rfl fun i hi=>by simp at hi)
 refine (Z3c (ρ b).blk m p0 w hh hp0 (by omega)).mono ?_
 rintro e w' ⟨rfl,hs,ho,how⟩
 rcases how with ⟨rfl,hbk,hz⟩ | ⟨hm,cs,hbk,hrow,hmax,hz⟩
 ·rw[decide_eq_true (by rfl)] at hx2
  cases hx2
  obtain ⟨ev,R'⟩:=Z4j hR hb hs (by omega) ho ⟨_,_,hbk,.inr rfl,rfl,rfl⟩
  exact ⟨ρ,h,_,ev,R',ret _ _ _,rfl,rfl⟩
 ·rw[decide_eq_false (by omega)] at hx2
  cases hx2
  have hbuf:Zlp w' 5 [] ⟨w.heap.size,0,cs.size,1⟩:=⟨rfl,cs,(0,0),hrow,rfl,Nat.le_refl _,Nat.zero_le _,hmax,by simp⟩
  obtain ⟨ev,R'⟩:=Zrf (T:=121) (U:=5) (k:=none) (n':=0) (bs:=[]) (g:=w.heap.size) (cap:=cs.size) (p:=.pointer (some ⟨(ρ b).blk,0,none⟩)) (v:=.slice (some ⟨w.heap.size,0,none⟩) 0 cs.size) hR hb (fun k' hk'=>by cases hk') ⟨hs,by omega,fun k hk hkb _=>ho k hk hkb⟩ (.inr (Nat.le_refl _)) hbase hbk (.inr rfl) rfl hbuf
  refine ⟨_,_,_,ev,R',ret _ _ _,rfl,?_⟩
  simp[Zdo]
def Zgj (h:Za) (p:AVal) (s:ByteArray):Option (AVal×Za):=match p with
 | .ptr b 0=>match h[b]? with
   |some (.bld T k n)=>(req (T = 121∧n + s.size≤140737488355328)).bind fun _=>match k with
    |none=>(req (n = 0∧s.size≠0)).bind fun _=>some (Zem s,(h.set b (.bld 121 (some h.length) s.size))++[.buf 5 s.data.toList])
    |some k=>match h[k]? with
     |some (.buf U bs)=>(req (U = 5∧bs.length = n)).bind fun _=>some (Zem s,((h.set k .dead).set b (.bld 121 (some h.length) (n + s.size)))++[.buf 5 (bs++s.data.toList)])
     |_=>none
   |_=>none
 |_=>none
theorem Z4g {p:AVal} {s:ByteArray} {r:AVal×Za} (hx:Zgj h p s = some r):ACalls Tryz.prog 94 [p,.lit (.string s)] h fun e g=>e = .ret r.1∧g = r.2:=by
 unfold Zgj at hx
 split at hx
 rotate_left
 ·cases hx
 rename_i b
 split at hx
 rotate_left
 ·cases hx
 rename_i T k n hb
 obtain ⟨_,hT,hx1⟩:=Option.bind_eq_some_iff.1 hx
 clear hx
 obtain ⟨rfl,hsz⟩:=ZY hT
 cases k with
 |none=>
  obtain ⟨_,hq,hx2⟩:=Option.bind_eq_some_iff.1 hx1
  obtain ⟨rfl,h0⟩:=ZY hq
  cases hx2
  refine Z4h (r:=(Zem s,(h.set b (.bld 121 (some h.length) s.size))++[.buf 5 s.data.toList])) ?_
  unfold Zf7
  simp only[hb]
  rw[Z8 (⟨trivial,h0,hsz⟩:True∧s.size≠0∧0 + s.size≤140737488355328),Z8 trivial]
  rfl
 |some k=>
  simp only at hx1
  split at hx1
  rotate_left
  ·cases hx1
  rename_i U bs hk
  obtain ⟨_,hq,hx2⟩:=Option.bind_eq_some_iff.1 hx1
  obtain ⟨rfl,hn⟩:=ZY hq
  cases hx2
  intro ρ w us hR hv
  obtain ⟨hl,hv⟩:=hv
  obtain ⟨us⟩:=us
  match us,hl with
  | [u0,u1],_=>
  have hv0:=hv 0 (by simp)
  have hv1:=hv 1 (by simp)
  simp only[List.getElem_cons_zero,List.getElem_cons_succ] at hv0 hv1
  obtain ⟨hbase,p0,v0,hh,hp0,hkl,rfl⟩:=hR.obj b _ hb
  have e0:u0 = .pointer (some ⟨(ρ b).blk,0,none⟩):=by
   generalize hq:((#[u0,u1]:Array Value).getD 0 undef) = q at hv0
   have:q = u0:=by rw[←hq];rfl
   subst this
   cases hv0 with
   |ptr=>rw[hbase]
  have e1:u1 = .string s:=by
   generalize hq:((#[u0,u1]:Array Value).getD 1 undef) = q at hv1
   have:q = u1:=by rw[←hq];rfl
   subst this
   cases hv1;rfl
  subst e0 e1
  have hbd:AObj.bld 121 (some k) n≠ .dead:=by simp
  have ret:∀ (ρ':Env) (h':Za) (w':World),EndR ρ' h' w' (.ret (Zem s)) (.returned (.tuple #[.int .i64 s.size,.nilIface])):=fun ρ' h' w'=>
   .ret _ _ (.tup _ _ rfl fun i hi=>by
    match i,hi with
    | 0,_=>exact .lit _
    | 1,_=>exact .lit _)
  obtain ⟨kb,C,fz,c1,c2,c3,c4,c5,c6⟩:=hR.obj k _ hk
  have hkb:k≠b:=fun e=>by rw[e,hb] at hk;cases hk
  have hbl:(ZdH bs).length = n:=by simp[ZdH,hn]
  have hown:w.ownsRowF 0 5 1 (.slice (some ⟨(ρ k).blk,0,none⟩) n (ρ k).size) n (ZdH bs):=⟨by simp[ZdH,hn],.inr ⟨_,_,C,fz,rfl,Nat.zero_le _,c1,by omega,by omega,c5,by omega,by rw[Nat.mul_one,←hn];exact c6⟩⟩
  have hne:(Value.slice (some ⟨(ρ k).blk,0,none⟩) n (ρ k).size).ownBlock≠some (ρ b).blk:=by
   simp only[Value.ownBlock,ne_eq,Option.some.injEq]
   exact fun e=>hkb (hR.inj _ _ _ _ hk hb (by simp) hbd e)
  refine (ZsM (ρ b).blk p0 _ (ZdH bs) s w hh hp0 (by rw[hbl];exact hown) hne (by rw[hbl];exact hsz)).mono ?_
  rintro e w' ⟨rfl,v',a1,a2,a3,a4,a5⟩
  rw[hbl] at a2
  rcases a2.2 with ⟨hv',_⟩ | ⟨g,cap,cur,fz',hv',_,hg,hfz,hnc,hcm,hcs,htake⟩
  ·have:=(a4.1 hv').1;cases this
  ·have hgo:(∃ k',some k = some k'∧g = (ρ k').blk)∨w.heap.size≤g:=by
    rcases a3 g (by rw[hv'];rfl) with h |h
    ·exact .inl ⟨k,rfl,by simpa[Value.ownBlock] using h.symm⟩
    ·exact .inr h
   have hsl:s.data.toList.length = s.size:=Array.length_toList
   have hbuf:Zlp w' 5 (bs++s.data.toList) ⟨g,0,cap,1⟩:=by
    refine ⟨rfl,cur,fz',hg,by simpa using hcs,by simp[hn,hsl];omega,by simp[hn,hsl];omega,hcm,?_⟩
    rw[show (bs++s.data.toList).length = (n + s.size) * 1 by simp[hn,hsl],htake]
    simp[ZdH,Zt4]
   obtain ⟨ev,R'⟩:=Zrf (T:=121) (U:=5) (k:=some k) (n':=n + s.size) hR hb (fun k' hk'=>by cases hk';exact ⟨hkb,bs,hk⟩) a5 hgo hbase a1 (.inr rfl) hv' hbuf
   exact ⟨_,_,_,ev,R',ret _ _ _,rfl,by simp[Zdo]⟩
structure BldJ (n:Nat) (h:Za) (b:Nat) (l:List UInt8):Prop where
 hn:n≤b
 k:∃ k,h[b]? = some (.bld 121 (some k) l.length)∧h[k]? = some (.buf 5 l)∧n≤k
theorem BldJ.write {n:Nat} {b:Nat} {l:List UInt8} (B:BldJ n h b l) {s:ByteArray} (hs:l.length + s.size≤140737488355328):
  ∃ h',Zgj h (.ptr b 0) s = some (Zem s,h')∧BldJ n h' b (l++s.data.toList)∧Cel h h'∧Keep n [] h h':=by
 have hsl:s.data.toList.length = s.size:=Array.length_toList
 obtain ⟨hn,k,hb,hk,hnk⟩:=B
 have hbl:=ZE hb
 have hkb:k≠b:=fun e=>by rw[e,hb] at hk;cases hk
 refine ⟨((h.set k .dead).set b (.bld 121 (some h.length) (l.length + s.size)))++[.buf 5 (l++s.data.toList)],?_,⟨hn,h.length,?_,?_,by omega⟩,⟨by simp,fun c cs hc=>?_⟩,⟨by simp,fun c hc _=>?_⟩⟩
 ·unfold Zgj
  simp only[hb]
  rw[Z8 (⟨trivial,hs⟩:True∧l.length + s.size≤140737488355328)]
  simp only[Option.bind_some,hk]
  rw[Z8 (⟨trivial,trivial⟩:True∧True)]
  rfl
 ·rw[List.getElem?_append_left (by simpa using hbl),List.getElem?_set_self (by simpa using hbl)];simp[hsl]
 ·rw[List.getElem?_append_right (by simp)];simp
 ·have hcb:b≠c:=fun e=>by subst e;have:=ZbV hc;rw[hb] at this;cases this
  have hck:k≠c:=fun e=>by subst e;have:=ZbV hc;rw[hk] at this;cases this
  exact ZdF _ (Zdt _ hcb (Zdt _ hck hc))
 ·rw[List.getElem?_append_left (by simp;omega),List.getElem?_set_ne (by omega),List.getElem?_set_ne (by omega)]
theorem BldJ.grown {n:Nat} (hn:n≤h.length) {m:Int} (h0:0 < m) (h1:m≤140737488355328):∃ h',Zih (psh h (.bld 121 none 0)) (.ptr h.length 0) m = some h'∧BldJ n h' h.length []∧Cel h h'∧Keep n [] h h':=by
 have hb:(psh h (.bld 121 none 0))[h.length]? = some (.bld 121 none 0):=by simp[psh]
 refine ⟨((psh h (.bld 121 none 0)).set h.length (.bld 121 (some (psh h (.bld 121 none 0)).length) 0))++[.buf 5 []],?_,⟨hn,(psh h (.bld 121 none 0)).length,?_,?_,by rw[Zbm];omega⟩,⟨by simp[psh],fun c cs hc=>?_⟩,⟨by simp[psh],fun c hc _=>?_⟩⟩
 ·unfold Zih
  simp only[hb]
  rw[Z8 ⟨trivial,trivial,by omega,h1⟩,Option.bind_some,decide_eq_false (by omega)];rfl
 ·rw[List.getElem?_append_left (by simp[psh]),List.getElem?_set_self (by simp[psh])];rfl
 ·rw[List.getElem?_append_right (by simp)];simp
 ·have hcl:=ZB hc
  exact ZdF _ (Zdt _ (by omega) (Zgg _ hc))
 ·rw[List.getElem?_append_left (by simp[psh];omega),List.getElem?_set_ne (by omega)]
  simp only[psh];rw[List.getElem?_append_left (by omega)]
theorem BldJ.string {n:Nat} {b:Nat} {l:List UInt8} (B:BldJ n h b l) (hl:l≠[]):∃ h',Zec h (.ptr b 0) = some (.lit (.string ⟨l.toArray⟩),h')∧Keep n [] h h':=by
 obtain ⟨hn,k,hb,hk,hnk⟩:=B
 refine ⟨h.set k .dead,?_,⟨by simp,fun c hc _=>List.getElem?_set_ne (by omega)⟩⟩
 unfold Zec
 simp only[hb]
 rw[Z8 trivial]
 simp only[Option.bind_some,hk]
 rw[Z8 (⟨trivial,trivial,hl⟩:True∧True∧l≠[])]
 rfl
end Go.Proofs.YtogaiomakhapmaaGreat.AL
namespace Go.Proofs.YtogaiomakhapmaaGreat.AL
set_option maxRecDepth 100000
open Go
abbrev bs (l:List UInt8):ByteArray:=⟨l.toArray⟩
theorem ZbR (l:List UInt8):(bs l).size = l.length:=by show l.toArray.size = _;rw[List.size_toArray]
theorem Zv5 (s:ByteArray):bs s.data.toList = s:=by apply ByteArray.ext;exact Array.toArray_toList
theorem Zgh (a b:List UInt8):bs a++bs b = bs (a++b):=by apply ByteArray.ext;simp
theorem Z4f {k:Nat} {zs xs:List AVal} {h:Za} (hz:zs.length = k) (hx:xs.length = k) (hk:k≤16777216):ZbW k zs 1 [(0,.agg xs)] h = some (.sl k h.length 0 1,h++[.cells xs]):=by
 have:=Z4d hz hx hk
 unfold Zkg at this
 unfold ZbW
 rw[Z8 (by omega)] at this⊢
 simp only[Option.bind_some] at this⊢
 rw[this];rfl
theorem Zt5 {s:ByteArray} {i:Nat} (hi:i < s.size):ZgG s (i:Int) = some ((s.data.toList[i]'(by rw[show s.data.toList.length = s.size from Array.length_toList];exact hi)).toNat:Int):=by
 unfold ZgG
 rw[Z8 (by omega),Option.bind_some,Int.toNat_natCast]
 simp[ZmN,ByteArray.get!,getElem!_def,hi,Array.getElem?_eq_getElem]
end Go.Proofs.YtogaiomakhapmaaGreat.AL
namespace Go.Proofs.YtogaiomakhapmaaGreat.AL
set_option maxRecDepth 100000
open Go
open Go.Proofs.Tryz
noncomputable def ZoI:XC:=.l fun R args h K=>match args with
 | [p,.lit (.int .i64 n)]=>(Zih h p n).bind fun g=>K (.tup []) g
 |_=>none
theorem ZyZ:XC.Nat ZoI∧XC.Ok Tryz.prog 144 ZoI:=by
 refine ⟨fun R args h K=>?_,tc144,fun args h v h' hx=>?_⟩
 ·dsimp only;split<;>simp[Option.bind_assoc,mkP]
 ·dsimp only at hx;split at hx
  ·obtain ⟨g,hopt,hx⟩:=Option.bind_eq_some_iff.1 hx
   simp only[mkP,Option.some.injEq,Prod.mk.injEq] at hx
   obtain ⟨rfl,rfl⟩:=hx
   exact Z4k hopt
  ·cases hx
noncomputable def ZoG:XC:=.l fun R args h K=>match args with
 | [p,.lit (.string s)]=>(Zgj h p s).bind fun r=>K r.1 r.2
 |_=>none
theorem ZyX:XC.Nat ZoG∧XC.Ok Tryz.prog 94 ZoG:=by
 refine ⟨fun R args h K=>?_,tc94,fun args h v h' hx=>?_⟩
 ·dsimp only;split<;>simp[Option.bind_assoc,mkP]
 ·dsimp only at hx;split at hx
  ·obtain ⟨r,hopt,hx⟩:=Option.bind_eq_some_iff.1 hx
   simp only[mkP,Option.some.injEq,Prod.mk.injEq] at hx
   obtain ⟨rfl,rfl⟩:=hx
   exact (by obtain ⟨v,g⟩:=r;exact Z4g hopt)
  ·cases hx
noncomputable def ZoH:XC:=.l fun R args h K=>match args with
 | [p]=>(Zec h p).bind fun r=>K r.1 r.2
 |_=>none
theorem ZyY:XC.Nat ZoH∧XC.Ok Tryz.prog 97 ZoH:=by
 refine ⟨fun R args h K=>?_,tc97,fun args h v h' hx=>?_⟩
 ·dsimp only;split<;>simp[Option.bind_assoc,mkP]
 ·dsimp only at hx;split at hx
  ·obtain ⟨r,hopt,hx⟩:=Option.bind_eq_some_iff.1 hx
   simp only[mkP,Option.some.injEq,Prod.mk.injEq] at hx
   obtain ⟨rfl,rfl⟩:=hx
   exact (by obtain ⟨v,g⟩:=r;exact Z4i hopt)
  ·cases hx
noncomputable def ZbZ:XE:={ T:=Zn [(3,r3),(4,r4),(5,r5),(9,r9),(20,r20),(52,r52),(118,Zuj),(119,ZeR),(121,Zui)],C:=[(94,ZoG),(97,ZoH),(144,ZoI)],D:=[],Ms:=[(10,[0,1,5]),(11,[0,1,5]),(16,[0,1,5,7,39,40,41]),(18,[0,1,5]),(27,[8])],Ml:=[(12,[0,1,5,39,40,41]),(22,[1,8,63,64,65])],Mo:=[],n:=75}
theorem Estrings_Join_ok:XE.Ok ZbZ Tryz.prog:=⟨Zp (⟨Z0,⟨Z1,⟨ZdT,⟨Zz,⟨Z1i,⟨Zby,⟨Z1o,⟨Zft,⟨Z1n,trivial⟩⟩⟩⟩⟩⟩⟩⟩⟩),(⟨ZyX,⟨ZyY,⟨ZyZ,trivial⟩⟩⟩),Zq,trivial⟩
noncomputable def ZdG:Code:=ZP f136
noncomputable def ZkG (elems0:AVal) (sep1:ByteArray) (h:Za):Option (AVal×Za):=Zt ZbZ f136 [elems0,(.lit (.string sep1))] h
noncomputable def Z5H (elems0:AVal) (sep1:ByteArray) (n5:Int) (h:Za):Option (AVal×Za):=jn (Zl ZbZ (cb (ca (cb (ca (cb (cb (cb ZdG))))))) (AVal×Za) [(0,elems0),(1,(.lit (.string sep1))),(5,(.lit (.int .i64 n5)))] h (Zi ZbZ (cb (cb (cb (cb ZdG)))) (Zj ZbZ f136)))
noncomputable def Zwi (elems0:AVal) (sep1:ByteArray) (n5:Int) (h:Za):Option (AVal×Za):=jn (Zl ZbZ (cb (cb (cb (cb ZdG)))) (AVal×Za) [(0,elems0),(1,(.lit (.string sep1))),(5,(.lit (.int .i64 n5)))] h (Zj ZbZ f136))
noncomputable def Znj (elems0:AVal) (sep1:ByteArray) (n5:Int) (t39:AVal) (t40:Int) (t41:Int) (h:Za):Option (AVal×Za):=Zl ZbZ (.loop (ca (ca (cb (ca (cb (cb (cb (cb ZdG))))))))) (AVal×Za) [(0,elems0),(1,(.lit (.string sep1))),(5,(.lit (.int .i64 n5))),(39,t39),(40,(.lit (.int .i64 t40))),(41,(.lit (.int .i64 t41)))] h (ZW 1 (Zi ZbZ (cb (cb (cb (cb (cb ZdG))))) (Zj ZbZ f136)))
noncomputable def Zwg (elems0:AVal) (sep1:ByteArray) (n5:Int) (elem7:ByteArray) (t39:AVal) (t40:Int) (t41:Int) (h:Za):Option (AVal×Za):=jn (Zl ZbZ (cb (cb (ca (ca (cb (cb (ca (ca (cb (ca (cb (cb (cb (cb ZdG)))))))))))))) (AVal×Za) [(0,elems0),(1,(.lit (.string sep1))),(5,(.lit (.int .i64 n5))),(7,(.lit (.string elem7))),(39,t39),(40,(.lit (.int .i64 t40))),(41,(.lit (.int .i64 t41)))] h (ZW 2 (Zi ZbZ (cb (cb (cb (ca (ca (cb (ca (cb (cb (cb (cb ZdG))))))))))) (Zdp ZbZ (ca (ca (cb (ca (cb (cb (cb (cb ZdG)))))))) (ZW 1 (Zi ZbZ (cb (cb (cb (cb (cb ZdG))))) (Zj ZbZ f136)))))))
noncomputable def Zry (elems0:AVal) (sep1:ByteArray) (n5:Int) (h:Za):Option (AVal×Za):=jn (Zl ZbZ (cb (cb (cb (cb (cb ZdG))))) (AVal×Za) [(0,elems0),(1,(.lit (.string sep1))),(5,(.lit (.int .i64 n5)))] h (Zj ZbZ f136))
noncomputable def Zni (sep1:ByteArray) (b8:Nat) (t63:AVal) (t64:Int) (t65:Int) (h:Za):Option (AVal×Za):=Zl ZbZ (.loop (ca (ca (cb (ca (cb (cb (cb (cb (cb (cb (cb (cb ZdG))))))))))))) (AVal×Za) [(1,(.lit (.string sep1))),(8,(.ptr b8 0)),(63,t63),(64,(.lit (.int .i64 t64))),(65,(.lit (.int .i64 t65)))] h (ZW 3 (Zi ZbZ (cb (cb (cb (cb (cb (cb (cb (cb (cb ZdG))))))))) (Zj ZbZ f136)))
noncomputable def Zrx (b8:Nat) (h:Za):Option (AVal×Za):=jn (Zl ZbZ (cb (cb (cb (cb (cb (cb (cb (cb (cb ZdG))))))))) (AVal×Za) [(8,(.ptr b8 0))] h (Zj ZbZ f136))
theorem Z5B (elems0:AVal) (sep1:ByteArray) (h:Za):ZkG elems0 sep1 h =
 (Zbb elems0).bind fun n1=>
 bif (decide (n1 = 0)) then (some ((.lit (.string (⟨#[]⟩:ByteArray))),h))
 else (bif (decide (n1 = 1)) then ((Zbc 1 elems0 0).bind fun p2=>
 (ld1 h p2).bind fun x3=>
 (asS x3).bind fun s4=>
 some ((.lit (.string s4)),h))
 else (bif (decide ((sep1.size:Int) > 0)) then ((Zbb elems0).bind fun n6=>
 (req ((IntKind.wrap .i64 (n6 - 1))≠0)).bind fun u7=>
 bif (decide ((sep1.size:Int)≥(IntKind.wrap .i64 (Int.tdiv (9223372036854775807) ((IntKind.wrap .i64 (n6 - 1))))))) then (none)
 else (Z5H elems0 sep1 0 h))
 else (Zwi elems0 sep1 0 h))):=by kernel_rfl
theorem Z5G (elems0:AVal) (sep1:ByteArray) (n5:Int) (h:Za):Zwi elems0 sep1 n5 h =
 (Zbb elems0).bind fun n9=>
 Znj elems0 sep1 n5 elems0 n9 0 h:=(ZF _).trans (by kernel_rfl)
theorem Zwh (elems0:AVal) (sep1:ByteArray) (n5:Int) (t39:AVal) (t40:Int) (t41:Int) (h:Za):Znj elems0 sep1 n5 t39 t40 t41 h =
 bif (decide (t41 < t40)) then ((Zbc 1 t39 t41).bind fun p10=>
 (ld1 h p10).bind fun x11=>
 (asS x11).bind fun s12=>
 bif (decide ((s12.size:Int) > (IntKind.wrap .i64 (9223372036854775807 - n5)))) then (none)
 else (Zwg elems0 sep1 n5 s12 t39 t40 t41 h))
 else (Zry elems0 sep1 n5 h):=(ZbO ZbZ Estrings_Join_ok.C.nat _ _ _ _ _).trans (by kernel_rfl)
theorem Z5F (elems0:AVal) (sep1:ByteArray) (n5:Int) (elem7:ByteArray) (t39:AVal) (t40:Int) (t41:Int) (h:Za):Zwg elems0 sep1 n5 elem7 t39 t40 t41 h =
 Znj elems0 sep1 (IntKind.wrap .i64 (n5 + (elem7.size:Int))) t39 t40 (IntKind.wrap .i64 (t41 + 1)) h:=(ZF _).trans (by kernel_rfl)
theorem Z5E (elems0:AVal) (sep1:ByteArray) (n5:Int) (h:Za):Zry elems0 sep1 n5 h =
 (Zih ((psh h (.bld 121 none 0))) (.ptr h.length 0) n5).bind fun r13=>
 (Zbc 1 elems0 0).bind fun p14=>
 (ld1 r13 p14).bind fun x15=>
 (asS x15).bind fun s16=>
 (Zgj r13 (.ptr h.length 0) s16).bind fun r17=>
 (ZcQ 1 elems0 (some 1) none none).bind fun v18=>
 (Zbb v18).bind fun n19=>
 Zni sep1 h.length v18 n19 0 r17.2:=(ZF _).trans (by kernel_rfl)
theorem Zwf (sep1:ByteArray) (b8:Nat) (t63:AVal) (t64:Int) (t65:Int) (h:Za):Zni sep1 b8 t63 t64 t65 h =
 bif (decide (t65 < t64)) then ((Zbc 1 t63 t65).bind fun p20=>
 (ld1 h p20).bind fun x21=>
 (asS x21).bind fun s22=>
 (Zgj h (.ptr b8 0) sep1).bind fun r23=>
 (Zgj r23.2 (.ptr b8 0) s22).bind fun r24=>
 Zni sep1 b8 t63 t64 (IntKind.wrap .i64 (t65 + 1)) r24.2)
 else (Zrx b8 h):=(ZbO ZbZ Estrings_Join_ok.C.nat _ _ _ _ _).trans (by kernel_rfl)
theorem Z5D (b8:Nat) (h:Za):Zrx b8 h =
 (Zec h (.ptr b8 0)).bind fun r25=>
 (asS r25.1).bind fun s26=>
 some ((.lit (.string s26)),r25.2):=(ZF _).trans (by kernel_rfl)
theorem Z5C {elems0:AVal} {sep1:ByteArray} {h h':Za} {v:AVal} {R:AEnd→Za→Prop} (hx:ZkG elems0 sep1 h = some (v,h')) (hR:HOk h→h.length≤h'.length→ABody.AEnds h h' (.ret v) R):ACalls Tryz.prog 136 [elems0,(.lit (.string sep1))] h R:=Zu Estrings_Join_ok Zo (i:=136) (by rfl) (by kernel_rfl) (by kernel_rfl) hx hR
def Z7 (ss:List ByteArray):List UInt8:=ss.flatMap fun s=>s.data.toList
theorem Zkb (a b:List ByteArray):Z7 (a++b) = Z7 a++Z7 b:=by simp[Z7]
theorem Zka (s:ByteArray):Z7 [s] = s.data.toList:=by simp[Z7]
theorem ZqV (s:ByteArray) (l:List ByteArray):Z7 (s :: l) = s.data.toList++Z7 l:=by simp[Z7]
theorem szL (s:ByteArray):s.data.toList.length = s.size:=Array.length_toList
theorem Z0h {α:Type} (l:List α) (i:Nat) (hi:i < l.length):l.take (i + 1) = l.take i++[l[i]]:=by rw[List.take_add_one,List.getElem?_eq_getElem hi];rfl
theorem ZmI (ss:List ByteArray) {i:Nat} (hi:i < ss.length):Z7 (ss.take (i + 1)) = Z7 (ss.take i)++ss[i].data.toList:=by rw[Z0h ss i hi,Zkb,Zka]
theorem ZmJ (ss:List ByteArray) (i:Nat):(Z7 (ss.take i)).length≤(Z7 ss).length:=by
 conv=>rhs;rw[←List.take_append_drop i ss,Zkb,List.length_append]
 omega
theorem Z0n (ss:List ByteArray) {i:Nat} (hi:i < ss.length):(ZX ss)[i]? = some (.lit (.string ss[i])):=by
 unfold ZX;rw[List.getElem?_map,List.getElem?_eq_getElem hi];rfl
theorem Zes {n i:Nat} {h:Za} {v:AVal} {ss:List ByteArray} (S:Sl 1 h v n (ZX ss)) (hi:i < ss.length):∃ p,Zbc 1 v (i:Int) = some p∧ld1 h p = some (.lit (.string ss[i])):=by
 have hn:=S.1
 simp only[ZX,List.length_map,Nat.mul_one] at hn
 obtain ⟨p,a,_,_,b⟩:=S.idx (i:=i) (by omega)
 refine ⟨p,a,(b (by omega)).trans ?_⟩
 rw[Nat.mul_one];exact Z0n ss hi
theorem Z2I {v:AVal} {ss:List ByteArray} {h:Za} (S:Sl 1 h v ss.length (ZX ss)) (ht:(Z7 ss).length≤140737488355328) (hn:ss.length≤4611686018427387904) (sep:ByteArray):
  ∀ k i,i + k = ss.length→Znj v sep ((Z7 (ss.take i)).length:Int) v (ss.length:Int) (i:Int) h = Zry v sep ((Z7 ss).length:Int) h:=by
 intro k
 induction k with
 |zero=>
  intro i hi
  rw[Zwh]
  refine cF (decide_eq_false (by omega)) ?_
  rw[List.take_of_length_le (by omega)]
 |succ k ih=>
  intro i hi
  have hlt:i < ss.length:=by omega
  obtain ⟨p,a,b⟩:=Zes S hlt
  have hle:=ZmJ ss i
  have hle2:=ZmJ ss (i + 1)
  have e1:=congrArg List.length (ZmI ss hlt)
  rw[List.length_append,szL] at e1
  rw[Zwh]
  refine cT (decide_eq_true (by omega)) (bd a (bd b (bd rfl (cF (decide_eq_false ?_) ?_))))
  ·rw[wrap_i64 (by omega) (by omega)];omega
  ·rw[Z5F,wrap_i64 (by omega) (by omega),wrap_i64 (by omega) (by omega),show (((Z7 (ss.take i)).length:Int) + (ss[i].size:Int)) = ((Z7 (ss.take (i + 1))).length:Int) by omega,show (i:Int) + 1 = ((i + 1:Nat):Int) by omega]
   exact ih (i + 1) (by omega)
theorem Z2G {t:AVal} {ts:List ByteArray} {m b:Nat} (hn:ts.length≤4611686018427387904):
  ∀ k i g l,i + k = ts.length→Sl 1 g t ts.length (ZX ts)→BldJ m g b l→l.length + (Z7 (ts.drop i)).length≤140737488355328→
    ∃ g',Zni ⟨#[]⟩ b t (ts.length:Int) (i:Int) g = Zrx b g'∧BldJ m g' b (l++Z7 (ts.drop i))∧Keep m [] g g':=by
 intro k
 induction k with
 |zero=>
  intro i g l hi S B hl
  refine ⟨g,?_,?_,Keep.refl _ _ _⟩
  ·rw[Zwf]
   exact cF (decide_eq_false (by omega)) rfl
  ·rw[List.drop_of_length_le (by omega)];simpa[Z7] using B
 |succ k ih=>
  intro i g l hi S B hl
  have hlt:i < ts.length:=by omega
  obtain ⟨p,a,b⟩:=Zes S hlt
  have ed:Z7 (ts.drop i) = ts[i].data.toList++Z7 (ts.drop (i + 1)):=by rw[List.drop_eq_getElem_cons hlt,ZqV]
  rw[ed,List.length_append,szL] at hl
  obtain ⟨g1,w1,B1,C1,K1⟩:=B.write (s:=⟨#[]⟩) (by show l.length + 0≤_;omega)
  have e0:l++(⟨#[]⟩:ByteArray).data.toList = l:=List.append_nil l
  rw[e0] at B1
  obtain ⟨g2,w2,B2,C2,K2⟩:=B1.write (s:=ts[i]) (by omega)
  obtain ⟨g3,w3,B3,K3⟩:=ih (i + 1) g2 (l++ts[i].data.toList) (by omega) ((S.cel C1).cel C2) B2 (by rw[List.length_append,szL];omega)
  refine ⟨g3,?_,?_,(K1.trans K2).trans K3⟩
  ·rw[Zwf]
   refine cT (decide_eq_true (by omega)) (bd a (bd b (bd rfl (bd w1 (bd w2 ?_)))))
   rw[wrap_i64 (by omega) (by omega),show (i:Int) + 1 = ((i + 1:Nat):Int) by omega]
   exact w3
  ·rw[ed,←List.append_assoc];exact B3
theorem Sl.suf {k n lo:Nat} {h:Za} {v:AVal} {cs:List AVal} (S:Sl k h v n cs) (h1:lo≤n):∃ v',ZcQ k v (some (lo:Int)) none none = some v'∧Sl k h v' (n - lo) (cs.drop (lo * k)):=by
 obtain ⟨v',e1,e2⟩:=S.cut (lo:=lo) (hi:=n) h1 (Nat.le_refl _)
 have hl:=S.1
 have:(n - lo) * k = n * k - lo * k:=Nat.sub_mul _ _ _
 rw[List.take_of_length_le (by rw[List.length_drop];omega)] at e2
 refine ⟨v',?_,e2⟩
 have hs:=S.2
 rw[←e1]
 split at hs
 ·obtain ⟨_,rfl,_⟩:=hs;simp[ZcQ]
 ·obtain ⟨rfl,_⟩:=hs;simp[ZcQ]
 ·subst hs;rfl
 ·exact hs.elim
theorem Z2H {v:AVal} {ss:List ByteArray} {h:Za} (S:Sl 1 h v ss.length (ZX ss)) (ht:(Z7 ss).length≤140737488355328) (hn:ss.length≤4611686018427387904) (h0:2≤ss.length→Z7 ss≠[]):
  ∃ h',ZkG v ⟨#[]⟩ h = some (.lit (.string (bs (Z7 ss))),h')∧Grow h h':=by
 rw[Z5B]
 by_cases c0:ss.length = 0
 ·have:ss = []:=List.eq_nil_of_length_eq_zero c0
  subst this
  exact ⟨h,bd S.len (cT (by rfl) rfl),.refl h⟩
 by_cases c1:ss.length = 1
 ·match ss,c1 with
  | [s],_=>
    obtain ⟨p,a,b⟩:=Zes S (i:=0) (by simp)
    refine ⟨h,bd S.len (cF (by rfl) (cT (by rfl) (bd a (bd b (bd rfl ?_))))),.refl h⟩
    rw[Zka,Zv5];rfl
 ·have h0':=h0 (by omega)
  have hpos:0 < (Z7 ss).length:=List.length_pos_iff.2 h0'
  obtain ⟨h1,g1,B1,C1,K1⟩:=BldJ.grown (h:=h) (n:=h.length) (Nat.le_refl _) (m:=((Z7 ss).length:Int)) (by omega) (by omega)
  obtain ⟨p,a,b⟩:=Zes (S.cel C1) (i:=0) (by omega)
  have hd:ss = ss[0] :: ss.drop 1:=by rw[←List.drop_eq_getElem_cons (by omega)];rfl
  have e0:Z7 ss = ss[0].data.toList++Z7 (ss.drop 1):=by conv=>lhs;rw[hd,ZqV]
  have e1:=congrArg List.length e0
  rw[List.length_append,szL] at e1
  obtain ⟨h2,g2,B2,C2,K2⟩:=B1.write (s:=ss[0]) (by simp only[List.length_nil];omega)
  rw[List.nil_append] at B2
  obtain ⟨v',w1,S'⟩:=S.suf (lo:=1) (by omega)
  have hdl:(ss.drop 1).length = ss.length - 1:=by simp
  have S'':Sl 1 h v' (ss.drop 1).length (ZX (ss.drop 1)):=by
   rw[hdl]
   have:ZX (ss.drop 1) = (ZX ss).drop (1 * 1):=by simp[ZX]
   rw[this];exact S'
  obtain ⟨h3,g3,B3,K3⟩:=Z2G (t:=v') (ts:=ss.drop 1) (by omega) (ss.drop 1).length 0 h2 ss[0].data.toList (by omega) ((S''.cel C1).cel C2) B2 (by rw[szL];simp only[List.drop_zero];omega)
  rw[List.drop_zero,←e0] at B3
  obtain ⟨h4,g4,K4⟩:=B3.string h0'
  refine ⟨h4,?_,((K1.trans K2).trans K3).trans K4⟩
  refine bd S.len (cF (decide_eq_false (by omega)) (cF (decide_eq_false (by omega)) (cF (by rfl) ?_)))
  rw[Z5G]
  refine bd S.len ?_
  have:=Z2I S ht hn ⟨#[]⟩ ss.length 0 (by omega)
  rw[show ((Z7 (ss.take 0)).length:Int) = 0 by rfl,show ((0:Nat):Int) = 0 by rfl] at this
  rw[this,Z5E]
  refine bd g1 (bd a (bd b (bd rfl (bd g2 (bd w1 (bd S''.len ?_))))))
  refine Eq.trans g3 ?_
  rw[Z5D]
  exact bd g4 (bd rfl rfl)
end Go.Proofs.YtogaiomakhapmaaGreat.AL
namespace Go.Proofs.YtogaiomakhapmaaGreat.AL
open Go
variable {ρ ρ':Env} {h h':Za} {w w':World} {P:Program}
structure YRow where
 E:XE
 cs:List Nat
 fn:Func
structure YRow.Ok (P:Program) (i:Nat) (r:YRow):Prop where
 hf:P.funcs[i]? = some r.fn
 hn:r.fn.ntmps = r.E.n
 hd:(match r.fn.body with
  |some c=>ZeA r.E.n r.E.D c
  |none=>true) = true
 hT:r.E.T.Ok P
 hC:CT.Ok P r.E.C
 hc:Zd P i = true
 hcs:∀ j∈r.cs,Zd P j = true
theorem CT.Nat.append:∀ {a b:CT},CT.Nat a→CT.Nat b→CT.Nat (a++b)
 | [],_,_,hb=>hb
 |_ :: _,_,ha,hb=>⟨ha.1,CT.Nat.append ha.2 hb⟩
theorem CT.Ok.append:∀ {a b:CT},CT.Ok P a→CT.Ok P b→CT.Ok P (a++b)
 | [],_,_,hb=>hb
 |_ :: _,_,ha,hb=>⟨ha.1,CT.Ok.append ha.2 hb⟩
def YOk (P:Program):List (Nat×YRow)→Prop
 | []=>True
 | (i,r) :: T=>r.Ok P i∧YOk P T
theorem YOk.find:∀ {T:List (Nat×YRow)} {i:Nat} {r:YRow},YOk P T→findN T i = some r→r.Ok P i
 | [],i,r,_,h=>by cases h
 | (k,x) :: l,i,r,hC,h=>by
   rcases findN_some h with ⟨rfl,rfl⟩ |h
   ·exact hC.1
   ·exact YOk.find hC.2 h
end Go.Proofs.YtogaiomakhapmaaGreat.AL
namespace Go.Proofs.YtogaiomakhapmaaGreat.AL
open Go
variable {P:Program}
abbrev XPc:=Exit×List AVal×Za
noncomputable def pcK (outs:List Nat):XK XPc:=fun e f h=>some (e,outs.map f.get,h)
def Zm5 (n:Nat) (f:Fr):Bool:=f.all fun p=>decide (p.1 < n)
theorem ZqB {n:Nat}:∀ {f:Fr},Zm5 n f = true→f.Wf n
 | [],_,t,_=>rfl
 |p :: f,hf,t,ht=>by
  simp only[Zm5,List.all_cons,Bool.and_eq_true,decide_eq_true_eq] at hf
  have h1:Nat.beq t p.1 = false:=by
   cases hb:Nat.beq t p.1 with
   |false=>rfl
   |true=>have:=Nat.eq_of_beq_eq_true hb;omega
  show cond (Nat.beq t p.1) p.2 (Fr.get f t) = .any
  rw[h1];exact ZqB hf.2 t ht
def Outs (n:Nat) (outs:List Nat) (vs:List AVal) (a:List AVal):Prop:=a.length = n∧outs.map (Z2 a) = vs
theorem Outs.weak {n:Nat}:∀ {outs:List Nat} {vs:List AVal} {a:List AVal},Outs n outs vs a→Zm5 n (outs.zip vs) = true→Weak a (Fr.lst n (outs.zip vs))
 |outs,vs,a,⟨hl,ho⟩,hf=>by
  refine Zg9 (by simp[Fr.lst,hl]) fun t ht=>?_
  rw[Zio (ZqB hf)]
  have key:∀ (outs:List Nat) (vs:List AVal),outs.map (Z2 a) = vs→Fr.get (outs.zip vs) t = .any∨Z2 a t = Fr.get (outs.zip vs) t:=by
   intro outs
   induction outs with
   |nil=>intro vs _;exact .inl rfl
   |cons o outs ih=>
    intro vs hv
    cases vs with
    |nil=>simp at hv
    |cons v vs=>
     simp only[List.map_cons,List.cons.injEq] at hv
     show cond (Nat.beq t o) v (Fr.get (outs.zip vs) t) = .any∨Z2 a t = cond (Nat.beq t o) v (Fr.get (outs.zip vs) t)
     cases hb:Nat.beq t o with
     |true=>have:=Nat.eq_of_beq_eq_true hb;subst this;exact .inr hv.1
     |false=>exact ih vs hv.2
  exact key outs vs ho
theorem Zgk {E:XE} (hE:E.Ok P) (hm:P.follows .mixedOrders = true) {c:Code} (hd:ZeA E.n E.D c = true) {f:Fr} (hf:Zm5 E.n f = true) {outs:List Nat} {h h':Za} {e:Exit} {vs:List AVal}
  (hx:Zl E c XPc f h (pcK outs) = some (e,vs,h')) {Q:AQ} (hQ:∀ a,Outs E.n outs vs a→Q e a h'):AWp P c Q (f.lst E.n) h:=by
 refine ZeE (ZsB hE hm c hd XPc f h (pcK outs) _ (ZqB hf) hx) ?_
 rintro e1 a1 h1 ⟨_,g,hg,rfl,hk⟩
 unfold pcK at hk
 cases hk
 exact hQ _ ⟨by simp[Fr.lst],List.map_congr_left fun t _=>Zio hg t⟩
theorem ZmU {i:FuncId} {fn:Func} {c:Code} {args:List AVal} {h:Za} {R:AEnd→Za→Prop} (hf:P.funcs[i]? = some fn) (hb:fn.body = some c) (hn:Nat.ble args.length fn.ntmps = true)
  (hc:HOk h→AWp P c (fun e a g=>ABody P fn h R e a g) ((ZcI args 0).lst fn.ntmps) h):ACalls P i args h R:=
 ZvR hf hb fun hok=>by
  have:=hc hok
  rw[Zvj (Nat.le_of_ble_eq_true hn)] at this
  exact this
theorem ACalls.tell {f:FuncId} {args:List AVal} {h:Za} {R R':AEnd→Za→Prop} (hc:ACalls P f args h R) (hr:∀ e h2,R e h2→h.length≤h2.length→∃ e' h',R' e' h'∧h.length≤h'.length∧∀ (ρ:Env) (w:World) (u:Ending),Rel ρ h2 w→EndR ρ h2 w e u→
   ∃ ρ',(∀ b,b < h.length→ρ' b = ρ b)∧(∀ c,Zb5 ρ' h' c→Zb5 ρ h2 c)∧Rel ρ' h' w∧EndR ρ' h' w e' u):ACalls P f args h R':=by
 intro ρ w us hR hv
 refine (hc ρ w us hR hv).mono ?_
 rintro e w' ⟨ρ1,h1,e1,ev,R1,hE,hr1⟩
 obtain ⟨e',h',hr',hl,hk⟩:=hr _ _ hr1 ev.ids
 obtain ⟨ρ2,k1,k2,k3,k4⟩:=hk ρ1 w' e R1 hE
 exact ⟨ρ2,h',e',⟨hl,fun b hb=>(k1 b hb).trans (ev.env b hb),ev.size,ev.same,fun c hc hn=>⟨(ev.keep c hc hn).1,fun ho=>(ev.keep c hc hn).2 (k2 c ho)⟩,ev.loops⟩,k3,k4,hr'⟩
section pick
variable {ρ ρ':Env} {h g H:Za} {w:World}
theorem VR.reloc {n:Nat} (he:∀ b,b < n→ρ' b = ρ b) (hn:n≤H.length) (ho:∀ c,Zb5 ρ' H c→Zb5 ρ g c) {v:AVal} {u:Value} (hv:VR ρ g w v u) (hb:Below n v):VR ρ' H w v u:=by
 have lt:∀ b,b < n→b < H.length:=fun b hb=>Nat.lt_of_lt_of_le hb hn
 induction hv with
 |any u=>exact .any u
 |lit u=>exact .lit u
 |ptr b off _=>cases hb with |ptr _ _ hb=>rw[←he b hb];exact .ptr b off (lt b hb)
 |sl k b off len cap _ hl hc hm=>cases hb with |sl _ _ _ _ hb=>rw[←he b hb] at hc hm⊢;exact .sl k b off len cap (lt b hb) hl hc hm
 |rop cs c off C T fz hc hn hs _ ih=>
  cases hb with |rop _ hb=>exact .rop cs c off C T fz hc (fun h=>hn (ho c h)) hs fun i hi=>ih i hi (hb _ (List.getElem_mem hi))
 |slZ k b off o _=>cases hb with |sl _ _ _ _ hb=>rw[←he b hb];exact .slZ k b off o (lt b hb)
 |rosZ cs _ a cap=>cases hb with |ros _ _ hb=>exact .rosZ cs (fun v hv=>(hb v hv).mono hn) a cap
 |ros cs c off len cap C T fz hl hc hn hs _ ih=>
  cases hb with |ros _ _ hb=>exact .ros cs c off len cap C T fz hl hc (fun h=>hn (ho c h)) hs fun i hi=>ih i hi (hb _ (List.getElem_mem hi))
 |agg vs us hl _ ih=>cases hb with |agg _ hb=>exact .agg vs us hl fun i hi=>ih i hi (hb _ (List.getElem_mem hi))
 |tup vs us hl _ ih=>cases hb with |tup _ hb=>exact .tup vs us hl fun i hi=>ih i hi (hb _ (List.getElem_mem hi))
 |fn f vs ws us xs hl hl' _ _ ih ih'=>
  cases hb with |fn _ _ _ hb hd=>exact .fn f vs ws us xs hl hl' (fun i hi=>ih i hi (hb _ (List.getElem_mem hi))) fun i hi=>ih' i hi (hd _ (List.getElem_mem hi))
 |ifc t v u _ ih=>cases hb with |ifc _ _ hb=>exact .ifc t v u (ih hb)
 |map b _=>cases hb with |map _ hb=>rw[←he b hb];exact .map b (lt b hb)
 |yld b _=>cases hb with |yld _ hb=>rw[←he b hb];exact .yld b (lt b hb)
theorem ObjR.reloc {n:Nat} (he:∀ b,b < n→ρ' b = ρ b) (hn:n≤H.length) (ho:∀ c,Zb5 ρ' H c→Zb5 ρ g c) {l:Loc} {o:AObj} (hv:ObjR ρ g w l o) (hb:Zhy n o):ObjR ρ' H w l o:=by
 cases o with
 |dead=>trivial
 |cells cs=>obtain ⟨C,T,fz,a1,a2,a3,a4,a5⟩:=hv;exact ⟨C,T,fz,a1,a2,a3,a4,fun i hi=>(a5 i hi).reloc he hn ho (hb _ (List.getElem_mem hi))⟩
 |pred R=>exact hv
 |map d es=>obtain ⟨C,clock,a1,a2,a3,a4⟩:=hv;exact ⟨C,clock,a1,a2,a3,fun i hi=>⟨(a4 i hi).1,(a4 i hi).2.1,(a4 i hi).2.2.reloc he hn ho (hb _ (List.getElem_mem hi))⟩⟩
 |sit s pos=>exact hv
 |mapS d es bs clock=>obtain ⟨C,a1,a2,a0,a3,a4⟩:=hv;exact ⟨C,a1,a2,a0,a3,fun i hi=>⟨(a4 i hi).1,(a4 i hi).2.1,(a4 i hi).2.2.reloc he hn ho (hb _ (List.getElem_mem hi))⟩⟩
 |mit mb since seen c0=>obtain ⟨a1,a2,a3⟩:=hv;exact ⟨Nat.lt_of_lt_of_le hb hn,a2,by rw[he mb hb];exact a3⟩
 |mapU d es=>obtain ⟨es',hp,C,clock,a1,a2,a3,a4⟩:=hv;exact ⟨es',hp,C,clock,a1,a2,a3,fun i hi=>⟨(a4 i hi).1,(a4 i hi).2.1,(a4 i hi).2.2.reloc he hn ho (hb _ (hp.mem_iff.1 (List.getElem_mem hi)))⟩⟩
 |bld T k n'=>
  obtain ⟨a1,p,v,a2,a3,a4⟩:=hv
  refine ⟨a1,p,v,a2,a3,?_⟩
  cases k with
  |none=>exact a4
  |some k=>exact ⟨Nat.lt_of_lt_of_le (hb k rfl) hn,by rw[he k (hb k rfl)];exact a4.2⟩
 |buf T bs=>exact hv
 |loop st pend a ps x y=>obtain ⟨r,a1,a2,a3,a4,a5,a6,a7,a8⟩:=hv;exact ⟨r,a1,a2,a3,a4,a5,a6,a7,fun i hi=>(a8 i hi).reloc he hn ho (hb _ (List.getElem_mem hi))⟩
theorem Z0Z (hR:Rel ρ g w) (hok:HOk h) (hg:∀ c,c < h.length→g[c]? = h[c]?) {bb:Nat} {o:AObj} (hbb:h.length≤bb) (hb:g[bb]? = some o) (hd:o≠ .dead) (hbel:Zhy h.length o):
  ∃ ρ',(∀ b,b < h.length→ρ' b = ρ b)∧ρ' h.length = ρ bb∧(∀ c,Zb5 ρ' (h++[o]) c→Zb5 ρ g c)∧Rel ρ' (h++[o]) w:=by
 let ρ':Env:=fun b=>if b = h.length then ρ bb else ρ b
 have e1:∀ b,b < h.length→ρ' b = ρ b:=fun b hb=>if_neg (by omega)
 have e2:ρ' h.length = ρ bb:=if_pos rfl
 have old:∀ b o',(h++[o])[b]? = some o'→(b < h.length∧g[b]? = some o'∧h[b]? = some o'∧ρ' b = ρ b)∨(b = h.length∧o' = o):=fun b o' hbo=>by
  rcases Nat.lt_or_ge b h.length with hlt |hge
  ·rw[List.getElem?_append_left hlt] at hbo
   exact .inl ⟨hlt,(hg b hlt).trans hbo,hbo,e1 b hlt⟩
  ·have:b < (h++[o]).length:=ZE hbo
   have hbe:b = h.length:=by simp at this;omega
   subst hbe
   simp at hbo;exact .inr ⟨rfl,hbo.symm⟩
 have own:∀ c,Zb5 ρ' (h++[o]) c→Zb5 ρ g c:=by
  rintro c ⟨b,o',hbo,hdo,hc⟩
  rcases old b o' hbo with ⟨h1,h2,_,h4⟩ | ⟨rfl,rfl⟩
  ·exact ⟨b,o',h2,hdo,by rw[←h4];exact hc⟩
  ·exact ⟨bb,o',hb,hdo,by rw[←e2];exact hc⟩
 refine ⟨ρ',e1,e2,own,fun g hm=>⟨fun ho=>(hR.glob g hm).1 (own _ ho),(hR.glob g hm).2⟩,fun b o' hbo=>?_,fun b b' o1 o2 h1 h2 d1 d2 hq=>?_⟩
 ·rcases old b o' hbo with ⟨h1,h2,h3,h4⟩ | ⟨rfl,rfl⟩
  ·rw[h4];exact (hR.obj b o' h2).reloc e1 (by simp) own (hok b o' h3)
  ·rw[e2];exact (hR.obj bb o' hb).reloc e1 (by simp) own hbel
 ·rcases old b o1 h1 with ⟨l1,g1,_,r1⟩ | ⟨rfl,rfl⟩<;>rcases old b' o2 h2 with ⟨l2,g2,_,r2⟩ | ⟨rfl,rfl⟩
  ·rw[r1,r2] at hq;exact hR.inj b b' o1 o2 g1 g2 d1 d2 hq
  ·rw[r1,e2] at hq;have:=hR.inj b bb o1 _ g1 hb d1 d2 hq;omega
  ·rw[r2,e2] at hq;have:=hR.inj bb b' _ o2 hb g2 d1 d2 hq;omega
  ·rfl
theorem Z1a (hR:Rel ρ g w) (hok:HOk h) (hg:∀ c,c < h.length→g[c]? = h[c]?):(∀ c,Zb5 ρ h c→Zb5 ρ g c)∧Rel ρ h w:=by
 have own:∀ c,Zb5 ρ h c→Zb5 ρ g c:=fun c ⟨b,o,hb,hd,he⟩=>⟨b,o,(hg b (ZE hb)).trans hb,hd,he⟩
 exact ⟨own,fun g hm=>⟨fun ho=>(hR.glob g hm).1 (own _ ho),(hR.glob g hm).2⟩,fun b o hb=>(hR.obj b o ((hg b (ZE hb)).trans hb)).reloc (fun _ _=>rfl) (Nat.le_refl _) own (hok b o hb),fun b b' o o' h1 h2 d1 d2 he=>hR.inj b b' o o' ((hg b (ZE h1)).trans h1) ((hg b' (ZE h2)).trans h2) d1 d2 he⟩
end pick
theorem Z4D {f:FuncId} {args:List AVal} {h:Za} {R:AEnd→Za→Prop} {mb:Nat} {d:MKey} {es:List (Value×AVal)} (hm:h[mb]? = some (.map d es))
  (hc:∀ bs clock,bs.length = es.length→bs.Nodup→(∀ s∈bs,s < clock)→ACalls P f args (h.set mb (.mapS d es bs clock)) fun e g=>g[mb]? = some (.mapS d es bs clock)∧R e (g.set mb (.map d es))):ACalls P f args h R:=by
 intro ρ w us hR hv
 obtain ⟨C,clock,hC,hs,hl,hes⟩:=hR.obj mb _ hm
 have hmb:=ZE hm
 let bs:=C.toList.map (·.born)
 have hne:AObj.map d es≠ .dead:=by simp
 have e1:Evo ρ h w ρ (h.set mb (.mapS d es bs clock)) w:=ZdC hR hm hne (.refl _) (Nat.le_refl _) (fun _ _=>rfl) (fun r hr=>⟨r,hr⟩)
 have R1:Rel ρ (h.set mb (.mapS d es bs clock)) w:=hR.set hm hne (.refl _) (Nat.le_refl _) (fun _ _=>rfl) (fun r hr=>⟨r,hr⟩)
  ⟨C,hC,hs,rfl,hl,fun i hi=>⟨(hes i hi).1,(hes i hi).2.1,(hes i hi).2.2.evo e1⟩⟩
 have hst:=(MapKept.stamped_iff C clock).1 hs
 refine (hc bs clock (by simp[bs,hl]) hst.2.1 (fun s hs=>by obtain ⟨x,hx,rfl⟩:=List.mem_map.1 hs;exact hst.1 x hx) ρ w us R1 (hv.evo e1)).mono ?_
 rintro e w' ⟨ρ',h',e',ev,R',hE,hg,hr⟩
 obtain ⟨C',hC',hs',hbs',hl',hes'⟩:=R'.obj mb _ hg
 have hne':AObj.mapS d es bs clock≠ .dead:=by simp
 have e2:Evo ρ' h' w' ρ' (h'.set mb (.map d es)) w':=ZdC R' hg hne' (.refl _) (Nat.le_refl _) (fun _ _=>rfl) (fun r hr=>⟨r,hr⟩)
 have R2:Rel ρ' (h'.set mb (.map d es)) w':=R'.set hg hne' (.refl _) (Nat.le_refl _) (fun _ _=>rfl) (fun r hr=>⟨r,hr⟩)
  ⟨C',clock,hC',hs',hl',fun i hi=>⟨(hes' i hi).1,(hes' i hi).2.1,(hes' i hi).2.2.evo e2⟩⟩
 refine ⟨ρ',_,e',(e1.trans ev).trans e2,R2,?_,hr⟩
 cases hE with
 |ret v u hvu=>exact .ret v u (hvu.evo e2)
 |panic c=>exact .panic c
theorem ZmD {h0 h':Za} {v:AVal} {R:AEnd→Za→Prop} (hl:h0.length≤h'.length) (hr:R (.ret v) h'):ABody.AEnds h0 h' (.ret v) R:=
 ⟨h',.ret v,hl,hr,fun ρ w u hR hE=>⟨Fewer.refl _,hR,hE⟩⟩
noncomputable def ZmM (C:List (Nat×XC)) (Y:Nat→XP) (v:AVal) (args:List AVal) (h:Za) {R:Type} (K:AVal→Za→Option R):Option R:=match v with
 | .fn (.func i) vs ws=>match findN C i with
   |some (.p g)=>g R (vs++args++ws) fun v=>K v h
   |some (.q g)=>g R (vs++args++ws) h fun v=>K v h
   |some (.l g)=>g R (vs++args++ws) h K
   |_=>none
 | .yld b=>(Y b args h).bind fun r=>K r.1 r.2
 |_=>none
end Go.Proofs.YtogaiomakhapmaaGreat.AL
namespace Go.Proofs.YtogaiomakhapmaaGreat.AL
open Go
variable {P:Program}
mutual
def AVal.plain:AVal→Bool
 | .lit _=>true
 | .agg vs=>ZhL vs
 | .tup vs=>ZhL vs
 |_=>false
def ZhL:List AVal→Bool
 | []=>true
 |v :: vs=>v.plain && ZhL vs
end
theorem Zmo:∀ {vs:List AVal},ZhL vs = true→∀ v∈vs,v.plain = true
 |x :: vs,h,v,hv=>by
  simp only[ZhL,Bool.and_eq_true] at h
  rcases List.mem_cons.1 hv with rfl |hv
  ·exact h.1
  ·exact Zmo h.2 v hv
theorem VR.plain {ρ ρ':Env} {h h':Za} {w w':World} {v:AVal} {u:Value} (hv:VR ρ h w v u) (hp:v.plain = true):VR ρ' h' w' v u:=by
 induction hv with
 |lit u=>exact .lit u
 |agg vs us hl _ ih=>exact .agg vs us hl fun i hi=>ih i hi (Zmo (by simpa[AVal.plain] using hp) _ (List.getElem_mem hi))
 |tup vs us hl _ ih=>exact .tup vs us hl fun i hi=>ih i hi (Zmo (by simpa[AVal.plain] using hp) _ (List.getElem_mem hi))
 |_=>simp[AVal.plain] at hp
theorem Zkn {i:Nat} {args:List AVal} {v:AVal} (ha:ZhL args = true) (hv:v.plain = true) (hc:ACalls P i args [] fun e _=>e = .ret v) (h:Za):ACalls P i args h fun e h'=>e = .ret v∧h' = h:=by
 intro ρ w us hR hvs
 have hR0:Rel ρ [] w:=⟨fun g hm=>⟨fun ⟨b,o,hb,_⟩=>by simp at hb,(hR.glob g hm).2⟩,fun b o hb=>by simp at hb,fun b b' o o' hb=>by simp at hb⟩
 refine (hc ρ w us hR0 ⟨hvs.1,fun i hi=>(hvs.2 i hi).plain (Zmo ha _ (List.getElem_mem hi))⟩).mono ?_
 rintro e w' ⟨ρ',h',e',ev,hR',hE,rfl⟩
 have hno:∀ c,¬Zb5 ρ [] c:=fun c ⟨b,o,hb,_⟩=>by simp at hb
 have ev':Evo ρ h w ρ h w':=⟨Nat.le_refl _,fun _ _=>rfl,ev.size,ev.same,fun c hc hn=>⟨(ev.keep c hc (hno c)).1,hn⟩,ev.loops⟩
 refine ⟨ρ,h,.ret v,ev',⟨hR.glob.evo ev',fun b o hb=>?_,hR.inj⟩,?_,rfl,rfl⟩
 ·exact (hR.obj b o hb).evo ev' fun ho=>(ev.keep _ (hR.blk_lt hb ho) (hno _)).1
 ·cases hE with |ret _ u hvu=>exact .ret _ _ (hvu.plain hv)
end Go.Proofs.YtogaiomakhapmaaGreat.AL
namespace Go.Proofs.YtogaiomakhapmaaGreat.AL
set_option maxRecDepth 100000
open Go
open Go.Proofs.Tryz
noncomputable def Zck:XE:={ T:=Zn [(3,r3),(4,r4),(5,r5),(9,r9),(119,ZeR),(162,Zue)],C:=[],D:=[],Ms:=[(9,[1,6]),(15,[1,6])],Ml:=[(5,[0,1,6,7]),(10,[1,6,32,33,34])],Mo:=[(1006,[0,1,15]),(1010,[0,1,19])],n:=45}
theorem Eoctet_Put_ok:XE.Ok Zck Tryz.prog:=⟨Zp (⟨Z0,⟨Z1,⟨ZdT,⟨Zz,⟨Zft,⟨Z1j,trivial⟩⟩⟩⟩⟩⟩),trivial,Zq,trivial⟩
noncomputable def Zdu:Code:=ZP f116
noncomputable def Znn (n0:Int) (k1:Int) (h:Za):Option (AVal×Za):=Zt Zck f116 [(.lit (.int .i64 n0)),(.lit (.int .i64 k1))] h
noncomputable def Zr2 (n0:Int) (k1:Int) (t15:Bool) (h:Za):Option (AVal×Za):=jo Zck 1 (Zk (ca (ca (cb Zdu)))) ((Zk (ca (ca (cb Zdu)))).toList.drop 6) 6 [(0,(.lit (.int .i64 n0))),(1,(.lit (.int .i64 k1))),(15,(.lit (.bool t15)))] h (kN (Zi Zck (cb (ca (cb Zdu))) (Zi Zck (cb (cb Zdu)) (Zj Zck f116))))
noncomputable def Znm (n0:Int) (k1:Int) (t19:Bool) (h:Za):Option (AVal×Za):=jo Zck 1 (Zk (ca (ca (cb Zdu)))) ((Zk (ca (ca (cb Zdu)))).toList.drop 10) 10 [(0,(.lit (.int .i64 n0))),(1,(.lit (.int .i64 k1))),(19,(.lit (.bool t19)))] h (kN (Zi Zck (cb (ca (cb Zdu))) (Zi Zck (cb (cb Zdu)) (Zj Zck f116))))
noncomputable def Zhk (n0:Int) (k1:Int) (b6:Nat) (i7:Int) (h:Za):Option (AVal×Za):=Zl Zck (.loop (ca (ca (cb (ca (cb (cb (cb Zdu)))))))) (AVal×Za) [(0,(.lit (.int .i64 n0))),(1,(.lit (.int .i64 k1))),(6,(.ptr b6 0)),(7,(.lit (.int .i64 i7)))] h (ZW 0 (Zi Zck (cb (cb (cb (cb Zdu)))) (Zj Zck f116)))
noncomputable def Znl (k1:Int) (b6:Nat) (h:Za):Option (AVal×Za):=jn (Zl Zck (cb (cb (cb (cb Zdu)))) (AVal×Za) [(1,(.lit (.int .i64 k1))),(6,(.ptr b6 0))] h (Zj Zck f116))
noncomputable def ZkK (k1:Int) (b6:Nat) (t32:AVal) (t33:Int) (t34:Int) (h:Za):Option (AVal×Za):=Zl Zck (.loop (ca (ca (cb (ca (cb (cb (cb (cb Zdu))))))))) (AVal×Za) [(1,(.lit (.int .i64 k1))),(6,(.ptr b6 0)),(32,t32),(33,(.lit (.int .i64 t33))),(34,(.lit (.int .i64 t34)))] h (ZW 2 (Zi Zck (cb (cb (cb (cb (cb Zdu))))) (Zj Zck f116)))
noncomputable def Zr0 (k1:Int) (b6:Nat) (h:Za):Option (AVal×Za):=jn (Zl Zck (cb (cb (cb (cb (cb Zdu))))) (AVal×Za) [(1,(.lit (.int .i64 k1))),(6,(.ptr b6 0))] h (Zj Zck f116))
theorem Zwn (n0:Int) (k1:Int) (h:Za):Znn n0 k1 h =
 bif (decide (n0 < 0)) then (Zr2 n0 k1 true h)
 else (Zr2 n0 k1 (decide (k1 < 1)) h):=by kernel_rfl
theorem Zr1 (n0:Int) (k1:Int) (t15:Bool) (h:Za):Zr2 n0 k1 t15 h =
 bif t15 then (Znm n0 k1 true h)
 else (Znm n0 k1 (decide (k1 > 8)) h):=(ZV ..).trans (by kernel_rfl)
theorem Zwq (n0:Int) (k1:Int) (t19:Bool) (h:Za):Znm n0 k1 t19 h =
 bif t19 then (some ((.tup [(.lit (.string (⟨#[]⟩:ByteArray))),(.lit (.bool false))]),h))
 else (Zhk n0 k1 h.length 7 ((psh h (.cells [(.lit (.int .u8 0)),(.lit (.int .u8 0)),(.lit (.int .u8 0)),(.lit (.int .u8 0)),(.lit (.int .u8 0)),(.lit (.int .u8 0)),(.lit (.int .u8 0)),(.lit (.int .u8 0))])))):=(ZV ..).trans (by kernel_rfl)
theorem Zwp (n0:Int) (k1:Int) (b6:Nat) (i7:Int) (h:Za):Zhk n0 k1 b6 i7 h =
 bif (decide (i7≥0)) then ((ZeG 8 1 (.ptr b6 0) i7).bind fun p1=>
 (st1 h p1 (.lit (.int .u8 (IntKind.wrap .u8 n0)))).bind fun h2=>
 Zhk (ZbL .i64 n0 8) k1 b6 (IntKind.wrap .i64 (i7 - 1)) h2)
 else (Znl k1 b6 h):=(ZbO Zck Eoctet_Put_ok.C.nat _ _ _ _ _).trans (by kernel_rfl)
theorem Z5S (k1:Int) (b6:Nat) (h:Za):Znl k1 b6 h =
 (ZdD 8 1 h (.ptr b6 0) 0 (IntKind.wrap .i64 (8 - k1))).bind fun v3=>
 (Zbb v3).bind fun n4=>
 ZkK k1 b6 v3 n4 0 h:=(ZF _).trans (by kernel_rfl)
theorem Zwo (k1:Int) (b6:Nat) (t32:AVal) (t33:Int) (t34:Int) (h:Za):ZkK k1 b6 t32 t33 t34 h =
 bif (decide (t34 < t33)) then ((Zbc 1 t32 t34).bind fun p5=>
 (ld1 h p5).bind fun x6=>
 (asI .u8 x6).bind fun n7=>
 bif (decide (n7 > 0)) then (some ((.tup [(.lit (.string (⟨#[]⟩:ByteArray))),(.lit (.bool false))]),h))
 else (ZkK k1 b6 t32 t33 (IntKind.wrap .i64 (t34 + 1)) h))
 else (Zr0 k1 b6 h):=(ZbO Zck Eoctet_Put_ok.C.nat _ _ _ _ _).trans (by kernel_rfl)
theorem Z5R (k1:Int) (b6:Nat) (h:Za):Zr0 k1 b6 h =
 (ZdD 8 1 h (.ptr b6 0) (IntKind.wrap .i64 (8 - k1)) 8).bind fun v8=>
 (ZcA h v8).bind fun s9=>
 some ((.tup [(.lit (.string s9)),(.lit (.bool true))]),h):=(ZF _).trans (by kernel_rfl)
theorem Z5Q {n0:Int} {k1:Int} {h h':Za} {v:AVal} {R:AEnd→Za→Prop} (hx:Znn n0 k1 h = some (v,h')) (hR:HOk h→h.length≤h'.length→ABody.AEnds h h' (.ret v) R):ACalls Tryz.prog 116 [(.lit (.int .i64 n0)),(.lit (.int .i64 k1))] h R:=Zu Eoctet_Put_ok Zo (i:=116) (by rfl) (by kernel_rfl) (by kernel_rfl) hx hR
def by8 (n i:Nat):UInt8:=UInt8.ofNat (n / 256 ^ i)
def be8 (n:Nat):List UInt8:=[by8 n 7,by8 n 6,by8 n 5,by8 n 4,by8 n 3,by8 n 2,by8 n 1,by8 n 0]
theorem Z3W (n i:Nat):IntKind.wrap .u8 ((n / 256 ^ i:Nat):Int) = ((by8 n i).toNat:Int):=by
 rw[Zg8]
 unfold by8
 simp
theorem Z06 (n i:Nat):ZbL .i64 ((n / 256 ^ i:Nat):Int) 8 = ((n / 256 ^ (i + 1):Nat):Int):=by
 unfold ZbL
 show ((n / 256 ^ i:Nat):Int).fdiv 256 = _
 rw[Int.fdiv_eq_ediv_of_nonneg _ (by omega),Nat.pow_succ,←Nat.div_div_eq_div_mul]
 exact (Int.natCast_ediv _ 256).symm
theorem Z1s {n:Nat} {k:Int} {b:Nat} {h:Za} (H:Zb h b = some (List.replicate 8 (.lit (.int .u8 0)))):∃ g,Zhk (n:Int) k b 7 h = Znl k b g∧Zb g b = some ((be8 n).map ZR)∧g.length = h.length∧∀ c,c≠b→g[c]? = h[c]?:=by
 have step:∀ (j i:Nat) (g:Za) (cs:List AVal),i < 8→Zb g b = some cs→cs.length = 8→Zhk ((n / 256 ^ j:Nat):Int) k b (i:Int) g = Zhk ((n / 256 ^ (j + 1):Nat):Int) k b ((i:Int) - 1) (g.set b (.cells (cs.set i (ZR (by8 n j))))):=fun j i g cs hi H hc=>by
  have ix:ZeG 8 1 (.ptr b 0) (i:Int) = some (.ptr b i):=by
   unfold ZeG;rw[Z8 (by omega)];simp
  rw[Zwp,decide_eq_true (by omega),cond_true,ix,Option.bind_some,Z3W,show (AVal.lit (.int .u8 ((by8 n j).toNat:Int))) = ZR (by8 n j) from rfl,Zbq H rfl (by omega),Option.bind_some,Z06,wrap_i64 (by omega) (by omega)]
 have h0:(n:Int) = ((n / 256 ^ 0:Nat):Int):=by simp
 rw[h0]
 have E:=step 0 7 h _ (by omega) H rfl
 have last:∀ g,Zhk ((n / 256 ^ (7 + 1):Nat):Int) k b (((0:Nat):Int) - 1) g = Znl k b g:=fun g=>by rw[Zwp];rfl
 refine ⟨_,E.trans ((step 1 6 _ _ (by omega) (Zm H) rfl).trans ((step 2 5 _ _ (by omega) (Zm (Zm H)) rfl).trans ((step 3 4 _ _ (by omega) (Zm (Zm (Zm H))) rfl).trans ((step 4 3 _ _ (by omega) (Zm (Zm (Zm (Zm H)))) rfl).trans
  ((step 5 2 _ _ (by omega) (Zm (Zm (Zm (Zm (Zm H))))) rfl).trans ((step 6 1 _ _ (by omega) (Zm (Zm (Zm (Zm (Zm (Zm H)))))) rfl).trans ((step 7 0 _ _ (by omega) (Zm (Zm (Zm (Zm (Zm (Zm (Zm H))))))) rfl).trans (last _)))))))),?_,?_,?_⟩
 ·exact Zm (Zm (Zm (Zm (Zm (Zm (Zm (Zm H)))))))
 ·simp
 ·intro c hc
  simp[List.getElem?_set_ne (Ne.symm hc)]
theorem ZuR {k:Int} {b:Nat} {h:Za} {l:List UInt8} {z:Nat} (H:Zb h b = some (l.map ZR)) (hz:z≤l.length) (hl:l.length≤8):∀ (m i:Nat),i + m = z→(∀ x∈l.take i,x = 0)→
  ZkK k b (.sl 1 b 0 z) (z:Int) (i:Int) h = if (∀ x∈l.take z,x = 0) then Zr0 k b h else some (.tup [.lit (.string ⟨#[]⟩),.lit (.bool false)],h)
 | 0,i,hi,h0=>by
   obtain rfl:i = z:=by omega
   rw[Zwo,decide_eq_false (by omega),cond_false,if_pos h0]
 |m + 1,i,hi,h0=>by
  have hil:i < l.length:=by omega
  have hnext:IntKind.wrap .i64 ((i:Int) + 1) = ((i + 1:Nat):Int):=by rw[wrap_i64 (by omega) (by omega)];omega
  have idx:Zbc 1 (.sl 1 b 0 z) (i:Int) = some (.ptr b i):=by
   unfold Zbc;simp only[Nat.beq_refl];rw[Z8 (by omega)];simp
  rw[Zwo,decide_eq_true (by omega),cond_true,idx,Option.bind_some,Zc H,List.getElem?_map,List.getElem?_eq_getElem hil,show Option.map ZR (some l[i]) = some (ZR l[i]) from rfl,Option.bind_some,show asI .u8 (ZR l[i]) = some (l[i].toNat:Int) from rfl,Option.bind_some]
  by_cases hx:l[i] = 0
  ·rw[decide_eq_false (by rw[hx];decide),cond_false,hnext]
   refine ZuR H hz hl m (i + 1) (by omega) fun x hx'=>?_
   rw[←List.take_append_getElem hil,List.mem_append,List.mem_singleton] at hx'
   rcases hx' with hx' |rfl
   ·exact h0 x hx'
   ·exact hx
  ·have hn:l[i].toNat≠0:=fun e=>hx (UInt8.toNat_inj.1 (by simpa using e))
   rw[decide_eq_true (by omega),cond_true,if_neg]
   intro hall
   refine hx (hall _ ?_)
   rw[List.mem_take_iff_getElem]
   exact ⟨i,by omega,rfl⟩
def ZhK (n k:Nat):Option ByteArray:=if ∀ x∈(be8 n).take (8 - k),x = 0 then some ⟨((be8 n).drop (8 - k)).toArray⟩ else none
def Zmi (r:Option ByteArray):AVal:=.tup [.lit (.string (r.getD ⟨#[]⟩)),.lit (.bool r.isSome)]
theorem Z1q (n:Nat) {k:Nat} (h1:1≤k) (h2:k≤8) (h:Za):∃ g,Znn (n:Int) (k:Int) h = some (Zmi (ZhK n k),g):=by
 have Z:Zb (psh h (.cells (List.replicate 8 (.lit (.int .u8 0))))) h.length = some (List.replicate 8 (.lit (.int .u8 0))):=ZU h _
 obtain ⟨g,e1,e2,e3,e4⟩:=Z1s (n:=n) (k:=(k:Int)) Z
 rw[Zwn,decide_eq_false (by omega),cond_false,decide_eq_false (by omega),Zr1,cond_false,decide_eq_false (by omega),Zwq,cond_false]
 refine ⟨g,?_⟩
 refine (show _ = _ from e1).trans ?_
 have hw:IntKind.wrap .i64 (8 - (k:Int)) = ((8 - k:Nat):Int):=by rw[wrap_i64 (by omega) (by omega)];omega
 have hlen:((be8 n).map ZR).length = 8:=rfl
 have c1:ZdD 8 1 g (.ptr h.length 0) 0 ((8 - k:Nat):Int) = some (.sl 1 h.length 0 (8 - k)):=by
  unfold ZdD
  dsimp only
  rw[e2,Option.bind_some,Z8 (by rw[hlen];omega)]
  simp
 rw[Z5S,hw,c1,Option.bind_some]
 show ZkK (k:Int) h.length (.sl 1 h.length 0 (8 - k)) ((8 - k:Nat):Int) ((0:Nat):Int) g = _
 rw[ZuR e2 (show 8 - k≤(be8 n).length from by show 8 - k≤8;omega) (Nat.le_refl _) (8 - k) 0 (by omega) (by simp)]
 unfold ZhK
 by_cases hz:∀ x∈(be8 n).take (8 - k),x = 0
 ·rw[if_pos hz,if_pos hz,Z5R,hw]
  have c2:ZdD 8 1 g (.ptr h.length 0) ((8 - k:Nat):Int) 8 = some (.sl 1 h.length (8 - k) k):=by
   unfold ZdD
   dsimp only
   rw[e2,Option.bind_some,Z8 (by rw[hlen];omega)]
   have:(8 - ((8 - k:Nat):Int)).toNat = k:=by omega
   simp[this]
  have hb:ZcA g (.sl 1 h.length (8 - k) k) = some ⟨((be8 n).drop (8 - k)).toArray⟩:=by
   show (Zb g h.length).bind _ = _
   have hd:((be8 n).drop (8 - k)).length = k:=by rw[List.length_drop];show 8 - (8 - k) = k;omega
   rw[e2,Option.bind_some,←List.map_drop,←List.map_take,List.take_of_length_le (by omega),Zjx,Option.bind_some,Z8 hd];rfl
  rw[c2,Option.bind_some,hb];rfl
 ·rw[if_neg hz,if_neg hz];rfl
noncomputable def Zdh (n k:Int):Option ByteArray:=jn (if 0≤n∧1≤k∧k≤8 then ZhK n.toNat k.toNat else none)
theorem Zuk (n:Nat) {k:Nat} (h1:1≤k) (h2:k≤8):Zdh (n:Int) (k:Int) = ZhK n k:=by
 unfold Zdh
 rw[ZF,if_pos (by omega)];rfl
theorem Z1t (n k:Int) (h:Za):∃ g,Znn n k h = some (Zmi (Zdh n k),g):=by
 unfold Zdh
 rw[ZF]
 by_cases hc:0≤n∧1≤k∧k≤8
 ·rw[if_pos hc]
  obtain ⟨m,rfl⟩:=Int.eq_ofNat_of_zero_le hc.1
  obtain ⟨j,rfl⟩:=Int.eq_ofNat_of_zero_le (show 0≤k by omega)
  exact Z1q m (by omega) (by omega) h
 ·rw[if_neg hc]
  have bad:Znm n k true h = some (Zmi none,h):=by rw[Zwq,cond_true];rfl
  refine ⟨h,?_⟩
  rw[Zwn]
  by_cases h0:n < 0
  ·rw[decide_eq_true h0,cond_true,Zr1,cond_true,bad]
  ·rw[decide_eq_false h0,cond_false,Zr1]
   by_cases h1:k < 1
   ·rw[decide_eq_true h1,cond_true,bad]
   ·rw[decide_eq_false h1,cond_false,decide_eq_true (by omega),bad]
theorem Z1r (n k:Int) (h:Za):ACalls Tryz.prog 116 [.lit (.int .i64 n),.lit (.int .i64 k)] h fun e g=>e = .ret (Zmi (Zdh n k))∧g = h:=by
 obtain ⟨g,e⟩:=Z1t n k []
 exact Zkn rfl rfl ((Z5Q e selfR).mono fun e g h=>h.1) h
noncomputable def ZoN:XC:=.q fun R args h K=>match args with
 | [.lit (.int .i64 n),.lit (.int .i64 k)]=>K (.tup [(.lit (.string (((Zdh n k).getD ⟨#[]⟩)))),(.lit (.bool (((Zdh n k).isSome))))])
 |_=>none
theorem Zze:XC.Nat ZoN∧XC.Ok Tryz.prog 116 ZoN:=by
 refine ⟨fun R args h K=>?_,tc116,fun args h v hx=>?_⟩
 ·dsimp only;split<;>simp[Option.bind_assoc,mkP]
 ·dsimp only at hx;split at hx
  ·cases hx
   exact Z1r _ _ _
  ·cases hx
end Go.Proofs.YtogaiomakhapmaaGreat.AL
namespace Go.Proofs.YtogaiomakhapmaaGreat.AL
set_option maxRecDepth 100000
open Go
open Go.Proofs.Tryz
def u32 (b:BitVec 32):Int:=(b.toNat:Int)
theorem Zty (b:BitVec 32):0≤u32 b∧u32 b < 4294967296:=by
 have:=b.isLt
 unfold u32;omega
theorem Zjj {n:Nat} (h:n < 4294967296):IntKind.u32.wrap (n:Int) = (n:Int):=by
 simp only[IntKind.wrap,IntKind.signed,IntKind.bits];simp;omega
theorem ZhP (b:BitVec 32):BitVec.ofInt 32 (u32 b) = b:=by
 unfold u32
 rw[BitVec.ofInt_natCast];simp
theorem ZfK (a b:BitVec 32):ZcU .u32 (u32 a) (u32 b) = u32 (a ^^^ b):=by
 unfold ZcU
 show IntKind.u32.wrap ((BitVec.ofInt 32 (u32 a) ^^^ BitVec.ofInt 32 (u32 b)).toNat:Int) = _
 rw[ZhP,ZhP,Zjj (BitVec.isLt _)];rfl
theorem ZvO (a b:BitVec 32):ZdJ .u32 (u32 a) (u32 b) = u32 (a &&& b):=by
 unfold ZdJ
 show IntKind.u32.wrap ((BitVec.ofInt 32 (u32 a) &&& BitVec.ofInt 32 (u32 b)).toNat:Int) = _
 rw[ZhP,ZhP,Zjj (BitVec.isLt _)];rfl
def nibT:List (BitVec 32):=[0x00000000#32,0x1db71064#32,0x3b6e20c8#32,0x26d930ac#32,0x76dc4190#32,0x6b6b51f4#32,0x4db26158#32,0x5005713c#32,0xedb88320#32,0xf00f9344#32,0xd6d6a3e8#32,0xcb61b38c#32,0x9b64c2b0#32,0x86d3d2d4#32,0xa00ae278#32,0xbdbdf21c#32]
def Zfv (a:BitVec 32):BitVec 32:=nibT.getD (a &&& 15#32).toNat 0#32
def nibZ:List Int:=[0,498536548,997073096,651767980,1994146192,1802195444,1303535960,1342533948,3988292384,4027552580,3604390888,3412177804,2607071920,2262029012,2685067896,3183342108]
theorem Z1U:nibZ = nibT.map u32:=by decide
def Zmu:List AVal:=nibZ.map fun z=>.lit (.int .u32 z)
theorem Zu5 (a:BitVec 32):(a &&& 15#32).toNat < 16:=by
 rw[BitVec.toNat_and]
 have:(15#32).toNat = 2 ^ 4 - 1:=rfl
 rw[this,Nat.and_two_pow_sub_one_eq_mod];omega
theorem Z0s {n:Nat} {h:Za} {b:Nat} {cs vs:List AVal} (H:Zb h b = some cs) (hc:cs.length = n) (hv:vs.length = n) (ho:vs.all (·.one) = true):stn n h (.ptr b 0) vs = some (h.set b (.cells vs)):=by
 have e:Zbr cs 0 vs = vs:=by
  unfold Zbr
  rw[List.take_zero,List.nil_append,List.drop_of_length_le (by omega),List.append_nil]
 rw[Zcn H ho hv.symm (by omega),e]
noncomputable def Zx8:XE:={ T:=Zn [(65,r65),(158,Zuf)],C:=[],D:=[],Ms:=[],Ml:=[],Mo:=[],n:=9}
theorem Z93:XE.Ok Zx8 Tryz.prog:=⟨Zp (⟨Zci,⟨Z1k,trivial⟩⟩),trivial,Zq,trivial⟩
noncomputable def ZrI (n0:Int) (h:Za):Option (AVal×Za):=Zt Zx8 f113 [(.lit (.int .u32 n0))] h
theorem Z6K (n0:Int) (h:Za):ZrI n0 h =
 (stn 16 ((psh h (.cells [(.lit (.int .u32 0)),(.lit (.int .u32 0)),(.lit (.int .u32 0)),(.lit (.int .u32 0)),(.lit (.int .u32 0)),(.lit (.int .u32 0)),(.lit (.int .u32 0)),(.lit (.int .u32 0)),(.lit (.int .u32 0)),(.lit (.int .u32 0)),(.lit (.int .u32 0)),(.lit (.int .u32 0)),(.lit (.int .u32 0)),(.lit (.int .u32 0)),(.lit (.int .u32 0)),(.lit (.int .u32 0))]))) (.ptr h.length 0) ([(.lit (.int .u32 0)),(.lit (.int .u32 498536548)),(.lit (.int .u32 997073096)),(.lit (.int .u32 651767980)),(.lit (.int .u32 1994146192)),(.lit (.int .u32 1802195444)),(.lit (.int .u32 1303535960)),(.lit (.int .u32 1342533948)),(.lit (.int .u32 3988292384)),(.lit (.int .u32 4027552580)),(.lit (.int .u32 3604390888)),(.lit (.int .u32 3412177804)),(.lit (.int .u32 2607071920)),(.lit (.int .u32 2262029012)),(.lit (.int .u32 2685067896)),(.lit (.int .u32 3183342108))])).bind fun h1=>
 (ZeG 16 1 (.ptr h.length 0) (ZdJ .u32 n0 15)).bind fun p2=>
 (ld1 h1 p2).bind fun x3=>
 (asI .u32 x3).bind fun n4=>
 some ((.lit (.int .u32 n4)),h1):=by kernel_rfl
theorem Z6L {n0:Int} {h h':Za} {v:AVal} {R:AEnd→Za→Prop} (hx:ZrI n0 h = some (v,h')) (hR:HOk h→h.length≤h'.length→ABody.AEnds h h' (.ret v) R):ACalls Tryz.prog 113 [(.lit (.int .u32 n0))] h R:=Zu Z93 Zo (i:=113) (by rfl) (by kernel_rfl) (by kernel_rfl) hx hR
theorem Z1S (a:BitVec 32) (h:Za):∃ g,ZrI (u32 a) h = some (.lit (.int .u32 (u32 (Zfv a))),g):=by
 have Z:Zb (psh h (.cells (List.replicate 16 (.lit (.int .u32 0))))) h.length = some (List.replicate 16 (.lit (.int .u32 0))):=ZU h _
 have e1:=Z0s (n:=16) (vs:=Zmu) Z rfl rfl (by decide)
 have hk:=Zu5 a
 have e2:ZeG 16 1 (.ptr h.length 0) (ZdJ .u32 (u32 a) 15) = some (.ptr h.length (a &&& 15#32).toNat):=by
  rw[show (15:Int) = u32 15#32 from rfl,ZvO]
  unfold ZeG u32
  rw[Z8 (by omega)];simp
 have hv:Zmu[(a &&& 15#32).toNat]? = some (.lit (.int .u32 (u32 (Zfv a)))):=by
  have hl:(a &&& 15#32).toNat < nibT.length:=hk
  unfold Zmu Zfv
  rw[Z1U,List.getElem?_map,List.getElem?_map,List.getElem?_eq_getElem hl,List.getD_eq_getElem?_getD,List.getElem?_eq_getElem hl];rfl
 refine ⟨(psh h (.cells (List.replicate 16 (.lit (.int .u32 0))))).set h.length (.cells Zmu),?_⟩
 rw[Z6K]
 refine (congrArg (Option.bind · _) (show _ = _ from e1)).trans ?_
 rw[Option.bind_some,e2,Option.bind_some,Zc (Zm Z),hv,Option.bind_some]
 rfl
noncomputable def ZgO (n:Int):Option Int:=jn (if 0≤n∧n < 4294967296 then some (u32 (Zfv (BitVec.ofInt 32 n))) else none)
theorem Zu6 (a:BitVec 32):ZgO (u32 a) = some (u32 (Zfv a)):=by
 unfold ZgO
 rw[ZF,if_pos (Zty a),ZhP]
theorem Z1T {n z:Int} (h0:ZgO n = some z) (h:Za):ACalls Tryz.prog 113 [.lit (.int .u32 n)] h fun e g=>e = .ret (.lit (.int .u32 z))∧g = h:=by
 unfold ZgO at h0
 rw[ZF] at h0
 split at h0
 ·rename_i hb
  cases h0
  have hn:n = u32 (BitVec.ofInt 32 n):=by
   unfold u32
   obtain ⟨m,rfl⟩:=Int.eq_ofNat_of_zero_le hb.1
   rw[BitVec.ofInt_natCast,BitVec.toNat_ofNat,Nat.mod_eq_of_lt (by omega)]
  obtain ⟨g,e⟩:=Z1S (BitVec.ofInt 32 n) []
  rw[←hn] at e
  exact Zkn rfl rfl ((Z6L e selfR).mono fun e g h=>h.1) h
 ·cases h0
noncomputable def Zpe:XC:=.q fun R args h K=>match args with
 | [.lit (.int .u32 n)]=>(ZgO n).bind fun z=>K (.lit (.int .u32 z))
 |_=>none
theorem Zzv:XC.Nat Zpe∧XC.Ok Tryz.prog 113 Zpe:=by
 refine ⟨fun R args h K=>?_,tc113,fun args h v hx=>?_⟩
 ·dsimp only;split<;>simp[Option.bind_assoc,mkP]
 ·dsimp only at hx;split at hx
  ·obtain ⟨z,hopt,hx⟩:=Option.bind_eq_some_iff.1 hx
   cases hx
   exact Z1T hopt _
  ·cases hx
noncomputable def Zgx:XE:={ T:=Zn [(3,r3),(5,r5),(9,r9),(65,r65),(119,ZeR)],C:=[(113,Zpe)],D:=[],Ms:=[(9,[5])],Ml:=[(3,[5,11,12,13])],Mo:=[],n:=34}
theorem Ecrc_More_ok:XE.Ok Zgx Tryz.prog:=⟨Zp (⟨Z0,⟨ZdT,⟨Zz,⟨Zci,⟨Zft,trivial⟩⟩⟩⟩⟩),(⟨Zzv,trivial⟩),Zq,trivial⟩
noncomputable def c80:Code:=ZP f80
noncomputable def ZrJ (sum0:Int) (s1:ByteArray) (h:Za):Option (AVal×Za):=Zt Zgx f80 [(.lit (.int .u32 sum0)),(.lit (.string s1))] h
noncomputable def Znv (n5:Int) (t11:AVal) (t12:Int) (t13:Int) (h:Za):Option (AVal×Za):=Zl Zgx (.loop (ca (ca (cb (ca (cb (cb c80))))))) (AVal×Za) [(5,(.lit (.int .u32 n5))),(11,t11),(12,(.lit (.int .i64 t12))),(13,(.lit (.int .i64 t13)))] h (ZW 0 (Zi Zgx (cb (cb (cb c80))) (Zj Zgx f80)))
noncomputable def Zw2 (n5:Int) (h:Za):Option (AVal×Za):=jn (Zl Zgx (cb (cb (cb c80))) (AVal×Za) [(5,(.lit (.int .u32 n5)))] h (Zj Zgx f80))
theorem Z6O (sum0:Int) (s1:ByteArray) (h:Za):ZrJ sum0 s1 h =
 (Zbb (.sl 1 h.length 0 s1.size)).bind fun n1=>
 Znv (ZhR .u32 sum0) (.sl 1 h.length 0 s1.size) n1 0 ((psh h (.cells ((s1).data.toList.map ZR)))):=by kernel_rfl
theorem Zw3 (n5:Int) (t11:AVal) (t12:Int) (t13:Int) (h:Za):Znv n5 t11 t12 t13 h =
 bif (decide (t13 < t12)) then ((Zbc 1 t11 t13).bind fun p2=>
 (ld1 h p2).bind fun x3=>
 (asI .u8 x3).bind fun n4=>
 (ZgO (ZcU .u32 n5 (IntKind.wrap .u32 n4))).bind fun r5=>
 (ZgO (ZcU .u32 (ZbL .u32 (ZcU .u32 n5 (IntKind.wrap .u32 n4)) 4) r5)).bind fun r6=>
 Znv (ZcU .u32 (ZbL .u32 (ZcU .u32 (ZbL .u32 (ZcU .u32 n5 (IntKind.wrap .u32 n4)) 4) r5) 4) r6) t11 t12 (IntKind.wrap .i64 (t13 + 1)) h)
 else (Zw2 n5 h):=(ZbO Zgx Ecrc_More_ok.C.nat _ _ _ _ _).trans (by kernel_rfl)
theorem Z6Q (n5:Int) (h:Za):Zw2 n5 h =
 some ((.lit (.int .u32 (ZhR .u32 n5))),h):=(ZF _).trans (by kernel_rfl)
theorem Z6P {sum0:Int} {s1:ByteArray} {h h':Za} {v:AVal} {R:AEnd→Za→Prop} (hx:ZrJ sum0 s1 h = some (v,h')) (hR:HOk h→h.length≤h'.length→ABody.AEnds h h' (.ret v) R):ACalls Tryz.prog 80 [(.lit (.int .u32 sum0)),(.lit (.string s1))] h R:=Zu Ecrc_More_ok Zo (i:=80) (by rfl) (by kernel_rfl) (by kernel_rfl) hx hR
theorem Zu3 (a:BitVec 32):ZhR .u32 (u32 a) = u32 (~~~a):=by
 unfold ZhR
 show ZcU .u32 (u32 (BitVec.allOnes 32)) (u32 a) = _
 rw[ZfK,BitVec.allOnes_xor]
theorem ZtE (a:BitVec 32):ZbL .u32 (u32 a) 4 = u32 (a >>> 4):=by
 unfold ZbL u32
 rw[BitVec.toNat_ushiftRight,Nat.shiftRight_eq_div_pow]
 show ((a.toNat:Int).fdiv 16) = _
 rw[Int.fdiv_eq_ediv_of_nonneg _ (by omega)];omega
def ZlY (n:BitVec 32) (b:UInt8):BitVec 32:=
 let n:=n ^^^ BitVec.ofNat 32 b.toNat
 let n:=(n >>> 4) ^^^ Zfv n
 (n >>> 4) ^^^ Zfv n
def Zbd (a:BitVec 32) (l:List UInt8):BitVec 32:= ~~~(l.foldl ZlY (~~~a))
theorem ZuC {h:Za} {b:Nat} {l:List UInt8} (H:Zb h b = some (l.map ZR)) (hl:l.length≤4611686018427387904):∀ (m i:Nat) (a:BitVec 32),i + m = l.length→Znv (u32 a) (.sl 1 b 0 l.length) (l.length:Int) (i:Int) h = some (.lit (.int .u32 (u32 (~~~((l.drop i).foldl ZlY a)))),h)
 | 0,i,a,hi=>by
   rw[Zw3,decide_eq_false (by omega),cond_false,Z6Q,List.drop_eq_nil_of_le (by omega),Zu3];rfl
 |m + 1,i,a,hi=>by
  have hil:i < l.length:=by omega
  have hnext:IntKind.wrap .i64 ((i:Int) + 1) = ((i + 1:Nat):Int):=by rw[wrap_i64 (by omega) (by omega)];omega
  have idx:Zbc 1 (.sl 1 b 0 l.length) (i:Int) = some (.ptr b i):=by
   unfold Zbc;simp only[Nat.beq_refl];rw[Z8 (by omega)];simp
  have hb:l[i].toNat < 256:=l[i].toNat_lt
  have hw:IntKind.wrap .u32 (l[i].toNat:Int) = u32 (BitVec.ofNat 32 l[i].toNat):=by
   rw[Zjj (by omega)]
   unfold u32
   rw[BitVec.toNat_ofNat,Nat.mod_eq_of_lt (by omega)]
  rw[Zw3,decide_eq_true (by omega),cond_true,idx,Option.bind_some,Zc H,List.getElem?_map,List.getElem?_eq_getElem hil]
  rw[show Option.map ZR (some l[i]) = some (ZR l[i]) from rfl,Option.bind_some,show asI .u8 (ZR l[i]) = some (l[i].toNat:Int) from rfl,Option.bind_some,hw,ZfK,Zu6,Option.bind_some,ZtE,ZfK,Zu6,Option.bind_some,ZtE,ZfK,hnext,ZuC H hl m (i + 1) _ (by omega),List.drop_eq_getElem_cons hil]
  rfl
theorem Z2e (a:BitVec 32) {s:ByteArray} (hs:s.size≤4611686018427387904) (h:Za):ZrJ (u32 a) s h = some (.lit (.int .u32 (u32 (Zbd a s.data.toList))),psh h (.cells (s.data.toList.map ZR))):=by
 have hl:s.data.toList.length = s.size:=Array.length_toList
 rw[Z6O,Zu3]
 have:=ZuC (b:=h.length) (ZU h (s.data.toList.map ZR)) (by omega) s.data.toList.length 0 (~~~a) (by omega)
 rw[hl] at this
 exact this
end Go.Proofs.YtogaiomakhapmaaGreat.AL
namespace Go.Proofs.YtogaiomakhapmaaGreat.AL
set_option maxRecDepth 100000
open Go
open Go.Proofs.Tryz
noncomputable def ZgQ (n:Int) (s:ByteArray):Option Int:=jn (if (0≤n∧n < 4294967296)∧s.size≤4611686018427387904 then some (u32 (Zbd (BitVec.ofInt 32 n) s.data.toList)) else none)
theorem Zql (a:BitVec 32) {s:ByteArray} (hs:s.size≤4611686018427387904):ZgQ (u32 a) s = some (u32 (Zbd a s.data.toList)):=by
 unfold ZgQ
 rw[ZF,if_pos ⟨Zty a,hs⟩,ZhP]
theorem Z2f {n z:Int} {s:ByteArray} (h0:ZgQ n s = some z) (h:Za):ACalls Tryz.prog 80 [.lit (.int .u32 n),.lit (.string s)] h fun e g=>e = .ret (.lit (.int .u32 z))∧g = h:=by
 unfold ZgQ at h0
 rw[ZF] at h0
 split at h0
 ·rename_i hb
  cases h0
  have hn:n = u32 (BitVec.ofInt 32 n):=by
   unfold u32
   obtain ⟨m,rfl⟩:=Int.eq_ofNat_of_zero_le hb.1.1
   rw[BitVec.ofInt_natCast,BitVec.toNat_ofNat,Nat.mod_eq_of_lt (by omega)]
  have e:=Z2e (BitVec.ofInt 32 n) hb.2 []
  rw[←hn] at e
  exact Zkn rfl rfl ((Z6P e selfR).mono fun e g h=>h.1) h
 ·cases h0
noncomputable def ZlF:XC:=.q fun R args h K=>match args with
 | [.lit (.int .u32 n),.lit (.string s)]=>(ZgQ n s).bind fun z=>K (.lit (.int .u32 z))
 |_=>none
theorem Zte:XC.Nat ZlF∧XC.Ok Tryz.prog 80 ZlF:=by
 refine ⟨fun R args h K=>?_,tc80,fun args h v hx=>?_⟩
 ·dsimp only;split<;>simp[Option.bind_assoc,mkP]
 ·dsimp only at hx;split at hx
  ·obtain ⟨z,hopt,hx⟩:=Option.bind_eq_some_iff.1 hx
   cases hx
   exact Z2f hopt _
  ·cases hx
noncomputable def Zx9:XE:={ T:=Zn [(9,r9),(65,r65)],C:=[(80,ZlF)],D:=[],Ms:=[],Ml:=[],Mo:=[],n:=5}
theorem Z94:XE.Ok Zx9 Tryz.prog:=⟨Zp (⟨Zz,⟨Zci,trivial⟩⟩),(⟨Zte,trivial⟩),Zq,trivial⟩
noncomputable def ZkS (s0:ByteArray) (h:Za):Option (AVal×Za):=Zt Zx9 f123 [(.lit (.string s0))] h
theorem Z6M (s0:ByteArray) (h:Za):ZkS s0 h =
 (ZgQ 0 s0).bind fun r1=>
 some ((.lit (.int .u32 r1)),h):=by kernel_rfl
theorem Z6N {s0:ByteArray} {h h':Za} {v:AVal} {R:AEnd→Za→Prop} (hx:ZkS s0 h = some (v,h')) (hR:HOk h→h.length≤h'.length→ABody.AEnds h h' (.ret v) R):ACalls Tryz.prog 123 [(.lit (.string s0))] h R:=Zu Z94 Zo (i:=123) (by rfl) (by kernel_rfl) (by kernel_rfl) hx hR
noncomputable def Zpf:XC:=.q fun R args h K=>match args with
 | [.lit (.string a0)]=>(Zv (ZkS a0 h) h).bind fun r=>K r
 |_=>none
theorem Zzw:XC.Nat Zpf∧XC.Ok Tryz.prog 123 Zpf:=by
 refine ⟨fun R args h K=>?_,tc123,fun args h v hx=>?_⟩
 ·dsimp only;split<;>simp[Option.bind_assoc,mkP]
 ·dsimp only at hx;split at hx
  ·obtain ⟨r,hopt,hx⟩:=Option.bind_eq_some_iff.1 hx
   cases hx
   exact (by have hopt:=Zc7 hopt;exact Z6N hopt selfR)
  ·cases hx
noncomputable def Zgy:XE:={ T:=Zn [(3,r3),(5,r5),(9,r9),(65,r65),(119,ZeR),(153,Zug)],C:=[(123,Zpf)],D:=[],Ms:=[(8,[0,3])],Ml:=[(4,[0,3,4,8])],Mo:=[],n:=23}
theorem Ecrc_Close_ok:XE.Ok Zgy Tryz.prog:=⟨Zp (⟨Z0,⟨ZdT,⟨Zz,⟨Zci,⟨Zft,⟨Z1l,trivial⟩⟩⟩⟩⟩⟩),(⟨Zzw,trivial⟩),Zq,trivial⟩
noncomputable def c96:Code:=ZP f96
noncomputable def ZrL (s0:ByteArray) (h:Za):Option (AVal×Za):=Zt Zgy f96 [(.lit (.string s0))] h
noncomputable def Zi1 (s0:ByteArray) (b3:Nat) (n4:Int) (t8:Int) (h:Za):Option (AVal×Za):=Zl Zgy (.loop (ca (ca (cb (ca (cb (cb (cb c96)))))))) (AVal×Za) [(0,(.lit (.string s0))),(3,(.ptr b3 0)),(4,(.lit (.int .u32 n4))),(8,(.lit (.int .i64 t8)))] h (ZW 0 (Zi Zgy (cb (cb (cb (cb c96)))) (Zj Zgy f96)))
noncomputable def ZrK (s0:ByteArray) (b3:Nat) (h:Za):Option (AVal×Za):=jn (Zl Zgy (cb (cb (cb (cb c96)))) (AVal×Za) [(0,(.lit (.string s0))),(3,(.ptr b3 0))] h (Zj Zgy f96))
theorem Z6R (s0:ByteArray) (h:Za):ZrL s0 h =
 (Zv (ZkS s0 ((psh h (.cells [(.lit (.int .u8 0)),(.lit (.int .u8 0)),(.lit (.int .u8 0)),(.lit (.int .u8 0))])))) ((psh h (.cells [(.lit (.int .u8 0)),(.lit (.int .u8 0)),(.lit (.int .u8 0)),(.lit (.int .u8 0))])))).bind fun r1=>
 (asI .u32 r1).bind fun n2=>
 Zi1 s0 h.length n2 0 ((psh h (.cells [(.lit (.int .u8 0)),(.lit (.int .u8 0)),(.lit (.int .u8 0)),(.lit (.int .u8 0))]))):=by kernel_rfl
theorem Zw4 (s0:ByteArray) (b3:Nat) (n4:Int) (t8:Int) (h:Za):Zi1 s0 b3 n4 t8 h =
 bif (decide (t8 < 4)) then ((req (0≤(IntKind.wrap .i64 (8 * t8)))).bind fun u3=>
 (ZeG 4 1 (.ptr b3 0) t8).bind fun p4=>
 (st1 h p4 (.lit (.int .u8 (IntKind.wrap .u8 (ZbL .u32 n4 (IntKind.wrap .i64 (8 * t8))))))).bind fun h5=>
 Zi1 s0 b3 n4 (IntKind.wrap .i64 (t8 + 1)) h5)
 else (ZrK s0 b3 h):=(ZbO Zgy Ecrc_Close_ok.C.nat _ _ _ _ _).trans (by kernel_rfl)
theorem Z6T (s0:ByteArray) (b3:Nat) (h:Za):ZrK s0 b3 h =
 (ZdD 4 1 h (.ptr b3 0) 0 4).bind fun v6=>
 (ZcA h v6).bind fun s7=>
 (req (s0.size + s7.size≤9223372036854775807)).bind fun u8=>
 some ((.lit (.string (s0++s7))),h):=(ZF _).trans (by kernel_rfl)
theorem Z6S {s0:ByteArray} {h h':Za} {v:AVal} {R:AEnd→Za→Prop} (hx:ZrL s0 h = some (v,h')) (hR:HOk h→h.length≤h'.length→ABody.AEnds h h' (.ret v) R):ACalls Tryz.prog 96 [(.lit (.string s0))] h R:=Zu Ecrc_Close_ok Zo (i:=96) (by rfl) (by kernel_rfl) (by kernel_rfl) hx hR
def ZcC (s:ByteArray):BitVec 32:=Zbd 0#32 s.data.toList
theorem Z0l {s:ByteArray} (hs:s.size≤4611686018427387904) (h:Za):ZkS s h = some (.lit (.int .u32 (u32 (ZcC s))),h):=by
 rw[Z6M,show (0:Int) = u32 0#32 from rfl,Zql _ hs];rfl
def ZL (s:ByteArray) (i:Nat):UInt8:=UInt8.ofNat ((ZcC s).toNat / 2 ^ (8 * i))
def Zf1 (s:ByteArray):ByteArray:=s++(⟨#[ZL s 0,ZL s 1,ZL s 2,ZL s 3]⟩:ByteArray)
theorem Z0m (s:ByteArray) (i:Nat):IntKind.wrap .u8 (((ZcC s).toNat / 2 ^ (8 * i):Nat):Int) = ((ZL s i).toNat:Int):=by
 rw[Zg8]
 unfold ZL
 simp
theorem ZjY (s:ByteArray) {i:Nat} (hi:i < 4):IntKind.wrap .u8 (ZbL .u32 (u32 (ZcC s)) (IntKind.wrap .i64 (8 * (i:Int)))) = ((ZL s i).toNat:Int):=by
 rw[←Z0m,wrap_i64 (by omega) (by omega)]
 congr 1
 unfold ZbL u32
 have e:min (8 * (i:Int)).toNat IntKind.u32.bits = 8 * i:=by
  show min (8 * (i:Int)).toNat 32 = _
  omega
 rw[e]
 have:((2:Int) ^ (8 * i)) = ((2 ^ (8 * i):Nat):Int):=by simp
 rw[this,Int.fdiv_eq_ediv_of_nonneg _ (Int.natCast_nonneg _)]
 exact (Int.natCast_ediv _ _).symm
theorem Z3G {s:ByteArray} (hs:s.size≤4611686018427387904) (h:Za):∃ g,ZrL s h = some (.lit (.string (Zf1 s)),g):=by
 have Z:Zb (psh h (.cells [(.lit (.int .u8 0)),(.lit (.int .u8 0)),(.lit (.int .u8 0)),(.lit (.int .u8 0))])) h.length = some [(.lit (.int .u8 0)),(.lit (.int .u8 0)),(.lit (.int .u8 0)),(.lit (.int .u8 0))]:=ZU h _
 have step:∀ (i:Nat) (g:Za) (cs:List AVal),i < 4→Zb g h.length = some cs→cs.length = 4→Zi1 s h.length (u32 (ZcC s)) (i:Int) g = Zi1 s h.length (u32 (ZcC s)) ((i + 1:Nat):Int) (g.set h.length (.cells (cs.set i (ZR (ZL s i))))):=fun i g cs hi H hc=>by
  have hnext:IntKind.wrap .i64 ((i:Int) + 1) = ((i + 1:Nat):Int):=by rw[wrap_i64 (by omega) (by omega)];omega
  rw[Zw4,decide_eq_true (by omega),cond_true,Z8 (by rw[wrap_i64 (by omega) (by omega)];omega),Option.bind_some,ZjY s hi]
  have ix:ZeG 4 1 (.ptr h.length 0) (i:Int) = some (.ptr h.length i):=by
   unfold ZeG;rw[Z8 (by omega)];simp
  rw[ix,Option.bind_some,show (AVal.lit (.int .u8 ((ZL s i).toNat:Int))) = ZR (ZL s i) from rfl,Zbq H rfl (by omega),Option.bind_some,hnext]
 rw[Z6R,Z0l hs,ZbI]
 show ∃ g,Zi1 s h.length (u32 (ZcC s)) ((0:Nat):Int) _ = _
 rw[step 0 _ _ (by omega) Z rfl,step 1 _ _ (by omega) (Zm Z) rfl,step 2 _ _ (by omega) (Zm (Zm Z)) rfl,step 3 _ _ (by omega) (Zm (Zm (Zm Z))) rfl]
 generalize hg:List.set (List.set (List.set (List.set (psh h (.cells [(.lit (.int .u8 0)),(.lit (.int .u8 0)),(.lit (.int .u8 0)),(.lit (.int .u8 0))])) h.length _) h.length _) h.length _) h.length _ = g
 have F:Zb g h.length = some ([ZL s 0,ZL s 1,ZL s 2,ZL s 3].map ZR):=by
  rw[←hg]
  exact Zm (Zm (Zm (Zm Z)))
 have hb:ZcA g (.sl 1 h.length 0 4) = some (⟨#[ZL s 0,ZL s 1,ZL s 2,ZL s 3]⟩:ByteArray):=by
  show (Zb g h.length).bind _ = _
  rw[F,Option.bind_some]
  exact (congrArg (Option.bind · _) (Zjx [ZL s 0,ZL s 1,ZL s 2,ZL s 3])).trans rfl
 have hz:(⟨#[ZL s 0,ZL s 1,ZL s 2,ZL s 3]⟩:ByteArray).size = 4:=rfl
 rw[Zw4]
 show ∃ g',ZrK s h.length g = _
 rw[Z6T]
 have hcut:ZdD 4 1 g (.ptr h.length 0) 0 4 = some (.sl 1 h.length 0 4):=by
  unfold ZdD
  dsimp only
  rw[F,Option.bind_some,Z8 (by simp)];rfl
 rw[hcut,Option.bind_some,hb,Option.bind_some,Z8 (by omega),Option.bind_some]
 exact ⟨g,rfl⟩
noncomputable def Zfb (s:ByteArray):Option ByteArray:=jn (if s.size≤4611686018427387904 then some (Zf1 s) else none)
theorem ZqS {s:ByteArray} (hs:s.size≤4611686018427387904):Zfb s = some (Zf1 s):=by unfold Zfb;rw[ZF,if_pos hs]
theorem Z3H {s z:ByteArray} (h0:Zfb s = some z) (h:Za):ACalls Tryz.prog 96 [.lit (.string s)] h fun e g=>e = .ret (.lit (.string z))∧g = h:=by
 unfold Zfb at h0
 rw[ZF] at h0
 split at h0
 ·rename_i hb
  cases h0
  obtain ⟨g,e⟩:=Z3G hb []
  exact Zkn rfl rfl ((Z6S e selfR).mono fun e g h=>h.1) h
 ·cases h0
noncomputable def Zjo:XC:=.q fun R args h K=>match args with
 | [.lit (.string s)]=>(Zfb s).bind fun z=>K (.lit (.string z))
 |_=>none
theorem Zpg:XC.Nat Zjo∧XC.Ok Tryz.prog 96 Zjo:=by
 refine ⟨fun R args h K=>?_,tc96,fun args h v hx=>?_⟩
 ·dsimp only;split<;>simp[Option.bind_assoc,mkP]
 ·dsimp only at hx;split at hx
  ·obtain ⟨z,hopt,hx⟩:=Option.bind_eq_some_iff.1 hx
   cases hx
   exact Z3H hopt _
  ·cases hx
theorem ZqT (s:ByteArray):(Zf1 s).size = s.size + 4:=ByteArray.size_append
end Go.Proofs.YtogaiomakhapmaaGreat.AL
namespace Go.Proofs.YtogaiomakhapmaaGreat.AL
open Go
end Go.Proofs.YtogaiomakhapmaaGreat.AL
namespace Go.Proofs.YtogaiomakhapmaaGreat.AL
set_option maxRecDepth 100000
open Go
open Go.Proofs.Tryz
noncomputable def ZiM:XE:={ T:=Zn [(3,r3),(4,r4),(9,r9),(21,r21)],C:=[(96,Zjo)],D:=[],Ms:=[],Ml:=[],Mo:=[(1006,[0,9])],n:=15}
theorem Z9c:XE.Ok ZiM Tryz.prog:=⟨Zp (⟨Z0,⟨Z1,⟨Zz,⟨Zud,trivial⟩⟩⟩⟩),(⟨Zpg,trivial⟩),Zq,trivial⟩
noncomputable def c71:Code:=ZP f71
noncomputable def Zit (size0:Int) (h:Za):Option (AVal×Za):=Zt ZiM f71 [(.lit (.int .i64 size0))] h
noncomputable def Znk (size0:Int) (t9:Bool) (h:Za):Option (AVal×Za):=jo ZiM 1 (Zk (ca (ca (cb c71)))) ((Zk (ca (ca (cb c71)))).toList.drop 6) 6 [(0,(.lit (.int .i64 size0))),(9,(.lit (.bool t9)))] h (kN (Zi ZiM (cb (ca (cb c71))) (Zi ZiM (cb (cb c71)) (Zj ZiM f71))))
theorem Zwm (size0:Int) (h:Za):Zit size0 h =
 bif (decide (size0 < 1)) then (Znk size0 true h)
 else (Znk size0 (decide (size0 > 64)) h):=by kernel_rfl
theorem Zrz (size0:Int) (t9:Bool) (h:Za):Znk size0 t9 h =
 bif t9 then (some ((.tup [(.lit (.string (⟨#[]⟩:ByteArray))),(.lit (.bool false))]),h))
 else ((req ((⟨#[67,72,65,73,78,49]⟩:ByteArray).size + (Utf8.encode (IntKind.wrap .i32 size0)).size≤9223372036854775807)).bind fun u1=>
 (Zfb ((⟨#[67,72,65,73,78,49]⟩:ByteArray)++(Utf8.encode (IntKind.wrap .i32 size0)))).bind fun r2=>
 some ((.tup [(.lit (.string r2)),(.lit (.bool true))]),h)):=(ZV ..).trans (by kernel_rfl)
theorem Z5P {size0:Int} {h h':Za} {v:AVal} {R:AEnd→Za→Prop} (hx:Zit size0 h = some (v,h')) (hR:HOk h→h.length≤h'.length→ABody.AEnds h h' (.ret v) R):ACalls Tryz.prog 71 [(.lit (.int .i64 size0))] h R:=Zu Z9c Zo (i:=71) (by rfl) (by kernel_rfl) (by kernel_rfl) hx hR
noncomputable def Zfk:XE:={ T:=Zn [(3,r3),(4,r4),(9,r9),(65,r65),(67,r67)],C:=[(96,Zjo),(116,ZoN)],D:=[],Ms:=[],Ml:=[],Mo:=[(3006,[1,4,6,26]),(3011,[4,6,31])],n:=37}
theorem Z92:XE.Ok Zfk Tryz.prog:=⟨Zp (⟨Z0,⟨Z1,⟨Zz,⟨Zci,⟨Zdg,trivial⟩⟩⟩⟩⟩),(⟨Zpg,⟨Zze,trivial⟩⟩),Zq,trivial⟩
noncomputable def c85:Code:=ZP f85
noncomputable def ZkQ (x0:List AVal) (h:Za):Option (AVal×Za):=Zt Zfk f85 [(.agg x0)] h
noncomputable def ZrH (x1:Nat) (n4:ByteArray) (c6:ByteArray) (t26:Bool) (h:Za):Option (AVal×Za):=jo Zfk 3 (Zk (ca (ca (cb (cb (cb c85)))))) ((Zk (ca (ca (cb (cb (cb c85)))))).toList.drop 6) 6 [(1,(.ptr x1 0)),(4,(.lit (.string n4))),(6,(.lit (.string c6))),(26,(.lit (.bool t26)))] h (kN (Zi Zfk (cb (ca (cb (cb (cb c85))))) (Zi Zfk (cb (cb (cb (cb c85)))) (Zj Zfk f85))))
noncomputable def ZrG (n4:ByteArray) (c6:ByteArray) (t31:Bool) (h:Za):Option (AVal×Za):=jo Zfk 3 (Zk (ca (ca (cb (cb (cb c85)))))) ((Zk (ca (ca (cb (cb (cb c85)))))).toList.drop 11) 11 [(4,(.lit (.string n4))),(6,(.lit (.string c6))),(31,(.lit (.bool t31)))] h (kN (Zi Zfk (cb (ca (cb (cb (cb c85))))) (Zi Zfk (cb (cb (cb (cb c85)))) (Zj Zfk f85))))
theorem Z6G (x0:List AVal) (h:Za):ZkQ x0 h =
 (ld1 ((psh h (.cells x0))) (.ptr h.length 0)).bind fun x2=>
 (asI .i64 x2).bind fun n3=>
 (ld1 ((psh h (.cells x0))) (.ptr h.length 1)).bind fun x4=>
 (asI .u32 x4).bind fun n5=>
 bif (!(((Zdh n3 8).isSome))) then (ZrH h.length (((Zdh n3 8).getD ⟨#[]⟩)) (((Zdh (IntKind.wrap .i64 n5) 4).getD ⟨#[]⟩)) true ((psh h (.cells x0))))
 else (ZrH h.length (((Zdh n3 8).getD ⟨#[]⟩)) (((Zdh (IntKind.wrap .i64 n5) 4).getD ⟨#[]⟩)) (!(((Zdh (IntKind.wrap .i64 n5) 4).isSome))) ((psh h (.cells x0)))):=by kernel_rfl
theorem Z6J (x1:Nat) (n4:ByteArray) (c6:ByteArray) (t26:Bool) (h:Za):ZrH x1 n4 c6 t26 h =
 bif t26 then (ZrG n4 c6 true h)
 else ((ld1 h (.ptr x1 0)).bind fun x6=>
 (asI .i64 x6).bind fun n7=>
 ZrG n4 c6 (decide (n7 > 4611686018427387904)) h):=(ZV ..).trans (by kernel_rfl)
theorem Z6I (n4:ByteArray) (c6:ByteArray) (t31:Bool) (h:Za):ZrG n4 c6 t31 h =
 bif t31 then (some ((.tup [(.lit (.string (⟨#[]⟩:ByteArray))),(.lit (.bool false))]),h))
 else ((req ((⟨#[0]⟩:ByteArray).size + n4.size≤9223372036854775807)).bind fun u8=>
 (req (((⟨#[0]⟩:ByteArray)++n4).size + c6.size≤9223372036854775807)).bind fun u9=>
 (Zfb (((⟨#[0]⟩:ByteArray)++n4)++c6)).bind fun r10=>
 some ((.tup [(.lit (.string r10)),(.lit (.bool true))]),h)):=(ZV ..).trans (by kernel_rfl)
theorem Z6H {x0:List AVal} {h h':Za} {v:AVal} {R:AEnd→Za→Prop} (hx:ZkQ x0 h = some (v,h')) (hR:HOk h→h.length≤h'.length→ABody.AEnds h h' (.ret v) R):ACalls Tryz.prog 85 [(.agg x0)] h R:=Zu Z92 Zo (i:=85) (by rfl) (by kernel_rfl) (by kernel_rfl) hx hR
noncomputable def Zlm:XE:={ T:=Zn [(3,r3),(4,r4)],C:=[],D:=[],Ms:=[],Ml:=[],Mo:=[(1006,[8])],n:=9}
theorem Z9z:XE.Ok Zlm Tryz.prog:=⟨Zp (⟨Z0,⟨Z1,trivial⟩⟩),trivial,Zq,trivial⟩
noncomputable def ZqY:Code:=ZP f134
noncomputable def Zi0 (size0:Int) (h:Za):Option (AVal×Za):=Zt Zlm f134 [(.lit (.int .i64 size0))] h
noncomputable def ZrD (t8:Bool) (h:Za):Option (AVal×Za):=jo Zlm 1 (Zk (ca (cb ZqY))) ((Zk (ca (cb ZqY))).toList.drop 6) 6 [(8,(.lit (.bool t8)))] h (kN (Zi Zlm (cb (cb ZqY)) (Zj Zlm f134)))
theorem Z66 (size0:Int) (h:Za):Zi0 size0 h =
 bif (decide (size0≥1)) then (ZrD (decide (size0≤64)) h)
 else (ZrD false h):=by kernel_rfl
theorem Z68 (t8:Bool) (h:Za):ZrD t8 h =
 some ((.lit (.bool t8)),h):=(ZV ..).trans (by kernel_rfl)
theorem Z67 {size0:Int} {h h':Za} {v:AVal} {R:AEnd→Za→Prop} (hx:Zi0 size0 h = some (v,h')) (hR:HOk h→h.length≤h'.length→ABody.AEnds h h' (.ret v) R):ACalls Tryz.prog 134 [(.lit (.int .i64 size0))] h R:=Zu Z9z Zo (i:=134) (by rfl) (by kernel_rfl) (by kernel_rfl) hx hR
noncomputable def Zpa:XC:=.q fun R args h K=>match args with
 | [.lit (.int .i64 a0)]=>(Zv (Zi0 a0 h) h).bind fun r=>K r
 |_=>none
theorem Zzr:XC.Nat Zpa∧XC.Ok Tryz.prog 134 Zpa:=by
 refine ⟨fun R args h K=>?_,tc134,fun args h v hx=>?_⟩
 ·dsimp only;split<;>simp[Option.bind_assoc,mkP]
 ·dsimp only at hx;split at hx
  ·obtain ⟨r,hopt,hx⟩:=Option.bind_eq_some_iff.1 hx
   cases hx
   exact (by have hopt:=Zc7 hopt;exact Z67 hopt selfR)
  ·cases hx
noncomputable def Zx7:XE:={ T:=Zn [(3,r3),(4,r4),(9,r9)],C:=[],D:=[],Ms:=[],Ml:=[],Mo:=[],n:=8}
theorem Z91:XE.Ok Zx7 Tryz.prog:=⟨Zp (⟨Z0,⟨Z1,⟨Zz,trivial⟩⟩⟩),trivial,Zq,trivial⟩
noncomputable def ZkP (r0:ByteArray) (t1:AVal) (h:Za):Option (AVal×Za):=Zt Zx7 f133 [(.lit (.string r0)),t1] h
theorem Z69 (r0:ByteArray) (t1:AVal) (h:Za):ZkP r0 t1 h =
 (ld1 h t1).bind fun x1=>
 (asI .i64 x1).bind fun n2=>
 some ((.lit (.bool (!decide ((r0.size:Int) = n2)))),h):=by kernel_rfl
theorem Z6A {r0:ByteArray} {t1:AVal} {h h':Za} {v:AVal} {R:AEnd→Za→Prop} (hx:ZkP r0 t1 h = some (v,h')) (hR:HOk h→h.length≤h'.length→ABody.AEnds h h' (.ret v) R):ACalls Tryz.prog 133 [(.lit (.string r0)),t1] h R:=Zu Z91 Zo (i:=133) (by rfl) (by kernel_rfl) (by kernel_rfl) hx hR
noncomputable def Zpb:XC:=.q fun R args h K=>match args with
 | [.lit (.string a0),a1]=>(Zv (ZkP a0 a1 h) h).bind fun r=>K r
 |_=>none
theorem Zzt:XC.Nat Zpb∧XC.Ok Tryz.prog 133 Zpb:=by
 refine ⟨fun R args h K=>?_,Z0g,fun args h v hx=>?_⟩
 ·dsimp only;split<;>simp[Option.bind_assoc,mkP]
 ·dsimp only at hx;split at hx
  ·obtain ⟨r,hopt,hx⟩:=Option.bind_eq_some_iff.1 hx
   cases hx
   exact (by have hopt:=Zc7 hopt;exact Z6A hopt selfR)
  ·cases hx
noncomputable def Eslices_IndexFunc_string_string:XE:={ T:=Zn [(3,r3),(4,r4),(9,r9),(52,r52),(85,r85)],C:=[(133,Zpb)],D:=[],Ms:=[(7,[])],Ml:=[(2,[0,1,7,8])],Mo:=[],n:=19}
theorem Eslices_IndexFunc_string_string_ok:XE.Ok Eslices_IndexFunc_string_string Tryz.prog:=⟨Zp (⟨Z0,⟨Z1,⟨Zz,⟨Zby,⟨ZpZ,trivial⟩⟩⟩⟩⟩),(⟨Zzt,trivial⟩),Zq,trivial⟩
noncomputable def ZqX:Code:=ZP f143
noncomputable def ZkI (s0:AVal) (f1:AVal) (h:Za):Option (AVal×Za):=Zt Eslices_IndexFunc_string_string f143 [s0,f1] h
noncomputable def ZkH (s0:AVal) (f1:AVal) (t7:Int) (t8:Int) (h:Za):Option (AVal×Za):=Zl Eslices_IndexFunc_string_string (.loop (ca (ca (cb (ca (cb ZqX)))))) (AVal×Za) [(0,s0),(1,f1),(7,(.lit (.int .i64 t7))),(8,(.lit (.int .i64 t8)))] h (ZW 0 (Zi Eslices_IndexFunc_string_string (cb (cb ZqX)) (Zj Eslices_IndexFunc_string_string f143)))
noncomputable def Zwk (h:Za):Option (AVal×Za):=jn (Zl Eslices_IndexFunc_string_string (cb (cb ZqX)) (AVal×Za) [] h (Zj Eslices_IndexFunc_string_string f143))
theorem Z5K (s0:AVal) (f1:AVal) (h:Za):ZkI s0 f1 h =
 (Zbb s0).bind fun n1=>
 ZkH s0 f1 n1 0 h:=by kernel_rfl
theorem Zwl (s0:AVal) (f1:AVal) (t7:Int) (t8:Int) (h:Za):ZkH s0 f1 t7 t8 h =
 bif (decide (t8 < t7)) then ((Zbc 1 s0 t8).bind fun p2=>
 (ld1 h p2).bind fun x3=>
 (asS x3).bind fun s4=>
 ZmM Eslices_IndexFunc_string_string.C Eslices_IndexFunc_string_string.Y f1 [(.lit (.string s4))] h fun r5 h6=>
 (asB r5).bind fun b7=>
 bif b7 then (some ((.lit (.int .i64 t8)),h6))
 else (ZkH s0 f1 t7 (IntKind.wrap .i64 (t8 + 1)) h6))
 else (Zwk h):=(ZbO Eslices_IndexFunc_string_string Eslices_IndexFunc_string_string_ok.C.nat _ _ _ _ _).trans (by kernel_rfl)
theorem Z5M (h:Za):Zwk h =
 some ((.lit (.int .i64 (-1))),h):=(ZF _).trans (by kernel_rfl)
theorem Z5L {s0:AVal} {f1:AVal} {h h':Za} {v:AVal} {R:AEnd→Za→Prop} (hx:ZkI s0 f1 h = some (v,h')) (hR:HOk h→h.length≤h'.length→ABody.AEnds h h' (.ret v) R):ACalls Tryz.prog 143 [s0,f1] h R:=Zu Eslices_IndexFunc_string_string_ok Zo (i:=143) (by rfl) (by kernel_rfl) (by kernel_rfl) hx hR
noncomputable def ZoK:XC:=.l fun R args h K=>match args with
 | [a0,a1]=>(ZkI a0 a1 h).bind fun r=>K r.1 r.2
 |_=>none
theorem Zzb:XC.Nat ZoK∧XC.Ok Tryz.prog 143 ZoK:=by
 refine ⟨fun R args h K=>?_,tc143,fun args h v h' hx=>?_⟩
 ·dsimp only;split<;>simp[Option.bind_assoc,mkP]
 ·dsimp only at hx;split at hx
  ·obtain ⟨r,hopt,hx⟩:=Option.bind_eq_some_iff.1 hx
   simp only[mkP,Option.some.injEq,Prod.mk.injEq] at hx
   obtain ⟨rfl,rfl⟩:=hx
   exact (by obtain ⟨v,h'⟩:=r;exact Z5L hopt selfR)
  ·cases hx
noncomputable def Zxr:XE:={ T:=Zn [(3,r3),(4,r4),(9,r9),(52,r52),(85,r85)],C:=[(143,ZoK)],D:=[],Ms:=[],Ml:=[],Mo:=[],n:=9}
theorem Z9b:XE.Ok Zxr Tryz.prog:=⟨Zp (⟨Z0,⟨Z1,⟨Zz,⟨Zby,⟨ZpZ,trivial⟩⟩⟩⟩⟩),(⟨Zzb,trivial⟩),Zq,trivial⟩
noncomputable def ZkJ (s0:AVal) (f1:AVal) (h:Za):Option (AVal×Za):=Zt Zxr f135 [s0,f1] h
theorem Z5N (s0:AVal) (f1:AVal) (h:Za):ZkJ s0 f1 h =
 (ZkI s0 f1 h).bind fun r1=>
 (asI .i64 r1.1).bind fun n2=>
 some ((.lit (.bool (decide (n2≥0)))),r1.2):=by kernel_rfl
theorem Z5O {s0:AVal} {f1:AVal} {h h':Za} {v:AVal} {R:AEnd→Za→Prop} (hx:ZkJ s0 f1 h = some (v,h')) (hR:HOk h→h.length≤h'.length→ABody.AEnds h h' (.ret v) R):ACalls Tryz.prog 135 [s0,f1] h R:=Zu Z9b Zo (i:=135) (by rfl) (by kernel_rfl) (by kernel_rfl) hx hR
noncomputable def ZoL:XC:=.l fun R args h K=>match args with
 | [a0,a1]=>(ZkJ a0 a1 h).bind fun r=>K r.1 r.2
 |_=>none
theorem Zzc:XC.Nat ZoL∧XC.Ok Tryz.prog 135 ZoL:=by
 refine ⟨fun R args h K=>?_,tc135,fun args h v h' hx=>?_⟩
 ·dsimp only;split<;>simp[Option.bind_assoc,mkP]
 ·dsimp only at hx;split at hx
  ·obtain ⟨r,hopt,hx⟩:=Option.bind_eq_some_iff.1 hx
   simp only[mkP,Option.some.injEq,Prod.mk.injEq] at hx
   obtain ⟨rfl,rfl⟩:=hx
   exact (by obtain ⟨v,h'⟩:=r;exact Z5O hopt selfR)
  ·cases hx
noncomputable def ZoE:XC:=.q fun R args h K=>match args with
 | [a0,.lit (.string a1)]=>(ZM (ZkG a0 a1 h) h).bind fun r=>K r
 |_=>none
theorem ZyV:XC.Nat ZoE∧XC.Ok Tryz.prog 136 ZoE:=by
 refine ⟨fun R args h K=>?_,tc136,fun args h v hx=>?_⟩
 ·dsimp only;split<;>simp[Option.bind_assoc,mkP]
 ·dsimp only at hx;split at hx
  ·obtain ⟨r,hopt,hx⟩:=Option.bind_eq_some_iff.1 hx
   cases hx
   exact (by obtain ⟨h',hopt,hg,hc⟩:=Zdq hopt;exact Z5C hopt (Zdr hg hc))
  ·cases hx
noncomputable def Zdw:XE:={ T:=Zn [(3,r3),(4,r4),(9,r9),(21,r21),(52,r52),(85,r85)],C:=[(96,Zjo),(134,Zpa),(135,ZoL),(136,ZoE)],D:=[],Ms:=[],Ml:=[],Mo:=[(2008,[1,6,15]),(2013,[1,6,20]),(2018,[1,25])],n:=34}
theorem Z90:XE.Ok Zdw Tryz.prog:=⟨Zp (⟨Z0,⟨Z1,⟨Zz,⟨Zud,⟨Zby,⟨ZpZ,trivial⟩⟩⟩⟩⟩⟩),(⟨Zpg,⟨Zzr,⟨Zzc,⟨ZyV,trivial⟩⟩⟩⟩),Zq,trivial⟩
noncomputable def Zeb:Code:=ZP f114
noncomputable def ZkR (size0:Int) (l1:AVal) (h:Za):Option (AVal×Za):=Zt Zdw f114 [(.lit (.int .i64 size0)),l1] h
noncomputable def ZrF (l1:AVal) (other6_0:Nat) (t15:Bool) (h:Za):Option (AVal×Za):=jo Zdw 2 (Zk (ca (ca (cb (cb Zeb))))) ((Zk (ca (ca (cb (cb Zeb))))).toList.drop 8) 8 [(1,l1),(6,(.fn (.func 133) [] [(.ptr other6_0 0)])),(15,(.lit (.bool t15)))] h (kN (Zi Zdw (cb (ca (cb (cb Zeb)))) (Zi Zdw (cb (cb (cb Zeb))) (Zj Zdw f114))))
noncomputable def ZrE (l1:AVal) (other6_0:Nat) (t20:Bool) (h:Za):Option (AVal×Za):=jo Zdw 2 (Zk (ca (ca (cb (cb Zeb))))) ((Zk (ca (ca (cb (cb Zeb))))).toList.drop 13) 13 [(1,l1),(6,(.fn (.func 133) [] [(.ptr other6_0 0)])),(20,(.lit (.bool t20)))] h (kN (Zi Zdw (cb (ca (cb (cb Zeb)))) (Zi Zdw (cb (cb (cb Zeb))) (Zj Zdw f114))))
noncomputable def Znu (l1:AVal) (t25:Bool) (h:Za):Option (AVal×Za):=jo Zdw 2 (Zk (ca (ca (cb (cb Zeb))))) ((Zk (ca (ca (cb (cb Zeb))))).toList.drop 18) 18 [(1,l1),(25,(.lit (.bool t25)))] h (kN (Zi Zdw (cb (ca (cb (cb Zeb)))) (Zi Zdw (cb (cb (cb Zeb))) (Zj Zdw f114))))
theorem Z6B (size0:Int) (l1:AVal) (h:Za):ZkR size0 l1 h =
 (ld1 ((psh h (.cells [(.lit (.int .i64 size0))]))) (.ptr h.length 0)).bind fun x1=>
 (asI .i64 x1).bind fun n2=>
 (Zv (Zi0 n2 ((psh h (.cells [(.lit (.int .i64 size0))])))) ((psh h (.cells [(.lit (.int .i64 size0))])))).bind fun r3=>
 (asB r3).bind fun b4=>
 bif (!b4) then (ZrF l1 h.length true ((psh h (.cells [(.lit (.int .i64 size0))]))))
 else ((Zbb l1).bind fun n5=>
 ZrF l1 h.length (decide (n5 = 0)) ((psh h (.cells [(.lit (.int .i64 size0))])))):=by kernel_rfl
theorem Z6F (l1:AVal) (other6_0:Nat) (t15:Bool) (h:Za):ZrF l1 other6_0 t15 h =
 bif t15 then (ZrE l1 other6_0 true h)
 else ((Zbb l1).bind fun n6=>
 ZrE l1 other6_0 (decide (n6 > 4)) h):=(ZV ..).trans (by kernel_rfl)
theorem Z6E (l1:AVal) (other6_0:Nat) (t20:Bool) (h:Za):ZrE l1 other6_0 t20 h =
 bif t20 then (Znu l1 true h)
 else ((ZkJ l1 ((.fn (.func 133) [] [(.ptr other6_0 0)])) h).bind fun r7=>
 (asB r7.1).bind fun b8=>
 Znu l1 b8 r7.2):=(ZV ..).trans (by kernel_rfl)
theorem Z6D (l1:AVal) (t25:Bool) (h:Za):Znu l1 t25 h =
 bif t25 then (some ((.tup [(.lit (.string (⟨#[]⟩:ByteArray))),(.lit (.bool false))]),h))
 else ((Zbb l1).bind fun n9=>
 (ZM (ZkG l1 (⟨#[]⟩:ByteArray) h) h).bind fun r10=>
 (asS r10).bind fun s11=>
 (req ((Utf8.encode (IntKind.wrap .i32 n9)).size + s11.size≤9223372036854775807)).bind fun u12=>
 (Zfb ((Utf8.encode (IntKind.wrap .i32 n9))++s11)).bind fun r13=>
 some ((.tup [(.lit (.string r13)),(.lit (.bool true))]),h)):=(ZV ..).trans (by kernel_rfl)
theorem Z6C {size0:Int} {l1:AVal} {h h':Za} {v:AVal} {R:AEnd→Za→Prop} (hx:ZkR size0 l1 h = some (v,h')) (hR:HOk h→h.length≤h'.length→ABody.AEnds h h' (.ret v) R):ACalls Tryz.prog 114 [(.lit (.int .i64 size0)),l1] h R:=Zu Z90 Zo (i:=114) (by rfl) (by kernel_rfl) (by kernel_rfl) hx hR
end Go.Proofs.YtogaiomakhapmaaGreat.AL
namespace Go.Proofs.YtogaiomakhapmaaGreat.AL
set_option maxRecDepth 100000
open Go
def beL (n:Nat):Nat→List UInt8
 | 0=>[]
 |k + 1=>by8 n k :: beL n k
theorem Zf8 (n:Nat):∀ k,(beL n k).length = k
 | 0=>rfl
 |k + 1=>by rw[beL,List.length_cons,Zf8 n k]
theorem Z3X (n i:Nat):(by8 n i).toNat = n / 256 ^ i % 256:=by unfold by8;simp
theorem Z3V {n i:Nat} (h:n < 256 ^ i):by8 n i = 0:=by
 unfold by8;rw[Nat.div_eq_of_lt h];rfl
theorem Z4s {n k:Nat} (hk:k≤8):(be8 n).drop (8 - k) = beL n k:=by
 match k,hk with
 | 0,_=>rfl
 | 1,_=>rfl
 | 2,_=>rfl
 | 3,_=>rfl
 | 4,_=>rfl
 | 5,_=>rfl
 | 6,_=>rfl
 | 7,_=>rfl
 | 8,_=>rfl
theorem Z4r {n k:Nat} (hk:k≤8) (hn:n < 256 ^ k):∀ x∈(be8 n).take (8 - k),x = 0:=by
 have z:∀ j,k≤j→by8 n j = 0:=fun j hj=>Z3V (Nat.lt_of_lt_of_le hn (Nat.pow_le_pow_right (by omega) hj))
 match k,hk with
 | 0,_=>simp[be8,z]
 | 1,_=>simp[be8,z]
 | 2,_=>simp[be8,z]
 | 3,_=>simp[be8,z]
 | 4,_=>simp[be8,z]
 | 5,_=>simp[be8,z]
 | 6,_=>simp[be8,z]
 | 7,_=>simp[be8,z]
 | 8,_=>simp[be8]
theorem Zul {n k:Nat} (hk:k≤8) (hn:n < 256 ^ k):ZhK n k = some ⟨(beL n k).toArray⟩:=by
 unfold ZhK
 rw[if_pos (Z4r hk hn),Z4s hk]
end Go.Proofs.YtogaiomakhapmaaGreat.AL
namespace Go.Proofs.YtogaiomakhapmaaGreat.AL
set_option maxRecDepth 100000
open Go
open Go.Proofs.Tryz
def b8 (n:Nat):UInt8:=UInt8.ofNat n
theorem Zvn (n:Nat) (hn:n < 128):Utf8.encode (n:Int) = bs [b8 n]:=by
 have hv:Utf8.valid (n:Int) = true:=by unfold Utf8.valid;rw[Bool.or_eq_true,Bool.and_eq_true];exact .inl ⟨decide_eq_true (by omega),decide_eq_true (by omega)⟩
 unfold Utf8.encode
 simp only[hv,if_true,Int.toNat_natCast]
 rw[if_pos (by omega)]
 rfl
def ZT (n:Nat):ByteArray:=Zf1 (bs ([67,72,65,73,78,49]++[b8 n]))
def ZH (c:Nat) (s:BitVec 32):ByteArray:=Zf1 (bs (0 :: (beL c 8++beL s.toNat 4)))
def ZZ (ss:List ByteArray):ByteArray:=Zf1 (bs (b8 ss.length :: Z7 ss))
def okS (s:ByteArray):AVal:=.tup [.lit (.string s),.lit (.bool true)]
theorem Zfy (n:Nat):(ZT n).size = 11:=by unfold ZT;rw[ZqT,ZbR];rfl
theorem Zf6 (ss:List ByteArray):(ZZ ss).size = (Z7 ss).length + 5:=by unfold ZZ;rw[ZqT,ZbR];rfl
theorem Zhc (c:Nat) (s:BitVec 32):(ZH c s).size = 17:=by unfold ZH;rw[ZqT,ZbR,List.length_cons,List.length_append,Zf8,Zf8]
theorem ZsO {n:Int} (h0: -2147483648≤n) (h1:n≤2147483647):IntKind.i32.wrap n = n:=by
 have:IntKind.i32.wrap n = (n + 2147483648) % 4294967296 - 2147483648:=by
  simp only[IntKind.wrap,IntKind.signed,IntKind.bits]
  simp
  split<;>omega
 rw[this];omega
theorem Zqd {n:Nat} (h1:1≤n) (h2:n≤64) (h:Za):Zit (n:Int) h = some (okS (ZT n),h):=by
 have e0:∀ t,t = false→Znk (n:Int) t h = some (okS (ZT n),h):=fun t ht=>by
  subst ht
  rw[Zrz,ZsO (by omega) (by omega),Zvn n (by omega)]
  refine cF rfl (bd (Z8 ?_) (bd (?_:Zfb _ = some (ZT n)) rfl))
  ·rw[ZbR];show (6:Nat) + 1≤_;omega
  ·have e:(⟨#[67,72,65,73,78,49]⟩:ByteArray) = bs [67,72,65,73,78,49]:=rfl
   rw[e,Zgh]
   exact ZqS (by rw[ZbR];show (7:Nat)≤_;omega)
 rw[Zwm]
 exact cF (decide_eq_false (by omega)) (e0 _ (decide_eq_false (by omega)))
theorem Zvi {c:Nat} (hc:c≤4611686018427387904) (s:BitVec 32) (h:Za):ZM (ZkQ [.lit (.int .i64 (c:Int)),.lit (.int .u32 (u32 s))] h) h = some (okS (ZH c s)):=by
 have g0:=ZU h [.lit (.int .i64 (c:Int)),.lit (.int .u32 (u32 s))]
 refine Zdj (h':=psh h (.cells [.lit (.int .i64 (c:Int)),.lit (.int .u32 (u32 s))])) ?_ ((Grow.refl h).psh _) rfl
 have hs:s.toNat < 4294967296:=s.isLt
 have p1:Zdh (c:Int) 8 = some (bs (beL c 8)):=by rw[show (8:Int) = ((8:Nat):Int) from rfl,Zuk c (by omega) (by omega),Zul (by omega) (by omega)]
 have p2:Zdh (IntKind.wrap .i64 (u32 s)) 4 = some (bs (beL s.toNat 4)):=by
  rw[show u32 s = ((s.toNat:Nat):Int) from rfl,wrap_i64 (by omega) (by omega),show (4:Int) = ((4:Nat):Int) from rfl,Zuk s.toNat (by omega) (by omega),Zul (by omega) (by omega)]
 rw[Z6G]
 refine bd (Zc g0) (bd rfl (bd (Zc g0) (bd rfl ?_)))
 rw[p1,p2]
 refine cF rfl ?_
 rw[Z6J]
 refine cF rfl (bd (Zc g0) (bd rfl ?_))
 rw[Z6I]
 show cond (decide ((c:Int) > 4611686018427387904)) _ ((req ((⟨#[0]⟩:ByteArray).size + (bs (beL c 8)).size≤9223372036854775807)).bind fun u8=>(req (((⟨#[0]⟩:ByteArray)++bs (beL c 8)).size + (bs (beL s.toNat 4)).size≤9223372036854775807)).bind fun u9=>(Zfb (((⟨#[0]⟩:ByteArray)++bs (beL c 8))++bs (beL s.toNat 4))).bind fun r10=>_) = _
 have e:(⟨#[0]⟩:ByteArray) = bs [0]:=rfl
 rw[e,Zgh,Zgh,ZbR,ZbR,ZbR,ZbR]
 simp only[Zf8,List.length_append,List.length_cons,List.length_nil]
 refine cF (decide_eq_false (by omega)) (bd (Z8 (by omega)) (bd (Z8 (by omega)) (bd (ZqS (by rw[ZbR];simp only[Zf8,List.length_append,List.length_cons,List.length_nil];omega)) ?_)))
 simp only[List.append_assoc]
 rfl
theorem Z02 {n:Nat} (h1:1≤n) (h2:n≤64) (h:Za):Zv (Zi0 (n:Int) h) h = some (.lit (.bool true)):=by
 have:Zi0 (n:Int) h = some (.lit (.bool true),h):=by
  rw[Z66]
  refine cT (decide_eq_true (by omega)) ?_
  rw[Z68,decide_eq_true (by omega)]
 rw[this];exact ZbI _ _
abbrev Zmr (b:Nat):AVal:=.fn (.func 133) [] [.ptr b 0]
theorem Z1M {h:Za} {v:AVal} {ss:List ByteArray} {n b:Nat} (S:Sl 1 h v ss.length (ZX ss)) (hb:Zb h b = some [.lit (.int .i64 (n:Int))]) (hl:ss.length≤4611686018427387904) (ha:∀ s∈ss,s.size = n):
  ∀ (m i:Nat),i + m = ss.length→ZkH v (Zmr b) (ss.length:Int) (i:Int) h = some (.lit (.int .i64 (-1)),h):=by
 intro m
 induction m with
 |zero=>
  intro i hi
  rw[Zwl]
  refine cF (decide_eq_false (by omega)) ?_
  rw[Z5M]
 |succ m ih=>
  intro i hi
  have hil:i < ss.length:=by omega
  obtain ⟨p,e1,e2⟩:=Zes S hil
  have hc:ZkP ss[i] (.ptr b 0) h = some (.lit (.bool false),h):=by
   rw[Z69]
   refine bd (Zc hb) (bd rfl ?_)
   rw[ha _ (List.getElem_mem hil),decide_eq_true rfl];rfl
  rw[Zwl]
  refine cT (decide_eq_true (by omega)) (bd e1 (bd e2 (bd rfl ?_)))
  show (Zv (ZkP ss[i] (.ptr b 0) h) h).bind _ = _
  rw[hc,ZbI]
  show ZkH v (Zmr b) (ss.length:Int) (IntKind.wrap .i64 ((i:Int) + 1)) h = _
  rw[wrap_i64 (by omega) (by omega)]
  exact ih (i + 1) (by omega)
theorem Z3E {h:Za} {v:AVal} {ss:List ByteArray} {n b:Nat} (S:Sl 1 h v ss.length (ZX ss)) (hb:Zb h b = some [.lit (.int .i64 (n:Int))]) (hl:ss.length≤4611686018427387904) (ha:∀ s∈ss,s.size = n):
  ZkJ v (Zmr b) h = some (.lit (.bool false),h):=by
 have e:ZkI v (Zmr b) h = some (.lit (.int .i64 (-1)),h):=by
  rw[Z5K,S.len];exact Z1M S hb hl ha ss.length 0 (by omega)
 rw[Z5N,e];rfl
theorem ZdZ {ss:List ByteArray} {n:Nat} (ha:∀ s∈ss,s.size = n):(Z7 ss).length = ss.length * n:=by
 induction ss with
 |nil=>simp[Z7]
 |cons s l ih=>
  rw[ZqV,List.length_append,szL,ha s (by simp),ih (fun t ht=>ha t (by simp[ht])),List.length_cons,Nat.add_mul];omega
theorem ZuX {n:Nat} (h1:1≤n) (h2:n≤64) {h:Za} {v:AVal} {ss:List ByteArray} (S:Sl 1 h v ss.length (ZX ss)) (h3:1≤ss.length) (h4:ss.length≤4) (ha:∀ s∈ss,s.size = n):ZM (ZkR (n:Int) v h) h = some (okS (ZZ ss)):=by
 have G:Grow h (psh h (.cells [.lit (.int .i64 (n:Int))])):=(Grow.refl h).psh _
 refine Zdj (h':=psh h (.cells [.lit (.int .i64 (n:Int))])) ?_ G rfl
 have hsz:=ZdZ ha
 have hsz2:ss.length * n≤4 * 64:=Nat.mul_le_mul h4 h2
 have hsz3:1 * 1≤ss.length * n:=Nat.mul_le_mul h3 h1
 generalize hg:psh h (.cells [.lit (.int .i64 (n:Int))]) = g at G⊢
 have hb:Zb g h.length = some [.lit (.int .i64 (n:Int))]:=by rw[←hg];exact ZU h _
 have S':=S.grow G
 have e2:Znu v false g = some (okS (ZZ ss),g):=by
  obtain ⟨g',j1,j2⟩:=Z2H S' (by omega) (by omega) (fun _ e=>by rw[e] at hsz;simp at hsz;omega)
  rw[Z6D]
  refine cF rfl (bd S'.len (bd (Zdj j1 j2 rfl) (bd rfl ?_)))
  rw[ZsO (by omega) (by omega),Zvn _ (by omega),Zgh]
  refine bd (Z8 (by rw[ZbR,ZbR];simp only[List.length_cons,List.length_nil];omega)) (bd (ZqS (by rw[ZbR];simp only[List.length_append,List.length_cons,List.length_nil];omega)) rfl)
 rw[Z6B,hg]
 refine bd (Zc hb) (bd rfl (bd (Z02 h1 h2 g) (bd rfl (cF rfl (bd S'.len ?_)))))
 rw[Z6F]
 refine cF (decide_eq_false (by omega)) (bd S'.len ?_)
 rw[Z6E]
 exact cF (decide_eq_false (by omega)) (bd (Z3E S' hb (by omega) ha) (bd rfl e2))
noncomputable def ZoM:XC:=.q fun R args h K=>match args with
 | [.lit (.int .i64 a0)]=>(Zv (Zit a0 h) h).bind fun r=>K r
 |_=>none
theorem Zzd:XC.Nat ZoM∧XC.Ok Tryz.prog 71 ZoM:=by
 refine ⟨fun R args h K=>?_,tc71,fun args h v hx=>?_⟩
 ·dsimp only;split<;>simp[Option.bind_assoc,mkP]
 ·dsimp only at hx;split at hx
  ·obtain ⟨r,hopt,hx⟩:=Option.bind_eq_some_iff.1 hx
   cases hx
   exact (by have hopt:=Zc7 hopt;exact Z5P hopt selfR)
  ·cases hx
noncomputable def Zpc:XC:=.q fun R args h K=>match args with
 | [.agg a0]=>(ZM (ZkQ a0 h) h).bind fun r=>K r
 |_=>none
theorem Zzu:XC.Nat Zpc∧XC.Ok Tryz.prog 85 Zpc:=by
 refine ⟨fun R args h K=>?_,tc85,fun args h v hx=>?_⟩
 ·dsimp only;split<;>simp[Option.bind_assoc,mkP]
 ·dsimp only at hx;split at hx
  ·obtain ⟨r,hopt,hx⟩:=Option.bind_eq_some_iff.1 hx
   cases hx
   exact (by obtain ⟨h',hopt,hg,hc⟩:=Zdq hopt;exact Z6H hopt (Zdr hg hc))
  ·cases hx
noncomputable def Zpd:XC:=.q fun R args h K=>match args with
 | [.lit (.int .i64 a0),a1]=>(ZM (ZkR a0 a1 h) h).bind fun r=>K r
 |_=>none
theorem Zzs:XC.Nat Zpd∧XC.Ok Tryz.prog 114 Zpd:=by
 refine ⟨fun R args h K=>?_,tc114,fun args h v hx=>?_⟩
 ·dsimp only;split<;>simp[Option.bind_assoc,mkP]
 ·dsimp only at hx;split at hx
  ·obtain ⟨r,hopt,hx⟩:=Option.bind_eq_some_iff.1 hx
   cases hx
   exact (by obtain ⟨h',hopt,hg,hc⟩:=Zdq hopt;exact Z6C hopt (Zdr hg hc))
  ·cases hx
end Go.Proofs.YtogaiomakhapmaaGreat.AL
namespace Go.Proofs.YtogaiomakhapmaaGreat.AL
set_option maxRecDepth 100000
open Go
open Go.Proofs.Tryz
noncomputable def Zea:Code:=ZP f132
theorem Z2B:ca (ca (ca (cb Zea))) = Code.region 1 #[{ dst:=some 6,op:=Go.Op.next (Go.Operand.tmp 5) false,type:=0,pos:= "iter.go:27",after:=#[],guard:=none},{ dst:=some 7,op:=Go.Op.extract (Go.Operand.tmp 6) 0,type:=4,pos:= "iter.go:27",after:=#[{ on:=0,ground:=Go.Ground.data}],guard:=none}] false:=by kernel_rfl
theorem Z2A:ca (ca (cb (cb (ca (ca (cb Zea)))))) = Code.region 2 #[{ dst:=some 8,op:=Go.Op.entry (Go.Operand.tmp 5),type:=0,pos:= "iter.go:27",after:=#[],guard:=none},{ dst:=some 9,op:=Go.Op.extract (Go.Operand.tmp 8) 0,type:=9,pos:= "iter.go:27",after:=#[{ on:=0,ground:=Go.Ground.data}],guard:=none},{ dst:=some 3,op:=Go.Op.assign (Go.Operand.tmp 9),type:=9,pos:= "iter.go:27",after:=#[{ on:=1,ground:=Go.Ground.data},{ on:=0,ground:=Go.Ground.phase},{ on:=1,ground:=Go.Ground.phase}],guard:=none}] false:=by kernel_rfl
theorem Z2C:ca Zea = Code.region 0 #[{ dst:=some 4,op:=Go.Op.load 77 (Go.Operand.tmp 1),type:=77,pos:= "iter.go:27",after:=#[],guard:=none},{ dst:=some 5,op:=Go.Op.range 77 (Go.Operand.tmp 4),type:=0,pos:= "iter.go:27",after:=#[{ on:=0,ground:=Go.Ground.data}],guard:=none}] false:=by kernel_rfl
theorem Z29:ca (cb (ca (cb (cb (ca (ca (cb Zea))))))) = Code.region 3 #[{ dst:=some 10,op:=Go.Op.move (Go.Operand.tmp 0),type:=85,pos:= "iter.go:28",after:=#[],guard:=none},{ dst:=some 11,op:=Go.Op.move (Go.Operand.tmp 3),type:=9,pos:= "iter.go:28",after:=#[],guard:=none},{ dst:=some 12,op:=Go.Op.call { callee:=Go.Callee.value (Go.Operand.tmp 10),args:=#[Go.Operand.tmp 11],argTypes:=#[9]},type:=4,pos:= "iter.go:28",after:=#[{ on:=0,ground:=Go.Ground.data},{ on:=1,ground:=Go.Ground.data}],guard:=none},{ dst:=some 13,op:=Go.Op.unOp Go.UnOp.not 4 (Go.Operand.tmp 12),type:=4,pos:= "iter.go:28",after:=#[{ on:=2,ground:=Go.Ground.data}],guard:=none}] false:=by kernel_rfl
theorem Z0D:Zea = .seq (ca Zea) (.block 0 (.loop (.seq (ca (ca (ca (cb Zea)))) (.seq (.cond (.tmp 7) .skip (.exit 0)) (.block 1 (.seq (ca (ca (cb (cb (ca (ca (cb Zea))))))) (.seq (ca (cb (ca (cb (cb (ca (ca (cb Zea)))))))) (.cond (.tmp 13) .ret .skip)))))))):=by kernel_rfl
structure KeysI (mb it clock:Nat) (d:MKey) (es:List (Value×AVal)) (bs:List Nat) (J:List Nat→Za→Prop) (seen:List Nat) (h:Za):Prop where
 j:J seen h
 map:h[mb]? = some (.mapS d es bs clock)
 iter:∃ c,clock≤c∧h[it]? = some (.mit mb clock seen c)
 nodup:seen.Nodup
 sub:∀ s∈seen,s∈bs
def ZuK (it n:Nat) (h:Za):Nat:=match h[it]? with
 |some (.mit _ _ seen _)=>n - seen.length
 |_=>0
theorem Zqi:∀ {l m:List Nat},l.Nodup→(∀ x∈l,x∈m)→l.length≤m.length
 | [],_,_,_=>Nat.zero_le _
 |x :: l,m,hn,hs=>by
  have h1:=List.nodup_cons.1 hn
  have hx:x∈m:=hs x (List.mem_cons_self ..)
  have h2:l.length≤(m.erase x).length:=Zqi h1.2 fun y hy=>(List.mem_erase_of_ne (fun e:y = x=>h1.1 (by rw[←e];exact hy))).2 (hs y (List.mem_cons_of_mem _ hy))
  rw[List.length_erase_of_mem hx] at h2
  have:=List.length_pos_of_mem hx
  simp only[List.length_cons];omega
theorem Z24 {yb bx mb clock:Nat} {d:MKey} {es:List (Value×AVal)} {bs:List Nat} {h:Za} {R:AEnd→Za→Prop} (J:List Nat→Za→Prop)
  (hbx:h[bx]? = some (.cells [.map mb])) (hm:h[mb]? = some (.mapS d es bs clock)) (hl:bs.length = es.length) (hbn:bs.Nodup) (hbc:∀ s∈bs,s < clock)
  (h0:KeysI mb h.length clock d es bs J [] (h++[.mit mb clock [] clock]))
  (hstep:∀ (seen:List Nat) (h1:Za) (i s:Nat) (hi:i < es.length),KeysI mb h.length clock d es bs J seen h1→bs[i]? = some s→s∉seen→
   AYield Tryz.prog yb [.lit es[i].1] (h1.set h.length (.mit mb clock (seen++[s]) clock)) fun e h2=>e = .ret (.lit (.bool true))∧KeysI mb h.length clock d es bs J (seen++[s]) h2)
  (hend:∀ (seen:List Nat) (h1:Za),KeysI mb h.length clock d es bs J seen h1→(∀ s∈bs,s∈seen)→R (.ret (.tup [])) h1):
  ACalls Tryz.prog 132 [.yld yb,.ptr bx 0] h R:=by
 refine ZmU (c:=Zea) (fn:=f132) (by rfl) (by kernel_rfl) (by kernel_rfl) fun hok=>?_
 have main:AWp Tryz.prog Zea (fun e a g=>e = .normal∧R (.ret (.tup [])) g) ((ZcI [.yld yb,.ptr bx 0] 0).lst f132.ntmps) h:=by
  rw[Z0D]
  refine Zdm ?_
  rw[Z2C]
  refine Zhf ?_
  have hlen:((ZcI [.yld yb,.ptr bx 0] 0).lst f132.ntmps).length = 14:=by kernel_rfl
  have g1:Z2 ((ZcI [.yld yb,.ptr bx 0] 0).lst f132.ntmps) 1 = .ptr bx 0:=by kernel_rfl
  have g0:Z2 ((ZcI [.yld yb,.ptr bx 0] 0).lst f132.ntmps) 0 = .yld yb:=by kernel_rfl
  generalize (ZcI [.yld yb,.ptr bx 0] 0).lst f132.ntmps = a0 at hlen g0 g1
  simp only[Zdy,Zdc,ZcB,AOp,Ze,g1]
  refine Zov (T:=Zn [(77,r77)]) (x:=.map mb) (Zp ⟨ZdS,trivial⟩) ?_ ?_
  ·have:Zfl (Zn [(77,r77)]) 77 h (.ptr bx 0) = ld1 h (.ptr bx 0):=by kernel_rfl
   rw[this];simp[ld1,Zb,hbx]
  rw[ZS (by omega),if_pos rfl]
  unfold ZmW ZmV
  simp only[hm]
  refine ⟨by kernel_rfl,?_⟩
  show AWp Tryz.prog (.block 0 _) _ _ _
  refine ZmS (Z4w (fun a g=>(a.length = 14∧Z2 a 0 = .yld yb∧Z2 a 5 = .ptr h.length 0)∧∃ seen,KeysI mb h.length clock d es bs J seen g) (fun _ g=>ZuK h.length es.length g) ⟨⟨by simp[Zba,hlen],?_,?_⟩,[],h0⟩ ?_)
  ·rw[ZS (by simp[Zba,hlen]),if_neg (by simp),ZS (by omega),if_neg (by simp)];exact g0
  ·rw[ZS (by simp[Zba,hlen]),if_pos rfl]
  clear g0 g1 hlen a0
  rintro a g ⟨⟨hlen,g0,g5⟩,seen,hI⟩
  obtain ⟨c,hc,hit⟩:=hI.iter
  refine Zdm ?_
  rw[Z2B]
  refine Zhf ?_
  simp only[Zdy,Zdc,ZcB,AOp,Ze,g5]
  unfold ZmY
  simp only[hit,hI.map]
  refine ⟨hbc,hc,fun hall=>?_,fun i hi s hs hns=>?_⟩
  ·rw[ZS (by omega),if_pos rfl]
   show AWp Tryz.prog (.seq (.cond (.tmp 7) .skip (.exit 0)) _) _ _ _
   refine Zdm (ZmR (b:=false) ?_ (fun e=>by cases e) fun _=>Zrj ?_)
   ·simp only[Ze]
    rw[ZS (by simp[Zba,hlen]),if_pos rfl]
   ·exact ⟨rfl,hend seen g hI hall⟩
  ·rw[ZS (by omega),if_pos rfl]
   show AWp Tryz.prog (.seq (.cond (.tmp 7) .skip (.exit 0)) _) _ _ _
   refine Zdm (ZmR (b:=true) ?_ (fun _=>ZmQ ?_) fun e=>by cases e)
   ·simp only[Ze]
    rw[ZS (by simp[Zba,hlen]),if_pos rfl]
   show AWp Tryz.prog (.block 1 _) _ _ _
   refine ZmS (Zdm ?_)
   rw[Z2A]
   refine Zhf ?_
   have hlt:h.length < g.length:=ZE hit
   have hne:h.length≠mb:=fun e=>by have h1:=hI.map;rw[←e,hit] at h1;cases h1
   have e5:Z2 (Zh (Zh a (some 6) (.tup [.lit (.bool true),.lit es[i].1,es[i].2])) (some 7) (.lit (.bool true))) 5 = .ptr h.length 0:=by
    rw[ZS (by simp[Zba,hlen]),if_neg (by simp),ZS (by omega),if_neg (by simp)];exact g5
   have e0:Z2 (Zh (Zh a (some 6) (.tup [.lit (.bool true),.lit es[i].1,es[i].2])) (some 7) (.lit (.bool true))) 0 = .yld yb:=by
    rw[ZS (by simp[Zba,hlen]),if_neg (by simp),ZS (by omega),if_neg (by simp)];exact g0
   have glen:(Zh (Zh a (some 6) (.tup [.lit (.bool true),.lit es[i].1,es[i].2])) (some 7) (.lit (.bool true))).length = 14:=by simp[Zba,hlen]
   generalize Zh (Zh a (some 6) (.tup [.lit (.bool true),.lit es[i].1,es[i].2])) (some 7) (.lit (.bool true)) = a1 at e5 e0 glen
   have hit2:(g.set h.length (.mit mb clock (seen++[s]) clock))[h.length]? = some (.mit mb clock (seen++[s]) clock):=List.getElem?_set_self hlt
   have hm2:(g.set h.length (.mit mb clock (seen++[s]) clock))[mb]? = some (.mapS d es bs clock):=by rw[List.getElem?_set_ne hne];exact hI.map
   simp only[Zdy,Zdc,ZcB,AOp,Ze,e5]
   unfold Znc
   simp only[hit2,hm2]
   refine ⟨seen,s,i,hi,rfl,hs,trivial,?_⟩
   rw[ZS (by omega),if_pos rfl]
   simp only[Zgo,List.getElem?_cons_zero]
   rw[ZS (a:=Zh a1 (some 8) _) (by simp[Zba,glen]),if_pos rfl]
   show AWp Tryz.prog (.seq (ca (cb (ca (cb (cb (ca (ca (cb Zea)))))))) (.cond (.tmp 13) .ret .skip)) _ _ _
   refine Zdm ?_
   rw[Z29]
   refine Zhf ?_
   have f0:Z2 (Zh (Zh (Zh a1 (some 8) (.tup [.lit es[i].1,es[i].2])) (some 9) (.lit es[i].1)) (some 3) (.lit es[i].1)) 0 = .yld yb:=by
    rw[ZS (by simp[Zba,glen]),if_neg (by simp),ZS (by simp[Zba,glen]),if_neg (by simp),ZS (by omega),if_neg (by simp)];exact e0
   have f5:Z2 (Zh (Zh (Zh a1 (some 8) (.tup [.lit es[i].1,es[i].2])) (some 9) (.lit es[i].1)) (some 3) (.lit es[i].1)) 5 = .ptr h.length 0:=by
    rw[ZS (by simp[Zba,glen]),if_neg (by simp),ZS (by simp[Zba,glen]),if_neg (by simp),ZS (by omega),if_neg (by simp)];exact e5
   have f3:Z2 (Zh (Zh (Zh a1 (some 8) (.tup [.lit es[i].1,es[i].2])) (some 9) (.lit es[i].1)) (some 3) (.lit es[i].1)) 3 = .lit es[i].1:=by
    rw[ZS (by simp[Zba,glen]),if_pos rfl]
   have flen:(Zh (Zh (Zh a1 (some 8) (.tup [.lit es[i].1,es[i].2])) (some 9) (.lit es[i].1)) (some 3) (.lit es[i].1)).length = 14:=by simp[Zba,glen]
   generalize Zh (Zh (Zh a1 (some 8) (.tup [.lit es[i].1,es[i].2])) (some 9) (.lit es[i].1)) (some 3) (.lit es[i].1) = a2 at f0 f5 f3 flen
   simp only[Zdy,Zdc,ZcB,AOp,Ze,f0]
   have e10:Z2 (Zh a2 (some 10) (.yld yb)) 10 = .yld yb:=by rw[ZS (by omega),if_pos rfl]
   have e3:Z2 (Zh a2 (some 10) (.yld yb)) 3 = .lit es[i].1:=by rw[ZS (by omega),if_neg (by simp)];exact f3
   have e10':Z2 (Zh (Zh a2 (some 10) (.yld yb)) (some 11) (.lit es[i].1)) 10 = .yld yb:=by rw[ZS (by simp[Zba,flen]),if_neg (by simp)];exact e10
   have e11:Z2 (Zh (Zh a2 (some 10) (.yld yb)) (some 11) (.lit es[i].1)) 11 = .lit es[i].1:=by rw[ZS (by simp[Zba,flen]),if_pos rfl]
   rw[e3]
   simp only[e10,e10',Zg5,AL.evs,List.map_cons,List.map_nil,Ze,e11]
   refine (hstep seen g i s hi hI hs hns).mono ?_
   rintro e g3 ⟨rfl,hI3⟩
   simp only
   rw[ZS (by simp[Zba,flen]),if_pos rfl]
   simp only[aUn]
   show AWp Tryz.prog (.cond (.tmp 13) .ret .skip) _ _ _
   refine ZmR (b:=false) ?_ (fun e=>by cases e) fun _=>ZmQ ?_
   ·simp only[Ze]
    rw[ZS (by simp[Zba,flen]),if_pos rfl];rfl
   ·refine ⟨⟨⟨by simp[Zba,flen],?_,?_⟩,_,hI3⟩,?_⟩
    ·rw[ZS (by simp[Zba,flen]),if_neg (by simp),ZS (by simp[Zba,flen]),if_neg (by simp),ZS (by simp[Zba,flen]),if_neg (by simp),ZS (by omega),if_neg (by simp)];exact f0
    ·rw[ZS (by simp[Zba,flen]),if_neg (by simp),ZS (by simp[Zba,flen]),if_neg (by simp),ZS (by simp[Zba,flen]),if_neg (by simp),ZS (by omega),if_neg (by simp)];exact f5
    ·obtain ⟨c3,_,hit3⟩:=hI3.iter
     unfold ZuK
     simp only[hit,hit3,List.length_append,List.length_cons,List.length_nil]
     have:=Zqi hI3.nodup hI3.sub
     rw[hl,List.length_append] at this
     simp only[List.length_cons,List.length_nil] at this
     omega
 refine ZeE (Zki main) ?_
 rintro e a g ⟨⟨rfl,hr⟩,hlen⟩
 exact ZmD hlen hr
end Go.Proofs.YtogaiomakhapmaaGreat.AL
namespace Go.Proofs
open Go.Shelf
def Tryz.laysSort_ren:Go.Shelf.Ren:=⟨fun | 190=>131 | 125=>142 | 258=>141 | 128=>154 | 129=>155 | 302=>145 | 303=>146 | 304=>147 | 305=>148 | 306=>149 | 307=>150 | 308=>151 | 309=>152 | 310=>153 | 333=>157 | 329=>158 | 330=>159 | 334=>160 | 335=>161 | 336=>162 | 344=>164 |n=>n,fun | 31=>52 | 9=>9 | 3=>3 | 46=>145 | 0=>0 | 51=>65 | 53=>167 | 4=>4 | 183=>174 | 182=>173 | 131=>139 | 5=>5 | 218=>181 | 222=>185 | 228=>188 | 229=>189 |n=>n,fun |n=>n⟩
theorem Tryz.laysSort:Go.Proofs.Lays.n190 Tryz.prog Tryz.laysSort_ren:={
 mixed:=by kernel_rfl
 f125:=Tryz.func142.trans (congrArg some (by kernel_rfl))
 f128:=Tryz.func154.trans (congrArg some (by kernel_rfl))
 f129:=Tryz.func155.trans (congrArg some (by kernel_rfl))
 f190:=Tryz.func131.trans (congrArg some (by kernel_rfl))
 f258:=Tryz.func141.trans (congrArg some (by kernel_rfl))
 f302:=Tryz.func145.trans (congrArg some (by kernel_rfl))
 f303:=Tryz.func146.trans (congrArg some (by kernel_rfl))
 f304:=Tryz.func147.trans (congrArg some (by kernel_rfl))
 f305:=Tryz.func148.trans (congrArg some (by kernel_rfl))
 f306:=Tryz.func149.trans (congrArg some (by kernel_rfl))
 f307:=Tryz.func150.trans (congrArg some (by kernel_rfl))
 f308:=Tryz.func151.trans (congrArg some (by kernel_rfl))
 f309:=Tryz.func152.trans (congrArg some (by kernel_rfl))
 f310:=Tryz.func153.trans (congrArg some (by kernel_rfl))
 f329:=Tryz.func158.trans (congrArg some (by kernel_rfl))
 f330:=Tryz.func159.trans (congrArg some (by kernel_rfl))
 f333:=Tryz.func157.trans (congrArg some (by kernel_rfl))
 f334:=Tryz.func160.trans (congrArg some (by kernel_rfl))
 f335:=Tryz.func161.trans (congrArg some (by kernel_rfl))
 f336:=Tryz.func162.trans (congrArg some (by kernel_rfl))
 f344:=Tryz.func164.trans (congrArg some (by kernel_rfl))
 t0:=Tryz.underlying0
 a0:=Tryz.isAgg0
 z0:=Tryz.sizeOf0
 v0:=Tryz.zeroValue0
 t3:=Tryz.underlying3
 a3:=Tryz.isAgg3
 z3:=Tryz.sizeOf3
 v3:=Tryz.zeroValue3
 t4:=Tryz.underlying4
 a4:=Tryz.isAgg4
 z4:=Tryz.sizeOf4
 v4:=Tryz.zeroValue4
 t5:=Tryz.underlying5
 a5:=Tryz.isAgg5
 z5:=Tryz.sizeOf5
 v5:=Tryz.zeroValue5
 t9:=Tryz.underlying9
 a9:=Tryz.isAgg9
 z9:=Tryz.sizeOf9
 v9:=Tryz.zeroValue9
 t31:=Tryz.underlying52
 a31:=Tryz.isAgg52
 z31:=Tryz.sizeOf52
 v31:=Tryz.zeroValue52
 t46:=Tryz.underlying145
 a46:=Tryz.isAgg145
 z46:=Tryz.sizeOf145
 v46:=Tryz.zeroValue145
 t51:=Tryz.underlying65
 a51:=Tryz.isAgg65
 z51:=Tryz.sizeOf65
 v51:=Tryz.zeroValue65
 t53:=Tryz.underlying167
 a53:=Tryz.isAgg167
 z53:=Tryz.sizeOf167
 v53:=Tryz.zeroValue167
 t131:=Tryz.underlying139
 a131:=Tryz.isAgg139
 z131:=Tryz.sizeOf139
 v131:=Tryz.zeroValue139
 t182:=Tryz.underlying173
 a182:=Tryz.isAgg173
 z182:=Tryz.sizeOf173
 v182:=Tryz.zeroValue173
 t183:=Tryz.underlying174
 a183:=Tryz.isAgg174
 z183:=Tryz.sizeOf174
 v183:=Tryz.zeroValue174
 t218:=Tryz.underlying181
 a218:=Tryz.isAgg181
 z218:=Tryz.sizeOf181
 v218:=Tryz.zeroValue181
 t222:=Tryz.underlying185
 a222:=Tryz.isAgg185
 z222:=Tryz.sizeOf185
 v222:=Tryz.zeroValue185
 t228:=Tryz.underlying188
 a228:=Tryz.isAgg188
 z228:=Tryz.sizeOf188
 v228:=Tryz.zeroValue188
 t229:=Tryz.underlying189
 a229:=Tryz.isAgg189
 z229:=Tryz.sizeOf189
 v229:=Tryz.zeroValue189}
end Go.Proofs
namespace Go.Proofs.YtogaiomakhapmaaGreat.AL
open Go Go.Sort
def ZbH (s:ByteArray):AVal:=.lit (.string s)
def Zf4 (s:ByteArray):List UInt8:=s.data.toList
def ofL (l:List UInt8):ByteArray:=⟨l.toArray⟩
theorem Z1O (s:ByteArray):ofL (Zf4 s) = s:=by cases s;simp[ofL,Zf4]
def ZbP (ss:List ByteArray):List ByteArray:=((ss.map Zf4).mergeSort fun x y=>decide (x≤y)).map ofL
theorem Zj4 (ss:List ByteArray):(ZbP ss).length = ss.length:=by simp[ZbP,List.length_mergeSort]
theorem Z00 {ss ts:List ByteArray} (hp:ss.Perm ts):ZbP ss = ZbP ts:=by
 unfold ZbP
 congr 1
 exact mergeSort_of_perm (hp.map Zf4)
theorem Z0y {h:Za} {b:Nat} {ss:List ByteArray} (hb:h[b]? = some (.cells (ss.map ZbH))) (h0:0 < ss.length) (hsz:ss.length < 4611686018427387904):
  ACalls Tryz.prog 131 [.sl 1 b 0 ss.length] h fun e h'=>e = .ret (.tup [])∧h' = h.set b (.cells ((ZbP ss).map ZbH)):=by
 intro ρ w us hR hv
 obtain ⟨u,rfl,hu⟩:=hv.single
 obtain ⟨C,T,fz,hc,hfr,hsize,hfit,hcs⟩:=hR.obj b _ hb
 have hbl:=ZE hb
 have cell:∀ (j:Nat) (hj:j < ss.length),C.getD ((ρ b).base + j) undef = .string ss[j]:=fun j hj=>by
  have:=hcs j (by simpa using hj)
  simp only[List.getElem_map,ZbH] at this
  generalize C.getD ((ρ b).base + j) undef = z at this
  cases this;rfl
 have fit:(ρ b).base + ss.length≤C.size:=by simpa using hfit
 have hu':∃ cap,u = .slice (some ⟨(ρ b).blk,(ρ b).base + 0,none⟩) ss.length cap:=by
  generalize hn:ss.length = n at hu h0
  cases hu with
  |slZ=>omega
  |sl _ _ _ _ cap _ hl hcap=>exact ⟨cap,rfl⟩
 obtain ⟨cap,rfl⟩:=hu'
 ·
  have hH:Holds encStr w (ρ b).blk ((ρ b).base + 0) (ss.map Zf4).toArray:=by
   intro j hj
   have hj':j < ss.length:=by simpa using hj
   have hlt:(ρ b).base + j < C.size:=by omega
   refine ⟨?_,?_⟩
   ·simp only[World.cell?,hc]
    have:=cell j hj'
    simp only[Array.getD,hlt,dif_pos] at this
    simp only[Nat.add_zero,Option.isSome_none,Bool.false_eq_true,if_false,Array.getElem?_eq_getElem hlt]
    rw[show C[(ρ b).base + j] = C.getInternal ((ρ b).base + j) hlt from rfl,this]
    simp[encStr,Zf4,hj']
   ·simp only[World.frozen?,hc]
    exact hfr _ (by omega)
  have hcall:=Any.slices_Sort_string (P:=Tryz.prog) Tryz.laysSort (ρ b).blk ((ρ b).base + 0) cap (ss.map Zf4) w hH (Zb9 hc) (by simpa using hsz)
  rw[show (ss.map Zf4).length = ss.length by simp] at hcall
  refine Calls.mono hcall ?_
  rintro e w' ⟨rfl,n,os,rfl⟩
  have hne:AObj.cells (ss.map ZbH)≠ .dead:=by simp
  have hblk:=Zb9 hc
  generalize hts:(ss.map Zf4).mergeSort (fun x y=>decide (x≤y)) = ts
  have htl:ts.length = ss.length:=by rw[←hts];simp[List.length_mergeSort]
  let w1:=putRow encStr (Sort.ahead w n) (ρ b).blk ((ρ b).base + 0) ts.toArray
  have hsz1:w1.heap.size = w.heap.size:=by simp[w1,putRow,mapBlock,Sort.ahead]
  have hoth:∀ c,c≠(ρ b).blk→w1.heap[c]? = w.heap[c]?:=fun c hne=>by
   simp[w1,putRow,mapBlock,Sort.ahead,Array.getElem?_modify,Ne.symm hne]
  have hself:w1.heap[(ρ b).blk]? = some (.cells (putCells encStr ((ρ b).base + 0) ts.toArray C) T fz):=by
   simp[w1,putRow,mapBlock,Sort.ahead,Array.getElem?_modify,hc,onCells]
  have hk:∀ r:Loop,w.heap[(ρ b).blk]? = some (Obj.loop r)→∃ r':Loop,w1.heap[(ρ b).blk]? = some (Obj.loop r'):=fun r hr=>ZeU hR hb rfl r hr
  have e1:Evo ρ h w ρ (h.set b (.cells ((ZbP ss).map ZbH))) w1:=ZdC hR hb hne ⟨rfl,rfl,rfl⟩ (by rw[hsz1];exact Nat.le_refl _) hoth hk
  have R1:Rel ρ (h.set b (.cells ((ZbP ss).map ZbH))) w1:=hR.set hb hne ⟨rfl,rfl,rfl⟩ (by rw[hsz1];exact Nat.le_refl _) hoth hk
   ⟨_,_,_,hself,fun i hi=>hfr i (by simpa[putCells] using hi),by simpa[putCells] using hsize,by simpa[putCells,Zj4] using fit,fun i hi=>by
     have hi':i < ss.length:=by simpa[Zj4] using hi
     have hit:i < ts.length:=by omega
     have hlt:(ρ b).base + i < C.size:=by omega
     have hlt':(ρ b).base + i < (putCells encStr ((ρ b).base + 0) ts.toArray C).size:=by simpa[putCells] using hlt
     have hval:(putCells encStr ((ρ b).base + 0) ts.toArray C).getD ((ρ b).base + i) undef = .string (ofL ts[i]):=by
      simp only[Array.getD,hlt',dif_pos]
      show (putCells encStr ((ρ b).base + 0) ts.toArray C)[(ρ b).base + i] = _
      simp[putCells,hit,encStr,ofL]
     rw[hval]
     have:((ZbP ss).map ZbH)[i] = .lit (.string (ofL ts[i])):=by
      simp only[ZbP,List.getElem_map,hts,ZbH]
     rw[this];exact .lit _⟩
  obtain ⟨e2,R2⟩:=Zvk (w':=grow w1 os) R1 ⟨rfl,rfl,rfl⟩ (by simp[grow]) (fun c hc=>heap_grow_old _ _ hc)
  exact ⟨ρ,_,_,e1.trans e2,R2,.ret _ _ (.tup [] #[] rfl fun i hi=>by simp at hi),rfl,rfl⟩
theorem sort_none {h:Za}:ACalls Tryz.prog 131 [.lit (.slice none 0 0)] h fun e h'=>e = .ret (.tup [])∧h' = h:=by
 intro ρ w us hR hv
 obtain ⟨u,rfl,hu⟩:=hv.single
 cases hu
 refine Calls.mono (Any.slices_Sort_string_none (P:=Tryz.prog) Tryz.laysSort none 0 w) ?_
 rintro e w' ⟨rfl,rfl⟩
 exact ⟨ρ,_,_,.refl ..,hR,.ret _ _ (.tup [] #[] rfl fun i hi=>by simp at hi),rfl,rfl⟩
end Go.Proofs.YtogaiomakhapmaaGreat.AL
namespace Go.Proofs.YtogaiomakhapmaaGreat.AL
set_option maxRecDepth 100000
open Go
open Go.Proofs.Tryz
noncomputable def Zcj:Code:=ZP f140
noncomputable def Zxw:XE:={ T:=Zn [(9,r9),(52,r52)],C:=[],D:=[],Ms:=[],Ml:=[],Mo:=[],n:=13}
theorem Z9h:XE.Ok Zxw Tryz.prog:=⟨Zp (⟨Zz,⟨Zby,trivial⟩⟩),trivial,Zq,trivial⟩
noncomputable def Zus (s0:AVal) (seq1:AVal) (h:Za):Option XPc:=Zl Zxw (ca Zcj) XPc [(0,s0),(1,seq1)] h (pcK [1,2])
theorem Z1C (s0:AVal) (seq1:AVal) (h:Za):Zus s0 seq1 h =
 (AVal.parts s0).bind fun vs1=>
 some (.normal,[seq1,(.ptr h.length 0)],(psh h (.cells vs1))):=by kernel_rfl
theorem Z1D {s0:AVal} {seq1:AVal} {h h':Za} {e:Exit} {vs:List AVal} {Q:AQ} (hx:Zus s0 seq1 h = some (e,vs,h')) (hQ:∀ a,Outs 13 [1,2] vs a→Q e a h'):AWp Tryz.prog (ca Zcj) Q (Fr.lst 13 [(0,s0),(1,seq1)]) h:=Zgk Z9h Zo (by kernel_rfl) (by kernel_rfl) hx hQ
noncomputable def Zxv:XE:={ T:=Zn [(143,Zmf)],C:=[],D:=[],Ms:=[],Ml:=[],Mo:=[],n:=13}
theorem Z9g:XE.Ok Zxv Tryz.prog:=⟨Zp (⟨Zqb,trivial⟩),trivial,Zq,trivial⟩
noncomputable def Zur (seq1:AVal) (s2:AVal) (h:Za):Option XPc:=Zl Zxv (ca (ca (cb Zcj))) XPc [(1,seq1),(2,s2)] h (pcK [2,6])
theorem Z1A (seq1:AVal) (s2:AVal) (h:Za):Zur seq1 s2 h =
 some (.normal,[s2,seq1],h):=by kernel_rfl
theorem Z1B {seq1:AVal} {s2:AVal} {h h':Za} {e:Exit} {vs:List AVal} {Q:AQ} (hx:Zur seq1 s2 h = some (e,vs,h')) (hQ:∀ a,Outs 13 [2,6] vs a→Q e a h'):AWp Tryz.prog (ca (ca (cb Zcj))) Q (Fr.lst 13 [(1,seq1),(2,s2)]) h:=Zgk Z9g Zo (by kernel_rfl) (by kernel_rfl) hx hQ
noncomputable def Zxt:XE:={ T:=Zn [(9,r9)],C:=[],D:=[],Ms:=[],Ml:=[],Mo:=[],n:=13}
theorem Z9e:XE.Ok Zxt Tryz.prog:=⟨Zp (⟨Zz,trivial⟩),trivial,Zq,trivial⟩
noncomputable def Zuq (s2:AVal) (t7:ByteArray) (h:Za):Option XPc:=Zl Zxt (ca (ca (cb (ca (cb Zcj))))) XPc [(2,s2),(7,(.lit (.string t7)))] h (pcK [2,5])
theorem Z16 (s2:AVal) (t7:ByteArray) (h:Za):Zuq s2 t7 h =
 some (.normal,[s2,(.lit (.string t7))],h):=by kernel_rfl
theorem Z17 {s2:AVal} {t7:ByteArray} {h h':Za} {e:Exit} {vs:List AVal} {Q:AQ} (hx:Zuq s2 t7 h = some (e,vs,h')) (hQ:∀ a,Outs 13 [2,5] vs a→Q e a h'):AWp Tryz.prog (ca (ca (cb (ca (cb Zcj))))) Q (Fr.lst 13 [(2,s2),(7,(.lit (.string t7)))]) h:=Zgk Z9e Zo (by kernel_rfl) (by kernel_rfl) hx hQ
noncomputable def Zxs:XE:={ T:=Zn [(9,r9),(52,r52)],C:=[],D:=[],Ms:=[],Ml:=[],Mo:=[],n:=13}
theorem Z9d:XE.Ok Zxs Tryz.prog:=⟨Zp (⟨Zz,⟨Zby,trivial⟩⟩),trivial,Zq,trivial⟩
noncomputable def Zmp (s2:Nat) (v5:ByteArray) (h:Za):Option XPc:=Zl Zxs (cb (ca (cb (ca (cb Zcj))))) XPc [(2,(.ptr s2 0)),(5,(.lit (.string v5)))] h (pcK [])
theorem Z14 (s2:Nat) (v5:ByteArray) (h:Za):Zmp s2 v5 h =
 (ld1 h (.ptr s2 0)).bind fun x1=>
 (ZbW 1 [(.lit (.string ({ data:=#[]})))] 1 [(0,(.lit (.string v5)))] h).bind fun r2=>
 (ZbY 1 16 r2.2 x1 r2.1).bind fun r3=>
 (st1 r3.2 (.ptr s2 0) r3.1).bind fun h4=>
 some (.normal,[],h4):=by kernel_rfl
theorem Z15 {s2:Nat} {v5:ByteArray} {h h':Za} {e:Exit} {vs:List AVal} {Q:AQ} (hx:Zmp s2 v5 h = some (e,vs,h')) (hQ:∀ a,Outs 13 [] vs a→Q e a h'):AWp Tryz.prog (cb (ca (cb (ca (cb Zcj))))) Q (Fr.lst 13 [(2,(.ptr s2 0)),(5,(.lit (.string v5)))]) h:=Zgk Z9d Zo (by kernel_rfl) (by kernel_rfl) hx hQ
noncomputable def Zxu:XE:={ T:=Zn [(9,r9),(52,r52)],C:=[],D:=[],Ms:=[],Ml:=[],Mo:=[],n:=13}
theorem Z9f:XE.Ok Zxu Tryz.prog:=⟨Zp (⟨Zz,⟨Zby,trivial⟩⟩),trivial,Zq,trivial⟩
noncomputable def Zqf (s2:Nat) (h:Za):Option XPc:=Zl Zxu (cb (cb Zcj)) XPc [(2,(.ptr s2 0))] h (pcK [4])
theorem Z18 (s2:Nat) (h:Za):Zqf s2 h =
 (ld1 h (.ptr s2 0)).bind fun x1=>
 some (.ret,[x1],h):=by kernel_rfl
theorem Z19 {s2:Nat} {h h':Za} {e:Exit} {vs:List AVal} {Q:AQ} (hx:Zqf s2 h = some (e,vs,h')) (hQ:∀ a,Outs 13 [4] vs a→Q e a h'):AWp Tryz.prog (cb (cb Zcj)) Q (Fr.lst 13 [(2,(.ptr s2 0))]) h:=Zgk Z9f Zo (by kernel_rfl) (by kernel_rfl) hx hQ
theorem Z0C:Zcj = .seq (ca Zcj) (.seq (.seq (ca (ca (cb Zcj))) (.block 0 (.rangeFunc (.tmp 6) #[7] (ca (ca (cb (ca (cb Zcj))))) (cb (ca (cb (ca (cb Zcj)))))))) (cb (cb Zcj))):=by kernel_rfl
def SlK (lo:Nat) (g:Za) (v:AVal) (ks:List ByteArray):Prop:=(ks = []∧v = .lit (.slice none 0 0))∨(ks≠[]∧∃ b,lo≤b∧v = .sl 1 b 0 ks.length∧g[b]? = some (.cells (ks.map ZbH)))
theorem Z4e (k:ByteArray) (g:Za):ZbW 1 [(.lit (.string ({ data:=#[]})))] 1 [(0,(.lit (.string k)))] g = some (.sl 1 g.length 0 1,g++[AObj.cells [ZbH k]]):=by
 simp[ZbW,Zcp,req,ZbH,AVal.parts,Zbr]
theorem ZtA (k:ByteArray) (g:Za):Zcs (g++[AObj.cells [ZbH k]]) 1 (.sl 1 g.length 0 1) 1 = some [ZbH k]:=by simp[Zcs]
theorem Z4c {sb lo:Nat} {g:Za} {v:AVal} {ks:List ByteArray} (k:ByteArray) (hsb:g[sb]? = some (.cells [v])) (hlo:lo≤g.length) (hlt:sb < lo) (hk:SlK lo g v ks) (hsz:(ks.length + 1) * 16≤140737488355328):
  ∃ g' v',Zmp sb k g = some (.normal,[],g')∧g'[sb]? = some (.cells [v'])∧SlK lo g' v' (ks++[k])∧(∀ c,c < lo→c≠sb→g'[c]? = g[c]?)∧g.length≤g'.length:=by
 have hsg:=ZE hsb
 have hld:ld1 g (.ptr sb 0) = some v:=by simp[ld1,Zb,hsb]
 have fin:∀ (G2:Za) (u:AVal) (n:Nat),u = .sl 1 (g.length + 1) 0 n→n = ks.length + 1→ZbY 1 16 (g++[AObj.cells [ZbH k]]) v (.sl 1 g.length 0 1) = some (u,G2)→G2[sb]? = some (.cells [v])→G2[g.length + 1]? = some (.cells ((ks++[k]).map ZbH))→(∀ c,c < lo→G2[c]? = g[c]?)→g.length≤G2.length→
   ∃ g' v',Zmp sb k g = some (.normal,[],g')∧g'[sb]? = some (.cells [v'])∧SlK lo g' v' (ks++[k])∧(∀ c,c < lo→c≠sb→g'[c]? = g[c]?)∧g.length≤g'.length:=by
  rintro G2 u n rfl rfl hap h1 h2 h3 h4
  have hst:st1 G2 (.ptr sb 0) (.sl 1 (g.length + 1) 0 (ks.length + 1)) = some (G2.set sb (.cells [.sl 1 (g.length + 1) 0 (ks.length + 1)])):=by
   rw[Zbq (cs:=[v]) (by simp[Zb,h1]) rfl (by simp)];rfl
  refine ⟨_,.sl 1 (g.length + 1) 0 (ks.length + 1),?_,List.getElem?_set_self (ZE h1),.inr ⟨by simp,g.length + 1,by omega,by simp,?_⟩,fun c hc hcs=>?_,by simpa using h4⟩
  ·rw[Z14,hld,Option.bind_some,Z4e,Option.bind_some,hap,Option.bind_some,hst];rfl
  ·rw[List.getElem?_set_ne (by omega)];exact h2
  ·rw[List.getElem?_set_ne (Ne.symm hcs)];exact h3 c hc
 rcases hk with ⟨rfl,rfl⟩ | ⟨hne,b,hb,rfl,hcb⟩
 ·refine fin (g++[AObj.cells [ZbH k]]++[AObj.cells [ZbH k]]) _ 1 rfl rfl ?_ ?_ ?_ (fun c hc=>?_) (by simp)
  ·simp[ZbY,srcLen,ZtA,req]
  ·rw[List.append_assoc,List.getElem?_append_left (by omega)];exact hsb
  ·simp
  ·rw[List.append_assoc,List.getElem?_append_left (by omega)]
 ·have hbg:=ZE hcb
  refine fin ((g++[AObj.cells [ZbH k]]).set b .dead++[AObj.cells (ks.map ZbH++[ZbH k])]) _ (ks.length + 1) rfl rfl ?_ ?_ ?_ (fun c hc=>?_) (by simp;omega)
  ·have h1:Zb (g++[AObj.cells [ZbH k]]) b = some (ks.map ZbH):=ZdF _ (by simp[Zb,hcb])
   have h3:(List.take (ks.length * 1) (List.drop 0 (ks.map ZbH))) = ks.map ZbH:=by rw[List.drop_zero,List.take_of_length_le (by simp)]
   simp only[ZbY,srcLen,Option.bind_some,ZtA,h1]
   rw[Z8 (by refine ⟨?_,?_,hsz,?_⟩<;>simp[ZbH,AVal.one,Value.oneCell']),Option.bind_some,h3]
   simp
  ·rw[List.getElem?_append_left (by simp;omega),List.getElem?_set_ne (by omega),List.getElem?_append_left (by omega)];exact hsb
  ·simp
  ·rw[List.getElem?_append_left (by simp;omega),List.getElem?_set_ne (by omega),List.getElem?_append_left (by omega)]
def ZcO:AVal:=.lit (.slice none 0 0)
def ZgU (bs:List Nat) (L:List (ByteArray×AVal)) (s:Nat):ByteArray:=(L.map (·.1)).getD (bs.idxOf s) ByteArray.empty
def ZcM (L:List (ByteArray×AVal)):List (Value×AVal):=L.map fun p=>(.string p.1,p.2)
theorem ZuN {bs:List Nat} {L:List (ByteArray×AVal)} (hn:bs.Nodup) {i s:Nat} (hs:bs[i]? = some s) (hi:i < L.length):ZgU bs L s = L[i].1:=by
 unfold ZgU
 obtain ⟨hb,rfl⟩:=List.getElem?_eq_some_iff.1 hs
 rw[hn.idxOf_getElem]
 simp[List.getD_eq_getElem?_getD,hi]
theorem Z27 {bs:List Nat} {L:List (ByteArray×AVal)} (hn:bs.Nodup) (hl:bs.length = L.length):bs.map (ZgU bs L) = L.map (·.1):=by
 apply List.ext_getElem (by simp[hl])
 intro i h1 h2
 have hi:i < L.length:=by simpa using h2
 simp only[List.getElem_map]
 exact ZuN hn (List.getElem?_eq_getElem (by omega)) hi
noncomputable abbrev cA:Code:=ca (ca (cb (ca (cb Zcj))))
noncomputable abbrev cB:Code:=cb (ca (cb (ca (cb Zcj))))
theorem Z5z (sb:Nat) (f:AVal) (k:ByteArray):Weak (Zgl (Fr.lst 13 [(2,.ptr sb 0),(6,f)]) (#[7]:Array Nat).toList [.lit (.string k)]) (Fr.lst 13 [(2,.ptr sb 0),(7,.lit (.string k))]):=
 Outs.weak (outs:=[2,7]) (vs:=[.ptr sb 0,.lit (.string k)]) ⟨by kernel_rfl,by kernel_rfl⟩ (by kernel_rfl)
theorem Z49 {bx mb clock:Nat} {L:List (ByteArray×AVal)} {bs:List Nat} {h:Za} (hbx:h[bx]? = some (.cells [.map mb])) (hm:h[mb]? = some (.mapS .str (ZcM L) bs clock)) (hl:bs.length = L.length) (hbn:bs.Nodup)
  (hbc:∀ s∈bs,s < clock) (hsz:L.length * 16≤140737488355328):
  ACalls Tryz.prog 140 [ZcO,.fn (.func 132) [] [.ptr bx 0]] h fun e g=>
   ∃ v ks,e = .ret v∧ks.Perm (L.map (·.1))∧SlK h.length g v ks∧(∀ c,c < h.length→g[c]? = h[c]?)∧h.length≤g.length:=by
 refine ZmU (c:=Zcj) (fn:=f140) (by rfl) (by kernel_rfl) (by kernel_rfl) fun hok=>?_
 generalize hfv:AVal.fn (.func 132) [] [.ptr bx 0] = fv
 have main:AWp Tryz.prog Zcj (fun e a g=>e = .ret∧∃ ks,ks.Perm (L.map (·.1))∧SlK h.length g (Z2 a 4) ks∧(∀ c,c < h.length→g[c]? = h[c]?)) ((ZcI [ZcO,fv] 0).lst f140.ntmps) h:=by
  rw[show (ZcI [ZcO,fv] 0).lst f140.ntmps = Fr.lst 13 [(0,ZcO),(1,fv)] from by kernel_rfl,Z0C]
  refine Zdm (Z1D (Z1C _ _ _) fun a ho=>?_)
  refine Zf9 (ho.weak (by kernel_rfl)) ?_
  refine Zdm (Zdm (Z1B (Z1A _ _ _) fun a ho=>?_))
  refine Zf9 (ho.weak (by kernel_rfl)) (ZmS (ZvG ?_))
  have hlt1:bx < h.length:=ZE hbx
  have hlt2:mb < h.length:=ZE hm
  have hev:Ze (Fr.lst 13 ([2,6].zip [.ptr h.length 0,fv])) (.tmp 6) = fv:=by kernel_rfl
  unfold ZnT
  rw[hev,←hfv]
  refine ⟨by kernel_rfl,?_⟩
  rw[hfv]
  change ACalls Tryz.prog _ ([]++[.yld (psh h (.cells [ZcO])).length]++[.ptr bx 0]) (psh h (.cells [ZcO])++[.loop .ready none (Fr.lst 13 [(2,.ptr h.length 0),(6,fv)]) #[7] cA cB]) _
  rw[Zbm]
  have hlen:(psh h (.cells [ZcO])++[AObj.loop .ready none (Fr.lst 13 [(2,.ptr h.length 0),(6,fv)]) #[7] cA cB]).length = h.length + 2:=by simp[psh]
  have old:∀ c,c < h.length→(psh h (.cells [ZcO])++[AObj.loop .ready none (Fr.lst 13 [(2,.ptr h.length 0),(6,fv)]) #[7] cA cB])[c]? = h[c]?:=fun c hc=>by
   rw[List.getElem?_append_left (by simp[psh];omega)];simp[psh,List.getElem?_append_left hc]
  have atS:(psh h (.cells [ZcO])++[AObj.loop .ready none (Fr.lst 13 [(2,.ptr h.length 0),(6,fv)]) #[7] cA cB])[h.length]? = some (.cells [ZcO]):=by simp[psh]
  have atL:(psh h (.cells [ZcO])++[AObj.loop .ready none (Fr.lst 13 [(2,.ptr h.length 0),(6,fv)]) #[7] cA cB])[h.length + 1]? = some (AObj.loop .ready none (Fr.lst 13 [(2,.ptr h.length 0),(6,fv)]) #[7] cA cB):=by simp[psh]
  generalize psh h (.cells [ZcO])++[AObj.loop .ready none (Fr.lst 13 [(2,.ptr h.length 0),(6,fv)]) #[7] cA cB] = H2 at hlen old atS atL
  refine Z24 (mb:=mb) (clock:=clock) (d:=.str) (es:=ZcM L) (bs:=bs) (fun seen g=>g[h.length + 1]? = some (AObj.loop .ready none (Fr.lst 13 [(2,.ptr h.length 0),(6,fv)]) #[7] cA cB)∧(∃ v,g[h.length]? = some (.cells [v])∧SlK (h.length + 3) g v (seen.map (ZgU bs L)))∧(∀ c,c < h.length→g[c]? = h[c]?)∧h.length + 3≤g.length)
   ((old bx hlt1).trans hbx) ((old mb hlt2).trans hm) (by simp[ZcM,hl]) hbn hbc ?_ ?_ ?_
  ·refine ⟨⟨?_,⟨ZcO,?_,.inl ⟨rfl,rfl⟩⟩,fun c hc=>?_,by simp[hlen]⟩,?_,⟨clock,Nat.le_refl _,by simp⟩,List.nodup_nil,fun s hs=>by cases hs⟩
   ·rw[List.getElem?_append_left (by omega)];exact atL
   ·rw[List.getElem?_append_left (by omega)];exact atS
   ·rw[List.getElem?_append_left (by omega)];exact old c hc
   ·rw[List.getElem?_append_left (by omega)];exact (old mb hlt2).trans hm
  ·intro seen h1 i s hi hI hs hns
   obtain ⟨⟨hL,⟨v,hS,hK⟩,hO,hG⟩,hM,⟨c0,hc0,hit⟩,hnd,hsub⟩:=hI
   have hiL:i < L.length:=by simpa[ZcM] using hi
   have hkey:((ZcM L)[i]).1 = .string L[i].1:=by simp[ZcM]
   rw[hkey,hlen]
   have hb2:(h1.set (h.length + 2) (.mit mb clock (seen++[s]) clock))[h.length + 1]? = some (AObj.loop .ready none (Fr.lst 13 [(2,.ptr h.length 0),(6,fv)]) #[7] cA cB):=by rw[List.getElem?_set_ne (by omega)];exact hL
   refine Z4u (p:=none) (a:=Fr.lst 13 [(2,.ptr h.length 0),(6,fv)]) (ps:=#[7]) (x:=cA) (y:=cB) hb2 rfl ?_
   refine Zf9 (Z5z h.length fv _) (Z17 (Z16 _ _ _) fun a1 ho=>⟨none,hb2,?_⟩)
   refine Zf9 (ho.weak (by kernel_rfl)) ?_
   have hlk:(seen.map (ZgU bs L)).length + 1≤L.length:=by
    have h2:(seen++[s]).length≤bs.length:=Zqi (List.nodup_append.2 ⟨hnd,by simp,fun a ha b hb e=>by
     obtain rfl:b = s:=by simpa using hb
     subst e;exact hns ha⟩) (fun x hx=>by
      rcases List.mem_append.1 hx with hx |hx
      ·exact hsub x hx
      ·obtain rfl:x = s:=by simpa using hx
       exact List.mem_of_getElem? hs)
    simp only[List.length_append,List.length_cons,List.length_nil] at h2
    rw[List.length_map];omega
   have hSK:SlK (h.length + 3) ((h1.set (h.length + 2) (.mit mb clock (seen++[s]) clock)).set (h.length + 1) (.loop .busy none (Fr.lst 13 [(2,.ptr h.length 0),(6,fv)]) #[7] cA cB)) v (seen.map (ZgU bs L)):=by
    rcases hK with hK | ⟨k1,b,k2,k3,k4⟩
    ·exact .inl hK
    ·exact .inr ⟨k1,b,k2,k3,by rw[List.getElem?_set_ne (by omega),List.getElem?_set_ne (by omega)];exact k4⟩
   obtain ⟨g',v',hrun,hS',hK',hO',hG'⟩:=Z4c (sb:=h.length) (lo:=h.length + 3) (g:=(h1.set (h.length + 2) (.mit mb clock (seen++[s]) clock)).set (h.length + 1) (.loop .busy none (Fr.lst 13 [(2,.ptr h.length 0),(6,fv)]) #[7] cA cB)) L[i].1
    (by rw[List.getElem?_set_ne (by omega),List.getElem?_set_ne (by omega)];exact hS) (by simp;omega) (by omega) hSK (by omega)
   refine Z15 hrun fun a2 _=>?_
   have hloop:g'[h.length + 1]? = some (.loop .busy none (Fr.lst 13 [(2,.ptr h.length 0),(6,fv)]) #[7] cA cB):=by
    rw[hO' _ (by omega) (by omega)];exact List.getElem?_set_self (by simp;omega)
   refine ⟨_,_,_,_,_,_,hloop,rfl,⟨List.getElem?_set_self (ZE hloop),⟨v',?_,?_⟩,fun c hc=>?_,?_⟩,?_,⟨clock,Nat.le_refl _,?_⟩,?_,?_⟩
   ·rw[List.getElem?_set_ne (by omega)];exact hS'
   ·rw[List.map_append,List.map_cons,List.map_nil,ZuN hbn hs hiL]
    rcases hK' with hK | ⟨k1,b,k2,k3,k4⟩
    ·exact .inl hK
    ·exact .inr ⟨k1,b,k2,k3,by rw[List.getElem?_set_ne (by omega)];exact k4⟩
   ·rw[List.getElem?_set_ne (by omega),hO' c (by omega) (by omega),List.getElem?_set_ne (by omega),List.getElem?_set_ne (by omega)];exact hO c hc
   ·simp only[List.length_set] at hG'⊢;omega
   ·rw[List.getElem?_set_ne (by omega),hO' mb (by omega) (by omega),List.getElem?_set_ne (by omega),List.getElem?_set_ne (by omega)];exact hM
   ·rw[List.getElem?_set_ne (by omega),hO' _ (by omega) (by omega),List.getElem?_set_ne (by omega)];exact List.getElem?_set_self (by omega)
   ·exact List.nodup_append.2 ⟨hnd,by simp,fun a ha b hb e=>by
     obtain rfl:b = s:=by simpa using hb
     subst e;exact hns ha⟩
   ·intro x hx
    rcases List.mem_append.1 hx with hx |hx
    ·exact hsub x hx
    ·obtain rfl:x = s:=by simpa using hx
     exact List.mem_of_getElem? hs
  ·rintro seen h1 ⟨⟨hL,⟨v,hS,hK⟩,hO,hG⟩,hM,hit,hnd,hsub⟩ hall
   have hpl:(psh h (.cells [ZcO])).length = h.length + 1:=Zbm _ _
   refine ⟨.ready,none,_,_,_,_,(show h1[(psh h (.cells [ZcO])).length]? = _ by rw[hpl];exact hL),by simp,?_⟩
   show AWp Tryz.prog (cb (cb Zcj)) _ (Fr.lst 13 [(2,.ptr h.length 0),(6,fv)]) (h1.set (psh h (.cells [ZcO])).length .dead)
   rw[hpl]
   show AWp Tryz.prog (cb (cb Zcj)) _ (Fr.lst 13 [(2,.ptr h.length 0),(6,fv)]) (h1.set (h.length + 1) .dead)
   refine Zf9 (Outs.weak (n:=13) (outs:=[2]) (vs:=[.ptr h.length 0]) ⟨by kernel_rfl,by kernel_rfl⟩ (by kernel_rfl)) ?_
   have hrun:Zqf h.length (h1.set (h.length + 1) .dead) = some (.ret,[v],h1.set (h.length + 1) .dead):=by
    rw[Z18,Zc (cs:=[v]) (by simp[Zb,List.getElem?_set_ne,hS])];rfl
   refine Z19 hrun fun a ho=>⟨rfl,seen.map (ZgU bs L),?_,?_,fun c hc=>?_⟩
   ·rw[←Z27 hbn hl]
    exact ((List.perm_ext_iff_of_nodup hnd hbn).2 fun x=>⟨hsub x,hall x⟩).map _
   ·have h4:Z2 a 4 = v:=by have:=ho.2;simpa using this
    rw[h4]
    rcases hK with hK | ⟨k1,b,k2,k3,k4⟩
    ·exact .inl hK
    ·exact .inr ⟨k1,b,by omega,k3,by rw[List.getElem?_set_ne (by omega)];exact k4⟩
   ·rw[List.getElem?_set_ne (by omega)];exact hO c hc
 refine ZeE (Zki main) ?_
 rintro e a g ⟨⟨rfl,ks,hp,hk,ho⟩,hlen⟩
 show aResults Tryz.prog f140 a g _
 unfold aResults
 rw[show f140.results.toList = [.tmp 4] from by kernel_rfl]
 simp only[aResults.go,List.nil_append]
 exact ZmD hlen ⟨_,ks,rfl,hp,hk,ho,hlen⟩
end Go.Proofs.YtogaiomakhapmaaGreat.AL
namespace Go.Proofs.YtogaiomakhapmaaGreat.AL
set_option maxRecDepth 100000
open Go
open Go.Proofs.Tryz
noncomputable def Zf2:Code:=ZP f130
noncomputable def Zxx:XE:={ T:=Zn [(9,r9),(52,r52)],C:=[],D:=[],Ms:=[],Ml:=[],Mo:=[],n:=5}
theorem Z9i:XE.Ok Zxx Tryz.prog:=⟨Zp (⟨Zz,⟨Zby,trivial⟩⟩),trivial,Zq,trivial⟩
noncomputable def Zut (seq0:AVal) (h:Za):Option XPc:=Zl Zxx (ca Zf2) XPc [(0,seq0)] h (pcK [0])
theorem Z1E (seq0:AVal) (h:Za):Zut seq0 h =
 some (.normal,[seq0],h):=by kernel_rfl
theorem Z1F {seq0:AVal} {h h':Za} {e:Exit} {vs:List AVal} {Q:AQ} (hx:Zut seq0 h = some (e,vs,h')) (hQ:∀ a,Outs 5 [0] vs a→Q e a h'):AWp Tryz.prog (ca Zf2) Q (Fr.lst 5 [(0,seq0)]) h:=Zgk Z9i Zo (by kernel_rfl) (by kernel_rfl) hx hQ
theorem Z2D:ca (cb Zf2) = Code.region 1 #[{ dst:=some 3,op:=Go.Op.move (Go.Operand.tmp 0),type:=143,pos:= "iter.go:60",after:=#[],guard:=none},{ dst:=some 4,op:=Go.Op.call { callee:=Go.Callee.value (Go.Operand.func 140),args:=#[Go.Operand.const (Go.Value.slice none 0 0),Go.Operand.tmp 3],argTypes:=#[52,143]},type:=52,pos:= "iter.go:60",after:=#[{ on:=0,ground:=Go.Ground.data}],guard:=none},{ dst:=some 2,op:=Go.Op.assign (Go.Operand.tmp 4),type:=52,pos:= "iter.go:60",after:=#[{ on:=1,ground:=Go.Ground.data},{ on:=1,ground:=Go.Ground.chain},{ on:=0,ground:=Go.Ground.phase},{ on:=1,ground:=Go.Ground.phase}],guard:=none}] false:=by kernel_rfl
theorem Z0E:Zf2 = .seq (ca Zf2) (.seq (ca (cb Zf2)) .ret):=by kernel_rfl
noncomputable def Zda:Code:=ZP f108
noncomputable def Zxz:XE:={ T:=Zn [(9,r9),(52,r52)],C:=[],D:=[],Ms:=[],Ml:=[],Mo:=[],n:=9}
theorem Z9k:XE.Ok Zxz Tryz.prog:=⟨Zp (⟨Zz,⟨Zby,trivial⟩⟩),trivial,Zq,trivial⟩
noncomputable def Zuv (seq0:AVal) (h:Za):Option XPc:=Zl Zxz (ca Zda) XPc [(0,seq0)] h (pcK [0])
theorem Z1I (seq0:AVal) (h:Za):Zuv seq0 h =
 some (.normal,[seq0],h):=by kernel_rfl
theorem Z1J {seq0:AVal} {h h':Za} {e:Exit} {vs:List AVal} {Q:AQ} (hx:Zuv seq0 h = some (e,vs,h')) (hQ:∀ a,Outs 9 [0] vs a→Q e a h'):AWp Tryz.prog (ca Zda) Q (Fr.lst 9 [(0,seq0)]) h:=Zgk Z9k Zo (by kernel_rfl) (by kernel_rfl) hx hQ
theorem Z2F:ca (cb Zda) = Code.region 1 #[{ dst:=some 4,op:=Go.Op.move (Go.Operand.tmp 0),type:=143,pos:= "iter.go:67",after:=#[],guard:=none},{ dst:=some 5,op:=Go.Op.call { callee:=Go.Callee.value (Go.Operand.func 130),args:=#[Go.Operand.tmp 4],argTypes:=#[143]},type:=52,pos:= "iter.go:67",after:=#[{ on:=0,ground:=Go.Ground.data}],guard:=none},{ dst:=some 3,op:=Go.Op.assign (Go.Operand.tmp 5),type:=52,pos:= "iter.go:67",after:=#[{ on:=1,ground:=Go.Ground.data},{ on:=1,ground:=Go.Ground.chain},{ on:=0,ground:=Go.Ground.phase},{ on:=1,ground:=Go.Ground.phase}],guard:=none}] false:=by kernel_rfl
theorem Z2E:ca (cb (cb Zda)) = Code.region 2 #[{ dst:=some 6,op:=Go.Op.move (Go.Operand.tmp 3),type:=52,pos:= "iter.go:68",after:=#[],guard:=none},{ dst:=some 7,op:=Go.Op.call { callee:=Go.Callee.value (Go.Operand.func 131),args:=#[Go.Operand.tmp 6],argTypes:=#[52]},type:=0,pos:= "iter.go:68",after:=#[{ on:=0,ground:=Go.Ground.data}],guard:=none}] false:=by kernel_rfl
noncomputable def Zxy:XE:={ T:=Zn [(9,r9),(52,r52)],C:=[],D:=[],Ms:=[],Ml:=[],Mo:=[],n:=9}
theorem Z9j:XE.Ok Zxy Tryz.prog:=⟨Zp (⟨Zz,⟨Zby,trivial⟩⟩),trivial,Zq,trivial⟩
noncomputable def Zuu (s3:AVal) (h:Za):Option XPc:=Zl Zxy (cb (cb (cb Zda))) XPc [(3,s3)] h (pcK [2])
theorem Z1G (s3:AVal) (h:Za):Zuu s3 h =
 some (.ret,[s3],h):=by kernel_rfl
theorem Z1H {s3:AVal} {h h':Za} {e:Exit} {vs:List AVal} {Q:AQ} (hx:Zuu s3 h = some (e,vs,h')) (hQ:∀ a,Outs 9 [2] vs a→Q e a h'):AWp Tryz.prog (cb (cb (cb Zda))) Q (Fr.lst 9 [(3,s3)]) h:=Zgk Z9j Zo (by kernel_rfl) (by kernel_rfl) hx hQ
theorem Z0F:Zda = .seq (ca Zda) (.seq (ca (cb Zda)) (.seq (ca (cb (cb Zda))) (cb (cb (cb Zda))))):=by kernel_rfl
abbrev ZdB (bx:Nat):AVal:=.fn (.func 132) [] [.ptr bx 0]
theorem Z3F {bx mb clock:Nat} {L:List (ByteArray×AVal)} {bs:List Nat} {h:Za} (hbx:h[bx]? = some (.cells [.map mb])) (hm:h[mb]? = some (.mapS .str (ZcM L) bs clock)) (hl:bs.length = L.length) (hbn:bs.Nodup)
  (hbc:∀ s∈bs,s < clock) (hsz:L.length * 16≤140737488355328):
  ACalls Tryz.prog 130 [ZdB bx] h fun e g=>
   ∃ v ks,e = .ret v∧ks.Perm (L.map (·.1))∧SlK h.length g v ks∧(∀ c,c < h.length→g[c]? = h[c]?)∧h.length≤g.length:=by
 refine ZmU (c:=Zf2) (fn:=f130) (by rfl) (by kernel_rfl) (by kernel_rfl) fun hok=>?_
 have hcall:=Z49 hbx hm hl hbn hbc hsz
 rw[show (AVal.fn (.func 132) [] [.ptr bx 0]) = ZdB bx from rfl] at hcall
 generalize ZdB bx = fv at hcall
 have main:AWp Tryz.prog Zf2 (fun e a g=>e = .ret∧∃ ks,ks.Perm (L.map (·.1))∧SlK h.length g (Z2 a 2) ks∧(∀ c,c < h.length→g[c]? = h[c]?)) ((ZcI [fv] 0).lst f130.ntmps) h:=by
  rw[show (ZcI [fv] 0).lst f130.ntmps = Fr.lst 5 [(0,fv)] from by kernel_rfl,Z0E]
  refine Zdm (Z1F (Z1E _ _) fun a ho=>?_)
  obtain ⟨hlen,hout⟩:=ho
  have g0:Z2 a 0 = fv:=by simpa using hout
  show AWp Tryz.prog (.seq (ca (cb Zf2)) .ret) _ _ _
  refine Zdm ?_
  rw[Z2D]
  refine Zhf ?_
  simp only[Zdy,Zdc,ZcB,AOp,Ze,g0]
  simp only[Zg5,AL.evs,List.map_cons,List.map_nil,Ze,List.nil_append,List.append_nil]
  rw[ZS (by omega),if_pos rfl]
  refine ⟨by kernel_rfl,hcall.mono ?_⟩
  rintro e g ⟨v,ks,rfl,hp,hk,ho,_⟩
  simp only
  rw[ZS (by simp[Zba,hlen]),if_pos rfl]
  show AWp Tryz.prog .ret _ _ _
  refine Zri ⟨rfl,ks,hp,?_,ho⟩
  rw[ZS (by simp[Zba,hlen]),if_pos rfl];exact hk
 refine ZeE (Zki main) ?_
 rintro e a g ⟨⟨rfl,ks,hp,hk,ho⟩,hlen⟩
 show aResults Tryz.prog f130 a g _
 unfold aResults
 rw[show f130.results.toList = [.tmp 2] from by kernel_rfl]
 simp only[aResults.go,List.nil_append]
 exact ZmD hlen ⟨_,ks,rfl,hp,hk,ho,hlen⟩
theorem Z0z {lo:Nat} {g:Za} {v:AVal} {ks:List ByteArray} (hk:SlK lo g v ks) (hsz:ks.length < 4611686018427387904):
  ACalls Tryz.prog 131 [v] g fun e g'=>e = .ret (.tup [])∧SlK lo g' v (ZbP ks)∧(∀ c,c < lo→g'[c]? = g[c]?)∧g'.length = g.length:=by
 rcases hk with ⟨rfl,rfl⟩ | ⟨hne,b,hb,rfl,hcb⟩
 ·refine sort_none.mono ?_
  rintro e g' ⟨rfl,rfl⟩
  exact ⟨rfl,.inl ⟨by simp[ZbP],rfl⟩,fun _ _=>rfl,rfl⟩
 ·refine (Z0y hcb (List.length_pos_iff.2 hne) hsz).mono ?_
  rintro e g' ⟨rfl,rfl⟩
  refine ⟨rfl,.inr ⟨fun h0=>hne ?_,b,hb,by rw[Zj4],List.getElem?_set_self (ZE hcb)⟩,fun c hc=>List.getElem?_set_ne (by omega),by simp⟩
  have:=congrArg List.length h0
  rw[Zj4] at this
  exact List.eq_nil_of_length_eq_zero (by simpa using this)
theorem Z0x {bx mb clock:Nat} {L:List (ByteArray×AVal)} {bs:List Nat} {h:Za} (hbx:h[bx]? = some (.cells [.map mb])) (hm:h[mb]? = some (.mapS .str (ZcM L) bs clock)) (hl:bs.length = L.length) (hbn:bs.Nodup)
  (hbc:∀ s∈bs,s < clock) (hsz:L.length * 16≤140737488355328):
  ACalls Tryz.prog 108 [ZdB bx] h fun e g=>∃ v,e = .ret v∧SlK h.length g v (ZbP (L.map (·.1)))∧(∀ c,c < h.length→g[c]? = h[c]?)∧h.length≤g.length:=by
 refine ZmU (c:=Zda) (fn:=f108) (by rfl) (by kernel_rfl) (by kernel_rfl) fun hok=>?_
 have hcall:=Z3F hbx hm hl hbn hbc hsz
 generalize ZdB bx = fv at hcall
 have main:AWp Tryz.prog Zda (fun e a g=>e = .ret∧SlK h.length g (Z2 a 2) (ZbP (L.map (·.1)))∧(∀ c,c < h.length→g[c]? = h[c]?)) ((ZcI [fv] 0).lst f108.ntmps) h:=by
  rw[show (ZcI [fv] 0).lst f108.ntmps = Fr.lst 9 [(0,fv)] from by kernel_rfl,Z0F]
  refine Zdm (Z1J (Z1I _ _) fun a ho=>?_)
  obtain ⟨hlen,hout⟩:=ho
  have g0:Z2 a 0 = fv:=by simpa using hout
  show AWp Tryz.prog (.seq (ca (cb Zda)) _) _ _ _
  refine Zdm ?_
  rw[Z2F]
  refine Zhf ?_
  simp only[Zdy,Zdc,ZcB,AOp,Ze,g0]
  simp only[Zg5,AL.evs,List.map_cons,List.map_nil,Ze,List.nil_append,List.append_nil]
  rw[ZS (by omega),if_pos rfl]
  refine ⟨by kernel_rfl,hcall.mono ?_⟩
  rintro e g ⟨v,ks,rfl,hp,hk,ho,_⟩
  simp only
  rw[ZS (by simp[Zba,hlen]),if_pos rfl]
  have f3:Z2 (Zh (Zh (Zh a (some 4) fv) (some 5) v) (some 3) v) 3 = v:=by rw[ZS (by simp[Zba,hlen]),if_pos rfl]
  have flen:(Zh (Zh (Zh a (some 4) fv) (some 5) v) (some 3) v).length = 9:=by simp[Zba,hlen]
  generalize Zh (Zh (Zh a (some 4) fv) (some 5) v) (some 3) v = a1 at f3 flen
  show AWp Tryz.prog (.seq (ca (cb (cb Zda))) _) _ _ _
  refine Zdm ?_
  rw[Z2E]
  refine Zhf ?_
  simp only[Zdy,Zdc,ZcB,AOp,Ze,f3]
  simp only[Zg5,AL.evs,List.map_cons,List.map_nil,Ze,List.nil_append,List.append_nil]
  rw[ZS (by omega),if_pos rfl]
  have hkl:ks.length < 4611686018427387904:=by rw[hp.length_eq,List.length_map];omega
  refine ⟨by kernel_rfl,(Z0z hk hkl).mono ?_⟩
  rintro e g2 ⟨rfl,hk2,ho2,hlen2⟩
  simp only
  show AWp Tryz.prog (cb (cb (cb Zda))) _ _ _
  have e3:Z2 (Zh (Zh a1 (some 6) v) (some 7) (.tup [])) 3 = v:=by
   rw[ZS (by simp[Zba,flen]),if_neg (by simp),ZS (by omega),if_neg (by simp)];exact f3
  refine Zf9 (Outs.weak (n:=9) (outs:=[3]) (vs:=[v]) ⟨by simp[Zba,flen],by simp[e3]⟩ (by kernel_rfl)) ?_
  refine Z1H (Z1G _ _) fun a ho3=>⟨rfl,?_,fun c hc=>(ho2 c hc).trans (ho c hc)⟩
  have h2:Z2 a 2 = v:=by have:=ho3.2;simpa using this
  rw[h2,←Z00 hp];exact hk2
 refine ZeE (Zki main) ?_
 rintro e a g ⟨⟨rfl,hk,ho⟩,hlen⟩
 show aResults Tryz.prog f108 a g _
 unfold aResults
 rw[show f108.results.toList = [.tmp 2] from by kernel_rfl]
 simp only[aResults.go,List.nil_append]
 exact ZmD hlen ⟨_,rfl,hk,ho,hlen⟩
def Zfp (h:Za) (ks:List ByteArray):AVal:=if ks = [] then ZcO else .sl 1 h.length 0 ks.length
def Zfq (h:Za) (ks:List ByteArray):Za:=if ks = [] then h else h++[.cells (ks.map ZbH)]
theorem Z0w {bx mb:Nat} {L:List (ByteArray×AVal)} {h:Za} (hbx:h[bx]? = some (.cells [.map mb])) (hm:h[mb]? = some (.map .str (ZcM L))) (hsz:L.length * 16≤140737488355328):
  ACalls Tryz.prog 108 [ZdB bx] h fun e g=>e = .ret (Zfp h (ZbP (L.map (·.1))))∧g = Zfq h (ZbP (L.map (·.1))):=by
 have hbm:mb≠bx:=fun e=>by rw[e,hbx] at hm;cases hm
 have hlm:=ZE hm
 refine Z4D hm fun bs clock hbl hbn hbc=>?_
 have hok0:∀ (ρ:Env) (w:World),Rel ρ (h.set mb (.mapS .str (ZcM L) bs clock)) w→HOk (h.set mb (.mapS .str (ZcM L) bs clock)):=fun ρ w hR i o ho=>hR.idsObj ho
 have key:=Z0x (bx:=bx) (mb:=mb) (clock:=clock) (L:=L) (bs:=bs) (h:=h.set mb (.mapS .str (ZcM L) bs clock)) (by rw[List.getElem?_set_ne hbm];exact hbx) (List.getElem?_set_self hlm) (by simpa[ZcM] using hbl) hbn hbc hsz
 generalize hH:h.set mb (AObj.mapS .str (ZcM L) bs clock) = H at key hok0
 have hHl:H.length = h.length:=by rw[←hH];simp
 have hHm:H[mb]? = some (.mapS .str (ZcM L) bs clock):=by rw[←hH];exact List.getElem?_set_self hlm
 have hHset:H.set mb (.map .str (ZcM L)) = h:=by
  rw[←hH,List.set_set];exact ZpP hm
 generalize ZbP (L.map (·.1)) = ks at key⊢
 have fin:ACalls Tryz.prog 108 [ZdB bx] H fun e g=>e = .ret (Zfp H ks)∧g = Zfq H ks:=by
  intro ρ w us hR hv
  have hok:=hok0 ρ w hR
  refine (ACalls.tell key ?_) ρ w us hR hv
  rintro e g ⟨v,rfl,hk,hpre,_⟩ hlg
  unfold Zfp Zfq
  rcases hk with ⟨rfl,rfl⟩ | ⟨hne,b,hb,rfl,hcb⟩
  ·refine ⟨_,_,⟨by rw[if_pos rfl],by rw[if_pos rfl]⟩,Nat.le_refl _,fun ρ w u hR hE=>?_⟩
   obtain ⟨h1,h2⟩:=Z1a hR hok hpre
   refine ⟨ρ,fun _ _=>rfl,h1,h2,?_⟩
   cases hE with |ret v u hv=>cases hv;exact .ret _ _ (.lit _)
  ·refine ⟨_,_,⟨by rw[if_neg hne],by rw[if_neg hne]⟩,by simp,fun ρ w u hR hE=>?_⟩
   obtain ⟨ρ',k1,k2,k3,k4⟩:=Z0Z hR hok hpre hb hcb (by simp) (fun v hv=>by
    obtain ⟨s,_,rfl⟩:=List.mem_map.1 hv;exact .lit _)
   refine ⟨ρ',k1,k3,k4,?_⟩
   cases hE with |ret v u hv=>
   refine .ret _ _ ?_
   generalize ks.length = n at hv⊢
   cases hv with
   |sl _ _ _ _ cap _ hl hc _=>rw[←k2] at hc⊢;exact .sl 1 _ 0 _ cap (by simp) hl hc (.inl rfl)
   |slZ _ _ _ o _=>rw[←k2];exact .slZ 1 _ 0 o (by simp)
 refine fin.mono ?_
 rintro e g ⟨rfl,rfl⟩
 unfold Zfp Zfq
 by_cases h0:ks = []
 ·simp only[h0,if_true]
  exact ⟨hHm,trivial,hHset⟩
 ·simp only[h0,if_false]
  refine ⟨by rw[List.getElem?_append_left (by omega)];exact hHm,by rw[hHl],?_⟩
  rw[List.set_append_left _ _ (by omega),hHset]
end Go.Proofs.YtogaiomakhapmaaGreat.AL
