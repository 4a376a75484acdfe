import Derived.Test.YtogaiomakhapmaaGreatG1
import Derived.Orders
import Derived.Still
import Derived.Below
import Derived.Carry
import Derived.WideLaws
import Derived.ProofKit
import Derived.OpenShut
import Derived.ChangeOld
import Derived.SizedLaws
import Derived.Shelf.Strconv.Clone
import Derived.Test.YtogaiomakhapmaaGreatProg
set_option linter.unusedVariables false
set_option linter.unusedSimpArgs false
namespace Go.Proofs.YtogaiomakhapmaaGreat.AL
open Go
variable {G:Rnd} {ρ ρ':Env} {h h':Za} {w w':World} {P:Program}
def Weak:List AVal→List AVal→Prop
 | [],[]=>True
 |x :: xs,y :: ys=>(y = .any∨x = y)∧Weak xs ys
 |_,_=>False
theorem Weak.refl:∀ a:List AVal,Weak a a
 | []=>trivial
 |_ :: xs=>⟨.inr rfl,Weak.refl xs⟩
theorem Weak.spec:∀ {a b:List AVal},Weak a b→a.length = b.length∧∀ (i:Nat) (h1:i < a.length) (h2:i < b.length),b[i] = .any∨a[i] = b[i]
 | [],[],_=>⟨rfl,fun i h1=>by simp at h1⟩
 |x :: xs,y :: ys,hw=>by
  obtain ⟨h1,h2⟩:=hw
  obtain ⟨h3,h4⟩:=Weak.spec h2
  refine ⟨by simp[h3],fun i hi hj=>?_⟩
  cases i with
  |zero=>exact h1
  |succ i=>exact h4 i (by simpa using hi) (by simpa using hj)
theorem AR.weak {a b:List AVal} {ca:Act} (ha:AR G ρ h w a ca) (hw:Weak a b):AR G ρ h w b ca:=by
 obtain ⟨h1,h2⟩:=hw.spec
 refine ⟨h1.symm.trans ha.size,fun i hi=>?_,ha.plain⟩
 rcases h2 i (by omega) hi with h3 |h3
 ·rw[h3];exact .any _
 ·rw[←h3];exact ha.slot i (by omega)
theorem Zf9 {c:Code} {Q:AQ} {a b:List AVal} (hw:Weak a b) (hc:AWp P c Q b h):AWp P c Q a h:=
 fun G ρ w ca hR ha=>hc G ρ w ca hR (ha.weak hw)
mutual
def AVal.closed:AVal→Bool
 | .any=>true
 | .lit _=>true
 | .agg vs=>ZeB vs
 | .tup vs=>ZeB vs
 | .rop cs=>ZeB cs
 | .ros cs _=>ZeB cs
 | .fn _ vs ws=>ZeB vs && ZeB ws
 | .ifc _ v=>v.closed
 |_=>false
def ZeB:List AVal→Bool
 | []=>true
 |v :: vs=>v.closed && ZeB vs
end
mutual
theorem AVal.closed_ids {n:Nat}:∀ {v:AVal},v.closed = true→Below n v
 | .any,_=>.any
 | .lit _,_=>.lit _
 | .agg vs,hc=>.agg _ (Zgf (by simpa[AVal.closed] using hc))
 | .tup vs,hc=>.tup _ (Zgf (by simpa[AVal.closed] using hc))
 | .rop cs,hc=>.rop _ (Zgf (by simpa[AVal.closed] using hc))
 | .ros cs _,hc=>.ros _ _ (Zgf (by simpa[AVal.closed] using hc))
 | .fn _ vs ws,hc=>by
   simp only[AVal.closed,Bool.and_eq_true] at hc
   exact .fn _ _ _ (Zgf hc.1) (Zgf hc.2)
 | .ifc _ v,hc=>.ifc _ _ (AVal.closed_ids (by simpa[AVal.closed] using hc))
 | .ptr _ _,hc=>by simp[AVal.closed] at hc
 | .sl _ _ _ _,hc=>by simp[AVal.closed] at hc
 | .map _,hc=>by simp[AVal.closed] at hc
theorem Zgf {n:Nat}:∀ {vs:List AVal},ZeB vs = true→∀ v∈vs,Below n v
 | [],_,v,hv=>by simp at hv
 |x :: xs,hc,v,hv=>by
  simp only[ZeB,Bool.and_eq_true] at hc
  have h1:Below n x:=AVal.closed_ids hc.1
  have h2:∀ v∈xs,Below n v:=Zgf hc.2
  rcases List.mem_cons.1 hv with h3 |h3
  ·rw[h3];exact h1
  ·exact h2 v h3
end
def HOk (h:Za):Prop:=∀ (i:Nat) (o:AObj),h[i]? = some o→Zhy h.length o
theorem ZvR {f:FuncId} {fn:Func} {c:Code} {args:List AVal} {R:AEnd→Za→Prop} (hf:P.funcs[f]? = some fn) (hb:fn.body = some c)
  (hc:HOk h→AWp P c (ABody P fn h R) (args++List.replicate (fn.ntmps - args.length) .any) h):ACalls P f args h R:=
 fun ρ w us hR hv=>Z4E hf hb (hc fun i o ho=>hR.idsObj ho) ρ w us hR hv
theorem ZqL {h0:Za} {L:List AObj} {v:AVal} {R:AEnd→Za→Prop} (hb:HOk h0) (hv:v.closed = true) (hr:R (.ret v) h0):ABody.AEnds h0 (h0++L) (.ret v) R:=
 ⟨h0,.ret v,Nat.le_refl _,hr,fun ρ w u hR hE=>⟨Fewer.app _ _,hR.fewer (Fewer.app _ _) hb,by cases hE with |ret _ u hv'=>exact .ret _ _ (hv'.fewer (Fewer.app _ _) (AVal.closed_ids hv))⟩⟩
end Go.Proofs.YtogaiomakhapmaaGreat.AL
namespace Go.Proofs.YtogaiomakhapmaaGreat.AL
open Go
theorem ZyK {n:Int} (h0: -9223372036854775808≤n) (h1:n < 9223372036854775808):IntKind.i64.wrap n = n:=wrap_i64 h0 (by omega)
theorem Zg8 (a:Nat):IntKind.u8.wrap (a:Int) = ((a % 256:Nat):Int):=by
 simp only[IntKind.wrap,IntKind.signed,IntKind.bits];simp
theorem ZyJ {q:Nat} (h:q < 9223372036854775808):IntKind.i64.wrap (q:Int) = (q:Int):=ZyK (by omega) (by omega)
end Go.Proofs.YtogaiomakhapmaaGreat.AL
namespace Go.Proofs.YtogaiomakhapmaaGreat.AL
open Go
variable {G:Rnd} {ρ ρ':Env} {h h':Za} {w w':World} {P:Program}
def Zef (ops:Array Oper) (o:Oper) (a:List AVal):Option Bool:=
 match o.guard with
 |none=>some true
 |some (j,want)=>match (ops[j]?).bind (·.dst) with
  |some d=>match Z2 a d with
   | .lit (.bool b)=>some (b == want)
   |_=>none
  |none=>none
def Zcq (P:Program) (o:Oper) (a:List AVal) (h:Za) (v:AVal):Prop:=
 match o.op with
 | .call { callee:=.value f,args,argTypes}=>match Ze a f with
   | .fn (.func i) xs ys=>Zd P i = true∧ACalls P i (xs++evs a args++ys) h fun e h'=>e = .ret v∧h' = h
   |_=>False
 |op=>AOp P op o.type a h fun v' h'=>v' = v∧h' = h
def QStep (P:Program) (ops:Array Oper) (h:Za) (o:Oper) (K:List AVal→Prop) (a:List AVal):Prop:=
 Zdc ops o a (∃ v,Zcq P o a h v∧K (Zh a o.dst v)) (K (Zh a o.dst .any))
theorem Zkl {a:List AVal} {d:Option Nat} {t:Nat} {v:AVal} (hd:∀ e,d = some e→e≠t):Z2 (Zh a d v) t = Z2 a t:=by
 cases d with
 |none=>rfl
 |some e=>
  have:=hd e rfl
  simp[Z2,Zh,List.getD,List.getElem?_set_ne this]
theorem ZvZ {a:List AVal} {d:Option Nat} {x:Operand} {v:AVal} (hd:∀ e,d = some e→x≠ .tmp e):Ze (Zh a d v) x = Ze a x:=by
 cases x with
 |tmp t=>exact Zkl fun e he heq=>hd e he (by rw[heq])
 |_=>rfl
theorem Z46 (a:List AVal) {x y:Option Nat} (v u:AVal) (hn:∀ d,x = some d→y≠some d):Zh (Zh a x v) y u = Zh (Zh a y u) x v:=by
 cases x with
 |none=>rfl
 |some d=>
  cases y with
  |none=>rfl
  |some e=>
   have hne:d≠e:=fun he=>hn d rfl (by rw[he])
   simp[Zh,List.set_comm _ _ hne]
theorem ZjS {a a':List AVal} {xs:Array Operand} (hx:∀ x∈xs,Ze a x = Ze a' x):evs a xs = evs a' xs:=by
 unfold evs
 exact List.map_congr_left fun x hm=>hx x (by simpa using hm)
theorem Zvl {a a':List AVal} {ps:Array (Nat×Operand)} (hx:∀ x∈(ps.toList.map (·.2)).toArray,Ze a x = Ze a' x):Zhb a ps = Zhb a' ps:=by
 unfold Zhb
 refine List.map_congr_left fun p hm=>?_
 rw[hx p.2 (by simp;exact ⟨p.1,by simpa using hm⟩)]
theorem ZnU {o:Op} {ty:TypeId} {a a':List AVal} {K:AVal→Za→Prop} (hx:∀ x∈o.operands,Ze a x = Ze a' x):AOp P o ty a h K = AOp P o ty a' h K:=by
 cases o with
 |build t ps=>simp only[AOp];rw[Zvl (by simpa[Op.operands] using hx)]
 |buildSlice t len ps=>simp only[AOp];rw[Zvl (by simpa[Op.operands] using hx)]
 |makeFunc f xs ys=>
  simp only[AOp]
  rw[ZjS (a':=a') (xs:=xs) fun x hm=>hx x (by simp[Op.operands,hm]),ZjS (a':=a') (xs:=ys) fun x hm=>hx x (by simp[Op.operands,hm])]
 |slice t x lo hi mx=>
  simp only[AOp]
  have h1:Ze a x = Ze a' x:=hx x (by simp[Op.operands])
  have h2:∀ m:Option Operand,(∀ y∈m.toArray,Ze a y = Ze a' y)→m.map (Ze a) = m.map (Ze a'):=by
   intro m hm
   cases m with
   |none=>rfl
   |some y=>simp[hm y (by simp)]
  rw[h1,h2 lo (fun y hy=>hx y (by simp only[Op.operands];simp at hy⊢;simp[hy])),h2 hi (fun y hy=>hx y (by simp only[Op.operands];simp at hy⊢;simp[hy])),h2 mx (fun y hy=>hx y (by simp only[Op.operands];simp at hy⊢;simp[hy]))]
 |call c=>
  obtain ⟨callee,args,argTypes⟩:=c
  cases callee with
  |builtin b=>
   have h1:∀ x∈args,Ze a x = Ze a' x:=fun x hm=>hx x (by simp[Op.operands,Call.operands,hm])
   simp only[AOp]
   rw[ZjS h1]
   have hmem:∀ x∈args.toList,Ze a x = Ze a' x:=fun x hm=>h1 x (by simpa using hm)
   generalize args.toList = l at hmem
   match l,argTypes.toList with
   | [],_=>cases b<;>rfl
   | [x],[]=>cases b<;>rfl
   | [x],[t]=>have:=hmem x (by simp);cases b<;>simp[this]
   | [x],_ :: _ :: _=>cases b<;>rfl
   | [x,y],[]=>cases b<;>rfl
   | [x,y],[t]=>cases b<;>rfl
   | [x,y],[t,s]=>have e1:=hmem x (by simp);have e2:=hmem y (by simp);cases b<;>simp[e1,e2]
   | [x,y],_ :: _ :: _ :: _=>cases b<;>rfl
   |_ :: _ :: _ :: _,_=>cases b<;>rfl
  |value f=>rfl
  |invoke r m=>rfl
 |makeMap t r=>cases r<;>rfl
 |next it isS=>
  cases isS with
  |false=>simp only[AOp];simp only[Op.operands,List.mem_toArray,List.mem_cons,List.not_mem_nil,or_false,forall_eq_or_imp,forall_eq] at hx;simp only[hx]
  |true=>simp only[AOp];simp only[Op.operands,List.mem_toArray,List.mem_cons,List.not_mem_nil,or_false,forall_eq_or_imp,forall_eq] at hx;simp only[hx]
 |_=>(try rfl)<;>(simp only[AOp];simp only[Op.operands,List.mem_toArray,List.mem_cons,List.not_mem_nil,or_false,forall_eq_or_imp,forall_eq] at hx;simp only[hx])
theorem Zlr {o:Oper} {a a':List AVal} {v:AVal} (hx:∀ x∈o.op.operands,Ze a x = Ze a' x):Zcq P o a h v = Zcq P o a' h v:=by
 unfold Zcq
 split
 ·rename_i f args argTypes hop
  rw[hop] at hx
  have h1:Ze a f = Ze a' f:=hx f (by simp[Op.operands,Call.operands])
  rw[h1,ZjS fun x hm=>hx x (by simp[Op.operands,Call.operands,hm])]
 ·exact ZnU hx
theorem ZuJ {ops:Array Oper} {o:Oper} {d:Option Nat} (hd:∀ e,d = some e→e∉o.looksAt ops) {a:List AVal} {v:AVal}:
  (∀ x∈o.op.operands,Ze (Zh a d v) x = Ze a x)∧Zef ops o (Zh a d v) = Zef ops o a:=by
 refine ⟨fun x hm=>ZvZ fun e he hxe=>?_,?_⟩
 ·refine hd e he ?_
  simp only[Oper.looksAt,List.mem_append,List.mem_filterMap]
  exact .inl ⟨x,by simpa using hm,by rw[hxe]⟩
 ·unfold Zef
  cases hg:o.guard with
  |none=>rfl
  |some p=>
   obtain ⟨j,want⟩:=p
   cases hj:(ops[j]?).bind (·.dst) with
   |none=>simp[hj]
   |some e=>
    have:Z2 (Zh a d v) e = Z2 a e:=Zkl fun e' he' heq=>by
     refine hd e' he' ?_
     simp only[Oper.looksAt,List.mem_append]
     right
     rw[hg]
     simp[hj,heq]
    simp[hj,this]
theorem guard_iff {ops:Array Oper} {o:Oper} {a:List AVal} {yes no:Prop}:Zdc ops o a yes no↔(Zef ops o a = some true∧yes)∨(Zef ops o a = some false∧no):=by
 cases hg:o.guard with
 |none=>simp[Zdc,Zef,hg]
 |some p=>
  obtain ⟨j,want⟩:=p
  cases hd:(ops[j]?).bind (·.dst) with
  |none=>simp[Zdc,Zef,hg,hd]
  |some d=>
   have key:(∃ b,Z2 a d = .lit (.bool b))∨∀ b,Z2 a d≠ .lit (.bool b):=by
    cases Z2 a d with
    |lit u=>cases u with
     |bool b=>exact .inl ⟨b,rfl⟩
     |_=>exact .inr fun b hb=>by simp at hb
    |_=>exact .inr fun b hb=>by simp at hb
   rcases key with ⟨b,hb⟩ |hn
   ·cases b<;>cases want<;>simp[Zdc,Zef,hg,hd,hb]
   ·have h1:Zdc ops o a yes no↔False:=by
     simp only[Zdc,hg,hd]
     try (split<;>first |rfl | (rename_i b hb;exact absurd hb (hn b)))
    have h2:Zef ops o a = none:=by
     simp only[Zef,hg,hd]
     try (split<;>first |rfl | (rename_i b hb;exact absurd hb (hn b)))
    rw[h1,h2];simp
def AYields (P:Program) (ops:Array Oper) (h:Za) (o:Oper) (v:AVal) (a:List AVal):Prop:=(Zef ops o a = some true∧Zcq P o a h v)∨(Zef ops o a = some false∧v = .any)
theorem QStep.yields {ops:Array Oper} {o:Oper} {K:List AVal→Prop} {a:List AVal} (hq:QStep P ops h o K a):∃ v,AYields P ops h o v a∧K (Zh a o.dst v):=by
 rcases guard_iff.1 hq with ⟨hw,v,h1,h2⟩ | ⟨hw,h2⟩
 ·exact ⟨v,.inl ⟨hw,h1⟩,h2⟩
 ·exact ⟨.any,.inr ⟨hw,rfl⟩,h2⟩
theorem AYields.step {ops:Array Oper} {o:Oper} {K:List AVal→Prop} {a:List AVal} {v:AVal} (hy:AYields P ops h o v a) (hK:K (Zh a o.dst v)):QStep P ops h o K a:=by
 refine guard_iff.2 ?_
 rcases hy with ⟨hw,h1⟩ | ⟨hw,rfl⟩
 ·exact .inl ⟨hw,v,h1,hK⟩
 ·exact .inr ⟨hw,hK⟩
theorem AYields.put {ops:Array Oper} {o:Oper} {a:List AVal} {v:AVal} {d:Option Nat} {u:AVal} (hd:∀ e,d = some e→e∉o.looksAt ops):AYields P ops h o v (Zh a d u)↔AYields P ops h o v a:=by
 obtain ⟨h1,h2⟩:=ZuJ (ops:=ops) (o:=o) hd (a:=a) (v:=u)
 unfold AYields
 rw[h2,Zlr h1]
theorem QStep.mono {ops:Array Oper} {o:Oper} {K K':List AVal→Prop} {a:List AVal} (hk:∀ a,K a→K' a) (hq:QStep P ops h o K a):QStep P ops h o K' a:=by
 obtain ⟨v,h1,h2⟩:=hq.yields
 exact h1.step (hk _ h2)
theorem ZvU {o:Oper} {a:List AVal} {ca:Act} {v:AVal} {K':Act→World→Prop} {Q':Exit→Act→World→Prop} (hR:Rel ρ h w) (ha:AR G ρ h w a ca) (hK:Zcq P o a h v)
  (hk:∀ ρ' w' ca',Evo ρ h w ρ' h w'→Rel ρ' h w'→AR G ρ' h w' (Zh a o.dst v) ca'→K' ca' w'):o.wpIn (FW G.ro) 0 P ca w K' Q':=by
 unfold Zcq at hK
 split at hK
 ·rename_i f args argTypes hop
  refine ZmX (K:=fun a' h'=>a' = Zh a o.dst v∧h' = h) (Q:=fun _ _ _=>False) hR ha ?_ (fun ρ' h' w' a' ca' ev hR' ha' ⟨e1,e2⟩=>by subst e1;subst e2;exact hk ρ' w' ca' ev hR' ha') (fun c ρ' h' w' a' ca' _ _ _ hf=>hf.elim)
  unfold ZcB
  rw[hop]
  simp only
  unfold Zg5
  split at hK
  ·rename_i i xs ys hf
   rw[hf]
   exact ⟨hK.1,hK.2.mono fun e h' ⟨e1,e2⟩=>by subst e1;exact ⟨rfl,e2⟩⟩
  ·exact hK.elim
 ·obtain ⟨ρ',h',w',v',u,h1,ev,hR',hvu,rfl,rfl⟩:=Zhg hR ha hK
  refine Ze0 (fun c hc=>by rw[hc] at hK;exact hK) ?_
  rcases h1 with h1 | ⟨h1,rfl⟩
  ·rw[h1,Oper.uponIn_value]
   exact hk _ _ _ ev hR' ((ha.evo ev).put hvu o.dst)
  ·rw[h1,Oper.uponIn_skip]
   exact hk _ _ _ ev hR' ((ha.evo ev).put hvu o.dst)
end Go.Proofs.YtogaiomakhapmaaGreat.AL
namespace Go.Proofs.YtogaiomakhapmaaGreat.AL
open Go
variable {P:Program}
def ZgT:Lit→Value
 | .bool b=>.bool b
 | .int k n=>.int k n
 | .float k b=>.float k b
 | .string l=>.string ⟨l.toArray⟩
 | .nil=>undef
mutual
def Zb0 {H:Type}:DataW H→List AVal
 | .lit l=>[.lit (ZgT l)]
 | .nil=>[.lit (.slice none 0 0)]
 | .slice es _=>[.ros (ZbK es) es.length]
 | .agg ds=>ZbK ds
 |_=>[.any]
def ZbK {H:Type}:List (DataW H)→List AVal
 | []=>[]
 |d :: ds=>Zb0 d++ZbK ds
end
inductive Sh where
 |int (k:IntKind) |str |bool
 |strct (fs:List Sh)
 |slice (e:Sh)
 |arr (n:Nat) (e:Sh)
def ZgH (P:Program) (rec:TypeId→Option Sh):List Field→Nat→Option (List Sh×Nat)
 | [],o=>some ([],o)
 |f :: fs,o=>if f.offset = o then match rec f.type,ZgH P rec fs (o + P.cellsOf f.type) with
    |some s,some (l,n)=>some (s :: l,n)
    |_,_=>none
  else none
def Zd1 (P:Program):Nat→TypeId→Option Sh
 | 0,_=>none
 |n + 1,t=>match P.underlying t with
  |some (.int k)=>if P.cellsOf t = 1 then some (.int k) else none
  |some .string=>if P.cellsOf t = 1 then some .str else none
  |some .bool=>if P.cellsOf t = 1 then some .bool else none
  |some (.slice e)=>if P.cellsOf t = 1∧0 < P.cellsOf e then (Zd1 P n e).map .slice else none
  |some (.struct fs)=>match ZgH P (Zd1 P n) fs.toList 0 with
   |some (l,m)=>if m = P.cellsOf t then some (.strct l) else none
   |none=>none
  |some (.array m e)=>if m * P.cellsOf e = P.cellsOf t then (Zd1 P n e).map (.arr m) else none
  |_=>none
mutual
def ZcT {H:Type}:Sh→DataW H→Prop
 | .int k,d=>∃ n,d = .lit (.int k n)∧k.min≤n∧n≤k.max
 | .str,d=>∃ l:List UInt8,d = .lit (.string l)∧l.length≤maxLen
 | .bool,d=>∃ b,d = .lit (.bool b)
 | .strct fs,d=>∃ ds,d = .agg ds∧Zgw fs ds
 | .slice e,d=>d = .nil∨∃ es sp,d = .slice es sp∧es.length≤maxLen∧∀ x∈es,ZcT e x
 | .arr n e,d=>∃ ds,d = .agg ds∧ds.length = n∧∀ x∈ds,ZcT e x
def Zgw {H:Type}:List Sh→List (DataW H)→Prop
 | [],ds=>ds = []
 |s :: ss,ds=>∃ d ds',ds = d :: ds'∧ZcT s d∧Zgw ss ds'
end
theorem VRs.nil {ρ:Env} {h:Za} {w:World}:VRs ρ h w [] #[]:=⟨rfl,fun i hi=>by simp at hi⟩
theorem Zrn {H:Type} {k:Nat}:∀ {ds:List (DataW H)},(∀ d∈ds,(Zb0 d).length = k)→(ZbK ds).length = ds.length * k
 | [],_=>by simp[ZbK]
 |d :: ds,hk=>by
  have h1:=hk d (by simp)
  have h2:=Zrn (ds:=ds) fun x hx=>hk x (by simp[hx])
  simp[ZbK,h1,h2,Nat.add_mul,Nat.add_comm]
theorem Zro {H:Type} {k:Nat}:∀ {ds:List (DataW H)} {i j:Nat},(∀ d∈ds,(Zb0 d).length = k)→(hi:i < ds.length)→j < k→(ZbK ds)[i * k + j]? = (Zb0 ds[i])[j]?
 | [],i,j,_,hi,_=>by simp at hi
 |d :: ds,0,j,hk,_,hj=>by
  have h1:=hk d (by simp)
  simp only[ZbK,Nat.zero_mul,Nat.zero_add,List.getElem_cons_zero]
  rw[List.getElem?_append_left (by omega)]
 |d :: ds,i + 1,j,hk,hi,hj=>by
  have h1:=hk d (by simp)
  simp only[ZbK,List.getElem_cons_succ]
  have e:(i + 1) * k + j = k + (i * k + j):=by rw[Nat.add_mul];omega
  rw[e,List.getElem?_append_right (by omega),h1,Nat.add_sub_cancel_left]
  exact Zro (ds:=ds) (fun x hx=>hk x (by simp[hx])) (by simpa using hi) hj
theorem Zqt {α β:Type} {f:α→Option β}:∀ {l:List α} {r:List β},l.mapM f = some r→r.length = l.length∧∀ (i:Nat) (hi:i < l.length) (hj:i < r.length),f l[i] = some r[i]
 | [],r,h=>by simp at h;subst h;simp
 |x :: l,r,h=>by
  simp only[List.mapM_cons,Option.bind_eq_bind,Option.pure_def] at h
  cases hx:f x with
  |none=>simp[hx] at h
  |some y=>
   cases hl:l.mapM f with
   |none=>simp[hx,hl] at h
   |some ys=>
    simp[hx,hl] at h
    subst h
    obtain ⟨h1,h2⟩:=Zqt hl
    refine ⟨by simp[h1],fun i hi hj=>?_⟩
    cases i with
    |zero=>simpa using hx
    |succ i=>simpa using h2 i (by simpa using hi) (by simpa using hj)
theorem Z3L {w:World} {base:Nat} {a:Addr} {n:Nat} {l:List Value} (h:w.cells? base a n = some l):l.length = n∧∀ (j:Nat) (hj:j < l.length),w.cell? (a.add j) = some l[j]:=by
 unfold World.cells? at h
 split at h
 ·obtain ⟨h1,h2⟩:=Zqt h
  have h3:l.length = n:=by simpa using h1
  refine ⟨h3,fun j hj=>?_⟩
  have:=h2 j (by simp;omega) hj
  simpa using this
 ·simp at h
def ZnL (P:Program) (ρ:Env) (w:World) {H:Type} (t:TypeId) (sh:Sh) (d:DataW H) (cs:List Value):Prop:=
 ZcT sh d∧VRs ρ [] w (Zb0 d) cs.toArray∧(Zb0 d).length = P.cellsOf t
theorem Z07 {ρ:Env} {w:World} {H:Type} {rec:TypeId→Option Sh} {tr:TypeId→List Value→Option (DataW H×List MemPlace)} {cs:List Value}
  (ih:∀ t sh cs d ps,rec t = some sh→tr t cs = some (d,ps)→ZnL P ρ w t sh d cs):∀ (fs:List Field) (o m:Nat) (shs:List Sh) (xs:List (DataW H×List MemPlace)),
   ZgH P rec fs o = some (shs,m)→fs.mapM (fun f=>tr f.type ((cs.drop f.offset).take (P.cellsOf f.type))) = some xs→
   o≤m∧Zgw shs (xs.map (·.1))∧(ZbK (xs.map (·.1))).length = m - o∧VRs ρ [] w (ZbK (xs.map (·.1))) ((cs.drop o).take (m - o)).toArray:=by
 intro fs
 induction fs with
 |nil=>
  intro o m shs xs hs hm
  simp[ZgH] at hs
  obtain ⟨rfl,rfl⟩:=hs
  simp at hm
  subst hm
  refine ⟨Nat.le_refl _,rfl,by simp[ZbK],?_⟩
  simp[ZbK];exact VRs.nil
 |cons f fs ihf=>
  intro o m shs xs hs hm
  simp only[ZgH] at hs
  split at hs
  ·rename_i hoff
   subst hoff
   cases hr:rec f.type with
   |none=>simp[hr] at hs
   |some s=>
    cases hg:ZgH P rec fs (f.offset + P.cellsOf f.type) with
    |none=>simp[hr,hg] at hs
    |some p=>
     obtain ⟨l,n⟩:=p
     simp only[hr,hg,Option.some.injEq,Prod.mk.injEq] at hs
     obtain ⟨rfl,rfl⟩:=hs
     simp only[List.mapM_cons,Option.bind_eq_bind,Option.pure_def] at hm
     cases hx:tr f.type ((cs.drop f.offset).take (P.cellsOf f.type)) with
     |none=>simp[hx] at hm
     |some x=>
      cases hl:fs.mapM (fun f=>tr f.type ((cs.drop f.offset).take (P.cellsOf f.type))) with
      |none=>simp[hx,hl] at hm
      |some ys=>
       simp[hx,hl] at hm
       subst hm
       obtain ⟨d,ps⟩:=x
       obtain ⟨r1,r2,r3⟩:=ih f.type s _ d ps hr hx
       obtain ⟨q0,q1,q2,q3⟩:=ihf (f.offset + P.cellsOf f.type) n l ys hg hl
       have hlen:((cs.drop f.offset).take (P.cellsOf f.type)).length = P.cellsOf f.type:=by
        have:=r2.1;rw[r3] at this;simpa using this.symm
       refine ⟨by omega,⟨d,ys.map (·.1),rfl,r1,q1⟩,?_,?_⟩
       ·simp only[List.map_cons,ZbK,List.length_append,r3,q2];omega
       ·simp only[List.map_cons,ZbK]
        have e:(cs.drop f.offset).take (n - f.offset) = (cs.drop f.offset).take (P.cellsOf f.type)++(cs.drop (f.offset + P.cellsOf f.type)).take (n - (f.offset + P.cellsOf f.type)):=by
         have h1:n - f.offset = P.cellsOf f.type + (n - (f.offset + P.cellsOf f.type)):=by omega
         rw[h1,List.take_add,List.drop_drop]
        rw[e,←List.append_toArray]
        exact r2.append q3
  ·simp at hs
theorem Z3M {w:World} {a:Addr} {x y:Nat} {v:Value} {C:Array Value} {T:TypeId} {fz:Nat×Nat} (hs:a.spot = none) (hC:w.heap[a.block]? = some (.cells C T fz)) (h:w.cell? ((a.add x).add y) = some v):C[a.off + x + y]? = some v:=by
 have e1:((a.add x).add y).block = a.block:=by unfold Addr.add;split<;>split<;>rfl
 have e2:((a.add x).add y).off = a.off + x + y:=by unfold Addr.add;split<;>split<;>simp_all
 have e3:((a.add x).add y).spot = none:=by unfold Addr.add;split<;>split<;>simp_all
 unfold World.cell? at h
 rw[e1,hC,e2,e3] at h
 simpa using h
theorem Z0t {w:World} {a:Addr} {v:Value} (h:w.cell? a = some v):a.spot = none∧∃ C T fz,w.heap[a.block]? = some (.cells C T fz):=by
 unfold World.cell? at h
 split at h
 ·rename_i C T fz hC
  split at h
  ·simp at h
  ·rename_i hs
   exact ⟨by simpa using hs,C,T,fz,hC⟩
 ·simp at h
theorem Z0c {ρ:Env} {w:World} {H:Type} {enc:TypeId×Value→H} {base:Nat} {spare:Nat→Bool} {held:Bool}:∀ (fuel n:Nat) (t:TypeId) (sh:Sh) (cs:List Value) (d:DataW H) (ps:List MemPlace),
  Zd1 P n t = some sh→DataW.trod enc P w base spare held fuel t cs = some (d,ps)→ZnL P ρ w t sh d cs:=by
 intro fuel
 induction fuel with
 |zero=>intro n t sh cs d ps _ h;simp[DataW.trod] at h
 |succ fuel ih=>
  intro n t sh cs d ps hs h
  cases n with
  |zero=>simp[Zd1] at hs
  |succ n=>
   simp only[Zd1] at hs
   cases hu:P.underlying t with
   |none=>rw[hu] at hs;simp at hs
   |some D=>
    rw[hu] at hs
    cases D with
    |int k=>
     simp only at hs
     split at hs
     ·rename_i hc
      obtain ⟨v,rfl,hx,hw⟩:=DataW.trod_int hu h
      simp only[Option.some.injEq,Prod.mk.injEq] at hs hx
      subst hs
      obtain ⟨rfl,rfl⟩:=hx
      simp only[Lit.wf,Bool.and_eq_true,decide_eq_true_eq] at hw
      exact ⟨⟨_,rfl,hw.1,hw.2⟩,VRs.one (.lit _),by simp[Zb0,hc]⟩
     ·simp at hs
    |string=>
     simp only at hs
     split at hs
     ·rename_i hc
      obtain ⟨v,rfl,hx,hw⟩:=DataW.trod_string hu h
      simp only[Option.some.injEq,Prod.mk.injEq] at hs hx
      subst hs
      obtain ⟨rfl,rfl⟩:=hx
      refine ⟨⟨_,rfl,by simpa using hw⟩,?_,by simp[Zb0,hc]⟩
      simp only[Zb0,ZgT,Array.toArray_toList]
      exact VRs.one (.lit _)
     ·simp at hs
    |bool=>
     simp only at hs
     split at hs
     ·rename_i hc
      obtain ⟨v,rfl,hx⟩:=DataW.trod_bool hu h
      simp only[Option.some.injEq,Prod.mk.injEq] at hs hx
      subst hs
      obtain ⟨rfl,rfl⟩:=hx
      exact ⟨⟨_,rfl⟩,VRs.one (.lit _),by simp[Zb0,hc]⟩
     ·simp at hs
    |slice e=>
     simp only at hs
     split at hs
     ·rename_i hc
      obtain ⟨se,hse,rfl⟩:=Option.map_eq_some_iff.1 hs
      obtain ⟨hc,hk⟩:=hc
      rcases DataW.trod_slice hu h with ⟨rfl,hx⟩ | ⟨a,len,cap,elems,rest,m,hf,rfl,hx,hb,hl,hcap,hel,he, -, -⟩
      ·simp only[Prod.mk.injEq] at hx
       obtain ⟨rfl,rfl⟩:=hx
       exact ⟨.inl rfl,VRs.one (.lit _),by simp[Zb0,hc]⟩
      ·simp only[Prod.mk.injEq] at hx
       obtain ⟨rfl,rfl⟩:=hx
       obtain rfl:fuel = m:=by omega
       have rd:∀ (i:Nat) (hi:i < elems.length),∃ l,w.cells? base (a.add (i * P.cellsOf e)) (P.cellsOf e) = some l∧ZnL P ρ w e se elems[i].1 l:=by
        intro i hi
        have:=he i (by omega)
        rw[List.getElem?_eq_getElem hi] at this
        obtain ⟨l,h1,h2⟩:=Option.bind_eq_some_iff.1 this
        exact ⟨l,h1,ih n e se l elems[i].1 elems[i].2 hse h2⟩
       have hks:∀ d∈elems.map (·.1),(Zb0 d).length = P.cellsOf e:=by
        intro d hd
        obtain ⟨x,hx,rfl⟩:=List.mem_map.1 hd
        obtain ⟨i,hi,rfl⟩:=List.mem_iff_getElem.1 hx
        obtain ⟨l,_,r⟩:=rd i hi
        exact r.2.2
       refine ⟨.inr ⟨_,_,rfl,by simp;omega,?_⟩,?_,by simp[Zb0,hc]⟩
       ·intro d hd
        obtain ⟨x,hx,rfl⟩:=List.mem_map.1 hd
        obtain ⟨i,hi,rfl⟩:=List.mem_iff_getElem.1 hx
        obtain ⟨l,_,r⟩:=rd i hi
        exact r.1
       ·simp only[Zb0]
        apply VRs.one
        cases hz:elems with
        |nil=>
         subst hz
         simp only[List.length_nil] at hel
         subst hel
         simp only[List.map_nil,ZbK,List.length_nil]
         exact .rosZ [] (by simp) _ _
        |cons x xs=>
         rw[←hz]
         have h0:0 < elems.length:=by rw[hz];simp
         have cl:∀ (i:Nat) (hi:i < elems.length) (j:Nat) (hj:j < P.cellsOf e),∃ v,w.cell? ((a.add (i * P.cellsOf e)).add j) = some v∧VR ρ [] w ((Zb0 elems[i].1).getD j .any) v:=by
          intro i hi j hj
          obtain ⟨l,h1,r⟩:=rd i hi
          obtain ⟨h2,h3⟩:=Z3L h1
          refine ⟨l[j]'(by omega),h3 j (by omega),?_⟩
          have h4:=r.2.1.2 j (by rw[r.2.2];exact hj)
          rw[List.getD_eq_getElem?_getD,List.getElem?_eq_getElem (by rw[r.2.2];exact hj)]
          simpa[Array.getD,h2,hj] using h4
         obtain ⟨v0,hv0,_⟩:=cl 0 h0 0 hk
         have e0:(a.add (0 * P.cellsOf e)).add 0 = a:=by simp[Addr.add]
         rw[e0] at hv0
         obtain ⟨hsp,C,T,fz,hC⟩:=Z0t hv0
         have hlen:(ZbK (elems.map (·.1))).length = elems.length * P.cellsOf e:=by
          rw[Zrn hks];simp
         have key:∀ (i:Nat) (hi:i < (ZbK (elems.map (·.1))).length),∃ v,C[a.off + i]? = some v∧VR ρ [] w (ZbK (elems.map (·.1)))[i] v:=by
          intro i hi
          have hi':i < elems.length * P.cellsOf e:=by omega
          have hq:i / P.cellsOf e < elems.length:=(Nat.div_lt_iff_lt_mul hk).2 hi'
          have hr:i % P.cellsOf e < P.cellsOf e:=Nat.mod_lt _ hk
          obtain ⟨v,hv,hvr⟩:=cl _ hq _ hr
          have hdm:i / P.cellsOf e * P.cellsOf e + i % P.cellsOf e = i:=by rw[Nat.mul_comm];exact Nat.div_add_mod i _
          have hat:=Z3M hsp hC hv
          rw[Nat.add_assoc,hdm] at hat
          refine ⟨v,hat,?_⟩
          have hg:=Zro (j:=i % P.cellsOf e) hks (i:=i / P.cellsOf e) (by simpa using hq) hr
          rw[hdm,List.getElem?_eq_getElem hi] at hg
          simp only[List.getElem_map] at hg
          rw[List.getD_eq_getElem?_getD,←hg] at hvr
          exact hvr
         have hnone:¬Zb5 ρ [] a.block:=by
          rintro ⟨b,o,hb,_⟩
          simp at hb
         have ea:a = ⟨a.block,a.off,none⟩:=by cases a;simp_all
         have hl':elems.length≤cap:=by omega
         rw[List.length_map,←hel,ea]
         refine .ros _ a.block a.off _ _ C T fz hl' hC hnone ?_ ?_
         ·intro i hi
          obtain ⟨v,hv,_⟩:=key i hi
          exact (Array.getElem?_eq_some_iff.1 hv).1
         ·intro i hi
          obtain ⟨v,hv,hr⟩:=key i hi
          rw[Array.getD_eq_getD_getElem?,hv]
          exact hr
     ·simp at hs
    |struct fs=>
     simp only at hs
     cases hg:ZgH P (Zd1 P n) fs.toList 0 with
     |none=>rw[hg] at hs;simp at hs
     |some p=>
      obtain ⟨l,m⟩:=p
      rw[hg] at hs
      simp only at hs
      split at hs
      ·rename_i hm
       simp only[Option.some.injEq] at hs
       subst hs
       simp only[DataW.trod,hu] at h
       split at h
       ·rename_i hlen
        simp only[Option.map_eq_some_iff,Prod.mk.injEq] at h
        obtain ⟨xs,hx,rfl,rfl⟩:=h
        obtain ⟨q0,q1,q2,q3⟩:=Z07 (P:=P) (ρ:=ρ) (w:=w) (fun t sh cs d ps h1 h2=>ih n t sh cs d ps h1 h2) fs.toList 0 m l xs hg hx
        refine ⟨⟨_,rfl,q1⟩,?_,by simp only[Zb0];rw[q2];omega⟩
        simp only[Zb0]
        have e:((cs.drop 0).take (m - 0)) = cs:=by rw[List.drop_zero,Nat.sub_zero];exact List.take_of_length_le (by omega)
        rw[e] at q3
        exact q3
       ·simp at h
      ·simp at hs
    |array m e=>
     simp only at hs
     split at hs
     ·rename_i hm
      obtain ⟨se,hse,rfl⟩:=Option.map_eq_some_iff.1 hs
      simp only[DataW.trod,hu] at h
      split at h
      ·rename_i hlen
       simp only[Option.map_eq_some_iff,Prod.mk.injEq] at h
       obtain ⟨xs,hx,rfl,rfl⟩:=h
       obtain ⟨hl,hg⟩:=Zqt hx
       rw[List.length_range] at hl
       have rd:∀ (i:Nat) (hi:i < xs.length),ZnL P ρ w e se xs[i].1 ((cs.drop (i * P.cellsOf e)).take (P.cellsOf e)):=by
        intro i hi
        have:=hg i (by simp;omega) hi
        simp only[List.getElem_range] at this
        exact ih n e se _ _ _ hse this
       have hks:∀ d∈xs.map (·.1),(Zb0 d).length = P.cellsOf e:=by
        intro d hd
        obtain ⟨x,hx,rfl⟩:=List.mem_map.1 hd
        obtain ⟨i,hi,rfl⟩:=List.mem_iff_getElem.1 hx
        exact (rd i hi).2.2
       have hlen':(ZbK (xs.map (·.1))).length = P.cellsOf t:=by rw[Zrn hks,List.length_map,hl,hm]
       refine ⟨⟨_,rfl,by simp[hl],?_⟩,?_,by simpa[Zb0] using hlen'⟩
       ·intro d hd
        obtain ⟨x,hx,rfl⟩:=List.mem_map.1 hd
        obtain ⟨i,hi,rfl⟩:=List.mem_iff_getElem.1 hx
        exact (rd i hi).1
       ·simp only[Zb0]
        refine ⟨by simp[hlen',hlen],fun i hi=>?_⟩
        have hi':i < m * P.cellsOf e:=by omega
        have hk:0 < P.cellsOf e:=by
         rcases Nat.eq_zero_or_pos (P.cellsOf e) with h0 |h0
         ·rw[h0] at hi';omega
         ·exact h0
        have hq:i / P.cellsOf e < xs.length:=by rw[hl];exact (Nat.div_lt_iff_lt_mul hk).2 hi'
        have hr:i % P.cellsOf e < P.cellsOf e:=Nat.mod_lt _ hk
        have hdm:i / P.cellsOf e * P.cellsOf e + i % P.cellsOf e = i:=by rw[Nat.mul_comm];exact Nat.div_add_mod i _
        have r:=rd _ hq
        have h4:=r.2.1.2 (i % P.cellsOf e) (by rw[r.2.2];exact hr)
        have hg:=Zro (j:=i % P.cellsOf e) hks (i:=i / P.cellsOf e) (by simpa using hq) hr
        rw[hdm,List.getElem?_eq_getElem hi] at hg
        simp only[List.getElem_map] at hg
        rw[List.getElem?_eq_getElem (by rw[r.2.2];exact hr)] at hg
        simp only[Option.some.injEq] at hg
        rw[hg]
        have e1:(((cs.drop (i / P.cellsOf e * P.cellsOf e)).take (P.cellsOf e)).toArray.getD (i % P.cellsOf e) undef) = cs.toArray.getD i undef:=by
         rw[Array.getD_eq_getD_getElem?,Array.getD_eq_getD_getElem?]
         simp only[List.getElem?_toArray]
         rw[List.getElem?_take_of_lt hr,List.getElem?_drop,hdm]
        rw[←e1]
        exact h4
      ·simp at h
     ·simp at hs
    |_=>simp at hs
end Go.Proofs.YtogaiomakhapmaaGreat.AL
namespace Go.Proofs.YtogaiomakhapmaaGreat.AL
open Go Go.ChangeShapes Go.WideShapes Go.RowKit
variable {P:Program}
theorem Z20 {f:FuncId} {args:List AVal} {us:Array Value} {W:World} (hg:∀ g∈Zq0,∃ C T fz,W.heap[g.1]? = some (.cells C T fz)∧g.2 C) (hc:ACalls P f args [] fun e _=>e = .ret (.lit (.bool true))) (hv:VRs (fun _=>⟨0,0,0,0⟩) [] W args us):
  Calls P f us W fun e W'=>e = .returned (.bool true)∧RowKit.Below W.heap.size W W':=by
 refine (hc (fun _=>⟨0,0,0,0⟩) W us ⟨fun g hm=>⟨fun ⟨b,o,hb,_⟩=>by simp at hb,hg g hm⟩,fun b o h=>by simp at h,fun b b' o o' h=>by simp at h⟩ hv).mono ?_
 rintro e W' ⟨ρ',h',e',evo,_,hE,rfl⟩
 cases hE with
 |ret v u hu=>
  cases hu with
  |lit=>
   refine ⟨rfl,evo.same.1,evo.same.2.1,evo.same.2.2,evo.size,fun k hk=>(evo.keep k hk ?_).1⟩
   rintro ⟨b,o,hb,_⟩
   simp at hb
def ZdK {H:Type} (P:Program) (t:TypeId) (d:DataW H):AVal:=
 match Zy P t with
 |some true=>.agg (Zb0 d)
 |_=>(Zb0 d).headD .any
theorem Zik {H:Type} {enc:TypeId×Value→H} {W:World} {base b2:Nat} {sp:Nat→Bool} {held:Bool} {ρ:Env} {t:TypeId} {v:Value} {d:DataW H} {p:List MemPlace} (n:Nat) (sh:Sh)
  (hs:Zd1 P n t = some sh) (hok:Value.okWide P W .any base t v) (h:DataW.Trod enc P W b2 sp held t v d p):ZcT sh d∧VR ρ [] W (ZdK P t d) v:=by
 obtain ⟨fuel,h⟩:=h
 obtain ⟨h1,h2,h3⟩:=Z0c (ρ:=ρ) fuel n t sh _ d p hs h
 refine ⟨h1,?_⟩
 unfold Value.okWide at hok
 have one:v.cells = #[v]→P.cellsOf t = 1→VR ρ [] W ((Zb0 d).headD .any) v:=by
  intro hv hc
  have h4:=h2.2 0 (by omega)
  cases hd:Zb0 d with
  |nil=>rw[hd] at h3;simp at h3;omega
  |cons x xs=>
   simp only[hd] at h4
   simpa[hv] using h4
 cases n with
 |zero=>simp[Zd1] at hs
 |succ n=>
  simp only[Zd1] at hs
  cases hu:P.underlying t with
  |none=>rw[hu] at hs;simp at hs
  |some D=>
   rw[hu] at hs hok
   cases D with
   |int k=>
    simp only at hs
    split at hs
    ·rename_i hc
     obtain ⟨z,rfl⟩:=okWide_int (P:=P) (w:=W) (r:=.any) (base:=base) (t:=t) (v:=v) hu (by unfold Value.okWide;rw[hu];exact hok)
     simp only[ZdK,Zy,hu]
     exact one rfl hc
    ·simp at hs
   |string=>
    simp only at hs
    split at hs
    ·rename_i hc
     obtain ⟨z,rfl⟩:=okWide_string (P:=P) (w:=W) (r:=.any) (base:=base) (t:=t) (v:=v) hu (by unfold Value.okWide;rw[hu];exact hok)
     simp only[ZdK,Zy,hu]
     exact one rfl hc
    ·simp at hs
   |bool=>
    simp only at hs
    split at hs
    ·rename_i hc
     obtain ⟨z,rfl⟩:=okWide_bool (P:=P) (w:=W) (r:=.any) (base:=base) (t:=t) (v:=v) hu (by unfold Value.okWide;rw[hu];exact hok)
     simp only[ZdK,Zy,hu]
     exact one rfl hc
    ·simp at hs
   |slice e=>
    simp only at hs
    split at hs
    ·rename_i hc
     obtain ⟨a,len,cap,rfl⟩:=okWide_slice (P:=P) (w:=W) (r:=.any) (base:=base) (t:=t) (v:=v) hu (by unfold Value.okWide;rw[hu];exact hok)
     simp only[ZdK,Zy,hu]
     exact one rfl hc.1
    ·simp at hs
   |struct fs=>
    obtain ⟨cs,rfl,hcs,_⟩:=hok
    simp only[ZdK,Zy,hu]
    simp only[Value.cells,Array.toArray_toList] at h2
    exact .agg _ _ h2.1 h2.2
   |array m e=>
    obtain ⟨cs,rfl,hcs,_⟩:=hok
    simp only[ZdK,Zy,hu]
    simp only[Value.cells,Array.toArray_toList] at h2
    exact .agg _ _ h2.1 h2.2
   |_=>simp at hs
theorem VRs.cons {ρ:Env} {h:Za} {w:World} {v:AVal} {u:Value} {vs:List AVal} {us:List Value} (hv:VR ρ h w v u) (hs:VRs ρ h w vs us.toArray):VRs ρ h w (v :: vs) (u :: us).toArray:=by
 refine ⟨by simpa using hs.1,fun i hi=>?_⟩
 cases i with
 |zero=>simpa using hv
 |succ i=>simpa using hs.2 i (by simpa using hi)
end Go.Proofs.YtogaiomakhapmaaGreat.AL
namespace Go.Proofs
open Go.Shelf
def Tryz.laysSClone_ren:Go.Shelf.Ren:=⟨fun | 316=>112 |n=>n,fun | 9=>9 | 3=>3 | 4=>4 | 37=>119 | 0=>0 | 127=>155 | 5=>5 |n=>n,fun |n=>n⟩
theorem Tryz.laysSClone:Go.Proofs.LaysM.n316 Tryz.prog Tryz.laysSClone_ren:={
 mixed:=by kernel_rfl
 f316:=Tryz.func112.trans (congrArg some (by kernel_rfl))
 t0:=Tryz.underlying0
 a0:=Tryz.isAgg0
 z0:=Tryz.sizeOf0
 v0:=Tryz.zeroValue0
 t3:=Tryz.underlying3
 a3:=Tryz.isAgg3
 z3:=Tryz.sizeOf3
 v3:=Tryz.zeroValue3
 t4:=Tryz.underlying4
 a4:=Tryz.isAgg4
 z4:=Tryz.sizeOf4
 v4:=Tryz.zeroValue4
 t9:=Tryz.underlying9
 a9:=Tryz.isAgg9
 z9:=Tryz.sizeOf9
 v9:=Tryz.zeroValue9
 t37:=Tryz.underlying119
 a37:=Tryz.isAgg119
 z37:=Tryz.sizeOf119
 v37:=Tryz.zeroValue119
 t127:=Tryz.underlying155
 a127:=Tryz.isAgg155
 z127:=Tryz.sizeOf155
 v127:=Tryz.zeroValue155
 t5:=Tryz.underlying5
 a5:=Tryz.isAgg5
 z5:=Tryz.sizeOf5
 v5:=Tryz.zeroValue5
 i0:=by kernel_rfl
 i3:=by kernel_rfl
 i4:=by kernel_rfl
 i5:=by kernel_rfl
 i9:=by kernel_rfl
 i37:=by kernel_rfl
 i127:=by kernel_rfl}
end Go.Proofs
namespace Go.Proofs.YtogaiomakhapmaaGreat.AL
open Go
structure Tab where
 und:Nat→Option TypeDesc
 siz:Nat→Option Nat
 byt:Nat→Option Nat
 zer:Nat→Option AVal
 fit:Nat→Bool
 lvs:Nat→Option (List Leaf)
structure Tab.Ok (T:Tab) (P:Program):Prop where
 und:∀ t d,T.und t = some d→P.underlying t = some d
 siz:∀ t n,T.siz t = some n→Zx P t = some n
 byt:∀ t n,T.byt t = some n→ZK P t = some n
 zer:∀ t z,T.zer t = some z→Z5 P t = some z
 fit:∀ t,T.fit t = true→ZdP P t
 lvs:∀ t l,T.lvs t = some l→Zco P 20 t = some l∧Zy P t = some true∧P.eqGuardType P.depth t = false
section tabs
variable {T:Tab} {P:Program} (hT:T.Ok P)
def Tab.mkey (T:Tab) (t:Nat):Option (MKey×Nat×Nat):=match T.und t with
 |some (.map kt et)=>match T.und kt with
  |some .string=>some (.str,kt,et)
  |some .bool=>some (.bool,kt,et)
  |some (.int k)=>some (.int k,kt,et)
  |_=>none
 |_=>none
def Tab.agg (T:Tab) (t:Nat):Option Bool:=match T.und t with
 |some (.struct _) |some (.array _ _)=>some true
 |some _=>some false
 |none=>none
def Tab.field (T:Tab) (t i:Nat):Option (Nat×Nat):=match T.und t with
 |some (.struct fs)=>(fs[i]?).map fun f=>(f.offset,f.type)
 |_=>none
def Tab.slice (T:Tab) (t:Nat):Option Nat:=match T.und t with
 |some (.slice e)=>some e
 |_=>none
def Tab.array (T:Tab) (t:Nat):Option (Nat×Nat):=match T.und t with
 |some (.array n e)=>some (n,e)
 |_=>none
def Tab.int (T:Tab) (t:Nat):Option IntKind:=match T.und t with
 |some (.int k)=>some k
 |_=>none
def Tab.nilK (T:Tab) (t:Nat):Option NilKind:=match T.und t with
 |some (.pointer _)=>some .ptr
 |some (.slice _)=>some .slice
 |some (.func _ _ _)=>some .func
 |some (.interface _)=>some .iface
 |some (.map _ _)=>some .map
 |_=>none
include hT
theorem Tab.Ok.mkey {t:Nat} {p:MKey×Nat×Nat} (h:T.mkey t = some p):Zfo P t = some p∧∃ kt et,T.und t = some (.map kt et):=by
 unfold Tab.mkey at h;unfold Zfo
 cases hu:T.und t with
 |none=>simp[hu] at h
 |some d=>
  rw[hu] at h;rw[hT.und t d hu]
  cases d with
  |map kt et=>
   simp only at h⊢
   cases hk:T.und kt with
   |none=>simp[hk] at h
   |some dk=>rw[hk] at h;rw[hT.und kt dk hk];exact ⟨h,kt,et,rfl⟩
  |_=>cases h
theorem Tab.Ok.agg {t:Nat} {b:Bool} (h:T.agg t = some b):Zy P t = some b:=by
 unfold Tab.agg at h;unfold Zy
 cases hu:T.und t with
 |none=>simp[hu] at h
 |some d=>rw[hu] at h;rw[hT.und t d hu];exact h
theorem Tab.Ok.field {t i:Nat} {p:Nat×Nat} (h:T.field t i = some p):ZC P t i = some p:=by
 unfold Tab.field at h;unfold ZC
 cases hu:T.und t with
 |none=>simp[hu] at h
 |some d=>rw[hu] at h;rw[hT.und t d hu];exact h
theorem Tab.Ok.slice {t e:Nat} (h:T.slice t = some e):Z3 P t = some e∧Z9 P t = none:=by
 unfold Tab.slice at h;unfold Z3 Z9
 cases hu:T.und t with
 |none=>simp[hu] at h
 |some d=>rw[hu] at h;rw[hT.und t d hu];cases d<;>simp_all
theorem Tab.Ok.array {t:Nat} {p:Nat×Nat} (h:T.array t = some p):Z9 P t = some p:=by
 unfold Tab.array at h;unfold Z9
 cases hu:T.und t with
 |none=>simp[hu] at h
 |some d=>rw[hu] at h;rw[hT.und t d hu];exact h
theorem Tab.Ok.int {t:Nat} {k:IntKind} (h:T.int t = some k):ZD P t = some k:=by
 unfold Tab.int at h;unfold ZD
 cases hu:T.und t with
 |none=>simp[hu] at h
 |some d=>rw[hu] at h;rw[hT.und t d hu];exact h
theorem Tab.Ok.nilK {t:Nat} {k:NilKind} (h:T.nilK t = some k):ZJ P t = some k:=by
 unfold Tab.nilK at h;unfold ZJ
 cases hu:T.und t with
 |none=>simp[hu] at h
 |some d=>rw[hu] at h;rw[hT.und t d hu];exact h
theorem Tab.Ok.str {t:Nat} (h:T.und t = some .string):ZG P t = true∧Z9 P t = none∧Z3 P t = none:=by
 simp[ZG,Z9,Z3,hT.und t _ h]
theorem Tab.Ok.bool {t:Nat} (h:T.und t = some .bool):ZQ P t = true:=by
 simp[ZQ,hT.und t _ h]
end tabs
def ZeX:IntKind→IntKind→Bool
 | .i8,.i8 | .i16,.i16 | .i32,.i32 | .i64,.i64 | .u8,.u8 | .u16,.u16 | .u32,.u32 | .u64,.u64=>true
 |_,_=>false
theorem ZjJ {k k':IntKind} (h:ZeX k k' = true):k = k':=by cases k<;>cases k'<;>first |rfl | (simp[ZeX] at h)
def asI (k:IntKind) (v:AVal):Option Int:=match v with
 | .lit (.int k' n)=>match ZeX k k' with
   |true=>some n
   |false=>none
 |_=>none
def asS (v:AVal):Option ByteArray:=match v with
 | .lit (.string s)=>some s
 |_=>none
def asB (v:AVal):Option Bool:=match v with
 | .lit (.bool b)=>some b
 |_=>none
def asA (v:AVal):Option (List AVal):=match v with
 | .agg xs=>some xs
 |_=>none
def Zkc (T:Tab) (t:Nat) (v:AVal):Option AVal:=match T.und t with
 |some (.int k)=>(asI k v).bind fun n=>some (.lit (.int k n))
 |some .string=>(asS v).bind fun s=>some (.lit (.string s))
 |some .bool=>(asB v).bind fun b=>some (.lit (.bool b))
 |some (.struct _)=>(asA v).bind fun xs=>some (.agg xs)
 |some (.array _ _)=>(asA v).bind fun xs=>some (.agg xs)
 |_=>some v
theorem Z47 {k:IntKind} {v:AVal} {n:Int} (h:asI k v = some n):v = .lit (.int k n):=by
 unfold asI at h
 split at h
 ·split at h
  ·rename_i hk;cases h;rw[ZjJ hk]
  ·cases h
 ·cases h
theorem ZmT {v:AVal} {s:ByteArray} (h:asS v = some s):v = .lit (.string s):=by unfold asS at h;split at h<;>cases h;rfl
theorem ZvJ {v:AVal} {b:Bool} (h:asB v = some b):v = .lit (.bool b):=by unfold asB at h;split at h<;>cases h;rfl
theorem ZvK {v:AVal} {xs:List AVal} (h:asA v = some xs):v = .agg xs:=by unfold asA at h;split at h<;>cases h;rfl
theorem Zv0 {T:Tab} {t:Nat} {v v':AVal} (hc:Zkc T t v = some v'):v' = v:=by
 unfold Zkc at hc
 split at hc
 ·obtain ⟨n,h1,h2⟩:=Option.bind_eq_some_iff.1 hc;cases h2;exact (Z47 h1).symm
 ·obtain ⟨n,h1,h2⟩:=Option.bind_eq_some_iff.1 hc;cases h2;exact (ZmT h1).symm
 ·obtain ⟨n,h1,h2⟩:=Option.bind_eq_some_iff.1 hc;cases h2;exact (ZvJ h1).symm
 ·obtain ⟨n,h1,h2⟩:=Option.bind_eq_some_iff.1 hc;cases h2;exact (ZvK h1).symm
 ·obtain ⟨n,h1,h2⟩:=Option.bind_eq_some_iff.1 hc;cases h2;exact (ZvK h1).symm
 ·cases hc;rfl
def req (p:Prop) [Decidable p]:Option Unit:=if p then some () else none
theorem ZY {p:Prop} [Decidable p] {u:Unit} (h:req p = some u):p:=by unfold req at h;split at h<;>simp_all
def Zb (h:Za) (b:Nat):Option (List AVal):=match h[b]? with
 |some (.cells cs)=>some cs
 |_=>none
theorem ZbV {h:Za} {b:Nat} {cs:List AVal} (hc:Zb h b = some cs):h[b]? = some (.cells cs):=by
 unfold Zb at hc;split at hc<;>simp_all
def ld1 (h:Za) (v:AVal):Option AVal:=match v with
 | .ptr b off=>(Zb h b).bind fun cs=>cs[off]?
 | .rop cs=>cs[0]?
 |_=>none
def ldn (n:Nat) (h:Za) (v:AVal):Option (List AVal):=match v with
 | .ptr b off=>(Zb h b).bind fun cs=>(req (off + n≤cs.length)).bind fun _=>some ((cs.drop off).take n)
 | .rop cs=>(req (n≤cs.length)).bind fun _=>some (cs.take n)
 |_=>none
def Zfl (T:Tab) (t:Nat) (h:Za) (v:AVal):Option AVal:=match T.agg t with
 |some false=>ld1 h v
 |some true=>match T.siz t with
  |some n=>(ldn n h v).bind fun xs=>some (.agg xs)
  |none=>none
 |none=>none
theorem Zov {T:Tab} {P:Program} (hT:T.Ok P) {t:Nat} {h:Za} {v x:AVal} {K:AVal→Prop} (hx:Zfl T t h v = some x) (hK:K x):Zir P t h v K:=by
 unfold Zfl at hx;unfold Zir
 split at hx
 ·rename_i ha
  simp only[hT.agg ha]
  unfold ld1 at hx
  split at hx
  ·obtain ⟨cs,h1,h2⟩:=Option.bind_eq_some_iff.1 hx
   simp only[ZbV h1,h2];exact hK
  ·rename_i cs
   cases cs with
   |nil=>simp at hx
   |cons y ys=>simp at hx;subst hx;exact hK
  ·cases hx
 ·rename_i ha
  simp only[hT.agg ha]
  split at hx
  ·rename_i n hs
   simp only[hT.siz _ _ hs]
   obtain ⟨xs,hl,h2⟩:=Option.bind_eq_some_iff.1 hx
   cases h2
   unfold ldn at hl
   split at hl
   ·obtain ⟨cs,h1,hl⟩:=Option.bind_eq_some_iff.1 hl
    obtain ⟨u,h2,hl⟩:=Option.bind_eq_some_iff.1 hl
    cases hl
    simp only[ZbV h1]
    exact ⟨ZY h2,hK⟩
   ·obtain ⟨u,h2,hl⟩:=Option.bind_eq_some_iff.1 hl
    cases hl
    exact ⟨ZY h2,hK⟩
   ·cases hl
  ·cases hx
 ·cases hx
def Zh7 (op:BinOp) (k:IntKind) (x y:Int):Option AVal:=match op with
 | .add=>some (.lit (.int k (k.wrap (x + y))))
 | .sub=>some (.lit (.int k (k.wrap (x - y))))
 | .mul=>some (.lit (.int k (k.wrap (x * y))))
 | .quo=>(req (y≠0)).bind fun _=>some (.lit (.int k (k.wrap (x.tdiv y))))
 | .rem=>(req (y≠0)).bind fun _=>some (.lit (.int k (x.tmod y)))
 | .and=>some (.lit (.int k (ZdJ k x y)))
 | .or=>some (.lit (.int k (orI k x y)))
 | .xor=>some (.lit (.int k (ZcU k x y)))
 | .andNot=>some (.lit (.int k (ZvP k x y)))
 | .eql=>some (.lit (.bool (decide (x = y))))
 | .neq=>some (.lit (.bool (!decide (x = y))))
 | .lss=>some (.lit (.bool (decide (x < y))))
 | .leq=>some (.lit (.bool (decide (x≤y))))
 | .gtr=>some (.lit (.bool (decide (x > y))))
 | .geq=>some (.lit (.bool (decide (x≥y))))
 |_=>none
def Zh3 (op:BinOp) (x y:ByteArray):Option AVal:=match op with
 | .add=>(req (x.size + y.size≤9223372036854775807)).bind fun _=>some (.lit (.string (x++y)))
 | .eql=>some (.lit (.bool (decide (x = y))))
 | .neq=>some (.lit (.bool (!decide (x = y))))
 | .lss=>some (.lit (.bool (ZdR x y)))
 | .leq=>some (.lit (.bool (ZdR x y || decide (x = y))))
 | .gtr=>some (.lit (.bool (!(ZdR x y || decide (x = y)))))
 | .geq=>some (.lit (.bool (!ZdR x y)))
 |_=>none
theorem Zyz {op:BinOp} {k:IntKind} {x y:Int} {v:AVal} {K:AVal→Prop} (hv:Zh7 op k x y = some v) (hK:K v):Zkx op k x y K:=by
 unfold Zh7 at hv;unfold Zkx
 cases op<;>first
  | (cases hv;done)
  | (cases hv;exact hK)
  | (obtain ⟨u,h1,h2⟩:=Option.bind_eq_some_iff.1 hv;cases h2;exact ⟨ZY h1,hK⟩)
theorem Zyl {op:BinOp} {x y:ByteArray} {v:AVal} {K:AVal→Prop} (hv:Zh3 op x y = some v) (hK:K v):Zko op x y K:=by
 unfold Zh3 at hv;unfold Zko
 cases op<;>first
  | (cases hv;done)
  | (cases hv;exact hK)
  | (obtain ⟨u,h1,h2⟩:=Option.bind_eq_some_iff.1 hv;cases h2;exact ⟨ZY h1,hK⟩)
def ZeW:List Leaf→List AVal→List AVal→Option Bool
 | [],[],[]=>some true
 | .int :: ls,.lit (.int k a) :: xs,.lit (.int k' b) :: ys=>match ZeX k k' with
   |true=>(ZeW ls xs ys).bind fun r=>some (decide (a = b) && r)
   |false=>none
 | .str :: ls,.lit (.string a) :: xs,.lit (.string b) :: ys=>(ZeW ls xs ys).bind fun r=>some (decide (a = b) && r)
 | .bool :: ls,.lit (.bool a) :: xs,.lit (.bool b) :: ys=>(ZeW ls xs ys).bind fun r=>some (decide (a = b) && r)
 |_,_,_=>none
theorem Z2v:∀ {ls:List Leaf} {xs ys:List AVal} {r:Bool} {K:Bool→Prop},ZeW ls xs ys = some r→K r→Zis ls xs ys K:=by
 intro ls xs ys
 fun_induction ZeW ls xs ys<;>intro r K h hK
 ·cases h;exact hK
 ·rename_i hk ih
  obtain ⟨r',h1,h2⟩:=Option.bind_eq_some_iff.1 h
  cases h2
  exact ⟨ZjJ hk,ih h1 hK⟩
 ·cases h
 ·rename_i ih
  obtain ⟨r',h1,h2⟩:=Option.bind_eq_some_iff.1 h
  cases h2
  exact ih h1 hK
 ·rename_i ih
  obtain ⟨r',h1,h2⟩:=Option.bind_eq_some_iff.1 h
  cases h2
  exact ih h1 hK
 ·cases h
def ZfY (o:Operand) (k:NilKind) (x:AVal):Bool:=match Zfw o,x.isNil k with
 |true,some true=>true
 |_,_=>false
def Zjb (T:Tab) (op:BinOp) (t:Nat) (ox oy:Operand) (x y:AVal):Option AVal:=match T.nilK t with
 |none=>none
 |some k=>match ZfY oy k y with
  |true=>(x.isNil k).bind fun p=>match op with
   | .eql=>some (.lit (.bool p))
   | .neq=>some (.lit (.bool (!p)))
   |_=>none
  |false=>match ZfY ox k x with
   |true=>(y.isNil k).bind fun p=>match op with
    | .eql=>some (.lit (.bool p))
    | .neq=>some (.lit (.bool (!p)))
    |_=>none
   |false=>none
def Zji (T:Tab) (op:BinOp) (t:Nat) (ox oy:Operand) (x y:AVal):Option AVal:=match T.nilK t with
 |some _=>Zjb T op t ox oy x y
 |none=>match x,y with
  | .lit (.int k a),.lit (.int k' b)=>match op with
    | .shl=>(req (0≤b)).bind fun _=>some (.lit (.int k (ZpO k a b)))
    | .shr=>(req (0≤b)).bind fun _=>some (.lit (.int k (ZbL k a b)))
    |op=>match ZeX k k' with
     |true=>Zh7 op k a b
     |false=>none
  | .lit (.string a),.lit (.string b)=>Zh3 op a b
  | .lit (.bool a),.lit (.bool b)=>match T.und t,op with
    |some .bool,.eql=>some (.lit (.bool (decide (a = b))))
    |some .bool,.neq=>some (.lit (.bool (!decide (a = b))))
    |_,_=>none
  | .agg xs,.agg ys=>match T.lvs t with
    |none=>none
    |some ls=>(ZeW ls xs ys).bind fun r=>match op with
     | .eql=>some (.lit (.bool r))
     | .neq=>some (.lit (.bool (!r)))
     |_=>none
  |_,_=>none
theorem Zyr {T:Tab} {P:Program} (hT:T.Ok P) {op:BinOp} {t:Nat} {ox oy:Operand} {x y v:AVal} {K:AVal→Prop} (hv:Zjb T op t ox oy x y = some v) (hK:K v):
  ∃ k p q,ZJ P t = some k∧x.isNil k = some p∧y.isNil k = some q∧(p = true∨q = true)∧(Zfw ox = true∨Zfw oy = true)∧((op = .eql∧K (.lit (.bool (p && q))))∨(op = .neq∧K (.lit (.bool (!(p && q)))))):=by
 unfold Zjb at hv
 have isC:∀ {o:Operand} {k:NilKind} {x:AVal},ZfY o k x = true→Zfw o = true∧x.isNil k = some true:=by
  intro o k x h
  unfold ZfY at h
  split at h
  ·rename_i h1 h2;exact ⟨h1,h2⟩
  ·cases h
 split at hv
 ·cases hv
 ·rename_i k hk
  split at hv
  ·rename_i hc
   obtain ⟨c1,c2⟩:=isC hc
   obtain ⟨p,h1,hv⟩:=Option.bind_eq_some_iff.1 hv
   refine ⟨k,p,true,hT.nilK hk,h1,c2,.inr rfl,.inr c1,?_⟩
   split at hv
   ·cases hv;exact .inl ⟨rfl,by rw[Bool.and_true];exact hK⟩
   ·cases hv;exact .inr ⟨rfl,by rw[Bool.and_true];exact hK⟩
   ·cases hv
  ·split at hv
   ·rename_i hc
    obtain ⟨c1,c2⟩:=isC hc
    obtain ⟨p,h1,hv⟩:=Option.bind_eq_some_iff.1 hv
    refine ⟨k,true,p,hT.nilK hk,c2,h1,.inl rfl,.inl c1,?_⟩
    split at hv
    ·cases hv;exact .inl ⟨rfl,by rw[Bool.true_and];exact hK⟩
    ·cases hv;exact .inr ⟨rfl,by rw[Bool.true_and];exact hK⟩
    ·cases hv
   ·cases hv
theorem ZsL {T:Tab} {P:Program} (hT:T.Ok P) {op:BinOp} {t:Nat} {ox oy:Operand} {x y v:AVal} {K:AVal→Prop} (hv:Zji T op t ox oy x y = some v) (hK:K v):Zee P op t ox oy x y K:=by
 unfold Zji at hv
 split at hv
 ·obtain ⟨k,p,q,e1,e2,e3,e4,e5,e6⟩:=Zyr hT hv hK
  unfold Zee
  split
  ·simp[AVal.isNil] at e2
  ·simp[AVal.isNil] at e2
  ·simp[AVal.isNil] at e2
  ·simp[AVal.isNil] at e2
  ·simp only[e1,e2,e3]
   rcases e6 with ⟨rfl,e6⟩ | ⟨rfl,e6⟩
   ·exact ⟨e4,e5,e6⟩
   ·exact ⟨e4,e5,e6⟩
 ·split at hv
  ·rename_i k a k' b
   unfold Zee
   simp only
   split at hv
   ·obtain ⟨u,h1,h2⟩:=Option.bind_eq_some_iff.1 hv
    cases h2;exact ⟨ZY h1,hK⟩
   ·obtain ⟨u,h1,h2⟩:=Option.bind_eq_some_iff.1 hv
    cases h2;exact ⟨ZY h1,hK⟩
   ·rename_i h1 h2
    split at hv
    ·rename_i hk
     split
     ·exact absurd rfl h1
     ·exact absurd rfl h2
     ·exact ⟨ZjJ hk,Zyz hv hK⟩
    ·cases hv
  ·unfold Zee;exact Zyl hv hK
  ·unfold Zee
   split at hv
   ·rename_i hu;cases hv;exact ⟨hT.bool hu,hK⟩
   ·rename_i hu;cases hv;exact ⟨hT.bool hu,hK⟩
   ·cases hv
  ·unfold Zee
   split at hv
   ·cases hv
   ·rename_i ls hl
    obtain ⟨h1,h2,h3⟩:=hT.lvs _ _ hl
    simp only[h1]
    obtain ⟨r,h4,h5⟩:=Option.bind_eq_some_iff.1 hv
    refine ⟨h2,h3,Z2v h4 ?_⟩
    split at h5<;>first | (cases h5;exact hK) |cases h5
  ·cases hv
end Go.Proofs.YtogaiomakhapmaaGreat.AL
namespace Go.Proofs.YtogaiomakhapmaaGreat.AL
open Go
def xUn (op:UnOp) (x:AVal):Option AVal:=match op,x with
 | .not,.lit (.bool b)=>some (.lit (.bool (!b)))
 | .neg,.lit (.int k n)=>some (.lit (.int k (k.wrap (0 - n))))
 | .xor,.lit (.int k n)=>some (.lit (.int k (ZhR k n)))
 |_,_=>none
theorem Zyk {op:UnOp} {x v:AVal} {K:AVal→Prop} (h:xUn op x = some v) (hK:K v):aUn op x K:=by
 unfold xUn at h;unfold aUn
 split at h<;>cases h<;>exact hK
def Zf (off:Nat) (x:AVal):Option AVal:=match x with
 | .ptr b o=>some (.ptr b (o + off))
 | .rop cs=>some (.rop (cs.drop off))
 |_=>none
def Zo1 (T:Tab) (s:Nat) (x:AVal) (i:Nat):Option AVal:=match T.field s i with
 |none=>none
 |some (off,ft)=>match T.siz ft with
  |some (_ + 1)=>Zf off x
  |_=>none
section
variable {T:Tab} {P:Program} (hT:T.Ok P)
include hT
theorem Zy5 {s:Nat} {x v:AVal} {i:Nat} {K:AVal→Prop} (h:Zo1 T s x i = some v) (hK:K v):Zk1 P s x i K:=by
 unfold Zo1 at h;unfold Zk1
 split at h
 ·cases h
 ·rename_i hf
  simp only[hT.field hf]
  split at h
  ·rename_i hs
   simp only[hT.siz _ _ hs]
   unfold Zf at h
   split at h<;>cases h<;>exact hK
  ·cases h
end
def Zbc (k:Nat) (x:AVal) (i:Int):Option AVal:=match x with
 | .sl k' b off len=>match Nat.beq k' k with
   |true=>(req (0≤i∧i < len)).bind fun _=>some (.ptr b (off + i.toNat * k))
   |false=>none
 | .ros cs len=>(req (0≤i∧i < len)).bind fun _=>some (.rop (cs.drop (i.toNat * k)))
 |_=>none
def ZeG (n k:Nat) (x:AVal) (i:Int):Option AVal:=match x with
 | .ptr b o=>(req (0≤i∧i < n)).bind fun _=>some (.ptr b (o + i.toNat * k))
 | .rop cs=>(req (0≤i∧i < n)).bind fun _=>some (.rop (cs.drop (i.toNat * k)))
 |_=>none
def Zoy (T:Tab) (t:Nat) (x i:AVal):Option AVal:=match i with
 | .lit (.int _ i)=>match T.und t with
   |some (.array n e)=>match T.siz e with
    |some k=>ZeG n k x i
    |none=>none
   |some (.slice e)=>match T.siz e with
    |some k=>Zbc k x i
    |none=>none
   |_=>none
 |_=>none
theorem Tab.array_of {T:Tab} {t n e:Nat} (h:T.und t = some (.array n e)):T.array t = some (n,e):=by unfold Tab.array;rw[h]
theorem Tab.slice_of {T:Tab} {t e:Nat} (h:T.und t = some (.slice e)):T.slice t = some e:=by unfold Tab.slice;rw[h]
theorem Tab.int_of {T:Tab} {t:Nat} {k:IntKind} (h:T.und t = some (.int k)):T.int t = some k:=by unfold Tab.int;rw[h]
section
variable {T:Tab} {P:Program} (hT:T.Ok P)
include hT
theorem Zy3 {t:Nat} {x i v:AVal} {K:AVal→Prop} (h:Zoy T t x i = some v) (hK:K v):Zky P t x i K:=by
 unfold Zoy at h;unfold Zky
 split at h
 ·split at h
  ·rename_i hu
   simp only[hT.array (Tab.array_of hu)]
   split at h
   ·rename_i hs
    simp only[hT.siz _ _ hs]
    unfold ZeG at h
    split at h
    ·obtain ⟨u,h1,h2⟩:=Option.bind_eq_some_iff.1 h
     cases h2;exact ⟨(ZY h1).1,(ZY h1).2,hK⟩
    ·obtain ⟨u,h1,h2⟩:=Option.bind_eq_some_iff.1 h
     cases h2;exact ⟨(ZY h1).1,(ZY h1).2,hK⟩
    ·cases h
   ·cases h
  ·rename_i hu
   obtain ⟨e1,e2⟩:=hT.slice (Tab.slice_of hu)
   simp only[e1,e2]
   split at h
   ·rename_i hs
    simp only[hT.siz _ _ hs]
    unfold Zbc at h
    split at h
    ·split at h
     ·rename_i hk
      obtain ⟨u,h1,h2⟩:=Option.bind_eq_some_iff.1 h
      cases h2;exact ⟨Nat.eq_of_beq_eq_true hk,(ZY h1).1,(ZY h1).2,hK⟩
     ·cases h
    ·obtain ⟨u,h1,h2⟩:=Option.bind_eq_some_iff.1 h
     cases h2;exact ⟨(ZY h1).1,(ZY h1).2,hK⟩
    ·cases h
   ·cases h
  ·cases h
 ·cases h
end
def ZpJ (vs:List AVal) (off n:Nat):Option (List AVal):=(req (off + n≤vs.length)).bind fun _=>some ((vs.drop off).take n)
def Zh4 (T:Tab) (t:Nat) (vs:List AVal) (off:Nat):Option AVal:=match T.agg t with
 |some true=>match T.siz t with
  |some n=>(ZpJ vs off n).bind fun xs=>some (.agg xs)
  |none=>none
 |some false=>vs[off]?
 |none=>none
theorem ZsC {T:Tab} {P:Program} (hT:T.Ok P) {t:Nat} {vs:List AVal} {off:Nat} {v:AVal} {K:AVal→Prop} (h:Zh4 T t vs off = some v) (hK:K v):Zip P t vs off K:=by
 unfold Zh4 at h;unfold Zip
 split at h
 ·rename_i ha
  split at h
  ·rename_i hs
   simp only[hT.agg ha,hT.siz _ _ hs]
   obtain ⟨xs,h1,h2⟩:=Option.bind_eq_some_iff.1 h
   cases h2
   unfold ZpJ at h1
   obtain ⟨u,h2,h3⟩:=Option.bind_eq_some_iff.1 h1
   cases h3;exact ⟨ZY h2,hK⟩
  ·cases h
 ·rename_i ha
  simp only[hT.agg ha,h];exact hK
 ·cases h
def ZgG (s:ByteArray) (i:Int):Option Int:=(req (0≤i∧i < s.size)).bind fun _=>some (ZmN s i.toNat)
def Zh8 (T:Tab) (t:Nat) (x i:AVal):Option AVal:=match i,x with
 | .lit (.int _ i),.lit (.string s)=>match T.und t with
   |some .string=>(ZgG s i).bind fun b=>some (.lit (.int .u8 b))
   |_=>none
 | .lit (.int _ i),.agg vs=>match T.und t with
   |some (.array n e)=>match T.siz e with
    |some k=>(req (0≤i∧i < n)).bind fun _=>Zh4 T e vs (i.toNat * k)
    |none=>none
   |_=>none
 |_,_=>none
def Zje (T:Tab) (t:Nat) (x:AVal) (i:Nat):Option AVal:=match x with
 | .agg vs=>match T.field t i with
   |some (off,ft)=>Zh4 T ft vs off
   |none=>none
 |_=>none
def Z6 (x:AVal) (i:Nat):Option AVal:=match x with
 | .tup vs=>vs[i]?
 |_=>none
section
variable {T:Tab} {P:Program} (hT:T.Ok P)
theorem Zy8 {x v:AVal} {i:Nat} {K:AVal→Prop} (h:Z6 x i = some v) (hK:K v):Zgo x i K:=by
 unfold Z6 at h;unfold Zgo
 split at h
 ·simp only[h];exact hK
 ·cases h
include hT
theorem Zy1 {t:Nat} {x i v:AVal} {K:AVal→Prop} (h:Zh8 T t x i = some v) (hK:K v):Zkz P t x i K:=by
 unfold Zh8 at h;unfold Zkz
 split at h
 ·split at h
  ·rename_i hu
   obtain ⟨b,h1,h2⟩:=Option.bind_eq_some_iff.1 h
   cases h2
   unfold ZgG at h1
   obtain ⟨u,h2,h3⟩:=Option.bind_eq_some_iff.1 h1
   cases h3
   exact ⟨(hT.str hu).1,(ZY h2).1,(ZY h2).2,hK⟩
  ·cases h
 ·split at h
  ·rename_i hu
   split at h
   ·rename_i hs
    simp only[hT.array (Tab.array_of hu),hT.siz _ _ hs]
    obtain ⟨u,h1,h2⟩:=Option.bind_eq_some_iff.1 h
    exact ⟨(ZY h1).1,(ZY h1).2,ZsC hT h2 hK⟩
   ·cases h
  ·cases h
 ·cases h
theorem Zy6 {t:Nat} {x v:AVal} {i:Nat} {K:AVal→Prop} (h:Zje T t x i = some v) (hK:K v):Zk0 P t x i K:=by
 unfold Zje at h;unfold Zk0
 split at h
 ·split at h
  ·rename_i hf
   simp only[hT.field hf]
   exact ZsC hT h hK
  ·cases h
 ·cases h
end
def Zf5 (x:Option AVal) (d:Int):Option Int:=match x with
 |none=>some d
 |some (.lit (.int _ n))=>some n
 |_=>none
theorem Zv8 (x:Option AVal) (d:Int):Zf5 x d = bnd x d:=rfl
def ZdY (s:ByteArray) (l r:Int):Option ByteArray:=(req (0≤l∧l≤r∧r≤s.size)).bind fun _=>some (s.extract l.toNat r.toNat)
def ZcQ (k:Nat) (x:AVal) (lo hi mx:Option Int):Option AVal:=match x with
 | .sl k' b off len=>match Nat.beq k' k with
   |true=>(req (0≤lo.getD 0∧lo.getD 0≤hi.getD len∧hi.getD len≤len∧(∀ m,mx = some m→hi.isSome = true∧hi.getD len≤m∧m≤len))).bind fun _=>some (.sl k b (off + (lo.getD 0).toNat * k) (hi.getD len - lo.getD 0).toNat)
   |false=>none
 | .ros cs len=>(req (0≤lo.getD 0∧lo.getD 0≤hi.getD len∧hi.getD len≤len∧(∀ m,mx = some m→hi.isSome = true∧hi.getD len≤m∧m≤len))).bind fun _=>some (.ros (cs.drop ((lo.getD 0).toNat * k)) (hi.getD len - lo.getD 0).toNat)
 | .lit (.slice none 0 0)=>(req (lo.getD 0 = 0∧hi.getD 0 = 0∧mx.isNone = true)).bind fun _=>some (.lit (.slice none 0 0))
 |_=>none
def ZdD (n k:Nat) (h:Za) (x:AVal) (lo hi:Int):Option AVal:=match x with
 | .ptr b o=>(Zb h b).bind fun cs=>(req (o + n * k≤cs.length∧0≤lo∧lo≤hi∧hi≤n)).bind fun _=>some (.sl k b (o + lo.toNat * k) (hi - lo).toNat)
 |_=>none
def ZeY (x:Option AVal):Option (Option Int):=match x with
 |none=>some none
 |some (.lit (.int _ n))=>some (some n)
 |_=>none
theorem ZgW {x:Option AVal} {y:Option Int} (h:ZeY x = some y) (d:Int):bnd x d = some (y.getD d)∧x.isSome = y.isSome:=by
 unfold ZeY at h
 split at h
 ·cases h;exact ⟨rfl,rfl⟩
 ·cases h;exact ⟨rfl,rfl⟩
 ·cases h
def ZfN (T:Tab) (t:Nat) (h:Za) (x:AVal) (lo hi mx:Option AVal):Option AVal:=match T.und t with
 |some .string=>match x,lo,hi,mx with
  | .lit (.string s),lo,hi,none=>(Zf5 lo 0).bind fun l=>(Zf5 hi s.size).bind fun r=>(ZdY s l r).bind fun z=>some (.lit (.string z))
  |_,_,_,_=>none
 |some (.slice e)=>match T.siz e with
  |some k=>(ZeY lo).bind fun l=>(ZeY hi).bind fun r=>(ZeY mx).bind fun m=>ZcQ k x l r m
  |none=>none
 |some (.array n e)=>match T.siz e,mx with
  |some 1,none=>(Zf5 lo 0).bind fun l=>(Zf5 hi n).bind fun r=>ZdD n 1 h x l r
  |_,_=>none
 |_=>none
theorem Zyp {T:Tab} {P:Program} (hT:T.Ok P) {t:Nat} {h:Za} {x v:AVal} {lo hi mx:Option AVal} {K:AVal→Prop} (hv:ZfN T t h x lo hi mx = some v) (hK:K v):Zkp P t h x lo hi mx K:=by
 unfold ZfN at hv;unfold Zkp
 split at hv
 ·rename_i hu
  obtain ⟨e1,e2,e3⟩:=hT.str hu
  simp only[e2,e3]
  split at hv
  ·obtain ⟨l,h1,hv⟩:=Option.bind_eq_some_iff.1 hv
   obtain ⟨r,h2,hv⟩:=Option.bind_eq_some_iff.1 hv
   obtain ⟨z,h3,hv⟩:=Option.bind_eq_some_iff.1 hv
   cases hv
   unfold ZdY at h3
   obtain ⟨u,h4,h5⟩:=Option.bind_eq_some_iff.1 h3
   cases h5
   have:=ZY h4
   rw[Zv8] at h1 h2
   simp only[h1,h2]
   exact ⟨e1,rfl,this.1,this.2.1,this.2.2,hK⟩
  ·cases hv
 ·rename_i hu
  obtain ⟨e1,e2⟩:=hT.slice (Tab.slice_of hu)
  simp only[e1,e2]
  split at hv
  ·rename_i k hs
   simp only[hT.siz _ _ hs]
   obtain ⟨l,h1,hv⟩:=Option.bind_eq_some_iff.1 hv
   obtain ⟨r,h2,hv⟩:=Option.bind_eq_some_iff.1 hv
   obtain ⟨m,h3,hv⟩:=Option.bind_eq_some_iff.1 hv
   have hmx:∀ (len:Nat),(∀ m',m = some m'→r.isSome = true∧r.getD len≤m'∧m'≤len)→ZjD hi mx (r.getD len) len:=by
    intro len hm
    unfold ZjD
    unfold ZeY at h3
    split at h3
    ·trivial
    ·cases h3
     obtain ⟨a1,a2,a3⟩:=hm _ rfl
     exact ⟨by rw[(ZgW h2 0).2];exact a1,a2,a3⟩
    ·cases h3
   unfold ZcQ at hv
   split at hv
   ·split at hv
    ·rename_i hk
     obtain ⟨u,h4,h5⟩:=Option.bind_eq_some_iff.1 hv
     cases h5
     obtain ⟨a1,a2,a3,a4⟩:=ZY h4
     simp only[(ZgW h1 0).1,(ZgW h2 _).1]
     exact ⟨Nat.eq_of_beq_eq_true hk,a1,a2,a3,hmx _ a4,hK⟩
    ·cases hv
   ·obtain ⟨u,h4,h5⟩:=Option.bind_eq_some_iff.1 hv
    cases h5
    obtain ⟨a1,a2,a3,a4⟩:=ZY h4
    simp only[(ZgW h1 0).1,(ZgW h2 _).1]
    exact ⟨a1,a2,a3,hmx _ a4,hK⟩
   ·obtain ⟨u,h4,h5⟩:=Option.bind_eq_some_iff.1 hv
    cases h5
    obtain ⟨a1,a2,a3⟩:=ZY h4
    simp only[(ZgW h1 0).1,(ZgW h2 _).1]
    refine ⟨a1,a2,?_,hK⟩
    unfold ZeY at h3
    split at h3
    ·rfl
    ·cases h3;simp at a3
    ·cases h3
   ·cases hv
  ·cases hv
 ·rename_i hu
  simp only[hT.array (Tab.array_of hu)]
  split at hv
  ·rename_i hs
   simp only[hT.siz _ _ hs]
   obtain ⟨l,h1,hv⟩:=Option.bind_eq_some_iff.1 hv
   obtain ⟨r,h2,hv⟩:=Option.bind_eq_some_iff.1 hv
   rw[Zv8] at h1 h2
   unfold ZdD at hv
   split at hv
   ·obtain ⟨cs,h3,hv⟩:=Option.bind_eq_some_iff.1 hv
    obtain ⟨u,h4,hv⟩:=Option.bind_eq_some_iff.1 hv
    cases hv
    obtain ⟨a1,a2,a3,a4⟩:=ZY h4
    simp only[h1,h2,ZbV h3]
    exact ⟨trivial,rfl,a1,a2,a3,a4,hK⟩
   ·cases hv
  ·cases hv
 ·cases hv
def Zg (x:AVal):Option AVal:=match x with
 | .ptr b o=>some (.ptr b o)
 | .rop cs=>some (.rop cs)
 | .fn (.func f) vs ws=>some (.fn (.func f) vs ws)
 | .fn (.yield f) vs ws=>some (.fn (.yield f) vs ws)
 |_=>none
def Zbb (x:AVal):Option Int:=match x with
 | .sl _ _ _ len=>some len
 | .ros _ len=>some len
 | .lit (.slice _ len _)=>some len
 |_=>none
def Zh6 (T:Tab) (t:Nat) (x:AVal):Option AVal:=match T.und t with
 |some (.array n _)=>some (.lit (.int .i64 n))
 |some (.slice _)=>(Zbb x).bind fun n=>some (.lit (.int .i64 n))
 |some .string=>(asS x).bind fun s=>some (.lit (.int .i64 s.size))
 |_=>none
theorem Zyy {T:Tab} {P:Program} (hT:T.Ok P) {t:Nat} {x v:AVal} {K:AVal→Prop} (h:Zh6 T t x = some v) (hK:K v):Zkw P t x K:=by
 unfold Zh6 at h;unfold Zkw
 split at h
 ·rename_i hu
  simp only[hT.array (Tab.array_of hu)]
  cases h;exact hK
 ·rename_i hu
  obtain ⟨e1,e2⟩:=hT.slice (Tab.slice_of hu)
  simp only[e1,e2]
  obtain ⟨n,h1,h2⟩:=Option.bind_eq_some_iff.1 h
  cases h2
  unfold Zbb at h1
  split at h1<;>cases h1<;>exact hK
 ·rename_i hu
  obtain ⟨e1,e2,e3⟩:=hT.str hu
  simp only[e2,e3]
  obtain ⟨s,h1,h2⟩:=Option.bind_eq_some_iff.1 h
  cases h2
  rw[ZmT h1]
  exact ⟨e1,hK⟩
 ·cases h
def xMM (f:Int→Int→Int):List AVal→Option AVal
 | [.lit (.int k a),.lit (.int _ b)]=>some (.lit (.int k (f a b)))
 | [.lit (.int k a),.lit (.int _ b),.lit (.int _ c)]=>some (.lit (.int k (f (f a b) c)))
 |_=>none
theorem ZsG {f:Int→Int→Int} {l:List AVal} {v:AVal} {K:AVal→Prop} (h:xMM f l = some v) (hK:K v):Zgn f l K:=by
 unfold xMM at h;unfold Zgn
 split at h<;>cases h<;>exact hK
def Zoz (T:Tab) (t:Nat) (x:AVal):Option AVal:=match T.und t with
 |some (.interface _)=>none
 |some _=>some (.ifc t x)
 |none=>none
theorem Zy4 {T:Tab} {P:Program} (hT:T.Ok P) {t:Nat} {x v:AVal} {K:AVal→Prop} (h:Zoz T t x = some v) (hK:K v):Zna P t x K:=by
 unfold Zoz at h;unfold Zna
 split at h
 ·cases h
 ·rename_i d hn hu
  cases h
  rw[hT.und _ _ hu]
  refine ⟨?_,hK⟩
  split
  ·rename_i h2;cases h2;exact (hn _ rfl).elim
  ·trivial
  ·contradiction
 ·cases h
def Zo5 (T:Tab) (x:AVal) (t:Nat) (ok:Bool):Option AVal:=match T.und t with
 |some (.interface _)=>none
 |some _=>match x with
  | .ifc s v=>match Nat.beq s t with
    |true=>some (match ok with |true=>.tup [v,.lit (.bool true)] |false=>v)
    |false=>match ok,T.zer t with
     |true,some z=>some (.tup [z,.lit (.bool false)])
     |_,_=>none
  | .lit .nilIface=>match ok,T.zer t with
    |true,some z=>some (.tup [z,.lit (.bool false)])
    |_,_=>none
  |_=>none
 |none=>none
theorem ZyF {T:Tab} {P:Program} (hT:T.Ok P) {t:Nat} {ok:Bool} {x v:AVal} {K:AVal→Prop} (h:Zo5 T x t ok = some v) (hK:K v):Znd P x t ok K:=by
 unfold Zo5 at h;unfold Znd
 split at h
 ·cases h
 ·rename_i d hn hu
  rw[hT.und _ _ hu]
  refine ⟨?_,?_⟩
  ·split
   ·rename_i h2;cases h2;exact (hn _ rfl).elim
   ·trivial
   ·contradiction
  ·split at h
   ·split at h
    ·rename_i hb
     simp only[if_pos (Nat.eq_of_beq_eq_true hb)]
     cases ok<;>cases h<;>exact hK
    ·rename_i hb
     simp only[if_neg (Nat.ne_of_beq_eq_false hb)]
     split at h
     ·rename_i hz
      simp only[hT.zer _ _ hz]
      cases h;exact ⟨trivial,hK⟩
     ·cases h
   ·split at h
    ·rename_i hz
     simp only[hT.zer _ _ hz]
     cases h;exact ⟨trivial,hK⟩
    ·cases h
   ·cases h
 ·cases h
def ZfX {α β:Type} (f:α→Option β):List α→Option (List β)
 | []=>some []
 |x :: l=>(f x).bind fun y=>(ZfX f l).bind fun ys=>some (y :: ys)
def Tab.places (T:Tab) (t:Nat):Option (List (Nat×Nat)):=match T.und t with
 |some (.struct fs)=>ZfX (fun f=>(T.siz f.type).bind fun n=>some (f.offset,n)) fs.toList
 |_=>none
def Zjh (T:Tab) (t:Nat) (parts:List (Nat×AVal)):Option AVal:=match T.zer t with
 |none=>none
 |some z=>match z.parts with
  |none=>none
  |some zs=>match T.und t with
   |some (.struct _)=>(T.places t).bind fun ps=>(Zcp (ps[·]?) zs parts).bind fun cs=>some (.agg cs)
   |some (.array _ e)=>match T.siz e with
    |some k=>(Zcp (fun i=>some (i * k,k)) zs parts).bind fun cs=>some (.agg cs)
    |none=>none
   |_=>none
theorem Z11 {T:Tab} {P:Program} (hT:T.Ok P) {t:Nat} {ps:List (Nat×Nat)} (h:T.places t = some ps):ZI P t = some ps:=by
 unfold Tab.places at h
 split at h
 ·rename_i fs hu
  unfold ZI
  rw[hT.und _ _ hu]
  simp only
  have key:∀ (l:List Field) (ps:List (Nat×Nat)),ZfX (fun f=>(T.siz f.type).bind fun n=>some (f.offset,n)) l = some ps→l.mapM (fun f=>(P.info? f.type).map fun i=>(f.offset,i.size)) = some ps:=by
   intro l
   induction l with
   |nil=>intro ps h;simpa[ZfX] using h
   |cons f l ih=>
    intro ps h
    simp only[ZfX] at h
    obtain ⟨y,h1,h⟩:=Option.bind_eq_some_iff.1 h
    obtain ⟨ys,h2,h⟩:=Option.bind_eq_some_iff.1 h
    cases h
    obtain ⟨n,h3,h4⟩:=Option.bind_eq_some_iff.1 h1
    cases h4
    obtain ⟨i,h5,h6⟩:=Ztz (hT.siz _ _ h3)
    simp[List.mapM_cons,h5,h6,ih _ h2]
  exact key _ _ h
 ·cases h
theorem ZyD {T:Tab} {P:Program} (hT:T.Ok P) {t:Nat} {parts:List (Nat×AVal)} {v:AVal} {K:AVal→Prop} (h:Zjh T t parts = some v) (hK:K v):Zk6 P t parts K:=by
 unfold Zjh at h;unfold Zk6
 split at h
 ·cases h
 ·rename_i z hz
  simp only[hT.zer _ _ hz]
  split at h
  ·cases h
  ·rename_i zs hp
   simp only[hp]
   split at h
   ·rename_i hu
    obtain ⟨ps,h1,h⟩:=Option.bind_eq_some_iff.1 h
    obtain ⟨cs,h2,h⟩:=Option.bind_eq_some_iff.1 h
    cases h
    simp only[Z11 hT h1,h2];exact hK
   ·rename_i hu
    have hp2:ZI P t = none:=by unfold ZI;rw[hT.und _ _ hu]
    split at h
    ·rename_i k hs
     obtain ⟨cs,h2,h⟩:=Option.bind_eq_some_iff.1 h
     cases h
     simp only[hp2,hT.array (Tab.array_of hu),hT.siz _ _ hs,h2];exact hK
    ·cases h
   ·cases h
def Zjy (v:AVal):Option UInt8:=match v with
 | .lit (.int .u8 n)=>(req (0≤n∧n < 256)).bind fun _=>some (UInt8.ofNat n.toNat)
 |_=>none
theorem ZzX {v:AVal} {b:UInt8} (h:Zjy v = some b):v = ZR b:=by
 unfold Zjy at h
 split at h
 ·obtain ⟨u,h1,h2⟩:=Option.bind_eq_some_iff.1 h
  have:=ZY h1
  cases h2
  rename_i n
  obtain ⟨m,rfl⟩:∃ m:Nat,n = m:=⟨n.toNat,by omega⟩
  simp[ZR];omega
 ·cases h
theorem ZzY (b:UInt8):Zjy (ZR b) = some b:=by
 have:=b.toNat_lt
 unfold Zjy ZR
 simp only[req]
 rw[if_pos (by omega)]
 simp
def ZhC (l:List AVal):Option (List UInt8):=ZfX Zjy l
theorem ZpE:∀ {l:List AVal} {bs:List UInt8},ZhC l = some bs→l = bs.map ZR
 | [],bs,h=>by cases h;rfl
 |v :: l,bs,h=>by
  unfold ZhC ZfX at h
  obtain ⟨y,h1,h⟩:=Option.bind_eq_some_iff.1 h
  obtain ⟨ys,h2,h⟩:=Option.bind_eq_some_iff.1 h
  cases h
  rw[ZzX h1,ZpE (l:=l) h2];rfl
theorem Zjx (bs:List UInt8):ZhC (bs.map ZR) = some bs:=by
 induction bs with
 |nil=>rfl
 |cons b bs ih=>unfold ZhC at ih⊢;simp[ZfX,ZzY,ih]
def ZcA (h:Za) (x:AVal):Option ByteArray:=match x with
 | .sl 1 b off len=>(Zb h b).bind fun cs=>(ZhC ((cs.drop off).take len)).bind fun l=>(req (l.length = len)).bind fun _=>some ⟨l.toArray⟩
 | .ros cs len=>(ZhC (cs.take len)).bind fun l=>(req (l.length = len)).bind fun _=>some ⟨l.toArray⟩
 |_=>none
def ZhQ (x:AVal):Option Int:=match x with
 | .lit (.int _ n)=>some n
 |_=>none
theorem Zu2 {x:AVal} {n:Int} (h:ZhQ x = some n):∃ k,x = .lit (.int k n):=by
 unfold ZhQ at h;split at h<;>cases h;exact ⟨_,rfl⟩
def ZfP (T:Tab) (src dst:Nat) (x:AVal) (h:Za):Option AVal:=match T.und src,T.und dst with
 |some (.int _),some (.int k)=>(ZhQ x).bind fun n=>some (.lit (.int k (k.wrap n)))
 |some (.int _),some .string=>(ZhQ x).bind fun n=>some (.lit (.string (Utf8.encode n)))
 |some .string,some .string=>(asS x).bind fun s=>some (.lit (.string s))
 |some (.slice e),some .string=>match T.und e with
  |some (.int .u8)=>(ZcA h x).bind fun s=>some (.lit (.string s))
  |_=>none
 |_,_=>none
theorem ZyB {T:Tab} {P:Program} (hT:T.Ok P) {src dst:Nat} {x v:AVal} {h:Za} {K:AVal→Za→Prop} (hv:ZfP T src dst x h = some v) (hK:K v h):Zhh P src dst x h K:=by
 unfold ZfP at hv;unfold Zhh
 split at hv
 ·rename_i h1 h2
  refine ⟨by rw[hT.und _ _ h1];rfl,?_⟩
  obtain ⟨n,h3,hv⟩:=Option.bind_eq_some_iff.1 hv
  obtain ⟨k0,rfl⟩:=Zu2 h3
  simp only[hT.und _ _ h2];cases hv;exact hK
 ·rename_i h1 h2
  refine ⟨by rw[hT.und _ _ h1];rfl,?_⟩
  obtain ⟨n,h3,hv⟩:=Option.bind_eq_some_iff.1 hv
  obtain ⟨k0,rfl⟩:=Zu2 h3
  simp only[hT.und _ _ h2];cases hv;exact hK
 ·rename_i h1 h2
  refine ⟨by rw[hT.und _ _ h1];rfl,?_⟩
  obtain ⟨s,h3,hv⟩:=Option.bind_eq_some_iff.1 hv
  cases hv
  rw[ZmT h3]
  simp only[hT.und _ _ h2];exact hK
 ·rename_i e h1 h2
  refine ⟨by rw[hT.und _ _ h1];rfl,?_⟩
  split at hv
  ·rename_i he
   have hss:Z3 P src = some e:=(hT.slice (Tab.slice_of h1)).1
   have hie:ZD P e = some .u8:=hT.int (Tab.int_of he)
   obtain ⟨s,h3,h4⟩:=Option.bind_eq_some_iff.1 hv
   cases h4
   unfold ZcA at h3
   split at h3
   ·obtain ⟨cs,h4,h3⟩:=Option.bind_eq_some_iff.1 h3
    obtain ⟨l,h5,h3⟩:=Option.bind_eq_some_iff.1 h3
    obtain ⟨u,h6,h3⟩:=Option.bind_eq_some_iff.1 h3
    cases h3
    simp only[hT.und _ _ h2]
    refine ⟨by simp only[hss];exact hie,l,?_,ZY h6,hK⟩
    simp only[ZbV h4];exact ZpE h5
   ·obtain ⟨l,h5,h3⟩:=Option.bind_eq_some_iff.1 h3
    obtain ⟨u,h6,h3⟩:=Option.bind_eq_some_iff.1 h3
    cases h3
    simp only[hT.und _ _ h2]
    exact ⟨by simp only[hss];exact hie,l,ZpE h5,ZY h6,hK⟩
   ·cases h3
  ·cases hv
 ·cases hv
def ZfU:MKey→MKey→Bool
 | .str,.str=>true
 | .bool,.bool=>true
 | .int k,.int k'=>ZeX k k'
 |_,_=>false
theorem ZgR {a b:MKey} (h:ZfU a b = true):a = b:=by
 cases a<;>cases b<;>first |rfl | (cases h;done) | (rw[ZjJ h])
def ZhZ:MKey→Value→Bool
 | .str,.string _=>true
 | .bool,.bool _=>true
 | .int k,.int k' _=>ZeX k' k
 |_,_=>false
theorem Zqz {d:MKey} {u:Value} (h:ZhZ d u = true):MapKept.IsKey d.desc u:=by
 cases d<;>cases u<;>first |trivial | (cases h;done) | (exact ZjJ h)
def Ze5 (d:MKey) (h:Za) (x:AVal):Option (List (Value×AVal)):=match x with
 | .lit (.map none)=>some []
 | .map b=>match h[b]? with
   |some (.map d' es)=>match ZfU d' d with
    |true=>some es
    |false=>none
   |some (.mapU d' es)=>match ZfU d' d with
    |true=>some es
    |false=>none
   |_=>none
 |_=>none
def ZdW (z:AVal) (u:Value) (es:List (Value×AVal)):AVal×Bool:=match Zbz u es with
 |some (_,v)=>(v,true)
 |none=>(z,false)
def ZfO (T:Tab) (t:Nat) (h:Za) (x k:AVal) (ok:Bool):Option AVal:=match T.mkey t,k with
 |some (d,_,et),.lit u=>match ZhZ d u,T.zer et with
  |true,some z=>(Ze5 d h x).bind fun es=>some (mres ok (ZdW z u es).1 (ZdW z u es).2)
  |_,_=>none
 |_,_=>none
theorem Zyw {T:Tab} {P:Program} (hT:T.Ok P) {t:Nat} {h:Za} {x k v:AVal} {ok:Bool} {K:AVal→Prop} (hv:ZfO T t h x k ok = some v) (hK:K v):Zkv P t h x k ok K:=by
 unfold ZfO at hv;unfold Zkv
 split at hv
 ·rename_i d kt et u ht
  simp only[(hT.mkey ht).1]
  split at hv
  ·rename_i z hk hz
   refine ⟨Zqz hk,?_⟩
   simp only[hT.zer _ _ hz]
   obtain ⟨es,h1,h2⟩:=Option.bind_eq_some_iff.1 hv
   cases h2
   unfold Ze5 at h1
   split at h1
   ·cases h1;exact hK
   ·split at h1
    ·rename_i d' es' hb
     split at h1
     ·rename_i he
      cases h1
      simp only[hb]
      refine ⟨ZgR he,?_⟩
      unfold ZdW at hK
      split at hK<;>(rename_i hm;simp only[hm];exact hK)
     ·cases h1
    ·rename_i d' es' hb
     split at h1
     ·rename_i he
      cases h1
      simp only[hb]
      refine ⟨ZgR he,?_⟩
      unfold ZdW at hK
      split at hK<;>(rename_i hm;simp only[hm];exact hK)
     ·cases h1
    ·cases h1
   ·cases h1
  ·cases hv
 ·cases hv
def ZeP (h:Za) (x:AVal):Option AVal:=match x with
 | .lit (.map none)=>some (.lit (.int .i64 0))
 | .map b=>match h[b]? with
   |some (.map _ es)=>some (.lit (.int .i64 es.length))
   |some (.mapU _ es)=>some (.lit (.int .i64 es.length))
   |_=>none
 |_=>none
theorem Zyu {h:Za} {x v:AVal} {K:AVal→Prop} (hv:ZeP h x = some v) (hK:K v):Zkt h x K:=by
 unfold ZeP at hv;unfold Zkt
 split at hv
 ·cases hv;exact hK
 ·split at hv
  ·rename_i hb;simp only[hb];cases hv;exact hK
  ·rename_i hb;simp only[hb];cases hv;exact hK
  ·cases hv
 ·cases hv
def Zcf (g:Operand→AVal) (xs:Array Operand):List AVal:=xs.toList.map g
def xq (T:Tab) (o:Op) (g:Operand→AVal) (h:Za):Option AVal:=match o with
 | .move x | .assign x=>some (g x)
 | .pick c x y=>(asB (g c)).bind fun b=>some (match b with |true=>g x |false=>g y)
 | .load t x=>Zfl T t h (g x)
 | .nilCheck x=>Zg (g x)
 | .binOp op t x y _=>Zji T op t x y (g x) (g y)
 | .unOp op _ x=>xUn op (g x)
 | .convert s d x=>ZfP T s d (g x) h
 | .makeInterface t x=>Zoz T t (g x)
 | .makeFunc f xs ys=>some (.fn f (Zcf g xs) (Zcf g ys))
 | .build t ps=>Zjh T t (ps.toList.map fun p=>(p.1,g p.2))
 | .slice t x lo hi mx=>ZfN T t h (g x) (lo.map g) (hi.map g) (mx.map g)
 | .fieldAddr t x i=>Zo1 T t (g x) i
 | .field t x i=>Zje T t (g x) i
 | .indexAddr t x i=>Zoy T t (g x) (g i)
 | .index t x i=>Zh8 T t (g x) (g i)
 | .extract x i=>Z6 (g x) i
 | .typeAssert x _ t ok=>Zo5 T (g x) t ok
 | .lookup t x k ok=>ZfO T t h (g x) (g k) ok
 | .call { callee:=.builtin b,args,argTypes}=>match b,args.toList,argTypes.toList with
   | .len,[x],[t]=>match T.und t with
     |some (.map _ _)=>ZeP h (g x)
     |_=>Zh6 T t (g x)
   | .max,_,_=>xMM Zs (Zcf g args)
   | .min,_,_=>xMM ZbB (Zcf g args)
   |_,_,_=>none
 |_=>none
theorem Zod {T:Tab} {P:Program} (hT:T.Ok P) {o:Op} {ty:Nat} {a:List AVal} {h:Za} {v:AVal} {K:AVal→Za→Prop} (hv:xq T o (Ze a) h = some v) (hK:K v h):AOp P o ty a h K:=by
 unfold xq at hv
 cases o with
 |move x=>simp only[AOp] at *;cases hv;exact hK
 |assign x=>simp only[AOp] at *;cases hv;exact hK
 |pick c x y=>
  simp only[AOp] at *
  obtain ⟨b,h1,h2⟩:=Option.bind_eq_some_iff.1 hv
  rw[ZvJ h1]
  cases h2
  cases b<;>exact hK
 |load t x=>exact Zov (K:=fun v=>K v h) hT hv hK
 |nilCheck x=>
  simp only[AOp,Zg] at *
  split at hv<;>first | (rename_i e;rw[e];cases hv;exact hK) |cases hv
 |binOp op t x y yt=>exact ZsL (K:=fun v=>K v h) hT hv hK
 |unOp op t x=>exact Zyk (K:=fun v=>K v h) hv hK
 |convert s d x=>exact ZyB hT hv hK
 |makeInterface t x=>exact Zy4 (K:=fun v=>K v h) hT hv hK
 |makeFunc f xs ys=>simp only[AOp] at *;cases hv;exact hK
 |build t ps=>exact ZyD (K:=fun v=>K v h) hT hv hK
 |slice t x lo hi mx=>exact Zyp (K:=fun v=>K v h) hT hv hK
 |fieldAddr t x i=>exact Zy5 (K:=fun v=>K v h) hT hv hK
 |field t x i=>exact Zy6 (K:=fun v=>K v h) hT hv hK
 |indexAddr t x i=>exact Zy3 (K:=fun v=>K v h) hT hv hK
 |index t x i=>exact Zy1 (K:=fun v=>K v h) hT hv hK
 |extract x i=>exact Zy8 (K:=fun v=>K v h) hv hK
 |typeAssert x xt t ok=>exact ZyF (K:=fun v=>K v h) hT hv hK
 |lookup t x k ok=>exact Zyw (K:=fun v=>K v h) hT hv hK
 |call c=>
  obtain ⟨callee,args,argTypes⟩:=c
  cases callee with
  |builtin b=>
   simp only at hv
   simp only[AOp]
   split at hv
   ·rename_i e1 e2
    simp only[e1,e2]
    split at hv
    ·rename_i hu
     simp only[hT.und _ _ hu]
     exact Zyu (K:=fun v=>K v h) hv hK
    ·rename_i hn
     have hl:=Zyy (K:=fun v=>K v h) hT hv hK
     unfold Zh6 at hv
     split at hv<;>first
      | (rename_i hu;simp only[hT.und _ _ hu];exact hl)
      |cases hv
   ·exact ZsG (K:=fun v=>K v h) hv hK
   ·exact ZsG (K:=fun v=>K v h) hv hK
   ·cases hv
  |value f=>simp at hv
  |invoke r m=>simp at hv
 |_=>simp at hv
theorem ZdF {h:Za} {b:Nat} {cs:List AVal} (e:Za) (hc:Zb h b = some cs):Zb (h++e) b = some cs:=by
 have:=ZbV hc
 unfold Zb
 rw[List.getElem?_append_left (List.getElem?_eq_some_iff.1 this).1,this]
theorem Z2x {h:Za} {v x:AVal} (e:Za) (hx:ld1 h v = some x):ld1 (h++e) v = some x:=by
 unfold ld1 at hx⊢
 split at hx
 ·obtain ⟨cs,h1,h2⟩:=Option.bind_eq_some_iff.1 hx
  simp only[ZdF e h1,Option.bind_some];exact h2
 ·exact hx
 ·cases hx
theorem Z2w {n:Nat} {h:Za} {v:AVal} {xs:List AVal} (e:Za) (hx:ldn n h v = some xs):ldn n (h++e) v = some xs:=by
 unfold ldn at hx⊢
 split at hx
 ·obtain ⟨cs,h1,h2⟩:=Option.bind_eq_some_iff.1 hx
  simp only[ZdF e h1,Option.bind_some];exact h2
 ·exact hx
 ·cases hx
theorem Z3U {h:Za} {v:AVal} {s:ByteArray} (e:Za) (hx:ZcA h v = some s):ZcA (h++e) v = some s:=by
 unfold ZcA at hx⊢
 split at hx
 ·obtain ⟨cs,h1,h2⟩:=Option.bind_eq_some_iff.1 hx
  simp only[ZdF e h1,Option.bind_some];exact h2
 ·exact hx
 ·cases hx
theorem Zmt {h:Za} {b:Nat} {o:AObj} (e:Za) (hb:h[b]? = some o):(h++e)[b]? = some o:=by
 rw[List.getElem?_append_left (List.getElem?_eq_some_iff.1 hb).1,hb]
theorem Z2n {d:MKey} {h:Za} {x:AVal} {es:List (Value×AVal)} (e:Za) (hx:Ze5 d h x = some es):Ze5 d (h++e) x = some es:=by
 unfold Ze5 at hx⊢
 split at hx
 ·exact hx
 ·split at hx
  ·rename_i hb
   simp only[Zmt e hb];exact hx
  ·rename_i hb
   simp only[Zmt e hb];exact hx
  ·cases hx
 ·cases hx
theorem Zyv {h:Za} {x v:AVal} (e:Za) (hx:ZeP h x = some v):ZeP (h++e) x = some v:=by
 unfold ZeP at hx⊢
 split at hx
 ·exact hx
 ·split at hx
  ·rename_i hb
   simp only[Zmt e hb];exact hx
  ·rename_i hb
   simp only[Zmt e hb];exact hx
  ·cases hx
 ·cases hx
theorem Zyd {T:Tab} {o:Op} {g:Operand→AVal} {h:Za} {v:AVal} (e:Za) (hx:xq T o g h = some v):xq T o g (h++e) = some v:=by
 cases o with
 |load t x=>
  change Zfl T t h (g x) = some v at hx
  show Zfl T t (h++e) (g x) = some v
  unfold Zfl at hx⊢
  split at hx
  ·rename_i ha;exact Z2x e hx
  ·rename_i ha
   split at hx
   ·rename_i n hs
    obtain ⟨xs,h1,h2⟩:=Option.bind_eq_some_iff.1 hx
    simp only[Z2w e h1];exact h2
   ·cases hx
  ·cases hx
 |convert s d x=>
  change ZfP T s d (g x) h = some v at hx
  show ZfP T s d (g x) (h++e) = some v
  unfold ZfP at hx⊢
  split at hx
  ·exact hx
  ·exact hx
  ·exact hx
  ·split at hx
   ·obtain ⟨s,h1,h2⟩:=Option.bind_eq_some_iff.1 hx
    rw[Z3U e h1];exact h2
   ·cases hx
  ·cases hx
 |slice t x lo hi mx=>
  change ZfN T t h (g x) (lo.map g) (hi.map g) (mx.map g) = some v at hx
  show ZfN T t (h++e) (g x) (lo.map g) (hi.map g) (mx.map g) = some v
  unfold ZfN at hx⊢
  split at hx
  ·exact hx
  ·exact hx
  ·split at hx
   ·obtain ⟨l,h1,hx⟩:=Option.bind_eq_some_iff.1 hx
    obtain ⟨r,h2,hx⟩:=Option.bind_eq_some_iff.1 hx
    simp only[h1,h2,Option.bind_some]
    unfold ZdD at hx⊢
    split at hx
    ·obtain ⟨cs,h3,hx⟩:=Option.bind_eq_some_iff.1 hx
     simp only[ZdF e h3,Option.bind_some];exact hx
    ·cases hx
   ·cases hx
  ·cases hx
 |lookup t x k ok=>
  change ZfO T t h (g x) (g k) ok = some v at hx
  show ZfO T t (h++e) (g x) (g k) ok = some v
  unfold ZfO at hx⊢
  split at hx
  ·split at hx
   ·obtain ⟨es,h1,h2⟩:=Option.bind_eq_some_iff.1 hx
    rw[Z2n e h1];exact h2
   ·cases hx
  ·cases hx
 |call c=>
  obtain ⟨callee,args,argTypes⟩:=c
  cases callee with
  |builtin b=>
   unfold xq at hx⊢
   simp only at hx⊢
   split at hx
   ·rename_i e1 e2
    (try simp only[e1,e2])
    split at hx
    ·rename_i hu;(try simp only[hu]);exact Zyv e hx
    ·exact hx
   ·exact hx
   ·exact hx
   ·cases hx
  |_=>exact hx
 |_=>exact hx
end Go.Proofs.YtogaiomakhapmaaGreat.AL
namespace Go.Proofs.YtogaiomakhapmaaGreat.AL
open Go
variable {G:Rnd} {ρ ρ':Env} {h h':Za} {w w':World} {P:Program}
def Zc4:AVal:=.lit undef
def Zc1 (ops:Array Oper) (o:Oper) (a:List AVal):Option Bool:=
 match o.guard with
 |none=>some true
 |some (j,want)=>match (ops[j]?).bind (·.dst) with
  |some d=>match Z2 a d with
   | .lit (.bool b)=>some (b == want)
   | .lit (.tuple _)=>some false
   |_=>none
  |none=>none
theorem Zen {ops:Array Oper} {o:Oper} {a:List AVal} {ca:Act} {b:Bool} (ha:AR G ρ h w a ca) (hw:Zc1 ops o a = some b):Region.wanted o (yielded ops ca.tmps) = b:=by
 unfold Zc1 at hw
 unfold Region.wanted
 split at hw
 ·rename_i hg;rw[hg];simpa using hw
 ·rename_i j want hg
  rw[hg]
  split at hw
  ·rename_i d hd
   split at hw
   ·rename_i c hc
    have:=Zs4 ha hd hc
    simp only[this]
    simp only[Option.some.injEq] at hw
    rw[←hw]
    cases c<;>cases want<;>rfl
   ·rename_i us hc
    have h1:=ha.eval (.tmp d)
    have h2:VR ρ h w (.lit (.tuple us)) (ca.tmps.getD d undef):=by rw[←hc];exact h1
    have h3:ca.tmps.getD d undef = .tuple us:=by
     generalize ca.tmps.getD d undef = z at h2
     cases h2;rfl
    have h4:yielded ops ca.tmps j = none:=by
     unfold yielded
     simp only[hd]
     cases hx:ca.tmps[d]? with
     |none=>simp[hx]
     |some y=>
      have e:y = .tuple us:=by
       have h5:ca.tmps.getD d undef = y:=by
        have hlt:=Zb9 hx
        simp only[Array.getD,hlt,dif_pos]
        exact (Array.getElem?_eq_some_iff.1 hx).2
       rw[←h5];exact h3
      subst e;simp[hx]
    simp only[h4]
    simp only[Option.some.injEq] at hw
    rw[←hw];rfl
   ·simp at hw
  ·simp at hw
inductive AMk where
 |ptr
 |sl (k len:Nat)
def AMk.val:AMk→Nat→AVal
 | .ptr,b=>.ptr b 0
 | .sl k len,b=>.sl k b 0 len
structure AData where
 how:AMk
 cs:List AVal
def Zls (P:Program) (A:List Nat) (o:Oper) (a:List AVal) (h:Za) (v:AVal) (d:Option AData):Prop:=
 match d with
 |none=>∀ e:Za,(A = []→e = [])→Zcq P o a (h++e) v
 |some D=>v = .any∧(∀ f args tys,o.op≠ .call { callee:=.value f,args:=args,argTypes:=tys})∧∀ e:Za,AOp P o.op o.type a (h++e) fun v' g=>v' = D.how.val (h++e).length∧g = (h++e)++[.cells D.cs]
theorem ZAc {A:List Nat} {o:Oper} {a a':List AVal} {v:AVal} {d:Option AData} (hx:∀ x∈o.op.operands,Ze a x = Ze a' x):Zls P A o a h v d = Zls P A o a' h v d:=by
 cases d with
 |none=>unfold Zls;simp only[Zlr hx]
 |some D=>unfold Zls;simp only[ZnU hx]
theorem ZuI {ops:Array Oper} {o:Oper} {d:Option Nat} (hd:∀ e,d = some e→e∉o.looksAt ops) {a:List AVal} {v:AVal}:
  (∀ x∈o.op.operands,Ze (Zh a d v) x = Ze a x)∧Zc1 ops o (Zh a d v) = Zc1 ops o a:=by
 refine ⟨(ZuJ (ops:=ops) hd).1,?_⟩
 unfold Zc1
 cases hg:o.guard with
 |none=>rfl
 |some p=>
  obtain ⟨j,want⟩:=p
  cases hj:(ops[j]?).bind (·.dst) with
  |none=>simp[hj]
  |some e=>
   have:Z2 (Zh a d v) e = Z2 a e:=Zkl fun e' he' heq=>by
    refine hd e' he' ?_
    simp only[Oper.looksAt,List.mem_append]
    right
    rw[hg]
    simp[hj,heq]
   simp[hj,this]
abbrev Gh:=Nat→Option AData
def ZN (g:Gh) (i:Nat) (d:Option AData):Gh:=fun j=>if j = i then d else g j
theorem Z2P (g:Gh) {i j:Nat} (d d':Option AData) (hn:i≠j):ZN (ZN g i d) j d' = ZN (ZN g j d') i d:=by
 funext k;unfold ZN
 by_cases h1:k = j
 ·subst h1;simp[Ne.symm hn]
 ·simp[h1]
abbrev Sts:=List (Nat×Nat)
def Zc8:Sts→Nat→Option Nat
 | [],_=>none
 | (i,j) :: S,k=>match Nat.beq i k with
   |true=>some j
   |false=>Zc8 S k
def Zcr:Sts→Nat→Option Nat
 | [],_=>none
 | (i,j) :: S,k=>match Nat.beq j k with
   |true=>some i
   |false=>Zcr S k
def Zbx (ops:Array Oper) (i:Nat):Option Nat:=(ops[i]?).bind (·.dst)
def ZcY (v:AVal):List AVal:=match v.parts with
 |some vs=>vs
 |none=>[v]
theorem Z4q {n:Nat} {v:AVal} (hb:Below n v):∀ u∈ZcY v,Below n u:=by
 unfold ZcY
 cases v with
 |agg vs=>simp only[AVal.parts];cases hb with |agg _ hc=>exact hc
 |lit u=>
  cases u with
  |agg cs=>
   simp only[AVal.parts]
   intro x hx
   obtain ⟨y,_,rfl⟩:=List.mem_map.1 hx
   exact .lit _
  |_=>simp only[AVal.parts];intro x hx;rw[List.mem_singleton.1 hx];exact .lit _
 |any=>simp only[AVal.parts];intro x hx;rw[List.mem_singleton.1 hx];exact .any
 |_=>simp only[AVal.parts];intro x hx;rw[List.mem_singleton.1 hx];exact hb
theorem Zvy {v:AVal} (h:v.one = true):ZcY v = [v]:=by
 unfold ZcY
 cases v with
 |agg vs=>simp[AVal.one] at h
 |lit u=>cases u<;>simp_all [AVal.one,AVal.parts,Value.oneCell']
 |any=>simp[AVal.one] at h
 |_=>rfl
def AStore (P:Program) (ops:Array Oper) (S:Sts) (i:Nat) (o:Oper) (d:Option AData) (a:List AVal) (g:Gh):Prop:=
 ∃ j D dj x,Zc8 S i = some j∧g j = some D∧D.how = .ptr∧Zbx ops j = some dj∧o.dst = none∧(∀ f args tys,o.op≠ .call { callee:=.value f,args:=args,argTypes:=tys})∧x∈o.op.operands∧d = some ⟨.ptr,ZcY (Ze a x)⟩∧
   ∀ (H:Za) (b:Nat),H[b]? = some (.cells D.cs)→AOp P o.op o.type (Zh a (some dj) (.ptr b 0)) H fun _ G=>G = H.set b (.cells (ZcY (Ze a x)))
def ZAd (A:List Nat) (i:Nat) (d:Option AData):Prop:=match d with
 |none=>True
 |some D=>i∈A∧(2≤A.length→ZeB D.cs = true)
def Yield2 (P:Program) (ops:Array Oper) (A:List Nat) (S:Sts) (h:Za) (i:Nat) (o:Oper) (v:AVal) (d:Option AData) (a:List AVal) (g:Gh):Prop:=
 (Zc1 ops o a = some true∧Zc8 S i = none∧ZAd A i d∧Zls P A o a h v d)∨(Zc1 ops o a = some false∧v = Zc4∧d = none)∨(Zc1 ops o a = some true∧AStore P ops S i o d a g)
def QStep2 (P:Program) (ops:Array Oper) (A:List Nat) (S:Sts) (h:Za) (i:Nat) (o:Oper) (K:List AVal→Gh→Prop) (a:List AVal) (g:Gh):Prop:=
 ∃ v d,Yield2 P ops A S h i o v d a g∧K (Zh a o.dst v) (ZN g i d)
def Zej (P:Program) (ops:Array Oper) (A:List Nat) (S:Sts) (h:Za) (K:List AVal→Gh→Prop):List Nat→List AVal→Gh→Prop
 | [],a,g=>K a g
 |i :: rest,a,g=>match ops[i]? with
  |some o=>QStep2 P ops A S h i o (Zej P ops A S h K rest) a g
  |none=>False
theorem Z5l {a b:List AVal} (hl:a.length = b.length) {e:Nat} {p:AVal} {y:Operand} (h:Ze a y = Ze b y):Ze (Zh a (some e) p) y = Ze (Zh b (some e) p) y:=by
 cases y with
 |tmp t=>
  simp only[Ze,Z2,Zh,List.getD_eq_getElem?_getD,List.getElem?_set] at h⊢
  by_cases ht:e = t
  ·subst ht;simp[hl]
  ·simp only[if_neg ht];exact h
 |_=>rfl
theorem Zba (a:List AVal) (d:Option Nat) (v:AVal):(Zh a d v).length = a.length:=by cases d<;>simp[Zh]
theorem AStore.put {ops:Array Oper} {S:Sts} {i:Nat} {o:Oper} {D:Option AData} {d:Option Nat} {u:AVal} {a:List AVal} {g:Gh} (hx:∀ x∈o.op.operands,Ze (Zh a d u) x = Ze a x):
  AStore P ops S i o D (Zh a d u) g↔AStore P ops S i o D a g:=by
 have hc:∀ (dj:Nat) (p:AVal) (H:Za) (K:AVal→Za→Prop),AOp P o.op o.type (Zh (Zh a d u) (some dj) p) H K = AOp P o.op o.type (Zh a (some dj) p) H K:=fun dj p H K=>
  ZnU fun x hm=>Z5l (Zba a d u) (hx x hm)
 constructor
 ·rintro ⟨j,D',dj,x,h1,h2,h3,h4,h5,h6,h7,h8,h9⟩
  rw[hx x h7] at h8 h9
  exact ⟨j,D',dj,x,h1,h2,h3,h4,h5,h6,h7,h8,fun H b hb=>by rw[←hc];exact h9 H b hb⟩
 ·rintro ⟨j,D',dj,x,h1,h2,h3,h4,h5,h6,h7,h8,h9⟩
  refine ⟨j,D',dj,x,h1,h2,h3,h4,h5,h6,h7,by rw[hx x h7];exact h8,fun H b hb=>?_⟩
  rw[hc,hx x h7];exact h9 H b hb
theorem AStore.ghost {ops:Array Oper} {S:Sts} {i k:Nat} {o:Oper} {D d':Option AData} {a:List AVal} {g:Gh} (hk:Zc8 S i≠some k):
  AStore P ops S i o D a (ZN g k d')↔AStore P ops S i o D a g:=by
 have key:∀ j,Zc8 S i = some j→ZN g k d' j = g j:=fun j hj=>by
  unfold ZN;rw[if_neg];intro e;subst e;exact hk hj
 constructor
 ·rintro ⟨j,D',dj,x,h1,h2,h3⟩
  rw[key j h1] at h2
  exact ⟨j,D',dj,x,h1,h2,h3⟩
 ·rintro ⟨j,D',dj,x,h1,h2,h3⟩
  exact ⟨j,D',dj,x,h1,by rw[key j h1];exact h2,h3⟩
theorem Yield2.put {ops:Array Oper} {A:List Nat} {S:Sts} {i k:Nat} {o:Oper} {a:List AVal} {g:Gh} {v:AVal} {D d':Option AData} {d:Option Nat} {u:AVal} (hd:∀ e,d = some e→e∉o.looksAt ops) (hk:Zc8 S i≠some k):
  Yield2 P ops A S h i o v D (Zh a d u) (ZN g k d')↔Yield2 P ops A S h i o v D a g:=by
 obtain ⟨h1,h2⟩:=ZuI (ops:=ops) (o:=o) hd (a:=a) (v:=u)
 unfold Yield2
 rw[h2,ZAc h1,AStore.ghost hk,AStore.put h1]
def Zli (P:Program) (ops:Array Oper) (A:List Nat) (S:Sts) (h:Za) (i:Nat) (K:List AVal→Gh→Prop) (a:List AVal) (g:Gh):Prop:=
 match ops[i]? with
 |none=>False
 |some o=>QStep2 P ops A S h i o K a g
theorem QStep2.mono {ops:Array Oper} {A:List Nat} {S:Sts} {o:Oper} {i:Nat} {K K':List AVal→Gh→Prop} {a:List AVal} {g:Gh} (hk:∀ a g,K a g→K' a g) (hq:QStep2 P ops A S h i o K a g):QStep2 P ops A S h i o K' a g:=by
 obtain ⟨v,d,h1,h2⟩:=hq
 exact ⟨v,d,h1,hk _ _ h2⟩
theorem Z1p {ops:Array Oper} {A:List Nat} {S:Sts} {oi oj:Oper} {i j:Nat} {v:AVal} {d:Option AData} (hij:j≠i) (hs1:Zc8 S i≠some j) (hs2:Zc8 S j≠some i) (hap:oi.apart ops oj = true) {K:List AVal→Gh→Prop} {a:List AVal} {g:Gh} (hy:Yield2 P ops A S h i oi v d a g)
  (hq:QStep2 P ops A S h j oj K (Zh a oi.dst v) (ZN g i d)):QStep2 P ops A S h j oj (fun a' g'=>Yield2 P ops A S h i oi v d a' g'∧K (Zh a' oi.dst v) (ZN g' i d)) a g:=by
 obtain ⟨h1,h2,h3⟩:=Oper.apart_spec hap
 obtain ⟨u,d',hu,hK⟩:=hq
 refine ⟨u,d',(Yield2.put h1 hs2).1 hu,(Yield2.put h3 hs1).2 hy,?_⟩
 rw[Z46 a u v (fun d hd he=>h2 d he hd),Z2P g d' d hij]
 exact hK
structure StsOk (md:Region.Mode) (ops:Array Oper) (A:List Nat) (S:Sts):Prop where
 fwd:∀ i j,Zc8 S i = some j→i∉A∧Zcr S j = some i∧j∈A∧∃ o,ops[i]? = some o∧∃ e∈o.after,Region.binds md e = true∧e.on = j
 bwd:∀ i j,Zcr S j = some i→Zc8 S i = some j
def ZlV (md:Region.Mode) (ops:Array Oper) (A:List Nat) (S:Sts):Bool:=S.all fun x=>!A.contains x.1 && A.contains x.2 && (Zc8 S x.1 == some x.2) && (Zcr S x.2 == some x.1) && (match ops[x.1]? with
 |some o=>o.after.toList.any fun e=>Region.binds md e && decide (e.on = x.2)
 |none=>false)
theorem Zuz {i j:Nat}:∀ {S:Sts},Zc8 S i = some j→(i,j)∈S
 | (i',j') :: S,h=>by
   unfold Zc8 at h
   split at h
   ·rename_i e;have e:=Nat.eq_of_beq_eq_true e;subst e;cases h;simp
   ·exact List.mem_cons_of_mem _ (Zuz h)
theorem Zt9 {i j:Nat}:∀ {S:Sts},Zcr S j = some i→(i,j)∈S
 | (i',j') :: S,h=>by
   unfold Zcr at h
   split at h
   ·rename_i e;have e:=Nat.eq_of_beq_eq_true e;subst e;cases h;simp
   ·exact List.mem_cons_of_mem _ (Zt9 h)
theorem ZhF {md:Region.Mode} {ops:Array Oper} {A:List Nat} {S:Sts} (hB:ZlV md ops A S = true):StsOk md ops A S:=by
 have key:∀ i j,(i,j)∈S→i∉A∧j∈A∧Zc8 S i = some j∧Zcr S j = some i∧∃ o,ops[i]? = some o∧∃ e∈o.after,Region.binds md e = true∧e.on = j:=by
  intro i j hm
  have h1:=List.all_eq_true.1 hB _ hm
  simp only[Bool.and_eq_true,Bool.not_eq_true',beq_iff_eq] at h1
  obtain ⟨⟨⟨⟨h1,h2⟩,h3⟩,h4⟩,h5⟩:=h1
  refine ⟨by simpa using h1,by simpa using h2,h3,h4,?_⟩
  split at h5
  ·rename_i o ho
   obtain ⟨e,he,h6⟩:=List.any_eq_true.1 h5
   simp only[Bool.and_eq_true,decide_eq_true_eq] at h6
   exact ⟨o,ho,e,by simpa using he,h6.1,h6.2⟩
  ·cases h5
 exact ⟨fun i j h=>by
  obtain ⟨a,b,c,d,e⟩:=key i j (Zuz h)
  exact ⟨a,d,b,e⟩,fun i j h=>(key i j (Zt9 h)).2.2.1⟩
inductive Reach (md:Region.Mode) (ops:Array Oper):Nat→Nat→Prop
 |dir {t:Nat} {o:Oper} {e:Edge} (ho:ops[t]? = some o) (he:e∈o.after) (hb:Region.binds md e = true):Reach md ops t e.on
 |trans {t j i:Nat} (h1:Reach md ops t j) (h2:Reach md ops j i):Reach md ops t i
def Down (md:Region.Mode) (ops:Array Oper) (listed:Array Bool):Prop:=
 ∀ (k:Nat) (o:Oper) (e:Edge),ops[k]? = some o→listed.getD k false = true→e∈o.after→Region.binds md e = true→listed.getD e.on false = true
theorem Down.reach {md:Region.Mode} {ops:Array Oper} {listed:Array Bool} (hd:Down md ops listed) {t i:Nat} (hr:Reach md ops t i):listed.getD t false = true→listed.getD i false = true:=by
 induction hr with
 |dir ho he hb=>exact fun h=>hd _ _ _ ho h he hb
 |trans _ _ ih1 ih2=>exact fun h=>ih2 (ih1 h)
theorem ZpV {md:Region.Mode} {ops:Array Oper} {listed:Array Bool} (hd:Down md ops listed) {t i:Nat} (ht:t∈Region.ready md ops listed) (hr:Reach md ops t i):listed.getD i false = true:=by
 obtain ⟨_,ot,hot,hall⟩:=mem_ready.1 ht
 induction hr with
 |dir ho he hb=>rw[hot] at ho;cases ho;exact hall _ he hb
 |trans _ h2 ih1 _=>exact hd.reach h2 (ih1 ht ‹_› hot)
theorem ZjP {l:Array Bool} {i:Nat} (h:l.getD i true = false):(l.setIfInBounds i true).getD i false = true:=by
 rcases Nat.lt_or_ge i l.size with h' |h'
 ·simp[Array.getD_eq_getD_getElem?,h']
 ·simp[Array.getElem?_eq_none h'] at h
theorem ZgX {l:Array Bool} {i k:Nat} (h:l.getD k false = true):(l.setIfInBounds i true).getD k false = true:=by
 by_cases e:i = k
 ·subst e
  rcases Nat.lt_or_ge i l.size with h' |h'
  ·simp[Array.getD_eq_getD_getElem?,h']
  ·simp[Array.getElem?_eq_none h'] at h
 ·rw[getD_set_ne false e];exact h
theorem Down.add {md:Region.Mode} {ops:Array Oper} {listed:Array Bool} (hd:Down md ops listed) {i:Nat} (hi:i∈Region.ready md ops listed):Down md ops (listed.setIfInBounds i true):=by
 obtain ⟨hun,oi,hoi,hall⟩:=mem_ready.1 hi
 intro k o e ho hk he hb
 by_cases hki:k = i
 ·subst hki
  rw[hoi] at ho;cases ho
  exact ZgX (hall _ he hb)
 ·rw[getD_set_ne false (Ne.symm hki)] at hk
  exact ZgX (hd k o e ho hk he hb)
def Zqo (md:Region.Mode) (L:List Nat) (es:List Edge):Nat:=es.foldl (fun m e=>cond (Region.binds md e) (m ||| (1 <<< e.on |||L.getD e.on 0)) m) 0
def Zfc (md:Region.Mode) (ops:Array Oper):Nat→List Nat
 | 0=>[]
 |k + 1=>let L:=Zfc md ops k
  L++[match ops[k]? with
   |some o=>Zqo md L o.after.toList
   |none=>0]
theorem ZvQ (md:Region.Mode) (ops:Array Oper):∀ k,(Zfc md ops k).length = k
 | 0=>rfl
 |k + 1=>by simp[Zfc,ZvQ md ops k]
theorem Z2j {md:Region.Mode} {ops:Array Oper} {L:List Nat} {t:Nat} {o:Oper} (ho:ops[t]? = some o) (hL:∀ j i,(L.getD j 0).testBit i = true→Reach md ops j i) {i:Nat}:
  (Zqo md L o.after.toList).testBit i = true→Reach md ops t i:=by
 unfold Zqo
 have key:∀ (es:List Edge) (m:Nat),(∀ e∈es,e∈o.after)→(∀ i,m.testBit i = true→Reach md ops t i)→
   ∀ i,(es.foldl (fun m e=>cond (Region.binds md e) (m ||| (1 <<< e.on |||L.getD e.on 0)) m) m).testBit i = true→Reach md ops t i:=by
  intro es
  induction es with
  |nil=>intro m _ hm i hi;exact hm i hi
  |cons e es ih=>
   intro m he hm i hi
   refine ih _ (fun e' he'=>he e' (by simp[he'])) ?_ i hi
   intro i hi
   simp only at hi
   cases hb:Region.binds md e with
   |false=>rw[hb] at hi;exact hm i hi
   |true=>
    rw[hb,cond_true] at hi
    rw[Nat.testBit_or,Nat.testBit_or] at hi
    simp only[Bool.or_eq_true] at hi
    have hd:Reach md ops t e.on:=.dir ho (he e (by simp)) hb
    rcases hi with hi |hi |hi
    ·exact hm i hi
    ·have:e.on = i:=by
      rw[Nat.one_shiftLeft,Nat.testBit_two_pow] at hi
      simpa using hi
     subst this;exact hd
    ·exact .trans hd (hL _ _ hi)
 exact key _ 0 (fun e he=>by simpa using he) (fun i hi=>by simp at hi) i
theorem Zkj (md:Region.Mode) (ops:Array Oper):∀ k j i,((Zfc md ops k).getD j 0).testBit i = true→Reach md ops j i
 | 0,j,i,h=>by simp[Zfc] at h
 |k + 1,j,i,h=>by
  have hl:=ZvQ md ops k
  simp only[Zfc,List.getD_eq_getElem?_getD] at h
  rcases Nat.lt_trichotomy j k with hlt |rfl |hgt
  ·rw[List.getElem?_append_left (by rw[hl];exact hlt)] at h
   exact Zkj md ops k j i (by rw[List.getD_eq_getElem?_getD];exact h)
  ·rw[List.getElem?_append_right (by rw[hl];exact Nat.le_refl _),hl,Nat.sub_self] at h
   simp only[List.getElem?_cons_zero,Option.getD_some] at h
   split at h
   ·rename_i o ho
    exact Z2j ho (Zkj md ops j) h
   ·simp at h
  ·rw[List.getElem?_eq_none (by simp[hl];omega)] at h;simp at h
def Zj0 (md:Region.Mode) (ops:Array Oper) (F Hd:List Nat):Bool:=
 let L:=Zfc md ops ops.size
 (List.range ops.size).all fun t=>Hd.contains t || F.contains t || Hd.all fun i=>(L.getD t 0).testBit i
theorem Z0i {md:Region.Mode} {ops:Array Oper} {F Hd:List Nat} {t i:Nat} {listed:Array Bool} (ht:Zj0 md ops F Hd = true) (hd:Down md ops listed) (hF:∀ k∈F,listed.getD k true = true) (hi:i∈Hd)
  (hun:listed.getD i true = false) (hr:t∈Region.ready md ops listed):t∈Hd:=by
 obtain ⟨htn,ot,hot,hall⟩:=mem_ready.1 hr
 have hlt:t < ops.size:=Zb9 hot
 have h1:=List.all_eq_true.1 ht t (List.mem_range.2 hlt)
 simp only[Bool.or_eq_true] at h1
 rcases h1 with (h1 |h1) |h1
 ·simpa using h1
 ·have:=hF t (by simpa using h1)
  rw[htn] at this;cases this
 ·have h2:=List.all_eq_true.1 h1 i hi
  have h3:=ZpV hd hr (Zkj md ops _ _ _ h2)
  rcases Nat.lt_or_ge i listed.size with h' |h'
  ·simp[h'] at hun h3;rw[hun] at h3;cases h3
  ·simp[Array.getElem?_eq_none h'] at hun
def Zlq (P:Program) (md:Region.Mode) (ops:Array Oper) (A:List Nat) (S:Sts) (h:Za) (Hd:List Nat) (L:Array Bool→List AVal→Gh→Prop):Nat→Array Bool→List AVal→Gh→Prop
 | 0,listed,a,g=>L listed a g
 |f + 1,listed,a,g=>Region.ready md ops listed≠[]∧∀ i∈Region.ready md ops listed,i∈Hd∧Zli P ops A S h i (Zlq P md ops A S h Hd L f (listed.setIfInBounds i true)) a g
theorem Zq2 {l:Array Bool} {i k:Nat} (h:l.getD k true = true):(l.setIfInBounds i true).getD k true = true:=by
 by_cases e:i = k
 ·subst e
  rcases Nat.lt_or_ge i l.size with h' |h'
  ·simp[Array.getD_eq_getD_getElem?,h']
  ·simp[Array.getD_eq_getD_getElem?,h']
 ·rw[getD_set_ne true e];exact h
theorem Z4C {md:Region.Mode} {ops:Array Oper} {A F Hd:List Nat} {S:Sts} {i:Nat} {oi:Oper} {v:AVal} {d:Option AData} {L:Array Bool→List AVal→Gh→Prop} (hS:StsOk md ops A S) (hi:ops[i]? = some oi) (hin:i∈Hd) (ht:Zj0 md ops F Hd = true)
  (hL:∀ listed a g,L listed a g→∀ j∈Region.ready md ops listed,j∉Hd):∀ (f:Nat) (listed:Array Bool) (a:List AVal) (g:Gh),Down md ops listed→(∀ k∈F,listed.getD k true = true)→
   (∀ j oj,ops[j]? = some oj→j≠i→listed.getD j true = false→(∀ e∈oj.after,Region.binds md e = true→e.on≠i)→oi.apart ops oj = true)→
   i∈Region.ready md ops listed→Yield2 P ops A S h i oi v d a g→
   Zlq P md ops A S h Hd L f (listed.setIfInBounds i true) (Zh a oi.dst v) (ZN g i d)→Zlq P md ops A S h Hd L (f + 1) listed a g:=by
 intro f
 induction f with
 |zero=>
  intro listed a g hdn hF _ hr hy H
  refine ⟨fun h=>(by rw[h] at hr;cases hr),fun j hj=>?_⟩
  by_cases hji:j = i
  ·subst hji
   refine ⟨hin,?_⟩
   unfold Zli;rw[hi];exact ⟨v,d,hy,H⟩
  ·have h1:=hL _ _ _ H j (ready_mono hj hji)
   have h2:=Z0i ht hdn hF hin (mem_ready.1 hr).1 hj
   exact absurd h2 h1
 |succ f ih=>
  intro listed a g hdn hF hfree hr hy H
  refine ⟨fun h=>(by rw[h] at hr;cases hr),fun j hj=>?_⟩
  by_cases hji:j = i
  ·subst hji
   refine ⟨hin,?_⟩
   unfold Zli;rw[hi];exact ⟨v,d,hy,H⟩
  ·obtain ⟨hjn,h1⟩:=H.2 j (ready_mono hj hji)
   obtain ⟨hjun,oj,hoj,hall⟩:=mem_ready.1 hj
   have hnot:∀ e∈oj.after,Region.binds md e = true→e.on≠i:=fun e he hb heq=>by
    have h1:=hall e he hb
    have h0:=(mem_ready.1 hr).1
    rw[heq] at h1
    rcases Nat.lt_or_ge i listed.size with h' |h'
    ·simp[h'] at h0 h1;rw[h0] at h1;cases h1
    ·simp[Array.getElem?_eq_none h'] at h1
   refine ⟨hjn,?_⟩
   unfold Zli at h1⊢
   rw[hoj] at h1⊢
   have hs1:Zc8 S i≠some j:=fun he=>by
    obtain ⟨_,_,_,o,ho,e,hea,hb,rfl⟩:=hS.fwd _ _ he
    obtain ⟨_,oi',hoi',halli⟩:=mem_ready.1 hr
    rw[hoi'] at ho;cases ho
    have h1:=halli _ hea hb
    have h0:=hjun
    rcases Nat.lt_or_ge e.on listed.size with h' |h'
    ·simp[h'] at h0 h1;rw[h0] at h1;cases h1
    ·simp[Array.getElem?_eq_none h'] at h0
   have hs2:Zc8 S j≠some i:=fun he=>by
    obtain ⟨_,_,_,o,ho,e,hea,hb,rfl⟩:=hS.fwd _ _ he
    rw[hoj] at ho;cases ho
    exact hnot e hea hb rfl
   have h2:=Z1p hji hs1 hs2 (hfree j oj hoj hji hjun hnot) hy h1
   have hfree':∀ k ok,ops[k]? = some ok→k≠i→(listed.setIfInBounds j true).getD k true = false→
     (∀ e∈ok.after,Region.binds md e = true→e.on≠i)→oi.apart ops ok = true:=fun k ok hk hki hun hno=>by
    refine hfree k ok hk hki ?_ hno
    by_cases hjk:j = k
    ·subst hjk;exact hjun
    ·rw[getD_set_ne true hjk] at hun;exact hun
   refine h2.mono fun a' g' h3=>ih (listed.setIfInBounds j true) a' g' (hdn.add hj) (fun k hk=>Zq2 (hF k hk)) hfree' (ready_mono hr (Ne.symm hji)) h3.1 ?_
   rw[Array.setIfInBounds_comm _ _ hji]
   exact h3.2
def Z4 (listed:Array Bool):List Nat→Array Bool
 | []=>listed
 |i :: is=>Z4 (listed.setIfInBounds i true) is
def ZjM (md:Region.Mode) (ops:Array Oper):List Nat→Array Bool→Bool
 | [],_=>true
 |k :: ks,listed=>(Region.ready md ops listed).contains k && Region.free md ops listed k && ZjM md ops ks (listed.setIfInBounds k true)
def ZgF (md:Region.Mode) (ops:Array Oper):List Nat→Array Bool→Bool
 | [],listed=>Region.ready md ops listed == []
 |k :: ks,listed=>Region.ready md ops listed == [k] && ZgF md ops ks (listed.setIfInBounds k true)
theorem Zrl {md:Region.Mode} {ops:Array Oper} {A F Hd:List Nat} {S:Sts} {L:Array Bool→List AVal→Gh→Prop} {M:Array Bool} (hS:StsOk md ops A S) (ht:Zj0 md ops F Hd = true)
  (hL:∀ listed a g,L listed a g→∀ j∈Region.ready md ops listed,j∉Hd):∀ (l:List Nat) (listed:Array Bool) (a:List AVal) (g:Gh),(∀ i∈l,i∈Hd)→Z4 listed l = M→
  ZjM md ops l listed = true→Down md ops listed→(∀ k∈F,listed.getD k true = true)→Zej P ops A S h (L M) l a g→Zlq P md ops A S h Hd L l.length listed a g
 | [],listed,a,g,hl,hM,hB,hdn,hF,hq=>by
   subst hM
   exact hq
 |k :: l,listed,a,g,hl,hM,hB,hdn,hF,hq=>by
  simp only[ZjM,Bool.and_eq_true] at hB
  obtain ⟨⟨hr,hf⟩,hB'⟩:=hB
  unfold Zej at hq
  split at hq
  ·rename_i o h0
   obtain ⟨v,d,hy,hK⟩:=hq
   refine Z4C hS h0 (hl k (by simp)) ht hL l.length listed a g hdn hF (Region.free_spec h0 hf) (by simpa using hr) hy ?_
   exact Zrl hS ht hL l _ _ _ (fun i hi=>hl i (by simp[hi])) hM hB' (hdn.add (by simpa using hr)) (fun k hk=>Zq2 (hF k hk)) hK
  ·exact hq.elim
theorem Z4Q {o:Oper} {a:List AVal} {ca:Act} {v:AVal} (hR:Rel ρ h w) (ha:AR G ρ h w a ca) (hK:Zcq P o a h v):Below h.length v:=by
 unfold Zcq at hK
 split at hK
 ·rename_i f args argTypes hop
  split at hK
  ·rename_i i xs ys hf
   have hv:=ha.eval f
   rw[hf] at hv
   generalize hu:ca.eval f = u at hv
   cases hv with |fn _ _ _ us zs hl hl' hv hw=>
   obtain ⟨e,w',fr,⟨ρ',h',e',ev,hR',hE,e1,e2⟩,_⟩:=hK.2 ρ w _ hR (ZmB ha args ⟨hl,hv⟩ ⟨hl',hw⟩) []
   subst e1;subst e2
   cases hE with |ret _ u hvu=>exact hvu.ids
  ·exact hK.elim
 ·obtain ⟨ρ',h',w',v',u,h1,ev,hR',hvu,rfl,rfl⟩:=Zhg hR ha hK
  exact hvu.ids
theorem Z4P {o:Oper} {a:List AVal} {ca:Act} {v:AVal} {K':Act→World→Prop} {Q':Exit→Act→World→Prop} (hR:Rel ρ h w) (ha:AR G ρ h w a ca) (hK:Zcq P o a h v)
  (hk:∀ ρ' w' u,Evo ρ h w ρ' h w'→Rel ρ' h w'→VR ρ' h w' v u→K' (ca.put o.dst u) w'):o.wpIn (FW G.ro) 0 P ca w K' Q':=by
 unfold Zcq at hK
 split at hK
 ·rename_i f args argTypes hop
  split at hK
  ·rename_i i xs ys hf
   have hv:=ha.eval f
   rw[hf] at hv
   generalize hu:ca.eval f = u at hv
   cases hv with |fn _ _ _ us zs hl hl' hv hw=>
   have hrun:=ZpR (P:=P) (w:=w) (args:=args) (argTypes:=argTypes) (ty:=o.type) hu hK.1
   have hx:execOp ca.eval o = (do let d←resolve ca.eval { callee:=.value f,args,argTypes} o.type;invoke d.target d.args):=by unfold execOp;rw[hop]
   refine Ze0 (fun c hc=>by rw[hop] at hc;cases hc) ?_
   rw[hx,hrun,Oper.uponIn_enter]
   refine ⟨fun h=>(by simp at h),(ZmL (hK.2 ρ w _ hR (ZmB ha args ⟨hl,hv⟩ ⟨hl',hw⟩))).mono ?_⟩
   rintro e w' ⟨ρ',h',e',ev,hR',hE,e1,e2⟩
   subst e1;subst e2
   cases hE with |ret _ u hvu=>exact hk _ _ _ ev hR' hvu
  ·exact hK.elim
 ·obtain ⟨ρ',h',w',v',u,h1,ev,hR',hvu,rfl,rfl⟩:=Zhg hR ha hK
  refine Ze0 (fun c hc=>by rw[hc] at hK;exact hK) ?_
  rcases h1 with h1 | ⟨h1,rfl⟩
  ·rw[h1,Oper.uponIn_value];exact hk _ _ _ ev hR' hvu
  ·rw[h1,Oper.uponIn_skip];exact hk _ _ _ ev hR' hvu
theorem Z4S {o:Oper} {a:List AVal} {ca:Act} {D:AData} {K':Act→World→Prop} {Q':Exit→Act→World→Prop} (hR:Rel ρ h w) (ha:AR G ρ h w a ca)
  (hn:∀ f args tys,o.op≠ .call { callee:=.value f,args:=args,argTypes:=tys}) (hK:AOp P o.op o.type a h fun v' g=>v' = D.how.val h.length∧g = h++[.cells D.cs])
  (hk:∀ ρ' w' u,Evo ρ h w ρ' (h++[.cells D.cs]) w'→Rel ρ' (h++[.cells D.cs]) w'→VR ρ' (h++[.cells D.cs]) w' (D.how.val h.length) u→K' (ca.put o.dst u) w'):o.wpIn (FW G.ro) 0 P ca w K' Q':=by
 obtain ⟨ρ',h',w',v',u,h1,ev,hR',hvu,rfl,rfl⟩:=Zhg hR ha hK
 refine Ze0 (fun c hc=>by rw[hc] at hK;exact hK) ?_
 rcases h1 with h1 | ⟨h1,rfl⟩
 ·rw[h1,Oper.uponIn_value];exact hk _ _ _ ev hR' hvu
 ·rw[h1,Oper.uponIn_skip];exact hk _ _ _ ev hR' hvu
structure Reidx (H H':Za) (n:Nat) (τ:Nat→Nat):Prop where
 len:H'.length = H.length
 le:n≤H.length
 fix:∀ b:Nat,b < n→τ b = b
 get:∀ b:Nat,b < H.length→H'[b]? = H[τ b]?
 lt:∀ b:Nat,b < H.length→τ b < H.length
 inj:∀ b b':Nat,b < H.length→b' < H.length→τ b = τ b'→b = b'
 sur:∀ c:Nat,c < H.length→∃ b,b < H.length∧τ b = c
 names:∀ (b:Nat) (o:AObj),H[b]? = some o→Zhy n o
variable {H H':Za} {n:Nat} {τ:Nat→Nat}
theorem Reidx.owned (x:Reidx H H' n τ) {c:Nat}:Zb5 (fun b=>ρ (τ b)) H' c↔Zb5 ρ H c:=by
 constructor
 ·rintro ⟨b,o,hb,ho,he⟩
  have hlt:b < H.length:=by rw[←x.len];exact ZE hb
  exact ⟨τ b,o,by rw[←x.get b hlt];exact hb,ho,he⟩
 ·rintro ⟨c',o,hb,ho,he⟩
  obtain ⟨b,hlt,rfl⟩:=x.sur c' (ZE hb)
  exact ⟨b,o,by rw[x.get b hlt];exact hb,ho,he⟩
theorem Reidx.vr (x:Reidx H H' n τ) {v:AVal} {u:Value} (hv:VR ρ H w v u) (hb:Below n v):VR (fun b=>ρ (τ b)) H' w v u:=by
 have env:∀ b,b < n→ρ b = ρ (τ b):=fun b hb=>by rw[x.fix b hb]
 have lt:∀ b,b < n→b < H'.length:=fun b hb=>by rw[x.len];exact Nat.lt_of_lt_of_le hb x.le
 induction hv with
 |any u=>exact .any u
 |lit u=>exact .lit u
 |ptr b off _=>cases hb with |ptr _ _ hb=>rw[env b hb];exact .ptr (ρ:=fun b=>ρ (τ b)) b off (lt b hb)
 |sl k b off len cap _ hl hc hm=>cases hb with |sl _ _ _ _ hb=>rw[env b hb] at hc hm⊢;exact .sl (ρ:=fun b=>ρ (τ b)) k b off len cap (lt b hb) hl hc hm
 |rop cs c off C T fz hc hn hs _ ih=>
  cases hb with |rop _ hb=>exact .rop cs c off C T fz hc (fun ho=>hn (x.owned.1 ho)) hs fun i hi=>ih i hi (hb _ (List.getElem_mem hi))
 |slZ k b off o _=>cases hb with |sl _ _ _ _ hb=>rw[env b hb];exact .slZ (ρ:=fun b=>ρ (τ b)) k b off o (lt b hb)
 |rosZ cs _ a cap=>cases hb with |ros _ _ hb=>exact .rosZ cs (fun v hv=>(hb v hv).mono (by rw[x.len];exact x.le)) a cap
 |ros cs c off len cap C T fz hl hc hn hs _ ih=>
  cases hb with |ros _ _ hb=>exact .ros cs c off len cap C T fz hl hc (fun ho=>hn (x.owned.1 ho)) hs fun i hi=>ih i hi (hb _ (List.getElem_mem hi))
 |agg vs us hl _ ih=>cases hb with |agg _ hb=>exact .agg vs us hl fun i hi=>ih i hi (hb _ (List.getElem_mem hi))
 |tup vs us hl _ ih=>cases hb with |tup _ hb=>exact .tup vs us hl fun i hi=>ih i hi (hb _ (List.getElem_mem hi))
 |fn f vs ws us xs hl hl' _ _ ih ih'=>
  cases hb with |fn _ _ _ hb hd=>exact .fn f vs ws us xs hl hl' (fun i hi=>ih i hi (hb _ (List.getElem_mem hi))) fun i hi=>ih' i hi (hd _ (List.getElem_mem hi))
 |ifc t v u _ ih=>cases hb with |ifc _ _ hb=>exact .ifc t v u (ih hb)
 |map b _=>cases hb with |map _ hb=>rw[env b hb];exact .map (ρ:=fun b=>ρ (τ b)) b (lt b hb)
 |yld b _=>cases hb with |yld _ hb=>rw[env b hb];exact .yld (ρ:=fun b=>ρ (τ b)) b (lt b hb)
theorem Reidx.vrMk (x:Reidx H H' n τ) {m:AMk} {b:Nat} {u:Value} (hlt:b < H.length) (hv:VR ρ H w (m.val (τ b)) u):VR (fun b=>ρ (τ b)) H' w (m.val b) u:=by
 have hlt':b < H'.length:=by rw[x.len];exact hlt
 cases m with
 |ptr=>
  unfold AMk.val at hv⊢
  cases hv with |ptr _ _ _=>exact .ptr (ρ:=fun b=>ρ (τ b)) b 0 hlt'
 |sl k len=>
  unfold AMk.val at hv⊢
  cases hv with
  |sl _ _ _ _ cap _ hl hc hm=>exact .sl (ρ:=fun b=>ρ (τ b)) k b 0 len cap hlt' hl hc hm
  |slZ _ _ _ o _=>exact .slZ (ρ:=fun b=>ρ (τ b)) k b 0 o hlt'
theorem Reidx.rel (x:Reidx H H' n τ) (hR:Rel ρ H w):Rel (fun b=>ρ (τ b)) H' w:=by
 refine ⟨fun g hm=>⟨fun ho=>(hR.glob g hm).1 (x.owned.1 ho),(hR.glob g hm).2⟩,?_,?_⟩
 ·intro b o hb
  have hlt:b < H.length:=by rw[←x.len];exact ZE hb
  rw[x.get b hlt] at hb
  have h1:=hR.obj (τ b) o hb
  cases o with
  |dead=>trivial
  |cells cs=>
   obtain ⟨C,T,fz,a1,a2,a3,a4,a5⟩:=h1
   exact ⟨C,T,fz,a1,a2,a3,a4,fun i hi=>x.vr (a5 i hi) (x.names _ _ hb _ (List.getElem_mem hi))⟩
  |pred R=>exact h1
  |map d es=>
   obtain ⟨C,clock,a1,a2,a3,a4⟩:=h1
   exact ⟨C,clock,a1,a2,a3,fun i hi=>⟨(a4 i hi).1,(a4 i hi).2.1,x.vr (a4 i hi).2.2 (x.names _ _ hb _ (List.getElem_mem hi))⟩⟩
  |sit s pos=>exact h1
  |mapS d es bs clock=>
   obtain ⟨C,a1,a2,a0,a3,a4⟩:=h1
   exact ⟨C,a1,a2,a0,a3,fun i hi=>⟨(a4 i hi).1,(a4 i hi).2.1,x.vr (a4 i hi).2.2 (x.names _ _ hb _ (List.getElem_mem hi))⟩⟩
  |mit mb since seen c0=>
   obtain ⟨a1,a2,a3⟩:=h1
   have a4:mb < n:=x.names _ _ hb
   exact ⟨by rw[x.len];exact a1,a2,by have e:τ mb = mb:=x.fix mb a4;show w.heap[(ρ (τ b)).blk]? = some (Obj.mapIter (some (ρ (τ mb)).blk) since seen.toArray c0);rw[e];exact a3⟩
  |mapU d es=>
   obtain ⟨es',hp,C,clock,a1,a2,a3,a4⟩:=h1
   exact ⟨es',hp,C,clock,a1,a2,a3,fun i hi=>⟨(a4 i hi).1,(a4 i hi).2.1,x.vr (a4 i hi).2.2 (x.names _ _ hb _ (hp.mem_iff.1 (List.getElem_mem hi)))⟩⟩
  |bld T k n'=>
   obtain ⟨a1,p,v,a2,a3,a4⟩:=h1
   refine ⟨a1,p,v,a2,a3,?_⟩
   cases k with
   |none=>exact a4
   |some k=>
    have e:τ k = k:=x.fix k (x.names _ _ hb k rfl)
    exact ⟨by rw[x.len];exact a4.1,by show v = .slice (some ⟨(ρ (τ k)).blk,0,none⟩) n' (ρ (τ k)).size;rw[e];exact a4.2⟩
  |buf T bs=>exact h1
  |loop st pend a ps p q=>
   obtain ⟨r,a1,a2,a3,a4,a5,a6,a7,a8⟩:=h1
   exact ⟨r,a1,a2,a3,a4,a5,a6,a7,fun i hi=>x.vr (a8 i hi) (x.names _ _ hb _ (List.getElem_mem hi))⟩
 ·intro b b' o o' h1 h2 d1 d2 he
  have l1:b < H.length:=by rw[←x.len];exact ZE h1
  have l2:b' < H.length:=by rw[←x.len];exact ZE h2
  rw[x.get b l1] at h1
  rw[x.get b' l2] at h2
  exact x.inj b b' l1 l2 (hR.inj _ _ _ _ h1 h2 d1 d2 he)
theorem Reidx.evo (x:Reidx H H' n τ) {ρ0:Env} {h0:Za} {w0:World} (hn:h0.length≤n) (e:Evo ρ0 h0 w0 ρ H w):Evo ρ0 h0 w0 (fun b=>ρ (τ b)) H' w where
 ids:=by rw[x.len];exact e.ids
 env:=fun b hb=>by rw[show τ b = b from x.fix b (Nat.lt_of_lt_of_le hb hn)];exact e.env b hb
 size:=e.size
 same:=e.same
 keep:=fun c hc hno=>⟨(e.keep c hc hno).1,fun ho=>(e.keep c hc hno).2 (x.owned.1 ho)⟩
 loops:=e.loops
theorem Reidx.ar (x:Reidx H H' n τ) {a:List AVal} {ca:Act} (ha:AR G ρ H w a ca) (hb:∀ v∈a,Below n v):AR G (fun b=>ρ (τ b)) H' w a ca:=
 ⟨ha.size,fun i hi=>x.vr (ha.slot i hi) (hb _ (List.getElem_mem hi)),ha.plain.more fun _ hn ho=>hn (x.owned.1 ho)⟩
theorem AR.fillSlot {a:List AVal} {ca:Act} (ha:AR G ρ h w a ca) {v:AVal} {d:Nat} (hv:VR ρ h w v (ca.tmps.getD d undef)):AR G ρ h w (Zh a (some d) v) ca:=by
 refine ⟨by simp[Zh,ha.size],fun i hi=>?_,ha.plain⟩
 simp only[Zh,List.length_set] at hi
 simp only[Zh,List.getElem_set]
 by_cases e:d = i
 ·subst e;rw[if_pos rfl];exact hv
 ·rw[if_neg e];exact ha.slot i hi
def Zcy (S:Sts) (g:Gh) (j:Nat) (D:AData):List AVal:=match (Zcr S j).bind g with
 |some D'=>D'.cs
 |none=>D.cs
def Zb8 (S:Sts) (g:Gh) (i:Nat):AObj:=match g i with
 |some D=>.cells (Zcy S g i D)
 |none=>.dead
theorem Zuy {S:Sts} {g:Gh} {i k:Nat} {d:Option AData} (h1:k≠i) (h2:Zcr S k≠some i):Zb8 S (ZN g i d) k = Zb8 S g k:=by
 have e1:ZN g i d k = g k:=by unfold ZN;rw[if_neg h1]
 have e2:(Zcr S k).bind (ZN g i d) = (Zcr S k).bind g:=by
  cases hs:Zcr S k with
  |none=>rfl
  |some j=>
   rw[hs] at h2
   simp only[Option.bind_some,ZN]
   rw[if_neg (fun e=>h2 (by rw[e]))]
 unfold Zb8 Zcy
 rw[e1,e2]
def ZxV (ops:Array Oper) (A:List Nat):Prop:=∀ i j d,i∈A→i≠j→(ops[i]?).bind (·.dst) = some d→(ops[j]?).bind (·.dst)≠some d
structure HInv (G:Rnd) (ops:Array Oper) (A:List Nat) (S:Sts) (h:Za) (ρ0:Env) (h0:Za) (w0:World) (listed:Array Bool) (a:List AVal) (g:Gh) (ρ:Env) (w:World) (ca:Act) (od:List Nat):Prop where
 evo:Evo ρ0 h0 w0 ρ (h++od.map (Zb8 S g)) w
 rel:Rel ρ (h++od.map (Zb8 S g)) w
 ar:AR G ρ (h++od.map (Zb8 S g)) w a ca
 some:∀ i∈od,(g i).isSome = true∧i∈A
 all:∀ i,i∈A→(g i).isSome = true→i∈od
 unl:∀ i,(g i).isSome = true→listed.getD i false = true
 nd:od.Nodup
 slot:∀ (p i:Nat) (D:AData) (d:Nat),od[p]? = Option.some i→g i = Option.some D→(ops[i]?).bind (·.dst) = Option.some d→VR ρ (h++od.map (Zb8 S g)) w (D.how.val (h.length + p)) (ca.tmps.getD d undef)
 names:∀ v∈a,Below h.length v
 shut:∀ i∈od,2≤A.length→Zhy h.length (Zb8 S g i)
theorem Zq3 {ca:Act} {d:Nat} {x:Option Nat} {u:Value} (hn:x≠some d):(ca.put x u).tmps.getD d undef = ca.tmps.getD d undef:=by
 cases x with
 |none=>rfl
 |some e=>
  have hne:e≠d:=fun h=>hn (by rw[h])
  show (ca.tmps.setIfInBounds e u).getD d undef = _
  simp[Array.getD_eq_getD_getElem?,Array.getElem?_setIfInBounds,hne]
theorem Z2V {ca:Act} {d:Nat} {u:Value} (hd:d < ca.tmps.size):(ca.put (some d) u).tmps.getD d undef = u:=by
 show (ca.tmps.setIfInBounds d u).getD d undef = _
 simp[Array.getD_eq_getD_getElem?,Array.getElem?_setIfInBounds,hd]
theorem Zqk {n:Nat} {a:List AVal} {d:Option Nat} {v:AVal} (ha:∀ v∈a,Below n v) (hv:Below n v):∀ u∈Zh a d v,Below n u:=by
 cases d with
 |none=>exact ha
 |some d=>
  intro u hu
  rcases List.mem_or_eq_of_mem_set hu with h |h
  ·exact ha u h
  ·rw[h];exact hv
theorem Zm3 {g:Gh} {i:Nat} (hi:g i = none):ZN g i none = g:=by
 funext j;unfold ZN;by_cases h:j = i
 ·subst h;simp[hi]
 ·rw[if_neg h]
theorem Zm1 {l:List Nat} {p i:Nat} (hnd:l.Nodup) (hp:l[p]? = some i):l.idxOf i = p:=by
 obtain ⟨hlt,rfl⟩:=List.getElem?_eq_some_iff.1 hp
 exact hnd.idxOf_getElem p hlt
theorem Zin {md:Region.Mode} {ops:Array Oper} {A Hd:List Nat} {S:Sts} {g0:Nat} {L:Array Bool→List AVal→Gh→Prop} {Q:AQ} {ρ0:Env} {h0:Za} {w0:World} (hok:HOk h) (hD:ZxV ops A) (hS:StsOk md ops A S)
  (hL:∀ listed a g ρ w ca od,L listed a g→HInv G ops A S h ρ0 h0 w0 listed a g ρ w ca od→wpAnyIn (FW G.ro) 0 P md ops (Post G ρ0 h0 w0 Q) g0 listed ca w):∀ (f:Nat) (listed:Array Bool) (a:List AVal) (g:Gh) (ρ:Env) (w:World) (ca:Act) (od:List Nat),
   Down md ops listed→Zlq P md ops A S h Hd L f listed a g→HInv G ops A S h ρ0 h0 w0 listed a g ρ w ca od→(∀ i∈A,∀ d,(ops[i]?).bind (·.dst) = some d→d < ca.tmps.size)→wpAnyIn (FW G.ro) 0 P md ops (Post G ρ0 h0 w0 Q) (f + g0) listed ca w
 | 0,listed,a,g,ρ,w,ca,od,hdn,hA,hI,hs=>by rw[Nat.zero_add];exact hL listed a g ρ w ca od hA hI
 |f + 1,listed,a,g,ρ,w,ca,od,hdn,hA,hI,hs=>by
  rw[show f + 1 + g0 = (f + g0) + 1 by omega]
  refine ⟨fun h0=>absurd h0 hA.1,fun i hi=>?_⟩
  obtain ⟨_,hq⟩:=hA.2 i hi
  have hdn':=hdn.add hi
  have hun:=(mem_ready.1 hi).1
  have unl0:∀ k,listed.getD k true = false→g k = none:=fun k hun=>by
   cases hg:g k with
   |none=>rfl
   |some D=>
    have:=hI.unl k (by rw[hg];rfl)
    rcases Nat.lt_or_ge k listed.size with h' |h'
    ·simp[h'] at this hun;rw[this] at hun;cases hun
    ·simp[Array.getElem?_eq_none h'] at this
  have hgi:g i = none:=unl0 i hun
  have hlist:∀ k,listed.getD k false = true→(listed.setIfInBounds i true).getD k false = true:=fun k hk=>ZgX hk
  have hself:(listed.setIfInBounds i true).getD i false = true:=ZjP hun
  unfold Zli at hq
  unfold wpOpIn
  cases ho:ops[i]? with
  |none=>rw[ho] at hq;exact hq.elim
  |some o=>
   rw[ho] at hq
   simp only at hq⊢
   have hsz':∀ (u:Value),∀ k∈A,∀ d,(ops[k]?).bind (·.dst) = some d→d < (ca.put o.dst u).tmps.size:=by
    intro u k hk d hd
    have:=hs k hk d hd
    cases o.dst with
    |none=>exact this
    |some e=>show d < (ca.tmps.setIfInBounds e u).size;simpa using this
   have hne:∀ k∈od,∀ d,(ops[k]?).bind (·.dst) = some d→o.dst≠some d:=by
    intro k hk d hd he
    have hki:k≠i:=fun e=>by
     subst e
     have:=(hI.some k hk).1
     rw[hgi] at this;cases this
    exact hD k i d (hI.some k hk).2 hki hd (by rw[ho];exact he)
   have hRh:Rel ρ h w:=hI.rel.fewer (Fewer.app h _) hok
   have hah:AR G ρ h w a ca:=⟨hI.ar.size,fun j hj=>(hI.ar.slot j hj).fewer (Fewer.app h _) (hI.names _ (List.getElem_mem hj)),hI.ar.plain.fewer (Fewer.app h _)⟩
   obtain ⟨v,d,hy,hK⟩:=hq
   rcases hy with ⟨hw,hob,hc,h1⟩ | ⟨hw,rfl,rfl⟩ | ⟨hw,j,D,dj,x,hob,hgj,hhow,hdj,hdst,hn,hxm,rfl,h1⟩
   ·rw[if_pos (Zen hI.ar hw)]
    cases d with
    |none=>
     have hq2:Zcq P o a h v:=by simpa using h1 [] (fun _=>rfl)
     have hnm:=Z4Q hRh hah hq2
     refine Z4P hI.rel hI.ar (h1 _ (fun hA0=>by
      have:od = []:=List.eq_nil_iff_forall_not_mem.2 fun k hk=>by
       have:=(hI.some k hk).2
       rw[hA0] at this;cases this
      rw[this];rfl)) fun ρ' w' u ev hR' hvu=>?_
     rw[Zm3 hgi] at hK
     refine Zin hok hD hS hL f _ _ g ρ' w' _ od hdn' hK ?_ (hsz' u)
     exact { evo:=hI.evo.trans ev,rel:=hR',ar:=(hI.ar.evo ev).put hvu o.dst,some:=hI.some,all:=hI.all,unl:=fun k hk=>hlist k (hI.unl k hk),nd:=hI.nd,
             slot:=fun p k D d hp hg hd=>by rw[Zq3 (hne k (List.mem_of_getElem? hp) d hd)];exact (hI.slot p k D d hp hg hd).evo ev,
             names:=Zqk hI.names hnm,shut:=hI.shut}
    |some D=>
     obtain ⟨rfl,hn,h2⟩:=h1
     obtain ⟨hiA,hsh⟩:=hc
     have hni:i∉od:=fun hk=>by
      have:=(hI.some i hk).1
      rw[hgi] at this;cases this
     have hst:∀ k,Zcr S k≠some i:=fun k hk=>by
      have:=hS.bwd _ _ hk
      rw[hob] at this;cases this
     have hobj:∀ k∈od,Zb8 S (ZN g i (some D)) k = Zb8 S g k:=fun k hk=>Zuy (fun e=>hni (e ▸ hk)) (hst k)
     have hself2:Zb8 S (ZN g i (some D)) i = .cells D.cs:=by
      unfold Zb8 Zcy
      rw[show ZN g i (some D) i = some D by simp[ZN]]
      simp only
      cases hs2:Zcr S i with
      |none=>rfl
      |some t=>
       have hti:t≠i:=fun e=>hst i (by rw[hs2,e])
       have hgt:g t = none:=by
        obtain ⟨_,_,_,o',ho',e,hea,hb,he⟩:=hS.fwd _ _ (hS.bwd _ _ hs2)
        cases hg:g t with
        |none=>rfl
        |some D'=>
         have h4:=hI.unl t (by rw[hg];rfl)
         have h5:=hdn t o' e ho' h4 hea hb
         rw[he] at h5
         exfalso
         rcases Nat.lt_or_ge i listed.size with h'' |h''
         ·simp[h''] at h5 hun;rw[h5] at hun;cases hun
         ·simp[Array.getElem?_eq_none h''] at h5
       simp only[Option.bind_some]
       rw[show ZN g i (some D) t = none by unfold ZN;rw[if_neg hti];exact hgt]
     have hmap:od.map (Zb8 S (ZN g i (some D))) = od.map (Zb8 S g):=List.map_congr_left fun k hk=>hobj k hk
     have hnew:(od++[i]).map (Zb8 S (ZN g i (some D))) = od.map (Zb8 S g)++[.cells D.cs]:=by
      rw[List.map_append,hmap]
      simp[hself2]
     refine Z4S hI.rel hI.ar hn (h2 _) fun ρ' w' u ev hR' hvu=>?_
     refine Zin hok hD hS hL f _ _ _ ρ' w' _ (od++[i]) hdn' hK ?_ (hsz' u)
     rw[List.append_assoc] at ev hR' hvu
     have hlen:(h++od.map (Zb8 S g)).length = h.length + od.length:=by simp
     constructor
     ·rw[hnew];exact hI.evo.trans ev
     ·rw[hnew];exact hR'
     ·rw[hnew];exact (hI.ar.evo ev).put (.any _) o.dst
     ·intro k hk
      rcases List.mem_append.1 hk with hk |hk
      ·have:=hI.some k hk
       refine ⟨?_,this.2⟩
       unfold ZN;split
       ·rfl
       ·exact this.1
      ·obtain rfl:k = i:=by simpa using hk
       exact ⟨by simp[ZN],hiA⟩
     ·intro k hkA hk
      unfold ZN at hk
      split at hk
      ·rename_i e;subst e;simp
      ·exact List.mem_append_left _ (hI.all k hkA hk)
     ·intro k hk
      unfold ZN at hk
      split at hk
      ·rename_i e;subst e;exact hself
      ·exact hlist k (hI.unl k hk)
     ·exact List.nodup_append.2 ⟨hI.nd,by simp,fun x hx y hy e=>by
       obtain rfl:y = i:=by simpa using hy
       subst e;exact hni hx⟩
     ·intro p k D' d hp hg hd
      rw[hnew]
      rcases Nat.lt_or_ge p od.length with hlt |hge
      ·rw[List.getElem?_append_left hlt] at hp
       have hk:=List.mem_of_getElem? hp
       have hki:k≠i:=fun e=>hni (e ▸ hk)
       have hg':g k = some D':=by unfold ZN at hg;rwa [if_neg hki] at hg
       rw[Zq3 (hne k hk d hd)]
       exact (hI.slot p k D' d hp hg' hd).evo ev
      ·rw[List.getElem?_append_right hge] at hp
       have hp0:p - od.length = 0:=by
        rcases Nat.eq_zero_or_pos (p - od.length) with h |h
        ·exact h
        ·rw[List.getElem?_eq_none (by simp;omega)] at hp;cases hp
       rw[hp0] at hp
       obtain rfl:i = k:=by simpa using hp
       have hgD:D = D':=by simpa[ZN] using hg
       subst hgD
       have hpe:p = od.length:=by omega
       rw[ho] at hd
       simp only[Option.bind_some] at hd
       rw[hd,Z2V (hs i hiA d (by rw[ho];exact hd))]
       rw[hlen] at hvu
       rw[hpe];exact hvu
     ·exact Zqk hI.names .any
     ·intro k hk h2
      rcases List.mem_append.1 hk with hk |hk
      ·rw[hobj k hk];exact hI.shut k hk h2
      ·obtain rfl:k = i:=by simpa using hk
       rw[hself2];exact Zgf (hsh h2)
   ·rw[if_neg (by rw[Zen hI.ar hw];simp)]
    refine ⟨fun _ _=>trivial,?_⟩
    rw[Zm3 hgi] at hK
    refine Zin hok hD hS hL f _ _ g ρ w _ od hdn' hK ?_ (hsz' undef)
    exact { evo:=hI.evo,rel:=hI.rel,ar:=hI.ar.put (.lit undef) o.dst,some:=hI.some,all:=hI.all,unl:=fun k hk=>hlist k (hI.unl k hk),nd:=hI.nd,
            slot:=fun p k D d hp hg hd=>by rw[Zq3 (hne k (List.mem_of_getElem? hp) d hd)];exact hI.slot p k D d hp hg hd,
            names:=Zqk hI.names (.lit undef),shut:=hI.shut}
   ·rw[if_pos (Zen hI.ar hw)]
    obtain ⟨hiA,hst,hjA,_⟩:=hS.fwd _ _ hob
    have hij:j≠i:=fun e=>hiA (e ▸ hjA)
    have hjod:j∈od:=hI.all j hjA (by rw[hgj];rfl)
    obtain ⟨p,hp⟩:=List.getElem?_of_mem hjod
    have hpl:p < od.length:=(List.getElem?_eq_some_iff.1 hp).1
    have hobj0:Zb8 S g j = .cells D.cs:=by
     unfold Zb8 Zcy
     rw[hgj,hst]
     simp only[Option.bind_some]
     rw[hgi]
    have hHb:(h++od.map (Zb8 S g))[h.length + p]? = some (.cells D.cs):=by
     rw[List.getElem?_append_right (by omega),show h.length + p - h.length = p by omega,List.getElem?_map,hp]
     simp[hobj0]
    have hslot:=hI.slot p j D dj hp hgj (by unfold Zbx at hdj;exact hdj)
    rw[hhow] at hslot
    obtain ⟨ρ',h',w',v',u,h3,ev,hR',hvu,rfl⟩:=Zhg hI.rel (hI.ar.fillSlot hslot) (h1 _ _ hHb)
    have hobjn:∀ k∈od,k≠j→Zb8 S (ZN g i (some ⟨.ptr,ZcY (Ze a x)⟩)) k = Zb8 S g k:=fun k hk hkj=>Zuy (fun e=>by
     subst e;exact hiA (hI.some _ hk).2) (fun e=>hkj (by
      have:=hS.bwd _ _ e
      rw[hob] at this;cases this;rfl))
    have hobjj:Zb8 S (ZN g i (some ⟨.ptr,ZcY (Ze a x)⟩)) j = .cells (ZcY (Ze a x)):=by
     unfold Zb8 Zcy
     rw[show ZN g i (some ⟨.ptr,ZcY (Ze a x)⟩) j = some D by unfold ZN;rw[if_neg hij];exact hgj,hst]
     simp[ZN]
    have hnew:h++od.map (Zb8 S (ZN g i (some ⟨.ptr,ZcY (Ze a x)⟩))) = (h++od.map (Zb8 S g)).set (h.length + p) (.cells (ZcY (Ze a x))):=by
     rw[List.set_append_right _ _ (by omega),show h.length + p - h.length = p by omega]
     congr 1
     refine List.ext_getElem? fun q=>?_
     rw[List.getElem?_map,List.getElem?_set,List.getElem?_map]
     by_cases hqp:p = q
     ·subst hqp
      rw[hp,if_pos rfl,if_pos (by simpa using hpl)]
      simp[hobjj]
     ·rw[if_neg hqp]
      cases hoq:od[q]? with
      |none=>rfl
      |some k=>
       simp only[Option.map_some]
       congr 1
       refine hobjn k (List.mem_of_getElem? hoq) fun e=>hqp ?_
       subst e
       have e1:=Zm1 hI.nd hp
       have e2:=Zm1 hI.nd hoq
       omega
    have hput:ca.put o.dst u = ca:=by rw[hdst];rfl
    have hbel:Below h.length (Ze a x):=(hah.eval x).ids
    have hcont:wpAnyIn (FW G.ro) 0 P md ops (Post G ρ0 h0 w0 Q) (f + g0) (listed.setIfInBounds i true) (ca.put o.dst u) w':=by
     rw[hput]
     refine Zin hok hD hS hL f _ _ _ ρ' w' _ od hdn' hK ?_ (by simpa[hput] using hsz' u)
     rw[hdst]
     constructor
     ·rw[hnew];exact hI.evo.trans ev
     ·rw[hnew];exact hR'
     ·rw[hnew];exact hI.ar.evo ev
     ·intro k hk
      have:=hI.some k hk
      refine ⟨?_,this.2⟩
      unfold ZN;split
      ·rfl
      ·exact this.1
     ·intro k hkA hk
      unfold ZN at hk
      split at hk
      ·rename_i e;subst e;exact absurd hkA hiA
      ·exact hI.all k hkA hk
     ·intro k hk
      unfold ZN at hk
      split at hk
      ·rename_i e;subst e;exact hself
      ·exact hlist k (hI.unl k hk)
     ·exact hI.nd
     ·intro q k D' d hq hg hd
      have hki:k≠i:=fun e=>by subst e;exact hiA (hI.some _ (List.mem_of_getElem? hq)).2
      have hg':g k = some D':=by unfold ZN at hg;rwa [if_neg hki] at hg
      rw[hnew]
      exact (hI.slot q k D' d hq hg' hd).evo ev
     ·exact hI.names
     ·intro k hk h2
      by_cases hkj:k = j
      ·subst hkj
       rw[hobjj]
       exact Z4q hbel
      ·rw[hobjn k hk hkj];exact hI.shut k hk h2
    refine Ze0 (fun c hc=>by have hst:=h1 _ _ hHb;rw[hc] at hst;exact hst) ?_
    rcases h3 with h3 | ⟨h3,rfl⟩
    ·rw[h3,Oper.uponIn_value];exact hcont
    ·rw[h3,Oper.uponIn_skip];exact hcont
def Ze2 (S:Sts) (g:Gh):List Nat→List AObj
 | []=>[]
 |i :: A=>match g i with
  |some D=>.cells (Zcy S g i D) :: Ze2 S g A
  |none=>Ze2 S g A
def Zfz (ops:Array Oper) (g:Gh):List Nat→Nat→List AVal→List AVal
 | [],_,a=>a
 |i :: A,b,a=>match g i with
  |some D=>Zfz ops g A (b + 1) (Zh a ((ops[i]?).bind (·.dst)) (D.how.val b))
  |none=>Zfz ops g A b a
def ZbJ (g:Gh) (A:List Nat):List Nat:=A.filter fun i=>(g i).isSome
theorem Zqh (S:Sts) (g:Gh):∀ A,Ze2 S g A = (ZbJ g A).map (Zb8 S g)
 | []=>rfl
 |i :: A=>by
  unfold Ze2 ZbJ
  cases hg:g i with
  |none=>simp only[List.filter_cons,hg];exact Zqh S g A
  |some D=>simp only[List.filter_cons,hg,Option.isSome_some,if_true,List.map_cons];rw[Zqh S g A];simp[Zb8,hg,ZbJ]
theorem ZmA {ops:Array Oper} {g:Gh}:∀ (A:List Nat) (b:Nat) (a:List AVal) (ca:Act),AR G ρ h w a ca→
  (∀ (j i:Nat) (D:AData) (d:Nat),(ZbJ g A)[j]? = some i→g i = some D→(ops[i]?).bind (·.dst) = some d→VR ρ h w (D.how.val (b + j)) (ca.tmps.getD d undef))→AR G ρ h w (Zfz ops g A b a) ca
 | [],b,a,ca,ha,_=>ha
 |i :: A,b,a,ca,ha,hv=>by
  unfold Zfz
  cases hg:g i with
  |none=>
   refine ZmA A b a ca ha fun j k D d hj=>hv j k D d ?_
   unfold ZbJ;simp only[List.filter_cons,hg];exact hj
  |some D=>
   have hm:ZbJ g (i :: A) = i :: ZbJ g A:=by unfold ZbJ;simp[List.filter_cons,hg]
   refine ZmA A (b + 1) _ ca ?_ fun j k D' d hj hg' hd=>?_
   ·cases hd:(ops[i]?).bind (·.dst) with
    |none=>exact ha
    |some d=>exact ha.fillSlot (by simpa using hv 0 i D d (by rw[hm];rfl) hg hd)
   ·have:=hv (j + 1) k D' d (by rw[hm];exact hj) hg' hd
    rw[show b + 1 + j = b + (j + 1) by omega];exact this
theorem Z3Q {ops:Array Oper} {A:List Nat} {S:Sts} {ρ0:Env} {h0:Za} {w0:World} {listed:Array Bool} {a:List AVal} {g:Gh} {ca:Act} {od:List Nat} (hok:HOk h) (hh:h0.length≤h.length) (hAn:A.Nodup)
  (hI:HInv G ops A S h ρ0 h0 w0 listed a g ρ w ca od):
  ∃ ρ',Evo ρ0 h0 w0 ρ' (h++Ze2 S g A) w∧Rel ρ' (h++Ze2 S g A) w∧AR G ρ' (h++Ze2 S g A) w (Zfz ops g A h.length a) ca:=by
 have hmem:∀ i,i∈ZbJ g A↔i∈od:=fun i=>by
  unfold ZbJ
  rw[List.mem_filter]
  exact ⟨fun x=>hI.all i x.1 x.2,fun x=>⟨(hI.some i x).2,(hI.some i x).1⟩⟩
 have hmn:(ZbJ g A).Nodup:=hAn.filter _
 have hperm:(ZbJ g A).Perm od:=(List.perm_ext_iff_of_nodup hmn hI.nd).2 hmem
 have hlen:(ZbJ g A).length = od.length:=hperm.length_eq
 rw[Zqh]
 by_cases h2:2≤A.length
 ·
  let τ:Nat→Nat:=fun b=>if b < h.length then b else h.length + od.idxOf ((ZbJ g A).getD (b - h.length) 0)
  have hτ:∀ j i,(ZbJ g A)[j]? = some i→τ (h.length + j) = h.length + od.idxOf i:=by
   intro j i hj
   show (if h.length + j < h.length then _ else _) = _
   rw[if_neg (by omega)]
   have:h.length + j - h.length = j:=by omega
   rw[this,List.getD_eq_getElem?_getD,hj];rfl
  have hin:∀ b,h.length≤b→b < h.length + od.length→∃ j i,b = h.length + j∧(ZbJ g A)[j]? = some i∧i∈od:=by
   intro b h1 h3
   have hj:b - h.length < (ZbJ g A).length:=by rw[hlen];omega
   exact ⟨b - h.length,(ZbJ g A)[b - h.length],by omega,by rw[List.getElem?_eq_getElem hj],(hmem _).1 (List.getElem_mem hj)⟩
  have x:Reidx (h++od.map (Zb8 S g)) (h++(ZbJ g A).map (Zb8 S g)) h.length τ:=by
   constructor
   ·simp[hlen]
   ·simp
   ·intro b hb;show (if b < h.length then b else _) = b;rw[if_pos hb]
   ·intro b hb
    simp only[List.length_append,List.length_map] at hb
    rcases Nat.lt_or_ge b h.length with hlt |hge
    ·show _ = (h++od.map (Zb8 S g))[if b < h.length then b else _]?
     rw[if_pos hlt,List.getElem?_append_left hlt,List.getElem?_append_left hlt]
    ·obtain ⟨j,i,rfl,hj,hi⟩:=hin b hge hb
     rw[hτ j i hj,List.getElem?_append_right (by omega),List.getElem?_append_right (by omega)]
     have e1:h.length + j - h.length = j:=by omega
     have e2:h.length + od.idxOf i - h.length = od.idxOf i:=by omega
     rw[e1,e2,List.getElem?_map,List.getElem?_map,hj]
     have hlt:=List.idxOf_lt_length_iff.2 hi
     rw[List.getElem?_eq_getElem hlt,List.getElem_idxOf hlt]
   ·intro b hb
    simp only[List.length_append,List.length_map] at hb⊢
    rcases Nat.lt_or_ge b h.length with hlt |hge
    ·show (if b < h.length then b else _) < _
     rw[if_pos hlt];omega
    ·obtain ⟨j,i,rfl,hj,hi⟩:=hin b hge hb
     rw[hτ j i hj]
     have:=List.idxOf_lt_length_iff.2 hi
     omega
   ·intro b b' hb hb' he
    simp only[List.length_append,List.length_map] at hb hb'
    rcases Nat.lt_or_ge b h.length with hlt |hge<;>rcases Nat.lt_or_ge b' h.length with hlt' |hge'
    ·have:(if b < h.length then b else h.length + od.idxOf ((ZbJ g A).getD (b - h.length) 0)) = if b' < h.length then b' else h.length + od.idxOf ((ZbJ g A).getD (b' - h.length) 0):=he
     rw[if_pos hlt,if_pos hlt'] at this;exact this
    ·obtain ⟨j,i,rfl,hj,hi⟩:=hin b' hge' hb'
     rw[hτ j i hj] at he
     have:(if b < h.length then b else h.length + od.idxOf ((ZbJ g A).getD (b - h.length) 0)) = h.length + od.idxOf i:=he
     rw[if_pos hlt] at this;omega
    ·obtain ⟨j,i,rfl,hj,hi⟩:=hin b hge hb
     rw[hτ j i hj] at he
     have:h.length + od.idxOf i = if b' < h.length then b' else h.length + od.idxOf ((ZbJ g A).getD (b' - h.length) 0):=he
     rw[if_pos hlt'] at this;omega
    ·obtain ⟨j,i,rfl,hj,hi⟩:=hin b hge hb
     obtain ⟨j',i',rfl,hj',hi'⟩:=hin b' hge' hb'
     rw[hτ j i hj,hτ j' i' hj'] at he
     have e:od.idxOf i = od.idxOf i':=by omega
     have e2:i = i':=by
      have a1:=List.getElem_idxOf (List.idxOf_lt_length_iff.2 hi)
      have a2:=List.getElem_idxOf (List.idxOf_lt_length_iff.2 hi')
      rw[←a1,←a2];congr 1
     subst e2
     have:=(Zm1 hmn hj).symm.trans (Zm1 hmn hj')
     omega
   ·intro c hc
    simp only[List.length_append,List.length_map] at hc⊢
    rcases Nat.lt_or_ge c h.length with hlt |hge
    ·exact ⟨c,by omega,by show (if c < h.length then c else _) = c;rw[if_pos hlt]⟩
    ·have hj:c - h.length < od.length:=by omega
     have hi:=List.getElem_mem hj
     have hm:=(hmem _).2 hi
     obtain ⟨q,hq⟩:=List.getElem?_of_mem hm
     refine ⟨h.length + q,?_,?_⟩
     ·have:=(List.getElem?_eq_some_iff.1 hq).1;omega
     ·rw[hτ q _ hq,hI.nd.idxOf_getElem _ hj];omega
   ·intro b o hb
    rcases Nat.lt_or_ge b h.length with hlt |hge
    ·rw[List.getElem?_append_left hlt] at hb;exact hok b o hb
    ·rw[List.getElem?_append_right hge,List.getElem?_map] at hb
     cases hz:od[b - h.length]? with
     |none=>rw[hz] at hb;cases hb
     |some i=>
      rw[hz] at hb
      simp only[Option.map_some,Option.some.injEq] at hb
      subst hb
      exact hI.shut i (List.mem_of_getElem? hz) h2
  refine ⟨fun b=>ρ (τ b),x.evo hh hI.evo,x.rel hI.rel,ZmA A h.length a ca (x.ar hI.ar hI.names) fun j i D d hj hg hd=>?_⟩
  have hi:i∈od:=(hmem i).1 (List.mem_of_getElem? hj)
  have hlt:=List.idxOf_lt_length_iff.2 hi
  have hjl:j < (ZbJ g A).length:=(List.getElem?_eq_some_iff.1 hj).1
  refine x.vrMk (by simp;omega) ?_
  rw[hτ j i hj]
  exact hI.slot (od.idxOf i) i D d (by rw[List.getElem?_eq_getElem hlt,List.getElem_idxOf hlt]) hg hd
 ·have he:ZbJ g A = od:=by
   have hl:(ZbJ g A).length≤1:=Nat.le_trans (List.length_filter_le _ _) (by omega)
   rcases hz:ZbJ g A with _ | ⟨x,_ | ⟨y,l⟩⟩
   ·rw[hz] at hperm;exact (List.nil_perm.1 hperm).symm
   ·rw[hz] at hperm;exact List.singleton_perm.1 hperm
   ·rw[hz] at hl;simp at hl
  rw[he]
  refine ⟨ρ,hI.evo,hI.rel,ZmA A h.length a ca hI.ar fun j i D d hj hg hd=>?_⟩
  rw[he] at hj
  exact hI.slot j i D d hj hg hd
def Zgr (P:Program) (ops:Array Oper) (Q:AQ):List Oper→List AVal→Za→Prop
 | [],a,h=>∃ b,Weak a b∧Q .normal b h
 |o :: rest,a,h=>∃ b,Weak a b∧((Zc1 ops o b = some true∧ZcB P o b h (Zgr P ops Q rest) fun _ _ _=>False)∨(Zc1 ops o b = some false∧Zgr P ops Q rest (Zh b o.dst Zc4) h))
theorem ZzM {ops:Array Oper} {Q:AQ} {ρ0:Env} {h0:Za} {w0:World}:∀ (n k:Nat) (a:List AVal) (h:Za) (ρ:Env) (w:World) (ca:Act),ops.size - k = n→Evo ρ0 h0 w0 ρ h w→Rel ρ h w→AR G ρ h w a ca→
  Zgr P ops Q (ops.toList.drop k) a h→wpOpsIn (FW G.ro) 0 P ops (Post G ρ0 h0 w0 Q) (List.range' k (ops.size - k)) ca w:=by
 intro n
 induction n with
 |zero=>
  intro k a h ρ w ca hn e0 hR ha hA
  have hd:ops.toList.drop k = []:=List.drop_eq_nil_of_le (by simp;omega)
  rw[hd] at hA
  rw[hn]
  obtain ⟨b,hwk,hA⟩:=hA
  exact ⟨ρ,h,b,e0,hR,ha.weak hwk,hA⟩
 |succ n ih=>
  intro k a h ρ w ca hn e0 hR ha hA
  have hk:k < ops.size:=by omega
  have hd:ops.toList.drop k = ops[k] :: ops.toList.drop (k + 1):=by
   rw[List.drop_eq_getElem_cons (by simpa using hk)];simp
  rw[hd] at hA
  have hr:List.range' k (ops.size - k) = k :: List.range' (k + 1) (ops.size - (k + 1)):=by
   have:ops.size - k = (ops.size - (k + 1)) + 1:=by omega
   rw[this,List.range'_succ]
  rw[hr]
  simp only[wpOpsIn,Array.getElem?_eq_getElem hk]
  obtain ⟨b,hwk,hA⟩:=hA
  have ha:=ha.weak hwk
  rcases hA with ⟨hw,h1⟩ | ⟨hw,h1⟩
  ·rw[if_pos (Zen ha hw)]
   exact ZmX hR ha h1 (fun ρ' h' w' a' ca' ev hR' ha' hK=>ih (k + 1) a' h' ρ' w' ca' (by omega) (e0.trans ev) hR' ha' hK)
    (fun c ρ' h' w' a' ca' ev hR' ha' hq=>hq.elim)
  ·rw[if_neg (by rw[Zen ha hw];simp)]
   refine ⟨fun _ _=>trivial,?_⟩
   exact ih (k + 1) _ h ρ w _ (by omega) e0 hR (ha.put (.lit undef) _) h1
theorem Z4v {id:Nat} {ops:Array Oper} {Q:AQ} {a:List AVal} (hA:Zgr P ops Q ops.toList a h):AWp P (.region id ops false) Q a h:=by
 intro G ρ w ca hR ha
 refine wpIn_region ?_
 have:=ZzM (G:=G) (P:=P) ops.size 0 a h ρ w ca rfl (.refl ρ h w) hR ha (by simpa using hA)
 rw[List.range_eq_range']
 rw[Nat.sub_zero] at this
 exact this
def Zdi (ops:Array Oper):List Nat→List Oper
 | []=>[]
 |i :: is=>match ops[i]? with
  |some o=>o :: Zdi ops is
  |none=>Zdi ops is
theorem Z5v {op:BinOp} {t:TypeId} {ox oy:Operand} {k k':IntKind} {a b:Int} {K:AVal→Prop} (hK:Zee P op t ox oy (.lit (.int k a)) (.lit (.int k' b)) K):
  ∃ z,(∀ w,(ZcR op t ox oy (.int k a) (.int k' b)).run P w = .ok z w)∧K (.lit z):=by
 have hg:∀ w,(eqGuard op t ox oy (.int k a) (.int k' b)).run P w = .ok () w:=fun w=>Zm2 (P:=P) (w:=w) (op:=op) (t:=t) (ox:=ox) (oy:=oy) (u:=.int k a) (v:=.int k' b) rfl
 unfold Zee at hK
 simp only at hK
 split at hK
 ·obtain ⟨h0,hK⟩:=hK
  refine ⟨_,fun w=>?_,hK⟩
  simp only[ZcR,Sem.run_bind,hg,Result.andThen_ok,binOp,Op.shift]
  rw[if_neg (by omega)]
  rfl
 ·obtain ⟨h0,hK⟩:=hK
  refine ⟨_,fun w=>?_,hK⟩
  simp only[ZcR,Sem.run_bind,hg,Result.andThen_ok,binOp,Op.shift]
  rw[if_neg (by omega)]
  rfl
 ·rename_i h1 h2
  obtain ⟨rfl,hK⟩:=hK
  obtain ⟨z,hz,hK⟩:=ZvY (P:=P) (fun e=>h1 e) (fun e=>h2 e) hK
  exact ⟨z,fun w=>by simp only[ZcR,Sem.run_bind,hg,Result.andThen_ok,hz],hK⟩
def FlV (P:Program) (o:Oper) (a:List AVal) (v:AVal):Prop:=o.guard = none∧((∃ x,(o.op = .move x∨o.op = .assign x)∧v = Ze a x)∨
 ∃ op t x y yt k n k' m,o.op = .binOp op t x y yt∧Ze a x = .lit (.int k n)∧Ze a y = .lit (.int k' m)∧Zee P op t x y (.lit (.int k n)) (.lit (.int k' m)) fun z=>z = v)
def ZiL (P:Program) (ops:Array Oper):List Nat→List AVal→List AVal→Prop
 | [],a,b=>a = b
 |k :: ks,a,b=>∃ o v,ops[k]? = some o∧FlV P o a v∧ZiL P ops ks (Zh a o.dst v) b
def Zgb (md:Region.Mode) (ops:Array Oper):List Nat→Array Bool→Bool
 | [],_=>true
 |k :: ks,listed=>(Region.ready md ops listed).contains k && Region.free md ops listed k && Zgb md ops ks (listed.setIfInBounds k true)
def ZjC (ops:Array Oper):Bool:=ops.toList.all fun o=>match o.op with
 | .select _ _=>false
 | .defer _=>false
 |_=>true
theorem ZyM {ro:Option Nat} {ops:Array Oper} {Q:Exit→Act→World→Prop} {j:Nat} {oi oj:Oper} {v:Value} (hj:ops[j]? = some oj) (hdj:∀ c,oj.op≠ .defer c) (hap:oi.apart ops oj = true)
  (hsi:∀ cs b,oi.op≠ .select cs b) (hsj:∀ cs b,oj.op≠ .select cs b) (hQ:∀ c a w,¬Q (.panic c) a w) {K:Act→World→Prop} {a:Act} {w:World}
  (hy:Yields P ops oi v a) (hK:wpOpIn (FW ro) 0 P ops Q j K (a.put oi.dst v) w):wpOpIn (FW ro) 0 P ops Q j (fun a' w'=>Yields P ops oi v a'∧K (a'.put oi.dst v) w') a w:=by
 obtain ⟨h1,h2,h3⟩:=Oper.apart_spec hap
 have stays:∀ u,Yields P ops oi v (a.put oj.dst u):=fun u=>hy.of_same (execOp_put oi hsi a oj.dst u h3) (wanted_put oi a oj.dst u h3)
 have swap:∀ u,(a.put oi.dst v).put oj.dst u = (a.put oj.dst u).put oi.dst v:=fun u=>Act.put_comm a v u h2
 unfold wpOpIn at hK⊢
 rw[hj] at hK⊢
 simp only at hK⊢
 rw[wanted_put oj a oi.dst v h1] at hK
 by_cases hw:Region.wanted oj (yielded ops a.tmps) = true
 ·rw[if_pos hw] at hK⊢
  have hK:=hK.2
  rw[Oper.semAt_eq _ _ _ hdj,execOp_put oj hsj a oi.dst v h1] at hK
  refine ⟨fun _ _=>trivial,?_⟩
  rw[Oper.semAt_eq _ _ _ hdj]
  generalize (execOp a.eval oj).run P w = r at hK
  cases r with
  |halt x w'=>cases x<;>first |exact hK |exact absurd hK (hQ _ _ _)
  |ok x w'=>
   cases x with
   |value u=>exact ⟨stays u,by have:=swap u;show K _ _;rw[←this];exact hK⟩
   |skip=>exact ⟨stays undef,by have:=swap undef;show K _ _;rw[←this];exact hK⟩
   |defer d=>
    refine ⟨hy.of_same ((execOp_put oi hsi { a with defers:=d :: a.defers} oj.dst undef h3).trans rfl) ((wanted_put oi { a with defers:=d :: a.defers} oj.dst undef h3).trans rfl),?_⟩
    show K _ _
    have:({ a with defers:=d :: a.defers}.put oj.dst undef).put oi.dst v = { a.put oi.dst v with defers:=d :: (a.put oi.dst v).defers}.put oj.dst undef:=by
     rw[←Act.put_comm _ v undef h2,←Act.put_defers]
    exact this ▸ hK
   |enter f args=>
    refine ⟨hK.1,hK.2.mono fun e w2 he=>?_⟩
    cases e with
    |returned u=>exact ⟨stays u,by have:=swap u;show K _ _;rw[←this];exact he⟩
    |panicked c=>exact absurd he (hQ _ _ _)
    |outgrown=>exact he
   |row row args=>exact ⟨hK.1,hK.2.mono fun u w2 he=>⟨stays u,by have:=swap u;show K _ _;rw[←this];exact he⟩⟩
   |round l f tmps assign body=>
    refine ⟨hK.1,hK.2.mono fun e w2 he=>?_⟩
    cases e with
    |returned u=>exact ⟨stays u,by have:=swap u;show K _ _;rw[←this];exact he⟩
    |panicked c=>exact absurd he (hQ _ _ _)
    |outgrown=>exact he
   |_=>exact hK
 ·rw[if_neg hw] at hK⊢
  exact ⟨fun _ _=>trivial,stays undef,by have:=swap undef;rw[←this];exact hK.2⟩
theorem ZsP {ro:Option Nat} {ops:Array Oper} {Q:Exit→Act→World→Prop} {i:Nat} {o:Oper} {v:Value} {a:Act} (hi:ops[i]? = some o) (hd:∀ c,o.op≠ .defer c) (hy:Yields P ops o v a) {K:Act→World→Prop} {w:World} (hK:K (a.put o.dst v) w):
  wpOpIn (FW ro) 0 P ops Q i K a w:=by
 unfold wpOpIn
 rw[hi]
 simp only
 rcases hy with ⟨hw,hv⟩ | ⟨hw,rfl⟩
 ·rw[if_pos hw];exact ⟨fun _ _=>trivial,by rw[Oper.semAt_eq _ _ _ hd,hv w];exact hK⟩
 ·rw[if_neg (by rw[hw];simp)];exact ⟨fun _ _=>trivial,hK⟩
theorem Zo8 {ro:Option Nat} {ops:Array Oper} {md:Region.Mode} {Q:Exit→Act→World→Prop} {i:Nat} {oi:Oper} {v:Value} (hi:ops[i]? = some oi) (hsel:∀ (j:Nat) (o:Oper) cs b,ops[j]? = some o→o.op≠ .select cs b) (hdef:∀ (j:Nat) (o:Oper) c,ops[j]? = some o→o.op≠ .defer c)
  (hQ:∀ c a w,¬Q (.panic c) a w):∀ (fuel:Nat) (listed:Array Bool) (a:Act) (w:World),
   (∀ j oj,ops[j]? = some oj→j≠i→listed.getD j true = false→(∀ e∈oj.after,Region.binds md e = true→e.on≠i)→oi.apart ops oj = true)→
   i∈Region.ready md ops listed→Yields P ops oi v a→
   wpAnyIn (FW ro) 0 P md ops Q fuel (listed.setIfInBounds i true) (a.put oi.dst v) w→wpAnyIn (FW ro) 0 P md ops Q (fuel + 1) listed a w
 | 0,listed,a,w,_,hr,hy,H=>by
   refine ⟨fun hn=>absurd hr (by rw[hn];simp),fun j hj=>?_⟩
   by_cases hji:j = i
   ·subst hji;exact ZsP hi (fun c=>hdef _ _ c hi) hy H
   ·have:=ready_mono hj hji
    rw[H.1] at this;cases this
 |fuel + 1,listed,a,w,hfree,hr,hy,H=>by
  refine ⟨fun hn=>absurd hr (by rw[hn];simp),fun j hj=>?_⟩
  by_cases hji:j = i
  ·subst hji;exact ZsP hi (fun c=>hdef _ _ c hi) hy H
  ·obtain ⟨hjun,oj,hoj,hall⟩:=mem_ready.1 hj
   have hnot:∀ e∈oj.after,Region.binds md e = true→e.on≠i:=fun e he hb heq=>by
    have g1:=hall e he hb
    have g0:=(mem_ready.1 hr).1
    rw[heq] at g1
    rcases Nat.lt_or_ge i listed.size with h' |h'
    ·simp[h'] at g0 g1;rw[g0] at g1;cases g1
    ·simp[Array.getElem?_eq_none h'] at g1
   have g2:=ZyM hoj (fun c=>hdef _ _ c hoj) (hfree j oj hoj hji hjun hnot) (fun cs b=>hsel i oi cs b hi) (fun cs b=>hsel j oj cs b hoj) hQ hy (H.2 j (ready_mono hj hji))
   refine wpOpIn_mono (fun a' w' h3=>Zo8 hi hsel hdef hQ fuel (listed.setIfInBounds j true) a' w' (fun k ok hk hki hun hno=>hfree k ok hk hki ?_ hno) (ready_mono hr (Ne.symm hji)) h3.1 ?_) g2
   ·by_cases hjk:j = k
    ·subst hjk;exact hjun
    ·rw[getD_set_ne true hjk] at hun;exact hun
   ·rw[Array.setIfInBounds_comm _ _ hji];exact h3.2
theorem Z3f {ops:Array Oper} {o:Oper} {a:List AVal} {v:AVal} {ca:Act} (ha:AR G ρ h w a ca) (hv:FlV P o a v):∃ u,Yields P ops o u ca∧VR ρ h w v u:=by
 obtain ⟨hg,⟨x,ho,rfl⟩ | ⟨op,t,x,y,yt,k,n,k',m,ho,h1,h2,hK⟩⟩:=hv
 ·refine ⟨ca.eval x,.inl ⟨by unfold Region.wanted;rw[hg],fun w=>?_⟩,ha.eval x⟩
  rcases ho with ho |ho<;>(unfold execOp;rw[ho];rfl)
 ·obtain ⟨z,hz,rfl⟩:=Z5v hK
  have e1:ca.eval x = .int k n:=by
   have:=ha.eval x
   rw[h1] at this
   generalize ca.eval x = q at this
   cases this;rfl
  have e2:ca.eval y = .int k' m:=by
   have:=ha.eval y
   rw[h2] at this
   generalize ca.eval y = q at this
   cases this;rfl
  refine ⟨z,.inl ⟨by unfold Region.wanted;rw[hg],fun w=>?_⟩,.lit z⟩
  have h3:=hz w
  unfold ZcR at h3
  unfold execOp
  rw[ho]
  simp only[e1,e2]
  rw[Sem.run_bind,h3];rfl
theorem Zm7 {md:Region.Mode} {ops:Array Oper} {Q:Exit→Act→World→Prop} (hs:ZjC ops = true) (hQ:∀ c ca w,¬Q (.panic c) ca w):∀ (F:List Nat) (listed:Array Bool) (a b:List AVal) (ca:Act) (n:Nat),Zgb md ops F listed = true→ZiL P ops F a b→AR G ρ h w a ca→
  (∀ ca',AR G ρ h w b ca'→ca'.tmps.size = ca.tmps.size→wpAnyIn (FW G.ro) 0 P md ops Q n (Z4 listed F) ca' w)→wpAnyIn (FW G.ro) 0 P md ops Q (n + F.length) listed ca w
 | [],listed,a,b,ca,n,_,hR,ha,hk=>by
   have:a = b:=hR
   subst this
   exact hk ca ha rfl
 |k :: F,listed,a,b,ca,n,hB,hR,ha,hk=>by
  simp only[Zgb,Bool.and_eq_true] at hB
  obtain ⟨⟨h2,h3⟩,h4⟩:=hB
  obtain ⟨o,v,ho,hv,hR⟩:=hR
  obtain ⟨u,hy,hvu⟩:=Z3f (ops:=ops) ha hv
  rw[show n + (k :: F).length = (n + F.length) + 1 by simp;omega]
  refine Zo8 ho (fun j oj cs b hj he=>?_) (fun j oj c hj he=>?_) hQ _ listed ca w (Region.free_spec ho h3) (by simpa using h2) hy ?_
  ·have:=List.all_eq_true.1 hs oj (by
    have:=Array.mem_of_getElem? hj
    simpa using this)
   rw[he] at this;cases this
  ·have:=List.all_eq_true.1 hs oj (by
    have:=Array.mem_of_getElem? hj
    simpa using this)
   rw[he] at this;cases this
  ·refine Zm7 hs hQ F _ _ b _ n h4 hR (ha.put hvu o.dst) fun ca' h5 h6=>hk ca' h5 ?_
   rw[h6]
   cases o.dst with
   |none=>rfl
   |some d=>show (ca.tmps.setIfInBounds d _).size = _;simp
def Zml (o:Oper):Bool:=match o.guard,o.op with
 |none,.extract _ _=>true
 |none,.move _=>true
 |none,.assign _=>true
 |_,_=>false
theorem Z1w {ops:Array Oper} {o:Oper} {b:List AVal} {ca:Act} {K:List AVal→Za→Prop} {Q:AQ} (hp:Zml o = true) (ha:AR G ρ h w b ca) (hA:ZcB P o b h K Q):∃ v u,Yields P ops o u ca∧VR ρ h w v u∧K (Zh b o.dst v) h:=by
 unfold Zml at hp
 split at hp
 ·rename_i x i hg ho
  unfold ZcB at hA
  rw[ho] at hA
  change Zgo (Ze b x) i (fun v=>K (Zh b o.dst v) h) at hA
  unfold Zgo at hA
  split at hA
  ·rename_i vs hvs
   split at hA
   ·rename_i v hvv
    have hx:=ha.eval x
    rw[hvs] at hx
    generalize hu:ca.eval x = u at hx
    cases hx with |tup _ us hl hv=>
    have hlt:=ZE hvv
    have h2:i < us.size:=by omega
    refine ⟨v,us[i],.inl ⟨by unfold Region.wanted;rw[hg],fun w=>?_⟩,?_,hA⟩
    ·unfold execOp
     rw[ho]
     simp only[hu,Instr.extract,Array.getElem?_eq_getElem h2,Sem.run_bind,Sem.run_pure,Result.andThen_ok]
    ·have:=hv i hlt
     rw[List.getElem?_eq_getElem hlt] at hvv
     cases hvv
     simpa[Array.getD,h2] using this
   ·exact hA.elim
  ·exact hA.elim
 ·rename_i x hg ho
  unfold ZcB at hA
  rw[ho] at hA
  exact ⟨Ze b x,ca.eval x,.inl ⟨by unfold Region.wanted;rw[hg],fun w=>by unfold execOp;rw[ho];rfl⟩,ha.eval x,hA⟩
 ·rename_i x hg ho
  unfold ZcB at hA
  rw[ho] at hA
  exact ⟨Ze b x,ca.eval x,.inl ⟨by unfold Region.wanted;rw[hg],fun w=>by unfold execOp;rw[ho];rfl⟩,ha.eval x,hA⟩
 ·cases hp
def Zum (ops:Array Oper) (k:Nat):Bool:=match ops[k]? with
 |some o=>Zml o
 |none=>false
def Zj2 (md:Region.Mode) (ops:Array Oper):List Nat→Array Bool→Bool
 | [],listed=>Region.ready md ops listed == []
 |k :: ks,listed=>(Region.ready md ops listed == [k] || ((Region.ready md ops listed).contains k && Region.free md ops listed k && Zum ops k)) && Zj2 md ops ks (listed.setIfInBounds k true)
theorem ZlU {md:Region.Mode} {ops:Array Oper} {Q:AQ} {ρ0:Env} {h0:Za} {w0:World} (hs:ZjC ops = true) (hnp:∀ c a h,¬Q (.panic c) a h):∀ (l:List Nat) (listed:Array Bool) (a:List AVal) (h:Za) (ρ:Env) (w:World) (ca:Act),Zj2 md ops l listed = true→
  Evo ρ0 h0 w0 ρ h w→Rel ρ h w→AR G ρ h w a ca→Zgr P ops Q (Zdi ops l) a h→wpAnyIn (FW G.ro) 0 P md ops (Post G ρ0 h0 w0 Q) l.length listed ca w
 | [],listed,a,h,ρ,w,ca,hB,e0,hR,ha,hA=>by
   obtain ⟨b,hwk,hA⟩:=hA
   exact ⟨by simpa[Zj2] using hB,ρ,h,b,e0,hR,ha.weak hwk,hA⟩
 |k :: l,listed,a,h,ρ,w,ca,hB,e0,hR,ha,hA=>by
  simp only[Zj2,Bool.and_eq_true,Bool.or_eq_true,beq_iff_eq] at hB
  obtain ⟨hr | ⟨⟨hr,hf⟩,hp⟩,hB'⟩:=hB
  ·refine ⟨fun hn=>(by rw[hr] at hn;cases hn),fun i hi=>?_⟩
   have hi0:=hi
   rw[hr] at hi
   obtain rfl:i = k:=by simpa using hi
   obtain ⟨_,o,ho,_⟩:=mem_ready.1 hi0
   unfold Zdi at hA
   rw[ho] at hA
   unfold wpOpIn
   rw[ho]
   simp only
   obtain ⟨b,hwk,hA⟩:=hA
   have ha:=ha.weak hwk
   rcases hA with ⟨hw,h1⟩ | ⟨hw,h1⟩
   ·rw[if_pos (Zen ha hw)]
    exact (ZmX hR ha h1 (fun ρ' h' w' a' ca' ev hR' ha' hK=>ZlU hs hnp l _ a' h' ρ' w' ca' hB' (e0.trans ev) hR' ha' hK)
     (fun c ρ' h' w' a' ca' ev hR' ha' hq=>hq.elim))
   ·rw[if_neg (by rw[Zen ha hw];simp)]
    refine ⟨fun _ _=>trivial,?_⟩
    exact ZlU hs hnp l _ _ h ρ w _ hB' e0 hR (ha.put (.lit undef) _) h1
  ·unfold Zum at hp
   cases ho:ops[k]? with
   |none=>rw[ho] at hp;cases hp
   |some o=>
    rw[ho] at hp
    simp only at hp
    unfold Zdi at hA
    rw[ho] at hA
    obtain ⟨b,hwk,hA⟩:=hA
    have ha:=ha.weak hwk
    have hw1:Zc1 ops o b = some true:=by
     unfold Zc1
     unfold Zml at hp
     split at hp
     ·rename_i hg _;rw[hg]
     ·rename_i hg _;rw[hg]
     ·rename_i hg _;rw[hg]
     ·cases hp
    rcases hA with ⟨hw,h1⟩ | ⟨hw,h1⟩
    ·obtain ⟨v,u,hy,hvu,hK⟩:=Z1w (ops:=ops) hp ha h1
     refine Zo8 ho (fun j oj cs b hj he=>?_) (fun j oj c hj he=>?_) (fun c ca w hq=>by obtain ⟨_,_,_,_,_,_,hq⟩:=hq;exact hnp _ _ _ hq) _ listed ca w (Region.free_spec ho hf) (by simpa using hr) hy ?_
     ·have:=List.all_eq_true.1 hs oj (by
       have:=Array.mem_of_getElem? hj
       simpa using this)
      rw[he] at this;cases this
     ·have:=List.all_eq_true.1 hs oj (by
       have:=Array.mem_of_getElem? hj
       simpa using this)
      rw[he] at this;cases this
     ·exact ZlU hs hnp l _ _ h ρ w _ hB' e0 hR (ha.put hvu o.dst) hK
    ·rw[hw1] at hw;cases hw
def Zkr (ops:Array Oper) (nt:Nat) (A:List Nat):Bool:=
 A.all fun i=>match Zbx ops i with
  |none=>true
  |some d=>decide (d < nt) && (List.range ops.size).all fun j=>decide (i = j) || !(Zbx ops j == some d)
def Ze3:List Nat→Bool
 | []=>true
 |x :: l=>!l.contains x && Ze3 l
theorem ZhS:∀ {l:List Nat},Ze3 l = true→l.Nodup
 | [],_=>List.nodup_nil
 |x :: l,h=>by
  simp only[Ze3,Bool.and_eq_true,Bool.not_eq_true'] at h
  exact List.nodup_cons.2 ⟨by simpa using h.1,ZhS h.2⟩
theorem ZvV {ops:Array Oper} {nt:Nat} {A:List Nat} (hA:Zkr ops nt A = true):ZxV ops A:=by
 intro i j d hi hij hd he
 have h1:=List.all_eq_true.1 hA i hi
 unfold Zbx at h1
 rw[hd] at h1
 simp only[Bool.and_eq_true,decide_eq_true_eq] at h1
 rcases Nat.lt_or_ge j ops.size with hj |hj
 ·have h2:=List.all_eq_true.1 h1.2 j (List.mem_range.2 hj)
  simp only[Bool.or_eq_true,decide_eq_true_eq,Bool.not_eq_true',beq_eq_false_iff_ne] at h2
  rcases h2 with h2 |h2
  ·exact hij h2
  ·exact h2 he
 ·rw[Array.getElem?_eq_none hj] at he;cases he
theorem Z4T {ops:Array Oper} {nt:Nat} {A:List Nat} (hA:Zkr ops nt A = true) {i d:Nat} (hi:i∈A) (hd:(ops[i]?).bind (·.dst) = some d):d < nt:=by
 have h1:=List.all_eq_true.1 hA i hi
 unfold Zbx at h1
 rw[hd] at h1
 simp only[Bool.and_eq_true,decide_eq_true_eq] at h1
 exact h1.1
theorem Zs2 {ops:Array Oper} {A:List Nat} {S:Sts} {K K':List AVal→Gh→Prop} (hk:∀ a g,K a g→K' a g):∀ (l:List Nat) (a:List AVal) (g:Gh),Zej P ops A S h K l a g→Zej P ops A S h K' l a g
 | [],a,g,hq=>hk a g hq
 |i :: l,a,g,hq=>by
  unfold Zej at hq⊢
  split
  ·rename_i o ho
   rw[ho] at hq
   exact QStep2.mono (fun a' g' h'=>Zs2 hk l a' g' h') hq
  ·rename_i ho
   rw[ho] at hq;exact hq
structure DPart where
 F:List Nat
 Hd:List Nat
 Tl:List Nat
 A:List Nat
 S:Sts:=[]
 L:List Nat:=[]
 T:List (Nat×List Nat):=[]
def Zbf (ops:Array Oper):Array Bool:=Array.replicate ops.size false
def ZmF (ops:Array Oper) (D:DPart):Bool:=
 Nat.beq (D.F.length + D.Hd.length + D.Tl.length) ops.size && ZjC ops && Zgb .any ops D.F (Zbf ops) && Zj0 .any ops D.F D.Hd && ZjM .any ops D.Hd (Z4 (Zbf ops) D.F)
  && Zj2 .any ops D.Tl (Z4 (Z4 (Zbf ops) D.F) D.Hd) && (Region.ready .any ops (Z4 (Z4 (Zbf ops) D.F) D.Hd)).all fun j=>!D.Hd.contains j
theorem ZjQ {md:Region.Mode} {ops:Array Oper}:∀ {F:List Nat} {listed:Array Bool},Zgb md ops F listed = true→Down md ops listed→Down md ops (Z4 listed F)
 | [],_,_,hd=>hd
 |k :: F,listed,hB,hd=>by
  simp only[Zgb,Bool.and_eq_true] at hB
  show Down md ops (Z4 (listed.setIfInBounds k true) F)
  exact ZjQ (F:=F) hB.2 (hd.add (by simpa using hB.1.1))
theorem ZjH:∀ {F:List Nat} {listed:Array Bool} {k:Nat},listed.getD k true = true→(Z4 listed F).getD k true = true
 | [],_,_,h=>h
 |i :: F,listed,k,h=>ZjH (F:=F) (Zq2 h)
theorem ZjG:∀ {F:List Nat} {listed:Array Bool} {k:Nat},k∈F→(Z4 listed F).getD k true = true
 |i :: F,listed,k,h=>by
  rcases List.mem_cons.1 h with rfl |h
  ·refine ZjH (F:=F) ?_
   rcases Nat.lt_or_ge k listed.size with h' |h'
   ·simp[Array.getD_eq_getD_getElem?,h']
   ·simp[Array.getD_eq_getD_getElem?,h']
  ·exact ZjG (F:=F) h
theorem Z40 {id:Nat} {ops:Array Oper} {Q:AQ} {a b:List AVal} (D:DPart) (hm:P.follows .mixedOrders = true) (hnp:∀ c a h,¬Q (.panic c) a h) (hB:ZmF ops D = true) (hA:Zkr ops a.length D.A = true) (hAn:Ze3 D.A = true) (hSB:ZlV .any ops D.A D.S = true)
  (hFR:ZiL P ops D.F a b)
  (hQ:Zej P ops D.A D.S h (fun a' g=>Zgr P ops Q (Zdi ops D.Tl) (Zfz ops g D.A h.length a') (h++Ze2 D.S g D.A)) D.Hd b (fun _=>none)):AWp P (.region id ops true) Q a h:=by
 intro G ρ w ca hR ha
 simp only[ZmF,Bool.and_eq_true] at hB
 obtain ⟨⟨⟨⟨⟨⟨hn,hs⟩,hF⟩,hW⟩,hH⟩,hT⟩,hr⟩:=hB
 have hn:=Nat.eq_of_beq_eq_true hn
 refine wpIn_region_any hm ?_
 obtain ⟨hR1,e1⟩:=hR.like (w':={ w with drawn:=w.drawn + 1}) ⟨rfl,rfl,rfl⟩ rfl
 have hok:HOk h:=fun i o ho=>hR.idsObj ho
 show wpAnyIn (FW G.ro) 0 P .any ops (Post G ρ h w Q) ops.size (Zbf ops) ca { w with drawn:=w.drawn + 1}
 rw[show ops.size = (D.Hd.length + D.Tl.length) + D.F.length by omega]
 have hd0:Down .any ops (Zbf ops):=fun k o e ho hk=>by
  have:(Zbf ops).getD k false = false:=by
   simp only[Zbf,Array.getD_eq_getD_getElem?,Array.getElem?_replicate]
   split<;>rfl
  rw[this] at hk;cases hk
 refine Zm7 (G:=G) (Q:=Post G ρ h w Q) (ρ:=ρ) (h:=h) (w:={ w with drawn:=w.drawn + 1}) hs (fun c ca w hq=>by obtain ⟨_,_,_,_,_,_,hq⟩:=hq;exact hnp _ _ _ hq) D.F (Zbf ops) a b ca _ hF hFR (ha.evo e1) fun ca1 ha1 hsz=>?_
 have key:=Zrl (P:=P) (h:=h) (md:=.any) (ops:=ops) (A:=D.A) (S:=D.S) (F:=D.F) (Hd:=D.Hd) (M:=Z4 (Z4 (Zbf ops) D.F) D.Hd)
  (L:=fun listed a' g=>listed = Z4 (Z4 (Zbf ops) D.F) D.Hd∧Zgr P ops Q (Zdi ops D.Tl) (Zfz ops g D.A h.length a') (h++Ze2 D.S g D.A)) (ZhF hSB) hW
  (fun listed a' g hL j hj=>by
   rw[hL.1] at hj
   have:=List.all_eq_true.1 hr j hj
   simpa using this) D.Hd (Z4 (Zbf ops) D.F) _ (fun _=>none) (fun i hi=>hi) rfl hH (ZjQ hF hd0) (fun k hk=>ZjG hk) (Zs2 (fun a' g h'=>⟨rfl,h'⟩) _ _ _ hQ)
 have hI0:HInv G ops D.A D.S h ρ h w (Z4 (Zbf ops) D.F) b (fun _=>none) ρ { w with drawn:=w.drawn + 1} ca1 []:=
  { evo:=by simpa using e1,rel:=by simpa using hR1,ar:=by simpa using ha1,some:=(fun i hi=>by cases hi),all:=(fun i _ hi=>by cases hi),unl:=(fun i hi=>by cases hi),nd:=List.nodup_nil,
    slot:=(fun p i D d hp=>by cases hp),names:=fun v hv=>by
     obtain ⟨i,hi,rfl⟩:=List.getElem_of_mem hv
     exact (ha1.slot i hi).ids
    shut:=fun i hi=>by cases hi}
 exact Zin (G:=G) (P:=P) (md:=.any) (ops:=ops) (A:=D.A) (S:=D.S) (Hd:=D.Hd) (g0:=D.Tl.length) (Q:=Q) (ρ0:=ρ) (h0:=h) (w0:=w) hok (ZvV hA) (ZhF hSB)
  (fun listed a' g ρ' w' ca' od hL hI=>by
   rw[hL.1]
   obtain ⟨ρ2,e2,hR2,ha2⟩:=Z3Q hok (Nat.le_refl _) (ZhS hAn) hI
   exact ZlU (G:=G) hs hnp D.Tl _ _ _ ρ2 w' ca' hT e2 hR2 ha2 hL.2) D.Hd.length _ _ _ ρ _ ca1 [] (ZjQ hF hd0) key hI0
  (fun i hi d hd=>by rw[hsz,←ha.size];exact Z4T hA hi hd)
end Go.Proofs.YtogaiomakhapmaaGreat.AL
namespace Go.Proofs.YtogaiomakhapmaaGreat.AL
open Go
variable {G:Rnd} {ρ ρ':Env} {h h':Za} {w w':World} {P:Program}
def Zg4 (P:Program) (o:Oper) (a:List AVal) (h:Za) (K:AVal→Za→Prop):Prop:=
 match o.op with
 | .call { callee:=.value f,args,argTypes}=>match Ze a f with
   | .fn (.func i) vs ws=>Zd P i = true∧ACalls P i (vs++evs a args++ws) h fun e h'=>∃ v,e = .ret v∧K v h'
   | .yld b=>AYield P b (evs a args) h fun e h'=>∃ v,e = .ret v∧K v h'
   |_=>False
 |op=>AOp P op o.type a h K
theorem ZxU {o:Oper} {a a':List AVal} {K:AVal→Za→Prop} (hx:∀ x∈o.op.operands,Ze a x = Ze a' x):Zg4 P o a h K = Zg4 P o a' h K:=by
 unfold Zg4
 split
 ·rename_i f args argTypes hop
  rw[hop] at hx
  have h1:Ze a f = Ze a' f:=hx f (by simp[Op.operands,Call.operands])
  rw[h1,ZjS fun x hm=>hx x (by simp[Op.operands,Call.operands,hm])]
 ·exact ZnU hx
theorem ZvT {o:Oper} {a:List AVal} {ca:Act} {K:AVal→Za→Prop} {K':Act→World→Prop} {Q':Exit→Act→World→Prop} (hR:Rel ρ h w) (ha:AR G ρ h w a ca) (hK:Zg4 P o a h K)
  (hk:∀ ρ' h' w' v ca',Evo ρ h w ρ' h' w'→Rel ρ' h' w'→AR G ρ' h' w' (Zh a o.dst v) ca'→K v h'→K' ca' w'):o.wpIn (FW G.ro) 0 P ca w K' Q':=by
 unfold Zg4 at hK
 split at hK
 ·rename_i f args argTypes hop
  split at hK
  ·rename_i i vs ws hf
   obtain ⟨hc,hK⟩:=hK
   have hv:=ha.eval f
   rw[hf] at hv
   generalize hu:ca.eval f = u at hv
   cases hv with |fn _ _ _ us xs hl hl' hv hw=>
   have hrun:=ZpR (P:=P) (w:=w) (args:=args) (argTypes:=argTypes) (ty:=o.type) hu hc
   have hx:execOp ca.eval o = (do let d←resolve ca.eval { callee:=.value f,args,argTypes} o.type;invoke d.target d.args):=by unfold execOp;rw[hop]
   refine Ze0 (fun c hc=>by rw[hop] at hc;cases hc) ?_
   rw[hx,hrun]
   rw[Oper.uponIn_enter]
   refine ⟨fun h=>(by simp at h),(ZmL (hK ρ w _ hR (ZmB ha args ⟨hl,hv⟩ ⟨hl',hw⟩))).mono ?_⟩
   rintro e w' ⟨ρ',h',e',ev,hR',hE,v,rfl,hr⟩
   cases hE with
   |ret v u hvu=>exact hk _ _ _ _ _ ev hR' ((ha.evo ev).put hvu o.dst) hr
  ·rename_i b hf
   have hv:=ha.eval f
   rw[hf] at hv
   generalize hu:ca.eval f = u at hv
   cases hv with |yld _ hb=>
   have hrun:=run_yield (P:=P) (w:=w) (args:=args) (argTypes:=argTypes) (ty:=o.type) hu
   have hx:execOp ca.eval o = (do let d←resolve ca.eval { callee:=.value f,args,argTypes} o.type;invoke d.target d.args):=by unfold execOp;rw[hop]
   refine Ze0 (fun c hc=>by rw[hop] at hc;cases hc) ?_
   obtain ⟨fn,tmps,assign,body,h1,h2⟩:=hK ρ w _ hR (ha.evs args)
   rw[hx,hrun,h1,Oper.uponIn_round]
   refine ⟨fun h=>(by simp at h),RoundIn.mono (F:=FW G.ro) h2 ?_⟩
   rintro e w' ⟨ρ',h',e',ev,hR',hE,v,rfl,hr⟩
   cases hE with
   |ret v u hvu=>exact hk _ _ _ _ _ ev hR' ((ha.evo ev).put hvu o.dst) hr
  ·exact hK.elim
 ·obtain ⟨ρ',h',w',v,u,h1,ev,hR',hvu,hr⟩:=Zhg hR ha hK
  refine Ze0 (fun c hc=>by rw[hc] at hK;exact hK) ?_
  rcases h1 with h1 | ⟨h1,rfl⟩
  ·rw[h1,Oper.uponIn_value]
   exact hk _ _ _ _ _ ev hR' ((ha.evo ev).put hvu o.dst) hr
  ·rw[h1,Oper.uponIn_skip]
   exact hk _ _ _ _ _ ev hR' ((ha.evo ev).put hvu o.dst) hr
def hid (ops:Array Oper) (U:List Nat) (t:Nat):Bool:=U.any fun i=>Zbx ops i == some t
def ZcG (ops:Array Oper) (U:List Nat) (a:List AVal):List AVal:=a.mapIdx fun t v=>if hid ops U t then .any else v
theorem hid_iff {ops:Array Oper} {U:List Nat} {t:Nat}:hid ops U t = true↔∃ i∈U,Zbx ops i = some t:=by simp[hid]
theorem ZcF (ops:Array Oper) (U:List Nat) (a:List AVal):(ZcG ops U a).length = a.length:=by simp[ZcG]
theorem Zed {ops:Array Oper} {U:List Nat} {a:List AVal} {t:Nat} (ht:hid ops U t = false):Z2 (ZcG ops U a) t = Z2 a t:=by
 unfold Z2 ZcG
 rw[List.getD_eq_getElem?_getD,List.getD_eq_getElem?_getD,List.getElem?_mapIdx]
 cases a[t]? with
 |none=>rfl
 |some v=>simp[ht]
theorem Z5k {ops:Array Oper} {U:List Nat} {a:List AVal} {x:Operand} (hx:∀ t,x = .tmp t→hid ops U t = false):Ze (ZcG ops U a) x = Ze a x:=by
 cases x with
 |tmp t=>exact Zed (hx t rfl)
 |_=>rfl
def Clear (ops:Array Oper) (U:List Nat) (o:Oper):Prop:=∀ j∈U,∀ d,Zbx ops j = some d→d∉o.looksAt ops
theorem Clear.evals {ops:Array Oper} {U:List Nat} {o:Oper} (hc:Clear ops U o) (a:List AVal):∀ x∈o.op.operands,Ze a x = Ze (ZcG ops U a) x:=by
 intro x hx
 refine (Z5k fun t ht=>?_).symm
 cases hb:hid ops U t with
 |false=>rfl
 |true=>
  obtain ⟨j,hj,hd⟩:=hid_iff.1 hb
  refine absurd ?_ (hc j hj t hd)
  simp only[Oper.looksAt,List.mem_append,List.mem_filterMap]
  exact .inl ⟨x,by simpa using hx,by rw[ht]⟩
theorem Clear.want {ops:Array Oper} {U:List Nat} {o:Oper} (hc:Clear ops U o) (a:List AVal):Zc1 ops o (ZcG ops U a) = Zc1 ops o a:=by
 unfold Zc1
 cases hg:o.guard with
 |none=>rfl
 |some p=>
  obtain ⟨j,want⟩:=p
  cases hj:(ops[j]?).bind (·.dst) with
  |none=>simp[hj]
  |some e=>
   have:Z2 (ZcG ops U a) e = Z2 a e:=Zed (by
    cases hb:hid ops U e with
    |false=>rfl
    |true=>
     obtain ⟨i,hi,hd⟩:=hid_iff.1 hb
     refine absurd ?_ (hc i hi e hd)
     simp only[Oper.looksAt,List.mem_append]
     right
     rw[hg]
     simp[hj])
   simp[hj,this]
theorem Zg9 {a b:List AVal} (hl:a.length = b.length) (hg:∀ i:Nat,i < b.length→Z2 b i = .any∨Z2 a i = Z2 b i):Weak a b:=by
 have key:∀ {a b:List AVal},a.length = b.length→(∀ (i:Nat) (h1:i < a.length) (h2:i < b.length),b[i] = .any∨a[i] = b[i])→Weak a b:=by
  intro a
  induction a with
  |nil=>intro b hl hg;cases b with
   |nil=>trivial
   |cons y b=>simp at hl
  |cons x a ih=>intro b hl hg;cases b with
   |nil=>simp at hl
   |cons y b=>exact ⟨hg 0 (by simp) (by simp),ih (by simpa using hl) fun i h1 h2=>hg (i + 1) (by simpa using h1) (by simpa using h2)⟩
 refine key hl fun i h1 h2=>?_
 have:=hg i h2
 simpa[Z2,List.getD_eq_getElem?_getD,List.getElem?_eq_getElem h1,List.getElem?_eq_getElem h2] using this
theorem ZS {a:List AVal} {d:Option Nat} {v:AVal} {t:Nat} (ht:t < a.length):Z2 (Zh a d v) t = if d = some t then v else Z2 a t:=by
 cases d with
 |none=>simp[Zh]
 |some e=>
  by_cases he:e = t
  ·subst he;simp[Z2,Zh,List.getD_eq_getElem?_getD,ht]
  ·rw[Zkl (fun x hx=>by cases hx;exact he),if_neg (by simpa using he)]
theorem Zib {ops:Array Oper} {U:List Nat} {a:List AVal} {t:Nat} (ht:hid ops U t = true):Z2 (ZcG ops U a) t = .any:=by
 unfold Z2 ZcG
 rw[List.getD_eq_getElem?_getD,List.getElem?_mapIdx]
 cases a[t]? with
 |none=>rfl
 |some v=>simp[ht]
theorem ZfV {U:List Nat}:∀ {listed:Array Bool} {k:Nat},(Z4 listed U)[k]? = if k∈U∧k < listed.size then some true else listed[k]?:=by
 induction U with
 |nil=>intro listed k;simp[Z4]
 |cons i U ih=>
  intro listed k
  simp only[Z4,ih,Array.size_setIfInBounds,Array.getElem?_setIfInBounds,List.mem_cons]
  by_cases h1:k∈U
  ·by_cases h2:k < listed.size
   ·simp[h1,h2]
   ·simp[h2];omega
  ·by_cases h2:k < listed.size
   ·by_cases h3:i = k
    ·subst h3;simp[h1,h2]
    ·have h3':¬k = i:=fun e=>h3 e.symm
     simp[h1,h2,h3,h3']
   ·simp[h2]
    intro h;omega
theorem Z2k {U:List Nat}:∀ {listed:Array Bool},(Z4 listed U).size = listed.size:=by
 induction U with
 |nil=>intro listed;rfl
 |cons i U ih=>intro listed;simp[Z4,ih]
theorem Z2l {listed listed':Array Bool} {U U':List Nat} (hs:listed.size = listed'.size) (h:∀ k,k < listed.size→(if k∈U∧k < listed.size then some true else listed[k]?) = if k∈U'∧k < listed'.size then some true else listed'[k]?):Z4 listed U = Z4 listed' U':=by
 apply Array.ext_getElem?
 intro k
 rw[ZfV,ZfV]
 rcases Nat.lt_or_ge k listed.size with h1 |h1
 ·exact h k h1
 ·rw[if_neg (by omega),if_neg (by omega),Array.getElem?_eq_none h1,Array.getElem?_eq_none (by omega)]
theorem Zqs {listed:Array Bool} {U:List Nat} {i:Nat} (hi:i∈U) (hn:U.Nodup):Z4 (listed.setIfInBounds i true) (U.erase i) = Z4 listed U:=by
 refine Z2l (by simp) fun k hk=>?_
 simp only[Array.size_setIfInBounds] at hk
 simp only[Array.size_setIfInBounds,Array.getElem?_setIfInBounds,hk,and_true,hn.mem_erase_iff]
 by_cases h1:k = i
 ·subst h1;simp[hi,hk]
 ·have h1':¬i = k:=fun e=>h1 e.symm
  simp[h1,h1']
theorem Zqr {listed:Array Bool} {U:List Nat} {i:Nat}:Z4 (listed.setIfInBounds i true) U = (Z4 listed U).setIfInBounds i true:=by
 apply Array.ext_getElem?
 intro k
 rw[ZfV,Array.getElem?_setIfInBounds,Array.getElem?_setIfInBounds,ZfV,Z2k,Array.size_setIfInBounds]
 by_cases h1:i = k
 ·subst h1
  by_cases h2:i < listed.size
  ·simp[h2]
  ·simp[h2]
 ·simp[h1]
theorem ZpW {md:Region.Mode} {ops:Array Oper} {i:Nat}:∀ {U:List Nat} {listed:Array Bool},i∈Region.ready md ops listed→i∉U→i∈Region.ready md ops (Z4 listed U)
 | [],listed,h,_=>h
 |j :: U,listed,h,hn=>ZpW (U:=U) (ready_mono h (fun e=>hn (by simp[e]))) (fun hm=>hn (by simp[hm]))
def HoldsAt (P:Program) (ops:Array Oper) (r:Nat×AVal) (b:List AVal) (h:Za):Prop:=∃ o,ops[r.1]? = some o∧o.guard = none∧Zcq P o b h r.2
def ZjN (pk:List Nat) (i:Nat):Bool:=match pk with
 | []=>false
 |k :: pk=>match Nat.beq i k with
  |true=>true
  |false=>ZjN pk i
theorem hasN_iff {i:Nat}:∀ {pk:List Nat},ZjN pk i = true↔i∈pk
 | []=>by simp[ZjN]
 |k :: pk=>by
  unfold ZjN
  cases hb:Nat.beq i k with
  |true=>have:=Nat.eq_of_beq_eq_true hb;simp[this]
  |false=>have:=Nat.ne_of_beq_eq_false hb;simp[this,hasN_iff (pk:=pk)]
def ZbU (pk:List Nat):List (Nat×AVal)→List (Nat×AVal)
 | []=>[]
 |r :: ls=>match ZjN pk r.1 with
  |true=>r :: ZbU pk ls
  |false=>ZbU pk ls
theorem pendAfter_mem {pk:List Nat} {r:Nat×AVal}:∀ {ls:List (Nat×AVal)},r∈ZbU pk ls↔r∈ls∧r.1∈pk
 | []=>by simp[ZbU]
 |x :: ls=>by
  unfold ZbU
  split
  ·rename_i hb
   have hb:=hasN_iff.1 hb
   simp only[List.mem_cons,pendAfter_mem (ls:=ls)]
   constructor
   ·rintro (rfl | ⟨h1,h2⟩)
    ·exact ⟨.inl rfl,hb⟩
    ·exact ⟨.inr h1,h2⟩
   ·rintro ⟨rfl |h1,h2⟩
    ·exact .inl rfl
    ·exact .inr ⟨h1,h2⟩
  ·rename_i hb
   have hb:x.1∉pk:=fun hm=>by rw[hasN_iff.2 hm] at hb;cases hb
   simp only[List.mem_cons,pendAfter_mem (ls:=ls)]
   constructor
   ·rintro ⟨h1,h2⟩;exact ⟨.inr h1,h2⟩
   ·rintro ⟨rfl |h1,h2⟩
    ·exact absurd h2 hb
    ·exact ⟨h1,h2⟩
abbrev TP:=List (Nat×List Nat)
def TP.nums:TP→List Nat
 | []=>[]
 |x :: l=>x.1 :: TP.nums l
def Zfj (P:Program) (ops:Array Oper) (Q:List AVal→Za→Prop):TP→List (Nat×AVal)→List AVal→Za→Prop
 | [],_,b,h=>Q b h
 | (k,pk) :: ks,ls,b,h=>∃ o,ops[k]? = some o∧
   ((Zc1 ops o b = some true∧Zg4 P o b h fun v h'=>(∀ r∈ZbU pk ls,HoldsAt P ops r (Zh b o.dst v) h')∧Zfj P ops Q ks (ZbU pk ls) (Zh b o.dst v) h')∨
    (Zc1 ops o b = some false∧(∀ r∈ZbU pk ls,HoldsAt P ops r (Zh b o.dst Zc4) h)∧Zfj P ops Q ks (ZbU pk ls) (Zh b o.dst Zc4) h))
def ZvC (M:List Nat) (k i:Nat):Bool:=(M.getD k 0).testBit i
def clr (ops:Array Oper) (x y:Oper):Bool:=match x.dst with
 |some d=>!(y.looksAt ops).contains d && y.dst != some d
 |none=>true
theorem Zid {ops:Array Oper} {x y:Oper} (h:clr ops x y = true):(∀ d,x.dst = some d→d∉y.looksAt ops)∧(∀ d,x.dst = some d→y.dst≠some d):=by
 refine ⟨fun d hd=>?_,fun d hd=>?_⟩<;>simp[clr,hd] at h
 ·exact h.1
 ·exact h.2
def Zmz (md:Region.Mode) (ops:Array Oper) (M F L:List Nat) (T:TP):Bool:=
 let Tl:=T.nums
 (T.all fun x=>(L.all fun i=>x.2.contains i || ZvC M x.1 i) && x.2.all fun i=>match ops[i]?,ops[x.1]? with
   |some oi,some ok=>oi.apart ops ok
   |_,_=>false) && ((List.range ops.size).all fun j=>F.contains j || L.contains j || Tl.contains j) && Ze3 L &&
 L.all fun i=>match ops[i]? with
  |none=>false
  |some oi=>oi.after.toList.all (fun e=>!(Region.binds md e) || (Nat.blt e.on i && !Tl.contains e.on)) && (match oi.dst with
    |some d=>!(oi.looksAt ops).contains d
    |none=>true) &&
   (L++Tl).all fun j=>Nat.beq j i || match ops[j]? with
    |none=>false
    |some oj=>ZvC M j i || clr ops oi oj
structure LateOk (md:Region.Mode) (ops:Array Oper) (F L:List Nat) (T:TP) (Tl:List Nat):Prop where
 pend:∀ k pk,(k,pk)∈T→∀ i∈L,i∈pk∨Reach md ops k i
 sep:∀ k pk,(k,pk)∈T→∀ i∈pk,∃ oi ok,ops[i]? = some oi∧ops[k]? = some ok∧oi.apart ops ok = true
 cover:∀ j,j < ops.size→j∈F∨j∈L∨j∈Tl
 nd:L.Nodup
 after:∀ i∈L,∃ oi,ops[i]? = some oi∧(∀ e∈oi.after,Region.binds md e = true→e.on < i∧e.on∉Tl)∧(∀ d,oi.dst = some d→d∉oi.looksAt ops)
 apart:∀ i∈L,∀ j,j∈L∨j∈Tl→j≠i→∀ oi oj,ops[i]? = some oi→ops[j]? = some oj→Reach md ops j i∨clr ops oi oj = true
theorem Zmy {md:Region.Mode} {ops:Array Oper} {F L:List Nat} {T:TP} (hB:Zmz md ops (Zfc md ops ops.size) F L T = true):LateOk md ops F L T T.nums:=by
 simp only[Zmz,Bool.and_eq_true] at hB
 obtain ⟨⟨⟨h0,h1⟩,h2⟩,h3⟩:=hB
 refine ⟨fun k pk hk i hi=>?_,fun k pk hk i hi=>?_,fun j hj=>?_,ZhS h2,fun i hi=>?_,fun i hi j hj hne oi oj ho ho'=>?_⟩
 ·have h4:=List.all_eq_true.1 h0 _ hk
  simp only[Bool.and_eq_true] at h4
  have:=List.all_eq_true.1 h4.1 i hi
  simp only[Bool.or_eq_true,List.contains_iff_mem] at this
  rcases this with h |h
  ·exact .inl h
  ·exact .inr (Zkj md ops _ _ _ h)
 ·have h4:=List.all_eq_true.1 h0 _ hk
  simp only[Bool.and_eq_true] at h4
  have:=List.all_eq_true.1 h4.2 i hi
  split at this
  ·rename_i oi ok h5 h6
   exact ⟨oi,ok,h5,h6,this⟩
  ·cases this
 ·have:=List.all_eq_true.1 h1 j (List.mem_range.2 hj)
  simp only[Bool.or_eq_true,List.contains_iff_mem] at this
  rcases this with (h |h) |h
  ·exact .inl h
  ·exact .inr (.inl h)
  ·exact .inr (.inr h)
 ·have:=List.all_eq_true.1 h3 i hi
  split at this
  ·cases this
  ·rename_i oi ho
   simp only[Bool.and_eq_true] at this
   obtain ⟨⟨h4,h5⟩,_⟩:=this
   refine ⟨oi,ho,fun e he hb=>?_,fun d hd=>?_⟩
   ·have h6:=List.all_eq_true.1 h4 e (by simpa using he)
    simp only[hb,Bool.not_true,Bool.false_or,Bool.and_eq_true,Nat.blt_eq,Bool.not_eq_true'] at h6
    exact ⟨h6.1,by simpa using h6.2⟩
   ·rw[hd] at h5;simpa using h5
 ·have:=List.all_eq_true.1 h3 i hi
  rw[ho] at this
  simp only[Bool.and_eq_true] at this
  have h6:=List.all_eq_true.1 this.2 j (by simpa using hj)
  rw[ho'] at h6
  simp only[Bool.or_eq_true] at h6
  rcases h6 with h6 |h6 |h6
  ·exact absurd (Nat.eq_of_beq_eq_true h6) hne
  ·exact .inl (Zkj md ops _ _ _ h6)
  ·exact .inr h6
theorem Zqx:∀ {U:List Nat},U≠[]→∃ i∈U,∀ j∈U,i≤j
 | [],h=>absurd rfl h
 | [i],_=>⟨i,by simp,fun j hj=>by rw[List.mem_singleton.1 hj];exact Nat.le_refl _⟩
 |i :: k :: U,_=>by
  obtain ⟨m,hm,hl⟩:=Zqx (U:=k :: U) (by simp)
  rcases Nat.le_total i m with h |h
  ·exact ⟨i,by simp,fun j hj=>by
    rcases List.mem_cons.1 hj with rfl |hj
    ·exact Nat.le_refl _
    ·exact Nat.le_trans h (hl j hj)⟩
  ·exact ⟨m,by simp[hm],fun j hj=>by
    rcases List.mem_cons.1 hj with rfl |hj
    ·exact h
    ·exact hl j hj⟩
theorem Ztx {l:Array Bool} {i:Nat} (h:l.getD i false = true):l.getD i true = true:=by
 rcases Nat.lt_or_ge i l.size with h' |h'
 ·simp[h'] at h⊢;exact h
 ·simp[Array.getElem?_eq_none h'] at h
theorem Zu1 {T T':TP} {Tl:List Nat} {k:Nat} (h:∀ x∈T',x∈T∧x.1∈Tl) (hk:k∈T'.nums):k∈Tl:=by
 have:∃ x∈T',x.1 = k:=by
  clear h
  induction T' with
  |nil=>cases hk
  |cons x l ih=>
   rcases List.mem_cons.1 hk with rfl |hk
   ·exact ⟨x,by simp,rfl⟩
   ·obtain ⟨y,h1,h2⟩:=ih hk
    exact ⟨y,by simp[h1],h2⟩
 obtain ⟨x,h1,rfl⟩:=this
 exact (h x h1).2
theorem Zu0 {T:TP} {x:Nat×List Nat} (h:x∈T):x.1∈T.nums:=by
 induction T with
 |nil=>cases h
 |cons y l ih=>
  rcases List.mem_cons.1 h with rfl |h
  ·simp[TP.nums]
  ·simp[TP.nums,ih h]
theorem Z22 {md:Region.Mode} {ops:Array Oper} {F L Tl:List Nat} {T:TP} {Q:AQ} {ρ0:Env} {h0:Za} {w0:World} (hB:LateOk md ops F L T Tl):∀ (n:Nat) (U:List Nat) (T':TP) (ls:List (Nat×AVal)) (listed:Array Bool) (b:List AVal) (h:Za) (ρ:Env) (w:World) (ca:Act),
  U.length + T'.length = n→U.Nodup→
  (∀ i∈U,i∈L∧listed.getD i true = false∧∃ v,(i,v)∈ls∧HoldsAt P ops (i,v) b h∧∀ d,Zbx ops i = some d→d < b.length→Z2 b d = v)→
  (∀ x∈T',x∈T∧x.1∈Tl)→(∀ j,j < ops.size→j∉U→j∉T'.nums→listed.getD j false = true)→ZgF md ops T'.nums (Z4 listed U) = true→Down md ops listed→
  Evo ρ0 h0 w0 ρ h w→Rel ρ h w→AR G ρ h w (ZcG ops U b) ca→Zfj P ops (fun b h=>Q .normal b h) T' ls b h→wpAnyIn (FW G.ro) 0 P md ops (Post G ρ0 h0 w0 Q) n listed ca w:=by
 intro n
 induction n with
 |zero=>
  intro U T' ls listed b h ρ w ca hn hnd hU hT hl ht hdn e0 hR ha hL
  have h1:U = []:=List.length_eq_zero_iff.1 (by omega)
  have h2:T' = []:=List.length_eq_zero_iff.1 (by omega)
  subst h1;subst h2
  refine ⟨by simpa[ZgF,Z4,TP.nums] using ht,ρ,h,b,e0,hR,?_,hL⟩
  have:ZcG ops [] b = b:=by
   unfold ZcG hid
   apply List.ext_getElem<;>simp
  rwa [this] at ha
 |succ n ih=>
  intro U T' ls listed b h ρ w ca hn hnd hU hT hl ht hdn e0 hR ha hL
  constructor
  ·intro hr0
   exfalso
   by_cases hUe:U = []
   ·subst hUe
    cases T' with
    |nil=>simp at hn
    |cons k ks=>
     simp only[ZgF,TP.nums,Bool.and_eq_true,beq_iff_eq,Z4] at ht
     rw[hr0] at ht;cases ht.1
   ·obtain ⟨i,hi,hmin⟩:=Zqx hUe
    obtain ⟨hiL,hun,v,hv,⟨o,ho,_,_⟩,_⟩:=hU i hi
    obtain ⟨oi,ho',haf,_⟩:=hB.after i hiL
    have:i∈Region.ready md ops listed:=mem_ready.2 ⟨hun,oi,ho',fun e he hb=>by
     obtain ⟨h1,h2⟩:=haf e he hb
     have hlt:i < ops.size:=Zb9 ho'
     refine hl e.on (by omega) (fun hm=>?_) (fun hm=>h2 (Zu1 hT hm))
     have:=hmin _ hm
     omega⟩
    rw[hr0] at this;cases this
  ·intro i hi
   have hiun:=(mem_ready.1 hi).1
   have noReach:∀ j,j∈U→¬Reach md ops i j:=fun j hj hre=>by
    have:=Ztx (ZpV hdn hi hre)
    rw[(hU j hj).2.1] at this;cases this
   by_cases hiU:i∈U
   ·obtain ⟨hiL,hun,v,hv,⟨o,ho,hg,hq⟩,hs⟩:=hU i hiU
    obtain ⟨oi,ho',haf,hself⟩:=hB.after i hiL
    rw[ho] at ho';cases ho'
    have hclear:Clear ops U o:=fun j hj d hd=>by
     by_cases hji:j = i
     ·subst hji
      unfold Zbx at hd
      rw[ho] at hd
      exact hself d hd
     ·obtain ⟨oj,hoj,_⟩:=hB.after j (hU j hj).1
      unfold Zbx at hd
      rw[hoj] at hd
      rcases hB.apart j (hU j hj).1 i (.inl hiL) (fun e=>hji e.symm) oj o hoj ho with hre |hap
      ·exact absurd hre (noReach j hj)
      ·exact (Zid hap).1 d hd
    unfold wpOpIn
    rw[ho]
    simp only
    rw[if_pos (by unfold Region.wanted;rw[hg])]
    refine (ZvU hR ha ((Zlr (hclear.evals b)) ▸ hq) fun ρ' w' ca' ev hR' ha'=>?_)
    refine ih (U.erase i) T' ls _ b h ρ' w' ca' (by rw[List.length_erase_of_mem hiU];have:=List.length_pos_of_mem hiU;omega) (hnd.erase i) (fun j hj=>?_) hT (fun j hj h1 h2=>?_) (by rw[Zqs hiU hnd];exact ht) (hdn.add hi) (e0.trans ev) hR' (ha'.weak (Zg9 (by rw[Zba,ZcF,ZcF]) fun t ht=>?_)) hL
    ·obtain ⟨hji,hjU⟩:=hnd.mem_erase_iff.1 hj
     obtain ⟨a1,a2,a3⟩:=hU j hjU
     exact ⟨a1,by rw[getD_set_ne true (Ne.symm hji)];exact a2,a3⟩
    ·by_cases hji:j = i
     ·subst hji;exact ZjP hun
     ·exact ZgX (hl j hj (fun hm=>h1 (hnd.mem_erase_iff.2 ⟨hji,hm⟩)) h2)
    ·rw[ZcF] at ht
     cases hb:hid ops (U.erase i) t with
     |true=>left;exact Zib hb
     |false=>
      right
      rw[Zed hb,ZS (by rw[ZcF];exact ht)]
      by_cases hd:o.dst = some t
      ·rw[if_pos hd];exact (hs t (by unfold Zbx;rw[ho];exact hd) ht).symm
      ·rw[if_neg hd]
       refine Zed ?_
       cases hb2:hid ops U t with
       |false=>rfl
       |true=>
        obtain ⟨j,hj,hjd⟩:=hid_iff.1 hb2
        by_cases hji:j = i
        ·subst hji
         unfold Zbx at hjd
         rw[ho] at hjd
         exact absurd hjd hd
        ·rw[hid_iff.2 ⟨j,hnd.mem_erase_iff.2 ⟨hji,hj⟩,hjd⟩] at hb;cases hb
   ·have hi2:=ZpW (U:=U) hi hiU
    cases T' with
    |nil=>
     simp only[ZgF,TP.nums,beq_iff_eq] at ht
     rw[ht] at hi2;cases hi2
    |cons k ks=>
     obtain ⟨k,pk⟩:=k
     simp only[ZgF,TP.nums,Bool.and_eq_true,beq_iff_eq] at ht
     obtain ⟨hr,ht'⟩:=ht
     rw[hr] at hi2
     obtain rfl:i = k:=by simpa using hi2
     obtain ⟨o,ho,hL⟩:=hL
     have hiT:i∈Tl:=(hT (i,pk) (by simp)).2
     have hap:∀ j∈U,∃ oj,ops[j]? = some oj∧clr ops oj o = true:=fun j hj=>by
      obtain ⟨oj,hoj,_⟩:=hB.after j (hU j hj).1
      refine ⟨oj,hoj,?_⟩
      rcases hB.apart j (hU j hj).1 i (.inr hiT) (fun e=>hiU (e ▸ hj)) oj o hoj ho with hre |hap
      ·exact absurd hre (noReach j hj)
      ·exact hap
     have hclear:Clear ops U o:=fun j hj d hd=>by
      obtain ⟨oj,hoj,h1⟩:=hap j hj
      unfold Zbx at hd
      rw[hoj] at hd
      exact (Zid h1).1 d hd
     have hpend:∀ j∈U,∀ v,(j,v)∈ls→(j,v)∈ZbU pk ls:=fun j hj v hv=>by
      refine pendAfter_mem.2 ⟨hv,?_⟩
      rcases hB.pend i pk (hT (i,pk) (by simp)).1 j (hU j hj).1 with h |h
      ·exact h
      ·exact absurd h (noReach j hj)
     have dst_ne:∀ j∈U,∀ d,Zbx ops j = some d→o.dst≠some d:=fun j hj d hd=>by
      obtain ⟨oj,hoj,h1⟩:=hap j hj
      unfold Zbx at hd
      rw[hoj] at hd
      exact (Zid h1).2 d hd
     have next:∀ (v:AVal) (h':Za) (ρ':Env) (w':World) (ca':Act),Evo ρ h w ρ' h' w'→Rel ρ' h' w'→AR G ρ' h' w' (Zh (ZcG ops U b) o.dst v) ca'→
       (∀ r∈ZbU pk ls,HoldsAt P ops r (Zh b o.dst v) h')→Zfj P ops (fun b h=>Q .normal b h) ks (ZbU pk ls) (Zh b o.dst v) h'→
       wpAnyIn (FW G.ro) 0 P md ops (Post G ρ0 h0 w0 Q) n (listed.setIfInBounds i true) ca' w':=by
      intro v h' ρ' w' ca' ev hR' ha' hH hL'
      refine ih U ks _ _ (Zh b o.dst v) h' ρ' w' ca' (by simp at hn;omega) hnd (fun j hj=>?_) (fun x hx=>hT x (by simp[hx])) (fun j hj h1 h2=>?_) (by rw[Zqr];exact ht') (hdn.add hi) (e0.trans ev) hR' (ha'.weak (Zg9 (by rw[Zba,ZcF,ZcF,Zba]) fun t ht=>?_)) hL'
      ·obtain ⟨a1,a2,u,a3,a4,a5⟩:=hU j hj
       have hji:j≠i:=fun e=>hiU (e ▸ hj)
       refine ⟨a1,by rw[getD_set_ne true (Ne.symm hji)];exact a2,u,hpend j hj u a3,hH _ (hpend j hj u a3),fun d hd hlt=>?_⟩
       rw[Zba] at hlt
       rw[ZS hlt,if_neg (dst_ne j hj d hd)]
       exact a5 d hd hlt
      ·by_cases hji:j = i
       ·subst hji;exact ZjP hiun
       ·exact ZgX (hl j hj h1 (by simp only[TP.nums,List.mem_cons,not_or];exact ⟨hji,h2⟩))
      ·rw[ZcF,Zba] at ht
       cases hb:hid ops U t with
       |true=>left;exact Zib hb
       |false=>
        right
        rw[Zed hb,ZS (by rw[ZcF];exact ht),ZS ht,Zed hb]
     unfold wpOpIn
     rw[ho]
     simp only
     rcases hL with ⟨hw,hK⟩ | ⟨hw,hH,hL⟩
     ·rw[if_pos (Zen ha (by rw[hclear.want];exact hw))]
      refine (ZvT hR ha ((ZxU (hclear.evals b)) ▸ hK) fun ρ' h' w' v ca' ev hR' ha' ⟨hH,hL⟩=>?_)
      exact next v h' ρ' w' ca' ev hR' ha' hH hL
     ·rw[if_neg (by rw[Zen ha (by rw[hclear.want];exact hw)];simp)]
      refine ⟨fun _ _=>trivial,?_⟩
      exact next Zc4 h ρ w _ (.refl ..) hR (ha.put (.lit undef) _) hH hL
def Zj1 (md:Region.Mode) (ops:Array Oper):List Nat→Array Bool→Bool
 | [],_=>true
 |k :: ks,listed=>Region.ready md ops listed == [k] && Zj1 md ops ks (listed.setIfInBounds k true)
def ZhX:TP→Bool
 | []=>true
 | [x]=>x.2.isEmpty
 |_ :: y :: l=>ZhX (y :: l)
theorem Z21 {md:Region.Mode} {ops:Array Oper} {F M L Tl:List Nat} {T:TP} {Q:AQ} {C:List AVal→Za→Prop} {g0:Nat} {M1:Array Bool} {ρ0:Env} {h0:Za} {w0:World} (hB:LateOk md ops (F++M) L T Tl)
  (hM:∀ i∈L,∀ oi,ops[i]? = some oi→∀ e∈oi.after,Region.binds md e = true→e.on∉M)
  (hC:∀ (b:List AVal) (h:Za) (ρ:Env) (w:World) (ca:Act),Down md ops M1→Evo ρ0 h0 w0 ρ h w→Rel ρ h w→AR G ρ h w b ca→C b h→wpAnyIn (FW G.ro) 0 P md ops (Post G ρ0 h0 w0 Q) g0 M1 ca w):∀ (n:Nat) (U:List Nat) (T':TP) (ls:List (Nat×AVal)) (listed:Array Bool) (b:List AVal) (h:Za) (ρ:Env) (w:World) (ca:Act),
  U.length + T'.length = n→U.Nodup→
  (∀ i∈U,i∈L∧listed.getD i true = false∧∃ v,(i,v)∈ls∧HoldsAt P ops (i,v) b h∧∀ d,Zbx ops i = some d→d < b.length→Z2 b d = v)→
  (∀ x∈T',x∈T∧x.1∈Tl)→(∀ j,j < ops.size→j∉U→j∉T'.nums→j∉M→listed.getD j false = true)→Zj1 md ops T'.nums (Z4 listed U) = true→ZhX T' = true→(T' = []→U = [])→Z4 (Z4 listed U) T'.nums = M1→Down md ops listed→
  Evo ρ0 h0 w0 ρ h w→Rel ρ h w→AR G ρ h w (ZcG ops U b) ca→Zfj P ops C T' ls b h→wpAnyIn (FW G.ro) 0 P md ops (Post G ρ0 h0 w0 Q) (n + g0) listed ca w:=by
 intro n
 induction n with
 |zero=>
  intro U T' ls listed b h ρ w ca hn hnd hU hT hl ht hla hTU hM1 hdn e0 hR ha hL
  have h1:U = []:=List.length_eq_zero_iff.1 (by omega)
  have h2:T' = []:=List.length_eq_zero_iff.1 (by omega)
  subst h1;subst h2
  have hM1:listed = M1:=hM1
  subst hM1
  rw[Nat.zero_add]
  refine hC b h ρ w ca hdn e0 hR ?_ hL
  have:ZcG ops [] b = b:=by
   unfold ZcG hid
   apply List.ext_getElem<;>simp
  rwa [this] at ha
 |succ n ih=>
  intro U T' ls listed b h ρ w ca hn hnd hU hT hl ht hla hTU hM1 hdn e0 hR ha hL
  rw[show n + 1 + g0 = (n + g0) + 1 by omega]
  constructor
  ·intro hr0
   exfalso
   by_cases hUe:U = []
   ·subst hUe
    cases T' with
    |nil=>simp at hn
    |cons k ks=>
     simp only[Zj1,TP.nums,Bool.and_eq_true,beq_iff_eq,Z4] at ht
     rw[hr0] at ht;cases ht.1
   ·obtain ⟨i,hi,hmin⟩:=Zqx hUe
    obtain ⟨hiL,hun,v,hv,⟨o,ho,_,_⟩,_⟩:=hU i hi
    obtain ⟨oi,ho',haf,_⟩:=hB.after i hiL
    have:i∈Region.ready md ops listed:=mem_ready.2 ⟨hun,oi,ho',fun e he hb=>by
     obtain ⟨h1,h2⟩:=haf e he hb
     have hlt:i < ops.size:=Zb9 ho'
     refine hl e.on (by omega) (fun hm=>?_) (fun hm=>h2 (Zu1 hT hm)) (hM i hiL oi ho' e he hb)
     have:=hmin _ hm
     omega⟩
    rw[hr0] at this;cases this
  ·intro i hi
   have hiun:=(mem_ready.1 hi).1
   have noReach:∀ j,j∈U→¬Reach md ops i j:=fun j hj hre=>by
    have:=Ztx (ZpV hdn hi hre)
    rw[(hU j hj).2.1] at this;cases this
   by_cases hiU:i∈U
   ·obtain ⟨hiL,hun,v,hv,⟨o,ho,hg,hq⟩,hs⟩:=hU i hiU
    obtain ⟨oi,ho',haf,hself⟩:=hB.after i hiL
    rw[ho] at ho';cases ho'
    have hclear:Clear ops U o:=fun j hj d hd=>by
     by_cases hji:j = i
     ·subst hji
      unfold Zbx at hd
      rw[ho] at hd
      exact hself d hd
     ·obtain ⟨oj,hoj,_⟩:=hB.after j (hU j hj).1
      unfold Zbx at hd
      rw[hoj] at hd
      rcases hB.apart j (hU j hj).1 i (.inl hiL) (fun e=>hji e.symm) oj o hoj ho with hre |hap
      ·exact absurd hre (noReach j hj)
      ·exact (Zid hap).1 d hd
    unfold wpOpIn
    rw[ho]
    simp only
    rw[if_pos (by unfold Region.wanted;rw[hg])]
    refine (ZvU hR ha ((Zlr (hclear.evals b)) ▸ hq) fun ρ' w' ca' ev hR' ha'=>?_)
    refine ih (U.erase i) T' ls _ b h ρ' w' ca' (by rw[List.length_erase_of_mem hiU];have:=List.length_pos_of_mem hiU;omega) (hnd.erase i) (fun j hj=>?_) hT (fun j hj h1 h2 h3=>?_) (by rw[Zqs hiU hnd];exact ht) hla (fun h=>by rw[hTU h] at hiU;cases hiU) (by rw[Zqs hiU hnd];exact hM1) (hdn.add hi) (e0.trans ev) hR' (ha'.weak (Zg9 (by rw[Zba,ZcF,ZcF]) fun t ht=>?_)) hL
    ·obtain ⟨hji,hjU⟩:=hnd.mem_erase_iff.1 hj
     obtain ⟨a1,a2,a3⟩:=hU j hjU
     exact ⟨a1,by rw[getD_set_ne true (Ne.symm hji)];exact a2,a3⟩
    ·by_cases hji:j = i
     ·subst hji;exact ZjP hun
     ·exact ZgX (hl j hj (fun hm=>h1 (hnd.mem_erase_iff.2 ⟨hji,hm⟩)) h2 h3)
    ·rw[ZcF] at ht
     cases hb:hid ops (U.erase i) t with
     |true=>left;exact Zib hb
     |false=>
      right
      rw[Zed hb,ZS (by rw[ZcF];exact ht)]
      by_cases hd:o.dst = some t
      ·rw[if_pos hd];exact (hs t (by unfold Zbx;rw[ho];exact hd) ht).symm
      ·rw[if_neg hd]
       refine Zed ?_
       cases hb2:hid ops U t with
       |false=>rfl
       |true=>
        obtain ⟨j,hj,hjd⟩:=hid_iff.1 hb2
        by_cases hji:j = i
        ·subst hji
         unfold Zbx at hjd
         rw[ho] at hjd
         exact absurd hjd hd
        ·rw[hid_iff.2 ⟨j,hnd.mem_erase_iff.2 ⟨hji,hj⟩,hjd⟩] at hb;cases hb
   ·have hi2:=ZpW (U:=U) hi hiU
    cases T' with
    |nil=>
     have hU0:=hTU rfl
     rw[hU0] at hn
     simp at hn
    |cons k ks=>
     obtain ⟨k,pk⟩:=k
     simp only[Zj1,TP.nums,Bool.and_eq_true,beq_iff_eq] at ht
     obtain ⟨hr,ht'⟩:=ht
     have hks:ks = []→U = []:=fun hk=>by
      subst hk
      have hpk:pk = []:=by simpa[ZhX] using hla
      cases U with
      |nil=>rfl
      |cons j U'=>
       exfalso
       rcases hB.pend k pk (hT (k,pk) (by simp)).1 j (hU j (by simp)).1 with h |h
       ·rw[hpk] at h;cases h
       ·refine noReach j (by simp) ?_
        rw[hr] at hi2
        obtain rfl:i = k:=by simpa using hi2
        exact h
     have hla':ZhX ks = true:=by
      cases ks with
      |nil=>rfl
      |cons y l=>simpa[ZhX] using hla
     rw[hr] at hi2
     obtain rfl:i = k:=by simpa using hi2
     obtain ⟨o,ho,hL⟩:=hL
     have hiT:i∈Tl:=(hT (i,pk) (by simp)).2
     have hap:∀ j∈U,∃ oj,ops[j]? = some oj∧clr ops oj o = true:=fun j hj=>by
      obtain ⟨oj,hoj,_⟩:=hB.after j (hU j hj).1
      refine ⟨oj,hoj,?_⟩
      rcases hB.apart j (hU j hj).1 i (.inr hiT) (fun e=>hiU (e ▸ hj)) oj o hoj ho with hre |hap
      ·exact absurd hre (noReach j hj)
      ·exact hap
     have hclear:Clear ops U o:=fun j hj d hd=>by
      obtain ⟨oj,hoj,h1⟩:=hap j hj
      unfold Zbx at hd
      rw[hoj] at hd
      exact (Zid h1).1 d hd
     have hpend:∀ j∈U,∀ v,(j,v)∈ls→(j,v)∈ZbU pk ls:=fun j hj v hv=>by
      refine pendAfter_mem.2 ⟨hv,?_⟩
      rcases hB.pend i pk (hT (i,pk) (by simp)).1 j (hU j hj).1 with h |h
      ·exact h
      ·exact absurd h (noReach j hj)
     have dst_ne:∀ j∈U,∀ d,Zbx ops j = some d→o.dst≠some d:=fun j hj d hd=>by
      obtain ⟨oj,hoj,h1⟩:=hap j hj
      unfold Zbx at hd
      rw[hoj] at hd
      exact (Zid h1).2 d hd
     have next:∀ (v:AVal) (h':Za) (ρ':Env) (w':World) (ca':Act),Evo ρ h w ρ' h' w'→Rel ρ' h' w'→AR G ρ' h' w' (Zh (ZcG ops U b) o.dst v) ca'→
       (∀ r∈ZbU pk ls,HoldsAt P ops r (Zh b o.dst v) h')→Zfj P ops C ks (ZbU pk ls) (Zh b o.dst v) h'→
       wpAnyIn (FW G.ro) 0 P md ops (Post G ρ0 h0 w0 Q) (n + g0) (listed.setIfInBounds i true) ca' w':=by
      intro v h' ρ' w' ca' ev hR' ha' hH hL'
      refine ih U ks _ _ (Zh b o.dst v) h' ρ' w' ca' (by simp at hn;omega) hnd (fun j hj=>?_) (fun x hx=>hT x (by simp[hx])) (fun j hj h1 h2 h3=>?_) (by rw[Zqr];exact ht') hla' hks (by rw[Zqr];exact hM1) (hdn.add hi) (e0.trans ev) hR' (ha'.weak (Zg9 (by rw[Zba,ZcF,ZcF,Zba]) fun t ht=>?_)) hL'
      ·obtain ⟨a1,a2,u,a3,a4,a5⟩:=hU j hj
       have hji:j≠i:=fun e=>hiU (e ▸ hj)
       refine ⟨a1,by rw[getD_set_ne true (Ne.symm hji)];exact a2,u,hpend j hj u a3,hH _ (hpend j hj u a3),fun d hd hlt=>?_⟩
       rw[Zba] at hlt
       rw[ZS hlt,if_neg (dst_ne j hj d hd)]
       exact a5 d hd hlt
      ·by_cases hji:j = i
       ·subst hji;exact ZjP hiun
       ·exact ZgX (hl j hj h1 (by simp only[TP.nums,List.mem_cons,not_or];exact ⟨hji,h2⟩) h3)
      ·rw[ZcF,Zba] at ht
       cases hb:hid ops U t with
       |true=>left;exact Zib hb
       |false=>
        right
        rw[Zed hb,ZS (by rw[ZcF];exact ht),ZS ht,Zed hb]
     unfold wpOpIn
     rw[ho]
     simp only
     rcases hL with ⟨hw,hK⟩ | ⟨hw,hH,hL⟩
     ·rw[if_pos (Zen ha (by rw[hclear.want];exact hw))]
      refine (ZvT hR ha ((ZxU (hclear.evals b)) ▸ hK) fun ρ' h' w' v ca' ev hR' ha' ⟨hH,hL⟩=>?_)
      exact next v h' ρ' w' ca' ev hR' ha' hH hL
     ·rw[if_neg (by rw[Zen ha (by rw[hclear.want];exact hw)];simp)]
      refine ⟨fun _ _=>trivial,?_⟩
      exact next Zc4 h ρ w _ (.refl ..) hR (ha.put (.lit undef) _) hH hL
def ZiK (P:Program) (ops:Array Oper) (Q:List AVal→Za→Prop) (T:TP) (h:Za):List Nat→List (Nat×AVal)→List AVal→Prop
 | [],ls,b=>(∀ r∈ls,HoldsAt P ops r b h∧∀ d,Zbx ops r.1 = some d→d < b.length→Z2 b d = r.2)∧Zfj P ops Q T ls b h
 |i :: is,ls,b=>∃ o v,ops[i]? = some o∧ZiK P ops Q T h is (ls++[(i,v)]) (Zh b o.dst v)
def ZjW (ops:Array Oper) (F L:List Nat) (T:TP):Bool:=
 Nat.beq (F.length + L.length + T.length) ops.size && ZjC ops && Zgb .any ops F (Zbf ops) && Zmz .any ops (Zfc .any ops ops.size) F L T && ZgF .any ops T.nums (Z4 (Z4 (Zbf ops) F) L) && L.all fun i=>!F.contains i
theorem Zqu {ops:Array Oper} {Q:List AVal→Za→Prop} {T:TP} {h:Za}:∀ (is:List Nat) (ls:List (Nat×AVal)) (b:List AVal),ZiK P ops Q T h is ls b→
  ∃ ls' b',ZiK P ops Q T h [] ls' b'∧ls'.map (·.1) = ls.map (·.1)++is∧b'.length = b.length∧∀ t,(∀ i∈is,Zbx ops i≠some t)→Z2 b' t = Z2 b t
 | [],ls,b,hq=>⟨ls,b,hq,by simp,rfl,fun _ _=>rfl⟩
 |i :: is,ls,b,hq=>by
  obtain ⟨o,v,ho,hq⟩:=hq
  obtain ⟨ls',b',h1,h2,h3,h4⟩:=Zqu is _ _ hq
  refine ⟨ls',b',h1,by rw[h2];simp,by rw[h3,Zba],fun t ht=>?_⟩
  rw[h4 t (fun j hj=>ht j (by simp[hj]))]
  refine Zkl fun e he heq=>?_
  subst heq
  refine ht i (by simp) ?_
  unfold Zbx;rw[ho];exact he
theorem Z4z {id:Nat} {ops:Array Oper} {Q:AQ} {a b:List AVal} {F L:List Nat} {T:TP} (hm:P.follows .mixedOrders = true) (hnp:∀ c a h,¬Q (.panic c) a h) (hB:ZjW ops F L T = true)
  (hFR:ZiL P ops F a b) (hQ:ZiK P ops (fun b h=>Q .normal b h) T h L [] b):AWp P (.region id ops true) Q a h:=by
 intro G ρ w ca hR ha
 simp only[ZjW,Bool.and_eq_true] at hB
 obtain ⟨⟨⟨⟨⟨hn,hs⟩,hF⟩,hLo⟩,hT⟩,hdis⟩:=hB
 have hn:=Nat.eq_of_beq_eq_true hn
 have hL:=Zmy hLo
 refine wpIn_region_any hm ?_
 obtain ⟨hR1,e1⟩:=hR.like (w':={ w with drawn:=w.drawn + 1}) ⟨rfl,rfl,rfl⟩ rfl
 show wpAnyIn (FW G.ro) 0 P .any ops (Post G ρ h w Q) ops.size (Zbf ops) ca { w with drawn:=w.drawn + 1}
 rw[show ops.size = (L.length + T.length) + F.length by omega]
 have hm0:∀ k,(Zbf ops).getD k false = false:=fun k=>by
  simp only[Zbf,Array.getD_eq_getD_getElem?,Array.getElem?_replicate]
  split<;>rfl
 have hd0:Down .any ops (Zbf ops):=fun k o e ho hk=>by rw[hm0] at hk;cases hk
 refine Zm7 (G:=G) (Q:=Post G ρ h w Q) (ρ:=ρ) (h:=h) (w:={ w with drawn:=w.drawn + 1}) hs (fun c ca w hq=>by obtain ⟨_,_,_,_,_,_,hq⟩:=hq;exact hnp _ _ _ hq) F (Zbf ops) a b ca _ hF hFR (ha.evo e1) fun ca1 ha1 hsz=>?_
 obtain ⟨ls,b',⟨hH,hLO⟩,h2,h3,h4⟩:=Zqu L [] b hQ
 simp only[List.map_nil,List.nil_append] at h2
 have hget:∀ k,k < ops.size→(Z4 (Zbf ops) F).getD k true = decide (k∈F):=fun k hk=>by
  rw[Array.getD_eq_getD_getElem?,ZfV]
  simp only[Zbf,Array.size_replicate,Array.getElem?_replicate,hk,and_true]
  by_cases hkF:k∈F<;>simp[hkF]
 have hget':∀ k,k < ops.size→(Z4 (Zbf ops) F).getD k false = decide (k∈F):=fun k hk=>by
  rw[Array.getD_eq_getD_getElem?,ZfV]
  simp only[Zbf,Array.size_replicate,Array.getElem?_replicate,hk,and_true]
  by_cases hkF:k∈F<;>simp[hkF]
 refine Z22 (G:=G) (ρ0:=ρ) (h0:=h) (w0:=w) hL (L.length + T.length) L T ls (Z4 (Zbf ops) F) b' h ρ _ ca1 rfl hL.nd (fun i hi=>?_) (fun x hx=>⟨hx,Zu0 hx⟩) (fun j hj h5 h6=>?_) hT (ZjQ hF hd0) e1 hR1 (ha1.weak (Zg9 (by rw[ZcF,h3]) fun t ht=>?_)) hLO
 ·have hmem:i∈ls.map (·.1):=by rw[h2];exact hi
  obtain ⟨r,hr,rfl⟩:=List.mem_map.1 hmem
  obtain ⟨h5,h6⟩:=hH r hr
  obtain ⟨oi,ho,_⟩:=hL.after r.1 hi
  refine ⟨hi,?_,r.2,hr,h5,h6⟩
  rw[hget r.1 (Zb9 ho)]
  have:=List.all_eq_true.1 hdis r.1 hi
  simpa using this
 ·rw[hget' j hj]
  rcases hL.cover j hj with h |h |h
  ·simpa using h
  ·exact absurd h h5
  ·exact absurd h h6
 ·cases hb:hid ops L t with
  |true=>left;exact Zib hb
  |false=>
   right
   rw[Zed hb]
   exact (h4 t fun i hi he=>by rw[hid_iff.2 ⟨i,hi,he⟩] at hb;cases hb).symm
def ZjV (ops:Array Oper) (F L:List Nat) (T:TP) (M:List Nat):Bool:=
 Nat.beq (F.length + L.length + T.length + M.length) ops.size && ZjC ops && Zgb .any ops F (Zbf ops) && Zmz .any ops (Zfc .any ops ops.size) (F++M) L T && Zj1 .any ops T.nums (Z4 (Z4 (Zbf ops) F) L) && (L.all fun i=>!F.contains i)
  && !T.isEmpty && ZhX T && (L.all fun i=>match ops[i]? with
   |some oi=>oi.after.toList.all fun e=>!(Region.binds .any e) || !M.contains e.on
   |none=>true) && Zj0 .any ops (F++L++T.nums) M && ZjM .any ops M (Z4 (Z4 (Z4 (Zbf ops) F) L) T.nums)
  && Region.ready .any ops (Z4 (Z4 (Z4 (Z4 (Zbf ops) F) L) T.nums) M) == []
theorem Z4y {id:Nat} {ops:Array Oper} {Q:AQ} {a b:List AVal} {F L M:List Nat} {T:TP} (hm:P.follows .mixedOrders = true) (hnp:∀ c a h,¬Q (.panic c) a h) (hB:ZjV ops F L T M = true)
  (hFR:ZiL P ops F a b) (hQ:ZiK P ops (fun b h=>Zej P ops [] [] h (fun a' _=>Q .normal a' h) M b fun _=>none) T h L [] b):AWp P (.region id ops true) Q a h:=by
 intro G ρ w ca hR ha
 simp only[ZjV,Bool.and_eq_true] at hB
 obtain ⟨⟨⟨⟨⟨⟨⟨⟨⟨⟨⟨hn,hs⟩,hF⟩,hLo⟩,hT⟩,hdis⟩,hne⟩,hla⟩,haf⟩,hW⟩,hHd⟩,hend⟩:=hB
 have hn:=Nat.eq_of_beq_eq_true hn
 have hL:=Zmy hLo
 refine wpIn_region_any hm ?_
 obtain ⟨hR1,e1⟩:=hR.like (w':={ w with drawn:=w.drawn + 1}) ⟨rfl,rfl,rfl⟩ rfl
 show wpAnyIn (FW G.ro) 0 P .any ops (Post G ρ h w Q) ops.size (Zbf ops) ca { w with drawn:=w.drawn + 1}
 rw[show ops.size = (L.length + T.length + M.length) + F.length by omega]
 have hm0:∀ k,(Zbf ops).getD k false = false:=fun k=>by
  simp only[Zbf,Array.getD_eq_getD_getElem?,Array.getElem?_replicate]
  split<;>rfl
 have hd0:Down .any ops (Zbf ops):=fun k o e ho hk=>by rw[hm0] at hk;cases hk
 refine Zm7 (G:=G) (Q:=Post G ρ h w Q) (ρ:=ρ) (h:=h) (w:={ w with drawn:=w.drawn + 1}) hs (fun c ca w hq=>by obtain ⟨_,_,_,_,_,_,hq⟩:=hq;exact hnp _ _ _ hq) F (Zbf ops) a b ca _ hF hFR (ha.evo e1) fun ca1 ha1 hsz=>?_
 obtain ⟨ls,b',⟨hH,hLO⟩,h2,h3,h4⟩:=Zqu L [] b hQ
 simp only[List.map_nil,List.nil_append] at h2
 have hget:∀ k,k < ops.size→(Z4 (Zbf ops) F).getD k true = decide (k∈F):=fun k hk=>by
  rw[Array.getD_eq_getD_getElem?,ZfV]
  simp only[Zbf,Array.size_replicate,Array.getElem?_replicate,hk,and_true]
  by_cases hkF:k∈F<;>simp[hkF]
 have hget':∀ k,k < ops.size→(Z4 (Zbf ops) F).getD k false = decide (k∈F):=fun k hk=>by
  rw[Array.getD_eq_getD_getElem?,ZfV]
  simp only[Zbf,Array.size_replicate,Array.getElem?_replicate,hk,and_true]
  by_cases hkF:k∈F<;>simp[hkF]
 refine Z21 (G:=G) (ρ0:=ρ) (h0:=h) (w0:=w) (g0:=M.length) (M1:=Z4 (Z4 (Z4 (Zbf ops) F) L) T.nums) (C:=fun b h=>Zej P ops [] [] h (fun a' _=>Q .normal a' h) M b fun _=>none) hL (fun i hi oi hoi e he hb hm=>?_) (fun b h2 ρ2 w2 ca2 hd2 e2 hR2 ha2 hc=>?_) (L.length + T.length) L T ls (Z4 (Zbf ops) F) b' h ρ _ ca1 rfl hL.nd (fun i hi=>?_) (fun x hx=>⟨hx,Zu0 hx⟩) (fun j hj h5 h6 h7=>?_) hT hla (fun h0=>by rw[h0] at hne;cases hne) rfl (ZjQ hF hd0) e1 hR1 (ha1.weak (Zg9 (by rw[ZcF,h3]) fun t ht=>?_)) hLO
 ·have:=List.all_eq_true.1 haf i hi
  rw[hoi] at this
  have:=List.all_eq_true.1 this e (by simpa using he)
  simp only[hb,Bool.not_true,Bool.false_or,Bool.not_eq_true'] at this
  rw[List.contains_eq_mem] at this
  simp only[decide_eq_false_iff_not] at this
  exact this hm
 ·have hok2:HOk h2:=fun i o ho=>hR2.idsObj ho
  have key:=Zrl (P:=P) (h:=h2) (md:=.any) (ops:=ops) (A:=[]) (S:=[]) (F:=F++L++T.nums) (Hd:=M) (M:=Z4 (Z4 (Z4 (Z4 (Zbf ops) F) L) T.nums) M)
   (L:=fun listed a' g=>listed = Z4 (Z4 (Z4 (Z4 (Zbf ops) F) L) T.nums) M∧Q .normal a' h2) (ZhF rfl) hW
   (fun listed a' g hL j hj=>by
    rw[hL.1,eq_of_beq hend] at hj;cases hj) M (Z4 (Z4 (Z4 (Zbf ops) F) L) T.nums) b (fun _=>none) (fun i hi=>hi) rfl hHd hd2
   (fun k hk=>by
    rcases List.mem_append.1 hk with hk |hk
    ·rcases List.mem_append.1 hk with hk |hk
     ·exact ZjH (ZjH (ZjG hk))
     ·exact ZjH (ZjG hk)
    ·exact ZjG hk) (Zs2 (fun a' g h'=>⟨rfl,h'⟩) _ _ _ hc)
  have hI0:HInv G ops [] [] h2 ρ h w (Z4 (Z4 (Z4 (Zbf ops) F) L) T.nums) b (fun _=>none) ρ2 w2 ca2 []:=
   { evo:=by simpa using e2,rel:=by simpa using hR2,ar:=by simpa using ha2,some:=(fun i hi=>by cases hi),all:=(fun i _ hi=>by cases hi),unl:=(fun i hi=>by cases hi),nd:=List.nodup_nil,
     slot:=(fun p i D d hp=>by cases hp),names:=fun v hv=>by
      obtain ⟨i,hi,rfl⟩:=List.getElem_of_mem hv
      exact (ha2.slot i hi).ids
     shut:=fun i hi=>by cases hi}
  have:=Zin (G:=G) (P:=P) (md:=.any) (ops:=ops) (A:=[]) (S:=[]) (Hd:=M) (g0:=0) (Q:=Q) (ρ0:=ρ) (h0:=h) (w0:=w) hok2 (ZvV (nt:=0) rfl) (ZhF rfl)
   (fun listed a' g ρ' w' ca' od hL hI=>by
    have hod:od = []:=by
     cases od with
     |nil=>rfl
     |cons x l=>exact absurd (hI.some x (by simp)).2 (by simp)
    subst hod
    obtain ⟨rfl,hq⟩:=hL
    exact ⟨eq_of_beq hend,ρ',h2,a',by simpa using hI.evo,by simpa using hI.rel,by simpa using hI.ar,hq⟩) M.length _ _ _ ρ2 w2 ca2 [] hd2 key hI0 (fun i hi=>by cases hi)
  simpa using this
 ·have hmem:i∈ls.map (·.1):=by rw[h2];exact hi
  obtain ⟨r,hr,rfl⟩:=List.mem_map.1 hmem
  obtain ⟨h5,h6⟩:=hH r hr
  obtain ⟨oi,ho,_⟩:=hL.after r.1 hi
  refine ⟨hi,?_,r.2,hr,h5,h6⟩
  rw[hget r.1 (Zb9 ho)]
  have:=List.all_eq_true.1 hdis r.1 hi
  simpa using this
 ·rw[hget' j hj]
  rcases hL.cover j hj with h |h |h
  ·rcases List.mem_append.1 h with h |h
   ·simpa using h
   ·exact absurd h h7
  ·exact absurd h h5
  ·exact absurd h h6
 ·cases hb:hid ops L t with
  |true=>left;exact Zib hb
  |false=>
   right
   rw[Zed hb]
   exact (h4 t fun i hi he=>by rw[hid_iff.2 ⟨i,hi,he⟩] at hb;cases hb).symm
theorem HoldsAt.put {ops:Array Oper} {r:Nat×AVal} {b:List AVal} {h:Za} {d:Option Nat} {v:AVal} (hd:∀ oi,ops[r.1]? = some oi→∀ e,d = some e→e∉oi.looksAt ops) (hh:HoldsAt P ops r b h):HoldsAt P ops r (Zh b d v) h:=by
 obtain ⟨o,ho,hg,hq⟩:=hh
 exact ⟨o,ho,hg,(Zlr (ZuI (ops:=ops) (hd o ho) (a:=b) (v:=v)).1) ▸ hq⟩
def LRd (P:Program) (ops:Array Oper) (Q:List AVal→Za→Prop) (T:TP) (h:Za):List Nat→List (Nat×AVal)→List AVal→Prop
 | [],ls,b=>(∀ r∈ls,HoldsAt P ops r b h)→Zfj P ops Q T ls b h
 |i :: is,ls,b=>∃ o v,ops[i]? = some o∧o.guard = none∧Zcq P o b h v∧LRd P ops Q T h is (ls++[(i,v)]) (Zh b o.dst v)
def ZjA (ops:Array Oper):List Nat→Bool
 | []=>true
 |i :: is=>(is.all fun j=>match ops[i]?,ops[j]? with
    |some oi,some oj=>match oj.dst with
     |some d=>!(oi.looksAt ops).contains d && !(oi.dst == some d)
     |none=>true
    |_,_=>false) && (match ops[i]? with
    |some oi=>match oi.dst with
     |some d=>!(oi.looksAt ops).contains d
     |none=>true
    |none=>false) && ZjA ops is
theorem Zqv {ops:Array Oper} {Q:List AVal→Za→Prop} {T:TP} {h:Za}:∀ (is:List Nat) (ls:List (Nat×AVal)) (b:List AVal),ZjA ops is = true→
  (∀ r∈ls,(HoldsAt P ops r b h∧∀ d,Zbx ops r.1 = some d→d < b.length→Z2 b d = r.2)∧∀ j∈is,∀ oi oj,ops[r.1]? = some oi→ops[j]? = some oj→∀ d,oj.dst = some d→d∉oi.looksAt ops∧oi.dst≠some d)→
  LRd P ops Q T h is ls b→ZiK P ops Q T h is ls b
 | [],ls,b,hB,hls,hq=>⟨fun r hr=>(hls r hr).1,hq fun r hr=>(hls r hr).1.1⟩
 |i :: is,ls,b,hB,hls,hq=>by
  obtain ⟨o,v,ho,hg,hv,hq⟩:=hq
  simp only[ZjA,Bool.and_eq_true] at hB
  obtain ⟨⟨h1,h2⟩,h3⟩:=hB
  refine ⟨o,v,ho,Zqv is _ _ h3 (fun r hr=>?_) hq⟩
  rcases List.mem_append.1 hr with hr |hr
  ·obtain ⟨⟨a1,a2⟩,a3⟩:=hls r hr
   refine ⟨⟨a1.put fun oi hoi e he=>(a3 i (by simp) oi o hoi ho e he).1,fun d hd hlt=>?_⟩,fun j hj=>a3 j (by simp[hj])⟩
   rw[Zba] at hlt
   rw[ZS hlt,if_neg]
   ·exact a2 d hd hlt
   ·intro he
    unfold Zbx at hd
    cases hoi:ops[r.1]? with
    |none=>rw[hoi] at hd;cases hd
    |some oi=>
     rw[hoi] at hd
     exact (a3 i (by simp) oi o hoi ho d he).2 hd
  ·rw[List.mem_singleton.1 hr]
   rw[ho] at h2
   refine ⟨⟨HoldsAt.put (fun oi hoi e he=>?_) ⟨o,ho,hg,hv⟩,fun d hd hlt=>?_⟩,fun j hj oi oj hoi hoj d hd=>?_⟩
   ·simp only at hoi
    rw[ho] at hoi;cases hoi
    simp only[he] at h2;simpa using h2
   ·rw[Zba] at hlt
    unfold Zbx at hd
    simp only[ho,Option.bind_some] at hd
    rw[ZS hlt,if_pos hd]
   ·simp only at hoi
    rw[ho] at hoi;cases hoi
    have:=List.all_eq_true.1 h1 j hj
    rw[ho,hoj] at this
    simp only[hd,Bool.and_eq_true,Bool.not_eq_true'] at this
    exact ⟨by simpa using this.1,by simpa using this.2⟩
def ZgZ:Op→Bool
 | .move _ | .assign _ | .pick _ _ _ | .nilCheck _ | .fieldAddr _ _ _ | .field _ _ _ | .indexAddr _ _ _ | .index _ _ _ | .binOp _ _ _ _ _ | .unOp _ _ _ | .extract _ _ | .makeFunc _ _ _ | .build _ _ | .typeAssert _ _ _ _ | .makeInterface _ _=>true
 |_=>false
theorem Z4R {o:Oper} {a:List AVal} {h h':Za} {v:AVal} (hf:ZgZ o.op = true) (hq:Zcq P o a h v):Zcq P o a h' v:=by
 obtain ⟨dst,op,ty,pos,after,guard⟩:=o
 unfold Zcq at hq⊢
 cases op with
 |pick c x y=>
  simp only[AOp] at hq⊢
  split at hq
  ·exact ⟨hq.1,by first |trivial |rfl⟩
  ·exact hq.elim
 |nilCheck x=>
  simp only[AOp] at hq⊢
  split at hq<;>first |exact ⟨hq.1,by first |trivial |rfl⟩ |exact hq.elim
 |_=>first
  | (simp[ZgZ] at hf;done)
  | (simp only[AOp,and_true] at hq⊢;exact hq)
end Go.Proofs.YtogaiomakhapmaaGreat.AL
