import Derived.Calls
import Derived.Deep.Quiet
import Derived.MapKept
import Derived.OrdersIn
import Derived.RangeFuncCalls
import Derived.RangeFuncLeaves
import Derived.Laws.Sem
import Derived.Laws.Cells
import Derived.Laws.Strings
import Derived.Laws.StructEq
import Derived.Laws.Slices
import Derived.ArgAppend
import Derived.Laws.AppendOwn
import Derived.Lib.ConvBytes
import Derived.Laws.BytesArg
import Derived.Laws.Tables
import Derived.Maps.RangeRun
set_option linter.unusedVariables false
set_option linter.unusedSimpArgs false
namespace Go.Proofs.YtogaiomakhapmaaGreat.AL
open Go
def Zq0:List (Nat×(Array Value→Prop)):=[]
end Go.Proofs.YtogaiomakhapmaaGreat.AL
namespace Go.Proofs.YtogaiomakhapmaaGreat.AL
open Go
inductive AVal where
 |any
 |lit (v:Value)
 |ptr (b off:Nat)
 |sl (k b off len:Nat)
 |rop (cs:List AVal)
 |ros (cs:List AVal) (len:Nat)
 |agg (vs:List AVal)
 |tup (vs:List AVal)
 |fn (f:Fn) (first captured:List AVal)
 |ifc (t:TypeId) (v:AVal)
 |map (b:Nat)
 |yld (b:Nat)
 deriving Inhabited
structure Loc where
 blk:Nat
 base:Nat
 size:Nat
 more:Nat
inductive MKey where
 |str
 |bool
 |int (k:IntKind)
def MKey.desc:MKey→TypeDesc
 | .str=>.string
 | .bool=>.bool
 | .int k=>.int k
inductive AObj where
 |dead
 |cells (cs:List AVal)
 |pred (R:Obj→Prop)
 |map (d:MKey) (es:List (Value×AVal))
 |sit (s:ByteArray) (pos:Nat)
 |mapS (d:MKey) (es:List (Value×AVal)) (bs:List Nat) (clock:Nat)
 |mit (mb since:Nat) (seen:List Nat) (c0:Nat)
 |mapU (d:MKey) (es:List (Value×AVal))
 |bld (T:TypeId) (k:Option Nat) (n:Nat)
 |buf (T:TypeId) (bs:List UInt8)
 |loop (st:LoopState) (pend:Option Code) (a:List AVal) (ps:Array Tmp) (assign body:Code)
abbrev Za:=List AObj
abbrev Env:=Nat→Loc
def Zb5 (ρ:Env) (h:Za) (c:Nat):Prop:=∃ (b:Nat) (o:AObj),h[b]? = some o∧o≠AObj.dead∧(ρ b).blk = c
inductive Below (n:Nat):AVal→Prop
 |any:Below n .any
 |lit (u:Value):Below n (.lit u)
 |ptr (b off:Nat) (hb:b < n):Below n (.ptr b off)
 |sl (k b off len:Nat) (hb:b < n):Below n (.sl k b off len)
 |rop (cs:List AVal) (hc:∀ v∈cs,Below n v):Below n (.rop cs)
 |ros (cs:List AVal) (len:Nat) (hc:∀ v∈cs,Below n v):Below n (.ros cs len)
 |agg (vs:List AVal) (hc:∀ v∈vs,Below n v):Below n (.agg vs)
 |tup (vs:List AVal) (hc:∀ v∈vs,Below n v):Below n (.tup vs)
 |fn (f:Fn) (vs ws:List AVal) (hc:∀ v∈vs,Below n v) (hd:∀ v∈ws,Below n v):Below n (.fn f vs ws)
 |ifc (t:TypeId) (v:AVal) (hv:Below n v):Below n (.ifc t v)
 |map (b:Nat) (hb:b < n):Below n (.map b)
 |yld (b:Nat) (hb:b < n):Below n (.yld b)
theorem Below.mono {n m:Nat} (hnm:n≤m) {v:AVal} (hv:Below n v):Below m v:=by
 induction hv with
 |any=>exact .any
 |lit u=>exact .lit u
 |ptr b off hb=>exact .ptr b off (Nat.lt_of_lt_of_le hb hnm)
 |sl k b off len hb=>exact .sl k b off len (Nat.lt_of_lt_of_le hb hnm)
 |rop cs _ ih=>exact .rop cs ih
 |ros cs len _ ih=>exact .ros cs len ih
 |agg vs _ ih=>exact .agg vs ih
 |tup vs _ ih=>exact .tup vs ih
 |fn f vs ws _ _ ih ih'=>exact .fn f vs ws ih ih'
 |ifc t v _ ih=>exact .ifc t v ih
 |map b hb=>exact .map b (Nat.lt_of_lt_of_le hb hnm)
 |yld b hb=>exact .yld b (Nat.lt_of_lt_of_le hb hnm)
inductive VR (ρ:Env) (h:Za) (w:World):AVal→Value→Prop
 |any (u:Value):VR ρ h w .any u
 |lit (u:Value):VR ρ h w (.lit u) u
 |ptr (b off:Nat) (hb:b < h.length):VR ρ h w (.ptr b off) (.pointer (some ⟨(ρ b).blk,(ρ b).base + off,none⟩))
 |sl (k b off len cap:Nat) (hb:b < h.length) (hl:len≤cap) (hc:(ρ b).base + off + cap * k≤(ρ b).size) (hm:k = 1∨1≤(ρ b).more):
   VR ρ h w (.sl k b off len) (.slice (some ⟨(ρ b).blk,(ρ b).base + off,none⟩) len cap)
 |rop (cs:List AVal) (c off:Nat) (C:Array Value) (T:TypeId) (fz:Nat×Nat) (hc:w.heap[c]? = some (.cells C T fz)) (hn:¬Zb5 ρ h c)
   (hs:∀ (i:Nat) (_:i < cs.length),off + i < C.size) (hv:∀ (i:Nat) (hi:i < cs.length),VR ρ h w cs[i] (C.getD (off + i) undef)):
   VR ρ h w (.rop cs) (.pointer (some ⟨c,off,none⟩))
 |slZ (k b off o:Nat) (hb:b < h.length):VR ρ h w (.sl k b off 0) (.slice (some ⟨(ρ b).blk,o,none⟩) 0 0)
 |rosZ (cs:List AVal) (hb:∀ v∈cs,Below h.length v) (a:Option Addr) (cap:Nat):VR ρ h w (.ros cs 0) (.slice a 0 cap)
 |ros (cs:List AVal) (c off len cap:Nat) (C:Array Value) (T:TypeId) (fz:Nat×Nat) (hl:len≤cap) (hc:w.heap[c]? = some (.cells C T fz)) (hn:¬Zb5 ρ h c)
   (hs:∀ (i:Nat) (_:i < cs.length),off + i < C.size) (hv:∀ (i:Nat) (hi:i < cs.length),VR ρ h w cs[i] (C.getD (off + i) undef)):
   VR ρ h w (.ros cs len) (.slice (some ⟨c,off,none⟩) len cap)
 |agg (vs:List AVal) (us:Array Value) (hl:vs.length = us.size) (hv:∀ (i:Nat) (hi:i < vs.length),VR ρ h w vs[i] (us.getD i undef)):VR ρ h w (.agg vs) (.agg us)
 |tup (vs:List AVal) (us:Array Value) (hl:vs.length = us.size) (hv:∀ (i:Nat) (hi:i < vs.length),VR ρ h w vs[i] (us.getD i undef)):VR ρ h w (.tup vs) (.tuple us)
 |fn (f:Fn) (vs ws:List AVal) (us xs:Array Value) (hl:vs.length = us.size) (hl':ws.length = xs.size)
   (hv:∀ (i:Nat) (hi:i < vs.length),VR ρ h w vs[i] (us.getD i undef)) (hw:∀ (i:Nat) (hi:i < ws.length),VR ρ h w ws[i] (xs.getD i undef)):
   VR ρ h w (.fn f vs ws) (.func f us xs)
 |ifc (t:TypeId) (v:AVal) (u:Value) (hv:VR ρ h w v u):VR ρ h w (.ifc t v) (.iface t u)
 |map (b:Nat) (hb:b < h.length):VR ρ h w (.map b) (.map (some (ρ b).blk))
 |yld (b:Nat) (hb:b < h.length):VR ρ h w (.yld b) (.func (.yield (ρ b).blk) #[] #[])
def Same (w w':World):Prop:=w'.os = w.os∧w'.tape = w.tape∧w'.output = w.output
theorem Same.refl (w:World):Same w w:=⟨rfl,rfl,rfl⟩
theorem Same.trans {a b c:World} (x:Same a b) (y:Same b c):Same a c:=⟨y.1.trans x.1,y.2.1.trans x.2.1,y.2.2.trans x.2.2⟩
structure Evo (ρ:Env) (h:Za) (w:World) (ρ':Env) (h':Za) (w':World):Prop where
 ids:h.length≤h'.length
 env:∀ b,b < h.length→ρ' b = ρ b
 size:w.heap.size≤w'.heap.size
 same:Same w w'
 keep:∀ c,c < w.heap.size→¬Zb5 ρ h c→w'.heap[c]? = w.heap[c]?∧¬Zb5 ρ' h' c
 loops:∀ (l:Nat) (r:Loop),w.heap[l]? = some (Obj.loop r)→∃ r':Loop,w'.heap[l]? = some (Obj.loop r')
theorem Evo.refl (ρ:Env) (h:Za) (w:World):Evo ρ h w ρ h w:=⟨Nat.le_refl _,fun _ _=>rfl,Nat.le_refl _,.refl _,fun _ _ hn=>⟨rfl,hn⟩,fun _ r hr=>⟨r,hr⟩⟩
theorem Evo.trans {ρ ρ' ρ'':Env} {h h' h'':Za} {w w' w'':World} (e:Evo ρ h w ρ' h' w') (f:Evo ρ' h' w' ρ'' h'' w''):Evo ρ h w ρ'' h'' w'' where
 ids:=Nat.le_trans e.ids f.ids
 env:=fun b hb=>(f.env b (Nat.lt_of_lt_of_le hb e.ids)).trans (e.env b hb)
 size:=Nat.le_trans e.size f.size
 same:=e.same.trans f.same
 keep:=fun c hc hn=>by
  obtain ⟨h1,h2⟩:=e.keep c hc hn
  obtain ⟨h3,h4⟩:=f.keep c (Nat.lt_of_lt_of_le hc e.size) h2
  exact ⟨h3.trans h1,h4⟩
 loops:=fun l r hr=>let ⟨r',hr'⟩:=e.loops l r hr;f.loops l r' hr'
theorem Zb9 {α:Type} {a:Array α} {i:Nat} {x:α} (h:a[i]? = some x):i < a.size:=(Array.getElem?_eq_some_iff.1 h).1
theorem VR.evo {ρ ρ':Env} {h h':Za} {w w':World} (e:Evo ρ h w ρ' h' w') {v:AVal} {u:Value} (hv:VR ρ h w v u):VR ρ' h' w' v u:=by
 induction hv with
 |any u=>exact .any u
 |lit u=>exact .lit u
 |ptr b off hb=>rw[←e.env b hb];exact .ptr b off (Nat.lt_of_lt_of_le hb e.ids)
 |sl k b off len cap hb hl hc hm=>rw[←e.env b hb] at hc hm⊢;exact .sl k b off len cap (Nat.lt_of_lt_of_le hb e.ids) hl hc hm
 |rop cs c off C T fz hc hn hs _ ih=>
  obtain ⟨h1,h2⟩:=e.keep c (Zb9 hc) hn
  exact .rop cs c off C T fz (h1.trans hc) h2 hs ih
 |slZ k b off o hb=>rw[←e.env b hb];exact .slZ k b off o (Nat.lt_of_lt_of_le hb e.ids)
 |rosZ cs hb a cap=>exact .rosZ cs (fun v hv=>(hb v hv).mono e.ids) a cap
 |ros cs c off len cap C T fz hl hc hn hs _ ih=>
  obtain ⟨h1,h2⟩:=e.keep c (Zb9 hc) hn
  exact .ros cs c off len cap C T fz hl (h1.trans hc) h2 hs ih
 |agg vs us hl _ ih=>exact .agg vs us hl ih
 |tup vs us hl _ ih=>exact .tup vs us hl ih
 |fn f vs ws us xs hl hl' _ _ ih ih'=>exact .fn f vs ws us xs hl hl' ih ih'
 |ifc t v u _ ih=>exact .ifc t v u ih
 |map b hb=>rw[←e.env b hb];exact .map b (Nat.lt_of_lt_of_le hb e.ids)
 |yld b hb=>rw[←e.env b hb];exact .yld b (Nat.lt_of_lt_of_le hb e.ids)
def Z9Z (ρ:Env) (h:Za) (w:World) (cs:List AVal) (l:Loc):Prop:=
 ∃ C T fz,w.heap[l.blk]? = some (.cells C T fz)∧(∀ i,i < C.size + l.more→(decide (fz.1≤i) && decide (i < fz.2)) = false)∧C.size = l.size∧l.base + cs.length≤C.size∧
   ∀ (i:Nat) (hi:i < cs.length),VR ρ h w cs[i] (C.getD (l.base + i) undef)
def Zs1 (ρ:Env) (h:Za) (w:World) (d:MKey) (es:List (Value×AVal)) (l:Loc):Prop:=
 ∃ C clock,w.heap[l.blk]? = some (.map C clock)∧MapKept.Stamped C clock∧C.size = es.length∧∀ (i:Nat) (hi:i < es.length),(C.getD i default).key = es[i].1∧MapKept.IsKey d.desc es[i].1∧VR ρ h w es[i].2 (C.getD i default).val
def Z8P (ρ:Env) (h:Za) (w:World) (st:LoopState) (pend:Option Code) (a:List AVal) (ps:Array Tmp) (assign body:Code) (l:Loc):Prop:=
 ∃ r:Loop,w.heap[l.blk]? = some (.loop r)∧r.state = st∧r.pending = pend∧r.params = ps∧r.assign = assign∧r.body = body∧a.length = r.tmps.size∧∀ (i:Nat) (hi:i < a.length),VR ρ h w a[i] (r.tmps.getD i undef)
def Z8O (ρ:Env) (h:Za) (w:World) (d:MKey) (es:List (Value×AVal)) (bs:List Nat) (clock:Nat) (l:Loc):Prop:=
 ∃ C,w.heap[l.blk]? = some (.map C clock)∧MapKept.Stamped C clock∧bs = C.toList.map (·.born)∧C.size = es.length∧∀ (i:Nat) (hi:i < es.length),(C.getD i default).key = es[i].1∧MapKept.IsKey d.desc es[i].1∧VR ρ h w es[i].2 (C.getD i default).val
def ZAa (ρ:Env) (h:Za) (w:World) (T:TypeId) (k:Option Nat) (n:Nat) (l:Loc):Prop:=
 l.base = 0∧∃ p v,w.heap[l.blk]? = some (.cells #[p,v] T (0,0))∧(p = .pointer none∨p = .pointer (some ⟨l.blk,0,none⟩))∧match k with
  |none=>v = .slice none 0 0∧n = 0
  |some k=>k < h.length∧v = .slice (some ⟨(ρ k).blk,0,none⟩) n (ρ k).size
def Zlp (w:World) (T:TypeId) (bs:List UInt8) (l:Loc):Prop:=
 l.base = 0∧∃ C fz,w.heap[l.blk]? = some (.cells C T fz)∧C.size = l.size∧fz.2≤bs.length∧bs.length≤l.size∧l.size≤maxLen∧C.toList.take bs.length = bs.map fun b=>.int .u8 b.toNat
def ObjR (ρ:Env) (h:Za) (w:World) (l:Loc):AObj→Prop
 | .dead=>True
 | .cells cs=>Z9Z ρ h w cs l
 | .pred R=>∃ o,w.heap[l.blk]? = some o∧R o
 | .map d es=>Zs1 ρ h w d es l
 | .sit s pos=>w.heap[l.blk]? = some (.stringIter s pos)∧l.base = 0
 | .mapS d es bs clock=>Z8O ρ h w d es bs clock l
 | .mit mb since seen c0=>mb < h.length∧l.base = 0∧w.heap[l.blk]? = some (.mapIter (some (ρ mb).blk) since seen.toArray c0)
 | .mapU d es=>∃ es',es'.Perm es∧Zs1 ρ h w d es' l
 | .bld T k n=>ZAa ρ h w T k n l
 | .buf T bs=>Zlp w T bs l
 | .loop st pend a ps assign body=>Z8P ρ h w st pend a ps assign body l
def Glob (ρ:Env) (h:Za) (w:World):Prop:=∀ g∈Zq0,¬Zb5 ρ h g.1∧∃ C T fz,w.heap[g.1]? = some (.cells C T fz)∧g.2 C
theorem Glob.evo {ρ ρ':Env} {h h':Za} {w w':World} (e:Evo ρ h w ρ' h' w') (hg:Glob ρ h w):Glob ρ' h' w':=fun g hm=>by
 obtain ⟨h1,C,T,fz,h2,h3⟩:=hg g hm
 obtain ⟨h4,h5⟩:=e.keep g.1 (Zb9 h2) h1
 exact ⟨h5,C,T,fz,h4.trans h2,h3⟩
structure Rel (ρ:Env) (h:Za) (w:World):Prop where
 glob:Glob ρ h w
 obj:∀ b o,h[b]? = some o→ObjR ρ h w (ρ b) o
 inj:∀ b b' o o',h[b]? = some o→h[b']? = some o'→o≠ .dead→o'≠ .dead→(ρ b).blk = (ρ b').blk→b = b'
structure Rnd where
 ro:Option Nat
 lo:Nat
 base:List Deferred:=[]
abbrev FW (ro:Option Nat):Fence:={ fn:=fun _=>True,depth:=none,alive:=false,round:=ro}
theorem ZgY (ro:Option Nat) (n:Nat):(FW ro).room n:=fun _ h=>by simp at h
theorem ZmL {ro:Option Nat} {n:Nat} {P:Program} {f:FuncId} {args:Array Value} {w:World} {R:Ending→World→Prop} (h:Calls P f args w R):CallsIn (FW ro) n P f args w R:=by
 cases ro with
 |none=>exact callsIn_wide.2 h
 |some l=>exact CallsIn.inRound l (callsIn_wide.2 h)
def mkD (c:Nat):Deferred:={ target:=.collected c,args:=#[]}
structure ARest (G:Rnd) (ρ:Env) (h:Za) (w:World) (ds:List Deferred):Prop where
 all:∃ ms,ds = ms++G.base∧ms.Nodup∧∀ d∈ms,d∉G.base∧∃ c,d = mkD c∧G.lo≤c∧w.heap[c]? = some (.deferred (some []))∧¬Zb5 ρ h c
 old:∀ c,mkD c∈G.base→c < w.heap.size
 round:∀ l,G.ro = some l→∃ r:Loop,w.heap[l]? = some (Obj.loop r)
 lo:G.lo≤w.heap.size
theorem ARest.evo {G:Rnd} {ρ ρ':Env} {h h':Za} {w w':World} (e:Evo ρ h w ρ' h' w') {ds:List Deferred} (hr:ARest G ρ h w ds):ARest G ρ' h' w' ds where
 all:=by
  obtain ⟨ms,h1,h2,h3⟩:=hr.all
  refine ⟨ms,h1,h2,fun d hd=>?_⟩
  obtain ⟨h0,c,h4,h5,h6,h7⟩:=h3 d hd
  obtain ⟨h8,h9⟩:=e.keep c (Zb9 h6) h7
  exact ⟨h0,c,h4,h5,h8.trans h6,h9⟩
 old:=fun c hc=>Nat.lt_of_lt_of_le (hr.old c hc) e.size
 round:=fun l hl=>let ⟨r,hr⟩:=hr.round l hl;e.loops l r hr
 lo:=Nat.le_trans hr.lo e.size
theorem ARest.more {G:Rnd} {ρ ρ':Env} {h h':Za} {w:World} {ds:List Deferred} (hr:ARest G ρ h w ds) (ho:∀ c,¬Zb5 ρ h c→¬Zb5 ρ' h' c):ARest G ρ' h' w ds:=
 ⟨let ⟨ms,h1,h2,h3⟩:=hr.all;⟨ms,h1,h2,fun d hd=>let ⟨h0,c,h4,h5,h6,h7⟩:=h3 d hd;⟨h0,c,h4,h5,h6,ho c h7⟩⟩,hr.old,hr.round,hr.lo⟩
theorem ARest.start (ρ:Env) (h:Za) (w:World) (lo:Nat) (hl:lo≤w.heap.size):ARest ⟨none,lo,[]⟩ ρ h w []:=
 ⟨⟨[],rfl,List.nodup_nil,fun d hd=>by simp at hd⟩,fun c hc=>by simp at hc,fun l hl=>(by cases hl),hl⟩
theorem ARest.marked {G:Rnd} {ρ:Env} {h:Za} {w:World} {ds:List Deferred} (hr:ARest G ρ h w ds) (hb:G.base = []):
  ds.Nodup∧∀ d∈ds,∃ c,d = { target:=.collected c,args:=#[]}∧G.lo≤c∧w.heap[c]? = some (.deferred (some []))∧¬Zb5 ρ h c:=by
 obtain ⟨ms,h1,h2,h3⟩:=hr.all
 rw[hb,List.append_nil] at h1
 subst h1
 exact ⟨h2,fun d hd=>(h3 d hd).2⟩
theorem ARest.push {G:Rnd} {ρ:Env} {h:Za} {w:World} {ds:List Deferred} (hr:ARest G ρ h w ds) (e:Evo ρ h w ρ h (w.alloc (.deferred (some [])))) (hn:¬Zb5 ρ h w.heap.size) (hat:(w.alloc (.deferred (some []))).heap[w.heap.size]? = some (.deferred (some []))):
  ARest G ρ h (w.alloc (.deferred (some []))) (mkD w.heap.size :: ds):=by
 have hp:=hr.evo e
 obtain ⟨ms,h1,h2,h3⟩:=hr.all
 obtain ⟨ms',g1,g2,g3⟩:=hp.all
 have hms:ms' = ms:=List.append_cancel_right (g1.symm.trans h1)
 subst hms
 refine ⟨⟨mkD w.heap.size :: ms',by rw[g1];rfl,List.nodup_cons.2 ⟨fun hm=>?_,h2⟩,fun d hd=>?_⟩,hp.old,hp.round,hp.lo⟩
 ·obtain ⟨_,c,hc1,_,hc3,_⟩:=h3 _ hm
  simp only[mkD,Deferred.mk.injEq,Target.collected.injEq,and_true] at hc1
  subst hc1
  have:=Zb9 hc3
  omega
 ·rcases List.mem_cons.1 hd with rfl |hd
  ·exact ⟨fun hb=>by have:=hr.old _ hb;omega,_,rfl,hr.lo,hat,hn⟩
  ·exact g3 d hd
structure AR (G:Rnd) (ρ:Env) (h:Za) (w:World) (a:List AVal) (ca:Act):Prop where
 size:a.length = ca.tmps.size
 slot:∀ (i:Nat) (hi:i < a.length),VR ρ h w a[i] (ca.tmps.getD i undef)
 plain:ARest G ρ h w ca.defers
theorem AR.evo {G:Rnd} {ρ ρ':Env} {h h':Za} {w w':World} (e:Evo ρ h w ρ' h' w') {a:List AVal} {ca:Act} (ha:AR G ρ h w a ca):AR G ρ' h' w' a ca:=
 ⟨ha.size,fun i hi=>(ha.slot i hi).evo e,ha.plain.evo e⟩
def VRs (ρ:Env) (h:Za) (w:World) (vs:List AVal) (us:Array Value):Prop:=
 vs.length = us.size∧∀ (i:Nat) (hi:i < vs.length),VR ρ h w vs[i] (us.getD i undef)
theorem VRs.evo {ρ ρ':Env} {h h':Za} {w w':World} (e:Evo ρ h w ρ' h' w') {vs:List AVal} {us:Array Value} (hv:VRs ρ h w vs us):VRs ρ' h' w' vs us:=
 ⟨hv.1,fun i hi=>(hv.2 i hi).evo e⟩
inductive AEnd where
 |ret (v:AVal)
 |panic (chain:List PanicEntry)
inductive EndR (ρ:Env) (h:Za) (w:World):AEnd→Ending→Prop
 |ret (v:AVal) (u:Value) (hv:VR ρ h w v u):EndR ρ h w (.ret v) (.returned u)
 |panic (c:List PanicEntry):EndR ρ h w (.panic c) (.panicked c)
def ACalls (P:Program) (f:FuncId) (args:List AVal) (h:Za) (R:AEnd→Za→Prop):Prop:=
 ∀ (ρ:Env) (w:World) (us:Array Value),Rel ρ h w→VRs ρ h w args us→
   Calls P f us w fun e w'=>∃ ρ' h' e',Evo ρ h w ρ' h' w'∧Rel ρ' h' w'∧EndR ρ' h' w' e' e∧R e' h'
theorem ACalls.mono {P:Program} {f:FuncId} {args:List AVal} {h:Za} {R R':AEnd→Za→Prop} (hc:ACalls P f args h R) (hr:∀ e h',R e h'→R' e h'):ACalls P f args h R':=
 fun ρ w us hR hv=>(hc ρ w us hR hv).mono fun _ _ ⟨ρ',h',e',h1,h2,h3,h4⟩=>⟨ρ',h',e',h1,h2,h3,hr _ _ h4⟩
abbrev AQ:=Exit→List AVal→Za→Prop
def AWp (P:Program) (c:Code) (Q:AQ) (a:List AVal) (h:Za):Prop:=
 ∀ (G:Rnd) (ρ:Env) (w:World) (ca:Act),Rel ρ h w→AR G ρ h w a ca→
   c.wpIn (FW G.ro) 0 P (fun e ca' w'=>∃ ρ' h' a',Evo ρ h w ρ' h' w'∧Rel ρ' h' w'∧AR G ρ' h' w' a' ca'∧Q e a' h') ca w
section rules
variable {P:Program} {Q Q':AQ} {a:List AVal} {h:Za}
theorem ZeE {c:Code} (hc:AWp P c Q a h) (hq:∀ e a h,Q e a h→Q' e a h):AWp P c Q' a h:=
 fun G ρ w ca hR ha=>wpIn_mono (hc G ρ w ca hR ha) fun _ _ _ ⟨ρ',h',a',h1,h2,h3,h4⟩=>⟨ρ',h',a',h1,h2,h3,hq _ _ _ h4⟩
theorem ZmQ (hq:Q .normal a h):AWp P .skip Q a h:=fun G ρ w _ hR ha=>wpIn_skip ⟨ρ,h,a,.refl ..,hR,ha,hq⟩
theorem Z4x {l:Nat} (hq:Q .normal a h):AWp P (.label l) Q a h:=fun G ρ w _ hR ha=>wpIn_label ⟨ρ,h,a,.refl ..,hR,ha,hq⟩
theorem Zrj {id:Nat} (hq:Q (.exit id) a h):AWp P (.exit id) Q a h:=fun G ρ w _ hR ha=>wpIn_exit ⟨ρ,h,a,.refl ..,hR,ha,hq⟩
theorem ZvH {l:Nat} (hq:Q (.goto l) a h):AWp P (.goto l) Q a h:=fun G ρ w _ hR ha=>wpIn_goto ⟨ρ,h,a,.refl ..,hR,ha,hq⟩
theorem Zri (hq:Q .ret a h):AWp P .ret Q a h:=fun G ρ w _ hR ha=>wpIn_ret ⟨ρ,h,a,.refl ..,hR,ha,hq⟩
def ZnS (next:List AVal→Za→Prop) (Q:AQ):AQ
 | .normal,a,h=>next a h
 |e,a,h=>Q e a h
theorem Zdm {x y:Code} (hx:AWp P x (ZnS (AWp P y Q) Q) a h):AWp P (.seq x y) Q a h:=by
 intro G ρ w ca hR ha
 refine wpIn_seq (wpIn_mono (hx G ρ w ca hR ha) ?_)
 rintro e ca' w' ⟨ρ',h',a',he,hR',ha',hq⟩
 cases e with
 |normal=>exact wpIn_mono (hq G ρ' w' ca' hR' ha') fun _ _ _ ⟨ρ2,h2,a2,e2,r2,s2,q2⟩=>⟨ρ2,h2,a2,he.trans e2,r2,s2,q2⟩
 |exit id=>exact ⟨ρ',h',a',he,hR',ha',hq⟩
 |goto l=>exact ⟨ρ',h',a',he,hR',ha',hq⟩
 |ret=>exact ⟨ρ',h',a',he,hR',ha',hq⟩
 |panic c=>exact ⟨ρ',h',a',he,hR',ha',hq⟩
 |outgrown=>exact ⟨ρ',h',a',he,hR',ha',hq⟩
def ZnV (id:Nat) (Q:AQ):AQ
 | .exit id',a,h=>if id' = id then Q .normal a h else Q (.exit id') a h
 |e,a,h=>Q e a h
theorem ZmS {id:Nat} {c:Code} (hc:AWp P c (ZnV id Q) a h):AWp P (.block id c) Q a h:=by
 intro G ρ w ca hR ha
 refine wpIn_block (wpIn_mono (hc G ρ w ca hR ha) ?_)
 rintro e ca' w' ⟨ρ',h',a',he,hR',ha',hq⟩
 cases e with
 |exit id'=>
  simp only[Exit.inBlock]
  by_cases hid:id' = id
  ·simp only[ZnV,hid,if_true] at hq⊢;exact ⟨ρ',h',a',he,hR',ha',hq⟩
  ·simp only[ZnV,hid,if_false] at hq⊢;exact ⟨ρ',h',a',he,hR',ha',hq⟩
 |normal=>exact ⟨ρ',h',a',he,hR',ha',hq⟩
 |goto l=>exact ⟨ρ',h',a',he,hR',ha',hq⟩
 |ret=>exact ⟨ρ',h',a',he,hR',ha',hq⟩
 |panic c=>exact ⟨ρ',h',a',he,hR',ha',hq⟩
 |outgrown=>exact ⟨ρ',h',a',he,hR',ha',hq⟩
theorem Z4w {c:Code} (I:List AVal→Za→Prop) (μ:List AVal→Za→Nat) (h₀:I a h)
  (round:∀ a h,I a h→AWp P c (ZnS (fun a' h'=>I a' h'∧μ a' h' < μ a h) Q) a h):AWp P (.loop c) Q a h:=by
 intro G ρ w ca hR ha
 let J:Act→World→Prop:=fun ca' w'=>∃ ρ' h' a',Evo ρ h w ρ' h' w'∧Rel ρ' h' w'∧AR G ρ' h' w' a' ca'∧I a' h'
 intro b k cs hro hb hr
 have key:∀ n a1 h1 ρ1 w1 ca1,μ a1 h1 = n→I a1 h1→Evo ρ h w ρ1 h1 w1→Rel ρ1 h1 w1→AR G ρ1 h1 w1 a1 ca1→
   ∃ e ca' w',(∃ ρ' h' a',Evo ρ h w ρ' h' w'∧Rel ρ' h' w'∧AR G ρ' h' w' a' ca'∧Q e a' h')∧ArrivesIn (Machine.fenced P (FW G.ro)) P (lone (b.atR ca1 (.code c :: .inLoop c :: k)) cs w1) b k cs e ca' w':=by
  intro n
  induction n using Nat.strongRecOn with
  |_ n ih=>
   intro a1 h1 ρ1 w1 ca1 hn hI e0 hR1 ha1
   obtain ⟨e,ca₂,w₂,⟨ρ₂,h₂,a₂,e₂,R₂,s₂,hq⟩,harr⟩:=round a1 h1 hI G ρ1 w1 ca1 hR1 ha1 b (.inLoop c :: k) cs hro hb hr
   cases e with
   |normal=>
    obtain ⟨hI₂,hlt⟩:=hq
    obtain ⟨e₃,ca₃,w₃,hq₃,harr₃⟩:=ih _ (hn ▸ hlt) a₂ h₂ ρ₂ w₂ ca₂ rfl hI₂ (e0.trans e₂) R₂ s₂
    exact ⟨e₃,ca₃,w₃,hq₃,.of_steps (StepsIn.trans harr (.one (fenced_calm hb hr rfl) stepR_inLoop)) harr₃⟩
   |exit id=>exact ⟨_,ca₂,w₂,⟨ρ₂,h₂,a₂,e0.trans e₂,R₂,s₂,hq⟩,.pass (x:=.inLoop c) rfl (fun _ _=>.inl (by simp)) harr⟩
   |goto l=>exact ⟨_,ca₂,w₂,⟨ρ₂,h₂,a₂,e0.trans e₂,R₂,s₂,hq⟩,.pass (x:=.inLoop c) rfl (fun _ _=>.inl (by simp)) harr⟩
   |ret=>exact ⟨_,ca₂,w₂,⟨ρ₂,h₂,a₂,e0.trans e₂,R₂,s₂,hq⟩,.pass (x:=.inLoop c) rfl (fun _ _=>.inl (by simp)) harr⟩
   |panic ch=>exact ⟨_,ca₂,w₂,⟨ρ₂,h₂,a₂,e0.trans e₂,R₂,s₂,hq⟩,.pass (x:=.inLoop c) rfl (fun _ _=>.inl (by simp)) harr⟩
   |outgrown=>exact ⟨_,ca₂,w₂,⟨ρ₂,h₂,a₂,e0.trans e₂,R₂,s₂,hq⟩,.pass (x:=.inLoop c) rfl (fun _ _=>.inl (by simp)) harr⟩
 obtain ⟨e,ca',w',hq,harr⟩:=key _ a h ρ w ca rfl h₀ (.refl ..) hR ha
 exact ⟨e,ca',w',hq,.of_steps (.one (fenced_calm hb hr rfl) stepR_loop) harr⟩
end rules
end Go.Proofs.YtogaiomakhapmaaGreat.AL
namespace Go.Proofs.YtogaiomakhapmaaGreat.AL
open Go
variable {ρ ρ':Env} {h h':Za} {w w':World}
theorem Rel.blk_lt (hR:Rel ρ h w) {b:Nat} {o:AObj} (hb:h[b]? = some o) (ho:o≠AObj.dead):(ρ b).blk < w.heap.size:=by
 have:=hR.obj b o hb
 cases o with
 |dead=>exact absurd rfl ho
 |cells cs=>obtain ⟨C,T,fz,hc,_⟩:=this;exact Zb9 hc
 |pred R=>obtain ⟨o',hc,_⟩:=this;exact Zb9 hc
 |map d es=>obtain ⟨C,clock,hc,_⟩:=this;exact Zb9 hc
 |sit s pos=>exact Zb9 this.1
 |mapS d es bs clock=>obtain ⟨C,hc,_⟩:=this;exact Zb9 hc
 |mit mb since seen c0=>exact Zb9 this.2.2
 |mapU d es=>obtain ⟨es',_,C,clock,hc,_⟩:=this;exact Zb9 hc
 |bld T k n=>obtain ⟨_,p,v,hc,_⟩:=this;exact Zb9 hc
 |buf T bs=>obtain ⟨_,C,fz,hc,_⟩:=this;exact Zb9 hc
 |loop st pend a ps x y=>obtain ⟨r,hc,_⟩:=this;exact Zb9 hc
theorem Z1L (hR:Rel ρ h w) {c:Nat} (hc:Zb5 ρ h c):c < w.heap.size:=by
 obtain ⟨b,o,hb,ho,rfl⟩:=hc
 exact hR.blk_lt hb ho
theorem ZE {α:Type} {l:List α} {i:Nat} {x:α} (h:l[i]? = some x):i < l.length:=by
 rcases Nat.lt_or_ge i l.length with hl |hl
 ·exact hl
 ·simp[List.getElem?_eq_none hl] at h
def ext (ρ:Env) (n:Nat) (l:Loc):Env:=fun b=>if b = n then l else ρ b
theorem Zf0 (hR:Rel ρ h w) {o:AObj} {co:Obj} {l:Loc} (hl:l.blk = w.heap.size):
  Evo ρ h w (ext ρ h.length l) (h++[o]) { w with heap:=w.heap.push co} where
 ids:=by simp
 env:=fun b hb=>by simp[ext,Nat.ne_of_lt hb]
 size:=by simp
 same:=⟨rfl,rfl,rfl⟩
 keep:=fun c hc hn=>by
  refine ⟨by simp[Array.getElem?_push,Nat.ne_of_lt hc],?_⟩
  rintro ⟨b,o',hb,ho',he⟩
  rcases Nat.lt_or_ge b h.length with hlt |hge
  ·rw[List.getElem?_append_left hlt] at hb
   simp[ext,Nat.ne_of_lt hlt] at he
   exact hn ⟨b,o',hb,ho',he⟩
  ·have:b < (h++[o]).length:=ZE hb
   have hb':b = h.length:=by simp at this;omega
   subst hb'
   simp[ext,hl] at he
   omega
 loops:=fun l r hr=>⟨r,by simp[Array.getElem?_push,Nat.ne_of_lt (Zb9 hr),hr]⟩
theorem ObjR.evo {l:Loc} {o:AObj} (e:Evo ρ h w ρ' h' w') (hs:o≠AObj.dead→w'.heap[l.blk]? = w.heap[l.blk]?) (ho:ObjR ρ h w l o):ObjR ρ' h' w' l o:=by
 cases o with
 |dead=>trivial
 |cells cs=>
  obtain ⟨C,T,fz,hc,h1,h2,h3,h4⟩:=ho
  exact ⟨C,T,fz,(hs (by simp)).trans hc,h1,h2,h3,fun i hi=>(h4 i hi).evo e⟩
 |pred R=>obtain ⟨o',hc,hr⟩:=ho;exact ⟨o',(hs (by simp)).trans hc,hr⟩
 |map d es=>obtain ⟨C,clock,hc,h1,h2,h3⟩:=ho;exact ⟨C,clock,(hs (by simp)).trans hc,h1,h2,fun i hi=>⟨(h3 i hi).1,(h3 i hi).2.1,(h3 i hi).2.2.evo e⟩⟩
 |sit s pos=>exact ⟨(hs (by simp)).trans ho.1,ho.2⟩
 |mapS d es bs clock=>obtain ⟨C,hc,h1,h0,h2,h3⟩:=ho;exact ⟨C,(hs (by simp)).trans hc,h1,h0,h2,fun i hi=>⟨(h3 i hi).1,(h3 i hi).2.1,(h3 i hi).2.2.evo e⟩⟩
 |mit mb since seen c0=>obtain ⟨h1,h2,h3⟩:=ho;exact ⟨Nat.lt_of_lt_of_le h1 e.ids,h2,by rw[e.env mb h1];exact (hs (by simp)).trans h3⟩
 |mapU d es=>obtain ⟨es',hp,C,clock,hc,h1,h2,h3⟩:=ho;exact ⟨es',hp,C,clock,(hs (by simp)).trans hc,h1,h2,fun i hi=>⟨(h3 i hi).1,(h3 i hi).2.1,(h3 i hi).2.2.evo e⟩⟩
 |bld T k n=>
  obtain ⟨h1,p,v,hc,h2,h3⟩:=ho
  refine ⟨h1,p,v,(hs (by simp)).trans hc,h2,?_⟩
  cases k with
  |none=>exact h3
  |some k=>exact ⟨Nat.lt_of_lt_of_le h3.1 e.ids,by rw[e.env k h3.1];exact h3.2⟩
 |buf T bs=>obtain ⟨h1,C,fz,hc,h2⟩:=ho;exact ⟨h1,C,fz,(hs (by simp)).trans hc,h2⟩
 |loop st pend a ps x y=>obtain ⟨r,hc,h1,h2,h3,h4,h5,h6,h7⟩:=ho;exact ⟨r,(hs (by simp)).trans hc,h1,h2,h3,h4,h5,h6,fun i hi=>(h7 i hi).evo e⟩
theorem Rel.push (hR:Rel ρ h w) {o:AObj} {co:Obj} {l:Loc} (hl:l.blk = w.heap.size)
  (ho:ObjR (ext ρ h.length l) (h++[o]) { w with heap:=w.heap.push co} l o):Rel (ext ρ h.length l) (h++[o]) { w with heap:=w.heap.push co}:=by
 have e:Evo ρ h w (ext ρ h.length l) (h++[o]) { w with heap:=w.heap.push co}:=Zf0 hR hl
 have old:∀ b o',(h++[o])[b]? = some o'→(b < h.length∧h[b]? = some o'∧ext ρ h.length l b = ρ b)∨(b = h.length∧o' = o∧ext ρ h.length l b = l):=by
  intro b o' hb
  rcases Nat.lt_or_ge b h.length with hlt |hge
  ·rw[List.getElem?_append_left hlt] at hb
   exact .inl ⟨hlt,hb,by simp[ext,Nat.ne_of_lt hlt]⟩
  ·have:b < (h++[o]).length:=ZE hb
   have hb':b = h.length:=by simp at this;omega
   subst hb'
   simp at hb
   exact .inr ⟨rfl,hb.symm,by simp[ext]⟩
 refine ⟨hR.glob.evo e,?_,?_⟩
 ·intro b o' hb
  rcases old b o' hb with ⟨hlt,hb',hρ⟩ | ⟨rfl,rfl,hρ⟩
  ·rw[hρ]
   refine (hR.obj b o' hb').evo e fun hd=>?_
   have:=hR.blk_lt hb' hd
   simp[Array.getElem?_push,Nat.ne_of_lt this]
  ·rw[hρ];exact ho
 ·intro b b' o1 o2 h1 h2 d1 d2 he
  rcases old b o1 h1 with ⟨l1,g1,r1⟩ | ⟨rfl,rfl,r1⟩<;>rcases old b' o2 h2 with ⟨l2,g2,r2⟩ | ⟨rfl,rfl,r2⟩
  ·rw[r1,r2] at he;exact hR.inj b b' o1 o2 g1 g2 d1 d2 he
  ·rw[r1,r2,hl] at he;have:=hR.blk_lt g1 d1;omega
  ·rw[r1,r2,hl] at he;have:=hR.blk_lt g2 d2;omega
  ·rfl
theorem ZdC (hR:Rel ρ h w) {b:Nat} {o o':AObj} (hb:h[b]? = some o) (ho:o≠AObj.dead) (hsm:Same w w') (hsz:w.heap.size≤w'.heap.size) (hw:∀ c,c≠(ρ b).blk→w'.heap[c]? = w.heap[c]?)
  (hk:∀ r:Loop,w.heap[(ρ b).blk]? = some (Obj.loop r)→∃ r':Loop,w'.heap[(ρ b).blk]? = some (Obj.loop r')):Evo ρ h w ρ (h.set b o') w' where
 ids:=by simp
 env:=fun _ _=>rfl
 size:=hsz
 same:=hsm
 keep:=fun c hc hn=>by
  have hne:c≠(ρ b).blk:=fun he=>hn ⟨b,o,hb,ho,he.symm⟩
  refine ⟨hw c hne,?_⟩
  rintro ⟨b2,o2,hb2,ho2,he⟩
  by_cases hbb:b2 = b
  ·subst hbb;exact hne he.symm
  ·rw[List.getElem?_set_ne (Ne.symm hbb)] at hb2
   exact hn ⟨b2,o2,hb2,ho2,he⟩
 loops:=fun l r hr=>by
  by_cases hl:l = (ρ b).blk
  ·subst hl;exact hk r hr
  ·exact ⟨r,(hw l hl).trans hr⟩
def AObj.still:AObj→Bool
 | .cells _ | .map _ _ | .sit _ _ | .mapS _ _ _ _ | .mit _ _ _ _ | .mapU _ _ | .bld _ _ _ | .buf _ _=>true
 |_=>false
theorem ZeU (hR:Rel ρ h w) {b:Nat} {o:AObj} (hb:h[b]? = some o) (ho:o.still = true) {X:Prop} (r:Loop) (hr:w.heap[(ρ b).blk]? = some (Obj.loop r)):X:=by
 have:=hR.obj b o hb
 cases o with
 |cells cs=>obtain ⟨C,T,fz,hc,_⟩:=this;rw[hc] at hr;cases hr
 |map d es=>obtain ⟨C,clock,hc,_⟩:=this;rw[hc] at hr;cases hr
 |sit s pos=>rw[this.1] at hr;cases hr
 |mapS d es bs clock=>obtain ⟨C,hc,_⟩:=this;rw[hc] at hr;cases hr
 |mit mb since seen c0=>rw[this.2.2] at hr;cases hr
 |mapU d es=>obtain ⟨es',_,C,clock,hc,_⟩:=this;rw[hc] at hr;cases hr
 |bld T k n=>obtain ⟨_,p,v,hc,_⟩:=this;rw[hc] at hr;cases hr
 |buf T bs=>obtain ⟨_,C,fz,hc,_⟩:=this;rw[hc] at hr;cases hr
 |_=>cases ho
theorem Rel.set (hR:Rel ρ h w) {b:Nat} {o o':AObj} (hb:h[b]? = some o) (ho:o≠AObj.dead) (hsm:Same w w') (hsz:w.heap.size≤w'.heap.size) (hw:∀ c,c≠(ρ b).blk→w'.heap[c]? = w.heap[c]?)
  (hk:∀ r:Loop,w.heap[(ρ b).blk]? = some (Obj.loop r)→∃ r':Loop,w'.heap[(ρ b).blk]? = some (Obj.loop r')) (hn:ObjR ρ (h.set b o') w' (ρ b) o'):Rel ρ (h.set b o') w':=by
 have e:Evo ρ h w ρ (h.set b o') w':=ZdC hR hb ho hsm hsz hw hk
 have hlt:=ZE hb
 refine ⟨hR.glob.evo e,?_,?_⟩
 ·intro b2 o2 hb2
  by_cases hbb:b2 = b
  ·subst hbb
   rw[List.getElem?_set_self hlt] at hb2
   cases hb2;exact hn
  ·rw[List.getElem?_set_ne (Ne.symm hbb)] at hb2
   refine (hR.obj b2 o2 hb2).evo e fun hd=>hw _ fun he=>?_
   exact hbb (hR.inj b2 b o2 o hb2 hb hd ho he)
 ·have old:∀ (b2:Nat) (o2:AObj),(h.set b o')[b2]? = some o2→o2≠AObj.dead→∃ o3,h[b2]? = some o3∧o3≠AObj.dead:=by
   intro b2 o2 h2 d2
   by_cases hbb:b2 = b
   ·subst hbb;exact ⟨o,hb,ho⟩
   ·rw[List.getElem?_set_ne (Ne.symm hbb)] at h2;exact ⟨o2,h2,d2⟩
  intro b1 b2 o1 o2 h1 h2 d1 d2 he
  obtain ⟨o3,g1,e1⟩:=old b1 o1 h1 d1
  obtain ⟨o4,g2,e2⟩:=old b2 o2 h2 d2
  exact hR.inj b1 b2 o3 o4 g1 g2 e1 e2 he
structure Fewer (h g:Za):Prop where
 le:h.length≤g.length
 same:∀ (b:Nat) (o:AObj),h[b]? = some o→o≠AObj.dead→g[b]? = some o
theorem Fewer.refl (h:Za):Fewer h h:=⟨Nat.le_refl _,fun _ _ hb _=>hb⟩
theorem Fewer.app (h g:Za):Fewer h (h++g):=⟨by simp,fun b o hb _=>by rw[List.getElem?_append_left (ZE hb)];exact hb⟩
theorem Fewer.owned (hf:Fewer h h') {c:Nat} (ho:Zb5 ρ h c):Zb5 ρ h' c:=by
 obtain ⟨b,o,hb,hd,he⟩:=ho
 exact ⟨b,o,hf.same b o hb hd,hd,he⟩
theorem VR.fewer (hf:Fewer h h') {v:AVal} {u:Value} (hv:VR ρ h' w v u) (hb:Below h.length v):VR ρ h w v u:=by
 induction hv with
 |any u=>exact .any u
 |lit u=>exact .lit u
 |ptr b off _=>cases hb with |ptr _ _ hb=>exact .ptr b off hb
 |sl k b off len cap _ hl hc hm=>cases hb with |sl _ _ _ _ hb=>exact .sl k b off len cap hb hl hc hm
 |rop cs c off C T fz hc hn hs _ ih=>
  cases hb with |rop _ hb=>exact .rop cs c off C T fz hc (fun ho=>hn (hf.owned ho)) hs fun i hi=>ih i hi (hb _ (List.getElem_mem hi))
 |slZ k b off o _=>cases hb with |sl _ _ _ _ hb=>exact .slZ k b off o hb
 |rosZ cs _ a cap=>cases hb with |ros _ _ hb=>exact .rosZ cs hb a cap
 |ros cs c off len cap C T fz hl hc hn hs _ ih=>
  cases hb with |ros _ _ hb=>exact .ros cs c off len cap C T fz hl hc (fun ho=>hn (hf.owned ho)) hs fun i hi=>ih i hi (hb _ (List.getElem_mem hi))
 |agg vs us hl _ ih=>cases hb with |agg _ hb=>exact .agg vs us hl fun i hi=>ih i hi (hb _ (List.getElem_mem hi))
 |tup vs us hl _ ih=>cases hb with |tup _ hb=>exact .tup vs us hl fun i hi=>ih i hi (hb _ (List.getElem_mem hi))
 |fn f vs ws us xs hl hl' _ _ ih ih'=>
  cases hb with |fn _ _ _ hb hd=>exact .fn f vs ws us xs hl hl' (fun i hi=>ih i hi (hb _ (List.getElem_mem hi))) fun i hi=>ih' i hi (hd _ (List.getElem_mem hi))
 |ifc t v u _ ih=>cases hb with |ifc _ _ hb=>exact .ifc t v u (ih hb)
 |map b _=>cases hb with |map _ hb=>exact .map b hb
 |yld b _=>cases hb with |yld _ hb=>exact .yld b hb
def Zhy (n:Nat):AObj→Prop
 | .cells cs=>∀ v∈cs,Below n v
 | .map _ es=>∀ p∈es,Below n p.2
 | .mapS _ es _ _=>∀ p∈es,Below n p.2
 | .mit mb _ _ _=>mb < n
 | .mapU _ es=>∀ p∈es,Below n p.2
 | .bld _ k _=>∀ k',k = some k'→k' < n
 | .loop _ _ a _ _ _=>∀ v∈a,Below n v
 |_=>True
theorem Rel.fewer (hf:Fewer h h') (hR:Rel ρ h' w) (hb:∀ (b:Nat) (o:AObj),h[b]? = some o→Zhy h.length o):Rel ρ h w:=by
 refine ⟨fun g hm=>⟨fun ho=>(hR.glob g hm).1 (hf.owned ho),(hR.glob g hm).2⟩,?_,?_⟩
 ·intro b o ho
  cases o with
  |dead=>trivial
  |cells cs=>
   obtain ⟨C,T,fz,h1,h2,h3,h4,h5⟩:=hR.obj b _ (hf.same b _ ho (by simp))
   exact ⟨C,T,fz,h1,h2,h3,h4,fun i hi=>(h5 i hi).fewer hf (hb b _ ho _ (List.getElem_mem hi))⟩
  |pred R=>exact hR.obj b _ (hf.same b _ ho (by simp))
  |map d es=>
   obtain ⟨C,clock,h1,h2,h3,h4⟩:=hR.obj b _ (hf.same b _ ho (by simp))
   exact ⟨C,clock,h1,h2,h3,fun i hi=>⟨(h4 i hi).1,(h4 i hi).2.1,(h4 i hi).2.2.fewer hf (hb b _ ho _ (List.getElem_mem hi))⟩⟩
  |sit s pos=>exact hR.obj b _ (hf.same b _ ho (by simp))
  |mapS d es bs clock=>
   obtain ⟨C,h1,h2,h0,h3,h4⟩:=hR.obj b _ (hf.same b _ ho (by simp))
   exact ⟨C,h1,h2,h0,h3,fun i hi=>⟨(h4 i hi).1,(h4 i hi).2.1,(h4 i hi).2.2.fewer hf (hb b _ ho _ (List.getElem_mem hi))⟩⟩
  |mit mb since seen c0=>
   obtain ⟨h1,h2,h3⟩:=hR.obj b _ (hf.same b _ ho (by simp))
   exact ⟨hb b _ ho,h2,h3⟩
  |mapU d es=>
   obtain ⟨es',hp,C,clock,h1,h2,h3,h4⟩:=hR.obj b _ (hf.same b _ ho (by simp))
   exact ⟨es',hp,C,clock,h1,h2,h3,fun i hi=>⟨(h4 i hi).1,(h4 i hi).2.1,(h4 i hi).2.2.fewer hf (hb b _ ho _ (hp.mem_iff.1 (List.getElem_mem hi)))⟩⟩
  |bld T k n=>
   obtain ⟨h1,p,v,hc,h2,h3⟩:=hR.obj b _ (hf.same b _ ho (by simp))
   refine ⟨h1,p,v,hc,h2,?_⟩
   cases k with
   |none=>exact h3
   |some k=>exact ⟨hb b _ ho k rfl,h3.2⟩
  |buf T bs=>exact hR.obj b _ (hf.same b _ ho (by simp))
  |loop st pend a ps x y=>
   obtain ⟨r,hc,h1,h2,h3,h4,h5,h6,h7⟩:=hR.obj b _ (hf.same b _ ho (by simp))
   exact ⟨r,hc,h1,h2,h3,h4,h5,h6,fun i hi=>(h7 i hi).fewer hf (hb b _ ho _ (List.getElem_mem hi))⟩
 ·intro b b' o o' h1 h2 d1 d2 he
  exact hR.inj b b' o o' (hf.same _ _ h1 d1) (hf.same _ _ h2 d2) d1 d2 he
theorem Evo.fewer {g:Za} {ρ0:Env} {h0:Za} {w0:World} (hf:Fewer g h) (hl:h0.length≤g.length) (e:Evo ρ0 h0 w0 ρ h w):Evo ρ0 h0 w0 ρ g w:=
 ⟨hl,e.env,e.size,e.same,fun c hc hn=>⟨(e.keep c hc hn).1,fun ho=>(e.keep c hc hn).2 (hf.owned ho)⟩,e.loops⟩
theorem ARest.fewer {G:Rnd} {g:Za} (hf:Fewer g h) {ds:List Deferred} (hr:ARest G ρ h w ds):ARest G ρ g w ds:=
 hr.more fun _ hn ho=>hn (hf.owned ho)
theorem VR.ids {v:AVal} {u:Value} (hv:VR ρ h w v u):Below h.length v:=by
 induction hv with
 |any u=>exact .any
 |lit u=>exact .lit u
 |ptr b off hb=>exact .ptr b off hb
 |sl k b off len cap hb _ _ _=>exact .sl k b off len hb
 |rop cs c off C T fz _ _ _ _ ih=>exact .rop cs fun v hv=>by obtain ⟨i,hi,rfl⟩:=List.getElem_of_mem hv;exact ih i hi
 |slZ k b off o hb=>exact .sl k b off 0 hb
 |rosZ cs hb a cap=>exact .ros cs 0 hb
 |ros cs c off len cap C T fz _ _ _ _ _ ih=>exact .ros cs len fun v hv=>by obtain ⟨i,hi,rfl⟩:=List.getElem_of_mem hv;exact ih i hi
 |agg vs us _ _ ih=>exact .agg vs fun v hv=>by obtain ⟨i,hi,rfl⟩:=List.getElem_of_mem hv;exact ih i hi
 |tup vs us _ _ ih=>exact .tup vs fun v hv=>by obtain ⟨i,hi,rfl⟩:=List.getElem_of_mem hv;exact ih i hi
 |fn f vs ws us xs _ _ _ _ ih ih'=>
  exact .fn f vs ws (fun v hv=>by obtain ⟨i,hi,rfl⟩:=List.getElem_of_mem hv;exact ih i hi) (fun v hv=>by obtain ⟨i,hi,rfl⟩:=List.getElem_of_mem hv;exact ih' i hi)
 |ifc t v u _ ih=>exact .ifc t v ih
 |map b hb=>exact .map b hb
 |yld b hb=>exact .yld b hb
theorem Rel.idsObj (hR:Rel ρ h w) {b:Nat} {o:AObj} (hb:h[b]? = some o):Zhy h.length o:=by
 cases o with
 |dead=>trivial
 |pred R=>trivial
 |sit s pos=>trivial
 |mit mb since seen c0=>exact (hR.obj b _ hb).1
 |buf T bs=>trivial
 |mapU d es=>
  obtain ⟨es',hp,C,clock,_,_,_,h4⟩:=hR.obj b _ hb
  intro p hpm
  obtain ⟨i,hi,rfl⟩:=List.getElem_of_mem (hp.mem_iff.2 hpm)
  exact (h4 i hi).2.2.ids
 |bld T k n=>
  rintro k' rfl
  obtain ⟨_,_,_,_,_,h3⟩:=hR.obj b _ hb
  exact h3.1
 |mapS d es bs clock=>
  obtain ⟨C,_,_,_,_,h4⟩:=hR.obj b _ hb
  intro p hp
  obtain ⟨i,hi,rfl⟩:=List.getElem_of_mem hp
  exact (h4 i hi).2.2.ids
 |loop st pend a ps x y=>
  obtain ⟨r,_,_,_,_,_,_,_,h7⟩:=hR.obj b _ hb
  intro v hv
  obtain ⟨i,hi,rfl⟩:=List.getElem_of_mem hv
  exact (h7 i hi).ids
 |map d es=>
  obtain ⟨C,clock,_,_,_,h4⟩:=hR.obj b _ hb
  intro p hp
  obtain ⟨i,hi,rfl⟩:=List.getElem_of_mem hp
  exact (h4 i hi).2.2.ids
 |cells cs=>
  obtain ⟨C,T,fz,_,_,_,_,h5⟩:=hR.obj b _ hb
  intro v hv
  obtain ⟨i,hi,rfl⟩:=List.getElem_of_mem hv
  exact (h5 i hi).ids
end Go.Proofs.YtogaiomakhapmaaGreat.AL
namespace Go.Proofs.YtogaiomakhapmaaGreat.AL
open Go
variable {ρ ρ':Env} {h h':Za} {w w':World} {P:Program}
structure Turned (w:World) (c:Nat) (o:Obj) (w':World):Prop where
 same:Same w w'
 size:w'.heap.size = w.heap.size
 here:w'.heap[c]? = some o
 rest:∀ d,d≠c→w'.heap[d]? = w.heap[d]?
theorem Turned.refl {c:Nat} {o:Obj} (hc:w.heap[c]? = some o):Turned w c o w:=⟨.refl _,rfl,hc,fun _ _=>rfl⟩
theorem Turned.trans {c:Nat} {o o':Obj} {w1 w2:World} (a:Turned w c o w1) (b:Turned w1 c o' w2):Turned w c o' w2:=
 ⟨a.same.trans b.same,b.size.trans a.size,b.here,fun d hd=>(b.rest d hd).trans (a.rest d hd)⟩
theorem Z0a {c off:Nat} {C:Array Value} {T:TypeId} {fz:Nat×Nat} (v:Value) (hc:w.heap[c]? = some (.cells C T fz)):
  Turned w c (.cells (C.setIfInBounds off v) T fz) (w.setCell ⟨c,off,none⟩ v):=by
 refine ⟨⟨rfl,rfl,rfl⟩,by simp[World.setCell],?_,fun d hd=>?_⟩
 ·simp[World.setCell,Array.getElem?_modify,hc]
 ·simp[World.setCell,Array.getElem?_modify,Ne.symm hd]
theorem ZjZ {c off:Nat} {C:Array Value} {T:TypeId} {fz:Nat×Nat} (hc:w.heap[c]? = some (.cells C T fz)) (hi:off < C.size):
  w.cell? ⟨c,off,none⟩ = some (C.getD off undef):=by
 simp[World.cell?,hc,hi,Array.getD]
theorem Z0G {c off:Nat} {C:Array Value} {T:TypeId} {fz:Nat×Nat} {v:Value} (hc:w.heap[c]? = some (.cells C T fz)) (hi:off < C.size)
  (hf:(decide (fz.1≤off) && decide (off < fz.2)) = false) (hv:v.oneCell' = true):(store ⟨c,off,none⟩ v).run P w = .ok () (w.setCell ⟨c,off,none⟩ v):=by
 rw[run_store P w _ v _ hv,ZjZ hc hi]
 have:w.frozen? ⟨c,off,none⟩ = false:=by simp only[World.frozen?,hc];exact hf
 simp[this]
def Ze1 (C:Array Value) (off:Nat) (vs:List Value) (j:Nat):Value:=if off≤j∧j < off + vs.length then vs.getD (j - off) undef else C.getD j undef
theorem ZtI {c:Nat} {T:TypeId} {fz:Nat×Nat} (a:Addr) (ha:a.spot = none) (hb:a.block = c):∀ (vs:List Value) (i:Nat) (C:Array Value) (w:World),w.heap[c]? = some (.cells C T fz)→
  (∀ j,j < C.size→(decide (fz.1≤j) && decide (j < fz.2)) = false)→a.off + i + vs.length≤C.size→(∀ v∈vs,v.oneCell' = true)→
  ∃ w' C',(storeCells a vs i).run P w = .ok () w'∧Turned w c (.cells C' T fz) w'∧C'.size = C.size∧∀ j,C'.getD j undef = Ze1 C (a.off + i) vs j:=by
 intro vs
 induction vs with
 |nil=>
  intro i C w hc hf hs hv
  exact ⟨w,C,by simp[storeCells],.refl hc,rfl,fun j=>by simp only[Ze1,List.length_nil];rw[if_neg (by omega)]⟩
 |cons v rest ih=>
  intro i C w hc hf hs hv
  have hadd:a.add i = ⟨c,a.off + i,none⟩:=by
   unfold Addr.add
   split
   ·rename_i h0;subst h0;cases a;simp_all
   ·simp[hb]
  simp only[List.length_cons] at hs
  have h1:=Z0G (P:=P) (v:=v) hc (off:=a.off + i) (by omega) (hf _ (by omega)) (hv v (by simp))
  have ht:=Z0a (off:=a.off + i) v hc
  obtain ⟨w',C',h2,h3,h4,h5⟩:=ih (i + 1) (C.setIfInBounds (a.off + i) v) _ ht.here (fun j hj=>hf j (by simpa using hj)) (by simp;omega) (fun x hx=>hv x (by simp[hx]))
  refine ⟨w',C',?_,ht.trans h3,by simpa using h4,fun j=>?_⟩
  ·simp only[storeCells,hadd,Sem.run_bind,h1,Result.andThen_ok,h2]
  ·rw[h5 j]
   simp only[Ze1,List.length_cons]
   by_cases e:j = a.off + i
   ·subst e
    rw[if_neg (by omega),if_pos (by omega)]
    have:a.off + i < C.size:=by omega
    simp[Array.getD,this]
   ·by_cases g:a.off + (i + 1)≤j∧j < a.off + (i + 1) + rest.length
    ·rw[if_pos g,if_pos (by omega)]
     have:j - (a.off + i) = (j - (a.off + (i + 1))) + 1:=by omega
     rw[this];simp
    ·rw[if_neg g,if_neg (by omega)]
     simp[Array.getD,Array.getElem?_setIfInBounds,Ne.symm e]
     split<;>simp_all [Array.getElem_setIfInBounds,Ne.symm e]
def AVal.one:AVal→Bool
 | .any | .agg _ | .tup _=>false
 | .lit v=>v.oneCell'
 |_=>true
def AVal.parts:AVal→Option (List AVal)
 | .agg vs=>some vs
 | .lit (.agg cs)=>some (cs.toList.map .lit)
 | .lit v=>some [.lit v]
 | .any=>none
 |v=>some [v]
theorem VR.one {v:AVal} {u:Value} (hv:VR ρ h w v u) (ho:v.one = true):u.oneCell' = true:=by
 cases hv<;>simp_all [AVal.one,Value.oneCell']
theorem VR.parts {v:AVal} {u:Value} {vs:List AVal} (hv:VR ρ h w v u) (hp:v.parts = some vs):VRs ρ h w vs u.cells:=by
 have one:∀ {v:AVal} {u:Value},VR ρ h w v u→u.cells = #[u]→VRs ρ h w [v] u.cells:=by
  intro v u hv hc
  rw[hc]
  exact ⟨rfl,fun i hi=>by have:i = 0:=by simp at hi;omega
                          subst this;simpa using hv⟩
 cases hv with
 |any u=>simp[AVal.parts] at hp
 |lit u=>
  cases u<;>(try (simp only[AVal.parts,Option.some.injEq] at hp;subst hp;exact one (.lit _) rfl))
  rename_i cs
  simp only[AVal.parts,Option.some.injEq] at hp
  subst hp
  exact ⟨by simp[Value.cells],fun i hi=>by
   have:i < cs.size:=by simpa using hi
   simp[Value.cells,Array.getD,this]
   exact .lit _⟩
 |agg vs us hl hv=>simp only[AVal.parts,Option.some.injEq] at hp;subst hp;exact ⟨hl,hv⟩
 |ptr b off hb=>simp only[AVal.parts,Option.some.injEq] at hp;subst hp;exact one (.ptr b off hb) rfl
 |sl k b off len cap hb hl hc hm=>simp only[AVal.parts,Option.some.injEq] at hp;subst hp;exact one (.sl k b off len cap hb hl hc hm) rfl
 |rop cs c off C T fz hc hn hs hv=>simp only[AVal.parts,Option.some.injEq] at hp;subst hp;exact one (.rop cs c off C T fz hc hn hs hv) rfl
 |slZ k b off o hb=>simp only[AVal.parts,Option.some.injEq] at hp;subst hp;exact one (.slZ k b off o hb) rfl
 |rosZ cs hb a cap=>simp only[AVal.parts,Option.some.injEq] at hp;subst hp;exact one (.rosZ cs hb a cap) rfl
 |ros cs c off len cap C T fz hl hc hn hs hv=>simp only[AVal.parts,Option.some.injEq] at hp;subst hp;exact one (.ros cs c off len cap C T fz hl hc hn hs hv) rfl
 |tup vs us hl hv=>simp only[AVal.parts,Option.some.injEq] at hp;subst hp;exact one (.tup vs us hl hv) rfl
 |fn f vs ws us xs hl hl' hv hw=>simp only[AVal.parts,Option.some.injEq] at hp;subst hp;exact one (.fn f vs ws us xs hl hl' hv hw) rfl
 |ifc t v u hv=>simp only[AVal.parts,Option.some.injEq] at hp;subst hp;exact one (.ifc t v u hv) rfl
 |map b hb=>simp only[AVal.parts,Option.some.injEq] at hp;subst hp;exact one (.map b hb) rfl
 |yld b hb=>simp only[AVal.parts,Option.some.injEq] at hp;subst hp;exact one (.yld b hb) rfl
theorem Z1X (hR:Rel ρ h w) {vs:List AVal} {us:Array Value} {T:TypeId} (hv:VRs ρ h w vs us):
  Evo ρ h w (ext ρ h.length ⟨w.heap.size,0,us.size,1⟩) (h++[.cells vs]) { w with heap:=w.heap.push (.cells us T)}∧
  Rel (ext ρ h.length ⟨w.heap.size,0,us.size,1⟩) (h++[.cells vs]) { w with heap:=w.heap.push (.cells us T)}:=by
 have e:=Zf0 (o:=.cells vs) (co:=.cells us T) (l:=⟨w.heap.size,0,us.size,1⟩) hR rfl
 refine ⟨e,hR.push rfl ⟨us,T,(0,0),by simp,fun i _=>by simp,rfl,by simp[hv.1],fun i hi=>?_⟩⟩
 simpa using (hv.2 i hi).evo e
theorem Z1W (hR:Rel ρ h w) {vs:List AVal} {us:Array Value} {T:TypeId} {fz:Nat×Nat} {m:Nat} (hl:vs.length≤us.size) (hv:∀ (i:Nat) (hi:i < vs.length),VR ρ h w vs[i] (us.getD i undef))
  (hf:∀ i,i < us.size + m→(decide (fz.1≤i) && decide (i < fz.2)) = false):
  Evo ρ h w (ext ρ h.length ⟨w.heap.size,0,us.size,m⟩) (h++[.cells vs]) { w with heap:=w.heap.push (.cells us T fz)}∧
  Rel (ext ρ h.length ⟨w.heap.size,0,us.size,m⟩) (h++[.cells vs]) { w with heap:=w.heap.push (.cells us T fz)}:=by
 have e:=Zf0 (o:=.cells vs) (co:=.cells us T fz) (l:=⟨w.heap.size,0,us.size,m⟩) hR rfl
 refine ⟨e,hR.push rfl ⟨us,T,fz,by simp,hf,rfl,by simpa using hl,fun i hi=>?_⟩⟩
 simpa using (hv i hi).evo e
theorem Zds (n:Nat) (l:Loc):ext ρ n l n = l:=by simp[ext]
theorem Z0b (hR:Rel ρ h w) {b:Nat} {cs cs':List AVal} {C C':Array Value} {T:TypeId} {fz:Nat×Nat} (hb:h[b]? = some (.cells cs)) (hc:w.heap[(ρ b).blk]? = some (.cells C T fz))
  (ht:Turned w (ρ b).blk (.cells C' T fz) w') (hs:C'.size = C.size) (hlen:(ρ b).base + cs'.length≤C.size)
  (hv:∀ (i:Nat) (hi:i < cs'.length),VR ρ h w cs'[i] (C'.getD ((ρ b).base + i) undef)):
  Evo ρ h w ρ (h.set b (.cells cs')) w'∧Rel ρ (h.set b (.cells cs')) w':=by
 have e:Evo ρ h w ρ (h.set b (.cells cs')) w':=ZdC hR hb (by simp) ht.same (by rw[ht.size];exact Nat.le_refl _) (fun c hne=>ht.rest c hne) (fun r hr=>ZeU hR hb rfl r hr)
 refine ⟨e,hR.set hb (by simp) ht.same (by rw[ht.size];exact Nat.le_refl _) (fun c hne=>ht.rest c hne) (fun r hr=>ZeU hR hb rfl r hr) ?_⟩
 obtain ⟨C0,T0,fz0,h1,h2,h3,h4,h5⟩:=hR.obj b _ hb
 rw[hc] at h1
 cases h1
 exact ⟨C',T,fz,ht.here,by rw[hs];exact h2,hs.trans h3,by rw[hs];exact hlen,fun i hi=>(hv i hi).evo e⟩
end Go.Proofs.YtogaiomakhapmaaGreat.AL
namespace Go.Proofs.YtogaiomakhapmaaGreat.AL
open Go
variable {G:Rnd} {ρ ρ':Env} {h h':Za} {w w':World} {P:Program}
def Z2 (a:List AVal) (t:Nat):AVal:=a.getD t .any
def Zh (a:List AVal) (d:Option Nat) (v:AVal):List AVal:=match d with
 |some d=>a.set d v
 |none=>a
def litA:Value→AVal
 | .agg cs=>.agg (cs.toList.map .lit)
 |v=>.lit v
def Ze (a:List AVal):Operand→AVal
 | .tmp t=>Z2 a t
 | .const v=>litA v
 | .global g=>.lit (.pointer (some ⟨g,0,none⟩))
 | .func f=>.fn (.func f) [] []
theorem VR.litA (v:Value):VR ρ h w (litA v) v:=by
 cases v<;>first
  |exact .lit _
  | (rename_i cs
     exact .agg _ _ (by simp) fun i hi=>by
      have:i < cs.size:=by simpa using hi
      simp[Array.getD,this];exact .lit _)
theorem AR.eval {a:List AVal} {ca:Act} (ha:AR G ρ h w a ca) (x:Operand):VR ρ h w (Ze a x) (ca.eval x):=by
 cases x with
 |tmp t=>
  simp only[Ze,Z2,Act.eval]
  rcases Nat.lt_or_ge t a.length with hl |hl
  ·have:=ha.slot t hl
   simpa[List.getD,List.getElem?_eq_getElem hl] using this
  ·simp[List.getD,List.getElem?_eq_none hl];exact .any _
 |const v=>exact .litA v
 |global g=>exact .lit _
 |func f=>exact .fn _ [] [] #[] #[] rfl rfl (fun i hi=>by simp at hi) (fun i hi=>by simp at hi)
theorem AR.put {a:List AVal} {ca:Act} (ha:AR G ρ h w a ca) {v:AVal} {u:Value} (hv:VR ρ h w v u) (d:Option Tmp):AR G ρ h w (Zh a d v) (ca.put d u):=by
 cases d with
 |none=>exact ha
 |some d=>
  refine ⟨by simp[Zh,Act.put,ha.size],fun i hi=>?_,ha.plain⟩
  have hi':i < a.length:=by simpa[Zh] using hi
  have hs:i < ca.tmps.size:=by rw[←ha.size];exact hi'
  by_cases e:d = i
  ·subst e
   simp[Zh,Act.put,Array.getD,hs,hv]
  ·have:=ha.slot i hi'
   simpa[Zh,Act.put,Array.getD,hs,e,Array.getElem_setIfInBounds] using this
def Zy (P:Program) (t:TypeId):Option Bool:=match P.underlying t with
 |some (.struct _) |some (.array _ _)=>some true
 |some _=>some false
 |none=>none
def Zx (P:Program) (t:TypeId):Option Nat:=(P.info? t).map (·.size)
def ZK (P:Program) (t:TypeId):Option Nat:=(P.info? t).map (·.bytes)
def Z5 (P:Program) (t:TypeId):Option AVal:=((P.info? t).bind (·.zero)).map litA
def ZC (P:Program) (t:TypeId) (i:Nat):Option (Nat×TypeId):=match P.underlying t with
 |some (.struct fs)=>(fs[i]?).map fun f=>(f.offset,f.type)
 |_=>none
def Z3 (P:Program) (t:TypeId):Option TypeId:=match P.underlying t with
 |some (.slice e)=>some e
 |_=>none
def Z9 (P:Program) (t:TypeId):Option (Nat×TypeId):=match P.underlying t with
 |some (.array n e)=>some (n,e)
 |_=>none
def ZD (P:Program) (t:TypeId):Option IntKind:=match P.underlying t with
 |some (.int k)=>some k
 |_=>none
def ZG (P:Program) (t:TypeId):Bool:=match P.underlying t with
 |some .string=>true
 |_=>false
theorem Zfr {t:TypeId} {b:Bool} (h:Zy P t = some b):(isAgg t).run P w = .ok b w:=by
 unfold Zy at h
 simp only[isAgg,underlying,Sem.run_bind,run_program,Result.andThen_ok]
 cases hu:P.underlying t with
 |none=>rw[hu] at h;simp at h
 |some d=>rw[hu] at h;cases d<;>simp_all
theorem Zc5 {t:TypeId} {n:Nat} (h:Zx P t = some n):(sizeOf t).run P w = .ok n w:=by
 unfold Zx at h
 simp only[sizeOf,typeInfo,Sem.run_bind,run_program,Result.andThen_ok]
 cases hu:P.info? t with
 |none=>rw[hu] at h;simp at h
 |some d=>rw[hu] at h;simp at h;simp[h]
theorem ZhH {t:TypeId} {z:AVal} (h:Z5 P t = some z):∃ v,(zeroValue t).run P w = .ok v w∧z = litA v:=by
 unfold Z5 at h
 simp only[zeroValue,typeInfo,Sem.run_bind,run_program,Result.andThen_ok]
 cases hu:P.info? t with
 |none=>rw[hu] at h;simp at h
 |some d=>
  rw[hu] at h
  cases hz:d.zero with
  |none=>simp[hz] at h
  |some v=>simp[hz] at h;exact ⟨v,by simp[hz],h.symm⟩
theorem Zr {t:TypeId} {d:TypeDesc} (h:P.underlying t = some d):(underlying t).run P w = .ok d w:=by
 simp[underlying,h]
theorem Zfd (c off n:Nat):(Addr.mk c off none).add n = ⟨c,off + n,none⟩:=by
 unfold Addr.add;split<;>simp_all
def Zir (P:Program) (t:TypeId) (h:Za) (v:AVal) (K:AVal→Prop):Prop:=
 match Zy P t with
 |some false=>match v with
  | .ptr b off=>match h[b]? with
    |some (.cells cs)=>match cs[off]? with
     |some x=>K x
     |none=>False
    |_=>False
  | .rop cs=>match cs with
    |x :: _=>K x
    | []=>False
  |_=>False
 |some true=>match Zx P t with
  |some n=>match v with
   | .ptr b off=>match h[b]? with
     |some (.cells cs)=>off + n≤cs.length∧K (.agg ((cs.drop off).take n))
     |_=>False
   | .rop cs=>n≤cs.length∧K (.agg (cs.take n))
   |_=>False
  |none=>False
 |none=>False
theorem Zmb {c off n:Nat} {C:Array Value} {T:TypeId} {fz:Nat×Nat} (hc:w.heap[c]? = some (.cells C T fz)) (hi:off + n≤C.size):
  ∃ us:Array Value,(loadCells ⟨c,off,none⟩ n).run P w = .ok us w∧us.size = n∧∀ j,j < n→us.getD j undef = C.getD (off + j) undef:=by
 have:=run_loadCells (P:=P) w ⟨c,off,none⟩ n (fun j=>C.getD (off + j) undef) (fun j hj=>by rw[Zfd,ZjZ hc (by omega)])
 exact ⟨_,this,by simp,fun j hj=>by simp[hj]⟩
theorem ZvX {t:TypeId} {v:AVal} {u:Value} {K:AVal→Prop} (hR:Rel ρ h w) (hv:VR ρ h w v u) (hK:Zir P t h v K):
  ∃ x y,(Instr.loadAt t u).run P w = .ok y w∧VR ρ h w x y∧K x:=by
 unfold Zir at hK
 split at hK
 ·rename_i hagg
  split at hK
  ·rename_i b off
   cases hv with |ptr _ _ hb=>
   split at hK
   ·rename_i cs hcs
    split at hK
    ·rename_i x hx
     obtain ⟨C,T,fz,h1,h2,h3,h4,h5⟩:=hR.obj b _ hcs
     have hlt:=ZE hx
     refine ⟨x,C.getD ((ρ b).base + off) undef,?_,?_,hK⟩
     ·simp only[Instr.loadAt,Instr.sureAddr,loadVar,Sem.run_bind,Sem.run_pure,Result.andThen_ok,Zfr hagg,Bool.false_eq_true,if_false,run_load]
      rw[ZjZ h1 (by omega)]
     ·have:=h5 off hlt
      rw[List.getElem?_eq_getElem hlt] at hx
      cases hx
      simpa[Nat.add_assoc] using this
    ·exact hK.elim
   ·exact hK.elim
  ·rename_i cs
   cases hv with |rop _ c off C T fz hc hn hs hv=>
   split at hK
   ·rename_i x rest
    refine ⟨x,C.getD off undef,?_,?_,hK⟩
    ·simp only[Instr.loadAt,Instr.sureAddr,loadVar,Sem.run_bind,Sem.run_pure,Result.andThen_ok,Zfr hagg,Bool.false_eq_true,if_false,run_load]
     rw[ZjZ hc (by simpa using hs 0 (by simp))]
    ·exact hv 0 (by simp)
   ·exact hK.elim
  ·exact hK.elim
 ·rename_i hagg
  split at hK
  ·rename_i n hn
   split at hK
   ·rename_i b off
    cases hv with |ptr _ _ hb=>
    split at hK
    ·rename_i cs hcs
     obtain ⟨hl,hK⟩:=hK
     obtain ⟨C,T,fz,h1,h2,h3,h4,h5⟩:=hR.obj b _ hcs
     obtain ⟨us,g1,g2,g3⟩:=Zmb (P:=P) (off:=(ρ b).base + off) (n:=n) h1 (by omega)
     refine ⟨_,.agg us,?_,.agg _ us (by simp[g2];omega) ?_,hK⟩
     ·simp only[Instr.loadAt,Instr.sureAddr,loadVar,Sem.run_bind,Sem.run_pure,Result.andThen_ok,Zfr hagg,if_true,Zc5 hn,g1]
     ·intro i hi
      have hi':i < n:=by simp at hi;omega
      rw[g3 i hi']
      have:=h5 (off + i) (by omega)
      simpa[Nat.add_assoc] using this
    ·exact hK.elim
   ·rename_i cs
    cases hv with |rop _ c off C T fz hc hnn hs hv=>
    obtain ⟨hl,hK⟩:=hK
    rcases Nat.eq_zero_or_pos n with h0 |h0
    ·subst h0
     refine ⟨_,.agg #[],?_,.agg _ #[] (by simp) (fun i hi=>by simp at hi),hK⟩
     simp only[Instr.loadAt,Instr.sureAddr,loadVar,Sem.run_bind,Sem.run_pure,Result.andThen_ok,Zfr hagg,if_true,Zc5 hn,loadCells,loadCellsFrom]
    ·have:=hs (n - 1) (by omega)
     obtain ⟨us,g1,g2,g3⟩:=Zmb (P:=P) (off:=off) (n:=n) hc (by omega)
     refine ⟨_,.agg us,?_,.agg _ us (by simp[g2];omega) ?_,hK⟩
     ·simp only[Instr.loadAt,Instr.sureAddr,loadVar,Sem.run_bind,Sem.run_pure,Result.andThen_ok,Zfr hagg,if_true,Zc5 hn,g1]
     ·intro i hi
      have hi':i < n:=by simp at hi;omega
      rw[g3 i hi']
      simpa using hv i (by omega)
   ·exact hK.elim
  ·exact hK.elim
 ·exact hK.elim
theorem VRs.one {v:AVal} {u:Value} (hv:VR ρ h w v u):VRs ρ h w [v] #[u]:=by
 refine ⟨rfl,fun i hi=>?_⟩
 have:i = 0:=by simp at hi;omega
 subst this
 simpa using hv
def Zbr (cs:List AVal) (off:Nat) (vs:List AVal):List AVal:=cs.take off++(vs++cs.drop (off + vs.length))
def Zgm (P:Program) (t:TypeId) (h:Za) (p x:AVal) (K:Za→Prop):Prop:=
 match p with
 | .ptr b off=>match h[b]? with
   |some (.cells cs)=>match Zy P t with
    |some false=>x.one = true∧Zx P t = some 1∧off < cs.length∧K (h.set b (.cells (cs.set off x)))
    |some true=>match x.parts with
     |some vs=>vs.all (·.one) = true∧Zx P t = some vs.length∧off + vs.length≤cs.length∧K (h.set b (.cells (Zbr cs off vs)))
     |none=>False
    |none=>False
   |_=>False
 |_=>False
theorem ZqU {u:Value} (h:u.oneCell' = true):u.cells = #[u]:=by cases u<;>simp_all [Value.oneCell',Value.cells]
theorem ZpM (hR:Rel ρ h w) {b off:Nat} {cs vs:List AVal} {us:Array Value} (hcs:h[b]? = some (.cells cs)) (hv:VRs ρ h w vs us) (ho:∀ u∈us.toList,u.oneCell' = true)
  (hl:off + vs.length≤cs.length):
  ∃ w',(storeCells ⟨(ρ b).blk,(ρ b).base + off,none⟩ us.toList).run P w = .ok () w'∧Evo ρ h w ρ (h.set b (.cells (Zbr cs off vs))) w'∧Rel ρ (h.set b (.cells (Zbr cs off vs))) w':=by
 obtain ⟨C,T,fz,h1,h2,h3,h4,h5⟩:=hR.obj b _ hcs
 have hsz:us.toList.length = vs.length:=by simp[hv.1]
 obtain ⟨w',C',g1,g2,g3,g4⟩:=ZtI (P:=P) ⟨(ρ b).blk,(ρ b).base + off,none⟩ rfl rfl us.toList 0 C w h1 (fun j hj=>h2 j (by omega)) (by simp only;omega) ho
 refine ⟨w',g1,?_⟩
 refine Z0b hR hcs h1 g2 g3 (by simp[Zbr];omega) fun i hi=>?_
 rw[g4]
 have hi':i < cs.length:=by simp[Zbr] at hi;omega
 simp only[Ze1,hsz]
 by_cases e:off≤i∧i < off + vs.length
 ·rw[if_pos (by omega)]
  have:(Zbr cs off vs)[i] = vs[i - off]'(by omega):=by
   simp only[Zbr]
   rw[List.getElem_append_right (by simp;omega),List.getElem_append_left (by simp;omega)]
   congr 1;simp;omega
  rw[this]
  have h6:=hv.2 (i - off) (by omega)
  have e1:(ρ b).base + i - ((ρ b).base + off + 0) = i - off:=by omega
  rw[e1]
  simpa[Array.getD_eq_getD_getElem?,List.getD] using h6
 ·rw[if_neg (by omega)]
  have:(Zbr cs off vs)[i] = cs[i]:=by
   simp only[Zbr]
   rcases Nat.lt_or_ge i off with hlt |hge
   ·rw[List.getElem_append_left (by simp;omega)];simp
   ·rw[List.getElem_append_right (by simp;omega),List.getElem_append_right (by simp;omega)]
    simp;congr 1;omega
  rw[this]
  exact h5 i hi'
theorem Z0u (cs:List AVal) (off:Nat) (x:AVal) (h:off < cs.length):Zbr cs off [x] = cs.set off x:=by
 simp only[Zbr,List.length_singleton,List.singleton_append]
 rw[List.set_eq_take_append_cons_drop,if_pos h]
theorem Z4H {t:TypeId} {p x:AVal} {u y:Value} {K:Za→Prop} (hR:Rel ρ h w) (hp:VR ρ h w p u) (hx:VR ρ h w x y) (hK:Zgm P t h p x K):
  ∃ w' h',(Instr.storeAt t u y).run P w = .ok () w'∧Evo ρ h w ρ h' w'∧Rel ρ h' w'∧K h':=by
 unfold Zgm at hK
 split at hK
 ·rename_i b off
  cases hp with |ptr _ _ hb=>
  split at hK
  ·rename_i cs hcs
   split at hK
   ·rename_i hagg
    obtain ⟨ho,hn,hl,hK⟩:=hK
    have hy:=hx.one ho
    have hvs:VRs ρ h w [x] y.cells:=by rw[ZqU hy];exact .one hx
    obtain ⟨w',g1,g2,g3⟩:=ZpM (P:=P) (off:=off) hR hcs hvs (by rw[ZqU hy];simpa using hy) (by simp;omega)
    rw[Z0u cs off x hl] at g2 g3
    refine ⟨w',_,?_,g2,g3,hK⟩
    have hsz:y.cells.size = 1:=by rw[ZqU hy];rfl
    simp[Instr.storeAt,Instr.sureAddr,storeVar,Zc5 hn,g1,hsz]
   ·rename_i hagg
    split at hK
    ·rename_i vs hvs
     obtain ⟨ho,hn,hl,hK⟩:=hK
     have hvr:=hx.parts hvs
     obtain ⟨w',g1,g2,g3⟩:=ZpM (P:=P) (off:=off) hR hcs hvr (fun u hu=>by
      obtain ⟨i,hi,rfl⟩:=List.getElem_of_mem hu
      have hi2:i < y.cells.size:=by simpa using hi
      have hi':i < vs.length:=by rw[hvr.1];exact hi2
      have h7:=hvr.2 i hi'
      have h8:=h7.one (by simpa using (List.all_eq_true.1 ho) _ (List.getElem_mem hi'))
      simpa[Array.getD,hi2] using h8) hl
     refine ⟨w',_,?_,g2,g3,hK⟩
     simp[Instr.storeAt,Instr.sureAddr,storeVar,Zc5 hn,g1,hvr.1]
    ·exact hK.elim
   ·exact hK.elim
  ·exact hK.elim
 ·exact hK.elim
end Go.Proofs.YtogaiomakhapmaaGreat.AL
namespace Go.Proofs.YtogaiomakhapmaaGreat.AL
open Go
variable {ρ ρ':Env} {h h':Za} {w w':World} {P:Program}
def ZdJ (k:IntKind) (x y:Int):Int:=k.wrap (BitVec.ofInt k.bits x &&& BitVec.ofInt k.bits y).toNat
def orI (k:IntKind) (x y:Int):Int:=k.wrap (BitVec.ofInt k.bits x |||BitVec.ofInt k.bits y).toNat
def ZcU (k:IntKind) (x y:Int):Int:=k.wrap (BitVec.ofInt k.bits x ^^^ BitVec.ofInt k.bits y).toNat
def ZvP (k:IntKind) (x y:Int):Int:=k.wrap (BitVec.ofInt k.bits x &&& ~~~BitVec.ofInt k.bits y).toNat
def ZpO (k:IntKind) (x y:Int):Int:=k.wrap (x * 2 ^ (min y.toNat k.bits))
def ZbL (k:IntKind) (x y:Int):Int:=x.fdiv (2 ^ (min y.toNat k.bits))
def Zkx (op:BinOp) (k:IntKind) (x y:Int) (K:AVal→Prop):Prop:=
 match op with
 | .add=>K (.lit (.int k (k.wrap (x + y))))
 | .sub=>K (.lit (.int k (k.wrap (x - y))))
 | .mul=>K (.lit (.int k (k.wrap (x * y))))
 | .quo=>y≠0∧K (.lit (.int k (k.wrap (x.tdiv y))))
 | .rem=>y≠0∧K (.lit (.int k (x.tmod y)))
 | .and=>K (.lit (.int k (ZdJ k x y)))
 | .or=>K (.lit (.int k (orI k x y)))
 | .xor=>K (.lit (.int k (ZcU k x y)))
 | .andNot=>K (.lit (.int k (ZvP k x y)))
 | .eql=>K (.lit (.bool (decide (x = y))))
 | .neq=>K (.lit (.bool (!decide (x = y))))
 | .lss=>K (.lit (.bool (decide (x < y))))
 | .leq=>K (.lit (.bool (decide (x≤y))))
 | .gtr=>K (.lit (.bool (decide (x > y))))
 | .geq=>K (.lit (.bool (decide (x≥y))))
 |_=>False
def ZdR (x y:ByteArray):Bool:=Op.bytesLess x.toList y.toList
def Zko (op:BinOp) (x y:ByteArray) (K:AVal→Prop):Prop:=
 match op with
 | .add=>x.size + y.size≤9223372036854775807∧K (.lit (.string (x++y)))
 | .eql=>K (.lit (.bool (decide (x = y))))
 | .neq=>K (.lit (.bool (!decide (x = y))))
 | .lss=>K (.lit (.bool (ZdR x y)))
 | .leq=>K (.lit (.bool (ZdR x y || decide (x = y))))
 | .gtr=>K (.lit (.bool (!(ZdR x y || decide (x = y)))))
 | .geq=>K (.lit (.bool (!ZdR x y)))
 |_=>False
theorem Z4t {x y:ByteArray} (h:x.toList = y.toList):x = y:=by
 rw[ByteArray.toList_eq,ByteArray.toList_eq] at h
 obtain ⟨⟨x⟩⟩:=x
 obtain ⟨⟨y⟩⟩:=y
 simp at h
 rw[h]
theorem Zkh (x y:ByteArray):(x.toList == y.toList) = decide (x = y):=by
 rw[Bool.eq_iff_iff]
 simp only[beq_iff_eq,decide_eq_true_eq]
 exact ⟨Z4t,fun h=>by rw[h]⟩
inductive Leaf where
 |int |str |bool
def ZhW (P:Program) (rec:TypeId→Option (List Leaf)):List Field→Nat→Option (List Leaf)
 | [],_=>some []
 |f :: fs,o=>if f.name = "_"∨f.offset≠o then none else
  match rec f.type with
  |none=>none
  |some ls=>if Zx P f.type = some ls.length then (ZhW P rec fs (o + ls.length)).map (ls++·) else none
def Zco (P:Program):Nat→TypeId→Option (List Leaf)
 | 0,_=>none
 |d + 1,t=>match P.underlying t with
  |some (.int _)=>some [.int]
  |some .string=>some [.str]
  |some .bool=>some [.bool]
  |some (.struct fs)=>if P.stoodInHeld t then none else ZhW P (Zco P d) fs.toList 0
  |_=>none
inductive LeafEq:List Leaf→List Value→List Value→Bool→Prop
 |nil:LeafEq [] [] [] true
 |int (ls xs ys r) (k k':IntKind) (a b:Int) (hk:k = k') (h:LeafEq ls xs ys r):LeafEq (.int :: ls) (.int k a :: xs) (.int k' b :: ys) (decide (a = b) && r)
 |str (ls xs ys r) (a b:ByteArray) (h:LeafEq ls xs ys r):LeafEq (.str :: ls) (.string a :: xs) (.string b :: ys) (decide (a = b) && r)
 |bool (ls xs ys r) (a b:Bool) (h:LeafEq ls xs ys r):LeafEq (.bool :: ls) (.bool a :: xs) (.bool b :: ys) (decide (a = b) && r)
theorem LeafEq.split {ls1 ls2:List Leaf}:∀ {xs ys:List Value} {r:Bool},LeafEq (ls1++ls2) xs ys r→
  ∃ xs1 xs2 ys1 ys2 r1 r2,xs = xs1++xs2∧ys = ys1++ys2∧r = (r1 && r2)∧xs1.length = ls1.length∧ys1.length = ls1.length∧LeafEq ls1 xs1 ys1 r1∧LeafEq ls2 xs2 ys2 r2:=by
 induction ls1 with
 |nil=>intro xs ys r h;exact ⟨[],xs,[],ys,true,r,rfl,rfl,by simp,rfl,rfl,.nil,h⟩
 |cons l ls1 ih=>
  intro xs ys r h
  cases h with
  |int _ xs ys r k k' a b hk h=>
   obtain ⟨xs1,xs2,ys1,ys2,r1,r2,rfl,rfl,rfl,h1,h2,h3,h4⟩:=ih h
   exact ⟨.int k a :: xs1,xs2,.int k' b :: ys1,ys2,(decide (a = b) && r1),r2,rfl,rfl,by rw[Bool.and_assoc],by simp[h1],by simp[h2],.int _ _ _ _ k k' a b hk h3,h4⟩
  |str _ xs ys r a b h=>
   obtain ⟨xs1,xs2,ys1,ys2,r1,r2,rfl,rfl,rfl,h1,h2,h3,h4⟩:=ih h
   exact ⟨.string a :: xs1,xs2,.string b :: ys1,ys2,(decide (a = b) && r1),r2,rfl,rfl,by rw[Bool.and_assoc],by simp[h1],by simp[h2],.str _ _ _ _ a b h3,h4⟩
  |bool _ xs ys r a b h=>
   obtain ⟨xs1,xs2,ys1,ys2,r1,r2,rfl,rfl,rfl,h1,h2,h3,h4⟩:=ih h
   exact ⟨.bool a :: xs1,xs2,.bool b :: ys1,ys2,(decide (a = b) && r1),r2,rfl,rfl,by rw[Bool.and_assoc],by simp[h1],by simp[h2],.bool _ _ _ _ a b h3,h4⟩
def ZeQ (P:Program) (t:TypeId) (l:List Value):Value:=match Zy P t with
 |some true=>.agg l.toArray
 |_=>l.getD 0 undef
theorem Z2u {d:Nat} {t:TypeId} {ls:List Leaf} (h:Zco P d t = some ls):Zy P t = some true∨(Zy P t = some false∧ls.length = 1):=by
 cases d with
 |zero=>simp[Zco] at h
 |succ d=>
  unfold Zco at h
  unfold Zy
  cases hu:P.underlying t with
  |none=>rw[hu] at h;simp at h
  |some D=>rw[hu] at h;cases D<;>simp_all<;>(subst h;rfl)
theorem ZtJ {t:TypeId} {X:Array Value} {o:Nat} {xs1 xs2:List Value} {d:Nat} {ls:List Leaf} (hl:Zco P d t = some ls) (hs:Zx P t = some ls.length)
  (hx:X.toList.drop o = xs1++xs2) (hn:xs1.length = ls.length):(part t X o).run P w = .ok (ZeQ P t xs1) w:=by
 have hlen:X.size - o = xs1.length + xs2.length:=by
  have:=congrArg List.length hx
  simpa using this
 rcases Z2u hl with ha | ⟨ha,h1⟩
 ·simp only[part,Sem.run_bind,Zfr ha,Result.andThen_ok,if_true,Zc5 hs,ZeQ,ha,Sem.run_pure]
  congr 2
  apply Array.ext'
  simp only[Array.toList_extract,List.extract_eq_take_drop]
  rw[hx]
  simp[←hn]
 ·simp only[part,Sem.run_bind,Zfr ha,Result.andThen_ok,Bool.false_eq_true,if_false,ZeQ,ha]
  match xs1,hn.trans h1 with
  | [x],_=>
    have:X[o]? = some x:=by
     have h2:=congrArg (fun l:List Value=>l[0]?) hx
     simpa using h2
    simp[this]
theorem Z0I:∀ (d D:Nat) (t:TypeId) (ls:List Leaf) (xs ys:List Value) (r:Bool) (w:World),d≤D→Zco P d t = some ls→LeafEq ls xs ys r→
  (Op.equalIn D t (ZeQ P t xs) (ZeQ P t ys)).run P w = .ok r w:=by
 intro d
 induction d with
 |zero=>intro D t ls xs ys r w _ h;simp[Zco] at h
 |succ d ih=>
  intro D t ls xs ys r w hD h he
  obtain ⟨D,rfl⟩:∃ D',D = D' + 1:=⟨D - 1,by omega⟩
  unfold Zco at h
  split at h
  ·rename_i k hu
   simp only[Option.some.injEq] at h
   subst h
   cases he with |int _ xs ys r k1 k2 a b hk he=>
   cases he
   subst hk
   simp only[ZeQ,Zy,hu,List.getD_cons_zero]
   rw[run_equalIn_int w D t k1 k a b hu,Bool.and_true]
   rfl
  ·rename_i hu
   simp only[Option.some.injEq] at h
   subst h
   cases he with |str _ xs ys r a b he=>
   cases he
   simp only[ZeQ,Zy,hu,List.getD_cons_zero]
   rw[run_equalIn_string w D t a b hu,Zkh,Bool.and_true]
  ·rename_i hu
   simp only[Option.some.injEq] at h
   subst h
   cases he with |bool _ xs ys r a b he=>
   cases he
   simp only[ZeQ,Zy,hu,List.getD_cons_zero]
   rw[run_equalIn_bool' w D t a b hu,Bool.and_true]
   congr 1
  ·rename_i fs hu
   split at h
   ·simp at h
   ·rename_i hst
    have hfo:P.fieldsOf t = fs:=by unfold Program.fieldsOf;rw[hu]
    have hag:Zy P t = some true:=by unfold Zy;rw[hu]
    simp only[ZeQ,hag]
    rw[run_equalIn_struct w D t _ _ (by rw[hfo];exact hu) (by simpa using hst),hfo]
    have key:∀ (l:List Field) (o:Nat) (ls:List Leaf) (r:Bool),ZhW P (Zco P d) l o = some ls→LeafEq ls (xs.toArray.toList.drop o) (ys.toArray.toList.drop o) r→
      (Op.eqFields D xs.toArray ys.toArray l).run P w = .ok r w:=by
     intro l
     induction l with
     |nil=>
      intro o ls r hg hle
      simp only[ZhW,Option.some.injEq] at hg
      subst hg
      generalize xs.toArray.toList.drop o = X at hle
      generalize ys.toArray.toList.drop o = Y at hle
      cases hle
      simp[Op.eqFields]
     |cons f l ihl=>
      intro o ls r hg hle
      simp only[ZhW] at hg
      split at hg
      ·simp at hg
      ·rename_i hno
       have hname:f.name≠ "_":=fun h=>hno (.inl h)
       have hoff:f.offset = o:=Classical.byContradiction fun h=>hno (.inr h)
       split at hg
       ·simp at hg
       ·rename_i ls1 hl1
        split at hg
        ·rename_i hsz
         cases hg2:ZhW P (Zco P d) l (o + ls1.length) with
         |none=>rw[hg2] at hg;simp at hg
         |some ls2=>
          rw[hg2] at hg
          simp only[Option.map_some,Option.some.injEq] at hg
          subst hg
          obtain ⟨xs1,xs2,ys1,ys2,r1,r2,hx,hy,rfl,n1,n2,e1,e2⟩:=hle.split
          simp only[Op.eqFields]
          rw[if_pos hname]
          rw[hoff]
          simp only[Sem.run_bind,ZtJ hl1 hsz hx n1,ZtJ hl1 hsz hy n2,Result.andThen_ok,ih D f.type ls1 xs1 ys1 r1 w (by omega) hl1 e1]
          have hx2:xs.toArray.toList.drop (o + ls1.length) = xs2:=by
           rw[←List.drop_drop,hx];simp[←n1]
          have hy2:ys.toArray.toList.drop (o + ls1.length) = ys2:=by
           rw[←List.drop_drop,hy];simp[←n2]
          have:=ihl (o + ls1.length) ls2 r2 hg2 (by rw[hx2,hy2];exact e2)
          cases r1
          ·simp
          ·simpa using this
        ·simp at hg
    exact key fs.toList 0 ls r h (by simpa using he)
  ·simp at h
end Go.Proofs.YtogaiomakhapmaaGreat.AL
namespace Go.Proofs.YtogaiomakhapmaaGreat.AL
open Go
variable {ρ ρ':Env} {h h':Za} {w w':World} {P:Program}
theorem ZvY {op:BinOp} {k:IntKind} {x y:Int} {K:AVal→Prop} (hs:op≠ .shl) (hs':op≠ .shr) (hK:Zkx op k x y K):
  ∃ v,(∀ t w,(binOp op t (.int k x) (.int k y)).run P w = .ok v w)∧K (.lit v):=by
 cases op<;>simp only[Zkx] at hK<;>try (exact hK.elim)
 all_goals try (exact absurd rfl hs)
 all_goals try (exact absurd rfl hs')
 case add=>exact ⟨_,fun t w=>by simp[binOp,Op.intArith],hK⟩
 case sub=>exact ⟨_,fun t w=>by simp[binOp,Op.intArith],hK⟩
 case mul=>exact ⟨_,fun t w=>by simp[binOp,Op.intArith],hK⟩
 case quo=>obtain ⟨h0,hK⟩:=hK;exact ⟨_,fun t w=>by simp[binOp,Op.intDiv,h0],hK⟩
 case rem=>obtain ⟨h0,hK⟩:=hK;exact ⟨_,fun t w=>by simp[binOp,Op.intDiv,h0],hK⟩
 case and=>exact ⟨_,fun t w=>by simp only[binOp,Op.intBits,ne_eq,not_true_eq_false,if_false];rfl,hK⟩
 case or=>exact ⟨_,fun t w=>by simp only[binOp,Op.intBits,ne_eq,not_true_eq_false,if_false];rfl,hK⟩
 case xor=>exact ⟨_,fun t w=>by simp only[binOp,Op.intBits,ne_eq,not_true_eq_false,if_false];rfl,hK⟩
 case andNot=>exact ⟨_,fun t w=>by simp only[binOp,Op.intBits,ne_eq,not_true_eq_false,if_false];rfl,hK⟩
 case eql=>exact ⟨_,fun t w=>by simp only[binOp,Op.intCmp,ne_eq,not_true_eq_false,if_false];rfl,hK⟩
 case neq=>exact ⟨_,fun t w=>by simp only[binOp,Op.intCmp,ne_eq,not_true_eq_false,if_false];rfl,hK⟩
 case lss=>exact ⟨_,fun t w=>by simp only[binOp,Op.intCmp,ne_eq,not_true_eq_false,if_false];rfl,hK⟩
 case leq=>exact ⟨_,fun t w=>by simp only[binOp,Op.intCmp,ne_eq,not_true_eq_false,if_false];rfl,hK⟩
 case gtr=>exact ⟨_,fun t w=>by simp only[binOp,Op.intCmp,ne_eq,not_true_eq_false,if_false];rfl,hK⟩
 case geq=>exact ⟨_,fun t w=>by simp only[binOp,Op.intCmp,ne_eq,not_true_eq_false,if_false];rfl,hK⟩
theorem Z4G {op:BinOp} {x y:ByteArray} {K:AVal→Prop} (hK:Zko op x y K):
  ∃ v,(∀ t w,(binOp op t (.string x) (.string y)).run P w = .ok v w)∧K (.lit v):=by
 cases op<;>simp only[Zko] at hK<;>try (exact hK.elim)
 case add=>
  obtain ⟨h0,hK⟩:=hK
  refine ⟨_,fun t w=>?_,hK⟩
  have:¬(((x.size + y.size:Nat):Int) > IntKind.i64.max):=by simp[IntKind.max,IntKind.signed,IntKind.bits];omega
  simp only[binOp,Op.stringOp,this,if_false]
  rfl
 case eql=>exact ⟨_,fun t w=>by simp only[binOp,Op.stringOp,Zkh];rfl,hK⟩
 case neq=>exact ⟨_,fun t w=>by simp only[binOp,Op.stringOp,Zkh];rfl,hK⟩
 case lss=>exact ⟨_,fun t w=>by simp only[binOp,Op.stringOp];rfl,hK⟩
 case leq=>exact ⟨_,fun t w=>by simp only[binOp,Op.stringOp,Zkh];rfl,hK⟩
 case gtr=>exact ⟨_,fun t w=>by simp only[binOp,Op.stringOp,Zkh];rfl,hK⟩
 case geq=>exact ⟨_,fun t w=>by simp only[binOp,Op.stringOp];rfl,hK⟩
def Zis:List Leaf→List AVal→List AVal→(Bool→Prop)→Prop
 | [],[],[],K=>K true
 | .int :: ls,.lit (.int k a) :: xs,.lit (.int k' b) :: ys,K=>k = k'∧Zis ls xs ys fun r=>K (decide (a = b) && r)
 | .str :: ls,.lit (.string a) :: xs,.lit (.string b) :: ys,K=>Zis ls xs ys fun r=>K (decide (a = b) && r)
 | .bool :: ls,.lit (.bool a) :: xs,.lit (.bool b) :: ys,K=>Zis ls xs ys fun r=>K (decide (a = b) && r)
 |_,_,_,_=>False
theorem Z5d:∀ {ls:List Leaf} {xs ys:List AVal} {K:Bool→Prop} {us vs:List Value},Zis ls xs ys K→xs.length = us.length→ys.length = vs.length→
  (∀ (i:Nat) (hi:i < xs.length),VR ρ h w xs[i] (us.getD i undef))→(∀ (i:Nat) (hi:i < ys.length),VR ρ h w ys[i] (vs.getD i undef))→
  ∃ r,LeafEq ls us vs r∧K r:=by
 intro ls xs ys K us vs hK h1 h2 h3 h4
 induction ls generalizing xs ys K us vs with
 |nil=>
  match xs,ys,hK with
  | [],[],hK=>
    obtain rfl:us = []:=List.eq_nil_of_length_eq_zero h1.symm
    obtain rfl:vs = []:=List.eq_nil_of_length_eq_zero h2.symm
    exact ⟨true,.nil,hK⟩
 |cons l ls ih=>
  match l,xs,ys,us,vs,hK,h1,h2 with
  | .int,.lit (.int k a) :: xs,.lit (.int k' b) :: ys,u :: us,v :: vs,hK,h1,h2=>
    obtain ⟨hk,hK⟩:=hK
    have e1:=h3 0 (by simp)
    have e2:=h4 0 (by simp)
    simp at e1 e2
    cases e1;cases e2
    obtain ⟨r,hr,hK⟩:=ih hK (by simpa using h1) (by simpa using h2) (fun i hi=>h3 (i + 1) (by simpa using hi)) (fun i hi=>h4 (i + 1) (by simpa using hi))
    exact ⟨_,.int _ _ _ _ k k' a b hk hr,hK⟩
  | .str,.lit (.string a) :: xs,.lit (.string b) :: ys,u :: us,v :: vs,hK,h1,h2=>
    have e1:=h3 0 (by simp)
    have e2:=h4 0 (by simp)
    simp at e1 e2
    cases e1;cases e2
    obtain ⟨r,hr,hK⟩:=ih hK (by simpa using h1) (by simpa using h2) (fun i hi=>h3 (i + 1) (by simpa using hi)) (fun i hi=>h4 (i + 1) (by simpa using hi))
    exact ⟨_,.str _ _ _ _ a b hr,hK⟩
  | .bool,.lit (.bool a) :: xs,.lit (.bool b) :: ys,u :: us,v :: vs,hK,h1,h2=>
    have e1:=h3 0 (by simp)
    have e2:=h4 0 (by simp)
    simp at e1 e2
    cases e1;cases e2
    obtain ⟨r,hr,hK⟩:=ih hK (by simpa using h1) (by simpa using h2) (fun i hi=>h3 (i + 1) (by simpa using hi)) (fun i hi=>h4 (i + 1) (by simpa using hi))
    exact ⟨_,.bool _ _ _ _ a b hr,hK⟩
def ZQ (P:Program) (t:TypeId):Bool:=match P.underlying t with
 |some .bool=>true
 |_=>false
inductive NilKind where
 |ptr |slice |func |iface |map
def ZJ (P:Program) (t:TypeId):Option NilKind:=match P.underlying t with
 |some (.pointer _)=>some .ptr
 |some (.slice _)=>some .slice
 |some (.func _ _ _)=>some .func
 |some (.interface _)=>some .iface
 |some (.map _ _)=>some .map
 |_=>none
def AVal.isNil:NilKind→AVal→Option Bool
 | .ptr,.lit (.pointer none)=>some true
 | .ptr,.lit (.pointer (some _))=>some false
 | .ptr,.ptr _ _=>some false
 | .ptr,.rop _=>some false
 | .slice,.lit (.slice none _ _)=>some true
 | .slice,.lit (.slice (some _) _ _)=>some false
 | .slice,.sl _ _ _ _=>some false
 | .slice,.ros _ (_ + 1)=>some false
 | .func,.lit .nilFunc=>some true
 | .func,.fn _ _ _=>some false
 | .iface,.lit .nilIface=>some true
 | .iface,.ifc _ _=>some false
 | .map,.lit (.map none)=>some true
 | .map,.lit (.map (some _))=>some false
 | .map,.map _=>some false
 |_,_=>none
def Zfw:Operand→Bool
 | .const _=>true
 |_=>false
def Zee (P:Program) (op:BinOp) (t:TypeId) (ox oy:Operand) (x y:AVal) (K:AVal→Prop):Prop:=
 match x,y with
 | .lit (.int k a),.lit (.int k' b)=>match op with
   | .shl=>0≤b∧K (.lit (.int k (ZpO k a b)))
   | .shr=>0≤b∧K (.lit (.int k (ZbL k a b)))
   |op=>k = k'∧Zkx op k a b K
 | .lit (.string a),.lit (.string b)=>Zko op a b K
 | .lit (.bool a),.lit (.bool b)=>ZQ P t = true∧match op with
   | .eql=>K (.lit (.bool (decide (a = b))))
   | .neq=>K (.lit (.bool (!decide (a = b))))
   |_=>False
 | .agg xs,.agg ys=>match Zco P 20 t with
   |none=>False
   |some ls=>Zy P t = some true∧P.eqGuardType P.depth t = false∧Zis ls xs ys fun r=>match op with
    | .eql=>K (.lit (.bool r))
    | .neq=>K (.lit (.bool (!r)))
    |_=>False
 |x,y=>match ZJ P t with
  |none=>False
  |some k=>match x.isNil k,y.isNil k with
   |some p,some q=>(p = true∨q = true)∧(Zfw ox = true∨Zfw oy = true)∧match op with
    | .eql=>K (.lit (.bool (p && q)))
    | .neq=>K (.lit (.bool (!(p && q))))
    |_=>False
   |_,_=>False
def Zvm (d:TypeDesc) (x y:Value):Option Bool:=
 match d,x,y with
 | .pointer _,.pointer none,.pointer b=>some b.isNone
 | .pointer _,.pointer _,.pointer none=>some false
 | .interface _,.nilIface,.nilIface=>some true
 | .interface _,.nilIface,.iface _ _ | .interface _,.iface _ _,.nilIface=>some false
 | .slice _,.slice none _ _,.slice b _ _=>some b.isNone
 | .slice _,.slice _ _ _,.slice none _ _=>some false
 | .map _ _,.map none,.map b=>some b.isNone
 | .map _ _,.map _,.map none=>some false
 | .func _ _ _,.nilFunc,.nilFunc=>some true
 | .func _ _ _,.nilFunc,.func _ _ _ | .func _ _ _,.func _ _ _,.nilFunc=>some false
 |_,_,_=>none
theorem Z3q {t:TypeId} {d:TypeDesc} {x y:Value} {r:Bool} (hu:P.underlying t = some d) (hr:Zvm d x y = some r):(Op.equal t x y).run P w = .ok r w:=by
 show (Op.equalIn (9999 + 1) t x y).run P w = _
 unfold Op.equalIn
 rw[Sem.run_bind,Zr hu,Result.andThen_ok]
 unfold Zvm at hr
 split at hr<;>simp only[Option.some.injEq,reduceCtorEq] at hr<;>subst hr<;>first |rfl |simp_all
theorem Z2K {k:NilKind} {t:TypeId} {x y:AVal} {u v:Value} {p q:Bool} (hk:ZJ P t = some k) (hx:VR ρ h w x u) (hy:VR ρ h w y v) (hp:x.isNil k = some p) (hq:y.isNil k = some q)
  (hpq:p = true∨q = true):(Op.equal t u v).run P w = .ok (p && q) w:=by
 unfold ZJ at hk
 split at hk<;>simp only[Option.some.injEq,reduceCtorEq] at hk<;>subst hk
 all_goals
  rename_i hu
  unfold AVal.isNil at hp hq
  split at hp<;>simp only[Option.some.injEq,reduceCtorEq] at hp<;>(try contradiction)<;>subst hp
  all_goals
   split at hq<;>simp only[Option.some.injEq,reduceCtorEq] at hq<;>(try contradiction)<;>subst hq
   all_goals
    first
    | (simp at hpq;done)
    | (cases hx<;>cases hy<;>(refine Z3q hu ?_;rfl))
def ZcR (op:BinOp) (t:TypeId) (ox oy:Operand) (u v:Value):Sem Value:=do
 eqGuard op t ox oy u v
 binOp op t u v
theorem Z2O {op:BinOp} {t:TypeId} {ox oy:Operand} {k:NilKind} {x y:AVal} {u v:Value} {p q:Bool} (hx:VR ρ h w x u) (hy:VR ρ h w y v) (hp:x.isNil k = some p) (hq:y.isNil k = some q)
  (hc:Zfw ox = true∨Zfw oy = true):(eqGuard op t ox oy u v).run P w = .ok () w:=by
 have key:(u = .nilIface∧v = .nilIface)∨∀ op,(eqGuard op t ox oy u v).run P w = .ok () w:=by
  unfold AVal.isNil at hp hq
  split at hp<;>simp only[Option.some.injEq,reduceCtorEq] at hp<;>(try contradiction)
  all_goals
   split at hq<;>simp only[Option.some.injEq,reduceCtorEq] at hq<;>(try contradiction)
   all_goals (cases hx<;>cases hy<;>first |exact .inl ⟨rfl,rfl⟩ |exact .inr fun op=>by cases op<;>rfl)
 rcases key with ⟨rfl,rfl⟩ |key
 ·cases op<;>first |rfl | (cases ox<;>cases oy<;>first |rfl | (simp[Zfw] at hc;done))
 ·exact key op
theorem Z4o {t:TypeId} {k:NilKind} {x y:AVal} {u v:Value} {p q:Bool} (hx:VR ρ h w x u) (hy:VR ρ h w y v) (hp:x.isNil k = some p) (hq:y.isNil k = some q):
  binOp .eql t u v = (do pure (.bool (←Op.equal t u v)))∧binOp .neq t u v = (do pure (.bool (!(←Op.equal t u v)))):=by
 unfold AVal.isNil at hp hq
 split at hp<;>simp only[Option.some.injEq,reduceCtorEq] at hp<;>(try contradiction)
 all_goals
  split at hq<;>simp only[Option.some.injEq,reduceCtorEq] at hq<;>(try contradiction)
  all_goals (cases hx<;>cases hy<;>exact ⟨rfl,rfl⟩)
theorem Zm2 {op:BinOp} {t:TypeId} {ox oy:Operand} {u v:Value} (hu:(match u with | .int _ _ | .string _ | .bool _=>true |_=>false) = true):(eqGuard op t ox oy u v).run P w = .ok () w:=by
 cases u<;>simp only[reduceCtorEq,Bool.false_eq_true] at hu<;>(cases op<;>rfl)
theorem Z5u {op:BinOp} {t:TypeId} {ox oy:Operand} {x y:AVal} {u v:Value} {K:AVal→Prop} (hx:VR ρ h w x u) (hy:VR ρ h w y v) (hK:Zee P op t ox oy x y K):
  ∃ z r,(ZcR op t ox oy u v).run P w = .ok r w∧VR ρ h w z r∧K z:=by
 unfold Zee at hK
 split at hK
 ·rename_i k a k' b
  cases hx;cases hy
  have hg:=Zm2 (P:=P) (w:=w) (op:=op) (t:=t) (ox:=ox) (oy:=oy) (u:=.int k a) (v:=.int k' b) rfl
  split at hK
  ·obtain ⟨h0,hK⟩:=hK
   refine ⟨_,_,?_,.lit _,hK⟩
   simp only[ZcR,Sem.run_bind,hg,Result.andThen_ok,binOp,Op.shift]
   rw[if_neg (by omega)]
   rfl
  ·obtain ⟨h0,hK⟩:=hK
   refine ⟨_,_,?_,.lit _,hK⟩
   simp only[ZcR,Sem.run_bind,hg,Result.andThen_ok,binOp,Op.shift]
   rw[if_neg (by omega)]
   rfl
  ·rename_i h1 h2
   obtain ⟨rfl,hK⟩:=hK
   obtain ⟨z,hz,hK⟩:=ZvY (P:=P) (fun e=>h1 e) (fun e=>h2 e) hK
   exact ⟨_,_,by simp only[ZcR,Sem.run_bind,hg,Result.andThen_ok,hz],.lit _,hK⟩
 ·rename_i a b
  cases hx;cases hy
  have hg:=Zm2 (P:=P) (w:=w) (op:=op) (t:=t) (ox:=ox) (oy:=oy) (u:=.string a) (v:=.string b) rfl
  obtain ⟨z,hz,hK⟩:=Z4G (P:=P) hK
  exact ⟨_,_,by simp only[ZcR,Sem.run_bind,hg,Result.andThen_ok,hz],.lit _,hK⟩
 ·rename_i a b
  cases hx;cases hy
  have hg:=Zm2 (P:=P) (w:=w) (op:=op) (t:=t) (ox:=ox) (oy:=oy) (u:=.bool a) (v:=.bool b) rfl
  obtain ⟨ht,hK⟩:=hK
  have hu:P.underlying t = some .bool:=by
   unfold ZQ at ht
   split at ht
   ·assumption
   ·simp at ht
  have he:(Op.equal t (.bool a) (.bool b)).run P w = .ok (a == b) w:=run_equalIn_bool' w 9999 t a b hu
  split at hK
  ·refine ⟨_,_,?_,.lit _,hK⟩
   simp only[ZcR,Sem.run_bind,hg,Result.andThen_ok,binOp,he]
   cases a<;>cases b<;>rfl
  ·refine ⟨_,_,?_,.lit _,hK⟩
   simp only[ZcR,Sem.run_bind,hg,Result.andThen_ok,binOp,he]
   cases a<;>cases b<;>rfl
  ·exact hK.elim
 ·rename_i xs ys
  split at hK
  ·exact hK.elim
  ·rename_i ls hls
   obtain ⟨hag,hgt,hK⟩:=hK
   cases hx with |agg _ us hl hv=>
   cases hy with |agg _ vs hl' hv'=>
   obtain ⟨r,hr,hK⟩:=Z5d (us:=us.toList) (vs:=vs.toList) hK (by simpa using hl) (by simpa using hl')
    (fun i hi=>by simpa[Array.getD_eq_getD_getElem?,List.getD] using hv i hi) (fun i hi=>by simpa[Array.getD_eq_getD_getElem?,List.getD] using hv' i hi)
   have hrun:=Z0I (P:=P) 20 10000 t ls us.toList vs.toList r w (by omega) hls hr
   simp only[ZeQ,hag,Array.toArray_toList] at hrun
   have hg:(eqGuard op t ox oy (.agg us) (.agg vs)).run P w = .ok () w:=run_eqGuard_agg w op t ox oy us vs hgt
   have he:(Op.equal t (.agg us) (.agg vs)).run P w = .ok r w:=hrun
   split at hK
   ·exact ⟨_,_,by simp only[ZcR,Sem.run_bind,hg,Result.andThen_ok,binOp,he];rfl,.lit _,hK⟩
   ·exact ⟨_,_,by simp only[ZcR,Sem.run_bind,hg,Result.andThen_ok,binOp,he];rfl,.lit _,hK⟩
   ·exact hK.elim
 ·split at hK
  ·exact hK.elim
  ·rename_i k hk
   split at hK
   ·rename_i p q hp hq
    obtain ⟨h0,h1,hK⟩:=hK
    have hg:(eqGuard op t ox oy u v).run P w = .ok () w:=Z2O hx hy hp hq h1
    have he:=Z2K (P:=P) hk hx hy hp hq h0
    obtain ⟨b1,b2⟩:=Z4o (t:=t) hx hy hp hq
    split at hK
    ·exact ⟨_,_,by simp only[ZcR,Sem.run_bind,hg,Result.andThen_ok,b1,he];rfl,.lit _,hK⟩
    ·exact ⟨_,_,by simp only[ZcR,Sem.run_bind,hg,Result.andThen_ok,b2,he];rfl,.lit _,hK⟩
    ·exact hK.elim
   ·exact hK.elim
end Go.Proofs.YtogaiomakhapmaaGreat.AL
namespace Go.Proofs.YtogaiomakhapmaaGreat.AL
open Go
variable {ρ ρ':Env} {h h':Za} {w w':World} {P:Program}
def Gives (P:Program) (ρ:Env) (h:Za) (w:World) (s:Sem Value) (K:AVal→Za→Prop):Prop:=
 ∃ ρ' h' w' v u,s.run P w = .ok u w'∧Evo ρ h w ρ' h' w'∧Rel ρ' h' w'∧VR ρ' h' w' v u∧K v h'
theorem Gives.same {s:Sem Value} {K:AVal→Za→Prop} (hR:Rel ρ h w) {v:AVal} {u:Value} (hs:s.run P w = .ok u w) (hv:VR ρ h w v u) (hK:K v h):Gives P ρ h w s K:=
 ⟨ρ,h,w,v,u,hs,.refl ..,hR,hv,hK⟩
def ZhR (k:IntKind) (n:Int):Int:=ZcU k (if k.signed then -1 else k.max) n
def aUn (op:UnOp) (x:AVal) (K:AVal→Prop):Prop:=
 match op,x with
 | .not,.lit (.bool b)=>K (.lit (.bool (!b)))
 | .neg,.lit (.int k n)=>K (.lit (.int k (k.wrap (0 - n))))
 | .xor,.lit (.int k n)=>K (.lit (.int k (ZhR k n)))
 |_,_=>False
theorem Z4F {op:UnOp} {x:AVal} {u:Value} {K:AVal→Prop} (hR:Rel ρ h w) (hx:VR ρ h w x u) (hK:aUn op x K):Gives P ρ h w (Op.unary op u) fun v h'=>K v∧h' = h:=by
 unfold aUn at hK
 split at hK
 ·cases hx;exact .same hR rfl (.lit _) ⟨hK,rfl⟩
 ·cases hx;exact .same hR rfl (.lit _) ⟨hK,rfl⟩
 ·cases hx;exact .same hR rfl (.lit _) ⟨hK,rfl⟩
 ·exact hK.elim
def Zk1 (P:Program) (s:TypeId) (x:AVal) (i:Nat) (K:AVal→Prop):Prop:=
 match ZC P s i with
 |none=>False
 |some (off,ft)=>match Zx P ft with
  |some (n + 1)=>match x with
   | .ptr b o=>K (.ptr b (o + off))
   | .rop cs=>K (.rop (cs.drop off))
   |_=>False
  |_=>False
theorem Zt1 {s:TypeId} {i off:Nat} {ft:TypeId} (h:ZC P s i = some (off,ft)):∃ fs f,P.underlying s = some (.struct fs)∧fs[i]? = some f∧f.offset = off∧f.type = ft:=by
 unfold ZC at h
 split at h
 ·rename_i fs hu
  cases hf:fs[i]? with
  |none=>rw[hf] at h;simp at h
  |some f=>rw[hf] at h;simp at h;exact ⟨fs,f,hu,hf,h.1,h.2⟩
 ·simp at h
theorem VR.rop_drop {cs:List AVal} {c o:Nat} {n:Nat} (hv:VR ρ h w (.rop cs) (.pointer (some ⟨c,o,none⟩))):VR ρ h w (.rop (cs.drop n)) (.pointer (some ⟨c,o + n,none⟩)):=by
 cases hv with |rop _ _ _ C T fz hc hn hs hv=>
 refine .rop _ c (o + n) C T fz hc hn (fun i hi=>?_) fun i hi=>?_
 ·have:=hs (n + i) (by simp at hi;omega);omega
 ·have:=hv (n + i) (by simp at hi;omega)
  simpa[Nat.add_assoc] using this
theorem Z5h {s:TypeId} {x:AVal} {u:Value} {i:Nat} {K:AVal→Prop} (hR:Rel ρ h w) (hx:VR ρ h w x u) (hK:Zk1 P s x i K):Gives P ρ h w (Instr.fieldAt s u i) fun v h'=>K v∧h' = h:=by
 unfold Zk1 at hK
 split at hK
 ·exact hK.elim
 ·rename_i off ft hf
  obtain ⟨fs,f,hu,hfi,rfl,rfl⟩:=Zt1 hf
  split at hK
  ·rename_i n hn
   have run:∀ a:Addr,(Instr.fieldAt s (.pointer (some a)) i).run P w = .ok (.pointer (some (a.add f.offset))) w:=by
    intro a
    simp only[Instr.fieldAt,Sem.run_bind,Zr hu,Result.andThen_ok,hfi,Instr.sureAddr,Sem.run_pure,fieldPlace,Zc5 hn,Nat.add_one_ne_zero,if_false]
   split at hK
   ·rename_i b o
    cases hx with |ptr _ _ hb=>
    refine .same hR (run _) ?_ ⟨hK,rfl⟩
    rw[Zfd,Nat.add_assoc]
    exact .ptr b _ hb
   ·rename_i cs
    cases hx with |rop _ c o C T fz hc hn hs hv=>
    refine .same hR (run _) ?_ ⟨hK,rfl⟩
    rw[Zfd]
    exact VR.rop_drop (.rop cs c o C T fz hc hn hs hv)
   ·exact hK.elim
  ·exact hK.elim
def Zky (P:Program) (t:TypeId) (x i:AVal) (K:AVal→Prop):Prop:=
 match i with
 | .lit (.int _ i)=>match Z9 P t,Z3 P t with
   |some (n,e),_=>match Zx P e with
    |none=>False
    |some k=>0≤i∧i < n∧match x with
     | .ptr b o=>K (.ptr b (o + i.toNat * k))
     | .rop cs=>K (.rop (cs.drop (i.toNat * k)))
     |_=>False
   |none,some e=>match Zx P e with
    |none=>False
    |some k=>match x with
     | .sl k' b off len=>k' = k∧0≤i∧i < len∧K (.ptr b (off + i.toNat * k))
     | .ros cs len=>0≤i∧i < len∧K (.rop (cs.drop (i.toNat * k)))
     |_=>False
   |_,_=>False
 |_=>False
theorem Zjz {t:TypeId} {n:Nat} {e:TypeId} (h:Z9 P t = some (n,e)):P.underlying t = some (.array n e):=by
 unfold Z9 at h
 split at h<;>simp_all
theorem Zeq {t e:TypeId} (h:Z3 P t = some e):P.underlying t = some (.slice e):=by
 unfold Z3 at h
 split at h<;>simp_all
theorem Z5f {t:TypeId} {x i:AVal} {u j:Value} {K:AVal→Prop} (hR:Rel ρ h w) (hx:VR ρ h w x u) (hi:VR ρ h w i j) (hK:Zky P t x i K):
  Gives P ρ h w (Instr.indexAt t u j) fun v h'=>K v∧h' = h:=by
 unfold Zky at hK
 split at hK
 ·rename_i kk i
  cases hi
  split at hK
  ·rename_i n e _ hu
   have hu:=Zjz hu
   split at hK
   ·exact hK.elim
   ·rename_i k hk
    obtain ⟨h0,h1,hK⟩:=hK
    have run:∀ a:Addr,(Instr.indexAt t (.pointer (some a)) (.int kk i)).run P w = .ok (.pointer (some (a.add (i.toNat * k)))) w:=by
     intro a
     simp only[Instr.indexAt,asIntOf,Sem.run_bind,Sem.run_pure,Result.andThen_ok,Zr hu,Instr.sureAddr,Sem.run_ite]
     rw[if_pos ⟨h0,h1⟩]
     simp only[Zc5 hk,Result.andThen_ok]
    split at hK
    ·cases hx with |ptr _ _ hb=>
     refine .same hR (run _) ?_ ⟨hK,rfl⟩
     rw[Zfd,Nat.add_assoc]
     exact .ptr _ _ hb
    ·cases hx with |rop _ c o C T fz hc hn hs hv=>
     refine .same hR (run _) ?_ ⟨hK,rfl⟩
     rw[Zfd]
     exact VR.rop_drop (.rop _ c o C T fz hc hn hs hv)
    ·exact hK.elim
  ·rename_i e _ hu
   have hu:=Zeq hu
   split at hK
   ·exact hK.elim
   ·rename_i k hk
    have run:∀ (a:Addr) (len cap:Nat),0≤i→i < len→(Instr.indexAt t (.slice (some a) len cap) (.int kk i)).run P w = .ok (.pointer (some (a.add (i.toNat * k)))) w:=by
     intro a len cap h0 h1
     simp only[Instr.indexAt,asIntOf,Sem.run_bind,Sem.run_pure,Result.andThen_ok,Zr hu,Instr.sureAddr,Sem.run_ite]
     rw[if_pos ⟨h0,h1⟩]
     simp only[Zc5 hk,Result.andThen_ok]
    split at hK
    ·rename_i k' b off len
     obtain ⟨rfl,h0,h1,hK⟩:=hK
     cases hx with
     |sl _ _ _ _ cap hb hl hc=>
      refine .same hR (run _ _ _ h0 h1) ?_ ⟨hK,rfl⟩
      rw[Zfd,Nat.add_assoc]
      exact .ptr _ _ hb
     |slZ=>omega
    ·rename_i cs len
     obtain ⟨h0,h1,hK⟩:=hK
     cases hx with
     |rosZ _ hb a cap=>omega
     |ros _ c o _ cap C T fz hl hc hn hs hv=>
      refine .same hR (run _ _ _ h0 h1) ?_ ⟨hK,rfl⟩
      rw[Zfd]
      exact VR.rop_drop (.rop cs c o C T fz hc hn hs hv)
    ·exact hK.elim
  ·exact hK.elim
 ·exact hK.elim
def Zip (P:Program) (t:TypeId) (vs:List AVal) (off:Nat) (K:AVal→Prop):Prop:=
 match Zy P t,Zx P t with
 |some true,some n=>off + n≤vs.length∧K (.agg ((vs.drop off).take n))
 |some false,_=>match vs[off]? with
  |some v=>K v
  |none=>False
 |_,_=>False
theorem ZvS {t:TypeId} {vs:List AVal} {us:Array Value} {off:Nat} {K:AVal→Prop} (hR:Rel ρ h w) (hl:vs.length = us.size) (hv:∀ (i:Nat) (hi:i < vs.length),VR ρ h w vs[i] (us.getD i undef))
  (hK:Zip P t vs off K):Gives P ρ h w (part t us off) fun v h'=>K v∧h' = h:=by
 unfold Zip at hK
 split at hK
 ·rename_i n ha hn
  obtain ⟨h0,hK⟩:=hK
  refine .same hR (u:=.agg (us.extract off (off + n))) ?_ (.agg _ _ (by simp;omega) fun i hi=>?_) ⟨hK,rfl⟩
  ·simp only[part,Sem.run_bind,Zfr ha,Result.andThen_ok,if_true,Zc5 hn,Sem.run_pure]
  ·have hi':i < n:=by simp at hi;omega
   have:=hv (off + i) (by omega)
   have h1:i < (us.extract off (off + n)).size:=by simp;omega
   have h2:off + i < us.size:=by omega
   simp only[Array.getD,h1,h2,dif_pos] at this⊢
   simpa using this
 ·rename_i _ ha
  split at hK
  ·rename_i v hvv
   have hlt:=ZE hvv
   have h2:off < us.size:=by omega
   refine .same hR (u:=us[off]) ?_ ?_ ⟨hK,rfl⟩
   ·simp only[part,Sem.run_bind,Zfr ha,Result.andThen_ok,Bool.false_eq_true,if_false,Array.getElem?_eq_getElem h2,Sem.run_pure]
   ·have:=hv off hlt
    rw[List.getElem?_eq_getElem hlt] at hvv
    cases hvv
    simpa[Array.getD,h2] using this
  ·exact hK.elim
 ·exact hK.elim
def ZmN (s:ByteArray) (i:Nat):Int:=(s.data.getD i 0).toNat
def Zkz (P:Program) (t:TypeId) (x i:AVal) (K:AVal→Prop):Prop:=
 match i,x with
 | .lit (.int _ i),.lit (.string s)=>ZG P t = true∧0≤i∧i < s.size∧K (.lit (.int .u8 (ZmN s i.toNat)))
 | .lit (.int _ i),.agg vs=>match Z9 P t with
   |none=>False
   |some (n,e)=>match Zx P e with
    |none=>False
    |some k=>0≤i∧i < n∧Zip P e vs (i.toNat * k) K
 |_,_=>False
theorem ZpF {t:TypeId} (h:ZG P t = true):P.underlying t = some .string:=by
 unfold ZG at h
 split at h<;>simp_all
theorem Z5e {t:TypeId} {x i:AVal} {u j:Value} {K:AVal→Prop} (hR:Rel ρ h w) (hx:VR ρ h w x u) (hi:VR ρ h w i j) (hK:Zkz P t x i K):
  Gives P ρ h w (Instr.index t u j) fun v h'=>K v∧h' = h:=by
 unfold Zkz at hK
 split at hK
 ·rename_i kk i s
  cases hi;cases hx
  obtain ⟨ht,h0,h1,hK⟩:=hK
  refine .same hR (u:=.int .u8 (ZmN s i.toNat)) ?_ (.lit _) ⟨hK,rfl⟩
  have hlt:i.toNat < s.size:=by omega
  have hget:s[i.toNat]? = some (s.data.getD i.toNat 0):=by
   have h3:s.data.getD i.toNat 0 = s[i.toNat]:=by
    have:i.toNat < s.data.size:=hlt
    simp only[Array.getD,this,dif_pos];rfl
   rw[h3]
   exact getElem?_pos s i.toNat hlt
  simp only[Instr.index,asIntOf,Sem.run_bind,Sem.run_pure,Result.andThen_ok,Zr (ZpF ht),if_pos h0,hget]
  rfl
 ·rename_i kk i vs
  cases hi
  cases hx with |agg _ us hl hv=>
  split at hK
  ·exact hK.elim
  ·rename_i n e hu
   split at hK
   ·exact hK.elim
   ·rename_i k hk
    obtain ⟨h0,h1,hK⟩:=hK
    obtain ⟨ρ',h',w',v,r,g1,g2⟩:=ZvS hR hl hv hK
    refine ⟨ρ',h',w',v,r,?_,g2⟩
    simp only[Instr.index,asIntOf,Sem.run_bind,Sem.run_pure,Result.andThen_ok,Zr (Zjz hu),Sem.run_ite]
    rw[if_pos ⟨h0,h1⟩]
    simp only[Zc5 hk,Result.andThen_ok,g1]
 ·exact hK.elim
def Zk0 (P:Program) (t:TypeId) (x:AVal) (i:Nat) (K:AVal→Prop):Prop:=
 match x with
 | .agg vs=>match ZC P t i with
   |some (off,ft)=>Zip P ft vs off K
   |none=>False
 |_=>False
theorem Z5i {t:TypeId} {x:AVal} {u:Value} {i:Nat} {K:AVal→Prop} (hR:Rel ρ h w) (hx:VR ρ h w x u) (hK:Zk0 P t x i K):Gives P ρ h w (Instr.field t u i) fun v h'=>K v∧h' = h:=by
 unfold Zk0 at hK
 split at hK
 ·rename_i vs
  cases hx with |agg _ us hl hv=>
  split at hK
  ·rename_i off ft hf
   obtain ⟨fs,f,hu,hfi,rfl,rfl⟩:=Zt1 hf
   obtain ⟨ρ',h',w',v,r,g1,g2⟩:=ZvS hR hl hv hK
   refine ⟨ρ',h',w',v,r,?_,g2⟩
   simp only[Instr.field,Sem.run_bind,Zr hu,Result.andThen_ok,hfi,asAgg,Sem.run_pure,g1]
  ·exact hK.elim
 ·exact hK.elim
def Zgo (x:AVal) (i:Nat) (K:AVal→Prop):Prop:=
 match x with
 | .tup vs=>match vs[i]? with
   |some v=>K v
   |none=>False
 |_=>False
theorem Z5j {x:AVal} {u:Value} {i:Nat} {K:AVal→Prop} (hR:Rel ρ h w) (hx:VR ρ h w x u) (hK:Zgo x i K):Gives P ρ h w (Instr.extract u i) fun v h'=>K v∧h' = h:=by
 unfold Zgo at hK
 split at hK
 ·rename_i vs
  cases hx with |tup _ us hl hv=>
  split at hK
  ·rename_i v hvv
   have hlt:=ZE hvv
   have h2:i < us.size:=by omega
   refine .same hR (u:=us[i]) ?_ ?_ ⟨hK,rfl⟩
   ·simp only[Instr.extract,Array.getElem?_eq_getElem h2,Sem.run_pure]
   ·have:=hv i hlt
    rw[List.getElem?_eq_getElem hlt] at hvv
    cases hvv
    simpa[Array.getD,h2] using this
  ·exact hK.elim
 ·exact hK.elim
def Zk9 (P:Program) (t:TypeId) (h:Za) (K:AVal→Za→Prop):Prop:=
 match Z5 P t with
 |some z=>match z.parts with
  |some vs=>K (.ptr h.length 0) (h++[.cells vs])∨(z = .agg [.lit (.pointer none),.lit (.slice none 0 0)]∧K (.ptr h.length 0) (h++[.bld t none 0]))
  |none=>False
 |none=>False
theorem Z2s {v:Value} (h:litA v = .agg [.lit (.pointer none),.lit (.slice none 0 0)]):v.cells = #[.pointer none,.slice none 0 0]:=by
 cases v with
 |agg cs=>
  simp only[litA,AVal.agg.injEq] at h
  obtain ⟨l⟩:=cs
  match l,h with
  | [a,b],h=>simp at h;simp[Value.cells,h]
 |_=>simp[litA] at h
theorem ZuA (hR:Rel ρ h w) {vs:List AVal} {us:Array Value} {T:TypeId} {K:AVal→Za→Prop} {s:Sem Value} (hv:VRs ρ h w vs us)
  (hs:s.run P w = .ok (.pointer (some ⟨w.heap.size,0,none⟩)) { w with heap:=w.heap.push (.cells us T)}) (hK:K (.ptr h.length 0) (h++[.cells vs])):Gives P ρ h w s K:=by
 obtain ⟨e,r⟩:=Z1X (T:=T) hR hv
 refine ⟨_,_,_,_,_,hs,e,r,?_,hK⟩
 have:=VR.ptr (ρ:=ext ρ h.length ⟨w.heap.size,0,us.size,1⟩) (h:=h++[.cells vs]) (w:={ w with heap:=w.heap.push (.cells us T)}) h.length 0 (by simp)
 simpa[Zds] using this
theorem Z5y {t:TypeId} {K:AVal→Za→Prop} (hR:Rel ρ h w) (hK:Zk9 P t h K):Gives P ρ h w (Instr.alloc t true (.tuple #[])) K:=by
 unfold Zk9 at hK
 split at hK
 ·rename_i z hz
  split at hK
  ·rename_i vs hvs
   obtain ⟨v,hrun,rfl⟩:=ZhH (w:=w) hz
   have run:(Instr.alloc t true (.tuple #[])).run P w = .ok (.pointer (some ⟨w.heap.size,0,none⟩)) { w with heap:=w.heap.push (.cells v.cells t)}:=by
    simp only[Instr.alloc,Sem.run_bind,hrun,Result.andThen_ok,newVar,newRow,run_newObj,Sem.run_pure]
   rcases hK with hK | ⟨hv,hK⟩
   ·exact ZuA (T:=t) hR ((VR.litA v).parts hvs) run hK
   ·have hcs:v.cells = #[.pointer none,.slice none 0 0]:=Z2s hv
    rw[hcs] at run
    refine ⟨ext ρ h.length ⟨w.heap.size,0,2,1⟩,_,_,.ptr h.length 0,_,run,Zf0 (l:=⟨w.heap.size,0,2,1⟩) hR rfl,?_,?_,hK⟩
    ·exact Rel.push (l:=⟨w.heap.size,0,2,1⟩) (o:=.bld t none 0) hR rfl ⟨rfl,.pointer none,.slice none 0 0,by simp,.inl rfl,rfl,rfl⟩
    ·have:=VR.ptr (ρ:=ext ρ h.length ⟨w.heap.size,0,2,1⟩) (h:=h++[.bld t none 0]) (w:={ w with heap:=w.heap.push (.cells #[.pointer none,.slice none 0 0] t)}) h.length 0 (by simp)
     simpa[Zds] using this
  ·exact hK.elim
 ·exact hK.elim
def Zk7 (t:TypeId) (x:AVal) (h:Za) (K:AVal→Za→Prop):Prop:=
 match x.parts with
 |some vs=>K (.ptr h.length 0) (h++[.cells vs])∨(x = .agg [.lit (.pointer none),.lit (.slice none 0 0)]∧K (.ptr h.length 0) (h++[.bld t none 0]))
 |none=>False
theorem ZzQ {ρ:Env} {h:Za} {w:World} {u:Value} (hx:VR ρ h w (.agg [.lit (.pointer none),.lit (.slice none 0 0)]) u):u.cells = #[.pointer none,.slice none 0 0]:=by
 cases hx with |agg _ us hl hv=>
 obtain ⟨l⟩:=us
 match l,hl with
 | [a,b],_=>
   have h0:=hv 0 (by simp)
   have h1:=hv 1 (by simp)
   simp only[List.getElem_cons_zero,List.getElem_cons_succ] at h0 h1
   generalize hq:(({ toList:=[a,b]}:Array Value).getD 0 undef) = q at h0
   generalize hr:(({ toList:=[a,b]}:Array Value).getD 1 undef) = r at h1
   have e0:q = a:=by rw[←hq];rfl
   have e1:r = b:=by rw[←hr];rfl
   cases h0;cases h1
   rw[←e0,←e1];rfl
theorem Z5t {t:TypeId} {x:AVal} {u:Value} {K:AVal→Za→Prop} (hR:Rel ρ h w) (hx:VR ρ h w x u) (hK:Zk7 t x h K):Gives P ρ h w (Instr.box t u) K:=by
 unfold Zk7 at hK
 split at hK
 ·rename_i vs hvs
  have run:(Instr.box t u).run P w = .ok (.pointer (some ⟨w.heap.size,0,none⟩)) { w with heap:=w.heap.push (.cells u.cells t)}:=by
   simp only[Instr.box,Sem.run_bind,newVar,newRow,run_newObj,Sem.run_pure,Result.andThen_ok]
  rcases hK with hK | ⟨hv,hK⟩
  ·exact ZuA (T:=t) hR (hx.parts hvs) run hK
  ·subst hv
   have hcs:u.cells = #[.pointer none,.slice none 0 0]:=ZzQ hx
   rw[hcs] at run
   refine ⟨ext ρ h.length ⟨w.heap.size,0,2,1⟩,_,_,.ptr h.length 0,_,run,Zf0 (l:=⟨w.heap.size,0,2,1⟩) hR rfl,?_,?_,hK⟩
   ·exact Rel.push (l:=⟨w.heap.size,0,2,1⟩) (o:=.bld t none 0) hR rfl ⟨rfl,.pointer none,.slice none 0 0,by simp,.inl rfl,rfl,rfl⟩
   ·have:=VR.ptr (ρ:=ext ρ h.length ⟨w.heap.size,0,2,1⟩) (h:=h++[.bld t none 0]) (w:={ w with heap:=w.heap.push (.cells #[.pointer none,.slice none 0 0] t)}) h.length 0 (by simp)
    simpa[Zds] using this
 ·exact hK.elim
end Go.Proofs.YtogaiomakhapmaaGreat.AL
namespace Go.Proofs.YtogaiomakhapmaaGreat.AL
open Go
variable {ρ ρ':Env} {h h':Za} {w w':World} {P:Program}
theorem Rel.like (hR:Rel ρ h w) (hsm:Same w w') (hw:w'.heap = w.heap):Rel ρ h w'∧Evo ρ h w ρ h w':=by
 have e:Evo ρ h w ρ h w':=⟨Nat.le_refl _,fun _ _=>rfl,by rw[hw];exact Nat.le_refl _,hsm,fun c hc hn=>⟨by rw[hw],hn⟩,fun l r hr=>⟨r,by rw[hw];exact hr⟩⟩
 exact ⟨⟨hR.glob.evo e,fun b o hb=>(hR.obj b o hb).evo e fun _=>by rw[hw],hR.inj⟩,e⟩
theorem grown (hR:Rel ρ h w) (hsm:Same w w') {vs:List AVal} {us:Array Value} {T:TypeId} {fz:Nat×Nat} {m:Nat} (hw:w'.heap = w.heap.push (.cells us T fz)) (hl:vs.length≤us.size)
  (hv:∀ (i:Nat) (hi:i < vs.length),VR ρ h w vs[i] (us.getD i undef)) (hf:∀ i,i < us.size + m→(decide (fz.1≤i) && decide (i < fz.2)) = false):
  Evo ρ h w (ext ρ h.length ⟨w.heap.size,0,us.size,m⟩) (h++[.cells vs]) w'∧Rel (ext ρ h.length ⟨w.heap.size,0,us.size,m⟩) (h++[.cells vs]) w':=by
 obtain ⟨e,r⟩:=Z1W (T:=T) hR hl hv hf
 obtain ⟨r2,e2⟩:=r.like (w':=w') hsm hw
 exact ⟨e.trans e2,r2⟩
theorem Gives.slice {s:Sem Value} {K:AVal→Za→Prop} (hR:Rel ρ h w) (hsm:Same w w') {vs:List AVal} {us:Array Value} {T:TypeId} {fz:Nat×Nat} {m:Nat} {k len cap:Nat} (hs:s.run P w = .ok (.slice (some ⟨w.heap.size,0,none⟩) len cap) w')
  (hw:w'.heap = w.heap.push (.cells us T fz)) (hl:vs.length≤us.size) (hlen:len≤cap) (hcap:cap * k≤us.size)
  (hv:∀ (i:Nat) (hi:i < vs.length),VR ρ h w vs[i] (us.getD i undef)) (hf:∀ i,i < us.size + m→(decide (fz.1≤i) && decide (i < fz.2)) = false)
  (hK:K (.sl k h.length 0 len) (h++[.cells vs])) (hm:k = 1∨1≤m:=by exact .inr (Nat.le_refl 1)):Gives P ρ h w s K:=by
 obtain ⟨e,r⟩:=grown hR hsm hw hl hv hf
 refine ⟨_,_,_,_,_,hs,e,r,?_,hK⟩
 have:=VR.sl (ρ:=ext ρ h.length ⟨w.heap.size,0,us.size,m⟩) (h:=h++[.cells vs]) (w:=w') k h.length 0 len cap (by simp) hlen (by simpa[Zds] using hcap) (by simpa[Zds] using hm)
 simpa[Zds] using this
def ZR (b:UInt8):AVal:=.lit (.int .u8 b.toNat)
def Zhh (P:Program) (src dst:TypeId) (x:AVal) (h:Za) (K:AVal→Za→Prop):Prop:=
 (P.underlying src).isSome = true∧
 match P.underlying dst,x with
 |some (.int k),.lit (.int _ n)=>K (.lit (.int k (k.wrap n))) h
 |some .string,.lit (.int _ n)=>K (.lit (.string (Utf8.encode n))) h
 |some .string,.lit (.string s)=>K (.lit (.string s)) h
 |some (.slice e),.lit (.string s)=>ZD P e = some .u8∧K (.sl 1 h.length 0 s.size) (h++[.cells (s.data.toList.map ZR)])
 |some .string,.sl 1 b off len=>(match Z3 P src with
   |some e=>ZD P e = some .u8
   |none=>False)∧∃ l:List UInt8,(match h[b]? with
   |some (.cells cs)=>(cs.drop off).take len = l.map ZR
   |_=>False)∧l.length = len∧K (.lit (.string ⟨l.toArray⟩)) h
 |some .string,.ros cs len=>(match Z3 P src with
   |some e=>ZD P e = some .u8
   |none=>False)∧∃ l:List UInt8,cs.take len = l.map ZR∧l.length = len∧K (.lit (.string ⟨l.toArray⟩)) h
 |_,_=>False
theorem ZpH {t:TypeId} {k:IntKind} (h:ZD P t = some k):P.underlying t = some (.int k):=by
 unfold ZD at h
 split at h<;>simp_all
theorem ZpL (l:List UInt8):strOfNums (l.map fun b=>(b.toNat:Int)) = ⟨l.toArray⟩:=by
 unfold strOfNums
 congr 1
 rw[List.map_map]
 congr 1
 rw[show ((fun n:Int=>UInt8.ofNat n.toNat) ∘ fun b:UInt8=>(b.toNat:Int)) = id from by funext b;simp]
 simp
theorem ZtL {src dst e:TypeId} {c off len cap:Nat} {C:Array Value} {T:TypeId} {fz:Nat×Nat} (l:List UInt8) (hs:P.underlying src = some (.slice e)) (he:P.underlying e = some (.int .u8)) (hd:P.underlying dst = some .string)
  (hc:w.heap[c]? = some (.cells C T fz)) (hsz:off + len≤C.size) (hl:l.length = len)
  (hv:∀ i (hi:i < l.length),C.getD (off + i) undef = .int .u8 l[i].toNat):(convert src dst (.slice (some ⟨c,off,none⟩) len cap)).run P w = .ok (.string ⟨l.toArray⟩) w:=by
 rw[←ZpL]
 refine run_convert_bytes_arg w src e hs he c off len cap _ (by simpa using hl) (fun i hi=>?_) dst hd
 rw[ZjZ hc (by omega),hv i (by omega)]
 have:i < l.length:=by omega
 simp[List.getD,this]
theorem Z3T {cs:List AVal} {l:List UInt8} {C:Array Value} {off o len:Nat} (h1:(cs.drop off).take len = l.map ZR) (hl:l.length = len)
  (hv:∀ (i:Nat) (hi:i < cs.length),VR ρ h w cs[i] (C.getD (o + i) undef)):off + len≤cs.length∨len = 0:=by
 have:=congrArg List.length h1
 simp at this
 omega
theorem Z5p {src dst:TypeId} {x:AVal} {u:Value} {K:AVal→Za→Prop} (hR:Rel ρ h w) (hx:VR ρ h w x u) (hK:Zhh P src dst x h K):Gives P ρ h w (convert src dst u) K:=by
 unfold Zhh at hK
 obtain ⟨hsrc,hK⟩:=hK
 obtain ⟨D,hD⟩:=Option.isSome_iff_exists.1 hsrc
 split at hK
 ·rename_i k kk n hu
  cases hx
  refine .same hR (u:=.int k (k.wrap n)) ?_ (.lit _) hK
  simp only[convert,Sem.run_bind,Zr hD,Zr hu,Result.andThen_ok]
  cases D<;>rfl
 ·rename_i kk n hu
  cases hx
  refine .same hR (u:=.string (Utf8.encode n)) ?_ (.lit _) hK
  simp only[convert,Sem.run_bind,Zr hD,Zr hu,Result.andThen_ok]
  cases D<;>rfl
 ·rename_i s hu
  cases hx
  refine .same hR (u:=.string s) ?_ (.lit _) hK
  simp only[convert,Sem.run_bind,Zr hD,Zr hu,Result.andThen_ok]
  cases D<;>rfl
 ·rename_i e s hu
  cases hx
  obtain ⟨he,hK⟩:=hK
  have he:=ZpH he
  have hrun:=Lib.run_convert_string_bytes (P:=P) w src dst e s hD hu he
  have hge:s.size≤grownCap w s.size 0 e:=grownCap_ge w s.size 0 e
  have hsz:(Lib.bytesCells w e s).size = grownCap w s.size 0 e:=by
   simp only[Lib.bytesCells,Array.size_append,Array.size_map,Array.size_replicate]
   have:s.data.size = s.size:=rfl
   omega
  have hlen:(s.data.toList.map ZR).length = s.size:=by simp
  refine Gives.slice (us:=Lib.bytesCells w e s) (T:=e) (m:=0) (fz:=((Lib.bytesCells w e s).size,(Lib.bytesCells w e s).size + 1)) hR (by exact ⟨rfl,rfl,rfl⟩) hrun ?_ (by rw[hlen,hsz];exact hge) hge (by rw[hsz];omega) (fun i hi=>?_) (fun i hi=>?_) hK (.inl rfl)
  ·apply Array.ext_getElem?
   intro j
   rcases Nat.lt_trichotomy j w.heap.size with hj |hj |hj
   ·rw[Lib.bytesWorld_at_old w e s j hj];simp[Array.getElem?_push,Nat.ne_of_lt hj]
   ·subst hj;rw[Lib.bytesWorld_at_new];simp
   ·have h1:=Lib.bytesWorld_size w e s
    rw[Array.getElem?_eq_none (by omega),Array.getElem?_eq_none (by simp;omega)]
  ·rw[hlen] at hi
   have h1:i < s.data.size:=hi
   have h2:i < (Lib.bytesCells w e s).size:=by rw[hsz];omega
   have h3:(Lib.bytesCells w e s).getD i undef = .int .u8 s.data[i].toNat:=by
    simp only[Array.getD,h2,dif_pos]
    show (Lib.bytesCells w e s)[i] = _
    simp only[Lib.bytesCells]
    rw[Array.getElem_append_left (by simpa using h1)]
    simp
   rw[h3]
   simp only[List.getElem_map,Array.getElem_toList,ZR]
   exact .lit _
  ·simp;omega
 ·rename_i b off len hu
  obtain ⟨he,l,hl,hlen,hK⟩:=hK
  split at he
  ·rename_i e hse
   have hse:=Zeq hse
   have he:=ZpH he
   split at hl
   ·rename_i cs hcs
    cases hx with
    |sl _ _ _ _ cap hb hle hcap=>
     obtain ⟨C,T,fz,g1,g2,g3,g4,g5⟩:=hR.obj b _ hcs
     refine .same hR (u:=.string ⟨l.toArray⟩) ?_ (.lit _) hK
     refine ZtL l hse he hu g1 (by omega) hlen fun i hi=>?_
     have h1:off + i < cs.length:=by
      rcases Z3T hl hlen g5 with h |h<;>omega
     have h2:=g5 (off + i) h1
     have h3:cs[off + i] = ZR l[i]:=by
      have:=congrArg (fun x:List AVal=>x[i]?) hl
      have h4:i < len:=by omega
      simp only[List.getElem?_take,List.getElem?_drop,if_pos h4,List.getElem?_eq_getElem h1,List.getElem?_map,List.getElem?_eq_getElem hi,Option.map_some,Option.some.injEq] at this
      exact this
     rw[h3] at h2
     rw[Nat.add_assoc]
     generalize C.getD ((ρ b).base + (off + i)) undef = z at h2
     unfold ZR at h2
     cases h2
     rfl
    |slZ _ _ _ o hb=>
     obtain rfl:l = []:=List.eq_nil_of_length_eq_zero hlen
     obtain ⟨C,T,fz,g1,g2,g3,g4,g5⟩:=hR.obj b _ hcs
     refine .same hR (u:=.string ⟨[].toArray⟩) ?_ (.lit _) hK
     rw[←ZpL]
     exact run_convert_bytes_arg w src e hse he (ρ b).blk o 0 0 [] rfl (fun i hi=>by omega) dst hu
   ·exact hl.elim
  ·exact he.elim
 ·rename_i cs len hu
  obtain ⟨he,l,hl,hlen,hK⟩:=hK
  split at he
  ·rename_i e hse
   have hse:=Zeq hse
   have he:=ZpH he
   cases hx with
   |ros _ c off _ cap C T fz hle g1 hn g2 g5=>
    refine .same hR (u:=.string ⟨l.toArray⟩) ?_ (.lit _) hK
    have hlen2:len≤cs.length:=by
     have:=congrArg List.length hl
     simp at this
     omega
    have hfit:off + len≤C.size∨len = 0:=by
     rcases Nat.eq_zero_or_pos len with h |h
     ·exact .inr h
     ·left;have:=g2 (len - 1) (by omega);omega
    rcases hfit with hfit |h0
    ·refine ZtL l hse he hu g1 hfit hlen fun i hi=>?_
     have h1:i < cs.length:=by omega
     have h2:=g5 i h1
     have h3:cs[i] = ZR l[i]:=by
      have:=congrArg (fun x:List AVal=>x[i]?) hl
      have h4:i < len:=by omega
      simp only[List.getElem?_take,if_pos h4,List.getElem?_eq_getElem h1,List.getElem?_map,List.getElem?_eq_getElem hi,Option.map_some,Option.some.injEq] at this
      exact this
     rw[h3] at h2
     generalize C.getD (off + i) undef = z at h2
     unfold ZR at h2
     cases h2
     rfl
    ·subst h0
     obtain rfl:l = []:=List.eq_nil_of_length_eq_zero hlen
     rw[←ZpL]
     exact run_convert_bytes_arg w src e hse he c off 0 cap [] rfl (fun i hi=>by omega) dst hu
   |rosZ _ hb a cap=>
    obtain rfl:l = []:=List.eq_nil_of_length_eq_zero hlen
    refine .same hR (u:=.string ⟨[].toArray⟩) ?_ (.lit _) hK
    cases a with
    |none=>exact run_convert_bytes_nil w src e hse he 0 cap dst hu
    |some a=>rw[run_convert_bytes_string w src dst e _ 0 cap hse he hu];simp[Conv.bytesToString,loadCells,loadCellsFrom];rfl
  ·exact he.elim
 ·exact hK.elim
end Go.Proofs.YtogaiomakhapmaaGreat.AL
namespace Go.Proofs.YtogaiomakhapmaaGreat.AL
open Go
variable {ρ ρ':Env} {h h':Za} {w w':World} {P:Program}
def bnd (x:Option AVal) (d:Int):Option Int:=
 match x with
 |none=>some d
 |some (.lit (.int _ n))=>some n
 |_=>none
def VRo (ρ:Env) (h:Za) (w:World):Option AVal→Option Value→Prop
 |none,none=>True
 |some x,some u=>VR ρ h w x u
 |_,_=>False
theorem Zet {x:Option AVal} {u:Option Value} {d n:Int} (hx:VRo ρ h w x u) (hb:bnd x d = some n):(u = none∧n = d)∨∃ k,u = some (.int k n):=by
 unfold bnd at hb
 split at hb
 ·cases u with
  |none=>simp at hb;exact .inl ⟨rfl,hb.symm⟩
  |some u=>exact hx.elim
 ·rename_i k m
  cases u with
  |none=>exact hx.elim
  |some u=>simp only[Option.some.injEq] at hb;subst hb;cases hx;exact .inr ⟨k,rfl⟩
 ·simp at hb
theorem Zj8 {isSlice:Bool} {len cap:Nat} {lo hi mx:Option Value} {l r m:Int} (hlo:(lo = none∧l = 0)∨∃ k,lo = some (.int k l)) (hhi:(hi = none∧r = len∧mx = none)∨∃ k,hi = some (.int k r))
  (hmx:(mx = none∧m = cap)∨∃ k,mx = some (.int k m)) (h0:0≤l) (h1:l≤r) (h2:r≤m) (h3:m≤cap):
  (Instr.sliceBounds isSlice len cap lo hi mx).run P w = .ok (l.toNat,r.toNat,m.toNat) w:=by
 have e1:((m.toNat:Nat):Int) = m:=by omega
 have e2:((r.toNat:Nat):Int) = r:=by omega
 rcases hmx with ⟨rfl,rfl⟩ | ⟨km,rfl⟩
 ·rcases hhi with ⟨rfl,rfl,_⟩ | ⟨kr,rfl⟩
  ·rcases hlo with ⟨rfl,rfl⟩ | ⟨kl,rfl⟩
   ·simp[Instr.sliceBounds]
   ·simp only[Instr.sliceBounds,Sem.run_bind,Sem.run_pure,Result.andThen_ok,run_sliceBound _ kl l _ _ h0 h1,Int.toNat_natCast]
  ·rcases hlo with ⟨rfl,rfl⟩ | ⟨kl,rfl⟩
   ·simp only[Instr.sliceBounds,Sem.run_bind,Sem.run_pure,Result.andThen_ok,run_sliceBound _ kr r _ _ (Int.le_trans h0 h1) h2];rfl
   ·simp only[Instr.sliceBounds,Sem.run_bind,Sem.run_pure,Result.andThen_ok,run_sliceBound _ kr r _ _ (Int.le_trans h0 h1) h2,run_sliceBound _ kl l r.toNat _ h0 (by omega)];rfl
 ·rcases hhi with ⟨rfl,rfl,hh⟩ | ⟨kr,rfl⟩
  ·simp at hh
  ·rcases hlo with ⟨rfl,rfl⟩ | ⟨kl,rfl⟩
   ·simp only[Instr.sliceBounds,Sem.run_bind,Sem.run_pure,Result.andThen_ok,run_sliceBound _ km m _ _ (by omega) h3,run_sliceBound _ kr r m.toNat _ (by omega) (by omega)];rfl
   ·simp only[Instr.sliceBounds,Sem.run_bind,Sem.run_pure,Result.andThen_ok,run_sliceBound _ km m _ _ (by omega) h3,run_sliceBound _ kr r m.toNat _ (by omega) (by omega),run_sliceBound _ kl l r.toNat _ h0 (by omega)]
def ZjD (hi mx:Option AVal) (r:Int) (len:Nat):Prop:=match mx with
 |none=>True
 |some m=>hi.isSome = true∧match bnd (some m) 0 with
  |some m=>r≤m∧m≤len
  |none=>False
def Zkp (P:Program) (t:TypeId) (h:Za) (x:AVal) (lo hi mx:Option AVal) (K:AVal→Prop):Prop:=
 match Z9 P t,Z3 P t with
 |some (n,e),_=>match x,Zx P e,bnd lo 0,bnd hi n with
  | .ptr b o,some k,some l,some r=>k = 1∧mx.isNone = true∧(match h[b]? with
    |some (.cells cs)=>o + n * k≤cs.length
    |_=>False)∧0≤l∧l≤r∧r≤n∧K (.sl k b (o + l.toNat * k) (r - l).toNat)
  |_,_,_,_=>False
 |none,some e=>match x,Zx P e with
  | .sl k' b off len,some k=>match bnd lo 0,bnd hi len with
    |some l,some r=>k' = k∧0≤l∧l≤r∧r≤len∧ZjD hi mx r len∧K (.sl k b (off + l.toNat * k) (r - l).toNat)
    |_,_=>False
  | .ros cs len,some k=>match bnd lo 0,bnd hi len with
    |some l,some r=>0≤l∧l≤r∧r≤len∧ZjD hi mx r len∧K (.ros (cs.drop (l.toNat * k)) (r - l).toNat)
    |_,_=>False
  | .lit (.slice none 0 0),some k=>match bnd lo 0,bnd hi 0 with
    |some l,some r=>l = 0∧r = 0∧mx.isNone = true∧K (.lit (.slice none 0 0))
    |_,_=>False
  |_,_=>False
 |none,none=>match x with
  | .lit (.string s)=>match bnd lo 0,bnd hi s.size with
    |some l,some r=>ZG P t = true∧mx.isNone = true∧0≤l∧l≤r∧r≤s.size∧K (.lit (.string (s.extract l.toNat r.toNat)))
    |_,_=>False
  |_=>False
theorem ZtC {k b off len cap l r m:Nat} (hv:VR ρ h w (.sl k b off len) (.slice (some ⟨(ρ b).blk,(ρ b).base + off,none⟩) len cap)) (hz:(ρ b).base + off + cap * k≤(ρ b).size) (h1:l≤r) (h2:r≤m) (h3:m≤cap) (hb:b < h.length) (hm:k = 1∨1≤(ρ b).more):
  VR ρ h w (.sl k b (off + l * k) (r - l)) (.slice (if m = l then some ⟨(ρ b).blk,(ρ b).base + off,none⟩ else (some ⟨(ρ b).blk,(ρ b).base + off,none⟩:Option Addr).map (·.add (l * k))) (r - l) (m - l)):=by
 by_cases e:m = l
 ·subst e
  obtain rfl:r = m:=by omega
  simp only[if_true,Nat.sub_self]
  exact .slZ k b _ _ hb
 ·simp only[e,if_false,Option.map_some,Zfd]
  rw[Nat.add_assoc]
  refine .sl k b _ _ (m - l) hb (by omega) ?_ hm
  have:l * k + (m - l) * k≤cap * k:=by rw[←Nat.add_mul];exact Nat.mul_le_mul_right k (by omega)
  omega
theorem Z4I {t:TypeId} {x:AVal} {u:Value} {lo hi mx:Option AVal} {lo' hi' mx':Option Value} {K:AVal→Prop} (hR:Rel ρ h w) (hx:VR ρ h w x u) (hlo:VRo ρ h w lo lo') (hhi:VRo ρ h w hi hi')
  (hmx:VRo ρ h w mx mx') (hK:Zkp P t h x lo hi mx K):Gives P ρ h w (Instr.sliceAt t u lo' hi' mx') fun v h'=>K v∧h' = h:=by
 have noneOf:∀ {m:Option AVal} {m':Option Value},VRo ρ h w m m'→m.isNone = true→m' = none:=by
  intro m m' hm hn
  cases m with
  |none=>cases m' with
   |none=>rfl
   |some _=>exact hm.elim
  |some _=>simp at hn
 unfold Zkp at hK
 split at hK
 ·rename_i n e hu
  have hu:=Zjz hu
  split at hK
  ·rename_i b o k l r hk hl hr
   obtain ⟨hk1,hm,hcs,h0,h1,h2,hK⟩:=hK
   obtain rfl:=noneOf hmx hm
   cases hx with |ptr _ _ hb=>
   split at hcs
   ·rename_i cs hcs'
    obtain ⟨C,T,fz,g1,g2,g3,g4,g5⟩:=hR.obj b _ hcs'
    have hbd:=Zj8 (P:=P) (w:=w) (isSlice:=false) (len:=n) (cap:=n) (mx:=none) (m:=n) (Zet hlo hl) (by rcases Zet hhi hr with ⟨a,b⟩ |a;exact .inl ⟨a,b,rfl⟩;exact .inr a) (.inl ⟨rfl,rfl⟩) h0 h1 h2 (by omega)
    have hcap:(ρ b).base + o + n * k≤(ρ b).size:=by omega
    have hcut:=ZtC (l:=l.toNat) (r:=r.toNat) (m:=n) (.sl k b o n n hb (Nat.le_refl _) hcap (.inl hk1):VR ρ h w _ _) hcap (by omega) (by omega) (Nat.le_refl _) hb (.inl hk1)
    have hlen:(r - l).toNat = r.toNat - l.toNat:=by omega
    rw[hlen] at hK
    refine .same hR ?_ hcut ⟨hK,rfl⟩
    simp only[Instr.sliceAt,Sem.run_bind,Zr hu,Result.andThen_ok,Instr.sureAddr,Sem.run_pure,hbd,Zc5 hk,Int.toNat_natCast]
    congr 2
    split<;>simp_all
   ·exact hcs.elim
  ·exact hK.elim
 ·rename_i e hna hu
  have hu:=Zeq hu
  have run:∀ (a:Option Addr) (len cap:Nat) (k:Nat) (l r m:Int),Zx P e = some k→(Instr.sliceBounds true len cap lo' hi' mx').run P w = .ok (l.toNat,r.toNat,m.toNat) w→
    (Instr.sliceAt t (.slice a len cap) lo' hi' mx').run P w = .ok (.slice (if m.toNat = l.toNat then a else a.map (·.add (l.toNat * k))) (r.toNat - l.toNat) (m.toNat - l.toNat)) w:=by
   intro a len cap k l r m hk hb
   simp only[Instr.sliceAt,Sem.run_bind,Zr hu,Result.andThen_ok,Instr.slice,hb,Zc5 hk,Sem.run_pure]
  have third:∀ {len cap:Nat} {l r:Int},bnd lo 0 = some l→bnd hi len = some r→0≤l→l≤r→r≤len→len≤cap→ZjD hi mx r len→∃ m:Int,r≤m∧m≤cap∧(Instr.sliceBounds true len cap lo' hi' mx').run P w = .ok (l.toNat,r.toNat,m.toNat) w:=by
   intro len cap l r hl hr h0 h1 h2 h3 hm
   cases mx with
   |none=>
    obtain rfl:mx' = none:=by cases mx' with
     |none=>rfl
     |some _=>exact hmx.elim
    exact ⟨cap,by omega,by omega,Zj8 (Zet hlo hl) (by rcases Zet hhi hr with ⟨a,b⟩ |a;exact .inl ⟨a,b,rfl⟩;exact .inr a) (.inl ⟨rfl,rfl⟩) h0 h1 (by omega) (by omega)⟩
   |some mm=>
    obtain ⟨hs,hm⟩:=hm
    split at hm
    ·rename_i m hmb
     have hm2:=Zet hmx hmb
     have hm3:∃ k,mx' = some (.int k m):=by
      rcases hm2 with ⟨a,b⟩ |a
      ·subst a;exact hmx.elim
      ·exact a
     refine ⟨m,hm.1,by omega,Zj8 (Zet hlo hl) ?_ (.inr hm3) h0 h1 hm.1 (by omega)⟩
     rcases Zet hhi hr with ⟨a,b⟩ |a
     ·subst a
      cases hi with
      |none=>simp at hs
      |some _=>exact hhi.elim
     ·exact .inr a
    ·exact hm.elim
  split at hK
  ·rename_i k' b off len k hk
   split at hK
   ·rename_i l r hl hr
    obtain ⟨rfl,h0,h1,h2,hm,hK⟩:=hK
    have hlen:(r - l).toNat = r.toNat - l.toNat:=by omega
    rw[hlen] at hK
    cases hx with
    |sl _ _ _ _ cap hb hle hcap hmr=>
     obtain ⟨m,m1,m2,hrun⟩:=third hl hr h0 h1 h2 hle hm
     have hcut:=ZtC (l:=l.toNat) (r:=r.toNat) (m:=m.toNat) (.sl k' b off len cap hb hle hcap hmr:VR ρ h w _ _) hcap (by omega) (by omega) (by omega) hb hmr
     exact .same hR (run _ _ _ _ _ _ _ hk hrun) hcut ⟨hK,rfl⟩
    |slZ _ _ _ o hb=>
     obtain ⟨m,m1,m2,hrun⟩:=third hl hr h0 h1 h2 (Nat.le_refl _) hm
     obtain rfl:l = 0:=by omega
     obtain rfl:r = 0:=by omega
     obtain rfl:m = 0:=by omega
     refine .same hR (run _ _ _ _ _ _ _ hk hrun) ?_ ⟨hK,rfl⟩
     simp
     exact .slZ _ _ _ _ hb
   ·exact hK.elim
  ·rename_i cs len k hk
   split at hK
   ·rename_i l r hl hr
    obtain ⟨h0,h1,h2,hm,hK⟩:=hK
    have hlen:(r - l).toNat = r.toNat - l.toNat:=by omega
    rw[hlen] at hK
    have hids:=hx.ids
    cases hx with
    |ros _ c off _ cap C T fz hle hc hn hs hv=>
     obtain ⟨m,m1,m2,hrun⟩:=third hl hr h0 h1 h2 hle hm
     refine .same hR (run _ _ _ _ _ _ _ hk hrun) ?_ ⟨hK,rfl⟩
     by_cases e:m.toNat = l.toNat
     ·have e2:r.toNat - l.toNat = 0:=by omega
      rw[if_pos e,e2,e,Nat.sub_self]
      cases hids with |ros _ _ hids=>exact .rosZ _ (fun v hv=>hids v (List.mem_of_mem_drop hv)) _ _
     ·rw[if_neg e]
      simp only[Option.map_some,Zfd]
      refine .ros _ c _ _ _ C T fz (by omega) hc hn (fun i hi=>?_) fun i hi=>?_
      ·have:=hs (l.toNat * k + i) (by simp at hi;omega);omega
      ·have:=hv (l.toNat * k + i) (by simp at hi;omega)
       simpa[Nat.add_assoc] using this
    |rosZ _ hb a cap=>
     obtain ⟨m,m1,m2,hrun⟩:=third hl hr h0 h1 h2 (Nat.zero_le _) hm
     obtain rfl:l = 0:=by omega
     obtain rfl:r = 0:=by omega
     refine .same hR (run _ _ _ _ _ _ _ hk hrun) ?_ ⟨hK,rfl⟩
     simp
     exact .rosZ _ hb _ _
   ·exact hK.elim
  ·rename_i k hk
   split at hK
   ·rename_i l r hl hr
    obtain ⟨rfl,rfl,hm,hK⟩:=hK
    obtain rfl:=noneOf hmx hm
    cases hx
    have hrun:=Zj8 (P:=P) (w:=w) (isSlice:=true) (len:=0) (cap:=0) (mx:=none) (m:=0) (Zet hlo hl) (by rcases Zet hhi hr with ⟨a,b⟩ |a;exact .inl ⟨a,b,rfl⟩;exact .inr a) (.inl ⟨rfl,rfl⟩) (by omega) (by omega) (by omega) (by omega)
    refine .same hR (run _ _ _ _ _ _ _ hk hrun) ?_ ⟨hK,rfl⟩
    simp
    exact .lit _
   ·exact hK.elim
  ·exact hK.elim
 ·split at hK
  ·rename_i s
   split at hK
   ·rename_i l r hl hr
    obtain ⟨ht,hm,h0,h1,h2,hK⟩:=hK
    obtain rfl:=noneOf hmx hm
    cases hx
    have hrun:=Zj8 (P:=P) (w:=w) (isSlice:=false) (len:=s.size) (cap:=s.size) (mx:=none) (m:=s.size) (Zet hlo hl) (by rcases Zet hhi hr with ⟨a,b⟩ |a;exact .inl ⟨a,b,rfl⟩;exact .inr a) (.inl ⟨rfl,rfl⟩) h0 h1 h2 (by omega)
    refine .same hR (u:=.string (s.extract l.toNat r.toNat)) ?_ (.lit _) ⟨hK,rfl⟩
    simp only[Instr.sliceAt,Sem.run_bind,Zr (ZpF ht),Result.andThen_ok,Instr.slice,Option.isSome_none,Bool.false_eq_true,if_false,hrun,Sem.run_pure]
   ·exact hK.elim
  ·exact hK.elim
end Go.Proofs.YtogaiomakhapmaaGreat.AL
namespace Go.Proofs.YtogaiomakhapmaaGreat.AL
open Go
variable {ρ ρ':Env} {h h':Za} {w w':World} {P:Program}
theorem ZuB (hR:Rel ρ h w) {b:Nat} {o o':AObj} {l:Loc} (hb:h[b]? = some o) (ho:o≠AObj.dead) (hst:o.still = true) (hl:l.blk = (ρ b).blk) (hsm:Same w w') (hsz:w.heap.size≤w'.heap.size)
  (hw:∀ c,c≠(ρ b).blk→w'.heap[c]? = w.heap[c]?)
  (hn:Evo ρ h w (ext ρ h.length l) (h.set b .dead++[o']) w'→ObjR (ext ρ h.length l) (h.set b .dead++[o']) w' l o'):
  Evo ρ h w (ext ρ h.length l) (h.set b .dead++[o']) w'∧Rel (ext ρ h.length l) (h.set b .dead++[o']) w':=by
 have hlt:=ZE hb
 have old:∀ (b2:Nat) (o2:AObj),(h.set b AObj.dead++[o'])[b2]? = some o2→o2≠AObj.dead→(b2 < h.length∧b2≠b∧h[b2]? = some o2∧ext ρ h.length l b2 = ρ b2)∨(b2 = h.length∧o2 = o'∧ext ρ h.length l b2 = l):=by
  intro b2 o2 h2 d2
  have hb2:=ZE h2
  simp at hb2
  rcases Nat.lt_or_ge b2 h.length with h3 |h3
  ·rw[List.getElem?_append_left (by simpa using h3)] at h2
   by_cases e:b2 = b
   ·subst e
    rw[List.getElem?_set_self hlt] at h2
    cases h2
    exact absurd rfl d2
   ·rw[List.getElem?_set_ne (Ne.symm e)] at h2
    exact .inl ⟨h3,e,h2,by simp[ext,Nat.ne_of_lt h3]⟩
  ·have:b2 = h.length:=by omega
   subst this
   have h4:(h.set b AObj.dead).length = h.length:=by simp
   rw[←h4,List.getElem?_concat_length] at h2
   cases h2
   exact .inr ⟨rfl,rfl,by simp[ext]⟩
 have e:Evo ρ h w (ext ρ h.length l) (h.set b .dead++[o']) w':=by
  refine ⟨by simp,fun c hc=>by simp[ext,Nat.ne_of_lt hc],hsz,hsm,fun c hc hn=>?_,fun c r hr=>?_⟩
  rotate_left
  ·by_cases hcb:c = (ρ b).blk
   ·subst hcb;exact ZeU hR hb hst r hr
   ·exact ⟨r,(hw c hcb).trans hr⟩
  have hne:c≠(ρ b).blk:=fun he=>hn ⟨b,o,hb,ho,he.symm⟩
  refine ⟨hw c hne,?_⟩
  rintro ⟨b2,o2,hb2,ho2,he⟩
  rcases old b2 o2 hb2 ho2 with ⟨_,_,g1,g2⟩ | ⟨rfl,rfl,g2⟩
  ·rw[g2] at he;exact hn ⟨b2,o2,g1,ho2,he⟩
  ·rw[g2,hl] at he;exact hne he.symm
 refine ⟨e,hR.glob.evo e,?_,?_⟩
 ·intro b2 o2 hb2
  by_cases hd:o2 = AObj.dead
  ·subst hd;trivial
  ·rcases old b2 o2 hb2 hd with ⟨g0,g3,g1,g2⟩ | ⟨rfl,rfl,g2⟩
   ·rw[g2]
    exact (hR.obj b2 o2 g1).evo e fun hd=>hw _ fun he=>g3 (hR.inj b2 b o2 o g1 hb hd ho he)
   ·rw[g2];exact hn e
 ·intro b1 b2 o1 o2 h1 h2 d1 d2 he
  rcases old b1 o1 h1 d1 with ⟨_,n1,g1,r1⟩ | ⟨rfl,rfl,r1⟩<;>rcases old b2 o2 h2 d2 with ⟨_,n2,g2,r2⟩ | ⟨rfl,rfl,r2⟩
  ·rw[r1,r2] at he;exact hR.inj b1 b2 o1 o2 g1 g2 d1 d2 he
  ·rw[r1,r2,hl] at he;exact absurd (hR.inj b1 b o1 o g1 hb d1 ho he) n1
  ·rw[r1,r2,hl] at he;exact absurd (hR.inj b2 b o2 o g2 hb d2 ho he.symm) n2
  ·rfl
def Zcs (h:Za) (k:Nat) (x:AVal) (n:Nat):Option (List AVal):=
 match x with
 | .sl k' b off len=>match h[b]? with
   |some (.cells cs)=>if k' = k∧n≤len∧off + n * k≤cs.length then some ((cs.drop off).take (n * k)) else none
   |_=>none
 | .ros cs len=>if n≤len∧n * k≤cs.length then some (cs.take (n * k)) else none
 | .lit (.slice none 0 0)=>if n = 0 then some [] else none
 | .lit (.string s)=>if k = 1∧n≤s.size then some ((s.data.toList.take n).map ZR) else none
 |_=>none
def srcLen:AVal→Option Nat
 | .sl _ _ _ len=>some len
 | .ros _ len=>some len
 | .lit (.slice none 0 0)=>some 0
 | .lit (.string s)=>some s.size
 |_=>none
theorem ZtK {x:AVal} {u:Value} {n:Nat} (hx:VR ρ h w x u) (hn:srcLen x = some n):(Builtin.lenOf u).run P w = .ok n w:=by
 unfold srcLen at hn
 split at hn<;>simp only[Option.some.injEq,reduceCtorEq] at hn<;>subst hn
 ·cases hx<;>rfl
 ·cases hx<;>rfl
 ·cases hx;rfl
 ·cases hx;rfl
theorem Zj7 {x:AVal} {u:Value} {n k:Nat} {ns:List AVal} (hR:Rel ρ h w) (hx:VR ρ h w x u) (hn:Zcs h k x n = some ns):
  ∃ us,(Builtin.firstCells k n u).run P w = .ok us w∧VRs ρ h w ns us:=by
 unfold Zcs at hn
 split at hn
 ·rename_i k' b off len
  split at hn
  ·rename_i cs hcs
   split at hn
   ·rename_i hc
    obtain ⟨rfl,hl,hfit⟩:=hc
    simp only[Option.some.injEq] at hn
    subst hn
    obtain ⟨C,T,fz,g1,g2,g3,g4,g5⟩:=hR.obj b _ hcs
    cases hx with
    |sl _ _ _ _ cap hb hle hcap hmr=>
     obtain ⟨us,r1,r2,r3⟩:=Zmb (P:=P) (off:=(ρ b).base + off) (n:=n * k') g1 (by omega)
     refine ⟨us,by simp only[Builtin.firstCells,r1],by simp[r2];omega,fun i hi=>?_⟩
     have hi':i < n * k':=by simp at hi;omega
     rw[r3 i hi']
     have:=g5 (off + i) (by omega)
     simpa[Nat.add_assoc] using this
    |slZ _ _ _ o hb=>
     obtain rfl:n = 0:=by omega
     exact ⟨#[],by simp[Builtin.firstCells,loadCells,loadCellsFrom],by simp[VRs]⟩
   ·simp at hn
  ·simp at hn
 ·rename_i cs len
  split at hn
  ·rename_i hc
   obtain ⟨hl,hfit⟩:=hc
   simp only[Option.some.injEq] at hn
   subst hn
   cases hx with
   |ros _ c off _ cap C T fz hle g1 hnn g2 g5=>
    rcases Nat.eq_zero_or_pos (n * k) with h0 |h0
    ·exact ⟨#[],by simp[Builtin.firstCells,h0,loadCells,loadCellsFrom],by simp[h0,VRs]⟩
    ·have:=g2 (n * k - 1) (by omega)
     obtain ⟨us,r1,r2,r3⟩:=Zmb (P:=P) (off:=off) (n:=n * k) g1 (by omega)
     refine ⟨us,by simp only[Builtin.firstCells,r1],by simp[r2];omega,fun i hi=>?_⟩
     have hi':i < n * k:=by simp at hi;omega
     rw[r3 i hi']
     simpa using g5 i (by omega)
   |rosZ _ hb a cap=>
    obtain rfl:n = 0:=by omega
    cases a with
    |none=>exact ⟨#[],by simp[Builtin.firstCells],by simp[VRs]⟩
    |some a=>exact ⟨#[],by simp[Builtin.firstCells,loadCells,loadCellsFrom],by simp[VRs]⟩
  ·simp at hn
 ·split at hn
  ·rename_i h0
   simp only[Option.some.injEq] at hn
   subst hn
   subst h0
   cases hx
   exact ⟨#[],by simp[Builtin.firstCells],by simp[VRs]⟩
  ·simp at hn
 ·rename_i s
  split at hn
  ·rename_i hc
   obtain ⟨rfl,hl⟩:=hc
   simp only[Option.some.injEq] at hn
   subst hn
   cases hx
   have hsz:s.data.size = s.size:=rfl
   refine ⟨_,by simp only[Builtin.firstCells];rfl,by simp[VRs,ByteArray.size_extract],fun i hi=>?_⟩
   have hi':i < n∧i < s.size:=by simp at hi;omega
   have h1:i < s.data.size:=by omega
   have h2:i < ((s.extract 0 n).data.map fun b=>Value.int .u8 b.toNat).size:=by simp;omega
   simp only[Array.getD,h2,dif_pos]
   have:((s.extract 0 n).data.map fun b=>Value.int .u8 (b.toNat:Int))[i] = .int .u8 s.data[i].toNat:=by simp
   show VR ρ h w _ (((s.extract 0 n).data.map fun b=>Value.int .u8 (b.toNat:Int))[i])
   rw[this]
   simp only[List.getElem_map,List.getElem_take,Array.getElem_toList,ZR]
   exact .lit _
  ·simp at hn
 ·simp at hn
def Zk8 (P:Program) (sT xT:TypeId) (h:Za) (s x:AVal) (K:AVal→Za→Prop):Prop:=
 (match P.underlying xT with
  |some (.int _)=>False
  |some _=>True
  |none=>False)∧
 match Z3 P sT with
 |none=>False
 |some e=>match Zx P e,ZK P e,Z5 P e,srcLen x with
  |some k,some (by' + 1),some _,some n=>match Zcs h k x n with
   |none=>False
   |some ns=>match s with
    | .lit (.slice none 0 0)=>n * (by' + 1)≤140737488355328∧(n = 0→K (.lit (.slice none 0 0)) h)∧(n≠0→K (.sl k h.length 0 n) (h++[.cells ns]))
    | .sl k' b off len=>match h[b]? with
      |some (.cells cs)=>k' = k∧off + len * k≤cs.length∧(len + n) * (by' + 1)≤140737488355328∧ns.all (·.one) = true∧
       K (.sl k h.length 0 (len + n)) (h.set b .dead++[.cells ((cs.drop off).take (len * k)++ns)])
      |_=>False
    |_=>False
  |_,_,_,_=>False
theorem Zt2 {t:TypeId} {n:Nat} (h:ZK P t = some n):∃ i,P.info? t = some i∧i.bytes = n:=by
 unfold ZK at h
 cases hi:P.info? t with
 |none=>rw[hi] at h;simp at h
 |some i=>rw[hi] at h;simp at h;exact ⟨i,rfl,h⟩
theorem ZtB {x:AVal} {n k:Nat} {ns:List AVal} (hn:Zcs h k x n = some ns):ns.length = n * k:=by
 unfold Zcs at hn
 split at hn
 ·split at hn
  ·split at hn
   ·simp only[Option.some.injEq] at hn;subst hn;simp;omega
   ·simp at hn
  ·simp at hn
 ·split at hn
  ·simp only[Option.some.injEq] at hn;subst hn;simp;omega
  ·simp at hn
 ·split at hn
  ·rename_i h0;simp only[Option.some.injEq] at hn;subst hn;subst h0;simp
  ·simp at hn
 ·rename_i s
  split at hn
  ·rename_i h0
   simp only[Option.some.injEq] at hn;subst hn;obtain ⟨rfl,h0⟩:=h0
   have:s.data.size = s.size:=rfl
   simp;omega
  ·simp at hn
 ·simp at hn
theorem Zmc {sT xT ty e:TypeId} {x:Value} {base:Option Addr} {sLen sCap n k bts:Nat} {D:TypeDesc} {i:TypeInfo} {z:Value} {us olds:Array Value} (hu:P.underlying sT = some (.slice e)) (hx:P.underlying xT = some D) (hD:∀ k,D≠ .int k)
  (hi:P.info? e = some i) (hk:i.size = k) (hb:i.bytes = bts) (hz:i.zero = some z) (hl:(Builtin.lenOf x).run P w = .ok n w):
  ((Builtin.firstCells k n x).run P w = .ok us w→sLen + n≤sCap→(Builtin.append_ #[sT,xT] ty #[.slice base sLen sCap,x]).run P w = ((match base with
    |some a=>storeCells (a.add (sLen * k)) us.toList
    |none=>pure ()).run P w).andThen fun _ w'=>.ok (.slice base (sLen + n) sCap) w')∧
  ((Builtin.firstCells k n x).run P { w with drawn:=w.drawn + 1} = .ok us { w with drawn:=w.drawn + 1}→sCap < sLen + n→(sLen + n) * bts≤140737488355328→1≤bts→(Builtin.firstCells k sLen (.slice base sLen sCap)).run P { w with drawn:=w.drawn + 1} = .ok olds { w with drawn:=w.drawn + 1}→
    (Builtin.append_ #[sT,xT] ty #[.slice base sLen sCap,x]).run P w = .ok (.slice (some ⟨w.heap.size,0,none⟩) (sLen + n) (grownCap w (sLen + n) sCap e))
     { w with drawn:=w.drawn + 1,heap:=w.heap.push (.cells (olds++us++Builtin.zeroCells z.cells (grownCap w (sLen + n) sCap e - (sLen + n))) e)}):=by
 subst hk;subst hb
 have hm:(match D with | .int _=>true |_=>false) = false:=by cases D<;>first |rfl |exact absurd rfl (hD _)
 refine ⟨fun hf hroom=>?_,fun hf' hg hbytes h1 holds=>?_⟩
 ·simp only[Builtin.append_,List.getElem?_toArray,List.getElem?_cons_zero,List.getElem?_cons_succ,Sem.run_bind,Zr hu,Zr hx,Result.andThen_ok,sizeOf,typeInfo,hi,run_program,Sem.run_pure,hm,Bool.false_eq_true,if_false,Bool.not_false,if_true,hl,hroom,hf]
  cases base with
  |none=>rfl
  |some a=>simp only[Sem.run_bind,Sem.run_pure]
 ·have hfit:=growslice_fits hg hbytes
  have hng:¬(sLen + n≤sCap):=by omega
  have hnf:¬(Builtin.nextslicecap (sLen + n) sCap * i.bytes > 2 ^ 48):=by omega
  have hbz:¬i.bytes = 0:=by omega
  simp only[Builtin.append_,List.getElem?_toArray,List.getElem?_cons_zero,List.getElem?_cons_succ,Sem.run_bind,Zr hu,Zr hx,Result.andThen_ok,sizeOf,typeInfo,hi,run_program,Sem.run_pure,hm,Bool.false_eq_true,if_false,Bool.not_false,if_true,hl,hng]
  simp only[Sem.run_ite,hbz,Bool.false_eq_true,or_self,and_false,if_false,hnf,Sem.run_pure,Sem.run_bind,Result.andThen_ok,run_choose,Question.forced,run_askRoom]
  simp only[run_program,Result.andThen_ok,hi,Sem.run_pure,hnf,if_false,holds,hf',zeroValue,typeInfo,Sem.run_bind,hz,newRow,run_newObj,grownCap]
theorem Z1N (hR:Rel ρ h w) {k b off len:Nat} {cs:List AVal} {u:Value} (hx:VR ρ h w (.sl k b off len) u) (hcs:h[b]? = some (.cells cs)) (hfit:off + len * k≤cs.length):
  ∃ us,(Builtin.firstCells k len u).run P w = .ok us w∧VRs ρ h w ((cs.drop off).take (len * k)) us:=
 Zj7 hR hx (by simp[Zcs,hcs,hfit])
theorem VRs.append {vs vs':List AVal} {us us':Array Value} (a:VRs ρ h w vs us) (b:VRs ρ h w vs' us'):VRs ρ h w (vs++vs') (us++us'):=by
 refine ⟨by simp[a.1,b.1],fun i hi=>?_⟩
 rcases Nat.lt_or_ge i vs.length with h1 |h1
 ·have h2:i < us.size:=by rw[←a.1];exact h1
  have:=a.2 i h1
  rw[List.getElem_append_left h1]
  have h3:i < (us++us').size:=by simp;omega
  simp only[Array.getD,h2,h3,dif_pos] at this⊢
  show VR ρ h w _ ((us++us')[i])
  rw[Array.getElem_append_left h2]
  exact this
 ·have h1':i - vs.length < vs'.length:=by simp at hi;omega
  have h2:i - vs.length < us'.size:=by rw[←b.1];exact h1'
  have:=b.2 (i - vs.length) h1'
  rw[List.getElem_append_right h1]
  have h3:i < (us++us').size:=by have:=a.1;have:=b.1;simp;omega
  simp only[Array.getD,h2,h3,dif_pos] at this⊢
  show VR ρ h w _ ((us++us')[i])
  rw[Array.getElem_append_right (by rw[←a.1];exact h1)]
  simp only[←a.1]
  exact this
theorem VRs.get {vs:List AVal} {us more:Array Value} (a:VRs ρ h w vs us) (i:Nat) (hi:i < vs.length):VR ρ h w vs[i] ((us++more).getD i undef):=by
 have h2:i < us.size:=by rw[←a.1];exact hi
 have:=a.2 i hi
 have h3:i < (us++more).size:=by simp;omega
 simp only[Array.getD,h2,h3,dif_pos] at this⊢
 show VR ρ h w _ ((us++more)[i])
 rw[Array.getElem_append_left h2]
 exact this
theorem ZnW (z:Value) (n:Nat):(Builtin.zeroCells z.cells n).size = n * z.cells.size:=by simp[Builtin.zeroCells]
theorem Z5x {sT xT ty:TypeId} {s x:AVal} {u v:Value} {K:AVal→Za→Prop} (hR:Rel ρ h w) (hs:VR ρ h w s u) (hx:VR ρ h w x v) (hK:Zk8 P sT xT h s x K)
  (hzs:∀ e k z,Z3 P sT = some e→Zx P e = some k→Z5 P e = some z→∀ v,z = litA v→v.cells.size = k):
  Gives P ρ h w (Builtin.append_ #[sT,xT] ty #[u,v]) K:=by
 unfold Zk8 at hK
 obtain ⟨hD0,hK⟩:=hK
 obtain ⟨D,hD,hDi⟩:∃ D,P.underlying xT = some D∧∀ k,D≠ .int k:=by
  cases hu:P.underlying xT with
  |none=>rw[hu] at hD0;exact hD0.elim
  |some D=>rw[hu] at hD0;exact ⟨D,rfl,fun k hk=>by subst hk;exact hD0⟩
 split at hK
 ·exact hK.elim
 ·rename_i e hse
  have hu:=Zeq hse
  split at hK
  ·rename_i k by' z n hk hb hz hn
   split at hK
   ·exact hK.elim
   ·rename_i ns hns
    obtain ⟨i,hi,hby⟩:=Zt2 hb
    have hsize:i.size = k:=by unfold Zx at hk;rw[hi] at hk;simpa using hk
    obtain ⟨zv,hzv,hzl⟩:∃ zv,i.zero = some zv∧z = litA zv:=by
     unfold Z5 at hz
     rw[hi] at hz
     cases hz0:i.zero with
     |none=>simp[hz0] at hz
     |some v=>simp[hz0] at hz;exact ⟨v,rfl,hz.symm⟩
    have hzsz:=hzs e k z hse hk hz zv hzl
    have hl:=ZtK (P:=P) hx hn
    obtain ⟨hRd,eD⟩:=hR.like (w':={ w with drawn:=w.drawn + 1}) ⟨rfl,rfl,rfl⟩ rfl
    obtain ⟨us',hf',hvr'⟩:=Zj7 (P:=P) hRd (hx.evo eD) hns
    have hnsl:=ZtB hns
    split at hK
    ·obtain ⟨hbytes,hK0,hK1⟩:=hK
     cases hs
     rcases Nat.eq_zero_or_pos n with h0 |h0
     ·obtain ⟨us,hf,hvr⟩:=Zj7 (P:=P) hR hx hns
      have:=(Zmc (P:=P) (w:=w) (ty:=ty) (base:=none) (sLen:=0) (sCap:=0) (us:=us) (olds:=#[]) hu hD hDi hi hsize hby hzv hl).1 hf (by omega)
      subst h0
      refine .same hR (u:=.slice none 0 0) (by rw[this];rfl) (.lit _) (hK0 rfl)
     ·have:=(Zmc (P:=P) (w:=w) (ty:=ty) (base:=none) (sLen:=0) (sCap:=0) (us:=us') (olds:=#[]) hu hD hDi hi hsize hby hzv hl).2 hf' (by omega) (by simpa using hbytes) (by omega) (by simp[Builtin.firstCells])
      simp only[Nat.zero_add] at this
      have hge:=grownCap_ge w n 0 e
      have hl2:ns.length = us'.size:=hvr'.1
      obtain ⟨eb,rb⟩:=hRd.like (w':=w) ⟨rfl,rfl,rfl⟩ rfl
      refine Gives.slice (fz:=(0,0)) hR (by exact ⟨rfl,rfl,rfl⟩) this rfl (by simp;omega) hge ?_ (fun i hi=>?_) (fun i _=>by simp) (hK1 (by omega))
      ·simp only[Array.empty_append,Array.size_append,ZnW,hzsz,←hl2,hnsl]
       rw[←Nat.add_mul]
       exact Nat.mul_le_mul_right _ (by omega)
      ·have:=(hvr'.get (more:=Builtin.zeroCells zv.cells (grownCap w n 0 e - n)) i hi).evo rb
       simpa using this
    ·rename_i k' b off len
     split at hK
     ·rename_i cs hcs
      obtain ⟨rfl,hfit,hbytes,hone,hK⟩:=hK
      have hids:=hs.ids
      obtain ⟨base,cap,rfl⟩:∃ base cap,u = .slice base len cap:=by cases hs<;>exact ⟨_,_,rfl⟩
      by_cases hroom:len + n≤cap
      ·
       obtain ⟨us,hf,hvr⟩:=Zj7 (P:=P) hR hx hns
       have hrun:=(Zmc (P:=P) (w:=w) (ty:=ty) (base:=base) (sLen:=len) (sCap:=cap) (us:=us) (olds:=#[]) hu hD hDi hi hsize hby hzv hl).1 hf hroom
       obtain ⟨C,T,fz,g1,g2,g3,g4,g5⟩:=hR.obj b _ hcs
       have husz:us.toList.length = n * k':=by rw[←hnsl];simpa using hvr.1.symm
       cases hs with
       |sl _ _ _ _ cap hb hle hcap hmr=>
        have hcap2:(len + n) * k'≤cap * k':=Nat.mul_le_mul_right _ hroom
        rw[Nat.add_mul] at hcap2
        obtain ⟨w',C',s1,s2,s3,s4⟩:=ZtI (P:=P) ⟨(ρ b).blk,(ρ b).base + off + len * k',none⟩ rfl rfl us.toList 0 C w g1 (fun j hj=>g2 j (by omega)) (by simp only;omega) (fun v hv=>by
         obtain ⟨j,hj,rfl⟩:=List.getElem_of_mem hv
         have hj2:j < us.size:=by simpa using hj
         have hj':j < ns.length:=by rw[hvr.1];exact hj2
         have h7:=(hvr.2 j hj').one (by simpa using (List.all_eq_true.1 hone) _ (List.getElem_mem hj'))
         simpa[Array.getD,hj2] using h7)
        obtain ⟨e1,r1⟩:=ZuB (l:=⟨(ρ b).blk,(ρ b).base + off,(ρ b).size,(ρ b).more⟩) (o':=.cells ((cs.drop off).take (len * k')++ns)) (w':=w') hR hcs (by simp) rfl rfl s2.same (by rw[s2.size];exact Nat.le_refl _) (fun c hc=>s2.rest c hc) (fun e1=>by
         refine ⟨C',T,fz,s2.here,by rw[s3];exact g2,s3.trans g3,?_,fun i hi=>?_⟩
         ·simp only[List.length_append,List.length_take,List.length_drop,hnsl];rw[s3,g3];omega
         ·rw[s4]
          simp only[Ze1,husz]
          simp only[List.length_append,List.length_take,List.length_drop,hnsl] at hi
          by_cases h1:i < len * k'
          ·rw[if_neg (by omega),List.getElem_append_left (by simp;omega)]
           have:=(g5 (off + i) (by omega)).evo e1
           simpa[Nat.add_assoc] using this
          ·rw[if_pos (by omega),List.getElem_append_right (by simp;omega)]
           have hi2:i - len * k' < ns.length:=by omega
           have:=(hvr.2 (i - len * k') hi2).evo e1
           have e2:((cs.drop off).take (len * k')).length = len * k':=by simp;omega
           simp only[e2]
           have e3:(ρ b).base + off + i - ((ρ b).base + off + len * k' + 0) = i - len * k':=by omega
           rw[e3]
           simpa[Array.getD_eq_getD_getElem?,List.getD] using this)
        refine ⟨_,_,w',_,.slice (some ⟨(ρ b).blk,(ρ b).base + off,none⟩) (len + n) cap,?_,e1,r1,?_,hK⟩
        ·rw[hrun];simp only[Zfd,s1,Result.andThen_ok]
        ·have:=VR.sl (ρ:=ext ρ h.length ⟨(ρ b).blk,(ρ b).base + off,(ρ b).size,(ρ b).more⟩) (h:=h.set b .dead++[.cells ((cs.drop off).take (len * k')++ns)]) (w:=w') k' h.length 0 (len + n) cap (by simp) hroom (by simpa[Zds] using hcap) (by simpa[Zds] using hmr)
         simpa[Zds] using this
       |slZ _ _ _ o hb=>
        obtain rfl:n = 0:=by omega
        obtain rfl:ns = []:=List.eq_nil_of_length_eq_zero (by simpa using hnsl)
        have hus0:us = #[]:=by
         have:=hvr.1
         simp at this
         exact Array.eq_empty_of_size_eq_zero this.symm
        subst hus0
        obtain ⟨e1,r1⟩:=ZuB (l:=⟨(ρ b).blk,0,(ρ b).size,(ρ b).more⟩) (o':=.cells ((cs.drop off).take (0 * k')++[])) (w':=w) hR hcs (by simp) rfl rfl (.refl _) (Nat.le_refl _) (fun c hc=>rfl) (fun e1=>by
         refine ⟨C,T,fz,g1,g2,g3,by simp,fun i hi=>by simp at hi⟩)
        refine ⟨_,_,w,_,.slice (some ⟨(ρ b).blk,o,none⟩) (0 + 0) 0,?_,e1,r1,?_,hK⟩
        ·rw[hrun];simp[storeCells]
        ·have:=VR.slZ (ρ:=ext ρ h.length ⟨(ρ b).blk,0,(ρ b).size,(ρ b).more⟩) (h:=h.set b .dead++[.cells ((cs.drop off).take (0 * k')++[])]) (w:=w) k' h.length 0 o (by simp)
         simpa[Zds] using this
      ·
       obtain ⟨olds,ho,hvo⟩:=Z1N (P:=P) hRd (hs.evo eD) hcs hfit
       have hrun:=(Zmc (P:=P) (w:=w) (ty:=ty) (base:=base) (sLen:=len) (sCap:=cap) (us:=us') (olds:=olds) hu hD hDi hi hsize hby hzv hl).2 hf' (by omega) hbytes (by omega) ho
       have hge:=grownCap_ge w (len + n) cap e
       have hvv:=hvo.append hvr'
       have ed:Evo ρ h w ρ (h.set b .dead) w:=ZdC hR hcs (by simp) (.refl _) (Nat.le_refl _) (fun _ _=>rfl) (fun r hr=>⟨r,hr⟩)
       have rd:Rel ρ (h.set b .dead) w:=hR.set hcs (by simp) (.refl _) (Nat.le_refl _) (fun _ _=>rfl) (fun r hr=>⟨r,hr⟩) trivial
       obtain ⟨_,rb⟩:=hRd.like (w':=w) ⟨rfl,rfl,rfl⟩ rfl
       have hlen3:((cs.drop off).take (len * k')++ns).length = (len + n) * k':=by simp[hnsl,Nat.add_mul];omega
       have hlen4:=hvv.1
       have:=Gives.slice (s:=Builtin.append_ #[sT,xT] ty #[.slice base len cap,v]) (K:=K) (k:=k') (fz:=(0,0)) (vs:=(cs.drop off).take (len * k')++ns) rd (by exact ⟨rfl,rfl,rfl⟩) hrun rfl (by simp only[Array.size_append,ZnW] at hlen4⊢;omega) hge
        (by
         have:(olds++us').size = (len + n) * k':=by rw[←hlen4,hlen3]
         rw[Array.size_append,this,ZnW,hzsz,←Nat.add_mul]
         exact Nat.mul_le_mul_right _ (by omega))
        (fun i hi=>((hvv.get (more:=Builtin.zeroCells zv.cells (grownCap w (len + n) cap e - (len + n))) i hi).evo rb).evo ed) (fun i _=>by simp) (by simpa using hK)
       obtain ⟨ρ1,h1,w1,v1,u1,q1,q2,q3⟩:=this
       exact ⟨ρ1,h1,w1,v1,u1,q1,ed.trans q2,q3⟩
     ·exact hK.elim
    ·exact hK.elim
  ·exact hK.elim
end Go.Proofs.YtogaiomakhapmaaGreat.AL
namespace Go.Proofs.YtogaiomakhapmaaGreat.AL
open Go
variable {ρ ρ':Env} {h h':Za} {w w':World} {P:Program}
def Zk4 (P:Program) (dT:TypeId) (h:Za) (d x:AVal) (K:AVal→Za→Prop):Prop:=
 match Z3 P dT with
 |none=>False
 |some e=>match Zx P e,d,srcLen x with
  |some k,.sl k' b off len,some n=>match h[b]?,Zcs h k x (min n len) with
   |some (.cells cs),some ns=>k' = k∧off + (min n len) * k≤cs.length∧ns.all (·.one) = true∧K (.lit (.int .i64 (min n len:Nat))) (h.set b (.cells (Zbr cs off ns)))
   |_,_=>False
  |_,_,_=>False
theorem Z5o {dT xT ty:TypeId} {d x:AVal} {u v:Value} {K:AVal→Za→Prop} (hR:Rel ρ h w) (hd:VR ρ h w d u) (hx:VR ρ h w x v) (hK:Zk4 P dT h d x K):
  Gives P ρ h w (Builtin.copy_ #[dT,xT] ty #[u,v]) K:=by
 unfold Zk4 at hK
 split at hK
 ·exact hK.elim
 ·rename_i e hse
  have hu:=Zeq hse
  split at hK
  ·rename_i k k' b off len n hk hn
   split at hK
   ·rename_i cs ns hcs hns
    obtain ⟨rfl,hfit,hone,hK⟩:=hK
    have hl:=ZtK (P:=P) hx hn
    obtain ⟨us,hf,hvr⟩:=Zj7 (P:=P) hR hx hns
    have hnsl:=ZtB hns
    have hall:∀ z∈us.toList,z.oneCell' = true:=fun z hz=>by
     obtain ⟨j,hj,rfl⟩:=List.getElem_of_mem hz
     have hj2:j < us.size:=by simpa using hj
     have hj':j < ns.length:=by rw[hvr.1];exact hj2
     have h7:=(hvr.2 j hj').one (by simpa using (List.all_eq_true.1 hone) _ (List.getElem_mem hj'))
     simpa[Array.getD,hj2] using h7
    cases hd with
    |sl _ _ _ _ cap hb hle hcap=>
     obtain ⟨w',s1,s2,s3⟩:=ZpM (P:=P) (off:=off) hR hcs hvr hall (by rw[hnsl];exact hfit)
     refine ⟨_,_,w',_,.int .i64 (min n len:Nat),?_,s2,s3,.lit _,hK⟩
     simp only[Builtin.copy_,List.getElem?_toArray,List.getElem?_cons_zero,List.getElem?_cons_succ,Sem.run_bind,Zr hu,Result.andThen_ok,hl,Zc5 hk]
     rw[show Nat.min n len = min n len from rfl,hf]
     simp only[Result.andThen_ok,s1,Sem.run_pure]
     rfl
    |slZ _ _ _ o hb=>
     have h0:min n 0 = 0:=by omega
     rw[h0] at hf hns hnsl
     obtain rfl:ns = []:=List.eq_nil_of_length_eq_zero (by simpa using hnsl)
     have hus0:us = #[]:=by have:=hvr.1;simp at this;exact Array.eq_empty_of_size_eq_zero this.symm
     subst hus0
     have hsp:Zbr cs off [] = cs:=by simp[Zbr]
     rw[hsp] at hK
     have hset:h.set b (.cells cs) = h:=by
      apply List.ext_getElem?
      intro i
      by_cases e:b = i
      ·subst e;rw[List.getElem?_set_self (ZE hcs),hcs]
      ·rw[List.getElem?_set_ne e]
     rw[hset,h0] at hK
     refine .same hR (u:=.int .i64 ((0:Nat):Int)) ?_ (.lit _) hK
     simp only[Builtin.copy_,List.getElem?_toArray,List.getElem?_cons_zero,List.getElem?_cons_succ,Sem.run_bind,Zr hu,Result.andThen_ok,hl,Zc5 hk]
     rw[show Nat.min n 0 = 0 from h0,hf]
     simp[storeCells,goInt]
   ·exact hK.elim
  ·exact hK.elim
def Zku (P:Program) (t:TypeId) (l c:AVal) (h:Za) (K:AVal→Za→Prop):Prop:=
 match Z3 P t,l,c with
 |some e,.lit (.int _ l),.lit (.int _ c)=>match Zx P e,ZK P e,Z5 P e with
  |some k,some bts,some z=>match z.parts with
   |some zs=>zs.length = k∧0≤l∧l≤c∧bts * c≤140737488355328∧c≤9223372036854775807∧K (.sl k h.length 0 l.toNat) (h++[.cells (List.replicate l.toNat zs).flatten])
   |none=>False
  |_,_,_=>False
 |_,_,_=>False
theorem wrap_i64 {n:Int} (h0: -9223372036854775808≤n) (h1:n≤9223372036854775807):IntKind.i64.wrap n = n:=by
 have:IntKind.i64.wrap n = (n + 9223372036854775808) % 18446744073709551616 - 9223372036854775808:=by
  simp only[IntKind.wrap,IntKind.signed,IntKind.bits]
  simp
  split<;>omega
 rw[this];omega
theorem Zvb {zs:List AVal} {k n i:Nat} (hz:zs.length = k) (hi:i < n * k) (hk:0 < k):(List.replicate n zs).flatten[i]? = zs[i % k]?:=by
 induction n generalizing i with
 |zero=>omega
 |succ n ih=>
  rw[List.replicate_succ,List.flatten_cons]
  rw[Nat.succ_mul] at hi
  rcases Nat.lt_or_ge i k with h1 |h1
  ·rw[List.getElem?_append_left (by omega),Nat.mod_eq_of_lt h1]
  ·rw[List.getElem?_append_right (by omega),hz,ih (by omega)]
   congr 1
   rw[Nat.mod_eq_sub_mod h1]
theorem Z4Z {t:TypeId} {l c:AVal} {u v:Value} {K:AVal→Za→Prop} (hR:Rel ρ h w) (hl:VR ρ h w l u) (hc:VR ρ h w c v) (hK:Zku P t l c h K):Gives P ρ h w (Instr.makeSlice t u v) K:=by
 unfold Zku at hK
 split at hK
 ·rename_i e kl l kc c hse
  have hu:=Zeq hse
  cases hl;cases hc
  split at hK
  ·rename_i k bts z hk hb hz
   split at hK
   ·rename_i zs hzs
    obtain ⟨hzl,h0,h1,h2,h3,hK⟩:=hK
    obtain ⟨i,hi,rfl⟩:=Zt2 hb
    obtain ⟨zv,hzrun,rfl⟩:=ZhH (w:=w) hz
    have hvz:=(VR.litA zv:VR ρ h w _ _).parts hzs
    have hzsz:zv.cells.size = k:=by rw[←hzl];exact hvz.1.symm
    have wl:=wrap_i64 (n:=l) (by omega) (by omega)
    have wc:=wrap_i64 (n:=c) (by omega) (by omega)
    obtain ⟨l,rfl⟩:∃ m:Nat,l = m:=⟨l.toNat,by omega⟩
    obtain ⟨c,rfl⟩:∃ m:Nat,c = m:=⟨c.toNat,by omega⟩
    have hlc:l≤c:=by omega
    simp only[Int.toNat_natCast] at hK
    have hbig:¬((i.bytes:Int) * (c:Int) > 2 ^ 48):=by omega
    have hrun:∃ us:Array Value,(Instr.makeSlice t (.int kl l) (.int kc c)).run P w = .ok (.slice (some ⟨w.heap.size,0,none⟩) l c) { w with heap:=w.heap.push (.cells us e)}∧us.size = c * k∧
      ∀ j,j < c * k→us.getD j undef = zv.cells.getD (j % k) undef:=by
     have hty:(typeInfo e).run P w = .ok i w:=by simp[typeInfo,hi]
     by_cases hck:c * k = 0
     ·refine ⟨#[],?_,by simp[hck],fun j hj=>by omega⟩
      simp only[Instr.makeSlice,Sem.run_bind,Zr hu,Result.andThen_ok,asInt,asIntOf,Sem.run_pure,hty,wl,wc]
      rw[if_neg (by simp;omega)]
      simp only[run_askRoom,Sem.run_bind,Result.andThen_ok,Zc5 hk,Int.toNat_natCast,hck,if_true,Sem.run_pure,newRow,run_newObj]
      rw[show ∀ f:Nat→Value,(Array.range 0).map f = #[] from fun f=>by simp]
     ·refine ⟨(Array.range (c * k)).map (zv.cells[· % zv.cells.size]!),?_,by simp,fun j hj=>?_⟩
      ·simp only[Instr.makeSlice,Sem.run_bind,Zr hu,Result.andThen_ok,asInt,asIntOf,Sem.run_pure,hty,wl,wc]
       rw[if_neg (by simp;omega)]
       simp only[run_askRoom,Sem.run_bind,Result.andThen_ok,Zc5 hk,Int.toNat_natCast,hck,if_false,hzrun,Sem.run_pure,newRow,run_newObj]
      ·have hkp:0 < k:=Nat.pos_of_ne_zero fun h=>by simp[h] at hck
       have h5:j % k < zv.cells.size:=by rw[hzsz];exact Nat.mod_lt _ hkp
       have h6:j < ((Array.range (c * k)).map (zv.cells[· % zv.cells.size]!)).size:=by simpa using hj
       have h7:((Array.range (c * k)).map (zv.cells[· % zv.cells.size]!)).getD j undef = ((Array.range (c * k)).map (zv.cells[· % zv.cells.size]!))[j]:=by simp only[Array.getD,h6,dif_pos];rfl
       rw[h7]
       simp only[Array.getElem_map,Array.getElem_range,hzsz,Array.getD,h5,dif_pos]
       rw[getElem!_pos zv.cells (j % k) h5,dif_pos (hzsz ▸ h5)]
       rfl
    obtain ⟨us,hrun,hus,hget⟩:=hrun
    have hflat:((List.replicate l zs).flatten).length = l * k:=by simp[hzl]
    have hlk:l * k≤c * k:=Nat.mul_le_mul_right _ hlc
    refine Gives.slice (us:=us) (T:=e) (fz:=(0,0)) hR (by exact ⟨rfl,rfl,rfl⟩) hrun rfl (by omega) hlc (by omega) (fun j hj=>?_) (fun _ _=>by simp) hK
    rw[hflat] at hj
    rw[hget j (by omega)]
    have hkp:0 < k:=Nat.pos_of_ne_zero fun h=>by simp[h] at hj
    have h6:=Zvb (n:=l) hzl hj hkp
    have h7:j % k < zs.length:=by rw[hzl];exact Nat.mod_lt _ hkp
    have h8:(List.replicate l zs).flatten[j]'(by omega) = zs[j % k]:=by
     rw[List.getElem?_eq_getElem (by omega),List.getElem?_eq_getElem h7] at h6
     exact Option.some.inj h6
    rw[h8]
    exact hvz.2 _ h7
   ·exact hK.elim
  ·exact hK.elim
 ·exact hK.elim
def Zkw (P:Program) (t:TypeId) (x:AVal) (K:AVal→Prop):Prop:=
 match Z9 P t with
 |some (n,_)=>K (.lit (.int .i64 n))
 |none=>match Z3 P t,x with
  |some _,.sl _ _ _ len=>K (.lit (.int .i64 len))
  |some _,.ros _ len=>K (.lit (.int .i64 len))
  |some _,.lit (.slice _ len _)=>K (.lit (.int .i64 len))
  |none,.lit (.string s)=>ZG P t = true∧K (.lit (.int .i64 s.size))
  |_,_=>False
theorem Z5c {t ty:TypeId} {x:AVal} {u:Value} {K:AVal→Prop} (hR:Rel ρ h w) (hx:VR ρ h w x u) (hK:Zkw P t x K):Gives P ρ h w (Builtin.len_ #[t] ty #[u]) fun v h'=>K v∧h' = h:=by
 unfold Zkw at hK
 split at hK
 ·rename_i n e hu
  have hu:=Zjz hu
  refine .same hR (u:=.int .i64 n) ?_ (.lit _) ⟨hK,rfl⟩
  simp only[Builtin.len_,List.getElem?_toArray,List.getElem?_cons_zero,Sem.run_bind,Zr hu,Result.andThen_ok]
  rfl
 ·split at hK
  ·rename_i len hse
   have hu:=Zeq hse
   refine .same hR (u:=.int .i64 len) ?_ (.lit _) ⟨hK,rfl⟩
   cases hx<;>(simp only[Builtin.len_,List.getElem?_toArray,List.getElem?_cons_zero,Sem.run_bind,Zr hu,Result.andThen_ok];rfl)
  ·rename_i len hse
   have hu:=Zeq hse
   refine .same hR (u:=.int .i64 len) ?_ (.lit _) ⟨hK,rfl⟩
   cases hx<;>(simp only[Builtin.len_,List.getElem?_toArray,List.getElem?_cons_zero,Sem.run_bind,Zr hu,Result.andThen_ok];rfl)
  ·rename_i len _ hse
   have hu:=Zeq hse
   cases hx
   exact .same hR (by simp only[Builtin.len_,List.getElem?_toArray,List.getElem?_cons_zero,Sem.run_bind,Zr hu,Result.andThen_ok];rfl) (.lit _) ⟨hK,rfl⟩
  ·rename_i s hse
   obtain ⟨ht,hK⟩:=hK
   cases hx
   exact .same hR (by simp only[Builtin.len_,List.getElem?_toArray,List.getElem?_cons_zero,Sem.run_bind,Zr (ZpF ht),Result.andThen_ok];rfl) (.lit _) ⟨hK,rfl⟩
  ·exact hK.elim
def Zs (x y:Int):Int:=if y > x then y else x
def ZbB (x y:Int):Int:=if y < x then y else x
def Zgn (f:Int→Int→Int):List AVal→(AVal→Prop)→Prop
 | [.lit (.int k a),.lit (.int _ b)],K=>K (.lit (.int k (f a b)))
 | [.lit (.int k a),.lit (.int _ b),.lit (.int _ c)],K=>K (.lit (.int k (f (f a b) c)))
 |_,_=>False
theorem VRs.two {x y:AVal} {us:Array Value} (hv:VRs ρ h w [x,y] us):∃ u v,us = #[u,v]∧VR ρ h w x u∧VR ρ h w y v:=by
 obtain ⟨l⟩:=us
 match l,hv.1 with
 | [u,v],_=>exact ⟨u,v,rfl,hv.2 0 (by simp),hv.2 1 (by simp)⟩
theorem VRs.three {x y z:AVal} {us:Array Value} (hv:VRs ρ h w [x,y,z] us):∃ u v r,us = #[u,v,r]∧VR ρ h w x u∧VR ρ h w y v∧VR ρ h w z r:=by
 obtain ⟨l⟩:=us
 match l,hv.1 with
 | [u,v,r],_=>exact ⟨u,v,r,rfl,hv.2 0 (by simp),hv.2 1 (by simp),hv.2 2 (by simp)⟩
theorem VRs.single {x:AVal} {us:Array Value} (hv:VRs ρ h w [x] us):∃ u,us = #[u]∧VR ρ h w x u:=by
 obtain ⟨l⟩:=us
 match l,hv.1 with
 | [u],_=>exact ⟨u,rfl,hv.2 0 (by simp)⟩
theorem Z4X {ts:Array TypeId} {ty:TypeId} {xs:List AVal} {us:Array Value} {K:AVal→Prop} (hR:Rel ρ h w) (hx:VRs ρ h w xs us) (hK:Zgn Zs xs K):Gives P ρ h w (Builtin.max_ ts ty us) fun v h'=>K v∧h' = h:=by
 unfold Zgn at hK
 split at hK
 ·obtain ⟨u,v,rfl,h1,h2⟩:=hx.two
  cases h1;cases h2
  exact .same hR rfl (.lit _) ⟨hK,rfl⟩
 ·obtain ⟨u,v,r,rfl,h1,h2,h3⟩:=hx.three
  cases h1;cases h2;cases h3
  exact .same hR rfl (.lit _) ⟨hK,rfl⟩
 ·exact hK.elim
theorem Z4W {ts:Array TypeId} {ty:TypeId} {xs:List AVal} {us:Array Value} {K:AVal→Prop} (hR:Rel ρ h w) (hx:VRs ρ h w xs us) (hK:Zgn ZbB xs K):Gives P ρ h w (Builtin.min_ ts ty us) fun v h'=>K v∧h' = h:=by
 unfold Zgn at hK
 split at hK
 ·obtain ⟨u,v,rfl,h1,h2⟩:=hx.two
  cases h1;cases h2
  exact .same hR rfl (.lit _) ⟨hK,rfl⟩
 ·obtain ⟨u,v,r,rfl,h1,h2,h3⟩:=hx.three
  cases h1;cases h2;cases h3
  exact .same hR rfl (.lit _) ⟨hK,rfl⟩
 ·exact hK.elim
end Go.Proofs.YtogaiomakhapmaaGreat.AL
namespace Go.Proofs.YtogaiomakhapmaaGreat.AL
open Go
variable {ρ ρ':Env} {h h':Za} {w w':World} {P:Program}
def Zcp (place:Nat→Option (Nat×Nat)):List AVal→List (Nat×AVal)→Option (List AVal)
 |cs,[]=>some cs
 |cs,(i,x) :: rest=>match place i,x.parts with
  |some (off,size),some vs=>if vs.length = size∧off + size≤cs.length then Zcp place (Zbr cs off vs) rest else none
  |_,_=>none
def Zlj (ρ:Env) (h:Za) (w:World):List (Nat×AVal)→List (Nat×Value)→Prop
 | [],[]=>True
 | (i,x) :: xs,(j,u) :: us=>i = j∧VR ρ h w x u∧Zlj ρ h w xs us
 |_,_=>False
theorem Z3e (off:Nat):∀ (l:List Value) (k:Nat) (C:Array Value),off + k + l.length≤C.size→
  ((l.zipIdx k).foldl (fun cs (c,j)=>cs.setIfInBounds (off + j) c) C).size = C.size∧∀ i,((l.zipIdx k).foldl (fun cs (c,j)=>cs.setIfInBounds (off + j) c) C).getD i undef = Ze1 C (off + k) l i:=by
 intro l
 induction l with
 |nil=>intro k C _;exact ⟨rfl,fun i=>by simp only[List.zipIdx_nil,List.foldl_nil,Ze1,List.length_nil];rw[if_neg (by omega)]⟩
 |cons v l ih=>
  intro k C hC
  simp only[List.length_cons] at hC
  simp only[List.zipIdx_cons,List.foldl_cons]
  obtain ⟨h1,h2⟩:=ih (k + 1) (C.setIfInBounds (off + k) v) (by simp;omega)
  refine ⟨by rw[h1];simp,fun i=>?_⟩
  rw[h2]
  simp only[Ze1,List.length_cons]
  by_cases e:i = off + k
  ·subst e
   rw[if_neg (by omega),if_pos (by omega)]
   have:off + k < C.size:=by omega
   simp[Array.getD,this]
  ·by_cases g:off + (k + 1)≤i∧i < off + (k + 1) + l.length
   ·rw[if_pos g,if_pos (by omega)]
    have:i - (off + k) = (i - (off + (k + 1))) + 1:=by omega
    rw[this];simp
   ·rw[if_neg g,if_neg (by omega)]
    simp[Array.getD,Array.getElem?_setIfInBounds,Ne.symm e]
    split<;>simp_all [Array.getElem_setIfInBounds,Ne.symm e]
theorem Z0v {cs vs:List AVal} {off i:Nat} (hl:off + vs.length≤cs.length) (hi:i < (Zbr cs off vs).length):
  (Zbr cs off vs).length = cs.length∧((off≤i∧i < off + vs.length)→∃ h2:i - off < vs.length,(Zbr cs off vs)[i] = vs[i - off])∧(¬(off≤i∧i < off + vs.length)→∃ h2:i < cs.length,(Zbr cs off vs)[i] = cs[i]):=by
 have hi':i < cs.length:=by simp[Zbr] at hi;omega
 refine ⟨by simp[Zbr];omega,fun e=>⟨by omega,?_⟩,fun e=>⟨hi',?_⟩⟩
 ·simp only[Zbr]
  rw[List.getElem_append_right (by simp;omega),List.getElem_append_left (by simp;omega)]
  congr 1;simp;omega
 ·simp only[Zbr]
  rcases Nat.lt_or_ge i off with hlt |hge
  ·rw[List.getElem_append_left (by simp;omega)];simp
  ·rw[List.getElem_append_right (by simp;omega),List.getElem_append_right (by simp;omega)]
   simp;congr 1;omega
theorem Znb {place:Nat→Option (Nat×Nat)}:∀ {xs:List (Nat×AVal)} {us:List (Nat×Value)} {cs cs':List AVal} {C:Array Value},VRs ρ h w cs C→Zlj ρ h w xs us→Zcp place cs xs = some cs'→
  ∃ C',Instr.fill place C us = some C'∧VRs ρ h w cs' C':=by
 intro xs
 induction xs with
 |nil=>
  intro us cs cs' C hC hp hf
  match us,hp with
  | [],_=>simp only[Zcp,Option.some.injEq] at hf;subst hf;exact ⟨C,rfl,hC⟩
 |cons x xs ih=>
  intro us cs cs' C hC hp hf
  obtain ⟨i,x⟩:=x
  match us,hp with
  | (j,u) :: us,hp=>
    obtain ⟨rfl,hx,hp⟩:=hp
    simp only[Zcp] at hf
    split at hf
    ·rename_i off size vs hpl hvs
     split at hf
     ·rename_i hc
      obtain ⟨hsz,hfit⟩:=hc
      have hxp:=hx.parts hvs
      have hus:u.cells.size = size:=by rw[←hsz];exact hxp.1.symm
      have hcs:cs.length = C.size:=hC.1
      obtain ⟨f1,f2⟩:=Z3e off u.cells.toList 0 C (by simp;omega)
      have hstep:VRs ρ h w (Zbr cs off vs) (u.cells.zipIdx.foldl (fun cs (c,j)=>cs.setIfInBounds (off + j) c) C):=by
       rw[←Array.foldl_toList,Array.toList_zipIdx]
       refine ⟨by rw[f1,←hcs];simp[Zbr];omega,fun k hk=>?_⟩
       rw[f2]
       obtain ⟨_,s2,s3⟩:=Z0v (by omega) hk
       simp only[Ze1,Array.length_toList,Nat.add_zero]
       by_cases e:off≤k∧k < off + vs.length
       ·obtain ⟨h2,s2⟩:=s2 e
        rw[if_pos (by omega),s2]
        have:=hxp.2 (k - off) h2
        simpa[Array.getD_eq_getD_getElem?,List.getD] using this
       ·obtain ⟨h2,s3⟩:=s3 e
        rw[if_neg (by omega),s3]
        exact hC.2 k h2
      obtain ⟨C',g1,g2⟩:=ih hstep hp hf
      refine ⟨C',?_,g2⟩
      simp only[Instr.fill,hpl]
      rw[if_neg (by simp;omega)]
      exact g1
     ·simp at hf
    ·simp at hf
def ZI (P:Program) (t:TypeId):Option (List (Nat×Nat)):=match P.underlying t with
 |some (.struct fields)=>fields.toList.mapM (fun f=>(P.info? f.type).map fun i=>(f.offset,i.size))
 |_=>none
def Zk6 (P:Program) (t:TypeId) (parts:List (Nat×AVal)) (K:AVal→Prop):Prop:=
 match Z5 P t with
 |none=>False
 |some z=>match z.parts with
  |none=>False
  |some zs=>match ZI P t,Z9 P t with
   |some ps,_=>match Zcp (ps[·]?) zs parts with
    |some cs=>K (.agg cs)
    |none=>False
   |none,some (_,e)=>match Zx P e with
    |some k=>match Zcp (fun i=>some (i * k,k)) zs parts with
     |some cs=>K (.agg cs)
     |none=>False
    |none=>False
   |none,none=>False
theorem Ztz {t:TypeId} {n:Nat} (h:Zx P t = some n):∃ i,P.info? t = some i∧i.size = n:=by
 unfold Zx at h
 cases hi:P.info? t with
 |none=>rw[hi] at h;simp at h
 |some i=>rw[hi] at h;simp at h;exact ⟨i,rfl,h⟩
theorem ZzZ {t:TypeId} {z:AVal} (h:Z5 P t = some z):∃ i v,P.info? t = some i∧i.zero = some v∧z = litA v:=by
 unfold Z5 at h
 cases hi:P.info? t with
 |none=>rw[hi] at h;simp at h
 |some i=>
  rw[hi] at h
  cases hz:i.zero with
  |none=>simp[hz] at h
  |some v=>simp[hz] at h;exact ⟨i,v,rfl,hz,h.symm⟩
theorem Z5r {t:TypeId} {parts:List (Nat×AVal)} {us:Array (Nat×Value)} {K:AVal→Prop} (hR:Rel ρ h w) (hp:Zlj ρ h w parts us.toList) (hK:Zk6 P t parts K):
  Gives P ρ h w (Instr.build t us) fun v h'=>K v∧h' = h:=by
 unfold Zk6 at hK
 split at hK
 ·exact hK.elim
 ·rename_i z hz
  obtain ⟨i,zv,hi,hzv,rfl⟩:=ZzZ hz
  split at hK
  ·exact hK.elim
  ·rename_i zs hzs
   have hvz:=(VR.litA zv:VR ρ h w _ _).parts hzs
   split at hK
   ·rename_i _ ps hps
    split at hK
    ·rename_i cs hcs
     obtain ⟨C',f1,f2⟩:=Znb hvz hp hcs
     refine .same hR (u:=.agg C') ?_ (.agg cs C' f2.1 f2.2) ⟨hK,rfl⟩
     refine run_build w t us C' ?_
     unfold ZI at hps
     split at hps
     ·rename_i fields hu
      unfold Program.built
      simp only[hi,hu,hzv,hps]
      simpa using f1
     ·simp at hps
    ·exact hK.elim
   ·rename_i n e hps hu
    have hu:=Zjz hu
    split at hK
    ·rename_i k hk
     obtain ⟨ie,hie,rfl⟩:=Ztz hk
     split at hK
     ·rename_i cs hcs
      obtain ⟨C',f1,f2⟩:=Znb hvz hp hcs
      refine .same hR (u:=.agg C') ?_ (.agg cs C' f2.1 f2.2) ⟨hK,rfl⟩
      refine run_build w t us C' ?_
      unfold Program.built
      simp only[hi,hu,hzv,hie]
      exact f1
     ·exact hK.elim
    ·exact hK.elim
   ·exact hK.elim
def Zk5 (P:Program) (t:TypeId) (len:Nat) (parts:List (Nat×AVal)) (h:Za) (K:AVal→Za→Prop):Prop:=
 match Z3 P t with
 |none=>False
 |some e=>match Zx P e,Z5 P e with
  |some k,some z=>match z.parts with
   |none=>False
   |some zs=>zs.length = k∧len * k≤16777216∧match Zcp (fun i=>some (i * k,k)) (List.replicate len zs).flatten parts with
    |some cs=>K (.sl k h.length 0 len) (h++[.cells cs])
    |none=>False
  |_,_=>False
theorem Z3g {zv:Value} {zs:List AVal} {k n:Nat} (hv:VRs ρ h w zs zv.cells) (hz:zs.length = k) (hnk:n * k≠0):
  VRs ρ h w (List.replicate n zs).flatten ((Array.range (n * k)).map (zv.cells[· % zv.cells.size]!)):=by
 have hzsz:zv.cells.size = k:=by rw[←hz];exact hv.1.symm
 have hkp:0 < k:=Nat.pos_of_ne_zero fun h=>hnk (by simp[h])
 have hflat:((List.replicate n zs).flatten).length = n * k:=by simp[hz]
 refine ⟨by simp[hz],fun j hj=>?_⟩
 rw[hflat] at hj
 have h5:j % k < zv.cells.size:=by rw[hzsz];exact Nat.mod_lt _ hkp
 have h6:j < ((Array.range (n * k)).map (zv.cells[· % zv.cells.size]!)).size:=by simpa using hj
 have h7:((Array.range (n * k)).map (zv.cells[· % zv.cells.size]!)).getD j undef = ((Array.range (n * k)).map (zv.cells[· % zv.cells.size]!))[j]:=by simp only[Array.getD,h6,dif_pos];rfl
 have h8:=Zvb (n:=n) hz hj hkp
 have h9:j % k < zs.length:=by rw[hz];exact Nat.mod_lt _ hkp
 have h10:(List.replicate n zs).flatten[j]'(by omega) = zs[j % k]:=by
  rw[List.getElem?_eq_getElem (by omega),List.getElem?_eq_getElem h9] at h8
  exact Option.some.inj h8
 rw[h10,h7]
 simp only[Array.getElem_map,Array.getElem_range,hzsz]
 rw[getElem!_pos zv.cells (j % k) h5]
 have:=hv.2 (j % k) h9
 simpa[Array.getD,h5] using this
theorem Z5s {t:TypeId} {len:Nat} {parts:List (Nat×AVal)} {us:Array (Nat×Value)} {K:AVal→Za→Prop} (hR:Rel ρ h w) (hp:Zlj ρ h w parts us.toList) (hK:Zk5 P t len parts h K):
  Gives P ρ h w (Instr.buildSlice t len us) K:=by
 unfold Zk5 at hK
 split at hK
 ·exact hK.elim
 ·rename_i e hse
  have hu:=Zeq hse
  split at hK
  ·rename_i k z hk hz
   split at hK
   ·exact hK.elim
   ·rename_i zs hzs
    obtain ⟨hzl,hbig,hK⟩:=hK
    split at hK
    ·rename_i cs hcs
     obtain ⟨zv,hzrun,rfl⟩:=ZhH (w:=w) hz
     have hvz:=(VR.litA zv:VR ρ h w _ _).parts hzs
     have hzsz:zv.cells.size = k:=by rw[←hzl];exact hvz.1.symm
     have hnb:¬(len * k > 2 ^ 24):=by omega
     by_cases h0:len * k = 0
     ·have hempty:(List.replicate len zs).flatten = []:=List.eq_nil_of_length_eq_zero (by simp[hzl,h0])
      rw[hempty] at hcs
      obtain ⟨C',f1,f2⟩:=Znb (C:=#[]) ⟨rfl,fun i hi=>by simp at hi⟩ hp hcs
      refine Gives.slice (w':={ w with heap:=w.heap.push (.cells C' e)}) (us:=C') (T:=e) (fz:=(0,0)) (len:=len) (cap:=len) hR (by exact ⟨rfl,rfl,rfl⟩) ?_ rfl (by rw[f2.1];exact Nat.le_refl _) (Nat.le_refl _) (by omega) f2.2 (fun _ _=>by simp) hK
      simp only[Instr.buildSlice,Sem.run_bind,Zr hu,Result.andThen_ok,Zc5 hk]
      rw[if_neg hnb]
      simp only[h0,if_true,Sem.run_pure,Sem.run_bind,Result.andThen_ok]
      rw[show ∀ f:Nat→Value,(Array.range 0).map f = #[] from fun f=>by simp,f1]
      simp only[newRow,Sem.run_bind,run_newObj,Result.andThen_ok,Sem.run_pure]
     ·obtain ⟨C',f1,f2⟩:=Znb (Z3g hvz hzl h0) hp hcs
      have hCsz:C'.size = len * k:=by
       have h1:cs.length = ((List.replicate len zs).flatten).length:=by
        clear f1 f2 hK
        have:∀ (xs:List (Nat×AVal)) (c c':List AVal),Zcp (fun i=>some (i * k,k)) c xs = some c'→c'.length = c.length:=by
         intro xs
         induction xs with
         |nil=>intro c c' hc;simp[Zcp] at hc;rw[hc]
         |cons x xs ih=>
          intro c c' hc
          obtain ⟨i,x⟩:=x
          simp only[Zcp] at hc
          split at hc
          ·split at hc
           ·rename_i h2;rw[ih _ _ hc];simp[Zbr];simp_all;omega
           ·simp at hc
          ·simp at hc
        exact this _ _ _ hcs
       rw[←f2.1,h1];simp[hzl]
      refine Gives.slice (w':={ w with heap:=w.heap.push (.cells C' e)}) (us:=C') (T:=e) (fz:=(0,0)) (len:=len) (cap:=len) hR (by exact ⟨rfl,rfl,rfl⟩) ?_ rfl (by rw[f2.1];exact Nat.le_refl _) (Nat.le_refl _) (by omega) f2.2 (fun _ _=>by simp) hK
      simp only[Instr.buildSlice,Sem.run_bind,Zr hu,Result.andThen_ok,Zc5 hk]
      rw[if_neg hnb]
      simp only[h0,if_false,Sem.run_pure,Sem.run_bind,Result.andThen_ok,hzrun]
      rw[f1]
      simp only[newRow,Sem.run_bind,run_newObj,Result.andThen_ok,Sem.run_pure]
    ·exact hK.elim
  ·exact hK.elim
def Zna (P:Program) (t:TypeId) (x:AVal) (K:AVal→Prop):Prop:=
 (match P.underlying t with
  |some (.interface _)=>False
  |some _=>True
  |none=>False)∧K (.ifc t x)
theorem Z5g {t:TypeId} {x:AVal} {u:Value} {K:AVal→Prop} (hR:Rel ρ h w) (hx:VR ρ h w x u) (hK:Zna P t x K):Gives P ρ h w (Instr.makeInterface t u) fun v h'=>K v∧h' = h:=by
 obtain ⟨ht,hK⟩:=hK
 refine .same hR (u:=.iface t u) ?_ (.ifc t x u hx) ⟨hK,rfl⟩
 cases hu:P.underlying t with
 |none=>rw[hu] at ht;exact ht.elim
 |some D=>
  rw[hu] at ht
  simp only[Instr.makeInterface,Sem.run_bind,Zr hu,Result.andThen_ok]
  cases D<;>first |rfl |exact ht.elim
def Znd (P:Program) (x:AVal) (t:TypeId) (ok:Bool) (K:AVal→Prop):Prop:=
 (match P.underlying t with
  |some (.interface _)=>False
  |some _=>True
  |none=>False)∧
 match x with
 | .ifc s v=>if s = t then K (if ok then .tup [v,.lit (.bool true)] else v) else ok = true∧match Z5 P t with
   |some z=>K (.tup [z,.lit (.bool false)])
   |none=>False
 | .lit .nilIface=>ok = true∧match Z5 P t with
   |some z=>K (.tup [z,.lit (.bool false)])
   |none=>False
 |_=>False
theorem VR.pair {x y:AVal} {u v:Value} (hx:VR ρ h w x u) (hy:VR ρ h w y v):VR ρ h w (.tup [x,y]) (.tuple #[u,v]):=by
 refine .tup _ _ rfl fun i hi=>?_
 match i,hi with
 | 0,_=>exact hx
 | 1,_=>exact hy
theorem Z5w {xt t:TypeId} {x:AVal} {u:Value} {ok:Bool} {K:AVal→Prop} (hR:Rel ρ h w) (hx:VR ρ h w x u) (hK:Znd P x t ok K):Gives P ρ h w (Instr.typeAssert u xt t ok) fun v h'=>K v∧h' = h:=by
 obtain ⟨ht,hK⟩:=hK
 cases hu:P.underlying t with
 |none=>rw[hu] at ht;exact ht.elim
 |some D=>
  rw[hu] at ht
  split at hK
  ·rename_i s v
   cases hx with |ifc _ _ u hx=>
   split at hK
   ·rename_i hst
    subst hst
    cases ok with
    |true=>
     refine .same hR (u:=.tuple #[u,.bool true]) ?_ (hx.pair (.lit _)) ⟨hK,rfl⟩
     simp only[Instr.typeAssert,Sem.run_bind,Zr hu,Result.andThen_ok]
     cases D<;>first |exact ht.elim | (simp;done)
    |false=>
     refine .same hR (u:=u) ?_ hx ⟨hK,rfl⟩
     simp only[Instr.typeAssert,Sem.run_bind,Zr hu,Result.andThen_ok]
     cases D<;>first |exact ht.elim | (simp;done)
   ·rename_i hst
    obtain ⟨rfl,hK⟩:=hK
    split at hK
    ·rename_i z hz
     obtain ⟨zv,hzrun,rfl⟩:=ZhH (w:=w) hz
     refine .same hR (u:=.tuple #[zv,.bool false]) ?_ ((VR.litA zv).pair (.lit _)) ⟨hK,rfl⟩
     simp only[Instr.typeAssert,Sem.run_bind,Zr hu,Result.andThen_ok]
     cases D<;>first |exact ht.elim | (simp[hst,hzrun];done)
    ·exact hK.elim
  ·cases hx
   obtain ⟨rfl,hK⟩:=hK
   split at hK
   ·rename_i z hz
    obtain ⟨zv,hzrun,rfl⟩:=ZhH (w:=w) hz
    refine .same hR (u:=.tuple #[zv,.bool false]) ?_ ((VR.litA zv).pair (.lit _)) ⟨hK,rfl⟩
    simp only[Instr.typeAssert,Sem.run_bind,Zr hu,Result.andThen_ok]
    cases D<;>first |exact ht.elim | (simp[hzrun];done)
   ·exact hK.elim
  ·exact hK.elim
end Go.Proofs.YtogaiomakhapmaaGreat.AL
namespace Go.Proofs.YtogaiomakhapmaaGreat.AL
open Go
variable {ρ ρ':Env} {h h':Za} {w w':World} {P:Program}
def Zfo (P:Program) (t:TypeId):Option (MKey×TypeId×TypeId):=match P.underlying t with
 |some (.map kt et)=>match P.underlying kt with
  |some .string=>some (.str,kt,et)
  |some .bool=>some (.bool,kt,et)
  |some (.int k)=>some (.int k,kt,et)
  |_=>none
 |_=>none
theorem ZpG {t:TypeId} {d:MKey} {kt et:TypeId} (h:Zfo P t = some (d,kt,et)):P.underlying t = some (.map kt et)∧P.underlying kt = some d.desc:=by
 unfold Zfo at h
 split at h
 ·rename_i kt' et' hu
  split at h<;>first
   | (rename_i hk;cases h;exact ⟨hu,hk⟩)
   |cases h
 ·cases h
def ZgI:Value→Value→Bool
 | .int _ a,.int _ b=>decide (a = b)
 | .string a,.string b=>decide (a = b)
 | .bool a,.bool b=>decide (a = b)
 |_,_=>false
theorem ZtH {d:TypeDesc} {a b:Value} (ha:MapKept.IsKey d a) (hb:MapKept.IsKey d b):ZgI a b = true↔a = b:=by
 cases d<;>cases a<;>cases b<;>simp_all [MapKept.IsKey,ZgI]
def Zbz (k:Value):List (Value×AVal)→Option (Nat×AVal)
 | []=>none
 | (x,v) :: es=>match ZgI x k with
   |true=>some (0,v)
   |false=>match Zbz k es with
    |some (i,v)=>some (i + 1,v)
    |none=>none
theorem ZgS {d:TypeDesc} {k:Value} (hk:MapKept.IsKey d k):∀ {es:List (Value×AVal)} {i:Nat} {v:AVal},(∀ p∈es,MapKept.IsKey d p.1)→Zbz k es = some (i,v)→∃ hi:i < es.length,es[i] = (k,v)
 | [],i,v,_,h=>by cases h
 | (x,u) :: es,i,v,hes,h=>by
   unfold Zbz at h
   cases hs:ZgI x k with
   |true=>
    rw[hs] at h
    cases h
    have e:=(ZtH (hes (x,u) (by simp)) hk).1 hs
    subst e
    exact ⟨by simp,rfl⟩
   |false=>
    rw[hs] at h
    simp only at h
    cases hm:Zbz k es with
    |none=>rw[hm] at h;cases h
    |some p=>
     rw[hm] at h
     obtain ⟨j,v'⟩:=p
     cases h
     obtain ⟨hj,e⟩:=ZgS hk (fun p hp=>hes p (by simp[hp])) hm
     exact ⟨by simpa using hj,by simpa using e⟩
theorem Zmx {d:TypeDesc} {k:Value} (hk:MapKept.IsKey d k):∀ {es:List (Value×AVal)},(∀ p∈es,MapKept.IsKey d p.1)→Zbz k es = none→∀ p∈es,p.1≠k
 | [],_,_,p,hp=>by cases hp
 | (x,u) :: es,hes,h,p,hp=>by
   unfold Zbz at h
   cases hs:ZgI x k with
   |true=>rw[hs] at h;cases h
   |false=>
    rw[hs] at h
    simp only at h
    cases hm:Zbz k es with
    |some q=>rw[hm] at h;cases h
    |none=>
     rcases List.mem_cons.1 hp with rfl |hp
     ·intro e
      have:=(ZtH (hes (x,u) (by simp)) hk).2 e
      rw[hs] at this;cases this
     ·exact Zmx hk (fun p hp=>hes p (by simp[hp])) hm p hp
theorem Zm9 {d:MKey} {k:Value} (hk:MapKept.IsKey d.desc k) {C:Array MapEntry} {es:List (Value×AVal)} (hl:C.size = es.length) (hn:(C.toList.map (·.key)).Nodup)
  (hC:∀ (i:Nat) (hi:i < es.length),(C.getD i default).key = es[i].1∧MapKept.IsKey d.desc es[i].1):
  (Zbz k es = none→Instr.findNow d.desc k C.toList 0 = some none∧∀ x∈C.toList,x.key≠k)∧∀ i v,Zbz k es = some (i,v)→∃ hi:i < es.length,es[i] = (k,v)∧Instr.findNow d.desc k C.toList 0 = some (some (i,(C.getD i default).val)):=by
 have get:∀ (i:Nat) (hi:i < C.size),C.getD i default = C[i]:=fun i hi=>by simp[Array.getD,hi]
 have keys:∀ x∈C.toList,MapKept.IsKey d.desc x.key:=fun x hx=>by
  obtain ⟨i,hi,rfl⟩:=List.getElem_of_mem hx
  have hi':i < C.size:=by simpa using hi
  obtain ⟨h1,h2⟩:=hC i (by omega)
  rw[get i hi'] at h1
  have:C.toList[i] = C[i]:=by simp
  rw[this,h1];exact h2
 have es_keys:∀ p∈es,MapKept.IsKey d.desc p.1:=fun p hp=>by
  obtain ⟨i,hi,rfl⟩:=List.getElem_of_mem hp
  exact (hC i hi).2
 constructor
 ·intro hm
  have hne:=Zmx hk es_keys hm
  have hall:∀ x∈C.toList,x.key≠k:=fun x hx=>by
   obtain ⟨i,hi,rfl⟩:=List.getElem_of_mem hx
   have hi':i < C.size:=by simpa using hi
   obtain ⟨h1,_⟩:=hC i (by omega)
   rw[get i hi'] at h1
   have:C.toList[i] = C[i]:=by simp
   rw[this,h1]
   exact hne _ (List.getElem_mem _)
  rcases MapKept.findNow_spec hk C.toList 0 keys with ⟨h1,h2⟩ | ⟨j,e,h1,h2,h3⟩
  ·exact ⟨h1,h2⟩
  ·exact absurd h3 (hall e (List.mem_of_getElem? h2))
 ·intro i v hm
  obtain ⟨hi,e⟩:=ZgS hk es_keys hm
  refine ⟨hi,e,?_⟩
  obtain ⟨h1,_⟩:=hC i hi
  have hi':i < C.size:=by omega
  rw[get i hi',e] at h1
  rcases MapKept.findNow_spec hk C.toList 0 keys with ⟨_,h2⟩ | ⟨j,x,h2,h3,h4⟩
  ·exact absurd h1 (h2 C[i] (by simp))
  ·obtain ⟨hj,h5⟩:=List.getElem?_eq_some_iff.1 h3
   have hj':j < C.size:=by simpa using hj
   have:i = j:=by
    have hnd:=List.pairwise_map.1 hn
    rcases Nat.lt_trichotomy i j with h |h |h
    ·have:=(List.pairwise_iff_getElem.1 hnd) i j (by simpa using hi') hj h
     simp only[Array.getElem_toList] at this
     rw[h1] at this
     have h6:C[j].key = k:=by have:C.toList[j] = C[j]:=by simp
                              rw[←this,h5];exact h4
     exact absurd h6.symm this
    ·exact h
    ·have:=(List.pairwise_iff_getElem.1 hnd) j i hj (by simpa using hi') h
     simp only[Array.getElem_toList] at this
     rw[h1] at this
     have h6:C[j].key = k:=by have:C.toList[j] = C[j]:=by simp
                              rw[←this,h5];exact h4
     exact absurd h6 this
   subst this
   rw[Nat.zero_add] at h2
   rw[h2,get i hi']
   have:C.toList[i] = C[i]:=by simp
   rw[←this,h5]
def ZmZ (P:Program) (t:TypeId) (h:Za) (K:AVal→Za→Prop):Prop:=match Zfo P t with
 |some (d,_,_)=>K (.map h.length) (h++[.map d []])
 |none=>False
theorem Z5a {t:TypeId} {K:AVal→Za→Prop} (hR:Rel ρ h w) (hK:ZmZ P t h K):Gives P ρ h w (Instr.makeMap t none) K:=by
 unfold ZmZ at hK
 split at hK
 ·rename_i d kt et ht
  have hrun:(Instr.makeMap t none).run P w = .ok (.map (some w.heap.size)) { w with heap:=w.heap.push (.map #[] 0)}:=by
   simp only[Instr.makeMap,Sem.run_bind,Sem.run_pure,Result.andThen_ok,run_newObj]
  refine ⟨ext ρ h.length ⟨w.heap.size,0,0,1⟩,_,_,.map h.length,_,hrun,Zf0 (l:=⟨w.heap.size,0,0,1⟩) hR rfl,?_,?_,hK⟩
  ·exact Rel.push (l:=⟨w.heap.size,0,0,1⟩) hR rfl ⟨#[],0,by simp,MapKept.stamped_empty 0,rfl,fun i hi=>by simp at hi⟩
  ·have:=VR.map (ρ:=ext ρ h.length ⟨w.heap.size,0,0,1⟩) (h:=h++[.map d []]) (w:={ w with heap:=w.heap.push (.map #[] 0)}) h.length (by simp)
   simpa[Zds] using this
 ·exact hK.elim
theorem ZuE {d:MKey} {k:Value} (hk:MapKept.IsKey d.desc k) {es es':List (Value×AVal)} (hp:es'.Perm es) (hn:(es'.map (·.1)).Nodup) (hC:∀ p∈es',MapKept.IsKey d.desc p.1):(Zbz k es').map (·.2) = (Zbz k es).map (·.2):=by
 have hC2:∀ p∈es,MapKept.IsKey d.desc p.1:=fun p hm=>hC p (hp.mem_iff.2 hm)
 cases h1:Zbz k es' with
 |none=>
  have n1:=Zmx hk hC h1
  cases h2:Zbz k es with
  |none=>rfl
  |some p=>
   obtain ⟨hi,e⟩:=ZgS hk hC2 h2
   exact absurd (by rw[e]) (n1 es[p.1] (hp.mem_iff.2 (List.getElem_mem hi)))
 |some q=>
  obtain ⟨hj,e'⟩:=ZgS hk hC h1
  cases h2:Zbz k es with
  |none=>exact absurd (by rw[e']) (Zmx hk hC2 h2 es'[q.1] (hp.mem_iff.1 (List.getElem_mem hj)))
  |some p=>
   obtain ⟨hi,e⟩:=ZgS hk hC2 h2
   have m1:(k,q.2)∈es':=by rw[←e'];exact List.getElem_mem hj
   have m2:(k,p.2)∈es':=by rw[←e];exact hp.mem_iff.2 (List.getElem_mem hi)
   obtain ⟨a,ha,ea⟩:=List.getElem_of_mem m1
   obtain ⟨b,hb,eb⟩:=List.getElem_of_mem m2
   have hab:a = b:=by
    have h3:=List.pairwise_iff_getElem.1 hn
    rcases Nat.lt_trichotomy a b with hlt |h |hlt
    ·have:=h3 a b (by simpa using ha) (by simpa using hb) hlt
     simp[ea,eb] at this
    ·exact h
    ·have:=h3 b a (by simpa using hb) (by simpa using ha) hlt
     simp[ea,eb] at this
   subst hab
   rw[ea] at eb
   simp only[Option.map_some,Option.some.injEq]
   exact (Prod.mk.inj eb).2
theorem Z2m {d:MKey} {es:List (Value×AVal)} {l:Loc} (hm:Zs1 ρ h w d es l):(es.map (·.1)).Nodup∧∀ p∈es,MapKept.IsKey d.desc p.1:=by
 obtain ⟨C,clock,hc,hs,hl,hes⟩:=hm
 have hk:es.map (·.1) = C.toList.map (·.key):=by
  apply List.ext_getElem
  ·simp[hl]
  ·intro i h1 h2
   have hi:i < es.length:=by simpa using h1
   have:=(hes i hi).1
   have hi':i < C.size:=by omega
   rw[show C.getD i default = C[i] by simp[Array.getD,hi']] at this
   simp[this]
 refine ⟨by rw[hk];exact hs.2.2,fun p hp=>?_⟩
 obtain ⟨i,hi,rfl⟩:=List.getElem_of_mem hp
 exact (hes i hi).2.1
theorem Zuw (hR:Rel ρ h w) {b:Nat} {d:MKey} {es:List (Value×AVal)} (hb:h[b]? = some (.mapU d es)):∃ es',es'.Perm es∧(es'.map (·.1)).Nodup∧(∀ p∈es',MapKept.IsKey d.desc p.1)∧Rel ρ (h.set b (.map d es')) w∧Evo ρ h w ρ (h.set b (.map d es')) w:=by
 obtain ⟨es',hp,hm⟩:=hR.obj b _ hb
 obtain ⟨h1,h2⟩:=Z2m hm
 have ev:Evo ρ h w ρ (h.set b (.map d es')) w:=ZdC hR hb (by simp) (.refl _) (Nat.le_refl _) (fun _ _=>rfl) (fun r hr=>⟨r,hr⟩)
 refine ⟨es',hp,h1,h2,hR.set hb (by simp) (.refl _) (Nat.le_refl _) (fun _ _=>rfl) (fun r hr=>⟨r,hr⟩) ?_,ev⟩
 obtain ⟨C,clock,a1,a2,a3,a4⟩:=hm
 exact ⟨C,clock,a1,a2,a3,fun i hi=>⟨(a4 i hi).1,(a4 i hi).2.1,(a4 i hi).2.2.evo ev⟩⟩
theorem Zvw (hR:Rel ρ h w) {b:Nat} {d:MKey} {es es':List (Value×AVal)} (hb:h[b]? = some (.map d es')) (hp:es'.Perm es):Rel ρ (h.set b (.mapU d es)) w∧Evo ρ h w ρ (h.set b (.mapU d es)) w:=by
 have ev:Evo ρ h w ρ (h.set b (.mapU d es)) w:=ZdC hR hb (by simp) (.refl _) (Nat.le_refl _) (fun _ _=>rfl) (fun r hr=>⟨r,hr⟩)
 refine ⟨hR.set hb (by simp) (.refl _) (Nat.le_refl _) (fun _ _=>rfl) (fun r hr=>⟨r,hr⟩) ?_,ev⟩
 obtain ⟨C,clock,a1,a2,a3,a4⟩:=hR.obj b _ hb
 exact ⟨es',hp,C,clock,a1,a2,a3,fun i hi=>⟨(a4 i hi).1,(a4 i hi).2.1,(a4 i hi).2.2.evo ev⟩⟩
theorem ZtF {h:Za} {b:Nat} {o:AObj} (hb:h[b]? = some o):h.set b o = h:=by
 apply List.ext_getElem?
 intro c
 by_cases hcb:b = c
 ·subst hcb;rw[List.getElem?_set_self (ZE hb),hb]
 ·rw[List.getElem?_set_ne hcb]
def mres (ok:Bool) (v:AVal) (b:Bool):AVal:=match ok with
 |true=>.tup [v,.lit (.bool b)]
 |false=>v
def Zkv (P:Program) (t:TypeId) (h:Za) (x k:AVal) (ok:Bool) (K:AVal→Prop):Prop:=match Zfo P t,k with
 |some (d,_,et),.lit u=>MapKept.IsKey d.desc u∧match Z5 P et with
  |some z=>match x with
   | .lit (.map none)=>K (mres ok z false)
   | .map b=>match h[b]? with
     |some (.map d' es)=>d' = d∧match Zbz u es with
      |some (_,v)=>K (mres ok v true)
      |none=>K (mres ok z false)
     |some (.mapU d' es)=>d' = d∧match Zbz u es with
      |some (_,v)=>K (mres ok v true)
      |none=>K (mres ok z false)
     |_=>False
   |_=>False
  |none=>False
 |_,_=>False
theorem VR.mres {v:AVal} {u:Value} (hv:VR ρ h w v u) (ok b:Bool):VR ρ h w (AL.mres ok v b) (if ok then .tuple #[u,.bool b] else u):=by
 cases ok with
 |false=>exact hv
 |true=>
  refine .tup _ _ rfl fun i hi=>?_
  match i,hi with
  | 0,_=>exact hv
  | 1,_=>exact .lit _
theorem Z5b {t:TypeId} {x k:AVal} {u uk:Value} {ok:Bool} {K:AVal→Prop} (hR:Rel ρ h w) (hx:VR ρ h w x u) (hk:VR ρ h w k uk) (hK:Zkv P t h x k ok K):∃ v r,(Instr.lookup t u uk ok).run P w = .ok r w∧VR ρ h w v r∧K v:=by
 unfold Zkv at hK
 split at hK
 ·rename_i d kt et kv ht
  obtain ⟨hkey,hK⟩:=hK
  cases hk
  obtain ⟨h1,h2⟩:=ZpG ht
  split at hK
  ·rename_i z hz
   obtain ⟨zv,hzrun,rfl⟩:=ZhH (w:=w) hz
   split at hK
   ·cases hx
    refine ⟨_,_,?_,(VR.litA zv).mres ok false,hK⟩
    have hf:Instr.findNow d.desc uk ([]:List MapEntry) 0 = some none:=rfl
    have hf':(Instr.findKey kt uk []).run P w = .ok none w:=MapKept.run_findKey h2 hf
    cases ok<;>simp[Instr.lookup,Zr h1,MapKept.run_checkKey h2 hkey,hf',hzrun,Result.andThen]
   ·rename_i b
    split at hK
    ·rename_i d' es hb
     obtain ⟨rfl,hK⟩:=hK
     obtain ⟨C,clock,hc,hs,hl,hes⟩:=hR.obj b _ hb
     cases hx
     have hfe:=Zm9 hkey hl hs.2.2 fun i hi=>⟨(hes i hi).1,(hes i hi).2.1⟩
     split at hK
     ·rename_i i v hm
      obtain ⟨hi,e,hf⟩:=hfe.2 i v hm
      have hv:=(hes i hi).2.2
      rw[e] at hv
      refine ⟨_,_,?_,hv.mres ok true,hK⟩
      cases ok<;>simp[Instr.lookup,Zr h1,MapKept.run_getObj_map hc,MapKept.run_checkKey h2 hkey,MapKept.run_findKey h2 hf,Result.andThen]
     ·rename_i hm
      obtain ⟨hf,_⟩:=hfe.1 hm
      refine ⟨_,_,?_,(VR.litA zv).mres ok false,hK⟩
      cases ok<;>simp[Instr.lookup,Zr h1,MapKept.run_getObj_map hc,MapKept.run_checkKey h2 hkey,MapKept.run_findKey h2 hf,hzrun,Result.andThen]
    ·rename_i d' es hb
     obtain ⟨rfl,hK⟩:=hK
     obtain ⟨es',hp,hnd,hisk,R1,ev⟩:=Zuw hR hb
     have hperm:=ZuE hkey hp hnd hisk
     have hb1:=List.getElem?_set_self (a:=AObj.map d' es') (ZE hb)
     obtain ⟨C,clock,hc,hs,hl,hes⟩:=R1.obj b _ hb1
     cases hx
     have hfe:=Zm9 hkey hl hs.2.2 fun i hi=>⟨(hes i hi).1,(hes i hi).2.1⟩
     have back:∀ {v:AVal} {u:Value},VR ρ (h.set b (.map d' es')) w v u→VR ρ h w v u:=fun hv=>by
      obtain ⟨_,e2⟩:=Zvw R1 hb1 hp
      have:=hv.evo e2
      rw[List.set_set,ZtF hb] at this
      exact this
     split at hK
     ·rename_i i v hm
      rw[hm] at hperm
      cases hm':Zbz uk es' with
      |none=>rw[hm'] at hperm;cases hperm
      |some q=>
       rw[hm'] at hperm
       simp only[Option.map_some,Option.some.injEq] at hperm
       obtain ⟨hi,e,hf⟩:=hfe.2 q.1 q.2 hm'
       have hv:=(hes q.1 hi).2.2
       rw[e,hperm] at hv
       refine ⟨_,_,?_,(back hv).mres ok true,hK⟩
       cases ok<;>simp[Instr.lookup,Zr h1,MapKept.run_getObj_map hc,MapKept.run_checkKey h2 hkey,MapKept.run_findKey h2 hf,Result.andThen]
     ·rename_i hm
      rw[hm] at hperm
      cases hm':Zbz uk es' with
      |some q=>rw[hm'] at hperm;cases hperm
      |none=>
       obtain ⟨hf,_⟩:=hfe.1 hm'
       refine ⟨_,_,?_,(VR.litA zv).mres ok false,hK⟩
       cases ok<;>simp[Instr.lookup,Zr h1,MapKept.run_getObj_map hc,MapKept.run_checkKey h2 hkey,MapKept.run_findKey h2 hf,hzrun,Result.andThen]
    ·exact hK.elim
   ·exact hK.elim
  ·exact hK.elim
 ·exact hK.elim
theorem Zma {b:Nat} {d:MKey} {es es':List (Value×AVal)} {C C':Array MapEntry} {clock clock':Nat} (hR:Rel ρ h w) (hb:h[b]? = some (.map d es)) (hc:w.heap[(ρ b).blk]? = some (.map C clock))
  (hs:MapKept.Stamped C' clock') (hl:C'.size = es'.length) (hC:∀ (i:Nat) (hi:i < es'.length),(C'.getD i default).key = es'[i].1∧MapKept.IsKey d.desc es'[i].1∧VR ρ h w es'[i].2 (C'.getD i default).val):
  Evo ρ h w ρ (h.set b (.map d es')) { w with heap:=w.heap.setIfInBounds (ρ b).blk (.map C' clock')}∧Rel ρ (h.set b (.map d es')) { w with heap:=w.heap.setIfInBounds (ρ b).blk (.map C' clock')}:=by
 obtain ⟨h1,h2⟩:=MapKept.heap_set (o':=.map C' clock') hc
 have e:Evo ρ h w ρ (h.set b (.map d es')) { w with heap:=w.heap.setIfInBounds (ρ b).blk (.map C' clock')}:=ZdC hR hb (by simp) ⟨rfl,rfl,rfl⟩ (by simp) h2 (fun r hr=>ZeU hR hb rfl r hr)
 refine ⟨e,hR.set hb (by simp) ⟨rfl,rfl,rfl⟩ (by simp) h2 (fun r hr=>ZeU hR hb rfl r hr) ⟨C',clock',h1,hs,hl,fun i hi=>?_⟩⟩
 obtain ⟨a1,a2,a3⟩:=hC i hi
 exact ⟨a1,a2,a3.evo e⟩
def Ziq (P:Program) (t:TypeId) (h:Za) (m k v:AVal) (K:Za→Prop):Prop:=match Zfo P t,k,m with
 |some (d,_,_),.lit u,.map b=>MapKept.IsKey d.desc u∧match h[b]? with
  |some (.map d' es)=>d' = d∧match Zbz u es with
   |some (i,_)=>K (h.set b (.map d (es.set i (u,v))))
   |none=>K (h.set b (.map d (es++[(u,v)])))
  |_=>False
 |_,_,_=>False
theorem ZvW {t:TypeId} {m k v:AVal} {um uk uv:Value} {K:Za→Prop} (hR:Rel ρ h w) (hm:VR ρ h w m um) (hk:VR ρ h w k uk) (hv:VR ρ h w v uv) (hK:Ziq P t h m k v K):
  ∃ w' h',(Instr.mapUpdate t um uk uv).run P w = .ok () w'∧Evo ρ h w ρ h' w'∧Rel ρ h' w'∧K h':=by
 unfold Ziq at hK
 split at hK
 ·rename_i d kt et kv b ht
  obtain ⟨hkey,hK⟩:=hK
  cases hk
  cases hm
  obtain ⟨h1,h2⟩:=ZpG ht
  split at hK
  ·rename_i d' es hb
   obtain ⟨rfl,hK⟩:=hK
   obtain ⟨C,clock,hc,hs,hl,hes⟩:=hR.obj b _ hb
   have hfe:=Zm9 hkey hl hs.2.2 fun i hi=>⟨(hes i hi).1,(hes i hi).2.1⟩
   have get:∀ (i:Nat) (hi:i < C.size),C.getD i default = C[i]:=fun i hi=>by simp[Array.getD,hi]
   split at hK
   ·rename_i i v' hmf
    obtain ⟨hi,e,hf⟩:=hfe.2 i v' hmf
    have hiC:i < C.size:=by omega
    have hki:C[i].key = uk:=by have:=(hes i hi).1;rw[get i hiC,e] at this;exact this
    have hkm:∀ x,C[i]? = some x→({ x with key:=uk,val:=uv}:MapEntry).key = x.key:=fun x hx=>by
     rw[Array.getElem?_eq_getElem hiC] at hx
     cases hx;exact hki.symm
    obtain ⟨e1,e2⟩:=Zma (clock':=clock) (C':=C.modify i fun x=>{ x with key:=uk,val:=uv}) (es':=es.set i (uk,v)) hR hb hc
     (MapKept.stamped_modify hs i _ (fun _ _=>rfl) fun x _ hx=>hkm x hx) (by simp[hl]) (fun j hj=>by
      simp only[List.length_set] at hj
      have hjC:j < C.size:=by omega
      have hg:(C.modify i fun x=>{ x with key:=uk,val:=uv}).getD j default = if i = j then { C[j] with key:=uk,val:=uv} else C[j]:=by
       simp only[Array.getD,Array.size_modify,hjC,dif_pos]
       show (C.modify i _)[j]'(by simpa using hjC) = _
       rw[Array.getElem_modify]
      rw[hg,List.getElem_set]
      by_cases hij:i = j
      ·rw[if_pos hij,if_pos hij];exact ⟨rfl,hkey,hv⟩
      ·rw[if_neg hij,if_neg hij,←get j hjC];exact hes j hj)
    refine ⟨_,_,?_,e1,e2,hK⟩
    have hkk:((C[i]?).map (·.key)).getD uk = uk:=by rw[Array.getElem?_eq_getElem hiC];exact hki
    simp[Instr.mapUpdate,Zr h1,MapKept.run_getObj_map hc,MapKept.run_checkKey h2 hkey,MapKept.run_findKey h2 hf,hkk,MapKept.run_keyThatStays hkey,MapKept.run_setObj_map _ hc,Result.andThen]
   ·rename_i hmf
    obtain ⟨hf,hne⟩:=hfe.1 hmf
    obtain ⟨e1,e2⟩:=Zma (clock':=clock + 1) (C':=C.push { key:=uk,val:=uv,born:=clock}) (es':=es++[(uk,v)]) hR hb hc
     (MapKept.stamped_push hs hne) (by simp[hl]) (fun j hj=>by
      simp only[List.length_append,List.length_cons,List.length_nil] at hj
      have hg:(C.push { key:=uk,val:=uv,born:=clock}).getD j default = if hj:j < C.size then C[j] else { key:=uk,val:=uv,born:=clock}:=by
       have:j < (C.push { key:=uk,val:=uv,born:=clock}).size:=by simp;omega
       simp only[Array.getD,this,dif_pos]
       show (C.push _)[j] = _
       rw[Array.getElem_push]
      rw[hg,List.getElem_append]
      by_cases hjl:j < es.length
      ·rw[dif_pos (by omega),dif_pos hjl,←get j (by omega)];exact hes j hjl
      ·rw[dif_neg (by omega),dif_neg hjl]
       have:j - es.length = 0:=by omega
       simp only[this,List.getElem_cons_zero]
       exact ⟨by first |trivial |rfl,hkey,hv⟩)
    refine ⟨_,_,?_,e1,e2,hK⟩
    simp[Instr.mapUpdate,Zr h1,MapKept.run_getObj_map hc,MapKept.run_checkKey h2 hkey,MapKept.run_findKey h2 hf,MapKept.run_setObj_map _ hc,Result.andThen]
  ·exact hK.elim
 ·exact hK.elim
theorem ZqK {α:Type}:∀ {l:List α} {i:Nat} (hi:i < l.length),(l[i] :: l.eraseIdx i).Perm l
 |x :: l,0,_=>.refl _
 |x :: l,i + 1,hi=>by
  have ih:=ZqK (l:=l) (i:=i) (by simpa using hi)
  simp only[List.getElem_cons_succ,List.eraseIdx_cons_succ]
  exact (List.Perm.swap x (l[i]'(by simpa using hi)) (l.eraseIdx i)).trans (ih.cons x)
def Zk2 (P:Program) (t:TypeId) (h:Za) (m k:AVal) (K:AVal→Za→Prop):Prop:=match Zfo P t,k with
 |some (d,_,_),.lit u=>MapKept.IsKey d.desc u∧match m with
  | .lit (.map none)=>K (.tup []) h
  | .map b=>match h[b]? with
    |some (.map d' es)=>d' = d∧match Zbz u es with
     |some (i,_)=>K (.tup []) (h.set b (.map d (es.eraseIdx i)))
     |none=>K (.tup []) h
    |_=>False
  |_=>False
 |_,_=>False
theorem Zrp {t kt':TypeId} {ty:TypeId} {m k:AVal} {um uk:Value} {K:AVal→Za→Prop} (hR:Rel ρ h w) (hm:VR ρ h w m um) (hk:VR ρ h w k uk) (hK:Zk2 P t h m k K):
  Gives P ρ h w (Builtin.delete_ #[t,kt'] ty #[um,uk]) K:=by
 unfold Zk2 at hK
 split at hK
 ·rename_i d kt et kv ht
  obtain ⟨hkey,hK⟩:=hK
  cases hk
  obtain ⟨h1,h2⟩:=ZpG ht
  have hun:VR ρ h w (.tup []) (.tuple #[]):=.tup _ _ rfl fun i hi=>by simp at hi
  split at hK
  ·cases hm
   refine Gives.same hR ?_ hun hK
   simp[Builtin.delete_,Zr h1,MapKept.run_checkKey h2 hkey,Result.andThen]
  ·rename_i b
   cases hm
   split at hK
   ·rename_i d' es hb
    obtain ⟨rfl,hK⟩:=hK
    obtain ⟨C,clock,hc,hs,hl,hes⟩:=hR.obj b _ hb
    have hfe:=Zm9 hkey hl hs.2.2 fun i hi=>⟨(hes i hi).1,(hes i hi).2.1⟩
    have get:∀ (i:Nat) (hi:i < C.size),C.getD i default = C[i]:=fun i hi=>by simp[Array.getD,hi]
    split at hK
    ·rename_i i v' hmf
     obtain ⟨hi,e,hf⟩:=hfe.2 i v' hmf
     have hiC:i < C.size:=by omega
     have hsz:(C.eraseIdxIfInBounds i).size = C.size - 1:=by simp[Array.eraseIdxIfInBounds,hiC]
     obtain ⟨e1,e2⟩:=Zma (clock':=clock) (C':=C.eraseIdxIfInBounds i) (es':=es.eraseIdx i) hR hb hc (MapKept.stamped_erase hs i) (by rw[hsz,List.length_eraseIdx,if_pos hi];omega) (fun j hj=>by
      rw[List.length_eraseIdx,if_pos hi] at hj
      have hg:(C.eraseIdxIfInBounds i).getD j default = if h':j < i then C[j]'(by omega) else C[j + 1]'(by omega):=by
       have h3:j < (C.eraseIdxIfInBounds i).size:=by omega
       simp only[Array.getD,h3,dif_pos]
       show (C.eraseIdxIfInBounds i)[j] = _
       simp only[Array.eraseIdxIfInBounds,hiC,dif_pos]
       rw[Array.getElem_eraseIdx]
      rw[hg,List.getElem_eraseIdx]
      by_cases hji:j < i
      ·rw[dif_pos hji,dif_pos hji,←get j (by omega)];exact hes j (by omega)
      ·rw[dif_neg hji,dif_neg hji,←get (j + 1) (by omega)];exact hes (j + 1) (by omega))
     refine ⟨ρ,_,_,.tup [],.tuple #[],?_,e1,e2,.tup _ _ rfl fun i hi=>by simp at hi,hK⟩
     simp[Builtin.delete_,Zr h1,MapKept.run_getObj_map hc,MapKept.run_checkKey h2 hkey,MapKept.run_findKey h2 hf,MapKept.run_setObj_map _ hc,Result.andThen]
    ·rename_i hmf
     obtain ⟨hf,_⟩:=hfe.1 hmf
     obtain ⟨e1,e2⟩:=Zma (clock':=clock) (C':=C) (es':=es) hR hb hc hs hl hes
     have hset:h.set b (.map d' es) = h:=by
      apply List.ext_getElem?
      intro c
      by_cases hcb:b = c
      ·subst hcb;rw[List.getElem?_set_self (ZE hb),hb]
      ·rw[List.getElem?_set_ne hcb]
     rw[hset] at e1 e2
     refine ⟨ρ,_,_,.tup [],.tuple #[],?_,e1,e2,.tup _ _ rfl fun i hi=>by simp at hi,hK⟩
     simp[Builtin.delete_,Zr h1,MapKept.run_getObj_map hc,MapKept.run_checkKey h2 hkey,MapKept.run_findKey h2 hf,MapKept.run_setObj_map _ hc,Result.andThen]
   ·exact hK.elim
  ·exact hK.elim
 ·exact hK.elim
def Zk3 (P:Program) (t:TypeId) (h:Za) (m k:AVal) (K:AVal→Za→Prop):Prop:=match Zfo P t,k with
 |some (d,_,_),.lit u=>MapKept.IsKey d.desc u∧match m with
  | .lit (.map none)=>K (.tup []) h
  | .map b=>match h[b]? with
    |some (.map d' es)=>d' = d∧match Zbz u es with
     |some (i,_)=>K (.tup []) (h.set b (.map d (es.eraseIdx i)))
     |none=>K (.tup []) h
    |some (.mapU d' es)=>d' = d∧match Zbz u es with
     |some (i,_)=>K (.tup []) (h.set b (.mapU d (es.eraseIdx i)))
     |none=>K (.tup []) h
    |_=>False
  |_=>False
 |_,_=>False
theorem Z5n {t kt':TypeId} {ty:TypeId} {m k:AVal} {um uk:Value} {K:AVal→Za→Prop} (hR:Rel ρ h w) (hm:VR ρ h w m um) (hk:VR ρ h w k uk) (hK:Zk3 P t h m k K):
  Gives P ρ h w (Builtin.delete_ #[t,kt'] ty #[um,uk]) K:=by
 unfold Zk3 at hK
 split at hK
 ·rename_i d kt et kv ht
  obtain ⟨hkey,hK⟩:=hK
  have hm0:=hm
  split at hK
  ·exact Zrp hR hm hk (by unfold Zk2;simp only[ht];exact ⟨hkey,hK⟩)
  ·rename_i b
   cases hm
   split at hK
   ·rename_i d' es hb
    exact Zrp hR hm0 hk (by unfold Zk2;simp only[ht,hb];exact ⟨hkey,hK⟩)
   ·rename_i d' es hb
    obtain ⟨rfl,hK⟩:=hK
    obtain ⟨es',hp,hnd,hisk,R1,ev⟩:=Zuw hR hb
    have hbl:=ZE hb
    have hb1:=List.getElem?_set_self (a:=AObj.map d' es') hbl
    have hC2:∀ p∈es,MapKept.IsKey d'.desc p.1:=fun p hm=>hisk p (hp.mem_iff.2 hm)
    have hperm:=ZuE hkey hp hnd hisk
    have fin:∀ es2:List (Value×AVal),K (.tup []) (h.set b (.mapU d' es2))→(∃ es3:List (Value×AVal),es3.Perm es2∧match Zbz kv es' with
      |some (i,_)=>es3 = es'.eraseIdx i
      |none=>es3 = es')→Gives P ρ h w (Builtin.delete_ #[t,kt'] ty #[.map (some (ρ b).blk),uk]) K:=fun es2 hK2 ⟨es3,hp3,h3⟩=>by
     have g:=Zrp (P:=P) (t:=t) (kt':=kt') (ty:=ty) (K:=fun v g=>v = .tup []∧g = h.set b (.map d' es3)) R1 (hm0.evo ev) (hk.evo ev) (by
      unfold Zk2
      simp only[ht,hb1]
      refine ⟨hkey,by first |trivial |rfl,?_⟩
      split
      ·rename_i i v hm'
       rw[hm'] at h3
       simp only at h3
       subst h3
       rw[List.set_set]
       exact ⟨by first |trivial |rfl,by first |trivial |rfl⟩
      ·rename_i hm'
       rw[hm'] at h3
       simp only at h3
       subst h3
       exact ⟨by first |trivial |rfl,by first |trivial |rfl⟩)
     obtain ⟨ρ',h',w',v,u,hrun,e1,R',hv,rfl,rfl⟩:=g
     obtain ⟨R2,e2⟩:=Zvw R' (List.getElem?_set_self hbl) hp3
     rw[List.set_set] at R2 e2
     exact ⟨ρ',_,w',_,u,hrun,(ev.trans e1).trans e2,R2,hv.evo e2,hK2⟩
    split at hK
    ·rename_i i v hmf
     obtain ⟨hi,e⟩:=ZgS hkey hC2 hmf
     rw[hmf] at hperm
     cases hm':Zbz kv es' with
     |none=>rw[hm'] at hperm;cases hperm
     |some q=>
      rw[hm'] at hperm
      simp only[Option.map_some,Option.some.injEq] at hperm
      obtain ⟨hj,e'⟩:=ZgS hkey hisk hm'
      refine fin _ hK ⟨es'.eraseIdx q.1,?_,by rw[hm']⟩
      have p1:=ZqK hj
      have p2:=ZqK hi
      rw[e',hperm] at p1
      rw[e] at p2
      exact (p1.trans (hp.trans p2.symm)).cons_inv
    ·rename_i hmf
     rw[hmf] at hperm
     cases hm':Zbz kv es' with
     |some q=>rw[hm'] at hperm;cases hperm
     |none=>
      refine fin es (by rw[ZtF hb];exact hK) ⟨es',hp,by rw[hm']⟩
   ·exact hK.elim
  ·exact hK.elim
 ·exact hK.elim
def Zkt (h:Za) (m:AVal) (K:AVal→Prop):Prop:=match m with
 | .lit (.map none)=>K (.lit (.int .i64 0))
 | .map b=>match h[b]? with
   |some (.map _ es)=>K (.lit (.int .i64 es.length))
   |some (.mapU _ es)=>K (.lit (.int .i64 es.length))
   |_=>False
 |_=>False
theorem Z4Y {t kt et ty:TypeId} {m:AVal} {um:Value} {K:AVal→Prop} (hu:P.underlying t = some (.map kt et)) (hR:Rel ρ h w) (hm:VR ρ h w m um) (hK:Zkt h m K):∃ v r,(Builtin.len_ #[t] ty #[um]).run P w = .ok r w∧VR ρ h w v r∧K v:=by
 unfold Zkt at hK
 split at hK
 ·cases hm
  exact ⟨_,_,by simp[Builtin.len_,Zr hu,Result.andThen];rfl,.lit _,hK⟩
 ·rename_i b
  cases hm
  split at hK
  ·rename_i d es hb
   obtain ⟨C,clock,hc,hs,hl,hes⟩:=hR.obj b _ hb
   refine ⟨_,_,by simp[Builtin.len_,Zr hu,MapKept.run_getObj_map hc,Result.andThen];rfl,?_,hK⟩
   rw[←hl];exact .lit _
  ·rename_i d es hb
   obtain ⟨es',hp,C,clock,hc,hs,hl,hes⟩:=hR.obj b _ hb
   refine ⟨_,_,by simp[Builtin.len_,Zr hu,MapKept.run_getObj_map hc,Result.andThen];rfl,?_,hK⟩
   rw[←hp.length_eq,←hl];exact .lit _
  ·exact hK.elim
 ·exact hK.elim
def Zkq (P:Program) (t:TypeId) (x:AVal) (h:Za) (K:AVal→Za→Prop):Prop:=match P.underlying t,x with
 |some .string,.lit (.string s)=>K (.ptr h.length 0) (h++[.sit s 0])
 |_,_=>False
theorem Z4M {t:TypeId} {x:AVal} {u:Value} {K:AVal→Za→Prop} (hR:Rel ρ h w) (hx:VR ρ h w x u) (hK:Zkq P t x h K):Gives P ρ h w (Instr.range t u) K:=by
 unfold Zkq at hK
 split at hK
 ·rename_i s hu
  cases hx
  have hrun:(Instr.range t (.string s)).run P w = .ok (.pointer (some ⟨w.heap.size,0,none⟩)) { w with heap:=w.heap.push (.stringIter s 0)}:=by
   simp only[Instr.range,Sem.run_bind,Zr hu,Sem.run_pure,Result.andThen_ok,run_newObj]
  refine ⟨ext ρ h.length ⟨w.heap.size,0,0,1⟩,_,_,.ptr h.length 0,_,hrun,Zf0 (l:=⟨w.heap.size,0,0,1⟩) hR rfl,?_,?_,hK⟩
  ·exact Rel.push (l:=⟨w.heap.size,0,0,1⟩) hR rfl ⟨by simp,rfl⟩
  ·have:=VR.ptr (ρ:=ext ρ h.length ⟨w.heap.size,0,0,1⟩) (h:=h++[.sit s 0]) (w:={ w with heap:=w.heap.push (.stringIter s 0)}) h.length 0 (by simp)
   simpa[Zds] using this
 ·exact hK.elim
def Zks (x:AVal) (h:Za) (K:AVal→Za→Prop):Prop:=match x with
 | .ptr b 0=>match h[b]? with
   |some (.sit s pos)=>if pos < s.size then K (.tup [.lit (.bool true),.lit (.int .i64 pos),.lit (.int .i32 (Utf8.decode s pos).1)]) (h.set b (.sit s (pos + (Utf8.decode s pos).2))) else K (.tup [.lit (.bool false)]) h
   |_=>False
 |_=>False
theorem VR.tup1 (u:Value):VR ρ h w (.tup [.lit u]) (.tuple #[u]):=.tup _ _ rfl fun i hi=>match i,hi with
 | 0,_=>.lit u
theorem VR.tup3 (u v x:Value):VR ρ h w (.tup [.lit u,.lit v,.lit x]) (.tuple #[u,v,x]):=.tup _ _ rfl fun i hi=>match i,hi with
 | 0,_=>.lit u
 | 1,_=>.lit v
 | 2,_=>.lit x
theorem Z4U {x:AVal} {u:Value} {t:TypeId} {K:AVal→Za→Prop} (hR:Rel ρ h w) (hx:VR ρ h w x u) (hK:Zks x h K):Gives P ρ h w (Instr.next u true t) K:=by
 unfold Zks at hK
 split at hK
 ·rename_i b
  split at hK
  ·rename_i s pos hb
   obtain ⟨hc,hbase⟩:=hR.obj b _ hb
   have hx0:u = .pointer (some ⟨(ρ b).blk,0,none⟩):=by
    cases hx
    simp[hbase]
   subst hx0
   have hget:(getObj (ρ b).blk).run P w = .ok (.stringIter s pos) w:=by simp[getObj,Sem.run,hc]
   split at hK
   ·rename_i hp
    have hset:(setObj (ρ b).blk (.stringIter s (pos + (Utf8.decode s pos).2))).run P w = .ok () { w with heap:=w.heap.setIfInBounds (ρ b).blk (.stringIter s (pos + (Utf8.decode s pos).2))}:=by simp[setObj,Sem.run,hc]
    obtain ⟨h1,h2⟩:=MapKept.heap_set (o':=.stringIter s (pos + (Utf8.decode s pos).2)) hc
    have e:Evo ρ h w ρ (h.set b (.sit s (pos + (Utf8.decode s pos).2))) { w with heap:=w.heap.setIfInBounds (ρ b).blk (.stringIter s (pos + (Utf8.decode s pos).2))}:=ZdC hR hb (by simp) ⟨rfl,rfl,rfl⟩ (by simp) h2 (fun r hr=>ZeU hR hb rfl r hr)
    refine ⟨ρ,_,_,_,_,?_,e,hR.set hb (by simp) ⟨rfl,rfl,rfl⟩ (by simp) h2 (fun r hr=>ZeU hR hb rfl r hr) ⟨h1,hbase⟩,VR.tup3 _ _ _,hK⟩
    simp[Instr.next,hget,hp,hset,Result.andThen,goInt]
   ·rename_i hp
    refine Gives.same hR ?_ (VR.tup1 _) hK
    simp[Instr.next,hget,hp,Result.andThen]
  ·exact hK.elim
 ·exact hK.elim
end Go.Proofs.YtogaiomakhapmaaGreat.AL
namespace Go.Proofs.YtogaiomakhapmaaGreat.AL
open Go
variable {ρ ρ':Env} {h h':Za} {w w':World} {P:Program}
def Zt0 (P:Program) (t:TypeId):Bool:=match P.underlying t with
 |some (.map _ _)=>true
 |_=>false
def ZmV (P:Program) (t:TypeId) (x:AVal) (h:Za) (K:AVal→Za→Prop):Prop:=Zt0 P t = true∧match x with
 | .map b=>match h[b]? with
   |some (.mapS _ _ _ clock)=>K (.ptr h.length 0) (h++[.mit b clock [] clock])
   |_=>False
 |_=>False
theorem Z4N {t:TypeId} {x:AVal} {u:Value} {K:AVal→Za→Prop} (hR:Rel ρ h w) (hx:VR ρ h w x u) (hK:ZmV P t x h K):Gives P ρ h w (Instr.range t u) K:=by
 unfold ZmV at hK
 obtain ⟨ht,hK⟩:=hK
 unfold Zt0 at ht
 split at ht
 ·rename_i k e hu
  split at hK
  ·rename_i b
   split at hK
   ·rename_i d es bs clock hb
    cases hx with |map _ hlt=>
    obtain ⟨C,hc,hs,hbs,hl,hes⟩:=hR.obj b _ hb
    have hrun:=run_range_map (P:=P) w t k e (ρ b).blk C clock hu hc
    refine ⟨ext ρ h.length ⟨w.heap.size,0,0,1⟩,_,_,.ptr h.length 0,_,hrun,Zf0 (l:=⟨w.heap.size,0,0,1⟩) hR rfl,?_,?_,hK⟩
    ·refine Rel.push (l:=⟨w.heap.size,0,0,1⟩) hR rfl ⟨by simp;omega,rfl,?_⟩
     have:ext ρ h.length ⟨w.heap.size,0,0,1⟩ b = ρ b:=by simp[ext,Nat.ne_of_lt hlt]
     rw[this];simp
    ·have:=VR.ptr (ρ:=ext ρ h.length ⟨w.heap.size,0,0,1⟩) (h:=h++[.mit b clock [] clock]) (w:=w.alloc (.mapIter (some (ρ b).blk) clock #[] clock)) h.length 0 (by simp)
     simpa[Zds] using this
   ·exact hK.elim
  ·exact hK.elim
 ·cases ht
def ZmY (x:AVal) (h:Za) (K:AVal→Za→Prop):Prop:=match x with
 | .ptr b 0=>match h[b]? with
   |some (.mit mb since seen c0)=>match h[mb]? with
    |some (.mapS d es bs clock)=>(∀ s∈bs,s < since)∧since≤c0∧((∀ s∈bs,s∈seen)→K (.tup [.lit (.bool false)]) h)∧
      ∀ (i:Nat) (hi:i < es.length) (s:Nat),bs[i]? = some s→s∉seen→K (.tup [.lit (.bool true),.lit es[i].1,es[i].2]) (h.set b (.mit mb since (seen++[s]) clock))
    |_=>False
   |_=>False
 |_=>False
theorem VR.tupv3 {u v:Value} {x:AVal} {y:Value} (hx:VR ρ h w x y):VR ρ h w (.tup [.lit u,.lit v,x]) (.tuple #[u,v,y]):=.tup _ _ rfl fun i hi=>match i,hi with
 | 0,_=>.lit u
 | 1,_=>.lit v
 | 2,_=>hx
theorem VR.tupv2 {u:Value} {x:AVal} {y:Value} (hx:VR ρ h w x y):VR ρ h w (.tup [.lit u,x]) (.tuple #[u,y]):=.tup _ _ rfl fun i hi=>match i,hi with
 | 0,_=>.lit u
 | 1,_=>hx
theorem Z2W {C:Array MapEntry} {e:MapEntry} (he:e∈C.toList):∃ i,i < C.size∧C.getD i default = e:=by
 obtain ⟨i,hi,rfl⟩:=List.getElem_of_mem he
 exact ⟨i,by simpa using hi,by simp[Array.getD,show i < C.size by simpa using hi]⟩
theorem Z4V {x:AVal} {u:Value} {t:TypeId} {K:AVal→Za→Prop} (hR:Rel ρ h w) (hx:VR ρ h w x u) (hK:ZmY x h K):Gives P ρ h w (Instr.next u false t) K:=by
 unfold ZmY at hK
 split at hK
 ·rename_i b
  split at hK
  ·rename_i mb since seen c0 hb
   split at hK
   ·rename_i d es bs clock hm
    obtain ⟨hlt,hbase,hit⟩:=hR.obj b _ hb
    obtain ⟨C,hc,hs,hbs,hl,hes⟩:=hR.obj mb _ hm
    have hx0:u = .pointer (some ⟨(ρ b).blk,0,none⟩):=by cases hx;simp[hbase]
    subst hx0
    obtain ⟨g1,g2,g3,g4⟩:=hK
    have hold:∀ x∈C.toList,x.born < since:=fun x hx=>g1 _ (by rw[hbs];exact List.mem_map.2 ⟨x,hx,rfl⟩)
    rcases run_next_at (P:=P) w t (ρ b).blk (ρ mb).blk since c0 seen.toArray C clock hit hc hold g2 with ⟨h0,hrun⟩ | ⟨e,he,w1,hw1,hrun⟩
    ·refine Gives.same hR hrun (VR.tup1 _) (g3 fun s hs=>?_)
     rw[hbs] at hs
     obtain ⟨e,he,rfl⟩:=List.mem_map.1 hs
     have:=all_seen C seen.toArray h0 e he
     simpa using this
    ·obtain ⟨hem,hun⟩:=mem_left he
     obtain ⟨i,hi,hie⟩:=Z2W hem
     have hi':i < es.length:=by rw[←hl];exact hi
     obtain ⟨k1,k2,k3⟩:=hes i hi'
     rw[hie] at k1 k3
     have hbi:bs[i]? = some e.born:=by
      rw[hbs,List.getElem?_map,List.getElem?_eq_getElem (by simpa using hi)]
      have:C.toList[i]'(by simpa using hi) = e:=by rw[←hie];simp[Array.getD,hi]
      rw[this];rfl
     have hns:e.born∉seen:=by simpa using hun
     have hsame:Same w w1∧w1.heap = w.heap:=by rcases hw1 with rfl |rfl<;>exact ⟨⟨rfl,rfl,rfl⟩,rfl⟩
     obtain ⟨R1,e1⟩:=hR.like hsame.1 hsame.2
     have hit1:w1.heap[(ρ b).blk]? = some (.mapIter (some (ρ mb).blk) since seen.toArray c0):=by rw[hsame.2];exact hit
     obtain ⟨h1,h2⟩:=MapKept.heap_set (o':=.mapIter (some (ρ mb).blk) since (seen.toArray.push e.born) clock) hit1
     have e2:Evo ρ h w1 ρ (h.set b (.mit mb since (seen++[e.born]) clock)) (Go.ChangeMaps.setBlock w1 (ρ b).blk (.mapIter (some (ρ mb).blk) since (seen.toArray.push e.born) clock)):=
      ZdC R1 hb (by simp) ⟨rfl,rfl,rfl⟩ (by simp[Go.ChangeMaps.setBlock]) h2 (fun r hr=>ZeU R1 hb rfl r hr)
     have R2:Rel ρ (h.set b (.mit mb since (seen++[e.born]) clock)) (Go.ChangeMaps.setBlock w1 (ρ b).blk (.mapIter (some (ρ mb).blk) since (seen.toArray.push e.born) clock)):=
      R1.set hb (by simp) ⟨rfl,rfl,rfl⟩ (by simp[Go.ChangeMaps.setBlock]) h2 (fun r hr=>ZeU R1 hb rfl r hr) ⟨by simpa using hlt,hbase,by
       have:(seen++[e.born]).toArray = seen.toArray.push e.born:=by simp
       rw[this];exact h1⟩
     refine ⟨ρ,_,_,_,_,hrun,e1.trans e2,R2,VR.tupv3 ((k3.evo e1).evo e2),?_⟩
     have:=g4 i hi' e.born hbi hns
     rw[←k1] at this
     exact this
   ·exact hK.elim
  ·exact hK.elim
 ·exact hK.elim
def Znc (x:AVal) (h:Za) (K:AVal→Za→Prop):Prop:=match x with
 | .ptr b 0=>match h[b]? with
   |some (.mit mb since seen c0)=>match h[mb]? with
    |some (.mapS d es bs clock)=>∃ (pre:List Nat) (s i:Nat) (hi:i < es.length),seen = pre++[s]∧bs[i]? = some s∧c0 = clock∧K (.tup [.lit es[i].1,es[i].2]) h
    |_=>False
   |_=>False
 |_=>False
theorem Z5m {x:AVal} {u:Value} {K:AVal→Za→Prop} (hR:Rel ρ h w) (hx:VR ρ h w x u) (hK:Znc x h K):Gives P ρ h w (Instr.entry u) K:=by
 unfold Znc at hK
 split at hK
 ·rename_i b
  split at hK
  ·rename_i mb since seen c0 hb
   split at hK
   ·rename_i d es bs clock hm
    obtain ⟨hlt,hbase,hit⟩:=hR.obj b _ hb
    obtain ⟨C,hc,hs,hbs,hl,hes⟩:=hR.obj mb _ hm
    have hx0:u = .pointer (some ⟨(ρ b).blk,0,none⟩):=by cases hx;simp[hbase]
    subst hx0
    obtain ⟨pre,s,i,hi,rfl,hbi,rfl,hK⟩:=hK
    have hiC:i < C.size:=by rw[hl];exact hi
    obtain ⟨k1,k2,k3⟩:=hes i hi
    have hborn:(C.getD i default).born = s:=by
     rw[hbs,List.getElem?_map,List.getElem?_eq_getElem (by simpa using hiC)] at hbi
     simp only[Option.map_some,Option.some.injEq] at hbi
     simp[Array.getD,hiC];simpa using hbi
    have hmem:C.getD i default∈C.toList:=by simp[Array.getD,hiC]
    have hrun:=run_entry_at (P:=P) w (ρ b).blk (ρ mb).blk since pre.toArray C c0 (C.getD i default) (by
     rw[hborn]
     have:(pre++[s]).toArray = pre.toArray.push s:=by simp
     rw[←this];exact hit) hc hmem ((MapKept.stamped_iff C c0).1 hs).2.1
    refine Gives.same hR hrun (VR.tupv2 k3) ?_
    rw[k1];exact hK
   ·exact hK.elim
  ·exact hK.elim
 ·exact hK.elim
end Go.Proofs.YtogaiomakhapmaaGreat.AL
namespace Go.Proofs.YtogaiomakhapmaaGreat.AL
open Go
variable {G:Rnd} {ρ ρ':Env} {h h':Za} {w w':World} {P:Program}
theorem VR.pick {c:Bool} {x y:AVal} {u v:Value} (hx:VR ρ h w x u) (hy:c = false→VR ρ h w y v):VR ρ h w (if c then x else y) (if c then u else v):=by
 cases c
 ·exact hy rfl
 ·exact hx
def evs (a:List AVal) (xs:Array Operand):List AVal:=xs.toList.map (Ze a)
theorem AR.evs {a:List AVal} {ca:Act} (ha:AR G ρ h w a ca) (xs:Array Operand):VRs ρ h w (evs a xs) (xs.map ca.eval):=by
 refine ⟨by simp[AL.evs],fun i hi=>?_⟩
 have h1:i < xs.size:=by simpa[AL.evs] using hi
 have h2:i < (xs.map ca.eval).size:=by simpa using h1
 simp only[AL.evs,List.getElem_map,Array.getElem_toList,Array.getD,h2,dif_pos]
 show VR ρ h w _ ((xs.map ca.eval)[i])
 simp only[Array.getElem_map]
 exact ha.eval _
def Zhb (a:List AVal) (ps:Array (Nat×Operand)):List (Nat×AVal):=ps.toList.map fun p=>(p.1,Ze a p.2)
theorem AR.parts {a:List AVal} {ca:Act} (ha:AR G ρ h w a ca) (ps:Array (Nat×Operand)):Zlj ρ h w (Zhb a ps) (ps.map fun (i,x)=>(i,ca.eval x)).toList:=by
 obtain ⟨l⟩:=ps
 simp only[Zhb,List.map_toArray]
 induction l with
 |nil=>trivial
 |cons p l ih=>exact ⟨rfl,ha.eval _,ih⟩
def ZdP (P:Program) (sT:TypeId):Prop:=∀ e k z,Z3 P sT = some e→Zx P e = some k→Z5 P e = some z→∀ v,z = litA v→v.cells.size = k
def Ztw:AVal→Value
 | .lit v=>v
 | .agg vs=>.agg ((vs.map fun | .lit v=>v |_=>undef).toArray)
 |_=>undef
theorem Ztv (v:Value):Ztw (litA v) = v:=by
 cases v with
 |agg cs=>
  obtain ⟨l⟩:=cs
  simp only[litA,Ztw,List.map_map]
  congr 2
  induction l with
  |nil=>rfl
  |cons x l ih=>simp only[List.map_cons,Function.comp];rw[ih]
 |_=>rfl
theorem Z2r {u v:Value} (h:litA u = litA v):u = v:=by rw[←Ztv u,←Ztv v,h]
def Zs3 (P:Program) (t:TypeId):Bool:=match Z3 P t with
 |none=>true
 |some e=>match P.info? e with
  |none=>true
  |some i=>match i.zero with
   |none=>true
   |some v=>v.cells.size == i.size
theorem Zdz {t:TypeId} (h:Zs3 P t = true):ZdP P t:=by
 intro e k z h1 h2 h3 v h4
 unfold Zs3 at h
 rw[h1] at h
 unfold Zx at h2
 unfold Z5 at h3
 cases hi:P.info? e with
 |none=>rw[hi] at h2;simp at h2
 |some i=>
  simp only[hi] at h h2 h3
  cases hz:i.zero with
  |none=>simp[hz] at h3
  |some u=>
   simp[hz] at h h3 h2
   obtain rfl:u = v:=Z2r (h3.trans h4)
   rw[h,h2]
def ZmW (P:Program) (t:TypeId) (x:AVal) (h:Za) (K:AVal→Za→Prop):Prop:=match x with
 | .map b=>ZmV P t (.map b) h K
 |x=>Zkq P t x h K
theorem Z4L {t:TypeId} {x:AVal} {u:Value} {K:AVal→Za→Prop} (hR:Rel ρ h w) (hx:VR ρ h w x u) (hK:ZmW P t x h K):Gives P ρ h w (Instr.range t u) K:=by
 unfold ZmW at hK
 split at hK
 ·exact Z4N hR hx hK
 ·exact Z4M hR hx hK
def AOp (P:Program) (o:Op) (ty:TypeId) (a:List AVal) (h:Za) (K:AVal→Za→Prop):Prop:=
 match o with
 | .move x | .assign x=>K (Ze a x) h
 | .pick c x y=>match Ze a c with
   | .lit (.bool b)=>K (if b then Ze a x else Ze a y) h
   |_=>False
 | .alloc t=>Zk9 P t h K
 | .box t x=>Zk7 t (Ze a x) h K
 | .build t ps=>Zk6 P t (Zhb a ps) fun v=>K v h
 | .buildSlice t len ps=>Zk5 P t len (Zhb a ps) h K
 | .load t x=>Zir P t h (Ze a x) fun v=>K v h
 | .store t p x=>Zgm P t h (Ze a p) (Ze a x) fun h'=>K .any h'
 | .nilCheck x=>match Ze a x with
   | .ptr b o=>K (.ptr b o) h
   | .rop cs=>K (.rop cs) h
   | .fn (.func f) vs ws=>K (.fn (.func f) vs ws) h
   | .fn (.yield f) vs ws=>K (.fn (.yield f) vs ws) h
   |_=>False
 | .binOp op t x y _=>Zee P op t x y (Ze a x) (Ze a y) fun v=>K v h
 | .unOp op _ x=>aUn op (Ze a x) fun v=>K v h
 | .convert s d x=>Zhh P s d (Ze a x) h K
 | .makeInterface t x=>Zna P t (Ze a x) fun v=>K v h
 | .makeFunc f xs ys=>K (.fn f (evs a xs) (evs a ys)) h
 | .makeSlice t l c=>Zku P t (Ze a l) (Ze a c) h K
 | .slice t x lo hi mx=>Zkp P t h (Ze a x) (lo.map (Ze a)) (hi.map (Ze a)) (mx.map (Ze a)) fun v=>K v h
 | .fieldAddr t x i=>Zk1 P t (Ze a x) i fun v=>K v h
 | .field t x i=>Zk0 P t (Ze a x) i fun v=>K v h
 | .indexAddr t x i=>Zky P t (Ze a x) (Ze a i) fun v=>K v h
 | .index t x i=>Zkz P t (Ze a x) (Ze a i) fun v=>K v h
 | .extract x i=>Zgo (Ze a x) i fun v=>K v h
 | .typeAssert x _ t ok=>Znd P (Ze a x) t ok fun v=>K v h
 | .makeMap t none=>ZmZ P t h K
 | .lookup t x k ok=>Zkv P t h (Ze a x) (Ze a k) ok fun v=>K v h
 | .mapUpdate t m k x=>Ziq P t h (Ze a m) (Ze a k) (Ze a x) fun h'=>K .any h'
 | .insert t m k x=>Ziq P t h (Ze a m) (Ze a k) (Ze a x) fun h'=>K .any h'
 | .range t x=>ZmW P t (Ze a x) h K
 | .next it true=>Zks (Ze a it) h K
 | .next it false=>ZmY (Ze a it) h K
 | .entry it=>Znc (Ze a it) h K
 | .call { callee:=.builtin b,args,argTypes}=>match b,args.toList,argTypes.toList with
   | .append,[s,x],[sT,xT]=>ZdP P sT∧Zk8 P sT xT h (Ze a s) (Ze a x) K
   | .copy,[d,x],[dT,xT]=>Zk4 P dT h (Ze a d) (Ze a x) K
   | .len,[x],[t]=>match P.underlying t with
     |some (.map _ _)=>Zkt h (Ze a x) fun v=>K v h
     |_=>Zkw P t (Ze a x) fun v=>K v h
   | .delete,[m,k],[mt,_]=>Zk3 P mt h (Ze a m) (Ze a k) K
   | .max,_,_=>Zgn Zs (evs a args) fun v=>K v h
   | .min,_,_=>Zgn ZbB (evs a args) fun v=>K v h
   |_,_,_=>False
 |_=>False
def Did (P:Program) (ρ:Env) (h:Za) (w:World) (s:Sem Next) (K:AVal→Za→Prop):Prop:=
 ∃ ρ' h' w' v u,(s.run P w = .ok (.value u) w'∨(s.run P w = .ok .skip w'∧u = undef))∧Evo ρ h w ρ' h' w'∧Rel ρ' h' w'∧VR ρ' h' w' v u∧K v h'
theorem Gives.did {s:Sem Value} {K:AVal→Za→Prop} (hg:Gives P ρ h w s K):Did P ρ h w (do pure (.value (←s))) K:=by
 obtain ⟨ρ',h',w',v,u,h1,h2⟩:=hg
 exact ⟨ρ',h',w',v,u,.inl (by simp[h1]),h2⟩
theorem Gives.mono {s:Sem Value} {K K':AVal→Za→Prop} (hg:Gives P ρ h w s K) (hK:∀ v h',K v h'→K' v h'):Gives P ρ h w s K':=by
 obtain ⟨ρ',h',w',v,u,h1,h2,h3,h4,h5⟩:=hg
 exact ⟨ρ',h',w',v,u,h1,h2,h3,h4,hK _ _ h5⟩
theorem Gives.did' {s:Sem Value} {K:AVal→Za→Prop} (hg:Gives P ρ h w s fun v h'=>K v h∧h' = h):Did P ρ h w (do pure (.value (←s))) K:=
 (hg.mono (by rintro v h' ⟨hk,rfl⟩;exact hk)).did
theorem VRo.of {a:List AVal} {ca:Act} (ha:AR G ρ h w a ca) (x:Option Operand):VRo ρ h w (x.map (Ze a)) (x.map ca.eval):=by
 cases x with
 |none=>trivial
 |some x=>exact ha.eval x
theorem ZhD {α:Type} {xs:Array α} {x y:α} (h:xs.toList = [x,y]):xs = #[x,y]:=by
 obtain ⟨l⟩:=xs;simp at h;rw[h]
theorem Zux {α:Type} {xs:Array α} {x:α} (h:xs.toList = [x]):xs = #[x]:=by
 obtain ⟨l⟩:=xs;simp at h;rw[h]
theorem Z5q {b:Builtin} {args:Array Operand} {argTypes:Array TypeId} {ty:TypeId} {a:List AVal} {ca:Act} {K:AVal→Za→Prop} (hR:Rel ρ h w) (ha:AR G ρ h w a ca)
  (hK:AOp P (.call { callee:=.builtin b,args,argTypes}) ty a h K):
  Did P ρ h w (do let d←resolve ca.eval { callee:=.builtin b,args,argTypes} ty;invoke d.target d.args) K:=by
 simp only[AOp] at hK
 simp only[resolve,Sem.run_bind,invoke,pure_bind]
 split at hK
 ·rename_i s x sT xT h1 h2
  obtain rfl:=ZhD h1
  obtain rfl:=ZhD h2
  obtain ⟨hz,hK⟩:=hK
  simp only[List.map_toArray,List.map_cons,List.map_nil,builtin]
  exact (Z5x hR (ha.eval _) (ha.eval _) hK hz).did
 ·rename_i d x dT xT h1 h2
  obtain rfl:=ZhD h1
  obtain rfl:=ZhD h2
  simp only[List.map_toArray,List.map_cons,List.map_nil,builtin]
  exact (Z5o hR (ha.eval _) (ha.eval _) hK).did
 ·rename_i x t h1 h2
  obtain rfl:=Zux h1
  obtain rfl:=Zux h2
  simp only[List.map_toArray,List.map_cons,List.map_nil,builtin]
  split at hK
  ·rename_i kt et hu
   obtain ⟨v,r,h3,h4,h5⟩:=Z4Y (P:=P) (ty:=ty) hu hR (ha.eval _) hK
   exact ⟨ρ,h,w,v,r,.inl (by rw[Sem.run_bind,h3];rfl),.refl ..,hR,h4,h5⟩
  ·exact (Z5c hR (ha.eval _) hK).did'
 ·rename_i m k mt kt h1 h2
  obtain rfl:=ZhD h1
  obtain rfl:=ZhD h2
  simp only[List.map_toArray,List.map_cons,List.map_nil,builtin]
  exact (Z5n hR (ha.eval _) (ha.eval _) hK).did
 ·exact (Z4X hR (ha.evs args) hK).did'
 ·exact (Z4W hR (ha.evs args) hK).did'
 ·exact hK.elim
theorem Zhg {o:Oper} {a:List AVal} {ca:Act} {K:AVal→Za→Prop} (hR:Rel ρ h w) (ha:AR G ρ h w a ca) (hK:AOp P o.op o.type a h K):Did P ρ h w (execOp ca.eval o) K:=by
 obtain ⟨dst,op,ty,pos,after,guard⟩:=o
 unfold execOp
 dsimp only at hK⊢
 cases op with
 |move x=>exact ⟨ρ,h,w,_,_,.inl rfl,.refl ..,hR,ha.eval _,hK⟩
 |assign x=>exact ⟨ρ,h,w,_,_,.inl rfl,.refl ..,hR,ha.eval _,hK⟩
 |pick c x y=>
  simp only[AOp] at hK
  split at hK
  ·rename_i b hb
   have hc:=ha.eval c
   rw[hb] at hc
   generalize hu:ca.eval c = u at hc
   cases hc
   refine ⟨ρ,h,w,_,_,.inl ?_,.refl ..,hR,VR.pick (c:=b) (ha.eval x) (fun _=>ha.eval y),hK⟩
   simp only[hu,asBool,Sem.run_bind,Sem.run_pure,Result.andThen_ok]
  ·exact hK.elim
 |alloc t=>simp only[AOp] at hK;exact (Z5y hR hK).did
 |box t x=>simp only[AOp] at hK;exact (Z5t hR (ha.eval _) hK).did
 |build t ps=>simp only[AOp] at hK;exact (Z5r hR (ha.parts ps) hK).did'
 |buildSlice t len ps=>simp only[AOp] at hK;exact (Z5s hR (ha.parts ps) hK).did
 |load t x=>
  obtain ⟨x,y,h1,h2,h3⟩:=ZvX hR (ha.eval _) hK
  exact ⟨ρ,h,w,x,y,.inl (by simp[h1]),.refl ..,hR,h2,h3⟩
 |store t p x=>
  obtain ⟨w',h',h1,h2,h3,h4⟩:=Z4H hR (ha.eval _) (ha.eval _) hK
  exact ⟨ρ,h',w',.any,undef,.inr ⟨by simp[h1],rfl⟩,h2,h3,.any _,h4⟩
 |nilCheck x=>
  have hx:=ha.eval x
  simp only[AOp] at hK
  generalize hu:ca.eval x = u at hx
  split at hK
  ·rename_i hb
   rw[hb] at hx
   have hx0:=hx
   cases hx
   exact ⟨ρ,h,w,_,_,.inl (by simp only[hu];rfl),.refl ..,hR,hx0,hK⟩
  ·rename_i hb
   rw[hb] at hx
   have hx0:=hx
   cases hx
   exact ⟨ρ,h,w,_,_,.inl (by simp only[hu];rfl),.refl ..,hR,hx0,hK⟩
  ·rename_i hb
   rw[hb] at hx
   have hx0:=hx
   cases hx
   exact ⟨ρ,h,w,_,_,.inl (by simp only[hu];rfl),.refl ..,hR,hx0,hK⟩
  ·rename_i hb
   rw[hb] at hx
   have hx0:=hx
   cases hx
   exact ⟨ρ,h,w,_,_,.inl (by simp only[hu];rfl),.refl ..,hR,hx0,hK⟩
  ·exact hK.elim
 |binOp op xt x y yt=>
  simp only[AOp] at hK
  obtain ⟨z,r,h1,h2,h3⟩:=Z5u (P:=P) (ha.eval _) (ha.eval _) hK
  refine ⟨ρ,h,w,z,r,.inl ?_,.refl ..,hR,h2,h3⟩
  unfold ZcR at h1
  rw[Sem.run_bind,h1];rfl
 |unOp op xt x=>simp only[AOp] at hK;exact (Z4F hR (ha.eval _) hK).did'
 |convert s d x=>simp only[AOp] at hK;exact (Z5p hR (ha.eval _) hK).did
 |makeInterface t x=>simp only[AOp] at hK;exact (Z5g hR (ha.eval _) hK).did'
 |makeFunc f xs ys=>
  have e1:=ha.evs xs
  have e2:=ha.evs ys
  exact ⟨ρ,h,w,_,_,.inl rfl,.refl ..,hR,.fn _ _ _ _ _ e1.1 e2.1 e1.2 e2.2,hK⟩
 |makeSlice t l c=>simp only[AOp] at hK;exact (Z4Z hR (ha.eval _) (ha.eval _) hK).did
 |slice t x lo hi mx=>simp only[AOp] at hK;exact (Z4I hR (ha.eval _) (VRo.of ha _) (VRo.of ha _) (VRo.of ha _) hK).did'
 |fieldAddr t x i=>simp only[AOp] at hK;exact (Z5h hR (ha.eval _) hK).did'
 |field t x i=>simp only[AOp] at hK;exact (Z5i hR (ha.eval _) hK).did'
 |indexAddr t x i=>simp only[AOp] at hK;exact (Z5f hR (ha.eval _) (ha.eval _) hK).did'
 |index t x i=>simp only[AOp] at hK;exact (Z5e hR (ha.eval _) (ha.eval _) hK).did'
 |extract x i=>simp only[AOp] at hK;exact (Z5j hR (ha.eval _) hK).did'
 |typeAssert x xt t ok=>simp only[AOp] at hK;exact (Z5w hR (ha.eval _) hK).did'
 |makeMap t r=>
  cases r with
  |none=>simp only[AOp] at hK;exact (Z5a hR hK).did
  |some r=>exact hK.elim
 |lookup t x k ok=>
  simp only[AOp] at hK
  obtain ⟨v,r,h1,h2,h3⟩:=Z5b (P:=P) hR (ha.eval _) (ha.eval _) hK
  exact ⟨ρ,h,w,v,r,.inl (by rw[Sem.run_bind,h1];rfl),.refl ..,hR,h2,h3⟩
 |mapUpdate t m k x=>
  simp only[AOp] at hK
  obtain ⟨w',h',h1,h2,h3,h4⟩:=ZvW (P:=P) hR (ha.eval _) (ha.eval _) (ha.eval _) hK
  exact ⟨ρ,h',w',.any,undef,.inr ⟨by simp[h1],rfl⟩,h2,h3,.any _,h4⟩
 |insert t m k x=>
  simp only[AOp] at hK
  obtain ⟨w',h',h1,h2,h3,h4⟩:=ZvW (P:=P) hR (ha.eval _) (ha.eval _) (ha.eval _) hK
  exact ⟨ρ,h',w',.any,undef,.inr ⟨by simp[h1],rfl⟩,h2,h3,.any _,h4⟩
 |range t x=>simp only[AOp] at hK;exact (Z4L hR (ha.eval _) hK).did
 |next it isS=>
  cases isS with
  |true=>simp only[AOp] at hK;exact (Z4U hR (ha.eval _) hK).did
  |false=>simp only[AOp] at hK;exact (Z4V hR (ha.eval _) hK).did
 |entry it=>simp only[AOp] at hK;exact (Z5m hR (ha.eval _) hK).did
 |call c=>
  obtain ⟨callee,args,argTypes⟩:=c
  cases callee with
  |builtin b=>exact Z5q hR ha hK
  |value f=>exact hK.elim
  |invoke r m=>exact hK.elim
 |_=>exact hK.elim
end Go.Proofs.YtogaiomakhapmaaGreat.AL
namespace Go.Proofs.YtogaiomakhapmaaGreat.AL
open Go
variable {G:Rnd} {ρ ρ':Env} {h h':Za} {w w':World} {P:Program}
def Zdc (ops:Array Oper) (o:Oper) (a:List AVal) (yes no:Prop):Prop:=
 match o.guard with
 |none=>yes
 |some (j,want)=>match (ops[j]?).bind (·.dst) with
  |some d=>match Z2 a d with
   | .lit (.bool b)=>(b = want→yes)∧(b = !want→no)
   |_=>False
  |none=>False
def Zd (P:Program) (i:FuncId):Bool:=match P.funcs[i]? with
 |some fn=>!(fn.name == "runtime.NumGoroutine") && fn.body.isSome
 |none=>false
def AYield (P:Program) (b:Nat) (args:List AVal) (h:Za) (R:AEnd→Za→Prop):Prop:=
 ∀ (ρ:Env) (w:World) (us:Array Value),Rel ρ h w→VRs ρ h w args us→
   YieldAt (FW none) 0 P (ρ b).blk us w fun e w'=>∃ ρ' h' e',Evo ρ h w ρ' h' w'∧Rel ρ' h' w'∧EndR ρ' h' w' e' e∧R e' h'
theorem AYield.mono {b:Nat} {args:List AVal} {R R':AEnd→Za→Prop} (hc:AYield P b args h R) (hr:∀ e h',R e h'→R' e h'):AYield P b args h R':=fun ρ w us hR hv=>by
 obtain ⟨fn,tmps,assign,body,h1,h2⟩:=hc ρ w us hR hv
 exact ⟨fn,tmps,assign,body,h1,h2.mono fun _ _ ⟨ρ',h',e',g1,g2,g3,g4⟩=>⟨ρ',h',e',g1,g2,g3,hr _ _ g4⟩⟩
def Zg5 (P:Program) (f:AVal) (xs:List AVal) (a:List AVal) (dst:Option Nat) (h:Za) (K:List AVal→Za→Prop) (Q:AQ):Prop:=
 match f with
 | .fn (.func i) vs ws=>Zd P i = true∧ACalls P i (vs++xs++ws) h fun e h'=>match e with
   | .ret v=>K (Zh a dst v) h'
   | .panic c=>Q (.panic c) a h'
 | .yld b=>AYield P b xs h fun e h'=>match e with
   | .ret v=>K (Zh a dst v) h'
   | .panic c=>Q (.panic c) a h'
 |_=>False
def ZcB (P:Program) (o:Oper) (a:List AVal) (h:Za) (K:List AVal→Za→Prop) (Q:AQ):Prop:=
 match o.op with
 | .call { callee:=.value f,args,argTypes}=>Zg5 P (Ze a f) (evs a args) a o.dst h K Q
 |op=>AOp P op o.type a h fun v h'=>K (Zh a o.dst v) h'
def Zdy (P:Program) (ops:Array Oper) (Q:AQ):List Oper→List AVal→Za→Prop
 | [],a,h=>Q .normal a h
 |o :: rest,a,h=>Zdc ops o a (ZcB P o a h (Zdy P ops Q rest) Q) (Zdy P ops Q rest (Zh a o.dst .any) h)
def Post (G:Rnd) (ρ:Env) (h:Za) (w:World) (Q:AQ) (e:Exit) (ca:Act) (w':World):Prop:=
 ∃ ρ' h' a',Evo ρ h w ρ' h' w'∧Rel ρ' h' w'∧AR G ρ' h' w' a' ca∧Q e a' h'
theorem Post.evo {Q:AQ} {e:Exit} {ca:Act} {w1 w2:World} (ev:Evo ρ h w ρ' h' w1) (hp:Post G ρ' h' w1 Q e ca w2):Post G ρ h w Q e ca w2:=by
 obtain ⟨ρ2,h2,a2,e2,r⟩:=hp
 exact ⟨ρ2,h2,a2,ev.trans e2,r⟩
theorem ZpR {ca:Act} {f:Operand} {args:Array Operand} {argTypes:Array TypeId} {ty:TypeId} {i:FuncId} {us xs:Array Value} (hf:ca.eval f = .func (.func i) us xs) (hc:Zd P i = true):
  (do let d←resolve ca.eval { callee:=.value f,args,argTypes} ty;invoke d.target d.args:Sem Next).run P w = .ok (.enter i (us++args.map ca.eval++xs)) w:=by
 unfold Zd at hc
 simp only[resolve,hf,Deferred.ofValue,Sem.run_bind,Sem.run_pure,Result.andThen_ok,invoke,callFunc,run_program]
 cases hfn:P.funcs[i]? with
 |none=>rw[hfn] at hc;simp at hc
 |some fn=>
  rw[hfn] at hc
  simp only[Bool.and_eq_true,Bool.not_eq_true'] at hc
  obtain ⟨h1,h2⟩:=hc
  have h3:fn.body.isNone = false:=by cases hb:fn.body<;>simp_all
  simp only[h1,h3,Bool.false_eq_true,if_false,Sem.run_pure]
theorem run_yield {ca:Act} {f:Operand} {args:Array Operand} {argTypes:Array TypeId} {ty:TypeId} {l:Nat} (hf:ca.eval f = .func (.yield l) #[] #[]):
  (do let d←resolve ca.eval { callee:=.value f,args,argTypes} ty;invoke d.target d.args:Sem Next).run P w = (Instr.yield l (args.map ca.eval)).run P w:=by
 simp only[resolve,hf,Deferred.ofValue,Sem.run_bind,Sem.run_pure,Result.andThen_ok,invoke,Array.empty_append]
theorem Ze0 {G:Rnd} {o:Oper} {ca:Act} {K:Act→World→Prop} {Q:Exit→Act→World→Prop} (hd:∀ c,o.op≠ .defer c) (h:o.uponIn (FW G.ro) 0 P ca K Q ((execOp ca.eval o).run P w)):o.wpIn (FW G.ro) 0 P ca w K Q:=
 ⟨fun _ _=>trivial,by rw[Oper.semAt_eq _ _ _ hd];exact h⟩
theorem ZmB {vs ws:List AVal} {us xs:Array Value} {a:List AVal} {ca:Act} (ha:AR G ρ h w a ca) (args:Array Operand) (h1:VRs ρ h w vs us) (h2:VRs ρ h w ws xs):
  VRs ρ h w (vs++evs a args++ws) (us++args.map ca.eval++xs):=(h1.append (ha.evs args)).append h2
theorem ZmX {o:Oper} {a:List AVal} {ca:Act} {K:List AVal→Za→Prop} {Q:AQ} {K':Act→World→Prop} {Q':Exit→Act→World→Prop} (hR:Rel ρ h w) (ha:AR G ρ h w a ca) (hK:ZcB P o a h K Q)
  (hk:∀ ρ' h' w' a' ca',Evo ρ h w ρ' h' w'→Rel ρ' h' w'→AR G ρ' h' w' a' ca'→K a' h'→K' ca' w')
  (hq:∀ c ρ' h' w' a' ca',Evo ρ h w ρ' h' w'→Rel ρ' h' w'→AR G ρ' h' w' a' ca'→Q (.panic c) a' h'→Q' (.panic c) ca' w'):o.wpIn (FW G.ro) 0 P ca w K' Q':=by
 unfold ZcB at hK
 split at hK
 ·rename_i f args argTypes hop
  unfold Zg5 at hK
  split at hK
  ·rename_i i vs ws hf
   obtain ⟨hc,hK⟩:=hK
   have hv:=ha.eval f
   rw[hf] at hv
   generalize hu:ca.eval f = u at hv
   cases hv with |fn _ _ _ us xs hl hl' hv hw=>
   have hrun:=ZpR (P:=P) (w:=w) (args:=args) (argTypes:=argTypes) (ty:=o.type) hu hc
   have hx:execOp ca.eval o = (do let d←resolve ca.eval { callee:=.value f,args,argTypes} o.type;invoke d.target d.args):=by unfold execOp;rw[hop]
   refine Ze0 (fun c hc=>by rw[hop] at hc;cases hc) ?_
   rw[hx,hrun]
   rw[Oper.uponIn_enter]
   refine ⟨fun h=>(by simp at h),(ZmL (hK ρ w _ hR (ZmB ha args ⟨hl,hv⟩ ⟨hl',hw⟩))).mono ?_⟩
   rintro e w' ⟨ρ',h',e',ev,hR',hE,hr⟩
   cases hE with
   |ret v u hvu=>exact hk _ _ _ _ _ ev hR' ((ha.evo ev).put hvu o.dst) hr
   |panic c=>exact hq _ _ _ _ _ _ ev hR' (ha.evo ev) hr
  ·rename_i b hf
   have hv:=ha.eval f
   rw[hf] at hv
   generalize hu:ca.eval f = u at hv
   cases hv with |yld _ hb=>
   have hrun:=run_yield (P:=P) (w:=w) (args:=args) (argTypes:=argTypes) (ty:=o.type) hu
   have hx:execOp ca.eval o = (do let d←resolve ca.eval { callee:=.value f,args,argTypes} o.type;invoke d.target d.args):=by unfold execOp;rw[hop]
   refine Ze0 (fun c hc=>by rw[hop] at hc;cases hc) ?_
   obtain ⟨fn,tmps,assign,body,h1,h2⟩:=hK ρ w _ hR (ha.evs args)
   rw[hx,hrun,h1,Oper.uponIn_round]
   refine ⟨fun h=>(by simp at h),RoundIn.mono (F:=FW G.ro) h2 ?_⟩
   rintro e w' ⟨ρ',h',e',ev,hR',hE,hr⟩
   cases hE with
   |ret v u hvu=>exact hk _ _ _ _ _ ev hR' ((ha.evo ev).put hvu o.dst) hr
   |panic c=>exact hq _ _ _ _ _ _ ev hR' (ha.evo ev) hr
  ·exact hK.elim
 ·have hnd:∀ c,o.op≠ .defer c:=fun c hc=>by rw[hc] at hK;exact hK
  obtain ⟨ρ',h',w',v,u,h1,ev,hR',hvu,hr⟩:=Zhg hR ha hK
  refine Ze0 hnd ?_
  rcases h1 with h1 | ⟨h1,rfl⟩
  ·rw[h1,Oper.uponIn_value]
   exact hk _ _ _ _ _ ev hR' ((ha.evo ev).put hvu o.dst) hr
  ·rw[h1,Oper.uponIn_skip]
   exact hk _ _ _ _ _ ev hR' ((ha.evo ev).put hvu o.dst) hr
theorem Zs4 {ops:Array Oper} {a:List AVal} {ca:Act} {j d:Nat} {b:Bool} (ha:AR G ρ h w a ca) (hd:(ops[j]?).bind (·.dst) = some d) (hb:Z2 a d = .lit (.bool b)):yielded ops ca.tmps j = some b:=by
 unfold Z2 at hb
 have hlt:d < a.length:=by
  rcases Nat.lt_or_ge d a.length with h1 |h1
  ·exact h1
  ·simp[List.getD,List.getElem?_eq_none h1] at hb
 have hs:=ha.slot d hlt
 have hb':a[d] = .lit (.bool b):=by simpa[List.getD,List.getElem?_eq_getElem hlt] using hb
 rw[hb'] at hs
 have h2:d < ca.tmps.size:=by rw[←ha.size];exact hlt
 simp only[Array.getD,h2,dif_pos] at hs
 have h3:ca.tmps[d] = .bool b:=by
  have h4:ca.tmps.getInternal d h2 = ca.tmps[d]:=rfl
  rw[h4] at hs
  generalize ca.tmps[d] = z at hs
  cases hs;rfl
 simp only[yielded,hd,Option.bind_some,Array.getElem?_eq_getElem h2,h3]
theorem Z4O {ops:Array Oper} {Q:AQ} {ρ0:Env} {h0:Za} {w0:World}:∀ (n k:Nat) (a:List AVal) (h:Za) (ρ:Env) (w:World) (ca:Act),ops.size - k = n→Evo ρ0 h0 w0 ρ h w→Rel ρ h w→AR G ρ h w a ca→
  Zdy P ops Q (ops.toList.drop k) a h→wpOpsIn (FW G.ro) 0 P ops (Post G ρ0 h0 w0 Q) (List.range' k (ops.size - k)) ca w:=by
 intro n
 induction n with
 |zero=>
  intro k a h ρ w ca hn e0 hR ha hA
  have hd:ops.toList.drop k = []:=List.drop_eq_nil_of_le (by simp;omega)
  rw[hd] at hA
  rw[hn]
  exact ⟨ρ,h,a,e0,hR,ha,hA⟩
 |succ n ih=>
  intro k a h ρ w ca hn e0 hR ha hA
  have hk:k < ops.size:=by omega
  have hd:ops.toList.drop k = ops[k] :: ops.toList.drop (k + 1):=by
   rw[List.drop_eq_getElem_cons (by simpa using hk)];simp
  rw[hd] at hA
  have hr:List.range' k (ops.size - k) = k :: List.range' (k + 1) (ops.size - (k + 1)):=by
   have:ops.size - k = (ops.size - (k + 1)) + 1:=by omega
   rw[this,List.range'_succ]
  rw[hr]
  simp only[wpOpsIn,Array.getElem?_eq_getElem hk]
  have yes:ZcB P ops[k] a h (Zdy P ops Q (ops.toList.drop (k + 1))) Q→ops[k].wpIn (FW G.ro) 0 P ca w (wpOpsIn (FW G.ro) 0 P ops (Post G ρ0 h0 w0 Q) (List.range' (k + 1) (ops.size - (k + 1)))) (Post G ρ0 h0 w0 Q):=fun hA=>
   ZmX hR ha hA (fun ρ' h' w' a' ca' ev hR' ha' hK=>ih (k + 1) a' h' ρ' w' ca' (by omega) (e0.trans ev) hR' ha' hK)
    (fun c ρ' h' w' a' ca' ev hR' ha' hq=>⟨ρ',h',a',e0.trans ev,hR',ha',hq⟩)
  have no:Zdy P ops Q (ops.toList.drop (k + 1)) (Zh a ops[k].dst .any) h→wpOpsIn (FW G.ro) 0 P ops (Post G ρ0 h0 w0 Q) (List.range' (k + 1) (ops.size - (k + 1))) (ca.put ops[k].dst undef) w:=fun hA=>
   ih (k + 1) _ h ρ w _ (by omega) e0 hR (ha.put (.any _) _) hA
  simp only[Zdy,Zdc] at hA
  split at hA
  ·rename_i hg
   have hw:Region.wanted ops[k] (yielded ops ca.tmps) = true:=by unfold Region.wanted;rw[hg]
   rw[if_pos hw]
   exact yes hA
  ·rename_i j want hg
   split at hA
   ·rename_i d hdst
    split at hA
    ·rename_i b hb
     have hy:=Zs4 ha hdst hb
     by_cases hbw:b = want
     ·have hw:Region.wanted ops[k] (yielded ops ca.tmps) = true:=by unfold Region.wanted;rw[hg];simp[hy,hbw]
      rw[if_pos hw]
      exact yes (hA.1 hbw)
     ·have hw:¬Region.wanted ops[k] (yielded ops ca.tmps) = true:=by unfold Region.wanted;rw[hg];simp[hy,hbw]
      rw[if_neg hw]
      refine ⟨fun _ _=>trivial,?_⟩;exact no (hA.2 (by cases b<;>cases want<;>simp_all))
    ·exact hA.elim
   ·exact hA.elim
theorem Zhf {id:Nat} {ops:Array Oper} {Q:AQ} {a:List AVal} (hA:Zdy P ops Q ops.toList a h):AWp P (.region id ops false) Q a h:=by
 intro G ρ w ca hR ha
 refine wpIn_region ?_
 have:=Z4O (G:=G) (P:=P) ops.size 0 a h ρ w ca rfl (.refl ρ h w) hR ha (by simpa using hA)
 rw[List.range_eq_range']
 rw[Nat.sub_zero] at this
 exact this
theorem ZmR {c:Operand} {x y:Code} {Q:AQ} {a:List AVal} {b:Bool} (hc:Ze a c = .lit (.bool b)) (ht:b = true→AWp P x Q a h) (hf:b = false→AWp P y Q a h):AWp P (.cond c x y) Q a h:=by
 intro G ρ w ca hR ha
 have hv:=ha.eval c
 rw[hc] at hv
 generalize hu:ca.eval c = u at hv
 cases hv
 exact wpIn_cond_split hu (fun h1=>ht h1 G ρ w ca hR ha) (fun h1=>hf h1 G ρ w ca hR ha)
def aResults (P:Program) (fn:Func) (a:List AVal) (h:Za) (K:AVal→Prop):Prop:=
 go fn.results.toList [] K
where
 go:List ResultVar→List AVal→(AVal→Prop)→Prop
  | [],[v],K=>K v
  | [],vs,K=>K (.tup vs)
  | .tmp t :: rs,vs,K=>go rs (vs++[Z2 a t]) K
  | .cell c t :: rs,vs,K=>Zir P t h (Z2 a c) fun v=>go rs (vs++[v]) K
def Zj9 (ca:Act):ResultVar→Sem Value
 | .tmp t=>pure (ca.tmps.getD t undef)
 | .cell a t=>do loadVar t (←asAddr (ca.tmps.getD a undef))
theorem Z2q {t:TypeId} {u y:Value} (h:(Instr.loadAt t u).run P w = .ok y w) (hu:∃ x,u = .pointer (some x)):(do loadVar t (←asAddr u):Sem Value).run P w = .ok y w:=by
 obtain ⟨x,rfl⟩:=hu
 simpa[Instr.loadAt,Instr.sureAddr,asAddr] using h
theorem Z4K {a:List AVal} {ca:Act} (hR:Rel ρ h w) (ha:AR G ρ h w a ca):∀ (rs:List ResultVar) (vs:List AVal) (us:List Value) (K:AVal→Prop),VRs ρ h w vs us.toArray→aResults.go P a h rs vs K→
  ∃ (xs:List Value) (v:AVal),(rs.mapM (Zj9 ca)).run P w = .ok xs w∧VR ρ h w v (if hh:(us++xs).toArray.size = 1 then (us++xs).toArray[0] else .tuple (us++xs).toArray)∧K v:=by
 intro rs
 induction rs with
 |nil=>
  intro vs us K hv hg
  refine ⟨[],?_⟩
  simp only[List.append_nil]
  match vs,hg with
  | [],hg=>
    have h0:us = []:=List.eq_nil_of_length_eq_zero (by simpa using hv.1.symm)
    subst h0
    exact ⟨_,by simp,by simpa using VR.tup [] #[] rfl (fun i hi=>by simp at hi),hg⟩
  | [v],hg=>
    obtain ⟨u,hu,h1⟩:=hv.single
    have:us = [u]:=by simpa using hu
    subst this
    exact ⟨v,by simp,by simpa using h1,hg⟩
  |v1 :: v2 :: vs,hg=>
   have hl:=hv.1
   refine ⟨_,by simp,?_,hg⟩
   rw[dif_neg (by rw[←hl];simp)]
   exact .tup _ _ hv.1 hv.2
 |cons r rs ih=>
  intro vs us K hv hg
  cases r with
  |tmp t=>
   have hx:VR ρ h w (Z2 a t) (ca.tmps.getD t undef):=ha.eval (.tmp t)
   have hv2:VRs ρ h w (vs++[Z2 a t]) (us++[ca.tmps.getD t undef]).toArray:=by
    have:=hv.append (VRs.one hx)
    simpa using this
   obtain ⟨xs,v,h1,h2,h3⟩:=ih _ _ K hv2 hg
   refine ⟨ca.tmps.getD t undef :: xs,v,?_,by simpa using h2,h3⟩
   simp only[List.mapM_cons,Zj9,Sem.run_bind,Sem.run_pure,Result.andThen_ok,h1]
  |cell c t=>
   simp only[aResults.go] at hg
   have hx:VR ρ h w (Z2 a c) (ca.tmps.getD c undef):=ha.eval (.tmp c)
   obtain ⟨x,y,g1,g2,g3⟩:=ZvX (P:=P) hR hx hg
   have hv2:VRs ρ h w (vs++[x]) (us++[y]).toArray:=by
    have:=hv.append (VRs.one g2)
    simpa using this
   obtain ⟨xs,v,h1,h2,h3⟩:=ih _ _ K hv2 g3
   refine ⟨y :: xs,v,?_,by simpa using h2,h3⟩
   have hp:∃ x,ca.tmps.getD c undef = .pointer (some x):=by
    generalize ca.tmps.getD c undef = u at hx g1
    revert g1
    cases u with
    |pointer p=>
     cases p with
     |some p=>intro _;exact ⟨p,rfl⟩
     |none=>intro g1;simp[Instr.loadAt,Instr.sureAddr] at g1
    |_=>intro g1;simp[Instr.loadAt,Instr.sureAddr] at g1
   have hrun:=Z2q g1 hp
   simp only[List.mapM_cons,Zj9,Sem.run_bind,Sem.run_pure,Result.andThen_ok] at hrun⊢
   rw[hrun]
   simp only[Result.andThen_ok,h1]
theorem Z4J {fn:Func} {a:List AVal} {ca:Act} {K:AVal→Prop} (hR:Rel ρ h w) (ha:AR G ρ h w a ca) (hK:aResults P fn a h K):
  ∃ u v,(results fn ca.tmps).run P w = .ok u w∧VR ρ h w v u∧K v:=by
 obtain ⟨xs,v,h1,h2,h3⟩:=Z4K (P:=P) hR ha fn.results.toList [] [] K ⟨rfl,fun i hi=>by simp at hi⟩ hK
 refine ⟨_,v,?_,h2,h3⟩
 unfold results
 rw[Sem.run_bind,Array.mapM_eq_mapM_toList]
 have key:∀ f:ResultVar→Sem Value,(∀ r,f r = Zj9 ca r)→(List.mapM f fn.results.toList).run P w = .ok xs w:=fun f hf=>by rw[show f = Zj9 ca from funext hf];exact h1
 rw[Sem.run_map,key _ (fun r=>by cases r<;>rfl)]
 simp only[Result.andThen_ok,List.nil_append]
 split<;>rfl
def ABody (P:Program) (fn:Func) (h0:Za) (R:AEnd→Za→Prop):AQ
 | .normal,a,h | .ret,a,h=>aResults P fn a h fun v=>AEnds h0 h (.ret v) R
 | .panic c,a,h=>AEnds h0 h (.panic c) R
 |_,_,_=>False
where
 AEnds (h0 h:Za) (e:AEnd) (R:AEnd→Za→Prop):Prop:=
  ∃ h' e',h0.length≤h'.length∧R e' h'∧∀ ρ w u,Rel ρ h w→EndR ρ h w e u→Fewer h' h∧Rel ρ h' w∧EndR ρ h' w e' u
structure Shut (lo:Nat) (ρ:Env) (h:Za) (w w':World):Prop where
 same:Same w w'
 size:w'.heap.size = w.heap.size
 blk:∀ c,w'.heap[c]? = w.heap[c]?∨(lo≤c∧¬Zb5 ρ h c∧∃ x y,w.heap[c]? = some (.deferred x)∧w'.heap[c]? = some (.deferred y))
theorem Shut.refl (lo:Nat) (w:World):Shut lo ρ h w w:=⟨.refl _,rfl,fun _=>.inl rfl⟩
theorem Shut.trans {lo:Nat} {a b c:World} (x:Shut lo ρ h a b) (y:Shut lo ρ h b c):Shut lo ρ h a c:=by
 refine ⟨x.same.trans y.same,y.size.trans x.size,fun k=>?_⟩
 rcases x.blk k with h1 | ⟨h1,h2,u,v,h3,h4⟩<;>rcases y.blk k with g1 | ⟨g1,g2,u',v',g3,g4⟩
 ·exact .inl (g1.trans h1)
 ·exact .inr ⟨g1,g2,u',v',h1.symm.trans g3,g4⟩
 ·exact .inr ⟨h1,h2,u,v,h3,g1.trans h4⟩
 ·exact .inr ⟨h1,h2,u,v',h3,g4⟩
theorem Shut.at {lo:Nat} (x:Shut lo ρ h w w') {c:Nat} {o:Obj} (hc:w.heap[c]? = some o) (ho:∀ x,o≠ .deferred x):w'.heap[c]? = some o:=by
 rcases x.blk c with h1 | ⟨_,_,u,_,h3,_⟩
 ·exact h1.trans hc
 ·rw[hc] at h3;cases h3;exact absurd rfl (ho u)
theorem Shut.vr {lo:Nat} (x:Shut lo ρ h w w') {v:AVal} {u:Value} (hv:VR ρ h w v u):VR ρ h w' v u:=by
 induction hv with
 |any u=>exact .any u
 |lit u=>exact .lit u
 |ptr b off hb=>exact .ptr b off hb
 |sl k b off len cap hb hl hc hm=>exact .sl k b off len cap hb hl hc hm
 |rop cs c off C T fz hc hn hs _ ih=>exact .rop cs c off C T fz (x.at hc (by simp)) hn hs ih
 |slZ k b off o hb=>exact .slZ k b off o hb
 |rosZ cs hb a cap=>exact .rosZ cs hb a cap
 |ros cs c off len cap C T fz hl hc hn hs _ ih=>exact .ros cs c off len cap C T fz hl (x.at hc (by simp)) hn hs ih
 |agg vs us hl _ ih=>exact .agg vs us hl ih
 |tup vs us hl _ ih=>exact .tup vs us hl ih
 |fn f vs ws us xs hl hl' _ _ ih ih'=>exact .fn f vs ws us xs hl hl' ih ih'
 |ifc t v u _ ih=>exact .ifc t v u ih
 |map b hb=>exact .map b hb
 |yld b hb=>exact .yld b hb
theorem Shut.rel {lo:Nat} (x:Shut lo ρ h w w') (hR:Rel ρ h w):Rel ρ h w':=by
 refine ⟨fun g hm=>(let ⟨h1,C,T,fz,h2,h3⟩:=hR.glob g hm;⟨h1,C,T,fz,x.at h2 (by simp),h3⟩),fun b o hb=>?_,hR.inj⟩
 have ho:=hR.obj b o hb
 have own:o≠ .dead→w'.heap[(ρ b).blk]? = w.heap[(ρ b).blk]?:=fun hd=>by
  rcases x.blk (ρ b).blk with h1 | ⟨_,h2,_⟩
  ·exact h1
  ·exact absurd ⟨b,o,hb,hd,rfl⟩ h2
 cases o with
 |dead=>trivial
 |cells cs=>obtain ⟨C,T,fz,hc,h1,h2,h3,h4⟩:=ho;exact ⟨C,T,fz,(own (by simp)).trans hc,h1,h2,h3,fun i hi=>x.vr (h4 i hi)⟩
 |pred R=>obtain ⟨o',hc,hr⟩:=ho;exact ⟨o',(own (by simp)).trans hc,hr⟩
 |map d es=>obtain ⟨C,clock,hc,h1,h2,h3⟩:=ho;exact ⟨C,clock,(own (by simp)).trans hc,h1,h2,fun i hi=>⟨(h3 i hi).1,(h3 i hi).2.1,x.vr (h3 i hi).2.2⟩⟩
 |sit s pos=>exact ⟨(own (by simp)).trans ho.1,ho.2⟩
 |mapS d es bs clock=>obtain ⟨C,hc,h1,h0,h2,h3⟩:=ho;exact ⟨C,(own (by simp)).trans hc,h1,h0,h2,fun i hi=>⟨(h3 i hi).1,(h3 i hi).2.1,x.vr (h3 i hi).2.2⟩⟩
 |mit mb since seen c0=>exact ⟨ho.1,ho.2.1,(own (by simp)).trans ho.2.2⟩
 |mapU d es=>obtain ⟨es',hp,C,clock,hc,h1,h2,h3⟩:=ho;exact ⟨es',hp,C,clock,(own (by simp)).trans hc,h1,h2,fun i hi=>⟨(h3 i hi).1,(h3 i hi).2.1,x.vr (h3 i hi).2.2⟩⟩
 |bld T k n=>obtain ⟨h1,p,v,hc,h2⟩:=ho;exact ⟨h1,p,v,(own (by simp)).trans hc,h2⟩
 |buf T bs=>obtain ⟨h1,C,fz,hc,h2⟩:=ho;exact ⟨h1,C,fz,(own (by simp)).trans hc,h2⟩
 |loop st pend a ps p q=>obtain ⟨r,hc,h1,h2,h3,h4,h5,h6,h7⟩:=ho;exact ⟨r,(own (by simp)).trans hc,h1,h2,h3,h4,h5,h6,fun i hi=>x.vr (h7 i hi)⟩
theorem Shut.evo {ρ0:Env} {h0:Za} {w0:World} {lo:Nat} (x:Shut lo ρ h w w') (hlo:w0.heap.size≤lo) (e:Evo ρ0 h0 w0 ρ h w):Evo ρ0 h0 w0 ρ h w':=
 ⟨e.ids,e.env,by rw[x.size];exact e.size,e.same.trans x.same,fun c hc hn=>⟨by
  rcases x.blk c with h1 | ⟨h1,_⟩
  ·exact h1.trans (e.keep c hc hn).1
  ·omega,(e.keep c hc hn).2⟩,fun l r hr=>let ⟨r',hr'⟩:=e.loops l r hr;⟨r',x.at hr' (by simp)⟩⟩
theorem Zqw {fn:Func} {tmps:Array Value} {R:Ending→World→Prop} {lo:Nat} {u:FrameMode} (hu:u≠ .run):∀ (ds:List Deferred) (w:World),ds.Nodup→
  (∀ d∈ds,∃ c,d = { target:=.collected c,args:=#[]}∧lo≤c∧w.heap[c]? = some (.deferred (some []))∧¬Zb5 ρ h c)→
  (∀ w',Shut lo ρ h w w'→LeavesIn (FW none) 0 P fn tmps R [] u w')→LeavesInM (FW none) 0 P fn tmps R ds u w
 | [],w,_,_,hk=>hk w (.refl lo w)
 |d :: ds,w,hn,hm,hk=>by
  obtain ⟨c,rfl,hlo,hc,ho⟩:=hm d (List.mem_cons_self ..)
  have hn':=List.nodup_cons.1 hn
  have hs:Shut lo ρ h w (w.putObj c (.deferred none)):=by
   refine ⟨⟨rfl,rfl,rfl⟩,by simp,fun k=>?_⟩
   by_cases hkc:k = c
   ·subst hkc;exact .inr ⟨hlo,ho,_,_,hc,World.putObj_heap_same (Zb9 hc)⟩
   ·exact .inl (World.putObj_heap_other hkc)
  refine ⟨hu,.inl ⟨c,_,rfl,run_takeDeferred hc,Zqw hu ds _ hn'.2 (fun d hd=>?_) fun w' hw'=>hk w' (hs.trans hw')⟩⟩
  obtain ⟨c',rfl,h1,h2,h3⟩:=hm d (List.mem_cons_of_mem _ hd)
  have hne:c'≠c:=fun e=>by subst e;exact hn'.1 hd
  exact ⟨c',rfl,h1,(World.putObj_heap_other hne).trans h2,h3⟩
theorem Z4E {f:FuncId} {fn:Func} {c:Code} {args:List AVal} {R:AEnd→Za→Prop} (hf:P.funcs[f]? = some fn) (hb:fn.body = some c)
  (hc:AWp P c (ABody P fn h R) (args++List.replicate (fn.ntmps - args.length) .any) h):ACalls P f args h R:=by
 intro ρ w us hR hv
 refine (callsIn_wide (n:=0)).1 (callsIn_of_wp_marks (F:=FW none) hf hb trivial (wpIn_mono (hc ⟨none,w.heap.size,[]⟩ ρ w _ hR ?_) ?_) rfl)
 ·refine ⟨by simp[hv.1],fun i hi=>?_,ARest.start _ _ _ _ (Nat.le_refl _)⟩
  rcases Nat.lt_or_ge i args.length with h1 |h1
  ·rw[List.getElem_append_left h1]
   have:=hv.2 i h1
   have h2:i < us.size:=by rw[←hv.1];exact h1
   have h3:i < (us++Array.replicate (fn.ntmps - us.size) undef).size:=by simp;omega
   simp only[Array.getD,h2,h3,dif_pos] at this⊢
   show VR ρ h w _ ((us++Array.replicate (fn.ntmps - us.size) undef)[i])
   rw[Array.getElem_append_left h2]
   exact this
  ·rw[List.getElem_append_right h1,List.getElem_replicate];exact .any _
 ·rintro e ca w' ⟨ρ',h',a',ev,hR',ha',hq⟩
  have fin:∀ (w'':World) (e:AEnd) (u:Ending),Shut w.heap.size ρ' h' w' w''→ABody.AEnds h h' e R→EndR ρ' h' w'' e u→∃ ρ'' h'' e'',Evo ρ h w ρ'' h'' w''∧Rel ρ'' h'' w''∧EndR ρ'' h'' w'' e'' u∧R e'' h'':=by
   rintro w'' e u hs ⟨h2,e2,hl,hr,hh⟩ hE
   obtain ⟨h3,h4,h5⟩:=hh ρ' w'' u (hs.rel hR') hE
   exact ⟨ρ',h2,e2,(hs.evo (Nat.le_refl _) ev).fewer h3 hl,h4,h5,hr⟩
  have back:aResults P fn a' h' (fun v=>ABody.AEnds h h' (.ret v) R)→LeavesInM (FW none) 0 P fn ca.tmps (fun e w'=>∃ ρ' h' e',Evo ρ h w ρ' h' w'∧Rel ρ' h' w'∧EndR ρ' h' w' e' e∧R e' h') ca.defers .returning w':=fun hq=>
   Zqw (by simp) ca.defers w' (ha'.plain.marked rfl).1 (ha'.plain.marked rfl).2 fun w'' hs=>by
    have ha2:AR ⟨none,0,[]⟩ ρ' h' w'' a' { tmps:=ca.tmps,defers:=[]}:=⟨ha'.size,fun i hi=>hs.vr (ha'.slot i hi),ARest.start _ _ _ _ (Nat.zero_le _)⟩
    obtain ⟨u,v,h1,h2,h3⟩:=Z4J (P:=P) (hs.rel hR') ha2 hq
    exact ⟨u,h1,fin _ _ _ hs h3 (.ret v u h2)⟩
  cases e with
  |normal=>exact back hq
  |ret=>exact back hq
  |panic c=>exact Zqw (by simp) ca.defers w' (ha'.plain.marked rfl).1 (ha'.plain.marked rfl).2 fun w'' hs=>fin _ _ _ hs hq (.panic c)
  |exit id=>exact hq.elim
  |goto l=>exact hq.elim
  |outgrown=>exact hq.elim
end Go.Proofs.YtogaiomakhapmaaGreat.AL
