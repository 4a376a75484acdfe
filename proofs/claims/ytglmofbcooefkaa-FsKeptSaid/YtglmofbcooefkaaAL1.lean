/- The abstract values of a call, and how they stand for the model's own: the first part of a small logic over values, with no address in it. -/
import Derived.Calls
import Derived.Deep.Quiet
import Derived.MapKept
import Derived.OrdersIn
import Derived.RangeFuncCalls
import Derived.RangeFuncLeaves
namespace Go.Proofs.Ytglmofbcooefkaa.AL
set_option linter.unusedVariables false
set_option linter.unusedSimpArgs false
open Go

inductive AVal where
  | any
  | lit (v : Value)
  | ptr (b off : Nat)
  | sl (k b off len : Nat)
  | rop (cs : List AVal)
  | ros (cs : List AVal) (len : Nat)
  | agg (vs : List AVal)
  | tup (vs : List AVal)
  | fn (f : Fn) (first captured : List AVal)
  | ifc (t : TypeId) (v : AVal)
  | map (b : Nat)
  | yld (b : Nat)
  deriving Inhabited

structure Loc where
  blk : Nat
  base : Nat
  size : Nat

/-- What a map's keys are. -/
inductive MKey where
  | str
  | bool
  | int (k : IntKind)
def MKey.desc : MKey → TypeDesc
  | .str => .string
  | .bool => .bool
  | .int k => .int k
inductive AObj where
  | dead
  | cells (cs : List AVal)
  | pred (R : Obj → Prop)
  | map (d : MKey) (es : List (Value × AVal))
  | sit (s : ByteArray) (pos : Nat)
  | mapS (d : MKey) (es : List (Value × AVal)) (bs : List Nat) (clock : Nat)
  | mit (mb since : Nat) (seen : List Nat) (c0 : Nat)
  | loop (st : LoopState) (pend : Option Code) (a : List AVal) (ps : Array Tmp) (assign body : Code)

abbrev AHeap := List AObj
abbrev Env := Nat → Loc

def Owned (ρ : Env) (h : AHeap) (c : Nat) : Prop := ∃ (b : Nat) (o : AObj), h[b]? = some o ∧ o ≠ AObj.dead ∧ (ρ b).blk = c

/-- The ids that a value names. -/
inductive Below (n : Nat) : AVal → Prop
  | any : Below n .any
  | lit (u : Value) : Below n (.lit u)
  | ptr (b off : Nat) (hb : b < n) : Below n (.ptr b off)
  | sl (k b off len : Nat) (hb : b < n) : Below n (.sl k b off len)
  | rop (cs : List AVal) (hc : ∀ v ∈ cs, Below n v) : Below n (.rop cs)
  | ros (cs : List AVal) (len : Nat) (hc : ∀ v ∈ cs, Below n v) : Below n (.ros cs len)
  | agg (vs : List AVal) (hc : ∀ v ∈ vs, Below n v) : Below n (.agg vs)
  | tup (vs : List AVal) (hc : ∀ v ∈ vs, Below n v) : Below n (.tup vs)
  | fn (f : Fn) (vs ws : List AVal) (hc : ∀ v ∈ vs, Below n v) (hd : ∀ v ∈ ws, Below n v) : Below n (.fn f vs ws)
  | ifc (t : TypeId) (v : AVal) (hv : Below n v) : Below n (.ifc t v)
  | map (b : Nat) (hb : b < n) : Below n (.map b)
  | yld (b : Nat) (hb : b < n) : Below n (.yld b)

theorem Below.mono {n m : Nat} (hnm : n ≤ m) {v : AVal} (hv : Below n v) : Below m v := by
  induction hv with
  | any => exact .any
  | lit u => exact .lit u
  | ptr b off hb => exact .ptr b off (Nat.lt_of_lt_of_le hb hnm)
  | sl k b off len hb => exact .sl k b off len (Nat.lt_of_lt_of_le hb hnm)
  | rop cs _ ih => exact .rop cs ih
  | ros cs len _ ih => exact .ros cs len ih
  | agg vs _ ih => exact .agg vs ih
  | tup vs _ ih => exact .tup vs ih
  | fn f vs ws _ _ ih ih' => exact .fn f vs ws ih ih'
  | ifc t v _ ih => exact .ifc t v ih
  | map b hb => exact .map b (Nat.lt_of_lt_of_le hb hnm)
  | yld b hb => exact .yld b (Nat.lt_of_lt_of_le hb hnm)

inductive VR (ρ : Env) (h : AHeap) (w : World) : AVal → Value → Prop
  | any (u : Value) : VR ρ h w .any u
  | lit (u : Value) : VR ρ h w (.lit u) u
  | ptr (b off : Nat) (hb : b < h.length) : VR ρ h w (.ptr b off) (.pointer (some ⟨(ρ b).blk, (ρ b).base + off, none⟩))
  | sl (k b off len cap : Nat) (hb : b < h.length) (hl : len ≤ cap) (hc : (ρ b).base + off + cap * k ≤ (ρ b).size) :
      VR ρ h w (.sl k b off len) (.slice (some ⟨(ρ b).blk, (ρ b).base + off, none⟩) len cap)
  | rop (cs : List AVal) (c off : Nat) (C : Array Value) (T : TypeId) (fz : Nat × Nat) (hc : w.heap[c]? = some (.cells C T fz)) (hn : ¬ Owned ρ h c)
      (hs : ∀ (i : Nat) (_ : i < cs.length), off + i < C.size) (hv : ∀ (i : Nat) (hi : i < cs.length), VR ρ h w cs[i] (C.getD (off + i) undef)) :
      VR ρ h w (.rop cs) (.pointer (some ⟨c, off, none⟩))
  | slZ (k b off o : Nat) (hb : b < h.length) : VR ρ h w (.sl k b off 0) (.slice (some ⟨(ρ b).blk, o, none⟩) 0 0)
  | rosZ (cs : List AVal) (hb : ∀ v ∈ cs, Below h.length v) (a : Option Addr) (cap : Nat) : VR ρ h w (.ros cs 0) (.slice a 0 cap)
  | ros (cs : List AVal) (c off len cap : Nat) (C : Array Value) (T : TypeId) (fz : Nat × Nat) (hl : len ≤ cap) (hc : w.heap[c]? = some (.cells C T fz)) (hn : ¬ Owned ρ h c)
      (hs : ∀ (i : Nat) (_ : i < cs.length), off + i < C.size) (hv : ∀ (i : Nat) (hi : i < cs.length), VR ρ h w cs[i] (C.getD (off + i) undef)) :
      VR ρ h w (.ros cs len) (.slice (some ⟨c, off, none⟩) len cap)
  | agg (vs : List AVal) (us : Array Value) (hl : vs.length = us.size) (hv : ∀ (i : Nat) (hi : i < vs.length), VR ρ h w vs[i] (us.getD i undef)) : VR ρ h w (.agg vs) (.agg us)
  | tup (vs : List AVal) (us : Array Value) (hl : vs.length = us.size) (hv : ∀ (i : Nat) (hi : i < vs.length), VR ρ h w vs[i] (us.getD i undef)) : VR ρ h w (.tup vs) (.tuple us)
  | fn (f : Fn) (vs ws : List AVal) (us xs : Array Value) (hl : vs.length = us.size) (hl' : ws.length = xs.size)
      (hv : ∀ (i : Nat) (hi : i < vs.length), VR ρ h w vs[i] (us.getD i undef)) (hw : ∀ (i : Nat) (hi : i < ws.length), VR ρ h w ws[i] (xs.getD i undef)) :
      VR ρ h w (.fn f vs ws) (.func f us xs)
  | ifc (t : TypeId) (v : AVal) (u : Value) (hv : VR ρ h w v u) : VR ρ h w (.ifc t v) (.iface t u)
  | map (b : Nat) (hb : b < h.length) : VR ρ h w (.map b) (.map (some (ρ b).blk))
  | yld (b : Nat) (hb : b < h.length) : VR ρ h w (.yld b) (.func (.yield (ρ b).blk) #[] #[])

/-- What a call of this kind never touches. -/
def Same (w w' : World) : Prop := w'.os = w.os ∧ w'.tape = w.tape ∧ w'.output = w.output

theorem Same.refl (w : World) : Same w w := ⟨rfl, rfl, rfl⟩
theorem Same.trans {a b c : World} (x : Same a b) (y : Same b c) : Same a c := ⟨y.1.trans x.1, y.2.1.trans x.2.1, y.2.2.trans x.2.2⟩

/-- From one state to a later one: blocks that nobody owns stay as they are, and stay so. -/
structure Evo (ρ : Env) (h : AHeap) (w : World) (ρ' : Env) (h' : AHeap) (w' : World) : Prop where
  ids : h.length ≤ h'.length
  env : ∀ b, b < h.length → ρ' b = ρ b
  size : w.heap.size ≤ w'.heap.size
  same : Same w w'
  keep : ∀ c, c < w.heap.size → ¬ Owned ρ h c → w'.heap[c]? = w.heap[c]? ∧ ¬ Owned ρ' h' c
  loops : ∀ (l : Nat) (r : Loop), w.heap[l]? = some (Obj.loop r) → ∃ r' : Loop, w'.heap[l]? = some (Obj.loop r')

theorem Evo.refl (ρ : Env) (h : AHeap) (w : World) : Evo ρ h w ρ h w := ⟨Nat.le_refl _, fun _ _ => rfl, Nat.le_refl _, .refl _, fun _ _ hn => ⟨rfl, hn⟩, fun _ r hr => ⟨r, hr⟩⟩

theorem Evo.trans {ρ ρ' ρ'' : Env} {h h' h'' : AHeap} {w w' w'' : World} (e : Evo ρ h w ρ' h' w') (f : Evo ρ' h' w' ρ'' h'' w'') : Evo ρ h w ρ'' h'' w'' where
  ids := Nat.le_trans e.ids f.ids
  env := fun b hb => (f.env b (Nat.lt_of_lt_of_le hb e.ids)).trans (e.env b hb)
  size := Nat.le_trans e.size f.size
  same := e.same.trans f.same
  keep := fun c hc hn => by
    obtain ⟨h1, h2⟩ := e.keep c hc hn
    obtain ⟨h3, h4⟩ := f.keep c (Nat.lt_of_lt_of_le hc e.size) h2
    exact ⟨h3.trans h1, h4⟩
  loops := fun l r hr => let ⟨r', hr'⟩ := e.loops l r hr; f.loops l r' hr'

theorem lt_of_get {α : Type} {a : Array α} {i : Nat} {x : α} (h : a[i]? = some x) : i < a.size := (Array.getElem?_eq_some_iff.1 h).1

theorem VR.evo {ρ ρ' : Env} {h h' : AHeap} {w w' : World} (e : Evo ρ h w ρ' h' w') {v : AVal} {u : Value} (hv : VR ρ h w v u) : VR ρ' h' w' v u := by
  induction hv with
  | any u => exact .any u
  | lit u => exact .lit u
  | ptr b off hb => rw [← e.env b hb]; exact .ptr b off (Nat.lt_of_lt_of_le hb e.ids)
  | sl k b off len cap hb hl hc => rw [← e.env b hb] at hc ⊢; exact .sl k b off len cap (Nat.lt_of_lt_of_le hb e.ids) hl hc
  | rop cs c off C T fz hc hn hs _ ih =>
    obtain ⟨h1, h2⟩ := e.keep c (lt_of_get hc) hn
    exact .rop cs c off C T fz (h1.trans hc) h2 hs ih
  | slZ k b off o hb => rw [← e.env b hb]; exact .slZ k b off o (Nat.lt_of_lt_of_le hb e.ids)
  | rosZ cs hb a cap => exact .rosZ cs (fun v hv => (hb v hv).mono e.ids) a cap
  | ros cs c off len cap C T fz hl hc hn hs _ ih =>
    obtain ⟨h1, h2⟩ := e.keep c (lt_of_get hc) hn
    exact .ros cs c off len cap C T fz hl (h1.trans hc) h2 hs ih
  | agg vs us hl _ ih => exact .agg vs us hl ih
  | tup vs us hl _ ih => exact .tup vs us hl ih
  | fn f vs ws us xs hl hl' _ _ ih ih' => exact .fn f vs ws us xs hl hl' ih ih'
  | ifc t v u _ ih => exact .ifc t v u ih
  | map b hb => rw [← e.env b hb]; exact .map b (Nat.lt_of_lt_of_le hb e.ids)
  | yld b hb => rw [← e.env b hb]; exact .yld b (Nat.lt_of_lt_of_le hb e.ids)

/-- The cells of a block of ours. -/
def CellsR (ρ : Env) (h : AHeap) (w : World) (cs : List AVal) (l : Loc) : Prop :=
  ∃ C T fz, w.heap[l.blk]? = some (.cells C T fz) ∧ (∀ i, i < C.size → (decide (fz.1 ≤ i) && decide (i < fz.2)) = false) ∧ C.size = l.size ∧ l.base + cs.length ≤ C.size ∧
    ∀ (i : Nat) (hi : i < cs.length), VR ρ h w cs[i] (C.getD (l.base + i) undef)

/-- The entries of a map of ours. -/
def MapR (ρ : Env) (h : AHeap) (w : World) (d : MKey) (es : List (Value × AVal)) (l : Loc) : Prop :=
  ∃ C clock, w.heap[l.blk]? = some (.map C clock) ∧ MapKept.Stamped C clock ∧ C.size = es.length ∧ ∀ (i : Nat) (hi : i < es.length), (C.getD i default).key = es[i].1 ∧ MapKept.IsKey d.desc es[i].1 ∧ VR ρ h w es[i].2 (C.getD i default).val

/-- A loop's record of ours. -/
def LoopR (ρ : Env) (h : AHeap) (w : World) (st : LoopState) (pend : Option Code) (a : List AVal) (ps : Array Tmp) (assign body : Code) (l : Loc) : Prop :=
  ∃ r : Loop, w.heap[l.blk]? = some (.loop r) ∧ r.state = st ∧ r.pending = pend ∧ r.params = ps ∧ r.assign = assign ∧ r.body = body ∧ a.length = r.tmps.size ∧ ∀ (i : Nat) (hi : i < a.length), VR ρ h w a[i] (r.tmps.getD i undef)

/-- .. whose entries' stamps are told. -/
def MapSR (ρ : Env) (h : AHeap) (w : World) (d : MKey) (es : List (Value × AVal)) (bs : List Nat) (clock : Nat) (l : Loc) : Prop :=
  ∃ C, w.heap[l.blk]? = some (.map C clock) ∧ MapKept.Stamped C clock ∧ bs = C.toList.map (·.born) ∧ C.size = es.length ∧ ∀ (i : Nat) (hi : i < es.length), (C.getD i default).key = es[i].1 ∧ MapKept.IsKey d.desc es[i].1 ∧ VR ρ h w es[i].2 (C.getD i default).val

def ObjR (ρ : Env) (h : AHeap) (w : World) (l : Loc) : AObj → Prop
  | .dead => True
  | .cells cs => CellsR ρ h w cs l
  | .pred R => ∃ o, w.heap[l.blk]? = some o ∧ R o
  | .map d es => MapR ρ h w d es l
  | .sit s pos => w.heap[l.blk]? = some (.stringIter s pos) ∧ l.base = 0
  | .mapS d es bs clock => MapSR ρ h w d es bs clock l
  | .mit mb since seen c0 => mb < h.length ∧ l.base = 0 ∧ w.heap[l.blk]? = some (.mapIter (some (ρ mb).blk) since seen.toArray c0)
  | .loop st pend a ps assign body => LoopR ρ h w st pend a ps assign body l

structure Rel (ρ : Env) (h : AHeap) (w : World) : Prop where
  obj : ∀ b o, h[b]? = some o → ObjR ρ h w (ρ b) o
  inj : ∀ b b' o o', h[b]? = some o → h[b']? = some o' → o ≠ .dead → o' ≠ .dead → (ρ b).blk = (ρ b').blk → b = b'

/-- What goes on around: the round that the code runs in, and where memory ended when the call began. -/
structure Rnd where
  ro : Option Nat
  lo : Nat
abbrev FW (ro : Option Nat) : Fence := { fn := fun _ => True, depth := none, alive := false, round := ro }
theorem fw_room (ro : Option Nat) (n : Nat) : (FW ro).room n := fun _ h => by simp at h
theorem callsIn_fw {ro : Option Nat} {n : Nat} {P : Program} {f : FuncId} {args : Array Value} {w : World} {R : Ending → World → Prop} (h : Calls P f args w R) : CallsIn (FW ro) n P f args w R := by
  cases ro with
  | none => exact callsIn_wide.2 h
  | some l => exact CallsIn.inRound l (callsIn_wide.2 h)

/-- The marks of loops over functions, among the calls that are put off; the round. -/
structure ARest (G : Rnd) (ρ : Env) (h : AHeap) (w : World) (ds : List Deferred) : Prop where
  nodup : ds.Nodup
  marks : ∀ d ∈ ds, ∃ c, d = { target := .collected c, args := #[] } ∧ G.lo ≤ c ∧ w.heap[c]? = some (.deferred (some [])) ∧ ¬ Owned ρ h c
  round : ∀ l, G.ro = some l → ∃ r : Loop, w.heap[l]? = some (Obj.loop r)
  lo : G.lo ≤ w.heap.size

theorem ARest.evo {G : Rnd} {ρ ρ' : Env} {h h' : AHeap} {w w' : World} (e : Evo ρ h w ρ' h' w') {ds : List Deferred} (hr : ARest G ρ h w ds) : ARest G ρ' h' w' ds where
  nodup := hr.nodup
  marks := fun d hd => by
    obtain ⟨c, h1, h2, h3, h4⟩ := hr.marks d hd
    obtain ⟨h5, h6⟩ := e.keep c (lt_of_get h3) h4
    exact ⟨c, h1, h2, h5.trans h3, h6⟩
  round := fun l hl => let ⟨r, hr⟩ := hr.round l hl; e.loops l r hr
  lo := Nat.le_trans hr.lo e.size

/-- What a state stands for: every slot. -/
structure AR (G : Rnd) (ρ : Env) (h : AHeap) (w : World) (a : List AVal) (ca : Act) : Prop where
  size : a.length = ca.tmps.size
  slot : ∀ (i : Nat) (hi : i < a.length), VR ρ h w a[i] (ca.tmps.getD i undef)
  plain : ARest G ρ h w ca.defers

theorem AR.evo {G : Rnd} {ρ ρ' : Env} {h h' : AHeap} {w w' : World} (e : Evo ρ h w ρ' h' w') {a : List AVal} {ca : Act} (ha : AR G ρ h w a ca) : AR G ρ' h' w' a ca :=
  ⟨ha.size, fun i hi => (ha.slot i hi).evo e, ha.plain.evo e⟩

/-- The values of a list. -/
def VRs (ρ : Env) (h : AHeap) (w : World) (vs : List AVal) (us : Array Value) : Prop :=
  vs.length = us.size ∧ ∀ (i : Nat) (hi : i < vs.length), VR ρ h w vs[i] (us.getD i undef)

theorem VRs.evo {ρ ρ' : Env} {h h' : AHeap} {w w' : World} (e : Evo ρ h w ρ' h' w') {vs : List AVal} {us : Array Value} (hv : VRs ρ h w vs us) : VRs ρ' h' w' vs us :=
  ⟨hv.1, fun i hi => (hv.2 i hi).evo e⟩

/-- How a call ends. -/
inductive AEnd where
  | ret (v : AVal)
  | panic (chain : List PanicEntry)

inductive EndR (ρ : Env) (h : AHeap) (w : World) : AEnd → Ending → Prop
  | ret (v : AVal) (u : Value) (hv : VR ρ h w v u) : EndR ρ h w (.ret v) (.returned u)
  | panic (c : List PanicEntry) : EndR ρ h w (.panic c) (.panicked c)

/-- A call, said over abstract values: whatever stands for them. -/
def ACalls (P : Program) (f : FuncId) (args : List AVal) (h : AHeap) (R : AEnd → AHeap → Prop) : Prop :=
  ∀ (ρ : Env) (w : World) (us : Array Value), Rel ρ h w → VRs ρ h w args us →
    Calls P f us w fun e w' => ∃ ρ' h' e', Evo ρ h w ρ' h' w' ∧ Rel ρ' h' w' ∧ EndR ρ' h' w' e' e ∧ R e' h'

theorem ACalls.mono {P : Program} {f : FuncId} {args : List AVal} {h : AHeap} {R R' : AEnd → AHeap → Prop} (hc : ACalls P f args h R) (hr : ∀ e h', R e h' → R' e h') : ACalls P f args h R' :=
  fun ρ w us hR hv => (hc ρ w us hR hv).mono fun _ _ ⟨ρ', h', e', h1, h2, h3, h4⟩ => ⟨ρ', h', e', h1, h2, h3, hr _ _ h4⟩

/-- How a piece of code ends. -/
abbrev AQ := Exit → List AVal → AHeap → Prop

def AWp (P : Program) (c : Code) (Q : AQ) (a : List AVal) (h : AHeap) : Prop :=
  ∀ (G : Rnd) (ρ : Env) (w : World) (ca : Act), Rel ρ h w → AR G ρ h w a ca →
    c.wpIn (FW G.ro) 0 P (fun e ca' w' => ∃ ρ' h' a', Evo ρ h w ρ' h' w' ∧ Rel ρ' h' w' ∧ AR G ρ' h' w' a' ca' ∧ Q e a' h') ca w

section rules
variable {P : Program} {Q Q' : AQ} {a : List AVal} {h : AHeap}

theorem awp_mono {c : Code} (hc : AWp P c Q a h) (hq : ∀ e a h, Q e a h → Q' e a h) : AWp P c Q' a h :=
  fun G ρ w ca hR ha => wpIn_mono (hc G ρ w ca hR ha) fun _ _ _ ⟨ρ', h', a', h1, h2, h3, h4⟩ => ⟨ρ', h', a', h1, h2, h3, hq _ _ _ h4⟩

theorem awp_skip (hq : Q .normal a h) : AWp P .skip Q a h := fun G ρ w _ hR ha => wpIn_skip ⟨ρ, h, a, .refl .., hR, ha, hq⟩
theorem awp_label {l : Nat} (hq : Q .normal a h) : AWp P (.label l) Q a h := fun G ρ w _ hR ha => wpIn_label ⟨ρ, h, a, .refl .., hR, ha, hq⟩
theorem awp_exit {id : Nat} (hq : Q (.exit id) a h) : AWp P (.exit id) Q a h := fun G ρ w _ hR ha => wpIn_exit ⟨ρ, h, a, .refl .., hR, ha, hq⟩
theorem awp_goto {l : Nat} (hq : Q (.goto l) a h) : AWp P (.goto l) Q a h := fun G ρ w _ hR ha => wpIn_goto ⟨ρ, h, a, .refl .., hR, ha, hq⟩
theorem awp_ret (hq : Q .ret a h) : AWp P .ret Q a h := fun G ρ w _ hR ha => wpIn_ret ⟨ρ, h, a, .refl .., hR, ha, hq⟩

def AThen (next : List AVal → AHeap → Prop) (Q : AQ) : AQ
  | .normal, a, h => next a h
  | e, a, h => Q e a h

theorem awp_seq {x y : Code} (hx : AWp P x (AThen (AWp P y Q) Q) a h) : AWp P (.seq x y) Q a h := by
  intro G ρ w ca hR ha
  refine wpIn_seq (wpIn_mono (hx G ρ w ca hR ha) ?_)
  rintro e ca' w' ⟨ρ', h', a', he, hR', ha', hq⟩
  cases e with
  | normal => exact wpIn_mono (hq G ρ' w' ca' hR' ha') fun _ _ _ ⟨ρ2, h2, a2, e2, r2, s2, q2⟩ => ⟨ρ2, h2, a2, he.trans e2, r2, s2, q2⟩
  | exit id => exact ⟨ρ', h', a', he, hR', ha', hq⟩
  | goto l => exact ⟨ρ', h', a', he, hR', ha', hq⟩
  | ret => exact ⟨ρ', h', a', he, hR', ha', hq⟩
  | panic c => exact ⟨ρ', h', a', he, hR', ha', hq⟩
  | outgrown => exact ⟨ρ', h', a', he, hR', ha', hq⟩

def AInBlock (id : Nat) (Q : AQ) : AQ
  | .exit id', a, h => if id' = id then Q .normal a h else Q (.exit id') a h
  | e, a, h => Q e a h

theorem awp_block {id : Nat} {c : Code} (hc : AWp P c (AInBlock id Q) a h) : AWp P (.block id c) Q a h := by
  intro G ρ w ca hR ha
  refine wpIn_block (wpIn_mono (hc G ρ w ca hR ha) ?_)
  rintro e ca' w' ⟨ρ', h', a', he, hR', ha', hq⟩
  cases e with
  | exit id' =>
    simp only [Exit.inBlock]
    by_cases hid : id' = id
    · simp only [AInBlock, hid, if_true] at hq ⊢; exact ⟨ρ', h', a', he, hR', ha', hq⟩
    · simp only [AInBlock, hid, if_false] at hq ⊢; exact ⟨ρ', h', a', he, hR', ha', hq⟩
  | normal => exact ⟨ρ', h', a', he, hR', ha', hq⟩
  | goto l => exact ⟨ρ', h', a', he, hR', ha', hq⟩
  | ret => exact ⟨ρ', h', a', he, hR', ha', hq⟩
  | panic c => exact ⟨ρ', h', a', he, hR', ha', hq⟩
  | outgrown => exact ⟨ρ', h', a', he, hR', ha', hq⟩

theorem awp_loop {c : Code} (I : List AVal → AHeap → Prop) (μ : List AVal → AHeap → Nat) (h₀ : I a h)
    (round : ∀ a h, I a h → AWp P c (AThen (fun a' h' => I a' h' ∧ μ a' h' < μ a h) Q) a h) : AWp P (.loop c) Q a h := by
  intro G ρ w ca hR ha
  let J : Act → World → Prop := fun ca' w' => ∃ ρ' h' a', Evo ρ h w ρ' h' w' ∧ Rel ρ' h' w' ∧ AR G ρ' h' w' a' ca' ∧ I a' h'
  intro b k cs hro hb hr
  have key : ∀ n a1 h1 ρ1 w1 ca1, μ a1 h1 = n → I a1 h1 → Evo ρ h w ρ1 h1 w1 → Rel ρ1 h1 w1 → AR G ρ1 h1 w1 a1 ca1 →
      ∃ e ca' w', (∃ ρ' h' a', Evo ρ h w ρ' h' w' ∧ Rel ρ' h' w' ∧ AR G ρ' h' w' a' ca' ∧ Q e a' h') ∧ ArrivesIn (Machine.fenced P (FW G.ro)) P (lone (b.atR ca1 (.code c :: .inLoop c :: k)) cs w1) b k cs e ca' w' := by
    intro n
    induction n using Nat.strongRecOn with
    | _ n ih =>
      intro a1 h1 ρ1 w1 ca1 hn hI e0 hR1 ha1
      obtain ⟨e, ca₂, w₂, ⟨ρ₂, h₂, a₂, e₂, R₂, s₂, hq⟩, harr⟩ := round a1 h1 hI G ρ1 w1 ca1 hR1 ha1 b (.inLoop c :: k) cs hro hb hr
      cases e with
      | normal =>
        obtain ⟨hI₂, hlt⟩ := hq
        obtain ⟨e₃, ca₃, w₃, hq₃, harr₃⟩ := ih _ (hn ▸ hlt) a₂ h₂ ρ₂ w₂ ca₂ rfl hI₂ (e0.trans e₂) R₂ s₂
        exact ⟨e₃, ca₃, w₃, hq₃, .of_steps (StepsIn.trans harr (.one (fenced_calm hb hr rfl) stepR_inLoop)) harr₃⟩
      | exit id => exact ⟨_, ca₂, w₂, ⟨ρ₂, h₂, a₂, e0.trans e₂, R₂, s₂, hq⟩, .pass (x := .inLoop c) rfl (fun _ _ => .inl (by simp)) harr⟩
      | goto l => exact ⟨_, ca₂, w₂, ⟨ρ₂, h₂, a₂, e0.trans e₂, R₂, s₂, hq⟩, .pass (x := .inLoop c) rfl (fun _ _ => .inl (by simp)) harr⟩
      | ret => exact ⟨_, ca₂, w₂, ⟨ρ₂, h₂, a₂, e0.trans e₂, R₂, s₂, hq⟩, .pass (x := .inLoop c) rfl (fun _ _ => .inl (by simp)) harr⟩
      | panic ch => exact ⟨_, ca₂, w₂, ⟨ρ₂, h₂, a₂, e0.trans e₂, R₂, s₂, hq⟩, .pass (x := .inLoop c) rfl (fun _ _ => .inl (by simp)) harr⟩
      | outgrown => exact ⟨_, ca₂, w₂, ⟨ρ₂, h₂, a₂, e0.trans e₂, R₂, s₂, hq⟩, .pass (x := .inLoop c) rfl (fun _ _ => .inl (by simp)) harr⟩
  obtain ⟨e, ca', w', hq, harr⟩ := key _ a h ρ w ca rfl h₀ (.refl ..) hR ha
  exact ⟨e, ca', w', hq, .of_steps (.one (fenced_calm hb hr rfl) stepR_loop) harr⟩

end rules
end Go.Proofs.Ytglmofbcooefkaa.AL
