/- The other operations, reckoned. -/
import Derived.Test.YtglmofbcooefkaaX1
namespace Go.Proofs.Ytglmofbcooefkaa.AL
set_option linter.unusedVariables false
set_option linter.unusedSimpArgs false
open Go

def xUn (op : UnOp) (x : AVal) : Option AVal := match op, x with
  | .not, .lit (.bool b) => some (.lit (.bool (!b)))
  | .neg, .lit (.int k n) => some (.lit (.int k (k.wrap (0 - n))))
  | .xor, .lit (.int k n) => some (.lit (.int k (notI k n)))
  | _, _ => none
theorem xUn_ok {op : UnOp} {x v : AVal} {K : AVal → Prop} (h : xUn op x = some v) (hK : K v) : aUn op x K := by
  unfold xUn at h; unfold aUn
  split at h <;> cases h <;> exact hK
def fieldP (off : Nat) (x : AVal) : Option AVal := match x with
  | .ptr b o => some (.ptr b (o + off))
  | .rop cs => some (.rop (cs.drop off))
  | _ => none
def xField (T : Tab) (s : Nat) (x : AVal) (i : Nat) : Option AVal := match T.field s i with
  | none => none
  | some (off, ft) => match T.siz ft with
    | some (_ + 1) => fieldP off x
    | _ => none
section
variable {T : Tab} {P : Program} (hT : T.Ok P)
include hT
theorem xField_ok {s : Nat} {x v : AVal} {i : Nat} {K : AVal → Prop} (h : xField T s x i = some v) (hK : K v) : aField P s x i K := by
  unfold xField at h; unfold aField
  split at h
  · cases h
  · rename_i hf
    simp only [hT.field hf]
    split at h
    · rename_i hs
      simp only [hT.siz _ _ hs]
      unfold fieldP at h
      split at h <;> cases h <;> exact hK
    · cases h
end
def idxP (k : Nat) (x : AVal) (i : Int) : Option AVal := match x with
  | .sl k' b off len => match Nat.beq k' k with
    | true => (req (0 ≤ i ∧ i < len)).bind fun _ => some (.ptr b (off + i.toNat * k))
    | false => none
  | .ros cs len => (req (0 ≤ i ∧ i < len)).bind fun _ => some (.rop (cs.drop (i.toNat * k)))
  | _ => none
def aidxP (n k : Nat) (x : AVal) (i : Int) : Option AVal := match x with
  | .ptr b o => (req (0 ≤ i ∧ i < n)).bind fun _ => some (.ptr b (o + i.toNat * k))
  | .rop cs => (req (0 ≤ i ∧ i < n)).bind fun _ => some (.rop (cs.drop (i.toNat * k)))
  | _ => none
def xIndexAddr (T : Tab) (t : Nat) (x i : AVal) : Option AVal := match i with
  | .lit (.int _ i) => match T.und t with
    | some (.array n e) => match T.siz e with
      | some k => aidxP n k x i
      | none => none
    | some (.slice e) => match T.siz e with
      | some k => idxP k x i
      | none => none
    | _ => none
  | _ => none
theorem Tab.array_of {T : Tab} {t n e : Nat} (h : T.und t = some (.array n e)) : T.array t = some (n, e) := by unfold Tab.array; rw [h]
theorem Tab.slice_of {T : Tab} {t e : Nat} (h : T.und t = some (.slice e)) : T.slice t = some e := by unfold Tab.slice; rw [h]
theorem Tab.int_of {T : Tab} {t : Nat} {k : IntKind} (h : T.und t = some (.int k)) : T.int t = some k := by unfold Tab.int; rw [h]
section
variable {T : Tab} {P : Program} (hT : T.Ok P)
include hT
theorem xIndexAddr_ok {t : Nat} {x i v : AVal} {K : AVal → Prop} (h : xIndexAddr T t x i = some v) (hK : K v) : aIndexAddr P t x i K := by
  unfold xIndexAddr at h; unfold aIndexAddr
  split at h
  · split at h
    · rename_i hu
      simp only [hT.array (Tab.array_of hu)]
      split at h
      · rename_i hs
        simp only [hT.siz _ _ hs]
        unfold aidxP at h
        split at h
        · obtain ⟨u, h1, h2⟩ := Option.bind_eq_some_iff.1 h
          cases h2; exact ⟨(req_some h1).1, (req_some h1).2, hK⟩
        · obtain ⟨u, h1, h2⟩ := Option.bind_eq_some_iff.1 h
          cases h2; exact ⟨(req_some h1).1, (req_some h1).2, hK⟩
        · cases h
      · cases h
    · rename_i hu
      obtain ⟨e1, e2⟩ := hT.slice (Tab.slice_of hu)
      simp only [e1, e2]
      split at h
      · rename_i hs
        simp only [hT.siz _ _ hs]
        unfold idxP at h
        split at h
        · split at h
          · rename_i hk
            obtain ⟨u, h1, h2⟩ := Option.bind_eq_some_iff.1 h
            cases h2; exact ⟨Nat.eq_of_beq_eq_true hk, (req_some h1).1, (req_some h1).2, hK⟩
          · cases h
        · obtain ⟨u, h1, h2⟩ := Option.bind_eq_some_iff.1 h
          cases h2; exact ⟨(req_some h1).1, (req_some h1).2, hK⟩
        · cases h
      · cases h
    · cases h
  · cases h
end
/-- A part of an aggregate's cells. -/
def takeN (vs : List AVal) (off n : Nat) : Option (List AVal) := (req (off + n ≤ vs.length)).bind fun _ => some ((vs.drop off).take n)
def xPart (T : Tab) (t : Nat) (vs : List AVal) (off : Nat) : Option AVal := match T.agg t with
  | some true => match T.siz t with
    | some n => (takeN vs off n).bind fun xs => some (.agg xs)
    | none => none
  | some false => vs[off]?
  | none => none
theorem xPart_ok {T : Tab} {P : Program} (hT : T.Ok P) {t : Nat} {vs : List AVal} {off : Nat} {v : AVal} {K : AVal → Prop} (h : xPart T t vs off = some v) (hK : K v) : aPart P t vs off K := by
  unfold xPart at h; unfold aPart
  split at h
  · rename_i ha
    split at h
    · rename_i hs
      simp only [hT.agg ha, hT.siz _ _ hs]
      obtain ⟨xs, h1, h2⟩ := Option.bind_eq_some_iff.1 h
      cases h2
      unfold takeN at h1
      obtain ⟨u, h2, h3⟩ := Option.bind_eq_some_iff.1 h1
      cases h3; exact ⟨req_some h2, hK⟩
    · cases h
  · rename_i ha
    simp only [hT.agg ha, h]; exact hK
  · cases h
def strAt (s : ByteArray) (i : Int) : Option Int := (req (0 ≤ i ∧ i < s.size)).bind fun _ => some (byteAt s i.toNat)
def xIndex (T : Tab) (t : Nat) (x i : AVal) : Option AVal := match i, x with
  | .lit (.int _ i), .lit (.string s) => match T.und t with
    | some .string => (strAt s i).bind fun b => some (.lit (.int .u8 b))
    | _ => none
  | .lit (.int _ i), .agg vs => match T.und t with
    | some (.array n e) => match T.siz e with
      | some k => (req (0 ≤ i ∧ i < n)).bind fun _ => xPart T e vs (i.toNat * k)
      | none => none
    | _ => none
  | _, _ => none
def xFieldV (T : Tab) (t : Nat) (x : AVal) (i : Nat) : Option AVal := match x with
  | .agg vs => match T.field t i with
    | some (off, ft) => xPart T ft vs off
    | none => none
  | _ => none
def xExtract (x : AVal) (i : Nat) : Option AVal := match x with
  | .tup vs => vs[i]?
  | _ => none
section
variable {T : Tab} {P : Program} (hT : T.Ok P)
theorem xExtract_ok {x v : AVal} {i : Nat} {K : AVal → Prop} (h : xExtract x i = some v) (hK : K v) : aExtract x i K := by
  unfold xExtract at h; unfold aExtract
  split at h
  · simp only [h]; exact hK
  · cases h
include hT
theorem xIndex_ok {t : Nat} {x i v : AVal} {K : AVal → Prop} (h : xIndex T t x i = some v) (hK : K v) : aIndex P t x i K := by
  unfold xIndex at h; unfold aIndex
  split at h
  · split at h
    · rename_i hu
      obtain ⟨b, h1, h2⟩ := Option.bind_eq_some_iff.1 h
      cases h2
      unfold strAt at h1
      obtain ⟨u, h2, h3⟩ := Option.bind_eq_some_iff.1 h1
      cases h3
      exact ⟨(hT.str hu).1, (req_some h2).1, (req_some h2).2, hK⟩
    · cases h
  · split at h
    · rename_i hu
      split at h
      · rename_i hs
        simp only [hT.array (Tab.array_of hu), hT.siz _ _ hs]
        obtain ⟨u, h1, h2⟩ := Option.bind_eq_some_iff.1 h
        exact ⟨(req_some h1).1, (req_some h1).2, xPart_ok hT h2 hK⟩
      · cases h
    · cases h
  · cases h
theorem xFieldV_ok {t : Nat} {x v : AVal} {i : Nat} {K : AVal → Prop} (h : xFieldV T t x i = some v) (hK : K v) : aFieldV P t x i K := by
  unfold xFieldV at h; unfold aFieldV
  split at h
  · split at h
    · rename_i hf
      simp only [hT.field hf]
      exact xPart_ok hT h hK
    · cases h
  · cases h
end
/-! Slices -/
def bndO (x : Option AVal) (d : Int) : Option Int := match x with
  | none => some d
  | some (.lit (.int _ n)) => some n
  | _ => none
theorem bndO_eq (x : Option AVal) (d : Int) : bndO x d = bnd x d := rfl
def cutS (s : ByteArray) (l r : Int) : Option ByteArray := (req (0 ≤ l ∧ l ≤ r ∧ r ≤ s.size)).bind fun _ => some (s.extract l.toNat r.toNat)
def cutV (k : Nat) (x : AVal) (lo hi mx : Option Int) : Option AVal := match x with
  | .sl k' b off len => match Nat.beq k' k with
    | true => (req (0 ≤ lo.getD 0 ∧ lo.getD 0 ≤ hi.getD len ∧ hi.getD len ≤ len ∧ (∀ m, mx = some m → hi.isSome = true ∧ hi.getD len ≤ m ∧ m ≤ len))).bind fun _ => some (.sl k b (off + (lo.getD 0).toNat * k) (hi.getD len - lo.getD 0).toNat)
    | false => none
  | .ros cs len => (req (0 ≤ lo.getD 0 ∧ lo.getD 0 ≤ hi.getD len ∧ hi.getD len ≤ len ∧ (∀ m, mx = some m → hi.isSome = true ∧ hi.getD len ≤ m ∧ m ≤ len))).bind fun _ => some (.ros (cs.drop ((lo.getD 0).toNat * k)) (hi.getD len - lo.getD 0).toNat)
  | .lit (.slice none 0 0) => (req (lo.getD 0 = 0 ∧ hi.getD 0 = 0 ∧ mx.isNone = true)).bind fun _ => some (.lit (.slice none 0 0))
  | _ => none
def cutA (n k : Nat) (h : AHeap) (x : AVal) (lo hi : Int) : Option AVal := match x with
  | .ptr b o => (cellsAt h b).bind fun cs => (req (o + n * k ≤ cs.length ∧ 0 ≤ lo ∧ lo ≤ hi ∧ hi ≤ n)).bind fun _ => some (.sl k b (o + lo.toNat * k) (hi - lo).toNat)
  | _ => none
def intO (x : Option AVal) : Option (Option Int) := match x with
  | none => some none
  | some (.lit (.int _ n)) => some (some n)
  | _ => none
theorem intO_bnd {x : Option AVal} {y : Option Int} (h : intO x = some y) (d : Int) : bnd x d = some (y.getD d) ∧ x.isSome = y.isSome := by
  unfold intO at h
  split at h
  · cases h; exact ⟨rfl, rfl⟩
  · cases h; exact ⟨rfl, rfl⟩
  · cases h
def xSlice (T : Tab) (t : Nat) (h : AHeap) (x : AVal) (lo hi mx : Option AVal) : Option AVal := match T.und t with
  | some .string => match x, lo, hi, mx with
    | .lit (.string s), lo, hi, none => (bndO lo 0).bind fun l => (bndO hi s.size).bind fun r => (cutS s l r).bind fun z => some (.lit (.string z))
    | _, _, _, _ => none
  | some (.slice e) => match T.siz e with
    | some k => (intO lo).bind fun l => (intO hi).bind fun r => (intO mx).bind fun m => cutV k x l r m
    | none => none
  | some (.array n e) => match T.siz e, mx with
    | some k, none => (bndO lo 0).bind fun l => (bndO hi n).bind fun r => cutA n k h x l r
    | _, _ => none
  | _ => none
theorem xSlice_ok {T : Tab} {P : Program} (hT : T.Ok P) {t : Nat} {h : AHeap} {x v : AVal} {lo hi mx : Option AVal} {K : AVal → Prop} (hv : xSlice T t h x lo hi mx = some v) (hK : K v) : aSlice P t h x lo hi mx K := by
  unfold xSlice at hv; unfold aSlice
  split at hv
  · rename_i hu
    obtain ⟨e1, e2, e3⟩ := hT.str hu
    simp only [e2, e3]
    split at hv
    · obtain ⟨l, h1, hv⟩ := Option.bind_eq_some_iff.1 hv
      obtain ⟨r, h2, hv⟩ := Option.bind_eq_some_iff.1 hv
      obtain ⟨z, h3, hv⟩ := Option.bind_eq_some_iff.1 hv
      cases hv
      unfold cutS at h3
      obtain ⟨u, h4, h5⟩ := Option.bind_eq_some_iff.1 h3
      cases h5
      have := req_some h4
      rw [bndO_eq] at h1 h2
      simp only [h1, h2]
      exact ⟨e1, rfl, this.1, this.2.1, this.2.2, hK⟩
    · cases hv
  · rename_i hu
    obtain ⟨e1, e2⟩ := hT.slice (Tab.slice_of hu)
    simp only [e1, e2]
    split at hv
    · rename_i k hs
      simp only [hT.siz _ _ hs]
      obtain ⟨l, h1, hv⟩ := Option.bind_eq_some_iff.1 hv
      obtain ⟨r, h2, hv⟩ := Option.bind_eq_some_iff.1 hv
      obtain ⟨m, h3, hv⟩ := Option.bind_eq_some_iff.1 hv
      have hmx : ∀ (len : Nat), (∀ m', m = some m' → r.isSome = true ∧ r.getD len ≤ m' ∧ m' ≤ len) → mxOk hi mx (r.getD len) len := by
        intro len hm
        unfold mxOk
        unfold intO at h3
        split at h3
        · trivial
        · cases h3
          obtain ⟨a1, a2, a3⟩ := hm _ rfl
          exact ⟨by rw [(intO_bnd h2 0).2]; exact a1, a2, a3⟩
        · cases h3
      unfold cutV at hv
      split at hv
      · split at hv
        · rename_i hk
          obtain ⟨u, h4, h5⟩ := Option.bind_eq_some_iff.1 hv
          cases h5
          obtain ⟨a1, a2, a3, a4⟩ := req_some h4
          simp only [(intO_bnd h1 0).1, (intO_bnd h2 _).1]
          exact ⟨Nat.eq_of_beq_eq_true hk, a1, a2, a3, hmx _ a4, hK⟩
        · cases hv
      · obtain ⟨u, h4, h5⟩ := Option.bind_eq_some_iff.1 hv
        cases h5
        obtain ⟨a1, a2, a3, a4⟩ := req_some h4
        simp only [(intO_bnd h1 0).1, (intO_bnd h2 _).1]
        exact ⟨a1, a2, a3, hmx _ a4, hK⟩
      · obtain ⟨u, h4, h5⟩ := Option.bind_eq_some_iff.1 hv
        cases h5
        obtain ⟨a1, a2, a3⟩ := req_some h4
        simp only [(intO_bnd h1 0).1, (intO_bnd h2 _).1]
        refine ⟨a1, a2, ?_, hK⟩
        unfold intO at h3
        split at h3
        · rfl
        · cases h3; simp at a3
        · cases h3
      · cases hv
    · cases hv
  · rename_i hu
    simp only [hT.array (Tab.array_of hu)]
    split at hv
    · rename_i k hs
      simp only [hT.siz _ _ hs]
      obtain ⟨l, h1, hv⟩ := Option.bind_eq_some_iff.1 hv
      obtain ⟨r, h2, hv⟩ := Option.bind_eq_some_iff.1 hv
      rw [bndO_eq] at h1 h2
      unfold cutA at hv
      split at hv
      · obtain ⟨cs, h3, hv⟩ := Option.bind_eq_some_iff.1 hv
        obtain ⟨u, h4, hv⟩ := Option.bind_eq_some_iff.1 hv
        cases hv
        obtain ⟨a1, a2, a3, a4⟩ := req_some h4
        simp only [h1, h2, cellsAt_some h3]
        exact ⟨rfl, a1, a2, a3, a4, hK⟩
      · cases hv
    · cases hv
  · cases hv
/-! Small ones -/
def nilCk (x : AVal) : Option AVal := match x with
  | .ptr b o => some (.ptr b o)
  | .rop cs => some (.rop cs)
  | .fn (.func f) vs ws => some (.fn (.func f) vs ws)
  | .fn (.yield f) vs ws => some (.fn (.yield f) vs ws)
  | _ => none
def lenV (x : AVal) : Option Int := match x with
  | .sl _ _ _ len => some len
  | .ros _ len => some len
  | .lit (.slice _ len _) => some len
  | _ => none
def xLen (T : Tab) (t : Nat) (x : AVal) : Option AVal := match T.und t with
  | some (.array n _) => some (.lit (.int .i64 n))
  | some (.slice _) => (lenV x).bind fun n => some (.lit (.int .i64 n))
  | some .string => (asS x).bind fun s => some (.lit (.int .i64 s.size))
  | _ => none
theorem xLen_ok {T : Tab} {P : Program} (hT : T.Ok P) {t : Nat} {x v : AVal} {K : AVal → Prop} (h : xLen T t x = some v) (hK : K v) : aLen P t x K := by
  unfold xLen at h; unfold aLen
  split at h
  · rename_i hu
    simp only [hT.array (Tab.array_of hu)]
    cases h; exact hK
  · rename_i hu
    obtain ⟨e1, e2⟩ := hT.slice (Tab.slice_of hu)
    simp only [e1, e2]
    obtain ⟨n, h1, h2⟩ := Option.bind_eq_some_iff.1 h
    cases h2
    unfold lenV at h1
    split at h1 <;> cases h1 <;> exact hK
  · rename_i hu
    obtain ⟨e1, e2, e3⟩ := hT.str hu
    simp only [e2, e3]
    obtain ⟨s, h1, h2⟩ := Option.bind_eq_some_iff.1 h
    cases h2
    rw [asS_some h1]
    exact ⟨e1, hK⟩
  · cases h
def xMM (f : Int → Int → Int) : List AVal → Option AVal
  | [.lit (.int k a), .lit (.int _ b)] => some (.lit (.int k (f a b)))
  | [.lit (.int k a), .lit (.int _ b), .lit (.int _ c)] => some (.lit (.int k (f (f a b) c)))
  | _ => none
theorem xMM_ok {f : Int → Int → Int} {l : List AVal} {v : AVal} {K : AVal → Prop} (h : xMM f l = some v) (hK : K v) : aMinMax f l K := by
  unfold xMM at h; unfold aMinMax
  split at h <;> cases h <;> exact hK
def xIface (T : Tab) (t : Nat) (x : AVal) : Option AVal := match T.und t with
  | some (.interface _) => none
  | some _ => some (.ifc t x)
  | none => none
theorem xIface_ok {T : Tab} {P : Program} (hT : T.Ok P) {t : Nat} {x v : AVal} {K : AVal → Prop} (h : xIface T t x = some v) (hK : K v) : aIface P t x K := by
  unfold xIface at h; unfold aIface
  split at h
  · cases h
  · rename_i d hn hu
    cases h
    rw [hT.und _ _ hu]
    refine ⟨?_, hK⟩
    split
    · rename_i h2; cases h2; exact (hn _ rfl).elim
    · trivial
    · contradiction
  · cases h
def xAssert (T : Tab) (x : AVal) (t : Nat) (ok : Bool) : Option AVal := match T.und t with
  | some (.interface _) => none
  | some _ => match x with
    | .ifc s v => match Nat.beq s t with
      | true => some (match ok with | true => .tup [v, .lit (.bool true)] | false => v)
      | false => match ok, T.zer t with
        | true, some z => some (.tup [z, .lit (.bool false)])
        | _, _ => none
    | .lit .nilIface => match ok, T.zer t with
      | true, some z => some (.tup [z, .lit (.bool false)])
      | _, _ => none
    | _ => none
  | none => none
theorem xAssert_ok {T : Tab} {P : Program} (hT : T.Ok P) {t : Nat} {ok : Bool} {x v : AVal} {K : AVal → Prop} (h : xAssert T x t ok = some v) (hK : K v) : aAssert P x t ok K := by
  unfold xAssert at h; unfold aAssert
  split at h
  · cases h
  · rename_i d hn hu
    rw [hT.und _ _ hu]
    refine ⟨?_, ?_⟩
    · split
      · rename_i h2; cases h2; exact (hn _ rfl).elim
      · trivial
      · contradiction
    · split at h
      · split at h
        · rename_i hb
          simp only [if_pos (Nat.eq_of_beq_eq_true hb)]
          cases ok <;> cases h <;> exact hK
        · rename_i hb
          simp only [if_neg (Nat.ne_of_beq_eq_false hb)]
          split at h
          · rename_i hz
            simp only [hT.zer _ _ hz]
            cases h; exact ⟨trivial, hK⟩
          · cases h
      · split at h
        · rename_i hz
          simp only [hT.zer _ _ hz]
          cases h; exact ⟨trivial, hK⟩
        · cases h
      · cases h
  · cases h
def mapO {α β : Type} (f : α → Option β) : List α → Option (List β)
  | [] => some []
  | x :: l => (f x).bind fun y => (mapO f l).bind fun ys => some (y :: ys)
def Tab.places (T : Tab) (t : Nat) : Option (List (Nat × Nat)) := match T.und t with
  | some (.struct fs) => mapO (fun f => (T.siz f.type).bind fun n => some (f.offset, n)) fs.toList
  | _ => none
def xBuild (T : Tab) (t : Nat) (parts : List (Nat × AVal)) : Option AVal := match T.zer t with
  | none => none
  | some z => match z.parts with
    | none => none
    | some zs => match T.und t with
      | some (.struct _) => (T.places t).bind fun ps => (aFill (ps[·]?) zs parts).bind fun cs => some (.agg cs)
      | some (.array _ e) => match T.siz e with
        | some k => (aFill (fun i => some (i * k, k)) zs parts).bind fun cs => some (.agg cs)
        | none => none
      | _ => none
theorem places_ok {T : Tab} {P : Program} (hT : T.Ok P) {t : Nat} {ps : List (Nat × Nat)} (h : T.places t = some ps) : tyPlaces P t = some ps := by
  unfold Tab.places at h
  split at h
  · rename_i fs hu
    unfold tyPlaces
    rw [hT.und _ _ hu]
    simp only
    have key : ∀ (l : List Field) (ps : List (Nat × Nat)), mapO (fun f => (T.siz f.type).bind fun n => some (f.offset, n)) l = some ps → l.mapM (fun f => (P.info? f.type).map fun i => (f.offset, i.size)) = some ps := by
      intro l
      induction l with
      | nil => intro ps h; simpa [mapO] using h
      | cons f l ih =>
        intro ps h
        simp only [mapO] at h
        obtain ⟨y, h1, h⟩ := Option.bind_eq_some_iff.1 h
        obtain ⟨ys, h2, h⟩ := Option.bind_eq_some_iff.1 h
        cases h
        obtain ⟨n, h3, h4⟩ := Option.bind_eq_some_iff.1 h1
        cases h4
        obtain ⟨i, h5, h6⟩ := tySize_some (hT.siz _ _ h3)
        simp [List.mapM_cons, h5, h6, ih _ h2]
    exact key _ _ h
  · cases h
theorem xBuild_ok {T : Tab} {P : Program} (hT : T.Ok P) {t : Nat} {parts : List (Nat × AVal)} {v : AVal} {K : AVal → Prop} (h : xBuild T t parts = some v) (hK : K v) : aBuild P t parts K := by
  unfold xBuild at h; unfold aBuild
  split at h
  · cases h
  · rename_i z hz
    simp only [hT.zer _ _ hz]
    split at h
    · cases h
    · rename_i zs hp
      simp only [hp]
      split at h
      · rename_i hu
        obtain ⟨ps, h1, h⟩ := Option.bind_eq_some_iff.1 h
        obtain ⟨cs, h2, h⟩ := Option.bind_eq_some_iff.1 h
        cases h
        simp only [places_ok hT h1, h2]; exact hK
      · rename_i hu
        have hp2 : tyPlaces P t = none := by unfold tyPlaces; rw [hT.und _ _ hu]
        split at h
        · rename_i k hs
          obtain ⟨cs, h2, h⟩ := Option.bind_eq_some_iff.1 h
          cases h
          simp only [hp2, hT.array (Tab.array_of hu), hT.siz _ _ hs, h2]; exact hK
        · cases h
      · cases h
/-! Conversions -/
def unbyte (v : AVal) : Option UInt8 := match v with
  | .lit (.int .u8 n) => (req (0 ≤ n ∧ n < 256)).bind fun _ => some (UInt8.ofNat n.toNat)
  | _ => none
theorem unbyte_some {v : AVal} {b : UInt8} (h : unbyte v = some b) : v = byteV b := by
  unfold unbyte at h
  split at h
  · obtain ⟨u, h1, h2⟩ := Option.bind_eq_some_iff.1 h
    have := req_some h1
    cases h2
    rename_i n
    obtain ⟨m, rfl⟩ : ∃ m : Nat, n = m := ⟨n.toNat, by omega⟩
    simp [byteV]; omega
  · cases h
theorem unbyte_byteV (b : UInt8) : unbyte (byteV b) = some b := by
  have := b.toNat_lt
  unfold unbyte byteV
  simp only [req]
  rw [if_pos (by omega)]
  simp
def unbytes (l : List AVal) : Option (List UInt8) := mapO unbyte l
theorem unbytes_some : ∀ {l : List AVal} {bs : List UInt8}, unbytes l = some bs → l = bs.map byteV
  | [], bs, h => by cases h; rfl
  | v :: l, bs, h => by
    unfold unbytes mapO at h
    obtain ⟨y, h1, h⟩ := Option.bind_eq_some_iff.1 h
    obtain ⟨ys, h2, h⟩ := Option.bind_eq_some_iff.1 h
    cases h
    rw [unbyte_some h1, unbytes_some (l := l) h2]; rfl
theorem unbytes_map (bs : List UInt8) : unbytes (bs.map byteV) = some bs := by
  induction bs with
  | nil => rfl
  | cons b bs ih => unfold unbytes at ih ⊢; simp [mapO, unbyte_byteV, ih]
/-- The bytes of a slice of bytes. -/
def bytesOf (h : AHeap) (x : AVal) : Option ByteArray := match x with
  | .sl 1 b off len => (cellsAt h b).bind fun cs => (unbytes ((cs.drop off).take len)).bind fun l => (req (l.length = len)).bind fun _ => some ⟨l.toArray⟩
  | .ros cs len => (unbytes (cs.take len)).bind fun l => (req (l.length = len)).bind fun _ => some ⟨l.toArray⟩
  | _ => none
def numOf (x : AVal) : Option Int := match x with
  | .lit (.int _ n) => some n
  | _ => none
theorem numOf_some {x : AVal} {n : Int} (h : numOf x = some n) : ∃ k, x = .lit (.int k n) := by
  unfold numOf at h; split at h <;> cases h; exact ⟨_, rfl⟩
def xConvQ (T : Tab) (src dst : Nat) (x : AVal) (h : AHeap) : Option AVal := match T.und src, T.und dst with
  | some (.int _), some (.int k) => (numOf x).bind fun n => some (.lit (.int k (k.wrap n)))
  | some (.int _), some .string => (numOf x).bind fun n => some (.lit (.string (Utf8.encode n)))
  | some .string, some .string => (asS x).bind fun s => some (.lit (.string s))
  | some (.slice e), some .string => match T.und e with
    | some (.int .u8) => (bytesOf h x).bind fun s => some (.lit (.string s))
    | _ => none
  | _, _ => none
theorem xConvQ_ok {T : Tab} {P : Program} (hT : T.Ok P) {src dst : Nat} {x v : AVal} {h : AHeap} {K : AVal → AHeap → Prop} (hv : xConvQ T src dst x h = some v) (hK : K v h) : aConv P src dst x h K := by
  unfold xConvQ at hv; unfold aConv
  split at hv
  · rename_i h1 h2
    refine ⟨by rw [hT.und _ _ h1]; rfl, ?_⟩
    obtain ⟨n, h3, hv⟩ := Option.bind_eq_some_iff.1 hv
    obtain ⟨k0, rfl⟩ := numOf_some h3
    simp only [hT.und _ _ h2]; cases hv; exact hK
  · rename_i h1 h2
    refine ⟨by rw [hT.und _ _ h1]; rfl, ?_⟩
    obtain ⟨n, h3, hv⟩ := Option.bind_eq_some_iff.1 hv
    obtain ⟨k0, rfl⟩ := numOf_some h3
    simp only [hT.und _ _ h2]; cases hv; exact hK
  · rename_i h1 h2
    refine ⟨by rw [hT.und _ _ h1]; rfl, ?_⟩
    obtain ⟨s, h3, hv⟩ := Option.bind_eq_some_iff.1 hv
    cases hv
    rw [asS_some h3]
    simp only [hT.und _ _ h2]; exact hK
  · rename_i e h1 h2
    refine ⟨by rw [hT.und _ _ h1]; rfl, ?_⟩
    split at hv
    · rename_i he
      have hss : tySlice P src = some e := (hT.slice (Tab.slice_of h1)).1
      have hie : tyInt P e = some .u8 := hT.int (Tab.int_of he)
      obtain ⟨s, h3, h4⟩ := Option.bind_eq_some_iff.1 hv
      cases h4
      unfold bytesOf at h3
      split at h3
      · obtain ⟨cs, h4, h3⟩ := Option.bind_eq_some_iff.1 h3
        obtain ⟨l, h5, h3⟩ := Option.bind_eq_some_iff.1 h3
        obtain ⟨u, h6, h3⟩ := Option.bind_eq_some_iff.1 h3
        cases h3
        simp only [hT.und _ _ h2]
        refine ⟨by simp only [hss]; exact hie, l, ?_, req_some h6, hK⟩
        simp only [cellsAt_some h4]; exact unbytes_some h5
      · obtain ⟨l, h5, h3⟩ := Option.bind_eq_some_iff.1 h3
        obtain ⟨u, h6, h3⟩ := Option.bind_eq_some_iff.1 h3
        cases h3
        simp only [hT.und _ _ h2]
        exact ⟨by simp only [hss]; exact hie, l, unbytes_some h5, req_some h6, hK⟩
      · cases h3
    · cases hv
  · cases hv
/-! Maps -/
def mkEq : MKey → MKey → Bool
  | .str, .str => true
  | .bool, .bool => true
  | .int k, .int k' => kindEq k k'
  | _, _ => false
theorem mkEq_eq {a b : MKey} (h : mkEq a b = true) : a = b := by
  cases a <;> cases b <;> first | rfl | (cases h; done) | (rw [kindEq_eq h])
def keyOkB : MKey → Value → Bool
  | .str, .string _ => true
  | .bool, .bool _ => true
  | .int k, .int k' _ => kindEq k' k
  | _, _ => false
theorem keyOkB_ok {d : MKey} {u : Value} (h : keyOkB d u = true) : MapKept.IsKey d.desc u := by
  cases d <;> cases u <;> first | trivial | (cases h; done) | (exact kindEq_eq h)
def mapAt (d : MKey) (h : AHeap) (x : AVal) : Option (List (Value × AVal)) := match x with
  | .lit (.map none) => some []
  | .map b => match h[b]? with
    | some (.map d' es) => match mkEq d' d with
      | true => some es
      | false => none
    | _ => none
  | _ => none
def mlook (z : AVal) (u : Value) (es : List (Value × AVal)) : AVal × Bool := match mfind u es with
  | some (_, v) => (v, true)
  | none => (z, false)
def xLookup (T : Tab) (t : Nat) (h : AHeap) (x k : AVal) (ok : Bool) : Option AVal := match T.mkey t, k with
  | some (d, _, et), .lit u => match keyOkB d u, T.zer et with
    | true, some z => (mapAt d h x).bind fun es => some (mres ok (mlook z u es).1 (mlook z u es).2)
    | _, _ => none
  | _, _ => none
theorem xLookup_ok {T : Tab} {P : Program} (hT : T.Ok P) {t : Nat} {h : AHeap} {x k v : AVal} {ok : Bool} {K : AVal → Prop} (hv : xLookup T t h x k ok = some v) (hK : K v) : aLookup P t h x k ok K := by
  unfold xLookup at hv; unfold aLookup
  split at hv
  · rename_i d kt et u ht
    simp only [(hT.mkey ht).1]
    split at hv
    · rename_i z hk hz
      refine ⟨keyOkB_ok hk, ?_⟩
      simp only [hT.zer _ _ hz]
      obtain ⟨es, h1, h2⟩ := Option.bind_eq_some_iff.1 hv
      cases h2
      unfold mapAt at h1
      split at h1
      · cases h1; exact hK
      · split at h1
        · rename_i d' es' hb
          split at h1
          · rename_i he
            cases h1
            simp only [hb]
            refine ⟨mkEq_eq he, ?_⟩
            unfold mlook at hK
            split at hK <;> (rename_i hm; simp only [hm]; exact hK)
          · cases h1
        · cases h1
      · cases h1
    · cases hv
  · cases hv
def xMapLen (h : AHeap) (x : AVal) : Option AVal := match x with
  | .lit (.map none) => some (.lit (.int .i64 0))
  | .map b => match h[b]? with
    | some (.map _ es) => some (.lit (.int .i64 es.length))
    | _ => none
  | _ => none
theorem xMapLen_ok {h : AHeap} {x v : AVal} {K : AVal → Prop} (hv : xMapLen h x = some v) (hK : K v) : aMapLen h x K := by
  unfold xMapLen at hv; unfold aMapLen
  split at hv
  · cases hv; exact hK
  · split at hv
    · rename_i hb; simp only [hb]; cases hv; exact hK
    · cases hv
  · cases hv
def evsF (g : Operand → AVal) (xs : Array Operand) : List AVal := xs.toList.map g
/-- Operations that leave the heap: what they hand back. -/
def xq (T : Tab) (o : Op) (g : Operand → AVal) (h : AHeap) : Option AVal := match o with
  | .move x | .assign x => some (g x)
  | .pick c x y => (asB (g c)).bind fun b => some (match b with | true => g x | false => g y)
  | .load t x => xLoad T t h (g x)
  | .nilCheck x => nilCk (g x)
  | .binOp op t x y _ => xBin T op t x y (g x) (g y)
  | .unOp op _ x => xUn op (g x)
  | .convert s d x => xConvQ T s d (g x) h
  | .makeInterface t x => xIface T t (g x)
  | .makeFunc f xs ys => some (.fn f (evsF g xs) (evsF g ys))
  | .build t ps => xBuild T t (ps.toList.map fun p => (p.1, g p.2))
  | .slice t x lo hi mx => xSlice T t h (g x) (lo.map g) (hi.map g) (mx.map g)
  | .fieldAddr t x i => xField T t (g x) i
  | .field t x i => xFieldV T t (g x) i
  | .indexAddr t x i => xIndexAddr T t (g x) (g i)
  | .index t x i => xIndex T t (g x) (g i)
  | .extract x i => xExtract (g x) i
  | .typeAssert x _ t ok => xAssert T (g x) t ok
  | .lookup t x k ok => xLookup T t h (g x) (g k) ok
  | .call { callee := .builtin b, args, argTypes } => match b, args.toList, argTypes.toList with
    | .len, [x], [t] => match T.und t with
      | some (.map _ _) => xMapLen h (g x)
      | _ => xLen T t (g x)
    | .max, _, _ => xMM maxI (evsF g args)
    | .min, _, _ => xMM minI (evsF g args)
    | _, _, _ => none
  | _ => none
theorem xq_ok {T : Tab} {P : Program} (hT : T.Ok P) {o : Op} {ty : Nat} {a : List AVal} {h : AHeap} {v : AVal} {K : AVal → AHeap → Prop} (hv : xq T o (aEval a) h = some v) (hK : K v h) : AOp P o ty a h K := by
  unfold xq at hv
  cases o with
  | move x => simp only [AOp] at *; cases hv; exact hK
  | assign x => simp only [AOp] at *; cases hv; exact hK
  | pick c x y =>
    simp only [AOp] at *
    obtain ⟨b, h1, h2⟩ := Option.bind_eq_some_iff.1 hv
    rw [asB_some h1]
    cases h2
    cases b <;> exact hK
  | load t x => exact xLoad_ok (K := fun v => K v h) hT hv hK
  | nilCheck x =>
    simp only [AOp, nilCk] at *
    split at hv <;> first | (rename_i e; rw [e]; cases hv; exact hK) | cases hv
  | binOp op t x y yt => exact xBin_ok (K := fun v => K v h) hT hv hK
  | unOp op t x => exact xUn_ok (K := fun v => K v h) hv hK
  | convert s d x => exact xConvQ_ok hT hv hK
  | makeInterface t x => exact xIface_ok (K := fun v => K v h) hT hv hK
  | makeFunc f xs ys => simp only [AOp] at *; cases hv; exact hK
  | build t ps => exact xBuild_ok (K := fun v => K v h) hT hv hK
  | slice t x lo hi mx => exact xSlice_ok (K := fun v => K v h) hT hv hK
  | fieldAddr t x i => exact xField_ok (K := fun v => K v h) hT hv hK
  | field t x i => exact xFieldV_ok (K := fun v => K v h) hT hv hK
  | indexAddr t x i => exact xIndexAddr_ok (K := fun v => K v h) hT hv hK
  | index t x i => exact xIndex_ok (K := fun v => K v h) hT hv hK
  | extract x i => exact xExtract_ok (K := fun v => K v h) hv hK
  | typeAssert x xt t ok => exact xAssert_ok (K := fun v => K v h) hT hv hK
  | lookup t x k ok => exact xLookup_ok (K := fun v => K v h) hT hv hK
  | call c =>
    obtain ⟨callee, args, argTypes⟩ := c
    cases callee with
    | builtin b =>
      simp only at hv
      simp only [AOp]
      split at hv
      · rename_i e1 e2
        simp only [e1, e2]
        split at hv
        · rename_i hu
          simp only [hT.und _ _ hu]
          exact xMapLen_ok (K := fun v => K v h) hv hK
        · rename_i hn
          have hl := xLen_ok (K := fun v => K v h) hT hv hK
          unfold xLen at hv
          split at hv <;> first
            | (rename_i hu; simp only [hT.und _ _ hu]; exact hl)
            | cases hv
      · exact xMM_ok (K := fun v => K v h) hv hK
      · exact xMM_ok (K := fun v => K v h) hv hK
      · cases hv
    | value f => simp at hv
    | invoke r m => simp at hv
  | _ => simp at hv
/-! More memory: what is read is the same. -/
theorem cellsAt_more {h : AHeap} {b : Nat} {cs : List AVal} (e : AHeap) (hc : cellsAt h b = some cs) : cellsAt (h ++ e) b = some cs := by
  have := cellsAt_some hc
  unfold cellsAt
  rw [List.getElem?_append_left (List.getElem?_eq_some_iff.1 this).1, this]
theorem ld1_more {h : AHeap} {v x : AVal} (e : AHeap) (hx : ld1 h v = some x) : ld1 (h ++ e) v = some x := by
  unfold ld1 at hx ⊢
  split at hx
  · obtain ⟨cs, h1, h2⟩ := Option.bind_eq_some_iff.1 hx
    simp only [cellsAt_more e h1, Option.bind_some]; exact h2
  · exact hx
  · cases hx
theorem ldn_more {n : Nat} {h : AHeap} {v : AVal} {xs : List AVal} (e : AHeap) (hx : ldn n h v = some xs) : ldn n (h ++ e) v = some xs := by
  unfold ldn at hx ⊢
  split at hx
  · obtain ⟨cs, h1, h2⟩ := Option.bind_eq_some_iff.1 hx
    simp only [cellsAt_more e h1, Option.bind_some]; exact h2
  · exact hx
  · cases hx
theorem bytesOf_more {h : AHeap} {v : AVal} {s : ByteArray} (e : AHeap) (hx : bytesOf h v = some s) : bytesOf (h ++ e) v = some s := by
  unfold bytesOf at hx ⊢
  split at hx
  · obtain ⟨cs, h1, h2⟩ := Option.bind_eq_some_iff.1 hx
    simp only [cellsAt_more e h1, Option.bind_some]; exact h2
  · exact hx
  · cases hx
theorem obj_more {h : AHeap} {b : Nat} {o : AObj} (e : AHeap) (hb : h[b]? = some o) : (h ++ e)[b]? = some o := by
  rw [List.getElem?_append_left (List.getElem?_eq_some_iff.1 hb).1, hb]
theorem mapAt_more {d : MKey} {h : AHeap} {x : AVal} {es : List (Value × AVal)} (e : AHeap) (hx : mapAt d h x = some es) : mapAt d (h ++ e) x = some es := by
  unfold mapAt at hx ⊢
  split at hx
  · exact hx
  · split at hx
    · rename_i hb
      simp only [obj_more e hb]; exact hx
    · cases hx
  · cases hx
theorem xMapLen_more {h : AHeap} {x v : AVal} (e : AHeap) (hx : xMapLen h x = some v) : xMapLen (h ++ e) x = some v := by
  unfold xMapLen at hx ⊢
  split at hx
  · exact hx
  · split at hx
    · rename_i hb
      simp only [obj_more e hb]; exact hx
    · cases hx
  · cases hx
theorem xq_more {T : Tab} {o : Op} {g : Operand → AVal} {h : AHeap} {v : AVal} (e : AHeap) (hx : xq T o g h = some v) : xq T o g (h ++ e) = some v := by
  cases o with
  | load t x =>
    change xLoad T t h (g x) = some v at hx
    show xLoad T t (h ++ e) (g x) = some v
    unfold xLoad at hx ⊢
    split at hx
    · rename_i ha; exact ld1_more e hx
    · rename_i ha
      split at hx
      · rename_i n hs
        obtain ⟨xs, h1, h2⟩ := Option.bind_eq_some_iff.1 hx
        simp only [ldn_more e h1]; exact h2
      · cases hx
    · cases hx
  | convert s d x =>
    change xConvQ T s d (g x) h = some v at hx
    show xConvQ T s d (g x) (h ++ e) = some v
    unfold xConvQ at hx ⊢
    split at hx
    · exact hx
    · exact hx
    · exact hx
    · split at hx
      · obtain ⟨s, h1, h2⟩ := Option.bind_eq_some_iff.1 hx
        rw [bytesOf_more e h1]; exact h2
      · cases hx
    · cases hx
  | slice t x lo hi mx =>
    change xSlice T t h (g x) (lo.map g) (hi.map g) (mx.map g) = some v at hx
    show xSlice T t (h ++ e) (g x) (lo.map g) (hi.map g) (mx.map g) = some v
    unfold xSlice at hx ⊢
    split at hx
    · exact hx
    · exact hx
    · split at hx
      · obtain ⟨l, h1, hx⟩ := Option.bind_eq_some_iff.1 hx
        obtain ⟨r, h2, hx⟩ := Option.bind_eq_some_iff.1 hx
        simp only [h1, h2, Option.bind_some]
        unfold cutA at hx ⊢
        split at hx
        · obtain ⟨cs, h3, hx⟩ := Option.bind_eq_some_iff.1 hx
          simp only [cellsAt_more e h3, Option.bind_some]; exact hx
        · cases hx
      · cases hx
    · cases hx
  | lookup t x k ok =>
    change xLookup T t h (g x) (g k) ok = some v at hx
    show xLookup T t (h ++ e) (g x) (g k) ok = some v
    unfold xLookup at hx ⊢
    split at hx
    · split at hx
      · obtain ⟨es, h1, h2⟩ := Option.bind_eq_some_iff.1 hx
        rw [mapAt_more e h1]; exact h2
      · cases hx
    · cases hx
  | call c =>
    obtain ⟨callee, args, argTypes⟩ := c
    cases callee with
    | builtin b =>
      unfold xq at hx ⊢
      simp only at hx ⊢
      split at hx
      · rename_i e1 e2
        (try simp only [e1, e2])
        split at hx
        · rename_i hu; (try simp only [hu]); exact xMapLen_more e hx
        · exact hx
      · exact hx
      · exact hx
      · cases hx
    | _ => exact hx
  | _ => exact hx
end Go.Proofs.Ytglmofbcooefkaa.AL
