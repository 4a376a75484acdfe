import Derived.Test.YteahajcgbogjkaaGreatG2
import Derived.Scope
import Derived.Test.YteahajcgbogjkaaGreatProg
import Derived.KernelRfl
/- Operations that turn the heap, reckoned; frames; calls; regions. -/
namespace Go.Proofs.YteahajcgbogjkaaGreat.AL
set_option linter.unusedVariables false
set_option linter.unusedSimpArgs false
open Go

def newO (h : AHeap) (cs : List AVal) : AVal × AHeap := (.ptr h.length 0, h ++ [.cells cs])
def st1 (h : AHeap) (p x : AVal) : Option AHeap := match p with
  | .ptr b off => (cellsAt h b).bind fun cs => (req (x.one = true ∧ off < cs.length)).bind fun _ => some (h.set b (.cells (cs.set off x)))
  | _ => none
def stn (n : Nat) (h : AHeap) (p : AVal) (vs : List AVal) : Option AHeap := match p with
  | .ptr b off => (cellsAt h b).bind fun cs => (req (vs.all (·.one) = true ∧ n = vs.length ∧ off + vs.length ≤ cs.length)).bind fun _ => some (h.set b (.cells (splice cs off vs)))
  | _ => none
def xStore (T : Tab) (t : Nat) (h : AHeap) (p x : AVal) : Option AHeap := match T.agg t, T.siz t with
  | some false, some 1 => st1 h p x
  | some true, some n => x.parts.bind fun vs => stn n h p vs
  | _, _ => none
theorem xStore_ok {T : Tab} {P : Program} (hT : T.Ok P) {t : Nat} {h g : AHeap} {p x : AVal} {K : AHeap → Prop} (hv : xStore T t h p x = some g) (hK : K g) : aStore P t h p x K := by
  unfold xStore at hv; unfold aStore
  split at hv
  · rename_i ha hs
    unfold st1 at hv
    split at hv
    · obtain ⟨cs, h1, hv⟩ := Option.bind_eq_some_iff.1 hv
      obtain ⟨u, h2, hv⟩ := Option.bind_eq_some_iff.1 hv
      cases hv
      simp only [cellsAt_some h1, hT.agg ha]
      exact ⟨(req_some h2).1, hT.siz _ _ hs, (req_some h2).2, hK⟩
    · cases hv
  · rename_i ha hs
    obtain ⟨vs, h0, hv⟩ := Option.bind_eq_some_iff.1 hv
    unfold stn at hv
    split at hv
    · obtain ⟨cs, h1, hv⟩ := Option.bind_eq_some_iff.1 hv
      obtain ⟨u, h2, hv⟩ := Option.bind_eq_some_iff.1 hv
      cases hv
      obtain ⟨a1, a2, a3⟩ := req_some h2
      subst a2
      simp only [cellsAt_some h1, hT.agg ha, h0]
      exact ⟨a1, hT.siz _ _ hs, a3, hK⟩
    · cases hv
  · cases hv
def mkS (k b : Nat) (zs : List AVal) (l c : Int) (h : AHeap) : Option (AVal × AHeap) :=
  (req (0 ≤ l ∧ l ≤ c ∧ b * c ≤ 140737488355328 ∧ c ≤ 9223372036854775807)).bind fun _ => some (.sl k h.length 0 l.toNat, h ++ [.cells (List.replicate l.toNat zs).flatten])
def xMake (T : Tab) (t : Nat) (l c : AVal) (h : AHeap) : Option (AVal × AHeap) := match T.und t, l, c with
  | some (.slice e), .lit (.int _ l), .lit (.int _ c) => match T.siz e, T.byt e, T.zer e with
    | some k, some b, some z => match z.parts with
      | some zs => match Nat.beq zs.length k with
        | true => mkS k b zs l c h
        | false => none
      | none => none
    | _, _, _ => none
  | _, _, _ => none
theorem xMake_ok {T : Tab} {P : Program} (hT : T.Ok P) {t : Nat} {l c : AVal} {h : AHeap} {r : AVal × AHeap} {K : AVal → AHeap → Prop} (hv : xMake T t l c h = some r) (hK : K r.1 r.2) : aMake P t l c h K := by
  unfold xMake at hv; unfold aMake
  split at hv
  · rename_i hu
    simp only [(hT.slice (Tab.slice_of hu)).1]
    split at hv
    · rename_i h1 h2 h3
      simp only [hT.siz _ _ h1, hT.byt _ _ h2, hT.zer _ _ h3]
      split at hv
      · rename_i hp
        simp only [hp]
        split at hv
        · rename_i hk
          unfold mkS at hv
          obtain ⟨u, h4, h5⟩ := Option.bind_eq_some_iff.1 hv
          cases h5
          obtain ⟨a1, a2, a3, a4⟩ := req_some h4
          exact ⟨Nat.eq_of_beq_eq_true hk, a1, a2, a3, a4, hK⟩
        · cases hv
      · cases hv
    · cases hv
  · cases hv
def blitS (k : Nat) (zs : List AVal) (len : Nat) (parts : List (Nat × AVal)) (h : AHeap) : Option (AVal × AHeap) :=
  (req (len * k ≤ 16777216)).bind fun _ => (aFill (fun i => some (i * k, k)) (List.replicate len zs).flatten parts).bind fun cs => some (.sl k h.length 0 len, h ++ [.cells cs])
def xBuildSlice (T : Tab) (t : Nat) (len : Nat) (parts : List (Nat × AVal)) (h : AHeap) : Option (AVal × AHeap) := match T.und t with
  | some (.slice e) => match T.siz e, T.zer e with
    | some k, some z => match z.parts with
      | some zs => match Nat.beq zs.length k with
        | true => blitS k zs len parts h
        | false => none
      | none => none
    | _, _ => none
  | _ => none
theorem xBuildSlice_ok {T : Tab} {P : Program} (hT : T.Ok P) {t len : Nat} {parts : List (Nat × AVal)} {h : AHeap} {r : AVal × AHeap} {K : AVal → AHeap → Prop} (hv : xBuildSlice T t len parts h = some r) (hK : K r.1 r.2) :
    aBuildSlice P t len parts h K := by
  unfold xBuildSlice at hv; unfold aBuildSlice
  split at hv
  · rename_i hu
    simp only [(hT.slice (Tab.slice_of hu)).1]
    split at hv
    · rename_i h1 h3
      simp only [hT.siz _ _ h1, hT.zer _ _ h3]
      split at hv
      · rename_i hp
        simp only [hp]
        split at hv
        · rename_i hk
          unfold blitS at hv
          obtain ⟨u, h4, hv⟩ := Option.bind_eq_some_iff.1 hv
          obtain ⟨cs, h5, hv⟩ := Option.bind_eq_some_iff.1 hv
          cases hv
          refine ⟨Nat.eq_of_beq_eq_true hk, req_some h4, ?_⟩
          simp only [h5]; exact hK
        · cases hv
      · cases hv
    · cases hv
  · cases hv
def toBytes (s : ByteArray) (h : AHeap) : AVal × AHeap := (.sl 1 h.length 0 s.size, h ++ [.cells (s.data.toList.map byteV)])
def xConvL (T : Tab) (src dst : Nat) (x : AVal) (h : AHeap) : Option (AVal × AHeap) := match T.und src, T.und dst, x with
  | some _, some (.slice e), .lit (.string s) => match T.und e with
    | some (.int .u8) => some (toBytes s h)
    | _ => none
  | _, _, _ => none
theorem xConvL_ok {T : Tab} {P : Program} (hT : T.Ok P) {src dst : Nat} {x : AVal} {h : AHeap} {r : AVal × AHeap} {K : AVal → AHeap → Prop} (hv : xConvL T src dst x h = some r) (hK : K r.1 r.2) : aConv P src dst x h K := by
  unfold xConvL at hv; unfold aConv
  split at hv
  · rename_i h1 h2
    refine ⟨by rw [hT.und _ _ h1]; rfl, ?_⟩
    simp only [hT.und _ _ h2]
    split at hv
    · rename_i he
      cases hv
      exact ⟨hT.int (Tab.int_of he), hK⟩
    · cases hv
  · cases hv
/-- 'append': k cells an element, b bytes. -/
def appV (k b : Nat) (h : AHeap) (s x : AVal) : Option (AVal × AHeap) :=
  (srcLen x).bind fun n => (srcCells h k x n).bind fun ns => match s with
    | .lit (.slice none 0 0) => (req (n * b ≤ 140737488355328)).bind fun _ => some (if n = 0 then (.lit (.slice none 0 0), h) else (.sl k h.length 0 n, h ++ [.cells ns]))
    | .sl k' o off len => (cellsAt h o).bind fun cs => (req (k' = k ∧ off + len * k ≤ cs.length ∧ (len + n) * b ≤ 140737488355328 ∧ ns.all (·.one) = true)).bind fun _ =>
        some (.sl k h.length 0 (len + n), h.set o .dead ++ [.cells ((cs.drop off).take (len * k) ++ ns)])
    | _ => none
def xAppend (T : Tab) (sT xT : Nat) (h : AHeap) (s x : AVal) : Option (AVal × AHeap) := match T.und sT, T.und xT, T.fit sT with
  | some (.slice e), some d, true => match d with
    | .int _ => none
    | _ => match T.siz e, T.byt e, T.zer e with
      | some k, some (b + 1), some _ => appV k (b + 1) h s x
      | _, _, _ => none
  | _, _, _ => none
theorem xAppend_ok {T : Tab} {P : Program} (hT : T.Ok P) {sT xT : Nat} {s x : AVal} {h : AHeap} {r : AVal × AHeap} {K : AVal → AHeap → Prop} (hv : xAppend T sT xT h s x = some r) (hK : K r.1 r.2) :
    zeroFits P sT ∧ aAppend P sT xT h s x K := by
  unfold xAppend at hv
  split at hv
  · rename_i h1 h2 h3
    refine ⟨hT.fit _ h3, ?_⟩
    unfold aAppend
    split at hv
    · cases hv
    · rename_i d hn
      refine ⟨?_, ?_⟩
      · rw [hT.und _ _ h2]
        split
        · rename_i e; cases e; exact (hn _ rfl).elim
        · trivial
        · contradiction
      · simp only [(hT.slice (Tab.slice_of h1)).1]
        split at hv
        · rename_i g1 g2 g3
          simp only [hT.siz _ _ g1, hT.byt _ _ g2, hT.zer _ _ g3]
          unfold appV at hv
          obtain ⟨n, e1, hv⟩ := Option.bind_eq_some_iff.1 hv
          obtain ⟨ns, e2, hv⟩ := Option.bind_eq_some_iff.1 hv
          simp only [e1, e2]
          split at hv
          · obtain ⟨u, e3, hv⟩ := Option.bind_eq_some_iff.1 hv
            refine ⟨req_some e3, fun h0 => ?_, fun h0 => ?_⟩
            · rw [if_pos h0] at hv; cases hv; exact hK
            · rw [if_neg h0] at hv; cases hv; exact hK
          · obtain ⟨cs, e3, hv⟩ := Option.bind_eq_some_iff.1 hv
            obtain ⟨u, e4, hv⟩ := Option.bind_eq_some_iff.1 hv
            cases hv
            obtain ⟨a1, a2, a3, a4⟩ := req_some e4
            simp only [cellsAt_some e3]
            exact ⟨a1, a2, a3, a4, hK⟩
          · cases hv
        · cases hv
  · cases hv
def cpyV (k : Nat) (h : AHeap) (d x : AVal) : Option (AVal × AHeap) := match d with
  | .sl k' b off len => (srcLen x).bind fun n => (cellsAt h b).bind fun cs => (srcCells h k x (min n len)).bind fun ns =>
      (req (k' = k ∧ off + (min n len) * k ≤ cs.length ∧ ns.all (·.one) = true)).bind fun _ => some (.lit (.int .i64 (min n len : Nat)), h.set b (.cells (splice cs off ns)))
  | _ => none
def xCopy (T : Tab) (dT : Nat) (h : AHeap) (d x : AVal) : Option (AVal × AHeap) := match T.und dT with
  | some (.slice e) => match T.siz e with
    | some k => cpyV k h d x
    | none => none
  | _ => none
theorem xCopy_ok {T : Tab} {P : Program} (hT : T.Ok P) {dT : Nat} {d x : AVal} {h : AHeap} {r : AVal × AHeap} {K : AVal → AHeap → Prop} (hv : xCopy T dT h d x = some r) (hK : K r.1 r.2) : aCopy P dT h d x K := by
  unfold xCopy at hv; unfold aCopy
  split at hv
  · rename_i hu
    simp only [(hT.slice (Tab.slice_of hu)).1]
    split at hv
    · rename_i hs
      simp only [hT.siz _ _ hs]
      unfold cpyV at hv
      split at hv
      · obtain ⟨n, e1, hv⟩ := Option.bind_eq_some_iff.1 hv
        obtain ⟨cs, e2, hv⟩ := Option.bind_eq_some_iff.1 hv
        obtain ⟨ns, e3, hv⟩ := Option.bind_eq_some_iff.1 hv
        obtain ⟨u, e4, hv⟩ := Option.bind_eq_some_iff.1 hv
        cases hv
        obtain ⟨a1, a2, a3⟩ := req_some e4
        simp only [e1, cellsAt_some e2, e3]
        exact ⟨a1, a2, a3, hK⟩
      · cases hv
    · cases hv
  · cases hv
/-! Maps, written -/
def mput (u : Value) (v : AVal) (es : List (Value × AVal)) : List (Value × AVal) := match mfind u es with
  | some (i, _) => es.set i (u, v)
  | none => es ++ [(u, v)]
def mdel (u : Value) (es : List (Value × AVal)) : List (Value × AVal) := match mfind u es with
  | some (i, _) => es.eraseIdx i
  | none => es
def mapSet (d : MKey) (h : AHeap) (x : AVal) (f : List (Value × AVal) → List (Value × AVal)) : Option AHeap := match x with
  | .map b => match h[b]? with
    | some (.map d' es) => match mkEq d' d with
      | true => some (h.set b (.map d (f es)))
      | false => none
    | _ => none
  | _ => none
def mapSetU (d : MKey) (h : AHeap) (x : AVal) (f : List (Value × AVal) → List (Value × AVal)) : Option AHeap := match x with
  | .map b => match h[b]? with
    | some (.map d' es) => match mkEq d' d with
      | true => some (h.set b (.map d (f es)))
      | false => none
    | some (.mapU d' es) => match mkEq d' d with
      | true => some (h.set b (.mapU d (f es)))
      | false => none
    | _ => none
  | _ => none
def xMapUpdate (T : Tab) (t : Nat) (h : AHeap) (m k v : AVal) : Option AHeap := match T.mkey t, k with
  | some (d, _, _), .lit u => match keyOkB d u with
    | true => mapSet d h m (mput u v)
    | false => none
  | _, _ => none
theorem xMapUpdate_ok {T : Tab} {P : Program} (hT : T.Ok P) {t : Nat} {h g : AHeap} {m k v : AVal} {K : AHeap → Prop} (hv : xMapUpdate T t h m k v = some g) (hK : K g) : aMapUpdate P t h m k v K := by
  unfold xMapUpdate at hv; unfold aMapUpdate
  split at hv
  · rename_i d kt et u ht
    simp only [(hT.mkey ht).1]
    split at hv
    · rename_i hk
      unfold mapSet at hv
      split at hv
      · refine ⟨keyOkB_ok hk, ?_⟩
        split at hv
        · rename_i hb
          split at hv
          · rename_i he
            cases hv
            simp only [hb]
            refine ⟨mkEq_eq he, ?_⟩
            unfold mput at hK
            split at hK <;> (rename_i hm; simp only [hm]; exact hK)
          · cases hv
        · cases hv
      · cases hv
    · cases hv
  · cases hv
def xDelete (T : Tab) (t : Nat) (h : AHeap) (m k : AVal) : Option AHeap := match T.mkey t, k with
  | some (d, _, _), .lit u => match keyOkB d u with
    | true => match m with
      | .lit (.map none) => some h
      | m => mapSetU d h m (mdel u)
    | false => none
  | _, _ => none
theorem set_self {h : AHeap} {b : Nat} {o : AObj} (hb : h[b]? = some o) : h.set b o = h := by
  apply List.ext_getElem?
  intro c
  by_cases hcb : b = c
  · subst hcb; rw [List.getElem?_set_self (lt_of_getL hb), hb]
  · rw [List.getElem?_set_ne hcb]
theorem xDelete_ok {T : Tab} {P : Program} (hT : T.Ok P) {t : Nat} {h g : AHeap} {m k : AVal} {K : AVal → AHeap → Prop} (hv : xDelete T t h m k = some g) (hK : K (.tup []) g) : aDelete P t h m k K := by
  unfold xDelete at hv; unfold aDelete
  split at hv
  · rename_i d kt et u ht
    simp only [(hT.mkey ht).1]
    split at hv
    · rename_i hk
      refine ⟨keyOkB_ok hk, ?_⟩
      split at hv
      · cases hv; exact hK
      · rename_i hn
        unfold mapSetU at hv
        split at hv
        · split at hv
          · rename_i hb
            split at hv
            · rename_i he
              cases hv
              simp only [hb]
              refine ⟨mkEq_eq he, ?_⟩
              unfold mdel at hK
              split at hK
              · rename_i hm; simp only [hm]; exact hK
              · rename_i hm
                simp only [hm]
                rw [mkEq_eq he] at hb
                rw [set_self hb] at hK
                exact hK
            · cases hv
          · rename_i hb
            split at hv
            · rename_i he
              cases hv
              simp only [hb]
              refine ⟨mkEq_eq he, ?_⟩
              unfold mdel at hK
              split at hK
              · rename_i hm; simp only [hm]; exact hK
              · rename_i hm
                simp only [hm]
                rw [mkEq_eq he] at hb
                rw [set_self hb] at hK
                exact hK
            · cases hv
          · cases hv
        · cases hv
    · cases hv
  · cases hv
def sitAt (h : AHeap) (x : AVal) : Option (Nat × ByteArray × Nat) := match x with
  | .ptr b 0 => match h[b]? with
    | some (.sit s pos) => some (b, s, pos)
    | _ => none
  | _ => none
def nextV (q : Nat × ByteArray × Nat) : AVal := .tup [.lit (.bool true), .lit (.int .i64 q.2.2), .lit (.int .i32 (Utf8.decode q.2.1 q.2.2).1)]
def nextH (h : AHeap) (q : Nat × ByteArray × Nat) : AHeap := h.set q.1 (.sit q.2.1 (q.2.2 + (Utf8.decode q.2.1 q.2.2).2))
def xNextS (h : AHeap) (x : AVal) : Option (AVal × AHeap) := (sitAt h x).bind fun q => cond (Nat.blt q.2.2 q.2.1.size) (some (nextV q, nextH h q)) (some (.tup [.lit (.bool false)], h))
theorem xNextS_ok {h : AHeap} {x : AVal} {r : AVal × AHeap} {K : AVal → AHeap → Prop} (hv : xNextS h x = some r) (hK : K r.1 r.2) : aNextS x h K := by
  unfold xNextS at hv
  obtain ⟨q, h1, h2⟩ := Option.bind_eq_some_iff.1 hv
  unfold sitAt at h1
  split at h1
  · split at h1
    · rename_i b _ s pos hb
      cases h1
      unfold aNextS
      simp only [hb]
      simp only at h2
      cases hlt : Nat.blt pos s.size with
      | true =>
        rw [hlt] at h2
        cases h2
        rw [if_pos (by rw [Nat.blt_eq] at hlt; exact hlt)]
        exact hK
      | false =>
        rw [hlt] at h2
        cases h2
        rw [if_neg (fun h => by rw [← Nat.blt_eq] at h; rw [h] at hlt; cases hlt)]
        exact hK
    · cases h1
  · cases h1
/-- A strings.Builder's zero value, where its type is marked. -/
def isBld (z : AVal) : Bool := match z with
  | .agg [.lit (.pointer none), .lit (.slice none 0 0)] => true
  | _ => false
theorem isBld_eq {z : AVal} (h : isBld z = true) : z = .agg [.lit (.pointer none), .lit (.slice none 0 0)] := by
  unfold isBld at h; split at h
  · rfl
  · cases h
def bldT (T : Tab) (t : Nat) : Bool := match T.und t with
  | some (.struct _) => T.fit t
  | _ => false
/-- Operations that turn the heap. -/
def xl (T : Tab) (o : Op) (g : Operand → AVal) (h : AHeap) : Option (AVal × AHeap) := match o with
  | .alloc t => match T.zer t with
    | some z => match T.fit t, isBld z with
      | true, true => some (.ptr h.length 0, h ++ [.bld t none 0])
      | _, _ => z.parts.bind fun vs => some (newO h vs)
    | none => none
  | .box t x => match bldT T t with
    | false => (g x).parts.bind fun vs => some (newO h vs)
    | true => match isBld (g x) with
      | true => some (.ptr h.length 0, h ++ [.bld t none 0])
      | false => (g x).parts.bind fun vs => some (newO h vs)
  | .buildSlice t len ps => xBuildSlice T t len (ps.toList.map fun p => (p.1, g p.2)) h
  | .store t p x => (xStore T t h (g p) (g x)).bind fun h' => some (.any, h')
  | .convert s d x => xConvL T s d (g x) h
  | .makeSlice t l c => xMake T t (g l) (g c) h
  | .makeMap t none => match T.mkey t with
    | some (d, _, _) => some (.map h.length, h ++ [.map d []])
    | none => none
  | .mapUpdate t m k x => (xMapUpdate T t h (g m) (g k) (g x)).bind fun h' => some (.any, h')
  | .insert t m k x => (xMapUpdate T t h (g m) (g k) (g x)).bind fun h' => some (.any, h')
  | .range t x => match T.und t with
    | some .string => (asS (g x)).bind fun s => some (.ptr h.length 0, h ++ [.sit s 0])
    | _ => none
  | .next it true => xNextS h (g it)
  | .call { callee := .builtin b, args, argTypes } => match b, args.toList, argTypes.toList with
    | .append, [s, x], [sT, xT] => xAppend T sT xT h (g s) (g x)
    | .copy, [d, x], [dT, _] => xCopy T dT h (g d) (g x)
    | .delete, [m, k], [mt, _] => (xDelete T mt h (g m) (g k)).bind fun h' => some (.tup [], h')
    | _, _, _ => none
  | _ => none
theorem xl_ok {T : Tab} {P : Program} (hT : T.Ok P) {o : Op} {ty : Nat} {a : List AVal} {h : AHeap} {r : AVal × AHeap} {K : AVal → AHeap → Prop} (hv : xl T o (aEval a) h = some r) (hK : K r.1 r.2) : AOp P o ty a h K := by
  unfold xl at hv
  cases o with
  | alloc t =>
    simp only at hv
    simp only [AOp, aAlloc]
    split at hv
    · rename_i z hz
      simp only [hT.zer _ _ hz]
      split at hv
      · rename_i _ hb
        have hz' := isBld_eq hb
        cases hv
        subst hz'
        exact .inr ⟨rfl, hK⟩
      · obtain ⟨vs, h1, h2⟩ := Option.bind_eq_some_iff.1 hv
        cases h2
        simp only [h1]; exact .inl hK
    · cases hv
  | box t x =>
    simp only [AOp, aBox]
    simp only at hv
    have plain : ((aEval a x).parts.bind fun vs => some (newO h vs)) = some r → (match (aEval a x).parts with
        | some vs => K (.ptr h.length 0) (h ++ [.cells vs]) ∨ ((aEval a x) = .agg [.lit (.pointer none), .lit (.slice none 0 0)] ∧ K (.ptr h.length 0) (h ++ [.bld t none 0]))
        | none => False) := fun hv => by
      obtain ⟨vs, h1, h2⟩ := Option.bind_eq_some_iff.1 hv
      cases h2
      simp only [h1]; exact .inl hK
    split at hv
    · exact plain hv
    · split at hv
      · rename_i hb
        have hb' := isBld_eq hb
        cases hv
        rw [hb']
        exact .inr ⟨rfl, hK⟩
      · exact plain hv
  | buildSlice t len ps => exact xBuildSlice_ok hT hv hK
  | store t p x =>
    obtain ⟨g, h1, h2⟩ := Option.bind_eq_some_iff.1 hv
    cases h2
    exact xStore_ok (K := fun h' => K .any h') hT h1 hK
  | convert s d x => exact xConvL_ok hT hv hK
  | makeSlice t l c => exact xMake_ok hT hv hK
  | makeMap t r =>
    cases r with
    | none =>
      simp only at hv
      simp only [AOp, aMakeMap]
      split at hv
      · rename_i ht
        simp only [(hT.mkey ht).1]
        cases hv; exact hK
      · cases hv
    | some r => cases hv
  | mapUpdate t m k x =>
    obtain ⟨g, h1, h2⟩ := Option.bind_eq_some_iff.1 hv
    cases h2
    exact xMapUpdate_ok (K := fun h' => K .any h') hT h1 hK
  | insert t m k x =>
    obtain ⟨g, h1, h2⟩ := Option.bind_eq_some_iff.1 hv
    cases h2
    exact xMapUpdate_ok (K := fun h' => K .any h') hT h1 hK
  | range t x =>
    simp only at hv
    simp only [AOp]
    split at hv
    · rename_i hu
      obtain ⟨s, h1, h2⟩ := Option.bind_eq_some_iff.1 hv
      cases h2
      rw [asS_some h1]
      show aRangeS P t _ h K
      unfold aRangeS
      rw [hT.und _ _ hu]; exact hK
    · cases hv
  | next it isS =>
    cases isS with
    | true => exact xNextS_ok hv hK
    | false => cases hv
  | call c =>
    obtain ⟨callee, args, argTypes⟩ := c
    cases callee with
    | builtin b =>
      simp only at hv
      simp only [AOp]
      split at hv
      · rename_i e1 e2
        simp only [e1, e2]; exact xAppend_ok hT hv hK
      · rename_i e1 e2
        simp only [e1, e2]; exact xCopy_ok hT hv hK
      · rename_i e1 e2
        simp only [e1, e2]
        obtain ⟨g, h1, h2⟩ := Option.bind_eq_some_iff.1 hv
        cases h2
        exact xDelete_ok hT h1 hK
      · cases hv
    | value f => simp at hv
    | invoke r m => simp at hv
  | _ => simp at hv

/-- What makes an object that nobody has seen: what it has, and how it is seen. -/
def mkA (b : Nat) (zs : List AVal) (l c : Int) : Option (List AVal) :=
  (req (0 ≤ l ∧ l ≤ c ∧ b * c ≤ 140737488355328 ∧ c ≤ 9223372036854775807)).bind fun _ => some (List.replicate l.toNat zs).flatten
def blitA (k : Nat) (zs : List AVal) (len : Nat) (parts : List (Nat × AVal)) : Option (List AVal) :=
  (req (len * k ≤ 16777216)).bind fun _ => aFill (fun i => some (i * k, k)) (List.replicate len zs).flatten parts
def xA {R : Type} (T : Tab) (o : Op) (g : Operand → AVal) (K : AMk → List AVal → Option R) : Option R := match o with
  | .alloc t => match T.zer t with
    | some z => z.parts.bind fun vs => K .ptr vs
    | none => none
  | .box t x => (g x).parts.bind fun vs => K .ptr vs
  | .makeSlice t l c => match T.und t, g l, g c with
    | some (.slice e), .lit (.int _ l), .lit (.int _ c) => match T.siz e, T.byt e, T.zer e with
      | some k, some b, some z => match z.parts with
        | some zs => match Nat.beq zs.length k with
          | true => (mkA b zs l c).bind fun cs => K (.sl k l.toNat) cs
          | false => none
        | none => none
      | _, _, _ => none
    | _, _, _ => none
  | .buildSlice t len ps => match T.und t with
    | some (.slice e) => match T.siz e, T.zer e with
      | some k, some z => match z.parts with
        | some zs => match Nat.beq zs.length k with
          | true => (blitA k zs len (ps.toList.map fun p => (p.1, g p.2))).bind fun cs => K (.sl k len) cs
          | false => none
        | none => none
      | _, _ => none
    | _ => none
  | .convert s d x => match T.und s, T.und d, g x with
    | some _, some (.slice e), .lit (.string s) => match T.und e with
      | some (.int .u8) => K (.sl 1 s.size) (s.data.toList.map byteV)
      | _ => none
    | _, _, _ => none
  | _ => none
def mkAD (m : AMk) (cs : List AVal) : Option AData := some ⟨m, cs⟩
theorem xA_bind {R : Type} (T : Tab) (o : Op) (g : Operand → AVal) (K : AMk → List AVal → Option R) : xA T o g K = (xA T o g mkAD).bind fun D => K D.how D.cs := by
  cases o with
  | alloc t =>
    simp only [xA]
    rcases T.zer t with _ | z
    · rfl
    · simp [Option.bind_assoc, mkAD]
  | box t x => simp [xA, Option.bind_assoc, mkAD]
  | makeSlice t l c =>
    simp only [xA]
    split
    · split
      · split
        · split
          · simp [Option.bind_assoc, mkAD]
          · rfl
        · rfl
      · rfl
    · rfl
  | buildSlice t len ps =>
    simp only [xA]
    split
    · split
      · split
        · split
          · simp [Option.bind_assoc, mkAD]
          · rfl
        · rfl
      · rfl
    · rfl
  | convert s d x =>
    simp only [xA]
    split
    · split <;> rfl
    · rfl
  | _ => rfl
theorem xA_ok {T : Tab} {P : Program} (hT : T.Ok P) {o : Op} {ty : Nat} {a : List AVal} {D : AData} (hv : xA T o (aEval a) mkAD = some D) :
    (∀ f args tys, o ≠ .call { callee := .value f, args := args, argTypes := tys }) ∧ ∀ h : AHeap, AOp P o ty a h fun v' g => v' = D.how.val h.length ∧ g = h ++ [.cells D.cs] := by
  cases o with
  | alloc t =>
    refine ⟨(fun _ _ _ e => by cases e), fun h => ?_⟩
    simp only [xA] at hv
    simp only [AOp, aAlloc]
    split at hv
    · rename_i hz
      simp only [hT.zer _ _ hz]
      obtain ⟨vs, h1, h2⟩ := Option.bind_eq_some_iff.1 hv
      cases h2
      simp only [h1]; exact .inl ⟨by first | trivial | rfl, by first | trivial | rfl⟩
    · cases hv
  | box t x =>
    refine ⟨(fun _ _ _ e => by cases e), fun h => ?_⟩
    simp only [xA] at hv
    simp only [AOp, aBox]
    obtain ⟨vs, h1, h2⟩ := Option.bind_eq_some_iff.1 hv
    cases h2
    simp only [h1]; exact .inl ⟨by first | trivial | rfl, by first | trivial | rfl⟩
  | makeSlice t l c =>
    refine ⟨(fun _ _ _ e => by cases e), fun h => ?_⟩
    have key : xMake T t (aEval a l) (aEval a c) h = some (D.how.val h.length, h ++ [.cells D.cs]) := by
      simp only [xA] at hv
      unfold xMake
      split at hv
      · rename_i h1 h2 h3
        (try simp only [h1, h2, h3])
        split at hv
        · rename_i g1 g2 g3
          (try simp only [g1, g2, g3])
          split at hv
          · rename_i hp
            (try simp only [hp])
            split at hv
            · rename_i hb
              (try simp only [hb])
              obtain ⟨cs, e1, e2⟩ := Option.bind_eq_some_iff.1 hv
              cases e2
              unfold mkA at e1
              obtain ⟨u, e3, e4⟩ := Option.bind_eq_some_iff.1 e1
              cases e4
              unfold mkS
              rw [e3]; rfl
            · cases hv
          · cases hv
        · cases hv
      · cases hv
    exact xMake_ok (K := fun v' g => v' = D.how.val h.length ∧ g = h ++ [.cells D.cs]) hT key ⟨rfl, rfl⟩
  | buildSlice t len ps =>
    refine ⟨(fun _ _ _ e => by cases e), fun h => ?_⟩
    have key : xBuildSlice T t len (ps.toList.map fun p => (p.1, aEval a p.2)) h = some (D.how.val h.length, h ++ [.cells D.cs]) := by
      simp only [xA] at hv
      unfold xBuildSlice
      split at hv
      · rename_i h1
        (try simp only [h1])
        split at hv
        · rename_i g1 g3
          (try simp only [g1, g3])
          split at hv
          · rename_i hp
            (try simp only [hp])
            split at hv
            · rename_i hb
              (try simp only [hb])
              obtain ⟨cs, e1, e2⟩ := Option.bind_eq_some_iff.1 hv
              cases e2
              unfold blitA at e1
              obtain ⟨u, e3, e4⟩ := Option.bind_eq_some_iff.1 e1
              unfold blitS
              rw [e3, Option.bind_some, e4]; rfl
            · cases hv
          · cases hv
        · cases hv
      · cases hv
    exact xBuildSlice_ok (K := fun v' g => v' = D.how.val h.length ∧ g = h ++ [.cells D.cs]) hT key ⟨rfl, rfl⟩
  | convert s d x =>
    refine ⟨(fun _ _ _ e => by cases e), fun h => ?_⟩
    have key : xConvL T s d (aEval a x) h = some (D.how.val h.length, h ++ [.cells D.cs]) := by
      simp only [xA] at hv
      unfold xConvL
      split at hv
      · rename_i h1 h2 h3
        (try simp only [h1, h2, h3])
        split at hv
        · rename_i he
          (try simp only [he])
          cases hv; rfl
        · cases hv
      · cases hv
    exact xConvL_ok (K := fun v' g => v' = D.how.val h.length ∧ g = h ++ [.cells D.cs]) hT key ⟨rfl, rfl⟩
  | _ => simp [xA] at hv

/-! ### Frames -/
abbrev Fr := List (Nat × AVal)
noncomputable def Fr.get (f : Fr) (i : Nat) : AVal := List.rec (motive := fun _ => AVal) .any (fun p _ ih => cond (Nat.beq i p.1) p.2 ih) f
noncomputable def Fr.lst (n : Nat) (f : Fr) : List AVal := (List.range n).map f.get
def Fr.Wf (n : Nat) (f : Fr) : Prop := ∀ t, n ≤ t → f.get t = .any
noncomputable def fEval (f : Fr) : Operand → AVal
  | .tmp t => f.get t
  | .const v => litA v
  | .global g => .lit (.pointer (some ⟨g, 0, none⟩))
  | .func i => .fn (.func i) [] []
theorem aget_lst {n : Nat} {f : Fr} (hw : f.Wf n) (t : Nat) : aget (f.lst n) t = f.get t := by
  unfold aget Fr.lst
  rcases Nat.lt_or_ge t n with h | h
  · simp [List.getD_eq_getElem?_getD, h]
  · simp [List.getD_eq_getElem?_getD, hw t h, Nat.not_lt.2 h]
theorem aEval_lst {n : Nat} {f : Fr} (hw : f.Wf n) : aEval (f.lst n) = fEval f := by
  funext x; cases x <;> simp [aEval, fEval, aget_lst hw]
theorem Fr.get_cons (k : Nat) (v : AVal) (f : Fr) (i : Nat) : Fr.get ((k, v) :: f) i = if i = k then v else f.get i := by
  show cond (Nat.beq i k) v (f.get i) = _
  by_cases h : i = k
  · subst h; simp
  · rw [if_neg h]
    have : Nat.beq i k = false := by rw [Bool.eq_false_iff]; intro e; exact h (Nat.eq_of_beq_eq_true e)
    rw [this]; rfl
theorem lst_cons {n d : Nat} (hd : d < n) (v : AVal) (f : Fr) : Fr.lst n ((d, v) :: f) = (f.lst n).set d v := by
  unfold Fr.lst
  apply List.ext_getElem
  · simp
  · intro i h1 h2
    simp only [List.getElem_map, List.getElem_range, Fr.get_cons, List.getElem_set]
    by_cases h : i = d
    · subst h; simp
    · rw [if_neg h, if_neg (fun e => h e.symm)]
theorem wf_cons {n d : Nat} (hd : d < n) (v : AVal) {f : Fr} (hw : f.Wf n) : Fr.Wf n ((d, v) :: f) := by
  intro t ht
  rw [Fr.get_cons, if_neg (by omega)]
  exact hw t ht
def fput (n : Nat) (f : Fr) (d : Option Nat) (v : AVal) : Option Fr := match d with
  | none => some f
  | some d => match Nat.blt d n with
    | true => some ((d, v) :: f)
    | false => none
theorem fput_some {n : Nat} {f f' : Fr} {d : Option Nat} {v : AVal} (h : fput n f d v = some f') (hw : f.Wf n) : f'.lst n = aset (f.lst n) d v ∧ f'.Wf n := by
  unfold fput at h
  split at h
  · cases h; exact ⟨rfl, hw⟩
  · split at h
    · rename_i d _ hb
      have hd : d < n := by rw [Nat.blt_eq] at hb; exact hb
      cases h
      exact ⟨lst_cons hd v f, wf_cons hd v hw⟩
    · cases h
noncomputable def fmask (f : Fr) (ks : List Nat) : Fr := List.rec (motive := fun _ => Fr) [] (fun k _ ih => (k, f.get k) :: ih) ks
theorem fmask_get (f : Fr) : ∀ (ks : List Nat) (i : Nat), (fmask f ks).get i = .any ∨ (fmask f ks).get i = f.get i
  | [], i => .inl rfl
  | k :: ks, i => by
    show Fr.get ((k, f.get k) :: fmask f ks) i = .any ∨ Fr.get ((k, f.get k) :: fmask f ks) i = _
    rw [Fr.get_cons]
    by_cases h : i = k
    · rw [if_pos h]; subst h; exact .inr rfl
    · rw [if_neg h]; exact fmask_get f ks i
noncomputable def findN.{u} {α : Type u} (l : List (Nat × α)) (i : Nat) : Option α := List.rec (motive := fun _ => Option α) none (fun p _ ih => cond (Nat.beq i p.1) (some p.2) ih) l
theorem findN_nil.{u} {α : Type u} (i : Nat) : findN ([] : List (Nat × α)) i = none := rfl
theorem findN_cons.{u} {α : Type u} (k : Nat) (v : α) (l : List (Nat × α)) (i : Nat) : findN ((k, v) :: l) i = cond (Nat.beq i k) (some v) (findN l i) := rfl
theorem findN_some.{u} {α : Type u} {k : Nat} {v c : α} {l : List (Nat × α)} {i : Nat} (h : findN ((k, v) :: l) i = some c) : (i = k ∧ v = c) ∨ findN l i = some c := by
  rw [findN_cons] at h
  cases hb : Nat.beq i k with
  | true => rw [hb] at h; cases h; exact .inl ⟨Nat.eq_of_beq_eq_true hb, rfl⟩
  | false => rw [hb] at h; exact .inr h
noncomputable def maskO (f : Fr) (m : Option (List Nat)) : Fr := match m with
  | none => f
  | some ks => fmask f ks
theorem maskO_get (f : Fr) (m : Option (List Nat)) (i : Nat) : (maskO f m).get i = .any ∨ (maskO f m).get i = f.get i := by
  unfold maskO
  split
  · exact .inr rfl
  · exact fmask_get f _ i
theorem maskO_wf {n : Nat} {f : Fr} (hw : f.Wf n) (m : Option (List Nat)) : (maskO f m).Wf n := by
  intro t ht
  rcases maskO_get f m t with h | h
  · exact h
  · rw [h]; exact hw t ht
theorem weak_of : ∀ {a b : List AVal}, a.length = b.length → (∀ (i : Nat) (h1 : i < a.length) (h2 : i < b.length), b[i] = .any ∨ a[i] = b[i]) → Weak a b
  | [], [], _, _ => trivial
  | [], _ :: _, h, _ => by simp at h
  | _ :: _, [], h, _ => by simp at h
  | x :: a, y :: b, h, hg => ⟨hg 0 (by simp) (by simp), weak_of (by simpa using h) fun i h1 h2 => hg (i + 1) (by simpa using h1) (by simpa using h2)⟩
theorem maskO_weak (n : Nat) (f : Fr) (m : Option (List Nat)) : Weak (f.lst n) ((maskO f m).lst n) := by
  refine weak_of (by simp [Fr.lst]) fun i h1 h2 => ?_
  simp only [Fr.lst, List.getElem_map, List.getElem_range]
  rcases maskO_get f m i with h | h
  · exact .inl h
  · exact .inr h.symm

/-! ### The same, with what comes next handed in -/
section cps
variable {R : Type}
def castK (T : Tab) (t : Nat) (v : AVal) (K : AVal → Option R) : Option R := match T.und t with
  | some (.int k) => (asI k v).bind fun n => K (.lit (.int k n))
  | some .string => (asS v).bind fun s => K (.lit (.string s))
  | some .bool => (asB v).bind fun b => K (.lit (.bool b))
  | some (.struct _) => (asA v).bind fun xs => K (.agg xs)
  | some (.array _ _) => (asA v).bind fun xs => K (.agg xs)
  | _ => K v
theorem castK_eq (T : Tab) (t : Nat) (v : AVal) (K : AVal → Option R) : castK T t v K = (castT T t v).bind K := by
  unfold castK castT
  cases T.und t with
  | none => rfl
  | some d => cases d <;> simp [Option.bind_assoc]
def xLoadK (T : Tab) (t : Nat) (h : AHeap) (v : AVal) (K : AVal → Option R) : Option R := match T.agg t with
  | some false => (ld1 h v).bind K
  | some true => match T.siz t with
    | some n => (ldn n h v).bind fun xs => K (.agg xs)
    | none => none
  | none => none
theorem xLoadK_eq (T : Tab) (t : Nat) (h : AHeap) (v : AVal) (K : AVal → Option R) : xLoadK T t h v K = (xLoad T t h v).bind K := by
  unfold xLoadK xLoad
  rcases T.agg t with _ | b
  · rfl
  · cases b
    · rfl
    · rcases T.siz t with _ | n <;> simp [Option.bind_assoc]
def xIntK (op : BinOp) (k : IntKind) (x y : Int) (K : AVal → Option R) : Option R := match op with
  | .quo => (req (y ≠ 0)).bind fun _ => K (.lit (.int k (k.wrap (x.tdiv y))))
  | .rem => (req (y ≠ 0)).bind fun _ => K (.lit (.int k (x.tmod y)))
  | op => (xInt op k x y).bind K
theorem xIntK_eq (op : BinOp) (k : IntKind) (x y : Int) (K : AVal → Option R) : xIntK op k x y K = (xInt op k x y).bind K := by
  cases op <;> simp [xIntK, xInt, Option.bind_assoc]
def xStrK (op : BinOp) (x y : ByteArray) (K : AVal → Option R) : Option R := match op with
  | .add => (req (x.size + y.size ≤ 9223372036854775807)).bind fun _ => K (.lit (.string (x ++ y)))
  | op => (xStr op x y).bind K
theorem xStrK_eq (op : BinOp) (x y : ByteArray) (K : AVal → Option R) : xStrK op x y K = (xStr op x y).bind K := by
  cases op <;> simp [xStrK, xStr, Option.bind_assoc]
def boolK (op : BinOp) (p : Bool) (K : AVal → Option R) : Option R := match op with
  | .eql => K (.lit (.bool p))
  | .neq => K (.lit (.bool (!p)))
  | _ => none
def xNilK (T : Tab) (op : BinOp) (t : Nat) (ox oy : Operand) (x y : AVal) (K : AVal → Option R) : Option R := match T.nilK t with
  | none => none
  | some k => match isNilC oy k y with
    | true => (x.isNil k).bind fun p => boolK op p K
    | false => match isNilC ox k x with
      | true => (y.isNil k).bind fun p => boolK op p K
      | false => none
theorem xNilK_eq (T : Tab) (op : BinOp) (t : Nat) (ox oy : Operand) (x y : AVal) (K : AVal → Option R) : xNilK T op t ox oy x y K = (xNil T op t ox oy x y).bind K := by
  unfold xNilK xNil
  rcases T.nilK t with _ | k
  · rfl
  · simp only
    cases isNilC oy k y
    · cases isNilC ox k x
      · rfl
      · simp only [Option.bind_assoc]; congr 1; funext p; cases op <;> rfl
    · simp only [Option.bind_assoc]; congr 1; funext p; cases op <;> rfl
def xBinK (T : Tab) (op : BinOp) (t : Nat) (ox oy : Operand) (x y : AVal) (K : AVal → Option R) : Option R := match T.nilK t with
  | some _ => xNilK T op t ox oy x y K
  | none => match x, y with
    | .lit (.int k a), .lit (.int k' b) => match op with
      | .shl => (req (0 ≤ b)).bind fun _ => K (.lit (.int k (shlI k a b)))
      | .shr => (req (0 ≤ b)).bind fun _ => K (.lit (.int k (shrI k a b)))
      | op => match kindEq k k' with
        | true => xIntK op k a b K
        | false => none
    | .lit (.string a), .lit (.string b) => xStrK op a b K
    | .lit (.bool a), .lit (.bool b) => match T.und t, op with
      | some .bool, .eql => K (.lit (.bool (decide (a = b))))
      | some .bool, .neq => K (.lit (.bool (!decide (a = b))))
      | _, _ => none
    | .agg xs, .agg ys => match T.lvs t with
      | none => none
      | some ls => (leafEq ls xs ys).bind fun r => boolK op r K
    | _, _ => none
theorem xBinK_eq (T : Tab) (op : BinOp) (t : Nat) (ox oy : Operand) (x y : AVal) (K : AVal → Option R) : xBinK T op t ox oy x y K = (xBin T op t ox oy x y).bind K := by
  unfold xBinK xBin
  rcases T.nilK t with _ | k
  · simp only
    cases x with
    | lit u =>
      cases u with
      | int k a =>
        cases y with
        | lit v =>
          cases v with
          | int k' b =>
            cases op <;> simp only [] <;> first
              | (cases kindEq k k' <;> first | rfl | exact xIntK_eq ..)
              | (simp only [Option.bind_assoc]; rfl)
          | _ => rfl
        | _ => rfl
      | string a =>
        cases y with
        | lit v =>
          cases v with
          | string b => exact xStrK_eq ..
          | _ => rfl
        | _ => rfl
      | bool a =>
        cases y with
        | lit v =>
          cases v with
          | bool b =>
            simp only
            rcases T.und t with _ | d
            · rfl
            · cases d <;> cases op <;> rfl
          | _ => rfl
        | _ => rfl
      | _ => rfl
    | agg xs =>
      cases y with
      | agg ys =>
        simp only
        rcases T.lvs t with _ | ls
        · rfl
        · simp only [Option.bind_assoc]; congr 1; funext p; cases op <;> rfl
      | _ => rfl
    | _ => rfl
  · exact xNilK_eq ..
def xPartK (T : Tab) (t : Nat) (vs : List AVal) (off : Nat) (K : AVal → Option R) : Option R := match T.agg t with
  | some true => match T.siz t with
    | some n => (takeN vs off n).bind fun xs => K (.agg xs)
    | none => none
  | some false => (vs[off]?).bind K
  | none => none
theorem xPartK_eq (T : Tab) (t : Nat) (vs : List AVal) (off : Nat) (K : AVal → Option R) : xPartK T t vs off K = (xPart T t vs off).bind K := by
  unfold xPartK xPart
  rcases T.agg t with _ | b
  · rfl
  · cases b
    · rfl
    · rcases T.siz t with _ | n <;> simp [Option.bind_assoc]
def xIndexK (T : Tab) (t : Nat) (x i : AVal) (K : AVal → Option R) : Option R := match i, x with
  | .lit (.int _ i), .lit (.string s) => match T.und t with
    | some .string => (strAt s i).bind fun b => K (.lit (.int .u8 b))
    | _ => none
  | .lit (.int _ i), .agg vs => match T.und t with
    | some (.array n e) => match T.siz e with
      | some k => (req (0 ≤ i ∧ i < n)).bind fun _ => xPartK T e vs (i.toNat * k) K
      | none => none
    | _ => none
  | _, _ => none
theorem xIndexK_eq (T : Tab) (t : Nat) (x i : AVal) (K : AVal → Option R) : xIndexK T t x i K = (xIndex T t x i).bind K := by
  cases i with
  | lit u =>
    cases u with
    | int k i =>
      cases x with
      | lit v =>
        cases v with
        | string s =>
          simp only [xIndexK, xIndex]
          rcases T.und t with _ | d
          · rfl
          · cases d <;> simp [Option.bind_assoc]
        | _ => rfl
      | agg vs =>
        simp only [xIndexK, xIndex]
        rcases T.und t with _ | d
        · rfl
        · cases d <;> try rfl
          simp only
          rcases T.siz _ with _ | k
          · rfl
          · simp only [Option.bind_assoc]; congr 1; funext u; exact xPartK_eq ..
      | _ => rfl
    | _ => rfl
  | _ => rfl
def xFieldVK (T : Tab) (t : Nat) (x : AVal) (i : Nat) (K : AVal → Option R) : Option R := match x with
  | .agg vs => match T.field t i with
    | some (off, ft) => xPartK T ft vs off K
    | none => none
  | _ => none
theorem xFieldVK_eq (T : Tab) (t : Nat) (x : AVal) (i : Nat) (K : AVal → Option R) : xFieldVK T t x i K = (xFieldV T t x i).bind K := by
  cases x with
  | agg vs =>
    simp only [xFieldVK, xFieldV]
    rcases T.field t i with _ | p
    · rfl
    · exact xPartK_eq ..
  | _ => rfl
def xSliceK (T : Tab) (t : Nat) (h : AHeap) (x : AVal) (lo hi mx : Option AVal) (K : AVal → Option R) : Option R := match T.und t with
  | some .string => match x, lo, hi, mx with
    | .lit (.string s), lo, hi, none => (bndO lo 0).bind fun l => (bndO hi s.size).bind fun r => (cutS s l r).bind fun z => K (.lit (.string z))
    | _, _, _, _ => none
  | some (.slice e) => match T.siz e with
    | some k => (intO lo).bind fun l => (intO hi).bind fun r => (intO mx).bind fun m => (cutV k x l r m).bind K
    | none => none
  | some (.array n e) => match T.siz e, mx with
    | some 1, none => (bndO lo 0).bind fun l => (bndO hi n).bind fun r => (cutA n 1 h x l r).bind K
    | _, _ => none
  | _ => none
theorem xSliceK_eq (T : Tab) (t : Nat) (h : AHeap) (x : AVal) (lo hi mx : Option AVal) (K : AVal → Option R) : xSliceK T t h x lo hi mx K = (xSlice T t h x lo hi mx).bind K := by
  unfold xSliceK xSlice
  rcases T.und t with _ | d
  · rfl
  · cases d <;> try rfl
    · simp only
      cases x with
      | lit u =>
        cases u with
        | string s => cases mx <;> simp [Option.bind_assoc]
        | _ => rfl
      | _ => rfl
    · simp only
      rcases T.siz _ with _ | k <;> simp [Option.bind_assoc]
    · simp only
      rcases T.siz _ with _ | _ | _ | k
      · rfl
      · rfl
      · cases mx <;> simp [Option.bind_assoc]
      · rfl
def xLenK (T : Tab) (t : Nat) (x : AVal) (K : AVal → Option R) : Option R := match T.und t with
  | some (.array n _) => K (.lit (.int .i64 n))
  | some (.slice _) => (lenV x).bind fun n => K (.lit (.int .i64 n))
  | some .string => (asS x).bind fun s => K (.lit (.int .i64 s.size))
  | _ => none
theorem xLenK_eq (T : Tab) (t : Nat) (x : AVal) (K : AVal → Option R) : xLenK T t x K = (xLen T t x).bind K := by
  unfold xLenK xLen
  rcases T.und t with _ | d
  · rfl
  · cases d <;> simp [Option.bind_assoc]
def xBuildK (T : Tab) (t : Nat) (parts : List (Nat × AVal)) (K : AVal → Option R) : Option R := match T.zer t with
  | none => none
  | some z => match z.parts with
    | none => none
    | some zs => match T.und t with
      | some (.struct _) => (T.places t).bind fun ps => (aFill (ps[·]?) zs parts).bind fun cs => K (.agg cs)
      | some (.array _ e) => match T.siz e with
        | some k => (aFill (fun i => some (i * k, k)) zs parts).bind fun cs => K (.agg cs)
        | none => none
      | _ => none
theorem xBuildK_eq (T : Tab) (t : Nat) (parts : List (Nat × AVal)) (K : AVal → Option R) : xBuildK T t parts K = (xBuild T t parts).bind K := by
  unfold xBuildK xBuild
  rcases T.zer t with _ | z
  · rfl
  · simp only
    rcases z.parts with _ | zs
    · rfl
    · simp only
      rcases T.und t with _ | d
      · rfl
      · cases d <;> try rfl
        · simp only
          rcases T.siz _ with _ | k <;> simp [Option.bind_assoc]
        · simp [Option.bind_assoc]
def xConvQK (T : Tab) (src dst : Nat) (x : AVal) (h : AHeap) (K : AVal → Option R) : Option R := match T.und src, T.und dst with
  | some (.int _), some (.int k) => (numOf x).bind fun n => K (.lit (.int k (k.wrap n)))
  | some (.int _), some .string => (numOf x).bind fun n => K (.lit (.string (Utf8.encode n)))
  | some .string, some .string => (asS x).bind fun s => K (.lit (.string s))
  | some (.slice e), some .string => match T.und e with
    | some (.int .u8) => (bytesOf h x).bind fun s => K (.lit (.string s))
    | _ => none
  | _, _ => none
theorem xConvQK_eq (T : Tab) (src dst : Nat) (x : AVal) (h : AHeap) (K : AVal → Option R) : xConvQK T src dst x h K = (xConvQ T src dst x h).bind K := by
  unfold xConvQK xConvQ
  rcases T.und src with _ | ds
  · rfl
  · rcases T.und dst with _ | dd
    · cases ds <;> rfl
    · cases ds <;> cases dd <;> first
        | rfl
        | (simp [Option.bind_assoc]; done)
        | (simp only
           rcases T.und _ with _ | d2
           · rfl
           · cases d2 <;> try rfl
             rename_i k
             cases k <;> simp [Option.bind_assoc])
def xLookupK (T : Tab) (t : Nat) (h : AHeap) (x k : AVal) (ok : Bool) (K : AVal → Option R) : Option R := match T.mkey t, k with
  | some (d, _, et), .lit u => match keyOkB d u, T.zer et with
    | true, some z => (mapAt d h x).bind fun es => K (mres ok (mlook z u es).1 (mlook z u es).2)
    | _, _ => none
  | _, _ => none
theorem xLookupK_eq (T : Tab) (t : Nat) (h : AHeap) (x k : AVal) (ok : Bool) (K : AVal → Option R) : xLookupK T t h x k ok K = (xLookup T t h x k ok).bind K := by
  unfold xLookupK xLookup
  rcases T.mkey t with _ | ⟨d, kt, et⟩
  · rfl
  · cases k <;> try rfl
    simp only
    cases keyOkB d _ <;> try rfl
    cases T.zer et <;> try rfl
    simp only [Option.bind_assoc, Option.bind_some]
def xqK (T : Tab) (o : Op) (g : Operand → AVal) (h : AHeap) (K : AVal → Option R) : Option R := match o with
  | .move x | .assign x => K (g x)
  | .pick c x y => (asB (g c)).bind fun b => K (match b with | true => g x | false => g y)
  | .load t x => xLoadK T t h (g x) K
  | .binOp op t x y _ => xBinK T op t x y (g x) (g y) K
  | .convert s d x => xConvQK T s d (g x) h K
  | .makeFunc f xs ys => K (.fn f (evsF g xs) (evsF g ys))
  | .build t ps => xBuildK T t (ps.toList.map fun p => (p.1, g p.2)) K
  | .slice t x lo hi mx => xSliceK T t h (g x) (lo.map g) (hi.map g) (mx.map g) K
  | .field t x i => xFieldVK T t (g x) i K
  | .index t x i => xIndexK T t (g x) (g i) K
  | .lookup t x k ok => xLookupK T t h (g x) (g k) ok K
  | .call { callee := .builtin .len, args, argTypes } => match args.toList, argTypes.toList with
    | [x], [t] => match T.und t with
      | some (.map _ _) => (xMapLen h (g x)).bind K
      | _ => xLenK T t (g x) K
    | _, _ => none
  | o => (xq T o g h).bind K
theorem xqK_eq (T : Tab) (o : Op) (g : Operand → AVal) (h : AHeap) (K : AVal → Option R) : xqK T o g h K = (xq T o g h).bind K := by
  cases o with
  | move x => rfl
  | assign x => rfl
  | pick c x y => simp only [xqK, xq, Option.bind_assoc]; congr 1
  | load t x => exact xLoadK_eq ..
  | binOp op t x y _ => exact xBinK_eq ..
  | convert s d x => exact xConvQK_eq ..
  | makeFunc f xs ys => rfl
  | build t ps => exact xBuildK_eq ..
  | slice t x lo hi mx => exact xSliceK_eq ..
  | field t x i => exact xFieldVK_eq ..
  | index t x i => exact xIndexK_eq ..
  | lookup t x k ok => exact xLookupK_eq ..
  | call c =>
    obtain ⟨callee, args, argTypes⟩ := c
    cases callee with
    | builtin b =>
      cases b <;> try rfl
      simp only [xqK, xq]
      rcases args.toList with _ | ⟨x, _ | ⟨y, l⟩⟩ <;> rcases argTypes.toList with _ | ⟨t, _ | ⟨u, l'⟩⟩ <;> try rfl
      simp only
      rcases T.und t with _ | d
      · exact xLenK_eq ..
      · cases d <;> first | exact xLenK_eq .. | rfl
    | _ => rfl
  | _ => rfl
def xStoreK (T : Tab) (t : Nat) (h : AHeap) (p x : AVal) (K : AHeap → Option R) : Option R := match T.agg t, T.siz t with
  | some false, some 1 => (st1 h p x).bind K
  | some true, some n => x.parts.bind fun vs => (stn n h p vs).bind K
  | _, _ => none
theorem xStoreK_eq (T : Tab) (t : Nat) (h : AHeap) (p x : AVal) (K : AHeap → Option R) : xStoreK T t h p x K = (xStore T t h p x).bind K := by
  unfold xStoreK xStore
  rcases T.agg t with _ | b
  · rfl
  · rcases T.siz t with _ | n
    · cases b <;> rfl
    · cases b
      · rcases n with _ | _ | n <;> rfl
      · simp [Option.bind_assoc]
def pairK (K : AVal → AHeap → Option R) (r : AVal × AHeap) : Option R := K r.1 r.2
def xlK (T : Tab) (o : Op) (g : Operand → AVal) (h : AHeap) (K : AVal → AHeap → Option R) : Option R := match o with
  | .alloc t => match T.zer t with
    | some z => match T.fit t, isBld z with
      | true, true => K (.ptr h.length 0) (h ++ [.bld t none 0])
      | _, _ => z.parts.bind fun vs => K (.ptr h.length 0) (h ++ [.cells vs])
    | none => none
  | .box t x => match bldT T t with
    | false => (g x).parts.bind fun vs => K (.ptr h.length 0) (h ++ [.cells vs])
    | true => match isBld (g x) with
      | true => K (.ptr h.length 0) (h ++ [.bld t none 0])
      | false => (g x).parts.bind fun vs => K (.ptr h.length 0) (h ++ [.cells vs])
  | .store t p x => xStoreK T t h (g p) (g x) fun h' => K .any h'
  | .makeMap t none => match T.mkey t with
    | some (d, _, _) => K (.map h.length) (h ++ [.map d []])
    | none => none
  | .mapUpdate t m k x => (xMapUpdate T t h (g m) (g k) (g x)).bind fun h' => K .any h'
  | .insert t m k x => (xMapUpdate T t h (g m) (g k) (g x)).bind fun h' => K .any h'
  | .range t x => match T.und t with
    | some .string => (asS (g x)).bind fun s => K (.ptr h.length 0) (h ++ [.sit s 0])
    | _ => none
  | .next it true => (sitAt h (g it)).bind fun q => cond (Nat.blt q.2.2 q.2.1.size) (K (nextV q) (nextH h q)) (K (.tup [.lit (.bool false)]) h)
  | .call { callee := .builtin .delete, args, argTypes } => match args.toList, argTypes.toList with
    | [m, k], [mt, _] => (xDelete T mt h (g m) (g k)).bind fun h' => K (.tup []) h'
    | _, _ => none
  | o => (xl T o g h).bind fun r => K r.1 r.2
theorem xlK_eq (T : Tab) (o : Op) (g : Operand → AVal) (h : AHeap) (K : AVal → AHeap → Option R) : xlK T o g h K = (xl T o g h).bind fun r => K r.1 r.2 := by
  cases o with
  | alloc t =>
    simp only [xlK, xl]
    rcases T.zer t with _ | z
    · rfl
    · simp only
      split
      · rename_i e1 e2; simp [e1, e2]
      · simp [Option.bind_assoc, newO]
  | box t x =>
    simp only [xlK, xl]
    cases bldT T t with
    | false => simp [Option.bind_assoc, newO]
    | true =>
      simp only
      cases isBld (g x) with
      | true => rfl
      | false => simp [Option.bind_assoc, newO]
  | store t p x => simp only [xlK, xl]; rw [xStoreK_eq, Option.bind_assoc]; rfl
  | makeMap t r =>
    cases r with
    | none => simp only [xlK, xl]; split <;> rfl
    | some r => rfl
  | mapUpdate t m k x => simp [xlK, xl, Option.bind_assoc]
  | insert t m k x => simp [xlK, xl, Option.bind_assoc]
  | range t x => simp only [xlK, xl]; split <;> simp [Option.bind_assoc]
  | next it isS =>
    cases isS with
    | true =>
      simp only [xlK, xl, xNextS, Option.bind_assoc]
      congr 1; funext q
      cases Nat.blt q.2.2 q.2.1.size <;> rfl
    | false => rfl
  | call c =>
    obtain ⟨callee, args, argTypes⟩ := c
    cases callee with
    | builtin b =>
      cases b <;> try rfl
      simp only [xlK, xl]
      rcases args.toList with _ | ⟨x, _ | ⟨y, _ | ⟨z, l⟩⟩⟩ <;> rcases argTypes.toList with _ | ⟨t, _ | ⟨u, _ | ⟨w, l'⟩⟩⟩ <;> try rfl
      simp only [Option.bind_assoc, Option.bind_some]
    | _ => rfl
  | _ => rfl
end cps

/-- A place where ways meet. -/
noncomputable def jnF : { f : ∀ R : Type, Option R → Option R // ∀ R x, f R x = x } := Classical.choice ⟨⟨fun _ x => x, fun _ _ => rfl⟩⟩
noncomputable def jn {R : Type} (x : Option R) : Option R := jnF.1 R x
theorem jn_eq {R : Type} (x : Option R) : jn x = x := jnF.2 R x
noncomputable def atMask {R : Type} (m : Option (List Nat)) (f : Fr) (go : Fr → Option R) : Option R := match m with
  | none => go f
  | some ks => jn (go (fmask f ks))
theorem atMask_eq {R : Type} (m : Option (List Nat)) (f : Fr) (go : Fr → Option R) : atMask m f go = go (maskO f m) := by
  cases m with
  | none => rfl
  | some ks => exact jn_eq _
/-! ### Calls, one operation -/
inductive XC : Type 1 where
  | p (g : ∀ R : Type, List AVal → (AVal → Option R) → Option R)
  | q (g : ∀ R : Type, List AVal → AHeap → (AVal → Option R) → Option R)
  | l (g : ∀ R : Type, List AVal → AHeap → (AVal → AHeap → Option R) → Option R)
def mkP (v : AVal) (h : AHeap) : Option (AVal × AHeap) := some (v, h)
def XC.Nat : XC → Prop
  | .p g => ∀ R args K, g R args K = (g AVal args some).bind K
  | .q g => ∀ R args h K, g R args h K = (g AVal args h some).bind K
  | .l g => ∀ R args h K, g R args h K = (g (AVal × AHeap) args h mkP).bind fun r => K r.1 r.2
def XC.Ok (P : Program) (i : FuncId) : XC → Prop
  | .p g => callable P i = true ∧ ∀ args h v, g AVal args some = some v → ACalls P i args h fun e h' => e = .ret v ∧ h' = h
  | .q g => callable P i = true ∧ ∀ args h v, g AVal args h some = some v → ACalls P i args h fun e h' => e = .ret v ∧ h' = h
  | .l g => callable P i = true ∧ ∀ args h v h', g (AVal × AHeap) args h mkP = some (v, h') → ACalls P i args h fun e g => e = .ret v ∧ g = h'
abbrev CT := List (Nat × XC)
def CT.Ok (P : Program) : CT → Prop
  | [] => True
  | (i, c) :: l => (c.Nat ∧ c.Ok P i) ∧ CT.Ok P l
def CT.Nat : CT → Prop
  | [] => True
  | (_, c) :: l => c.Nat ∧ CT.Nat l
theorem CT.Ok.find {P : Program} : ∀ {C : CT} {i : _root_.Nat} {c : XC}, CT.Ok P C → findN C i = some c → c.Nat ∧ c.Ok P i
  | [], i, c, _, h => by cases h
  | (k, x) :: l, i, c, hC, h => by
    rcases findN_some h with ⟨rfl, rfl⟩ | h
    · exact hC.1
    · exact CT.Ok.find hC.2 h
theorem CT.Nat.find : ∀ {C : CT} {i : _root_.Nat} {c : XC}, CT.Nat C → findN C i = some c → c.Nat
  | [], i, c, _, h => by cases h
  | (k, x) :: l, i, c, hC, h => by
    rcases findN_some h with ⟨rfl, rfl⟩ | h
    · exact hC.1
    · exact CT.Nat.find hC.2 h
theorem CT.Ok.nat {P : Program} : ∀ {C : CT}, CT.Ok P C → CT.Nat C
  | [], _ => trivial
  | (_, _) :: _, hC => ⟨hC.1.1, CT.Ok.nat hC.2⟩

/-- What a function is said to do that knows more than its arguments: one that calls itself, one that calls a loop's rounds. -/
abbrev XP := List AVal → AHeap → Option (AVal × AHeap)
abbrev XI := (Nat → XP) → XP
structure XE where
  T : Tab
  C : List (Nat × XC)
  D : List (Nat × DPart)
  Ms : List (Nat × List Nat)
  Ml : List (Nat × List Nat)
  Mo : List (Nat × List Nat)
  n : Nat
  Y : Nat → XP := fun _ _ _ => none
  I : List (Nat × XI) := []

def quietB (T : Tab) : Op → Bool
  | .alloc _ | .box _ _ | .buildSlice _ _ _ | .store _ _ _ | .makeSlice _ _ _ | .makeMap _ _ | .mapUpdate _ _ _ _ | .insert _ _ _ _ | .range _ _ | .next _ _ => false
  | .convert _ d _ => match T.und d with
    | some (.slice _) => false
    | _ => true
  | .call { callee := .builtin b, .. } => match b with
    | .append | .copy | .delete => false
    | _ => true
  | _ => true
section step
variable {R : Type}
def castD (T : Tab) (d : Option Nat) (t : Nat) (v : AVal) : Option AVal := match d with
  | none => some v
  | some _ => castT T t v
def castDK (T : Tab) (d : Option Nat) (t : Nat) (v : AVal) (K : AVal → Option R) : Option R := match d with
  | none => K v
  | some _ => castK T t v K
theorem castDK_eq (T : Tab) (d : Option Nat) (t : Nat) (v : AVal) (K : AVal → Option R) : castDK T d t v K = (castD T d t v).bind K := by
  cases d
  · rfl
  · exact castK_eq ..
noncomputable def reqC (p : Prop) : Option Unit := @ite _ p (Classical.propDecidable p) (some ()) none
theorem reqC_some {p : Prop} {u : Unit} (h : reqC p = some u) : p := by
  unfold reqC at h
  split at h
  · assumption
  · cases h
theorem reqC_true {p : Prop} (h : p) : reqC p = some () := by unfold reqC; rw [if_pos h]
noncomputable def xstepQ (E : XE) (only : Bool) (o : Oper) (f : Fr) (h : AHeap) (K : AVal → Option R) : Option R := match o.op with
  | .call { callee := .value fv, args, .. } => match fEval f fv with
    | .fn (.func i) vs ws => match findN E.C i with
      | some (.p g) => g R (vs ++ evsF (fEval f) args ++ ws) fun v => castDK E.T o.dst o.type v K
      | some (.q g) => match only with
        | true => none
        | false => g R (vs ++ evsF (fEval f) args ++ ws) h fun v => castDK E.T o.dst o.type v K
      | some (.l g) => match only with
        | true => none
        | false => (g (AVal × AHeap) (vs ++ evsF (fEval f) args ++ ws) h mkP).bind fun r => (reqC (r.2 = h)).bind fun _ => castDK E.T o.dst o.type r.1 K
      | _ => none
    | _ => none
  | op => match quietB E.T op with
    | true => xqK E.T op (fEval f) h fun v => castDK E.T o.dst o.type v K
    | false => none
noncomputable def xstep (E : XE) (o : Oper) (f : Fr) (h : AHeap) (K : AVal → AHeap → Option R) : Option R := match o.op with
  | .call { callee := .value fv, args, .. } => match fEval f fv with
    | .fn (.func i) vs ws => match findN E.C i with
      | some (.p g) => g R (vs ++ evsF (fEval f) args ++ ws) fun v => castDK E.T o.dst o.type v fun v => K v h
      | some (.q g) => g R (vs ++ evsF (fEval f) args ++ ws) h fun v => castDK E.T o.dst o.type v fun v => K v h
      | some (.l g) => g R (vs ++ evsF (fEval f) args ++ ws) h fun v h => castDK E.T o.dst o.type v fun v => K v h
      | _ => none
    | .yld b => (E.Y b (evsF (fEval f) args) h).bind fun r => castDK E.T o.dst o.type r.1 fun v => K v r.2
    | _ => none
  | op => match quietB E.T op with
    | true => xqK E.T op (fEval f) h fun v => castDK E.T o.dst o.type v fun v => K v h
    | false => xlK E.T op (fEval f) h fun v h => castDK E.T o.dst o.type v fun v => K v h
theorem castDK_bind (T : Tab) (d : Option Nat) (t : Nat) (v : AVal) (K : AVal → Option R) : castDK T d t v K = (castDK T d t v some).bind K := by
  rw [castDK_eq, castDK_eq, Option.bind_assoc]; rfl
theorem xstepQ_bind {E : XE} (hN : CT.Nat E.C) (only : Bool) (o : Oper) (f : Fr) (h : AHeap) (K : AVal → Option R) : xstepQ E only o f h K = (xstepQ E only o f h some).bind K := by
  unfold xstepQ
  split
  · split
    · split
      · rename_i g hg
        have hn := hN.find hg
        rw [hn R, hn AVal _ fun v => castDK E.T o.dst o.type v some, Option.bind_assoc]
        congr 1; funext v
        exact castDK_bind ..
      · rename_i g hg
        have hn := hN.find hg
        cases only with
        | true => rfl
        | false =>
          simp only
          rw [hn R, hn AVal _ _ fun v => castDK E.T o.dst o.type v some, Option.bind_assoc]
          congr 1; funext v
          exact castDK_bind ..
      · cases only with
        | true => rfl
        | false =>
          simp only
          rw [Option.bind_assoc]
          congr 1; funext r
          rw [Option.bind_assoc]
          congr 1; funext u
          exact castDK_bind ..
      · rfl
    · rfl
  · split
    · rw [xqK_eq, xqK_eq, Option.bind_assoc]
      congr 1; funext v
      exact castDK_bind ..
    · rfl
theorem castDK_bind2 (T : Tab) (d : Option Nat) (t : Nat) (v : AVal) (h : AHeap) (K : AVal → AHeap → Option R) : (castDK T d t v fun v => K v h) = (castDK T d t v fun v => mkP v h).bind fun r => K r.1 r.2 := by
  rw [castDK_eq, castDK_eq, Option.bind_assoc]; rfl
theorem xstep_bind {E : XE} (hN : CT.Nat E.C) (o : Oper) (f : Fr) (h : AHeap) (K : AVal → AHeap → Option R) : xstep E o f h K = (xstep E o f h mkP).bind fun r => K r.1 r.2 := by
  unfold xstep
  split
  · split
    · split
      · rename_i g hg
        have hn := hN.find hg
        rw [hn R, hn (AVal × AHeap) _ fun v => castDK E.T o.dst o.type v fun v => mkP v h, Option.bind_assoc]
        congr 1; funext v
        exact castDK_bind2 ..
      · rename_i g hg
        have hn := hN.find hg
        rw [hn R, hn (AVal × AHeap) _ _ fun v => castDK E.T o.dst o.type v fun v => mkP v h, Option.bind_assoc]
        congr 1; funext v
        exact castDK_bind2 ..
      · rename_i g hg
        have hn := hN.find hg
        rw [hn R, hn (AVal × AHeap) _ _ fun v h => castDK E.T o.dst o.type v fun v => mkP v h, Option.bind_assoc]
        congr 1; funext v
        exact castDK_bind2 ..
      · rfl
    · rw [Option.bind_assoc]
      congr 1; funext r
      exact castDK_bind2 ..
    · rfl
  · split
    · rw [xqK_eq, xqK_eq, Option.bind_assoc]
      congr 1; funext v
      exact castDK_bind2 ..
    · rw [xlK_eq, xlK_eq, Option.bind_assoc]
      congr 1; funext v
      exact castDK_bind2 ..
def fputK (n : Nat) (f : Fr) (d : Option Nat) (v : AVal) (K : Fr → Option R) : Option R := match d with
  | none => K f
  | some d => match Nat.blt d n with
    | true => K ((d, v) :: f)
    | false => none
theorem fputK_eq (n : Nat) (f : Fr) (d : Option Nat) (v : AVal) (K : Fr → Option R) : fputK n f d v K = (fput n f d v).bind K := by
  cases d with
  | none => rfl
  | some d => unfold fputK fput; simp only; cases Nat.blt d n <;> rfl
noncomputable def xguard (ops : Array Oper) (o : Oper) (f : Fr) (yes no : Fr → Option R) : Option R := match o.guard with
  | none => yes f
  | some (j, want) => match (ops[j]?).bind (·.dst) with
    | some d => match f.get d with
      | .lit (.bool b) => cond b (cond want (yes ((d, .lit (.bool true)) :: f)) (no ((d, .lit (.bool true)) :: f))) (cond want (no ((d, .lit (.bool false)) :: f)) (yes ((d, .lit (.bool false)) :: f)))
      | .lit (.tuple _) => no f
      | _ => none
    | none => none
noncomputable def xopsF {R : Type} (E : XE) (rid : Nat) (ops : Array Oper) (l : List Oper) : Nat → Fr → AHeap → (Fr → AHeap → Option R) → Option R :=
  List.rec (motive := fun _ => Nat → Fr → AHeap → (Fr → AHeap → Option R) → Option R) (fun _ f h K => K f h) (fun o _ ih i f h K => xguard ops o f
      (fun f => xstep E o f h fun v h => fputK E.n f o.dst v fun f => ih (i + 1) (maskO f (findN E.Mo (rid * 1000 + (i + 1)))) h K)
      (fun f => fputK E.n f o.dst skipV fun f => ih (i + 1) (maskO f (findN E.Mo (rid * 1000 + (i + 1)))) h K)) l
/-- What is behind an operation at which ways meet: stuck, so that its parts are compared, and it is not carried out. -/
noncomputable def joF : { g : ∀ R : Type, XE → Nat → Array Oper → List Oper → Nat → Fr → AHeap → (Fr → AHeap → Option R) → Option R // ∀ R E rid ops l i f h K, g R E rid ops l i f h K = xopsF E rid ops l i f h K } :=
  Classical.choice ⟨⟨fun R E rid ops l i f h K => xopsF E rid ops l i f h K, fun _ _ _ _ _ _ _ _ _ => rfl⟩⟩
noncomputable def jo {R : Type} (E : XE) (rid : Nat) (ops : Array Oper) (l : List Oper) (i : Nat) (f : Fr) (h : AHeap) (K : Fr → AHeap → Option R) : Option R := joF.1 R E rid ops l i f h K
theorem jo_eqF {R : Type} (E : XE) (rid : Nat) (ops : Array Oper) (l : List Oper) (i : Nat) (f : Fr) (h : AHeap) (K : Fr → AHeap → Option R) : jo E rid ops l i f h K = xopsF E rid ops l i f h K := joF.2 R E rid ops l i f h K
noncomputable def atOps {R : Type} (E : XE) (rid : Nat) (ops : Array Oper) (l : List Oper) (m : Option (List Nat)) (i : Nat) (f : Fr) (h : AHeap) (K : Fr → AHeap → Option R) (go : Fr → Option R) : Option R := match m with
  | none => go f
  | some ks => jo E rid ops l i (fmask f ks) h K
noncomputable def xops (E : XE) (rid : Nat) (ops : Array Oper) (l : List Oper) : Nat → Fr → AHeap → (Fr → AHeap → Option R) → Option R :=
  List.rec (motive := fun _ => Nat → Fr → AHeap → (Fr → AHeap → Option R) → Option R) (fun _ f h K => K f h) (fun o rest ih i f h K => xguard ops o f
      (fun f => xstep E o f h fun v h => fputK E.n f o.dst v fun f => atOps E rid ops rest (findN E.Mo (rid * 1000 + (i + 1))) (i + 1) f h K fun f => ih (i + 1) f h K)
      (fun f => fputK E.n f o.dst skipV fun f => atOps E rid ops rest (findN E.Mo (rid * 1000 + (i + 1))) (i + 1) f h K fun f => ih (i + 1) f h K)) l
theorem xopsF_cons (E : XE) (rid : Nat) (ops : Array Oper) (o : Oper) (rest : List Oper) (i : Nat) (f : Fr) (h : AHeap) (K : Fr → AHeap → Option R) : xopsF E rid ops (o :: rest) i f h K = xguard ops o f
      (fun f => xstep E o f h fun v h => fputK E.n f o.dst v fun f => xopsF E rid ops rest (i + 1) (maskO f (findN E.Mo (rid * 1000 + (i + 1)))) h K)
      (fun f => fputK E.n f o.dst skipV fun f => xopsF E rid ops rest (i + 1) (maskO f (findN E.Mo (rid * 1000 + (i + 1)))) h K) := rfl
theorem atOps_eqF (E : XE) (rid : Nat) (ops : Array Oper) (l : List Oper) (m : Option (List Nat)) (i : Nat) (f : Fr) (h : AHeap) (K : Fr → AHeap → Option R) (go : Fr → Option R) (hg : ∀ f, go f = xopsF E rid ops l i f h K) : atOps E rid ops l m i f h K go = xopsF E rid ops l i (maskO f m) h K := by
  cases m with
  | none => exact hg f
  | some ks => exact jo_eqF ..
theorem xopsF_eq {E : XE} {rid : Nat} {ops : Array Oper} : ∀ (l : List Oper) (i : Nat) (f : Fr) (h : AHeap) (K : Fr → AHeap → Option R), xopsF E rid ops l i f h K = xops E rid ops l i f h K
  | [], _, _, _, _ => rfl
  | o :: rest, i, f, h, K => by
    show xguard ops o f (fun f => xstep E o f h fun v h => fputK E.n f o.dst v fun f => xopsF E rid ops rest (i + 1) (maskO f (findN E.Mo (rid * 1000 + (i + 1)))) h K)
      (fun f => fputK E.n f o.dst skipV fun f => xopsF E rid ops rest (i + 1) (maskO f (findN E.Mo (rid * 1000 + (i + 1)))) h K) =
      xguard ops o f (fun f => xstep E o f h fun v h => fputK E.n f o.dst v fun f => atOps E rid ops rest (findN E.Mo (rid * 1000 + (i + 1))) (i + 1) f h K fun f => xops E rid ops rest (i + 1) f h K)
      (fun f => fputK E.n f o.dst skipV fun f => atOps E rid ops rest (findN E.Mo (rid * 1000 + (i + 1))) (i + 1) f h K fun f => xops E rid ops rest (i + 1) f h K)
    have e : ∀ f h, atOps E rid ops rest (findN E.Mo (rid * 1000 + (i + 1))) (i + 1) f h K (fun f => xops E rid ops rest (i + 1) f h K) = xopsF E rid ops rest (i + 1) (maskO f (findN E.Mo (rid * 1000 + (i + 1)))) h K :=
      fun f h => atOps_eqF _ _ _ _ _ _ _ _ _ _ fun f => (xopsF_eq rest _ _ _ _).symm
    simp only [e]
theorem jo_eq (E : XE) (rid : Nat) (ops : Array Oper) (l : List Oper) (i : Nat) (f : Fr) (h : AHeap) (K : Fr → AHeap → Option R) : jo E rid ops l i f h K = xops E rid ops l i f h K := (jo_eqF ..).trans (xopsF_eq ..)
theorem xops_nil (E : XE) (rid : Nat) (ops : Array Oper) (i : Nat) (f : Fr) (h : AHeap) (K : Fr → AHeap → Option R) : xops E rid ops [] i f h K = K f h := rfl
theorem xops_cons (E : XE) (rid : Nat) (ops : Array Oper) (o : Oper) (rest : List Oper) (i : Nat) (f : Fr) (h : AHeap) (K : Fr → AHeap → Option R) : xops E rid ops (o :: rest) i f h K = xguard ops o f
      (fun f => xstep E o f h fun v h => fputK E.n f o.dst v fun f => xops E rid ops rest (i + 1) (maskO f (findN E.Mo (rid * 1000 + (i + 1)))) h K)
      (fun f => fputK E.n f o.dst skipV fun f => xops E rid ops rest (i + 1) (maskO f (findN E.Mo (rid * 1000 + (i + 1)))) h K) := by
  rw [← xopsF_eq, xopsF_cons]
  simp only [xopsF_eq]
/-- The objects that the head makes: who makes them, their slots, how they are seen, what they have. -/
abbrev Pd := List (Nat × Option Nat × AMk × List AVal)
def pdGet : Pd → Nat → Option (Option Nat × AMk × List AVal)
  | [], _ => none
  | (i, d, m, cs) :: p, j => match Nat.beq i j with
    | true => some (d, m, cs)
    | false => pdGet p j
def pdSet : Pd → Nat → List AVal → Pd
  | [], _, _ => []
  | (i, d, m, cs) :: p, j, cs' => match Nat.beq i j with
    | true => (i, d, m, cs') :: p
    | false => (i, d, m, cs) :: pdSet p j cs'
/-- Stores into a whole new object. -/
def sti1 (cs : List AVal) (x : AVal) : Option (List AVal) := (req (x.one = true ∧ cs.length = 1)).bind fun _ => some [x]
def stin (n : Nat) (cs vs : List AVal) : Option (List AVal) := (req (vs.all (·.one) = true ∧ n = vs.length ∧ cs.length = n)).bind fun _ => some vs
def xstiK (T : Tab) (t : Nat) (x : AVal) (cs : List AVal) (K : List AVal → Option R) : Option R := match T.agg t, T.siz t with
  | some false, some 1 => (sti1 cs x).bind K
  | some true, some n => x.parts.bind fun vs => (stin n cs vs).bind K
  | _, _ => none
theorem xstiK_eq (T : Tab) (t : Nat) (x : AVal) (cs : List AVal) (K : List AVal → Option R) : xstiK T t x cs K = (xstiK T t x cs some).bind K := by
  unfold xstiK
  rcases T.agg t with _ | b
  · rfl
  · rcases T.siz t with _ | n
    · cases b <;> rfl
    · cases b
      · rcases n with _ | _ | n <;> first | rfl | simp
      · simp [Option.bind_assoc]
def notTmp (y : Operand) (d : Nat) : Bool := match y with
  | .tmp e => !(Nat.beq e d)
  | _ => true
def xsti (T : Tab) (n : Nat) (o : Oper) (g : Operand → AVal) (q : Option (Option Nat × AMk × List AVal)) (K : List AVal → Option R) : Option R := match o.op with
  | .store t (.tmp e) y => match q with
    | some (some d, .ptr, cs) => match Nat.beq e d && notTmp y d && Nat.blt d n && o.dst.isNone with
      | true => xstiK T t (g y) cs K
      | false => none
    | _ => none
  | _ => none
theorem xsti_eq (T : Tab) (n : Nat) (o : Oper) (g : Operand → AVal) (q : Option (Option Nat × AMk × List AVal)) (K : List AVal → Option R) : xsti T n o g q K = (xsti T n o g q some).bind K := by
  unfold xsti
  split
  · split
    · split
      · exact xstiK_eq ..
      · rfl
    · rfl
  · rfl
def shutB (A : List Nat) (cs : List AVal) : Bool := match Nat.ble 2 A.length with
  | true => closedL cs
  | false => true
noncomputable def xopsQ (E : XE) (ops : Array Oper) (A : List Nat) (S : Sts) (h : AHeap) (l : List Nat) : Fr → Pd → (Fr → Pd → Option R) → Option R :=
  List.rec (motive := fun _ => Fr → Pd → (Fr → Pd → Option R) → Option R) (fun f p K => K f p) (fun i _ ih f p K => match ops[i]? with
    | some o => xguard ops o f
      (fun f => match obOf S i with
        | some j => xsti E.T E.n o (fEval f) (pdGet p j) fun cs => ih f (pdSet p j cs) K
        | none => match A.contains i with
          | true => xA E.T o.op (fEval f) fun m cs => cond (shutB A cs) (fputK E.n f o.dst .any fun f => ih f (p ++ [(i, o.dst, m, cs)]) K) none
          | false => xstepQ E (!A.isEmpty) o f h fun v => fputK E.n f o.dst v fun f => ih f p K)
      (fun f => fputK E.n f o.dst skipV fun f => ih f p K)
    | none => none) l
theorem xopsQ_cons (E : XE) (ops : Array Oper) (A : List Nat) (S : Sts) (h : AHeap) (i : Nat) (rest : List Nat) (f : Fr) (p : Pd) (K : Fr → Pd → Option R) : xopsQ E ops A S h (i :: rest) f p K = match ops[i]? with
    | some o => xguard ops o f
      (fun f => match obOf S i with
        | some j => xsti E.T E.n o (fEval f) (pdGet p j) fun cs => xopsQ E ops A S h rest f (pdSet p j cs) K
        | none => match A.contains i with
          | true => xA E.T o.op (fEval f) fun m cs => cond (shutB A cs) (fputK E.n f o.dst .any fun f => xopsQ E ops A S h rest f (p ++ [(i, o.dst, m, cs)]) K) none
          | false => xstepQ E (!A.isEmpty) o f h fun v => fputK E.n f o.dst v fun f => xopsQ E ops A S h rest f p K)
      (fun f => fputK E.n f o.dst skipV fun f => xopsQ E ops A S h rest f p K)
    | none => none := rfl
/-- Does the operation leave the memory? -/
noncomputable def stillF (E : XE) (fv : Operand) : Bool := match fv with
  | .func i => match findN E.C i with
    | some (.p _) => true
    | some (.q _) => true
    | _ => false
  | _ => false
noncomputable def stillB (E : XE) (o : Oper) (f : Fr) : Bool := match o.op with
  | .call { callee := .value fv, .. } => stillF E fv
  | op => quietB E.T op
theorem stillF_l {E : XE} {f : Fr} {fv : Operand} {i : Nat} {vs ws : List AVal} (hf : fEval f fv = .fn (.func i) vs ws) (hs : stillF E fv = true) (hp : ∀ g, findN E.C i ≠ some (.p g)) (hq : ∀ g, findN E.C i ≠ some (.q g)) : False := by
  unfold stillF at hs
  split at hs
  · rename_i j
    have e : fEval f (.func j) = .fn (.func j) [] [] := rfl
    rw [e] at hf; cases hf
    split at hs
    · rename_i g hg; exact hp g hg
    · rename_i g hg; exact hq g hg
    · cases hs
  · cases hs
noncomputable def xreads (E : XE) (ops : Array Oper) (h : AHeap) (l : List Nat) : Fr → List (Nat × AVal) → (Fr → List (Nat × AVal) → Option R) → Option R :=
  List.rec (motive := fun _ => Fr → List (Nat × AVal) → (Fr → List (Nat × AVal) → Option R) → Option R) (fun f ls K => K f ls) (fun i _ ih f ls K => match ops[i]? with
    | some o => match o.guard with
      | none => xstepQ E false o f h fun v => fputK E.n f o.dst v fun f => ih f (ls ++ [(i, v)]) K
      | some _ => none
    | none => none) l
theorem xreads_cons (E : XE) (ops : Array Oper) (h : AHeap) (i : Nat) (rest : List Nat) (f : Fr) (ls : List (Nat × AVal)) (K : Fr → List (Nat × AVal) → Option R) : xreads E ops h (i :: rest) f ls K = match ops[i]? with
    | some o => match o.guard with
      | none => xstepQ E false o f h fun v => fputK E.n f o.dst v fun f => xreads E ops h rest f (ls ++ [(i, v)]) K
      | some _ => none
    | none => none := rfl
noncomputable def xchk (E : XE) (ops : Array Oper) (f : Fr) (h : AHeap) (K : Option R) (ls : List (Nat × AVal)) : Option R :=
  List.rec (motive := fun _ => Option R) K (fun r _ ih => match ops[r.1]? with
    | some o => match freeB o.op with
      | true => ih
      | false => (reqC (xstepQ E false o f h some = some r.2)).bind fun _ => ih
    | none => none) ls
theorem xchk_cons (E : XE) (ops : Array Oper) (f : Fr) (h : AHeap) (K : Option R) (r : Nat × AVal) (ls : List (Nat × AVal)) : xchk E ops f h K (r :: ls) = match ops[r.1]? with
    | some o => match freeB o.op with
      | true => xchk E ops f h K ls
      | false => (reqC (xstepQ E false o f h some = some r.2)).bind fun _ => xchk E ops f h K ls
    | none => none := rfl
noncomputable def xopsL (E : XE) (ops : Array Oper) (T : TP) : List (Nat × AVal) → Fr → AHeap → (Fr → AHeap → Option R) → Option R :=
  List.rec (motive := fun _ => List (Nat × AVal) → Fr → AHeap → (Fr → AHeap → Option R) → Option R) (fun _ f h K => K f h) (fun x _ ih ls f h K => match ops[x.1]? with
    | some o => xguard ops o f
      (fun f => xstep E o f h fun v h' => fputK E.n f o.dst v fun f' => match stillB E o f with
        | true => ih (pendAfter x.2 ls) f' h' K
        | false => xchk E ops f' h' (ih (pendAfter x.2 ls) f' h' K) (pendAfter x.2 ls))
      (fun f => fputK E.n f o.dst skipV fun f => ih (pendAfter x.2 ls) f h K)
    | none => none) T
theorem xopsL_cons (E : XE) (ops : Array Oper) (x : Nat × List Nat) (T : TP) (ls : List (Nat × AVal)) (f : Fr) (h : AHeap) (K : Fr → AHeap → Option R) : xopsL E ops (x :: T) ls f h K = match ops[x.1]? with
    | some o => xguard ops o f
      (fun f => xstep E o f h fun v h' => fputK E.n f o.dst v fun f' => match stillB E o f with
        | true => xopsL E ops T (pendAfter x.2 ls) f' h' K
        | false => xchk E ops f' h' (xopsL E ops T (pendAfter x.2 ls) f' h' K) (pendAfter x.2 ls))
      (fun f => fputK E.n f o.dst skipV fun f => xopsL E ops T (pendAfter x.2 ls) f h K)
    | none => none := rfl
/-- Moves and sums that come first. -/
def xfl1 (T : Tab) (o : Oper) (g : Operand → AVal) (K : AVal → Option R) : Option R := match o.guard with
  | some _ => none
  | none => match o.op with
    | .move x => K (g x)
    | .assign x => K (g x)
    | .binOp op t x y _ => match g x, g y with
      | .lit (.int k a), .lit (.int k' b) => xBinK T op t x y (.lit (.int k a)) (.lit (.int k' b)) K
      | _, _ => none
    | _ => none
theorem xfl1_eq (T : Tab) (o : Oper) (g : Operand → AVal) (K : AVal → Option R) : xfl1 T o g K = (xfl1 T o g some).bind K := by
  unfold xfl1
  split
  · rfl
  · split
    · rfl
    · rfl
    · split
      · rw [xBinK_eq, xBinK_eq, Option.bind_assoc]; rfl
      · rfl
    · rfl
noncomputable def xflt (T : Tab) (n : Nat) (ops : Array Oper) (l : List Nat) : Fr → (Fr → Option R) → Option R :=
  List.rec (motive := fun _ => Fr → (Fr → Option R) → Option R) (fun f K => K f) (fun i _ ih f K => match ops[i]? with
    | some o => xfl1 T o (fEval f) fun v => fputK n f o.dst v fun f => ih f K
    | none => none) l
theorem xflt_cons (T : Tab) (n : Nat) (ops : Array Oper) (i : Nat) (rest : List Nat) (f : Fr) (K : Fr → Option R) : xflt T n ops (i :: rest) f K = match ops[i]? with
    | some o => xfl1 T o (fEval f) fun v => fputK n f o.dst v fun f => xflt T n ops rest f K
    | none => none := rfl
/-- They are there. -/
def pdHeap : Pd → List AObj
  | [] => []
  | (_, _, _, cs) :: p => .cells cs :: pdHeap p
def pdOn (h : AHeap) (p : Pd) : AHeap := match p with
  | [] => h
  | x :: p => h ++ pdHeap (x :: p)
theorem pdOn_eq (h : AHeap) (p : Pd) : pdOn h p = h ++ pdHeap p := by
  cases p with
  | nil => simp [pdOn, pdHeap]
  | cons x p => rfl
def pdFill (n : Nat) : Pd → Nat → Fr → (Fr → Option R) → Option R
  | [], _, f, K => K f
  | (_, d, m, _) :: p, b, f, K => fputK n f d (m.val b) fun f => pdFill n p (b + 1) f K
end step
end Go.Proofs.YteahajcgbogjkaaGreat.AL
/- Code, reckoned: what a run comes to. -/
namespace Go.Proofs.YteahajcgbogjkaaGreat.AL
set_option linter.unusedVariables false
set_option linter.unusedSimpArgs false
open Go

variable {ρ ρ' : Env} {h h' : AHeap} {w w' : World} {P : Program}

theorem castD_same {T : Tab} {d : Option Nat} {t : Nat} {v v' : AVal} (hc : castD T d t v = some v') : v' = v := by
  unfold castD at hc
  split at hc
  · cases hc; rfl
  · exact castT_eq hc
theorem castDK_some {R : Type} {T : Tab} {d : Option Nat} {t : Nat} {v : AVal} {K : AVal → Option R} {r : R} (hc : castDK T d t v K = some r) : K v = some r := by
  rw [castDK_eq] at hc
  obtain ⟨v', h1, h2⟩ := Option.bind_eq_some_iff.1 hc
  rw [castD_same h1] at h2; exact h2

/-! ### One step is what the logic asks -/
/-- What a round's contract says is so. -/
def YdOk (P : Program) (b : Nat) (Y : XP) : Prop := ∀ args h v h', Y args h = some (v, h') → AYield P b args h fun e g => e = .ret v ∧ g = h'
def XI.Ok (P : Program) (i : FuncId) (I : XI) : Prop := callable P i = true ∧ ∀ Y : Nat → XP, (∀ b, YdOk P b (Y b)) → ∀ args h v h', I Y args h = some (v, h') → ACalls P i args h fun e g => e = .ret v ∧ g = h'
def ITOk (P : Program) : List (Nat × XI) → Prop
  | [] => True
  | (i, I) :: l => XI.Ok P i I ∧ ITOk P l
theorem ITOk.find {P : Program} : ∀ {C : List (Nat × XI)} {i : Nat} {c : XI}, ITOk P C → findN C i = some c → XI.Ok P i c
  | [], i, c, _, h => by cases h
  | (k, x) :: l, i, c, hC, h => by
    rcases findN_some h with ⟨rfl, rfl⟩ | h
    · exact hC.1
    · exact ITOk.find hC.2 h
theorem ydOk_none {P : Program} : ∀ b : Nat, YdOk P b ((fun _ _ _ => none : Nat → XP) b) := fun b args h v h' hx => by cases hx
structure XE.Ok (E : XE) (P : Program) : Prop where
  T : E.T.Ok P
  C : CT.Ok P E.C
  Y : ∀ b, YdOk P b (E.Y b)
  I : ITOk P E.I

theorem xstep_ok {R : Type} {E : XE} (hE : E.Ok P) {o : Oper} {f : Fr} {K0 : AVal → AHeap → Option R} {r : R} {K : List AVal → AHeap → Prop} {Q : AQ} (hw : f.Wf E.n) (hs : xstep E o f h K0 = some r)
    (hK : ∀ v h', K0 v h' = some r → K (aset (f.lst E.n) o.dst v) h') : AOper P o (f.lst E.n) h K Q := by
  unfold xstep at hs
  unfold AOper
  have ev := aEval_lst hw
  have plain : (match quietB E.T o.op with
    | true => xqK E.T o.op (fEval f) h fun v => castDK E.T o.dst o.type v fun v => K0 v h
    | false => xlK E.T o.op (fEval f) h fun v h => castDK E.T o.dst o.type v fun v => K0 v h) = some r → AOp P o.op o.type (f.lst E.n) h fun v h' => K (aset (f.lst E.n) o.dst v) h' := by
    intro hs
    split at hs
    · rw [xqK_eq] at hs
      obtain ⟨v, h1, hs⟩ := Option.bind_eq_some_iff.1 hs
      exact xq_ok hE.T (by rw [ev]; exact h1) (hK _ _ (castDK_some hs))
    · rw [xlK_eq] at hs
      obtain ⟨v, h1, hs⟩ := Option.bind_eq_some_iff.1 hs
      exact xl_ok hE.T (by rw [ev]; exact h1) (hK _ _ (castDK_some hs))
  split
  · rename_i fv args tys he
    simp only [he] at hs
    unfold ACall
    rw [ev]
    split at hs
    · rename_i i vs ws hf
      simp only [hf]
      have evs_eq : evs (f.lst E.n) args = evsF (fEval f) args := by unfold evs evsF; rw [ev]
      split at hs
      · rename_i g hg
        obtain ⟨hn, hc⟩ := hE.C.find hg
        rw [hn] at hs
        obtain ⟨v, h1, hs⟩ := Option.bind_eq_some_iff.1 hs
        refine ⟨hc.1, ?_⟩
        rw [evs_eq]
        refine (hc.2 _ h _ h1).mono ?_
        rintro e h' ⟨rfl, rfl⟩
        exact hK _ _ (castDK_some hs)
      · rename_i g hg
        obtain ⟨hn, hc⟩ := hE.C.find hg
        rw [hn] at hs
        obtain ⟨v, h1, hs⟩ := Option.bind_eq_some_iff.1 hs
        refine ⟨hc.1, ?_⟩
        rw [evs_eq]
        refine (hc.2 _ _ _ h1).mono ?_
        rintro e h' ⟨rfl, rfl⟩
        exact hK _ _ (castDK_some hs)
      · rename_i g hg
        obtain ⟨hn, hc⟩ := hE.C.find hg
        rw [hn] at hs
        obtain ⟨r', h1, hs⟩ := Option.bind_eq_some_iff.1 hs
        refine ⟨hc.1, ?_⟩
        rw [evs_eq]
        refine (hc.2 _ _ _ _ h1).mono ?_
        rintro e h' ⟨rfl, rfl⟩
        exact hK _ _ (castDK_some hs)
      · cases hs
    · rename_i b hf
      simp only [hf]
      have evs_eq : evs (f.lst E.n) args = evsF (fEval f) args := by unfold evs evsF; rw [ev]
      obtain ⟨r', h1, hs⟩ := Option.bind_eq_some_iff.1 hs
      rw [evs_eq]
      refine (hE.Y b _ _ _ _ h1).mono ?_
      rintro e h' ⟨rfl, rfl⟩
      exact hK _ _ (castDK_some hs)
    · cases hs
  · rename_i hn
    refine plain ?_
    split at hs
    · rename_i he; exact (hn _ _ _ he).elim
    · exact hs

theorem xstepQ_ok {R : Type} {E : XE} (hE : E.Ok P) {only : Bool} {o : Oper} {f : Fr} {K0 : AVal → Option R} {r : R} (hw : f.Wf E.n) (hs : xstepQ E only o f h K0 = some r) :
    ∃ v, K0 v = some r ∧ ∀ e : AHeap, (only = false → e = []) → AOpQ P o (f.lst E.n) (h ++ e) v := by
  unfold xstepQ at hs
  unfold AOpQ
  have ev := aEval_lst hw
  split
  · rename_i fv args tys he
    simp only [he] at hs
    rw [ev]
    split at hs
    · rename_i i vs ws hf
      simp only [hf]
      have evs_eq : evs (f.lst E.n) args = evsF (fEval f) args := by unfold evs evsF; rw [ev]
      split at hs
      · rename_i g hg
        obtain ⟨hn, hc⟩ := hE.C.find hg
        rw [hn] at hs
        obtain ⟨v, h1, hs⟩ := Option.bind_eq_some_iff.1 hs
        refine ⟨v, castDK_some hs, fun e _ => ⟨hc.1, ?_⟩⟩
        rw [evs_eq]
        exact hc.2 _ _ _ h1
      · rename_i g hg
        obtain ⟨hn, hc⟩ := hE.C.find hg
        cases only with
        | true => cases hs
        | false =>
          simp only at hs
          rw [hn] at hs
          obtain ⟨v, h1, hs⟩ := Option.bind_eq_some_iff.1 hs
          refine ⟨v, castDK_some hs, fun e he => ⟨hc.1, ?_⟩⟩
          rw [evs_eq, he rfl, List.append_nil]
          exact hc.2 _ _ _ h1
      · rename_i g hg
        obtain ⟨hn, hc⟩ := hE.C.find hg
        cases only with
        | true => cases hs
        | false =>
          simp only at hs
          obtain ⟨⟨v, h'⟩, h1, hs1⟩ := Option.bind_eq_some_iff.1 hs
          obtain ⟨_, hq, hs2⟩ := Option.bind_eq_some_iff.1 hs1
          have hq' : h' = h := reqC_some hq
          subst hq'
          refine ⟨v, castDK_some hs2, fun e he => ⟨hc.1, ?_⟩⟩
          rw [evs_eq, he rfl, List.append_nil]
          exact hc.2 _ _ _ _ h1
      · cases hs
    · cases hs
  · rename_i hn
    split at hs
    · rename_i he; exact (hn _ _ _ he).elim
    · split at hs
      · rw [xqK_eq] at hs
        obtain ⟨v, h1, hs⟩ := Option.bind_eq_some_iff.1 hs
        exact ⟨v, castDK_some hs, fun e _ => xq_ok hE.T (by rw [ev]; exact xq_more e h1) ⟨rfl, rfl⟩⟩
      · cases hs

theorem lst_same {n d : Nat} {f : Fr} {v : AVal} (hg : f.get d = v) : Fr.lst n ((d, v) :: f) = f.lst n := by
  unfold Fr.lst
  refine List.map_congr_left fun i _ => ?_
  rw [Fr.get_cons]
  by_cases h : i = d
  · subst h; rw [if_pos rfl]; exact hg.symm
  · rw [if_neg h]
theorem wf_same {n d : Nat} {f : Fr} {v : AVal} (hg : f.get d = v) (hw : f.Wf n) : Fr.Wf n ((d, v) :: f) := by
  intro t ht
  rw [Fr.get_cons]
  by_cases h : t = d
  · subst h; rw [if_pos rfl, ← hg]; exact hw _ ht
  · rw [if_neg h]; exact hw _ ht

theorem xguard_ok {R : Type} {n : Nat} {ops : Array Oper} {o : Oper} {f : Fr} {yes no : Fr → Option R} {r : R} (hw : f.Wf n) (hx : xguard ops o f yes no = some r) :
    ∃ g : Fr, g.Wf n ∧ g.lst n = f.lst n ∧ ((Want2 ops o (f.lst n) = some true ∧ yes g = some r) ∨ (Want2 ops o (f.lst n) = some false ∧ no g = some r)) := by
  unfold xguard at hx; unfold Want2
  rcases hg : o.guard with _ | ⟨j, want⟩
  · simp only [hg] at hx ⊢; exact ⟨f, hw, rfl, .inl ⟨by first | trivial | rfl, hx⟩⟩
  · simp only [hg] at hx ⊢
    rcases hd : (ops[j]?).bind (·.dst) with _ | d
    · simp [hd] at hx
    · simp only [hd] at hx ⊢
      rw [aget_lst hw]
      split at hx
      · rename_i b hb
        simp only [hb]
        cases b with
        | true =>
          refine ⟨_, wf_same hb hw, lst_same (n := n) hb, ?_⟩
          cases want with
          | true => exact .inl ⟨rfl, hx⟩
          | false => exact .inr ⟨rfl, hx⟩
        | false =>
          refine ⟨_, wf_same hb hw, lst_same (n := n) hb, ?_⟩
          cases want with
          | true => exact .inr ⟨rfl, hx⟩
          | false => exact .inl ⟨rfl, hx⟩
      · rename_i us hb
        simp only [hb]
        exact ⟨f, hw, rfl, .inr ⟨by first | trivial | rfl, hx⟩⟩
      · cases hx

theorem xops_ok {R : Type} {E : XE} (hE : E.Ok P) {rid : Nat} {ops : Array Oper} {Q : AQ} {K : Fr → AHeap → Option R} {r : R} (hQ : ∀ f h, f.Wf E.n → K f h = some r → Q .normal (f.lst E.n) h) :
    ∀ (l : List Oper) (i : Nat) (f f0 : Fr) (h : AHeap), f.Wf E.n → Weak (f0.lst E.n) (f.lst E.n) → xops E rid ops l i f h K = some r → WOps P ops Q l (f0.lst E.n) h
  | [], i, f, f0, h, hw, hwk, hx => ⟨_, hwk, hQ f h hw hx⟩
  | o :: rest, i, f, f0, h, hw, hwk, hx => by
    refine ⟨f.lst E.n, hwk, ?_⟩
    rw [xops_cons] at hx
    obtain ⟨g, hg, hl, hx⟩ := xguard_ok hw hx
    rcases hx with ⟨hw2, hx⟩ | ⟨hw2, hx⟩
    · refine .inl ⟨hw2, ?_⟩
      rw [← hl]
      refine xstep_ok hE hg hx fun v h' hx => ?_
      rw [fputK_eq] at hx
      obtain ⟨f', h2, hx⟩ := Option.bind_eq_some_iff.1 hx
      obtain ⟨e1, e2⟩ := fput_some h2 hg
      rw [← e1]
      exact xops_ok hE hQ rest (i + 1) _ f' _ (maskO_wf e2 _) (maskO_weak _ _ _) hx
    · refine .inr ⟨hw2, ?_⟩
      rw [fputK_eq] at hx
      obtain ⟨f', h2, hx⟩ := Option.bind_eq_some_iff.1 hx
      obtain ⟨e1, e2⟩ := fput_some h2 hg
      rw [← hl, ← e1]
      exact xops_ok hE hQ rest (i + 1) _ f' _ (maskO_wf e2 _) (maskO_weak _ _ _) hx

theorem xstepV_ok {R : Type} {E : XE} (hE : E.Ok P) {o : Oper} {f : Fr} {K0 : AVal → AHeap → Option R} {r : R} {K : AVal → AHeap → Prop} (hw : f.Wf E.n) (hs : xstep E o f h K0 = some r)
    (hK : ∀ v h', (stillB E o f = true → h' = h) → K0 v h' = some r → K v h') : AOperV P o (f.lst E.n) h K := by
  unfold xstep at hs
  unfold AOperV
  have ev := aEval_lst hw
  split
  · rename_i fv args tys he
    simp only [he] at hs
    rw [ev]
    split at hs
    · rename_i i vs ws hf
      simp only [hf]
      have evs_eq : evs (f.lst E.n) args = evsF (fEval f) args := by unfold evs evsF; rw [ev]
      split at hs
      · rename_i g hg
        obtain ⟨hn, hc⟩ := hE.C.find hg
        rw [hn] at hs
        obtain ⟨v, h1, hs⟩ := Option.bind_eq_some_iff.1 hs
        refine ⟨hc.1, ?_⟩
        rw [evs_eq]
        refine (hc.2 _ h _ h1).mono ?_
        rintro e h' ⟨rfl, rfl⟩
        exact ⟨v, rfl, hK _ _ (fun _ => rfl) (castDK_some hs)⟩
      · rename_i g hg
        obtain ⟨hn, hc⟩ := hE.C.find hg
        rw [hn] at hs
        obtain ⟨v, h1, hs⟩ := Option.bind_eq_some_iff.1 hs
        refine ⟨hc.1, ?_⟩
        rw [evs_eq]
        refine (hc.2 _ _ _ h1).mono ?_
        rintro e h' ⟨rfl, rfl⟩
        exact ⟨v, rfl, hK _ _ (fun _ => rfl) (castDK_some hs)⟩
      · rename_i g hg
        obtain ⟨hn, hc⟩ := hE.C.find hg
        rw [hn] at hs
        obtain ⟨r', h1, hs⟩ := Option.bind_eq_some_iff.1 hs
        refine ⟨hc.1, ?_⟩
        rw [evs_eq]
        refine (hc.2 _ _ _ _ h1).mono ?_
        rintro e h' ⟨rfl, rfl⟩
        refine ⟨r'.1, rfl, hK _ _ (fun hst => ?_) (castDK_some hs)⟩
        unfold stillB at hst
        simp only [he] at hst
        exact (stillF_l hf hst (fun g' h => by rw [hg] at h; cases h) (fun g' h => by rw [hg] at h; cases h)).elim
      · cases hs
    · rename_i b hf
      simp only [hf]
      have evs_eq : evs (f.lst E.n) args = evsF (fEval f) args := by unfold evs evsF; rw [ev]
      obtain ⟨r', h1, hs⟩ := Option.bind_eq_some_iff.1 hs
      rw [evs_eq]
      refine (hE.Y b _ _ _ _ h1).mono ?_
      rintro e h' ⟨rfl, rfl⟩
      refine ⟨r'.1, rfl, hK _ _ (fun hst => ?_) (castDK_some hs)⟩
      unfold stillB at hst
      simp only [he] at hst
      unfold stillF at hst
      split at hst
      · rename_i j
        have e : fEval f (.func j) = .fn (.func j) [] [] := rfl
        rw [e] at hf; cases hf
      · cases hst
    · cases hs
  · rename_i hn
    split at hs
    · rename_i he; exact (hn _ _ _ he).elim
    · rename_i hnv
      split at hs
      · rw [xqK_eq] at hs
        obtain ⟨v, h1, hs⟩ := Option.bind_eq_some_iff.1 hs
        exact xq_ok hE.T (by rw [ev]; exact h1) (hK _ _ (fun _ => rfl) (castDK_some hs))
      · rename_i hqb
        rw [xlK_eq] at hs
        obtain ⟨v, h1, hs⟩ := Option.bind_eq_some_iff.1 hs
        refine xl_ok hE.T (by rw [ev]; exact h1) (hK _ _ (fun hst => ?_) (castDK_some hs))
        unfold stillB at hst
        split at hst
        · rename_i he; exact (hn _ _ _ he).elim
        · rw [hqb] at hst; cases hst
theorem xchk_ok {R : Type} {E : XE} (hE : E.Ok P) {ops : Array Oper} {f : Fr} {h' : AHeap} {K : Option R} {r : R} (hw : f.Wf E.n) : ∀ {ls : List (Nat × AVal)}, xchk E ops f h' K ls = some r →
    (∀ x ∈ ls, ∃ o, ops[x.1]? = some o ∧ o.guard = none ∧ (freeB o.op = true → AOpQ P o (f.lst E.n) h' x.2)) → K = some r ∧ ∀ x ∈ ls, HoldsAt P ops x (f.lst E.n) h'
  | [], hx, _ => ⟨hx, fun x hm => by cases hm⟩
  | x :: ls, hx, hf => by
    obtain ⟨o, ho, hg, hfr⟩ := hf x (by simp)
    rw [xchk_cons, ho] at hx
    simp only at hx
    cases hb : freeB o.op with
    | true =>
      rw [hb] at hx
      obtain ⟨h1, h2⟩ := xchk_ok hE hw hx fun y hy => hf y (by simp [hy])
      refine ⟨h1, fun y hy => ?_⟩
      rcases List.mem_cons.1 hy with rfl | hy
      · exact ⟨o, ho, hg, hfr hb⟩
      · exact h2 y hy
    | false =>
      rw [hb] at hx
      obtain ⟨u, hq, hx⟩ := Option.bind_eq_some_iff.1 hx
      obtain ⟨h1, h2⟩ := xchk_ok hE hw hx fun y hy => hf y (by simp [hy])
      refine ⟨h1, fun y hy => ?_⟩
      rcases List.mem_cons.1 hy with rfl | hy
      · obtain ⟨v, h3, h4⟩ := xstepQ_ok hE hw (reqC_some hq)
        cases h3
        have := h4 [] (fun _ => rfl)
        rw [List.append_nil] at this
        exact ⟨o, ho, hg, this⟩
      · exact h2 y hy
theorem xopsL_ok {R : Type} {E : XE} (hE : E.Ok P) {ops : Array Oper} {Q : AQ} {K : Fr → AHeap → Option R} {r : R} (hQ : ∀ f h, f.Wf E.n → K f h = some r → Q .normal (f.lst E.n) h) :
    ∀ (T : TP) (ls : List (Nat × AVal)) (f : Fr) (h : AHeap), (∀ k pk, (k, pk) ∈ T → ∀ i ∈ pk, ∃ oi ok, ops[i]? = some oi ∧ ops[k]? = some ok ∧ oi.apart ops ok = true) → f.Wf E.n → (∀ x ∈ ls, HoldsAt P ops x (f.lst E.n) h) →
      xopsL E ops T ls f h K = some r → LOps P ops Q T ls (f.lst E.n) h
  | [], ls, f, h, _, hw, _, hx => hQ f h hw hx
  | (k, pk) :: T, ls, f, h, hsep, hw, hls, hx => by
    rw [xopsL_cons] at hx
    cases ho : ops[k]? with
    | none => rw [ho] at hx; cases hx
    | some o =>
      rw [ho] at hx
      simp only at hx
      refine ⟨o, ho, ?_⟩
      have keep : ∀ (d : Option Nat) (v : AVal), d = o.dst → ∀ x ∈ pendAfter pk ls, HoldsAt P ops x (aset (f.lst E.n) d v) h := fun d v hd x hx => by
        obtain ⟨h1, h2⟩ := pendAfter_mem.1 hx
        subst hd
        refine (hls x h1).put fun oi hoi e he => ?_
        obtain ⟨oi', ok, h3, h4, h5⟩ := hsep k pk (by simp) x.1 h2
        rw [hoi] at h3; cases h3
        rw [ho] at h4; cases h4
        exact (Oper.apart_spec h5).2.2 e he
      obtain ⟨g, hg, hl, hx⟩ := xguard_ok hw hx
      rcases hx with ⟨hw2, hx⟩ | ⟨hw2, hx⟩
      · refine .inl ⟨hw2, ?_⟩
        rw [← hl]
        refine xstepV_ok hE hg hx fun v h' hst hx1 => ?_
        rw [fputK_eq] at hx1
        obtain ⟨f', h2, hx2⟩ := Option.bind_eq_some_iff.1 hx1
        obtain ⟨e1, e2⟩ := fput_some h2 hg
        have kp := keep o.dst v rfl
        rw [← hl, ← e1] at kp
        rw [← e1]
        cases hs : stillB E o g with
        | true =>
          rw [hs] at hx2
          have := hst hs
          subst this
          exact ⟨kp, xopsL_ok hE hQ T _ f' _ (fun k pk hk => hsep k pk (by simp [hk])) e2 kp hx2⟩
        | false =>
          rw [hs] at hx2
          obtain ⟨h3, h4⟩ := xchk_ok hE e2 hx2 fun x hm => by
            obtain ⟨oi, a1, a2, a3⟩ := kp x hm
            exact ⟨oi, a1, a2, fun hf => aOpQ_free hf a3⟩
          exact ⟨h4, xopsL_ok hE hQ T _ f' h' (fun k pk hk => hsep k pk (by simp [hk])) e2 h4 h3⟩
      · refine .inr ⟨hw2, ?_⟩
        rw [fputK_eq] at hx
        obtain ⟨f', h2, hx⟩ := Option.bind_eq_some_iff.1 hx
        obtain ⟨e1, e2⟩ := fput_some h2 hg
        have kp := keep o.dst skipV rfl
        refine ⟨kp, ?_⟩
        rw [← hl, ← e1] at kp
        rw [← hl, ← e1]
        exact xopsL_ok hE hQ T _ f' h (fun k pk hk => hsep k pk (by simp [hk])) e2 kp hx
theorem xreads_ok {R : Type} {E : XE} (hE : E.Ok P) {ops : Array Oper} {Q : AQ} {T : TP} {K : Fr → List (Nat × AVal) → Option R} {r : R}
    (hQ : ∀ f ls, f.Wf E.n → K f ls = some r → (∀ x ∈ ls, HoldsAt P ops x (f.lst E.n) h) → LOps P ops Q T ls (f.lst E.n) h) :
    ∀ (is : List Nat) (f : Fr) (ls : List (Nat × AVal)), f.Wf E.n → xreads E ops h is f ls K = some r → LRd P ops Q T h is ls (f.lst E.n)
  | [], f, ls, hw, hx => fun hls => hQ f ls hw hx hls
  | i :: is, f, ls, hw, hx => by
    rw [xreads_cons] at hx
    split at hx
    · rename_i o ho
      split at hx
      · rename_i hg
        obtain ⟨v, hx, h1⟩ := xstepQ_ok hE hw hx
        have h1 := h1 [] (fun _ => rfl)
        rw [List.append_nil] at h1
        rw [fputK_eq] at hx
        obtain ⟨f', h2, hx⟩ := Option.bind_eq_some_iff.1 hx
        obtain ⟨e1, e2⟩ := fput_some h2 hw
        refine ⟨o, v, ho, hg, h1, ?_⟩
        rw [← e1]
        exact xreads_ok hE hQ is f' _ e2 hx
      · cases hx
    · cases hx

/-- The objects of the head, in order: what the head's ghost says, and what was gathered. -/
def Gath (ops : Array Oper) (S : Sts) (g : Gh) : List Nat → Pd → Prop
  | [], p => p = []
  | i :: A, p => match g i with
    | some D => ∃ p', p = (i, dstOf ops i, D.how, csOf S g i D) :: p' ∧ Gath ops S g A p'
    | none => Gath ops S g A p
theorem gath_heap {ops : Array Oper} {S : Sts} {g : Gh} : ∀ {A : List Nat} {p : Pd}, Gath ops S g A p → objsA S g A = pdHeap p
  | [], p, h => by unfold Gath at h; subst h; rfl
  | i :: A, p, h => by
    unfold Gath at h; unfold objsA
    split at h
    · rename_i D hg
      obtain ⟨p', rfl, h⟩ := h
      simp only [hg, pdHeap, gath_heap h]
    · rename_i hg
      simp only [hg]
      exact gath_heap h
theorem gath_fill {R : Type} {ops : Array Oper} {S : Sts} {g : Gh} {n : Nat} {K : Fr → Option R} {r : R} : ∀ {A : List Nat} {p : Pd} {b : Nat} {f : Fr}, Gath ops S g A p → f.Wf n → pdFill n p b f K = some r →
    ∃ f' : Fr, f'.Wf n ∧ f'.lst n = fillA ops g A b (f.lst n) ∧ K f' = some r
  | [], p, b, f, h, hw, hx => by unfold Gath at h; subst h; exact ⟨f, hw, rfl, hx⟩
  | i :: A, p, b, f, h, hw, hx => by
    unfold Gath at h; unfold fillA
    split at h
    · rename_i D hg
      obtain ⟨p', rfl, h⟩ := h
      simp only [pdFill] at hx
      rw [fputK_eq] at hx
      obtain ⟨f', h2, hx⟩ := Option.bind_eq_some_iff.1 hx
      obtain ⟨e1, e2⟩ := fput_some h2 hw
      have := gath_fill h e2 hx
      rw [e1] at this
      simp only [hg]
      exact this
    · rename_i hg
      simp only [hg]
      exact gath_fill h hw hx
/-- Those that make objects stand in the head's order. -/
def subB : List Nat → List Nat → Bool
  | [], _ => true
  | _ :: _, [] => false
  | a :: A, k :: l => cond (Nat.beq a k) (subB A l) (subB (a :: A) l && !(A.contains k))
theorem gath_none {ops : Array Oper} {S : Sts} {g : Gh} : ∀ {A : List Nat}, (∀ k ∈ A, g k = none) → Gath ops S g A []
  | [], _ => rfl
  | i :: A, h => by unfold Gath; rw [h i (by simp)]; exact gath_none fun k hk => h k (by simp [hk])
theorem gath_app {ops : Array Oper} {S : Sts} {g : Gh} : ∀ {A B : List Nat} {p q : Pd}, Gath ops S g A p → Gath ops S g B q → Gath ops S g (A ++ B) (p ++ q)
  | [], B, p, q, h, hq => by unfold Gath at h; subst h; exact hq
  | i :: A, B, p, q, h, hq => by
    unfold Gath at h
    show Gath ops S g (i :: (A ++ B)) (p ++ q)
    unfold Gath
    split at h
    · rename_i D hg
      obtain ⟨p', rfl, h⟩ := h
      exact ⟨p' ++ q, rfl, gath_app h hq⟩
    · exact gath_app h hq
theorem gath_congr {ops : Array Oper} {S : Sts} {g g' : Gh} : ∀ {A : List Nat} {p : Pd}, (∀ k ∈ A, g k = g' k ∧ ∀ D, csOf S g k D = csOf S g' k D) → Gath ops S g A p → Gath ops S g' A p
  | [], p, _, h => h
  | i :: A, p, hk, h => by
    unfold Gath at h ⊢
    rw [← (hk i (by simp)).1]
    split at h
    · obtain ⟨p', rfl, h⟩ := h
      exact ⟨p', by rw [(hk i (by simp)).2], gath_congr (fun k hk' => hk k (by simp [hk'])) h⟩
    · exact gath_congr (fun k hk' => hk k (by simp [hk'])) h
theorem csOf_other {S : Sts} {g : Gh} {i k : Nat} {d : Option AData} (h2 : stOf S k ≠ some i) (D : AData) : csOf S (gset g i d) k D = csOf S g k D := by
  have e2 : (stOf S k).bind (gset g i d) = (stOf S k).bind g := by
    cases hs : stOf S k with
    | none => rfl
    | some j =>
      rw [hs] at h2
      simp only [Option.bind_some, gset]
      rw [if_neg (fun e => h2 (by rw [e]))]
  unfold csOf
  rw [e2]
theorem gath_get {ops : Array Oper} {S : Sts} {g : Gh} {j : Nat} {d : Option Nat} {m : AMk} {cs : List AVal} : ∀ {A : List Nat} {p : Pd}, Gath ops S g A p → pdGet p j = some (d, m, cs) → j ∈ A ∧ ∃ D, g j = some D ∧ d = dstOf ops j ∧ m = D.how ∧ cs = csOf S g j D
  | [], p, h, hp => by unfold Gath at h; subst h; cases hp
  | i :: A, p, h, hp => by
    unfold Gath at h
    split at h
    · rename_i D hg
      obtain ⟨p', rfl, h⟩ := h
      unfold pdGet at hp
      split at hp
      · rename_i e
        have e := Nat.eq_of_beq_eq_true e
        subst e
        cases hp
        exact ⟨by simp, D, hg, rfl, rfl, rfl⟩
      · obtain ⟨h1, h2⟩ := gath_get h hp
        exact ⟨by simp [h1], h2⟩
    · obtain ⟨h1, h2⟩ := gath_get h hp
      exact ⟨by simp [h1], h2⟩
theorem pdSet_none {j : Nat} {cs : List AVal} : ∀ {p : Pd}, (∀ x ∈ p, x.1 ≠ j) → pdSet p j cs = p
  | [], _ => rfl
  | (i, d, m, c) :: p, h => by
    unfold pdSet
    have h1 : Nat.beq i j = false := by
      cases hb : Nat.beq i j with
      | false => rfl
      | true => exact absurd (Nat.eq_of_beq_eq_true hb) (h (i, d, m, c) (by simp))
    rw [h1]
    simp only
    rw [pdSet_none fun x hx => h x (by simp [hx])]
theorem gath_nums {ops : Array Oper} {S : Sts} {g : Gh} : ∀ {A : List Nat} {p : Pd}, Gath ops S g A p → ∀ x ∈ p, x.1 ∈ A
  | [], p, h, x, hx => by unfold Gath at h; subst h; cases hx
  | i :: A, p, h, x, hx => by
    unfold Gath at h
    split at h
    · obtain ⟨p', rfl, h⟩ := h
      rcases List.mem_cons.1 hx with rfl | hx
      · simp
      · exact List.mem_cons_of_mem _ (gath_nums h x hx)
    · exact List.mem_cons_of_mem _ (gath_nums h x hx)
theorem gath_set {ops : Array Oper} {S : Sts} {g g' : Gh} {j : Nat} {cs : List AVal} : ∀ {A : List Nat} {p : Pd}, A.Nodup → (∀ k ∈ A, g k = g' k ∧ (k ≠ j → ∀ D, csOf S g k D = csOf S g' k D)) → (∀ D, csOf S g' j D = cs) → Gath ops S g A p → Gath ops S g' A (pdSet p j cs)
  | [], p, _, _, _, h => by unfold Gath at h; subst h; exact rfl
  | i :: A, p, hn, hk, hj, h => by
    unfold Gath at h ⊢
    rw [← (hk i (by simp)).1]
    have hn' := List.nodup_cons.1 hn
    have ih : ∀ p, Gath ops S g A p → Gath ops S g' A (pdSet p j cs) := fun p h => gath_set hn'.2 (fun k hk' => hk k (by simp [hk'])) hj h
    split at h
    · obtain ⟨p', rfl, h⟩ := h
      unfold pdSet
      cases hb : Nat.beq i j with
      | true =>
        have e := Nat.eq_of_beq_eq_true hb
        subst e
        refine ⟨p', by rw [hj], ?_⟩
        have h2 := ih p' h
        rwa [pdSet_none] at h2
        exact fun x hx e => hn'.1 (e ▸ gath_nums h x hx)
      | false =>
        exact ⟨pdSet p' j cs, by simp only; rw [(hk i (by simp)).2 (Nat.ne_of_beq_eq_false hb)], ih p' h⟩
    · exact ih p h

theorem xsti_ok {T : Tab} (hT : T.Ok P) {n : Nat} {o : Oper} {f : Fr} {d : Option Nat} {m : AMk} {cs cs' : List AVal} (hw : f.Wf n) (hx : xsti T n o (fEval f) (some (d, m, cs)) some = some cs') :
    m = .ptr ∧ ∃ dj x, d = some dj ∧ o.dst = none ∧ (∀ f args tys, o.op ≠ .call { callee := .value f, args := args, argTypes := tys }) ∧ x ∈ o.op.operands ∧ cs' = cellsV (aEval (f.lst n) x) ∧
      ∀ (H : AHeap) (b : Nat), H[b]? = some (.cells cs) → AOp P o.op o.type (aset (f.lst n) (some dj) (.ptr b 0)) H fun _ G => G = H.set b (.cells (cellsV (aEval (f.lst n) x))) := by
  unfold xsti at hx
  split at hx
  · rename_i t e y ho
    split at hx
    · rename_i dj cs0 hq
      cases hq
      split at hx
      · rename_i hb
        simp only [Bool.and_eq_true] at hb
        obtain ⟨⟨⟨h1, h2⟩, h3⟩, h4⟩ := hb
        have e1 := Nat.eq_of_beq_eq_true h1
        subst e1
        have hlt : e < n := by
          have : Nat.ble (e + 1) n = true := h3
          exact Nat.le_of_ble_eq_true this
        refine ⟨rfl, e, y, rfl, by simpa using h4, fun _ _ _ he => (by rw [ho] at he; cases he), by rw [ho]; simp [Op.operands], ?_⟩
        have ey : aEval (f.lst n) y = fEval f y := by rw [aEval_lst hw]
        have hy : ∀ (v : AVal), aEval (aset (f.lst n) (some e) v) y = aEval (f.lst n) y := fun v => aEval_aset fun d hd he => by
          cases hd
          rw [he] at h2
          have hbe : Nat.beq e e = true := Nat.beq_refl e
          simp [notTmp, hbe] at h2
        have hp : ∀ v : AVal, aEval (aset (f.lst n) (some e) v) (.tmp e) = v := fun v => by
          have : e < (f.lst n).length := by simpa [Fr.lst] using hlt
          simp [aEval, aget, aset, List.getD, this]
        have fin : ∀ (H : AHeap) (b : Nat), H[b]? = some (.cells cs) → ∀ K, aStore P t H (.ptr b 0) (aEval (f.lst n) y) (fun h' => K .any h') → AOp P o.op o.type (aset (f.lst n) (some e) (.ptr b 0)) H K := fun H b hb K hK => by
          rw [ho]
          simp only [AOp]
          rw [hp, hy]; exact hK
        unfold xstiK at hx
        split at hx
        · rename_i ha hs
          unfold sti1 at hx
          obtain ⟨vs, hx, h5⟩ := Option.bind_eq_some_iff.1 hx
          cases h5
          obtain ⟨u, h6, hx⟩ := Option.bind_eq_some_iff.1 hx
          cases hx
          obtain ⟨h7, h8⟩ := req_some h6
          refine ⟨by rw [ey, cellsV_one h7], fun H b hb => fin H b hb _ ?_⟩
          unfold aStore
          simp only [hb, hT.agg ha]
          rw [← ey] at h7
          refine ⟨h7, hT.siz _ _ hs, by omega, ?_⟩
          rw [cellsV_one h7]
          congr 2
          cases cs with
          | nil => simp at h8
          | cons c l => cases l with
            | nil => rfl
            | cons c' l => simp at h8
        · rename_i k ha hs
          obtain ⟨vs, hpt, hx⟩ := Option.bind_eq_some_iff.1 hx
          obtain ⟨us, hx, h5⟩ := Option.bind_eq_some_iff.1 hx
          cases h5
          unfold stin at hx
          obtain ⟨u, h6, hx⟩ := Option.bind_eq_some_iff.1 hx
          cases hx
          obtain ⟨h7, h8, h9⟩ := req_some h6
          rw [← ey] at hpt
          have hc : cellsV (aEval (f.lst n) y) = cs' := by unfold cellsV; rw [hpt]
          refine ⟨hc.symm, fun H b hb => fin H b hb _ ?_⟩
          unfold aStore
          simp only [hb, hT.agg ha, hpt]
          refine ⟨h7, by rw [hT.siz _ _ hs, h8], by omega, ?_⟩
          rw [hc]
          congr 2
          unfold splice
          rw [List.take_zero, List.nil_append, List.drop_of_length_le (by omega), List.append_nil]
        · cases hx
      · cases hx
    · cases hx
  · cases hx

/-- Where the head stands: 'A1' are behind, 'A2' ahead. -/
theorem xopsQ_ok {R : Type} {E : XE} (hE : E.Ok P) {md : Region.Mode} {ops : Array Oper} {A : List Nat} {S : Sts} (hS : StsOk md ops A S) {r : R} {K : Fr → Pd → Option R} {K' : List AVal → Gh → Prop}
    (hQ : ∀ f p g, f.Wf E.n → Gath ops S g A p → K f p = some r → K' (f.lst E.n) g) :
    ∀ (l : List Nat) (A1 A2 : List Nat) (f : Fr) (p : Pd) (g : Gh), A = A1 ++ A2 → A.Nodup → subB A2 l = true → (∀ k ∈ A1, k ∉ l) → l.Nodup → f.Wf E.n → Gath ops S g A1 p → (∀ k ∈ l, g k = none) → (∀ k ∈ A2, g k = none) →
      (∀ t j, obOf S t = some j → g j = none → g t = none) → xopsQ E ops A S h l f p K = some r → AOps2 P ops A S h K' l (f.lst E.n) g
  | [], A1, A2, f, p, g, hA, hAn, hs, h1, hln, hw, hg, hn, hn2, hst, hx => by
    have h0 : A2 = [] := by cases A2 with
      | nil => rfl
      | cons x l => simp [subB] at hs
    subst h0
    rw [List.append_nil] at hA
    subst hA
    exact hQ f p g hw hg hx
  | i :: rest, A1, A2, f, p, g, hA, hAn, hs, h1, hln, hw, hg, hn, hn2, hst, hx => by
    rw [xopsQ_cons] at hx
    unfold AOps2
    have hi1 : i ∉ A1 := fun hk => h1 i hk (by simp)
    have hir : i ∉ rest := (List.nodup_cons.1 hln).1
    have hrn : rest.Nodup := (List.nodup_cons.1 hln).2
    have h1' : ∀ k ∈ A1, k ∉ rest := fun k hk hkr => h1 k hk (by simp [hkr])
    have hgi : g i = none := hn i (by simp)
    have hnr : ∀ k ∈ rest, g k = none := fun k hk => hn k (by simp [hk])
    have hA1n : A1.Nodup := by rw [hA] at hAn; exact (List.nodup_append.1 hAn).1
    have hsame : ∀ d k, k ≠ i → gset g i d k = g k := fun d k hk => by unfold gset; rw [if_neg hk]
    -- where 'i' stands
    have cases2 : (∃ A3, A2 = i :: A3 ∧ subB A3 rest = true) ∨ (i ∉ A2 ∧ subB A2 rest = true) := by
      cases A2 with
      | nil => exact .inr ⟨by simp, by cases rest <;> rfl⟩
      | cons a A3 =>
        unfold subB at hs
        cases hb : Nat.beq a i with
        | true =>
          rw [hb, cond_true] at hs
          have := Nat.eq_of_beq_eq_true hb
          subst this
          exact .inl ⟨A3, rfl, hs⟩
        | false =>
          rw [hb, cond_false] at hs
          simp only [Bool.and_eq_true, Bool.not_eq_true'] at hs
          refine .inr ⟨fun hm => ?_, hs.1⟩
          rcases List.mem_cons.1 hm with e | e
          · exact Nat.ne_of_beq_eq_false hb e.symm
          · have h2 := hs.2
            simp at h2; exact h2 e
    split at hx
    · rename_i o ho
      rw [ho]
      simp only
      -- nothing is made here: the rest, 'i' counted as behind
      have go : ∀ (f' : Fr) , f'.Wf E.n → xopsQ E ops A S h rest f' p K = some r → AOps2 P ops A S h K' rest (f'.lst E.n) g := by
        intro f' hw' hx'
        rcases cases2 with ⟨A3, e, h3⟩ | ⟨_, h3⟩
        · have hg1 : Gath ops S g (A1 ++ [i]) p := by
            have := gath_app hg (gath_none (ops := ops) (S := S) (g := g) (A := [i]) (fun k hk => by
              obtain rfl : k = i := by simpa using hk
              exact hgi))
            rwa [List.append_nil] at this
          exact xopsQ_ok hE hS hQ rest (A1 ++ [i]) A3 f' p g (by rw [hA, e]; simp) hAn h3 (fun k hk => by
            rcases List.mem_append.1 hk with hk | hk
            · exact h1' k hk
            · obtain rfl : k = i := by simpa using hk
              exact hir) hrn hw' hg1 hnr (fun k hk => hn2 k (by rw [e]; simp [hk])) hst hx'
        · exact xopsQ_ok hE hS hQ rest A1 A2 f' p g hA hAn h3 h1' hrn hw' hg hnr hn2 hst hx'
      obtain ⟨f1, hf1, hl1, hx⟩ := xguard_ok hw hx
      rcases hx with ⟨hw2, hx⟩ | ⟨hw2, hx⟩
      · split at hx
        · rename_i j hob
          obtain ⟨hiA, hstj, hjA, _⟩ := hS.fwd _ _ hob
          have h3 : i ∉ A2 ∧ subB A2 rest = true := by
            rcases cases2 with ⟨A3, e, _⟩ | h3
            · exact absurd (by rw [hA, e]; simp) hiA
            · exact h3
          rw [xsti_eq] at hx
          obtain ⟨cs', hc, hx⟩ := Option.bind_eq_some_iff.1 hx
          cases hp : pdGet p j with
          | none =>
            rw [hp] at hc
            unfold xsti at hc
            split at hc <;> cases hc
          | some q =>
            obtain ⟨d, m, cs⟩ := q
            rw [hp] at hc
            obtain ⟨hm, dj, x, hd, hdst, hnc, hxo, hcs, hop⟩ := xsti_ok hE.T hf1 hc
            obtain ⟨hjA1, D, hgj, e1, e2, e3⟩ := gath_get hg hp
            have hcsD : cs = D.cs := by
              rw [e3]; unfold csOf; rw [hstj]; simp only [Option.bind_some]; rw [hgi]
            have hji : j ≠ i := fun e => hi1 (e ▸ hjA1)
            have hg2 : Gath ops S (gset g i (some ⟨.ptr, cs'⟩)) A1 (pdSet p j cs') := by
              refine gath_set hA1n (fun k hk => ⟨(hsame _ k (fun e => hi1 (e ▸ hk))).symm, fun hkj D => (csOf_other (fun e => hkj ?_) D).symm⟩) (fun D => ?_) hg
              · have := hS.bwd _ _ e
                rw [hob] at this; cases this; rfl
              · unfold csOf; rw [hstj]; simp [gset]
            have ih := xopsQ_ok hE hS hQ rest A1 A2 f1 (pdSet p j cs') (gset g i (some ⟨.ptr, cs'⟩)) hA hAn h3.2 h1' hrn hf1 hg2 (fun k hk => by rw [hsame _ k (fun e => hir (e ▸ hk))]; exact hnr k hk)
              (fun k hk => by rw [hsame _ k (fun e => h3.1 (e ▸ hk))]; exact hn2 k hk) (fun t q htq hq => by
                by_cases hti : t = i
                · subst hti
                  rw [hob] at htq; cases htq
                  rw [hsame _ _ hji, hgj] at hq; cases hq
                · rw [hsame _ t hti]
                  refine hst t q htq ?_
                  by_cases hqi : q = i
                  · subst hqi; exact hgi
                  · rwa [hsame _ q hqi] at hq) hx
            refine ⟨skipV, some ⟨.ptr, cs'⟩, .inr (.inr ⟨hw2, j, D, dj, x, hob, hgj, by rw [← e2, hm], by rw [← e1, hd], hdst, hnc, hxo, ?_, ?_⟩), ?_⟩
            · rw [← hl1, hcs]
            · rw [← hl1]; rw [hcsD] at hop; exact hop
            · rw [hdst, ← hl1]; exact ih
        · rename_i hob
          split at hx
          · rename_i hc
            have hiA : i ∈ A := by simpa using hc
            have hi2 : ∃ A3, A2 = i :: A3 ∧ subB A3 rest = true := by
              rcases cases2 with h | ⟨h, _⟩
              · exact h
              · rw [hA] at hiA
                rcases List.mem_append.1 hiA with e | e
                · exact absurd e hi1
                · exact absurd e h
            obtain ⟨A3, e, h3⟩ := hi2
            rw [xA_bind] at hx
            obtain ⟨D, hD, hx⟩ := Option.bind_eq_some_iff.1 hx
            cases hsb : shutB A D.cs with
            | false => rw [hsb] at hx; cases hx
            | true =>
              rw [hsb, cond_true, fputK_eq] at hx
              obtain ⟨f', h2, hx⟩ := Option.bind_eq_some_iff.1 hx
              obtain ⟨e1, e2⟩ := fput_some h2 hf1
              have hd : dstOf ops i = o.dst := by unfold dstOf; rw [ho]; rfl
              have hself : gset g i (some D) i = some D := by unfold gset; rw [if_pos rfl]
              have hsti : ∀ k, stOf S k ≠ some i := fun k hk => by
                have := hS.bwd _ _ hk
                rw [hob] at this; cases this
              have hg2 : Gath ops S (gset g i (some D)) (A1 ++ [i]) (p ++ [(i, o.dst, D.how, D.cs)]) := by
                refine gath_app (gath_congr (fun k hk => ⟨(hsame _ k (fun e => hi1 (e ▸ hk))).symm, fun D' => (csOf_other (hsti k) D').symm⟩) hg) ?_
                unfold Gath
                rw [hself]
                have hcs : csOf S (gset g i (some D)) i D = D.cs := by
                  rw [csOf_other (hsti i)]
                  unfold csOf
                  cases hs2 : stOf S i with
                  | none => rfl
                  | some t =>
                    simp only [Option.bind_some]
                    rw [hst t i (hS.bwd _ _ hs2) hgi]
                exact ⟨[], by rw [hd, hcs], rfl⟩
              have hA2n : A2.Nodup := by rw [hA] at hAn; exact (List.nodup_append.1 hAn).2.1
              have hi3 : i ∉ A3 := by rw [e] at hA2n; exact (List.nodup_cons.1 hA2n).1
              have ih := xopsQ_ok hE hS hQ rest (A1 ++ [i]) A3 f' _ (gset g i (some D)) (by rw [hA, e]; simp) hAn h3 (fun k hk => by
                rcases List.mem_append.1 hk with hk | hk
                · exact h1' k hk
                · obtain rfl : k = i := by simpa using hk
                  exact hir) hrn e2 hg2 (fun k hk => by rw [hsame _ k (fun e => hir (e ▸ hk))]; exact hnr k hk) (fun k hk => by rw [hsame _ k (fun e => hi3 (e ▸ hk))]; exact hn2 k (by rw [e]; simp [hk]))
                (fun t q htq hq => by
                  have hti : t ≠ i := fun e => by subst e; rw [hob] at htq; cases htq
                  rw [hsame _ t hti]
                  refine hst t q htq ?_
                  by_cases hqi : q = i
                  · subst hqi; exact hgi
                  · rwa [hsame _ q hqi] at hq) hx
              obtain ⟨hn1, hop⟩ := xA_ok (ty := o.type) (a := f1.lst E.n) hE.T (by rw [aEval_lst hf1]; exact hD)
              refine ⟨.any, some D, .inl ⟨hw2, hob, ⟨hiA, fun h2 => ?_⟩, rfl, hn1, fun e => ?_⟩, ?_⟩
              · unfold shutB at hsb
                have : Nat.ble 2 A.length = true := (by rw [Nat.ble_eq]; exact h2)
                rw [this] at hsb; exact hsb
              · rw [← hl1]; exact hop _
              · rw [← hl1, ← e1]; exact ih
          · obtain ⟨v, hx, hv⟩ := xstepQ_ok hE hf1 hx
            rw [fputK_eq] at hx
            obtain ⟨f', h2, hx⟩ := Option.bind_eq_some_iff.1 hx
            obtain ⟨e1, e2⟩ := fput_some h2 hf1
            have ih := go f' e2 hx
            refine ⟨v, none, .inl ⟨hw2, hob, trivial, fun e he => ?_⟩, ?_⟩
            · rw [← hl1]
              refine hv e fun hb => he ?_
              cases A with
              | nil => rfl
              | cons x l => simp at hb
            · rw [gset_none hgi, ← hl1, ← e1]; exact ih
      · rw [fputK_eq] at hx
        obtain ⟨f', h2, hx⟩ := Option.bind_eq_some_iff.1 hx
        obtain ⟨e1, e2⟩ := fput_some h2 hf1
        have ih := go f' e2 hx
        refine ⟨skipV, none, .inr (.inl ⟨hw2, rfl, rfl⟩), ?_⟩
        rw [gset_none hgi, ← hl1, ← e1]; exact ih
    · cases hx
theorem xfl1_ok {T : Tab} (hT : T.Ok P) {n : Nat} {o : Oper} {f : Fr} {v : AVal} (hw : f.Wf n) (hx : xfl1 T o (fEval f) some = some v) : FlV P o (f.lst n) v := by
  unfold xfl1 at hx
  unfold FlV
  rw [aEval_lst hw]
  split at hx
  · cases hx
  · rename_i hg
    refine ⟨hg, ?_⟩
    split at hx
    · rename_i x ho; cases hx; exact .inl ⟨x, .inl ho, rfl⟩
    · rename_i x ho; cases hx; exact .inl ⟨x, .inr ho, rfl⟩
    · rename_i op t x y yt ho
      split at hx
      · rename_i k a k' b h1 h2
        rw [xBinK_eq] at hx
        obtain ⟨z, hz, hx⟩ := Option.bind_eq_some_iff.1 hx
        cases hx
        exact .inr ⟨op, t, x, y, yt, k, a, k', b, ho, h1, h2, xBin_ok hT hz rfl⟩
      · cases hx
    · cases hx
theorem xflt_ok {R : Type} {T : Tab} (hT : T.Ok P) {n : Nat} {ops : Array Oper} {K : Fr → Option R} {r : R} : ∀ (l : List Nat) (f : Fr), f.Wf n → xflt T n ops l f K = some r → ∃ f' : Fr, f'.Wf n ∧ FltR P ops l (f.lst n) (f'.lst n) ∧ K f' = some r
  | [], f, hw, hx => ⟨f, hw, rfl, hx⟩
  | i :: l, f, hw, hx => by
    rw [xflt_cons] at hx
    split at hx
    · rename_i o ho
      rw [xfl1_eq] at hx
      obtain ⟨v, h1, hx⟩ := Option.bind_eq_some_iff.1 hx
      rw [fputK_eq] at hx
      obtain ⟨f', h2, hx⟩ := Option.bind_eq_some_iff.1 hx
      obtain ⟨e1, e2⟩ := fput_some h2 hw
      obtain ⟨f2, h3, h4, h5⟩ := xflt_ok hT l f' e2 hx
      rw [e1] at h4
      exact ⟨f2, h3, ⟨o, v, ho, xfl1_ok hT hw h1, h4⟩, h5⟩
    · cases hx

/-! ### Code -/
abbrev XK (R : Type) := Exit → Fr → AHeap → Option R
abbrev XS := ∀ (R : Type), Fr → AHeap → XK R → Option R
abbrev XR := Exit × Fr × AHeap
def ofst (a b : Option Nat) : Option Nat := match a with
  | some i => some i
  | none => b
/-- The first region's number. -/
noncomputable def firstR (c : Code) : Option Nat := Code.rec (motive := fun _ => Option Nat) none (fun id _ _ => some id) (fun _ _ a b => ofst a b) (fun _ _ _ a b => ofst a b) (fun _ _ a => a) (fun _ a => a) (fun _ _ _ _ a b => ofst a b)
  (fun _ => none) (fun _ a => a) (fun _ => none) (fun _ => none) none (fun _ => none) c
noncomputable def maskAt (l : List (Nat × List Nat)) (k : Option Nat) (f : Fr) : Fr := match k with
  | some k => maskO f (findN l k)
  | none => f
noncomputable def atSeq {R : Type} (l : List (Nat × List Nat)) (k : Option Nat) (f : Fr) (go : Fr → Option R) : Option R := match k with
  | some k => atMask (findN l k) f go
  | none => go f
theorem atSeq_eq {R : Type} (l : List (Nat × List Nat)) (k : Option Nat) (f : Fr) (go : Fr → Option R) : atSeq l k f go = go (maskAt l k f) := by
  cases k with
  | none => rfl
  | some k => exact atMask_eq _ _ _
/-- A round again and again. -/
def xiter (mask : Fr → Fr) (step : Fr → AHeap → Option XR) : Nat → Fr → AHeap → Option XR
  | 0, _, _ => none
  | m + 1, f, h => (step f h).bind fun r => match r with
    | (.normal, f', h') => xiter mask step m (mask f') h'
    | r => some r
open Classical in
noncomputable def xlim {α : Type} (g : Nat → Option α) : Option α := if h : ∃ r m, g m = some r then some h.choose else none
def rets {R : Type} (K : XK R) (r : XR) : Option R := K r.1 r.2.1 r.2.2
noncomputable def xloop (mask : Fr → Fr) (step : Fr → AHeap → Option XR) (f : Fr) (h : AHeap) : Option XR := xlim fun m => xiter mask step m f h
def xdone (e : Exit) (f : Fr) (h : AHeap) : Option XR := some (e, f, h)
/-- Runs from labels. -/
abbrev XL := Nat → Option XS
noncomputable def maskJ (E : XE) (l : Nat) (f : Fr) : Fr := maskO f (findN E.Ml (1000000 + l))
/-- At a jump inside: what the label's code looks at. -/
def mkM (lab : XL) (mask : Nat → Fr → Fr) (q : XR) : XR := match q with
  | (.goto l, f, h) => match lab l with
    | some _ => (.goto l, mask l f, h)
    | none => (.goto l, f, h)
  | q => q
/-- Jumps inside a scope, until one leads out. -/
def xhop (lab : XL) (mask : Nat → Fr → Fr) : Nat → XR → Option XR
  | 0, _ => none
  | m + 1, (e, f, h) => match e with
    | .goto l => match lab l with
      | some r => (r XR f h xdone).bind fun q => xhop lab mask m (mkM lab mask q)
      | none => some (.goto l, f, h)
    | e => some (e, f, h)
noncomputable def xgos (lab : XL) (mask : Nat → Fr → Fr) (r : XR) : Option XR := xlim fun m => xhop lab mask m r
noncomputable def xjumpL (E : XE) (lab : XL) (l : Nat) (R : Type) (f : Fr) (h : AHeap) (K : XK R) : Option R := jn ((xgos lab (maskJ E) (.goto l, maskJ E l f, h)).bind (rets K))
noncomputable def xscK (E : XE) (lab : XL) {R : Type} (K : XK R) : XK R := fun e f h => match e with
  | .goto l => match lab l with
    | some _ => xjumpL E lab l R f h K
    | none => K (.goto l) f h
  | e => K e f h
/-! ### Loops over functions -/
abbrev XB := Exit × AHeap
def busyL (h : AHeap) (b : Nat) : Option AHeap := match h[b]? with
  | some (.loop .ready p a ps x y) => some (h.set b (.loop .busy p a ps x y))
  | _ => none
def overL (h : AHeap) (b : Nat) (st : LoopState) (pend : Option Code) : Option AHeap := match h[b]? with
  | some (.loop _ _ a ps x y) => some (h.set b (.loop st pend a ps x y))
  | _ => none
/-- How a round ends. -/
def rndEnd (b : Nat) (r : XB) : Option (AVal × AHeap) := match r.1 with
  | .normal => (overL r.2 b .ready none).bind fun h => some (.lit (.bool true), h)
  | .ret => (overL r.2 b .done (some .ret)).bind fun h => some (.lit (.bool false), h)
  | .exit id => (overL r.2 b .done (some (.exit id))).bind fun h => some (.lit (.bool false), h)
  | .goto l => (overL r.2 b .done (some (.goto l))).bind fun h => some (.lit (.bool false), h)
  | _ => none
open Classical in
noncomputable def rndY (b : Nat) (a : List AVal) (ps : Array Tmp) (x y : Code) (rb : List AVal → AHeap → Option XB) : XP := fun args h =>
  if h[b]? = some (.loop .ready none a ps x y) ∧ args.length = ps.size then (rb args h).bind (rndEnd b) else none
noncomputable def rndYs (Y0 : Nat → XP) (b : Nat) (a : List AVal) (ps : Array Tmp) (x y : Code) (rb : List AVal → AHeap → Option XB) : Nat → XP := fun c => if c = b then rndY b a ps x y rb else Y0 c
/-- How the loop ends. -/
def rngPd (pend : Option Code) (h : AHeap) : Option XB := match pend with
  | none => some (.normal, h)
  | some .ret => some (.ret, h)
  | some (.exit id) => some (.exit id, h)
  | some (.goto l) => some (.goto l, h)
  | _ => none
def rngOut (b : Nat) (r : AVal × AHeap) : Option XB := match r.2[b]? with
  | some (.loop st pend _ _ _ _) => match st with
    | .busy => none
    | _ => rngPd pend (r.2.set b .dead)
  | _ => none
noncomputable def rngK (I : List (Nat × XI)) (Y0 : Nat → XP) (v : AVal) (a : List AVal) (ps : Array Tmp) (x y : Code) (rb : Nat → List AVal → AHeap → Option XB) (h : AHeap) : Option XB := match v with
  | .fn (.func i) vs us => match findN I i with
    | some f => (f (rndYs Y0 h.length a ps x y (rb h.length)) (vs ++ [.yld h.length] ++ us) (h ++ [.loop .ready none a ps x y])).bind (rngOut h.length)
    | none => none
  | _ => none
noncomputable def rngE {R : Type} (q : XB) (n r : AHeap → Option R) (xs ls : List (Nat × (AHeap → Option R))) : Option R := match q.1 with
  | .normal => n q.2
  | .ret => r q.2
  | .exit i => match findN xs i with
    | some k => k q.2
    | none => none
  | .goto l => match findN ls l with
    | some k => k q.2
    | none => none
  | _ => none
/-- The exits and the jumps that a text has. -/
noncomputable def exitsOf (c : Code) : List Nat := Code.rec (motive := fun _ => List Nat) [] (fun _ _ _ => []) (fun _ _ a b => a ++ b) (fun _ _ _ a b => a ++ b) (fun _ _ a => a) (fun _ a => a) (fun _ _ _ _ a b => a ++ b)
  (fun id => [id]) (fun _ a => a) (fun _ => []) (fun _ => []) [] (fun _ => []) c
noncomputable def gotosOf (c : Code) : List Nat := Code.rec (motive := fun _ => List Nat) [] (fun _ _ _ => []) (fun _ _ a b => a ++ b) (fun _ _ _ a b => a ++ b) (fun _ _ a => a) (fun _ a => a) (fun _ _ _ _ a b => a ++ b)
  (fun _ => []) (fun _ a => a) (fun _ => []) (fun l => [l]) [] (fun _ => []) c
noncomputable def fputsK {R : Type} (n : Nat) (ps : List Nat) : Fr → List AVal → (Fr → Option R) → Option R :=
  List.rec (motive := fun _ => Fr → List AVal → (Fr → Option R) → Option R) (fun f _ K => K f) (fun p _ ih f args K => match args with
    | v :: args => fputK n f (some p) v fun f => ih f args K
    | [] => none) ps
def rdone : XK XB := fun e _ h => some (e, h)
noncomputable def rndKt (iy : XS) (b : Nat) : XK XB := fun e f h => match e with
  | .normal => (busyL h b).bind fun h => iy XB f h rdone
  | _ => none
def args1 {R : Type} (vs : List AVal) (k : AVal → Option R) : Option R := match vs with
  | v :: _ => k v
  | [] => none
def args2 {R : Type} (vs : List AVal) (k : AVal → AVal → Option R) : Option R := match vs with
  | v :: vs => match vs with
    | u :: _ => k v u
    | [] => none
  | [] => none
noncomputable def maskR (E : XE) (k : Option Nat) (f : Fr) : Fr := match k with
  | some k => maskO f (findN E.Ml (2000000 + k))
  | none => f
noncomputable def rbOf (E : XE) (ps : Array Tmp) (f : Fr) (ix iy : XS) : Nat → List AVal → AHeap → Option XB := fun b args h => fputsK E.n ps.toList f args fun f => jn (ix XB f h (rndKt iy b))
noncomputable def xrng (E : XE) (g : Operand) (ps : Array Tmp) (x y : Code) (ix iy : XS) (R : Type) (f : Fr) (h : AHeap) (K : XK R) : Option R :=
  (rngK E.I E.Y (fEval f g) (f.lst E.n) ps x y (rbOf E ps f ix iy) h).bind fun q => rngE q (K .normal f) (K .ret f) ((exitsOf y).map fun e => (e, K (.exit e) f)) ((gotosOf y).map fun e => (e, K (.goto e) f))
noncomputable def xex (E : XE) (c : Code) : XS × XL := Code.rec (motive := fun _ => XS × XL)
  (fun R f h K => K .normal f h, fun _ => none)
  (fun id ops draw => (fun R f h K => match draw with
    | false => xops E id ops ops.toList 0 f h fun f h => K .normal f h
    | true => match findN E.D id with
      | some D => match D.L with
        | [] => xflt E.T E.n ops D.F f fun f => xopsQ E ops D.A D.S h D.Hd f [] fun f p => pdFill E.n p h.length f fun f => xops E id ops (opsAt ops D.Tl) 500 f (pdOn h p) fun f h => K .normal f h
        | _ :: _ => xflt E.T E.n ops D.F f fun f => xreads E ops h D.L f [] fun f ls => xopsL E ops D.T ls f h fun f h => K .normal f h
      | none => none, fun _ => none))
  (fun _ b ia ib => (fun R f h K => ia.1 R f h fun e f h => match e with
    | .normal => atSeq E.Ms (firstR b) f fun f => ib.1 R f h K
    | e => K e f h, fun l => match ia.2 l with
    | some r => some fun R f h K => r R f h fun e f h => match e with
      | .normal => atSeq E.Ms (firstR b) f fun f => ib.1 R f h K
      | e => K e f h
    | none => ib.2 l))
  (fun c _ _ ia ib => (fun R f h K => match fEval f c with
    | .lit (.bool b) => cond b (ia.1 R f h K) (ib.1 R f h K)
    | _ => none, fun _ => none))
  (fun id _ ia => (fun R f h K => ia.1 R f h fun e f h => match e with
    | .exit id' => match Nat.beq id' id with
      | true => K .normal f h
      | false => K (.exit id') f h
    | e => K e f h, fun _ => none))
  (fun c ia => (fun R f h K => jn ((xloop (maskAt E.Ml (firstR c)) (fun f h => ia.1 XR f h fun e f h => some (e, f, h)) (maskAt E.Ml (firstR c) f) h).bind (rets K)), fun _ => none))
  (fun g ps x y ix iy => (fun R f h K => xrng E g ps x y ix.1 iy.1 R (maskR E (ofst (firstR x) (firstR y)) f) h K, fun _ => none))
  (fun id => (fun R f h K => K (.exit id) f h, fun _ => none))
  (fun _ ia => (fun R f h K => ia.1 R f h (xscK E ia.2 K), fun _ => none))
  (fun l' => (fun R f h K => K .normal f h, fun l => match Nat.beq l' l with
    | true => some fun R f h K => K .normal f h
    | false => none))
  (fun l => (fun R f h K => K (.goto l) f h, fun _ => none))
  (fun R f h K => K .ret f h, fun _ => none)
  (fun _ => (fun R f h K => none, fun _ => none)) c
noncomputable def xexec (E : XE) (c : Code) : XS := (xex E c).1
noncomputable def xlab (E : XE) (c : Code) : XL := (xex E c).2
noncomputable def xjump (E : XE) (c : Code) (l : Nat) (R : Type) (f : Fr) (h : AHeap) (K : XK R) : Option R := xjumpL E (xlab E c) l R f h K

/-- A run, and then what is behind it. -/
theorem xguard_bind {R S : Type} {ops : Array Oper} {o : Oper} {f : Fr} {yes no : Fr → Option S} {k : S → Option R} :
    (xguard ops o f yes no).bind k = xguard ops o f (fun f => (yes f).bind k) (fun f => (no f).bind k) := by
  unfold xguard
  rcases hg : o.guard with _ | ⟨j, want⟩
  · rfl
  · simp only
    rcases hd : (ops[j]?).bind (·.dst) with _ | d
    · rfl
    · simp only
      split
      · rename_i b _
        cases b <;> cases want <;> rfl
      · rfl
      · rfl
theorem xops_bind {R : Type} {E : XE} (hN : CT.Nat E.C) {rid : Nat} {ops : Array Oper} {K : Fr → AHeap → Option R} : ∀ (l : List Oper) (i : Nat) (f : Fr) (h : AHeap),
    xops E rid ops l i f h K = (xops E rid ops l i f h fun f h => some (f, h)).bind fun r => K r.1 r.2
  | [], i, f, h => rfl
  | o :: rest, i, f, h => by
    rw [xops_cons, xops_cons, xguard_bind]
    congr 1
    · funext g
      rw [xstep_bind hN, xstep_bind hN (K := fun v h => fputK E.n g o.dst v fun f => xops E rid ops rest (i + 1) (maskO f (findN E.Mo (rid * 1000 + (i + 1)))) h fun f h => some (f, h)), Option.bind_assoc]
      congr 1; funext r
      rw [fputK_eq, fputK_eq, Option.bind_assoc]
      congr 1; funext f'
      exact xops_bind hN rest _ _ _
    · funext g
      rw [fputK_eq, fputK_eq, Option.bind_assoc]
      congr 1; funext f'
      exact xops_bind hN rest _ _ _
def mkQ (f : Fr) (p : Pd) : Option (Fr × Pd) := some (f, p)
theorem xopsQ_bind {R : Type} {E : XE} (hN : CT.Nat E.C) {ops : Array Oper} {A : List Nat} {S : Sts} {h : AHeap} {K : Fr → Pd → Option R} : ∀ (l : List Nat) (f : Fr) (p : Pd),
    xopsQ E ops A S h l f p K = (xopsQ E ops A S h l f p mkQ).bind fun r => K r.1 r.2
  | [], f, p => rfl
  | i :: rest, f, p => by
    rw [xopsQ_cons, xopsQ_cons]
    rcases ops[i]? with _ | o
    · rfl
    · simp only
      rw [xguard_bind]
      congr 1
      · funext g
        split
        · rw [xsti_eq, xsti_eq (K := fun cs => xopsQ E ops A S h rest g (pdSet p _ cs) mkQ), Option.bind_assoc]
          congr 1; funext cs
          exact xopsQ_bind hN rest _ _
        · split
          · rw [xA_bind, xA_bind (K := fun m cs => cond (shutB A cs) (fputK E.n g o.dst .any fun f => xopsQ E ops A S h rest f (p ++ [(i, o.dst, m, cs)]) mkQ) none), Option.bind_assoc]
            congr 1; funext D
            cases shutB A D.cs with
            | false => rfl
            | true =>
              simp only [cond_true]
              rw [fputK_eq, fputK_eq, Option.bind_assoc]
              congr 1; funext f'
              exact xopsQ_bind hN rest _ _
          · rw [xstepQ_bind hN, xstepQ_bind hN (K := fun v => fputK E.n g o.dst v fun f => xopsQ E ops A S h rest f p mkQ), Option.bind_assoc]
            congr 1; funext r
            rw [fputK_eq, fputK_eq, Option.bind_assoc]
            congr 1; funext f'
            exact xopsQ_bind hN rest _ _
      · funext g
        rw [fputK_eq, fputK_eq, Option.bind_assoc]
        congr 1; funext f'
        exact xopsQ_bind hN rest _ _
theorem xflt_bind {R : Type} {T : Tab} {n : Nat} {ops : Array Oper} {K : Fr → Option R} : ∀ (l : List Nat) (f : Fr), xflt T n ops l f K = (xflt T n ops l f some).bind K
  | [], f => rfl
  | i :: l, f => by
    rw [xflt_cons, xflt_cons]
    rcases ops[i]? with _ | o
    · rfl
    · simp only
      rw [xfl1_eq, xfl1_eq (K := fun v => fputK n f o.dst v fun f => xflt T n ops l f some), Option.bind_assoc]
      congr 1; funext v
      rw [fputK_eq, fputK_eq, Option.bind_assoc]
      congr 1; funext f'
      exact xflt_bind l _
theorem pdFill_bind {R : Type} {n : Nat} {K : Fr → Option R} : ∀ (p : Pd) (b : Nat) (f : Fr), pdFill n p b f K = (pdFill n p b f some).bind K
  | [], b, f => rfl
  | (i, d, m, cs) :: p, b, f => by
    simp only [pdFill]
    rw [fputK_eq, fputK_eq, Option.bind_assoc]
    congr 1; funext f'
    exact pdFill_bind p _ _
theorem xreads_bind {R : Type} {E : XE} (hN : CT.Nat E.C) {ops : Array Oper} {h : AHeap} {K : Fr → List (Nat × AVal) → Option R} : ∀ (l : List Nat) (f : Fr) (ls : List (Nat × AVal)), xreads E ops h l f ls K = (xreads E ops h l f ls fun f ls => some (f, ls)).bind fun r => K r.1 r.2
  | [], f, ls => rfl
  | i :: rest, f, ls => by
    rw [xreads_cons, xreads_cons]
    cases ops[i]? with
    | none => rfl
    | some o =>
      simp only
      cases o.guard with
      | some g => rfl
      | none =>
        simp only
        rw [xstepQ_bind hN, xstepQ_bind hN false o f h (fun v => fputK E.n f o.dst v fun f => xreads E ops h rest f (ls ++ [(i, v)]) fun f ls => some (f, ls)), Option.bind_assoc]
        congr 1; funext v
        rw [fputK_eq, fputK_eq, Option.bind_assoc]
        congr 1; funext f'
        exact xreads_bind hN rest _ _
theorem xchk_bind {R S : Type} {E : XE} {ops : Array Oper} {f : Fr} {h : AHeap} {K : Option S} {k : S → Option R} : ∀ (ls : List (Nat × AVal)), (xchk E ops f h K ls).bind k = xchk E ops f h (K.bind k) ls
  | [] => rfl
  | r :: ls => by
    rw [xchk_cons, xchk_cons]
    cases ops[r.1]? with
    | none => rfl
    | some o =>
      simp only
      cases freeB o.op with
      | true => exact xchk_bind ls
      | false =>
        simp only
        rw [Option.bind_assoc]
        congr 1; funext u
        exact xchk_bind ls
theorem xopsL_bind {R : Type} {E : XE} (hN : CT.Nat E.C) {ops : Array Oper} {K : Fr → AHeap → Option R} : ∀ (T : TP) (ls : List (Nat × AVal)) (f : Fr) (h : AHeap), xopsL E ops T ls f h K = (xopsL E ops T ls f h fun f h => some (f, h)).bind fun r => K r.1 r.2
  | [], ls, f, h => rfl
  | x :: T, ls, f, h => by
    rw [xopsL_cons, xopsL_cons]
    cases ops[x.1]? with
    | none => rfl
    | some o =>
      simp only
      rw [xguard_bind]
      congr 1
      · funext f
        refine (xstep_bind hN o f h _).trans (Eq.trans ?_ (congrArg (Option.bind · _) (xstep_bind hN o f h _)).symm)
        rw [Option.bind_assoc]
        congr 1; funext r
        rw [fputK_eq, fputK_eq, Option.bind_assoc]
        congr 1; funext f'
        cases stillB E o f with
        | true => exact xopsL_bind hN T _ _ _
        | false =>
          simp only
          rw [xchk_bind]
          congr 1
          exact xopsL_bind hN T _ _ _
      · funext f
        rw [fputK_eq, fputK_eq, Option.bind_assoc]
        congr 1; funext f'
        exact xopsL_bind hN T _ _ _
theorem findN_map {α : Type} {k : Nat → α} {i : Nat} : ∀ {l : List Nat} {c : α}, findN (l.map fun e => (e, k e)) i = some c → c = k i
  | [], c, h => by cases h
  | e :: l, c, h => by
    rcases findN_some h with ⟨rfl, rfl⟩ | h
    · rfl
    · exact findN_map h
theorem findN_map_none {α β : Type} {k : Nat → α} {k' : Nat → β} {i : Nat} : ∀ {l : List Nat}, findN (l.map fun e => (e, k e)) i = none → findN (l.map fun e => (e, k' e)) i = none
  | [], _ => rfl
  | e :: l, h => by
    rw [List.map_cons, findN_cons] at h ⊢
    cases hb : Nat.beq i e with
    | true => rw [hb] at h; cases h
    | false => rw [hb] at h; exact findN_map_none h
theorem findN_map_nat {R : Type} {S : Type} {k : Nat → AHeap → Option R} {k' : Nat → AHeap → Option S} {j : S → Option R} (hk : ∀ e h, k e h = (k' e h).bind j) (l : List Nat) (i : Nat) (h : AHeap) : (match findN (l.map fun e => (e, k e)) i with
    | some k => k h
    | none => none) = (match findN (l.map fun e => (e, k' e)) i with
    | some k => k h
    | none => none).bind j := by
  cases h1 : findN (l.map fun e => (e, k e)) i with
  | none =>
    have h2 := findN_map_none (k' := k') h1
    simp only [h2]; rfl
  | some c =>
    cases h2 : findN (l.map fun e => (e, k' e)) i with
    | none => have := findN_map_none (k' := k) h2; rw [this] at h1; cases h1
    | some c' =>
      have e1 := findN_map h1
      have e2 := findN_map h2
      subst e1 e2
      exact hk i h
theorem xrng_nat {E : XE} {g : Operand} {ps : Array Tmp} {x y : Code} {ix iy : XS} (R : Type) (f : Fr) (h : AHeap) (K : XK R) : xrng E g ps x y ix iy R f h K = (xrng E g ps x y ix iy XR f h xdone).bind (rets K) := by
  unfold xrng
  rw [Option.bind_assoc]
  congr 1; funext q
  obtain ⟨e, g1⟩ := q
  cases e with
  | exit i => exact findN_map_nat (k := fun e => K (.exit e) f) (k' := fun e => xdone (.exit e) f) (j := rets K) (fun e h => rfl) _ _ _
  | goto i => exact findN_map_nat (k := fun e => K (.goto e) f) (k' := fun e => xdone (.goto e) f) (j := rets K) (fun e h => rfl) _ _ _
  | _ => rfl
def XNat (r : XS) : Prop := ∀ (R : Type) (f : Fr) (h : AHeap) (K : XK R), r R f h K = (r XR f h xdone).bind (rets K)
theorem xex_bind (E : XE) (hN : CT.Nat E.C) (c : Code) : XNat (xexec E c) ∧ ∀ l r, xlab E c l = some r → XNat r := by
  induction c with
  | skip => exact ⟨fun R f h K => rfl, fun l r hr => by cases hr⟩
  | region id ops draw =>
    refine ⟨?_, fun l r hr => by cases hr⟩
    intro R f h K
    cases draw with
    | false =>
      show xops E id ops ops.toList 0 f h _ = (xops E id ops ops.toList 0 f h _).bind _
      rw [xops_bind hN, xops_bind hN (K := fun f h => xdone .normal f h), Option.bind_assoc]; rfl
    | true =>
      show (match findN E.D id with
        | some D => match D.L with
          | [] => xflt E.T E.n ops D.F f fun f => xopsQ E ops D.A D.S h D.Hd f [] fun f p => pdFill E.n p h.length f fun f => xops E id ops (opsAt ops D.Tl) 500 f (pdOn h p) fun f h => K .normal f h
          | _ :: _ => xflt E.T E.n ops D.F f fun f => xreads E ops h D.L f [] fun f ls => xopsL E ops D.T ls f h fun f h => K .normal f h
        | none => none) = (match findN E.D id with
        | some D => match D.L with
          | [] => xflt E.T E.n ops D.F f fun f => xopsQ E ops D.A D.S h D.Hd f [] fun f p => pdFill E.n p h.length f fun f => xops E id ops (opsAt ops D.Tl) 500 f (pdOn h p) fun f h => xdone .normal f h
          | _ :: _ => xflt E.T E.n ops D.F f fun f => xreads E ops h D.L f [] fun f ls => xopsL E ops D.T ls f h fun f h => xdone .normal f h
        | none => none).bind _
      cases findN E.D id with
      | none => rfl
      | some D =>
       simp only
       rcases hDL : D.L with _ | ⟨l0, ll⟩
       rotate_left
       · simp only
         rw [xflt_bind, xflt_bind (K := fun f => xreads E ops h (l0 :: ll) f [] fun f ls => xopsL E ops D.T ls f h fun f h => xdone .normal f h), Option.bind_assoc]
         congr 1; funext f0
         rw [xreads_bind hN, xreads_bind hN (K := fun f ls => xopsL E ops D.T ls f h fun f h => xdone .normal f h), Option.bind_assoc]
         congr 1; funext r
         rw [xopsL_bind hN, xopsL_bind hN (K := fun f h => xdone .normal f h), Option.bind_assoc]; rfl
       · simp only
         rw [xflt_bind, xflt_bind (K := fun f => xopsQ E ops D.A D.S h D.Hd f [] fun f p => pdFill E.n p h.length f fun f => xops E id ops (opsAt ops D.Tl) 500 f (pdOn h p) fun f h => xdone .normal f h), Option.bind_assoc]
         congr 1; funext f0
         rw [xopsQ_bind hN, xopsQ_bind hN (K := fun f p => pdFill E.n p h.length f fun f => xops E id ops (opsAt ops D.Tl) 500 f (pdOn h p) fun f h => xdone .normal f h), Option.bind_assoc]
         congr 1; funext r
         rw [pdFill_bind, pdFill_bind (K := fun f => xops E id ops (opsAt ops D.Tl) 500 f (pdOn h r.2) fun f h => xdone .normal f h), Option.bind_assoc]
         congr 1; funext f'
         rw [xops_bind hN, xops_bind hN (K := fun f h => xdone .normal f h), Option.bind_assoc]; rfl
  | seq a b iha ihb =>
    have key : ∀ q : XS, XNat q → XNat (fun R f h K => q R f h fun e f h => match e with
        | .normal => atSeq E.Ms (firstR b) f fun f => xexec E b R f h K
        | e => K e f h) := by
      intro q hq R f h K
      refine (hq R f h _).trans (Eq.trans ?_ (congrArg (Option.bind · (rets K)) (hq XR f h _)).symm)
      rw [Option.bind_assoc]
      congr 1; funext r
      obtain ⟨e, f', h'⟩ := r
      cases e with
      | normal =>
        show atSeq E.Ms (firstR b) f' (fun f => xexec E b R f h' K) = (atSeq E.Ms (firstR b) f' fun f => xexec E b XR f h' xdone).bind (rets K)
        rw [atSeq_eq, atSeq_eq]
        exact ihb.1 R _ _ _
      | _ => rfl
    refine ⟨key _ iha.1, fun l r hr => ?_⟩
    change (match xlab E a l with
      | some r => some fun R f h K => r R f h fun e f h => match e with
        | .normal => atSeq E.Ms (firstR b) f fun f => xexec E b R f h K
        | e => K e f h
      | none => xlab E b l) = some r at hr
    cases hq : xlab E a l with
    | some q =>
      rw [hq] at hr
      simp only [Option.some.injEq] at hr
      subst hr
      exact key q (iha.2 l q hq)
    | none => rw [hq] at hr; exact ihb.2 l r hr
  | cond c a b iha ihb =>
    refine ⟨?_, fun l r hr => by cases hr⟩
    intro R f h K
    show (match fEval f c with
      | .lit (.bool b') => cond b' (xexec E a R f h K) (xexec E b R f h K)
      | _ => none) = (match fEval f c with
      | .lit (.bool b') => cond b' (xexec E a XR f h xdone) (xexec E b XR f h xdone)
      | _ => none).bind _
    split
    · rename_i b' _
      cases b'
      · exact ihb.1 R f h K
      · exact iha.1 R f h K
    · rfl
  | block id a iha =>
    refine ⟨?_, fun l r hr => by cases hr⟩
    intro R f h K
    refine (iha.1 R f h _).trans (Eq.trans ?_ (congrArg (Option.bind · (rets K)) (iha.1 XR f h _)).symm)
    rw [Option.bind_assoc]
    congr 1; funext r
    obtain ⟨e, f', h'⟩ := r
    cases e with
    | exit id' =>
      simp only [rets]
      cases Nat.beq id' id <;> rfl
    | _ => rfl
  | loop a iha =>
    refine ⟨?_, fun l r hr => by cases hr⟩
    intro R f h K
    show jn ((xloop _ _ _ _).bind (rets K)) = (jn ((xloop _ _ _ _).bind (rets xdone))).bind (rets K)
    rw [jn_eq, jn_eq]
    rw [Option.bind_assoc]
    congr 1
  | rangeFunc g ps x y ihx ihy => exact ⟨fun R f h K => xrng_nat R _ h K, fun l r hr => by cases hr⟩
  | exit id => exact ⟨fun R f h K => rfl, fun l r hr => by cases hr⟩
  | scope a iha =>
    refine ⟨?_, fun l r hr => by cases hr⟩
    intro R f h K
    refine (iha.1 R f h _).trans (Eq.trans ?_ (congrArg (Option.bind · (rets K)) (iha.1 XR f h _)).symm)
    rw [Option.bind_assoc]
    congr 1; funext r
    obtain ⟨e, f', h'⟩ := r
    cases e with
    | goto l =>
      show (match xlab E a l with
        | some _ => xjumpL E (xlab E a) l R f' h' K
        | none => K (.goto l) f' h') = (match xlab E a l with
        | some _ => xjumpL E (xlab E a) l XR f' h' xdone
        | none => xdone (.goto l) f' h').bind (rets K)
      cases xlab E a l with
      | none => rfl
      | some q =>
        simp only [xjumpL, jn_eq]
        rw [Option.bind_assoc]
        congr 1
    | _ => rfl
  | label l' =>
    refine ⟨fun R f h K => rfl, fun l r hr => ?_⟩
    change (match Nat.beq l' l with
      | true => some fun R f h K => K .normal f h
      | false => none) = some r at hr
    cases hb : Nat.beq l' l with
    | true => rw [hb] at hr; cases hr; exact fun R f h K => rfl
    | false => rw [hb] at hr; cases hr
  | goto l => exact ⟨fun R f h K => rfl, fun l r hr => by cases hr⟩
  | ret => exact ⟨fun R f h K => rfl, fun l r hr => by cases hr⟩
  | refuse => exact ⟨fun R f h K => rfl, fun l r hr => by cases hr⟩

theorem xexec_bind (E : XE) (hN : CT.Nat E.C) (c : Code) (R : Type) (f : Fr) (h : AHeap) (K : XK R) : xexec E c R f h K = (xexec E c XR f h xdone).bind (rets K) := (xex_bind E hN c).1 R f h K
theorem xiter_mono {mask : Fr → Fr} {step : Fr → AHeap → Option XR} : ∀ {m : Nat} {f : Fr} {h : AHeap} {r : XR}, xiter mask step m f h = some r → xiter mask step (m + 1) f h = some r
  | 0, f, h, r, hx => by simp [xiter] at hx
  | m + 1, f, h, r, hx => by
    unfold xiter at hx ⊢
    obtain ⟨q, h1, h2⟩ := Option.bind_eq_some_iff.1 hx
    rw [h1, Option.bind_some]
    obtain ⟨e, f', h'⟩ := q
    cases e with
    | normal => exact xiter_mono h2
    | _ => exact h2
theorem xiter_le {mask : Fr → Fr} {step : Fr → AHeap → Option XR} {m n : Nat} (hmn : m ≤ n) {f : Fr} {h : AHeap} {r : XR} (hx : xiter mask step m f h = some r) : xiter mask step n f h = some r := by
  induction hmn with
  | refl => exact hx
  | step _ ih => exact xiter_mono ih
theorem xloop_some {mask : Fr → Fr} {step : Fr → AHeap → Option XR} {f : Fr} {h : AHeap} {r : XR} : xloop mask step f h = some r ↔ ∃ m, xiter mask step m f h = some r := by
  unfold xloop xlim
  constructor
  · intro hx
    split at hx
    · rename_i hh; cases hx; exact hh.choose_spec
    · cases hx
  · rintro ⟨m, hm⟩
    have hh : ∃ r m, xiter mask step m f h = some r := ⟨r, m, hm⟩
    rw [dif_pos hh]
    obtain ⟨m', hm'⟩ := hh.choose_spec
    have h1 := xiter_le (Nat.le_max_left m m') hm
    have h2 := xiter_le (Nat.le_max_right m m') hm'
    rw [h1] at h2
    exact h2.symm
theorem xloop_eq (mask : Fr → Fr) (step : Fr → AHeap → Option XR) (f : Fr) (h : AHeap) : xloop mask step f h = (step f h).bind fun r => match r with
    | (.normal, f', h') => xloop mask step (mask f') h'
    | r => some r := by
  apply Option.ext
  intro r
  show xloop mask step f h = some r ↔ _ = some r
  rw [xloop_some]
  constructor
  · rintro ⟨m, hm⟩
    cases m with
    | zero => simp [xiter] at hm
    | succ m =>
      unfold xiter at hm
      obtain ⟨q, h1, h2⟩ := Option.bind_eq_some_iff.1 hm
      rw [h1, Option.bind_some]
      obtain ⟨e, f', h'⟩ := q
      cases e with
      | normal => exact xloop_some.2 ⟨m, h2⟩
      | _ => exact h2
  · intro hx
    obtain ⟨q, h1, h2⟩ := Option.bind_eq_some_iff.1 hx
    obtain ⟨e, f', h'⟩ := q
    cases e with
    | normal =>
      obtain ⟨m, hm⟩ := xloop_some.1 h2
      refine ⟨m + 1, ?_⟩
      unfold xiter
      rw [h1, Option.bind_some]; exact hm
    | _ =>
      refine ⟨1, ?_⟩
      unfold xiter
      rw [h1, Option.bind_some]; exact h2
def xagain {R : Type} (L : Fr → AHeap → Option R) (K : XK R) : XK R := fun e f h => match e with
  | .normal => L f h
  | e => K e f h
/-- **A loop, unrolled once.** -/
theorem xexec_loop (E : XE) (hN : CT.Nat E.C) (c : Code) (R : Type) (f : Fr) (h : AHeap) (K : XK R) :
    xexec E (.loop c) R f h K = xexec E c R (maskAt E.Ml (firstR c) f) h (fun e f h => match e with
      | .normal => xexec E (.loop c) R f h K
      | e => K e f h) := by
  rw [xexec_bind E hN c R]
  show jn ((xloop _ _ _ _).bind (rets K)) = _
  rw [jn_eq]
  rw [xloop_eq, Option.bind_assoc]
  congr 1; funext r
  obtain ⟨e, f', h'⟩ := r
  cases e with
  | normal => exact (jn_eq _).symm
  | _ => rfl
/-! ### Jumps -/
theorem xhop_mono {lab : XL} {mask : Nat → Fr → Fr} : ∀ {m : Nat} {r q : XR}, xhop lab mask m r = some q → xhop lab mask (m + 1) r = some q
  | 0, r, q, hx => by simp [xhop] at hx
  | m + 1, (e, f, h), q, hx => by
    unfold xhop at hx ⊢
    cases e with
    | goto l =>
      simp only at hx ⊢
      cases hl : lab l with
      | none => rw [hl] at hx; exact hx
      | some r =>
        rw [hl] at hx
        simp only at hx ⊢
        obtain ⟨p, h1, h2⟩ := Option.bind_eq_some_iff.1 hx
        rw [h1, Option.bind_some]
        exact xhop_mono h2
    | _ => exact hx
theorem xhop_le {lab : XL} {mask : Nat → Fr → Fr} {m n : Nat} (hmn : m ≤ n) {r q : XR} (hx : xhop lab mask m r = some q) : xhop lab mask n r = some q := by
  induction hmn with
  | refl => exact hx
  | step _ ih => exact xhop_mono ih
theorem xgos_some {lab : XL} {mask : Nat → Fr → Fr} {r q : XR} : xgos lab mask r = some q ↔ ∃ m, xhop lab mask m r = some q := by
  unfold xgos xlim
  constructor
  · intro hx
    split at hx
    · rename_i hh; cases hx; exact hh.choose_spec
    · cases hx
  · rintro ⟨m, hm⟩
    have hh : ∃ q m, xhop lab mask m r = some q := ⟨q, m, hm⟩
    rw [dif_pos hh]
    obtain ⟨m', hm'⟩ := hh.choose_spec
    have h1 := xhop_le (Nat.le_max_left m m') hm
    have h2 := xhop_le (Nat.le_max_right m m') hm'
    rw [h1] at h2
    exact h2.symm
theorem xgos_eq (lab : XL) (mask : Nat → Fr → Fr) (e : Exit) (f : Fr) (h : AHeap) : xgos lab mask (e, f, h) = match e with
    | .goto l => match lab l with
      | some r => (r XR f h xdone).bind fun q => xgos lab mask (mkM lab mask q)
      | none => some (.goto l, f, h)
    | e => some (e, f, h) := by
  apply Option.ext
  intro q
  show xgos lab mask (e, f, h) = some q ↔ _ = some q
  rw [xgos_some]
  constructor
  · rintro ⟨m, hm⟩
    cases m with
    | zero => simp [xhop] at hm
    | succ m =>
      unfold xhop at hm
      cases e with
      | goto l =>
        simp only at hm ⊢
        cases hl : lab l with
        | none => rw [hl] at hm; exact hm
        | some r =>
          rw [hl] at hm
          simp only at hm ⊢
          obtain ⟨p, h1, h2⟩ := Option.bind_eq_some_iff.1 hm
          rw [h1, Option.bind_some]
          exact xgos_some.2 ⟨m, h2⟩
      | _ => exact hm
  · intro hx
    cases e with
    | goto l =>
      simp only at hx
      cases hl : lab l with
      | none =>
        rw [hl] at hx
        refine ⟨1, ?_⟩
        unfold xhop; simp only [hl]; exact hx
      | some r =>
        rw [hl] at hx
        simp only at hx
        obtain ⟨p, h1, h2⟩ := Option.bind_eq_some_iff.1 hx
        obtain ⟨m, hm⟩ := xgos_some.1 h2
        refine ⟨m + 1, ?_⟩
        unfold xhop; simp only [hl]
        rw [h1, Option.bind_some]; exact hm
    | _ => exact ⟨1, hx⟩
/-- **A jump, followed once.** -/
theorem xjump_eq (E : XE) (hN : CT.Nat E.C) (c : Code) (l : Nat) (R : Type) (f : Fr) (h : AHeap) (K : XK R) :
    xjump E c l R f h K = match xlab E c l with
      | some r => r R (maskJ E l f) h (xscK E (xlab E c) K)
      | none => K (.goto l) (maskJ E l f) h := by
  unfold xjump xjumpL
  rw [jn_eq, xgos_eq]
  simp only
  cases hl : xlab E c l with
  | none => rfl
  | some r =>
    simp only
    rw [(xex_bind E hN c).2 l r hl R, Option.bind_assoc]
    congr 1; funext q
    obtain ⟨e, f', h'⟩ := q
    unfold rets xscK mkM
    cases e with
    | goto l' =>
      simp only
      cases hl' : xlab E c l' with
      | none => simp only; rw [xgos_eq]; simp only [hl']; rfl
      | some r' =>
        simp only
        unfold xjumpL
        rw [jn_eq]
        rfl
    | _ => simp only; rw [xgos_eq]; rfl
end Go.Proofs.YteahajcgbogjkaaGreat.AL
/- Loops over functions: the statement, and a round of it. -/
namespace Go.Proofs.YteahajcgbogjkaaGreat.AL
set_option linter.unusedVariables false
set_option linter.unusedSimpArgs false
open Go

variable {G : Rnd} {ρ ρ' : Env} {h h' : AHeap} {w w' : World} {P : Program}

/-- A block that nobody knows of. -/
theorem evo_fresh (hR : Rel ρ h w) (o : Obj) : Evo ρ h w ρ h (w.alloc o) := by
  refine ⟨Nat.le_refl _, fun _ _ => rfl, by simp, ⟨rfl, rfl, rfl⟩, fun c hc hn => ⟨?_, hn⟩, fun l r hr => ⟨r, ?_⟩⟩
  · show (w.heap.push o)[c]? = _
    rw [Array.getElem?_push, if_neg (by omega)]
  · show (w.heap.push o)[l]? = _
    rw [Array.getElem?_push, if_neg (by have := lt_of_get hr; omega)]; exact hr
theorem rel_fresh (hR : Rel ρ h w) (o : Obj) : Rel ρ h (w.alloc o) :=
  ⟨hR.glob.evo (evo_fresh hR o), fun b o' hb => (hR.obj b o' hb).evo (evo_fresh hR o) fun hd => by
    show (w.heap.push o)[_]? = _
    rw [Array.getElem?_push, if_neg (by have := hR.blk_lt hb hd; omega)], hR.inj⟩

/-- The record of a loop of ours is turned. -/
theorem turn_loop (hR : Rel ρ h w) {b : Nat} {st : LoopState} {pend : Option Code} {a : List AVal} {ps : Array Tmp} {x y : Code} (hb : h[b]? = some (.loop st pend a ps x y)) {o : AObj} {r' : Loop}
    (ho : ∀ r : Loop, w.heap[(ρ b).blk]? = some (.loop r) → o = .dead ∨ o = .loop r'.state r'.pending a ps x y ∧ r'.tmps = r.tmps ∧ r'.params = r.params ∧ r'.assign = r.assign ∧ r'.body = r.body) :
    Evo ρ h w ρ (h.set b o) (w.putObj (ρ b).blk (.loop r')) ∧ Rel ρ (h.set b o) (w.putObj (ρ b).blk (.loop r')) := by
  have hobj := hR.obj b _ hb
  obtain ⟨r, hr, h1, h2, h3, h4, h5, h6, h7⟩ := hobj
  have hne : (AObj.loop st pend a ps x y) ≠ .dead := by simp
  have hsz : w.heap.size ≤ (w.putObj (ρ b).blk (.loop r')).heap.size := by simp
  have hoth : ∀ c, c ≠ (ρ b).blk → (w.putObj (ρ b).blk (.loop r')).heap[c]? = w.heap[c]? := fun c hc => World.putObj_heap_other hc
  have hk : ∀ r : Loop, w.heap[(ρ b).blk]? = some (Obj.loop r) → ∃ r2 : Loop, (w.putObj (ρ b).blk (.loop r')).heap[(ρ b).blk]? = some (Obj.loop r2) := fun r hr => ⟨r', World.putObj_heap_same (lt_of_get hr)⟩
  have e : Evo ρ h w ρ (h.set b o) (w.putObj (ρ b).blk (.loop r')) := evo_set hR hb hne ⟨rfl, rfl, rfl⟩ hsz hoth hk
  refine ⟨e, hR.set hb hne ⟨rfl, rfl, rfl⟩ hsz hoth hk ?_⟩
  rcases ho r hr with rfl | ⟨rfl, g1, g2, g3, g4⟩
  · trivial
  · exact ⟨r', World.putObj_heap_same (lt_of_get hr), rfl, rfl, g2.trans h3, g3.trans h4, g4.trans h5, by rw [g1]; exact h6, fun i hi => by rw [g1]; exact (h7 i hi).evo e⟩

/-- What is asked of a loop over a function: the one call, with yield; then what is pending. -/
def ARange (P : Program) (g : Operand) (ps : Array Tmp) (assign body : Code) (Q : AQ) (a : List AVal) (h : AHeap) : Prop :=
  match aEval a g with
  | .fn (.func i) vs us => callable P i = true ∧ ACalls P i (vs ++ [.yld h.length] ++ us) (h ++ [.loop .ready none a ps assign body]) fun e h2 => match e with
    | .ret _ => ∃ st pend a' ps' x y, h2[h.length]? = some (.loop st pend a' ps' x y) ∧ st ≠ .busy ∧ match pend with
      | none => Q .normal a (h2.set h.length .dead)
      | some c => AWp P c Q a (h2.set h.length .dead)
    | .panic c => Q (.panic c) a h2
  | _ => False

theorem run_rangeCall {ca : Act} {g : Operand} {l i : Nat} {us xs : Array Value} {w : World} (hf : ca.eval g = .func (.func i) us xs) (hc : callable P i = true) :
    ∃ d, (resolve ca.eval (rangeCall g l) 0).run P w = .ok d w ∧ (invoke d.target d.args).run P w = .ok (.enter i (us ++ #[.func (.yield l) #[] #[]] ++ xs)) w := by
  unfold callable at hc
  cases hfn : P.funcs[i]? with
  | none => rw [hfn] at hc; simp at hc
  | some fn =>
    rw [hfn] at hc
    simp only [Bool.and_eq_true, Bool.not_eq_true'] at hc
    obtain ⟨h1, h2⟩ := hc
    have h3 : fn.body.isNone = false := by cases hb : fn.body <;> simp_all
    refine ⟨{ target := .fn (.func i) xs, args := us ++ #[.func (.yield l) #[] #[]] }, ?_, ?_⟩
    · simp only [rangeCall, resolve, List.map_toArray, List.map_cons, List.map_nil]
      rw [hf]; rfl
    · simp only [invoke, callFunc, Sem.run_bind, run_program, Result.andThen_ok, hfn, h1, h3, Bool.false_eq_true, if_false, Sem.run_pure]

theorem awp_rangeFunc {g : Operand} {ps : Array Tmp} {assign body : Code} {Q : AQ} {a : List AVal} (hA : ARange P g ps assign body Q a h) : AWp P (.rangeFunc g ps assign body) Q a h := by
  intro G ρ w ca hR ha
  unfold ARange at hA
  split at hA
  · rename_i i vs us hg
    obtain ⟨hc, hA⟩ := hA
    have hv := ha.eval g
    rw [hg] at hv
    generalize hu : ca.eval g = u at hv
    cases hv with | fn _ _ _ us' xs hl hl' hv hw =>
    -- the world in which the record lies, told of whatever record and whatever marks
    have main : ∀ (fn : FuncId) (w0 : World) (D : Nat) (mark : List Deferred), Evo ρ h w ρ h w0 → Rel ρ h w0 → (Instr.enterLoop fn ca.tmps ps assign body (FW G.ro).round).run P w = .ok (w0.heap.size, mark) (w0.alloc (.loop { state := .ready, pending := none, fn, tmps := ca.tmps, params := ps, assign, body, defers := D })) →
        ARest G ρ h w0 (mark ++ ca.defers) → ∃ (l : Nat) (mark : List Deferred) (w₁ : World) (d : Deferred) (w₁' : World) (f : FuncId) (args : Array Value) (w₂ : World),
      (Instr.enterLoop fn ca.tmps ps assign body (FW G.ro).round).run P w = .ok (l, mark) w₁ ∧
      (resolve ca.eval (rangeCall g l) 0).run P w₁ = .ok d w₁' ∧
      (∀ f', Target.leads P w₁' d.target d.args = some f' → (FW G.ro).fn f') ∧
      (invoke d.target d.args).run P w₁' = .ok (.enter f args) w₂ ∧
      ((FW G.ro).depth.isSome = true → 1 ≤ 0) ∧
      CallsIn (FW G.ro) (0 - 1) P f args w₂ (rangePost (FW G.ro) 0 P l (fun e ca' w' => ∃ ρ' h' a', Evo ρ h w ρ' h' w' ∧ Rel ρ' h' w' ∧ AR G ρ' h' w' a' ca' ∧ Q e a' h') { ca with defers := mark ++ ca.defers }) := by
      intro fn w0 D mark e0 R0 hrun hrest
      let rc : Loop := { state := .ready, pending := none, fn, tmps := ca.tmps, params := ps, assign, body, defers := D }
      let ρ1 := ext ρ h.length ⟨w0.heap.size, 0, 0, 1⟩
      have e1 : Evo ρ h w0 ρ1 (h ++ [.loop .ready none a ps assign body]) (w0.alloc (.loop rc)) := evo_push (o := .loop .ready none a ps assign body) (co := .loop rc) (l := ⟨w0.heap.size, 0, 0, 1⟩) R0 rfl
      have R1 : Rel ρ1 (h ++ [.loop .ready none a ps assign body]) (w0.alloc (.loop rc)) := R0.push (o := .loop .ready none a ps assign body) (co := .loop rc) (l := ⟨w0.heap.size, 0, 0, 1⟩) rfl
        ⟨rc, by show (w0.heap.push _)[w0.heap.size]? = _; simp, rfl, rfl, rfl, rfl, rfl, ha.size, fun j hj => ((ha.slot j hj).evo e0).evo e1⟩
      obtain ⟨d, h1, h2⟩ := run_rangeCall (P := P) (l := w0.heap.size) (w := w0.alloc (.loop rc)) hu hc
      refine ⟨w0.heap.size, mark, _, d, _, i, _, _, hrun, h1, fun _ _ => trivial, h2, fun hd => by simp at hd, ?_⟩
      have hargs : VRs ρ1 (h ++ [.loop .ready none a ps assign body]) (w0.alloc (.loop rc)) (vs ++ [.yld h.length] ++ us) (us' ++ #[.func (.yield w0.heap.size) #[] #[]] ++ xs) := by
        have hy : VR ρ1 (h ++ [.loop .ready none a ps assign body]) (w0.alloc (.loop rc)) (.yld h.length) (.func (.yield w0.heap.size) #[] #[]) := by
          have := VR.yld (ρ := ρ1) (h := h ++ [.loop .ready none a ps assign body]) (w := w0.alloc (.loop rc)) h.length (by simp)
          simpa [ρ1, ext] using this
        exact ((VRs.evo (e0.trans e1) ⟨hl, hv⟩).append (VRs.one hy)).append (VRs.evo (e0.trans e1) ⟨hl', hw⟩)
      refine (callsIn_fw (hA ρ1 _ _ R1 hargs)).mono ?_
      rintro e w3 ⟨ρ3, h3, e', ev, R3, hE, hq⟩
      have ev3 := (e0.trans e1).trans ev
      have hrest3 : ARest G ρ3 h3 w3 (mark ++ ca.defers) := by
        have hnew : ARest G ρ1 (h ++ [.loop .ready none a ps assign body]) (w0.alloc (.loop rc)) (mark ++ ca.defers) := hrest.evo e1
        exact hnew.evo ev
      have ha3 : AR G ρ3 h3 w3 a { ca with defers := mark ++ ca.defers } := ⟨ha.size, fun j hj => (ha.slot j hj).evo ev3, hrest3⟩
      cases hE with
      | panic c => exact ⟨ρ3, h3, a, ev3, R3, ha3, hq⟩
      | ret v u hvu =>
        obtain ⟨st, pend, a', ps', x, y, hb, hst, hq⟩ := hq
        obtain ⟨r, hr, g1, g2, g3, g4, g5, g6, g7⟩ := R3.obj _ _ hb
        have hblk : (ρ3 h.length).blk = w0.heap.size := by
          rw [ev.env h.length (by simp)]; simp [ρ1, ext]
        rw [hblk] at hr
        have hend := run_endLoop (P := P) hr (by rw [g1]; exact hst)
        obtain ⟨e4, R4⟩ := turn_loop (o := .dead) (r' := { r with state := .exhausted }) R3 hb (fun _ _ => .inl rfl)
        rw [hblk] at e4 R4
        have ha4 := ha3.evo e4
        refine ⟨_, _, hend, ?_⟩
        rw [← g2] at hq
        have fin : ∀ pd : Option Code, (match pd with
            | none => Q .normal a (h3.set h.length .dead)
            | some c => AWp P c Q a (h3.set h.length .dead)) → (match pd with
            | none => ∃ ρ' h' a', Evo ρ h w ρ' h' (w3.putObj w0.heap.size (.loop { r with state := .exhausted })) ∧ Rel ρ' h' (w3.putObj w0.heap.size (.loop { r with state := .exhausted })) ∧ AR G ρ' h' (w3.putObj w0.heap.size (.loop { r with state := .exhausted })) a' { ca with defers := mark ++ ca.defers } ∧ Q .normal a' h'
            | some c => c.wpIn (FW G.ro) 0 P (fun e ca' w' => ∃ ρ' h' a', Evo ρ h w ρ' h' w' ∧ Rel ρ' h' w' ∧ AR G ρ' h' w' a' ca' ∧ Q e a' h') { ca with defers := mark ++ ca.defers } (w3.putObj w0.heap.size (.loop { r with state := .exhausted }))) := by
          intro pd hq
          cases pd with
          | none => exact ⟨ρ3, _, a, ev3.trans e4, R4, ha4, hq⟩
          | some c =>
            refine wpIn_mono (hq G ρ3 _ _ R4 ha4) ?_
            rintro e5 ca5 w5 ⟨ρ5, h5, a5, ev5, R5, ha5, hq5⟩
            exact ⟨ρ5, h5, a5, (ev3.trans e4).trans ev5, R5, ha5, hq5⟩
        exact fin _ hq
    refine wpIn_rangeFunc fun fn _ => ?_
    cases hro : G.ro with
    | none =>
      rw [hro] at main
      refine main fn (w.alloc (.deferred (some []))) w.heap.size [{ target := .collected w.heap.size, args := #[] }] (evo_fresh hR _) (rel_fresh hR _) ?_ ?_
      · have := run_enterLoop_outer (P := P) (w := w) fn ca.tmps ps assign body
        simpa using this
      · exact ha.plain.push (evo_fresh hR _) (fun ho => by have := owned_lt hR ho; omega) (World.alloc_heap_new w _)
    | some l0 =>
      obtain ⟨r0, hr0⟩ := ha.plain.round l0 hro
      rw [hro] at main
      refine main fn w r0.defers [] (.refl ..) hR ?_ ha.plain
      unfold Instr.enterLoop
      simp only [Sem.run_bind, run_getLoop hr0, Result.andThen, Sem.run_pure, run_newObj_alloc]
  · exact hA.elim

/-- The round's own slots. -/
def aputs (a : List AVal) (ps : List Tmp) (args : List AVal) : List AVal := (ps.zip args).foldl (fun a p => aset a (some p.1) p.2) a

theorem aputs_vr : ∀ (ps : List Tmp) (a args : List AVal) (ts : Array Value) (us : List Value), a.length = ts.size → (∀ (i : Nat) (hi : i < a.length), VR ρ h w a[i] (ts.getD i undef)) → args.length = us.length → (∀ (i : Nat) (hi : i < args.length), VR ρ h w args[i] (us.getD i undef)) →
    (aputs a ps args).length = ((ps.zip us).foldl (fun (tmps : Array Value) (p : Tmp × Value) => tmps.setIfInBounds p.1 p.2) ts).size ∧ ∀ (i : Nat) (hi : i < (aputs a ps args).length), VR ρ h w (aputs a ps args)[i] (((ps.zip us).foldl (fun (tmps : Array Value) (p : Tmp × Value) => tmps.setIfInBounds p.1 p.2) ts).getD i undef)
  | [], a, args, ts, us, h1, h2, _, _ => ⟨h1, h2⟩
  | p :: ps, a, [], ts, [], h1, h2, _, _ => ⟨h1, h2⟩
  | p :: ps, a, v :: args, ts, u :: us, h1, h2, h3, h4 => by
    refine aputs_vr ps (aset a (some p) v) args (ts.setIfInBounds p u) us (by simp [aset, h1]) (fun i hi => ?_) (by simpa using h3) (fun i hi => by have := h4 (i + 1) (by simpa using hi); simpa using this)
    have hi' : i < a.length := by simpa [aset] using hi
    have hs : i < ts.size := by rw [← h1]; exact hi'
    have hvu : VR ρ h w v u := by have := h4 0 (by simp); simpa using this
    by_cases e : p = i
    · subst e
      simp [aset, Array.getD, hs, hvu]
    · have := h2 i hi'
      simpa [aset, Array.getD, hs, e, Array.getElem_setIfInBounds] using this
  | _ :: _, _, [], _, _ :: _, _, _, h3, _ => by simp at h3
  | _ :: _, _, _ :: _, _, [], _, _, h3, _ => by simp at h3

/-- How a round ends. -/
def ARoundPost (b : Nat) (R : AEnd → AHeap → Prop) : AQ
  | .normal, _, h => ∃ st p a ps x y, h[b]? = some (.loop st p a ps x y) ∧ R (.ret (.lit (.bool true))) (h.set b (.loop .ready none a ps x y))
  | .ret, _, h => ∃ st p a ps x y, h[b]? = some (.loop st p a ps x y) ∧ R (.ret (.lit (.bool false))) (h.set b (.loop .done (some .ret) a ps x y))
  | .exit id, _, h => ∃ st p a ps x y, h[b]? = some (.loop st p a ps x y) ∧ R (.ret (.lit (.bool false))) (h.set b (.loop .done (some (.exit id)) a ps x y))
  | .goto l, _, h => ∃ st p a ps x y, h[b]? = some (.loop st p a ps x y) ∧ R (.ret (.lit (.bool false))) (h.set b (.loop .done (some (.goto l)) a ps x y))
  | _, _, _ => False

theorem ayield_round2 {b : Nat} {p : Option Code} {a : List AVal} {ps : Array Tmp} {x y : Code} {args : List AVal} {R : AEnd → AHeap → Prop} (hb : h[b]? = some (.loop .ready p a ps x y)) (hn : args.length = ps.size)
    (hA : AWp P x (AThen (fun a1 h1 => ∃ p a ps u v, h1[b]? = some (.loop .ready p a ps u v) ∧ AWp P y (ARoundPost b R) a1 (h1.set b (.loop .busy p a ps u v))) fun _ _ _ => False) (aputs a ps.toList args) h) : AYield P b args h R := by
  intro ρ w us hR hv
  obtain ⟨r, hr, g1, g2, g3, g4, g5, g6, g7⟩ := hR.obj _ _ hb
  have hbl : b < h.length := lt_of_getL hb
  have hus : us.size = r.params.size := by rw [g3, ← hn, hv.1]
  refine ⟨_, _, _, _, _root_.Go.run_yield (P := P) hr hus, ?_⟩
  rw [g4, g5]
  refine roundIn_of_wpIn (F := FW none) trivial ?_
  have htm := aputs_vr ps.toList a args r.tmps us.toList g6 g7 (by rw [hv.1]; simp) (fun i hi => by have := hv.2 i hi; simpa [Array.getD_eq_getD_getElem?, List.getD_eq_getElem?_getD] using this)
  have hfold : (r.params.zip us).foldl (fun tmps (x : Tmp × Value) => tmps.setIfInBounds x.1 x.2) r.tmps = (ps.toList.zip us.toList).foldl (fun (tmps : Array Value) (p : Tmp × Value) => tmps.setIfInBounds p.1 p.2) r.tmps := by
    rw [g3, ← Array.foldl_toList, Array.toList_zip]
  have hAR : AR ⟨some (ρ b).blk, 0, []⟩ ρ h w (aputs a ps.toList args) { tmps := (r.params.zip us).foldl (fun tmps (x : Tmp × Value) => tmps.setIfInBounds x.1 x.2) r.tmps, defers := [] } := by
    rw [hfold]
    exact ⟨htm.1, htm.2, ⟨⟨[], rfl, List.nodup_nil, fun d hd => by simp at hd⟩, fun c hc => by simp at hc, fun l hl => by cases hl; exact ⟨r, hr⟩, Nat.zero_le _⟩⟩
  have h0 := hA ⟨some (ρ b).blk, 0, []⟩ ρ w _ hR hAR
  refine wpIn_mono h0 ?_
  rintro e ca1 w1 ⟨ρ1, h1, a1, ev1, R1, ha1, hq⟩
  cases e with
  | normal =>
    obtain ⟨p1, a2, ps2, x2, y2, hb1, hbody⟩ := hq
    obtain ⟨r1, hr1, k1, k2, k3, k4, k5, k6, k7⟩ := R1.obj _ _ hb1
    have hblk1 : (ρ1 b).blk = (ρ b).blk := by rw [ev1.env b hbl]
    rw [hblk1] at hr1
    obtain ⟨e2, R2⟩ := turn_loop (o := .loop .busy p1 a2 ps2 x2 y2) (r' := { r1 with state := .busy }) R1 hb1 (fun r' hr' => by
      rw [hblk1, hr1] at hr'; cases hr'
      exact .inr ⟨by rw [k2], rfl, rfl, rfl, rfl⟩)
    rw [hblk1] at e2 R2
    refine ⟨_, run_beginRound (P := P) hr1 k1, ?_⟩
    refine wpIn_mono (hbody ⟨some (ρ b).blk, 0, []⟩ ρ1 _ ca1 R2 (ha1.evo e2)) ?_
    rintro e ca3 w3 ⟨ρ3, h3, a3, ev3, R3, ha3, hq3⟩
    have ev13 := (ev1.trans e2).trans ev3
    have hblk3 : (ρ3 b).blk = (ρ b).blk := by rw [ev13.env b hbl]
    have fin : ∀ (jump : Option Code) (o : AObj), (∃ st p a ps x y, h3[b]? = some (.loop st p a ps x y) ∧ R (.ret (.lit (.bool jump.isNone))) (h3.set b (.loop (if jump.isNone then .ready else .done) jump a ps x y))) →
        ∃ v w', (Instr.endRound (ρ b).blk jump).run P w3 = .ok v w' ∧ ∃ ρ' h' e', Evo ρ h w ρ' h' w' ∧ Rel ρ' h' w' ∧ EndR ρ' h' w' e' (.returned v) ∧ R e' h' := by
      rintro jump o ⟨st, p4, a4, ps4, x4, y4, hb4, hr4⟩
      obtain ⟨r4, hr4', m1, m2, m3, m4, m5, m6, m7⟩ := R3.obj _ _ hb4
      rw [hblk3] at hr4'
      obtain ⟨e4, R4⟩ := turn_loop (o := .loop (if jump.isNone then .ready else .done) jump a4 ps4 x4 y4) (r' := { r4 with state := if jump.isNone then .ready else .done, pending := jump }) R3 hb4 (fun r' hr' => by
        rw [hblk3, hr4'] at hr'; cases hr'
        exact .inr ⟨rfl, rfl, rfl, rfl, rfl⟩)
      rw [hblk3] at e4 R4
      exact ⟨_, _, run_endRound (P := P) jump hr4', ρ3, _, _, ev13.trans e4, R4, .ret _ _ (.lit _), hr4⟩
    cases e with
    | normal => exact fin none .dead hq3
    | ret => exact fin (some .ret) .dead hq3
    | exit id => exact fin (some (.exit id)) .dead hq3
    | goto l => exact fin (some (.goto l)) .dead hq3
    | panic c => exact hq3.elim
    | outgrown => exact hq3.elim
  | exit id => exact hq.elim
  | goto l => exact hq.elim
  | ret => exact hq.elim
  | panic c => exact hq.elim
  | outgrown => exact hq.elim
theorem ayield_round {b : Nat} {p : Option Code} {a : List AVal} {ps : Array Tmp} {x y : Code} {args : List AVal} {R : AEnd → AHeap → Prop} (hb : h[b]? = some (.loop .ready p a ps x y)) (hn : args.length = ps.size)
    (hA : AWp P x (AThen (fun a1 h1 => ∃ p, h1[b]? = some (.loop .ready p a ps x y) ∧ AWp P y (ARoundPost b R) a1 (h1.set b (.loop .busy p a ps x y))) fun _ _ _ => False) (aputs a ps.toList args) h) : AYield P b args h R := by
  refine ayield_round2 hb hn (awp_mono hA ?_)
  intro e a1 h1 hq
  cases e with
  | normal =>
    obtain ⟨p1, h2, h3⟩ := hq
    exact ⟨p1, a, ps, x, y, h2, h3⟩
  | _ => exact hq
end Go.Proofs.YteahajcgbogjkaaGreat.AL
/- What is reckoned is so. -/
namespace Go.Proofs.YteahajcgbogjkaaGreat.AL
set_option linter.unusedVariables false
set_option linter.unusedSimpArgs false
open Go

variable {G : Rnd} {ρ ρ' : Env} {h h' : AHeap} {w w' : World} {P : Program}

section moves
variable {b : Frame} {a : Act} {k : List Item} {cs : List Frame}
theorem stepR_scope {c : Code} : step P (lone (b.atR a (.code (.scope c) :: k)) cs w) = .next (lone (b.atR a (.code c :: .inScope c :: k)) cs w) :=
  step_lone_go (by simp [stepG, stepG.exec, Frame.atR])
theorem stepR_inScope {c : Code} : step P (lone (b.atR a (.inScope c :: k)) cs w) = .next (lone (b.atR a k) cs w) :=
  step_lone_go (by simp [stepG, stepG.exec, Frame.atR])
end moves

noncomputable def drawsOk (nt : Nat) (D : List (Nat × DPart)) (c : Code) : Bool := Code.rec (motive := fun _ => Bool) true
  (fun id ops draw => match draw with
    | false => true
    | true => match findN D id with
      | some d => match d.L with
        | [] => drawOk2 ops d && aOkB ops nt d.A && nodupB d.A && subB d.A d.Hd && nodupB d.Hd && stsOkB .any ops d.A d.S
        | _ :: _ => drawOkL ops d.F d.L d.T && readsOkB ops d.L
      | none => true)
  (fun _ _ a b => a && b) (fun _ _ _ a b => a && b) (fun _ _ a => a) (fun _ a => a) (fun _ _ _ _ a b => a && b)
  (fun _ => true) (fun _ a => a) (fun _ => true) (fun _ => true) true (fun _ => true) c

def QK {R : Type} (n : Nat) (K : XK R) (r : R) : AQ := fun e a h => (∀ c, e ≠ .panic c) ∧ ∃ f : Fr, f.Wf n ∧ a = f.lst n ∧ K e f h = some r

theorem iter_sound {E : XE} {c : Code} {mask : Fr → Fr} {step : Fr → AHeap → Option XR} (hmw : ∀ f : Fr, f.Wf E.n → (mask f).Wf E.n) (hmk : ∀ f : Fr, Weak (f.lst E.n) ((mask f).lst E.n))
    (hstep : ∀ (f : Fr) (h : AHeap) (r : XR), f.Wf E.n → step f h = some r → AWp P c (QK E.n xdone r) (f.lst E.n) h) :
    ∀ (m : Nat) (f : Fr) (h : AHeap) (e : Exit) (f' : Fr) (h' : AHeap), f.Wf E.n → xiter mask step m f h = some (e, f', h') → ∀ (ρ : Env) (w : World) (ca : Act) b k cs, b.roundOf = G.ro → Rel ρ h w → AR G ρ h w (f.lst E.n) ca →
      ∃ ca' w', (∃ ρ', Evo ρ h w ρ' h' w' ∧ Rel ρ' h' w' ∧ AR G ρ' h' w' (f'.lst E.n) ca' ∧ f'.Wf E.n ∧ ∀ c, e ≠ .panic c) ∧ ArrivesIn (Machine.fenced P (FW G.ro)) P (lone (b.atR ca (.code c :: .inLoop c :: k)) cs w) b k cs e ca' w' := by
  intro m
  induction m with
  | zero => intro f h e f' h' hw hx; simp [xiter] at hx
  | succ m ih =>
    intro f h e f' h' hw hx ρ w ca b k cs hro hR ha
    unfold xiter at hx
    obtain ⟨⟨e1, f1, h1⟩, hs, hx⟩ := Option.bind_eq_some_iff.1 hx
    obtain ⟨e2, ca1, w1, ⟨ρ1, h2, a2, ev, hR1, ha1, hnp, g, hg, rfl, hd⟩, harr⟩ := hstep f h _ hw hs G ρ w ca hR ha b (.inLoop c :: k) cs hro trivial (fw_room _ _)
    cases hd
    cases e1 with
    | normal =>
      obtain ⟨ca3, w3, ⟨ρ3, ev3, hR3, ha3, hw3⟩, harr3⟩ := ih (mask f1) h1 e f' h' (hmw _ hg) hx ρ1 w1 ca1 b k cs hro hR1 (ha1.weak (hmk _))
      exact ⟨ca3, w3, ⟨ρ3, ev.trans ev3, hR3, ha3, hw3⟩, .of_steps (StepsIn.trans harr (.one (fenced_calm (F := FW G.ro) (n := 0) trivial (fw_room _ _) rfl) stepR_inLoop)) harr3⟩
    | exit id => cases hx; exact ⟨ca1, w1, ⟨ρ1, ev, hR1, ha1, hg, hnp⟩, .pass (x := .inLoop c) rfl (fun _ _ => .inl (by simp)) harr⟩
    | goto l => cases hx; exact ⟨ca1, w1, ⟨ρ1, ev, hR1, ha1, hg, hnp⟩, .pass (x := .inLoop c) rfl (fun _ _ => .inl (by simp)) harr⟩
    | ret => cases hx; exact ⟨ca1, w1, ⟨ρ1, ev, hR1, ha1, hg, hnp⟩, .pass (x := .inLoop c) rfl (fun _ _ => .inl (by simp)) harr⟩
    | panic ch => cases hx; exact ⟨ca1, w1, ⟨ρ1, ev, hR1, ha1, hg, hnp⟩, .pass (x := .inLoop c) rfl (fun _ _ => .inl (by simp)) harr⟩
    | outgrown => cases hx; exact ⟨ca1, w1, ⟨ρ1, ev, hR1, ha1, hg, hnp⟩, .pass (x := .inLoop c) rfl (fun _ _ => .inl (by simp)) harr⟩

theorem maskAt_wf {n : Nat} {f : Fr} (hw : f.Wf n) (l : List (Nat × List Nat)) (k : Option Nat) : (maskAt l k f).Wf n := by
  unfold maskAt; split
  · exact maskO_wf hw _
  · exact hw
theorem maskAt_weak (n : Nat) (f : Fr) (l : List (Nat × List Nat)) (k : Option Nat) : Weak (f.lst n) ((maskAt l k f).lst n) := by
  unfold maskAt; split
  · exact maskO_weak n f _
  · exact Weak.refl _

def XSnd (P : Program) (n : Nat) (c : Code) (q : XS) : Prop := ∀ (R : Type) (f : Fr) (h : AHeap) (K : XK R) (r : R), f.Wf n → q R f h K = some r → AWp P c (QK n K r) (f.lst n) h
def LSnd (P : Program) (n : Nat) (c : Code) (lab : XL) : Prop := ∀ l, match lab l with
  | some q => ∃ rest, findLabel c l = some rest ∧ XSnd P n rest q
  | none => findLabel c l = none
theorem hop_sound {n : Nat} {c : Code} {lab : XL} {mask : Nat → Fr → Fr} (hmw : ∀ l (f : Fr), f.Wf n → (mask l f).Wf n) (hmk : ∀ l (f : Fr), Weak (f.lst n) ((mask l f).lst n)) (hl : LSnd P n c lab) :
    ∀ (m : Nat) (e : Exit) (f : Fr) (h : AHeap) (e' : Exit) (f' : Fr) (h' : AHeap), f.Wf n → xhop lab mask m (e, f, h) = some (e', f', h') → (∀ c, e ≠ .panic c) → ∀ (ρ : Env) (w : World) (ca : Act) b k cs s0, b.roundOf = G.ro → Rel ρ h w → AR G ρ h w (f.lst n) ca →
      ArrivesIn (Machine.fenced P (FW G.ro)) P s0 b (.inScope c :: k) cs e ca w → ∃ ca' w', (∃ ρ', Evo ρ h w ρ' h' w' ∧ Rel ρ' h' w' ∧ AR G ρ' h' w' (f'.lst n) ca' ∧ f'.Wf n ∧ ∀ c, e' ≠ .panic c) ∧ ArrivesIn (Machine.fenced P (FW G.ro)) P s0 b k cs e' ca' w' := by
  intro m
  induction m with
  | zero => intro e f h e' f' h' hw hx; simp [xhop] at hx
  | succ m ih =>
    intro e f h e' f' h' hw hx hnp ρ w ca b k cs s0 hro hR ha harr
    unfold xhop at hx
    cases e with
    | goto l =>
      simp only at hx
      have h1 := hl l
      cases hq : lab l with
      | none =>
        rw [hq] at hx h1
        cases hx
        simp only at h1
        exact ⟨ca, w, ⟨ρ, .refl .., hR, ha, hw, hnp⟩, fun k' hk => harr.1 k' (by simp [gotoIn, h1, hk]), fun hr hk => harr.2 hr (by simp [gotoIn, h1, hk])⟩
      | some q =>
        rw [hq] at hx h1
        simp only at hx h1
        obtain ⟨rest, hf, hs⟩ := h1
        obtain ⟨⟨e1, f1, h1⟩, h2, hx⟩ := Option.bind_eq_some_iff.1 hx
        obtain ⟨e2, ca1, w1, ⟨ρ1, h3, a2, ev, hR1, ha1, hnp1, g, hg, rfl, hd⟩, harr1⟩ := hs XR f h xdone _ hw h2 G ρ w ca hR ha b (.inScope c :: k) cs hro trivial (fw_room _ _)
        cases hd
        have hmm : ∃ f2 : Fr, mkM lab mask (e1, f1, h1) = (e1, f2, h1) ∧ f2.Wf n ∧ Weak (f1.lst n) (f2.lst n) := by
          unfold mkM
          cases e1 with
          | goto l' =>
            simp only
            cases lab l' with
            | none => exact ⟨f1, rfl, hg, .refl _⟩
            | some _ => exact ⟨_, rfl, hmw l' f1 hg, hmk l' f1⟩
          | _ => exact ⟨f1, rfl, hg, .refl _⟩
        obtain ⟨f2, hme, hg2, hwk⟩ := hmm
        simp only [hme] at hx
        obtain ⟨ca3, w3, ⟨ρ3, ev3, hR3, ha3, hw3⟩, harr3⟩ := ih e1 f2 h1 e' f' h' hg2 hx hnp1 ρ1 w1 ca1 b k cs s0 hro hR1 (ha1.weak hwk) (.of_steps (harr.1 _ (by simp [gotoIn, hf])) harr1)
        exact ⟨ca3, w3, ⟨ρ3, ev.trans ev3, hR3, ha3, hw3⟩, harr3⟩
    | normal => cases hx; exact ⟨ca, w, ⟨ρ, .refl .., hR, ha, hw, hnp⟩, StepsIn.trans harr (.one (fenced_calm (F := FW G.ro) (n := 0) trivial (fw_room _ _) rfl) stepR_inScope)⟩
    | exit id => cases hx; exact ⟨ca, w, ⟨ρ, .refl .., hR, ha, hw, hnp⟩, fun k' hk => harr.1 k' (by simp [exitTo, hk]), fun hr hk => harr.2 hr (by simp [exitTo, hk])⟩
    | ret => cases hx; exact ⟨ca, w, ⟨ρ, .refl .., hR, ha, hw, hnp⟩, harr⟩
    | panic ch => exact absurd rfl (hnp ch)
    | outgrown => cases hx; exact ⟨ca, w, ⟨ρ, .refl .., hR, ha, hw, hnp⟩, harr⟩
theorem fputsK_some {R : Type} {n : Nat} {K : Fr → Option R} {r : R} : ∀ (ps : List Nat) {f : Fr} {args : List AVal}, f.Wf n → fputsK n ps f args K = some r → ∃ f' : Fr, f'.Wf n ∧ f'.lst n = aputs (f.lst n) ps args ∧ K f' = some r
  | [], f, args, hw, hx => ⟨f, hw, rfl, hx⟩
  | p :: ps, f, [], hw, hx => by cases hx
  | p :: ps, f, v :: args, hw, hx => by
    change fputK n f (some p) v (fun f => fputsK n ps f args K) = some r at hx
    rw [fputK_eq] at hx
    obtain ⟨f1, h1, hx⟩ := Option.bind_eq_some_iff.1 hx
    obtain ⟨e1, e2⟩ := fput_some h1 hw
    obtain ⟨f', a1, a2, a3⟩ := fputsK_some ps e2 hx
    exact ⟨f', a1, by rw [a2, e1]; rfl, a3⟩
theorem overL_some {h g : AHeap} {b : Nat} {st : LoopState} {pend : Option Code} (hx : overL h b st pend = some g) : ∃ st' p a ps x y, h[b]? = some (.loop st' p a ps x y) ∧ g = h.set b (.loop st pend a ps x y) := by
  unfold overL at hx
  split at hx
  · rename_i hb
    cases hx
    exact ⟨_, _, _, _, _, _, hb, rfl⟩
  · cases hx
theorem maskR_wf {E : XE} {n : Nat} {f : Fr} (hw : f.Wf n) (k : Option Nat) : (maskR E k f).Wf n := by
  unfold maskR; split
  · exact maskO_wf hw _
  · exact hw
theorem maskR_weak (E : XE) (n : Nat) (f : Fr) (k : Option Nat) : Weak (f.lst n) ((maskR E k f).lst n) := by
  unfold maskR; split
  · exact maskO_weak n f _
  · exact Weak.refl _
theorem xrng_sound {E : XE} (hE : E.Ok P) {g : Operand} {ps : Array Tmp} {x y : Code} {ix iy : XS} (hix : XSnd P E.n x ix) (hiy : XSnd P E.n y iy) {R : Type} {f : Fr} {h : AHeap} {K : XK R} {r : R} (hw : f.Wf E.n)
    (hq : xrng E g ps x y ix iy R f h K = some r) : AWp P (.rangeFunc g ps x y) (QK E.n K r) (f.lst E.n) h := by
  unfold xrng at hq
  obtain ⟨q, h1, h2⟩ := Option.bind_eq_some_iff.1 hq
  unfold rngK at h1
  split at h1
  · rename_i i vs us hv
    split at h1
    · rename_i I hI
      obtain ⟨hc, hI⟩ := hE.I.find hI
      obtain ⟨r1, h3, h4⟩ := Option.bind_eq_some_iff.1 h1
      refine awp_rangeFunc ?_
      unfold ARange
      rw [show aEval (f.lst E.n) g = .fn (.func i) vs us from (by rw [aEval_lst hw]; exact hv)]
      refine ⟨hc, (hI _ ?_ _ _ _ _ h3).mono ?_⟩
      · intro c
        unfold rndYs
        by_cases hcb : c = h.length
        · rw [if_pos hcb]
          subst hcb
          intro args g0 v h' hx
          unfold rndY at hx
          split at hx
          · rename_i hcond
            obtain ⟨hb, hn⟩ := hcond
            obtain ⟨q1, h5, h6⟩ := Option.bind_eq_some_iff.1 hx
            unfold rbOf at h5
            obtain ⟨f', hw', hl', h7⟩ := fputsK_some ps.toList hw h5
            rw [jn_eq] at h7
            refine ayield_round2 hb hn ?_
            rw [← hl']
            refine awp_mono (hix XB f' g0 _ q1 hw' h7) ?_
            rintro e a1 g1 ⟨_, f1, hw1, rfl, hk⟩
            cases e with
            | normal =>
              change (busyL g1 h.length).bind _ = some q1 at hk
              obtain ⟨g2, h8, h9⟩ := Option.bind_eq_some_iff.1 hk
              unfold busyL at h8
              split at h8
              · rename_i p a2 ps2 x2 y2 hb2
                cases h8
                refine ⟨p, a2, ps2, x2, y2, hb2, awp_mono (hiy XB f1 _ _ q1 hw1 h9) ?_⟩
                rintro e3 a3 g3 ⟨hnp, f3, hw3, rfl, hk3⟩
                cases hk3
                unfold rndEnd at h6
                cases e3 with
                | normal =>
                  obtain ⟨g4, h10, h11⟩ := Option.bind_eq_some_iff.1 h6
                  obtain ⟨_, _, _, _, _, _, h12, rfl⟩ := overL_some h10
                  cases h11
                  exact ⟨_, _, _, _, _, _, h12, rfl, rfl⟩
                | ret =>
                  obtain ⟨g4, h10, h11⟩ := Option.bind_eq_some_iff.1 h6
                  obtain ⟨_, _, _, _, _, _, h12, rfl⟩ := overL_some h10
                  cases h11
                  exact ⟨_, _, _, _, _, _, h12, rfl, rfl⟩
                | exit id =>
                  obtain ⟨g4, h10, h11⟩ := Option.bind_eq_some_iff.1 h6
                  obtain ⟨_, _, _, _, _, _, h12, rfl⟩ := overL_some h10
                  cases h11
                  exact ⟨_, _, _, _, _, _, h12, rfl, rfl⟩
                | goto l =>
                  obtain ⟨g4, h10, h11⟩ := Option.bind_eq_some_iff.1 h6
                  obtain ⟨_, _, _, _, _, _, h12, rfl⟩ := overL_some h10
                  cases h11
                  exact ⟨_, _, _, _, _, _, h12, rfl, rfl⟩
                | panic c => cases h6
                | outgrown => cases h6
              · cases h8
            | _ => cases hk
          · cases hx
        · rw [if_neg hcb]; exact hE.Y c
      · rintro e g2 ⟨rfl, rfl⟩
        unfold rngOut at h4
        split at h4
        · rename_i st pend a' ps' x' y' hb
          have hst : st ≠ .busy := by
            rintro rfl
            simp at h4
          have h5 : rngPd pend (r1.2.set h.length .dead) = some q := by
            cases st with
            | busy => exact absurd rfl hst
            | _ => exact h4
          refine ⟨st, pend, a', ps', x', y', hb, hst, ?_⟩
          cases pend with
          | none =>
            cases h5
            exact ⟨(fun _ e => by cases e), f, hw, rfl, h2⟩
          | some c =>
            cases c with
            | ret =>
              cases h5
              exact awp_ret ⟨(fun _ e => by cases e), f, hw, rfl, h2⟩
            | exit id =>
              cases h5
              refine awp_exit ⟨(fun _ e => by cases e), f, hw, rfl, ?_⟩
              unfold rngE at h2
              simp only at h2
              split at h2
              · rename_i k hk
                rw [findN_map (k := fun e => K (.exit e) f) hk] at h2; exact h2
              · cases h2
            | goto id =>
              cases h5
              refine awp_goto ⟨(fun _ e => by cases e), f, hw, rfl, ?_⟩
              unfold rngE at h2
              simp only at h2
              split at h2
              · rename_i k hk
                rw [findN_map (k := fun e => K (.goto e) f) hk] at h2; exact h2
              · cases h2
            | _ => cases h5
        · cases h4
    · cases h1
  · cases h1
theorem xex_sound {E : XE} (hE : E.Ok P) (hm : P.follows .mixedOrders = true) (c : Code) : drawsOk E.n E.D c = true → XSnd P E.n c (xexec E c) ∧ LSnd P E.n c (xlab E c) := by
  induction c with
  | skip => exact fun hd => ⟨fun R f h K r hw hx => awp_skip ⟨(fun _ e => by cases e), f, hw, rfl, hx⟩, fun l => rfl⟩
  | region id ops draw =>
    intro hd
    refine ⟨?_, fun l => rfl⟩
    intro R f h K r hw hx
    have fin : ∀ (f : Fr) (h : AHeap), f.Wf E.n → (fun f h => K .normal f h) f h = some r → QK E.n K r .normal (f.lst E.n) h := fun f h hw hx => ⟨(fun _ e => by cases e), f, hw, rfl, hx⟩
    cases draw with
    | false =>
      exact awp_regionW (xops_ok hE fin _ _ f f h hw (Weak.refl _) hx)
    | true =>
      change (match findN E.D id with
        | some D => match D.L with
          | [] => xflt E.T E.n ops D.F f fun f => xopsQ E ops D.A D.S h D.Hd f [] fun f p => pdFill E.n p h.length f fun f => xops E id ops (opsAt ops D.Tl) 500 f (pdOn h p) fun f h => K .normal f h
          | _ :: _ => xflt E.T E.n ops D.F f fun f => xreads E ops h D.L f [] fun f ls => xopsL E ops D.T ls f h fun f h => K .normal f h
        | none => none) = some r at hx
      change (match findN E.D id with
        | some d => match d.L with
          | [] => drawOk2 ops d && aOkB ops E.n d.A && nodupB d.A && subB d.A d.Hd && nodupB d.Hd && stsOkB .any ops d.A d.S
          | _ :: _ => drawOkL ops d.F d.L d.T && readsOkB ops d.L
        | none => true) = true at hd
      cases hf : findN E.D id with
      | none => simp [hf] at hx
      | some D =>
       rcases hDL : D.L with _ | ⟨l0, ll⟩
       rotate_left
       · simp only [hf, hDL, Bool.and_eq_true] at hx hd
         obtain ⟨hd1, hd2⟩ := hd
         obtain ⟨f0, hw0, hl0, hx⟩ := xflt_ok hE.T D.F f hw hx
         have hlo : LateOk .any ops D.F (l0 :: ll) D.T (TP.nums D.T) := by
           simp only [drawOkL, Bool.and_eq_true] at hd1
           exact lateOkB_ok hd1.1.1.2
         refine awp_drawL hm (fun c a h hq => hq.1 c rfl) hd1 hl0 (lrd_read _ _ _ hd2 (fun r hr => by cases hr) ?_)
         exact xreads_ok hE (fun f ls hw hx hls => xopsL_ok hE fin D.T ls f h hlo.sep hw hls hx) _ f0 [] hw0 hx
       · simp only [hf, hDL] at hx hd
         simp only [Bool.and_eq_true] at hd
         obtain ⟨⟨⟨⟨⟨hd1, hd2⟩, hd3⟩, hd4⟩, hd5⟩, hd6⟩ := hd
         obtain ⟨f0, hw0, hl0, hx⟩ := xflt_ok hE.T D.F f hw hx
         refine awp_draw2 D hm (fun c a h hq => hq.1 c rfl) hd1 (by rw [show (f.lst E.n).length = E.n by simp [Fr.lst]]; exact hd2) hd3 hd6 hl0 ?_
         refine xopsQ_ok hE (stsOkB_ok hd6) (K := fun f p => pdFill E.n p h.length f fun f => xops E id ops (opsAt ops D.Tl) 500 f (pdOn h p) fun f h => K .normal f h) ?_
           D.Hd [] D.A f0 [] (fun _ => none) rfl (nodupB_ok hd3) hd4 (fun k hk => by cases hk) (nodupB_ok hd5) hw0 rfl (fun _ _ => rfl) (fun _ _ => rfl) (fun _ _ _ _ => rfl) hx
         intro f' p g hf' hg hk
         obtain ⟨f2, hw2, hl2, hk⟩ := gath_fill hg hf' hk
         rw [gath_heap hg, ← hl2]
         rw [pdOn_eq] at hk
         exact xops_ok hE fin _ _ f2 f2 _ hw2 (Weak.refl _) hk
  | seq a b iha ihb =>
    intro hd
    have hd' : (drawsOk E.n E.D a && drawsOk E.n E.D b) = true := hd
    rw [Bool.and_eq_true] at hd'
    have key : ∀ (q : XS) (c : Code), XSnd P E.n c q → XSnd P E.n (.seq c b) (fun R f h K => q R f h fun e f h => match e with
        | .normal => atSeq E.Ms (firstR b) f fun f => xexec E b R f h K
        | e => K e f h) := by
      intro q c hq R f h K r hw hx
      refine awp_seq (awp_mono (hq R f h _ r hw hx) ?_)
      rintro e a' h1 ⟨hnp, g, hg, rfl, hk⟩
      cases e with
      | normal =>
        change atSeq E.Ms (firstR b) g (fun f => xexec E b R f h1 K) = some r at hk
        rw [atSeq_eq] at hk
        exact awp_weak (maskAt_weak _ _ _ _) ((ihb hd'.2).1 R _ h1 K r (maskAt_wf hg _ _) hk)
      | _ => exact ⟨hnp, g, hg, rfl, hk⟩
    refine ⟨key _ a (iha hd'.1).1, fun l => ?_⟩
    have ha := (iha hd'.1).2 l
    have hb := (ihb hd'.2).2 l
    show match (match xlab E a l with
      | some r => some fun R f h K => r R f h fun e f h => match e with
        | .normal => atSeq E.Ms (firstR b) f fun f => xexec E b R f h K
        | e => K e f h
      | none => xlab E b l) with
      | some q => ∃ rest, findLabel (.seq a b) l = some rest ∧ XSnd P E.n rest q
      | none => findLabel (.seq a b) l = none
    cases hq : xlab E a l with
    | some q =>
      rw [hq] at ha
      obtain ⟨rest, hf, hs⟩ := ha
      exact ⟨.seq rest b, by simp [findLabel, hf], key q rest hs⟩
    | none =>
      rw [hq] at ha
      simp only at ha ⊢
      have e : findLabel (.seq a b) l = findLabel b l := by simp [findLabel, ha]
      rw [e]; exact hb
  | cond c a b iha ihb =>
    intro hd
    refine ⟨?_, fun l => rfl⟩
    intro R f h K r hw hx
    have hd' : (drawsOk E.n E.D a && drawsOk E.n E.D b) = true := hd
    rw [Bool.and_eq_true] at hd'
    change (match fEval f c with
      | .lit (.bool b') => cond b' (xexec E a R f h K) (xexec E b R f h K)
      | _ => none) = some r at hx
    split at hx
    · rename_i b' hb
      refine awp_cond (b := b') (by rw [aEval_lst hw]; exact hb) (fun e => ?_) (fun e => ?_)
      · subst e; exact (iha hd'.1).1 R f h K r hw hx
      · subst e; exact (ihb hd'.2).1 R f h K r hw hx
    · cases hx
  | block id a iha =>
    intro hd
    refine ⟨?_, fun l => rfl⟩
    intro R f h K r hw hx
    refine awp_block (awp_mono ((iha hd).1 R f h _ r hw hx) ?_)
    rintro e a' h1 ⟨hnp, g, hg, rfl, hk⟩
    cases e with
    | exit id' =>
      simp only at hk
      simp only [AInBlock]
      split at hk
      · rename_i hb
        rw [if_pos (Nat.eq_of_beq_eq_true hb)]; exact ⟨(fun _ e => by cases e), g, hg, rfl, hk⟩
      · rename_i hb
        rw [if_neg (Nat.ne_of_beq_eq_false hb)]; exact ⟨hnp, g, hg, rfl, hk⟩
    | _ => exact ⟨hnp, g, hg, rfl, hk⟩
  | loop a iha =>
    intro hd
    refine ⟨?_, fun l => rfl⟩
    intro R f h K r hw hx
    change jn ((xloop (maskAt E.Ml (firstR a)) (fun f h => xexec E a XR f h xdone) (maskAt E.Ml (firstR a) f) h).bind (rets K)) = some r at hx
    rw [jn_eq] at hx
    obtain ⟨⟨e, f', h'⟩, h1, h2⟩ := Option.bind_eq_some_iff.1 hx
    obtain ⟨m, hm⟩ := xloop_some.1 h1
    refine awp_weak (maskAt_weak E.n f E.Ml (firstR a)) ?_
    intro G ρ w ca hR ha b k cs hro _ _
    obtain ⟨ca', w', ⟨ρ', ev, hR', ha', hw', hnp⟩, harr⟩ := iter_sound (G := G) (P := P) (E := E) (c := a) (fun f hf => maskAt_wf hf _ _) (fun f => maskAt_weak _ f _ _)
      (fun f h r hw hs => (iha hd).1 XR f h xdone r hw hs) m _ h e f' h' (maskAt_wf hw _ _) hm ρ w ca b k cs hro hR ha
    exact ⟨e, ca', w', ⟨ρ', h', _, ev, hR', ha', hnp, f', hw', rfl, h2⟩, .of_steps (.one (fenced_calm (F := FW G.ro) (n := 0) trivial (fw_room _ _) rfl) stepR_loop) harr⟩
  | rangeFunc g ps x y ihx ihy =>
    intro hd
    refine ⟨fun R f h K r hw hx => ?_, fun l => rfl⟩
    have hd' : (drawsOk E.n E.D x && drawsOk E.n E.D y) = true := hd
    rw [Bool.and_eq_true] at hd'
    exact awp_weak (maskR_weak E E.n f _) (xrng_sound hE (ihx hd'.1).1 (ihy hd'.2).1 (maskR_wf hw _) hx)
  | exit id => exact fun hd => ⟨fun R f h K r hw hx => awp_exit ⟨(fun _ e => by cases e), f, hw, rfl, hx⟩, fun l => rfl⟩
  | scope a iha =>
    intro hd
    refine ⟨?_, fun l => rfl⟩
    intro R f h K r hw hx
    obtain ⟨hs, hl⟩ := iha hd
    intro G ρ w ca hR ha b k cs hro _ _
    obtain ⟨e, ca1, w1, ⟨ρ1, h1, a1, ev, hR1, ha1, hnp, g, hg, rfl, hk⟩, harr⟩ := hs R f h _ r hw hx G ρ w ca hR ha b (.inScope a :: k) cs hro trivial (fw_room _ _)
    have harr0 : ArrivesIn (Machine.fenced P (FW G.ro)) P (lone (b.atR ca (.code (.scope a) :: k)) cs w) b (.inScope a :: k) cs e ca1 w1 := .of_steps (.one (fenced_calm (F := FW G.ro) (n := 0) trivial (fw_room _ _) rfl) stepR_scope) harr
    have out : ∃ (g' : Fr) (e' : Exit) (f' : Fr) (h' : AHeap), (g'.Wf E.n ∧ Weak (g.lst E.n) (g'.lst E.n)) ∧ (∃ m, xhop (xlab E a) (maskJ E) m (e, g', h1) = some (e', f', h')) ∧ K e' f' h' = some r := by
      unfold xscK at hk
      have triv : (∀ l, e ≠ .goto l) → ∃ m, xhop (xlab E a) (maskJ E) m (e, g, h1) = some (e, g, h1) := fun hne => ⟨1, by
        unfold xhop
        cases e with
        | goto l => exact absurd rfl (hne l)
        | _ => rfl⟩
      cases e with
      | goto l =>
        simp only at hk
        change (match xlab E a l with
          | some _ => xjumpL E (xlab E a) l R g h1 K
          | none => K (.goto l) g h1) = some r at hk
        cases hq : xlab E a l with
        | none =>
          rw [hq] at hk
          exact ⟨g, _, _, _, ⟨hg, .refl _⟩, ⟨1, by unfold xhop; simp only [hq]⟩, hk⟩
        | some q =>
          rw [hq] at hk
          simp only at hk
          unfold xjumpL at hk
          rw [jn_eq] at hk
          obtain ⟨⟨e', f', h'⟩, h2, h3⟩ := Option.bind_eq_some_iff.1 hk
          exact ⟨_, e', f', h', ⟨maskO_wf hg _, maskO_weak _ _ _⟩, xgos_some.1 h2, h3⟩
      | normal => exact ⟨g, _, _, _, ⟨hg, .refl _⟩, triv (fun l e => by cases e), hk⟩
      | exit id => exact ⟨g, _, _, _, ⟨hg, .refl _⟩, triv (fun l e => by cases e), hk⟩
      | ret => exact ⟨g, _, _, _, ⟨hg, .refl _⟩, triv (fun l e => by cases e), hk⟩
      | panic c => exact ⟨g, _, _, _, ⟨hg, .refl _⟩, triv (fun l e => by cases e), hk⟩
      | outgrown => exact ⟨g, _, _, _, ⟨hg, .refl _⟩, triv (fun l e => by cases e), hk⟩
    obtain ⟨g', e', f', h', ⟨hg', hwk'⟩, ⟨m, hmx⟩, hk'⟩ := out
    obtain ⟨ca', w', ⟨ρ', ev', hR', ha', hw', hnp'⟩, harr'⟩ := hop_sound (G := G) (P := P) (n := E.n) (c := a) (lab := xlab E a) (mask := maskJ E) (fun l f hf => maskO_wf hf _) (fun l f => maskO_weak _ _ _) hl m e g' h1 e' f' h' hg' hmx hnp ρ1 w1 ca1 b k cs _ hro hR1 (ha1.weak hwk') harr0
    exact ⟨e', ca', w', ⟨ρ', h', _, ev.trans ev', hR', ha', hnp', f', hw', rfl, hk'⟩, harr'⟩
  | label l' =>
    intro hd
    refine ⟨fun R f h K r hw hx => awp_label ⟨(fun _ e => by cases e), f, hw, rfl, hx⟩, fun l => ?_⟩
    show match (match Nat.beq l' l with
      | true => some fun R f h K => K .normal f h
      | false => none : Option XS) with
      | some q => ∃ rest, findLabel (.label l') l = some rest ∧ XSnd P E.n rest q
      | none => findLabel (.label l') l = none
    cases hb : Nat.beq l' l with
    | true =>
      have e := Nat.eq_of_beq_eq_true hb
      subst e
      exact ⟨.skip, by simp [findLabel], fun R f h K r hw hx => awp_skip ⟨(fun _ e => by cases e), f, hw, rfl, hx⟩⟩
    | false =>
      have e := Nat.ne_of_beq_eq_false hb
      simp [findLabel, e]
  | goto l => exact fun hd => ⟨fun R f h K r hw hx => awp_goto ⟨(fun _ e => by cases e), f, hw, rfl, hx⟩, fun l => rfl⟩
  | ret => exact fun hd => ⟨fun R f h K r hw hx => awp_ret ⟨(fun _ e => by cases e), f, hw, rfl, hx⟩, fun l => rfl⟩
  | refuse => exact fun hd => ⟨fun R f h K r hw hx => (by cases hx), fun l => rfl⟩
theorem xexec_sound {E : XE} (hE : E.Ok P) (hm : P.follows .mixedOrders = true) (c : Code) (hd : drawsOk E.n E.D c = true) (R : Type) (f : Fr) (h : AHeap) (K : XK R) (r : R) (hw : f.Wf E.n) (hx : xexec E c R f h K = some r) : AWp P c (QK E.n K r) (f.lst E.n) h :=
  (xex_sound hE hm c hd).1 R f h K r hw hx

/-! ### A whole function -/
def one_or_tup (vs : List AVal) : AVal := match vs with
  | [v] => v
  | vs => .tup vs
noncomputable def xresGo {R : Type} (T : Tab) (f : Fr) (h : AHeap) (rs : List ResultVar) : List AVal → (AVal → Option R) → Option R :=
  List.rec (motive := fun _ => List AVal → (AVal → Option R) → Option R) (fun vs K => K (one_or_tup vs)) (fun r _ ih vs K => match r with
    | .tmp t => ih (vs ++ [f.get t]) K
    | .cell c t => xLoadK T t h (f.get c) fun v => castK T t v fun v => ih (vs ++ [v]) K) rs
theorem xresGo_ok {R : Type} {T : Tab} (hT : T.Ok P) {n : Nat} {f : Fr} (hw : f.Wf n) {h : AHeap} {K : AVal → Prop} {K0 : AVal → Option R} {r : R} : ∀ (rs : List ResultVar) (vs : List AVal), xresGo T f h rs vs K0 = some r → (∀ v, K0 v = some r → K v) → aResults.go P (f.lst n) h rs vs K
  | [], vs, hx, hK => by
    change K0 (one_or_tup vs) = some r at hx
    have := hK _ hx
    unfold aResults.go
    unfold one_or_tup at this
    rcases vs with _ | ⟨v, _ | ⟨u, l⟩⟩
    · exact this
    · exact this
    · exact this
  | .tmp t :: rs, vs, hx, hK => by
    unfold aResults.go
    rw [aget_lst hw]
    exact xresGo_ok hT hw rs _ hx hK
  | .cell c t :: rs, vs, hx, hK => by
    change (xLoadK T t h (f.get c) fun v => castK T t v fun v => xresGo T f h rs (vs ++ [v]) K0) = some r at hx
    unfold aResults.go
    rw [xLoadK_eq] at hx
    obtain ⟨y, h1, hx⟩ := Option.bind_eq_some_iff.1 hx
    rw [castK_eq] at hx
    obtain ⟨y', h2, hx⟩ := Option.bind_eq_some_iff.1 hx
    have e2 := castT_eq h2
    subst e2
    rw [aget_lst hw]
    exact xLoad_ok hT h1 (xresGo_ok hT hw rs _ (by rw [h2] at hx; exact hx) hK)
def fargs : List AVal → Nat → Fr
  | [], _ => []
  | v :: vs, i => (i, v) :: fargs vs (i + 1)
theorem fargs_get : ∀ (l : List AVal) (i j : Nat), (fargs l i).get j = if i ≤ j ∧ j < i + l.length then l.getD (j - i) .any else .any
  | [], i, j => by
    have : ¬ (i ≤ j ∧ j < i + ([] : List AVal).length) := by simp only [List.length_nil]; omega
    rw [if_neg this]; rfl
  | v :: l, i, j => by
    rw [fargs, Fr.get_cons, fargs_get l (i + 1) j]
    simp only [List.length_cons]
    by_cases h : j = i
    · subst h; simp
    · rw [if_neg h]
      by_cases h2 : i + 1 ≤ j ∧ j < i + 1 + l.length
      · rw [if_pos h2, if_pos (by omega)]
        have : j - i = (j - (i + 1)) + 1 := by omega
        rw [this]; rfl
      · rw [if_neg h2, if_neg (by omega)]
theorem fargs_wf {l : List AVal} {n : Nat} (hn : l.length ≤ n) : (fargs l 0).Wf n := by
  intro t ht; rw [fargs_get, if_neg (by omega)]
theorem fargs_lst {l : List AVal} {n : Nat} (hn : l.length ≤ n) : (fargs l 0).lst n = l ++ List.replicate (n - l.length) .any := by
  apply List.ext_getElem
  · simp [Fr.lst]; omega
  · intro i h1 h2
    simp only [Fr.lst, List.getElem_map, List.getElem_range, fargs_get]
    rcases Nat.lt_or_ge i l.length with h | h
    · rw [if_pos (by omega), List.getElem_append_left h]
      simp [List.getD_eq_getElem?_getD, h]
    · rw [if_neg (by omega), List.getElem_append_right h, List.getElem_replicate]
noncomputable def xend (E : XE) (fn : Func) : XK (AVal × AHeap) := fun e f h => match e with
  | .normal => xresGo E.T f h fn.results.toList [] fun v => some (v, h)
  | .ret => xresGo E.T f h fn.results.toList [] fun v => some (v, h)
  | _ => none
noncomputable def xfun (E : XE) (fn : Func) (args : List AVal) (h : AHeap) : Option (AVal × AHeap) := match fn.body, Nat.ble args.length E.n with
  | some c, true => xexec E c _ (fargs args 0) h (xend E fn)
  | _, _ => none

theorem awp_len {c : Code} {Q : AQ} {a : List AVal} (hc : AWp P c Q a h) : AWp P c (fun e a' h' => Q e a' h' ∧ h.length ≤ h'.length) a h :=
  fun G ρ w ca hR ha => wpIn_mono (hc G ρ w ca hR ha) fun _ _ _ ⟨ρ', h', a', h1, h2, h3, h4⟩ => ⟨ρ', h', a', h1, h2, h3, h4, h1.ids⟩

/-- **What a function is reckoned to do it does**; what is told of its end may be weaker. -/
theorem xfun_ends {E : XE} (hE : E.Ok P) (hm : P.follows .mixedOrders = true) {i : FuncId} {fn : Func} (hf : P.funcs[i]? = some fn) (hn : fn.ntmps = E.n) (hd : (match fn.body with
    | some c => drawsOk E.n E.D c
    | none => true) = true) {args : List AVal} {v : AVal} {R : AEnd → AHeap → Prop} (hx : xfun E fn args h = some (v, h')) (hR : HOk h → h.length ≤ h'.length → ABody.AEnds h h' (.ret v) R) : ACalls P i args h R := by
  unfold xfun at hx
  split at hx
  · rename_i c hb hl
    have hl' : args.length ≤ E.n := Nat.le_of_ble_eq_true hl
    refine acalls_of hf hb fun hok => ?_
    rw [hb] at hd
    have h1 := xexec_sound hE hm c hd _ _ h (xend E fn) _ (fargs_wf hl') hx
    rw [fargs_lst hl', ← hn] at h1
    refine awp_mono (awp_len h1) ?_
    rintro e a g ⟨⟨_, f, hw, rfl, hk⟩, hlen⟩
    have done : xresGo E.T f g fn.results.toList [] (fun v => some (v, g)) = some (v, h') → aResults P fn (f.lst fn.ntmps) g fun v => ABody.AEnds h g (.ret v) R := by
      intro hk
      unfold aResults
      refine xresGo_ok hE.T hw _ _ hk fun v' hv => ?_
      cases hv
      exact hR hok hlen
    cases e with
    | normal => exact done hk
    | ret => exact done hk
    | _ => cases hk
  · cases hx
theorem xfun_sound {E : XE} (hE : E.Ok P) (hm : P.follows .mixedOrders = true) {i : FuncId} {fn : Func} (hf : P.funcs[i]? = some fn) (hn : fn.ntmps = E.n) (hd : (match fn.body with
    | some c => drawsOk E.n E.D c
    | none => true) = true) {args : List AVal} {v : AVal} (hx : xfun E fn args h = some (v, h')) : ACalls P i args h fun e g => e = .ret v ∧ g = h' :=
  xfun_ends hE hm hf hn hd hx fun _ hl => ⟨h', .ret v, hl, ⟨rfl, rfl⟩, fun ρ w u hR hE => ⟨Fewer.refl _, hR, hE⟩⟩
end Go.Proofs.YteahajcgbogjkaaGreat.AL
/- Tables of types; pieces of code; what stands behind a piece. -/
namespace Go.Proofs.YteahajcgbogjkaaGreat.AL
set_option linter.unusedVariables false
set_option linter.unusedSimpArgs false
open Go

structure TyRow where
  desc : TypeDesc
  siz : Nat
  byt : Nat
  zer : Option AVal
  fit : Bool
  lvs : Option (List Leaf)
structure RowOk (P : Program) (t : Nat) (r : TyRow) : Prop where
  und : P.underlying t = some r.desc
  siz : tySize P t = some r.siz
  byt : tyBytes P t = some r.byt
  zer : ∀ z, r.zer = some z → tyZero P t = some z
  fit : r.fit = true → zeroFits P t
  lvs : ∀ l, r.lvs = some l → leaves P 20 t = some l ∧ tyAgg P t = some true ∧ P.eqGuardType P.depth t = false
noncomputable def tabOf (rows : List (Nat × TyRow)) : Tab where
  und t := match findN rows t with
    | some r => some r.desc
    | none => none
  siz t := match findN rows t with
    | some r => some r.siz
    | none => none
  byt t := match findN rows t with
    | some r => some r.byt
    | none => none
  zer t := match findN rows t with
    | some r => r.zer
    | none => none
  fit t := match findN rows t with
    | some r => r.fit
    | none => false
  lvs t := match findN rows t with
    | some r => r.lvs
    | none => none
def RowsOk (P : Program) : List (Nat × TyRow) → Prop
  | [] => True
  | (t, r) :: l => RowOk P t r ∧ RowsOk P l
theorem RowsOk.find {P : Program} : ∀ {l : List (Nat × TyRow)} {t : Nat} {r : TyRow}, RowsOk P l → findN l t = some r → RowOk P t r
  | [], t, r, _, h => by cases h
  | (k, x) :: l, t, r, hl, h => by
    rcases findN_some h with ⟨rfl, rfl⟩ | h
    · exact hl.1
    · exact RowsOk.find hl.2 h
theorem tabOf_ok {P : Program} {rows : List (Nat × TyRow)} (hl : RowsOk P rows) : (tabOf rows).Ok P := by
  constructor
  · intro t d h; simp only [tabOf] at h; split at h
    · rename_i hf; cases h; exact (hl.find hf).und
    · cases h
  · intro t d h; simp only [tabOf] at h; split at h
    · rename_i hf; cases h; exact (hl.find hf).siz
    · cases h
  · intro t d h; simp only [tabOf] at h; split at h
    · rename_i hf; cases h; exact (hl.find hf).byt
    · cases h
  · intro t d h; simp only [tabOf] at h; split at h
    · rename_i hf; exact (hl.find hf).zer _ h
    · cases h
  · intro t h; simp only [tabOf] at h; split at h
    · rename_i hf; exact (hl.find hf).fit h
    · cases h
  · intro t d h; simp only [tabOf] at h; split at h
    · rename_i hf; exact (hl.find hf).lvs _ h
    · cases h

def recC (P : XP) : XC := .l fun _ args h K => (P args h).bind fun r => K r.1 r.2
theorem recC_nat (P : XP) : XC.Nat (recC P) := fun R args h K => by simp [mkP, Option.bind_assoc]
def psh (h : AHeap) (o : AObj) : AHeap := h ++ [o]
def apd (h : AHeap) (l : List AObj) : AHeap := h ++ l
def bodyOf (fn : Func) : Code := match fn.body with
  | some c => c
  | none => .skip
def ca : Code → Code
  | .seq a _ => a
  | .cond _ a _ => a
  | .block _ a => a
  | .loop a => a
  | .scope a => a
  | .rangeFunc _ _ a _ => a
  | c => c
def cb : Code → Code
  | .seq _ b => b
  | .cond _ _ b => b
  | .rangeFunc _ _ _ b => b
  | c => c
def rops : Code → Array Oper
  | .region _ ops _ => ops
  | _ => #[]
noncomputable def kSeq {R : Type} (E : XE) (b : Code) (K : XK R) : XK R := fun e f h => match e with
  | .normal => atSeq E.Ms (firstR b) f fun f => xexec E b R f h K
  | e => K e f h
def kBlk {R : Type} (id : Nat) (K : XK R) : XK R := fun e f h => match e with
  | .exit id' => match Nat.beq id' id with
    | true => K .normal f h
    | false => K (.exit id') f h
  | e => K e f h
noncomputable def kLoop {R : Type} (E : XE) (c : Code) (K : XK R) : XK R := fun e f h => match e with
  | .normal => xexec E (.loop c) R f h K
  | e => K e f h
def kN {R : Type} (K : XK R) : Fr → AHeap → Option R := fun f h => K .normal f h
end Go.Proofs.YteahajcgbogjkaaGreat.AL
/- What lies in the memory, as the equations ask for it. -/
namespace Go.Proofs.YteahajcgbogjkaaGreat.AL
set_option linter.unusedVariables false
set_option linter.unusedSimpArgs false
open Go

/-- 'delete(m, k)'. -/
def mapDel (d : MKey) (h : AHeap) (m : AVal) (u : Value) : Option AHeap := match m with
  | .lit (.map none) => some h
  | m => mapSetU d h m (mdel u)
theorem psh_length (h : AHeap) (o : AObj) : (psh h o).length = h.length + 1 := by simp [psh]
theorem apd_length (h : AHeap) (l : List AObj) : (apd h l).length = h.length + l.length := by simp [apd]
theorem cellsAt_lt {h : AHeap} {b : Nat} {cs : List AVal} (H : cellsAt h b = some cs) : b < h.length := lt_of_getL (cellsAt_some H)
theorem cellsAt_new (h : AHeap) (cs : List AVal) : cellsAt (psh h (.cells cs)) h.length = some cs := by simp [cellsAt, psh]
theorem cellsAt_psh {h : AHeap} {b : Nat} {cs : List AVal} (o : AObj) (H : cellsAt h b = some cs) : cellsAt (psh h o) b = some cs := cellsAt_more [o] H
theorem cellsAt_apd {h : AHeap} {b : Nat} {cs : List AVal} (l : List AObj) (H : cellsAt h b = some cs) : cellsAt (apd h l) b = some cs := cellsAt_more l H
theorem cellsAt_set {h : AHeap} {b : Nat} {cs cs' : List AVal} (H : cellsAt h b = some cs) : cellsAt (h.set b (.cells cs')) b = some cs' := by
  have := cellsAt_lt H
  simp [cellsAt, this]
theorem cellsAt_set_ne {h : AHeap} {b c : Nat} {cs : List AVal} (o : AObj) (hn : c ≠ b) (H : cellsAt h b = some cs) : cellsAt (h.set c o) b = some cs := by
  have := cellsAt_some H
  unfold cellsAt
  rw [List.getElem?_set_ne hn, this]
theorem req_true {p : Prop} [Decidable p] (h : p) : req p = some () := if_pos h
theorem ld1_of {h : AHeap} {b off : Nat} {cs : List AVal} (H : cellsAt h b = some cs) : ld1 h (.ptr b off) = cs[off]? := by simp [ld1, H]
theorem ldn_of {n : Nat} {h : AHeap} {b off : Nat} {cs : List AVal} (H : cellsAt h b = some cs) (hl : off + n ≤ cs.length) : ldn n h (.ptr b off) = some ((cs.drop off).take n) := by simp [ldn, H, req, hl]
theorem st1_of {h : AHeap} {b off : Nat} {cs : List AVal} {x : AVal} (H : cellsAt h b = some cs) (h1 : x.one = true) (hl : off < cs.length) : st1 h (.ptr b off) x = some (h.set b (.cells (cs.set off x))) := by simp [st1, H, req, hl, h1]
theorem stn_of {n : Nat} {h : AHeap} {b off : Nat} {cs vs : List AVal} (H : cellsAt h b = some cs) (h1 : vs.all (·.one) = true) (hn : n = vs.length) (hl : off + vs.length ≤ cs.length) : stn n h (.ptr b off) vs = some (h.set b (.cells (splice cs off vs))) := by
  subst hn
  show (cellsAt h b).bind _ = _
  rw [H, Option.bind_some, req_true ⟨h1, rfl, hl⟩]; rfl
theorem set_psh (h : AHeap) (o o' : AObj) : (psh h o).set h.length o' = psh h o' := by simp [psh]
theorem stn_new {n : Nat} {h : AHeap} {cs vs : List AVal} (h1 : vs.all (·.one) = true) (hn : n = vs.length) (hl : cs.length = n) : stn n (psh h (.cells cs)) (.ptr h.length 0) vs = some (psh h (.cells vs)) := by
  rw [stn_of (cellsAt_new h cs) h1 hn (by omega), set_psh, splice, List.take_zero, List.nil_append, List.drop_of_length_le (by omega), List.append_nil]
theorem req_false {p : Prop} [Decidable p] (h : ¬ p) : req p = none := if_neg h

/-- A function that is told by its own reckoning. -/
theorem selfR {h h' : AHeap} {v : AVal} (_ : HOk h) (hl : h.length ≤ h'.length) : ABody.AEnds h h' (.ret v) fun e g => e = .ret v ∧ g = h' := ⟨_, .ret _, hl, ⟨rfl, rfl⟩, fun ρ w u hR hE => ⟨Fewer.refl _, hR, hE⟩⟩
/-- A receiver that is a pointer. -/
def ptrV (f : Nat → Nat → AHeap → Option (AVal × AHeap)) (v : AVal) (h : AHeap) : Option (AVal × AHeap) := match v with
  | .ptr b o => f b o h
  | _ => none
theorem ptrV_some {f : Nat → Nat → AHeap → Option (AVal × AHeap)} {v : AVal} {h : AHeap} {r : AVal × AHeap} (hx : ptrV f v h = some r) : ∃ b o, v = .ptr b o ∧ f b o h = some r := by
  unfold ptrV at hx; split at hx
  · exact ⟨_, _, rfl, hx⟩
  · cases hx
/-- What leaves the memory. -/
noncomputable def onlyR (x : Option (AVal × AHeap)) (h : AHeap) : Option AVal := x.bind fun r => (reqC (r.2 = h)).bind fun _ => some r.1
theorem onlyR_some {x : Option (AVal × AHeap)} {h : AHeap} {v : AVal} (hx : onlyR x h = some v) : x = some (v, h) := by
  unfold onlyR at hx
  obtain ⟨r, h1, hx⟩ := Option.bind_eq_some_iff.1 hx
  obtain ⟨u, h2, hx⟩ := Option.bind_eq_some_iff.1 hx
  cases hx
  rw [h1, ← reqC_some h2]
theorem onlyR_same (v : AVal) (h : AHeap) : onlyR (some (v, h)) h = some v := by unfold onlyR; rw [Option.bind_some, reqC_true rfl]; rfl
/-- It comes to true. -/
def Tru (x : Option (AVal × AHeap)) : Prop := ∃ h', x = some (.lit (.bool true), h')
theorem Tru.here {h : AHeap} : Tru (some (.lit (.bool true), h)) := ⟨h, rfl⟩
end Go.Proofs.YteahajcgbogjkaaGreat.AL
/- What stays of the memory. -/
namespace Go.Proofs.YteahajcgbogjkaaGreat.AL
set_option linter.unusedVariables false
set_option linter.unusedSimpArgs false
set_option maxRecDepth 10000
open Go
/-- The objects below 'n' but those of 'X' are as they were. -/
structure Keep (n : Nat) (X : List Nat) (h h' : AHeap) : Prop where
  len : h.length ≤ h'.length
  get : ∀ c : Nat, c < n → c ∉ X → h'[c]? = h[c]?
theorem Keep.refl (n : Nat) (X : List Nat) (h : AHeap) : Keep n X h h := ⟨Nat.le_refl _, fun _ _ _ => rfl⟩
theorem Keep.trans {n : Nat} {X : List Nat} {h h' h'' : AHeap} (a : Keep n X h h') (b : Keep n X h' h'') : Keep n X h h'' := ⟨Nat.le_trans a.len b.len, fun c hc hx => (b.get c hc hx).trans (a.get c hc hx)⟩
theorem Keep.less {n m : Nat} {X Y : List Nat} {h h' : AHeap} (hm : m ≤ n) (hx : ∀ c ∈ X, c < m → c ∈ Y) (a : Keep n X h h') : Keep m Y h h' := ⟨a.len, fun c hc hy => a.get c (by omega) fun hm => hy (hx c hm hc)⟩
theorem Keep.set {n b : Nat} {X : List Nat} {h : AHeap} {o : AObj} (hb : n ≤ b ∨ b ∈ X) : Keep n X h (h.set b o) := ⟨by simp, fun c hc hx => by
  refine List.getElem?_set_ne fun e => ?_
  subst e
  rcases hb with h | h
  · omega
  · exact hx h⟩
theorem Keep.app {n : Nat} {X : List Nat} {h : AHeap} (e : AHeap) (hn : n ≤ h.length) : Keep n X h (h ++ e) := ⟨by simp, fun c hc _ => List.getElem?_append_left (by omega)⟩
theorem Keep.psh {n : Nat} {X : List Nat} {h : AHeap} (o : AObj) (hn : n ≤ h.length) : Keep n X h (psh h o) := Keep.app [o] hn
theorem Keep.apd {n : Nat} {X : List Nat} {h : AHeap} (l : List AObj) (hn : n ≤ h.length) : Keep n X h (apd h l) := Keep.app l hn
theorem Keep.cells {n : Nat} {X : List Nat} {h h' : AHeap} (a : Keep n X h h') {b : Nat} {cs : List AVal} (hb : b < n) (hx : b ∉ X) (H : cellsAt h b = some cs) : cellsAt h' b = some cs := by
  have := cellsAt_some H
  unfold cellsAt
  rw [a.get b hb hx, this]
/-- Blocks more that nobody knows of. -/
theorem evo_more {ρ : Env} {h : AHeap} {w w' : World} (hR : Rel ρ h w) (hs : Same w w') (hz : w.heap.size ≤ w'.heap.size) (hw : ∀ c, c < w.heap.size → w'.heap[c]? = w.heap[c]?) : Evo ρ h w ρ h w' ∧ Rel ρ h w' := by
  have e : Evo ρ h w ρ h w' := ⟨Nat.le_refl _, fun _ _ => rfl, hz, hs, fun c hc hn => ⟨hw c hc, hn⟩, fun l r hr => ⟨r, (hw l (lt_of_get hr)).trans hr⟩⟩
  exact ⟨e, hR.glob.evo e, fun b o hb => (hR.obj b o hb).evo e fun hd => hw _ (hR.blk_lt hb hd), hR.inj⟩
theorem bd {α β : Type} {x : Option α} {a : α} {f : α → Option β} {r : Option β} (h : x = some a) (k : f a = r) : x.bind f = r := by rw [h]; exact k
theorem cT {α : Type} {c : Bool} {x y r : α} (h : c = true) (k : x = r) : (cond c x y) = r := by rw [h]; exact k
theorem cF {α : Type} {c : Bool} {x y r : α} (h : c = false) (k : y = r) : (cond c x y) = r := by rw [h]; exact k
end Go.Proofs.YteahajcgbogjkaaGreat.AL
/- Slices, as lists of cells; what stays of the memory. -/
namespace Go.Proofs.YteahajcgbogjkaaGreat.AL
set_option linter.unusedVariables false
set_option linter.unusedSimpArgs false
set_option maxRecDepth 10000
open Go
/-- 'n' elements of 'k' cells each. -/
def Sl (k : Nat) (h : AHeap) (v : AVal) (n : Nat) (cs : List AVal) : Prop := cs.length = n * k ∧ match v with
  | .sl k' b off len => k' = k ∧ len = n ∧ ∃ all, cellsAt h b = some all ∧ off + n * k ≤ all.length ∧ (all.drop off).take (n * k) = cs
  | .ros all len => len = n ∧ n * k ≤ all.length ∧ all.take (n * k) = cs
  | .lit (.slice none 0 0) => n = 0
  | _ => False
theorem Sl.nil (k : Nat) (h : AHeap) : Sl k h (.lit (.slice none 0 0)) 0 [] := ⟨by simp, rfl⟩
theorem Sl.own {k b n : Nat} {h : AHeap} {cs : List AVal} (H : cellsAt h b = some cs) (hl : cs.length = n * k) : Sl k h (.sl k b 0 n) n cs := ⟨hl, rfl, rfl, cs, H, by omega, by simp [List.take_of_length_le, hl]⟩
theorem Sl.keep {k n : Nat} {h h' : AHeap} {v : AVal} {cs : List AVal} (S : Sl k h v n cs) {X : List Nat} (K : Keep h.length X h h') (hx : ∀ b off len, v = .sl k b off len → b ∉ X) : Sl k h' v n cs := by
  refine ⟨S.1, ?_⟩
  have h2 := S.2
  split at h2
  · obtain ⟨rfl, rfl, all, H, h3, h4⟩ := h2
    exact ⟨rfl, rfl, all, K.cells (cellsAt_lt H) (hx _ _ _ rfl) H, h3, h4⟩
  · exact h2
  · exact h2
  · exact h2.elim
theorem Sl.len {k n : Nat} {h : AHeap} {v : AVal} {cs : List AVal} (S : Sl k h v n cs) : lenV v = some (n : Int) := by
  have h2 := S.2
  split at h2
  · obtain ⟨rfl, rfl, _⟩ := h2; rfl
  · obtain ⟨rfl, _⟩ := h2; rfl
  · subst h2; rfl
  · exact h2.elim
theorem Sl.srcLen {k n : Nat} {h : AHeap} {v : AVal} {cs : List AVal} (S : Sl k h v n cs) : srcLen v = some n := by
  have h2 := S.2
  split at h2
  · obtain ⟨rfl, rfl, _⟩ := h2; rfl
  · obtain ⟨rfl, _⟩ := h2; rfl
  · subst h2; rfl
  · exact h2.elim
theorem Sl.src {k n m : Nat} {h : AHeap} {v : AVal} {cs : List AVal} (S : Sl k h v n cs) (hm : m ≤ n) : srcCells h k v m = some (cs.take (m * k)) := by
  have h2 := S.2
  have hmk : m * k ≤ n * k := Nat.mul_le_mul_right k hm
  split at h2
  · obtain ⟨rfl, rfl, all, H, h3, h4⟩ := h2
    unfold srcCells
    simp only [cellsAt_some H]
    rw [if_pos ⟨by first | trivial | rfl, hm, by omega⟩, ← h4, List.take_take, Nat.min_eq_left hmk]
  · obtain ⟨rfl, h3, h4⟩ := h2
    unfold srcCells
    simp only
    rw [if_pos ⟨hm, by omega⟩, ← h4, List.take_take, Nat.min_eq_left hmk]
  · subst h2
    have : m = 0 := by omega
    subst this
    simp [srcCells]
  · exact h2.elim
theorem Sl.src_all {k n : Nat} {h : AHeap} {v : AVal} {cs : List AVal} (S : Sl k h v n cs) : srcCells h k v n = some cs := by
  rw [S.src (Nat.le_refl _), ← S.1, List.take_length]
/-- One element's place, and what is read there. -/
theorem Sl.idx {k n i : Nat} {h : AHeap} {v : AVal} {cs : List AVal} (S : Sl k h v n cs) (hi : i < n) :
    ∃ p, idxP k v (i : Int) = some p ∧ ldn k h p = some ((cs.drop (i * k)).take k) ∧ (∀ o, o < k → ∃ q, fieldP o p = some q ∧ ld1 h q = cs[i * k + o]?) ∧ (0 < k → ld1 h p = cs[i * k]?) := by
  have h2 := S.2
  have hik : (i + 1) * k ≤ n * k := Nat.mul_le_mul_right k hi
  rw [Nat.add_mul, Nat.one_mul] at hik
  have hint : (0 : Int) ≤ (i : Int) ∧ (i : Int) < (n : Int) := by omega
  split at h2
  · rename_i k' b off len
    obtain ⟨rfl, rfl, all, H, h3, h4⟩ := h2
    refine ⟨.ptr b (off + i * k'), ?_, ?_, fun o ho => ⟨_, rfl, ?_⟩, fun hk => ?_⟩
    · unfold idxP; simp only [Nat.beq_refl]; rw [req_true hint]; rfl
    · rw [ldn_of H (by omega), ← h4, List.drop_take, List.take_take, List.drop_drop, Nat.min_eq_left (by omega)]
    · rw [ld1_of H, ← h4, List.getElem?_take_of_lt (by omega), List.getElem?_drop]; congr 1; omega
    · rw [ld1_of H, ← h4, List.getElem?_take_of_lt (by omega), List.getElem?_drop]
  · rename_i all len
    obtain ⟨rfl, h3, h4⟩ := h2
    refine ⟨.rop (all.drop (i * k)), ?_, ?_, fun o ho => ⟨_, rfl, ?_⟩, fun hk => ?_⟩
    · unfold idxP; simp only; rw [req_true hint]; rfl
    · unfold ldn; simp only; rw [req_true (by simp; omega), ← h4, List.drop_take, List.take_take, Nat.min_eq_left (by omega)]; rfl
    · unfold ld1; simp only [List.drop_drop]
      rw [List.getElem?_drop, ← h4, List.getElem?_take_of_lt (by omega)]; rfl
    · unfold ld1; simp only
      rw [List.getElem?_drop, ← h4, List.getElem?_take_of_lt (by omega)]; rfl
  · omega
  · exact h2.elim
theorem idx_none {k : Nat} {h : AHeap} {v : AVal} {n : Nat} {cs : List AVal} (S : Sl k h v n cs) : True := trivial
/-- A slice that may be appended to: nobody's yet, or all of an object. -/
def Own (k : Nat) (h : AHeap) (v : AVal) (n : Nat) (cs : List AVal) : Prop := cs.length = n * k ∧ ((v = .lit (.slice none 0 0) ∧ n = 0) ∨ ∃ b, v = .sl k b 0 n ∧ cellsAt h b = some cs)
theorem Own.sl {k n : Nat} {h : AHeap} {v : AVal} {cs : List AVal} (O : Own k h v n cs) : Sl k h v n cs := by
  obtain ⟨h1, ⟨rfl, rfl⟩ | ⟨b, rfl, H⟩⟩ := O
  · have : cs = [] := List.length_eq_zero_iff.1 (by omega)
    subst this; exact Sl.nil _ _
  · exact Sl.own H h1
theorem Own.nil (k : Nat) (h : AHeap) : Own k h (.lit (.slice none 0 0)) 0 [] := ⟨by simp, .inl ⟨rfl, rfl⟩⟩
/-- Whose object it is. -/
def At (v : AVal) (b : Nat) : Prop := ∃ k off len, v = .sl k b off len
theorem Own.keep {k n : Nat} {h h' : AHeap} {v : AVal} {cs : List AVal} (O : Own k h v n cs) (K : ∀ b, At v b → h'[b]? = h[b]?) : Own k h' v n cs := by
  obtain ⟨h1, ⟨rfl, rfl⟩ | ⟨b, rfl, H⟩⟩ := O
  · exact ⟨h1, .inl ⟨rfl, rfl⟩⟩
  · refine ⟨h1, .inr ⟨b, rfl, ?_⟩⟩
    have := cellsAt_some H
    unfold cellsAt
    rw [K b ⟨_, _, _, rfl⟩, this]
theorem app_src {k w : Nat} {h : AHeap} {v x : AVal} {n m : Nat} {cs ns : List AVal} (O : Own k h v n cs) (h1 : srcLen x = some m) (h2 : srcCells h k x m = some ns) (hns : ns.length = m * k) (h3 : (n + m) * w ≤ 140737488355328) (h4 : ns.all (·.one) = true) :
    ∃ v' h', appV k w h v x = some (v', h') ∧ Own k h' v' (n + m) (cs ++ ns) ∧ h.length ≤ h'.length ∧ h'.length ≤ h.length + 1 ∧ (∀ b, At v' b → b = h.length) ∧ ∀ c, c < h.length → ¬ At v c → h'[c]? = h[c]? := by
  obtain ⟨hl, ⟨rfl, rfl⟩ | ⟨b, rfl, H⟩⟩ := O
  · have : cs = [] := List.length_eq_zero_iff.1 (by omega)
    subst this
    unfold appV
    rw [h1, Option.bind_some, h2, Option.bind_some]
    simp only
    rw [req_true (by rw [Nat.zero_add] at h3; exact h3)]
    simp only [Option.bind_some]
    by_cases hm : m = 0
    · subst hm
      have : ns = [] := List.length_eq_zero_iff.1 (by omega)
      subst this
      rw [if_pos rfl]
      refine ⟨_, _, rfl, Own.nil _ _, Nat.le_refl _, by omega, fun b hb => ?_, fun _ _ _ => rfl⟩
      obtain ⟨_, _, _, hb⟩ := hb; cases hb
    · rw [if_neg hm]
      refine ⟨_, _, rfl, ⟨by simpa using hns, .inr ⟨_, by rw [Nat.zero_add], by simp [cellsAt]⟩⟩, by simp, by simp, fun b hb => ?_, fun c hc _ => List.getElem?_append_left hc⟩
      obtain ⟨_, _, _, hb⟩ := hb; cases hb; rfl
  · unfold appV
    rw [h1, Option.bind_some, h2, Option.bind_some]
    simp only
    rw [H, Option.bind_some, req_true ⟨by first | trivial | rfl, by omega, h3, h4⟩]
    simp only [Option.bind_some]
    refine ⟨_, _, rfl, ⟨by simp [hl, hns, Nat.add_mul], .inr ⟨_, rfl, ?_⟩⟩, by simp, by simp, fun c hb => ?_, fun c hc hn => ?_⟩
    · have e : (cs.drop 0).take (n * k) = cs := by rw [List.drop_zero, ← hl, List.take_length]
      rw [e]
      simp [cellsAt]
    · obtain ⟨_, _, _, hb⟩ := hb; cases hb; rfl
    · rw [List.getElem?_append_left (by simpa using hc)]
      exact List.getElem?_set_ne fun e => hn ⟨_, _, _, by rw [e]⟩
theorem blit_one {z v : AVal} (h : v.one = true) : blitA 1 [z] 1 [(0, v)] = some [v] := by
  have hp : v.parts = some [v] := by
    cases v with
    | lit u => cases u <;> simp_all [AVal.one, AVal.parts, Value.oneCell']
    | _ => simp_all [AVal.one, AVal.parts]
  unfold blitA
  rw [req_true (by omega)]
  simp [aFill, hp, splice]
theorem blit_agg {k : Nat} {zs xs : List AVal} (hz : zs.length = k) (h : xs.length = k) (hk : k ≤ 16777216) : blitA k zs 1 [(0, .agg xs)] = some xs := by
  unfold blitA
  rw [req_true (by omega)]
  simp only [Option.bind_some, aFill, AVal.parts, List.replicate_one, List.flatten_cons, List.flatten_nil, List.append_nil, Nat.zero_mul, Nat.zero_add]
  rw [if_pos ⟨h, by omega⟩]
  simp [splice, h, hz]
/-- One element is put behind. -/
theorem push_app {k w n : Nat} {h : AHeap} {v : AVal} {cs xs : List AVal} (O : Own k h v n cs) (hx : xs.length = k) (h1 : xs.all (·.one) = true) (hw : (n + 1) * w ≤ 140737488355328) :
    ∃ v' h', appV k w (apd h [.cells xs]) v (.sl k h.length 0 1) = some (v', h') ∧ Own k h' v' (n + 1) (cs ++ xs) ∧ h.length ≤ h'.length ∧ h'.length ≤ h.length + 2 ∧ (∀ b, At v' b → h.length ≤ b) ∧ ∀ c, c < h.length → ¬ At v c → h'[c]? = h[c]? := by
  have hid : ∀ b, At v b → b < h.length := by
    intro b hb
    obtain ⟨_, ⟨rfl, _⟩ | ⟨c, rfl, H⟩⟩ := O
    · obtain ⟨_, _, _, hb⟩ := hb; cases hb
    · obtain ⟨_, _, _, hb⟩ := hb; cases hb; exact cellsAt_lt H
  have O' : Own k (apd h [.cells xs]) v n cs := O.keep fun b hb => by simp only [apd]; exact List.getElem?_append_left (hid b hb)
  have hc : (apd h [AObj.cells xs])[h.length]? = some (.cells xs) := by simp [apd]
  obtain ⟨v', h', a1, a2, a3, a4, a5, a6⟩ := app_src (w := w) (x := .sl k h.length 0 1) (m := 1) (ns := xs) O' rfl (by
    unfold srcCells
    simp only [hc]
    rw [if_pos ⟨by first | trivial | rfl, Nat.le_refl _, by omega⟩]
    simp [← hx]) (by omega) hw h1
  refine ⟨v', h', a1, a2, ?_, ?_, fun b hb => ?_, fun c hc hn => ?_⟩
  · simp [apd] at a3; omega
  · simp [apd] at a4; omega
  · rw [a5 b hb]; simp [apd]
  · rw [a6 c (by simp [apd]; omega) hn]
    simp only [apd]; exact List.getElem?_append_left hc
theorem At.own {k n : Nat} {h : AHeap} {v : AVal} {cs : List AVal} (O : Own k h v n cs) {b : Nat} (hb : At v b) : b < h.length := by
  obtain ⟨_, ⟨rfl, _⟩ | ⟨c, rfl, H⟩⟩ := O
  · obtain ⟨_, _, _, hb⟩ := hb; cases hb
  · obtain ⟨_, _, _, hb⟩ := hb; cases hb; exact cellsAt_lt H
/-- One cell is set in place. -/
theorem Own.set1 {h : AHeap} {v : AVal} {n i : Nat} {cs : List AVal} {x : AVal} (O : Own 1 h v n cs) (hi : i < n) (hx : x.one = true) :
    ∃ p b, At v b ∧ idxP 1 v (i : Int) = some p ∧ st1 h p x = some (h.set b (.cells (cs.set i x))) ∧ Own 1 (h.set b (.cells (cs.set i x))) v n (cs.set i x) := by
  obtain ⟨hl, ⟨rfl, rfl⟩ | ⟨b, rfl, H⟩⟩ := O
  · omega
  · refine ⟨.ptr b i, b, ⟨_, _, _, rfl⟩, ?_, st1_of H hx (by omega), by simpa using hl, .inr ⟨b, rfl, cellsAt_set H⟩⟩
    unfold idxP
    simp only [Nat.beq_refl]
    rw [req_true (by omega)]
    simp
/-- A piece of a slice. -/
theorem Sl.cut {k n lo hi : Nat} {h : AHeap} {v : AVal} {cs : List AVal} (S : Sl k h v n cs) (h1 : lo ≤ hi) (h2 : hi ≤ n) :
    ∃ v', cutV k v (some (lo : Int)) (some (hi : Int)) none = some v' ∧ Sl k h v' (hi - lo) ((cs.drop (lo * k)).take ((hi - lo) * k)) := by
  have e1 : hi * k ≤ n * k := Nat.mul_le_mul_right k h2
  have e2 : lo * k ≤ hi * k := Nat.mul_le_mul_right k h1
  have e3 : (hi - lo) * k = hi * k - lo * k := Nat.sub_mul _ _ _
  have e4 : ((hi : Int) - (lo : Int)).toNat = hi - lo := by omega
  have e5 : (lo : Int).toNat = lo := by omega
  have hs := S.2
  have hl := S.1
  have hlen : ((cs.drop (lo * k)).take ((hi - lo) * k)).length = (hi - lo) * k := by simp; omega
  split at hs
  · rename_i k' b off len
    obtain ⟨rfl, rfl, all, H, h3, h4⟩ := hs
    refine ⟨.sl k' b (off + lo * k') (hi - lo), ?_, hlen, rfl, rfl, all, H, by omega, ?_⟩
    · unfold cutV
      simp only [Nat.beq_refl, Option.getD_some]
      rw [req_true ⟨by omega, by omega, by omega, fun m hm => by cases hm⟩]
      simp only [Option.bind_some, e4, e5]
    · rw [← h4, List.drop_take, List.take_take, List.drop_drop, Nat.min_eq_left (by omega)]
  · rename_i all len
    obtain ⟨rfl, h3, h4⟩ := hs
    refine ⟨.ros (all.drop (lo * k)) (hi - lo), ?_, hlen, rfl, by simp; omega, ?_⟩
    · unfold cutV
      simp only [Option.getD_some]
      rw [req_true ⟨by omega, by omega, by omega, fun m hm => by cases hm⟩]
      simp only [Option.bind_some, e4, e5]
    · rw [← h4, List.drop_take, List.take_take, Nat.min_eq_left (by omega)]
  · subst hs
    have : hi = 0 := by omega
    subst this
    have : lo = 0 := by omega
    subst this
    refine ⟨.lit (.slice none 0 0), ?_, hlen, rfl⟩
    unfold cutV
    simp only [Option.getD_some]
    rw [req_true ⟨by rfl, by rfl, by rfl⟩]; rfl
  · exact hs.elim
/-! Kinds of elements -/
def strVs (l : List ByteArray) : List AVal := l.map fun s => .lit (.string s)
def intVs (l : List Int) : List AVal := l.map fun n => .lit (.int .i64 n)
def boolVs (l : List Bool) : List AVal := l.map fun b => .lit (.bool b)
/-- What came in as a slice. -/
theorem slice_fits {α H : Type} {e : Sh} {k : Nat} {cells : α → List AVal} {Q : α → Prop} (hk : ∀ a, (cells a).length = k) (he : ∀ x : DataW H, Fits e x → ∃ a, absD x = cells a ∧ Q a) {d : DataW H} (hd : Fits (.slice e) d) (h : AHeap) :
    ∃ l : List α, Sl k h ((absD d).headD .any) l.length (l.flatMap cells) ∧ (∀ a ∈ l, Q a) ∧ l.length ≤ maxLen := by
  simp only [Fits] at hd
  rcases hd with rfl | ⟨es, sp, rfl, hl, hall⟩
  · refine ⟨[], Sl.nil _ _, ?_, ?_⟩
    · intro a ha; cases ha
    · exact Nat.zero_le _
  · have key : ∀ es : List (DataW H), (∀ x ∈ es, Fits e x) → ∃ l : List α, l.length = es.length ∧ absDs es = l.flatMap cells ∧ ∀ a ∈ l, Q a := by
      intro es
      induction es with
      | nil => intro _; exact ⟨[], rfl, rfl, fun a ha => by cases ha⟩
      | cons x es ih =>
        intro hx
        obtain ⟨a, h1, h2⟩ := he x (hx x (by simp))
        obtain ⟨l, h3, h4, h5⟩ := ih fun y hy => hx y (by simp [hy])
        refine ⟨a :: l, by simp [h3], by simp [absDs, h1, h4], fun b hb => ?_⟩
        rcases List.mem_cons.1 hb with rfl | hb
        · exact h2
        · exact h5 b hb
    obtain ⟨l, h1, h2, h3⟩ := key es hall
    have hlen : (l.flatMap cells).length = l.length * k := by
      clear h1 h2 h3
      induction l with
      | nil => simp
      | cons a l ih => simp [hk, ih, Nat.add_mul, Nat.add_comm]
    refine ⟨l, ?_, h3, by omega⟩
    simp only [absD, List.headD_cons]
    rw [h2, ← h1]
    exact ⟨hlen, rfl, by omega, by rw [← hlen, List.take_length]⟩
theorem fits_strs {H : Type} {d : DataW H} (hd : Fits (.slice .str) d) (h : AHeap) : ∃ l : List ByteArray, Sl 1 h ((absD d).headD .any) l.length (strVs l) := by
  obtain ⟨l, h1, _, _⟩ := slice_fits (α := ByteArray) (k := 1) (cells := fun s => [.lit (.string s)]) (Q := fun _ => True) (fun _ => rfl) (fun x hx => by
    simp only [Fits] at hx
    obtain ⟨l, rfl, _⟩ := hx
    exact ⟨⟨l.toArray⟩, rfl, trivial⟩) hd h
  refine ⟨l, ?_⟩
  have : (l.flatMap fun s => [AVal.lit (.string s)]) = strVs l := by simp [strVs, List.map_eq_flatMap]
  rwa [this] at h1
theorem fits_bools {H : Type} {d : DataW H} (hd : Fits (.slice .bool) d) (h : AHeap) : ∃ l : List Bool, Sl 1 h ((absD d).headD .any) l.length (boolVs l) := by
  obtain ⟨l, h1, _, _⟩ := slice_fits (α := Bool) (k := 1) (cells := fun s => [.lit (.bool s)]) (Q := fun _ => True) (fun _ => rfl) (fun x hx => by
    simp only [Fits] at hx
    obtain ⟨l, rfl⟩ := hx
    exact ⟨l, rfl, trivial⟩) hd h
  refine ⟨l, ?_⟩
  have : (l.flatMap fun s => [AVal.lit (.bool s)]) = boolVs l := by simp [boolVs, List.map_eq_flatMap]
  rwa [this] at h1
theorem fits_ints {H : Type} {d : DataW H} (hd : Fits (.slice (.int .i64)) d) (h : AHeap) : ∃ l : List Int, Sl 1 h ((absD d).headD .any) l.length (intVs l) := by
  obtain ⟨l, h1, _, _⟩ := slice_fits (α := Int) (k := 1) (cells := fun s => [.lit (.int .i64 s)]) (Q := fun _ => True) (fun _ => rfl) (fun x hx => by
    simp only [Fits] at hx
    obtain ⟨l, rfl, _⟩ := hx
    exact ⟨l, rfl, trivial⟩) hd h
  refine ⟨l, ?_⟩
  have : (l.flatMap fun s => [AVal.lit (.int .i64 s)]) = intVs l := by simp [intVs, List.map_eq_flatMap]
  rwa [this] at h1
theorem Sl.everywhere {k n : Nat} {v : AVal} {cs : List AVal} (S : Sl k [] v n cs) (g : AHeap) : Sl k g v n cs := S.keep (X := []) ⟨by simp, fun c hc => by simp at hc⟩ (fun _ _ _ _ => by simp)
theorem closed_rep {zs : List AVal} (hz : closedL zs = true) : ∀ n, closedL (List.replicate n zs).flatten = true
  | 0 => rfl
  | n + 1 => by
    have app : ∀ (a b : List AVal), closedL a = true → closedL b = true → closedL (a ++ b) = true := by
      intro a
      induction a with
      | nil => intro b _ h; exact h
      | cons x a ih => intro b h1 h2; simp only [closedL, Bool.and_eq_true, List.cons_append] at h1 ⊢; exact ⟨h1.1, ih b h1.2 h2⟩
    rw [List.replicate_succ, List.flatten_cons]
    exact app _ _ hz (closed_rep hz n)
theorem mkA_nat {b n : Nat} {zs : List AVal} (h : b * n ≤ 140737488355328) (h2 : n ≤ 140737488355328) : mkA b zs (n : Int) (n : Int) = some (List.replicate n zs).flatten := by
  unfold mkA
  rw [req_true ⟨by omega, by omega, by rw [← Int.natCast_mul]; omega, by omega⟩]
  simp
theorem flat_one (n : Nat) (z : AVal) : (List.replicate n [z]).flatten = List.replicate n z := by
  induction n with
  | zero => rfl
  | succ n ih => simp [List.replicate_succ, ih]
end Go.Proofs.YteahajcgbogjkaaGreat.AL
/- The memory grows: what was there stays. -/
namespace Go.Proofs.YteahajcgbogjkaaGreat.AL
set_option linter.unusedVariables false
set_option linter.unusedSimpArgs false
set_option maxRecDepth 100000
open Go
abbrev Grow (h h' : AHeap) : Prop := Keep h.length [] h h'
theorem Grow.refl (h : AHeap) : Grow h h := Keep.refl _ _ _
theorem Grow.trans {h h' h'' : AHeap} (a : Grow h h') (b : Grow h' h'') : Grow h h'' := Keep.trans a (b.less a.len (fun c hc => by cases hc))
theorem Grow.psh {h g : AHeap} (a : Grow h g) (o : AObj) : Grow h (psh g o) := Keep.trans a (Keep.psh o a.len)
theorem Grow.set {h g : AHeap} (a : Grow h g) {b : Nat} {o : AObj} (hb : h.length ≤ b) : Grow h (g.set b o) := Keep.trans a (Keep.set (.inl hb))
theorem Grow.get {h g : AHeap} (a : Grow h g) {b : Nat} {o : AObj} (hb : h[b]? = some o) : g[b]? = some o := (Keep.get a b (lt_of_getL hb) (fun h => by cases h)).trans hb
theorem Grow.cells {h g : AHeap} (a : Grow h g) {b : Nat} {cs : List AVal} (hb : cellsAt h b = some cs) : cellsAt g b = some cs := Keep.cells a (cellsAt_lt hb) (fun h => by cases h) hb
theorem Sl.grow {k n : Nat} {h h' : AHeap} {v : AVal} {cs : List AVal} (S : Sl k h v n cs) (a : Grow h h') : Sl k h' v n cs := S.keep a (fun _ _ _ _ h => by cases h)
theorem Own.grow {k n : Nat} {h h' : AHeap} {v : AVal} {cs : List AVal} (O : Own k h v n cs) (a : Grow h h') : Own k h' v n cs := O.keep fun b hb => Keep.get a b (At.own O hb) (fun h => by cases h)
theorem flat_at {α : Type} {cells : α → List AVal} {k : Nat} (hk : ∀ a, (cells a).length = k) : ∀ (l : List α) (i : Nat) (hi : i < l.length), ((l.flatMap cells).drop (i * k)).take k = cells l[i]
  | a :: l, 0, _ => by
    rw [Nat.zero_mul, List.drop_zero, List.flatMap_cons, List.take_append_of_le_length (by rw [hk]; exact Nat.le_refl _), List.take_of_length_le (by rw [hk]; exact Nat.le_refl _)]; rfl
  | a :: l, i + 1, hi => by
    rw [List.flatMap_cons, List.drop_append, List.drop_of_length_le (by rw [hk, Nat.add_mul]; omega), List.nil_append, hk, show (i + 1) * k - k = i * k by rw [Nat.add_mul]; omega]
    exact flat_at hk l i (by simpa using hi)
theorem flat_cell {α : Type} {cells : α → List AVal} {k : Nat} (hk : ∀ a, (cells a).length = k) (l : List α) (i : Nat) (hi : i < l.length) {o : Nat} (ho : o < k) : (l.flatMap cells)[i * k + o]? = (cells l[i])[o]? := by
  rw [← flat_at hk l i hi, List.getElem?_take_of_lt ho, List.getElem?_drop]
theorem flat_len {α : Type} {cells : α → List AVal} {k : Nat} (hk : ∀ a, (cells a).length = k) (l : List α) : (l.flatMap cells).length = l.length * k := by
  induction l with
  | nil => simp
  | cons a l ih => rw [List.flatMap_cons, List.length_append, hk, ih, List.length_cons, Nat.add_mul, Nat.one_mul, Nat.add_comm]
/-- A piece of a slice, from its beginning. -/
theorem Sl.pre {k n hi : Nat} {h : AHeap} {v : AVal} {cs : List AVal} (S : Sl k h v n cs) (h2 : hi ≤ n) : ∃ v', cutV k v none (some (hi : Int)) none = some v' ∧ Sl k h v' hi (cs.take (hi * k)) := by
  obtain ⟨v', e1, e2⟩ := S.cut (lo := 0) (hi := hi) (Nat.zero_le _) h2
  refine ⟨v', ?_, by simpa using e2⟩
  rw [← e1]; rfl
end Go.Proofs.YteahajcgbogjkaaGreat.AL
/- What a call makes may be let go, where its answer names none of it. -/
namespace Go.Proofs.YteahajcgbogjkaaGreat.AL
set_option linter.unusedVariables false
set_option linter.unusedSimpArgs false
set_option maxRecDepth 100000
open Go
theorem grow_app {h h' : AHeap} (G : Grow h h') : h' = h ++ h'.drop h.length := by
  apply List.ext_getElem?
  intro i
  rcases Nat.lt_or_ge i h.length with hi | hi
  · rw [List.getElem?_append_left hi]; exact Keep.get G i hi (fun h => by cases h)
  · rw [List.getElem?_append_right hi, List.getElem?_drop]; congr 1; omega
theorem goneEnds {h h' : AHeap} {v : AVal} (G : Grow h h') (hc : v.closed = true) (hok : HOk h) (_ : h.length ≤ h'.length) : ABody.AEnds h h' (.ret v) fun e g => e = .ret v ∧ g = h := by
  rw [grow_app G]
  exact ends_same (L := h'.drop h.length) hok hc ⟨rfl, rfl⟩
noncomputable def goneR (x : Option (AVal × AHeap)) (h : AHeap) : Option AVal := x.bind fun r => (reqC (Grow h r.2 ∧ r.1.closed = true)).bind fun _ => some r.1
theorem goneR_some {x : Option (AVal × AHeap)} {h : AHeap} {v : AVal} (hx : goneR x h = some v) : ∃ h', x = some (v, h') ∧ Grow h h' ∧ v.closed = true := by
  unfold goneR at hx
  obtain ⟨r, h1, hx⟩ := Option.bind_eq_some_iff.1 hx
  obtain ⟨u, h2, hx⟩ := Option.bind_eq_some_iff.1 hx
  cases hx
  obtain ⟨h3, h4⟩ := reqC_some h2
  exact ⟨r.2, h1, h3, h4⟩
theorem goneR_of {x : Option (AVal × AHeap)} {h h' : AHeap} {v : AVal} (hx : x = some (v, h')) (G : Grow h h') (hc : v.closed = true) : goneR x h = some v := by
  unfold goneR
  rw [hx, Option.bind_some, reqC_true ⟨G, hc⟩]; rfl
end Go.Proofs.YteahajcgbogjkaaGreat.AL
/- Rows of the types, each asked of the loaded table. -/
namespace Go.Proofs.YteahajcgbogjkaaGreat.AL
set_option linter.unusedVariables false
set_option linter.unusedSimpArgs false
set_option maxRecDepth 10000
open Go
noncomputable def r3 : TyRow := { desc := .int .i64, siz := 1, byt := 8, zer := some (.lit (.int .i64 0)), fit := false, lvs := none }
theorem r3_ok : RowOk Tryz.prog 3 r3 := ⟨by kernel_rfl, by kernel_rfl, by kernel_rfl, (fun z hz => by cases hz; kernel_rfl), (fun h => by cases h), (fun l hl => by cases hl)⟩
noncomputable def r4 : TyRow := { desc := .bool, siz := 1, byt := 1, zer := some (.lit (.bool false)), fit := false, lvs := none }
theorem r4_ok : RowOk Tryz.prog 4 r4 := ⟨by kernel_rfl, by kernel_rfl, by kernel_rfl, (fun z hz => by cases hz; kernel_rfl), (fun h => by cases h), (fun l hl => by cases hl)⟩
noncomputable def r5 : TyRow := { desc := .int .u8, siz := 1, byt := 1, zer := some (.lit (.int .u8 0)), fit := false, lvs := none }
theorem r5_ok : RowOk Tryz.prog 5 r5 := ⟨by kernel_rfl, by kernel_rfl, by kernel_rfl, (fun z hz => by cases hz; kernel_rfl), (fun h => by cases h), (fun l hl => by cases hl)⟩
noncomputable def r9 : TyRow := { desc := .string, siz := 1, byt := 16, zer := some (.lit (.string { data := #[] })), fit := false, lvs := none }
theorem r9_ok : RowOk Tryz.prog 9 r9 := ⟨by kernel_rfl, by kernel_rfl, by kernel_rfl, (fun z hz => by cases hz; kernel_rfl), (fun h => by cases h), (fun l hl => by cases hl)⟩
noncomputable def r20 : TyRow := { desc := .interface #[], siz := 1, byt := 16, zer := some (.lit (.nilIface)), fit := false, lvs := none }
theorem r20_ok : RowOk Tryz.prog 20 r20 := ⟨by kernel_rfl, by kernel_rfl, by kernel_rfl, (fun z hz => by cases hz; kernel_rfl), (fun h => by cases h), (fun l hl => by cases hl)⟩
noncomputable def r21 : TyRow := { desc := .int .i32, siz := 1, byt := 4, zer := some (.lit (.int .i32 0)), fit := false, lvs := none }
theorem r21_ok : RowOk Tryz.prog 21 r21 := ⟨by kernel_rfl, by kernel_rfl, by kernel_rfl, (fun z hz => by cases hz; kernel_rfl), (fun h => by cases h), (fun l hl => by cases hl)⟩
noncomputable def r23 : TyRow := { desc := .slice 3, siz := 1, byt := 24, zer := some (.lit (.slice none 0 0)), fit := true, lvs := none }
theorem r23_ok : RowOk Tryz.prog 23 r23 := ⟨by kernel_rfl, by kernel_rfl, by kernel_rfl, (fun z hz => by cases hz; kernel_rfl), (fun _ => zeroFits_of (by kernel_rfl)), (fun l hl => by cases hl)⟩
noncomputable def r27 : TyRow := { desc := .pointer 80, siz := 1, byt := 8, zer := some (.lit (.pointer none)), fit := false, lvs := none }
theorem r27_ok : RowOk Tryz.prog 27 r27 := ⟨by kernel_rfl, by kernel_rfl, by kernel_rfl, (fun z hz => by cases hz; kernel_rfl), (fun h => by cases h), (fun l hl => by cases hl)⟩
noncomputable def r30 : TyRow := { desc := .slice 23, siz := 1, byt := 24, zer := some (.lit (.slice none 0 0)), fit := true, lvs := none }
theorem r30_ok : RowOk Tryz.prog 30 r30 := ⟨by kernel_rfl, by kernel_rfl, by kernel_rfl, (fun z hz => by cases hz; kernel_rfl), (fun _ => zeroFits_of (by kernel_rfl)), (fun l hl => by cases hl)⟩
noncomputable def r31 : TyRow := { desc := .int .u32, siz := 1, byt := 4, zer := some (.lit (.int .u32 0)), fit := false, lvs := none }
theorem r31_ok : RowOk Tryz.prog 31 r31 := ⟨by kernel_rfl, by kernel_rfl, by kernel_rfl, (fun z hz => by cases hz; kernel_rfl), (fun h => by cases h), (fun l hl => by cases hl)⟩
noncomputable def r33 : TyRow := { desc := .struct #[{ name := "Name", type := 9, offset := 0, embedded := false, tag := "", pkgPath := "", byteOffset := 0 }, { name := "Size", type := 3, offset := 1, embedded := false, tag := "", pkgPath := "", byteOffset := 16 }, { name := "Count", type := 3, offset := 2, embedded := false, tag := "", pkgPath := "", byteOffset := 24 }, { name := "Sum", type := 31, offset := 3, embedded := false, tag := "", pkgPath := "", byteOffset := 32 }], siz := 4, byt := 40, zer := some (.agg [.lit (.string { data := #[] }), .lit (.int .i64 0), .lit (.int .i64 0), .lit (.int .u32 0)]), fit := false, lvs := some [.str, .int, .int, .int] }
theorem r33_ok : RowOk Tryz.prog 33 r33 := ⟨by kernel_rfl, by kernel_rfl, by kernel_rfl, (fun z hz => by cases hz; kernel_rfl), (fun h => by cases h), (fun l hl => by cases hl; exact ⟨by kernel_rfl, by kernel_rfl, by kernel_rfl⟩)⟩
noncomputable def r34 : TyRow := { desc := .int .i64, siz := 1, byt := 8, zer := some (.lit (.int .i64 0)), fit := false, lvs := none }
theorem r34_ok : RowOk Tryz.prog 34 r34 := ⟨by kernel_rfl, by kernel_rfl, by kernel_rfl, (fun z hz => by cases hz; kernel_rfl), (fun h => by cases h), (fun l hl => by cases hl)⟩
noncomputable def r37 : TyRow := { desc := .pointer 70, siz := 1, byt := 8, zer := some (.lit (.pointer none)), fit := false, lvs := none }
theorem r37_ok : RowOk Tryz.prog 37 r37 := ⟨by kernel_rfl, by kernel_rfl, by kernel_rfl, (fun z hz => by cases hz; kernel_rfl), (fun h => by cases h), (fun l hl => by cases hl)⟩
noncomputable def r40 : TyRow := { desc := .func #[71] #[] false, siz := 1, byt := 8, zer := some (.lit (.nilFunc)), fit := false, lvs := none }
theorem r40_ok : RowOk Tryz.prog 40 r40 := ⟨by kernel_rfl, by kernel_rfl, by kernel_rfl, (fun z hz => by cases hz; kernel_rfl), (fun h => by cases h), (fun l hl => by cases hl)⟩
noncomputable def r41 : TyRow := { desc := .func #[71] #[] false, siz := 1, byt := 8, zer := some (.lit (.nilFunc)), fit := false, lvs := none }
theorem r41_ok : RowOk Tryz.prog 41 r41 := ⟨by kernel_rfl, by kernel_rfl, by kernel_rfl, (fun z hz => by cases hz; kernel_rfl), (fun h => by cases h), (fun l hl => by cases hl)⟩
noncomputable def r52 : TyRow := { desc := .pointer 87, siz := 1, byt := 8, zer := some (.lit (.pointer none)), fit := false, lvs := none }
theorem r52_ok : RowOk Tryz.prog 52 r52 := ⟨by kernel_rfl, by kernel_rfl, by kernel_rfl, (fun z hz => by cases hz; kernel_rfl), (fun h => by cases h), (fun l hl => by cases hl)⟩
noncomputable def r57 : TyRow := { desc := .pointer 93, siz := 1, byt := 8, zer := some (.lit (.pointer none)), fit := false, lvs := none }
theorem r57_ok : RowOk Tryz.prog 57 r57 := ⟨by kernel_rfl, by kernel_rfl, by kernel_rfl, (fun z hz => by cases hz; kernel_rfl), (fun h => by cases h), (fun l hl => by cases hl)⟩
noncomputable def r60 : TyRow := { desc := .slice 99, siz := 1, byt := 24, zer := some (.lit (.slice none 0 0)), fit := true, lvs := none }
theorem r60_ok : RowOk Tryz.prog 60 r60 := ⟨by kernel_rfl, by kernel_rfl, by kernel_rfl, (fun z hz => by cases hz; kernel_rfl), (fun _ => zeroFits_of (by kernel_rfl)), (fun l hl => by cases hl)⟩
noncomputable def r66 : TyRow := { desc := .struct #[{ name := "Count", type := 3, offset := 0, embedded := false, tag := "", pkgPath := "", byteOffset := 0 }, { name := "Sum", type := 31, offset := 1, embedded := false, tag := "", pkgPath := "", byteOffset := 8 }], siz := 2, byt := 16, zer := some (.agg [.lit (.int .i64 0), .lit (.int .u32 0)]), fit := false, lvs := some [.int, .int] }
theorem r66_ok : RowOk Tryz.prog 66 r66 := ⟨by kernel_rfl, by kernel_rfl, by kernel_rfl, (fun z hz => by cases hz; kernel_rfl), (fun h => by cases h), (fun l hl => by cases hl; exact ⟨by kernel_rfl, by kernel_rfl, by kernel_rfl⟩)⟩
noncomputable def r70 : TyRow := { desc := .struct #[{ name := "made", type := 4, offset := 0, embedded := false, tag := "", pkgPath := "chainman/budget", byteOffset := 0 }, { name := "most", type := 3, offset := 1, embedded := false, tag := "", pkgPath := "chainman/budget", byteOffset := 8 }, { name := "now", type := 3, offset := 2, embedded := false, tag := "", pkgPath := "chainman/budget", byteOffset := 16 }, { name := "high", type := 3, offset := 3, embedded := false, tag := "", pkgPath := "chainman/budget", byteOffset := 24 }], siz := 4, byt := 32, zer := some (.agg [.lit (.bool false), .lit (.int .i64 0), .lit (.int .i64 0), .lit (.int .i64 0)]), fit := false, lvs := some [.bool, .int, .int, .int] }
theorem r70_ok : RowOk Tryz.prog 70 r70 := ⟨by kernel_rfl, by kernel_rfl, by kernel_rfl, (fun z hz => by cases hz; kernel_rfl), (fun h => by cases h), (fun l hl => by cases hl; exact ⟨by kernel_rfl, by kernel_rfl, by kernel_rfl⟩)⟩
noncomputable def r71 : TyRow := { desc := .func #[3] #[4] false, siz := 1, byt := 8, zer := some (.lit (.nilFunc)), fit := false, lvs := none }
theorem r71_ok : RowOk Tryz.prog 71 r71 := ⟨by kernel_rfl, by kernel_rfl, by kernel_rfl, (fun z hz => by cases hz; kernel_rfl), (fun h => by cases h), (fun l hl => by cases hl)⟩
noncomputable def r78 : TyRow := { desc := .map 9 82, siz := 1, byt := 8, zer := some (.lit (.map none)), fit := false, lvs := none }
theorem r78_ok : RowOk Tryz.prog 78 r78 := ⟨by kernel_rfl, by kernel_rfl, by kernel_rfl, (fun z hz => by cases hz; kernel_rfl), (fun h => by cases h), (fun l hl => by cases hl)⟩
noncomputable def r80 : TyRow := { desc := .struct #[{ name := "made", type := 4, offset := 0, embedded := false, tag := "", pkgPath := "chainman/fs", byteOffset := 0 }, { name := "room", type := 3, offset := 1, embedded := false, tag := "", pkgPath := "chainman/fs", byteOffset := 8 }, { name := "used", type := 3, offset := 2, embedded := false, tag := "", pkgPath := "chainman/fs", byteOffset := 16 }, { name := "files", type := 78, offset := 3, embedded := false, tag := "", pkgPath := "chainman/fs", byteOffset := 24 }, { name := "fuse", type := 3, offset := 4, embedded := false, tag := "", pkgPath := "chainman/fs", byteOffset := 32 }, { name := "down", type := 4, offset := 5, embedded := false, tag := "", pkgPath := "chainman/fs", byteOffset := 40 }, { name := "calls", type := 3, offset := 6, embedded := false, tag := "", pkgPath := "chainman/fs", byteOffset := 48 }], siz := 7, byt := 56, zer := some (.agg [.lit (.bool false), .lit (.int .i64 0), .lit (.int .i64 0), .lit (.map none), .lit (.int .i64 0), .lit (.bool false), .lit (.int .i64 0)]), fit := false, lvs := none }
theorem r80_ok : RowOk Tryz.prog 80 r80 := ⟨by kernel_rfl, by kernel_rfl, by kernel_rfl, (fun z hz => by cases hz; kernel_rfl), (fun h => by cases h), (fun l hl => by cases hl)⟩
noncomputable def r82 : TyRow := { desc := .struct #[{ name := "s", type := 9, offset := 0, embedded := false, tag := "", pkgPath := "chainman/fs", byteOffset := 0 }, { name := "kept", type := 3, offset := 1, embedded := false, tag := "", pkgPath := "chainman/fs", byteOffset := 16 }], siz := 2, byt := 24, zer := some (.agg [.lit (.string { data := #[] }), .lit (.int .i64 0)]), fit := false, lvs := some [.str, .int] }
theorem r82_ok : RowOk Tryz.prog 82 r82 := ⟨by kernel_rfl, by kernel_rfl, by kernel_rfl, (fun z hz => by cases hz; kernel_rfl), (fun h => by cases h), (fun l hl => by cases hl; exact ⟨by kernel_rfl, by kernel_rfl, by kernel_rfl⟩)⟩
noncomputable def r85 : TyRow := { desc := .slice 122, siz := 1, byt := 24, zer := some (.lit (.slice none 0 0)), fit := true, lvs := none }
theorem r85_ok : RowOk Tryz.prog 85 r85 := ⟨by kernel_rfl, by kernel_rfl, by kernel_rfl, (fun z hz => by cases hz; kernel_rfl), (fun _ => zeroFits_of (by kernel_rfl)), (fun l hl => by cases hl)⟩
noncomputable def r87 : TyRow := { desc := .struct #[{ name := "disk", type := 27, offset := 0, embedded := false, tag := "", pkgPath := "chainman/vecs", byteOffset := 0 }, { name := "b", type := 37, offset := 1, embedded := false, tag := "", pkgPath := "chainman/vecs", byteOffset := 8 }, { name := "name", type := 9, offset := 2, embedded := false, tag := "", pkgPath := "chainman/vecs", byteOffset := 16 }, { name := "n", type := 3, offset := 3, embedded := false, tag := "", pkgPath := "chainman/vecs", byteOffset := 32 }, { name := "d", type := 3, offset := 4, embedded := false, tag := "", pkgPath := "chainman/vecs", byteOffset := 40 }, { name := "room", type := 3, offset := 5, embedded := false, tag := "", pkgPath := "chainman/vecs", byteOffset := 48 }, { name := "memory", type := 85, offset := 6, embedded := false, tag := "", pkgPath := "chainman/vecs", byteOffset := 56 }, { name := "open", type := 4, offset := 7, embedded := false, tag := "", pkgPath := "chainman/vecs", byteOffset := 80 }], siz := 8, byt := 88, zer := some (.agg [.lit (.pointer none), .lit (.pointer none), .lit (.string { data := #[] }), .lit (.int .i64 0), .lit (.int .i64 0), .lit (.int .i64 0), .lit (.slice none 0 0), .lit (.bool false)]), fit := false, lvs := none }
theorem r87_ok : RowOk Tryz.prog 87 r87 := ⟨by kernel_rfl, by kernel_rfl, by kernel_rfl, (fun z hz => by cases hz; kernel_rfl), (fun h => by cases h), (fun l hl => by cases hl)⟩
noncomputable def r88 : TyRow := { desc := .func #[] #[34] false, siz := 1, byt := 8, zer := some (.lit (.nilFunc)), fit := false, lvs := none }
theorem r88_ok : RowOk Tryz.prog 88 r88 := ⟨by kernel_rfl, by kernel_rfl, by kernel_rfl, (fun z hz => by cases hz; kernel_rfl), (fun h => by cases h), (fun l hl => by cases hl)⟩
noncomputable def r90 : TyRow := { desc := .struct #[{ name := "d", type := 27, offset := 0, embedded := false, tag := "", pkgPath := "chainman/writer", byteOffset := 0 }, { name := "name", type := 9, offset := 1, embedded := false, tag := "", pkgPath := "chainman/writer", byteOffset := 8 }], siz := 2, byt := 24, zer := some (.agg [.lit (.pointer none), .lit (.string { data := #[] })]), fit := false, lvs := none }
theorem r90_ok : RowOk Tryz.prog 90 r90 := ⟨by kernel_rfl, by kernel_rfl, by kernel_rfl, (fun z hz => by cases hz; kernel_rfl), (fun h => by cases h), (fun l hl => by cases hl)⟩
noncomputable def r91 : TyRow := { desc := .slice 9, siz := 1, byt := 24, zer := some (.lit (.slice none 0 0)), fit := true, lvs := none }
theorem r91_ok : RowOk Tryz.prog 91 r91 := ⟨by kernel_rfl, by kernel_rfl, by kernel_rfl, (fun z hz => by cases hz; kernel_rfl), (fun _ => zeroFits_of (by kernel_rfl)), (fun l hl => by cases hl)⟩
noncomputable def r93 : TyRow := { desc := .struct #[{ name := "sink", type := 90, offset := 0, embedded := true, tag := "", pkgPath := "chainman/writer", byteOffset := 0 }, { name := "b", type := 37, offset := 2, embedded := false, tag := "", pkgPath := "chainman/writer", byteOffset := 24 }, { name := "size", type := 3, offset := 3, embedded := false, tag := "", pkgPath := "chainman/writer", byteOffset := 32 }, { name := "wait", type := 91, offset := 4, embedded := false, tag := "", pkgPath := "chainman/writer", byteOffset := 40 }, { name := "told", type := 66, offset := 5, embedded := false, tag := "", pkgPath := "chainman/writer", byteOffset := 64 }, { name := "open", type := 4, offset := 7, embedded := false, tag := "", pkgPath := "chainman/writer", byteOffset := 80 }], siz := 8, byt := 88, zer := some (.agg [.lit (.pointer none), .lit (.string { data := #[] }), .lit (.pointer none), .lit (.int .i64 0), .lit (.slice none 0 0), .lit (.int .i64 0), .lit (.int .u32 0), .lit (.bool false)]), fit := false, lvs := none }
theorem r93_ok : RowOk Tryz.prog 93 r93 := ⟨by kernel_rfl, by kernel_rfl, by kernel_rfl, (fun z hz => by cases hz; kernel_rfl), (fun h => by cases h), (fun l hl => by cases hl)⟩
noncomputable def r99 : TyRow := { desc := .struct #[{ name := "Dist", type := 3, offset := 0, embedded := false, tag := "", pkgPath := "", byteOffset := 0 }, { name := "Id", type := 3, offset := 1, embedded := false, tag := "", pkgPath := "", byteOffset := 8 }, { name := "New", type := 4, offset := 2, embedded := false, tag := "", pkgPath := "", byteOffset := 16 }], siz := 3, byt := 24, zer := some (.agg [.lit (.int .i64 0), .lit (.int .i64 0), .lit (.bool false)]), fit := false, lvs := some [.int, .int, .bool] }
theorem r99_ok : RowOk Tryz.prog 99 r99 := ⟨by kernel_rfl, by kernel_rfl, by kernel_rfl, (fun z hz => by cases hz; kernel_rfl), (fun h => by cases h), (fun l hl => by cases hl; exact ⟨by kernel_rfl, by kernel_rfl, by kernel_rfl⟩)⟩
noncomputable def r102 : TyRow := { desc := .struct #[{ name := "From", type := 3, offset := 0, embedded := false, tag := "", pkgPath := "", byteOffset := 0 }, { name := "Near", type := 99, offset := 1, embedded := false, tag := "", pkgPath := "", byteOffset := 8 }], siz := 4, byt := 32, zer := some (.agg [.lit (.int .i64 0), .lit (.int .i64 0), .lit (.int .i64 0), .lit (.bool false)]), fit := false, lvs := some [.int, .int, .int, .bool] }
theorem r102_ok : RowOk Tryz.prog 102 r102 := ⟨by kernel_rfl, by kernel_rfl, by kernel_rfl, (fun z hz => by cases hz; kernel_rfl), (fun h => by cases h), (fun l hl => by cases hl; exact ⟨by kernel_rfl, by kernel_rfl, by kernel_rfl⟩)⟩
noncomputable def r107 : TyRow := { desc := .slice 88, siz := 1, byt := 24, zer := some (.lit (.slice none 0 0)), fit := true, lvs := none }
theorem r107_ok : RowOk Tryz.prog 107 r107 := ⟨by kernel_rfl, by kernel_rfl, by kernel_rfl, (fun z hz => by cases hz; kernel_rfl), (fun _ => zeroFits_of (by kernel_rfl)), (fun l hl => by cases hl)⟩
noncomputable def r109 : TyRow := { desc := .int .u64, siz := 1, byt := 8, zer := some (.lit (.int .u64 0)), fit := false, lvs := none }
theorem r109_ok : RowOk Tryz.prog 109 r109 := ⟨by kernel_rfl, by kernel_rfl, by kernel_rfl, (fun z hz => by cases hz; kernel_rfl), (fun h => by cases h), (fun l hl => by cases hl)⟩
noncomputable def r113 : TyRow := { desc := .func #[9] #[4] false, siz := 1, byt := 8, zer := some (.lit (.nilFunc)), fit := false, lvs := none }
theorem r113_ok : RowOk Tryz.prog 113 r113 := ⟨by kernel_rfl, by kernel_rfl, by kernel_rfl, (fun z hz => by cases hz; kernel_rfl), (fun h => by cases h), (fun l hl => by cases hl)⟩
noncomputable def r122 : TyRow := { desc := .struct #[{ name := "id", type := 3, offset := 0, embedded := false, tag := "", pkgPath := "chainman/vecs", byteOffset := 0 }, { name := "v", type := 23, offset := 1, embedded := false, tag := "", pkgPath := "chainman/vecs", byteOffset := 8 }], siz := 2, byt := 32, zer := some (.agg [.lit (.int .i64 0), .lit (.slice none 0 0)]), fit := false, lvs := none }
theorem r122_ok : RowOk Tryz.prog 122 r122 := ⟨by kernel_rfl, by kernel_rfl, by kernel_rfl, (fun z hz => by cases hz; kernel_rfl), (fun h => by cases h), (fun l hl => by cases hl)⟩
noncomputable def r124 : TyRow := { desc := .func #[122] #[4] false, siz := 1, byt := 8, zer := some (.lit (.nilFunc)), fit := false, lvs := none }
theorem r124_ok : RowOk Tryz.prog 124 r124 := ⟨by kernel_rfl, by kernel_rfl, by kernel_rfl, (fun z hz => by cases hz; kernel_rfl), (fun h => by cases h), (fun l hl => by cases hl)⟩
noncomputable def r137 : TyRow := { desc := .int .u64, siz := 1, byt := 8, zer := some (.lit (.int .u64 0)), fit := false, lvs := none }
theorem r137_ok : RowOk Tryz.prog 137 r137 := ⟨by kernel_rfl, by kernel_rfl, by kernel_rfl, (fun z hz => by cases hz; kernel_rfl), (fun h => by cases h), (fun l hl => by cases hl)⟩
noncomputable def r138 : TyRow := { desc := .slice 5, siz := 1, byt := 24, zer := some (.lit (.slice none 0 0)), fit := true, lvs := none }
theorem r138_ok : RowOk Tryz.prog 138 r138 := ⟨by kernel_rfl, by kernel_rfl, by kernel_rfl, (fun z hz => by cases hz; kernel_rfl), (fun _ => zeroFits_of (by kernel_rfl)), (fun l hl => by cases hl)⟩
noncomputable def r144 : TyRow := { desc := .array 4 5, siz := 4, byt := 4, zer := some (.agg [.lit (.int .u8 0), .lit (.int .u8 0), .lit (.int .u8 0), .lit (.int .u8 0)]), fit := false, lvs := none }
theorem r144_ok : RowOk Tryz.prog 144 r144 := ⟨by kernel_rfl, by kernel_rfl, by kernel_rfl, (fun z hz => by cases hz; kernel_rfl), (fun h => by cases h), (fun l hl => by cases hl)⟩
noncomputable def r153 : TyRow := { desc := .map 3 4, siz := 1, byt := 8, zer := some (.lit (.map none)), fit := false, lvs := none }
theorem r153_ok : RowOk Tryz.prog 153 r153 := ⟨by kernel_rfl, by kernel_rfl, by kernel_rfl, (fun z hz => by cases hz; kernel_rfl), (fun h => by cases h), (fun l hl => by cases hl)⟩
noncomputable def r154 : TyRow := { desc := .func #[99] #[4] false, siz := 1, byt := 8, zer := some (.lit (.nilFunc)), fit := false, lvs := none }
theorem r154_ok : RowOk Tryz.prog 154 r154 := ⟨by kernel_rfl, by kernel_rfl, by kernel_rfl, (fun z hz => by cases hz; kernel_rfl), (fun h => by cases h), (fun l hl => by cases hl)⟩
noncomputable def r155 : TyRow := { desc := .func #[99, 99] #[3] false, siz := 1, byt := 8, zer := some (.lit (.nilFunc)), fit := false, lvs := none }
theorem r155_ok : RowOk Tryz.prog 155 r155 := ⟨by kernel_rfl, by kernel_rfl, by kernel_rfl, (fun z hz => by cases hz; kernel_rfl), (fun h => by cases h), (fun l hl => by cases hl)⟩
noncomputable def r161 : TyRow := { desc := .array 8 5, siz := 8, byt := 8, zer := some (.agg [.lit (.int .u8 0), .lit (.int .u8 0), .lit (.int .u8 0), .lit (.int .u8 0), .lit (.int .u8 0), .lit (.int .u8 0), .lit (.int .u8 0), .lit (.int .u8 0)]), fit := false, lvs := none }
theorem r161_ok : RowOk Tryz.prog 161 r161 := ⟨by kernel_rfl, by kernel_rfl, by kernel_rfl, (fun z hz => by cases hz; kernel_rfl), (fun h => by cases h), (fun l hl => by cases hl)⟩
noncomputable def r167 : TyRow := { desc := .func #[9] #[3, 4] false, siz := 1, byt := 8, zer := some (.lit (.nilFunc)), fit := false, lvs := none }
theorem r167_ok : RowOk Tryz.prog 167 r167 := ⟨by kernel_rfl, by kernel_rfl, by kernel_rfl, (fun z hz => by cases hz; kernel_rfl), (fun h => by cases h), (fun l hl => by cases hl)⟩
noncomputable def r169 : TyRow := { desc := .pointer 5, siz := 1, byt := 8, zer := some (.lit (.pointer none)), fit := false, lvs := none }
theorem r169_ok : RowOk Tryz.prog 169 r169 := ⟨by kernel_rfl, by kernel_rfl, by kernel_rfl, (fun z hz => by cases hz; kernel_rfl), (fun h => by cases h), (fun l hl => by cases hl)⟩
noncomputable def r170 : TyRow := { desc := .array 16 31, siz := 16, byt := 64, zer := some (.agg [.lit (.int .u32 0), .lit (.int .u32 0), .lit (.int .u32 0), .lit (.int .u32 0), .lit (.int .u32 0), .lit (.int .u32 0), .lit (.int .u32 0), .lit (.int .u32 0), .lit (.int .u32 0), .lit (.int .u32 0), .lit (.int .u32 0), .lit (.int .u32 0), .lit (.int .u32 0), .lit (.int .u32 0), .lit (.int .u32 0), .lit (.int .u32 0)]), fit := false, lvs := none }
theorem r170_ok : RowOk Tryz.prog 170 r170 := ⟨by kernel_rfl, by kernel_rfl, by kernel_rfl, (fun z hz => by cases hz; kernel_rfl), (fun h => by cases h), (fun l hl => by cases hl)⟩
noncomputable def r171 : TyRow := { desc := .slice 60, siz := 1, byt := 24, zer := some (.lit (.slice none 0 0)), fit := true, lvs := none }
theorem r171_ok : RowOk Tryz.prog 171 r171 := ⟨by kernel_rfl, by kernel_rfl, by kernel_rfl, (fun z hz => by cases hz; kernel_rfl), (fun _ => zeroFits_of (by kernel_rfl)), (fun l hl => by cases hl)⟩
noncomputable def r174 : TyRow := { desc := .pointer 176, siz := 1, byt := 8, zer := some (.lit (.pointer none)), fit := false, lvs := none }
theorem r174_ok : RowOk Tryz.prog 174 r174 := ⟨by kernel_rfl, by kernel_rfl, by kernel_rfl, (fun z hz => by cases hz; kernel_rfl), (fun h => by cases h), (fun l hl => by cases hl)⟩
noncomputable def r176 : TyRow := { desc := .struct #[{ name := "addr", type := 174, offset := 0, embedded := false, tag := "", pkgPath := "strings", byteOffset := 0 }, { name := "buf", type := 138, offset := 1, embedded := false, tag := "", pkgPath := "strings", byteOffset := 8 }], siz := 2, byt := 32, zer := some (.agg [.lit (.pointer none), .lit (.slice none 0 0)]), fit := true, lvs := none }
theorem r176_ok : RowOk Tryz.prog 176 r176 := ⟨by kernel_rfl, by kernel_rfl, by kernel_rfl, (fun z hz => by cases hz; kernel_rfl), (fun _ => zeroFits_of (by kernel_rfl)), (fun l hl => by cases hl)⟩
noncomputable def r178 : TyRow := { desc := .interface #[("Error", 181)], siz := 1, byt := 16, zer := some (.lit (.nilIface)), fit := false, lvs := none }
theorem r178_ok : RowOk Tryz.prog 178 r178 := ⟨by kernel_rfl, by kernel_rfl, by kernel_rfl, (fun z hz => by cases hz; kernel_rfl), (fun h => by cases h), (fun l hl => by cases hl)⟩
theorem tmix : Tryz.prog.follows .mixedOrders = true := by kernel_rfl
theorem tc3 : callable Tryz.prog 3 = true := by kernel_rfl
theorem tc4 : callable Tryz.prog 4 = true := by kernel_rfl
theorem tc5 : callable Tryz.prog 5 = true := by kernel_rfl
theorem tc6 : callable Tryz.prog 6 = true := by kernel_rfl
theorem tc7 : callable Tryz.prog 7 = true := by kernel_rfl
theorem tc8 : callable Tryz.prog 8 = true := by kernel_rfl
theorem tc9 : callable Tryz.prog 9 = true := by kernel_rfl
theorem tc10 : callable Tryz.prog 10 = true := by kernel_rfl
theorem tc11 : callable Tryz.prog 11 = true := by kernel_rfl
theorem tc12 : callable Tryz.prog 12 = true := by kernel_rfl
theorem tc13 : callable Tryz.prog 13 = true := by kernel_rfl
theorem tc14 : callable Tryz.prog 14 = true := by kernel_rfl
theorem tc15 : callable Tryz.prog 15 = true := by kernel_rfl
theorem tc16 : callable Tryz.prog 16 = true := by kernel_rfl
theorem tc17 : callable Tryz.prog 17 = true := by kernel_rfl
theorem tc18 : callable Tryz.prog 18 = true := by kernel_rfl
theorem tc19 : callable Tryz.prog 19 = true := by kernel_rfl
theorem tc20 : callable Tryz.prog 20 = true := by kernel_rfl
theorem tc21 : callable Tryz.prog 21 = true := by kernel_rfl
theorem tc22 : callable Tryz.prog 22 = true := by kernel_rfl
theorem tc23 : callable Tryz.prog 23 = true := by kernel_rfl
theorem tc24 : callable Tryz.prog 24 = true := by kernel_rfl
theorem tc25 : callable Tryz.prog 25 = true := by kernel_rfl
theorem tc26 : callable Tryz.prog 26 = true := by kernel_rfl
theorem tc27 : callable Tryz.prog 27 = true := by kernel_rfl
theorem tc28 : callable Tryz.prog 28 = true := by kernel_rfl
theorem tc29 : callable Tryz.prog 29 = true := by kernel_rfl
theorem tc30 : callable Tryz.prog 30 = true := by kernel_rfl
theorem tc31 : callable Tryz.prog 31 = true := by kernel_rfl
theorem tc32 : callable Tryz.prog 32 = true := by kernel_rfl
theorem tc33 : callable Tryz.prog 33 = true := by kernel_rfl
theorem tc34 : callable Tryz.prog 34 = true := by kernel_rfl
theorem tc35 : callable Tryz.prog 35 = true := by kernel_rfl
theorem tc36 : callable Tryz.prog 36 = true := by kernel_rfl
theorem tc37 : callable Tryz.prog 37 = true := by kernel_rfl
theorem tc38 : callable Tryz.prog 38 = true := by kernel_rfl
theorem tc39 : callable Tryz.prog 39 = true := by kernel_rfl
theorem tc40 : callable Tryz.prog 40 = true := by kernel_rfl
theorem tc41 : callable Tryz.prog 41 = true := by kernel_rfl
theorem tc42 : callable Tryz.prog 42 = true := by kernel_rfl
theorem tc43 : callable Tryz.prog 43 = true := by kernel_rfl
theorem tc44 : callable Tryz.prog 44 = true := by kernel_rfl
theorem tc45 : callable Tryz.prog 45 = true := by kernel_rfl
theorem tc46 : callable Tryz.prog 46 = true := by kernel_rfl
theorem tc47 : callable Tryz.prog 47 = true := by kernel_rfl
theorem tc48 : callable Tryz.prog 48 = true := by kernel_rfl
theorem tc49 : callable Tryz.prog 49 = true := by kernel_rfl
theorem tc50 : callable Tryz.prog 50 = true := by kernel_rfl
theorem tc51 : callable Tryz.prog 51 = true := by kernel_rfl
theorem tc52 : callable Tryz.prog 52 = true := by kernel_rfl
theorem tc53 : callable Tryz.prog 53 = true := by kernel_rfl
theorem tc54 : callable Tryz.prog 54 = true := by kernel_rfl
theorem tc55 : callable Tryz.prog 55 = true := by kernel_rfl
theorem tc56 : callable Tryz.prog 56 = true := by kernel_rfl
theorem tc57 : callable Tryz.prog 57 = true := by kernel_rfl
theorem tc58 : callable Tryz.prog 58 = true := by kernel_rfl
theorem tc59 : callable Tryz.prog 59 = true := by kernel_rfl
theorem tc60 : callable Tryz.prog 60 = true := by kernel_rfl
theorem tc61 : callable Tryz.prog 61 = true := by kernel_rfl
theorem tc62 : callable Tryz.prog 62 = true := by kernel_rfl
theorem tc63 : callable Tryz.prog 63 = true := by kernel_rfl
theorem tc64 : callable Tryz.prog 64 = true := by kernel_rfl
theorem tc65 : callable Tryz.prog 65 = true := by kernel_rfl
theorem tc66 : callable Tryz.prog 66 = true := by kernel_rfl
theorem tc67 : callable Tryz.prog 67 = true := by kernel_rfl
theorem tc68 : callable Tryz.prog 68 = true := by kernel_rfl
theorem tc69 : callable Tryz.prog 69 = true := by kernel_rfl
theorem tc70 : callable Tryz.prog 70 = true := by kernel_rfl
theorem tc71 : callable Tryz.prog 71 = true := by kernel_rfl
theorem tc72 : callable Tryz.prog 72 = true := by kernel_rfl
theorem tc73 : callable Tryz.prog 73 = true := by kernel_rfl
theorem tc74 : callable Tryz.prog 74 = true := by kernel_rfl
theorem tc75 : callable Tryz.prog 75 = true := by kernel_rfl
theorem tc76 : callable Tryz.prog 76 = true := by kernel_rfl
theorem tc77 : callable Tryz.prog 77 = true := by kernel_rfl
theorem tc78 : callable Tryz.prog 78 = true := by kernel_rfl
theorem tc79 : callable Tryz.prog 79 = true := by kernel_rfl
theorem tc80 : callable Tryz.prog 80 = true := by kernel_rfl
theorem tc81 : callable Tryz.prog 81 = true := by kernel_rfl
theorem tc82 : callable Tryz.prog 82 = true := by kernel_rfl
theorem tc83 : callable Tryz.prog 83 = true := by kernel_rfl
theorem tc84 : callable Tryz.prog 84 = true := by kernel_rfl
theorem tc85 : callable Tryz.prog 85 = true := by kernel_rfl
theorem tc86 : callable Tryz.prog 86 = true := by kernel_rfl
theorem tc87 : callable Tryz.prog 87 = true := by kernel_rfl
theorem tc88 : callable Tryz.prog 88 = true := by kernel_rfl
theorem tc89 : callable Tryz.prog 89 = true := by kernel_rfl
theorem tc90 : callable Tryz.prog 90 = true := by kernel_rfl
theorem tc91 : callable Tryz.prog 91 = true := by kernel_rfl
theorem tc93 : callable Tryz.prog 93 = true := by kernel_rfl
theorem tc94 : callable Tryz.prog 94 = true := by kernel_rfl
theorem tc95 : callable Tryz.prog 95 = true := by kernel_rfl
theorem tc96 : callable Tryz.prog 96 = true := by kernel_rfl
theorem tc97 : callable Tryz.prog 97 = true := by kernel_rfl
theorem tc98 : callable Tryz.prog 98 = true := by kernel_rfl
theorem tc99 : callable Tryz.prog 99 = true := by kernel_rfl
theorem tc100 : callable Tryz.prog 100 = true := by kernel_rfl
theorem tc101 : callable Tryz.prog 101 = true := by kernel_rfl
theorem tc102 : callable Tryz.prog 102 = true := by kernel_rfl
theorem tc103 : callable Tryz.prog 103 = true := by kernel_rfl
theorem tc104 : callable Tryz.prog 104 = true := by kernel_rfl
theorem tc105 : callable Tryz.prog 105 = true := by kernel_rfl
theorem tc106 : callable Tryz.prog 106 = true := by kernel_rfl
theorem tc107 : callable Tryz.prog 107 = true := by kernel_rfl
theorem tc108 : callable Tryz.prog 108 = true := by kernel_rfl
theorem tc109 : callable Tryz.prog 109 = true := by kernel_rfl
theorem tc110 : callable Tryz.prog 110 = true := by kernel_rfl
theorem tc111 : callable Tryz.prog 111 = true := by kernel_rfl
theorem tc112 : callable Tryz.prog 112 = true := by kernel_rfl
theorem tc113 : callable Tryz.prog 113 = true := by kernel_rfl
theorem tc114 : callable Tryz.prog 114 = true := by kernel_rfl
theorem tc115 : callable Tryz.prog 115 = true := by kernel_rfl
theorem tc116 : callable Tryz.prog 116 = true := by kernel_rfl
theorem tc117 : callable Tryz.prog 117 = true := by kernel_rfl
theorem tc118 : callable Tryz.prog 118 = true := by kernel_rfl
theorem tc119 : callable Tryz.prog 119 = true := by kernel_rfl
theorem tc120 : callable Tryz.prog 120 = true := by kernel_rfl
theorem tc121 : callable Tryz.prog 121 = true := by kernel_rfl
theorem tc122 : callable Tryz.prog 122 = true := by kernel_rfl
theorem tc123 : callable Tryz.prog 123 = true := by kernel_rfl
theorem tc124 : callable Tryz.prog 124 = true := by kernel_rfl
theorem tc125 : callable Tryz.prog 125 = true := by kernel_rfl
theorem tc126 : callable Tryz.prog 126 = true := by kernel_rfl
theorem tc127 : callable Tryz.prog 127 = true := by kernel_rfl
theorem tc128 : callable Tryz.prog 128 = true := by kernel_rfl
theorem tc129 : callable Tryz.prog 129 = true := by kernel_rfl
end Go.Proofs.YteahajcgbogjkaaGreat.AL
/- Pieces of a function's text, reckoned by themselves: what some slots hold behind them. -/
namespace Go.Proofs.YteahajcgbogjkaaGreat.AL
set_option linter.unusedVariables false
set_option linter.unusedSimpArgs false
open Go

variable {P : Program}

abbrev XPc := Exit × List AVal × AHeap
noncomputable def pcK (outs : List Nat) : XK XPc := fun e f h => some (e, outs.map f.get, h)
def frOk (n : Nat) (f : Fr) : Bool := f.all fun p => decide (p.1 < n)
theorem frOk_wf {n : Nat} : ∀ {f : Fr}, frOk n f = true → f.Wf n
  | [], _, t, _ => rfl
  | p :: f, hf, t, ht => by
    simp only [frOk, List.all_cons, Bool.and_eq_true, decide_eq_true_eq] at hf
    have h1 : Nat.beq t p.1 = false := by
      cases hb : Nat.beq t p.1 with
      | false => rfl
      | true => have := Nat.eq_of_beq_eq_true hb; omega
    show cond (Nat.beq t p.1) p.2 (Fr.get f t) = .any
    rw [h1]; exact frOk_wf hf.2 t ht

/-- What the slots of a list hold. -/
def Outs (n : Nat) (outs : List Nat) (vs : List AVal) (a : List AVal) : Prop := a.length = n ∧ outs.map (aget a) = vs
theorem Outs.weak {n : Nat} : ∀ {outs : List Nat} {vs : List AVal} {a : List AVal}, Outs n outs vs a → frOk n (outs.zip vs) = true → Weak a (Fr.lst n (outs.zip vs))
  | outs, vs, a, ⟨hl, ho⟩, hf => by
    refine weak_get (by simp [Fr.lst, hl]) fun t ht => ?_
    rw [aget_lst (frOk_wf hf)]
    have key : ∀ (outs : List Nat) (vs : List AVal), outs.map (aget a) = vs → Fr.get (outs.zip vs) t = .any ∨ aget a t = Fr.get (outs.zip vs) t := by
      intro outs
      induction outs with
      | nil => intro vs _; exact .inl rfl
      | cons o outs ih =>
        intro vs hv
        cases vs with
        | nil => simp at hv
        | cons v vs =>
          simp only [List.map_cons, List.cons.injEq] at hv
          show cond (Nat.beq t o) v (Fr.get (outs.zip vs) t) = .any ∨ aget a t = cond (Nat.beq t o) v (Fr.get (outs.zip vs) t)
          cases hb : Nat.beq t o with
          | true => have := Nat.eq_of_beq_eq_true hb; subst this; exact .inr hv.1
          | false => exact ih vs hv.2
    exact key outs vs ho

theorem awp_piece {E : XE} (hE : E.Ok P) (hm : P.follows .mixedOrders = true) {c : Code} (hd : drawsOk E.n E.D c = true) {f : Fr} (hf : frOk E.n f = true) {outs : List Nat} {h h' : AHeap} {e : Exit} {vs : List AVal}
    (hx : xexec E c XPc f h (pcK outs) = some (e, vs, h')) {Q : AQ} (hQ : ∀ a, Outs E.n outs vs a → Q e a h') : AWp P c Q (f.lst E.n) h := by
  refine awp_mono (xexec_sound hE hm c hd XPc f h (pcK outs) _ (frOk_wf hf) hx) ?_
  rintro e1 a1 h1 ⟨_, g, hg, rfl, hk⟩
  unfold pcK at hk
  cases hk
  exact hQ _ ⟨by simp [Fr.lst], List.map_congr_left fun t _ => aget_lst hg t⟩

/-- A whole function, its body told by pieces. -/
theorem acalls_pieces {i : FuncId} {fn : Func} {c : Code} {args : List AVal} {h : AHeap} {R : AEnd → AHeap → Prop} (hf : P.funcs[i]? = some fn) (hb : fn.body = some c) (hn : Nat.ble args.length fn.ntmps = true)
    (hc : HOk h → AWp P c (fun e a g => ABody P fn h R e a g) ((fargs args 0).lst fn.ntmps) h) : ACalls P i args h R :=
  acalls_of hf hb fun hok => by
    have := hc hok
    rw [fargs_lst (Nat.le_of_ble_eq_true hn)] at this
    exact this

/-- The state behind a call may be told under other names. -/
theorem ACalls.tell {f : FuncId} {args : List AVal} {h : AHeap} {R R' : AEnd → AHeap → Prop} (hc : ACalls P f args h R) (hr : ∀ e h2, R e h2 → h.length ≤ h2.length → ∃ e' h', R' e' h' ∧ h.length ≤ h'.length ∧ ∀ (ρ : Env) (w : World) (u : Ending), Rel ρ h2 w → EndR ρ h2 w e u →
      ∃ ρ', (∀ b, b < h.length → ρ' b = ρ b) ∧ (∀ c, Owned ρ' h' c → Owned ρ h2 c) ∧ Rel ρ' h' w ∧ EndR ρ' h' w e' u) : ACalls P f args h R' := by
  intro ρ w us hR hv
  refine (hc ρ w us hR hv).mono ?_
  rintro e w' ⟨ρ1, h1, e1, ev, R1, hE, hr1⟩
  obtain ⟨e', h', hr', hl, hk⟩ := hr _ _ hr1 ev.ids
  obtain ⟨ρ2, k1, k2, k3, k4⟩ := hk ρ1 w' e R1 hE
  exact ⟨ρ2, h', e', ⟨hl, fun b hb => (k1 b hb).trans (ev.env b hb), ev.size, ev.same, fun c hc hn => ⟨(ev.keep c hc hn).1, fun ho => (ev.keep c hc hn).2 (k2 c ho)⟩, ev.loops⟩, k3, k4, hr'⟩

/-! ### What a call leaves, told anew: the old objects, and one of the new ones -/
section pick
variable {ρ ρ' : Env} {h g H : AHeap} {w : World}
theorem VR.reloc {n : Nat} (he : ∀ b, b < n → ρ' b = ρ b) (hn : n ≤ H.length) (ho : ∀ c, Owned ρ' H c → Owned ρ g c) {v : AVal} {u : Value} (hv : VR ρ g w v u) (hb : Below n v) : VR ρ' H w v u := by
  have lt : ∀ b, b < n → b < H.length := fun b hb => Nat.lt_of_lt_of_le hb hn
  induction hv with
  | any u => exact .any u
  | lit u => exact .lit u
  | ptr b off _ => cases hb with | ptr _ _ hb => rw [← he b hb]; exact .ptr b off (lt b hb)
  | sl k b off len cap _ hl hc hm => cases hb with | sl _ _ _ _ hb => rw [← he b hb] at hc hm ⊢; exact .sl k b off len cap (lt b hb) hl hc hm
  | rop cs c off C T fz hc hn hs _ ih =>
    cases hb with | rop _ hb => exact .rop cs c off C T fz hc (fun h => hn (ho c h)) hs fun i hi => ih i hi (hb _ (List.getElem_mem hi))
  | slZ k b off o _ => cases hb with | sl _ _ _ _ hb => rw [← he b hb]; exact .slZ k b off o (lt b hb)
  | rosZ cs _ a cap => cases hb with | ros _ _ hb => exact .rosZ cs (fun v hv => (hb v hv).mono hn) a cap
  | ros cs c off len cap C T fz hl hc hn hs _ ih =>
    cases hb with | ros _ _ hb => exact .ros cs c off len cap C T fz hl hc (fun h => hn (ho c h)) hs fun i hi => ih i hi (hb _ (List.getElem_mem hi))
  | agg vs us hl _ ih => cases hb with | agg _ hb => exact .agg vs us hl fun i hi => ih i hi (hb _ (List.getElem_mem hi))
  | tup vs us hl _ ih => cases hb with | tup _ hb => exact .tup vs us hl fun i hi => ih i hi (hb _ (List.getElem_mem hi))
  | fn f vs ws us xs hl hl' _ _ ih ih' =>
    cases hb with | fn _ _ _ hb hd => exact .fn f vs ws us xs hl hl' (fun i hi => ih i hi (hb _ (List.getElem_mem hi))) fun i hi => ih' i hi (hd _ (List.getElem_mem hi))
  | ifc t v u _ ih => cases hb with | ifc _ _ hb => exact .ifc t v u (ih hb)
  | map b _ => cases hb with | map _ hb => rw [← he b hb]; exact .map b (lt b hb)
  | yld b _ => cases hb with | yld _ hb => rw [← he b hb]; exact .yld b (lt b hb)
theorem ObjR.reloc {n : Nat} (he : ∀ b, b < n → ρ' b = ρ b) (hn : n ≤ H.length) (ho : ∀ c, Owned ρ' H c → Owned ρ g c) {l : Loc} {o : AObj} (hv : ObjR ρ g w l o) (hb : ObjBelow n o) : ObjR ρ' H w l o := by
  cases o with
  | dead => trivial
  | cells cs => obtain ⟨C, T, fz, a1, a2, a3, a4, a5⟩ := hv; exact ⟨C, T, fz, a1, a2, a3, a4, fun i hi => (a5 i hi).reloc he hn ho (hb _ (List.getElem_mem hi))⟩
  | pred R => exact hv
  | map d es => obtain ⟨C, clock, a1, a2, a3, a4⟩ := hv; exact ⟨C, clock, a1, a2, a3, fun i hi => ⟨(a4 i hi).1, (a4 i hi).2.1, (a4 i hi).2.2.reloc he hn ho (hb _ (List.getElem_mem hi))⟩⟩
  | sit s pos => exact hv
  | mapS d es bs clock => obtain ⟨C, a1, a2, a0, a3, a4⟩ := hv; exact ⟨C, a1, a2, a0, a3, fun i hi => ⟨(a4 i hi).1, (a4 i hi).2.1, (a4 i hi).2.2.reloc he hn ho (hb _ (List.getElem_mem hi))⟩⟩
  | mit mb since seen c0 => obtain ⟨a1, a2, a3⟩ := hv; exact ⟨Nat.lt_of_lt_of_le hb hn, a2, by rw [he mb hb]; exact a3⟩
  | mapU d es => obtain ⟨es', hp, C, clock, a1, a2, a3, a4⟩ := hv; exact ⟨es', hp, C, clock, a1, a2, a3, fun i hi => ⟨(a4 i hi).1, (a4 i hi).2.1, (a4 i hi).2.2.reloc he hn ho (hb _ (hp.mem_iff.1 (List.getElem_mem hi)))⟩⟩
  | bld T k n' =>
    obtain ⟨a1, p, v, a2, a3, a4⟩ := hv
    refine ⟨a1, p, v, a2, a3, ?_⟩
    cases k with
    | none => exact a4
    | some k => exact ⟨Nat.lt_of_lt_of_le (hb k rfl) hn, by rw [he k (hb k rfl)]; exact a4.2⟩
  | buf T bs => exact hv
  | loop st pend a ps x y => obtain ⟨r, a1, a2, a3, a4, a5, a6, a7, a8⟩ := hv; exact ⟨r, a1, a2, a3, a4, a5, a6, a7, fun i hi => (a8 i hi).reloc he hn ho (hb _ (List.getElem_mem hi))⟩
theorem rel_pick (hR : Rel ρ g w) (hok : HOk h) (hg : ∀ c, c < h.length → g[c]? = h[c]?) {bb : Nat} {o : AObj} (hbb : h.length ≤ bb) (hb : g[bb]? = some o) (hd : o ≠ .dead) (hbel : ObjBelow h.length o) :
    ∃ ρ', (∀ b, b < h.length → ρ' b = ρ b) ∧ ρ' h.length = ρ bb ∧ (∀ c, Owned ρ' (h ++ [o]) c → Owned ρ g c) ∧ Rel ρ' (h ++ [o]) w := by
  let ρ' : Env := fun b => if b = h.length then ρ bb else ρ b
  have e1 : ∀ b, b < h.length → ρ' b = ρ b := fun b hb => if_neg (by omega)
  have e2 : ρ' h.length = ρ bb := if_pos rfl
  have old : ∀ b o', (h ++ [o])[b]? = some o' → (b < h.length ∧ g[b]? = some o' ∧ h[b]? = some o' ∧ ρ' b = ρ b) ∨ (b = h.length ∧ o' = o) := fun b o' hbo => by
    rcases Nat.lt_or_ge b h.length with hlt | hge
    · rw [List.getElem?_append_left hlt] at hbo
      exact .inl ⟨hlt, (hg b hlt).trans hbo, hbo, e1 b hlt⟩
    · have : b < (h ++ [o]).length := lt_of_getL hbo
      have hbe : b = h.length := by simp at this; omega
      subst hbe
      simp at hbo; exact .inr ⟨rfl, hbo.symm⟩
  have own : ∀ c, Owned ρ' (h ++ [o]) c → Owned ρ g c := by
    rintro c ⟨b, o', hbo, hdo, hc⟩
    rcases old b o' hbo with ⟨h1, h2, _, h4⟩ | ⟨rfl, rfl⟩
    · exact ⟨b, o', h2, hdo, by rw [← h4]; exact hc⟩
    · exact ⟨bb, o', hb, hdo, by rw [← e2]; exact hc⟩
  refine ⟨ρ', e1, e2, own, fun g hm => ⟨fun ho => (hR.glob g hm).1 (own _ ho), (hR.glob g hm).2⟩, fun b o' hbo => ?_, fun b b' o1 o2 h1 h2 d1 d2 hq => ?_⟩
  · rcases old b o' hbo with ⟨h1, h2, h3, h4⟩ | ⟨rfl, rfl⟩
    · rw [h4]; exact (hR.obj b o' h2).reloc e1 (by simp) own (hok b o' h3)
    · rw [e2]; exact (hR.obj bb o' hb).reloc e1 (by simp) own hbel
  · rcases old b o1 h1 with ⟨l1, g1, _, r1⟩ | ⟨rfl, rfl⟩ <;> rcases old b' o2 h2 with ⟨l2, g2, _, r2⟩ | ⟨rfl, rfl⟩
    · rw [r1, r2] at hq; exact hR.inj b b' o1 o2 g1 g2 d1 d2 hq
    · rw [r1, e2] at hq; have := hR.inj b bb o1 _ g1 hb d1 d2 hq; omega
    · rw [r2, e2] at hq; have := hR.inj bb b' _ o2 hb g2 d1 d2 hq; omega
    · rfl
/-- Nothing of the call's own is kept. -/
theorem rel_none (hR : Rel ρ g w) (hok : HOk h) (hg : ∀ c, c < h.length → g[c]? = h[c]?) : (∀ c, Owned ρ h c → Owned ρ g c) ∧ Rel ρ h w := by
  have own : ∀ c, Owned ρ h c → Owned ρ g c := fun c ⟨b, o, hb, hd, he⟩ => ⟨b, o, (hg b (lt_of_getL hb)).trans hb, hd, he⟩
  exact ⟨own, fun g hm => ⟨fun ho => (hR.glob g hm).1 (own _ ho), (hR.glob g hm).2⟩, fun b o hb => (hR.obj b o ((hg b (lt_of_getL hb)).trans hb)).reloc (fun _ _ => rfl) (Nat.le_refl _) own (hok b o hb), fun b b' o o' h1 h2 d1 d2 he => hR.inj b b' o o' ((hg b (lt_of_getL h1)).trans h1) ((hg b' (lt_of_getL h2)).trans h2) d1 d2 he⟩
end pick
/-- A map's stamps are told while it is walked over. -/
theorem acalls_freeze {f : FuncId} {args : List AVal} {h : AHeap} {R : AEnd → AHeap → Prop} {mb : Nat} {d : MKey} {es : List (Value × AVal)} (hm : h[mb]? = some (.map d es))
    (hc : ∀ bs clock, bs.length = es.length → bs.Nodup → (∀ s ∈ bs, s < clock) → ACalls P f args (h.set mb (.mapS d es bs clock)) fun e g => g[mb]? = some (.mapS d es bs clock) ∧ R e (g.set mb (.map d es))) : ACalls P f args h R := by
  intro ρ w us hR hv
  obtain ⟨C, clock, hC, hs, hl, hes⟩ := hR.obj mb _ hm
  have hmb := lt_of_getL hm
  let bs := C.toList.map (·.born)
  have hne : AObj.map d es ≠ .dead := by simp
  have e1 : Evo ρ h w ρ (h.set mb (.mapS d es bs clock)) w := evo_set hR hm hne (.refl _) (Nat.le_refl _) (fun _ _ => rfl) (fun r hr => ⟨r, hr⟩)
  have R1 : Rel ρ (h.set mb (.mapS d es bs clock)) w := hR.set hm hne (.refl _) (Nat.le_refl _) (fun _ _ => rfl) (fun r hr => ⟨r, hr⟩)
    ⟨C, hC, hs, rfl, hl, fun i hi => ⟨(hes i hi).1, (hes i hi).2.1, (hes i hi).2.2.evo e1⟩⟩
  have hst := (MapKept.stamped_iff C clock).1 hs
  refine (hc bs clock (by simp [bs, hl]) hst.2.1 (fun s hs => by obtain ⟨x, hx, rfl⟩ := List.mem_map.1 hs; exact hst.1 x hx) ρ w us R1 (hv.evo e1)).mono ?_
  rintro e w' ⟨ρ', h', e', ev, R', hE, hg, hr⟩
  obtain ⟨C', hC', hs', hbs', hl', hes'⟩ := R'.obj mb _ hg
  have hne' : AObj.mapS d es bs clock ≠ .dead := by simp
  have e2 : Evo ρ' h' w' ρ' (h'.set mb (.map d es)) w' := evo_set R' hg hne' (.refl _) (Nat.le_refl _) (fun _ _ => rfl) (fun r hr => ⟨r, hr⟩)
  have R2 : Rel ρ' (h'.set mb (.map d es)) w' := R'.set hg hne' (.refl _) (Nat.le_refl _) (fun _ _ => rfl) (fun r hr => ⟨r, hr⟩)
    ⟨C', clock, hC', hs', hl', fun i hi => ⟨(hes' i hi).1, (hes' i hi).2.1, (hes' i hi).2.2.evo e2⟩⟩
  refine ⟨ρ', _, e', (e1.trans ev).trans e2, R2, ?_, hr⟩
  cases hE with
  | ret v u hvu => exact .ret v u (hvu.evo e2)
  | panic c => exact .panic c

theorem ends_now {h0 h' : AHeap} {v : AVal} {R : AEnd → AHeap → Prop} (hl : h0.length ≤ h'.length) (hr : R (.ret v) h') : ABody.AEnds h0 h' (.ret v) R :=
  ⟨h', .ret v, hl, hr, fun ρ w u hR hE => ⟨Fewer.refl _, hR, hE⟩⟩
theorem awp_region_any {id : Nat} {ops : Array Oper} {Q : AQ} {a : List AVal} {h : AHeap} (hA : AOps P ops Q ops.toList a h) : AWp P (.region id ops false) Q a h := awp_region hA
/-- A call of a function value, told by the contracts that are known. -/
noncomputable def callK (C : List (Nat × XC)) (Y : Nat → XP) (v : AVal) (args : List AVal) (h : AHeap) {R : Type} (K : AVal → AHeap → Option R) : Option R := match v with
  | .fn (.func i) vs ws => match findN C i with
    | some (.p g) => g R (vs ++ args ++ ws) fun v => K v h
    | some (.q g) => g R (vs ++ args ++ ws) h fun v => K v h
    | some (.l g) => g R (vs ++ args ++ ws) h K
    | _ => none
  | .yld b => (Y b args h).bind fun r => K r.1 r.2
  | _ => none
theorem aset_len {a : List AVal} {d : Option Nat} {v : AVal} : (aset a d v).length = a.length := by cases d <;> simp [aset]
end Go.Proofs.YteahajcgbogjkaaGreat.AL
