import Derived.Test.YtglmofbcooefkaaDoorG2
import Derived.Scope
import Derived.Test.YtglmofbcooefkaaDoorProg
import Derived.KernelRfl
import Derived.Shelf.Strings.Search3
import Derived.Shelf.Strings.Count
import Derived.Shelf.Strconv.Itoa3
/- Operations that turn the heap, reckoned; frames; calls; regions. -/
namespace Go.Proofs.YtglmofbcooefkaaDoor.AL
set_option linter.unusedVariables false
set_option linter.unusedSimpArgs false
open Go

def newO (h : AHeap) (cs : List AVal) : AVal × AHeap := (.ptr h.length 0, h ++ [.cells cs])
def st1 (h : AHeap) (p x : AVal) : Option AHeap := match p with
  | .ptr b off => (cellsAt h b).bind fun cs => (req (x.one = true ∧ off < cs.length)).bind fun _ => some (h.set b (.cells (cs.set off x)))
  | _ => none
def stn (n : Nat) (h : AHeap) (p : AVal) (vs : List AVal) : Option AHeap := match p with
  | .ptr b off => (cellsAt h b).bind fun cs => (req (vs.all (·.one) = true ∧ n = vs.length ∧ off + vs.length ≤ cs.length)).bind fun _ => some (h.set b (.cells (splice cs off vs)))
  | _ => none
def xStore (T : Tab) (t : Nat) (h : AHeap) (p x : AVal) : Option AHeap := match T.agg t, T.siz t with
  | some false, some 1 => st1 h p x
  | some true, some n => x.parts.bind fun vs => stn n h p vs
  | _, _ => none
theorem xStore_ok {T : Tab} {P : Program} (hT : T.Ok P) {t : Nat} {h g : AHeap} {p x : AVal} {K : AHeap → Prop} (hv : xStore T t h p x = some g) (hK : K g) : aStore P t h p x K := by
  unfold xStore at hv; unfold aStore
  split at hv
  · rename_i ha hs
    unfold st1 at hv
    split at hv
    · obtain ⟨cs, h1, hv⟩ := Option.bind_eq_some_iff.1 hv
      obtain ⟨u, h2, hv⟩ := Option.bind_eq_some_iff.1 hv
      cases hv
      simp only [cellsAt_some h1, hT.agg ha]
      exact ⟨(req_some h2).1, hT.siz _ _ hs, (req_some h2).2, hK⟩
    · cases hv
  · rename_i ha hs
    obtain ⟨vs, h0, hv⟩ := Option.bind_eq_some_iff.1 hv
    unfold stn at hv
    split at hv
    · obtain ⟨cs, h1, hv⟩ := Option.bind_eq_some_iff.1 hv
      obtain ⟨u, h2, hv⟩ := Option.bind_eq_some_iff.1 hv
      cases hv
      obtain ⟨a1, a2, a3⟩ := req_some h2
      subst a2
      simp only [cellsAt_some h1, hT.agg ha, h0]
      exact ⟨a1, hT.siz _ _ hs, a3, hK⟩
    · cases hv
  · cases hv
def mkS (k b : Nat) (zs : List AVal) (l c : Int) (h : AHeap) : Option (AVal × AHeap) :=
  (req (0 ≤ l ∧ l ≤ c ∧ b * c ≤ 140737488355328 ∧ c ≤ 9223372036854775807)).bind fun _ => some (.sl k h.length 0 l.toNat, h ++ [.cells (List.replicate l.toNat zs).flatten])
def xMake (T : Tab) (t : Nat) (l c : AVal) (h : AHeap) : Option (AVal × AHeap) := match T.und t, l, c with
  | some (.slice e), .lit (.int _ l), .lit (.int _ c) => match T.siz e, T.byt e, T.zer e with
    | some k, some b, some z => match z.parts with
      | some zs => match Nat.beq zs.length k with
        | true => mkS k b zs l c h
        | false => none
      | none => none
    | _, _, _ => none
  | _, _, _ => none
theorem xMake_ok {T : Tab} {P : Program} (hT : T.Ok P) {t : Nat} {l c : AVal} {h : AHeap} {r : AVal × AHeap} {K : AVal → AHeap → Prop} (hv : xMake T t l c h = some r) (hK : K r.1 r.2) : aMake P t l c h K := by
  unfold xMake at hv; unfold aMake
  split at hv
  · rename_i hu
    simp only [(hT.slice (Tab.slice_of hu)).1]
    split at hv
    · rename_i h1 h2 h3
      simp only [hT.siz _ _ h1, hT.byt _ _ h2, hT.zer _ _ h3]
      split at hv
      · rename_i hp
        simp only [hp]
        split at hv
        · rename_i hk
          unfold mkS at hv
          obtain ⟨u, h4, h5⟩ := Option.bind_eq_some_iff.1 hv
          cases h5
          obtain ⟨a1, a2, a3, a4⟩ := req_some h4
          exact ⟨Nat.eq_of_beq_eq_true hk, a1, a2, a3, a4, hK⟩
        · cases hv
      · cases hv
    · cases hv
  · cases hv
def blitS (k : Nat) (zs : List AVal) (len : Nat) (parts : List (Nat × AVal)) (h : AHeap) : Option (AVal × AHeap) :=
  (req (len * k ≤ 16777216)).bind fun _ => (aFill (fun i => some (i * k, k)) (List.replicate len zs).flatten parts).bind fun cs => some (.sl k h.length 0 len, h ++ [.cells cs])
def xBuildSlice (T : Tab) (t : Nat) (len : Nat) (parts : List (Nat × AVal)) (h : AHeap) : Option (AVal × AHeap) := match T.und t with
  | some (.slice e) => match T.siz e, T.zer e with
    | some k, some z => match z.parts with
      | some zs => match Nat.beq zs.length k with
        | true => blitS k zs len parts h
        | false => none
      | none => none
    | _, _ => none
  | _ => none
theorem xBuildSlice_ok {T : Tab} {P : Program} (hT : T.Ok P) {t len : Nat} {parts : List (Nat × AVal)} {h : AHeap} {r : AVal × AHeap} {K : AVal → AHeap → Prop} (hv : xBuildSlice T t len parts h = some r) (hK : K r.1 r.2) :
    aBuildSlice P t len parts h K := by
  unfold xBuildSlice at hv; unfold aBuildSlice
  split at hv
  · rename_i hu
    simp only [(hT.slice (Tab.slice_of hu)).1]
    split at hv
    · rename_i h1 h3
      simp only [hT.siz _ _ h1, hT.zer _ _ h3]
      split at hv
      · rename_i hp
        simp only [hp]
        split at hv
        · rename_i hk
          unfold blitS at hv
          obtain ⟨u, h4, hv⟩ := Option.bind_eq_some_iff.1 hv
          obtain ⟨cs, h5, hv⟩ := Option.bind_eq_some_iff.1 hv
          cases hv
          refine ⟨Nat.eq_of_beq_eq_true hk, req_some h4, ?_⟩
          simp only [h5]; exact hK
        · cases hv
      · cases hv
    · cases hv
  · cases hv
def toBytes (s : ByteArray) (h : AHeap) : AVal × AHeap := (.sl 1 h.length 0 s.size, h ++ [.cells (s.data.toList.map byteV)])
def xConvL (T : Tab) (src dst : Nat) (x : AVal) (h : AHeap) : Option (AVal × AHeap) := match T.und src, T.und dst, x with
  | some _, some (.slice e), .lit (.string s) => match T.und e with
    | some (.int .u8) => some (toBytes s h)
    | _ => none
  | _, _, _ => none
theorem xConvL_ok {T : Tab} {P : Program} (hT : T.Ok P) {src dst : Nat} {x : AVal} {h : AHeap} {r : AVal × AHeap} {K : AVal → AHeap → Prop} (hv : xConvL T src dst x h = some r) (hK : K r.1 r.2) : aConv P src dst x h K := by
  unfold xConvL at hv; unfold aConv
  split at hv
  · rename_i h1 h2
    refine ⟨by rw [hT.und _ _ h1]; rfl, ?_⟩
    simp only [hT.und _ _ h2]
    split at hv
    · rename_i he
      cases hv
      exact ⟨hT.int (Tab.int_of he), hK⟩
    · cases hv
  · cases hv
/-- 'append': k cells an element, b bytes. -/
def appV (k b : Nat) (h : AHeap) (s x : AVal) : Option (AVal × AHeap) :=
  (srcLen x).bind fun n => (srcCells h k x n).bind fun ns => match s with
    | .lit (.slice none 0 0) => (req (n * b ≤ 140737488355328)).bind fun _ => some (if n = 0 then (.lit (.slice none 0 0), h) else (.sl k h.length 0 n, h ++ [.cells ns]))
    | .sl k' o off len => (cellsAt h o).bind fun cs => (req (k' = k ∧ off + len * k ≤ cs.length ∧ (len + n) * b ≤ 140737488355328 ∧ ns.all (·.one) = true)).bind fun _ =>
        some (.sl k h.length 0 (len + n), h.set o .dead ++ [.cells ((cs.drop off).take (len * k) ++ ns)])
    | _ => none
def xAppend (T : Tab) (sT xT : Nat) (h : AHeap) (s x : AVal) : Option (AVal × AHeap) := match T.und sT, T.und xT, T.fit sT with
  | some (.slice e), some d, true => match d with
    | .int _ => none
    | _ => match T.siz e, T.byt e, T.zer e with
      | some k, some (b + 1), some _ => appV k (b + 1) h s x
      | _, _, _ => none
  | _, _, _ => none
theorem xAppend_ok {T : Tab} {P : Program} (hT : T.Ok P) {sT xT : Nat} {s x : AVal} {h : AHeap} {r : AVal × AHeap} {K : AVal → AHeap → Prop} (hv : xAppend T sT xT h s x = some r) (hK : K r.1 r.2) :
    zeroFits P sT ∧ aAppend P sT xT h s x K := by
  unfold xAppend at hv
  split at hv
  · rename_i h1 h2 h3
    refine ⟨hT.fit _ h3, ?_⟩
    unfold aAppend
    split at hv
    · cases hv
    · rename_i d hn
      refine ⟨?_, ?_⟩
      · rw [hT.und _ _ h2]
        split
        · rename_i e; cases e; exact (hn _ rfl).elim
        · trivial
        · contradiction
      · simp only [(hT.slice (Tab.slice_of h1)).1]
        split at hv
        · rename_i g1 g2 g3
          simp only [hT.siz _ _ g1, hT.byt _ _ g2, hT.zer _ _ g3]
          unfold appV at hv
          obtain ⟨n, e1, hv⟩ := Option.bind_eq_some_iff.1 hv
          obtain ⟨ns, e2, hv⟩ := Option.bind_eq_some_iff.1 hv
          simp only [e1, e2]
          split at hv
          · obtain ⟨u, e3, hv⟩ := Option.bind_eq_some_iff.1 hv
            refine ⟨req_some e3, fun h0 => ?_, fun h0 => ?_⟩
            · rw [if_pos h0] at hv; cases hv; exact hK
            · rw [if_neg h0] at hv; cases hv; exact hK
          · obtain ⟨cs, e3, hv⟩ := Option.bind_eq_some_iff.1 hv
            obtain ⟨u, e4, hv⟩ := Option.bind_eq_some_iff.1 hv
            cases hv
            obtain ⟨a1, a2, a3, a4⟩ := req_some e4
            simp only [cellsAt_some e3]
            exact ⟨a1, a2, a3, a4, hK⟩
          · cases hv
        · cases hv
  · cases hv
def cpyV (k : Nat) (h : AHeap) (d x : AVal) : Option (AVal × AHeap) := match d with
  | .sl k' b off len => (srcLen x).bind fun n => (cellsAt h b).bind fun cs => (srcCells h k x (min n len)).bind fun ns =>
      (req (k' = k ∧ off + (min n len) * k ≤ cs.length ∧ ns.all (·.one) = true)).bind fun _ => some (.lit (.int .i64 (min n len : Nat)), h.set b (.cells (splice cs off ns)))
  | _ => none
def xCopy (T : Tab) (dT : Nat) (h : AHeap) (d x : AVal) : Option (AVal × AHeap) := match T.und dT with
  | some (.slice e) => match T.siz e with
    | some k => cpyV k h d x
    | none => none
  | _ => none
theorem xCopy_ok {T : Tab} {P : Program} (hT : T.Ok P) {dT : Nat} {d x : AVal} {h : AHeap} {r : AVal × AHeap} {K : AVal → AHeap → Prop} (hv : xCopy T dT h d x = some r) (hK : K r.1 r.2) : aCopy P dT h d x K := by
  unfold xCopy at hv; unfold aCopy
  split at hv
  · rename_i hu
    simp only [(hT.slice (Tab.slice_of hu)).1]
    split at hv
    · rename_i hs
      simp only [hT.siz _ _ hs]
      unfold cpyV at hv
      split at hv
      · obtain ⟨n, e1, hv⟩ := Option.bind_eq_some_iff.1 hv
        obtain ⟨cs, e2, hv⟩ := Option.bind_eq_some_iff.1 hv
        obtain ⟨ns, e3, hv⟩ := Option.bind_eq_some_iff.1 hv
        obtain ⟨u, e4, hv⟩ := Option.bind_eq_some_iff.1 hv
        cases hv
        obtain ⟨a1, a2, a3⟩ := req_some e4
        simp only [e1, cellsAt_some e2, e3]
        exact ⟨a1, a2, a3, hK⟩
      · cases hv
    · cases hv
  · cases hv
/-! Maps, written -/
def mput (u : Value) (v : AVal) (es : List (Value × AVal)) : List (Value × AVal) := match mfind u es with
  | some (i, _) => es.set i (u, v)
  | none => es ++ [(u, v)]
def mdel (u : Value) (es : List (Value × AVal)) : List (Value × AVal) := match mfind u es with
  | some (i, _) => es.eraseIdx i
  | none => es
def mapSet (d : MKey) (h : AHeap) (x : AVal) (f : List (Value × AVal) → List (Value × AVal)) : Option AHeap := match x with
  | .map b => match h[b]? with
    | some (.map d' es) => match mkEq d' d with
      | true => some (h.set b (.map d (f es)))
      | false => none
    | _ => none
  | _ => none
def mapSetU (d : MKey) (h : AHeap) (x : AVal) (f : List (Value × AVal) → List (Value × AVal)) : Option AHeap := match x with
  | .map b => match h[b]? with
    | some (.map d' es) => match mkEq d' d with
      | true => some (h.set b (.map d (f es)))
      | false => none
    | some (.mapU d' es) => match mkEq d' d with
      | true => some (h.set b (.mapU d (f es)))
      | false => none
    | _ => none
  | _ => none
def xMapUpdate (T : Tab) (t : Nat) (h : AHeap) (m k v : AVal) : Option AHeap := match T.mkey t, k with
  | some (d, _, _), .lit u => match keyOkB d u with
    | true => mapSet d h m (mput u v)
    | false => none
  | _, _ => none
theorem xMapUpdate_ok {T : Tab} {P : Program} (hT : T.Ok P) {t : Nat} {h g : AHeap} {m k v : AVal} {K : AHeap → Prop} (hv : xMapUpdate T t h m k v = some g) (hK : K g) : aMapUpdate P t h m k v K := by
  unfold xMapUpdate at hv; unfold aMapUpdate
  split at hv
  · rename_i d kt et u ht
    simp only [(hT.mkey ht).1]
    split at hv
    · rename_i hk
      unfold mapSet at hv
      split at hv
      · refine ⟨keyOkB_ok hk, ?_⟩
        split at hv
        · rename_i hb
          split at hv
          · rename_i he
            cases hv
            simp only [hb]
            refine ⟨mkEq_eq he, ?_⟩
            unfold mput at hK
            split at hK <;> (rename_i hm; simp only [hm]; exact hK)
          · cases hv
        · cases hv
      · cases hv
    · cases hv
  · cases hv
def xDelete (T : Tab) (t : Nat) (h : AHeap) (m k : AVal) : Option AHeap := match T.mkey t, k with
  | some (d, _, _), .lit u => match keyOkB d u with
    | true => match m with
      | .lit (.map none) => some h
      | m => mapSetU d h m (mdel u)
    | false => none
  | _, _ => none
theorem set_self {h : AHeap} {b : Nat} {o : AObj} (hb : h[b]? = some o) : h.set b o = h := by
  apply List.ext_getElem?
  intro c
  by_cases hcb : b = c
  · subst hcb; rw [List.getElem?_set_self (lt_of_getL hb), hb]
  · rw [List.getElem?_set_ne hcb]
theorem xDelete_ok {T : Tab} {P : Program} (hT : T.Ok P) {t : Nat} {h g : AHeap} {m k : AVal} {K : AVal → AHeap → Prop} (hv : xDelete T t h m k = some g) (hK : K (.tup []) g) : aDelete P t h m k K := by
  unfold xDelete at hv; unfold aDelete
  split at hv
  · rename_i d kt et u ht
    simp only [(hT.mkey ht).1]
    split at hv
    · rename_i hk
      refine ⟨keyOkB_ok hk, ?_⟩
      split at hv
      · cases hv; exact hK
      · rename_i hn
        unfold mapSetU at hv
        split at hv
        · split at hv
          · rename_i hb
            split at hv
            · rename_i he
              cases hv
              simp only [hb]
              refine ⟨mkEq_eq he, ?_⟩
              unfold mdel at hK
              split at hK
              · rename_i hm; simp only [hm]; exact hK
              · rename_i hm
                simp only [hm]
                rw [mkEq_eq he] at hb
                rw [set_self hb] at hK
                exact hK
            · cases hv
          · rename_i hb
            split at hv
            · rename_i he
              cases hv
              simp only [hb]
              refine ⟨mkEq_eq he, ?_⟩
              unfold mdel at hK
              split at hK
              · rename_i hm; simp only [hm]; exact hK
              · rename_i hm
                simp only [hm]
                rw [mkEq_eq he] at hb
                rw [set_self hb] at hK
                exact hK
            · cases hv
          · cases hv
        · cases hv
    · cases hv
  · cases hv
def sitAt (h : AHeap) (x : AVal) : Option (Nat × ByteArray × Nat) := match x with
  | .ptr b 0 => match h[b]? with
    | some (.sit s pos) => some (b, s, pos)
    | _ => none
  | _ => none
def nextV (q : Nat × ByteArray × Nat) : AVal := .tup [.lit (.bool true), .lit (.int .i64 q.2.2), .lit (.int .i32 (Utf8.decode q.2.1 q.2.2).1)]
def nextH (h : AHeap) (q : Nat × ByteArray × Nat) : AHeap := h.set q.1 (.sit q.2.1 (q.2.2 + (Utf8.decode q.2.1 q.2.2).2))
def xNextS (h : AHeap) (x : AVal) : Option (AVal × AHeap) := (sitAt h x).bind fun q => cond (Nat.blt q.2.2 q.2.1.size) (some (nextV q, nextH h q)) (some (.tup [.lit (.bool false)], h))
theorem xNextS_ok {h : AHeap} {x : AVal} {r : AVal × AHeap} {K : AVal → AHeap → Prop} (hv : xNextS h x = some r) (hK : K r.1 r.2) : aNextS x h K := by
  unfold xNextS at hv
  obtain ⟨q, h1, h2⟩ := Option.bind_eq_some_iff.1 hv
  unfold sitAt at h1
  split at h1
  · split at h1
    · rename_i b _ s pos hb
      cases h1
      unfold aNextS
      simp only [hb]
      simp only at h2
      cases hlt : Nat.blt pos s.size with
      | true =>
        rw [hlt] at h2
        cases h2
        rw [if_pos (by rw [Nat.blt_eq] at hlt; exact hlt)]
        exact hK
      | false =>
        rw [hlt] at h2
        cases h2
        rw [if_neg (fun h => by rw [← Nat.blt_eq] at h; rw [h] at hlt; cases hlt)]
        exact hK
    · cases h1
  · cases h1
/-- A strings.Builder's zero value, where its type is marked. -/
def isBld (z : AVal) : Bool := match z with
  | .agg [.lit (.pointer none), .lit (.slice none 0 0)] => true
  | _ => false
theorem isBld_eq {z : AVal} (h : isBld z = true) : z = .agg [.lit (.pointer none), .lit (.slice none 0 0)] := by
  unfold isBld at h; split at h
  · rfl
  · cases h
/-- Operations that turn the heap. -/
def xl (T : Tab) (o : Op) (g : Operand → AVal) (h : AHeap) : Option (AVal × AHeap) := match o with
  | .alloc t => match T.zer t with
    | some z => match T.fit t, isBld z with
      | true, true => some (.ptr h.length 0, h ++ [.bld t none 0])
      | _, _ => z.parts.bind fun vs => some (newO h vs)
    | none => none
  | .box t x => (g x).parts.bind fun vs => some (newO h vs)
  | .buildSlice t len ps => xBuildSlice T t len (ps.toList.map fun p => (p.1, g p.2)) h
  | .store t p x => (xStore T t h (g p) (g x)).bind fun h' => some (.any, h')
  | .convert s d x => xConvL T s d (g x) h
  | .makeSlice t l c => xMake T t (g l) (g c) h
  | .makeMap t none => match T.mkey t with
    | some (d, _, _) => some (.map h.length, h ++ [.map d []])
    | none => none
  | .mapUpdate t m k x => (xMapUpdate T t h (g m) (g k) (g x)).bind fun h' => some (.any, h')
  | .insert t m k x => (xMapUpdate T t h (g m) (g k) (g x)).bind fun h' => some (.any, h')
  | .range t x => match T.und t with
    | some .string => (asS (g x)).bind fun s => some (.ptr h.length 0, h ++ [.sit s 0])
    | _ => none
  | .next it true => xNextS h (g it)
  | .call { callee := .builtin b, args, argTypes } => match b, args.toList, argTypes.toList with
    | .append, [s, x], [sT, xT] => xAppend T sT xT h (g s) (g x)
    | .copy, [d, x], [dT, _] => xCopy T dT h (g d) (g x)
    | .delete, [m, k], [mt, _] => (xDelete T mt h (g m) (g k)).bind fun h' => some (.tup [], h')
    | _, _, _ => none
  | _ => none
theorem xl_ok {T : Tab} {P : Program} (hT : T.Ok P) {o : Op} {ty : Nat} {a : List AVal} {h : AHeap} {r : AVal × AHeap} {K : AVal → AHeap → Prop} (hv : xl T o (aEval a) h = some r) (hK : K r.1 r.2) : AOp P o ty a h K := by
  unfold xl at hv
  cases o with
  | alloc t =>
    simp only at hv
    simp only [AOp, aAlloc]
    split at hv
    · rename_i z hz
      simp only [hT.zer _ _ hz]
      split at hv
      · rename_i _ hb
        have hz' := isBld_eq hb
        cases hv
        subst hz'
        exact .inr ⟨rfl, hK⟩
      · obtain ⟨vs, h1, h2⟩ := Option.bind_eq_some_iff.1 hv
        cases h2
        simp only [h1]; exact .inl hK
    · cases hv
  | box t x =>
    simp only [AOp, aBox]
    obtain ⟨vs, h1, h2⟩ := Option.bind_eq_some_iff.1 hv
    cases h2
    simp only [h1]; exact hK
  | buildSlice t len ps => exact xBuildSlice_ok hT hv hK
  | store t p x =>
    obtain ⟨g, h1, h2⟩ := Option.bind_eq_some_iff.1 hv
    cases h2
    exact xStore_ok (K := fun h' => K .any h') hT h1 hK
  | convert s d x => exact xConvL_ok hT hv hK
  | makeSlice t l c => exact xMake_ok hT hv hK
  | makeMap t r =>
    cases r with
    | none =>
      simp only at hv
      simp only [AOp, aMakeMap]
      split at hv
      · rename_i ht
        simp only [(hT.mkey ht).1]
        cases hv; exact hK
      · cases hv
    | some r => cases hv
  | mapUpdate t m k x =>
    obtain ⟨g, h1, h2⟩ := Option.bind_eq_some_iff.1 hv
    cases h2
    exact xMapUpdate_ok (K := fun h' => K .any h') hT h1 hK
  | insert t m k x =>
    obtain ⟨g, h1, h2⟩ := Option.bind_eq_some_iff.1 hv
    cases h2
    exact xMapUpdate_ok (K := fun h' => K .any h') hT h1 hK
  | range t x =>
    simp only at hv
    simp only [AOp]
    split at hv
    · rename_i hu
      obtain ⟨s, h1, h2⟩ := Option.bind_eq_some_iff.1 hv
      cases h2
      rw [asS_some h1]
      show aRangeS P t _ h K
      unfold aRangeS
      rw [hT.und _ _ hu]; exact hK
    · cases hv
  | next it isS =>
    cases isS with
    | true => exact xNextS_ok hv hK
    | false => cases hv
  | call c =>
    obtain ⟨callee, args, argTypes⟩ := c
    cases callee with
    | builtin b =>
      simp only at hv
      simp only [AOp]
      split at hv
      · rename_i e1 e2
        simp only [e1, e2]; exact xAppend_ok hT hv hK
      · rename_i e1 e2
        simp only [e1, e2]; exact xCopy_ok hT hv hK
      · rename_i e1 e2
        simp only [e1, e2]
        obtain ⟨g, h1, h2⟩ := Option.bind_eq_some_iff.1 hv
        cases h2
        exact xDelete_ok hT h1 hK
      · cases hv
    | value f => simp at hv
    | invoke r m => simp at hv
  | _ => simp at hv

/-- What makes an object that nobody has seen: what it has, and how it is seen. -/
def mkA (b : Nat) (zs : List AVal) (l c : Int) : Option (List AVal) :=
  (req (0 ≤ l ∧ l ≤ c ∧ b * c ≤ 140737488355328 ∧ c ≤ 9223372036854775807)).bind fun _ => some (List.replicate l.toNat zs).flatten
def blitA (k : Nat) (zs : List AVal) (len : Nat) (parts : List (Nat × AVal)) : Option (List AVal) :=
  (req (len * k ≤ 16777216)).bind fun _ => aFill (fun i => some (i * k, k)) (List.replicate len zs).flatten parts
def xA {R : Type} (T : Tab) (o : Op) (g : Operand → AVal) (K : AMk → List AVal → Option R) : Option R := match o with
  | .alloc t => match T.zer t with
    | some z => z.parts.bind fun vs => K .ptr vs
    | none => none
  | .box t x => (g x).parts.bind fun vs => K .ptr vs
  | .makeSlice t l c => match T.und t, g l, g c with
    | some (.slice e), .lit (.int _ l), .lit (.int _ c) => match T.siz e, T.byt e, T.zer e with
      | some k, some b, some z => match z.parts with
        | some zs => match Nat.beq zs.length k with
          | true => (mkA b zs l c).bind fun cs => K (.sl k l.toNat) cs
          | false => none
        | none => none
      | _, _, _ => none
    | _, _, _ => none
  | .buildSlice t len ps => match T.und t with
    | some (.slice e) => match T.siz e, T.zer e with
      | some k, some z => match z.parts with
        | some zs => match Nat.beq zs.length k with
          | true => (blitA k zs len (ps.toList.map fun p => (p.1, g p.2))).bind fun cs => K (.sl k len) cs
          | false => none
        | none => none
      | _, _ => none
    | _ => none
  | .convert s d x => match T.und s, T.und d, g x with
    | some _, some (.slice e), .lit (.string s) => match T.und e with
      | some (.int .u8) => K (.sl 1 s.size) (s.data.toList.map byteV)
      | _ => none
    | _, _, _ => none
  | _ => none
def mkAD (m : AMk) (cs : List AVal) : Option AData := some ⟨m, cs⟩
theorem xA_bind {R : Type} (T : Tab) (o : Op) (g : Operand → AVal) (K : AMk → List AVal → Option R) : xA T o g K = (xA T o g mkAD).bind fun D => K D.how D.cs := by
  cases o with
  | alloc t =>
    simp only [xA]
    rcases T.zer t with _ | z
    · rfl
    · simp [Option.bind_assoc, mkAD]
  | box t x => simp [xA, Option.bind_assoc, mkAD]
  | makeSlice t l c =>
    simp only [xA]
    split
    · split
      · split
        · split
          · simp [Option.bind_assoc, mkAD]
          · rfl
        · rfl
      · rfl
    · rfl
  | buildSlice t len ps =>
    simp only [xA]
    split
    · split
      · split
        · split
          · simp [Option.bind_assoc, mkAD]
          · rfl
        · rfl
      · rfl
    · rfl
  | convert s d x =>
    simp only [xA]
    split
    · split <;> rfl
    · rfl
  | _ => rfl
theorem xA_ok {T : Tab} {P : Program} (hT : T.Ok P) {o : Op} {ty : Nat} {a : List AVal} {D : AData} (hv : xA T o (aEval a) mkAD = some D) :
    (∀ f args tys, o ≠ .call { callee := .value f, args := args, argTypes := tys }) ∧ ∀ h : AHeap, AOp P o ty a h fun v' g => v' = D.how.val h.length ∧ g = h ++ [.cells D.cs] := by
  cases o with
  | alloc t =>
    refine ⟨(fun _ _ _ e => by cases e), fun h => ?_⟩
    simp only [xA] at hv
    simp only [AOp, aAlloc]
    split at hv
    · rename_i hz
      simp only [hT.zer _ _ hz]
      obtain ⟨vs, h1, h2⟩ := Option.bind_eq_some_iff.1 hv
      cases h2
      simp only [h1]; exact .inl ⟨by first | trivial | rfl, by first | trivial | rfl⟩
    · cases hv
  | box t x =>
    refine ⟨(fun _ _ _ e => by cases e), fun h => ?_⟩
    simp only [xA] at hv
    simp only [AOp, aBox]
    obtain ⟨vs, h1, h2⟩ := Option.bind_eq_some_iff.1 hv
    cases h2
    simp only [h1]; exact ⟨by first | trivial | rfl, by first | trivial | rfl⟩
  | makeSlice t l c =>
    refine ⟨(fun _ _ _ e => by cases e), fun h => ?_⟩
    have key : xMake T t (aEval a l) (aEval a c) h = some (D.how.val h.length, h ++ [.cells D.cs]) := by
      simp only [xA] at hv
      unfold xMake
      split at hv
      · rename_i h1 h2 h3
        (try simp only [h1, h2, h3])
        split at hv
        · rename_i g1 g2 g3
          (try simp only [g1, g2, g3])
          split at hv
          · rename_i hp
            (try simp only [hp])
            split at hv
            · rename_i hb
              (try simp only [hb])
              obtain ⟨cs, e1, e2⟩ := Option.bind_eq_some_iff.1 hv
              cases e2
              unfold mkA at e1
              obtain ⟨u, e3, e4⟩ := Option.bind_eq_some_iff.1 e1
              cases e4
              unfold mkS
              rw [e3]; rfl
            · cases hv
          · cases hv
        · cases hv
      · cases hv
    exact xMake_ok (K := fun v' g => v' = D.how.val h.length ∧ g = h ++ [.cells D.cs]) hT key ⟨rfl, rfl⟩
  | buildSlice t len ps =>
    refine ⟨(fun _ _ _ e => by cases e), fun h => ?_⟩
    have key : xBuildSlice T t len (ps.toList.map fun p => (p.1, aEval a p.2)) h = some (D.how.val h.length, h ++ [.cells D.cs]) := by
      simp only [xA] at hv
      unfold xBuildSlice
      split at hv
      · rename_i h1
        (try simp only [h1])
        split at hv
        · rename_i g1 g3
          (try simp only [g1, g3])
          split at hv
          · rename_i hp
            (try simp only [hp])
            split at hv
            · rename_i hb
              (try simp only [hb])
              obtain ⟨cs, e1, e2⟩ := Option.bind_eq_some_iff.1 hv
              cases e2
              unfold blitA at e1
              obtain ⟨u, e3, e4⟩ := Option.bind_eq_some_iff.1 e1
              unfold blitS
              rw [e3, Option.bind_some, e4]; rfl
            · cases hv
          · cases hv
        · cases hv
      · cases hv
    exact xBuildSlice_ok (K := fun v' g => v' = D.how.val h.length ∧ g = h ++ [.cells D.cs]) hT key ⟨rfl, rfl⟩
  | convert s d x =>
    refine ⟨(fun _ _ _ e => by cases e), fun h => ?_⟩
    have key : xConvL T s d (aEval a x) h = some (D.how.val h.length, h ++ [.cells D.cs]) := by
      simp only [xA] at hv
      unfold xConvL
      split at hv
      · rename_i h1 h2 h3
        (try simp only [h1, h2, h3])
        split at hv
        · rename_i he
          (try simp only [he])
          cases hv; rfl
        · cases hv
      · cases hv
    exact xConvL_ok (K := fun v' g => v' = D.how.val h.length ∧ g = h ++ [.cells D.cs]) hT key ⟨rfl, rfl⟩
  | _ => simp [xA] at hv

/-! ### Frames -/
abbrev Fr := List (Nat × AVal)
noncomputable def Fr.get (f : Fr) (i : Nat) : AVal := List.rec (motive := fun _ => AVal) .any (fun p _ ih => cond (Nat.beq i p.1) p.2 ih) f
noncomputable def Fr.lst (n : Nat) (f : Fr) : List AVal := (List.range n).map f.get
def Fr.Wf (n : Nat) (f : Fr) : Prop := ∀ t, n ≤ t → f.get t = .any
noncomputable def fEval (f : Fr) : Operand → AVal
  | .tmp t => f.get t
  | .const v => litA v
  | .global g => .lit (.pointer (some ⟨g, 0, none⟩))
  | .func i => .fn (.func i) [] []
theorem aget_lst {n : Nat} {f : Fr} (hw : f.Wf n) (t : Nat) : aget (f.lst n) t = f.get t := by
  unfold aget Fr.lst
  rcases Nat.lt_or_ge t n with h | h
  · simp [List.getD_eq_getElem?_getD, h]
  · simp [List.getD_eq_getElem?_getD, hw t h, Nat.not_lt.2 h]
theorem aEval_lst {n : Nat} {f : Fr} (hw : f.Wf n) : aEval (f.lst n) = fEval f := by
  funext x; cases x <;> simp [aEval, fEval, aget_lst hw]
theorem Fr.get_cons (k : Nat) (v : AVal) (f : Fr) (i : Nat) : Fr.get ((k, v) :: f) i = if i = k then v else f.get i := by
  show cond (Nat.beq i k) v (f.get i) = _
  by_cases h : i = k
  · subst h; simp
  · rw [if_neg h]
    have : Nat.beq i k = false := by rw [Bool.eq_false_iff]; intro e; exact h (Nat.eq_of_beq_eq_true e)
    rw [this]; rfl
theorem lst_cons {n d : Nat} (hd : d < n) (v : AVal) (f : Fr) : Fr.lst n ((d, v) :: f) = (f.lst n).set d v := by
  unfold Fr.lst
  apply List.ext_getElem
  · simp
  · intro i h1 h2
    simp only [List.getElem_map, List.getElem_range, Fr.get_cons, List.getElem_set]
    by_cases h : i = d
    · subst h; simp
    · rw [if_neg h, if_neg (fun e => h e.symm)]
theorem wf_cons {n d : Nat} (hd : d < n) (v : AVal) {f : Fr} (hw : f.Wf n) : Fr.Wf n ((d, v) :: f) := by
  intro t ht
  rw [Fr.get_cons, if_neg (by omega)]
  exact hw t ht
def fput (n : Nat) (f : Fr) (d : Option Nat) (v : AVal) : Option Fr := match d with
  | none => some f
  | some d => match Nat.blt d n with
    | true => some ((d, v) :: f)
    | false => none
theorem fput_some {n : Nat} {f f' : Fr} {d : Option Nat} {v : AVal} (h : fput n f d v = some f') (hw : f.Wf n) : f'.lst n = aset (f.lst n) d v ∧ f'.Wf n := by
  unfold fput at h
  split at h
  · cases h; exact ⟨rfl, hw⟩
  · split at h
    · rename_i d _ hb
      have hd : d < n := by rw [Nat.blt_eq] at hb; exact hb
      cases h
      exact ⟨lst_cons hd v f, wf_cons hd v hw⟩
    · cases h
noncomputable def fmask (f : Fr) (ks : List Nat) : Fr := List.rec (motive := fun _ => Fr) [] (fun k _ ih => (k, f.get k) :: ih) ks
theorem fmask_get (f : Fr) : ∀ (ks : List Nat) (i : Nat), (fmask f ks).get i = .any ∨ (fmask f ks).get i = f.get i
  | [], i => .inl rfl
  | k :: ks, i => by
    show Fr.get ((k, f.get k) :: fmask f ks) i = .any ∨ Fr.get ((k, f.get k) :: fmask f ks) i = _
    rw [Fr.get_cons]
    by_cases h : i = k
    · rw [if_pos h]; subst h; exact .inr rfl
    · rw [if_neg h]; exact fmask_get f ks i
noncomputable def findN.{u} {α : Type u} (l : List (Nat × α)) (i : Nat) : Option α := List.rec (motive := fun _ => Option α) none (fun p _ ih => cond (Nat.beq i p.1) (some p.2) ih) l
theorem findN_nil.{u} {α : Type u} (i : Nat) : findN ([] : List (Nat × α)) i = none := rfl
theorem findN_cons.{u} {α : Type u} (k : Nat) (v : α) (l : List (Nat × α)) (i : Nat) : findN ((k, v) :: l) i = cond (Nat.beq i k) (some v) (findN l i) := rfl
theorem findN_some.{u} {α : Type u} {k : Nat} {v c : α} {l : List (Nat × α)} {i : Nat} (h : findN ((k, v) :: l) i = some c) : (i = k ∧ v = c) ∨ findN l i = some c := by
  rw [findN_cons] at h
  cases hb : Nat.beq i k with
  | true => rw [hb] at h; cases h; exact .inl ⟨Nat.eq_of_beq_eq_true hb, rfl⟩
  | false => rw [hb] at h; exact .inr h
noncomputable def maskO (f : Fr) (m : Option (List Nat)) : Fr := match m with
  | none => f
  | some ks => fmask f ks
theorem maskO_get (f : Fr) (m : Option (List Nat)) (i : Nat) : (maskO f m).get i = .any ∨ (maskO f m).get i = f.get i := by
  unfold maskO
  split
  · exact .inr rfl
  · exact fmask_get f _ i
theorem maskO_wf {n : Nat} {f : Fr} (hw : f.Wf n) (m : Option (List Nat)) : (maskO f m).Wf n := by
  intro t ht
  rcases maskO_get f m t with h | h
  · exact h
  · rw [h]; exact hw t ht
theorem weak_of : ∀ {a b : List AVal}, a.length = b.length → (∀ (i : Nat) (h1 : i < a.length) (h2 : i < b.length), b[i] = .any ∨ a[i] = b[i]) → Weak a b
  | [], [], _, _ => trivial
  | [], _ :: _, h, _ => by simp at h
  | _ :: _, [], h, _ => by simp at h
  | x :: a, y :: b, h, hg => ⟨hg 0 (by simp) (by simp), weak_of (by simpa using h) fun i h1 h2 => hg (i + 1) (by simpa using h1) (by simpa using h2)⟩
theorem maskO_weak (n : Nat) (f : Fr) (m : Option (List Nat)) : Weak (f.lst n) ((maskO f m).lst n) := by
  refine weak_of (by simp [Fr.lst]) fun i h1 h2 => ?_
  simp only [Fr.lst, List.getElem_map, List.getElem_range]
  rcases maskO_get f m i with h | h
  · exact .inl h
  · exact .inr h.symm

/-! ### The same, with what comes next handed in -/
section cps
variable {R : Type}
def castK (T : Tab) (t : Nat) (v : AVal) (K : AVal → Option R) : Option R := match T.und t with
  | some (.int k) => (asI k v).bind fun n => K (.lit (.int k n))
  | some .string => (asS v).bind fun s => K (.lit (.string s))
  | some .bool => (asB v).bind fun b => K (.lit (.bool b))
  | some (.struct _) => (asA v).bind fun xs => K (.agg xs)
  | some (.array _ _) => (asA v).bind fun xs => K (.agg xs)
  | _ => K v
theorem castK_eq (T : Tab) (t : Nat) (v : AVal) (K : AVal → Option R) : castK T t v K = (castT T t v).bind K := by
  unfold castK castT
  cases T.und t with
  | none => rfl
  | some d => cases d <;> simp [Option.bind_assoc]
def xLoadK (T : Tab) (t : Nat) (h : AHeap) (v : AVal) (K : AVal → Option R) : Option R := match T.agg t with
  | some false => (ld1 h v).bind K
  | some true => match T.siz t with
    | some n => (ldn n h v).bind fun xs => K (.agg xs)
    | none => none
  | none => none
theorem xLoadK_eq (T : Tab) (t : Nat) (h : AHeap) (v : AVal) (K : AVal → Option R) : xLoadK T t h v K = (xLoad T t h v).bind K := by
  unfold xLoadK xLoad
  rcases T.agg t with _ | b
  · rfl
  · cases b
    · rfl
    · rcases T.siz t with _ | n <;> simp [Option.bind_assoc]
def xIntK (op : BinOp) (k : IntKind) (x y : Int) (K : AVal → Option R) : Option R := match op with
  | .quo => (req (y ≠ 0)).bind fun _ => K (.lit (.int k (k.wrap (x.tdiv y))))
  | .rem => (req (y ≠ 0)).bind fun _ => K (.lit (.int k (x.tmod y)))
  | op => (xInt op k x y).bind K
theorem xIntK_eq (op : BinOp) (k : IntKind) (x y : Int) (K : AVal → Option R) : xIntK op k x y K = (xInt op k x y).bind K := by
  cases op <;> simp [xIntK, xInt, Option.bind_assoc]
def xStrK (op : BinOp) (x y : ByteArray) (K : AVal → Option R) : Option R := match op with
  | .add => (req (x.size + y.size ≤ 9223372036854775807)).bind fun _ => K (.lit (.string (x ++ y)))
  | op => (xStr op x y).bind K
theorem xStrK_eq (op : BinOp) (x y : ByteArray) (K : AVal → Option R) : xStrK op x y K = (xStr op x y).bind K := by
  cases op <;> simp [xStrK, xStr, Option.bind_assoc]
def boolK (op : BinOp) (p : Bool) (K : AVal → Option R) : Option R := match op with
  | .eql => K (.lit (.bool p))
  | .neq => K (.lit (.bool (!p)))
  | _ => none
def xNilK (T : Tab) (op : BinOp) (t : Nat) (ox oy : Operand) (x y : AVal) (K : AVal → Option R) : Option R := match T.nilK t with
  | none => none
  | some k => match isNilC oy k y with
    | true => (x.isNil k).bind fun p => boolK op p K
    | false => match isNilC ox k x with
      | true => (y.isNil k).bind fun p => boolK op p K
      | false => none
theorem xNilK_eq (T : Tab) (op : BinOp) (t : Nat) (ox oy : Operand) (x y : AVal) (K : AVal → Option R) : xNilK T op t ox oy x y K = (xNil T op t ox oy x y).bind K := by
  unfold xNilK xNil
  rcases T.nilK t with _ | k
  · rfl
  · simp only
    cases isNilC oy k y
    · cases isNilC ox k x
      · rfl
      · simp only [Option.bind_assoc]; congr 1; funext p; cases op <;> rfl
    · simp only [Option.bind_assoc]; congr 1; funext p; cases op <;> rfl
def xBinK (T : Tab) (op : BinOp) (t : Nat) (ox oy : Operand) (x y : AVal) (K : AVal → Option R) : Option R := match T.nilK t with
  | some _ => xNilK T op t ox oy x y K
  | none => match x, y with
    | .lit (.int k a), .lit (.int k' b) => match op with
      | .shl => (req (0 ≤ b)).bind fun _ => K (.lit (.int k (shlI k a b)))
      | .shr => (req (0 ≤ b)).bind fun _ => K (.lit (.int k (shrI k a b)))
      | op => match kindEq k k' with
        | true => xIntK op k a b K
        | false => none
    | .lit (.string a), .lit (.string b) => xStrK op a b K
    | .lit (.bool a), .lit (.bool b) => match T.und t, op with
      | some .bool, .eql => K (.lit (.bool (decide (a = b))))
      | some .bool, .neq => K (.lit (.bool (!decide (a = b))))
      | _, _ => none
    | .agg xs, .agg ys => match T.lvs t with
      | none => none
      | some ls => (leafEq ls xs ys).bind fun r => boolK op r K
    | _, _ => none
theorem xBinK_eq (T : Tab) (op : BinOp) (t : Nat) (ox oy : Operand) (x y : AVal) (K : AVal → Option R) : xBinK T op t ox oy x y K = (xBin T op t ox oy x y).bind K := by
  unfold xBinK xBin
  rcases T.nilK t with _ | k
  · simp only
    cases x with
    | lit u =>
      cases u with
      | int k a =>
        cases y with
        | lit v =>
          cases v with
          | int k' b =>
            cases op <;> simp only [] <;> first
              | (cases kindEq k k' <;> first | rfl | exact xIntK_eq ..)
              | (simp only [Option.bind_assoc]; rfl)
          | _ => rfl
        | _ => rfl
      | string a =>
        cases y with
        | lit v =>
          cases v with
          | string b => exact xStrK_eq ..
          | _ => rfl
        | _ => rfl
      | bool a =>
        cases y with
        | lit v =>
          cases v with
          | bool b =>
            simp only
            rcases T.und t with _ | d
            · rfl
            · cases d <;> cases op <;> rfl
          | _ => rfl
        | _ => rfl
      | _ => rfl
    | agg xs =>
      cases y with
      | agg ys =>
        simp only
        rcases T.lvs t with _ | ls
        · rfl
        · simp only [Option.bind_assoc]; congr 1; funext p; cases op <;> rfl
      | _ => rfl
    | _ => rfl
  · exact xNilK_eq ..
def xPartK (T : Tab) (t : Nat) (vs : List AVal) (off : Nat) (K : AVal → Option R) : Option R := match T.agg t with
  | some true => match T.siz t with
    | some n => (takeN vs off n).bind fun xs => K (.agg xs)
    | none => none
  | some false => (vs[off]?).bind K
  | none => none
theorem xPartK_eq (T : Tab) (t : Nat) (vs : List AVal) (off : Nat) (K : AVal → Option R) : xPartK T t vs off K = (xPart T t vs off).bind K := by
  unfold xPartK xPart
  rcases T.agg t with _ | b
  · rfl
  · cases b
    · rfl
    · rcases T.siz t with _ | n <;> simp [Option.bind_assoc]
def xIndexK (T : Tab) (t : Nat) (x i : AVal) (K : AVal → Option R) : Option R := match i, x with
  | .lit (.int _ i), .lit (.string s) => match T.und t with
    | some .string => (strAt s i).bind fun b => K (.lit (.int .u8 b))
    | _ => none
  | .lit (.int _ i), .agg vs => match T.und t with
    | some (.array n e) => match T.siz e with
      | some k => (req (0 ≤ i ∧ i < n)).bind fun _ => xPartK T e vs (i.toNat * k) K
      | none => none
    | _ => none
  | _, _ => none
theorem xIndexK_eq (T : Tab) (t : Nat) (x i : AVal) (K : AVal → Option R) : xIndexK T t x i K = (xIndex T t x i).bind K := by
  cases i with
  | lit u =>
    cases u with
    | int k i =>
      cases x with
      | lit v =>
        cases v with
        | string s =>
          simp only [xIndexK, xIndex]
          rcases T.und t with _ | d
          · rfl
          · cases d <;> simp [Option.bind_assoc]
        | _ => rfl
      | agg vs =>
        simp only [xIndexK, xIndex]
        rcases T.und t with _ | d
        · rfl
        · cases d <;> try rfl
          simp only
          rcases T.siz _ with _ | k
          · rfl
          · simp only [Option.bind_assoc]; congr 1; funext u; exact xPartK_eq ..
      | _ => rfl
    | _ => rfl
  | _ => rfl
def xFieldVK (T : Tab) (t : Nat) (x : AVal) (i : Nat) (K : AVal → Option R) : Option R := match x with
  | .agg vs => match T.field t i with
    | some (off, ft) => xPartK T ft vs off K
    | none => none
  | _ => none
theorem xFieldVK_eq (T : Tab) (t : Nat) (x : AVal) (i : Nat) (K : AVal → Option R) : xFieldVK T t x i K = (xFieldV T t x i).bind K := by
  cases x with
  | agg vs =>
    simp only [xFieldVK, xFieldV]
    rcases T.field t i with _ | p
    · rfl
    · exact xPartK_eq ..
  | _ => rfl
def xSliceK (T : Tab) (t : Nat) (h : AHeap) (x : AVal) (lo hi mx : Option AVal) (K : AVal → Option R) : Option R := match T.und t with
  | some .string => match x, lo, hi, mx with
    | .lit (.string s), lo, hi, none => (bndO lo 0).bind fun l => (bndO hi s.size).bind fun r => (cutS s l r).bind fun z => K (.lit (.string z))
    | _, _, _, _ => none
  | some (.slice e) => match T.siz e with
    | some k => (intO lo).bind fun l => (intO hi).bind fun r => (intO mx).bind fun m => (cutV k x l r m).bind K
    | none => none
  | some (.array n e) => match T.siz e, mx with
    | some k, none => (bndO lo 0).bind fun l => (bndO hi n).bind fun r => (cutA n k h x l r).bind K
    | _, _ => none
  | _ => none
theorem xSliceK_eq (T : Tab) (t : Nat) (h : AHeap) (x : AVal) (lo hi mx : Option AVal) (K : AVal → Option R) : xSliceK T t h x lo hi mx K = (xSlice T t h x lo hi mx).bind K := by
  unfold xSliceK xSlice
  rcases T.und t with _ | d
  · rfl
  · cases d <;> try rfl
    · simp only
      cases x with
      | lit u =>
        cases u with
        | string s => cases mx <;> simp [Option.bind_assoc]
        | _ => rfl
      | _ => rfl
    · simp only
      rcases T.siz _ with _ | k <;> simp [Option.bind_assoc]
    · simp only
      rcases T.siz _ with _ | k
      · rfl
      · cases mx <;> simp [Option.bind_assoc]
def xLenK (T : Tab) (t : Nat) (x : AVal) (K : AVal → Option R) : Option R := match T.und t with
  | some (.array n _) => K (.lit (.int .i64 n))
  | some (.slice _) => (lenV x).bind fun n => K (.lit (.int .i64 n))
  | some .string => (asS x).bind fun s => K (.lit (.int .i64 s.size))
  | _ => none
theorem xLenK_eq (T : Tab) (t : Nat) (x : AVal) (K : AVal → Option R) : xLenK T t x K = (xLen T t x).bind K := by
  unfold xLenK xLen
  rcases T.und t with _ | d
  · rfl
  · cases d <;> simp [Option.bind_assoc]
def xBuildK (T : Tab) (t : Nat) (parts : List (Nat × AVal)) (K : AVal → Option R) : Option R := match T.zer t with
  | none => none
  | some z => match z.parts with
    | none => none
    | some zs => match T.und t with
      | some (.struct _) => (T.places t).bind fun ps => (aFill (ps[·]?) zs parts).bind fun cs => K (.agg cs)
      | some (.array _ e) => match T.siz e with
        | some k => (aFill (fun i => some (i * k, k)) zs parts).bind fun cs => K (.agg cs)
        | none => none
      | _ => none
theorem xBuildK_eq (T : Tab) (t : Nat) (parts : List (Nat × AVal)) (K : AVal → Option R) : xBuildK T t parts K = (xBuild T t parts).bind K := by
  unfold xBuildK xBuild
  rcases T.zer t with _ | z
  · rfl
  · simp only
    rcases z.parts with _ | zs
    · rfl
    · simp only
      rcases T.und t with _ | d
      · rfl
      · cases d <;> try rfl
        · simp only
          rcases T.siz _ with _ | k <;> simp [Option.bind_assoc]
        · simp [Option.bind_assoc]
def xConvQK (T : Tab) (src dst : Nat) (x : AVal) (h : AHeap) (K : AVal → Option R) : Option R := match T.und src, T.und dst with
  | some (.int _), some (.int k) => (numOf x).bind fun n => K (.lit (.int k (k.wrap n)))
  | some (.int _), some .string => (numOf x).bind fun n => K (.lit (.string (Utf8.encode n)))
  | some .string, some .string => (asS x).bind fun s => K (.lit (.string s))
  | some (.slice e), some .string => match T.und e with
    | some (.int .u8) => (bytesOf h x).bind fun s => K (.lit (.string s))
    | _ => none
  | _, _ => none
theorem xConvQK_eq (T : Tab) (src dst : Nat) (x : AVal) (h : AHeap) (K : AVal → Option R) : xConvQK T src dst x h K = (xConvQ T src dst x h).bind K := by
  unfold xConvQK xConvQ
  rcases T.und src with _ | ds
  · rfl
  · rcases T.und dst with _ | dd
    · cases ds <;> rfl
    · cases ds <;> cases dd <;> first
        | rfl
        | (simp [Option.bind_assoc]; done)
        | (simp only
           rcases T.und _ with _ | d2
           · rfl
           · cases d2 <;> try rfl
             rename_i k
             cases k <;> simp [Option.bind_assoc])
def xLookupK (T : Tab) (t : Nat) (h : AHeap) (x k : AVal) (ok : Bool) (K : AVal → Option R) : Option R := match T.mkey t, k with
  | some (d, _, et), .lit u => match keyOkB d u, T.zer et with
    | true, some z => (mapAt d h x).bind fun es => K (mres ok (mlook z u es).1 (mlook z u es).2)
    | _, _ => none
  | _, _ => none
theorem xLookupK_eq (T : Tab) (t : Nat) (h : AHeap) (x k : AVal) (ok : Bool) (K : AVal → Option R) : xLookupK T t h x k ok K = (xLookup T t h x k ok).bind K := by
  unfold xLookupK xLookup
  rcases T.mkey t with _ | ⟨d, kt, et⟩
  · rfl
  · cases k <;> try rfl
    simp only
    cases keyOkB d _ <;> try rfl
    cases T.zer et <;> try rfl
    simp only [Option.bind_assoc, Option.bind_some]
def xqK (T : Tab) (o : Op) (g : Operand → AVal) (h : AHeap) (K : AVal → Option R) : Option R := match o with
  | .move x | .assign x => K (g x)
  | .pick c x y => (asB (g c)).bind fun b => K (match b with | true => g x | false => g y)
  | .load t x => xLoadK T t h (g x) K
  | .binOp op t x y _ => xBinK T op t x y (g x) (g y) K
  | .convert s d x => xConvQK T s d (g x) h K
  | .makeFunc f xs ys => K (.fn f (evsF g xs) (evsF g ys))
  | .build t ps => xBuildK T t (ps.toList.map fun p => (p.1, g p.2)) K
  | .slice t x lo hi mx => xSliceK T t h (g x) (lo.map g) (hi.map g) (mx.map g) K
  | .field t x i => xFieldVK T t (g x) i K
  | .index t x i => xIndexK T t (g x) (g i) K
  | .lookup t x k ok => xLookupK T t h (g x) (g k) ok K
  | .call { callee := .builtin .len, args, argTypes } => match args.toList, argTypes.toList with
    | [x], [t] => match T.und t with
      | some (.map _ _) => (xMapLen h (g x)).bind K
      | _ => xLenK T t (g x) K
    | _, _ => none
  | o => (xq T o g h).bind K
theorem xqK_eq (T : Tab) (o : Op) (g : Operand → AVal) (h : AHeap) (K : AVal → Option R) : xqK T o g h K = (xq T o g h).bind K := by
  cases o with
  | move x => rfl
  | assign x => rfl
  | pick c x y => simp only [xqK, xq, Option.bind_assoc]; congr 1
  | load t x => exact xLoadK_eq ..
  | binOp op t x y _ => exact xBinK_eq ..
  | convert s d x => exact xConvQK_eq ..
  | makeFunc f xs ys => rfl
  | build t ps => exact xBuildK_eq ..
  | slice t x lo hi mx => exact xSliceK_eq ..
  | field t x i => exact xFieldVK_eq ..
  | index t x i => exact xIndexK_eq ..
  | lookup t x k ok => exact xLookupK_eq ..
  | call c =>
    obtain ⟨callee, args, argTypes⟩ := c
    cases callee with
    | builtin b =>
      cases b <;> try rfl
      simp only [xqK, xq]
      rcases args.toList with _ | ⟨x, _ | ⟨y, l⟩⟩ <;> rcases argTypes.toList with _ | ⟨t, _ | ⟨u, l'⟩⟩ <;> try rfl
      simp only
      rcases T.und t with _ | d
      · exact xLenK_eq ..
      · cases d <;> first | exact xLenK_eq .. | rfl
    | _ => rfl
  | _ => rfl
def xStoreK (T : Tab) (t : Nat) (h : AHeap) (p x : AVal) (K : AHeap → Option R) : Option R := match T.agg t, T.siz t with
  | some false, some 1 => (st1 h p x).bind K
  | some true, some n => x.parts.bind fun vs => (stn n h p vs).bind K
  | _, _ => none
theorem xStoreK_eq (T : Tab) (t : Nat) (h : AHeap) (p x : AVal) (K : AHeap → Option R) : xStoreK T t h p x K = (xStore T t h p x).bind K := by
  unfold xStoreK xStore
  rcases T.agg t with _ | b
  · rfl
  · rcases T.siz t with _ | n
    · cases b <;> rfl
    · cases b
      · rcases n with _ | _ | n <;> rfl
      · simp [Option.bind_assoc]
def pairK (K : AVal → AHeap → Option R) (r : AVal × AHeap) : Option R := K r.1 r.2
def xlK (T : Tab) (o : Op) (g : Operand → AVal) (h : AHeap) (K : AVal → AHeap → Option R) : Option R := match o with
  | .alloc t => match T.zer t with
    | some z => match T.fit t, isBld z with
      | true, true => K (.ptr h.length 0) (h ++ [.bld t none 0])
      | _, _ => z.parts.bind fun vs => K (.ptr h.length 0) (h ++ [.cells vs])
    | none => none
  | .box t x => (g x).parts.bind fun vs => K (.ptr h.length 0) (h ++ [.cells vs])
  | .store t p x => xStoreK T t h (g p) (g x) fun h' => K .any h'
  | .makeMap t none => match T.mkey t with
    | some (d, _, _) => K (.map h.length) (h ++ [.map d []])
    | none => none
  | .mapUpdate t m k x => (xMapUpdate T t h (g m) (g k) (g x)).bind fun h' => K .any h'
  | .insert t m k x => (xMapUpdate T t h (g m) (g k) (g x)).bind fun h' => K .any h'
  | .range t x => match T.und t with
    | some .string => (asS (g x)).bind fun s => K (.ptr h.length 0) (h ++ [.sit s 0])
    | _ => none
  | .next it true => (sitAt h (g it)).bind fun q => cond (Nat.blt q.2.2 q.2.1.size) (K (nextV q) (nextH h q)) (K (.tup [.lit (.bool false)]) h)
  | .call { callee := .builtin .delete, args, argTypes } => match args.toList, argTypes.toList with
    | [m, k], [mt, _] => (xDelete T mt h (g m) (g k)).bind fun h' => K (.tup []) h'
    | _, _ => none
  | o => (xl T o g h).bind fun r => K r.1 r.2
theorem xlK_eq (T : Tab) (o : Op) (g : Operand → AVal) (h : AHeap) (K : AVal → AHeap → Option R) : xlK T o g h K = (xl T o g h).bind fun r => K r.1 r.2 := by
  cases o with
  | alloc t =>
    simp only [xlK, xl]
    rcases T.zer t with _ | z
    · rfl
    · simp only
      split
      · rename_i e1 e2; simp [e1, e2]
      · simp [Option.bind_assoc, newO]
  | box t x => simp [xlK, xl, Option.bind_assoc, newO]
  | store t p x => simp only [xlK, xl]; rw [xStoreK_eq, Option.bind_assoc]; rfl
  | makeMap t r =>
    cases r with
    | none => simp only [xlK, xl]; split <;> rfl
    | some r => rfl
  | mapUpdate t m k x => simp [xlK, xl, Option.bind_assoc]
  | insert t m k x => simp [xlK, xl, Option.bind_assoc]
  | range t x => simp only [xlK, xl]; split <;> simp [Option.bind_assoc]
  | next it isS =>
    cases isS with
    | true =>
      simp only [xlK, xl, xNextS, Option.bind_assoc]
      congr 1; funext q
      cases Nat.blt q.2.2 q.2.1.size <;> rfl
    | false => rfl
  | call c =>
    obtain ⟨callee, args, argTypes⟩ := c
    cases callee with
    | builtin b =>
      cases b <;> try rfl
      simp only [xlK, xl]
      rcases args.toList with _ | ⟨x, _ | ⟨y, _ | ⟨z, l⟩⟩⟩ <;> rcases argTypes.toList with _ | ⟨t, _ | ⟨u, _ | ⟨w, l'⟩⟩⟩ <;> try rfl
      simp only [Option.bind_assoc, Option.bind_some]
    | _ => rfl
  | _ => rfl
end cps

/-- A place where ways meet. -/
noncomputable def jnF : { f : ∀ R : Type, Option R → Option R // ∀ R x, f R x = x } := Classical.choice ⟨⟨fun _ x => x, fun _ _ => rfl⟩⟩
noncomputable def jn {R : Type} (x : Option R) : Option R := jnF.1 R x
theorem jn_eq {R : Type} (x : Option R) : jn x = x := jnF.2 R x
noncomputable def atMask {R : Type} (m : Option (List Nat)) (f : Fr) (go : Fr → Option R) : Option R := match m with
  | none => go f
  | some ks => jn (go (fmask f ks))
theorem atMask_eq {R : Type} (m : Option (List Nat)) (f : Fr) (go : Fr → Option R) : atMask m f go = go (maskO f m) := by
  cases m with
  | none => rfl
  | some ks => exact jn_eq _
/-! ### Calls, one operation -/
inductive XC : Type 1 where
  | p (g : ∀ R : Type, List AVal → (AVal → Option R) → Option R)
  | q (g : ∀ R : Type, List AVal → AHeap → (AVal → Option R) → Option R)
  | l (g : ∀ R : Type, List AVal → AHeap → (AVal → AHeap → Option R) → Option R)
def mkP (v : AVal) (h : AHeap) : Option (AVal × AHeap) := some (v, h)
def XC.Nat : XC → Prop
  | .p g => ∀ R args K, g R args K = (g AVal args some).bind K
  | .q g => ∀ R args h K, g R args h K = (g AVal args h some).bind K
  | .l g => ∀ R args h K, g R args h K = (g (AVal × AHeap) args h mkP).bind fun r => K r.1 r.2
def XC.Ok (P : Program) (i : FuncId) : XC → Prop
  | .p g => callable P i = true ∧ ∀ args h v, g AVal args some = some v → ACalls P i args h fun e h' => e = .ret v ∧ h' = h
  | .q g => callable P i = true ∧ ∀ args h v, g AVal args h some = some v → ACalls P i args h fun e h' => e = .ret v ∧ h' = h
  | .l g => callable P i = true ∧ ∀ args h v h', g (AVal × AHeap) args h mkP = some (v, h') → ACalls P i args h fun e g => e = .ret v ∧ g = h'
abbrev CT := List (Nat × XC)
def CT.Ok (P : Program) : CT → Prop
  | [] => True
  | (i, c) :: l => (c.Nat ∧ c.Ok P i) ∧ CT.Ok P l
def CT.Nat : CT → Prop
  | [] => True
  | (_, c) :: l => c.Nat ∧ CT.Nat l
theorem CT.Ok.find {P : Program} : ∀ {C : CT} {i : _root_.Nat} {c : XC}, CT.Ok P C → findN C i = some c → c.Nat ∧ c.Ok P i
  | [], i, c, _, h => by cases h
  | (k, x) :: l, i, c, hC, h => by
    rcases findN_some h with ⟨rfl, rfl⟩ | h
    · exact hC.1
    · exact CT.Ok.find hC.2 h
theorem CT.Nat.find : ∀ {C : CT} {i : _root_.Nat} {c : XC}, CT.Nat C → findN C i = some c → c.Nat
  | [], i, c, _, h => by cases h
  | (k, x) :: l, i, c, hC, h => by
    rcases findN_some h with ⟨rfl, rfl⟩ | h
    · exact hC.1
    · exact CT.Nat.find hC.2 h
theorem CT.Ok.nat {P : Program} : ∀ {C : CT}, CT.Ok P C → CT.Nat C
  | [], _ => trivial
  | (_, _) :: _, hC => ⟨hC.1.1, CT.Ok.nat hC.2⟩

structure XE where
  T : Tab
  C : List (Nat × XC)
  D : List (Nat × DPart)
  Ms : List (Nat × List Nat)
  Ml : List (Nat × List Nat)
  Mo : List (Nat × List Nat)
  n : Nat

def quietB (T : Tab) : Op → Bool
  | .alloc _ | .box _ _ | .buildSlice _ _ _ | .store _ _ _ | .makeSlice _ _ _ | .makeMap _ _ | .mapUpdate _ _ _ _ | .insert _ _ _ _ | .range _ _ | .next _ _ => false
  | .convert _ d _ => match T.und d with
    | some (.slice _) => false
    | _ => true
  | .call { callee := .builtin b, .. } => match b with
    | .append | .copy | .delete => false
    | _ => true
  | _ => true
section step
variable {R : Type}
def castD (T : Tab) (d : Option Nat) (t : Nat) (v : AVal) : Option AVal := match d with
  | none => some v
  | some _ => castT T t v
def castDK (T : Tab) (d : Option Nat) (t : Nat) (v : AVal) (K : AVal → Option R) : Option R := match d with
  | none => K v
  | some _ => castK T t v K
theorem castDK_eq (T : Tab) (d : Option Nat) (t : Nat) (v : AVal) (K : AVal → Option R) : castDK T d t v K = (castD T d t v).bind K := by
  cases d
  · rfl
  · exact castK_eq ..
noncomputable def xstepQ (E : XE) (only : Bool) (o : Oper) (f : Fr) (h : AHeap) (K : AVal → Option R) : Option R := match o.op with
  | .call { callee := .value fv, args, .. } => match fEval f fv with
    | .fn (.func i) vs ws => match findN E.C i with
      | some (.p g) => g R (vs ++ evsF (fEval f) args ++ ws) fun v => castDK E.T o.dst o.type v K
      | some (.q g) => match only with
        | true => none
        | false => g R (vs ++ evsF (fEval f) args ++ ws) h fun v => castDK E.T o.dst o.type v K
      | _ => none
    | _ => none
  | op => match quietB E.T op with
    | true => xqK E.T op (fEval f) h fun v => castDK E.T o.dst o.type v K
    | false => none
noncomputable def xstep (E : XE) (o : Oper) (f : Fr) (h : AHeap) (K : AVal → AHeap → Option R) : Option R := match o.op with
  | .call { callee := .value fv, args, .. } => match fEval f fv with
    | .fn (.func i) vs ws => match findN E.C i with
      | some (.p g) => g R (vs ++ evsF (fEval f) args ++ ws) fun v => castDK E.T o.dst o.type v fun v => K v h
      | some (.q g) => g R (vs ++ evsF (fEval f) args ++ ws) h fun v => castDK E.T o.dst o.type v fun v => K v h
      | some (.l g) => g R (vs ++ evsF (fEval f) args ++ ws) h fun v h => castDK E.T o.dst o.type v fun v => K v h
      | _ => none
    | _ => none
  | op => match quietB E.T op with
    | true => xqK E.T op (fEval f) h fun v => castDK E.T o.dst o.type v fun v => K v h
    | false => xlK E.T op (fEval f) h fun v h => castDK E.T o.dst o.type v fun v => K v h
theorem castDK_bind (T : Tab) (d : Option Nat) (t : Nat) (v : AVal) (K : AVal → Option R) : castDK T d t v K = (castDK T d t v some).bind K := by
  rw [castDK_eq, castDK_eq, Option.bind_assoc]; rfl
theorem xstepQ_bind {E : XE} (hN : CT.Nat E.C) (only : Bool) (o : Oper) (f : Fr) (h : AHeap) (K : AVal → Option R) : xstepQ E only o f h K = (xstepQ E only o f h some).bind K := by
  unfold xstepQ
  split
  · split
    · split
      · rename_i g hg
        have hn := hN.find hg
        rw [hn R, hn AVal _ fun v => castDK E.T o.dst o.type v some, Option.bind_assoc]
        congr 1; funext v
        exact castDK_bind ..
      · rename_i g hg
        have hn := hN.find hg
        cases only with
        | true => rfl
        | false =>
          simp only
          rw [hn R, hn AVal _ _ fun v => castDK E.T o.dst o.type v some, Option.bind_assoc]
          congr 1; funext v
          exact castDK_bind ..
      · rfl
    · rfl
  · split
    · rw [xqK_eq, xqK_eq, Option.bind_assoc]
      congr 1; funext v
      exact castDK_bind ..
    · rfl
theorem castDK_bind2 (T : Tab) (d : Option Nat) (t : Nat) (v : AVal) (h : AHeap) (K : AVal → AHeap → Option R) : (castDK T d t v fun v => K v h) = (castDK T d t v fun v => mkP v h).bind fun r => K r.1 r.2 := by
  rw [castDK_eq, castDK_eq, Option.bind_assoc]; rfl
theorem xstep_bind {E : XE} (hN : CT.Nat E.C) (o : Oper) (f : Fr) (h : AHeap) (K : AVal → AHeap → Option R) : xstep E o f h K = (xstep E o f h mkP).bind fun r => K r.1 r.2 := by
  unfold xstep
  split
  · split
    · split
      · rename_i g hg
        have hn := hN.find hg
        rw [hn R, hn (AVal × AHeap) _ fun v => castDK E.T o.dst o.type v fun v => mkP v h, Option.bind_assoc]
        congr 1; funext v
        exact castDK_bind2 ..
      · rename_i g hg
        have hn := hN.find hg
        rw [hn R, hn (AVal × AHeap) _ _ fun v => castDK E.T o.dst o.type v fun v => mkP v h, Option.bind_assoc]
        congr 1; funext v
        exact castDK_bind2 ..
      · rename_i g hg
        have hn := hN.find hg
        rw [hn R, hn (AVal × AHeap) _ _ fun v h => castDK E.T o.dst o.type v fun v => mkP v h, Option.bind_assoc]
        congr 1; funext v
        exact castDK_bind2 ..
      · rfl
    · rfl
  · split
    · rw [xqK_eq, xqK_eq, Option.bind_assoc]
      congr 1; funext v
      exact castDK_bind2 ..
    · rw [xlK_eq, xlK_eq, Option.bind_assoc]
      congr 1; funext v
      exact castDK_bind2 ..
def fputK (n : Nat) (f : Fr) (d : Option Nat) (v : AVal) (K : Fr → Option R) : Option R := match d with
  | none => K f
  | some d => match Nat.blt d n with
    | true => K ((d, v) :: f)
    | false => none
theorem fputK_eq (n : Nat) (f : Fr) (d : Option Nat) (v : AVal) (K : Fr → Option R) : fputK n f d v K = (fput n f d v).bind K := by
  cases d with
  | none => rfl
  | some d => unfold fputK fput; simp only; cases Nat.blt d n <;> rfl
noncomputable def xguard (ops : Array Oper) (o : Oper) (f : Fr) (yes no : Fr → Option R) : Option R := match o.guard with
  | none => yes f
  | some (j, want) => match (ops[j]?).bind (·.dst) with
    | some d => match f.get d with
      | .lit (.bool b) => cond b (cond want (yes ((d, .lit (.bool true)) :: f)) (no ((d, .lit (.bool true)) :: f))) (cond want (no ((d, .lit (.bool false)) :: f)) (yes ((d, .lit (.bool false)) :: f)))
      | .lit (.tuple _) => no f
      | _ => none
    | none => none
noncomputable def xopsF {R : Type} (E : XE) (rid : Nat) (ops : Array Oper) (l : List Oper) : Nat → Fr → AHeap → (Fr → AHeap → Option R) → Option R :=
  List.rec (motive := fun _ => Nat → Fr → AHeap → (Fr → AHeap → Option R) → Option R) (fun _ f h K => K f h) (fun o _ ih i f h K => xguard ops o f
      (fun f => xstep E o f h fun v h => fputK E.n f o.dst v fun f => ih (i + 1) (maskO f (findN E.Mo (rid * 1000 + (i + 1)))) h K)
      (fun f => fputK E.n f o.dst skipV fun f => ih (i + 1) (maskO f (findN E.Mo (rid * 1000 + (i + 1)))) h K)) l
/-- What is behind an operation at which ways meet: stuck, so that its parts are compared, and it is not carried out. -/
noncomputable def joF : { g : ∀ R : Type, XE → Nat → Array Oper → List Oper → Nat → Fr → AHeap → (Fr → AHeap → Option R) → Option R // ∀ R E rid ops l i f h K, g R E rid ops l i f h K = xopsF E rid ops l i f h K } :=
  Classical.choice ⟨⟨fun R E rid ops l i f h K => xopsF E rid ops l i f h K, fun _ _ _ _ _ _ _ _ _ => rfl⟩⟩
noncomputable def jo {R : Type} (E : XE) (rid : Nat) (ops : Array Oper) (l : List Oper) (i : Nat) (f : Fr) (h : AHeap) (K : Fr → AHeap → Option R) : Option R := joF.1 R E rid ops l i f h K
theorem jo_eqF {R : Type} (E : XE) (rid : Nat) (ops : Array Oper) (l : List Oper) (i : Nat) (f : Fr) (h : AHeap) (K : Fr → AHeap → Option R) : jo E rid ops l i f h K = xopsF E rid ops l i f h K := joF.2 R E rid ops l i f h K
noncomputable def atOps {R : Type} (E : XE) (rid : Nat) (ops : Array Oper) (l : List Oper) (m : Option (List Nat)) (i : Nat) (f : Fr) (h : AHeap) (K : Fr → AHeap → Option R) (go : Fr → Option R) : Option R := match m with
  | none => go f
  | some ks => jo E rid ops l i (fmask f ks) h K
noncomputable def xops (E : XE) (rid : Nat) (ops : Array Oper) (l : List Oper) : Nat → Fr → AHeap → (Fr → AHeap → Option R) → Option R :=
  List.rec (motive := fun _ => Nat → Fr → AHeap → (Fr → AHeap → Option R) → Option R) (fun _ f h K => K f h) (fun o rest ih i f h K => xguard ops o f
      (fun f => xstep E o f h fun v h => fputK E.n f o.dst v fun f => atOps E rid ops rest (findN E.Mo (rid * 1000 + (i + 1))) (i + 1) f h K fun f => ih (i + 1) f h K)
      (fun f => fputK E.n f o.dst skipV fun f => atOps E rid ops rest (findN E.Mo (rid * 1000 + (i + 1))) (i + 1) f h K fun f => ih (i + 1) f h K)) l
theorem xopsF_cons (E : XE) (rid : Nat) (ops : Array Oper) (o : Oper) (rest : List Oper) (i : Nat) (f : Fr) (h : AHeap) (K : Fr → AHeap → Option R) : xopsF E rid ops (o :: rest) i f h K = xguard ops o f
      (fun f => xstep E o f h fun v h => fputK E.n f o.dst v fun f => xopsF E rid ops rest (i + 1) (maskO f (findN E.Mo (rid * 1000 + (i + 1)))) h K)
      (fun f => fputK E.n f o.dst skipV fun f => xopsF E rid ops rest (i + 1) (maskO f (findN E.Mo (rid * 1000 + (i + 1)))) h K) := rfl
theorem atOps_eqF (E : XE) (rid : Nat) (ops : Array Oper) (l : List Oper) (m : Option (List Nat)) (i : Nat) (f : Fr) (h : AHeap) (K : Fr → AHeap → Option R) (go : Fr → Option R) (hg : ∀ f, go f = xopsF E rid ops l i f h K) : atOps E rid ops l m i f h K go = xopsF E rid ops l i (maskO f m) h K := by
  cases m with
  | none => exact hg f
  | some ks => exact jo_eqF ..
theorem xopsF_eq {E : XE} {rid : Nat} {ops : Array Oper} : ∀ (l : List Oper) (i : Nat) (f : Fr) (h : AHeap) (K : Fr → AHeap → Option R), xopsF E rid ops l i f h K = xops E rid ops l i f h K
  | [], _, _, _, _ => rfl
  | o :: rest, i, f, h, K => by
    show xguard ops o f (fun f => xstep E o f h fun v h => fputK E.n f o.dst v fun f => xopsF E rid ops rest (i + 1) (maskO f (findN E.Mo (rid * 1000 + (i + 1)))) h K)
      (fun f => fputK E.n f o.dst skipV fun f => xopsF E rid ops rest (i + 1) (maskO f (findN E.Mo (rid * 1000 + (i + 1)))) h K) =
      xguard ops o f (fun f => xstep E o f h fun v h => fputK E.n f o.dst v fun f => atOps E rid ops rest (findN E.Mo (rid * 1000 + (i + 1))) (i + 1) f h K fun f => xops E rid ops rest (i + 1) f h K)
      (fun f => fputK E.n f o.dst skipV fun f => atOps E rid ops rest (findN E.Mo (rid * 1000 + (i + 1))) (i + 1) f h K fun f => xops E rid ops rest (i + 1) f h K)
    have e : ∀ f h, atOps E rid ops rest (findN E.Mo (rid * 1000 + (i + 1))) (i + 1) f h K (fun f => xops E rid ops rest (i + 1) f h K) = xopsF E rid ops rest (i + 1) (maskO f (findN E.Mo (rid * 1000 + (i + 1)))) h K :=
      fun f h => atOps_eqF _ _ _ _ _ _ _ _ _ _ fun f => (xopsF_eq rest _ _ _ _).symm
    simp only [e]
theorem jo_eq (E : XE) (rid : Nat) (ops : Array Oper) (l : List Oper) (i : Nat) (f : Fr) (h : AHeap) (K : Fr → AHeap → Option R) : jo E rid ops l i f h K = xops E rid ops l i f h K := (jo_eqF ..).trans (xopsF_eq ..)
theorem xops_nil (E : XE) (rid : Nat) (ops : Array Oper) (i : Nat) (f : Fr) (h : AHeap) (K : Fr → AHeap → Option R) : xops E rid ops [] i f h K = K f h := rfl
theorem xops_cons (E : XE) (rid : Nat) (ops : Array Oper) (o : Oper) (rest : List Oper) (i : Nat) (f : Fr) (h : AHeap) (K : Fr → AHeap → Option R) : xops E rid ops (o :: rest) i f h K = xguard ops o f
      (fun f => xstep E o f h fun v h => fputK E.n f o.dst v fun f => xops E rid ops rest (i + 1) (maskO f (findN E.Mo (rid * 1000 + (i + 1)))) h K)
      (fun f => fputK E.n f o.dst skipV fun f => xops E rid ops rest (i + 1) (maskO f (findN E.Mo (rid * 1000 + (i + 1)))) h K) := by
  rw [← xopsF_eq, xopsF_cons]
  simp only [xopsF_eq]
/-- The objects that the head makes: who makes them, their slots, how they are seen, what they have. -/
abbrev Pd := List (Nat × Option Nat × AMk × List AVal)
def pdGet : Pd → Nat → Option (Option Nat × AMk × List AVal)
  | [], _ => none
  | (i, d, m, cs) :: p, j => match Nat.beq i j with
    | true => some (d, m, cs)
    | false => pdGet p j
def pdSet : Pd → Nat → List AVal → Pd
  | [], _, _ => []
  | (i, d, m, cs) :: p, j, cs' => match Nat.beq i j with
    | true => (i, d, m, cs') :: p
    | false => (i, d, m, cs) :: pdSet p j cs'
/-- Stores into a whole new object. -/
def sti1 (cs : List AVal) (x : AVal) : Option (List AVal) := (req (x.one = true ∧ cs.length = 1)).bind fun _ => some [x]
def stin (n : Nat) (cs vs : List AVal) : Option (List AVal) := (req (vs.all (·.one) = true ∧ n = vs.length ∧ cs.length = n)).bind fun _ => some vs
def xstiK (T : Tab) (t : Nat) (x : AVal) (cs : List AVal) (K : List AVal → Option R) : Option R := match T.agg t, T.siz t with
  | some false, some 1 => (sti1 cs x).bind K
  | some true, some n => x.parts.bind fun vs => (stin n cs vs).bind K
  | _, _ => none
theorem xstiK_eq (T : Tab) (t : Nat) (x : AVal) (cs : List AVal) (K : List AVal → Option R) : xstiK T t x cs K = (xstiK T t x cs some).bind K := by
  unfold xstiK
  rcases T.agg t with _ | b
  · rfl
  · rcases T.siz t with _ | n
    · cases b <;> rfl
    · cases b
      · rcases n with _ | _ | n <;> first | rfl | simp
      · simp [Option.bind_assoc]
def notTmp (y : Operand) (d : Nat) : Bool := match y with
  | .tmp e => !(Nat.beq e d)
  | _ => true
def xsti (T : Tab) (n : Nat) (o : Oper) (g : Operand → AVal) (q : Option (Option Nat × AMk × List AVal)) (K : List AVal → Option R) : Option R := match o.op with
  | .store t (.tmp e) y => match q with
    | some (some d, .ptr, cs) => match Nat.beq e d && notTmp y d && Nat.blt d n && o.dst.isNone with
      | true => xstiK T t (g y) cs K
      | false => none
    | _ => none
  | _ => none
theorem xsti_eq (T : Tab) (n : Nat) (o : Oper) (g : Operand → AVal) (q : Option (Option Nat × AMk × List AVal)) (K : List AVal → Option R) : xsti T n o g q K = (xsti T n o g q some).bind K := by
  unfold xsti
  split
  · split
    · split
      · exact xstiK_eq ..
      · rfl
    · rfl
  · rfl
def shutB (A : List Nat) (cs : List AVal) : Bool := match Nat.ble 2 A.length with
  | true => closedL cs
  | false => true
noncomputable def xopsQ (E : XE) (ops : Array Oper) (A : List Nat) (S : Sts) (h : AHeap) (l : List Nat) : Fr → Pd → (Fr → Pd → Option R) → Option R :=
  List.rec (motive := fun _ => Fr → Pd → (Fr → Pd → Option R) → Option R) (fun f p K => K f p) (fun i _ ih f p K => match ops[i]? with
    | some o => xguard ops o f
      (fun f => match obOf S i with
        | some j => xsti E.T E.n o (fEval f) (pdGet p j) fun cs => ih f (pdSet p j cs) K
        | none => match A.contains i with
          | true => xA E.T o.op (fEval f) fun m cs => cond (shutB A cs) (fputK E.n f o.dst .any fun f => ih f (p ++ [(i, o.dst, m, cs)]) K) none
          | false => xstepQ E (!A.isEmpty) o f h fun v => fputK E.n f o.dst v fun f => ih f p K)
      (fun f => fputK E.n f o.dst skipV fun f => ih f p K)
    | none => none) l
theorem xopsQ_cons (E : XE) (ops : Array Oper) (A : List Nat) (S : Sts) (h : AHeap) (i : Nat) (rest : List Nat) (f : Fr) (p : Pd) (K : Fr → Pd → Option R) : xopsQ E ops A S h (i :: rest) f p K = match ops[i]? with
    | some o => xguard ops o f
      (fun f => match obOf S i with
        | some j => xsti E.T E.n o (fEval f) (pdGet p j) fun cs => xopsQ E ops A S h rest f (pdSet p j cs) K
        | none => match A.contains i with
          | true => xA E.T o.op (fEval f) fun m cs => cond (shutB A cs) (fputK E.n f o.dst .any fun f => xopsQ E ops A S h rest f (p ++ [(i, o.dst, m, cs)]) K) none
          | false => xstepQ E (!A.isEmpty) o f h fun v => fputK E.n f o.dst v fun f => xopsQ E ops A S h rest f p K)
      (fun f => fputK E.n f o.dst skipV fun f => xopsQ E ops A S h rest f p K)
    | none => none := rfl
/-- It is asked, whether it may be reckoned or not. -/
noncomputable def reqC (p : Prop) : Option Unit := @ite _ p (Classical.propDecidable p) (some ()) none
theorem reqC_some {p : Prop} {u : Unit} (h : reqC p = some u) : p := by
  unfold reqC at h
  split at h
  · assumption
  · cases h
theorem reqC_true {p : Prop} (h : p) : reqC p = some () := by unfold reqC; rw [if_pos h]
/-- Does the operation leave the memory? -/
noncomputable def stillB (E : XE) (o : Oper) (f : Fr) : Bool := match o.op with
  | .call { callee := .value fv, .. } => match fEval f fv with
    | .fn (.func i) _ _ => match findN E.C i with
      | some (.p _) => true
      | some (.q _) => true
      | _ => false
    | _ => false
  | op => quietB E.T op
noncomputable def xreads (E : XE) (ops : Array Oper) (h : AHeap) (l : List Nat) : Fr → List (Nat × AVal) → (Fr → List (Nat × AVal) → Option R) → Option R :=
  List.rec (motive := fun _ => Fr → List (Nat × AVal) → (Fr → List (Nat × AVal) → Option R) → Option R) (fun f ls K => K f ls) (fun i _ ih f ls K => match ops[i]? with
    | some o => match o.guard with
      | none => xstepQ E false o f h fun v => fputK E.n f o.dst v fun f => ih f (ls ++ [(i, v)]) K
      | some _ => none
    | none => none) l
theorem xreads_cons (E : XE) (ops : Array Oper) (h : AHeap) (i : Nat) (rest : List Nat) (f : Fr) (ls : List (Nat × AVal)) (K : Fr → List (Nat × AVal) → Option R) : xreads E ops h (i :: rest) f ls K = match ops[i]? with
    | some o => match o.guard with
      | none => xstepQ E false o f h fun v => fputK E.n f o.dst v fun f => xreads E ops h rest f (ls ++ [(i, v)]) K
      | some _ => none
    | none => none := rfl
noncomputable def xchk (E : XE) (ops : Array Oper) (f : Fr) (h : AHeap) (K : Option R) (ls : List (Nat × AVal)) : Option R :=
  List.rec (motive := fun _ => Option R) K (fun r _ ih => match ops[r.1]? with
    | some o => match freeB o.op with
      | true => ih
      | false => (reqC (xstepQ E false o f h some = some r.2)).bind fun _ => ih
    | none => none) ls
theorem xchk_cons (E : XE) (ops : Array Oper) (f : Fr) (h : AHeap) (K : Option R) (r : Nat × AVal) (ls : List (Nat × AVal)) : xchk E ops f h K (r :: ls) = match ops[r.1]? with
    | some o => match freeB o.op with
      | true => xchk E ops f h K ls
      | false => (reqC (xstepQ E false o f h some = some r.2)).bind fun _ => xchk E ops f h K ls
    | none => none := rfl
noncomputable def xopsL (E : XE) (ops : Array Oper) (T : TP) : List (Nat × AVal) → Fr → AHeap → (Fr → AHeap → Option R) → Option R :=
  List.rec (motive := fun _ => List (Nat × AVal) → Fr → AHeap → (Fr → AHeap → Option R) → Option R) (fun _ f h K => K f h) (fun x _ ih ls f h K => match ops[x.1]? with
    | some o => xguard ops o f
      (fun f => xstep E o f h fun v h' => fputK E.n f o.dst v fun f' => match stillB E o f with
        | true => ih (pendAfter x.2 ls) f' h' K
        | false => xchk E ops f' h' (ih (pendAfter x.2 ls) f' h' K) (pendAfter x.2 ls))
      (fun f => fputK E.n f o.dst skipV fun f => ih (pendAfter x.2 ls) f h K)
    | none => none) T
theorem xopsL_cons (E : XE) (ops : Array Oper) (x : Nat × List Nat) (T : TP) (ls : List (Nat × AVal)) (f : Fr) (h : AHeap) (K : Fr → AHeap → Option R) : xopsL E ops (x :: T) ls f h K = match ops[x.1]? with
    | some o => xguard ops o f
      (fun f => xstep E o f h fun v h' => fputK E.n f o.dst v fun f' => match stillB E o f with
        | true => xopsL E ops T (pendAfter x.2 ls) f' h' K
        | false => xchk E ops f' h' (xopsL E ops T (pendAfter x.2 ls) f' h' K) (pendAfter x.2 ls))
      (fun f => fputK E.n f o.dst skipV fun f => xopsL E ops T (pendAfter x.2 ls) f h K)
    | none => none := rfl
/-- Moves and sums that come first. -/
def xfl1 (T : Tab) (o : Oper) (g : Operand → AVal) (K : AVal → Option R) : Option R := match o.guard with
  | some _ => none
  | none => match o.op with
    | .move x => K (g x)
    | .assign x => K (g x)
    | .binOp op t x y _ => match g x, g y with
      | .lit (.int k a), .lit (.int k' b) => xBinK T op t x y (.lit (.int k a)) (.lit (.int k' b)) K
      | _, _ => none
    | _ => none
theorem xfl1_eq (T : Tab) (o : Oper) (g : Operand → AVal) (K : AVal → Option R) : xfl1 T o g K = (xfl1 T o g some).bind K := by
  unfold xfl1
  split
  · rfl
  · split
    · rfl
    · rfl
    · split
      · rw [xBinK_eq, xBinK_eq, Option.bind_assoc]; rfl
      · rfl
    · rfl
noncomputable def xflt (T : Tab) (n : Nat) (ops : Array Oper) (l : List Nat) : Fr → (Fr → Option R) → Option R :=
  List.rec (motive := fun _ => Fr → (Fr → Option R) → Option R) (fun f K => K f) (fun i _ ih f K => match ops[i]? with
    | some o => xfl1 T o (fEval f) fun v => fputK n f o.dst v fun f => ih f K
    | none => none) l
theorem xflt_cons (T : Tab) (n : Nat) (ops : Array Oper) (i : Nat) (rest : List Nat) (f : Fr) (K : Fr → Option R) : xflt T n ops (i :: rest) f K = match ops[i]? with
    | some o => xfl1 T o (fEval f) fun v => fputK n f o.dst v fun f => xflt T n ops rest f K
    | none => none := rfl
/-- They are there. -/
def pdHeap : Pd → List AObj
  | [] => []
  | (_, _, _, cs) :: p => .cells cs :: pdHeap p
def pdOn (h : AHeap) (p : Pd) : AHeap := match p with
  | [] => h
  | x :: p => h ++ pdHeap (x :: p)
theorem pdOn_eq (h : AHeap) (p : Pd) : pdOn h p = h ++ pdHeap p := by
  cases p with
  | nil => simp [pdOn, pdHeap]
  | cons x p => rfl
def pdFill (n : Nat) : Pd → Nat → Fr → (Fr → Option R) → Option R
  | [], _, f, K => K f
  | (_, d, m, _) :: p, b, f, K => fputK n f d (m.val b) fun f => pdFill n p (b + 1) f K
end step
end Go.Proofs.YtglmofbcooefkaaDoor.AL
/- Code, reckoned: what a run comes to. -/
namespace Go.Proofs.YtglmofbcooefkaaDoor.AL
set_option linter.unusedVariables false
set_option linter.unusedSimpArgs false
open Go

variable {ρ ρ' : Env} {h h' : AHeap} {w w' : World} {P : Program}

theorem castD_same {T : Tab} {d : Option Nat} {t : Nat} {v v' : AVal} (hc : castD T d t v = some v') : v' = v := by
  unfold castD at hc
  split at hc
  · cases hc; rfl
  · exact castT_eq hc
theorem castDK_some {R : Type} {T : Tab} {d : Option Nat} {t : Nat} {v : AVal} {K : AVal → Option R} {r : R} (hc : castDK T d t v K = some r) : K v = some r := by
  rw [castDK_eq] at hc
  obtain ⟨v', h1, h2⟩ := Option.bind_eq_some_iff.1 hc
  rw [castD_same h1] at h2; exact h2

/-! ### One step is what the logic asks -/
structure XE.Ok (E : XE) (P : Program) : Prop where
  T : E.T.Ok P
  C : CT.Ok P E.C

theorem xstep_ok {R : Type} {E : XE} (hE : E.Ok P) {o : Oper} {f : Fr} {K0 : AVal → AHeap → Option R} {r : R} {K : List AVal → AHeap → Prop} {Q : AQ} (hw : f.Wf E.n) (hs : xstep E o f h K0 = some r)
    (hK : ∀ v h', K0 v h' = some r → K (aset (f.lst E.n) o.dst v) h') : AOper P o (f.lst E.n) h K Q := by
  unfold xstep at hs
  unfold AOper
  have ev := aEval_lst hw
  have plain : (match quietB E.T o.op with
    | true => xqK E.T o.op (fEval f) h fun v => castDK E.T o.dst o.type v fun v => K0 v h
    | false => xlK E.T o.op (fEval f) h fun v h => castDK E.T o.dst o.type v fun v => K0 v h) = some r → AOp P o.op o.type (f.lst E.n) h fun v h' => K (aset (f.lst E.n) o.dst v) h' := by
    intro hs
    split at hs
    · rw [xqK_eq] at hs
      obtain ⟨v, h1, hs⟩ := Option.bind_eq_some_iff.1 hs
      exact xq_ok hE.T (by rw [ev]; exact h1) (hK _ _ (castDK_some hs))
    · rw [xlK_eq] at hs
      obtain ⟨v, h1, hs⟩ := Option.bind_eq_some_iff.1 hs
      exact xl_ok hE.T (by rw [ev]; exact h1) (hK _ _ (castDK_some hs))
  split
  · rename_i fv args tys he
    simp only [he] at hs
    unfold ACall
    rw [ev]
    split at hs
    · rename_i i vs ws hf
      simp only [hf]
      have evs_eq : evs (f.lst E.n) args = evsF (fEval f) args := by unfold evs evsF; rw [ev]
      split at hs
      · rename_i g hg
        obtain ⟨hn, hc⟩ := hE.C.find hg
        rw [hn] at hs
        obtain ⟨v, h1, hs⟩ := Option.bind_eq_some_iff.1 hs
        refine ⟨hc.1, ?_⟩
        rw [evs_eq]
        refine (hc.2 _ h _ h1).mono ?_
        rintro e h' ⟨rfl, rfl⟩
        exact hK _ _ (castDK_some hs)
      · rename_i g hg
        obtain ⟨hn, hc⟩ := hE.C.find hg
        rw [hn] at hs
        obtain ⟨v, h1, hs⟩ := Option.bind_eq_some_iff.1 hs
        refine ⟨hc.1, ?_⟩
        rw [evs_eq]
        refine (hc.2 _ _ _ h1).mono ?_
        rintro e h' ⟨rfl, rfl⟩
        exact hK _ _ (castDK_some hs)
      · rename_i g hg
        obtain ⟨hn, hc⟩ := hE.C.find hg
        rw [hn] at hs
        obtain ⟨r', h1, hs⟩ := Option.bind_eq_some_iff.1 hs
        refine ⟨hc.1, ?_⟩
        rw [evs_eq]
        refine (hc.2 _ _ _ _ h1).mono ?_
        rintro e h' ⟨rfl, rfl⟩
        exact hK _ _ (castDK_some hs)
      · cases hs
    · cases hs
  · rename_i hn
    refine plain ?_
    split at hs
    · rename_i he; exact (hn _ _ _ he).elim
    · exact hs

theorem xstepQ_ok {R : Type} {E : XE} (hE : E.Ok P) {only : Bool} {o : Oper} {f : Fr} {K0 : AVal → Option R} {r : R} (hw : f.Wf E.n) (hs : xstepQ E only o f h K0 = some r) :
    ∃ v, K0 v = some r ∧ ∀ e : AHeap, (only = false → e = []) → AOpQ P o (f.lst E.n) (h ++ e) v := by
  unfold xstepQ at hs
  unfold AOpQ
  have ev := aEval_lst hw
  split
  · rename_i fv args tys he
    simp only [he] at hs
    rw [ev]
    split at hs
    · rename_i i vs ws hf
      simp only [hf]
      have evs_eq : evs (f.lst E.n) args = evsF (fEval f) args := by unfold evs evsF; rw [ev]
      split at hs
      · rename_i g hg
        obtain ⟨hn, hc⟩ := hE.C.find hg
        rw [hn] at hs
        obtain ⟨v, h1, hs⟩ := Option.bind_eq_some_iff.1 hs
        refine ⟨v, castDK_some hs, fun e _ => ⟨hc.1, ?_⟩⟩
        rw [evs_eq]
        exact hc.2 _ _ _ h1
      · rename_i g hg
        obtain ⟨hn, hc⟩ := hE.C.find hg
        cases only with
        | true => cases hs
        | false =>
          simp only at hs
          rw [hn] at hs
          obtain ⟨v, h1, hs⟩ := Option.bind_eq_some_iff.1 hs
          refine ⟨v, castDK_some hs, fun e he => ⟨hc.1, ?_⟩⟩
          rw [evs_eq, he rfl, List.append_nil]
          exact hc.2 _ _ _ h1
      · cases hs
    · cases hs
  · rename_i hn
    split at hs
    · rename_i he; exact (hn _ _ _ he).elim
    · split at hs
      · rw [xqK_eq] at hs
        obtain ⟨v, h1, hs⟩ := Option.bind_eq_some_iff.1 hs
        exact ⟨v, castDK_some hs, fun e _ => xq_ok hE.T (by rw [ev]; exact xq_more e h1) ⟨rfl, rfl⟩⟩
      · cases hs

theorem lst_same {n d : Nat} {f : Fr} {v : AVal} (hg : f.get d = v) : Fr.lst n ((d, v) :: f) = f.lst n := by
  unfold Fr.lst
  refine List.map_congr_left fun i _ => ?_
  rw [Fr.get_cons]
  by_cases h : i = d
  · subst h; rw [if_pos rfl]; exact hg.symm
  · rw [if_neg h]
theorem wf_same {n d : Nat} {f : Fr} {v : AVal} (hg : f.get d = v) (hw : f.Wf n) : Fr.Wf n ((d, v) :: f) := by
  intro t ht
  rw [Fr.get_cons]
  by_cases h : t = d
  · subst h; rw [if_pos rfl, ← hg]; exact hw _ ht
  · rw [if_neg h]; exact hw _ ht

theorem xguard_ok {R : Type} {n : Nat} {ops : Array Oper} {o : Oper} {f : Fr} {yes no : Fr → Option R} {r : R} (hw : f.Wf n) (hx : xguard ops o f yes no = some r) :
    ∃ g : Fr, g.Wf n ∧ g.lst n = f.lst n ∧ ((Want2 ops o (f.lst n) = some true ∧ yes g = some r) ∨ (Want2 ops o (f.lst n) = some false ∧ no g = some r)) := by
  unfold xguard at hx; unfold Want2
  rcases hg : o.guard with _ | ⟨j, want⟩
  · simp only [hg] at hx ⊢; exact ⟨f, hw, rfl, .inl ⟨by first | trivial | rfl, hx⟩⟩
  · simp only [hg] at hx ⊢
    rcases hd : (ops[j]?).bind (·.dst) with _ | d
    · simp [hd] at hx
    · simp only [hd] at hx ⊢
      rw [aget_lst hw]
      split at hx
      · rename_i b hb
        simp only [hb]
        cases b with
        | true =>
          refine ⟨_, wf_same hb hw, lst_same (n := n) hb, ?_⟩
          cases want with
          | true => exact .inl ⟨rfl, hx⟩
          | false => exact .inr ⟨rfl, hx⟩
        | false =>
          refine ⟨_, wf_same hb hw, lst_same (n := n) hb, ?_⟩
          cases want with
          | true => exact .inr ⟨rfl, hx⟩
          | false => exact .inl ⟨rfl, hx⟩
      · rename_i us hb
        simp only [hb]
        exact ⟨f, hw, rfl, .inr ⟨by first | trivial | rfl, hx⟩⟩
      · cases hx

theorem xops_ok {R : Type} {E : XE} (hE : E.Ok P) {rid : Nat} {ops : Array Oper} {Q : AQ} {K : Fr → AHeap → Option R} {r : R} (hQ : ∀ f h, f.Wf E.n → K f h = some r → Q .normal (f.lst E.n) h) :
    ∀ (l : List Oper) (i : Nat) (f f0 : Fr) (h : AHeap), f.Wf E.n → Weak (f0.lst E.n) (f.lst E.n) → xops E rid ops l i f h K = some r → WOps P ops Q l (f0.lst E.n) h
  | [], i, f, f0, h, hw, hwk, hx => ⟨_, hwk, hQ f h hw hx⟩
  | o :: rest, i, f, f0, h, hw, hwk, hx => by
    refine ⟨f.lst E.n, hwk, ?_⟩
    rw [xops_cons] at hx
    obtain ⟨g, hg, hl, hx⟩ := xguard_ok hw hx
    rcases hx with ⟨hw2, hx⟩ | ⟨hw2, hx⟩
    · refine .inl ⟨hw2, ?_⟩
      rw [← hl]
      refine xstep_ok hE hg hx fun v h' hx => ?_
      rw [fputK_eq] at hx
      obtain ⟨f', h2, hx⟩ := Option.bind_eq_some_iff.1 hx
      obtain ⟨e1, e2⟩ := fput_some h2 hg
      rw [← e1]
      exact xops_ok hE hQ rest (i + 1) _ f' _ (maskO_wf e2 _) (maskO_weak _ _ _) hx
    · refine .inr ⟨hw2, ?_⟩
      rw [fputK_eq] at hx
      obtain ⟨f', h2, hx⟩ := Option.bind_eq_some_iff.1 hx
      obtain ⟨e1, e2⟩ := fput_some h2 hg
      rw [← hl, ← e1]
      exact xops_ok hE hQ rest (i + 1) _ f' _ (maskO_wf e2 _) (maskO_weak _ _ _) hx

theorem xstepV_ok {R : Type} {E : XE} (hE : E.Ok P) {o : Oper} {f : Fr} {K0 : AVal → AHeap → Option R} {r : R} {K : AVal → AHeap → Prop} (hw : f.Wf E.n) (hs : xstep E o f h K0 = some r)
    (hK : ∀ v h', (stillB E o f = true → h' = h) → K0 v h' = some r → K v h') : AOperV P o (f.lst E.n) h K := by
  unfold xstep at hs
  unfold AOperV
  have ev := aEval_lst hw
  split
  · rename_i fv args tys he
    simp only [he] at hs
    rw [ev]
    split at hs
    · rename_i i vs ws hf
      simp only [hf]
      have evs_eq : evs (f.lst E.n) args = evsF (fEval f) args := by unfold evs evsF; rw [ev]
      split at hs
      · rename_i g hg
        obtain ⟨hn, hc⟩ := hE.C.find hg
        rw [hn] at hs
        obtain ⟨v, h1, hs⟩ := Option.bind_eq_some_iff.1 hs
        refine ⟨hc.1, ?_⟩
        rw [evs_eq]
        refine (hc.2 _ h _ h1).mono ?_
        rintro e h' ⟨rfl, rfl⟩
        exact ⟨v, rfl, hK _ _ (fun _ => rfl) (castDK_some hs)⟩
      · rename_i g hg
        obtain ⟨hn, hc⟩ := hE.C.find hg
        rw [hn] at hs
        obtain ⟨v, h1, hs⟩ := Option.bind_eq_some_iff.1 hs
        refine ⟨hc.1, ?_⟩
        rw [evs_eq]
        refine (hc.2 _ _ _ h1).mono ?_
        rintro e h' ⟨rfl, rfl⟩
        exact ⟨v, rfl, hK _ _ (fun _ => rfl) (castDK_some hs)⟩
      · rename_i g hg
        obtain ⟨hn, hc⟩ := hE.C.find hg
        rw [hn] at hs
        obtain ⟨r', h1, hs⟩ := Option.bind_eq_some_iff.1 hs
        refine ⟨hc.1, ?_⟩
        rw [evs_eq]
        refine (hc.2 _ _ _ _ h1).mono ?_
        rintro e h' ⟨rfl, rfl⟩
        refine ⟨r'.1, rfl, hK _ _ (fun hst => ?_) (castDK_some hs)⟩
        unfold stillB at hst
        simp only [he, hf, hg] at hst
        cases hst
      · cases hs
    · cases hs
  · rename_i hn
    split at hs
    · rename_i he; exact (hn _ _ _ he).elim
    · rename_i hnv
      split at hs
      · rw [xqK_eq] at hs
        obtain ⟨v, h1, hs⟩ := Option.bind_eq_some_iff.1 hs
        exact xq_ok hE.T (by rw [ev]; exact h1) (hK _ _ (fun _ => rfl) (castDK_some hs))
      · rename_i hqb
        rw [xlK_eq] at hs
        obtain ⟨v, h1, hs⟩ := Option.bind_eq_some_iff.1 hs
        refine xl_ok hE.T (by rw [ev]; exact h1) (hK _ _ (fun hst => ?_) (castDK_some hs))
        unfold stillB at hst
        split at hst
        · rename_i he; exact (hn _ _ _ he).elim
        · rw [hqb] at hst; cases hst
theorem xchk_ok {R : Type} {E : XE} (hE : E.Ok P) {ops : Array Oper} {f : Fr} {h' : AHeap} {K : Option R} {r : R} (hw : f.Wf E.n) : ∀ {ls : List (Nat × AVal)}, xchk E ops f h' K ls = some r →
    (∀ x ∈ ls, ∃ o, ops[x.1]? = some o ∧ o.guard = none ∧ (freeB o.op = true → AOpQ P o (f.lst E.n) h' x.2)) → K = some r ∧ ∀ x ∈ ls, HoldsAt P ops x (f.lst E.n) h'
  | [], hx, _ => ⟨hx, fun x hm => by cases hm⟩
  | x :: ls, hx, hf => by
    obtain ⟨o, ho, hg, hfr⟩ := hf x (by simp)
    rw [xchk_cons, ho] at hx
    simp only at hx
    cases hb : freeB o.op with
    | true =>
      rw [hb] at hx
      obtain ⟨h1, h2⟩ := xchk_ok hE hw hx fun y hy => hf y (by simp [hy])
      refine ⟨h1, fun y hy => ?_⟩
      rcases List.mem_cons.1 hy with rfl | hy
      · exact ⟨o, ho, hg, hfr hb⟩
      · exact h2 y hy
    | false =>
      rw [hb] at hx
      obtain ⟨u, hq, hx⟩ := Option.bind_eq_some_iff.1 hx
      obtain ⟨h1, h2⟩ := xchk_ok hE hw hx fun y hy => hf y (by simp [hy])
      refine ⟨h1, fun y hy => ?_⟩
      rcases List.mem_cons.1 hy with rfl | hy
      · obtain ⟨v, h3, h4⟩ := xstepQ_ok hE hw (reqC_some hq)
        cases h3
        have := h4 [] (fun _ => rfl)
        rw [List.append_nil] at this
        exact ⟨o, ho, hg, this⟩
      · exact h2 y hy
theorem xopsL_ok {R : Type} {E : XE} (hE : E.Ok P) {ops : Array Oper} {Q : AQ} {K : Fr → AHeap → Option R} {r : R} (hQ : ∀ f h, f.Wf E.n → K f h = some r → Q .normal (f.lst E.n) h) :
    ∀ (T : TP) (ls : List (Nat × AVal)) (f : Fr) (h : AHeap), (∀ k pk, (k, pk) ∈ T → ∀ i ∈ pk, ∃ oi ok, ops[i]? = some oi ∧ ops[k]? = some ok ∧ oi.apart ops ok = true) → f.Wf E.n → (∀ x ∈ ls, HoldsAt P ops x (f.lst E.n) h) →
      xopsL E ops T ls f h K = some r → LOps P ops Q T ls (f.lst E.n) h
  | [], ls, f, h, _, hw, _, hx => hQ f h hw hx
  | (k, pk) :: T, ls, f, h, hsep, hw, hls, hx => by
    rw [xopsL_cons] at hx
    cases ho : ops[k]? with
    | none => rw [ho] at hx; cases hx
    | some o =>
      rw [ho] at hx
      simp only at hx
      refine ⟨o, ho, ?_⟩
      have keep : ∀ (d : Option Nat) (v : AVal), d = o.dst → ∀ x ∈ pendAfter pk ls, HoldsAt P ops x (aset (f.lst E.n) d v) h := fun d v hd x hx => by
        obtain ⟨h1, h2⟩ := pendAfter_mem.1 hx
        subst hd
        refine (hls x h1).put fun oi hoi e he => ?_
        obtain ⟨oi', ok, h3, h4, h5⟩ := hsep k pk (by simp) x.1 h2
        rw [hoi] at h3; cases h3
        rw [ho] at h4; cases h4
        exact (Oper.apart_spec h5).2.2 e he
      obtain ⟨g, hg, hl, hx⟩ := xguard_ok hw hx
      rcases hx with ⟨hw2, hx⟩ | ⟨hw2, hx⟩
      · refine .inl ⟨hw2, ?_⟩
        rw [← hl]
        refine xstepV_ok hE hg hx fun v h' hst hx1 => ?_
        rw [fputK_eq] at hx1
        obtain ⟨f', h2, hx2⟩ := Option.bind_eq_some_iff.1 hx1
        obtain ⟨e1, e2⟩ := fput_some h2 hg
        have kp := keep o.dst v rfl
        rw [← hl, ← e1] at kp
        rw [← e1]
        cases hs : stillB E o g with
        | true =>
          rw [hs] at hx2
          have := hst hs
          subst this
          exact ⟨kp, xopsL_ok hE hQ T _ f' _ (fun k pk hk => hsep k pk (by simp [hk])) e2 kp hx2⟩
        | false =>
          rw [hs] at hx2
          obtain ⟨h3, h4⟩ := xchk_ok hE e2 hx2 fun x hm => by
            obtain ⟨oi, a1, a2, a3⟩ := kp x hm
            exact ⟨oi, a1, a2, fun hf => aOpQ_free hf a3⟩
          exact ⟨h4, xopsL_ok hE hQ T _ f' h' (fun k pk hk => hsep k pk (by simp [hk])) e2 h4 h3⟩
      · refine .inr ⟨hw2, ?_⟩
        rw [fputK_eq] at hx
        obtain ⟨f', h2, hx⟩ := Option.bind_eq_some_iff.1 hx
        obtain ⟨e1, e2⟩ := fput_some h2 hg
        have kp := keep o.dst skipV rfl
        refine ⟨kp, ?_⟩
        rw [← hl, ← e1] at kp
        rw [← hl, ← e1]
        exact xopsL_ok hE hQ T _ f' h (fun k pk hk => hsep k pk (by simp [hk])) e2 kp hx
theorem xreads_ok {R : Type} {E : XE} (hE : E.Ok P) {ops : Array Oper} {Q : AQ} {T : TP} {K : Fr → List (Nat × AVal) → Option R} {r : R}
    (hQ : ∀ f ls, f.Wf E.n → K f ls = some r → (∀ x ∈ ls, HoldsAt P ops x (f.lst E.n) h) → LOps P ops Q T ls (f.lst E.n) h) :
    ∀ (is : List Nat) (f : Fr) (ls : List (Nat × AVal)), f.Wf E.n → xreads E ops h is f ls K = some r → LRd P ops Q T h is ls (f.lst E.n)
  | [], f, ls, hw, hx => fun hls => hQ f ls hw hx hls
  | i :: is, f, ls, hw, hx => by
    rw [xreads_cons] at hx
    split at hx
    · rename_i o ho
      split at hx
      · rename_i hg
        obtain ⟨v, hx, h1⟩ := xstepQ_ok hE hw hx
        have h1 := h1 [] (fun _ => rfl)
        rw [List.append_nil] at h1
        rw [fputK_eq] at hx
        obtain ⟨f', h2, hx⟩ := Option.bind_eq_some_iff.1 hx
        obtain ⟨e1, e2⟩ := fput_some h2 hw
        refine ⟨o, v, ho, hg, h1, ?_⟩
        rw [← e1]
        exact xreads_ok hE hQ is f' _ e2 hx
      · cases hx
    · cases hx

/-- The objects of the head, in order: what the head's ghost says, and what was gathered. -/
def Gath (ops : Array Oper) (S : Sts) (g : Gh) : List Nat → Pd → Prop
  | [], p => p = []
  | i :: A, p => match g i with
    | some D => ∃ p', p = (i, dstOf ops i, D.how, csOf S g i D) :: p' ∧ Gath ops S g A p'
    | none => Gath ops S g A p
theorem gath_heap {ops : Array Oper} {S : Sts} {g : Gh} : ∀ {A : List Nat} {p : Pd}, Gath ops S g A p → objsA S g A = pdHeap p
  | [], p, h => by unfold Gath at h; subst h; rfl
  | i :: A, p, h => by
    unfold Gath at h; unfold objsA
    split at h
    · rename_i D hg
      obtain ⟨p', rfl, h⟩ := h
      simp only [hg, pdHeap, gath_heap h]
    · rename_i hg
      simp only [hg]
      exact gath_heap h
theorem gath_fill {R : Type} {ops : Array Oper} {S : Sts} {g : Gh} {n : Nat} {K : Fr → Option R} {r : R} : ∀ {A : List Nat} {p : Pd} {b : Nat} {f : Fr}, Gath ops S g A p → f.Wf n → pdFill n p b f K = some r →
    ∃ f' : Fr, f'.Wf n ∧ f'.lst n = fillA ops g A b (f.lst n) ∧ K f' = some r
  | [], p, b, f, h, hw, hx => by unfold Gath at h; subst h; exact ⟨f, hw, rfl, hx⟩
  | i :: A, p, b, f, h, hw, hx => by
    unfold Gath at h; unfold fillA
    split at h
    · rename_i D hg
      obtain ⟨p', rfl, h⟩ := h
      simp only [pdFill] at hx
      rw [fputK_eq] at hx
      obtain ⟨f', h2, hx⟩ := Option.bind_eq_some_iff.1 hx
      obtain ⟨e1, e2⟩ := fput_some h2 hw
      have := gath_fill h e2 hx
      rw [e1] at this
      simp only [hg]
      exact this
    · rename_i hg
      simp only [hg]
      exact gath_fill h hw hx
/-- Those that make objects stand in the head's order. -/
def subB : List Nat → List Nat → Bool
  | [], _ => true
  | _ :: _, [] => false
  | a :: A, k :: l => cond (Nat.beq a k) (subB A l) (subB (a :: A) l && !(A.contains k))
theorem gath_none {ops : Array Oper} {S : Sts} {g : Gh} : ∀ {A : List Nat}, (∀ k ∈ A, g k = none) → Gath ops S g A []
  | [], _ => rfl
  | i :: A, h => by unfold Gath; rw [h i (by simp)]; exact gath_none fun k hk => h k (by simp [hk])
theorem gath_app {ops : Array Oper} {S : Sts} {g : Gh} : ∀ {A B : List Nat} {p q : Pd}, Gath ops S g A p → Gath ops S g B q → Gath ops S g (A ++ B) (p ++ q)
  | [], B, p, q, h, hq => by unfold Gath at h; subst h; exact hq
  | i :: A, B, p, q, h, hq => by
    unfold Gath at h
    show Gath ops S g (i :: (A ++ B)) (p ++ q)
    unfold Gath
    split at h
    · rename_i D hg
      obtain ⟨p', rfl, h⟩ := h
      exact ⟨p' ++ q, rfl, gath_app h hq⟩
    · exact gath_app h hq
theorem gath_congr {ops : Array Oper} {S : Sts} {g g' : Gh} : ∀ {A : List Nat} {p : Pd}, (∀ k ∈ A, g k = g' k ∧ ∀ D, csOf S g k D = csOf S g' k D) → Gath ops S g A p → Gath ops S g' A p
  | [], p, _, h => h
  | i :: A, p, hk, h => by
    unfold Gath at h ⊢
    rw [← (hk i (by simp)).1]
    split at h
    · obtain ⟨p', rfl, h⟩ := h
      exact ⟨p', by rw [(hk i (by simp)).2], gath_congr (fun k hk' => hk k (by simp [hk'])) h⟩
    · exact gath_congr (fun k hk' => hk k (by simp [hk'])) h
theorem csOf_other {S : Sts} {g : Gh} {i k : Nat} {d : Option AData} (h2 : stOf S k ≠ some i) (D : AData) : csOf S (gset g i d) k D = csOf S g k D := by
  have e2 : (stOf S k).bind (gset g i d) = (stOf S k).bind g := by
    cases hs : stOf S k with
    | none => rfl
    | some j =>
      rw [hs] at h2
      simp only [Option.bind_some, gset]
      rw [if_neg (fun e => h2 (by rw [e]))]
  unfold csOf
  rw [e2]
theorem gath_get {ops : Array Oper} {S : Sts} {g : Gh} {j : Nat} {d : Option Nat} {m : AMk} {cs : List AVal} : ∀ {A : List Nat} {p : Pd}, Gath ops S g A p → pdGet p j = some (d, m, cs) → j ∈ A ∧ ∃ D, g j = some D ∧ d = dstOf ops j ∧ m = D.how ∧ cs = csOf S g j D
  | [], p, h, hp => by unfold Gath at h; subst h; cases hp
  | i :: A, p, h, hp => by
    unfold Gath at h
    split at h
    · rename_i D hg
      obtain ⟨p', rfl, h⟩ := h
      unfold pdGet at hp
      split at hp
      · rename_i e
        have e := Nat.eq_of_beq_eq_true e
        subst e
        cases hp
        exact ⟨by simp, D, hg, rfl, rfl, rfl⟩
      · obtain ⟨h1, h2⟩ := gath_get h hp
        exact ⟨by simp [h1], h2⟩
    · obtain ⟨h1, h2⟩ := gath_get h hp
      exact ⟨by simp [h1], h2⟩
theorem pdSet_none {j : Nat} {cs : List AVal} : ∀ {p : Pd}, (∀ x ∈ p, x.1 ≠ j) → pdSet p j cs = p
  | [], _ => rfl
  | (i, d, m, c) :: p, h => by
    unfold pdSet
    have h1 : Nat.beq i j = false := by
      cases hb : Nat.beq i j with
      | false => rfl
      | true => exact absurd (Nat.eq_of_beq_eq_true hb) (h (i, d, m, c) (by simp))
    rw [h1]
    simp only
    rw [pdSet_none fun x hx => h x (by simp [hx])]
theorem gath_nums {ops : Array Oper} {S : Sts} {g : Gh} : ∀ {A : List Nat} {p : Pd}, Gath ops S g A p → ∀ x ∈ p, x.1 ∈ A
  | [], p, h, x, hx => by unfold Gath at h; subst h; cases hx
  | i :: A, p, h, x, hx => by
    unfold Gath at h
    split at h
    · obtain ⟨p', rfl, h⟩ := h
      rcases List.mem_cons.1 hx with rfl | hx
      · simp
      · exact List.mem_cons_of_mem _ (gath_nums h x hx)
    · exact List.mem_cons_of_mem _ (gath_nums h x hx)
theorem gath_set {ops : Array Oper} {S : Sts} {g g' : Gh} {j : Nat} {cs : List AVal} : ∀ {A : List Nat} {p : Pd}, A.Nodup → (∀ k ∈ A, g k = g' k ∧ (k ≠ j → ∀ D, csOf S g k D = csOf S g' k D)) → (∀ D, csOf S g' j D = cs) → Gath ops S g A p → Gath ops S g' A (pdSet p j cs)
  | [], p, _, _, _, h => by unfold Gath at h; subst h; exact rfl
  | i :: A, p, hn, hk, hj, h => by
    unfold Gath at h ⊢
    rw [← (hk i (by simp)).1]
    have hn' := List.nodup_cons.1 hn
    have ih : ∀ p, Gath ops S g A p → Gath ops S g' A (pdSet p j cs) := fun p h => gath_set hn'.2 (fun k hk' => hk k (by simp [hk'])) hj h
    split at h
    · obtain ⟨p', rfl, h⟩ := h
      unfold pdSet
      cases hb : Nat.beq i j with
      | true =>
        have e := Nat.eq_of_beq_eq_true hb
        subst e
        refine ⟨p', by rw [hj], ?_⟩
        have h2 := ih p' h
        rwa [pdSet_none] at h2
        exact fun x hx e => hn'.1 (e ▸ gath_nums h x hx)
      | false =>
        exact ⟨pdSet p' j cs, by simp only; rw [(hk i (by simp)).2 (Nat.ne_of_beq_eq_false hb)], ih p' h⟩
    · exact ih p h

theorem xsti_ok {T : Tab} (hT : T.Ok P) {n : Nat} {o : Oper} {f : Fr} {d : Option Nat} {m : AMk} {cs cs' : List AVal} (hw : f.Wf n) (hx : xsti T n o (fEval f) (some (d, m, cs)) some = some cs') :
    m = .ptr ∧ ∃ dj x, d = some dj ∧ o.dst = none ∧ (∀ f args tys, o.op ≠ .call { callee := .value f, args := args, argTypes := tys }) ∧ x ∈ o.op.operands ∧ cs' = cellsV (aEval (f.lst n) x) ∧
      ∀ (H : AHeap) (b : Nat), H[b]? = some (.cells cs) → AOp P o.op o.type (aset (f.lst n) (some dj) (.ptr b 0)) H fun _ G => G = H.set b (.cells (cellsV (aEval (f.lst n) x))) := by
  unfold xsti at hx
  split at hx
  · rename_i t e y ho
    split at hx
    · rename_i dj cs0 hq
      cases hq
      split at hx
      · rename_i hb
        simp only [Bool.and_eq_true] at hb
        obtain ⟨⟨⟨h1, h2⟩, h3⟩, h4⟩ := hb
        have e1 := Nat.eq_of_beq_eq_true h1
        subst e1
        have hlt : e < n := by
          have : Nat.ble (e + 1) n = true := h3
          exact Nat.le_of_ble_eq_true this
        refine ⟨rfl, e, y, rfl, by simpa using h4, fun _ _ _ he => (by rw [ho] at he; cases he), by rw [ho]; simp [Op.operands], ?_⟩
        have ey : aEval (f.lst n) y = fEval f y := by rw [aEval_lst hw]
        have hy : ∀ (v : AVal), aEval (aset (f.lst n) (some e) v) y = aEval (f.lst n) y := fun v => aEval_aset fun d hd he => by
          cases hd
          rw [he] at h2
          have hbe : Nat.beq e e = true := Nat.beq_refl e
          simp [notTmp, hbe] at h2
        have hp : ∀ v : AVal, aEval (aset (f.lst n) (some e) v) (.tmp e) = v := fun v => by
          have : e < (f.lst n).length := by simpa [Fr.lst] using hlt
          simp [aEval, aget, aset, List.getD, this]
        have fin : ∀ (H : AHeap) (b : Nat), H[b]? = some (.cells cs) → ∀ K, aStore P t H (.ptr b 0) (aEval (f.lst n) y) (fun h' => K .any h') → AOp P o.op o.type (aset (f.lst n) (some e) (.ptr b 0)) H K := fun H b hb K hK => by
          rw [ho]
          simp only [AOp]
          rw [hp, hy]; exact hK
        unfold xstiK at hx
        split at hx
        · rename_i ha hs
          unfold sti1 at hx
          obtain ⟨vs, hx, h5⟩ := Option.bind_eq_some_iff.1 hx
          cases h5
          obtain ⟨u, h6, hx⟩ := Option.bind_eq_some_iff.1 hx
          cases hx
          obtain ⟨h7, h8⟩ := req_some h6
          refine ⟨by rw [ey, cellsV_one h7], fun H b hb => fin H b hb _ ?_⟩
          unfold aStore
          simp only [hb, hT.agg ha]
          rw [← ey] at h7
          refine ⟨h7, hT.siz _ _ hs, by omega, ?_⟩
          rw [cellsV_one h7]
          congr 2
          cases cs with
          | nil => simp at h8
          | cons c l => cases l with
            | nil => rfl
            | cons c' l => simp at h8
        · rename_i k ha hs
          obtain ⟨vs, hpt, hx⟩ := Option.bind_eq_some_iff.1 hx
          obtain ⟨us, hx, h5⟩ := Option.bind_eq_some_iff.1 hx
          cases h5
          unfold stin at hx
          obtain ⟨u, h6, hx⟩ := Option.bind_eq_some_iff.1 hx
          cases hx
          obtain ⟨h7, h8, h9⟩ := req_some h6
          rw [← ey] at hpt
          have hc : cellsV (aEval (f.lst n) y) = cs' := by unfold cellsV; rw [hpt]
          refine ⟨hc.symm, fun H b hb => fin H b hb _ ?_⟩
          unfold aStore
          simp only [hb, hT.agg ha, hpt]
          refine ⟨h7, by rw [hT.siz _ _ hs, h8], by omega, ?_⟩
          rw [hc]
          congr 2
          unfold splice
          rw [List.take_zero, List.nil_append, List.drop_of_length_le (by omega), List.append_nil]
        · cases hx
      · cases hx
    · cases hx
  · cases hx

/-- Where the head stands: 'A1' are behind, 'A2' ahead. -/
theorem xopsQ_ok {R : Type} {E : XE} (hE : E.Ok P) {md : Region.Mode} {ops : Array Oper} {A : List Nat} {S : Sts} (hS : StsOk md ops A S) {r : R} {K : Fr → Pd → Option R} {K' : List AVal → Gh → Prop}
    (hQ : ∀ f p g, f.Wf E.n → Gath ops S g A p → K f p = some r → K' (f.lst E.n) g) :
    ∀ (l : List Nat) (A1 A2 : List Nat) (f : Fr) (p : Pd) (g : Gh), A = A1 ++ A2 → A.Nodup → subB A2 l = true → (∀ k ∈ A1, k ∉ l) → l.Nodup → f.Wf E.n → Gath ops S g A1 p → (∀ k ∈ l, g k = none) → (∀ k ∈ A2, g k = none) →
      (∀ t j, obOf S t = some j → g j = none → g t = none) → xopsQ E ops A S h l f p K = some r → AOps2 P ops A S h K' l (f.lst E.n) g
  | [], A1, A2, f, p, g, hA, hAn, hs, h1, hln, hw, hg, hn, hn2, hst, hx => by
    have h0 : A2 = [] := by cases A2 with
      | nil => rfl
      | cons x l => simp [subB] at hs
    subst h0
    rw [List.append_nil] at hA
    subst hA
    exact hQ f p g hw hg hx
  | i :: rest, A1, A2, f, p, g, hA, hAn, hs, h1, hln, hw, hg, hn, hn2, hst, hx => by
    rw [xopsQ_cons] at hx
    unfold AOps2
    have hi1 : i ∉ A1 := fun hk => h1 i hk (by simp)
    have hir : i ∉ rest := (List.nodup_cons.1 hln).1
    have hrn : rest.Nodup := (List.nodup_cons.1 hln).2
    have h1' : ∀ k ∈ A1, k ∉ rest := fun k hk hkr => h1 k hk (by simp [hkr])
    have hgi : g i = none := hn i (by simp)
    have hnr : ∀ k ∈ rest, g k = none := fun k hk => hn k (by simp [hk])
    have hA1n : A1.Nodup := by rw [hA] at hAn; exact (List.nodup_append.1 hAn).1
    have hsame : ∀ d k, k ≠ i → gset g i d k = g k := fun d k hk => by unfold gset; rw [if_neg hk]
    -- where 'i' stands
    have cases2 : (∃ A3, A2 = i :: A3 ∧ subB A3 rest = true) ∨ (i ∉ A2 ∧ subB A2 rest = true) := by
      cases A2 with
      | nil => exact .inr ⟨by simp, by cases rest <;> rfl⟩
      | cons a A3 =>
        unfold subB at hs
        cases hb : Nat.beq a i with
        | true =>
          rw [hb, cond_true] at hs
          have := Nat.eq_of_beq_eq_true hb
          subst this
          exact .inl ⟨A3, rfl, hs⟩
        | false =>
          rw [hb, cond_false] at hs
          simp only [Bool.and_eq_true, Bool.not_eq_true'] at hs
          refine .inr ⟨fun hm => ?_, hs.1⟩
          rcases List.mem_cons.1 hm with e | e
          · exact Nat.ne_of_beq_eq_false hb e.symm
          · have h2 := hs.2
            simp at h2; exact h2 e
    split at hx
    · rename_i o ho
      rw [ho]
      simp only
      -- nothing is made here: the rest, 'i' counted as behind
      have go : ∀ (f' : Fr) , f'.Wf E.n → xopsQ E ops A S h rest f' p K = some r → AOps2 P ops A S h K' rest (f'.lst E.n) g := by
        intro f' hw' hx'
        rcases cases2 with ⟨A3, e, h3⟩ | ⟨_, h3⟩
        · have hg1 : Gath ops S g (A1 ++ [i]) p := by
            have := gath_app hg (gath_none (ops := ops) (S := S) (g := g) (A := [i]) (fun k hk => by
              obtain rfl : k = i := by simpa using hk
              exact hgi))
            rwa [List.append_nil] at this
          exact xopsQ_ok hE hS hQ rest (A1 ++ [i]) A3 f' p g (by rw [hA, e]; simp) hAn h3 (fun k hk => by
            rcases List.mem_append.1 hk with hk | hk
            · exact h1' k hk
            · obtain rfl : k = i := by simpa using hk
              exact hir) hrn hw' hg1 hnr (fun k hk => hn2 k (by rw [e]; simp [hk])) hst hx'
        · exact xopsQ_ok hE hS hQ rest A1 A2 f' p g hA hAn h3 h1' hrn hw' hg hnr hn2 hst hx'
      obtain ⟨f1, hf1, hl1, hx⟩ := xguard_ok hw hx
      rcases hx with ⟨hw2, hx⟩ | ⟨hw2, hx⟩
      · split at hx
        · rename_i j hob
          obtain ⟨hiA, hstj, hjA, _⟩ := hS.fwd _ _ hob
          have h3 : i ∉ A2 ∧ subB A2 rest = true := by
            rcases cases2 with ⟨A3, e, _⟩ | h3
            · exact absurd (by rw [hA, e]; simp) hiA
            · exact h3
          rw [xsti_eq] at hx
          obtain ⟨cs', hc, hx⟩ := Option.bind_eq_some_iff.1 hx
          cases hp : pdGet p j with
          | none =>
            rw [hp] at hc
            unfold xsti at hc
            split at hc <;> cases hc
          | some q =>
            obtain ⟨d, m, cs⟩ := q
            rw [hp] at hc
            obtain ⟨hm, dj, x, hd, hdst, hnc, hxo, hcs, hop⟩ := xsti_ok hE.T hf1 hc
            obtain ⟨hjA1, D, hgj, e1, e2, e3⟩ := gath_get hg hp
            have hcsD : cs = D.cs := by
              rw [e3]; unfold csOf; rw [hstj]; simp only [Option.bind_some]; rw [hgi]
            have hji : j ≠ i := fun e => hi1 (e ▸ hjA1)
            have hg2 : Gath ops S (gset g i (some ⟨.ptr, cs'⟩)) A1 (pdSet p j cs') := by
              refine gath_set hA1n (fun k hk => ⟨(hsame _ k (fun e => hi1 (e ▸ hk))).symm, fun hkj D => (csOf_other (fun e => hkj ?_) D).symm⟩) (fun D => ?_) hg
              · have := hS.bwd _ _ e
                rw [hob] at this; cases this; rfl
              · unfold csOf; rw [hstj]; simp [gset]
            have ih := xopsQ_ok hE hS hQ rest A1 A2 f1 (pdSet p j cs') (gset g i (some ⟨.ptr, cs'⟩)) hA hAn h3.2 h1' hrn hf1 hg2 (fun k hk => by rw [hsame _ k (fun e => hir (e ▸ hk))]; exact hnr k hk)
              (fun k hk => by rw [hsame _ k (fun e => h3.1 (e ▸ hk))]; exact hn2 k hk) (fun t q htq hq => by
                by_cases hti : t = i
                · subst hti
                  rw [hob] at htq; cases htq
                  rw [hsame _ _ hji, hgj] at hq; cases hq
                · rw [hsame _ t hti]
                  refine hst t q htq ?_
                  by_cases hqi : q = i
                  · subst hqi; exact hgi
                  · rwa [hsame _ q hqi] at hq) hx
            refine ⟨skipV, some ⟨.ptr, cs'⟩, .inr (.inr ⟨hw2, j, D, dj, x, hob, hgj, by rw [← e2, hm], by rw [← e1, hd], hdst, hnc, hxo, ?_, ?_⟩), ?_⟩
            · rw [← hl1, hcs]
            · rw [← hl1]; rw [hcsD] at hop; exact hop
            · rw [hdst, ← hl1]; exact ih
        · rename_i hob
          split at hx
          · rename_i hc
            have hiA : i ∈ A := by simpa using hc
            have hi2 : ∃ A3, A2 = i :: A3 ∧ subB A3 rest = true := by
              rcases cases2 with h | ⟨h, _⟩
              · exact h
              · rw [hA] at hiA
                rcases List.mem_append.1 hiA with e | e
                · exact absurd e hi1
                · exact absurd e h
            obtain ⟨A3, e, h3⟩ := hi2
            rw [xA_bind] at hx
            obtain ⟨D, hD, hx⟩ := Option.bind_eq_some_iff.1 hx
            cases hsb : shutB A D.cs with
            | false => rw [hsb] at hx; cases hx
            | true =>
              rw [hsb, cond_true, fputK_eq] at hx
              obtain ⟨f', h2, hx⟩ := Option.bind_eq_some_iff.1 hx
              obtain ⟨e1, e2⟩ := fput_some h2 hf1
              have hd : dstOf ops i = o.dst := by unfold dstOf; rw [ho]; rfl
              have hself : gset g i (some D) i = some D := by unfold gset; rw [if_pos rfl]
              have hsti : ∀ k, stOf S k ≠ some i := fun k hk => by
                have := hS.bwd _ _ hk
                rw [hob] at this; cases this
              have hg2 : Gath ops S (gset g i (some D)) (A1 ++ [i]) (p ++ [(i, o.dst, D.how, D.cs)]) := by
                refine gath_app (gath_congr (fun k hk => ⟨(hsame _ k (fun e => hi1 (e ▸ hk))).symm, fun D' => (csOf_other (hsti k) D').symm⟩) hg) ?_
                unfold Gath
                rw [hself]
                have hcs : csOf S (gset g i (some D)) i D = D.cs := by
                  rw [csOf_other (hsti i)]
                  unfold csOf
                  cases hs2 : stOf S i with
                  | none => rfl
                  | some t =>
                    simp only [Option.bind_some]
                    rw [hst t i (hS.bwd _ _ hs2) hgi]
                exact ⟨[], by rw [hd, hcs], rfl⟩
              have hA2n : A2.Nodup := by rw [hA] at hAn; exact (List.nodup_append.1 hAn).2.1
              have hi3 : i ∉ A3 := by rw [e] at hA2n; exact (List.nodup_cons.1 hA2n).1
              have ih := xopsQ_ok hE hS hQ rest (A1 ++ [i]) A3 f' _ (gset g i (some D)) (by rw [hA, e]; simp) hAn h3 (fun k hk => by
                rcases List.mem_append.1 hk with hk | hk
                · exact h1' k hk
                · obtain rfl : k = i := by simpa using hk
                  exact hir) hrn e2 hg2 (fun k hk => by rw [hsame _ k (fun e => hir (e ▸ hk))]; exact hnr k hk) (fun k hk => by rw [hsame _ k (fun e => hi3 (e ▸ hk))]; exact hn2 k (by rw [e]; simp [hk]))
                (fun t q htq hq => by
                  have hti : t ≠ i := fun e => by subst e; rw [hob] at htq; cases htq
                  rw [hsame _ t hti]
                  refine hst t q htq ?_
                  by_cases hqi : q = i
                  · subst hqi; exact hgi
                  · rwa [hsame _ q hqi] at hq) hx
              obtain ⟨hn1, hop⟩ := xA_ok (ty := o.type) (a := f1.lst E.n) hE.T (by rw [aEval_lst hf1]; exact hD)
              refine ⟨.any, some D, .inl ⟨hw2, hob, ⟨hiA, fun h2 => ?_⟩, rfl, hn1, fun e => ?_⟩, ?_⟩
              · unfold shutB at hsb
                have : Nat.ble 2 A.length = true := (by rw [Nat.ble_eq]; exact h2)
                rw [this] at hsb; exact hsb
              · rw [← hl1]; exact hop _
              · rw [← hl1, ← e1]; exact ih
          · obtain ⟨v, hx, hv⟩ := xstepQ_ok hE hf1 hx
            rw [fputK_eq] at hx
            obtain ⟨f', h2, hx⟩ := Option.bind_eq_some_iff.1 hx
            obtain ⟨e1, e2⟩ := fput_some h2 hf1
            have ih := go f' e2 hx
            refine ⟨v, none, .inl ⟨hw2, hob, trivial, fun e he => ?_⟩, ?_⟩
            · rw [← hl1]
              refine hv e fun hb => he ?_
              cases A with
              | nil => rfl
              | cons x l => simp at hb
            · rw [gset_none hgi, ← hl1, ← e1]; exact ih
      · rw [fputK_eq] at hx
        obtain ⟨f', h2, hx⟩ := Option.bind_eq_some_iff.1 hx
        obtain ⟨e1, e2⟩ := fput_some h2 hf1
        have ih := go f' e2 hx
        refine ⟨skipV, none, .inr (.inl ⟨hw2, rfl, rfl⟩), ?_⟩
        rw [gset_none hgi, ← hl1, ← e1]; exact ih
    · cases hx
theorem xfl1_ok {T : Tab} (hT : T.Ok P) {n : Nat} {o : Oper} {f : Fr} {v : AVal} (hw : f.Wf n) (hx : xfl1 T o (fEval f) some = some v) : FlV P o (f.lst n) v := by
  unfold xfl1 at hx
  unfold FlV
  rw [aEval_lst hw]
  split at hx
  · cases hx
  · rename_i hg
    refine ⟨hg, ?_⟩
    split at hx
    · rename_i x ho; cases hx; exact .inl ⟨x, .inl ho, rfl⟩
    · rename_i x ho; cases hx; exact .inl ⟨x, .inr ho, rfl⟩
    · rename_i op t x y yt ho
      split at hx
      · rename_i k a k' b h1 h2
        rw [xBinK_eq] at hx
        obtain ⟨z, hz, hx⟩ := Option.bind_eq_some_iff.1 hx
        cases hx
        exact .inr ⟨op, t, x, y, yt, k, a, k', b, ho, h1, h2, xBin_ok hT hz rfl⟩
      · cases hx
    · cases hx
theorem xflt_ok {R : Type} {T : Tab} (hT : T.Ok P) {n : Nat} {ops : Array Oper} {K : Fr → Option R} {r : R} : ∀ (l : List Nat) (f : Fr), f.Wf n → xflt T n ops l f K = some r → ∃ f' : Fr, f'.Wf n ∧ FltR P ops l (f.lst n) (f'.lst n) ∧ K f' = some r
  | [], f, hw, hx => ⟨f, hw, rfl, hx⟩
  | i :: l, f, hw, hx => by
    rw [xflt_cons] at hx
    split at hx
    · rename_i o ho
      rw [xfl1_eq] at hx
      obtain ⟨v, h1, hx⟩ := Option.bind_eq_some_iff.1 hx
      rw [fputK_eq] at hx
      obtain ⟨f', h2, hx⟩ := Option.bind_eq_some_iff.1 hx
      obtain ⟨e1, e2⟩ := fput_some h2 hw
      obtain ⟨f2, h3, h4, h5⟩ := xflt_ok hT l f' e2 hx
      rw [e1] at h4
      exact ⟨f2, h3, ⟨o, v, ho, xfl1_ok hT hw h1, h4⟩, h5⟩
    · cases hx

/-! ### Code -/
abbrev XK (R : Type) := Exit → Fr → AHeap → Option R
abbrev XS := ∀ (R : Type), Fr → AHeap → XK R → Option R
abbrev XR := Exit × Fr × AHeap
def ofst (a b : Option Nat) : Option Nat := match a with
  | some i => some i
  | none => b
/-- The first region's number. -/
noncomputable def firstR (c : Code) : Option Nat := Code.rec (motive := fun _ => Option Nat) none (fun id _ _ => some id) (fun _ _ a b => ofst a b) (fun _ _ _ a b => ofst a b) (fun _ _ a => a) (fun _ a => a) (fun _ _ _ _ a b => ofst a b)
  (fun _ => none) (fun _ a => a) (fun _ => none) (fun _ => none) none (fun _ => none) c
noncomputable def maskAt (l : List (Nat × List Nat)) (k : Option Nat) (f : Fr) : Fr := match k with
  | some k => maskO f (findN l k)
  | none => f
noncomputable def atSeq {R : Type} (l : List (Nat × List Nat)) (k : Option Nat) (f : Fr) (go : Fr → Option R) : Option R := match k with
  | some k => atMask (findN l k) f go
  | none => go f
theorem atSeq_eq {R : Type} (l : List (Nat × List Nat)) (k : Option Nat) (f : Fr) (go : Fr → Option R) : atSeq l k f go = go (maskAt l k f) := by
  cases k with
  | none => rfl
  | some k => exact atMask_eq _ _ _
/-- A round again and again. -/
def xiter (mask : Fr → Fr) (step : Fr → AHeap → Option XR) : Nat → Fr → AHeap → Option XR
  | 0, _, _ => none
  | m + 1, f, h => (step f h).bind fun r => match r with
    | (.normal, f', h') => xiter mask step m (mask f') h'
    | r => some r
open Classical in
noncomputable def xlim {α : Type} (g : Nat → Option α) : Option α := if h : ∃ r m, g m = some r then some h.choose else none
def rets {R : Type} (K : XK R) (r : XR) : Option R := K r.1 r.2.1 r.2.2
noncomputable def xloop (mask : Fr → Fr) (step : Fr → AHeap → Option XR) (f : Fr) (h : AHeap) : Option XR := xlim fun m => xiter mask step m f h
def xdone (e : Exit) (f : Fr) (h : AHeap) : Option XR := some (e, f, h)
/-- Runs from labels. -/
abbrev XL := Nat → Option XS
noncomputable def maskJ (E : XE) (l : Nat) (f : Fr) : Fr := maskO f (findN E.Ml (1000000 + l))
/-- At a jump inside: what the label's code looks at. -/
def mkM (lab : XL) (mask : Nat → Fr → Fr) (q : XR) : XR := match q with
  | (.goto l, f, h) => match lab l with
    | some _ => (.goto l, mask l f, h)
    | none => (.goto l, f, h)
  | q => q
/-- Jumps inside a scope, until one leads out. -/
def xhop (lab : XL) (mask : Nat → Fr → Fr) : Nat → XR → Option XR
  | 0, _ => none
  | m + 1, (e, f, h) => match e with
    | .goto l => match lab l with
      | some r => (r XR f h xdone).bind fun q => xhop lab mask m (mkM lab mask q)
      | none => some (.goto l, f, h)
    | e => some (e, f, h)
noncomputable def xgos (lab : XL) (mask : Nat → Fr → Fr) (r : XR) : Option XR := xlim fun m => xhop lab mask m r
noncomputable def xjumpL (E : XE) (lab : XL) (l : Nat) (R : Type) (f : Fr) (h : AHeap) (K : XK R) : Option R := jn ((xgos lab (maskJ E) (.goto l, maskJ E l f, h)).bind (rets K))
noncomputable def xscK (E : XE) (lab : XL) {R : Type} (K : XK R) : XK R := fun e f h => match e with
  | .goto l => match lab l with
    | some _ => xjumpL E lab l R f h K
    | none => K (.goto l) f h
  | e => K e f h
noncomputable def xex (E : XE) (c : Code) : XS × XL := Code.rec (motive := fun _ => XS × XL)
  (fun R f h K => K .normal f h, fun _ => none)
  (fun id ops draw => (fun R f h K => match draw with
    | false => xops E id ops ops.toList 0 f h fun f h => K .normal f h
    | true => match findN E.D id with
      | some D => match D.L with
        | [] => xflt E.T E.n ops D.F f fun f => xopsQ E ops D.A D.S h D.Hd f [] fun f p => pdFill E.n p h.length f fun f => xops E id ops (opsAt ops D.Tl) 500 f (pdOn h p) fun f h => K .normal f h
        | _ :: _ => xflt E.T E.n ops D.F f fun f => xreads E ops h D.L f [] fun f ls => xopsL E ops D.T ls f h fun f h => K .normal f h
      | none => none, fun _ => none))
  (fun _ b ia ib => (fun R f h K => ia.1 R f h fun e f h => match e with
    | .normal => atSeq E.Ms (firstR b) f fun f => ib.1 R f h K
    | e => K e f h, fun l => match ia.2 l with
    | some r => some fun R f h K => r R f h fun e f h => match e with
      | .normal => atSeq E.Ms (firstR b) f fun f => ib.1 R f h K
      | e => K e f h
    | none => ib.2 l))
  (fun c _ _ ia ib => (fun R f h K => match fEval f c with
    | .lit (.bool b) => cond b (ia.1 R f h K) (ib.1 R f h K)
    | _ => none, fun _ => none))
  (fun id _ ia => (fun R f h K => ia.1 R f h fun e f h => match e with
    | .exit id' => match Nat.beq id' id with
      | true => K .normal f h
      | false => K (.exit id') f h
    | e => K e f h, fun _ => none))
  (fun c ia => (fun R f h K => jn ((xloop (maskAt E.Ml (firstR c)) (fun f h => ia.1 XR f h fun e f h => some (e, f, h)) (maskAt E.Ml (firstR c) f) h).bind (rets K)), fun _ => none))
  (fun _ _ _ _ _ _ => (fun R f h K => none, fun _ => none))
  (fun id => (fun R f h K => K (.exit id) f h, fun _ => none))
  (fun _ ia => (fun R f h K => ia.1 R f h (xscK E ia.2 K), fun _ => none))
  (fun l' => (fun R f h K => K .normal f h, fun l => match Nat.beq l' l with
    | true => some fun R f h K => K .normal f h
    | false => none))
  (fun l => (fun R f h K => K (.goto l) f h, fun _ => none))
  (fun R f h K => K .ret f h, fun _ => none)
  (fun _ => (fun R f h K => none, fun _ => none)) c
noncomputable def xexec (E : XE) (c : Code) : XS := (xex E c).1
noncomputable def xlab (E : XE) (c : Code) : XL := (xex E c).2
noncomputable def xjump (E : XE) (c : Code) (l : Nat) (R : Type) (f : Fr) (h : AHeap) (K : XK R) : Option R := xjumpL E (xlab E c) l R f h K

/-- A run, and then what is behind it. -/
theorem xguard_bind {R S : Type} {ops : Array Oper} {o : Oper} {f : Fr} {yes no : Fr → Option S} {k : S → Option R} :
    (xguard ops o f yes no).bind k = xguard ops o f (fun f => (yes f).bind k) (fun f => (no f).bind k) := by
  unfold xguard
  rcases hg : o.guard with _ | ⟨j, want⟩
  · rfl
  · simp only
    rcases hd : (ops[j]?).bind (·.dst) with _ | d
    · rfl
    · simp only
      split
      · rename_i b _
        cases b <;> cases want <;> rfl
      · rfl
      · rfl
theorem xops_bind {R : Type} {E : XE} (hN : CT.Nat E.C) {rid : Nat} {ops : Array Oper} {K : Fr → AHeap → Option R} : ∀ (l : List Oper) (i : Nat) (f : Fr) (h : AHeap),
    xops E rid ops l i f h K = (xops E rid ops l i f h fun f h => some (f, h)).bind fun r => K r.1 r.2
  | [], i, f, h => rfl
  | o :: rest, i, f, h => by
    rw [xops_cons, xops_cons, xguard_bind]
    congr 1
    · funext g
      rw [xstep_bind hN, xstep_bind hN (K := fun v h => fputK E.n g o.dst v fun f => xops E rid ops rest (i + 1) (maskO f (findN E.Mo (rid * 1000 + (i + 1)))) h fun f h => some (f, h)), Option.bind_assoc]
      congr 1; funext r
      rw [fputK_eq, fputK_eq, Option.bind_assoc]
      congr 1; funext f'
      exact xops_bind hN rest _ _ _
    · funext g
      rw [fputK_eq, fputK_eq, Option.bind_assoc]
      congr 1; funext f'
      exact xops_bind hN rest _ _ _
def mkQ (f : Fr) (p : Pd) : Option (Fr × Pd) := some (f, p)
theorem xopsQ_bind {R : Type} {E : XE} (hN : CT.Nat E.C) {ops : Array Oper} {A : List Nat} {S : Sts} {h : AHeap} {K : Fr → Pd → Option R} : ∀ (l : List Nat) (f : Fr) (p : Pd),
    xopsQ E ops A S h l f p K = (xopsQ E ops A S h l f p mkQ).bind fun r => K r.1 r.2
  | [], f, p => rfl
  | i :: rest, f, p => by
    rw [xopsQ_cons, xopsQ_cons]
    rcases ops[i]? with _ | o
    · rfl
    · simp only
      rw [xguard_bind]
      congr 1
      · funext g
        split
        · rw [xsti_eq, xsti_eq (K := fun cs => xopsQ E ops A S h rest g (pdSet p _ cs) mkQ), Option.bind_assoc]
          congr 1; funext cs
          exact xopsQ_bind hN rest _ _
        · split
          · rw [xA_bind, xA_bind (K := fun m cs => cond (shutB A cs) (fputK E.n g o.dst .any fun f => xopsQ E ops A S h rest f (p ++ [(i, o.dst, m, cs)]) mkQ) none), Option.bind_assoc]
            congr 1; funext D
            cases shutB A D.cs with
            | false => rfl
            | true =>
              simp only [cond_true]
              rw [fputK_eq, fputK_eq, Option.bind_assoc]
              congr 1; funext f'
              exact xopsQ_bind hN rest _ _
          · rw [xstepQ_bind hN, xstepQ_bind hN (K := fun v => fputK E.n g o.dst v fun f => xopsQ E ops A S h rest f p mkQ), Option.bind_assoc]
            congr 1; funext r
            rw [fputK_eq, fputK_eq, Option.bind_assoc]
            congr 1; funext f'
            exact xopsQ_bind hN rest _ _
      · funext g
        rw [fputK_eq, fputK_eq, Option.bind_assoc]
        congr 1; funext f'
        exact xopsQ_bind hN rest _ _
theorem xflt_bind {R : Type} {T : Tab} {n : Nat} {ops : Array Oper} {K : Fr → Option R} : ∀ (l : List Nat) (f : Fr), xflt T n ops l f K = (xflt T n ops l f some).bind K
  | [], f => rfl
  | i :: l, f => by
    rw [xflt_cons, xflt_cons]
    rcases ops[i]? with _ | o
    · rfl
    · simp only
      rw [xfl1_eq, xfl1_eq (K := fun v => fputK n f o.dst v fun f => xflt T n ops l f some), Option.bind_assoc]
      congr 1; funext v
      rw [fputK_eq, fputK_eq, Option.bind_assoc]
      congr 1; funext f'
      exact xflt_bind l _
theorem pdFill_bind {R : Type} {n : Nat} {K : Fr → Option R} : ∀ (p : Pd) (b : Nat) (f : Fr), pdFill n p b f K = (pdFill n p b f some).bind K
  | [], b, f => rfl
  | (i, d, m, cs) :: p, b, f => by
    simp only [pdFill]
    rw [fputK_eq, fputK_eq, Option.bind_assoc]
    congr 1; funext f'
    exact pdFill_bind p _ _
theorem xreads_bind {R : Type} {E : XE} (hN : CT.Nat E.C) {ops : Array Oper} {h : AHeap} {K : Fr → List (Nat × AVal) → Option R} : ∀ (l : List Nat) (f : Fr) (ls : List (Nat × AVal)), xreads E ops h l f ls K = (xreads E ops h l f ls fun f ls => some (f, ls)).bind fun r => K r.1 r.2
  | [], f, ls => rfl
  | i :: rest, f, ls => by
    rw [xreads_cons, xreads_cons]
    cases ops[i]? with
    | none => rfl
    | some o =>
      simp only
      cases o.guard with
      | some g => rfl
      | none =>
        simp only
        rw [xstepQ_bind hN, xstepQ_bind hN false o f h (fun v => fputK E.n f o.dst v fun f => xreads E ops h rest f (ls ++ [(i, v)]) fun f ls => some (f, ls)), Option.bind_assoc]
        congr 1; funext v
        rw [fputK_eq, fputK_eq, Option.bind_assoc]
        congr 1; funext f'
        exact xreads_bind hN rest _ _
theorem xchk_bind {R S : Type} {E : XE} {ops : Array Oper} {f : Fr} {h : AHeap} {K : Option S} {k : S → Option R} : ∀ (ls : List (Nat × AVal)), (xchk E ops f h K ls).bind k = xchk E ops f h (K.bind k) ls
  | [] => rfl
  | r :: ls => by
    rw [xchk_cons, xchk_cons]
    cases ops[r.1]? with
    | none => rfl
    | some o =>
      simp only
      cases freeB o.op with
      | true => exact xchk_bind ls
      | false =>
        simp only
        rw [Option.bind_assoc]
        congr 1; funext u
        exact xchk_bind ls
theorem xopsL_bind {R : Type} {E : XE} (hN : CT.Nat E.C) {ops : Array Oper} {K : Fr → AHeap → Option R} : ∀ (T : TP) (ls : List (Nat × AVal)) (f : Fr) (h : AHeap), xopsL E ops T ls f h K = (xopsL E ops T ls f h fun f h => some (f, h)).bind fun r => K r.1 r.2
  | [], ls, f, h => rfl
  | x :: T, ls, f, h => by
    rw [xopsL_cons, xopsL_cons]
    cases ops[x.1]? with
    | none => rfl
    | some o =>
      simp only
      rw [xguard_bind]
      congr 1
      · funext f
        refine (xstep_bind hN o f h _).trans (Eq.trans ?_ (congrArg (Option.bind · _) (xstep_bind hN o f h _)).symm)
        rw [Option.bind_assoc]
        congr 1; funext r
        rw [fputK_eq, fputK_eq, Option.bind_assoc]
        congr 1; funext f'
        cases stillB E o f with
        | true => exact xopsL_bind hN T _ _ _
        | false =>
          simp only
          rw [xchk_bind]
          congr 1
          exact xopsL_bind hN T _ _ _
      · funext f
        rw [fputK_eq, fputK_eq, Option.bind_assoc]
        congr 1; funext f'
        exact xopsL_bind hN T _ _ _
def XNat (r : XS) : Prop := ∀ (R : Type) (f : Fr) (h : AHeap) (K : XK R), r R f h K = (r XR f h xdone).bind (rets K)
theorem xex_bind (E : XE) (hN : CT.Nat E.C) (c : Code) : XNat (xexec E c) ∧ ∀ l r, xlab E c l = some r → XNat r := by
  induction c with
  | skip => exact ⟨fun R f h K => rfl, fun l r hr => by cases hr⟩
  | region id ops draw =>
    refine ⟨?_, fun l r hr => by cases hr⟩
    intro R f h K
    cases draw with
    | false =>
      show xops E id ops ops.toList 0 f h _ = (xops E id ops ops.toList 0 f h _).bind _
      rw [xops_bind hN, xops_bind hN (K := fun f h => xdone .normal f h), Option.bind_assoc]; rfl
    | true =>
      show (match findN E.D id with
        | some D => match D.L with
          | [] => xflt E.T E.n ops D.F f fun f => xopsQ E ops D.A D.S h D.Hd f [] fun f p => pdFill E.n p h.length f fun f => xops E id ops (opsAt ops D.Tl) 500 f (pdOn h p) fun f h => K .normal f h
          | _ :: _ => xflt E.T E.n ops D.F f fun f => xreads E ops h D.L f [] fun f ls => xopsL E ops D.T ls f h fun f h => K .normal f h
        | none => none) = (match findN E.D id with
        | some D => match D.L with
          | [] => xflt E.T E.n ops D.F f fun f => xopsQ E ops D.A D.S h D.Hd f [] fun f p => pdFill E.n p h.length f fun f => xops E id ops (opsAt ops D.Tl) 500 f (pdOn h p) fun f h => xdone .normal f h
          | _ :: _ => xflt E.T E.n ops D.F f fun f => xreads E ops h D.L f [] fun f ls => xopsL E ops D.T ls f h fun f h => xdone .normal f h
        | none => none).bind _
      cases findN E.D id with
      | none => rfl
      | some D =>
       simp only
       rcases hDL : D.L with _ | ⟨l0, ll⟩
       rotate_left
       · simp only
         rw [xflt_bind, xflt_bind (K := fun f => xreads E ops h (l0 :: ll) f [] fun f ls => xopsL E ops D.T ls f h fun f h => xdone .normal f h), Option.bind_assoc]
         congr 1; funext f0
         rw [xreads_bind hN, xreads_bind hN (K := fun f ls => xopsL E ops D.T ls f h fun f h => xdone .normal f h), Option.bind_assoc]
         congr 1; funext r
         rw [xopsL_bind hN, xopsL_bind hN (K := fun f h => xdone .normal f h), Option.bind_assoc]; rfl
       · simp only
         rw [xflt_bind, xflt_bind (K := fun f => xopsQ E ops D.A D.S h D.Hd f [] fun f p => pdFill E.n p h.length f fun f => xops E id ops (opsAt ops D.Tl) 500 f (pdOn h p) fun f h => xdone .normal f h), Option.bind_assoc]
         congr 1; funext f0
         rw [xopsQ_bind hN, xopsQ_bind hN (K := fun f p => pdFill E.n p h.length f fun f => xops E id ops (opsAt ops D.Tl) 500 f (pdOn h p) fun f h => xdone .normal f h), Option.bind_assoc]
         congr 1; funext r
         rw [pdFill_bind, pdFill_bind (K := fun f => xops E id ops (opsAt ops D.Tl) 500 f (pdOn h r.2) fun f h => xdone .normal f h), Option.bind_assoc]
         congr 1; funext f'
         rw [xops_bind hN, xops_bind hN (K := fun f h => xdone .normal f h), Option.bind_assoc]; rfl
  | seq a b iha ihb =>
    have key : ∀ q : XS, XNat q → XNat (fun R f h K => q R f h fun e f h => match e with
        | .normal => atSeq E.Ms (firstR b) f fun f => xexec E b R f h K
        | e => K e f h) := by
      intro q hq R f h K
      refine (hq R f h _).trans (Eq.trans ?_ (congrArg (Option.bind · (rets K)) (hq XR f h _)).symm)
      rw [Option.bind_assoc]
      congr 1; funext r
      obtain ⟨e, f', h'⟩ := r
      cases e with
      | normal =>
        show atSeq E.Ms (firstR b) f' (fun f => xexec E b R f h' K) = (atSeq E.Ms (firstR b) f' fun f => xexec E b XR f h' xdone).bind (rets K)
        rw [atSeq_eq, atSeq_eq]
        exact ihb.1 R _ _ _
      | _ => rfl
    refine ⟨key _ iha.1, fun l r hr => ?_⟩
    change (match xlab E a l with
      | some r => some fun R f h K => r R f h fun e f h => match e with
        | .normal => atSeq E.Ms (firstR b) f fun f => xexec E b R f h K
        | e => K e f h
      | none => xlab E b l) = some r at hr
    cases hq : xlab E a l with
    | some q =>
      rw [hq] at hr
      simp only [Option.some.injEq] at hr
      subst hr
      exact key q (iha.2 l q hq)
    | none => rw [hq] at hr; exact ihb.2 l r hr
  | cond c a b iha ihb =>
    refine ⟨?_, fun l r hr => by cases hr⟩
    intro R f h K
    show (match fEval f c with
      | .lit (.bool b') => cond b' (xexec E a R f h K) (xexec E b R f h K)
      | _ => none) = (match fEval f c with
      | .lit (.bool b') => cond b' (xexec E a XR f h xdone) (xexec E b XR f h xdone)
      | _ => none).bind _
    split
    · rename_i b' _
      cases b'
      · exact ihb.1 R f h K
      · exact iha.1 R f h K
    · rfl
  | block id a iha =>
    refine ⟨?_, fun l r hr => by cases hr⟩
    intro R f h K
    refine (iha.1 R f h _).trans (Eq.trans ?_ (congrArg (Option.bind · (rets K)) (iha.1 XR f h _)).symm)
    rw [Option.bind_assoc]
    congr 1; funext r
    obtain ⟨e, f', h'⟩ := r
    cases e with
    | exit id' =>
      simp only [rets]
      cases Nat.beq id' id <;> rfl
    | _ => rfl
  | loop a iha =>
    refine ⟨?_, fun l r hr => by cases hr⟩
    intro R f h K
    show jn ((xloop _ _ _ _).bind (rets K)) = (jn ((xloop _ _ _ _).bind (rets xdone))).bind (rets K)
    rw [jn_eq, jn_eq]
    rw [Option.bind_assoc]
    congr 1
  | rangeFunc => exact ⟨fun R f h K => rfl, fun l r hr => by cases hr⟩
  | exit id => exact ⟨fun R f h K => rfl, fun l r hr => by cases hr⟩
  | scope a iha =>
    refine ⟨?_, fun l r hr => by cases hr⟩
    intro R f h K
    refine (iha.1 R f h _).trans (Eq.trans ?_ (congrArg (Option.bind · (rets K)) (iha.1 XR f h _)).symm)
    rw [Option.bind_assoc]
    congr 1; funext r
    obtain ⟨e, f', h'⟩ := r
    cases e with
    | goto l =>
      show (match xlab E a l with
        | some _ => xjumpL E (xlab E a) l R f' h' K
        | none => K (.goto l) f' h') = (match xlab E a l with
        | some _ => xjumpL E (xlab E a) l XR f' h' xdone
        | none => xdone (.goto l) f' h').bind (rets K)
      cases xlab E a l with
      | none => rfl
      | some q =>
        simp only [xjumpL, jn_eq]
        rw [Option.bind_assoc]
        congr 1
    | _ => rfl
  | label l' =>
    refine ⟨fun R f h K => rfl, fun l r hr => ?_⟩
    change (match Nat.beq l' l with
      | true => some fun R f h K => K .normal f h
      | false => none) = some r at hr
    cases hb : Nat.beq l' l with
    | true => rw [hb] at hr; cases hr; exact fun R f h K => rfl
    | false => rw [hb] at hr; cases hr
  | goto l => exact ⟨fun R f h K => rfl, fun l r hr => by cases hr⟩
  | ret => exact ⟨fun R f h K => rfl, fun l r hr => by cases hr⟩
  | refuse => exact ⟨fun R f h K => rfl, fun l r hr => by cases hr⟩

theorem xexec_bind (E : XE) (hN : CT.Nat E.C) (c : Code) (R : Type) (f : Fr) (h : AHeap) (K : XK R) : xexec E c R f h K = (xexec E c XR f h xdone).bind (rets K) := (xex_bind E hN c).1 R f h K
theorem xiter_mono {mask : Fr → Fr} {step : Fr → AHeap → Option XR} : ∀ {m : Nat} {f : Fr} {h : AHeap} {r : XR}, xiter mask step m f h = some r → xiter mask step (m + 1) f h = some r
  | 0, f, h, r, hx => by simp [xiter] at hx
  | m + 1, f, h, r, hx => by
    unfold xiter at hx ⊢
    obtain ⟨q, h1, h2⟩ := Option.bind_eq_some_iff.1 hx
    rw [h1, Option.bind_some]
    obtain ⟨e, f', h'⟩ := q
    cases e with
    | normal => exact xiter_mono h2
    | _ => exact h2
theorem xiter_le {mask : Fr → Fr} {step : Fr → AHeap → Option XR} {m n : Nat} (hmn : m ≤ n) {f : Fr} {h : AHeap} {r : XR} (hx : xiter mask step m f h = some r) : xiter mask step n f h = some r := by
  induction hmn with
  | refl => exact hx
  | step _ ih => exact xiter_mono ih
theorem xloop_some {mask : Fr → Fr} {step : Fr → AHeap → Option XR} {f : Fr} {h : AHeap} {r : XR} : xloop mask step f h = some r ↔ ∃ m, xiter mask step m f h = some r := by
  unfold xloop xlim
  constructor
  · intro hx
    split at hx
    · rename_i hh; cases hx; exact hh.choose_spec
    · cases hx
  · rintro ⟨m, hm⟩
    have hh : ∃ r m, xiter mask step m f h = some r := ⟨r, m, hm⟩
    rw [dif_pos hh]
    obtain ⟨m', hm'⟩ := hh.choose_spec
    have h1 := xiter_le (Nat.le_max_left m m') hm
    have h2 := xiter_le (Nat.le_max_right m m') hm'
    rw [h1] at h2
    exact h2.symm
theorem xloop_eq (mask : Fr → Fr) (step : Fr → AHeap → Option XR) (f : Fr) (h : AHeap) : xloop mask step f h = (step f h).bind fun r => match r with
    | (.normal, f', h') => xloop mask step (mask f') h'
    | r => some r := by
  apply Option.ext
  intro r
  show xloop mask step f h = some r ↔ _ = some r
  rw [xloop_some]
  constructor
  · rintro ⟨m, hm⟩
    cases m with
    | zero => simp [xiter] at hm
    | succ m =>
      unfold xiter at hm
      obtain ⟨q, h1, h2⟩ := Option.bind_eq_some_iff.1 hm
      rw [h1, Option.bind_some]
      obtain ⟨e, f', h'⟩ := q
      cases e with
      | normal => exact xloop_some.2 ⟨m, h2⟩
      | _ => exact h2
  · intro hx
    obtain ⟨q, h1, h2⟩ := Option.bind_eq_some_iff.1 hx
    obtain ⟨e, f', h'⟩ := q
    cases e with
    | normal =>
      obtain ⟨m, hm⟩ := xloop_some.1 h2
      refine ⟨m + 1, ?_⟩
      unfold xiter
      rw [h1, Option.bind_some]; exact hm
    | _ =>
      refine ⟨1, ?_⟩
      unfold xiter
      rw [h1, Option.bind_some]; exact h2
def xagain {R : Type} (L : Fr → AHeap → Option R) (K : XK R) : XK R := fun e f h => match e with
  | .normal => L f h
  | e => K e f h
/-- **A loop, unrolled once.** -/
theorem xexec_loop (E : XE) (hN : CT.Nat E.C) (c : Code) (R : Type) (f : Fr) (h : AHeap) (K : XK R) :
    xexec E (.loop c) R f h K = xexec E c R (maskAt E.Ml (firstR c) f) h (fun e f h => match e with
      | .normal => xexec E (.loop c) R f h K
      | e => K e f h) := by
  rw [xexec_bind E hN c R]
  show jn ((xloop _ _ _ _).bind (rets K)) = _
  rw [jn_eq]
  rw [xloop_eq, Option.bind_assoc]
  congr 1; funext r
  obtain ⟨e, f', h'⟩ := r
  cases e with
  | normal => exact (jn_eq _).symm
  | _ => rfl
/-! ### Jumps -/
theorem xhop_mono {lab : XL} {mask : Nat → Fr → Fr} : ∀ {m : Nat} {r q : XR}, xhop lab mask m r = some q → xhop lab mask (m + 1) r = some q
  | 0, r, q, hx => by simp [xhop] at hx
  | m + 1, (e, f, h), q, hx => by
    unfold xhop at hx ⊢
    cases e with
    | goto l =>
      simp only at hx ⊢
      cases hl : lab l with
      | none => rw [hl] at hx; exact hx
      | some r =>
        rw [hl] at hx
        simp only at hx ⊢
        obtain ⟨p, h1, h2⟩ := Option.bind_eq_some_iff.1 hx
        rw [h1, Option.bind_some]
        exact xhop_mono h2
    | _ => exact hx
theorem xhop_le {lab : XL} {mask : Nat → Fr → Fr} {m n : Nat} (hmn : m ≤ n) {r q : XR} (hx : xhop lab mask m r = some q) : xhop lab mask n r = some q := by
  induction hmn with
  | refl => exact hx
  | step _ ih => exact xhop_mono ih
theorem xgos_some {lab : XL} {mask : Nat → Fr → Fr} {r q : XR} : xgos lab mask r = some q ↔ ∃ m, xhop lab mask m r = some q := by
  unfold xgos xlim
  constructor
  · intro hx
    split at hx
    · rename_i hh; cases hx; exact hh.choose_spec
    · cases hx
  · rintro ⟨m, hm⟩
    have hh : ∃ q m, xhop lab mask m r = some q := ⟨q, m, hm⟩
    rw [dif_pos hh]
    obtain ⟨m', hm'⟩ := hh.choose_spec
    have h1 := xhop_le (Nat.le_max_left m m') hm
    have h2 := xhop_le (Nat.le_max_right m m') hm'
    rw [h1] at h2
    exact h2.symm
theorem xgos_eq (lab : XL) (mask : Nat → Fr → Fr) (e : Exit) (f : Fr) (h : AHeap) : xgos lab mask (e, f, h) = match e with
    | .goto l => match lab l with
      | some r => (r XR f h xdone).bind fun q => xgos lab mask (mkM lab mask q)
      | none => some (.goto l, f, h)
    | e => some (e, f, h) := by
  apply Option.ext
  intro q
  show xgos lab mask (e, f, h) = some q ↔ _ = some q
  rw [xgos_some]
  constructor
  · rintro ⟨m, hm⟩
    cases m with
    | zero => simp [xhop] at hm
    | succ m =>
      unfold xhop at hm
      cases e with
      | goto l =>
        simp only at hm ⊢
        cases hl : lab l with
        | none => rw [hl] at hm; exact hm
        | some r =>
          rw [hl] at hm
          simp only at hm ⊢
          obtain ⟨p, h1, h2⟩ := Option.bind_eq_some_iff.1 hm
          rw [h1, Option.bind_some]
          exact xgos_some.2 ⟨m, h2⟩
      | _ => exact hm
  · intro hx
    cases e with
    | goto l =>
      simp only at hx
      cases hl : lab l with
      | none =>
        rw [hl] at hx
        refine ⟨1, ?_⟩
        unfold xhop; simp only [hl]; exact hx
      | some r =>
        rw [hl] at hx
        simp only at hx
        obtain ⟨p, h1, h2⟩ := Option.bind_eq_some_iff.1 hx
        obtain ⟨m, hm⟩ := xgos_some.1 h2
        refine ⟨m + 1, ?_⟩
        unfold xhop; simp only [hl]
        rw [h1, Option.bind_some]; exact hm
    | _ => exact ⟨1, hx⟩
/-- **A jump, followed once.** -/
theorem xjump_eq (E : XE) (hN : CT.Nat E.C) (c : Code) (l : Nat) (R : Type) (f : Fr) (h : AHeap) (K : XK R) :
    xjump E c l R f h K = match xlab E c l with
      | some r => r R (maskJ E l f) h (xscK E (xlab E c) K)
      | none => K (.goto l) (maskJ E l f) h := by
  unfold xjump xjumpL
  rw [jn_eq, xgos_eq]
  simp only
  cases hl : xlab E c l with
  | none => rfl
  | some r =>
    simp only
    rw [(xex_bind E hN c).2 l r hl R, Option.bind_assoc]
    congr 1; funext q
    obtain ⟨e, f', h'⟩ := q
    unfold rets xscK mkM
    cases e with
    | goto l' =>
      simp only
      cases hl' : xlab E c l' with
      | none => simp only; rw [xgos_eq]; simp only [hl']; rfl
      | some r' =>
        simp only
        unfold xjumpL
        rw [jn_eq]
        rfl
    | _ => simp only; rw [xgos_eq]; rfl
end Go.Proofs.YtglmofbcooefkaaDoor.AL
/- What is reckoned is so. -/
namespace Go.Proofs.YtglmofbcooefkaaDoor.AL
set_option linter.unusedVariables false
set_option linter.unusedSimpArgs false
open Go

variable {G : Rnd} {ρ ρ' : Env} {h h' : AHeap} {w w' : World} {P : Program}

section moves
variable {b : Frame} {a : Act} {k : List Item} {cs : List Frame}
theorem stepR_scope {c : Code} : step P (lone (b.atR a (.code (.scope c) :: k)) cs w) = .next (lone (b.atR a (.code c :: .inScope c :: k)) cs w) :=
  step_lone_go (by simp [stepG, stepG.exec, Frame.atR])
theorem stepR_inScope {c : Code} : step P (lone (b.atR a (.inScope c :: k)) cs w) = .next (lone (b.atR a k) cs w) :=
  step_lone_go (by simp [stepG, stepG.exec, Frame.atR])
end moves

noncomputable def drawsOk (nt : Nat) (D : List (Nat × DPart)) (c : Code) : Bool := Code.rec (motive := fun _ => Bool) true
  (fun id ops draw => match draw with
    | false => true
    | true => match findN D id with
      | some d => match d.L with
        | [] => drawOk2 ops d && aOkB ops nt d.A && nodupB d.A && subB d.A d.Hd && nodupB d.Hd && stsOkB .any ops d.A d.S
        | _ :: _ => drawOkL ops d.F d.L d.T && readsOkB ops d.L
      | none => true)
  (fun _ _ a b => a && b) (fun _ _ _ a b => a && b) (fun _ _ a => a) (fun _ a => a) (fun _ _ _ _ a b => a && b)
  (fun _ => true) (fun _ a => a) (fun _ => true) (fun _ => true) true (fun _ => true) c

def QK {R : Type} (n : Nat) (K : XK R) (r : R) : AQ := fun e a h => (∀ c, e ≠ .panic c) ∧ ∃ f : Fr, f.Wf n ∧ a = f.lst n ∧ K e f h = some r

theorem iter_sound {E : XE} {c : Code} {mask : Fr → Fr} {step : Fr → AHeap → Option XR} (hmw : ∀ f : Fr, f.Wf E.n → (mask f).Wf E.n) (hmk : ∀ f : Fr, Weak (f.lst E.n) ((mask f).lst E.n))
    (hstep : ∀ (f : Fr) (h : AHeap) (r : XR), f.Wf E.n → step f h = some r → AWp P c (QK E.n xdone r) (f.lst E.n) h) :
    ∀ (m : Nat) (f : Fr) (h : AHeap) (e : Exit) (f' : Fr) (h' : AHeap), f.Wf E.n → xiter mask step m f h = some (e, f', h') → ∀ (ρ : Env) (w : World) (ca : Act) b k cs, b.roundOf = G.ro → Rel ρ h w → AR G ρ h w (f.lst E.n) ca →
      ∃ ca' w', (∃ ρ', Evo ρ h w ρ' h' w' ∧ Rel ρ' h' w' ∧ AR G ρ' h' w' (f'.lst E.n) ca' ∧ f'.Wf E.n ∧ ∀ c, e ≠ .panic c) ∧ ArrivesIn (Machine.fenced P (FW G.ro)) P (lone (b.atR ca (.code c :: .inLoop c :: k)) cs w) b k cs e ca' w' := by
  intro m
  induction m with
  | zero => intro f h e f' h' hw hx; simp [xiter] at hx
  | succ m ih =>
    intro f h e f' h' hw hx ρ w ca b k cs hro hR ha
    unfold xiter at hx
    obtain ⟨⟨e1, f1, h1⟩, hs, hx⟩ := Option.bind_eq_some_iff.1 hx
    obtain ⟨e2, ca1, w1, ⟨ρ1, h2, a2, ev, hR1, ha1, hnp, g, hg, rfl, hd⟩, harr⟩ := hstep f h _ hw hs G ρ w ca hR ha b (.inLoop c :: k) cs hro trivial (fw_room _ _)
    cases hd
    cases e1 with
    | normal =>
      obtain ⟨ca3, w3, ⟨ρ3, ev3, hR3, ha3, hw3⟩, harr3⟩ := ih (mask f1) h1 e f' h' (hmw _ hg) hx ρ1 w1 ca1 b k cs hro hR1 (ha1.weak (hmk _))
      exact ⟨ca3, w3, ⟨ρ3, ev.trans ev3, hR3, ha3, hw3⟩, .of_steps (StepsIn.trans harr (.one (fenced_calm (F := FW G.ro) (n := 0) trivial (fw_room _ _) rfl) stepR_inLoop)) harr3⟩
    | exit id => cases hx; exact ⟨ca1, w1, ⟨ρ1, ev, hR1, ha1, hg, hnp⟩, .pass (x := .inLoop c) rfl (fun _ _ => .inl (by simp)) harr⟩
    | goto l => cases hx; exact ⟨ca1, w1, ⟨ρ1, ev, hR1, ha1, hg, hnp⟩, .pass (x := .inLoop c) rfl (fun _ _ => .inl (by simp)) harr⟩
    | ret => cases hx; exact ⟨ca1, w1, ⟨ρ1, ev, hR1, ha1, hg, hnp⟩, .pass (x := .inLoop c) rfl (fun _ _ => .inl (by simp)) harr⟩
    | panic ch => cases hx; exact ⟨ca1, w1, ⟨ρ1, ev, hR1, ha1, hg, hnp⟩, .pass (x := .inLoop c) rfl (fun _ _ => .inl (by simp)) harr⟩
    | outgrown => cases hx; exact ⟨ca1, w1, ⟨ρ1, ev, hR1, ha1, hg, hnp⟩, .pass (x := .inLoop c) rfl (fun _ _ => .inl (by simp)) harr⟩

theorem maskAt_wf {n : Nat} {f : Fr} (hw : f.Wf n) (l : List (Nat × List Nat)) (k : Option Nat) : (maskAt l k f).Wf n := by
  unfold maskAt; split
  · exact maskO_wf hw _
  · exact hw
theorem maskAt_weak (n : Nat) (f : Fr) (l : List (Nat × List Nat)) (k : Option Nat) : Weak (f.lst n) ((maskAt l k f).lst n) := by
  unfold maskAt; split
  · exact maskO_weak n f _
  · exact Weak.refl _

def XSnd (P : Program) (n : Nat) (c : Code) (q : XS) : Prop := ∀ (R : Type) (f : Fr) (h : AHeap) (K : XK R) (r : R), f.Wf n → q R f h K = some r → AWp P c (QK n K r) (f.lst n) h
def LSnd (P : Program) (n : Nat) (c : Code) (lab : XL) : Prop := ∀ l, match lab l with
  | some q => ∃ rest, findLabel c l = some rest ∧ XSnd P n rest q
  | none => findLabel c l = none
theorem hop_sound {n : Nat} {c : Code} {lab : XL} {mask : Nat → Fr → Fr} (hmw : ∀ l (f : Fr), f.Wf n → (mask l f).Wf n) (hmk : ∀ l (f : Fr), Weak (f.lst n) ((mask l f).lst n)) (hl : LSnd P n c lab) :
    ∀ (m : Nat) (e : Exit) (f : Fr) (h : AHeap) (e' : Exit) (f' : Fr) (h' : AHeap), f.Wf n → xhop lab mask m (e, f, h) = some (e', f', h') → (∀ c, e ≠ .panic c) → ∀ (ρ : Env) (w : World) (ca : Act) b k cs s0, b.roundOf = G.ro → Rel ρ h w → AR G ρ h w (f.lst n) ca →
      ArrivesIn (Machine.fenced P (FW G.ro)) P s0 b (.inScope c :: k) cs e ca w → ∃ ca' w', (∃ ρ', Evo ρ h w ρ' h' w' ∧ Rel ρ' h' w' ∧ AR G ρ' h' w' (f'.lst n) ca' ∧ f'.Wf n ∧ ∀ c, e' ≠ .panic c) ∧ ArrivesIn (Machine.fenced P (FW G.ro)) P s0 b k cs e' ca' w' := by
  intro m
  induction m with
  | zero => intro e f h e' f' h' hw hx; simp [xhop] at hx
  | succ m ih =>
    intro e f h e' f' h' hw hx hnp ρ w ca b k cs s0 hro hR ha harr
    unfold xhop at hx
    cases e with
    | goto l =>
      simp only at hx
      have h1 := hl l
      cases hq : lab l with
      | none =>
        rw [hq] at hx h1
        cases hx
        simp only at h1
        exact ⟨ca, w, ⟨ρ, .refl .., hR, ha, hw, hnp⟩, fun k' hk => harr.1 k' (by simp [gotoIn, h1, hk]), fun hr hk => harr.2 hr (by simp [gotoIn, h1, hk])⟩
      | some q =>
        rw [hq] at hx h1
        simp only at hx h1
        obtain ⟨rest, hf, hs⟩ := h1
        obtain ⟨⟨e1, f1, h1⟩, h2, hx⟩ := Option.bind_eq_some_iff.1 hx
        obtain ⟨e2, ca1, w1, ⟨ρ1, h3, a2, ev, hR1, ha1, hnp1, g, hg, rfl, hd⟩, harr1⟩ := hs XR f h xdone _ hw h2 G ρ w ca hR ha b (.inScope c :: k) cs hro trivial (fw_room _ _)
        cases hd
        have hmm : ∃ f2 : Fr, mkM lab mask (e1, f1, h1) = (e1, f2, h1) ∧ f2.Wf n ∧ Weak (f1.lst n) (f2.lst n) := by
          unfold mkM
          cases e1 with
          | goto l' =>
            simp only
            cases lab l' with
            | none => exact ⟨f1, rfl, hg, .refl _⟩
            | some _ => exact ⟨_, rfl, hmw l' f1 hg, hmk l' f1⟩
          | _ => exact ⟨f1, rfl, hg, .refl _⟩
        obtain ⟨f2, hme, hg2, hwk⟩ := hmm
        simp only [hme] at hx
        obtain ⟨ca3, w3, ⟨ρ3, ev3, hR3, ha3, hw3⟩, harr3⟩ := ih e1 f2 h1 e' f' h' hg2 hx hnp1 ρ1 w1 ca1 b k cs s0 hro hR1 (ha1.weak hwk) (.of_steps (harr.1 _ (by simp [gotoIn, hf])) harr1)
        exact ⟨ca3, w3, ⟨ρ3, ev.trans ev3, hR3, ha3, hw3⟩, harr3⟩
    | normal => cases hx; exact ⟨ca, w, ⟨ρ, .refl .., hR, ha, hw, hnp⟩, StepsIn.trans harr (.one (fenced_calm (F := FW G.ro) (n := 0) trivial (fw_room _ _) rfl) stepR_inScope)⟩
    | exit id => cases hx; exact ⟨ca, w, ⟨ρ, .refl .., hR, ha, hw, hnp⟩, fun k' hk => harr.1 k' (by simp [exitTo, hk]), fun hr hk => harr.2 hr (by simp [exitTo, hk])⟩
    | ret => cases hx; exact ⟨ca, w, ⟨ρ, .refl .., hR, ha, hw, hnp⟩, harr⟩
    | panic ch => exact absurd rfl (hnp ch)
    | outgrown => cases hx; exact ⟨ca, w, ⟨ρ, .refl .., hR, ha, hw, hnp⟩, harr⟩
theorem xex_sound {E : XE} (hE : E.Ok P) (hm : P.follows .mixedOrders = true) (c : Code) : drawsOk E.n E.D c = true → XSnd P E.n c (xexec E c) ∧ LSnd P E.n c (xlab E c) := by
  induction c with
  | skip => exact fun hd => ⟨fun R f h K r hw hx => awp_skip ⟨(fun _ e => by cases e), f, hw, rfl, hx⟩, fun l => rfl⟩
  | region id ops draw =>
    intro hd
    refine ⟨?_, fun l => rfl⟩
    intro R f h K r hw hx
    have fin : ∀ (f : Fr) (h : AHeap), f.Wf E.n → (fun f h => K .normal f h) f h = some r → QK E.n K r .normal (f.lst E.n) h := fun f h hw hx => ⟨(fun _ e => by cases e), f, hw, rfl, hx⟩
    cases draw with
    | false =>
      exact awp_regionW (xops_ok hE fin _ _ f f h hw (Weak.refl _) hx)
    | true =>
      change (match findN E.D id with
        | some D => match D.L with
          | [] => xflt E.T E.n ops D.F f fun f => xopsQ E ops D.A D.S h D.Hd f [] fun f p => pdFill E.n p h.length f fun f => xops E id ops (opsAt ops D.Tl) 500 f (pdOn h p) fun f h => K .normal f h
          | _ :: _ => xflt E.T E.n ops D.F f fun f => xreads E ops h D.L f [] fun f ls => xopsL E ops D.T ls f h fun f h => K .normal f h
        | none => none) = some r at hx
      change (match findN E.D id with
        | some d => match d.L with
          | [] => drawOk2 ops d && aOkB ops E.n d.A && nodupB d.A && subB d.A d.Hd && nodupB d.Hd && stsOkB .any ops d.A d.S
          | _ :: _ => drawOkL ops d.F d.L d.T && readsOkB ops d.L
        | none => true) = true at hd
      cases hf : findN E.D id with
      | none => simp [hf] at hx
      | some D =>
       rcases hDL : D.L with _ | ⟨l0, ll⟩
       rotate_left
       · simp only [hf, hDL, Bool.and_eq_true] at hx hd
         obtain ⟨hd1, hd2⟩ := hd
         obtain ⟨f0, hw0, hl0, hx⟩ := xflt_ok hE.T D.F f hw hx
         have hlo : LateOk .any ops D.F (l0 :: ll) D.T (TP.nums D.T) := by
           simp only [drawOkL, Bool.and_eq_true] at hd1
           exact lateOkB_ok hd1.1.1.2
         refine awp_drawL hm (fun c a h hq => hq.1 c rfl) hd1 hl0 (lrd_read _ _ _ hd2 (fun r hr => by cases hr) ?_)
         exact xreads_ok hE (fun f ls hw hx hls => xopsL_ok hE fin D.T ls f h hlo.sep hw hls hx) _ f0 [] hw0 hx
       · simp only [hf, hDL] at hx hd
         simp only [Bool.and_eq_true] at hd
         obtain ⟨⟨⟨⟨⟨hd1, hd2⟩, hd3⟩, hd4⟩, hd5⟩, hd6⟩ := hd
         obtain ⟨f0, hw0, hl0, hx⟩ := xflt_ok hE.T D.F f hw hx
         refine awp_draw2 D hm (fun c a h hq => hq.1 c rfl) hd1 (by rw [show (f.lst E.n).length = E.n by simp [Fr.lst]]; exact hd2) hd3 hd6 hl0 ?_
         refine xopsQ_ok hE (stsOkB_ok hd6) (K := fun f p => pdFill E.n p h.length f fun f => xops E id ops (opsAt ops D.Tl) 500 f (pdOn h p) fun f h => K .normal f h) ?_
           D.Hd [] D.A f0 [] (fun _ => none) rfl (nodupB_ok hd3) hd4 (fun k hk => by cases hk) (nodupB_ok hd5) hw0 rfl (fun _ _ => rfl) (fun _ _ => rfl) (fun _ _ _ _ => rfl) hx
         intro f' p g hf' hg hk
         obtain ⟨f2, hw2, hl2, hk⟩ := gath_fill hg hf' hk
         rw [gath_heap hg, ← hl2]
         rw [pdOn_eq] at hk
         exact xops_ok hE fin _ _ f2 f2 _ hw2 (Weak.refl _) hk
  | seq a b iha ihb =>
    intro hd
    have hd' : (drawsOk E.n E.D a && drawsOk E.n E.D b) = true := hd
    rw [Bool.and_eq_true] at hd'
    have key : ∀ (q : XS) (c : Code), XSnd P E.n c q → XSnd P E.n (.seq c b) (fun R f h K => q R f h fun e f h => match e with
        | .normal => atSeq E.Ms (firstR b) f fun f => xexec E b R f h K
        | e => K e f h) := by
      intro q c hq R f h K r hw hx
      refine awp_seq (awp_mono (hq R f h _ r hw hx) ?_)
      rintro e a' h1 ⟨hnp, g, hg, rfl, hk⟩
      cases e with
      | normal =>
        change atSeq E.Ms (firstR b) g (fun f => xexec E b R f h1 K) = some r at hk
        rw [atSeq_eq] at hk
        exact awp_weak (maskAt_weak _ _ _ _) ((ihb hd'.2).1 R _ h1 K r (maskAt_wf hg _ _) hk)
      | _ => exact ⟨hnp, g, hg, rfl, hk⟩
    refine ⟨key _ a (iha hd'.1).1, fun l => ?_⟩
    have ha := (iha hd'.1).2 l
    have hb := (ihb hd'.2).2 l
    show match (match xlab E a l with
      | some r => some fun R f h K => r R f h fun e f h => match e with
        | .normal => atSeq E.Ms (firstR b) f fun f => xexec E b R f h K
        | e => K e f h
      | none => xlab E b l) with
      | some q => ∃ rest, findLabel (.seq a b) l = some rest ∧ XSnd P E.n rest q
      | none => findLabel (.seq a b) l = none
    cases hq : xlab E a l with
    | some q =>
      rw [hq] at ha
      obtain ⟨rest, hf, hs⟩ := ha
      exact ⟨.seq rest b, by simp [findLabel, hf], key q rest hs⟩
    | none =>
      rw [hq] at ha
      simp only at ha ⊢
      have e : findLabel (.seq a b) l = findLabel b l := by simp [findLabel, ha]
      rw [e]; exact hb
  | cond c a b iha ihb =>
    intro hd
    refine ⟨?_, fun l => rfl⟩
    intro R f h K r hw hx
    have hd' : (drawsOk E.n E.D a && drawsOk E.n E.D b) = true := hd
    rw [Bool.and_eq_true] at hd'
    change (match fEval f c with
      | .lit (.bool b') => cond b' (xexec E a R f h K) (xexec E b R f h K)
      | _ => none) = some r at hx
    split at hx
    · rename_i b' hb
      refine awp_cond (b := b') (by rw [aEval_lst hw]; exact hb) (fun e => ?_) (fun e => ?_)
      · subst e; exact (iha hd'.1).1 R f h K r hw hx
      · subst e; exact (ihb hd'.2).1 R f h K r hw hx
    · cases hx
  | block id a iha =>
    intro hd
    refine ⟨?_, fun l => rfl⟩
    intro R f h K r hw hx
    refine awp_block (awp_mono ((iha hd).1 R f h _ r hw hx) ?_)
    rintro e a' h1 ⟨hnp, g, hg, rfl, hk⟩
    cases e with
    | exit id' =>
      simp only at hk
      simp only [AInBlock]
      split at hk
      · rename_i hb
        rw [if_pos (Nat.eq_of_beq_eq_true hb)]; exact ⟨(fun _ e => by cases e), g, hg, rfl, hk⟩
      · rename_i hb
        rw [if_neg (Nat.ne_of_beq_eq_false hb)]; exact ⟨hnp, g, hg, rfl, hk⟩
    | _ => exact ⟨hnp, g, hg, rfl, hk⟩
  | loop a iha =>
    intro hd
    refine ⟨?_, fun l => rfl⟩
    intro R f h K r hw hx
    change jn ((xloop (maskAt E.Ml (firstR a)) (fun f h => xexec E a XR f h xdone) (maskAt E.Ml (firstR a) f) h).bind (rets K)) = some r at hx
    rw [jn_eq] at hx
    obtain ⟨⟨e, f', h'⟩, h1, h2⟩ := Option.bind_eq_some_iff.1 hx
    obtain ⟨m, hm⟩ := xloop_some.1 h1
    refine awp_weak (maskAt_weak E.n f E.Ml (firstR a)) ?_
    intro G ρ w ca hR ha b k cs hro _ _
    obtain ⟨ca', w', ⟨ρ', ev, hR', ha', hw', hnp⟩, harr⟩ := iter_sound (G := G) (P := P) (E := E) (c := a) (fun f hf => maskAt_wf hf _ _) (fun f => maskAt_weak _ f _ _)
      (fun f h r hw hs => (iha hd).1 XR f h xdone r hw hs) m _ h e f' h' (maskAt_wf hw _ _) hm ρ w ca b k cs hro hR ha
    exact ⟨e, ca', w', ⟨ρ', h', _, ev, hR', ha', hnp, f', hw', rfl, h2⟩, .of_steps (.one (fenced_calm (F := FW G.ro) (n := 0) trivial (fw_room _ _) rfl) stepR_loop) harr⟩
  | rangeFunc => exact fun hd => ⟨fun R f h K r hw hx => (by cases hx), fun l => rfl⟩
  | exit id => exact fun hd => ⟨fun R f h K r hw hx => awp_exit ⟨(fun _ e => by cases e), f, hw, rfl, hx⟩, fun l => rfl⟩
  | scope a iha =>
    intro hd
    refine ⟨?_, fun l => rfl⟩
    intro R f h K r hw hx
    obtain ⟨hs, hl⟩ := iha hd
    intro G ρ w ca hR ha b k cs hro _ _
    obtain ⟨e, ca1, w1, ⟨ρ1, h1, a1, ev, hR1, ha1, hnp, g, hg, rfl, hk⟩, harr⟩ := hs R f h _ r hw hx G ρ w ca hR ha b (.inScope a :: k) cs hro trivial (fw_room _ _)
    have harr0 : ArrivesIn (Machine.fenced P (FW G.ro)) P (lone (b.atR ca (.code (.scope a) :: k)) cs w) b (.inScope a :: k) cs e ca1 w1 := .of_steps (.one (fenced_calm (F := FW G.ro) (n := 0) trivial (fw_room _ _) rfl) stepR_scope) harr
    have out : ∃ (g' : Fr) (e' : Exit) (f' : Fr) (h' : AHeap), (g'.Wf E.n ∧ Weak (g.lst E.n) (g'.lst E.n)) ∧ (∃ m, xhop (xlab E a) (maskJ E) m (e, g', h1) = some (e', f', h')) ∧ K e' f' h' = some r := by
      unfold xscK at hk
      have triv : (∀ l, e ≠ .goto l) → ∃ m, xhop (xlab E a) (maskJ E) m (e, g, h1) = some (e, g, h1) := fun hne => ⟨1, by
        unfold xhop
        cases e with
        | goto l => exact absurd rfl (hne l)
        | _ => rfl⟩
      cases e with
      | goto l =>
        simp only at hk
        change (match xlab E a l with
          | some _ => xjumpL E (xlab E a) l R g h1 K
          | none => K (.goto l) g h1) = some r at hk
        cases hq : xlab E a l with
        | none =>
          rw [hq] at hk
          exact ⟨g, _, _, _, ⟨hg, .refl _⟩, ⟨1, by unfold xhop; simp only [hq]⟩, hk⟩
        | some q =>
          rw [hq] at hk
          simp only at hk
          unfold xjumpL at hk
          rw [jn_eq] at hk
          obtain ⟨⟨e', f', h'⟩, h2, h3⟩ := Option.bind_eq_some_iff.1 hk
          exact ⟨_, e', f', h', ⟨maskO_wf hg _, maskO_weak _ _ _⟩, xgos_some.1 h2, h3⟩
      | normal => exact ⟨g, _, _, _, ⟨hg, .refl _⟩, triv (fun l e => by cases e), hk⟩
      | exit id => exact ⟨g, _, _, _, ⟨hg, .refl _⟩, triv (fun l e => by cases e), hk⟩
      | ret => exact ⟨g, _, _, _, ⟨hg, .refl _⟩, triv (fun l e => by cases e), hk⟩
      | panic c => exact ⟨g, _, _, _, ⟨hg, .refl _⟩, triv (fun l e => by cases e), hk⟩
      | outgrown => exact ⟨g, _, _, _, ⟨hg, .refl _⟩, triv (fun l e => by cases e), hk⟩
    obtain ⟨g', e', f', h', ⟨hg', hwk'⟩, ⟨m, hmx⟩, hk'⟩ := out
    obtain ⟨ca', w', ⟨ρ', ev', hR', ha', hw', hnp'⟩, harr'⟩ := hop_sound (G := G) (P := P) (n := E.n) (c := a) (lab := xlab E a) (mask := maskJ E) (fun l f hf => maskO_wf hf _) (fun l f => maskO_weak _ _ _) hl m e g' h1 e' f' h' hg' hmx hnp ρ1 w1 ca1 b k cs _ hro hR1 (ha1.weak hwk') harr0
    exact ⟨e', ca', w', ⟨ρ', h', _, ev.trans ev', hR', ha', hnp', f', hw', rfl, hk'⟩, harr'⟩
  | label l' =>
    intro hd
    refine ⟨fun R f h K r hw hx => awp_label ⟨(fun _ e => by cases e), f, hw, rfl, hx⟩, fun l => ?_⟩
    show match (match Nat.beq l' l with
      | true => some fun R f h K => K .normal f h
      | false => none : Option XS) with
      | some q => ∃ rest, findLabel (.label l') l = some rest ∧ XSnd P E.n rest q
      | none => findLabel (.label l') l = none
    cases hb : Nat.beq l' l with
    | true =>
      have e := Nat.eq_of_beq_eq_true hb
      subst e
      exact ⟨.skip, by simp [findLabel], fun R f h K r hw hx => awp_skip ⟨(fun _ e => by cases e), f, hw, rfl, hx⟩⟩
    | false =>
      have e := Nat.ne_of_beq_eq_false hb
      simp [findLabel, e]
  | goto l => exact fun hd => ⟨fun R f h K r hw hx => awp_goto ⟨(fun _ e => by cases e), f, hw, rfl, hx⟩, fun l => rfl⟩
  | ret => exact fun hd => ⟨fun R f h K r hw hx => awp_ret ⟨(fun _ e => by cases e), f, hw, rfl, hx⟩, fun l => rfl⟩
  | refuse => exact fun hd => ⟨fun R f h K r hw hx => (by cases hx), fun l => rfl⟩
theorem xexec_sound {E : XE} (hE : E.Ok P) (hm : P.follows .mixedOrders = true) (c : Code) (hd : drawsOk E.n E.D c = true) (R : Type) (f : Fr) (h : AHeap) (K : XK R) (r : R) (hw : f.Wf E.n) (hx : xexec E c R f h K = some r) : AWp P c (QK E.n K r) (f.lst E.n) h :=
  (xex_sound hE hm c hd).1 R f h K r hw hx

/-! ### A whole function -/
def one_or_tup (vs : List AVal) : AVal := match vs with
  | [v] => v
  | vs => .tup vs
noncomputable def xresGo {R : Type} (T : Tab) (f : Fr) (h : AHeap) (rs : List ResultVar) : List AVal → (AVal → Option R) → Option R :=
  List.rec (motive := fun _ => List AVal → (AVal → Option R) → Option R) (fun vs K => K (one_or_tup vs)) (fun r _ ih vs K => match r with
    | .tmp t => ih (vs ++ [f.get t]) K
    | .cell c t => xLoadK T t h (f.get c) fun v => castK T t v fun v => ih (vs ++ [v]) K) rs
theorem xresGo_ok {R : Type} {T : Tab} (hT : T.Ok P) {n : Nat} {f : Fr} (hw : f.Wf n) {h : AHeap} {K : AVal → Prop} {K0 : AVal → Option R} {r : R} : ∀ (rs : List ResultVar) (vs : List AVal), xresGo T f h rs vs K0 = some r → (∀ v, K0 v = some r → K v) → aResults.go P (f.lst n) h rs vs K
  | [], vs, hx, hK => by
    change K0 (one_or_tup vs) = some r at hx
    have := hK _ hx
    unfold aResults.go
    unfold one_or_tup at this
    rcases vs with _ | ⟨v, _ | ⟨u, l⟩⟩
    · exact this
    · exact this
    · exact this
  | .tmp t :: rs, vs, hx, hK => by
    unfold aResults.go
    rw [aget_lst hw]
    exact xresGo_ok hT hw rs _ hx hK
  | .cell c t :: rs, vs, hx, hK => by
    change (xLoadK T t h (f.get c) fun v => castK T t v fun v => xresGo T f h rs (vs ++ [v]) K0) = some r at hx
    unfold aResults.go
    rw [xLoadK_eq] at hx
    obtain ⟨y, h1, hx⟩ := Option.bind_eq_some_iff.1 hx
    rw [castK_eq] at hx
    obtain ⟨y', h2, hx⟩ := Option.bind_eq_some_iff.1 hx
    have e2 := castT_eq h2
    subst e2
    rw [aget_lst hw]
    exact xLoad_ok hT h1 (xresGo_ok hT hw rs _ (by rw [h2] at hx; exact hx) hK)
def fargs : List AVal → Nat → Fr
  | [], _ => []
  | v :: vs, i => (i, v) :: fargs vs (i + 1)
theorem fargs_get : ∀ (l : List AVal) (i j : Nat), (fargs l i).get j = if i ≤ j ∧ j < i + l.length then l.getD (j - i) .any else .any
  | [], i, j => by
    have : ¬ (i ≤ j ∧ j < i + ([] : List AVal).length) := by simp only [List.length_nil]; omega
    rw [if_neg this]; rfl
  | v :: l, i, j => by
    rw [fargs, Fr.get_cons, fargs_get l (i + 1) j]
    simp only [List.length_cons]
    by_cases h : j = i
    · subst h; simp
    · rw [if_neg h]
      by_cases h2 : i + 1 ≤ j ∧ j < i + 1 + l.length
      · rw [if_pos h2, if_pos (by omega)]
        have : j - i = (j - (i + 1)) + 1 := by omega
        rw [this]; rfl
      · rw [if_neg h2, if_neg (by omega)]
theorem fargs_wf {l : List AVal} {n : Nat} (hn : l.length ≤ n) : (fargs l 0).Wf n := by
  intro t ht; rw [fargs_get, if_neg (by omega)]
theorem fargs_lst {l : List AVal} {n : Nat} (hn : l.length ≤ n) : (fargs l 0).lst n = l ++ List.replicate (n - l.length) .any := by
  apply List.ext_getElem
  · simp [Fr.lst]; omega
  · intro i h1 h2
    simp only [Fr.lst, List.getElem_map, List.getElem_range, fargs_get]
    rcases Nat.lt_or_ge i l.length with h | h
    · rw [if_pos (by omega), List.getElem_append_left h]
      simp [List.getD_eq_getElem?_getD, h]
    · rw [if_neg (by omega), List.getElem_append_right h, List.getElem_replicate]
noncomputable def xend (E : XE) (fn : Func) : XK (AVal × AHeap) := fun e f h => match e with
  | .normal => xresGo E.T f h fn.results.toList [] fun v => some (v, h)
  | .ret => xresGo E.T f h fn.results.toList [] fun v => some (v, h)
  | _ => none
noncomputable def xfun (E : XE) (fn : Func) (args : List AVal) (h : AHeap) : Option (AVal × AHeap) := match fn.body, Nat.ble args.length E.n with
  | some c, true => xexec E c _ (fargs args 0) h (xend E fn)
  | _, _ => none

theorem awp_len {c : Code} {Q : AQ} {a : List AVal} (hc : AWp P c Q a h) : AWp P c (fun e a' h' => Q e a' h' ∧ h.length ≤ h'.length) a h :=
  fun G ρ w ca hR ha => wpIn_mono (hc G ρ w ca hR ha) fun _ _ _ ⟨ρ', h', a', h1, h2, h3, h4⟩ => ⟨ρ', h', a', h1, h2, h3, h4, h1.ids⟩

/-- **What a function is reckoned to do it does**; what is told of its end may be weaker. -/
theorem xfun_ends {E : XE} (hE : E.Ok P) (hm : P.follows .mixedOrders = true) {i : FuncId} {fn : Func} (hf : P.funcs[i]? = some fn) (hn : fn.ntmps = E.n) (hd : (match fn.body with
    | some c => drawsOk E.n E.D c
    | none => true) = true) {args : List AVal} {v : AVal} {R : AEnd → AHeap → Prop} (hx : xfun E fn args h = some (v, h')) (hR : HOk h → h.length ≤ h'.length → ABody.AEnds h h' (.ret v) R) : ACalls P i args h R := by
  unfold xfun at hx
  split at hx
  · rename_i c hb hl
    have hl' : args.length ≤ E.n := Nat.le_of_ble_eq_true hl
    refine acalls_of hf hb fun hok => ?_
    rw [hb] at hd
    have h1 := xexec_sound hE hm c hd _ _ h (xend E fn) _ (fargs_wf hl') hx
    rw [fargs_lst hl', ← hn] at h1
    refine awp_mono (awp_len h1) ?_
    rintro e a g ⟨⟨_, f, hw, rfl, hk⟩, hlen⟩
    have done : xresGo E.T f g fn.results.toList [] (fun v => some (v, g)) = some (v, h') → aResults P fn (f.lst fn.ntmps) g fun v => ABody.AEnds h g (.ret v) R := by
      intro hk
      unfold aResults
      refine xresGo_ok hE.T hw _ _ hk fun v' hv => ?_
      cases hv
      exact hR hok hlen
    cases e with
    | normal => exact done hk
    | ret => exact done hk
    | _ => cases hk
  · cases hx
theorem xfun_sound {E : XE} (hE : E.Ok P) (hm : P.follows .mixedOrders = true) {i : FuncId} {fn : Func} (hf : P.funcs[i]? = some fn) (hn : fn.ntmps = E.n) (hd : (match fn.body with
    | some c => drawsOk E.n E.D c
    | none => true) = true) {args : List AVal} {v : AVal} (hx : xfun E fn args h = some (v, h')) : ACalls P i args h fun e g => e = .ret v ∧ g = h' :=
  xfun_ends hE hm hf hn hd hx fun _ hl => ⟨h', .ret v, hl, ⟨rfl, rfl⟩, fun ρ w u hR hE => ⟨Fewer.refl _, hR, hE⟩⟩
end Go.Proofs.YtglmofbcooefkaaDoor.AL
/- Tables of types; pieces of code; what stands behind a piece. -/
namespace Go.Proofs.YtglmofbcooefkaaDoor.AL
set_option linter.unusedVariables false
set_option linter.unusedSimpArgs false
open Go

structure TyRow where
  desc : TypeDesc
  siz : Nat
  byt : Nat
  zer : Option AVal
  fit : Bool
  lvs : Option (List Leaf)
structure RowOk (P : Program) (t : Nat) (r : TyRow) : Prop where
  und : P.underlying t = some r.desc
  siz : tySize P t = some r.siz
  byt : tyBytes P t = some r.byt
  zer : ∀ z, r.zer = some z → tyZero P t = some z
  fit : r.fit = true → zeroFits P t
  lvs : ∀ l, r.lvs = some l → leaves P 20 t = some l ∧ tyAgg P t = some true ∧ P.eqGuardType P.depth t = false
noncomputable def tabOf (rows : List (Nat × TyRow)) : Tab where
  und t := match findN rows t with
    | some r => some r.desc
    | none => none
  siz t := match findN rows t with
    | some r => some r.siz
    | none => none
  byt t := match findN rows t with
    | some r => some r.byt
    | none => none
  zer t := match findN rows t with
    | some r => r.zer
    | none => none
  fit t := match findN rows t with
    | some r => r.fit
    | none => false
  lvs t := match findN rows t with
    | some r => r.lvs
    | none => none
def RowsOk (P : Program) : List (Nat × TyRow) → Prop
  | [] => True
  | (t, r) :: l => RowOk P t r ∧ RowsOk P l
theorem RowsOk.find {P : Program} : ∀ {l : List (Nat × TyRow)} {t : Nat} {r : TyRow}, RowsOk P l → findN l t = some r → RowOk P t r
  | [], t, r, _, h => by cases h
  | (k, x) :: l, t, r, hl, h => by
    rcases findN_some h with ⟨rfl, rfl⟩ | h
    · exact hl.1
    · exact RowsOk.find hl.2 h
theorem tabOf_ok {P : Program} {rows : List (Nat × TyRow)} (hl : RowsOk P rows) : (tabOf rows).Ok P := by
  constructor
  · intro t d h; simp only [tabOf] at h; split at h
    · rename_i hf; cases h; exact (hl.find hf).und
    · cases h
  · intro t d h; simp only [tabOf] at h; split at h
    · rename_i hf; cases h; exact (hl.find hf).siz
    · cases h
  · intro t d h; simp only [tabOf] at h; split at h
    · rename_i hf; cases h; exact (hl.find hf).byt
    · cases h
  · intro t d h; simp only [tabOf] at h; split at h
    · rename_i hf; exact (hl.find hf).zer _ h
    · cases h
  · intro t h; simp only [tabOf] at h; split at h
    · rename_i hf; exact (hl.find hf).fit h
    · cases h
  · intro t d h; simp only [tabOf] at h; split at h
    · rename_i hf; exact (hl.find hf).lvs _ h
    · cases h

/-- What a function that calls itself is said to do. -/
abbrev XP := List AVal → AHeap → Option (AVal × AHeap)
def recC (P : XP) : XC := .l fun _ args h K => (P args h).bind fun r => K r.1 r.2
theorem recC_nat (P : XP) : XC.Nat (recC P) := fun R args h K => by simp [mkP, Option.bind_assoc]
def psh (h : AHeap) (o : AObj) : AHeap := h ++ [o]
def apd (h : AHeap) (l : List AObj) : AHeap := h ++ l
def bodyOf (fn : Func) : Code := match fn.body with
  | some c => c
  | none => .skip
def ca : Code → Code
  | .seq a _ => a
  | .cond _ a _ => a
  | .block _ a => a
  | .loop a => a
  | .scope a => a
  | .rangeFunc _ _ a _ => a
  | c => c
def cb : Code → Code
  | .seq _ b => b
  | .cond _ _ b => b
  | .rangeFunc _ _ _ b => b
  | c => c
def rops : Code → Array Oper
  | .region _ ops _ => ops
  | _ => #[]
noncomputable def kSeq {R : Type} (E : XE) (b : Code) (K : XK R) : XK R := fun e f h => match e with
  | .normal => atSeq E.Ms (firstR b) f fun f => xexec E b R f h K
  | e => K e f h
def kBlk {R : Type} (id : Nat) (K : XK R) : XK R := fun e f h => match e with
  | .exit id' => match Nat.beq id' id with
    | true => K .normal f h
    | false => K (.exit id') f h
  | e => K e f h
noncomputable def kLoop {R : Type} (E : XE) (c : Code) (K : XK R) : XK R := fun e f h => match e with
  | .normal => xexec E (.loop c) R f h K
  | e => K e f h
def kN {R : Type} (K : XK R) : Fr → AHeap → Option R := fun f h => K .normal f h
end Go.Proofs.YtglmofbcooefkaaDoor.AL
/- What lies in the memory, as the equations ask for it. -/
namespace Go.Proofs.YtglmofbcooefkaaDoor.AL
set_option linter.unusedVariables false
set_option linter.unusedSimpArgs false
open Go

/-- 'delete(m, k)'. -/
def mapDel (d : MKey) (h : AHeap) (m : AVal) (u : Value) : Option AHeap := match m with
  | .lit (.map none) => some h
  | m => mapSetU d h m (mdel u)
theorem psh_length (h : AHeap) (o : AObj) : (psh h o).length = h.length + 1 := by simp [psh]
theorem apd_length (h : AHeap) (l : List AObj) : (apd h l).length = h.length + l.length := by simp [apd]
theorem cellsAt_lt {h : AHeap} {b : Nat} {cs : List AVal} (H : cellsAt h b = some cs) : b < h.length := lt_of_getL (cellsAt_some H)
theorem cellsAt_new (h : AHeap) (cs : List AVal) : cellsAt (psh h (.cells cs)) h.length = some cs := by simp [cellsAt, psh]
theorem cellsAt_psh {h : AHeap} {b : Nat} {cs : List AVal} (o : AObj) (H : cellsAt h b = some cs) : cellsAt (psh h o) b = some cs := cellsAt_more [o] H
theorem cellsAt_apd {h : AHeap} {b : Nat} {cs : List AVal} (l : List AObj) (H : cellsAt h b = some cs) : cellsAt (apd h l) b = some cs := cellsAt_more l H
theorem cellsAt_set {h : AHeap} {b : Nat} {cs cs' : List AVal} (H : cellsAt h b = some cs) : cellsAt (h.set b (.cells cs')) b = some cs' := by
  have := cellsAt_lt H
  simp [cellsAt, this]
theorem cellsAt_set_ne {h : AHeap} {b c : Nat} {cs : List AVal} (o : AObj) (hn : c ≠ b) (H : cellsAt h b = some cs) : cellsAt (h.set c o) b = some cs := by
  have := cellsAt_some H
  unfold cellsAt
  rw [List.getElem?_set_ne hn, this]
theorem req_true {p : Prop} [Decidable p] (h : p) : req p = some () := if_pos h
theorem ld1_of {h : AHeap} {b off : Nat} {cs : List AVal} (H : cellsAt h b = some cs) : ld1 h (.ptr b off) = cs[off]? := by simp [ld1, H]
theorem ldn_of {n : Nat} {h : AHeap} {b off : Nat} {cs : List AVal} (H : cellsAt h b = some cs) (hl : off + n ≤ cs.length) : ldn n h (.ptr b off) = some ((cs.drop off).take n) := by simp [ldn, H, req, hl]
theorem st1_of {h : AHeap} {b off : Nat} {cs : List AVal} {x : AVal} (H : cellsAt h b = some cs) (h1 : x.one = true) (hl : off < cs.length) : st1 h (.ptr b off) x = some (h.set b (.cells (cs.set off x))) := by simp [st1, H, req, hl, h1]
theorem stn_of {n : Nat} {h : AHeap} {b off : Nat} {cs vs : List AVal} (H : cellsAt h b = some cs) (h1 : vs.all (·.one) = true) (hn : n = vs.length) (hl : off + vs.length ≤ cs.length) : stn n h (.ptr b off) vs = some (h.set b (.cells (splice cs off vs))) := by
  subst hn
  show (cellsAt h b).bind _ = _
  rw [H, Option.bind_some, req_true ⟨h1, rfl, hl⟩]; rfl
theorem set_psh (h : AHeap) (o o' : AObj) : (psh h o).set h.length o' = psh h o' := by simp [psh]
theorem stn_new {n : Nat} {h : AHeap} {cs vs : List AVal} (h1 : vs.all (·.one) = true) (hn : n = vs.length) (hl : cs.length = n) : stn n (psh h (.cells cs)) (.ptr h.length 0) vs = some (psh h (.cells vs)) := by
  rw [stn_of (cellsAt_new h cs) h1 hn (by omega), set_psh, splice, List.take_zero, List.nil_append, List.drop_of_length_le (by omega), List.append_nil]
theorem req_false {p : Prop} [Decidable p] (h : ¬ p) : req p = none := if_neg h

/-- A function that is told by its own reckoning. -/
theorem selfR {h h' : AHeap} {v : AVal} (_ : HOk h) (hl : h.length ≤ h'.length) : ABody.AEnds h h' (.ret v) fun e g => e = .ret v ∧ g = h' := ⟨_, .ret _, hl, ⟨rfl, rfl⟩, fun ρ w u hR hE => ⟨Fewer.refl _, hR, hE⟩⟩
/-- A receiver that is a pointer. -/
def ptrV (f : Nat → Nat → AHeap → Option (AVal × AHeap)) (v : AVal) (h : AHeap) : Option (AVal × AHeap) := match v with
  | .ptr b o => f b o h
  | _ => none
theorem ptrV_some {f : Nat → Nat → AHeap → Option (AVal × AHeap)} {v : AVal} {h : AHeap} {r : AVal × AHeap} (hx : ptrV f v h = some r) : ∃ b o, v = .ptr b o ∧ f b o h = some r := by
  unfold ptrV at hx; split at hx
  · exact ⟨_, _, rfl, hx⟩
  · cases hx
/-- What leaves the memory. -/
noncomputable def onlyR (x : Option (AVal × AHeap)) (h : AHeap) : Option AVal := x.bind fun r => (reqC (r.2 = h)).bind fun _ => some r.1
theorem onlyR_some {x : Option (AVal × AHeap)} {h : AHeap} {v : AVal} (hx : onlyR x h = some v) : x = some (v, h) := by
  unfold onlyR at hx
  obtain ⟨r, h1, hx⟩ := Option.bind_eq_some_iff.1 hx
  obtain ⟨u, h2, hx⟩ := Option.bind_eq_some_iff.1 hx
  cases hx
  rw [h1, ← reqC_some h2]
theorem onlyR_same (v : AVal) (h : AHeap) : onlyR (some (v, h)) h = some v := by unfold onlyR; rw [Option.bind_some, reqC_true rfl]; rfl
/-- It comes to true. -/
def Tru (x : Option (AVal × AHeap)) : Prop := ∃ h', x = some (.lit (.bool true), h')
theorem Tru.here {h : AHeap} : Tru (some (.lit (.bool true), h)) := ⟨h, rfl⟩
end Go.Proofs.YtglmofbcooefkaaDoor.AL
/- What stays of the memory. -/
namespace Go.Proofs.YtglmofbcooefkaaDoor.AL
set_option linter.unusedVariables false
set_option linter.unusedSimpArgs false
set_option maxRecDepth 10000
open Go
/-- The objects below 'n' but those of 'X' are as they were. -/
structure Keep (n : Nat) (X : List Nat) (h h' : AHeap) : Prop where
  len : h.length ≤ h'.length
  get : ∀ c : Nat, c < n → c ∉ X → h'[c]? = h[c]?
theorem Keep.refl (n : Nat) (X : List Nat) (h : AHeap) : Keep n X h h := ⟨Nat.le_refl _, fun _ _ _ => rfl⟩
theorem Keep.trans {n : Nat} {X : List Nat} {h h' h'' : AHeap} (a : Keep n X h h') (b : Keep n X h' h'') : Keep n X h h'' := ⟨Nat.le_trans a.len b.len, fun c hc hx => (b.get c hc hx).trans (a.get c hc hx)⟩
theorem Keep.less {n m : Nat} {X Y : List Nat} {h h' : AHeap} (hm : m ≤ n) (hx : ∀ c ∈ X, c < m → c ∈ Y) (a : Keep n X h h') : Keep m Y h h' := ⟨a.len, fun c hc hy => a.get c (by omega) fun hm => hy (hx c hm hc)⟩
theorem Keep.set {n b : Nat} {X : List Nat} {h : AHeap} {o : AObj} (hb : n ≤ b ∨ b ∈ X) : Keep n X h (h.set b o) := ⟨by simp, fun c hc hx => by
  refine List.getElem?_set_ne fun e => ?_
  subst e
  rcases hb with h | h
  · omega
  · exact hx h⟩
theorem Keep.app {n : Nat} {X : List Nat} {h : AHeap} (e : AHeap) (hn : n ≤ h.length) : Keep n X h (h ++ e) := ⟨by simp, fun c hc _ => List.getElem?_append_left (by omega)⟩
theorem Keep.psh {n : Nat} {X : List Nat} {h : AHeap} (o : AObj) (hn : n ≤ h.length) : Keep n X h (psh h o) := Keep.app [o] hn
theorem Keep.apd {n : Nat} {X : List Nat} {h : AHeap} (l : List AObj) (hn : n ≤ h.length) : Keep n X h (apd h l) := Keep.app l hn
theorem Keep.cells {n : Nat} {X : List Nat} {h h' : AHeap} (a : Keep n X h h') {b : Nat} {cs : List AVal} (hb : b < n) (hx : b ∉ X) (H : cellsAt h b = some cs) : cellsAt h' b = some cs := by
  have := cellsAt_some H
  unfold cellsAt
  rw [a.get b hb hx, this]
/-- Blocks more that nobody knows of. -/
theorem evo_more {ρ : Env} {h : AHeap} {w w' : World} (hR : Rel ρ h w) (hs : Same w w') (hz : w.heap.size ≤ w'.heap.size) (hw : ∀ c, c < w.heap.size → w'.heap[c]? = w.heap[c]?) : Evo ρ h w ρ h w' ∧ Rel ρ h w' := by
  have e : Evo ρ h w ρ h w' := ⟨Nat.le_refl _, fun _ _ => rfl, hz, hs, fun c hc hn => ⟨hw c hc, hn⟩, fun l r hr => ⟨r, (hw l (lt_of_get hr)).trans hr⟩⟩
  exact ⟨e, hR.glob.evo e, fun b o hb => (hR.obj b o hb).evo e fun hd => hw _ (hR.blk_lt hb hd), hR.inj⟩
end Go.Proofs.YtglmofbcooefkaaDoor.AL
/- Rows of the types, each asked of the loaded table. -/
namespace Go.Proofs.YtglmofbcooefkaaDoor.AL
set_option linter.unusedVariables false
set_option linter.unusedSimpArgs false
set_option maxRecDepth 10000
open Go
noncomputable def r2 : TyRow := { desc := .int .i64, siz := 1, byt := 8, zer := some (.lit (.int .i64 0)), fit := false, lvs := none }
theorem r2_ok : RowOk Tryd.prog 2 r2 := ⟨by kernel_rfl, by kernel_rfl, by kernel_rfl, (fun z hz => by cases hz; kernel_rfl), (fun h => by cases h), (fun l hl => by cases hl)⟩
noncomputable def r3 : TyRow := { desc := .int .i64, siz := 1, byt := 8, zer := some (.lit (.int .i64 0)), fit := false, lvs := none }
theorem r3_ok : RowOk Tryd.prog 3 r3 := ⟨by kernel_rfl, by kernel_rfl, by kernel_rfl, (fun z hz => by cases hz; kernel_rfl), (fun h => by cases h), (fun l hl => by cases hl)⟩
noncomputable def r4 : TyRow := { desc := .bool, siz := 1, byt := 1, zer := some (.lit (.bool false)), fit := false, lvs := none }
theorem r4_ok : RowOk Tryd.prog 4 r4 := ⟨by kernel_rfl, by kernel_rfl, by kernel_rfl, (fun z hz => by cases hz; kernel_rfl), (fun h => by cases h), (fun l hl => by cases hl)⟩
noncomputable def r5 : TyRow := { desc := .int .u8, siz := 1, byt := 1, zer := some (.lit (.int .u8 0)), fit := false, lvs := none }
theorem r5_ok : RowOk Tryd.prog 5 r5 := ⟨by kernel_rfl, by kernel_rfl, by kernel_rfl, (fun z hz => by cases hz; kernel_rfl), (fun h => by cases h), (fun l hl => by cases hl)⟩
noncomputable def r9 : TyRow := { desc := .string, siz := 1, byt := 16, zer := some (.lit (.string { data := #[] })), fit := false, lvs := none }
theorem r9_ok : RowOk Tryd.prog 9 r9 := ⟨by kernel_rfl, by kernel_rfl, by kernel_rfl, (fun z hz => by cases hz; kernel_rfl), (fun h => by cases h), (fun l hl => by cases hl)⟩
noncomputable def r20 : TyRow := { desc := .interface #[], siz := 1, byt := 16, zer := some (.lit (.nilIface)), fit := false, lvs := none }
theorem r20_ok : RowOk Tryd.prog 20 r20 := ⟨by kernel_rfl, by kernel_rfl, by kernel_rfl, (fun z hz => by cases hz; kernel_rfl), (fun h => by cases h), (fun l hl => by cases hl)⟩
noncomputable def r21 : TyRow := { desc := .int .i32, siz := 1, byt := 4, zer := some (.lit (.int .i32 0)), fit := false, lvs := none }
theorem r21_ok : RowOk Tryd.prog 21 r21 := ⟨by kernel_rfl, by kernel_rfl, by kernel_rfl, (fun z hz => by cases hz; kernel_rfl), (fun h => by cases h), (fun l hl => by cases hl)⟩
noncomputable def r23 : TyRow := { desc := .struct #[{ name := "Eps", type := 3, offset := 0, embedded := false, tag := "", pkgPath := "", byteOffset := 0 }, { name := "Width", type := 3, offset := 1, embedded := false, tag := "", pkgPath := "", byteOffset := 8 }, { name := "Budget", type := 3, offset := 2, embedded := false, tag := "", pkgPath := "", byteOffset := 16 }, { name := "K", type := 3, offset := 3, embedded := false, tag := "", pkgPath := "", byteOffset := 24 }, { name := "Rho", type := 3, offset := 4, embedded := false, tag := "", pkgPath := "", byteOffset := 32 }, { name := "Seed", type := 3, offset := 5, embedded := false, tag := "", pkgPath := "", byteOffset := 40 }, { name := "Rounds", type := 3, offset := 6, embedded := false, tag := "", pkgPath := "", byteOffset := 48 }, { name := "Delta", type := 3, offset := 7, embedded := false, tag := "", pkgPath := "", byteOffset := 56 }, { name := "Degree", type := 3, offset := 8, embedded := false, tag := "", pkgPath := "", byteOffset := 64 }], siz := 9, byt := 72, zer := some (.agg [.lit (.int .i64 0), .lit (.int .i64 0), .lit (.int .i64 0), .lit (.int .i64 0), .lit (.int .i64 0), .lit (.int .i64 0), .lit (.int .i64 0), .lit (.int .i64 0), .lit (.int .i64 0)]), fit := false, lvs := some [.int, .int, .int, .int, .int, .int, .int, .int, .int] }
theorem r23_ok : RowOk Tryd.prog 23 r23 := ⟨by kernel_rfl, by kernel_rfl, by kernel_rfl, (fun z hz => by cases hz; kernel_rfl), (fun h => by cases h), (fun l hl => by cases hl; exact ⟨by kernel_rfl, by kernel_rfl, by kernel_rfl⟩)⟩
noncomputable def r27 : TyRow := { desc := .int .i64, siz := 1, byt := 8, zer := some (.lit (.int .i64 0)), fit := false, lvs := none }
theorem r27_ok : RowOk Tryd.prog 27 r27 := ⟨by kernel_rfl, by kernel_rfl, by kernel_rfl, (fun z hz => by cases hz; kernel_rfl), (fun h => by cases h), (fun l hl => by cases hl)⟩
noncomputable def r32 : TyRow := { desc := .slice 5, siz := 1, byt := 24, zer := some (.lit (.slice none 0 0)), fit := true, lvs := none }
theorem r32_ok : RowOk Tryd.prog 32 r32 := ⟨by kernel_rfl, by kernel_rfl, by kernel_rfl, (fun z hz => by cases hz; kernel_rfl), (fun _ => zeroFits_of (by kernel_rfl)), (fun l hl => by cases hl)⟩
noncomputable def r33 : TyRow := { desc := .slice 9, siz := 1, byt := 24, zer := some (.lit (.slice none 0 0)), fit := true, lvs := none }
theorem r33_ok : RowOk Tryd.prog 33 r33 := ⟨by kernel_rfl, by kernel_rfl, by kernel_rfl, (fun z hz => by cases hz; kernel_rfl), (fun _ => zeroFits_of (by kernel_rfl)), (fun l hl => by cases hl)⟩
noncomputable def r37 : TyRow := { desc := .struct #[{ name := "Err", type := 27, offset := 0, embedded := false, tag := "", pkgPath := "", byteOffset := 0 }, { name := "Calls", type := 3, offset := 1, embedded := false, tag := "", pkgPath := "", byteOffset := 8 }, { name := "Used", type := 3, offset := 2, embedded := false, tag := "", pkgPath := "", byteOffset := 16 }], siz := 3, byt := 24, zer := some (.agg [.lit (.int .i64 0), .lit (.int .i64 0), .lit (.int .i64 0)]), fit := false, lvs := some [.int, .int, .int] }
theorem r37_ok : RowOk Tryd.prog 37 r37 := ⟨by kernel_rfl, by kernel_rfl, by kernel_rfl, (fun z hz => by cases hz; kernel_rfl), (fun h => by cases h), (fun l hl => by cases hl; exact ⟨by kernel_rfl, by kernel_rfl, by kernel_rfl⟩)⟩
noncomputable def r38 : TyRow := { desc := .slice 107, siz := 1, byt := 24, zer := some (.lit (.slice none 0 0)), fit := true, lvs := none }
theorem r38_ok : RowOk Tryd.prog 38 r38 := ⟨by kernel_rfl, by kernel_rfl, by kernel_rfl, (fun z hz => by cases hz; kernel_rfl), (fun _ => zeroFits_of (by kernel_rfl)), (fun l hl => by cases hl)⟩
noncomputable def r39 : TyRow := { desc := .slice 105, siz := 1, byt := 24, zer := some (.lit (.slice none 0 0)), fit := true, lvs := none }
theorem r39_ok : RowOk Tryd.prog 39 r39 := ⟨by kernel_rfl, by kernel_rfl, by kernel_rfl, (fun z hz => by cases hz; kernel_rfl), (fun _ => zeroFits_of (by kernel_rfl)), (fun l hl => by cases hl)⟩
noncomputable def r40 : TyRow := { desc := .slice 49, siz := 1, byt := 24, zer := some (.lit (.slice none 0 0)), fit := true, lvs := none }
theorem r40_ok : RowOk Tryd.prog 40 r40 := ⟨by kernel_rfl, by kernel_rfl, by kernel_rfl, (fun z hz => by cases hz; kernel_rfl), (fun _ => zeroFits_of (by kernel_rfl)), (fun l hl => by cases hl)⟩
noncomputable def r48 : TyRow := { desc := .int .u32, siz := 1, byt := 4, zer := some (.lit (.int .u32 0)), fit := false, lvs := none }
theorem r48_ok : RowOk Tryd.prog 48 r48 := ⟨by kernel_rfl, by kernel_rfl, by kernel_rfl, (fun z hz => by cases hz; kernel_rfl), (fun h => by cases h), (fun l hl => by cases hl)⟩
noncomputable def r49 : TyRow := { desc := .slice 3, siz := 1, byt := 24, zer := some (.lit (.slice none 0 0)), fit := true, lvs := none }
theorem r49_ok : RowOk Tryd.prog 49 r49 := ⟨by kernel_rfl, by kernel_rfl, by kernel_rfl, (fun z hz => by cases hz; kernel_rfl), (fun _ => zeroFits_of (by kernel_rfl)), (fun l hl => by cases hl)⟩
noncomputable def r51 : TyRow := { desc := .struct #[{ name := "Kind", type := 3, offset := 0, embedded := false, tag := "", pkgPath := "", byteOffset := 0 }, { name := "Name", type := 9, offset := 1, embedded := false, tag := "", pkgPath := "", byteOffset := 8 }, { name := "S", type := 9, offset := 2, embedded := false, tag := "", pkgPath := "", byteOffset := 24 }, { name := "N", type := 3, offset := 3, embedded := false, tag := "", pkgPath := "", byteOffset := 40 }, { name := "Bits", type := 48, offset := 4, embedded := false, tag := "", pkgPath := "", byteOffset := 48 }, { name := "Keep", type := 49, offset := 5, embedded := false, tag := "", pkgPath := "", byteOffset := 56 }], siz := 6, byt := 80, zer := some (.agg [.lit (.int .i64 0), .lit (.string { data := #[] }), .lit (.string { data := #[] }), .lit (.int .i64 0), .lit (.int .u32 0), .lit (.slice none 0 0)]), fit := false, lvs := none }
theorem r51_ok : RowOk Tryd.prog 51 r51 := ⟨by kernel_rfl, by kernel_rfl, by kernel_rfl, (fun z hz => by cases hz; kernel_rfl), (fun h => by cases h), (fun l hl => by cases hl)⟩
noncomputable def r53 : TyRow := { desc := .slice 51, siz := 1, byt := 24, zer := some (.lit (.slice none 0 0)), fit := true, lvs := none }
theorem r53_ok : RowOk Tryd.prog 53 r53 := ⟨by kernel_rfl, by kernel_rfl, by kernel_rfl, (fun z hz => by cases hz; kernel_rfl), (fun _ => zeroFits_of (by kernel_rfl)), (fun l hl => by cases hl)⟩
noncomputable def r55 : TyRow := { desc := .struct #[{ name := "Kind", type := 3, offset := 0, embedded := false, tag := "", pkgPath := "", byteOffset := 0 }, { name := "Name", type := 9, offset := 1, embedded := false, tag := "", pkgPath := "", byteOffset := 8 }, { name := "S", type := 9, offset := 2, embedded := false, tag := "", pkgPath := "", byteOffset := 24 }, { name := "N", type := 3, offset := 3, embedded := false, tag := "", pkgPath := "", byteOffset := 40 }, { name := "Bits", type := 48, offset := 4, embedded := false, tag := "", pkgPath := "", byteOffset := 48 }, { name := "Keep", type := 49, offset := 5, embedded := false, tag := "", pkgPath := "", byteOffset := 56 }], siz := 6, byt := 80, zer := some (.agg [.lit (.int .i64 0), .lit (.string { data := #[] }), .lit (.string { data := #[] }), .lit (.int .i64 0), .lit (.int .u32 0), .lit (.slice none 0 0)]), fit := false, lvs := none }
theorem r55_ok : RowOk Tryd.prog 55 r55 := ⟨by kernel_rfl, by kernel_rfl, by kernel_rfl, (fun z hz => by cases hz; kernel_rfl), (fun h => by cases h), (fun l hl => by cases hl)⟩
noncomputable def r66 : TyRow := { desc := .slice 55, siz := 1, byt := 24, zer := some (.lit (.slice none 0 0)), fit := true, lvs := none }
theorem r66_ok : RowOk Tryd.prog 66 r66 := ⟨by kernel_rfl, by kernel_rfl, by kernel_rfl, (fun z hz => by cases hz; kernel_rfl), (fun _ => zeroFits_of (by kernel_rfl)), (fun l hl => by cases hl)⟩
noncomputable def r77 : TyRow := { desc := .pointer 79, siz := 1, byt := 8, zer := some (.lit (.pointer none)), fit := false, lvs := none }
theorem r77_ok : RowOk Tryd.prog 77 r77 := ⟨by kernel_rfl, by kernel_rfl, by kernel_rfl, (fun z hz => by cases hz; kernel_rfl), (fun h => by cases h), (fun l hl => by cases hl)⟩
noncomputable def r79 : TyRow := { desc := .struct #[{ name := "addr", type := 77, offset := 0, embedded := false, tag := "", pkgPath := "strings", byteOffset := 0 }, { name := "buf", type := 32, offset := 1, embedded := false, tag := "", pkgPath := "strings", byteOffset := 8 }], siz := 2, byt := 32, zer := some (.agg [.lit (.pointer none), .lit (.slice none 0 0)]), fit := true, lvs := none }
theorem r79_ok : RowOk Tryd.prog 79 r79 := ⟨by kernel_rfl, by kernel_rfl, by kernel_rfl, (fun z hz => by cases hz; kernel_rfl), (fun _ => zeroFits_of (by kernel_rfl)), (fun l hl => by cases hl)⟩
noncomputable def r80 : TyRow := { desc := .map 9 89, siz := 1, byt := 8, zer := some (.lit (.map none)), fit := false, lvs := none }
theorem r80_ok : RowOk Tryd.prog 80 r80 := ⟨by kernel_rfl, by kernel_rfl, by kernel_rfl, (fun z hz => by cases hz; kernel_rfl), (fun h => by cases h), (fun l hl => by cases hl)⟩
noncomputable def r82 : TyRow := { desc := .pointer 23, siz := 1, byt := 8, zer := some (.lit (.pointer none)), fit := false, lvs := none }
theorem r82_ok : RowOk Tryd.prog 82 r82 := ⟨by kernel_rfl, by kernel_rfl, by kernel_rfl, (fun z hz => by cases hz; kernel_rfl), (fun h => by cases h), (fun l hl => by cases hl)⟩
noncomputable def r85 : TyRow := { desc := .interface #[("Error", 90)], siz := 1, byt := 16, zer := some (.lit (.nilIface)), fit := false, lvs := none }
theorem r85_ok : RowOk Tryd.prog 85 r85 := ⟨by kernel_rfl, by kernel_rfl, by kernel_rfl, (fun z hz => by cases hz; kernel_rfl), (fun h => by cases h), (fun l hl => by cases hl)⟩
noncomputable def r89 : TyRow := { desc := .pointer 3, siz := 1, byt := 8, zer := some (.lit (.pointer none)), fit := false, lvs := none }
theorem r89_ok : RowOk Tryd.prog 89 r89 := ⟨by kernel_rfl, by kernel_rfl, by kernel_rfl, (fun z hz => by cases hz; kernel_rfl), (fun h => by cases h), (fun l hl => by cases hl)⟩
noncomputable def r98 : TyRow := { desc := .slice 4, siz := 1, byt := 24, zer := some (.lit (.slice none 0 0)), fit := true, lvs := none }
theorem r98_ok : RowOk Tryd.prog 98 r98 := ⟨by kernel_rfl, by kernel_rfl, by kernel_rfl, (fun z hz => by cases hz; kernel_rfl), (fun _ => zeroFits_of (by kernel_rfl)), (fun l hl => by cases hl)⟩
noncomputable def r105 : TyRow := { desc := .slice 109, siz := 1, byt := 24, zer := some (.lit (.slice none 0 0)), fit := true, lvs := none }
theorem r105_ok : RowOk Tryd.prog 105 r105 := ⟨by kernel_rfl, by kernel_rfl, by kernel_rfl, (fun z hz => by cases hz; kernel_rfl), (fun _ => zeroFits_of (by kernel_rfl)), (fun l hl => by cases hl)⟩
noncomputable def r107 : TyRow := { desc := .struct #[{ name := "A", type := 3, offset := 0, embedded := false, tag := "", pkgPath := "", byteOffset := 0 }, { name := "B", type := 3, offset := 1, embedded := false, tag := "", pkgPath := "", byteOffset := 8 }], siz := 2, byt := 16, zer := some (.agg [.lit (.int .i64 0), .lit (.int .i64 0)]), fit := false, lvs := some [.int, .int] }
theorem r107_ok : RowOk Tryd.prog 107 r107 := ⟨by kernel_rfl, by kernel_rfl, by kernel_rfl, (fun z hz => by cases hz; kernel_rfl), (fun h => by cases h), (fun l hl => by cases hl; exact ⟨by kernel_rfl, by kernel_rfl, by kernel_rfl⟩)⟩
noncomputable def r109 : TyRow := { desc := .struct #[{ name := "Dist", type := 3, offset := 0, embedded := false, tag := "", pkgPath := "", byteOffset := 0 }, { name := "Id", type := 3, offset := 1, embedded := false, tag := "", pkgPath := "", byteOffset := 8 }, { name := "New", type := 4, offset := 2, embedded := false, tag := "", pkgPath := "", byteOffset := 16 }], siz := 3, byt := 24, zer := some (.agg [.lit (.int .i64 0), .lit (.int .i64 0), .lit (.bool false)]), fit := false, lvs := some [.int, .int, .bool] }
theorem r109_ok : RowOk Tryd.prog 109 r109 := ⟨by kernel_rfl, by kernel_rfl, by kernel_rfl, (fun z hz => by cases hz; kernel_rfl), (fun h => by cases h), (fun l hl => by cases hl; exact ⟨by kernel_rfl, by kernel_rfl, by kernel_rfl⟩)⟩
noncomputable def r120 : TyRow := { desc := .pointer 4, siz := 1, byt := 8, zer := some (.lit (.pointer none)), fit := false, lvs := none }
theorem r120_ok : RowOk Tryd.prog 120 r120 := ⟨by kernel_rfl, by kernel_rfl, by kernel_rfl, (fun z hz => by cases hz; kernel_rfl), (fun h => by cases h), (fun l hl => by cases hl)⟩
noncomputable def r125 : TyRow := { desc := .func #[3] #[4] false, siz := 1, byt := 8, zer := some (.lit (.nilFunc)), fit := false, lvs := none }
theorem r125_ok : RowOk Tryd.prog 125 r125 := ⟨by kernel_rfl, by kernel_rfl, by kernel_rfl, (fun z hz => by cases hz; kernel_rfl), (fun h => by cases h), (fun l hl => by cases hl)⟩
noncomputable def r127 : TyRow := { desc := .int .u64, siz := 1, byt := 8, zer := some (.lit (.int .u64 0)), fit := false, lvs := none }
theorem r127_ok : RowOk Tryd.prog 127 r127 := ⟨by kernel_rfl, by kernel_rfl, by kernel_rfl, (fun z hz => by cases hz; kernel_rfl), (fun h => by cases h), (fun l hl => by cases hl)⟩
noncomputable def r129 : TyRow := { desc := .pointer 5, siz := 1, byt := 8, zer := some (.lit (.pointer none)), fit := false, lvs := none }
theorem r129_ok : RowOk Tryd.prog 129 r129 := ⟨by kernel_rfl, by kernel_rfl, by kernel_rfl, (fun z hz => by cases hz; kernel_rfl), (fun h => by cases h), (fun l hl => by cases hl)⟩
noncomputable def r131 : TyRow := { desc := .slice 20, siz := 1, byt := 24, zer := some (.lit (.slice none 0 0)), fit := true, lvs := none }
theorem r131_ok : RowOk Tryd.prog 131 r131 := ⟨by kernel_rfl, by kernel_rfl, by kernel_rfl, (fun z hz => by cases hz; kernel_rfl), (fun _ => zeroFits_of (by kernel_rfl)), (fun l hl => by cases hl)⟩
noncomputable def r133 : TyRow := { desc := .slice 3, siz := 1, byt := 24, zer := some (.lit (.slice none 0 0)), fit := true, lvs := none }
theorem r133_ok : RowOk Tryd.prog 133 r133 := ⟨by kernel_rfl, by kernel_rfl, by kernel_rfl, (fun z hz => by cases hz; kernel_rfl), (fun _ => zeroFits_of (by kernel_rfl)), (fun l hl => by cases hl)⟩
noncomputable def r143 : TyRow := { desc := .struct #[], siz := 0, byt := 0, zer := some (.agg []), fit := false, lvs := none }
theorem r143_ok : RowOk Tryd.prog 143 r143 := ⟨by kernel_rfl, by kernel_rfl, by kernel_rfl, (fun z hz => by cases hz; kernel_rfl), (fun h => by cases h), (fun l hl => by cases hl)⟩
noncomputable def r144 : TyRow := { desc := .pointer 146, siz := 1, byt := 8, zer := some (.lit (.pointer none)), fit := false, lvs := none }
theorem r144_ok : RowOk Tryd.prog 144 r144 := ⟨by kernel_rfl, by kernel_rfl, by kernel_rfl, (fun z hz => by cases hz; kernel_rfl), (fun h => by cases h), (fun l hl => by cases hl)⟩
noncomputable def r146 : TyRow := { desc := .struct #[{ name := "rest", type := 9, offset := 0, embedded := false, tag := "", pkgPath := "chainman/script", byteOffset := 0 }, { name := "some", type := 4, offset := 1, embedded := false, tag := "", pkgPath := "chainman/script", byteOffset := 16 }], siz := 2, byt := 24, zer := some (.agg [.lit (.string { data := #[] }), .lit (.bool false)]), fit := false, lvs := some [.str, .bool] }
theorem r146_ok : RowOk Tryd.prog 146 r146 := ⟨by kernel_rfl, by kernel_rfl, by kernel_rfl, (fun z hz => by cases hz; kernel_rfl), (fun h => by cases h), (fun l hl => by cases hl; exact ⟨by kernel_rfl, by kernel_rfl, by kernel_rfl⟩)⟩
noncomputable def r161 : TyRow := { desc := .func #[49] #[4] false, siz := 1, byt := 8, zer := some (.lit (.nilFunc)), fit := false, lvs := none }
theorem r161_ok : RowOk Tryd.prog 161 r161 := ⟨by kernel_rfl, by kernel_rfl, by kernel_rfl, (fun z hz => by cases hz; kernel_rfl), (fun h => by cases h), (fun l hl => by cases hl)⟩
noncomputable def r165 : TyRow := { desc := .func #[109] #[4] false, siz := 1, byt := 8, zer := some (.lit (.nilFunc)), fit := false, lvs := none }
theorem r165_ok : RowOk Tryd.prog 165 r165 := ⟨by kernel_rfl, by kernel_rfl, by kernel_rfl, (fun z hz => by cases hz; kernel_rfl), (fun h => by cases h), (fun l hl => by cases hl)⟩
noncomputable def r168 : TyRow := { desc := .array 24 5, siz := 24, byt := 24, zer := some (.agg [.lit (.int .u8 0), .lit (.int .u8 0), .lit (.int .u8 0), .lit (.int .u8 0), .lit (.int .u8 0), .lit (.int .u8 0), .lit (.int .u8 0), .lit (.int .u8 0), .lit (.int .u8 0), .lit (.int .u8 0), .lit (.int .u8 0), .lit (.int .u8 0), .lit (.int .u8 0), .lit (.int .u8 0), .lit (.int .u8 0), .lit (.int .u8 0), .lit (.int .u8 0), .lit (.int .u8 0), .lit (.int .u8 0), .lit (.int .u8 0), .lit (.int .u8 0), .lit (.int .u8 0), .lit (.int .u8 0), .lit (.int .u8 0)]), fit := false, lvs := none }
theorem r168_ok : RowOk Tryd.prog 168 r168 := ⟨by kernel_rfl, by kernel_rfl, by kernel_rfl, (fun z hz => by cases hz; kernel_rfl), (fun h => by cases h), (fun l hl => by cases hl)⟩
noncomputable def r169 : TyRow := { desc := .int .u64, siz := 1, byt := 8, zer := some (.lit (.int .u64 0)), fit := false, lvs := none }
theorem r169_ok : RowOk Tryd.prog 169 r169 := ⟨by kernel_rfl, by kernel_rfl, by kernel_rfl, (fun z hz => by cases hz; kernel_rfl), (fun h => by cases h), (fun l hl => by cases hl)⟩
noncomputable def r181 : TyRow := { desc := .func #[125] #[] false, siz := 1, byt := 8, zer := some (.lit (.nilFunc)), fit := false, lvs := none }
theorem r181_ok : RowOk Tryd.prog 181 r181 := ⟨by kernel_rfl, by kernel_rfl, by kernel_rfl, (fun z hz => by cases hz; kernel_rfl), (fun h => by cases h), (fun l hl => by cases hl)⟩
noncomputable def r182 : TyRow := { desc := .func #[125] #[] false, siz := 1, byt := 8, zer := some (.lit (.nilFunc)), fit := false, lvs := none }
theorem r182_ok : RowOk Tryd.prog 182 r182 := ⟨by kernel_rfl, by kernel_rfl, by kernel_rfl, (fun z hz => by cases hz; kernel_rfl), (fun h => by cases h), (fun l hl => by cases hl)⟩
noncomputable def r189 : TyRow := { desc := .array 20 169, siz := 20, byt := 160, zer := some (.agg [.lit (.int .u64 0), .lit (.int .u64 0), .lit (.int .u64 0), .lit (.int .u64 0), .lit (.int .u64 0), .lit (.int .u64 0), .lit (.int .u64 0), .lit (.int .u64 0), .lit (.int .u64 0), .lit (.int .u64 0), .lit (.int .u64 0), .lit (.int .u64 0), .lit (.int .u64 0), .lit (.int .u64 0), .lit (.int .u64 0), .lit (.int .u64 0), .lit (.int .u64 0), .lit (.int .u64 0), .lit (.int .u64 0), .lit (.int .u64 0)]), fit := false, lvs := none }
theorem r189_ok : RowOk Tryd.prog 189 r189 := ⟨by kernel_rfl, by kernel_rfl, by kernel_rfl, (fun z hz => by cases hz; kernel_rfl), (fun h => by cases h), (fun l hl => by cases hl)⟩
noncomputable def r190 : TyRow := { desc := .array 65 5, siz := 65, byt := 65, zer := some (.agg [.lit (.int .u8 0), .lit (.int .u8 0), .lit (.int .u8 0), .lit (.int .u8 0), .lit (.int .u8 0), .lit (.int .u8 0), .lit (.int .u8 0), .lit (.int .u8 0), .lit (.int .u8 0), .lit (.int .u8 0), .lit (.int .u8 0), .lit (.int .u8 0), .lit (.int .u8 0), .lit (.int .u8 0), .lit (.int .u8 0), .lit (.int .u8 0), .lit (.int .u8 0), .lit (.int .u8 0), .lit (.int .u8 0), .lit (.int .u8 0), .lit (.int .u8 0), .lit (.int .u8 0), .lit (.int .u8 0), .lit (.int .u8 0), .lit (.int .u8 0), .lit (.int .u8 0), .lit (.int .u8 0), .lit (.int .u8 0), .lit (.int .u8 0), .lit (.int .u8 0), .lit (.int .u8 0), .lit (.int .u8 0), .lit (.int .u8 0), .lit (.int .u8 0), .lit (.int .u8 0), .lit (.int .u8 0), .lit (.int .u8 0), .lit (.int .u8 0), .lit (.int .u8 0), .lit (.int .u8 0), .lit (.int .u8 0), .lit (.int .u8 0), .lit (.int .u8 0), .lit (.int .u8 0), .lit (.int .u8 0), .lit (.int .u8 0), .lit (.int .u8 0), .lit (.int .u8 0), .lit (.int .u8 0), .lit (.int .u8 0), .lit (.int .u8 0), .lit (.int .u8 0), .lit (.int .u8 0), .lit (.int .u8 0), .lit (.int .u8 0), .lit (.int .u8 0), .lit (.int .u8 0), .lit (.int .u8 0), .lit (.int .u8 0), .lit (.int .u8 0), .lit (.int .u8 0), .lit (.int .u8 0), .lit (.int .u8 0), .lit (.int .u8 0), .lit (.int .u8 0)]), fit := false, lvs := none }
theorem r190_ok : RowOk Tryd.prog 190 r190 := ⟨by kernel_rfl, by kernel_rfl, by kernel_rfl, (fun z hz => by cases hz; kernel_rfl), (fun h => by cases h), (fun l hl => by cases hl)⟩
noncomputable def r199 : TyRow := { desc := .map 3 4, siz := 1, byt := 8, zer := some (.lit (.map none)), fit := false, lvs := none }
theorem r199_ok : RowOk Tryd.prog 199 r199 := ⟨by kernel_rfl, by kernel_rfl, by kernel_rfl, (fun z hz => by cases hz; kernel_rfl), (fun h => by cases h), (fun l hl => by cases hl)⟩
noncomputable def r200 : TyRow := { desc := .func #[109, 109] #[3] false, siz := 1, byt := 8, zer := some (.lit (.nilFunc)), fit := false, lvs := none }
theorem r200_ok : RowOk Tryd.prog 200 r200 := ⟨by kernel_rfl, by kernel_rfl, by kernel_rfl, (fun z hz => by cases hz; kernel_rfl), (fun h => by cases h), (fun l hl => by cases hl)⟩
noncomputable def r205 : TyRow := { desc := .array 256 5, siz := 256, byt := 256, zer := some (.agg [.lit (.int .u8 0), .lit (.int .u8 0), .lit (.int .u8 0), .lit (.int .u8 0), .lit (.int .u8 0), .lit (.int .u8 0), .lit (.int .u8 0), .lit (.int .u8 0), .lit (.int .u8 0), .lit (.int .u8 0), .lit (.int .u8 0), .lit (.int .u8 0), .lit (.int .u8 0), .lit (.int .u8 0), .lit (.int .u8 0), .lit (.int .u8 0), .lit (.int .u8 0), .lit (.int .u8 0), .lit (.int .u8 0), .lit (.int .u8 0), .lit (.int .u8 0), .lit (.int .u8 0), .lit (.int .u8 0), .lit (.int .u8 0), .lit (.int .u8 0), .lit (.int .u8 0), .lit (.int .u8 0), .lit (.int .u8 0), .lit (.int .u8 0), .lit (.int .u8 0), .lit (.int .u8 0), .lit (.int .u8 0), .lit (.int .u8 0), .lit (.int .u8 0), .lit (.int .u8 0), .lit (.int .u8 0), .lit (.int .u8 0), .lit (.int .u8 0), .lit (.int .u8 0), .lit (.int .u8 0), .lit (.int .u8 0), .lit (.int .u8 0), .lit (.int .u8 0), .lit (.int .u8 0), .lit (.int .u8 0), .lit (.int .u8 0), .lit (.int .u8 0), .lit (.int .u8 0), .lit (.int .u8 0), .lit (.int .u8 0), .lit (.int .u8 0), .lit (.int .u8 0), .lit (.int .u8 0), .lit (.int .u8 0), .lit (.int .u8 0), .lit (.int .u8 0), .lit (.int .u8 0), .lit (.int .u8 0), .lit (.int .u8 0), .lit (.int .u8 0), .lit (.int .u8 0), .lit (.int .u8 0), .lit (.int .u8 0), .lit (.int .u8 0), .lit (.int .u8 0), .lit (.int .u8 0), .lit (.int .u8 0), .lit (.int .u8 0), .lit (.int .u8 0), .lit (.int .u8 0), .lit (.int .u8 0), .lit (.int .u8 0), .lit (.int .u8 0), .lit (.int .u8 0), .lit (.int .u8 0), .lit (.int .u8 0), .lit (.int .u8 0), .lit (.int .u8 0), .lit (.int .u8 0), .lit (.int .u8 0), .lit (.int .u8 0), .lit (.int .u8 0), .lit (.int .u8 0), .lit (.int .u8 0), .lit (.int .u8 0), .lit (.int .u8 0), .lit (.int .u8 0), .lit (.int .u8 0), .lit (.int .u8 0), .lit (.int .u8 0), .lit (.int .u8 0), .lit (.int .u8 0), .lit (.int .u8 0), .lit (.int .u8 0), .lit (.int .u8 0), .lit (.int .u8 0), .lit (.int .u8 0), .lit (.int .u8 0), .lit (.int .u8 0), .lit (.int .u8 0), .lit (.int .u8 0), .lit (.int .u8 0), .lit (.int .u8 0), .lit (.int .u8 0), .lit (.int .u8 0), .lit (.int .u8 0), .lit (.int .u8 0), .lit (.int .u8 0), .lit (.int .u8 0), .lit (.int .u8 0), .lit (.int .u8 0), .lit (.int .u8 0), .lit (.int .u8 0), .lit (.int .u8 0), .lit (.int .u8 0), .lit (.int .u8 0), .lit (.int .u8 0), .lit (.int .u8 0), .lit (.int .u8 0), .lit (.int .u8 0), .lit (.int .u8 0), .lit (.int .u8 0), .lit (.int .u8 0), .lit (.int .u8 0), .lit (.int .u8 0), .lit (.int .u8 0), .lit (.int .u8 0), .lit (.int .u8 0), .lit (.int .u8 0), .lit (.int .u8 0), .lit (.int .u8 0), .lit (.int .u8 0), .lit (.int .u8 0), .lit (.int .u8 0), .lit (.int .u8 0), .lit (.int .u8 0), .lit (.int .u8 0), .lit (.int .u8 0), .lit (.int .u8 0), .lit (.int .u8 0), .lit (.int .u8 0), .lit (.int .u8 0), .lit (.int .u8 0), .lit (.int .u8 0), .lit (.int .u8 0), .lit (.int .u8 0), .lit (.int .u8 0), .lit (.int .u8 0), .lit (.int .u8 0), .lit (.int .u8 0), .lit (.int .u8 0), .lit (.int .u8 0), .lit (.int .u8 0), .lit (.int .u8 0), .lit (.int .u8 0), .lit (.int .u8 0), .lit (.int .u8 0), .lit (.int .u8 0), .lit (.int .u8 0), .lit (.int .u8 0), .lit (.int .u8 0), .lit (.int .u8 0), .lit (.int .u8 0), .lit (.int .u8 0), .lit (.int .u8 0), .lit (.int .u8 0), .lit (.int .u8 0), .lit (.int .u8 0), .lit (.int .u8 0), .lit (.int .u8 0), .lit (.int .u8 0), .lit (.int .u8 0), .lit (.int .u8 0), .lit (.int .u8 0), .lit (.int .u8 0), .lit (.int .u8 0), .lit (.int .u8 0), .lit (.int .u8 0), .lit (.int .u8 0), .lit (.int .u8 0), .lit (.int .u8 0), .lit (.int .u8 0), .lit (.int .u8 0), .lit (.int .u8 0), .lit (.int .u8 0), .lit (.int .u8 0), .lit (.int .u8 0), .lit (.int .u8 0), .lit (.int .u8 0), .lit (.int .u8 0), .lit (.int .u8 0), .lit (.int .u8 0), .lit (.int .u8 0), .lit (.int .u8 0), .lit (.int .u8 0), .lit (.int .u8 0), .lit (.int .u8 0), .lit (.int .u8 0), .lit (.int .u8 0), .lit (.int .u8 0), .lit (.int .u8 0), .lit (.int .u8 0), .lit (.int .u8 0), .lit (.int .u8 0), .lit (.int .u8 0), .lit (.int .u8 0), .lit (.int .u8 0), .lit (.int .u8 0), .lit (.int .u8 0), .lit (.int .u8 0), .lit (.int .u8 0), .lit (.int .u8 0), .lit (.int .u8 0), .lit (.int .u8 0), .lit (.int .u8 0), .lit (.int .u8 0), .lit (.int .u8 0), .lit (.int .u8 0), .lit (.int .u8 0), .lit (.int .u8 0), .lit (.int .u8 0), .lit (.int .u8 0), .lit (.int .u8 0), .lit (.int .u8 0), .lit (.int .u8 0), .lit (.int .u8 0), .lit (.int .u8 0), .lit (.int .u8 0), .lit (.int .u8 0), .lit (.int .u8 0), .lit (.int .u8 0), .lit (.int .u8 0), .lit (.int .u8 0), .lit (.int .u8 0), .lit (.int .u8 0), .lit (.int .u8 0), .lit (.int .u8 0), .lit (.int .u8 0), .lit (.int .u8 0), .lit (.int .u8 0), .lit (.int .u8 0), .lit (.int .u8 0), .lit (.int .u8 0), .lit (.int .u8 0), .lit (.int .u8 0), .lit (.int .u8 0), .lit (.int .u8 0), .lit (.int .u8 0), .lit (.int .u8 0), .lit (.int .u8 0), .lit (.int .u8 0), .lit (.int .u8 0), .lit (.int .u8 0), .lit (.int .u8 0), .lit (.int .u8 0), .lit (.int .u8 0)]), fit := false, lvs := none }
theorem r205_ok : RowOk Tryd.prog 205 r205 := ⟨by kernel_rfl, by kernel_rfl, by kernel_rfl, (fun z hz => by cases hz; kernel_rfl), (fun h => by cases h), (fun l hl => by cases hl)⟩
noncomputable def r207 : TyRow := { desc := .struct #[{ name := "lo", type := 5, offset := 0, embedded := false, tag := "", pkgPath := "unicode/utf8", byteOffset := 0 }, { name := "hi", type := 5, offset := 1, embedded := false, tag := "", pkgPath := "unicode/utf8", byteOffset := 1 }], siz := 2, byt := 2, zer := some (.agg [.lit (.int .u8 0), .lit (.int .u8 0)]), fit := false, lvs := some [.int, .int] }
theorem r207_ok : RowOk Tryd.prog 207 r207 := ⟨by kernel_rfl, by kernel_rfl, by kernel_rfl, (fun z hz => by cases hz; kernel_rfl), (fun h => by cases h), (fun l hl => by cases hl; exact ⟨by kernel_rfl, by kernel_rfl, by kernel_rfl⟩)⟩
noncomputable def r208 : TyRow := { desc := .array 16 207, siz := 32, byt := 32, zer := some (.agg [.lit (.int .u8 0), .lit (.int .u8 0), .lit (.int .u8 0), .lit (.int .u8 0), .lit (.int .u8 0), .lit (.int .u8 0), .lit (.int .u8 0), .lit (.int .u8 0), .lit (.int .u8 0), .lit (.int .u8 0), .lit (.int .u8 0), .lit (.int .u8 0), .lit (.int .u8 0), .lit (.int .u8 0), .lit (.int .u8 0), .lit (.int .u8 0), .lit (.int .u8 0), .lit (.int .u8 0), .lit (.int .u8 0), .lit (.int .u8 0), .lit (.int .u8 0), .lit (.int .u8 0), .lit (.int .u8 0), .lit (.int .u8 0), .lit (.int .u8 0), .lit (.int .u8 0), .lit (.int .u8 0), .lit (.int .u8 0), .lit (.int .u8 0), .lit (.int .u8 0), .lit (.int .u8 0), .lit (.int .u8 0)]), fit := false, lvs := none }
theorem r208_ok : RowOk Tryd.prog 208 r208 := ⟨by kernel_rfl, by kernel_rfl, by kernel_rfl, (fun z hz => by cases hz; kernel_rfl), (fun h => by cases h), (fun l hl => by cases hl)⟩
noncomputable def r210 : TyRow := { desc := .array 32 5, siz := 32, byt := 32, zer := some (.agg [.lit (.int .u8 0), .lit (.int .u8 0), .lit (.int .u8 0), .lit (.int .u8 0), .lit (.int .u8 0), .lit (.int .u8 0), .lit (.int .u8 0), .lit (.int .u8 0), .lit (.int .u8 0), .lit (.int .u8 0), .lit (.int .u8 0), .lit (.int .u8 0), .lit (.int .u8 0), .lit (.int .u8 0), .lit (.int .u8 0), .lit (.int .u8 0), .lit (.int .u8 0), .lit (.int .u8 0), .lit (.int .u8 0), .lit (.int .u8 0), .lit (.int .u8 0), .lit (.int .u8 0), .lit (.int .u8 0), .lit (.int .u8 0), .lit (.int .u8 0), .lit (.int .u8 0), .lit (.int .u8 0), .lit (.int .u8 0), .lit (.int .u8 0), .lit (.int .u8 0), .lit (.int .u8 0), .lit (.int .u8 0)]), fit := false, lvs := none }
theorem r210_ok : RowOk Tryd.prog 210 r210 := ⟨by kernel_rfl, by kernel_rfl, by kernel_rfl, (fun z hz => by cases hz; kernel_rfl), (fun h => by cases h), (fun l hl => by cases hl)⟩
noncomputable def r211 : TyRow := { desc := .array 64 5, siz := 64, byt := 64, zer := some (.agg [.lit (.int .u8 0), .lit (.int .u8 0), .lit (.int .u8 0), .lit (.int .u8 0), .lit (.int .u8 0), .lit (.int .u8 0), .lit (.int .u8 0), .lit (.int .u8 0), .lit (.int .u8 0), .lit (.int .u8 0), .lit (.int .u8 0), .lit (.int .u8 0), .lit (.int .u8 0), .lit (.int .u8 0), .lit (.int .u8 0), .lit (.int .u8 0), .lit (.int .u8 0), .lit (.int .u8 0), .lit (.int .u8 0), .lit (.int .u8 0), .lit (.int .u8 0), .lit (.int .u8 0), .lit (.int .u8 0), .lit (.int .u8 0), .lit (.int .u8 0), .lit (.int .u8 0), .lit (.int .u8 0), .lit (.int .u8 0), .lit (.int .u8 0), .lit (.int .u8 0), .lit (.int .u8 0), .lit (.int .u8 0), .lit (.int .u8 0), .lit (.int .u8 0), .lit (.int .u8 0), .lit (.int .u8 0), .lit (.int .u8 0), .lit (.int .u8 0), .lit (.int .u8 0), .lit (.int .u8 0), .lit (.int .u8 0), .lit (.int .u8 0), .lit (.int .u8 0), .lit (.int .u8 0), .lit (.int .u8 0), .lit (.int .u8 0), .lit (.int .u8 0), .lit (.int .u8 0), .lit (.int .u8 0), .lit (.int .u8 0), .lit (.int .u8 0), .lit (.int .u8 0), .lit (.int .u8 0), .lit (.int .u8 0), .lit (.int .u8 0), .lit (.int .u8 0), .lit (.int .u8 0), .lit (.int .u8 0), .lit (.int .u8 0), .lit (.int .u8 0), .lit (.int .u8 0), .lit (.int .u8 0), .lit (.int .u8 0), .lit (.int .u8 0)]), fit := false, lvs := none }
theorem r211_ok : RowOk Tryd.prog 211 r211 := ⟨by kernel_rfl, by kernel_rfl, by kernel_rfl, (fun z hz => by cases hz; kernel_rfl), (fun h => by cases h), (fun l hl => by cases hl)⟩
noncomputable def r212 : TyRow := { desc := .array 8 5, siz := 8, byt := 8, zer := some (.agg [.lit (.int .u8 0), .lit (.int .u8 0), .lit (.int .u8 0), .lit (.int .u8 0), .lit (.int .u8 0), .lit (.int .u8 0), .lit (.int .u8 0), .lit (.int .u8 0)]), fit := false, lvs := none }
theorem r212_ok : RowOk Tryd.prog 212 r212 := ⟨by kernel_rfl, by kernel_rfl, by kernel_rfl, (fun z hz => by cases hz; kernel_rfl), (fun h => by cases h), (fun l hl => by cases hl)⟩
theorem tmix : Tryd.prog.follows .mixedOrders = true := by kernel_rfl
theorem tc3 : callable Tryd.prog 3 = true := by kernel_rfl
theorem tc4 : callable Tryd.prog 4 = true := by kernel_rfl
theorem tc5 : callable Tryd.prog 5 = true := by kernel_rfl
theorem tc6 : callable Tryd.prog 6 = true := by kernel_rfl
theorem tc7 : callable Tryd.prog 7 = true := by kernel_rfl
theorem tc8 : callable Tryd.prog 8 = true := by kernel_rfl
theorem tc9 : callable Tryd.prog 9 = true := by kernel_rfl
theorem tc10 : callable Tryd.prog 10 = true := by kernel_rfl
theorem tc11 : callable Tryd.prog 11 = true := by kernel_rfl
theorem tc12 : callable Tryd.prog 12 = true := by kernel_rfl
theorem tc13 : callable Tryd.prog 13 = true := by kernel_rfl
theorem tc14 : callable Tryd.prog 14 = true := by kernel_rfl
theorem tc15 : callable Tryd.prog 15 = true := by kernel_rfl
theorem tc16 : callable Tryd.prog 16 = true := by kernel_rfl
theorem tc17 : callable Tryd.prog 17 = true := by kernel_rfl
theorem tc18 : callable Tryd.prog 18 = true := by kernel_rfl
theorem tc19 : callable Tryd.prog 19 = true := by kernel_rfl
theorem tc20 : callable Tryd.prog 20 = true := by kernel_rfl
theorem tc21 : callable Tryd.prog 21 = true := by kernel_rfl
theorem tc22 : callable Tryd.prog 22 = true := by kernel_rfl
theorem tc23 : callable Tryd.prog 23 = true := by kernel_rfl
theorem tc24 : callable Tryd.prog 24 = true := by kernel_rfl
theorem tc25 : callable Tryd.prog 25 = true := by kernel_rfl
theorem tc26 : callable Tryd.prog 26 = true := by kernel_rfl
theorem tc27 : callable Tryd.prog 27 = true := by kernel_rfl
theorem tc28 : callable Tryd.prog 28 = true := by kernel_rfl
theorem tc29 : callable Tryd.prog 29 = true := by kernel_rfl
theorem tc30 : callable Tryd.prog 30 = true := by kernel_rfl
theorem tc31 : callable Tryd.prog 31 = true := by kernel_rfl
theorem tc32 : callable Tryd.prog 32 = true := by kernel_rfl
theorem tc33 : callable Tryd.prog 33 = true := by kernel_rfl
theorem tc34 : callable Tryd.prog 34 = true := by kernel_rfl
theorem tc35 : callable Tryd.prog 35 = true := by kernel_rfl
theorem tc36 : callable Tryd.prog 36 = true := by kernel_rfl
theorem tc37 : callable Tryd.prog 37 = true := by kernel_rfl
theorem tc38 : callable Tryd.prog 38 = true := by kernel_rfl
theorem tc39 : callable Tryd.prog 39 = true := by kernel_rfl
theorem tc40 : callable Tryd.prog 40 = true := by kernel_rfl
theorem tc41 : callable Tryd.prog 41 = true := by kernel_rfl
theorem tc42 : callable Tryd.prog 42 = true := by kernel_rfl
theorem tc43 : callable Tryd.prog 43 = true := by kernel_rfl
theorem tc44 : callable Tryd.prog 44 = true := by kernel_rfl
theorem tc45 : callable Tryd.prog 45 = true := by kernel_rfl
theorem tc46 : callable Tryd.prog 46 = true := by kernel_rfl
theorem tc47 : callable Tryd.prog 47 = true := by kernel_rfl
theorem tc48 : callable Tryd.prog 48 = true := by kernel_rfl
theorem tc49 : callable Tryd.prog 49 = true := by kernel_rfl
theorem tc50 : callable Tryd.prog 50 = true := by kernel_rfl
theorem tc51 : callable Tryd.prog 51 = true := by kernel_rfl
theorem tc52 : callable Tryd.prog 52 = true := by kernel_rfl
theorem tc53 : callable Tryd.prog 53 = true := by kernel_rfl
theorem tc54 : callable Tryd.prog 54 = true := by kernel_rfl
theorem tc55 : callable Tryd.prog 55 = true := by kernel_rfl
theorem tc56 : callable Tryd.prog 56 = true := by kernel_rfl
theorem tc57 : callable Tryd.prog 57 = true := by kernel_rfl
theorem tc58 : callable Tryd.prog 58 = true := by kernel_rfl
theorem tc59 : callable Tryd.prog 59 = true := by kernel_rfl
theorem tc60 : callable Tryd.prog 60 = true := by kernel_rfl
theorem tc61 : callable Tryd.prog 61 = true := by kernel_rfl
theorem tc62 : callable Tryd.prog 62 = true := by kernel_rfl
theorem tc63 : callable Tryd.prog 63 = true := by kernel_rfl
theorem tc64 : callable Tryd.prog 64 = true := by kernel_rfl
theorem tc65 : callable Tryd.prog 65 = true := by kernel_rfl
theorem tc66 : callable Tryd.prog 66 = true := by kernel_rfl
theorem tc67 : callable Tryd.prog 67 = true := by kernel_rfl
theorem tc68 : callable Tryd.prog 68 = true := by kernel_rfl
theorem tc69 : callable Tryd.prog 69 = true := by kernel_rfl
theorem tc70 : callable Tryd.prog 70 = true := by kernel_rfl
theorem tc71 : callable Tryd.prog 71 = true := by kernel_rfl
theorem tc72 : callable Tryd.prog 72 = true := by kernel_rfl
theorem tc73 : callable Tryd.prog 73 = true := by kernel_rfl
theorem tc74 : callable Tryd.prog 74 = true := by kernel_rfl
theorem tc75 : callable Tryd.prog 75 = true := by kernel_rfl
theorem tc76 : callable Tryd.prog 76 = true := by kernel_rfl
theorem tc77 : callable Tryd.prog 77 = true := by kernel_rfl
theorem tc78 : callable Tryd.prog 78 = true := by kernel_rfl
theorem tc79 : callable Tryd.prog 79 = true := by kernel_rfl
theorem tc80 : callable Tryd.prog 80 = true := by kernel_rfl
theorem tc81 : callable Tryd.prog 81 = true := by kernel_rfl
theorem tc82 : callable Tryd.prog 82 = true := by kernel_rfl
theorem tc83 : callable Tryd.prog 83 = true := by kernel_rfl
theorem tc84 : callable Tryd.prog 84 = true := by kernel_rfl
theorem tc85 : callable Tryd.prog 85 = true := by kernel_rfl
theorem tc86 : callable Tryd.prog 86 = true := by kernel_rfl
theorem tc87 : callable Tryd.prog 87 = true := by kernel_rfl
theorem tc88 : callable Tryd.prog 88 = true := by kernel_rfl
theorem tc89 : callable Tryd.prog 89 = true := by kernel_rfl
theorem tc90 : callable Tryd.prog 90 = true := by kernel_rfl
theorem tc91 : callable Tryd.prog 91 = true := by kernel_rfl
theorem tc92 : callable Tryd.prog 92 = true := by kernel_rfl
theorem tc93 : callable Tryd.prog 93 = true := by kernel_rfl
theorem tc94 : callable Tryd.prog 94 = true := by kernel_rfl
theorem tc95 : callable Tryd.prog 95 = true := by kernel_rfl
theorem tc96 : callable Tryd.prog 96 = true := by kernel_rfl
theorem tc97 : callable Tryd.prog 97 = true := by kernel_rfl
theorem tc98 : callable Tryd.prog 98 = true := by kernel_rfl
theorem tc99 : callable Tryd.prog 99 = true := by kernel_rfl
theorem tc100 : callable Tryd.prog 100 = true := by kernel_rfl
theorem tc101 : callable Tryd.prog 101 = true := by kernel_rfl
theorem tc102 : callable Tryd.prog 102 = true := by kernel_rfl
theorem tc103 : callable Tryd.prog 103 = true := by kernel_rfl
theorem tc104 : callable Tryd.prog 104 = true := by kernel_rfl
theorem tc105 : callable Tryd.prog 105 = true := by kernel_rfl
theorem tc106 : callable Tryd.prog 106 = true := by kernel_rfl
theorem tc107 : callable Tryd.prog 107 = true := by kernel_rfl
theorem tc108 : callable Tryd.prog 108 = true := by kernel_rfl
theorem tc109 : callable Tryd.prog 109 = true := by kernel_rfl
theorem tc110 : callable Tryd.prog 110 = true := by kernel_rfl
theorem tc111 : callable Tryd.prog 111 = true := by kernel_rfl
theorem tc112 : callable Tryd.prog 112 = true := by kernel_rfl
theorem tc113 : callable Tryd.prog 113 = true := by kernel_rfl
theorem tc114 : callable Tryd.prog 114 = true := by kernel_rfl
theorem tc115 : callable Tryd.prog 115 = true := by kernel_rfl
theorem tc116 : callable Tryd.prog 116 = true := by kernel_rfl
theorem tc117 : callable Tryd.prog 117 = true := by kernel_rfl
theorem tc119 : callable Tryd.prog 119 = true := by kernel_rfl
theorem tc120 : callable Tryd.prog 120 = true := by kernel_rfl
theorem tc121 : callable Tryd.prog 121 = true := by kernel_rfl
theorem tc122 : callable Tryd.prog 122 = true := by kernel_rfl
theorem tc123 : callable Tryd.prog 123 = true := by kernel_rfl
theorem tc124 : callable Tryd.prog 124 = true := by kernel_rfl
theorem tc125 : callable Tryd.prog 125 = true := by kernel_rfl
theorem tc126 : callable Tryd.prog 126 = true := by kernel_rfl
theorem tc127 : callable Tryd.prog 127 = true := by kernel_rfl
theorem tc128 : callable Tryd.prog 128 = true := by kernel_rfl
theorem tc129 : callable Tryd.prog 129 = true := by kernel_rfl
theorem tc130 : callable Tryd.prog 130 = true := by kernel_rfl
theorem tc131 : callable Tryd.prog 131 = true := by kernel_rfl
theorem tc132 : callable Tryd.prog 132 = true := by kernel_rfl
theorem tc133 : callable Tryd.prog 133 = true := by kernel_rfl
theorem tc134 : callable Tryd.prog 134 = true := by kernel_rfl
theorem tc135 : callable Tryd.prog 135 = true := by kernel_rfl
theorem tc136 : callable Tryd.prog 136 = true := by kernel_rfl
theorem tc137 : callable Tryd.prog 137 = true := by kernel_rfl
theorem tc138 : callable Tryd.prog 138 = true := by kernel_rfl
theorem tc139 : callable Tryd.prog 139 = true := by kernel_rfl
theorem tc140 : callable Tryd.prog 140 = true := by kernel_rfl
theorem tc141 : callable Tryd.prog 141 = true := by kernel_rfl
theorem tc142 : callable Tryd.prog 142 = true := by kernel_rfl
theorem tc143 : callable Tryd.prog 143 = true := by kernel_rfl
theorem tc144 : callable Tryd.prog 144 = true := by kernel_rfl
theorem tc146 : callable Tryd.prog 146 = true := by kernel_rfl
theorem tc148 : callable Tryd.prog 148 = true := by kernel_rfl
theorem tc149 : callable Tryd.prog 149 = true := by kernel_rfl
theorem tc150 : callable Tryd.prog 150 = true := by kernel_rfl
theorem tc151 : callable Tryd.prog 151 = true := by kernel_rfl
theorem tc152 : callable Tryd.prog 152 = true := by kernel_rfl
theorem tc153 : callable Tryd.prog 153 = true := by kernel_rfl
theorem tc154 : callable Tryd.prog 154 = true := by kernel_rfl
theorem tc155 : callable Tryd.prog 155 = true := by kernel_rfl
theorem tc156 : callable Tryd.prog 156 = true := by kernel_rfl
theorem tc157 : callable Tryd.prog 157 = true := by kernel_rfl
theorem tc158 : callable Tryd.prog 158 = true := by kernel_rfl
theorem tc159 : callable Tryd.prog 159 = true := by kernel_rfl
theorem tc160 : callable Tryd.prog 160 = true := by kernel_rfl
theorem tc161 : callable Tryd.prog 161 = true := by kernel_rfl
theorem tc162 : callable Tryd.prog 162 = true := by kernel_rfl
theorem tc164 : callable Tryd.prog 164 = true := by kernel_rfl
theorem tc165 : callable Tryd.prog 165 = true := by kernel_rfl
theorem tc166 : callable Tryd.prog 166 = true := by kernel_rfl
theorem tc167 : callable Tryd.prog 167 = true := by kernel_rfl
theorem tc168 : callable Tryd.prog 168 = true := by kernel_rfl
theorem tc169 : callable Tryd.prog 169 = true := by kernel_rfl
theorem tc170 : callable Tryd.prog 170 = true := by kernel_rfl
theorem tc172 : callable Tryd.prog 172 = true := by kernel_rfl
theorem tc173 : callable Tryd.prog 173 = true := by kernel_rfl
theorem tc174 : callable Tryd.prog 174 = true := by kernel_rfl
theorem tc175 : callable Tryd.prog 175 = true := by kernel_rfl
theorem tc176 : callable Tryd.prog 176 = true := by kernel_rfl
theorem tc177 : callable Tryd.prog 177 = true := by kernel_rfl
theorem tc178 : callable Tryd.prog 178 = true := by kernel_rfl
theorem tc179 : callable Tryd.prog 179 = true := by kernel_rfl
theorem tc180 : callable Tryd.prog 180 = true := by kernel_rfl
theorem tc181 : callable Tryd.prog 181 = true := by kernel_rfl
theorem tc182 : callable Tryd.prog 182 = true := by kernel_rfl
theorem tc183 : callable Tryd.prog 183 = true := by kernel_rfl
theorem tc184 : callable Tryd.prog 184 = true := by kernel_rfl
theorem tc185 : callable Tryd.prog 185 = true := by kernel_rfl
theorem tc186 : callable Tryd.prog 186 = true := by kernel_rfl
theorem tc187 : callable Tryd.prog 187 = true := by kernel_rfl
theorem tc188 : callable Tryd.prog 188 = true := by kernel_rfl
theorem tc189 : callable Tryd.prog 189 = true := by kernel_rfl
theorem tc190 : callable Tryd.prog 190 = true := by kernel_rfl
theorem tc191 : callable Tryd.prog 191 = true := by kernel_rfl
theorem tc192 : callable Tryd.prog 192 = true := by kernel_rfl
theorem tc217 : callable Tryd.prog 217 = true := by kernel_rfl
end Go.Proofs.YtglmofbcooefkaaDoor.AL
/- Texts, searched and cut: the library's, told over abstract values. -/
set_option linter.unusedVariables false
set_option linter.unusedSimpArgs false
set_option maxRecDepth 100000
namespace Go.Proofs.YtglmofbcooefkaaDoor.AL
open Go Go.Proofs
open Go.Proofs.Tryd
variable {P : Program}
/-- What is so of written-out values, and leaves the world. -/
theorem acalls_lits {f : FuncId} {vs : List Value} {v : Value} (hc : ∀ w, Calls P f vs.toArray w fun e w' => e = .returned v ∧ w' = w) (h : AHeap) : ACalls P f (vs.map .lit) h fun e g => e = .ret (.lit v) ∧ g = h := by
  intro ρ w us hR hv
  have e : us = vs.toArray := by
    obtain ⟨hl, hv⟩ := hv
    apply Array.ext
    · simpa using hl.symm
    · intro i h1 h2
      have := hv i (by simpa using h2)
      simp only [List.getElem_map] at this
      have hg : us.getD i undef = us[i] := by simp [Array.getD, h1]
      rw [hg] at this
      generalize us[i] = u at this
      cases this; simp
  subst e
  refine (hc w).mono ?_
  rintro e w' ⟨rfl, rfl⟩
  exact ⟨ρ, h, _, .refl _ _ _, hR, .ret _ _ (.lit _), rfl, rfl⟩
def sep0 (t : ByteArray) : UInt8 := t.data.toList.headD 0
theorem sep_one {t : ByteArray} (h : t.size = 1) : t = ⟨#[sep0 t]⟩ := by
  obtain ⟨⟨l⟩⟩ := t
  have hl : l.length = 1 := h
  match l, hl with
  | [c], _ => rfl
def indexB (s : ByteArray) (c : UInt8) : Int := Lib.indexByte s.data.toList c
def countB (s : ByteArray) (c : UInt8) : Nat := Lib.countByte s.data.toList c
theorem index_run {s t : ByteArray} (ht : t.size = 1) (h : AHeap) : ACalls Tryd.prog 122 [.lit (.string s), .lit (.string t)] h fun e g => e = .ret (.lit (.int .i64 (indexB s (sep0 t)))) ∧ g = h := by
  have := sep_one ht
  rw [this]
  exact acalls_lits (vs := [.string s, .string ⟨#[sep0 t]⟩]) (fun w => Any.strings_Index_one Tryd.laysIndex s (sep0 t) w) h
theorem indexL_run {s t : ByteArray} (ht : t.size = 1) (h : AHeap) : ACalls Tryd.prog 123 [.lit (.string s), .lit (.string t)] h fun e g => e = .ret (.lit (.int .i64 (indexB s (sep0 t)))) ∧ g = h := by
  have := sep_one ht
  rw [this]
  exact acalls_lits (vs := [.string s, .string ⟨#[sep0 t]⟩]) (fun w => Any.stringslite_Index_one Tryd.laysIndexL s (sep0 t) w) h
theorem count_run {s t : ByteArray} (ht : t.size = 1) (h : AHeap) : ACalls Tryd.prog 121 [.lit (.string s), .lit (.string t)] h fun e g => e = .ret (.lit (.int .i64 (countB s (sep0 t) : Nat))) ∧ g = h := by
  have := sep_one ht
  rw [this]
  exact acalls_lits (vs := [.string s, .string ⟨#[sep0 t]⟩]) (fun w => Any.strings_Count_one Tryd.laysCount s (sep0 t) w) h
noncomputable def w_strings_Index : XC := .p fun R args K => match args with
  | [.lit (.string s), .lit (.string t)] => (req (t.size = 1)).bind fun _ => K (.lit (.int .i64 (indexB s (sep0 t))))
  | _ => none
theorem w_strings_Index_ok : XC.Nat w_strings_Index ∧ XC.Ok Tryd.prog 122 w_strings_Index := by
  refine ⟨fun R args K => ?_, tc122, fun args h v hx => ?_⟩
  · dsimp only; split <;> simp [Option.bind_assoc, mkP]
  · dsimp only at hx; split at hx
    · obtain ⟨_, hpre, hx⟩ := Option.bind_eq_some_iff.1 hx
      have hpre := req_some hpre
      cases hx
      exact index_run hpre h
    · cases hx
noncomputable def w_internal_stringslite_Index : XC := .p fun R args K => match args with
  | [.lit (.string s), .lit (.string t)] => (req (t.size = 1)).bind fun _ => K (.lit (.int .i64 (indexB s (sep0 t))))
  | _ => none
theorem w_internal_stringslite_Index_ok : XC.Nat w_internal_stringslite_Index ∧ XC.Ok Tryd.prog 123 w_internal_stringslite_Index := by
  refine ⟨fun R args K => ?_, tc123, fun args h v hx => ?_⟩
  · dsimp only; split <;> simp [Option.bind_assoc, mkP]
  · dsimp only at hx; split at hx
    · obtain ⟨_, hpre, hx⟩ := Option.bind_eq_some_iff.1 hx
      have hpre := req_some hpre
      cases hx
      exact indexL_run hpre h
    · cases hx
noncomputable def w_strings_Count : XC := .p fun R args K => match args with
  | [.lit (.string s), .lit (.string t)] => (req (t.size = 1)).bind fun _ => K (.lit (.int .i64 ((countB s (sep0 t) : Nat))))
  | _ => none
theorem w_strings_Count_ok : XC.Nat w_strings_Count ∧ XC.Ok Tryd.prog 121 w_strings_Count := by
  refine ⟨fun R args K => ?_, tc121, fun args h v hx => ?_⟩
  · dsimp only; split <;> simp [Option.bind_assoc, mkP]
  · dsimp only at hx; split at hx
    · obtain ⟨_, hpre, hx⟩ := Option.bind_eq_some_iff.1 hx
      have hpre := req_some hpre
      cases hx
      exact count_run hpre h
    · cases hx
noncomputable def w_strings_explode : XC := .l fun R args h K => match args with
  | [.lit (.string s), .lit (.int .i64 n)] => (req (False)).bind fun _ => K .any h
  | _ => none
theorem w_strings_explode_ok : XC.Nat w_strings_explode ∧ XC.Ok Tryd.prog 120 w_strings_explode := by
  refine ⟨fun R args h K => ?_, tc120, fun args h v h' hx => ?_⟩
  · dsimp only; split <;> simp [Option.bind_assoc, mkP]
  · dsimp only at hx; split at hx
    · obtain ⟨_, hpre, hx⟩ := Option.bind_eq_some_iff.1 hx
      have hpre := req_some hpre
      simp only [mkP, Option.some.injEq, Prod.mk.injEq] at hx
      obtain ⟨rfl, rfl⟩ := hx
      exact (hpre.elim)
    · cases hx
-- internal/stringslite.HasPrefix: function 117
noncomputable def Einternal_stringslite_HasPrefix : XE := { T := tabOf [(3, r3), (4, r4), (9, r9)], C := [], D := [], Ms := [], Ml := [], Mo := [(1013, [17])], n := 18 }
theorem Einternal_stringslite_HasPrefix_ok : XE.Ok Einternal_stringslite_HasPrefix Tryd.prog := ⟨tabOf_ok (⟨r3_ok, ⟨r4_ok, ⟨r9_ok, trivial⟩⟩⟩), trivial⟩
noncomputable def c117 : Code := bodyOf f117
noncomputable def S_internal_stringslite_HasPrefix (s0 : ByteArray) (prefix1 : ByteArray) (h : AHeap) : Option (AVal × AHeap) := xfun Einternal_stringslite_HasPrefix f117 [(.lit (.string s0)), (.lit (.string prefix1))] h
noncomputable def S_internal_stringslite_HasPrefix_0 (t17 : Bool) (h : AHeap) : Option (AVal × AHeap) := jo Einternal_stringslite_HasPrefix 1 (rops (ca (cb c117))) ((rops (ca (cb c117))).toList.drop 13) 13 [(17, (.lit (.bool t17)))] h (kN (kSeq Einternal_stringslite_HasPrefix (cb (cb c117)) (xend Einternal_stringslite_HasPrefix f117)))
theorem S_internal_stringslite_HasPrefix_eq (s0 : ByteArray) (prefix1 : ByteArray) (h : AHeap) : S_internal_stringslite_HasPrefix s0 prefix1 h =
 bif (decide ((s0.size : Int) ≥ (prefix1.size : Int))) then ((cutS s0 0 (prefix1.size : Int)).bind fun s1 =>
 S_internal_stringslite_HasPrefix_0 (decide (s1 = prefix1)) h)
 else (S_internal_stringslite_HasPrefix_0 false h) := by kernel_rfl
theorem S_internal_stringslite_HasPrefix_0_eq (t17 : Bool) (h : AHeap) : S_internal_stringslite_HasPrefix_0 t17 h =
 some ((.lit (.bool t17)), h) := (jo_eq ..).trans (by kernel_rfl)
theorem S_internal_stringslite_HasPrefix_ends {s0 : ByteArray} {prefix1 : ByteArray} {h h' : AHeap} {v : AVal} {R : AEnd → AHeap → Prop} (hx : S_internal_stringslite_HasPrefix s0 prefix1 h = some (v, h')) (hR : HOk h → h.length ≤ h'.length → ABody.AEnds h h' (.ret v) R) : ACalls Tryd.prog 117 [(.lit (.string s0)), (.lit (.string prefix1))] h R := xfun_ends Einternal_stringslite_HasPrefix_ok tmix (i := 117) (by rfl) (by kernel_rfl) (by kernel_rfl) hx hR
noncomputable def w_internal_stringslite_HasPrefix : XC := .q fun R args h K => match args with
  | [.lit (.string a0), .lit (.string a1)] => (onlyR (S_internal_stringslite_HasPrefix a0 a1 h) h).bind fun r => K r
  | _ => none
theorem w_internal_stringslite_HasPrefix_ok : XC.Nat w_internal_stringslite_HasPrefix ∧ XC.Ok Tryd.prog 117 w_internal_stringslite_HasPrefix := by
  refine ⟨fun R args h K => ?_, tc117, fun args h v hx => ?_⟩
  · dsimp only; split <;> simp [Option.bind_assoc, mkP]
  · dsimp only at hx; split at hx
    · obtain ⟨r, hopt, hx⟩ := Option.bind_eq_some_iff.1 hx
      cases hx
      exact (by have hopt := onlyR_some hopt; exact S_internal_stringslite_HasPrefix_ends hopt selfR)
    · cases hx
-- strings.HasPrefix: function 89
noncomputable def Estrings_HasPrefix : XE := { T := tabOf [(4, r4), (9, r9)], C := [(117, w_internal_stringslite_HasPrefix)], D := [], Ms := [], Ml := [], Mo := [], n := 8 }
theorem Estrings_HasPrefix_ok : XE.Ok Estrings_HasPrefix Tryd.prog := ⟨tabOf_ok (⟨r4_ok, ⟨r9_ok, trivial⟩⟩), ⟨w_internal_stringslite_HasPrefix_ok, trivial⟩⟩
noncomputable def c89 : Code := bodyOf f89
noncomputable def S_strings_HasPrefix (s0 : ByteArray) (prefix1 : ByteArray) (h : AHeap) : Option (AVal × AHeap) := xfun Estrings_HasPrefix f89 [(.lit (.string s0)), (.lit (.string prefix1))] h
theorem S_strings_HasPrefix_eq (s0 : ByteArray) (prefix1 : ByteArray) (h : AHeap) : S_strings_HasPrefix s0 prefix1 h =
 (onlyR (S_internal_stringslite_HasPrefix s0 prefix1 h) h).bind fun r1 =>
 (asB r1).bind fun b2 =>
 some ((.lit (.bool b2)), h) := by kernel_rfl
theorem S_strings_HasPrefix_ends {s0 : ByteArray} {prefix1 : ByteArray} {h h' : AHeap} {v : AVal} {R : AEnd → AHeap → Prop} (hx : S_strings_HasPrefix s0 prefix1 h = some (v, h')) (hR : HOk h → h.length ≤ h'.length → ABody.AEnds h h' (.ret v) R) : ACalls Tryd.prog 89 [(.lit (.string s0)), (.lit (.string prefix1))] h R := xfun_ends Estrings_HasPrefix_ok tmix (i := 89) (by rfl) (by kernel_rfl) (by kernel_rfl) hx hR
-- internal/stringslite.Cut: function 93
noncomputable def Einternal_stringslite_Cut : XE := { T := tabOf [(3, r3), (4, r4), (9, r9)], C := [(123, w_internal_stringslite_Index)], D := [(3, ⟨[], [0, 1, 2, 3, 4, 5, 6, 7, 8, 9, 10, 11], [], [], [], [], []⟩)], Ms := [], Ml := [], Mo := [], n := 23 }
theorem Einternal_stringslite_Cut_ok : XE.Ok Einternal_stringslite_Cut Tryd.prog := ⟨tabOf_ok (⟨r3_ok, ⟨r4_ok, ⟨r9_ok, trivial⟩⟩⟩), ⟨w_internal_stringslite_Index_ok, trivial⟩⟩
noncomputable def c93 : Code := bodyOf f93
noncomputable def S_internal_stringslite_Cut (s0 : ByteArray) (sep1 : ByteArray) (h : AHeap) : Option (AVal × AHeap) := xfun Einternal_stringslite_Cut f93 [(.lit (.string s0)), (.lit (.string sep1))] h
theorem S_internal_stringslite_Cut_eq (s0 : ByteArray) (sep1 : ByteArray) (h : AHeap) : S_internal_stringslite_Cut s0 sep1 h =
 (req (sep1.size = 1)).bind fun _ =>
 bif (decide ((indexB s0 (sep0 sep1)) ≥ 0)) then ((cutS s0 0 (indexB s0 (sep0 sep1))).bind fun s1 =>
 (cutS s0 (IntKind.wrap .i64 ((indexB s0 (sep0 sep1)) + (sep1.size : Int))) s0.size).bind fun s2 =>
 some ((.tup [(.lit (.string s1)), (.lit (.string s2)), (.lit (.bool true))]), h))
 else (some ((.tup [(.lit (.string s0)), (.lit (.string ({ data := #[] }))), (.lit (.bool false))]), h)) := by kernel_rfl
theorem S_internal_stringslite_Cut_ends {s0 : ByteArray} {sep1 : ByteArray} {h h' : AHeap} {v : AVal} {R : AEnd → AHeap → Prop} (hx : S_internal_stringslite_Cut s0 sep1 h = some (v, h')) (hR : HOk h → h.length ≤ h'.length → ABody.AEnds h h' (.ret v) R) : ACalls Tryd.prog 93 [(.lit (.string s0)), (.lit (.string sep1))] h R := xfun_ends Einternal_stringslite_Cut_ok tmix (i := 93) (by rfl) (by kernel_rfl) (by kernel_rfl) hx hR
noncomputable def w_internal_stringslite_Cut : XC := .q fun R args h K => match args with
  | [.lit (.string a0), .lit (.string a1)] => (onlyR (S_internal_stringslite_Cut a0 a1 h) h).bind fun r => K r
  | _ => none
theorem w_internal_stringslite_Cut_ok : XC.Nat w_internal_stringslite_Cut ∧ XC.Ok Tryd.prog 93 w_internal_stringslite_Cut := by
  refine ⟨fun R args h K => ?_, tc93, fun args h v hx => ?_⟩
  · dsimp only; split <;> simp [Option.bind_assoc, mkP]
  · dsimp only at hx; split at hx
    · obtain ⟨r, hopt, hx⟩ := Option.bind_eq_some_iff.1 hx
      cases hx
      exact (by have hopt := onlyR_some hopt; exact S_internal_stringslite_Cut_ends hopt selfR)
    · cases hx
-- strings.Cut: function 51
noncomputable def Estrings_Cut : XE := { T := tabOf [(4, r4), (9, r9)], C := [(93, w_internal_stringslite_Cut)], D := [], Ms := [], Ml := [], Mo := [], n := 13 }
theorem Estrings_Cut_ok : XE.Ok Estrings_Cut Tryd.prog := ⟨tabOf_ok (⟨r4_ok, ⟨r9_ok, trivial⟩⟩), ⟨w_internal_stringslite_Cut_ok, trivial⟩⟩
noncomputable def c51 : Code := bodyOf f51
noncomputable def S_strings_Cut (s0 : ByteArray) (sep1 : ByteArray) (h : AHeap) : Option (AVal × AHeap) := xfun Estrings_Cut f51 [(.lit (.string s0)), (.lit (.string sep1))] h
theorem S_strings_Cut_eq (s0 : ByteArray) (sep1 : ByteArray) (h : AHeap) : S_strings_Cut s0 sep1 h =
 (onlyR (S_internal_stringslite_Cut s0 sep1 h) h).bind fun r1 =>
 (xExtract r1 0).bind fun x2 =>
 (asS x2).bind fun s3 =>
 (xExtract r1 1).bind fun x4 =>
 (asS x4).bind fun s5 =>
 (xExtract r1 2).bind fun x6 =>
 (asB x6).bind fun b7 =>
 some ((.tup [(.lit (.string s3)), (.lit (.string s5)), (.lit (.bool b7))]), h) := by kernel_rfl
theorem S_strings_Cut_ends {s0 : ByteArray} {sep1 : ByteArray} {h h' : AHeap} {v : AVal} {R : AEnd → AHeap → Prop} (hx : S_strings_Cut s0 sep1 h = some (v, h')) (hR : HOk h → h.length ≤ h'.length → ABody.AEnds h h' (.ret v) R) : ACalls Tryd.prog 51 [(.lit (.string s0)), (.lit (.string sep1))] h R := xfun_ends Estrings_Cut_ok tmix (i := 51) (by rfl) (by kernel_rfl) (by kernel_rfl) hx hR
-- strings.genSplit: function 92
noncomputable def Estrings_genSplit : XE := { T := tabOf [(3, r3), (4, r4), (9, r9), (33, r33)], C := [(120, w_strings_explode), (121, w_strings_Count), (122, w_strings_Index)], D := [], Ms := [(7, [0, 1, 2, 3]), (17, [0, 9, 10])], Ml := [(11, [0, 1, 2, 3, 9, 10])], Mo := [], n := 66 }
theorem Estrings_genSplit_ok : XE.Ok Estrings_genSplit Tryd.prog := ⟨tabOf_ok (⟨r3_ok, ⟨r4_ok, ⟨r9_ok, ⟨r33_ok, trivial⟩⟩⟩⟩), ⟨w_strings_explode_ok, ⟨w_strings_Count_ok, ⟨w_strings_Index_ok, trivial⟩⟩⟩⟩
noncomputable def c92 : Code := bodyOf f92
noncomputable def S_strings_genSplit (s0 : ByteArray) (sep1 : ByteArray) (sepSave2 : Int) (n3 : Int) (h : AHeap) : Option (AVal × AHeap) := xfun Estrings_genSplit f92 [(.lit (.string s0)), (.lit (.string sep1)), (.lit (.int .i64 sepSave2)), (.lit (.int .i64 n3))] h
noncomputable def S_strings_genSplit_0 (s0 : ByteArray) (sep1 : ByteArray) (sepSave2 : Int) (n3 : Int) (h : AHeap) : Option (AVal × AHeap) := jn (xexec Estrings_genSplit (cb (cb (cb (cb c92)))) (AVal × AHeap) [(0, (.lit (.string s0))), (1, (.lit (.string sep1))), (2, (.lit (.int .i64 sepSave2))), (3, (.lit (.int .i64 n3)))] h (xend Estrings_genSplit f92))
noncomputable def S_strings_genSplit_1 (s0 : ByteArray) (sep1 : ByteArray) (sepSave2 : Int) (n3 : Int) (a9 : AVal) (i10 : Int) (h : AHeap) : Option (AVal × AHeap) := xexec Estrings_genSplit (.loop (ca (ca (ca (cb (cb (cb (cb (cb (cb (cb (cb c92)))))))))))) (AVal × AHeap) [(0, (.lit (.string s0))), (1, (.lit (.string sep1))), (2, (.lit (.int .i64 sepSave2))), (3, (.lit (.int .i64 n3))), (9, a9), (10, (.lit (.int .i64 i10)))] h (kBlk 0 (kSeq Estrings_genSplit (cb (cb (cb (cb (cb (cb (cb (cb (cb c92))))))))) (xend Estrings_genSplit f92)))
noncomputable def S_strings_genSplit_2 (s0 : ByteArray) (a9 : AVal) (i10 : Int) (h : AHeap) : Option (AVal × AHeap) := jn (xexec Estrings_genSplit (cb (cb (cb (cb (cb (cb (cb (cb (cb c92))))))))) (AVal × AHeap) [(0, (.lit (.string s0))), (9, a9), (10, (.lit (.int .i64 i10)))] h (xend Estrings_genSplit f92))
theorem S_strings_genSplit_eq (s0 : ByteArray) (sep1 : ByteArray) (sepSave2 : Int) (n3 : Int) (h : AHeap) : S_strings_genSplit s0 sep1 sepSave2 n3 h =
 bif (decide (n3 = 0)) then (some ((.lit (.slice none 0 0)), h))
 else (bif (decide (sep1 = ({ data := #[] }))) then ((req (False)).bind fun _ =>
 some (.any, h))
 else (bif (decide (n3 < 0)) then ((req (sep1.size = 1)).bind fun _ =>
 S_strings_genSplit_0 s0 sep1 sepSave2 (IntKind.wrap .i64 (((countB s0 (sep0 sep1) : Nat)) + 1)) h)
 else (S_strings_genSplit_0 s0 sep1 sepSave2 n3 h))) := by kernel_rfl
theorem S_strings_genSplit_0_eq (s0 : ByteArray) (sep1 : ByteArray) (sepSave2 : Int) (n3 : Int) (h : AHeap) : S_strings_genSplit_0 s0 sep1 sepSave2 n3 h =
 (mkS 1 16 [(.lit (.string ({ data := #[] })))] (minI n3 (IntKind.wrap .i64 ((s0.size : Int) + 1))) (minI n3 (IntKind.wrap .i64 ((s0.size : Int) + 1))) h).bind fun r1 =>
 S_strings_genSplit_1 s0 sep1 sepSave2 (IntKind.wrap .i64 ((minI n3 (IntKind.wrap .i64 ((s0.size : Int) + 1))) - 1)) r1.1 0 r1.2 := (jn_eq _).trans (by kernel_rfl)
theorem S_strings_genSplit_1_eq (s0 : ByteArray) (sep1 : ByteArray) (sepSave2 : Int) (n3 : Int) (a9 : AVal) (i10 : Int) (h : AHeap) : S_strings_genSplit_1 s0 sep1 sepSave2 n3 a9 i10 h =
 bif (decide (i10 < n3)) then ((req (sep1.size = 1)).bind fun _ =>
 bif (decide ((indexB s0 (sep0 sep1)) < 0)) then (S_strings_genSplit_2 s0 a9 i10 h)
 else ((cutS s0 0 (IntKind.wrap .i64 ((indexB s0 (sep0 sep1)) + sepSave2))).bind fun s2 =>
 (idxP 1 a9 i10).bind fun p3 =>
 (st1 h p3 (.lit (.string s2))).bind fun h4 =>
 (cutS s0 (IntKind.wrap .i64 ((indexB s0 (sep0 sep1)) + (sep1.size : Int))) s0.size).bind fun s5 =>
 S_strings_genSplit_1 s5 sep1 sepSave2 n3 a9 (IntKind.wrap .i64 (i10 + 1)) h4))
 else (S_strings_genSplit_2 s0 a9 i10 h) := (xexec_loop Estrings_genSplit Estrings_genSplit_ok.C.nat _ _ _ _ _).trans (by kernel_rfl)
theorem S_strings_genSplit_2_eq (s0 : ByteArray) (a9 : AVal) (i10 : Int) (h : AHeap) : S_strings_genSplit_2 s0 a9 i10 h =
 (idxP 1 a9 i10).bind fun p6 =>
 (st1 h p6 (.lit (.string s0))).bind fun h7 =>
 (cutV 1 a9 none (some (IntKind.wrap .i64 (i10 + 1))) none).bind fun v8 =>
 some (v8, h7) := (jn_eq _).trans (by kernel_rfl)
theorem S_strings_genSplit_ends {s0 : ByteArray} {sep1 : ByteArray} {sepSave2 : Int} {n3 : Int} {h h' : AHeap} {v : AVal} {R : AEnd → AHeap → Prop} (hx : S_strings_genSplit s0 sep1 sepSave2 n3 h = some (v, h')) (hR : HOk h → h.length ≤ h'.length → ABody.AEnds h h' (.ret v) R) : ACalls Tryd.prog 92 [(.lit (.string s0)), (.lit (.string sep1)), (.lit (.int .i64 sepSave2)), (.lit (.int .i64 n3))] h R := xfun_ends Estrings_genSplit_ok tmix (i := 92) (by rfl) (by kernel_rfl) (by kernel_rfl) hx hR
noncomputable def w_strings_genSplit : XC := .l fun R args h K => match args with
  | [.lit (.string a0), .lit (.string a1), .lit (.int .i64 a2), .lit (.int .i64 a3)] => (S_strings_genSplit a0 a1 a2 a3 h).bind fun r => K r.1 r.2
  | _ => none
theorem w_strings_genSplit_ok : XC.Nat w_strings_genSplit ∧ XC.Ok Tryd.prog 92 w_strings_genSplit := by
  refine ⟨fun R args h K => ?_, tc92, fun args h v h' hx => ?_⟩
  · dsimp only; split <;> simp [Option.bind_assoc, mkP]
  · dsimp only at hx; split at hx
    · obtain ⟨r, hopt, hx⟩ := Option.bind_eq_some_iff.1 hx
      simp only [mkP, Option.some.injEq, Prod.mk.injEq] at hx
      obtain ⟨rfl, rfl⟩ := hx
      exact (by obtain ⟨v, h'⟩ := r; exact S_strings_genSplit_ends hopt selfR)
    · cases hx
-- strings.Split: function 49
noncomputable def Estrings_Split : XE := { T := tabOf [(9, r9), (33, r33)], C := [(92, w_strings_genSplit)], D := [], Ms := [], Ml := [], Mo := [], n := 8 }
theorem Estrings_Split_ok : XE.Ok Estrings_Split Tryd.prog := ⟨tabOf_ok (⟨r9_ok, ⟨r33_ok, trivial⟩⟩), ⟨w_strings_genSplit_ok, trivial⟩⟩
noncomputable def c49 : Code := bodyOf f49
noncomputable def S_strings_Split (s0 : ByteArray) (sep1 : ByteArray) (h : AHeap) : Option (AVal × AHeap) := xfun Estrings_Split f49 [(.lit (.string s0)), (.lit (.string sep1))] h
theorem S_strings_Split_eq (s0 : ByteArray) (sep1 : ByteArray) (h : AHeap) : S_strings_Split s0 sep1 h =
 (S_strings_genSplit s0 sep1 0 (-1) h).bind fun r1 =>
 some (r1.1, r1.2) := by kernel_rfl
theorem S_strings_Split_ends {s0 : ByteArray} {sep1 : ByteArray} {h h' : AHeap} {v : AVal} {R : AEnd → AHeap → Prop} (hx : S_strings_Split s0 sep1 h = some (v, h')) (hR : HOk h → h.length ≤ h'.length → ABody.AEnds h h' (.ret v) R) : ACalls Tryd.prog 49 [(.lit (.string s0)), (.lit (.string sep1))] h R := xfun_ends Estrings_Split_ok tmix (i := 49) (by rfl) (by kernel_rfl) (by kernel_rfl) hx hR
end Go.Proofs.YtglmofbcooefkaaDoor.AL
/- Slices, as lists of cells; what stays of the memory. -/
namespace Go.Proofs.YtglmofbcooefkaaDoor.AL
set_option linter.unusedVariables false
set_option linter.unusedSimpArgs false
set_option maxRecDepth 10000
open Go
/-- 'n' elements of 'k' cells each. -/
def Sl (k : Nat) (h : AHeap) (v : AVal) (n : Nat) (cs : List AVal) : Prop := cs.length = n * k ∧ match v with
  | .sl k' b off len => k' = k ∧ len = n ∧ ∃ all, cellsAt h b = some all ∧ off + n * k ≤ all.length ∧ (all.drop off).take (n * k) = cs
  | .ros all len => len = n ∧ n * k ≤ all.length ∧ all.take (n * k) = cs
  | .lit (.slice none 0 0) => n = 0
  | _ => False
theorem Sl.nil (k : Nat) (h : AHeap) : Sl k h (.lit (.slice none 0 0)) 0 [] := ⟨by simp, rfl⟩
theorem Sl.own {k b n : Nat} {h : AHeap} {cs : List AVal} (H : cellsAt h b = some cs) (hl : cs.length = n * k) : Sl k h (.sl k b 0 n) n cs := ⟨hl, rfl, rfl, cs, H, by omega, by simp [List.take_of_length_le, hl]⟩
theorem Sl.keep {k n : Nat} {h h' : AHeap} {v : AVal} {cs : List AVal} (S : Sl k h v n cs) {X : List Nat} (K : Keep h.length X h h') (hx : ∀ b off len, v = .sl k b off len → b ∉ X) : Sl k h' v n cs := by
  refine ⟨S.1, ?_⟩
  have h2 := S.2
  split at h2
  · obtain ⟨rfl, rfl, all, H, h3, h4⟩ := h2
    exact ⟨rfl, rfl, all, K.cells (cellsAt_lt H) (hx _ _ _ rfl) H, h3, h4⟩
  · exact h2
  · exact h2
  · exact h2.elim
theorem Sl.len {k n : Nat} {h : AHeap} {v : AVal} {cs : List AVal} (S : Sl k h v n cs) : lenV v = some (n : Int) := by
  have h2 := S.2
  split at h2
  · obtain ⟨rfl, rfl, _⟩ := h2; rfl
  · obtain ⟨rfl, _⟩ := h2; rfl
  · subst h2; rfl
  · exact h2.elim
theorem Sl.srcLen {k n : Nat} {h : AHeap} {v : AVal} {cs : List AVal} (S : Sl k h v n cs) : srcLen v = some n := by
  have h2 := S.2
  split at h2
  · obtain ⟨rfl, rfl, _⟩ := h2; rfl
  · obtain ⟨rfl, _⟩ := h2; rfl
  · subst h2; rfl
  · exact h2.elim
theorem Sl.src {k n m : Nat} {h : AHeap} {v : AVal} {cs : List AVal} (S : Sl k h v n cs) (hm : m ≤ n) : srcCells h k v m = some (cs.take (m * k)) := by
  have h2 := S.2
  have hmk : m * k ≤ n * k := Nat.mul_le_mul_right k hm
  split at h2
  · obtain ⟨rfl, rfl, all, H, h3, h4⟩ := h2
    unfold srcCells
    simp only [cellsAt_some H]
    rw [if_pos ⟨by first | trivial | rfl, hm, by omega⟩, ← h4, List.take_take, Nat.min_eq_left hmk]
  · obtain ⟨rfl, h3, h4⟩ := h2
    unfold srcCells
    simp only
    rw [if_pos ⟨hm, by omega⟩, ← h4, List.take_take, Nat.min_eq_left hmk]
  · subst h2
    have : m = 0 := by omega
    subst this
    simp [srcCells]
  · exact h2.elim
theorem Sl.src_all {k n : Nat} {h : AHeap} {v : AVal} {cs : List AVal} (S : Sl k h v n cs) : srcCells h k v n = some cs := by
  rw [S.src (Nat.le_refl _), ← S.1, List.take_length]
/-- One element's place, and what is read there. -/
theorem Sl.idx {k n i : Nat} {h : AHeap} {v : AVal} {cs : List AVal} (S : Sl k h v n cs) (hi : i < n) :
    ∃ p, idxP k v (i : Int) = some p ∧ ldn k h p = some ((cs.drop (i * k)).take k) ∧ (∀ o, o < k → ∃ q, fieldP o p = some q ∧ ld1 h q = cs[i * k + o]?) ∧ (0 < k → ld1 h p = cs[i * k]?) := by
  have h2 := S.2
  have hik : (i + 1) * k ≤ n * k := Nat.mul_le_mul_right k hi
  rw [Nat.add_mul, Nat.one_mul] at hik
  have hint : (0 : Int) ≤ (i : Int) ∧ (i : Int) < (n : Int) := by omega
  split at h2
  · rename_i k' b off len
    obtain ⟨rfl, rfl, all, H, h3, h4⟩ := h2
    refine ⟨.ptr b (off + i * k'), ?_, ?_, fun o ho => ⟨_, rfl, ?_⟩, fun hk => ?_⟩
    · unfold idxP; simp only [Nat.beq_refl]; rw [req_true hint]; rfl
    · rw [ldn_of H (by omega), ← h4, List.drop_take, List.take_take, List.drop_drop, Nat.min_eq_left (by omega)]
    · rw [ld1_of H, ← h4, List.getElem?_take_of_lt (by omega), List.getElem?_drop]; congr 1; omega
    · rw [ld1_of H, ← h4, List.getElem?_take_of_lt (by omega), List.getElem?_drop]
  · rename_i all len
    obtain ⟨rfl, h3, h4⟩ := h2
    refine ⟨.rop (all.drop (i * k)), ?_, ?_, fun o ho => ⟨_, rfl, ?_⟩, fun hk => ?_⟩
    · unfold idxP; simp only; rw [req_true hint]; rfl
    · unfold ldn; simp only; rw [req_true (by simp; omega), ← h4, List.drop_take, List.take_take, Nat.min_eq_left (by omega)]; rfl
    · unfold ld1; simp only [List.drop_drop]
      rw [List.getElem?_drop, ← h4, List.getElem?_take_of_lt (by omega)]; rfl
    · unfold ld1; simp only
      rw [List.getElem?_drop, ← h4, List.getElem?_take_of_lt (by omega)]; rfl
  · omega
  · exact h2.elim
theorem idx_none {k : Nat} {h : AHeap} {v : AVal} {n : Nat} {cs : List AVal} (S : Sl k h v n cs) : True := trivial
/-- A slice that may be appended to: nobody's yet, or all of an object. -/
def Own (k : Nat) (h : AHeap) (v : AVal) (n : Nat) (cs : List AVal) : Prop := cs.length = n * k ∧ ((v = .lit (.slice none 0 0) ∧ n = 0) ∨ ∃ b, v = .sl k b 0 n ∧ cellsAt h b = some cs)
theorem Own.sl {k n : Nat} {h : AHeap} {v : AVal} {cs : List AVal} (O : Own k h v n cs) : Sl k h v n cs := by
  obtain ⟨h1, ⟨rfl, rfl⟩ | ⟨b, rfl, H⟩⟩ := O
  · have : cs = [] := List.length_eq_zero_iff.1 (by omega)
    subst this; exact Sl.nil _ _
  · exact Sl.own H h1
theorem Own.nil (k : Nat) (h : AHeap) : Own k h (.lit (.slice none 0 0)) 0 [] := ⟨by simp, .inl ⟨rfl, rfl⟩⟩
/-- Whose object it is. -/
def At (v : AVal) (b : Nat) : Prop := ∃ k off len, v = .sl k b off len
theorem Own.keep {k n : Nat} {h h' : AHeap} {v : AVal} {cs : List AVal} (O : Own k h v n cs) (K : ∀ b, At v b → h'[b]? = h[b]?) : Own k h' v n cs := by
  obtain ⟨h1, ⟨rfl, rfl⟩ | ⟨b, rfl, H⟩⟩ := O
  · exact ⟨h1, .inl ⟨rfl, rfl⟩⟩
  · refine ⟨h1, .inr ⟨b, rfl, ?_⟩⟩
    have := cellsAt_some H
    unfold cellsAt
    rw [K b ⟨_, _, _, rfl⟩, this]
theorem app_src {k w : Nat} {h : AHeap} {v x : AVal} {n m : Nat} {cs ns : List AVal} (O : Own k h v n cs) (h1 : srcLen x = some m) (h2 : srcCells h k x m = some ns) (hns : ns.length = m * k) (h3 : (n + m) * w ≤ 140737488355328) (h4 : ns.all (·.one) = true) :
    ∃ v' h', appV k w h v x = some (v', h') ∧ Own k h' v' (n + m) (cs ++ ns) ∧ h.length ≤ h'.length ∧ h'.length ≤ h.length + 1 ∧ (∀ b, At v' b → b = h.length) ∧ ∀ c, c < h.length → ¬ At v c → h'[c]? = h[c]? := by
  obtain ⟨hl, ⟨rfl, rfl⟩ | ⟨b, rfl, H⟩⟩ := O
  · have : cs = [] := List.length_eq_zero_iff.1 (by omega)
    subst this
    unfold appV
    rw [h1, Option.bind_some, h2, Option.bind_some]
    simp only
    rw [req_true (by rw [Nat.zero_add] at h3; exact h3)]
    simp only [Option.bind_some]
    by_cases hm : m = 0
    · subst hm
      have : ns = [] := List.length_eq_zero_iff.1 (by omega)
      subst this
      rw [if_pos rfl]
      refine ⟨_, _, rfl, Own.nil _ _, Nat.le_refl _, by omega, fun b hb => ?_, fun _ _ _ => rfl⟩
      obtain ⟨_, _, _, hb⟩ := hb; cases hb
    · rw [if_neg hm]
      refine ⟨_, _, rfl, ⟨by simpa using hns, .inr ⟨_, by rw [Nat.zero_add], by simp [cellsAt]⟩⟩, by simp, by simp, fun b hb => ?_, fun c hc _ => List.getElem?_append_left hc⟩
      obtain ⟨_, _, _, hb⟩ := hb; cases hb; rfl
  · unfold appV
    rw [h1, Option.bind_some, h2, Option.bind_some]
    simp only
    rw [H, Option.bind_some, req_true ⟨by first | trivial | rfl, by omega, h3, h4⟩]
    simp only [Option.bind_some]
    refine ⟨_, _, rfl, ⟨by simp [hl, hns, Nat.add_mul], .inr ⟨_, rfl, ?_⟩⟩, by simp, by simp, fun c hb => ?_, fun c hc hn => ?_⟩
    · have e : (cs.drop 0).take (n * k) = cs := by rw [List.drop_zero, ← hl, List.take_length]
      rw [e]
      simp [cellsAt]
    · obtain ⟨_, _, _, hb⟩ := hb; cases hb; rfl
    · rw [List.getElem?_append_left (by simpa using hc)]
      exact List.getElem?_set_ne fun e => hn ⟨_, _, _, by rw [e]⟩
theorem blit_one {z v : AVal} (h : v.one = true) : blitA 1 [z] 1 [(0, v)] = some [v] := by
  have hp : v.parts = some [v] := by
    cases v with
    | lit u => cases u <;> simp_all [AVal.one, AVal.parts, Value.oneCell']
    | _ => simp_all [AVal.one, AVal.parts]
  unfold blitA
  rw [req_true (by omega)]
  simp [aFill, hp, splice]
theorem blit_agg {k : Nat} {zs xs : List AVal} (hz : zs.length = k) (h : xs.length = k) (hk : k ≤ 16777216) : blitA k zs 1 [(0, .agg xs)] = some xs := by
  unfold blitA
  rw [req_true (by omega)]
  simp only [Option.bind_some, aFill, AVal.parts, List.replicate_one, List.flatten_cons, List.flatten_nil, List.append_nil, Nat.zero_mul, Nat.zero_add]
  rw [if_pos ⟨h, by omega⟩]
  simp [splice, h, hz]
/-- One element is put behind. -/
theorem push_app {k w n : Nat} {h : AHeap} {v : AVal} {cs xs : List AVal} (O : Own k h v n cs) (hx : xs.length = k) (h1 : xs.all (·.one) = true) (hw : (n + 1) * w ≤ 140737488355328) :
    ∃ v' h', appV k w (apd h [.cells xs]) v (.sl k h.length 0 1) = some (v', h') ∧ Own k h' v' (n + 1) (cs ++ xs) ∧ h.length ≤ h'.length ∧ h'.length ≤ h.length + 2 ∧ (∀ b, At v' b → h.length ≤ b) ∧ ∀ c, c < h.length → ¬ At v c → h'[c]? = h[c]? := by
  have hid : ∀ b, At v b → b < h.length := by
    intro b hb
    obtain ⟨_, ⟨rfl, _⟩ | ⟨c, rfl, H⟩⟩ := O
    · obtain ⟨_, _, _, hb⟩ := hb; cases hb
    · obtain ⟨_, _, _, hb⟩ := hb; cases hb; exact cellsAt_lt H
  have O' : Own k (apd h [.cells xs]) v n cs := O.keep fun b hb => by simp only [apd]; exact List.getElem?_append_left (hid b hb)
  have hc : (apd h [AObj.cells xs])[h.length]? = some (.cells xs) := by simp [apd]
  obtain ⟨v', h', a1, a2, a3, a4, a5, a6⟩ := app_src (w := w) (x := .sl k h.length 0 1) (m := 1) (ns := xs) O' rfl (by
    unfold srcCells
    simp only [hc]
    rw [if_pos ⟨by first | trivial | rfl, Nat.le_refl _, by omega⟩]
    simp [← hx]) (by omega) hw h1
  refine ⟨v', h', a1, a2, ?_, ?_, fun b hb => ?_, fun c hc hn => ?_⟩
  · simp [apd] at a3; omega
  · simp [apd] at a4; omega
  · rw [a5 b hb]; simp [apd]
  · rw [a6 c (by simp [apd]; omega) hn]
    simp only [apd]; exact List.getElem?_append_left hc
theorem At.own {k n : Nat} {h : AHeap} {v : AVal} {cs : List AVal} (O : Own k h v n cs) {b : Nat} (hb : At v b) : b < h.length := by
  obtain ⟨_, ⟨rfl, _⟩ | ⟨c, rfl, H⟩⟩ := O
  · obtain ⟨_, _, _, hb⟩ := hb; cases hb
  · obtain ⟨_, _, _, hb⟩ := hb; cases hb; exact cellsAt_lt H
/-- One cell is set in place. -/
theorem Own.set1 {h : AHeap} {v : AVal} {n i : Nat} {cs : List AVal} {x : AVal} (O : Own 1 h v n cs) (hi : i < n) (hx : x.one = true) :
    ∃ p b, At v b ∧ idxP 1 v (i : Int) = some p ∧ st1 h p x = some (h.set b (.cells (cs.set i x))) ∧ Own 1 (h.set b (.cells (cs.set i x))) v n (cs.set i x) := by
  obtain ⟨hl, ⟨rfl, rfl⟩ | ⟨b, rfl, H⟩⟩ := O
  · omega
  · refine ⟨.ptr b i, b, ⟨_, _, _, rfl⟩, ?_, st1_of H hx (by omega), by simpa using hl, .inr ⟨b, rfl, cellsAt_set H⟩⟩
    unfold idxP
    simp only [Nat.beq_refl]
    rw [req_true (by omega)]
    simp
/-- A piece of a slice. -/
theorem Sl.cut {k n lo hi : Nat} {h : AHeap} {v : AVal} {cs : List AVal} (S : Sl k h v n cs) (h1 : lo ≤ hi) (h2 : hi ≤ n) :
    ∃ v', cutV k v (some (lo : Int)) (some (hi : Int)) none = some v' ∧ Sl k h v' (hi - lo) ((cs.drop (lo * k)).take ((hi - lo) * k)) := by
  have e1 : hi * k ≤ n * k := Nat.mul_le_mul_right k h2
  have e2 : lo * k ≤ hi * k := Nat.mul_le_mul_right k h1
  have e3 : (hi - lo) * k = hi * k - lo * k := Nat.sub_mul _ _ _
  have e4 : ((hi : Int) - (lo : Int)).toNat = hi - lo := by omega
  have e5 : (lo : Int).toNat = lo := by omega
  have hs := S.2
  have hl := S.1
  have hlen : ((cs.drop (lo * k)).take ((hi - lo) * k)).length = (hi - lo) * k := by simp; omega
  split at hs
  · rename_i k' b off len
    obtain ⟨rfl, rfl, all, H, h3, h4⟩ := hs
    refine ⟨.sl k' b (off + lo * k') (hi - lo), ?_, hlen, rfl, rfl, all, H, by omega, ?_⟩
    · unfold cutV
      simp only [Nat.beq_refl, Option.getD_some]
      rw [req_true ⟨by omega, by omega, by omega, fun m hm => by cases hm⟩]
      simp only [Option.bind_some, e4, e5]
    · rw [← h4, List.drop_take, List.take_take, List.drop_drop, Nat.min_eq_left (by omega)]
  · rename_i all len
    obtain ⟨rfl, h3, h4⟩ := hs
    refine ⟨.ros (all.drop (lo * k)) (hi - lo), ?_, hlen, rfl, by simp; omega, ?_⟩
    · unfold cutV
      simp only [Option.getD_some]
      rw [req_true ⟨by omega, by omega, by omega, fun m hm => by cases hm⟩]
      simp only [Option.bind_some, e4, e5]
    · rw [← h4, List.drop_take, List.take_take, Nat.min_eq_left (by omega)]
  · subst hs
    have : hi = 0 := by omega
    subst this
    have : lo = 0 := by omega
    subst this
    refine ⟨.lit (.slice none 0 0), ?_, hlen, rfl⟩
    unfold cutV
    simp only [Option.getD_some]
    rw [req_true ⟨by rfl, by rfl, by rfl⟩]; rfl
  · exact hs.elim
/-! Kinds of elements -/
def strVs (l : List ByteArray) : List AVal := l.map fun s => .lit (.string s)
def intVs (l : List Int) : List AVal := l.map fun n => .lit (.int .i64 n)
def boolVs (l : List Bool) : List AVal := l.map fun b => .lit (.bool b)
/-- What came in as a slice. -/
theorem slice_fits {α H : Type} {e : Sh} {k : Nat} {cells : α → List AVal} {Q : α → Prop} (hk : ∀ a, (cells a).length = k) (he : ∀ x : DataW H, Fits e x → ∃ a, absD x = cells a ∧ Q a) {d : DataW H} (hd : Fits (.slice e) d) (h : AHeap) :
    ∃ l : List α, Sl k h ((absD d).headD .any) l.length (l.flatMap cells) ∧ (∀ a ∈ l, Q a) ∧ l.length ≤ maxLen := by
  simp only [Fits] at hd
  rcases hd with rfl | ⟨es, sp, rfl, hl, hall⟩
  · refine ⟨[], Sl.nil _ _, ?_, ?_⟩
    · intro a ha; cases ha
    · exact Nat.zero_le _
  · have key : ∀ es : List (DataW H), (∀ x ∈ es, Fits e x) → ∃ l : List α, l.length = es.length ∧ absDs es = l.flatMap cells ∧ ∀ a ∈ l, Q a := by
      intro es
      induction es with
      | nil => intro _; exact ⟨[], rfl, rfl, fun a ha => by cases ha⟩
      | cons x es ih =>
        intro hx
        obtain ⟨a, h1, h2⟩ := he x (hx x (by simp))
        obtain ⟨l, h3, h4, h5⟩ := ih fun y hy => hx y (by simp [hy])
        refine ⟨a :: l, by simp [h3], by simp [absDs, h1, h4], fun b hb => ?_⟩
        rcases List.mem_cons.1 hb with rfl | hb
        · exact h2
        · exact h5 b hb
    obtain ⟨l, h1, h2, h3⟩ := key es hall
    have hlen : (l.flatMap cells).length = l.length * k := by
      clear h1 h2 h3
      induction l with
      | nil => simp
      | cons a l ih => simp [hk, ih, Nat.add_mul, Nat.add_comm]
    refine ⟨l, ?_, h3, by omega⟩
    simp only [absD, List.headD_cons]
    rw [h2, ← h1]
    exact ⟨hlen, rfl, by omega, by rw [← hlen, List.take_length]⟩
theorem fits_strs {H : Type} {d : DataW H} (hd : Fits (.slice .str) d) (h : AHeap) : ∃ l : List ByteArray, Sl 1 h ((absD d).headD .any) l.length (strVs l) := by
  obtain ⟨l, h1, _, _⟩ := slice_fits (α := ByteArray) (k := 1) (cells := fun s => [.lit (.string s)]) (Q := fun _ => True) (fun _ => rfl) (fun x hx => by
    simp only [Fits] at hx
    obtain ⟨l, rfl, _⟩ := hx
    exact ⟨⟨l.toArray⟩, rfl, trivial⟩) hd h
  refine ⟨l, ?_⟩
  have : (l.flatMap fun s => [AVal.lit (.string s)]) = strVs l := by simp [strVs, List.map_eq_flatMap]
  rwa [this] at h1
theorem fits_bools {H : Type} {d : DataW H} (hd : Fits (.slice .bool) d) (h : AHeap) : ∃ l : List Bool, Sl 1 h ((absD d).headD .any) l.length (boolVs l) := by
  obtain ⟨l, h1, _, _⟩ := slice_fits (α := Bool) (k := 1) (cells := fun s => [.lit (.bool s)]) (Q := fun _ => True) (fun _ => rfl) (fun x hx => by
    simp only [Fits] at hx
    obtain ⟨l, rfl⟩ := hx
    exact ⟨l, rfl, trivial⟩) hd h
  refine ⟨l, ?_⟩
  have : (l.flatMap fun s => [AVal.lit (.bool s)]) = boolVs l := by simp [boolVs, List.map_eq_flatMap]
  rwa [this] at h1
theorem fits_ints {H : Type} {d : DataW H} (hd : Fits (.slice (.int .i64)) d) (h : AHeap) : ∃ l : List Int, Sl 1 h ((absD d).headD .any) l.length (intVs l) := by
  obtain ⟨l, h1, _, _⟩ := slice_fits (α := Int) (k := 1) (cells := fun s => [.lit (.int .i64 s)]) (Q := fun _ => True) (fun _ => rfl) (fun x hx => by
    simp only [Fits] at hx
    obtain ⟨l, rfl, _⟩ := hx
    exact ⟨l, rfl, trivial⟩) hd h
  refine ⟨l, ?_⟩
  have : (l.flatMap fun s => [AVal.lit (.int .i64 s)]) = intVs l := by simp [intVs, List.map_eq_flatMap]
  rwa [this] at h1
theorem Sl.everywhere {k n : Nat} {v : AVal} {cs : List AVal} (S : Sl k [] v n cs) (g : AHeap) : Sl k g v n cs := S.keep (X := []) ⟨by simp, fun c hc => by simp at hc⟩ (fun _ _ _ _ => by simp)
theorem closed_rep {zs : List AVal} (hz : closedL zs = true) : ∀ n, closedL (List.replicate n zs).flatten = true
  | 0 => rfl
  | n + 1 => by
    have app : ∀ (a b : List AVal), closedL a = true → closedL b = true → closedL (a ++ b) = true := by
      intro a
      induction a with
      | nil => intro b _ h; exact h
      | cons x a ih => intro b h1 h2; simp only [closedL, Bool.and_eq_true, List.cons_append] at h1 ⊢; exact ⟨h1.1, ih b h1.2 h2⟩
    rw [List.replicate_succ, List.flatten_cons]
    exact app _ _ hz (closed_rep hz n)
theorem mkA_nat {b n : Nat} {zs : List AVal} (h : b * n ≤ 140737488355328) (h2 : n ≤ 140737488355328) : mkA b zs (n : Int) (n : Int) = some (List.replicate n zs).flatten := by
  unfold mkA
  rw [req_true ⟨by omega, by omega, by rw [← Int.natCast_mul]; omega, by omega⟩]
  simp
theorem flat_one (n : Nat) (z : AVal) : (List.replicate n [z]).flatten = List.replicate n z := by
  induction n with
  | zero => rfl
  | succ n ih => simp [List.replicate_succ, ih]
end Go.Proofs.YtglmofbcooefkaaDoor.AL
/- strings.Split and Cut at a text of one byte: the parts. -/
set_option linter.unusedVariables false
set_option linter.unusedSimpArgs false
set_option maxRecDepth 100000
namespace Go.Proofs.YtglmofbcooefkaaDoor.AL
open Go Go.Proofs
open Go.Proofs.Tryd
/-! ### Parts, of lists -/
def toB (l : List UInt8) : ByteArray := ⟨l.toArray⟩
def toL (s : ByteArray) : List UInt8 := s.data.toList
theorem toL_toB (l : List UInt8) : toL (toB l) = l := rfl
theorem toB_toL (s : ByteArray) : toB (toL s) = s := by cases s; simp [toB, toL]
theorem toL_len (s : ByteArray) : (toL s).length = s.size := Array.length_toList
theorem toB_size (l : List UInt8) : (toB l).size = l.length := by simp [toB, ByteArray.size]
theorem toL_extract (s : ByteArray) (a b : Nat) : toL (s.extract a b) = ((toL s).take b).drop a := by
  unfold toL
  rw [ByteArray.data_extract, Array.toList_extract, List.extract_eq_take_drop, List.drop_take]
theorem toL_app (s t : ByteArray) : toL (s ++ t) = toL s ++ toL t := by simp [toL]
theorem toL_inj {s t : ByteArray} (h : toL s = toL t) : s = t := by rw [← toB_toL s, ← toB_toL t, h]
def partsL (c : UInt8) : List UInt8 → List (List UInt8)
  | [] => [[]]
  | x :: l => if x = c then [] :: partsL c l else match partsL c l with
    | [] => [[x]]
    | p :: ps => (x :: p) :: ps
theorem partsL_len (c : UInt8) : ∀ l, (partsL c l).length = l.count c + 1
  | [] => rfl
  | x :: l => by
    have ih := partsL_len c l
    unfold partsL
    by_cases h : x = c
    · subst h; rw [if_pos rfl, List.length_cons, ih, List.count_cons_self]
    · rw [if_neg h, List.count_cons_of_ne (by simpa using h)]
      cases hp : partsL c l with
      | nil => rw [hp] at ih; simp at ih
      | cons p ps => rw [hp] at ih; simpa using ih
theorem partsL_none {c : UInt8} : ∀ {l : List UInt8}, c ∉ l → partsL c l = [l]
  | [], _ => rfl
  | x :: l, h => by
    simp only [List.mem_cons, not_or] at h
    unfold partsL
    rw [if_neg (fun e => h.1 e.symm), partsL_none h.2]
theorem partsL_hit {c : UInt8} : ∀ {l : List UInt8} {k : Nat} (hk : k < l.length), l[k] = c → c ∉ l.take k → partsL c l = l.take k :: partsL c (l.drop (k + 1))
  | x :: l, 0, _, he, _ => by
    simp only [List.getElem_cons_zero] at he
    rw [show partsL c (x :: l) = (if x = c then [] :: partsL c l else match partsL c l with
      | [] => [[x]]
      | p :: ps => (x :: p) :: ps) from rfl, if_pos he]; rfl
  | x :: l, k + 1, hk, he, hn => by
    simp only [List.take_succ_cons, List.mem_cons, not_or] at hn
    have ih := partsL_hit (l := l) (k := k) (by simpa using hk) (by simpa using he) hn.2
    rw [show partsL c (x :: l) = (if x = c then [] :: partsL c l else match partsL c l with
      | [] => [[x]]
      | p :: ps => (x :: p) :: ps) from rfl, if_neg (fun e => hn.1 e.symm), ih]
    simp
def partsB (c : UInt8) (s : ByteArray) : List ByteArray := (partsL c (toL s)).map toB
theorem partsB_len (c : UInt8) (s : ByteArray) : (partsB c s).length = (toL s).count c + 1 := by simp [partsB, partsL_len]
theorem index_cases (c : UInt8) : ∀ l : List UInt8, (Lib.indexByte l c = -1 ∧ c ∉ l) ∨ ∃ k : Nat, Lib.indexByte l c = (k : Int) ∧ ∃ hk : k < l.length, l[k] = c ∧ c ∉ l.take k
  | [] => .inl ⟨rfl, by simp⟩
  | x :: l => by
    unfold Lib.indexByte
    by_cases h : x = c
    · subst h
      refine .inr ⟨0, by simp, by simp, rfl, by simp⟩
    · rw [if_neg (by simpa using h)]
      rcases index_cases c l with ⟨h1, h2⟩ | ⟨k, h1, hk, h2, h3⟩
      · rw [h1]
        exact .inl ⟨rfl, by simp only [List.mem_cons, not_or]; exact ⟨fun e => h e.symm, h2⟩⟩
      · rw [h1, if_neg (by simp)]
        exact .inr ⟨k + 1, by omega, by simpa using hk, by simpa using h2, by simp only [List.take_succ_cons, List.mem_cons, not_or]; exact ⟨fun e => h e.symm, h3⟩⟩
theorem count_hit {c : UInt8} {l : List UInt8} {k : Nat} (hk : k < l.length) (he : l[k] = c) (hn : c ∉ l.take k) : l.count c = (l.drop (k + 1)).count c + 1 := by
  have h1 := partsL_len c l
  have h2 := partsL_len c (l.drop (k + 1))
  rw [partsL_hit hk he hn, List.length_cons] at h1
  omega

/-! ### Cut -/
/-- Ahead of the first such byte, what is behind it, and whether there is one. -/
def cutB (c : UInt8) (s : ByteArray) : ByteArray × ByteArray × Bool := if indexB s c < 0 then (s, ⟨#[]⟩, false) else (s.extract 0 (indexB s c).toNat, s.extract ((indexB s c).toNat + 1) s.size, true)
theorem index_lt (c : UInt8) (s : ByteArray) : indexB s c < s.size := by
  unfold indexB
  rcases index_cases c (toL s) with ⟨h1, _⟩ | ⟨k, h1, hk, _⟩
  · rw [show s.data.toList = toL s from rfl, h1]; omega
  · rw [show s.data.toList = toL s from rfl, h1]; rw [toL_len] at hk; omega
theorem cut_run {s sep : ByteArray} (hsep : sep.size = 1) (hs : s.size ≤ 4611686018427387904) (h : AHeap) : S_strings_Cut s sep h = some (.tup [.lit (.string (cutB (sep0 sep) s).1), .lit (.string (cutB (sep0 sep) s).2.1), .lit (.bool (cutB (sep0 sep) s).2.2)], h) := by
  have e : S_internal_stringslite_Cut s sep h = some (.tup [.lit (.string (cutB (sep0 sep) s).1), .lit (.string (cutB (sep0 sep) s).2.1), .lit (.bool (cutB (sep0 sep) s).2.2)], h) := by
    rw [S_internal_stringslite_Cut_eq, req_true hsep, Option.bind_some]
    have hlt := index_lt (sep0 sep) s
    unfold cutB
    by_cases hi : indexB s (sep0 sep) < 0
    · rw [decide_eq_false (by omega), cond_false, if_pos hi]
    · rw [decide_eq_true (by omega), cond_true, if_neg hi, hsep, wrap_i64 (by omega) (by omega)]
      unfold cutS
      rw [req_true (by omega), Option.bind_some, Option.bind_some, req_true (by omega), Option.bind_some, Option.bind_some]
      have e1 : (indexB s (sep0 sep) + ((1 : Nat) : Int)).toNat = (indexB s (sep0 sep)).toNat + 1 := by omega
      rw [e1]
      rfl
  rw [S_strings_Cut_eq, e, onlyR_same]
  rfl
theorem cutC_run {s sep : ByteArray} (hsep : sep.size = 1) (hs : s.size ≤ 4611686018427387904) (h : AHeap) : ACalls Tryd.prog 51 [.lit (.string s), .lit (.string sep)] h fun e g => e = .ret (.tup [.lit (.string (cutB (sep0 sep) s).1), .lit (.string (cutB (sep0 sep) s).2.1), .lit (.bool (cutB (sep0 sep) s).2.2)]) ∧ g = h :=
  S_strings_Cut_ends (cut_run hsep hs h) selfR
noncomputable def w_strings_Cut : XC := .q fun R args h K => match args with
  | [.lit (.string s), .lit (.string t)] => (req (t.size = 1 ∧ s.size ≤ 4611686018427387904)).bind fun _ => K (.tup [(.lit (.string ((cutB (sep0 t) s).1))), (.lit (.string ((cutB (sep0 t) s).2.1))), (.lit (.bool ((cutB (sep0 t) s).2.2)))])
  | _ => none
theorem w_strings_Cut_ok : XC.Nat w_strings_Cut ∧ XC.Ok Tryd.prog 51 w_strings_Cut := by
  refine ⟨fun R args h K => ?_, tc51, fun args h v hx => ?_⟩
  · dsimp only; split <;> simp [Option.bind_assoc, mkP]
  · dsimp only at hx; split at hx
    · obtain ⟨_, hpre, hx⟩ := Option.bind_eq_some_iff.1 hx
      have hpre := req_some hpre
      cases hx
      exact cutC_run hpre.1 hpre.2 _
    · cases hx
def prefB (s p : ByteArray) : Bool := decide ((s.size : Int) ≥ (p.size : Int)) && decide (s.extract 0 p.size = p)
theorem hasPrefix_run {s p : ByteArray} (h : AHeap) : S_strings_HasPrefix s p h = some (.lit (.bool (prefB s p)), h) := by
  have e : S_internal_stringslite_HasPrefix s p h = some (.lit (.bool (prefB s p)), h) := by
    rw [S_internal_stringslite_HasPrefix_eq]
    unfold prefB
    by_cases hs : (s.size : Int) ≥ (p.size : Int)
    · rw [decide_eq_true hs, cond_true]
      unfold cutS
      rw [req_true (by omega), Option.bind_some, Option.bind_some, S_internal_stringslite_HasPrefix_0_eq]
      rfl
    · rw [decide_eq_false hs, cond_false, S_internal_stringslite_HasPrefix_0_eq]; rfl
  rw [S_strings_HasPrefix_eq, e, onlyR_same]
  rfl
noncomputable def w_strings_HasPrefix : XC := .q fun R args h K => match args with
  | [.lit (.string s), .lit (.string p)] => K (.lit (.bool (prefB s p)))
  | _ => none
theorem w_strings_HasPrefix_ok : XC.Nat w_strings_HasPrefix ∧ XC.Ok Tryd.prog 89 w_strings_HasPrefix := by
  refine ⟨fun R args h K => ?_, tc89, fun args h v hx => ?_⟩
  · dsimp only; split <;> simp [Option.bind_assoc, mkP]
  · dsimp only at hx; split at hx
    · cases hx
      exact S_strings_HasPrefix_ends (hasPrefix_run h) selfR
    · cases hx

/-! ### Split -/
theorem strVs_len (l : List ByteArray) : (strVs l).length = l.length := by simp [strVs]
theorem strVs_app (a b : List ByteArray) : strVs (a ++ b) = strVs a ++ strVs b := by simp [strVs]
theorem split_loop {sep : ByteArray} (hsep : sep.size = 1) {b N : Nat} (hN : N ≤ 4611686018427387904) : ∀ (m i : Nat) (s : ByteArray) (h : AHeap) (cells : List AVal) (dn : List ByteArray), (toL s).count (sep0 sep) = m → i + m = N → s.size ≤ 4611686018427387904 →
    cellsAt h b = some cells → cells.length = N + 1 → cells.take i = strVs dn → dn.length = i →
    ∃ h', S_strings_genSplit_1 s sep 0 (N : Nat) (.sl 1 b 0 (N + 1)) (i : Nat) h = some (.sl 1 b 0 (N + 1), h') ∧ cellsAt h' b = some (strVs (dn ++ partsB (sep0 sep) s)) ∧ (∀ x, x ≠ b → h'[x]? = h[x]?) ∧ h'.length = h.length
  | m, i, s, h, cells, dn, hm, hi, hs, hc, hcl, hdn, hdl => by
    have idx : ∀ j : Nat, j < N + 1 → idxP 1 (.sl 1 b 0 (N + 1)) (j : Nat) = some (.ptr b j) := fun j hj => by
      unfold idxP; simp only [Nat.beq_refl]; rw [req_true (by omega)]; simp
    have bl := cellsAt_lt hc
    -- the last part
    have last : (toL s).count (sep0 sep) = 0 → i = N → ∃ h', S_strings_genSplit_2 s (.sl 1 b 0 (N + 1)) (i : Nat) h = some (.sl 1 b 0 (N + 1), h') ∧ cellsAt h' b = some (strVs (dn ++ partsB (sep0 sep) s)) ∧ (∀ x, x ≠ b → h'[x]? = h[x]?) ∧ h'.length = h.length := fun h0 hiN => by
      subst hiN
      refine ⟨h.set b (.cells (cells.set i (.lit (.string s)))), ?_, ?_, fun x hx => List.getElem?_set_ne (Ne.symm hx), by simp⟩
      · rw [S_strings_genSplit_2_eq, idx _ (by omega), Option.bind_some, st1_of hc rfl (by omega), Option.bind_some, show IntKind.wrap .i64 ((i : Int) + 1) = ((i + 1 : Nat) : Int) by rw [show (i : Int) + 1 = ((i + 1 : Nat) : Int) by omega]; exact wrap_nat (by omega)]
        unfold cutV
        simp only [Nat.beq_refl]
        rw [req_true (by simp; omega)]
        simp
      · rw [cellsAt_set hc]
        have hno : sep0 sep ∉ toL s := fun hmem => by have := List.count_pos_iff.2 hmem; omega
        unfold partsB
        rw [partsL_none hno, List.map_singleton, toB_toL, strVs_app, ← hdn]
        congr 1
        apply List.ext_getElem?
        intro j
        rcases Nat.lt_trichotomy j i with hj | rfl | hj
        · rw [List.getElem?_set_ne (by omega), List.getElem?_append_left (by simp; omega), List.getElem?_take_of_lt hj]
        · rw [List.getElem?_set_self (by omega), List.getElem?_append_right (by simp; omega)]
          simp [show min j cells.length = j by omega, strVs]
        · rw [List.getElem?_eq_none (by simp; omega), List.getElem?_eq_none (by simp [strVs]; omega)]
    rw [S_strings_genSplit_1_eq]
    rcases index_cases (sep0 sep) (toL s) with ⟨h1, h2⟩ | ⟨k, h1, hk, h2, h3⟩
    · have h0 : (toL s).count (sep0 sep) = 0 := List.count_eq_zero.2 h2
      have hiN : i = N := by omega
      rw [decide_eq_false (by omega), cond_false]
      exact last h0 hiN
    · have hcnt := count_hit hk h2 h3
      have hkl : k < s.size := by rw [toL_len] at hk; exact hk
      have hix : indexB s (sep0 sep) = (k : Int) := h1
      rw [decide_eq_true (by omega), cond_true, req_true hsep, Option.bind_some, hix, decide_eq_false (by omega), cond_false, hsep]
      rw [show IntKind.wrap .i64 ((k : Int) + 0) = (k : Int) by rw [Int.add_zero]; exact wrap_nat (by omega), show IntKind.wrap .i64 ((k : Int) + ((1 : Nat) : Int)) = ((k + 1 : Nat) : Int) by rw [show (k : Int) + ((1 : Nat) : Int) = ((k + 1 : Nat) : Int) by omega]; exact wrap_nat (by omega)]
      unfold cutS
      rw [req_true (by omega), Option.bind_some, Option.bind_some, idx _ (by omega), Option.bind_some, st1_of hc rfl (by omega), Option.bind_some, req_true (by omega), Option.bind_some, Option.bind_some, show IntKind.wrap .i64 ((i : Int) + 1) = ((i + 1 : Nat) : Int) by rw [show (i : Int) + 1 = ((i + 1 : Nat) : Int) by omega]; exact wrap_nat (by omega)]
      have ex1 : toL (s.extract (k + 1) s.size) = (toL s).drop (k + 1) := by rw [toL_extract, List.take_of_length_le (by rw [toL_len]; omega)]
      have ex0 : toL (s.extract 0 k) = (toL s).take k := by rw [toL_extract, List.drop_zero]
      have hsz : (s.extract (k + 1) s.size).size ≤ s.size := by rw [← toL_len, ex1, List.length_drop, toL_len]; omega
      obtain ⟨h', q1, q2, q3, q4⟩ := split_loop hsep hN (m - 1) (i + 1) (s.extract (k + 1) s.size) (h.set b (.cells (cells.set i (.lit (.string (s.extract 0 k)))))) (cells.set i (.lit (.string (s.extract 0 k)))) (dn ++ [s.extract 0 k])
        (by rw [ex1]; omega) (by omega) (by omega) (cellsAt_set hc) (by simpa using hcl)
        (by rw [strVs_app, ← hdn]
            rw [List.take_add_one, List.getElem?_set_self (by omega), List.take_set_of_le (by omega)]
            simp [strVs])
        (by simp [hdl])
      refine ⟨h', q1, ?_, fun x hx => (q3 x hx).trans (List.getElem?_set_ne (Ne.symm hx)), by simpa using q4⟩
      rw [q2]
      congr 2
      unfold partsB
      rw [partsL_hit hk h2 h3, ex1, List.map_cons, ← ex0, toB_toL]
      simp
  termination_by m => m
  decreasing_by omega
theorem split_run {s sep : ByteArray} (hsep : sep.size = 1) (hs : s.size ≤ 4294967296) (h : AHeap) :
    ∃ h', S_strings_Split s sep h = some (.sl 1 h.length 0 (partsB (sep0 sep) s).length, h') ∧ cellsAt h' h.length = some (strVs (partsB (sep0 sep) s)) ∧ (∀ x, x < h.length → h'[x]? = h[x]?) ∧ h'.length = h.length + 1 := by
  have hcl : (toL s).count (sep0 sep) ≤ s.size := by rw [← toL_len]; exact List.count_le_length
  have hpl := partsB_len (sep0 sep) s
  generalize hN : (toL s).count (sep0 sep) = N at hcl hpl
  have hcb : countB s (sep0 sep) = N := hN
  have hc0 : cellsAt (h ++ [.cells (List.replicate (N + 1) [AVal.lit (.string { data := #[] })]).flatten]) h.length = some (List.replicate (N + 1) (.lit (.string { data := #[] }))) := by
    rw [flat_one]; exact cellsAt_new h _
  obtain ⟨h', q1, q2, q3, q4⟩ := split_loop hsep (b := h.length) (N := N) (by omega) N 0 s _ _ [] hN (by omega) (by omega) hc0 (by simp) (by simp [strVs]) rfl
  refine ⟨h', ?_, by simpa using q2, fun x hx => (q3 x (by omega)).trans (List.getElem?_append_left hx), by rw [q4]; simp⟩
  rw [S_strings_Split_eq, S_strings_genSplit_eq]
  have hne : sep ≠ ({ data := #[] } : ByteArray) := fun e => by rw [e] at hsep; simp [ByteArray.size] at hsep
  rw [decide_eq_false (by omega), cond_false, decide_eq_false hne, cond_false, decide_eq_true (by omega), cond_true, req_true hsep, Option.bind_some, hcb]
  rw [show IntKind.wrap .i64 ((N : Int) + 1) = ((N + 1 : Nat) : Int) by rw [show (N : Int) + 1 = ((N + 1 : Nat) : Int) by omega]; exact wrap_nat (by omega), S_strings_genSplit_0_eq]
  rw [show IntKind.wrap .i64 ((s.size : Int) + 1) = ((s.size + 1 : Nat) : Int) by rw [show (s.size : Int) + 1 = ((s.size + 1 : Nat) : Int) by omega]; exact wrap_nat (by omega)]
  have hmin : minI ((N + 1 : Nat) : Int) ((s.size + 1 : Nat) : Int) = ((N + 1 : Nat) : Int) := by unfold minI; split <;> omega
  rw [hmin]
  unfold mkS
  rw [req_true (by omega), Option.bind_some, Option.bind_some, show IntKind.wrap .i64 (((N + 1 : Nat) : Int) - 1) = (N : Int) by rw [show ((N + 1 : Nat) : Int) - 1 = (N : Int) by omega]; exact wrap_nat (by omega)]
  simp only [Int.toNat_natCast]
  refine (congrArg (Option.bind · _) (show _ = _ from q1)).trans ?_
  rw [Option.bind_some, hpl]
noncomputable def w_strings_Split : XC := .l fun R args h K => match args with
  | [.lit (.string a0), .lit (.string a1)] => (S_strings_Split a0 a1 h).bind fun r => K r.1 r.2
  | _ => none
theorem w_strings_Split_ok : XC.Nat w_strings_Split ∧ XC.Ok Tryd.prog 49 w_strings_Split := by
  refine ⟨fun R args h K => ?_, tc49, fun args h v h' hx => ?_⟩
  · dsimp only; split <;> simp [Option.bind_assoc, mkP]
  · dsimp only at hx; split at hx
    · obtain ⟨r, hopt, hx⟩ := Option.bind_eq_some_iff.1 hx
      simp only [mkP, Option.some.injEq, Prod.mk.injEq] at hx
      obtain ⟨rfl, rfl⟩ := hx
      exact (by obtain ⟨v, h'⟩ := r; exact S_strings_Split_ends hopt selfR)
    · cases hx
end Go.Proofs.YtglmofbcooefkaaDoor.AL
/- Contracts of Go's library at this program, laid in plain words by the kit's own tool. -/
namespace Go.Proofs
open Go.Shelf
def Tryd.laysItoa_ren : Go.Shelf.Ren := ⟨fun | 171 => 47 | 243 => 91 | 246 => 119 | 283 => 139 | 284 => 140 | 285 => 141 | 286 => 142 | 129 => 166 | 317 => 165 | 318 => 167 | 319 => 168 | 320 => 169 | 337 => 187 | 338 => 188 | n => n, fun | 3 => 3 | 9 => 9 | 2 => 2 | 4 => 4 | 171 => 168 | 0 => 0 | 53 => 169 | 37 => 32 | 5 => 5 | 173 => 172 | 212 => 189 | 51 => 48 | 20 => 20 | 213 => 190 | 46 => 127 | 232 => 210 | 233 => 211 | n => n, fun | 17 => 1 | 18 => 4 | 19 => 5 | n => n⟩
theorem Tryd.laysItoa : Go.Proofs.LaysM.n171 Tryd.prog Tryd.laysItoa_ren := {
  mixed := by kernel_rfl
  f129 := Tryd.func166.trans (congrArg some (by kernel_rfl))
  f171 := Tryd.func47.trans (congrArg some (by kernel_rfl))
  f243 := Tryd.func91.trans (congrArg some (by kernel_rfl))
  f246 := Tryd.func119.trans (congrArg some (by kernel_rfl))
  f283 := Tryd.func139.trans (congrArg some (by kernel_rfl))
  f284 := Tryd.func140.trans (congrArg some (by kernel_rfl))
  f285 := Tryd.func141.trans (congrArg some (by kernel_rfl))
  f286 := Tryd.func142.trans (congrArg some (by kernel_rfl))
  f317 := Tryd.func165.trans (congrArg some (by kernel_rfl))
  f318 := Tryd.func167.trans (congrArg some (by kernel_rfl))
  f319 := Tryd.func168.trans (congrArg some (by kernel_rfl))
  f320 := Tryd.func169.trans (congrArg some (by kernel_rfl))
  f337 := Tryd.func187.trans (congrArg some (by kernel_rfl))
  f338 := Tryd.func188.trans (congrArg some (by kernel_rfl))
  t0 := Tryd.underlying0
  a0 := Tryd.isAgg0
  z0 := Tryd.sizeOf0
  v0 := Tryd.zeroValue0
  t2 := Tryd.underlying2
  a2 := Tryd.isAgg2
  z2 := Tryd.sizeOf2
  v2 := Tryd.zeroValue2
  t3 := Tryd.underlying3
  a3 := Tryd.isAgg3
  z3 := Tryd.sizeOf3
  v3 := Tryd.zeroValue3
  t4 := Tryd.underlying4
  a4 := Tryd.isAgg4
  z4 := Tryd.sizeOf4
  v4 := Tryd.zeroValue4
  t5 := Tryd.underlying5
  a5 := Tryd.isAgg5
  z5 := Tryd.sizeOf5
  v5 := Tryd.zeroValue5
  t9 := Tryd.underlying9
  a9 := Tryd.isAgg9
  z9 := Tryd.sizeOf9
  v9 := Tryd.zeroValue9
  t20 := Tryd.underlying20
  a20 := Tryd.isAgg20
  z20 := Tryd.sizeOf20
  v20 := Tryd.zeroValue20
  t37 := Tryd.underlying32
  a37 := Tryd.isAgg32
  z37 := Tryd.sizeOf32
  v37 := Tryd.zeroValue32
  t46 := Tryd.underlying127
  a46 := Tryd.isAgg127
  z46 := Tryd.sizeOf127
  v46 := Tryd.zeroValue127
  t51 := Tryd.underlying48
  a51 := Tryd.isAgg48
  z51 := Tryd.sizeOf48
  v51 := Tryd.zeroValue48
  t53 := Tryd.underlying169
  a53 := Tryd.isAgg169
  z53 := Tryd.sizeOf169
  v53 := Tryd.zeroValue169
  t171 := Tryd.underlying168
  a171 := Tryd.isAgg168
  z171 := Tryd.sizeOf168
  v171 := Tryd.zeroValue168
  t173 := Tryd.underlying172
  a173 := Tryd.isAgg172
  z173 := Tryd.sizeOf172
  v173 := Tryd.zeroValue172
  t212 := Tryd.underlying189
  a212 := Tryd.isAgg189
  z212 := Tryd.sizeOf189
  v212 := Tryd.zeroValue189
  t213 := Tryd.underlying190
  a213 := Tryd.isAgg190
  z213 := Tryd.sizeOf190
  t232 := Tryd.underlying210
  a232 := Tryd.isAgg210
  z232 := Tryd.sizeOf210
  v232 := Tryd.zeroValue210
  t233 := Tryd.underlying211
  a233 := Tryd.isAgg211
  z233 := Tryd.sizeOf211
  v233 := Tryd.zeroValue211
  g17 := by kernel_rfl
  g18 := by kernel_rfl
  g19 := by kernel_rfl
  i0 := by kernel_rfl
  i2 := by kernel_rfl
  i3 := by kernel_rfl
  i4 := by kernel_rfl
  i5 := by kernel_rfl
  i9 := by kernel_rfl
  i20 := by kernel_rfl
  i37 := by kernel_rfl
  i46 := by kernel_rfl
  i51 := by kernel_rfl
  i53 := by kernel_rfl
  i171 := by kernel_rfl
  i173 := by kernel_rfl
  i212 := by kernel_rfl
  i232 := by kernel_rfl
  i233 := by kernel_rfl
  m17 := by kernel_rfl
  m18 := by kernel_rfl
  m19 := by kernel_rfl }
end Go.Proofs
/- strconv.Itoa, out of the kit's contract, told over abstract values. -/
set_option linter.unusedVariables false
set_option linter.unusedSimpArgs false
namespace Go.Proofs.YtglmofbcooefkaaDoor.AL
open Go Go.Proofs Go.Sort
def itoaB (n : Int) : ByteArray := ⟨(Lib.itoa n).toArray⟩
theorem pow10_is {ρ : Env} {h : AHeap} {w : World} (hR : Rel ρ h w) : Lib.TabIs Tryd.prog w "internal/strconv.uint64pow10" .u64 Lib.pow10Tab := by
  obtain ⟨_, C, T, fz, hc, hC⟩ := hR.glob _ (List.mem_singleton.2 rfl)
  have hg : Tryd.prog.globalNamed "internal/strconv.uint64pow10" = some 1 := by kernel_rfl
  simp only at hc hC
  unfold Lib.TabIs World.var?
  rw [hg, Option.bind_some, hc, hC]
theorem itoa_run {n : Int} (h0 : -9223372036854775808 ≤ n) (h1 : n ≤ 9223372036854775807) (h : AHeap) : ACalls Tryd.prog 47 [.lit (.int .i64 n)] h fun e g => e = .ret (.lit (.string (itoaB n))) ∧ g = h := by
  intro ρ w us hR hv
  obtain ⟨u, rfl, hu⟩ := hv.single
  cases hu
  refine (Any.strconv_Itoa Tryd.laysItoa n h0 h1 w (pow10_is hR)).mono ?_
  rintro e w' ⟨rfl, k, os, rfl⟩
  obtain ⟨ev, R'⟩ := evo_more (w' := grow (w.drewN k) os) hR ⟨rfl, rfl, rfl⟩ (by simp [grow, World.drewN]) (fun c hc => by
    show (w.heap ++ os)[c]? = _
    rw [Array.getElem?_append_left hc])
  exact ⟨ρ, h, _, ev, R', .ret _ _ (.lit _), rfl, rfl⟩
end Go.Proofs.YtglmofbcooefkaaDoor.AL
