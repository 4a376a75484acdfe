/- Operations that turn the heap, reckoned; frames; calls; regions. -/
import Derived.Test.YtglmofbcooefkaaX2
import Derived.Test.YtglmofbcooefkaaXL
namespace Go.Proofs.Ytglmofbcooefkaa.AL
set_option linter.unusedVariables false
set_option linter.unusedSimpArgs false
open Go

def newO (h : AHeap) (cs : List AVal) : AVal × AHeap := (.ptr h.length 0, h ++ [.cells cs])
def st1 (h : AHeap) (p x : AVal) : Option AHeap := match p with
  | .ptr b off => (cellsAt h b).bind fun cs => (req (x.one = true ∧ off < cs.length)).bind fun _ => some (h.set b (.cells (cs.set off x)))
  | _ => none
def stn (n : Nat) (h : AHeap) (p : AVal) (vs : List AVal) : Option AHeap := match p with
  | .ptr b off => (cellsAt h b).bind fun cs => (req (vs.all (·.one) = true ∧ n = vs.length ∧ off + vs.length ≤ cs.length)).bind fun _ => some (h.set b (.cells (splice cs off vs)))
  | _ => none
def xStore (T : Tab) (t : Nat) (h : AHeap) (p x : AVal) : Option AHeap := match T.agg t, T.siz t with
  | some false, some 1 => st1 h p x
  | some true, some n => x.parts.bind fun vs => stn n h p vs
  | _, _ => none
theorem xStore_ok {T : Tab} {P : Program} (hT : T.Ok P) {t : Nat} {h g : AHeap} {p x : AVal} {K : AHeap → Prop} (hv : xStore T t h p x = some g) (hK : K g) : aStore P t h p x K := by
  unfold xStore at hv; unfold aStore
  split at hv
  · rename_i ha hs
    unfold st1 at hv
    split at hv
    · obtain ⟨cs, h1, hv⟩ := Option.bind_eq_some_iff.1 hv
      obtain ⟨u, h2, hv⟩ := Option.bind_eq_some_iff.1 hv
      cases hv
      simp only [cellsAt_some h1, hT.agg ha]
      exact ⟨(req_some h2).1, hT.siz _ _ hs, (req_some h2).2, hK⟩
    · cases hv
  · rename_i ha hs
    obtain ⟨vs, h0, hv⟩ := Option.bind_eq_some_iff.1 hv
    unfold stn at hv
    split at hv
    · obtain ⟨cs, h1, hv⟩ := Option.bind_eq_some_iff.1 hv
      obtain ⟨u, h2, hv⟩ := Option.bind_eq_some_iff.1 hv
      cases hv
      obtain ⟨a1, a2, a3⟩ := req_some h2
      subst a2
      simp only [cellsAt_some h1, hT.agg ha, h0]
      exact ⟨a1, hT.siz _ _ hs, a3, hK⟩
    · cases hv
  · cases hv
def mkS (k b : Nat) (zs : List AVal) (l c : Int) (h : AHeap) : Option (AVal × AHeap) :=
  (req (0 ≤ l ∧ l ≤ c ∧ b * c ≤ 140737488355328 ∧ c ≤ 9223372036854775807)).bind fun _ => some (.sl k h.length 0 l.toNat, h ++ [.cells (List.replicate l.toNat zs).flatten])
def xMake (T : Tab) (t : Nat) (l c : AVal) (h : AHeap) : Option (AVal × AHeap) := match T.und t, l, c with
  | some (.slice e), .lit (.int _ l), .lit (.int _ c) => match T.siz e, T.byt e, T.zer e with
    | some k, some b, some z => match z.parts with
      | some zs => match Nat.beq zs.length k with
        | true => mkS k b zs l c h
        | false => none
      | none => none
    | _, _, _ => none
  | _, _, _ => none
theorem xMake_ok {T : Tab} {P : Program} (hT : T.Ok P) {t : Nat} {l c : AVal} {h : AHeap} {r : AVal × AHeap} {K : AVal → AHeap → Prop} (hv : xMake T t l c h = some r) (hK : K r.1 r.2) : aMake P t l c h K := by
  unfold xMake at hv; unfold aMake
  split at hv
  · rename_i hu
    simp only [(hT.slice (Tab.slice_of hu)).1]
    split at hv
    · rename_i h1 h2 h3
      simp only [hT.siz _ _ h1, hT.byt _ _ h2, hT.zer _ _ h3]
      split at hv
      · rename_i hp
        simp only [hp]
        split at hv
        · rename_i hk
          unfold mkS at hv
          obtain ⟨u, h4, h5⟩ := Option.bind_eq_some_iff.1 hv
          cases h5
          obtain ⟨a1, a2, a3, a4⟩ := req_some h4
          exact ⟨Nat.eq_of_beq_eq_true hk, a1, a2, a3, a4, hK⟩
        · cases hv
      · cases hv
    · cases hv
  · cases hv
def blitS (k : Nat) (zs : List AVal) (len : Nat) (parts : List (Nat × AVal)) (h : AHeap) : Option (AVal × AHeap) :=
  (req (len * k ≤ 16777216)).bind fun _ => (aFill (fun i => some (i * k, k)) (List.replicate len zs).flatten parts).bind fun cs => some (.sl k h.length 0 len, h ++ [.cells cs])
def xBuildSlice (T : Tab) (t : Nat) (len : Nat) (parts : List (Nat × AVal)) (h : AHeap) : Option (AVal × AHeap) := match T.und t with
  | some (.slice e) => match T.siz e, T.zer e with
    | some k, some z => match z.parts with
      | some zs => match Nat.beq zs.length k with
        | true => blitS k zs len parts h
        | false => none
      | none => none
    | _, _ => none
  | _ => none
theorem xBuildSlice_ok {T : Tab} {P : Program} (hT : T.Ok P) {t len : Nat} {parts : List (Nat × AVal)} {h : AHeap} {r : AVal × AHeap} {K : AVal → AHeap → Prop} (hv : xBuildSlice T t len parts h = some r) (hK : K r.1 r.2) :
    aBuildSlice P t len parts h K := by
  unfold xBuildSlice at hv; unfold aBuildSlice
  split at hv
  · rename_i hu
    simp only [(hT.slice (Tab.slice_of hu)).1]
    split at hv
    · rename_i h1 h3
      simp only [hT.siz _ _ h1, hT.zer _ _ h3]
      split at hv
      · rename_i hp
        simp only [hp]
        split at hv
        · rename_i hk
          unfold blitS at hv
          obtain ⟨u, h4, hv⟩ := Option.bind_eq_some_iff.1 hv
          obtain ⟨cs, h5, hv⟩ := Option.bind_eq_some_iff.1 hv
          cases hv
          refine ⟨Nat.eq_of_beq_eq_true hk, req_some h4, ?_⟩
          simp only [h5]; exact hK
        · cases hv
      · cases hv
    · cases hv
  · cases hv
def toBytes (s : ByteArray) (h : AHeap) : AVal × AHeap := (.sl 1 h.length 0 s.size, h ++ [.cells (s.data.toList.map byteV)])
def xConvL (T : Tab) (src dst : Nat) (x : AVal) (h : AHeap) : Option (AVal × AHeap) := match T.und src, T.und dst, x with
  | some _, some (.slice e), .lit (.string s) => match T.und e with
    | some (.int .u8) => some (toBytes s h)
    | _ => none
  | _, _, _ => none
theorem xConvL_ok {T : Tab} {P : Program} (hT : T.Ok P) {src dst : Nat} {x : AVal} {h : AHeap} {r : AVal × AHeap} {K : AVal → AHeap → Prop} (hv : xConvL T src dst x h = some r) (hK : K r.1 r.2) : aConv P src dst x h K := by
  unfold xConvL at hv; unfold aConv
  split at hv
  · rename_i h1 h2
    refine ⟨by rw [hT.und _ _ h1]; rfl, ?_⟩
    simp only [hT.und _ _ h2]
    split at hv
    · rename_i he
      cases hv
      exact ⟨hT.int (Tab.int_of he), hK⟩
    · cases hv
  · cases hv
/-- 'append': k cells an element, b bytes. -/
def appV (k b : Nat) (h : AHeap) (s x : AVal) : Option (AVal × AHeap) :=
  (srcLen x).bind fun n => (srcCells h k x n).bind fun ns => match s with
    | .lit (.slice none 0 0) => (req (n * b ≤ 140737488355328)).bind fun _ => some (if n = 0 then (.lit (.slice none 0 0), h) else (.sl k h.length 0 n, h ++ [.cells ns]))
    | .sl k' o off len => (cellsAt h o).bind fun cs => (req (k' = k ∧ off + len * k ≤ cs.length ∧ (len + n) * b ≤ 140737488355328 ∧ ns.all (·.one) = true)).bind fun _ =>
        some (.sl k h.length 0 (len + n), h.set o .dead ++ [.cells ((cs.drop off).take (len * k) ++ ns)])
    | _ => none
def xAppend (T : Tab) (sT xT : Nat) (h : AHeap) (s x : AVal) : Option (AVal × AHeap) := match T.und sT, T.und xT, T.fit sT with
  | some (.slice e), some d, true => match d with
    | .int _ => none
    | _ => match T.siz e, T.byt e, T.zer e with
      | some k, some (b + 1), some _ => appV k (b + 1) h s x
      | _, _, _ => none
  | _, _, _ => none
theorem xAppend_ok {T : Tab} {P : Program} (hT : T.Ok P) {sT xT : Nat} {s x : AVal} {h : AHeap} {r : AVal × AHeap} {K : AVal → AHeap → Prop} (hv : xAppend T sT xT h s x = some r) (hK : K r.1 r.2) :
    zeroFits P sT ∧ aAppend P sT xT h s x K := by
  unfold xAppend at hv
  split at hv
  · rename_i h1 h2 h3
    refine ⟨hT.fit _ h3, ?_⟩
    unfold aAppend
    split at hv
    · cases hv
    · rename_i d hn
      refine ⟨?_, ?_⟩
      · rw [hT.und _ _ h2]
        split
        · rename_i e; cases e; exact (hn _ rfl).elim
        · trivial
        · contradiction
      · simp only [(hT.slice (Tab.slice_of h1)).1]
        split at hv
        · rename_i g1 g2 g3
          simp only [hT.siz _ _ g1, hT.byt _ _ g2, hT.zer _ _ g3]
          unfold appV at hv
          obtain ⟨n, e1, hv⟩ := Option.bind_eq_some_iff.1 hv
          obtain ⟨ns, e2, hv⟩ := Option.bind_eq_some_iff.1 hv
          simp only [e1, e2]
          split at hv
          · obtain ⟨u, e3, hv⟩ := Option.bind_eq_some_iff.1 hv
            refine ⟨req_some e3, fun h0 => ?_, fun h0 => ?_⟩
            · rw [if_pos h0] at hv; cases hv; exact hK
            · rw [if_neg h0] at hv; cases hv; exact hK
          · obtain ⟨cs, e3, hv⟩ := Option.bind_eq_some_iff.1 hv
            obtain ⟨u, e4, hv⟩ := Option.bind_eq_some_iff.1 hv
            cases hv
            obtain ⟨a1, a2, a3, a4⟩ := req_some e4
            simp only [cellsAt_some e3]
            exact ⟨a1, a2, a3, a4, hK⟩
          · cases hv
        · cases hv
  · cases hv
def cpyV (k : Nat) (h : AHeap) (d x : AVal) : Option (AVal × AHeap) := match d with
  | .sl k' b off len => (srcLen x).bind fun n => (cellsAt h b).bind fun cs => (srcCells h k x (min n len)).bind fun ns =>
      (req (k' = k ∧ off + (min n len) * k ≤ cs.length ∧ ns.all (·.one) = true)).bind fun _ => some (.lit (.int .i64 (min n len : Nat)), h.set b (.cells (splice cs off ns)))
  | _ => none
def xCopy (T : Tab) (dT : Nat) (h : AHeap) (d x : AVal) : Option (AVal × AHeap) := match T.und dT with
  | some (.slice e) => match T.siz e with
    | some k => cpyV k h d x
    | none => none
  | _ => none
theorem xCopy_ok {T : Tab} {P : Program} (hT : T.Ok P) {dT : Nat} {d x : AVal} {h : AHeap} {r : AVal × AHeap} {K : AVal → AHeap → Prop} (hv : xCopy T dT h d x = some r) (hK : K r.1 r.2) : aCopy P dT h d x K := by
  unfold xCopy at hv; unfold aCopy
  split at hv
  · rename_i hu
    simp only [(hT.slice (Tab.slice_of hu)).1]
    split at hv
    · rename_i hs
      simp only [hT.siz _ _ hs]
      unfold cpyV at hv
      split at hv
      · obtain ⟨n, e1, hv⟩ := Option.bind_eq_some_iff.1 hv
        obtain ⟨cs, e2, hv⟩ := Option.bind_eq_some_iff.1 hv
        obtain ⟨ns, e3, hv⟩ := Option.bind_eq_some_iff.1 hv
        obtain ⟨u, e4, hv⟩ := Option.bind_eq_some_iff.1 hv
        cases hv
        obtain ⟨a1, a2, a3⟩ := req_some e4
        simp only [e1, cellsAt_some e2, e3]
        exact ⟨a1, a2, a3, hK⟩
      · cases hv
    · cases hv
  · cases hv
/-! Maps, written -/
def mput (u : Value) (v : AVal) (es : List (Value × AVal)) : List (Value × AVal) := match mfind u es with
  | some (i, _) => es.set i (u, v)
  | none => es ++ [(u, v)]
def mdel (u : Value) (es : List (Value × AVal)) : List (Value × AVal) := match mfind u es with
  | some (i, _) => es.eraseIdx i
  | none => es
def mapSet (d : MKey) (h : AHeap) (x : AVal) (f : List (Value × AVal) → List (Value × AVal)) : Option AHeap := match x with
  | .map b => match h[b]? with
    | some (.map d' es) => match mkEq d' d with
      | true => some (h.set b (.map d (f es)))
      | false => none
    | _ => none
  | _ => none
def xMapUpdate (T : Tab) (t : Nat) (h : AHeap) (m k v : AVal) : Option AHeap := match T.mkey t, k with
  | some (d, _, _), .lit u => match keyOkB d u with
    | true => mapSet d h m (mput u v)
    | false => none
  | _, _ => none
theorem xMapUpdate_ok {T : Tab} {P : Program} (hT : T.Ok P) {t : Nat} {h g : AHeap} {m k v : AVal} {K : AHeap → Prop} (hv : xMapUpdate T t h m k v = some g) (hK : K g) : aMapUpdate P t h m k v K := by
  unfold xMapUpdate at hv; unfold aMapUpdate
  split at hv
  · rename_i d kt et u ht
    simp only [(hT.mkey ht).1]
    split at hv
    · rename_i hk
      unfold mapSet at hv
      split at hv
      · refine ⟨keyOkB_ok hk, ?_⟩
        split at hv
        · rename_i hb
          split at hv
          · rename_i he
            cases hv
            simp only [hb]
            refine ⟨mkEq_eq he, ?_⟩
            unfold mput at hK
            split at hK <;> (rename_i hm; simp only [hm]; exact hK)
          · cases hv
        · cases hv
      · cases hv
    · cases hv
  · cases hv
def xDelete (T : Tab) (t : Nat) (h : AHeap) (m k : AVal) : Option AHeap := match T.mkey t, k with
  | some (d, _, _), .lit u => match keyOkB d u with
    | true => match m with
      | .lit (.map none) => some h
      | m => mapSet d h m (mdel u)
    | false => none
  | _, _ => none
theorem set_self {h : AHeap} {b : Nat} {o : AObj} (hb : h[b]? = some o) : h.set b o = h := by
  apply List.ext_getElem?
  intro c
  by_cases hcb : b = c
  · subst hcb; rw [List.getElem?_set_self (lt_of_getL hb), hb]
  · rw [List.getElem?_set_ne hcb]
theorem xDelete_ok {T : Tab} {P : Program} (hT : T.Ok P) {t : Nat} {h g : AHeap} {m k : AVal} {K : AVal → AHeap → Prop} (hv : xDelete T t h m k = some g) (hK : K (.tup []) g) : aDelete P t h m k K := by
  unfold xDelete at hv; unfold aDelete
  split at hv
  · rename_i d kt et u ht
    simp only [(hT.mkey ht).1]
    split at hv
    · rename_i hk
      refine ⟨keyOkB_ok hk, ?_⟩
      split at hv
      · cases hv; exact hK
      · rename_i hn
        unfold mapSet at hv
        split at hv
        · split at hv
          · rename_i hb
            split at hv
            · rename_i he
              cases hv
              simp only [hb]
              refine ⟨mkEq_eq he, ?_⟩
              unfold mdel at hK
              split at hK
              · rename_i hm; simp only [hm]; exact hK
              · rename_i hm
                simp only [hm]
                rw [mkEq_eq he] at hb
                rw [set_self hb] at hK
                exact hK
            · cases hv
          · cases hv
        · cases hv
    · cases hv
  · cases hv
def sitAt (h : AHeap) (x : AVal) : Option (Nat × ByteArray × Nat) := match x with
  | .ptr b 0 => match h[b]? with
    | some (.sit s pos) => some (b, s, pos)
    | _ => none
  | _ => none
def nextV (q : Nat × ByteArray × Nat) : AVal := .tup [.lit (.bool true), .lit (.int .i64 q.2.2), .lit (.int .i32 (Utf8.decode q.2.1 q.2.2).1)]
def nextH (h : AHeap) (q : Nat × ByteArray × Nat) : AHeap := h.set q.1 (.sit q.2.1 (q.2.2 + (Utf8.decode q.2.1 q.2.2).2))
def xNextS (h : AHeap) (x : AVal) : Option (AVal × AHeap) := (sitAt h x).bind fun q => cond (Nat.blt q.2.2 q.2.1.size) (some (nextV q, nextH h q)) (some (.tup [.lit (.bool false)], h))
theorem xNextS_ok {h : AHeap} {x : AVal} {r : AVal × AHeap} {K : AVal → AHeap → Prop} (hv : xNextS h x = some r) (hK : K r.1 r.2) : aNextS x h K := by
  unfold xNextS at hv
  obtain ⟨q, h1, h2⟩ := Option.bind_eq_some_iff.1 hv
  unfold sitAt at h1
  split at h1
  · split at h1
    · rename_i b _ s pos hb
      cases h1
      unfold aNextS
      simp only [hb]
      simp only at h2
      cases hlt : Nat.blt pos s.size with
      | true =>
        rw [hlt] at h2
        cases h2
        rw [if_pos (by rw [Nat.blt_eq] at hlt; exact hlt)]
        exact hK
      | false =>
        rw [hlt] at h2
        cases h2
        rw [if_neg (fun h => by rw [← Nat.blt_eq] at h; rw [h] at hlt; cases hlt)]
        exact hK
    · cases h1
  · cases h1
/-- Operations that turn the heap. -/
def xl (T : Tab) (o : Op) (g : Operand → AVal) (h : AHeap) : Option (AVal × AHeap) := match o with
  | .alloc t => match T.zer t with
    | some z => z.parts.bind fun vs => some (newO h vs)
    | none => none
  | .box t x => (g x).parts.bind fun vs => some (newO h vs)
  | .buildSlice t len ps => xBuildSlice T t len (ps.toList.map fun p => (p.1, g p.2)) h
  | .store t p x => (xStore T t h (g p) (g x)).bind fun h' => some (.any, h')
  | .convert s d x => xConvL T s d (g x) h
  | .makeSlice t l c => xMake T t (g l) (g c) h
  | .makeMap t none => match T.mkey t with
    | some (d, _, _) => some (.map h.length, h ++ [.map d []])
    | none => none
  | .mapUpdate t m k x => (xMapUpdate T t h (g m) (g k) (g x)).bind fun h' => some (.any, h')
  | .insert t m k x => (xMapUpdate T t h (g m) (g k) (g x)).bind fun h' => some (.any, h')
  | .range t x => match T.und t with
    | some .string => (asS (g x)).bind fun s => some (.ptr h.length 0, h ++ [.sit s 0])
    | _ => none
  | .next it true => xNextS h (g it)
  | .call { callee := .builtin b, args, argTypes } => match b, args.toList, argTypes.toList with
    | .append, [s, x], [sT, xT] => xAppend T sT xT h (g s) (g x)
    | .copy, [d, x], [dT, _] => xCopy T dT h (g d) (g x)
    | .delete, [m, k], [mt, _] => (xDelete T mt h (g m) (g k)).bind fun h' => some (.tup [], h')
    | _, _, _ => none
  | _ => none
theorem xl_ok {T : Tab} {P : Program} (hT : T.Ok P) {o : Op} {ty : Nat} {a : List AVal} {h : AHeap} {r : AVal × AHeap} {K : AVal → AHeap → Prop} (hv : xl T o (aEval a) h = some r) (hK : K r.1 r.2) : AOp P o ty a h K := by
  unfold xl at hv
  cases o with
  | alloc t =>
    simp only at hv
    simp only [AOp, aAlloc]
    split at hv
    · rename_i hz
      simp only [hT.zer _ _ hz]
      obtain ⟨vs, h1, h2⟩ := Option.bind_eq_some_iff.1 hv
      cases h2
      simp only [h1]; exact hK
    · cases hv
  | box t x =>
    simp only [AOp, aBox]
    obtain ⟨vs, h1, h2⟩ := Option.bind_eq_some_iff.1 hv
    cases h2
    simp only [h1]; exact hK
  | buildSlice t len ps => exact xBuildSlice_ok hT hv hK
  | store t p x =>
    obtain ⟨g, h1, h2⟩ := Option.bind_eq_some_iff.1 hv
    cases h2
    exact xStore_ok (K := fun h' => K .any h') hT h1 hK
  | convert s d x => exact xConvL_ok hT hv hK
  | makeSlice t l c => exact xMake_ok hT hv hK
  | makeMap t r =>
    cases r with
    | none =>
      simp only at hv
      simp only [AOp, aMakeMap]
      split at hv
      · rename_i ht
        simp only [(hT.mkey ht).1]
        cases hv; exact hK
      · cases hv
    | some r => cases hv
  | mapUpdate t m k x =>
    obtain ⟨g, h1, h2⟩ := Option.bind_eq_some_iff.1 hv
    cases h2
    exact xMapUpdate_ok (K := fun h' => K .any h') hT h1 hK
  | insert t m k x =>
    obtain ⟨g, h1, h2⟩ := Option.bind_eq_some_iff.1 hv
    cases h2
    exact xMapUpdate_ok (K := fun h' => K .any h') hT h1 hK
  | range t x =>
    simp only at hv
    simp only [AOp]
    split at hv
    · rename_i hu
      obtain ⟨s, h1, h2⟩ := Option.bind_eq_some_iff.1 hv
      cases h2
      rw [asS_some h1]
      show aRangeS P t _ h K
      unfold aRangeS
      rw [hT.und _ _ hu]; exact hK
    · cases hv
  | next it isS =>
    cases isS with
    | true => exact xNextS_ok hv hK
    | false => cases hv
  | call c =>
    obtain ⟨callee, args, argTypes⟩ := c
    cases callee with
    | builtin b =>
      simp only at hv
      simp only [AOp]
      split at hv
      · rename_i e1 e2
        simp only [e1, e2]; exact xAppend_ok hT hv hK
      · rename_i e1 e2
        simp only [e1, e2]; exact xCopy_ok hT hv hK
      · rename_i e1 e2
        simp only [e1, e2]
        obtain ⟨g, h1, h2⟩ := Option.bind_eq_some_iff.1 hv
        cases h2
        exact xDelete_ok hT h1 hK
      · cases hv
    | value f => simp at hv
    | invoke r m => simp at hv
  | _ => simp at hv

/-- What makes an object that nobody has seen: what it has, and how it is seen. -/
def mkA (b : Nat) (zs : List AVal) (l c : Int) : Option (List AVal) :=
  (req (0 ≤ l ∧ l ≤ c ∧ b * c ≤ 140737488355328 ∧ c ≤ 9223372036854775807)).bind fun _ => some (List.replicate l.toNat zs).flatten
def blitA (k : Nat) (zs : List AVal) (len : Nat) (parts : List (Nat × AVal)) : Option (List AVal) :=
  (req (len * k ≤ 16777216)).bind fun _ => aFill (fun i => some (i * k, k)) (List.replicate len zs).flatten parts
def xA {R : Type} (T : Tab) (o : Op) (g : Operand → AVal) (K : AMk → List AVal → Option R) : Option R := match o with
  | .alloc t => match T.zer t with
    | some z => z.parts.bind fun vs => K .ptr vs
    | none => none
  | .box t x => (g x).parts.bind fun vs => K .ptr vs
  | .makeSlice t l c => match T.und t, g l, g c with
    | some (.slice e), .lit (.int _ l), .lit (.int _ c) => match T.siz e, T.byt e, T.zer e with
      | some k, some b, some z => match z.parts with
        | some zs => match Nat.beq zs.length k with
          | true => (mkA b zs l c).bind fun cs => K (.sl k l.toNat) cs
          | false => none
        | none => none
      | _, _, _ => none
    | _, _, _ => none
  | .buildSlice t len ps => match T.und t with
    | some (.slice e) => match T.siz e, T.zer e with
      | some k, some z => match z.parts with
        | some zs => match Nat.beq zs.length k with
          | true => (blitA k zs len (ps.toList.map fun p => (p.1, g p.2))).bind fun cs => K (.sl k len) cs
          | false => none
        | none => none
      | _, _ => none
    | _ => none
  | .convert s d x => match T.und s, T.und d, g x with
    | some _, some (.slice e), .lit (.string s) => match T.und e with
      | some (.int .u8) => K (.sl 1 s.size) (s.data.toList.map byteV)
      | _ => none
    | _, _, _ => none
  | _ => none
def mkAD (m : AMk) (cs : List AVal) : Option AData := some ⟨m, cs⟩
theorem xA_bind {R : Type} (T : Tab) (o : Op) (g : Operand → AVal) (K : AMk → List AVal → Option R) : xA T o g K = (xA T o g mkAD).bind fun D => K D.how D.cs := by
  cases o with
  | alloc t =>
    simp only [xA]
    rcases T.zer t with _ | z
    · rfl
    · simp [Option.bind_assoc, mkAD]
  | box t x => simp [xA, Option.bind_assoc, mkAD]
  | makeSlice t l c =>
    simp only [xA]
    split
    · split
      · split
        · split
          · simp [Option.bind_assoc, mkAD]
          · rfl
        · rfl
      · rfl
    · rfl
  | buildSlice t len ps =>
    simp only [xA]
    split
    · split
      · split
        · split
          · simp [Option.bind_assoc, mkAD]
          · rfl
        · rfl
      · rfl
    · rfl
  | convert s d x =>
    simp only [xA]
    split
    · split <;> rfl
    · rfl
  | _ => rfl
theorem xA_ok {T : Tab} {P : Program} (hT : T.Ok P) {o : Op} {ty : Nat} {a : List AVal} {D : AData} (hv : xA T o (aEval a) mkAD = some D) :
    (∀ f args tys, o ≠ .call { callee := .value f, args := args, argTypes := tys }) ∧ ∀ h : AHeap, AOp P o ty a h fun v' g => v' = D.how.val h.length ∧ g = h ++ [.cells D.cs] := by
  cases o with
  | alloc t =>
    refine ⟨(fun _ _ _ e => by cases e), fun h => ?_⟩
    simp only [xA] at hv
    simp only [AOp, aAlloc]
    split at hv
    · rename_i hz
      simp only [hT.zer _ _ hz]
      obtain ⟨vs, h1, h2⟩ := Option.bind_eq_some_iff.1 hv
      cases h2
      simp only [h1]; exact ⟨by first | trivial | rfl, by first | trivial | rfl⟩
    · cases hv
  | box t x =>
    refine ⟨(fun _ _ _ e => by cases e), fun h => ?_⟩
    simp only [xA] at hv
    simp only [AOp, aBox]
    obtain ⟨vs, h1, h2⟩ := Option.bind_eq_some_iff.1 hv
    cases h2
    simp only [h1]; exact ⟨by first | trivial | rfl, by first | trivial | rfl⟩
  | makeSlice t l c =>
    refine ⟨(fun _ _ _ e => by cases e), fun h => ?_⟩
    have key : xMake T t (aEval a l) (aEval a c) h = some (D.how.val h.length, h ++ [.cells D.cs]) := by
      simp only [xA] at hv
      unfold xMake
      split at hv
      · rename_i h1 h2 h3
        (try simp only [h1, h2, h3])
        split at hv
        · rename_i g1 g2 g3
          (try simp only [g1, g2, g3])
          split at hv
          · rename_i hp
            (try simp only [hp])
            split at hv
            · rename_i hb
              (try simp only [hb])
              obtain ⟨cs, e1, e2⟩ := Option.bind_eq_some_iff.1 hv
              cases e2
              unfold mkA at e1
              obtain ⟨u, e3, e4⟩ := Option.bind_eq_some_iff.1 e1
              cases e4
              unfold mkS
              rw [e3]; rfl
            · cases hv
          · cases hv
        · cases hv
      · cases hv
    exact xMake_ok (K := fun v' g => v' = D.how.val h.length ∧ g = h ++ [.cells D.cs]) hT key ⟨rfl, rfl⟩
  | buildSlice t len ps =>
    refine ⟨(fun _ _ _ e => by cases e), fun h => ?_⟩
    have key : xBuildSlice T t len (ps.toList.map fun p => (p.1, aEval a p.2)) h = some (D.how.val h.length, h ++ [.cells D.cs]) := by
      simp only [xA] at hv
      unfold xBuildSlice
      split at hv
      · rename_i h1
        (try simp only [h1])
        split at hv
        · rename_i g1 g3
          (try simp only [g1, g3])
          split at hv
          · rename_i hp
            (try simp only [hp])
            split at hv
            · rename_i hb
              (try simp only [hb])
              obtain ⟨cs, e1, e2⟩ := Option.bind_eq_some_iff.1 hv
              cases e2
              unfold blitA at e1
              obtain ⟨u, e3, e4⟩ := Option.bind_eq_some_iff.1 e1
              unfold blitS
              rw [e3, Option.bind_some, e4]; rfl
            · cases hv
          · cases hv
        · cases hv
      · cases hv
    exact xBuildSlice_ok (K := fun v' g => v' = D.how.val h.length ∧ g = h ++ [.cells D.cs]) hT key ⟨rfl, rfl⟩
  | convert s d x =>
    refine ⟨(fun _ _ _ e => by cases e), fun h => ?_⟩
    have key : xConvL T s d (aEval a x) h = some (D.how.val h.length, h ++ [.cells D.cs]) := by
      simp only [xA] at hv
      unfold xConvL
      split at hv
      · rename_i h1 h2 h3
        (try simp only [h1, h2, h3])
        split at hv
        · rename_i he
          (try simp only [he])
          cases hv; rfl
        · cases hv
      · cases hv
    exact xConvL_ok (K := fun v' g => v' = D.how.val h.length ∧ g = h ++ [.cells D.cs]) hT key ⟨rfl, rfl⟩
  | _ => simp [xA] at hv

/-! ### Frames -/
abbrev Fr := List (Nat × AVal)
noncomputable def Fr.get (f : Fr) (i : Nat) : AVal := List.rec (motive := fun _ => AVal) .any (fun p _ ih => cond (Nat.beq i p.1) p.2 ih) f
noncomputable def Fr.lst (n : Nat) (f : Fr) : List AVal := (List.range n).map f.get
def Fr.Wf (n : Nat) (f : Fr) : Prop := ∀ t, n ≤ t → f.get t = .any
noncomputable def fEval (f : Fr) : Operand → AVal
  | .tmp t => f.get t
  | .const v => litA v
  | .global g => .lit (.pointer (some ⟨g, 0, none⟩))
  | .func i => .fn (.func i) [] []
theorem aget_lst {n : Nat} {f : Fr} (hw : f.Wf n) (t : Nat) : aget (f.lst n) t = f.get t := by
  unfold aget Fr.lst
  rcases Nat.lt_or_ge t n with h | h
  · simp [List.getD_eq_getElem?_getD, h]
  · simp [List.getD_eq_getElem?_getD, hw t h, Nat.not_lt.2 h]
theorem aEval_lst {n : Nat} {f : Fr} (hw : f.Wf n) : aEval (f.lst n) = fEval f := by
  funext x; cases x <;> simp [aEval, fEval, aget_lst hw]
theorem Fr.get_cons (k : Nat) (v : AVal) (f : Fr) (i : Nat) : Fr.get ((k, v) :: f) i = if i = k then v else f.get i := by
  show cond (Nat.beq i k) v (f.get i) = _
  by_cases h : i = k
  · subst h; simp
  · rw [if_neg h]
    have : Nat.beq i k = false := by rw [Bool.eq_false_iff]; intro e; exact h (Nat.eq_of_beq_eq_true e)
    rw [this]; rfl
theorem lst_cons {n d : Nat} (hd : d < n) (v : AVal) (f : Fr) : Fr.lst n ((d, v) :: f) = (f.lst n).set d v := by
  unfold Fr.lst
  apply List.ext_getElem
  · simp
  · intro i h1 h2
    simp only [List.getElem_map, List.getElem_range, Fr.get_cons, List.getElem_set]
    by_cases h : i = d
    · subst h; simp
    · rw [if_neg h, if_neg (fun e => h e.symm)]
theorem wf_cons {n d : Nat} (hd : d < n) (v : AVal) {f : Fr} (hw : f.Wf n) : Fr.Wf n ((d, v) :: f) := by
  intro t ht
  rw [Fr.get_cons, if_neg (by omega)]
  exact hw t ht
def fput (n : Nat) (f : Fr) (d : Option Nat) (v : AVal) : Option Fr := match d with
  | none => some f
  | some d => match Nat.blt d n with
    | true => some ((d, v) :: f)
    | false => none
theorem fput_some {n : Nat} {f f' : Fr} {d : Option Nat} {v : AVal} (h : fput n f d v = some f') (hw : f.Wf n) : f'.lst n = aset (f.lst n) d v ∧ f'.Wf n := by
  unfold fput at h
  split at h
  · cases h; exact ⟨rfl, hw⟩
  · split at h
    · rename_i d _ hb
      have hd : d < n := by rw [Nat.blt_eq] at hb; exact hb
      cases h
      exact ⟨lst_cons hd v f, wf_cons hd v hw⟩
    · cases h
noncomputable def fmask (f : Fr) (ks : List Nat) : Fr := List.rec (motive := fun _ => Fr) [] (fun k _ ih => (k, f.get k) :: ih) ks
theorem fmask_get (f : Fr) : ∀ (ks : List Nat) (i : Nat), (fmask f ks).get i = .any ∨ (fmask f ks).get i = f.get i
  | [], i => .inl rfl
  | k :: ks, i => by
    show Fr.get ((k, f.get k) :: fmask f ks) i = .any ∨ Fr.get ((k, f.get k) :: fmask f ks) i = _
    rw [Fr.get_cons]
    by_cases h : i = k
    · rw [if_pos h]; subst h; exact .inr rfl
    · rw [if_neg h]; exact fmask_get f ks i
noncomputable def findN.{u} {α : Type u} (l : List (Nat × α)) (i : Nat) : Option α := List.rec (motive := fun _ => Option α) none (fun p _ ih => cond (Nat.beq i p.1) (some p.2) ih) l
theorem findN_nil.{u} {α : Type u} (i : Nat) : findN ([] : List (Nat × α)) i = none := rfl
theorem findN_cons.{u} {α : Type u} (k : Nat) (v : α) (l : List (Nat × α)) (i : Nat) : findN ((k, v) :: l) i = cond (Nat.beq i k) (some v) (findN l i) := rfl
theorem findN_some.{u} {α : Type u} {k : Nat} {v c : α} {l : List (Nat × α)} {i : Nat} (h : findN ((k, v) :: l) i = some c) : (i = k ∧ v = c) ∨ findN l i = some c := by
  rw [findN_cons] at h
  cases hb : Nat.beq i k with
  | true => rw [hb] at h; cases h; exact .inl ⟨Nat.eq_of_beq_eq_true hb, rfl⟩
  | false => rw [hb] at h; exact .inr h
noncomputable def maskO (f : Fr) (m : Option (List Nat)) : Fr := match m with
  | none => f
  | some ks => fmask f ks
theorem maskO_get (f : Fr) (m : Option (List Nat)) (i : Nat) : (maskO f m).get i = .any ∨ (maskO f m).get i = f.get i := by
  unfold maskO
  split
  · exact .inr rfl
  · exact fmask_get f _ i
theorem maskO_wf {n : Nat} {f : Fr} (hw : f.Wf n) (m : Option (List Nat)) : (maskO f m).Wf n := by
  intro t ht
  rcases maskO_get f m t with h | h
  · exact h
  · rw [h]; exact hw t ht
theorem weak_of : ∀ {a b : List AVal}, a.length = b.length → (∀ (i : Nat) (h1 : i < a.length) (h2 : i < b.length), b[i] = .any ∨ a[i] = b[i]) → Weak a b
  | [], [], _, _ => trivial
  | [], _ :: _, h, _ => by simp at h
  | _ :: _, [], h, _ => by simp at h
  | x :: a, y :: b, h, hg => ⟨hg 0 (by simp) (by simp), weak_of (by simpa using h) fun i h1 h2 => hg (i + 1) (by simpa using h1) (by simpa using h2)⟩
theorem maskO_weak (n : Nat) (f : Fr) (m : Option (List Nat)) : Weak (f.lst n) ((maskO f m).lst n) := by
  refine weak_of (by simp [Fr.lst]) fun i h1 h2 => ?_
  simp only [Fr.lst, List.getElem_map, List.getElem_range]
  rcases maskO_get f m i with h | h
  · exact .inl h
  · exact .inr h.symm

/-! ### The same, with what comes next handed in -/
section cps
variable {R : Type}
def castK (T : Tab) (t : Nat) (v : AVal) (K : AVal → Option R) : Option R := match T.und t with
  | some (.int k) => (asI k v).bind fun n => K (.lit (.int k n))
  | some .string => (asS v).bind fun s => K (.lit (.string s))
  | some .bool => (asB v).bind fun b => K (.lit (.bool b))
  | some (.struct _) => (asA v).bind fun xs => K (.agg xs)
  | some (.array _ _) => (asA v).bind fun xs => K (.agg xs)
  | _ => K v
theorem castK_eq (T : Tab) (t : Nat) (v : AVal) (K : AVal → Option R) : castK T t v K = (castT T t v).bind K := by
  unfold castK castT
  cases T.und t with
  | none => rfl
  | some d => cases d <;> simp [Option.bind_assoc]
def xLoadK (T : Tab) (t : Nat) (h : AHeap) (v : AVal) (K : AVal → Option R) : Option R := match T.agg t with
  | some false => (ld1 h v).bind K
  | some true => match T.siz t with
    | some n => (ldn n h v).bind fun xs => K (.agg xs)
    | none => none
  | none => none
theorem xLoadK_eq (T : Tab) (t : Nat) (h : AHeap) (v : AVal) (K : AVal → Option R) : xLoadK T t h v K = (xLoad T t h v).bind K := by
  unfold xLoadK xLoad
  rcases T.agg t with _ | b
  · rfl
  · cases b
    · rfl
    · rcases T.siz t with _ | n <;> simp [Option.bind_assoc]
def xIntK (op : BinOp) (k : IntKind) (x y : Int) (K : AVal → Option R) : Option R := match op with
  | .quo => (req (y ≠ 0)).bind fun _ => K (.lit (.int k (k.wrap (x.tdiv y))))
  | .rem => (req (y ≠ 0)).bind fun _ => K (.lit (.int k (x.tmod y)))
  | op => (xInt op k x y).bind K
theorem xIntK_eq (op : BinOp) (k : IntKind) (x y : Int) (K : AVal → Option R) : xIntK op k x y K = (xInt op k x y).bind K := by
  cases op <;> simp [xIntK, xInt, Option.bind_assoc]
def xStrK (op : BinOp) (x y : ByteArray) (K : AVal → Option R) : Option R := match op with
  | .add => (req (x.size + y.size ≤ 9223372036854775807)).bind fun _ => K (.lit (.string (x ++ y)))
  | op => (xStr op x y).bind K
theorem xStrK_eq (op : BinOp) (x y : ByteArray) (K : AVal → Option R) : xStrK op x y K = (xStr op x y).bind K := by
  cases op <;> simp [xStrK, xStr, Option.bind_assoc]
def boolK (op : BinOp) (p : Bool) (K : AVal → Option R) : Option R := match op with
  | .eql => K (.lit (.bool p))
  | .neq => K (.lit (.bool (!p)))
  | _ => none
def xNilK (T : Tab) (op : BinOp) (t : Nat) (ox oy : Operand) (x y : AVal) (K : AVal → Option R) : Option R := match T.nilK t with
  | none => none
  | some k => match isNilC oy k y with
    | true => (x.isNil k).bind fun p => boolK op p K
    | false => match isNilC ox k x with
      | true => (y.isNil k).bind fun p => boolK op p K
      | false => none
theorem xNilK_eq (T : Tab) (op : BinOp) (t : Nat) (ox oy : Operand) (x y : AVal) (K : AVal → Option R) : xNilK T op t ox oy x y K = (xNil T op t ox oy x y).bind K := by
  unfold xNilK xNil
  rcases T.nilK t with _ | k
  · rfl
  · simp only
    cases isNilC oy k y
    · cases isNilC ox k x
      · rfl
      · simp only [Option.bind_assoc]; congr 1; funext p; cases op <;> rfl
    · simp only [Option.bind_assoc]; congr 1; funext p; cases op <;> rfl
def xBinK (T : Tab) (op : BinOp) (t : Nat) (ox oy : Operand) (x y : AVal) (K : AVal → Option R) : Option R := match T.nilK t with
  | some _ => xNilK T op t ox oy x y K
  | none => match x, y with
    | .lit (.int k a), .lit (.int k' b) => match op with
      | .shl => (req (0 ≤ b)).bind fun _ => K (.lit (.int k (shlI k a b)))
      | .shr => (req (0 ≤ b)).bind fun _ => K (.lit (.int k (shrI k a b)))
      | op => match kindEq k k' with
        | true => xIntK op k a b K
        | false => none
    | .lit (.string a), .lit (.string b) => xStrK op a b K
    | .lit (.bool a), .lit (.bool b) => match T.und t, op with
      | some .bool, .eql => K (.lit (.bool (decide (a = b))))
      | some .bool, .neq => K (.lit (.bool (!decide (a = b))))
      | _, _ => none
    | .agg xs, .agg ys => match T.lvs t with
      | none => none
      | some ls => (leafEq ls xs ys).bind fun r => boolK op r K
    | _, _ => none
theorem xBinK_eq (T : Tab) (op : BinOp) (t : Nat) (ox oy : Operand) (x y : AVal) (K : AVal → Option R) : xBinK T op t ox oy x y K = (xBin T op t ox oy x y).bind K := by
  unfold xBinK xBin
  rcases T.nilK t with _ | k
  · simp only
    cases x with
    | lit u =>
      cases u with
      | int k a =>
        cases y with
        | lit v =>
          cases v with
          | int k' b =>
            cases op <;> simp only [] <;> first
              | (cases kindEq k k' <;> first | rfl | exact xIntK_eq ..)
              | (simp only [Option.bind_assoc]; rfl)
          | _ => rfl
        | _ => rfl
      | string a =>
        cases y with
        | lit v =>
          cases v with
          | string b => exact xStrK_eq ..
          | _ => rfl
        | _ => rfl
      | bool a =>
        cases y with
        | lit v =>
          cases v with
          | bool b =>
            simp only
            rcases T.und t with _ | d
            · rfl
            · cases d <;> cases op <;> rfl
          | _ => rfl
        | _ => rfl
      | _ => rfl
    | agg xs =>
      cases y with
      | agg ys =>
        simp only
        rcases T.lvs t with _ | ls
        · rfl
        · simp only [Option.bind_assoc]; congr 1; funext p; cases op <;> rfl
      | _ => rfl
    | _ => rfl
  · exact xNilK_eq ..
def xPartK (T : Tab) (t : Nat) (vs : List AVal) (off : Nat) (K : AVal → Option R) : Option R := match T.agg t with
  | some true => match T.siz t with
    | some n => (takeN vs off n).bind fun xs => K (.agg xs)
    | none => none
  | some false => (vs[off]?).bind K
  | none => none
theorem xPartK_eq (T : Tab) (t : Nat) (vs : List AVal) (off : Nat) (K : AVal → Option R) : xPartK T t vs off K = (xPart T t vs off).bind K := by
  unfold xPartK xPart
  rcases T.agg t with _ | b
  · rfl
  · cases b
    · rfl
    · rcases T.siz t with _ | n <;> simp [Option.bind_assoc]
def xIndexK (T : Tab) (t : Nat) (x i : AVal) (K : AVal → Option R) : Option R := match i, x with
  | .lit (.int _ i), .lit (.string s) => match T.und t with
    | some .string => (strAt s i).bind fun b => K (.lit (.int .u8 b))
    | _ => none
  | .lit (.int _ i), .agg vs => match T.und t with
    | some (.array n e) => match T.siz e with
      | some k => (req (0 ≤ i ∧ i < n)).bind fun _ => xPartK T e vs (i.toNat * k) K
      | none => none
    | _ => none
  | _, _ => none
theorem xIndexK_eq (T : Tab) (t : Nat) (x i : AVal) (K : AVal → Option R) : xIndexK T t x i K = (xIndex T t x i).bind K := by
  cases i with
  | lit u =>
    cases u with
    | int k i =>
      cases x with
      | lit v =>
        cases v with
        | string s =>
          simp only [xIndexK, xIndex]
          rcases T.und t with _ | d
          · rfl
          · cases d <;> simp [Option.bind_assoc]
        | _ => rfl
      | agg vs =>
        simp only [xIndexK, xIndex]
        rcases T.und t with _ | d
        · rfl
        · cases d <;> try rfl
          simp only
          rcases T.siz _ with _ | k
          · rfl
          · simp only [Option.bind_assoc]; congr 1; funext u; exact xPartK_eq ..
      | _ => rfl
    | _ => rfl
  | _ => rfl
def xFieldVK (T : Tab) (t : Nat) (x : AVal) (i : Nat) (K : AVal → Option R) : Option R := match x with
  | .agg vs => match T.field t i with
    | some (off, ft) => xPartK T ft vs off K
    | none => none
  | _ => none
theorem xFieldVK_eq (T : Tab) (t : Nat) (x : AVal) (i : Nat) (K : AVal → Option R) : xFieldVK T t x i K = (xFieldV T t x i).bind K := by
  cases x with
  | agg vs =>
    simp only [xFieldVK, xFieldV]
    rcases T.field t i with _ | p
    · rfl
    · exact xPartK_eq ..
  | _ => rfl
def xSliceK (T : Tab) (t : Nat) (h : AHeap) (x : AVal) (lo hi mx : Option AVal) (K : AVal → Option R) : Option R := match T.und t with
  | some .string => match x, lo, hi, mx with
    | .lit (.string s), lo, hi, none => (bndO lo 0).bind fun l => (bndO hi s.size).bind fun r => (cutS s l r).bind fun z => K (.lit (.string z))
    | _, _, _, _ => none
  | some (.slice e) => match T.siz e with
    | some k => (intO lo).bind fun l => (intO hi).bind fun r => (intO mx).bind fun m => (cutV k x l r m).bind K
    | none => none
  | some (.array n e) => match T.siz e, mx with
    | some k, none => (bndO lo 0).bind fun l => (bndO hi n).bind fun r => (cutA n k h x l r).bind K
    | _, _ => none
  | _ => none
theorem xSliceK_eq (T : Tab) (t : Nat) (h : AHeap) (x : AVal) (lo hi mx : Option AVal) (K : AVal → Option R) : xSliceK T t h x lo hi mx K = (xSlice T t h x lo hi mx).bind K := by
  unfold xSliceK xSlice
  rcases T.und t with _ | d
  · rfl
  · cases d <;> try rfl
    · simp only
      cases x with
      | lit u =>
        cases u with
        | string s => cases mx <;> simp [Option.bind_assoc]
        | _ => rfl
      | _ => rfl
    · simp only
      rcases T.siz _ with _ | k <;> simp [Option.bind_assoc]
    · simp only
      rcases T.siz _ with _ | k
      · rfl
      · cases mx <;> simp [Option.bind_assoc]
def xLenK (T : Tab) (t : Nat) (x : AVal) (K : AVal → Option R) : Option R := match T.und t with
  | some (.array n _) => K (.lit (.int .i64 n))
  | some (.slice _) => (lenV x).bind fun n => K (.lit (.int .i64 n))
  | some .string => (asS x).bind fun s => K (.lit (.int .i64 s.size))
  | _ => none
theorem xLenK_eq (T : Tab) (t : Nat) (x : AVal) (K : AVal → Option R) : xLenK T t x K = (xLen T t x).bind K := by
  unfold xLenK xLen
  rcases T.und t with _ | d
  · rfl
  · cases d <;> simp [Option.bind_assoc]
def xBuildK (T : Tab) (t : Nat) (parts : List (Nat × AVal)) (K : AVal → Option R) : Option R := match T.zer t with
  | none => none
  | some z => match z.parts with
    | none => none
    | some zs => match T.und t with
      | some (.struct _) => (T.places t).bind fun ps => (aFill (ps[·]?) zs parts).bind fun cs => K (.agg cs)
      | some (.array _ e) => match T.siz e with
        | some k => (aFill (fun i => some (i * k, k)) zs parts).bind fun cs => K (.agg cs)
        | none => none
      | _ => none
theorem xBuildK_eq (T : Tab) (t : Nat) (parts : List (Nat × AVal)) (K : AVal → Option R) : xBuildK T t parts K = (xBuild T t parts).bind K := by
  unfold xBuildK xBuild
  rcases T.zer t with _ | z
  · rfl
  · simp only
    rcases z.parts with _ | zs
    · rfl
    · simp only
      rcases T.und t with _ | d
      · rfl
      · cases d <;> try rfl
        · simp only
          rcases T.siz _ with _ | k <;> simp [Option.bind_assoc]
        · simp [Option.bind_assoc]
def xConvQK (T : Tab) (src dst : Nat) (x : AVal) (h : AHeap) (K : AVal → Option R) : Option R := match T.und src, T.und dst with
  | some (.int _), some (.int k) => (numOf x).bind fun n => K (.lit (.int k (k.wrap n)))
  | some (.int _), some .string => (numOf x).bind fun n => K (.lit (.string (Utf8.encode n)))
  | some .string, some .string => (asS x).bind fun s => K (.lit (.string s))
  | some (.slice e), some .string => match T.und e with
    | some (.int .u8) => (bytesOf h x).bind fun s => K (.lit (.string s))
    | _ => none
  | _, _ => none
theorem xConvQK_eq (T : Tab) (src dst : Nat) (x : AVal) (h : AHeap) (K : AVal → Option R) : xConvQK T src dst x h K = (xConvQ T src dst x h).bind K := by
  unfold xConvQK xConvQ
  rcases T.und src with _ | ds
  · rfl
  · rcases T.und dst with _ | dd
    · cases ds <;> rfl
    · cases ds <;> cases dd <;> first
        | rfl
        | (simp [Option.bind_assoc]; done)
        | (simp only
           rcases T.und _ with _ | d2
           · rfl
           · cases d2 <;> try rfl
             rename_i k
             cases k <;> simp [Option.bind_assoc])
def xLookupK (T : Tab) (t : Nat) (h : AHeap) (x k : AVal) (ok : Bool) (K : AVal → Option R) : Option R := match T.mkey t, k with
  | some (d, _, et), .lit u => match keyOkB d u, T.zer et with
    | true, some z => (mapAt d h x).bind fun es => K (mres ok (mlook z u es).1 (mlook z u es).2)
    | _, _ => none
  | _, _ => none
theorem xLookupK_eq (T : Tab) (t : Nat) (h : AHeap) (x k : AVal) (ok : Bool) (K : AVal → Option R) : xLookupK T t h x k ok K = (xLookup T t h x k ok).bind K := by
  unfold xLookupK xLookup
  rcases T.mkey t with _ | ⟨d, kt, et⟩
  · rfl
  · cases k <;> try rfl
    simp only
    cases keyOkB d _ <;> try rfl
    cases T.zer et <;> try rfl
    simp only [Option.bind_assoc, Option.bind_some]
def xqK (T : Tab) (o : Op) (g : Operand → AVal) (h : AHeap) (K : AVal → Option R) : Option R := match o with
  | .move x | .assign x => K (g x)
  | .pick c x y => (asB (g c)).bind fun b => K (match b with | true => g x | false => g y)
  | .load t x => xLoadK T t h (g x) K
  | .binOp op t x y _ => xBinK T op t x y (g x) (g y) K
  | .convert s d x => xConvQK T s d (g x) h K
  | .makeFunc f xs ys => K (.fn f (evsF g xs) (evsF g ys))
  | .build t ps => xBuildK T t (ps.toList.map fun p => (p.1, g p.2)) K
  | .slice t x lo hi mx => xSliceK T t h (g x) (lo.map g) (hi.map g) (mx.map g) K
  | .field t x i => xFieldVK T t (g x) i K
  | .index t x i => xIndexK T t (g x) (g i) K
  | .lookup t x k ok => xLookupK T t h (g x) (g k) ok K
  | .call { callee := .builtin .len, args, argTypes } => match args.toList, argTypes.toList with
    | [x], [t] => match T.und t with
      | some (.map _ _) => (xMapLen h (g x)).bind K
      | _ => xLenK T t (g x) K
    | _, _ => none
  | o => (xq T o g h).bind K
theorem xqK_eq (T : Tab) (o : Op) (g : Operand → AVal) (h : AHeap) (K : AVal → Option R) : xqK T o g h K = (xq T o g h).bind K := by
  cases o with
  | move x => rfl
  | assign x => rfl
  | pick c x y => simp only [xqK, xq, Option.bind_assoc]; congr 1
  | load t x => exact xLoadK_eq ..
  | binOp op t x y _ => exact xBinK_eq ..
  | convert s d x => exact xConvQK_eq ..
  | makeFunc f xs ys => rfl
  | build t ps => exact xBuildK_eq ..
  | slice t x lo hi mx => exact xSliceK_eq ..
  | field t x i => exact xFieldVK_eq ..
  | index t x i => exact xIndexK_eq ..
  | lookup t x k ok => exact xLookupK_eq ..
  | call c =>
    obtain ⟨callee, args, argTypes⟩ := c
    cases callee with
    | builtin b =>
      cases b <;> try rfl
      simp only [xqK, xq]
      rcases args.toList with _ | ⟨x, _ | ⟨y, l⟩⟩ <;> rcases argTypes.toList with _ | ⟨t, _ | ⟨u, l'⟩⟩ <;> try rfl
      simp only
      rcases T.und t with _ | d
      · exact xLenK_eq ..
      · cases d <;> first | exact xLenK_eq .. | rfl
    | _ => rfl
  | _ => rfl
def xStoreK (T : Tab) (t : Nat) (h : AHeap) (p x : AVal) (K : AHeap → Option R) : Option R := match T.agg t, T.siz t with
  | some false, some 1 => (st1 h p x).bind K
  | some true, some n => x.parts.bind fun vs => (stn n h p vs).bind K
  | _, _ => none
theorem xStoreK_eq (T : Tab) (t : Nat) (h : AHeap) (p x : AVal) (K : AHeap → Option R) : xStoreK T t h p x K = (xStore T t h p x).bind K := by
  unfold xStoreK xStore
  rcases T.agg t with _ | b
  · rfl
  · rcases T.siz t with _ | n
    · cases b <;> rfl
    · cases b
      · rcases n with _ | _ | n <;> rfl
      · simp [Option.bind_assoc]
def pairK (K : AVal → AHeap → Option R) (r : AVal × AHeap) : Option R := K r.1 r.2
def xlK (T : Tab) (o : Op) (g : Operand → AVal) (h : AHeap) (K : AVal → AHeap → Option R) : Option R := match o with
  | .alloc t => match T.zer t with
    | some z => z.parts.bind fun vs => K (.ptr h.length 0) (h ++ [.cells vs])
    | none => none
  | .box t x => (g x).parts.bind fun vs => K (.ptr h.length 0) (h ++ [.cells vs])
  | .store t p x => xStoreK T t h (g p) (g x) fun h' => K .any h'
  | .makeMap t none => match T.mkey t with
    | some (d, _, _) => K (.map h.length) (h ++ [.map d []])
    | none => none
  | .mapUpdate t m k x => (xMapUpdate T t h (g m) (g k) (g x)).bind fun h' => K .any h'
  | .insert t m k x => (xMapUpdate T t h (g m) (g k) (g x)).bind fun h' => K .any h'
  | .range t x => match T.und t with
    | some .string => (asS (g x)).bind fun s => K (.ptr h.length 0) (h ++ [.sit s 0])
    | _ => none
  | .next it true => (sitAt h (g it)).bind fun q => cond (Nat.blt q.2.2 q.2.1.size) (K (nextV q) (nextH h q)) (K (.tup [.lit (.bool false)]) h)
  | .call { callee := .builtin .delete, args, argTypes } => match args.toList, argTypes.toList with
    | [m, k], [mt, _] => (xDelete T mt h (g m) (g k)).bind fun h' => K (.tup []) h'
    | _, _ => none
  | o => (xl T o g h).bind fun r => K r.1 r.2
theorem xlK_eq (T : Tab) (o : Op) (g : Operand → AVal) (h : AHeap) (K : AVal → AHeap → Option R) : xlK T o g h K = (xl T o g h).bind fun r => K r.1 r.2 := by
  cases o with
  | alloc t =>
    simp only [xlK, xl]
    rcases T.zer t with _ | z
    · rfl
    · simp [Option.bind_assoc, newO]
  | box t x => simp [xlK, xl, Option.bind_assoc, newO]
  | store t p x => simp only [xlK, xl]; rw [xStoreK_eq, Option.bind_assoc]; rfl
  | makeMap t r =>
    cases r with
    | none => simp only [xlK, xl]; split <;> rfl
    | some r => rfl
  | mapUpdate t m k x => simp [xlK, xl, Option.bind_assoc]
  | insert t m k x => simp [xlK, xl, Option.bind_assoc]
  | range t x => simp only [xlK, xl]; split <;> simp [Option.bind_assoc]
  | next it isS =>
    cases isS with
    | true =>
      simp only [xlK, xl, xNextS, Option.bind_assoc]
      congr 1; funext q
      cases Nat.blt q.2.2 q.2.1.size <;> rfl
    | false => rfl
  | call c =>
    obtain ⟨callee, args, argTypes⟩ := c
    cases callee with
    | builtin b =>
      cases b <;> try rfl
      simp only [xlK, xl]
      rcases args.toList with _ | ⟨x, _ | ⟨y, _ | ⟨z, l⟩⟩⟩ <;> rcases argTypes.toList with _ | ⟨t, _ | ⟨u, _ | ⟨w, l'⟩⟩⟩ <;> try rfl
      simp only [Option.bind_assoc, Option.bind_some]
    | _ => rfl
  | _ => rfl
end cps

/-- A place where ways meet. -/
noncomputable def jnF : { f : ∀ R : Type, Option R → Option R // ∀ R x, f R x = x } := Classical.choice ⟨⟨fun _ x => x, fun _ _ => rfl⟩⟩
noncomputable def jn {R : Type} (x : Option R) : Option R := jnF.1 R x
theorem jn_eq {R : Type} (x : Option R) : jn x = x := jnF.2 R x
noncomputable def atMask {R : Type} (m : Option (List Nat)) (f : Fr) (go : Fr → Option R) : Option R := match m with
  | none => go f
  | some ks => jn (go (fmask f ks))
theorem atMask_eq {R : Type} (m : Option (List Nat)) (f : Fr) (go : Fr → Option R) : atMask m f go = go (maskO f m) := by
  cases m with
  | none => rfl
  | some ks => exact jn_eq _
/-! ### Calls, one operation -/
inductive XC : Type 1 where
  | p (g : ∀ R : Type, List AVal → (AVal → Option R) → Option R)
  | q (g : ∀ R : Type, List AVal → AHeap → (AVal → Option R) → Option R)
  | l (g : ∀ R : Type, List AVal → AHeap → (AVal → AHeap → Option R) → Option R)
def mkP (v : AVal) (h : AHeap) : Option (AVal × AHeap) := some (v, h)
def XC.Nat : XC → Prop
  | .p g => ∀ R args K, g R args K = (g AVal args some).bind K
  | .q g => ∀ R args h K, g R args h K = (g AVal args h some).bind K
  | .l g => ∀ R args h K, g R args h K = (g (AVal × AHeap) args h mkP).bind fun r => K r.1 r.2
def XC.Ok (P : Program) (i : FuncId) : XC → Prop
  | .p g => callable P i = true ∧ ∀ args h v, g AVal args some = some v → ACalls P i args h fun e h' => e = .ret v ∧ h' = h
  | .q g => callable P i = true ∧ ∀ args h v, g AVal args h some = some v → ACalls P i args h fun e h' => e = .ret v ∧ h' = h
  | .l g => callable P i = true ∧ ∀ args h v h', g (AVal × AHeap) args h mkP = some (v, h') → ACalls P i args h fun e g => e = .ret v ∧ g = h'
abbrev CT := List (Nat × XC)
def CT.Ok (P : Program) : CT → Prop
  | [] => True
  | (i, c) :: l => (c.Nat ∧ c.Ok P i) ∧ CT.Ok P l
def CT.Nat : CT → Prop
  | [] => True
  | (_, c) :: l => c.Nat ∧ CT.Nat l
theorem CT.Ok.find {P : Program} : ∀ {C : CT} {i : _root_.Nat} {c : XC}, CT.Ok P C → findN C i = some c → c.Nat ∧ c.Ok P i
  | [], i, c, _, h => by cases h
  | (k, x) :: l, i, c, hC, h => by
    rcases findN_some h with ⟨rfl, rfl⟩ | h
    · exact hC.1
    · exact CT.Ok.find hC.2 h
theorem CT.Nat.find : ∀ {C : CT} {i : _root_.Nat} {c : XC}, CT.Nat C → findN C i = some c → c.Nat
  | [], i, c, _, h => by cases h
  | (k, x) :: l, i, c, hC, h => by
    rcases findN_some h with ⟨rfl, rfl⟩ | h
    · exact hC.1
    · exact CT.Nat.find hC.2 h
theorem CT.Ok.nat {P : Program} : ∀ {C : CT}, CT.Ok P C → CT.Nat C
  | [], _ => trivial
  | (_, _) :: _, hC => ⟨hC.1.1, CT.Ok.nat hC.2⟩

structure XE where
  T : Tab
  C : List (Nat × XC)
  D : List (Nat × DPart)
  Ms : List (Nat × List Nat)
  Ml : List (Nat × List Nat)
  Mo : List (Nat × List Nat)
  n : Nat

def quietB (T : Tab) : Op → Bool
  | .alloc _ | .box _ _ | .buildSlice _ _ _ | .store _ _ _ | .makeSlice _ _ _ | .makeMap _ _ | .mapUpdate _ _ _ _ | .insert _ _ _ _ | .range _ _ | .next _ _ => false
  | .convert _ d _ => match T.und d with
    | some (.slice _) => false
    | _ => true
  | .call { callee := .builtin b, .. } => match b with
    | .append | .copy | .delete => false
    | _ => true
  | _ => true
section step
variable {R : Type}
def castD (T : Tab) (d : Option Nat) (t : Nat) (v : AVal) : Option AVal := match d with
  | none => some v
  | some _ => castT T t v
def castDK (T : Tab) (d : Option Nat) (t : Nat) (v : AVal) (K : AVal → Option R) : Option R := match d with
  | none => K v
  | some _ => castK T t v K
theorem castDK_eq (T : Tab) (d : Option Nat) (t : Nat) (v : AVal) (K : AVal → Option R) : castDK T d t v K = (castD T d t v).bind K := by
  cases d
  · rfl
  · exact castK_eq ..
noncomputable def xstepQ (E : XE) (only : Bool) (o : Oper) (f : Fr) (h : AHeap) (K : AVal → Option R) : Option R := match o.op with
  | .call { callee := .value fv, args, .. } => match fEval f fv with
    | .fn (.func i) vs ws => match findN E.C i with
      | some (.p g) => g R (vs ++ evsF (fEval f) args ++ ws) fun v => castDK E.T o.dst o.type v K
      | some (.q g) => match only with
        | true => none
        | false => g R (vs ++ evsF (fEval f) args ++ ws) h fun v => castDK E.T o.dst o.type v K
      | _ => none
    | _ => none
  | op => match quietB E.T op with
    | true => xqK E.T op (fEval f) h fun v => castDK E.T o.dst o.type v K
    | false => none
noncomputable def xstep (E : XE) (o : Oper) (f : Fr) (h : AHeap) (K : AVal → AHeap → Option R) : Option R := match o.op with
  | .call { callee := .value fv, args, .. } => match fEval f fv with
    | .fn (.func i) vs ws => match findN E.C i with
      | some (.p g) => g R (vs ++ evsF (fEval f) args ++ ws) fun v => castDK E.T o.dst o.type v fun v => K v h
      | some (.q g) => g R (vs ++ evsF (fEval f) args ++ ws) h fun v => castDK E.T o.dst o.type v fun v => K v h
      | some (.l g) => g R (vs ++ evsF (fEval f) args ++ ws) h fun v h => castDK E.T o.dst o.type v fun v => K v h
      | _ => none
    | _ => none
  | op => match quietB E.T op with
    | true => xqK E.T op (fEval f) h fun v => castDK E.T o.dst o.type v fun v => K v h
    | false => xlK E.T op (fEval f) h fun v h => castDK E.T o.dst o.type v fun v => K v h
theorem castDK_bind (T : Tab) (d : Option Nat) (t : Nat) (v : AVal) (K : AVal → Option R) : castDK T d t v K = (castDK T d t v some).bind K := by
  rw [castDK_eq, castDK_eq, Option.bind_assoc]; rfl
theorem xstepQ_bind {E : XE} (hN : CT.Nat E.C) (only : Bool) (o : Oper) (f : Fr) (h : AHeap) (K : AVal → Option R) : xstepQ E only o f h K = (xstepQ E only o f h some).bind K := by
  unfold xstepQ
  split
  · split
    · split
      · rename_i g hg
        have hn := hN.find hg
        rw [hn R, hn AVal _ fun v => castDK E.T o.dst o.type v some, Option.bind_assoc]
        congr 1; funext v
        exact castDK_bind ..
      · rename_i g hg
        have hn := hN.find hg
        cases only with
        | true => rfl
        | false =>
          simp only
          rw [hn R, hn AVal _ _ fun v => castDK E.T o.dst o.type v some, Option.bind_assoc]
          congr 1; funext v
          exact castDK_bind ..
      · rfl
    · rfl
  · split
    · rw [xqK_eq, xqK_eq, Option.bind_assoc]
      congr 1; funext v
      exact castDK_bind ..
    · rfl
theorem castDK_bind2 (T : Tab) (d : Option Nat) (t : Nat) (v : AVal) (h : AHeap) (K : AVal → AHeap → Option R) : (castDK T d t v fun v => K v h) = (castDK T d t v fun v => mkP v h).bind fun r => K r.1 r.2 := by
  rw [castDK_eq, castDK_eq, Option.bind_assoc]; rfl
theorem xstep_bind {E : XE} (hN : CT.Nat E.C) (o : Oper) (f : Fr) (h : AHeap) (K : AVal → AHeap → Option R) : xstep E o f h K = (xstep E o f h mkP).bind fun r => K r.1 r.2 := by
  unfold xstep
  split
  · split
    · split
      · rename_i g hg
        have hn := hN.find hg
        rw [hn R, hn (AVal × AHeap) _ fun v => castDK E.T o.dst o.type v fun v => mkP v h, Option.bind_assoc]
        congr 1; funext v
        exact castDK_bind2 ..
      · rename_i g hg
        have hn := hN.find hg
        rw [hn R, hn (AVal × AHeap) _ _ fun v => castDK E.T o.dst o.type v fun v => mkP v h, Option.bind_assoc]
        congr 1; funext v
        exact castDK_bind2 ..
      · rename_i g hg
        have hn := hN.find hg
        rw [hn R, hn (AVal × AHeap) _ _ fun v h => castDK E.T o.dst o.type v fun v => mkP v h, Option.bind_assoc]
        congr 1; funext v
        exact castDK_bind2 ..
      · rfl
    · rfl
  · split
    · rw [xqK_eq, xqK_eq, Option.bind_assoc]
      congr 1; funext v
      exact castDK_bind2 ..
    · rw [xlK_eq, xlK_eq, Option.bind_assoc]
      congr 1; funext v
      exact castDK_bind2 ..
def fputK (n : Nat) (f : Fr) (d : Option Nat) (v : AVal) (K : Fr → Option R) : Option R := match d with
  | none => K f
  | some d => match Nat.blt d n with
    | true => K ((d, v) :: f)
    | false => none
theorem fputK_eq (n : Nat) (f : Fr) (d : Option Nat) (v : AVal) (K : Fr → Option R) : fputK n f d v K = (fput n f d v).bind K := by
  cases d with
  | none => rfl
  | some d => unfold fputK fput; simp only; cases Nat.blt d n <;> rfl
noncomputable def xguard (ops : Array Oper) (o : Oper) (f : Fr) (yes no : Fr → Option R) : Option R := match o.guard with
  | none => yes f
  | some (j, want) => match (ops[j]?).bind (·.dst) with
    | some d => match f.get d with
      | .lit (.bool b) => cond b (cond want (yes ((d, .lit (.bool true)) :: f)) (no ((d, .lit (.bool true)) :: f))) (cond want (no ((d, .lit (.bool false)) :: f)) (yes ((d, .lit (.bool false)) :: f)))
      | .lit (.tuple _) => no f
      | _ => none
    | none => none
noncomputable def xopsF {R : Type} (E : XE) (rid : Nat) (ops : Array Oper) (l : List Oper) : Nat → Fr → AHeap → (Fr → AHeap → Option R) → Option R :=
  List.rec (motive := fun _ => Nat → Fr → AHeap → (Fr → AHeap → Option R) → Option R) (fun _ f h K => K f h) (fun o _ ih i f h K => xguard ops o f
      (fun f => xstep E o f h fun v h => fputK E.n f o.dst v fun f => ih (i + 1) (maskO f (findN E.Mo (rid * 1000 + (i + 1)))) h K)
      (fun f => fputK E.n f o.dst skipV fun f => ih (i + 1) (maskO f (findN E.Mo (rid * 1000 + (i + 1)))) h K)) l
/-- What is behind an operation at which ways meet: stuck, so that its parts are compared, and it is not carried out. -/
noncomputable def joF : { g : ∀ R : Type, XE → Nat → Array Oper → List Oper → Nat → Fr → AHeap → (Fr → AHeap → Option R) → Option R // ∀ R E rid ops l i f h K, g R E rid ops l i f h K = xopsF E rid ops l i f h K } :=
  Classical.choice ⟨⟨fun R E rid ops l i f h K => xopsF E rid ops l i f h K, fun _ _ _ _ _ _ _ _ _ => rfl⟩⟩
noncomputable def jo {R : Type} (E : XE) (rid : Nat) (ops : Array Oper) (l : List Oper) (i : Nat) (f : Fr) (h : AHeap) (K : Fr → AHeap → Option R) : Option R := joF.1 R E rid ops l i f h K
theorem jo_eqF {R : Type} (E : XE) (rid : Nat) (ops : Array Oper) (l : List Oper) (i : Nat) (f : Fr) (h : AHeap) (K : Fr → AHeap → Option R) : jo E rid ops l i f h K = xopsF E rid ops l i f h K := joF.2 R E rid ops l i f h K
noncomputable def atOps {R : Type} (E : XE) (rid : Nat) (ops : Array Oper) (l : List Oper) (m : Option (List Nat)) (i : Nat) (f : Fr) (h : AHeap) (K : Fr → AHeap → Option R) (go : Fr → Option R) : Option R := match m with
  | none => go f
  | some ks => jo E rid ops l i (fmask f ks) h K
noncomputable def xops (E : XE) (rid : Nat) (ops : Array Oper) (l : List Oper) : Nat → Fr → AHeap → (Fr → AHeap → Option R) → Option R :=
  List.rec (motive := fun _ => Nat → Fr → AHeap → (Fr → AHeap → Option R) → Option R) (fun _ f h K => K f h) (fun o rest ih i f h K => xguard ops o f
      (fun f => xstep E o f h fun v h => fputK E.n f o.dst v fun f => atOps E rid ops rest (findN E.Mo (rid * 1000 + (i + 1))) (i + 1) f h K fun f => ih (i + 1) f h K)
      (fun f => fputK E.n f o.dst skipV fun f => atOps E rid ops rest (findN E.Mo (rid * 1000 + (i + 1))) (i + 1) f h K fun f => ih (i + 1) f h K)) l
theorem xopsF_cons (E : XE) (rid : Nat) (ops : Array Oper) (o : Oper) (rest : List Oper) (i : Nat) (f : Fr) (h : AHeap) (K : Fr → AHeap → Option R) : xopsF E rid ops (o :: rest) i f h K = xguard ops o f
      (fun f => xstep E o f h fun v h => fputK E.n f o.dst v fun f => xopsF E rid ops rest (i + 1) (maskO f (findN E.Mo (rid * 1000 + (i + 1)))) h K)
      (fun f => fputK E.n f o.dst skipV fun f => xopsF E rid ops rest (i + 1) (maskO f (findN E.Mo (rid * 1000 + (i + 1)))) h K) := rfl
theorem atOps_eqF (E : XE) (rid : Nat) (ops : Array Oper) (l : List Oper) (m : Option (List Nat)) (i : Nat) (f : Fr) (h : AHeap) (K : Fr → AHeap → Option R) (go : Fr → Option R) (hg : ∀ f, go f = xopsF E rid ops l i f h K) : atOps E rid ops l m i f h K go = xopsF E rid ops l i (maskO f m) h K := by
  cases m with
  | none => exact hg f
  | some ks => exact jo_eqF ..
theorem xopsF_eq {E : XE} {rid : Nat} {ops : Array Oper} : ∀ (l : List Oper) (i : Nat) (f : Fr) (h : AHeap) (K : Fr → AHeap → Option R), xopsF E rid ops l i f h K = xops E rid ops l i f h K
  | [], _, _, _, _ => rfl
  | o :: rest, i, f, h, K => by
    show xguard ops o f (fun f => xstep E o f h fun v h => fputK E.n f o.dst v fun f => xopsF E rid ops rest (i + 1) (maskO f (findN E.Mo (rid * 1000 + (i + 1)))) h K)
      (fun f => fputK E.n f o.dst skipV fun f => xopsF E rid ops rest (i + 1) (maskO f (findN E.Mo (rid * 1000 + (i + 1)))) h K) =
      xguard ops o f (fun f => xstep E o f h fun v h => fputK E.n f o.dst v fun f => atOps E rid ops rest (findN E.Mo (rid * 1000 + (i + 1))) (i + 1) f h K fun f => xops E rid ops rest (i + 1) f h K)
      (fun f => fputK E.n f o.dst skipV fun f => atOps E rid ops rest (findN E.Mo (rid * 1000 + (i + 1))) (i + 1) f h K fun f => xops E rid ops rest (i + 1) f h K)
    have e : ∀ f h, atOps E rid ops rest (findN E.Mo (rid * 1000 + (i + 1))) (i + 1) f h K (fun f => xops E rid ops rest (i + 1) f h K) = xopsF E rid ops rest (i + 1) (maskO f (findN E.Mo (rid * 1000 + (i + 1)))) h K :=
      fun f h => atOps_eqF _ _ _ _ _ _ _ _ _ _ fun f => (xopsF_eq rest _ _ _ _).symm
    simp only [e]
theorem jo_eq (E : XE) (rid : Nat) (ops : Array Oper) (l : List Oper) (i : Nat) (f : Fr) (h : AHeap) (K : Fr → AHeap → Option R) : jo E rid ops l i f h K = xops E rid ops l i f h K := (jo_eqF ..).trans (xopsF_eq ..)
theorem xops_nil (E : XE) (rid : Nat) (ops : Array Oper) (i : Nat) (f : Fr) (h : AHeap) (K : Fr → AHeap → Option R) : xops E rid ops [] i f h K = K f h := rfl
theorem xops_cons (E : XE) (rid : Nat) (ops : Array Oper) (o : Oper) (rest : List Oper) (i : Nat) (f : Fr) (h : AHeap) (K : Fr → AHeap → Option R) : xops E rid ops (o :: rest) i f h K = xguard ops o f
      (fun f => xstep E o f h fun v h => fputK E.n f o.dst v fun f => xops E rid ops rest (i + 1) (maskO f (findN E.Mo (rid * 1000 + (i + 1)))) h K)
      (fun f => fputK E.n f o.dst skipV fun f => xops E rid ops rest (i + 1) (maskO f (findN E.Mo (rid * 1000 + (i + 1)))) h K) := by
  rw [← xopsF_eq, xopsF_cons]
  simp only [xopsF_eq]
/-- The objects that the head makes: who makes them, their slots, how they are seen, what they have. -/
abbrev Pd := List (Nat × Option Nat × AMk × List AVal)
def pdGet : Pd → Nat → Option (Option Nat × AMk × List AVal)
  | [], _ => none
  | (i, d, m, cs) :: p, j => match Nat.beq i j with
    | true => some (d, m, cs)
    | false => pdGet p j
def pdSet : Pd → Nat → List AVal → Pd
  | [], _, _ => []
  | (i, d, m, cs) :: p, j, cs' => match Nat.beq i j with
    | true => (i, d, m, cs') :: p
    | false => (i, d, m, cs) :: pdSet p j cs'
/-- Stores into a whole new object. -/
def sti1 (cs : List AVal) (x : AVal) : Option (List AVal) := (req (x.one = true ∧ cs.length = 1)).bind fun _ => some [x]
def stin (n : Nat) (cs vs : List AVal) : Option (List AVal) := (req (vs.all (·.one) = true ∧ n = vs.length ∧ cs.length = n)).bind fun _ => some vs
def xstiK (T : Tab) (t : Nat) (x : AVal) (cs : List AVal) (K : List AVal → Option R) : Option R := match T.agg t, T.siz t with
  | some false, some 1 => (sti1 cs x).bind K
  | some true, some n => x.parts.bind fun vs => (stin n cs vs).bind K
  | _, _ => none
theorem xstiK_eq (T : Tab) (t : Nat) (x : AVal) (cs : List AVal) (K : List AVal → Option R) : xstiK T t x cs K = (xstiK T t x cs some).bind K := by
  unfold xstiK
  rcases T.agg t with _ | b
  · rfl
  · rcases T.siz t with _ | n
    · cases b <;> rfl
    · cases b
      · rcases n with _ | _ | n <;> first | rfl | simp
      · simp [Option.bind_assoc]
def notTmp (y : Operand) (d : Nat) : Bool := match y with
  | .tmp e => !(Nat.beq e d)
  | _ => true
def xsti (T : Tab) (n : Nat) (o : Oper) (g : Operand → AVal) (q : Option (Option Nat × AMk × List AVal)) (K : List AVal → Option R) : Option R := match o.op with
  | .store t (.tmp e) y => match q with
    | some (some d, .ptr, cs) => match Nat.beq e d && notTmp y d && Nat.blt d n && o.dst.isNone with
      | true => xstiK T t (g y) cs K
      | false => none
    | _ => none
  | _ => none
theorem xsti_eq (T : Tab) (n : Nat) (o : Oper) (g : Operand → AVal) (q : Option (Option Nat × AMk × List AVal)) (K : List AVal → Option R) : xsti T n o g q K = (xsti T n o g q some).bind K := by
  unfold xsti
  split
  · split
    · split
      · exact xstiK_eq ..
      · rfl
    · rfl
  · rfl
def shutB (A : List Nat) (cs : List AVal) : Bool := match Nat.ble 2 A.length with
  | true => closedL cs
  | false => true
noncomputable def xopsQ (E : XE) (ops : Array Oper) (A : List Nat) (S : Sts) (h : AHeap) (l : List Nat) : Fr → Pd → (Fr → Pd → Option R) → Option R :=
  List.rec (motive := fun _ => Fr → Pd → (Fr → Pd → Option R) → Option R) (fun f p K => K f p) (fun i _ ih f p K => match ops[i]? with
    | some o => xguard ops o f
      (fun f => match obOf S i with
        | some j => xsti E.T E.n o (fEval f) (pdGet p j) fun cs => ih f (pdSet p j cs) K
        | none => match A.contains i with
          | true => xA E.T o.op (fEval f) fun m cs => cond (shutB A cs) (fputK E.n f o.dst .any fun f => ih f (p ++ [(i, o.dst, m, cs)]) K) none
          | false => xstepQ E (!A.isEmpty) o f h fun v => fputK E.n f o.dst v fun f => ih f p K)
      (fun f => fputK E.n f o.dst skipV fun f => ih f p K)
    | none => none) l
theorem xopsQ_cons (E : XE) (ops : Array Oper) (A : List Nat) (S : Sts) (h : AHeap) (i : Nat) (rest : List Nat) (f : Fr) (p : Pd) (K : Fr → Pd → Option R) : xopsQ E ops A S h (i :: rest) f p K = match ops[i]? with
    | some o => xguard ops o f
      (fun f => match obOf S i with
        | some j => xsti E.T E.n o (fEval f) (pdGet p j) fun cs => xopsQ E ops A S h rest f (pdSet p j cs) K
        | none => match A.contains i with
          | true => xA E.T o.op (fEval f) fun m cs => cond (shutB A cs) (fputK E.n f o.dst .any fun f => xopsQ E ops A S h rest f (p ++ [(i, o.dst, m, cs)]) K) none
          | false => xstepQ E (!A.isEmpty) o f h fun v => fputK E.n f o.dst v fun f => xopsQ E ops A S h rest f p K)
      (fun f => fputK E.n f o.dst skipV fun f => xopsQ E ops A S h rest f p K)
    | none => none := rfl
/-- It is asked, whether it may be reckoned or not. -/
noncomputable def reqC (p : Prop) : Option Unit := @ite _ p (Classical.propDecidable p) (some ()) none
theorem reqC_some {p : Prop} {u : Unit} (h : reqC p = some u) : p := by
  unfold reqC at h
  split at h
  · assumption
  · cases h
theorem reqC_true {p : Prop} (h : p) : reqC p = some () := by unfold reqC; rw [if_pos h]
/-- Does the operation leave the memory? -/
noncomputable def stillB (E : XE) (o : Oper) (f : Fr) : Bool := match o.op with
  | .call { callee := .value fv, .. } => match fEval f fv with
    | .fn (.func i) _ _ => match findN E.C i with
      | some (.p _) => true
      | some (.q _) => true
      | _ => false
    | _ => false
  | op => quietB E.T op
noncomputable def xreads (E : XE) (ops : Array Oper) (h : AHeap) (l : List Nat) : Fr → List (Nat × AVal) → (Fr → List (Nat × AVal) → Option R) → Option R :=
  List.rec (motive := fun _ => Fr → List (Nat × AVal) → (Fr → List (Nat × AVal) → Option R) → Option R) (fun f ls K => K f ls) (fun i _ ih f ls K => match ops[i]? with
    | some o => match o.guard with
      | none => xstepQ E false o f h fun v => fputK E.n f o.dst v fun f => ih f (ls ++ [(i, v)]) K
      | some _ => none
    | none => none) l
theorem xreads_cons (E : XE) (ops : Array Oper) (h : AHeap) (i : Nat) (rest : List Nat) (f : Fr) (ls : List (Nat × AVal)) (K : Fr → List (Nat × AVal) → Option R) : xreads E ops h (i :: rest) f ls K = match ops[i]? with
    | some o => match o.guard with
      | none => xstepQ E false o f h fun v => fputK E.n f o.dst v fun f => xreads E ops h rest f (ls ++ [(i, v)]) K
      | some _ => none
    | none => none := rfl
noncomputable def xchk (E : XE) (ops : Array Oper) (f : Fr) (h : AHeap) (K : Option R) (ls : List (Nat × AVal)) : Option R :=
  List.rec (motive := fun _ => Option R) K (fun r _ ih => match ops[r.1]? with
    | some o => match freeB o.op with
      | true => ih
      | false => (reqC (xstepQ E false o f h some = some r.2)).bind fun _ => ih
    | none => none) ls
theorem xchk_cons (E : XE) (ops : Array Oper) (f : Fr) (h : AHeap) (K : Option R) (r : Nat × AVal) (ls : List (Nat × AVal)) : xchk E ops f h K (r :: ls) = match ops[r.1]? with
    | some o => match freeB o.op with
      | true => xchk E ops f h K ls
      | false => (reqC (xstepQ E false o f h some = some r.2)).bind fun _ => xchk E ops f h K ls
    | none => none := rfl
noncomputable def xopsL (E : XE) (ops : Array Oper) (T : TP) : List (Nat × AVal) → Fr → AHeap → (Fr → AHeap → Option R) → Option R :=
  List.rec (motive := fun _ => List (Nat × AVal) → Fr → AHeap → (Fr → AHeap → Option R) → Option R) (fun _ f h K => K f h) (fun x _ ih ls f h K => match ops[x.1]? with
    | some o => xguard ops o f
      (fun f => xstep E o f h fun v h' => fputK E.n f o.dst v fun f' => match stillB E o f with
        | true => ih (pendAfter x.2 ls) f' h' K
        | false => xchk E ops f' h' (ih (pendAfter x.2 ls) f' h' K) (pendAfter x.2 ls))
      (fun f => fputK E.n f o.dst skipV fun f => ih (pendAfter x.2 ls) f h K)
    | none => none) T
theorem xopsL_cons (E : XE) (ops : Array Oper) (x : Nat × List Nat) (T : TP) (ls : List (Nat × AVal)) (f : Fr) (h : AHeap) (K : Fr → AHeap → Option R) : xopsL E ops (x :: T) ls f h K = match ops[x.1]? with
    | some o => xguard ops o f
      (fun f => xstep E o f h fun v h' => fputK E.n f o.dst v fun f' => match stillB E o f with
        | true => xopsL E ops T (pendAfter x.2 ls) f' h' K
        | false => xchk E ops f' h' (xopsL E ops T (pendAfter x.2 ls) f' h' K) (pendAfter x.2 ls))
      (fun f => fputK E.n f o.dst skipV fun f => xopsL E ops T (pendAfter x.2 ls) f h K)
    | none => none := rfl
/-- Moves and sums that come first. -/
def xfl1 (T : Tab) (o : Oper) (g : Operand → AVal) (K : AVal → Option R) : Option R := match o.guard with
  | some _ => none
  | none => match o.op with
    | .move x => K (g x)
    | .assign x => K (g x)
    | .binOp op t x y _ => match g x, g y with
      | .lit (.int k a), .lit (.int k' b) => xBinK T op t x y (.lit (.int k a)) (.lit (.int k' b)) K
      | _, _ => none
    | _ => none
theorem xfl1_eq (T : Tab) (o : Oper) (g : Operand → AVal) (K : AVal → Option R) : xfl1 T o g K = (xfl1 T o g some).bind K := by
  unfold xfl1
  split
  · rfl
  · split
    · rfl
    · rfl
    · split
      · rw [xBinK_eq, xBinK_eq, Option.bind_assoc]; rfl
      · rfl
    · rfl
noncomputable def xflt (T : Tab) (n : Nat) (ops : Array Oper) (l : List Nat) : Fr → (Fr → Option R) → Option R :=
  List.rec (motive := fun _ => Fr → (Fr → Option R) → Option R) (fun f K => K f) (fun i _ ih f K => match ops[i]? with
    | some o => xfl1 T o (fEval f) fun v => fputK n f o.dst v fun f => ih f K
    | none => none) l
theorem xflt_cons (T : Tab) (n : Nat) (ops : Array Oper) (i : Nat) (rest : List Nat) (f : Fr) (K : Fr → Option R) : xflt T n ops (i :: rest) f K = match ops[i]? with
    | some o => xfl1 T o (fEval f) fun v => fputK n f o.dst v fun f => xflt T n ops rest f K
    | none => none := rfl
/-- They are there. -/
def pdHeap : Pd → List AObj
  | [] => []
  | (_, _, _, cs) :: p => .cells cs :: pdHeap p
def pdOn (h : AHeap) (p : Pd) : AHeap := match p with
  | [] => h
  | x :: p => h ++ pdHeap (x :: p)
theorem pdOn_eq (h : AHeap) (p : Pd) : pdOn h p = h ++ pdHeap p := by
  cases p with
  | nil => simp [pdOn, pdHeap]
  | cons x p => rfl
def pdFill (n : Nat) : Pd → Nat → Fr → (Fr → Option R) → Option R
  | [], _, f, K => K f
  | (_, d, m, _) :: p, b, f, K => fputK n f d (m.val b) fun f => pdFill n p (b + 1) f K
end step
end Go.Proofs.Ytglmofbcooefkaa.AL
