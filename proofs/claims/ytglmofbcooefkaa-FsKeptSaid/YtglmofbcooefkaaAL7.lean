/- What is made, turned to another kind, pointed into, and cut. -/
import Derived.Test.YtglmofbcooefkaaAL6
import Derived.ArgAppend
namespace Go.Proofs.Ytglmofbcooefkaa.AL
set_option linter.unusedVariables false
set_option linter.unusedSimpArgs false
open Go

variable {ρ ρ' : Env} {h h' : AHeap} {w w' : World} {P : Program}

/-- What an operation that hands back a value does. -/
def Gives (P : Program) (ρ : Env) (h : AHeap) (w : World) (s : Sem Value) (K : AVal → AHeap → Prop) : Prop :=
  ∃ ρ' h' w' v u, s.run P w = .ok u w' ∧ Evo ρ h w ρ' h' w' ∧ Rel ρ' h' w' ∧ VR ρ' h' w' v u ∧ K v h'

theorem Gives.same {s : Sem Value} {K : AVal → AHeap → Prop} (hR : Rel ρ h w) {v : AVal} {u : Value} (hs : s.run P w = .ok u w) (hv : VR ρ h w v u) (hK : K v h) : Gives P ρ h w s K :=
  ⟨ρ, h, w, v, u, hs, .refl .., hR, hv, hK⟩

/-! ### One operand -/
def notI (k : IntKind) (n : Int) : Int := xorI k (if k.signed then -1 else k.max) n

def aUn (op : UnOp) (x : AVal) (K : AVal → Prop) : Prop :=
  match op, x with
  | .not, .lit (.bool b) => K (.lit (.bool (!b)))
  | .neg, .lit (.int k n) => K (.lit (.int k (k.wrap (0 - n))))
  | .xor, .lit (.int k n) => K (.lit (.int k (notI k n)))
  | _, _ => False

theorem aUn_sound {op : UnOp} {x : AVal} {u : Value} {K : AVal → Prop} (hR : Rel ρ h w) (hx : VR ρ h w x u) (hK : aUn op x K) : Gives P ρ h w (Op.unary op u) fun v h' => K v ∧ h' = h := by
  unfold aUn at hK
  split at hK
  · cases hx; exact .same hR rfl (.lit _) ⟨hK, rfl⟩
  · cases hx; exact .same hR rfl (.lit _) ⟨hK, rfl⟩
  · cases hx; exact .same hR rfl (.lit _) ⟨hK, rfl⟩
  · exact hK.elim

/-! ### Addresses -/
def aField (P : Program) (s : TypeId) (x : AVal) (i : Nat) (K : AVal → Prop) : Prop :=
  match tyField P s i with
  | none => False
  | some (off, ft) => match tySize P ft with
    | some (n + 1) => match x with
      | .ptr b o => K (.ptr b (o + off))
      | .rop cs => K (.rop (cs.drop off))
      | _ => False
    | _ => False

theorem tyField_some {s : TypeId} {i off : Nat} {ft : TypeId} (h : tyField P s i = some (off, ft)) : ∃ fs f, P.underlying s = some (.struct fs) ∧ fs[i]? = some f ∧ f.offset = off ∧ f.type = ft := by
  unfold tyField at h
  split at h
  · rename_i fs hu
    cases hf : fs[i]? with
    | none => rw [hf] at h; simp at h
    | some f => rw [hf] at h; simp at h; exact ⟨fs, f, hu, hf, h.1, h.2⟩
  · simp at h

theorem VR.rop_drop {cs : List AVal} {c o : Nat} {n : Nat} (hv : VR ρ h w (.rop cs) (.pointer (some ⟨c, o, none⟩))) : VR ρ h w (.rop (cs.drop n)) (.pointer (some ⟨c, o + n, none⟩)) := by
  cases hv with | rop _ _ _ C T fz hc hn hs hv =>
  refine .rop _ c (o + n) C T fz hc hn (fun i hi => ?_) fun i hi => ?_
  · have := hs (n + i) (by simp at hi; omega); omega
  · have := hv (n + i) (by simp at hi; omega)
    simpa [Nat.add_assoc] using this

theorem aField_sound {s : TypeId} {x : AVal} {u : Value} {i : Nat} {K : AVal → Prop} (hR : Rel ρ h w) (hx : VR ρ h w x u) (hK : aField P s x i K) : Gives P ρ h w (Instr.fieldAt s u i) fun v h' => K v ∧ h' = h := by
  unfold aField at hK
  split at hK
  · exact hK.elim
  · rename_i off ft hf
    obtain ⟨fs, f, hu, hfi, rfl, rfl⟩ := tyField_some hf
    split at hK
    · rename_i n hn
      have run : ∀ a : Addr, (Instr.fieldAt s (.pointer (some a)) i).run P w = .ok (.pointer (some (a.add f.offset))) w := by
        intro a
        simp only [Instr.fieldAt, Sem.run_bind, run_underlying hu, Result.andThen_ok, hfi, Instr.sureAddr, Sem.run_pure, fieldPlace, run_sizeOf hn, Nat.add_one_ne_zero, if_false]
      split at hK
      · rename_i b o
        cases hx with | ptr _ _ hb =>
        refine .same hR (run _) ?_ ⟨hK, rfl⟩
        rw [add_plain, Nat.add_assoc]
        exact .ptr b _ hb
      · rename_i cs
        cases hx with | rop _ c o C T fz hc hn hs hv =>
        refine .same hR (run _) ?_ ⟨hK, rfl⟩
        rw [add_plain]
        exact VR.rop_drop (.rop cs c o C T fz hc hn hs hv)
      · exact hK.elim
    · exact hK.elim

def aIndexAddr (P : Program) (t : TypeId) (x i : AVal) (K : AVal → Prop) : Prop :=
  match i with
  | .lit (.int _ i) => match tyArray P t, tySlice P t with
    | some (n, e), _ => match tySize P e with
      | none => False
      | some k => 0 ≤ i ∧ i < n ∧ match x with
        | .ptr b o => K (.ptr b (o + i.toNat * k))
        | .rop cs => K (.rop (cs.drop (i.toNat * k)))
        | _ => False
    | none, some e => match tySize P e with
      | none => False
      | some k => match x with
        | .sl k' b off len => k' = k ∧ 0 ≤ i ∧ i < len ∧ K (.ptr b (off + i.toNat * k))
        | .ros cs len => 0 ≤ i ∧ i < len ∧ K (.rop (cs.drop (i.toNat * k)))
        | _ => False
    | _, _ => False
  | _ => False

theorem tyArray_some {t : TypeId} {n : Nat} {e : TypeId} (h : tyArray P t = some (n, e)) : P.underlying t = some (.array n e) := by
  unfold tyArray at h
  split at h <;> simp_all

theorem tySlice_some {t e : TypeId} (h : tySlice P t = some e) : P.underlying t = some (.slice e) := by
  unfold tySlice at h
  split at h <;> simp_all

theorem VR.ros_rop {cs : List AVal} {len : Nat} {a : Option Addr} {cap i k : Nat} (hv : VR ρ h w (.ros cs len) (.slice a len cap)) (hi : i < len) :
    ∃ c o, a = some ⟨c, o, none⟩ ∧ VR ρ h w (.rop (cs.drop (i * k))) (.pointer (some ⟨c, o + i * k, none⟩)) := by
  cases hv with
  | rosZ _ hb a cap => omega
  | ros _ c o _ _ C T fz hl hc hn hs hv => exact ⟨c, o, rfl, VR.rop_drop (.rop cs c o C T fz hc hn hs hv)⟩

theorem aIndexAddr_sound {t : TypeId} {x i : AVal} {u j : Value} {K : AVal → Prop} (hR : Rel ρ h w) (hx : VR ρ h w x u) (hi : VR ρ h w i j) (hK : aIndexAddr P t x i K) :
    Gives P ρ h w (Instr.indexAt t u j) fun v h' => K v ∧ h' = h := by
  unfold aIndexAddr at hK
  split at hK
  · rename_i kk i
    cases hi
    split at hK
    · rename_i n e _ hu
      have hu := tyArray_some hu
      split at hK
      · exact hK.elim
      · rename_i k hk
        obtain ⟨h0, h1, hK⟩ := hK
        have run : ∀ a : Addr, (Instr.indexAt t (.pointer (some a)) (.int kk i)).run P w = .ok (.pointer (some (a.add (i.toNat * k)))) w := by
          intro a
          simp only [Instr.indexAt, asIntOf, Sem.run_bind, Sem.run_pure, Result.andThen_ok, run_underlying hu, Instr.sureAddr, Sem.run_ite]
          rw [if_pos ⟨h0, h1⟩]
          simp only [run_sizeOf hk, Result.andThen_ok]
        split at hK
        · cases hx with | ptr _ _ hb =>
          refine .same hR (run _) ?_ ⟨hK, rfl⟩
          rw [add_plain, Nat.add_assoc]
          exact .ptr _ _ hb
        · cases hx with | rop _ c o C T fz hc hn hs hv =>
          refine .same hR (run _) ?_ ⟨hK, rfl⟩
          rw [add_plain]
          exact VR.rop_drop (.rop _ c o C T fz hc hn hs hv)
        · exact hK.elim
    · rename_i e _ hu
      have hu := tySlice_some hu
      split at hK
      · exact hK.elim
      · rename_i k hk
        have run : ∀ (a : Addr) (len cap : Nat), 0 ≤ i → i < len → (Instr.indexAt t (.slice (some a) len cap) (.int kk i)).run P w = .ok (.pointer (some (a.add (i.toNat * k)))) w := by
          intro a len cap h0 h1
          simp only [Instr.indexAt, asIntOf, Sem.run_bind, Sem.run_pure, Result.andThen_ok, run_underlying hu, Instr.sureAddr, Sem.run_ite]
          rw [if_pos ⟨h0, h1⟩]
          simp only [run_sizeOf hk, Result.andThen_ok]
        split at hK
        · rename_i k' b off len
          obtain ⟨rfl, h0, h1, hK⟩ := hK
          cases hx with
          | sl _ _ _ _ cap hb hl hc =>
            refine .same hR (run _ _ _ h0 h1) ?_ ⟨hK, rfl⟩
            rw [add_plain, Nat.add_assoc]
            exact .ptr _ _ hb
          | slZ => omega
        · rename_i cs len
          obtain ⟨h0, h1, hK⟩ := hK
          cases hx with
          | rosZ _ hb a cap => omega
          | ros _ c o _ cap C T fz hl hc hn hs hv =>
            refine .same hR (run _ _ _ h0 h1) ?_ ⟨hK, rfl⟩
            rw [add_plain]
            exact VR.rop_drop (.rop cs c o C T fz hc hn hs hv)
        · exact hK.elim
    · exact hK.elim
  · exact hK.elim

/-! ### Parts of values -/
def aPart (P : Program) (t : TypeId) (vs : List AVal) (off : Nat) (K : AVal → Prop) : Prop :=
  match tyAgg P t, tySize P t with
  | some true, some n => off + n ≤ vs.length ∧ K (.agg ((vs.drop off).take n))
  | some false, _ => match vs[off]? with
    | some v => K v
    | none => False
  | _, _ => False

theorem aPart_sound {t : TypeId} {vs : List AVal} {us : Array Value} {off : Nat} {K : AVal → Prop} (hR : Rel ρ h w) (hl : vs.length = us.size) (hv : ∀ (i : Nat) (hi : i < vs.length), VR ρ h w vs[i] (us.getD i undef))
    (hK : aPart P t vs off K) : Gives P ρ h w (part t us off) fun v h' => K v ∧ h' = h := by
  unfold aPart at hK
  split at hK
  · rename_i n ha hn
    obtain ⟨h0, hK⟩ := hK
    refine .same hR (u := .agg (us.extract off (off + n))) ?_ (.agg _ _ (by simp; omega) fun i hi => ?_) ⟨hK, rfl⟩
    · simp only [part, Sem.run_bind, run_isAgg ha, Result.andThen_ok, if_true, run_sizeOf hn, Sem.run_pure]
    · have hi' : i < n := by simp at hi; omega
      have := hv (off + i) (by omega)
      have h1 : i < (us.extract off (off + n)).size := by simp; omega
      have h2 : off + i < us.size := by omega
      simp only [Array.getD, h1, h2, dif_pos] at this ⊢
      simpa using this
  · rename_i _ ha
    split at hK
    · rename_i v hvv
      have hlt := lt_of_getL hvv
      have h2 : off < us.size := by omega
      refine .same hR (u := us[off]) ?_ ?_ ⟨hK, rfl⟩
      · simp only [part, Sem.run_bind, run_isAgg ha, Result.andThen_ok, Bool.false_eq_true, if_false, Array.getElem?_eq_getElem h2, Sem.run_pure]
      · have := hv off hlt
        rw [List.getElem?_eq_getElem hlt] at hvv
        cases hvv
        simpa [Array.getD, h2] using this
    · exact hK.elim
  · exact hK.elim

def byteAt (s : ByteArray) (i : Nat) : Int := (s.data.getD i 0).toNat

def aIndex (P : Program) (t : TypeId) (x i : AVal) (K : AVal → Prop) : Prop :=
  match i, x with
  | .lit (.int _ i), .lit (.string s) => tyString P t = true ∧ 0 ≤ i ∧ i < s.size ∧ K (.lit (.int .u8 (byteAt s i.toNat)))
  | .lit (.int _ i), .agg vs => match tyArray P t with
    | none => False
    | some (n, e) => match tySize P e with
      | none => False
      | some k => 0 ≤ i ∧ i < n ∧ aPart P e vs (i.toNat * k) K
  | _, _ => False

theorem tyString_true {t : TypeId} (h : tyString P t = true) : P.underlying t = some .string := by
  unfold tyString at h
  split at h <;> simp_all

theorem aIndex_sound {t : TypeId} {x i : AVal} {u j : Value} {K : AVal → Prop} (hR : Rel ρ h w) (hx : VR ρ h w x u) (hi : VR ρ h w i j) (hK : aIndex P t x i K) :
    Gives P ρ h w (Instr.index t u j) fun v h' => K v ∧ h' = h := by
  unfold aIndex at hK
  split at hK
  · rename_i kk i s
    cases hi; cases hx
    obtain ⟨ht, h0, h1, hK⟩ := hK
    refine .same hR (u := .int .u8 (byteAt s i.toNat)) ?_ (.lit _) ⟨hK, rfl⟩
    have hlt : i.toNat < s.size := by omega
    have hget : s[i.toNat]? = some (s.data.getD i.toNat 0) := by
      have h3 : s.data.getD i.toNat 0 = s[i.toNat] := by
        have : i.toNat < s.data.size := hlt
        simp only [Array.getD, this, dif_pos]; rfl
      rw [h3]
      exact getElem?_pos s i.toNat hlt
    simp only [Instr.index, asIntOf, Sem.run_bind, Sem.run_pure, Result.andThen_ok, run_underlying (tyString_true ht), if_pos h0, hget]
    rfl
  · rename_i kk i vs
    cases hi
    cases hx with | agg _ us hl hv =>
    split at hK
    · exact hK.elim
    · rename_i n e hu
      split at hK
      · exact hK.elim
      · rename_i k hk
        obtain ⟨h0, h1, hK⟩ := hK
        obtain ⟨ρ', h', w', v, r, g1, g2⟩ := aPart_sound hR hl hv hK
        refine ⟨ρ', h', w', v, r, ?_, g2⟩
        simp only [Instr.index, asIntOf, Sem.run_bind, Sem.run_pure, Result.andThen_ok, run_underlying (tyArray_some hu), Sem.run_ite]
        rw [if_pos ⟨h0, h1⟩]
        simp only [run_sizeOf hk, Result.andThen_ok, g1]
  · exact hK.elim

def aFieldV (P : Program) (t : TypeId) (x : AVal) (i : Nat) (K : AVal → Prop) : Prop :=
  match x with
  | .agg vs => match tyField P t i with
    | some (off, ft) => aPart P ft vs off K
    | none => False
  | _ => False

theorem aFieldV_sound {t : TypeId} {x : AVal} {u : Value} {i : Nat} {K : AVal → Prop} (hR : Rel ρ h w) (hx : VR ρ h w x u) (hK : aFieldV P t x i K) : Gives P ρ h w (Instr.field t u i) fun v h' => K v ∧ h' = h := by
  unfold aFieldV at hK
  split at hK
  · rename_i vs
    cases hx with | agg _ us hl hv =>
    split at hK
    · rename_i off ft hf
      obtain ⟨fs, f, hu, hfi, rfl, rfl⟩ := tyField_some hf
      obtain ⟨ρ', h', w', v, r, g1, g2⟩ := aPart_sound hR hl hv hK
      refine ⟨ρ', h', w', v, r, ?_, g2⟩
      simp only [Instr.field, Sem.run_bind, run_underlying hu, Result.andThen_ok, hfi, asAgg, Sem.run_pure, g1]
    · exact hK.elim
  · exact hK.elim

def aExtract (x : AVal) (i : Nat) (K : AVal → Prop) : Prop :=
  match x with
  | .tup vs => match vs[i]? with
    | some v => K v
    | none => False
  | _ => False

theorem aExtract_sound {x : AVal} {u : Value} {i : Nat} {K : AVal → Prop} (hR : Rel ρ h w) (hx : VR ρ h w x u) (hK : aExtract x i K) : Gives P ρ h w (Instr.extract u i) fun v h' => K v ∧ h' = h := by
  unfold aExtract at hK
  split at hK
  · rename_i vs
    cases hx with | tup _ us hl hv =>
    split at hK
    · rename_i v hvv
      have hlt := lt_of_getL hvv
      have h2 : i < us.size := by omega
      refine .same hR (u := us[i]) ?_ ?_ ⟨hK, rfl⟩
      · simp only [Instr.extract, Array.getElem?_eq_getElem h2, Sem.run_pure]
      · have := hv i hlt
        rw [List.getElem?_eq_getElem hlt] at hvv
        cases hvv
        simpa [Array.getD, h2] using this
    · exact hK.elim
  · exact hK.elim

/-! ### What is made -/
def aAlloc (P : Program) (t : TypeId) (h : AHeap) (K : AVal → AHeap → Prop) : Prop :=
  match tyZero P t with
  | some z => match z.parts with
    | some vs => K (.ptr h.length 0) (h ++ [.cells vs])
    | none => False
  | none => False

theorem new_ptr (hR : Rel ρ h w) {vs : List AVal} {us : Array Value} {T : TypeId} {K : AVal → AHeap → Prop} {s : Sem Value} (hv : VRs ρ h w vs us)
    (hs : s.run P w = .ok (.pointer (some ⟨w.heap.size, 0, none⟩)) { w with heap := w.heap.push (.cells us T) }) (hK : K (.ptr h.length 0) (h ++ [.cells vs])) : Gives P ρ h w s K := by
  obtain ⟨e, r⟩ := new_row (T := T) hR hv
  refine ⟨_, _, _, _, _, hs, e, r, ?_, hK⟩
  have := VR.ptr (ρ := ext ρ h.length ⟨w.heap.size, 0, us.size⟩) (h := h ++ [.cells vs]) (w := { w with heap := w.heap.push (.cells us T) }) h.length 0 (by simp)
  simpa [ext_self] using this

theorem aAlloc_sound {t : TypeId} {K : AVal → AHeap → Prop} (hR : Rel ρ h w) (hK : aAlloc P t h K) : Gives P ρ h w (Instr.alloc t true (.tuple #[])) K := by
  unfold aAlloc at hK
  split at hK
  · rename_i z hz
    split at hK
    · rename_i vs hvs
      obtain ⟨v, hrun, rfl⟩ := run_zeroValue (w := w) hz
      refine new_ptr (T := t) hR ((VR.litA v).parts hvs) ?_ hK
      simp only [Instr.alloc, Sem.run_bind, hrun, Result.andThen_ok, newVar, newRow, run_newObj, Sem.run_pure]
    · exact hK.elim
  · exact hK.elim

def aBox (x : AVal) (h : AHeap) (K : AVal → AHeap → Prop) : Prop :=
  match x.parts with
  | some vs => K (.ptr h.length 0) (h ++ [.cells vs])
  | none => False

theorem aBox_sound {t : TypeId} {x : AVal} {u : Value} {K : AVal → AHeap → Prop} (hR : Rel ρ h w) (hx : VR ρ h w x u) (hK : aBox x h K) : Gives P ρ h w (Instr.box t u) K := by
  unfold aBox at hK
  split at hK
  · rename_i vs hvs
    refine new_ptr (T := t) hR (hx.parts hvs) ?_ hK
    simp only [Instr.box, Sem.run_bind, newVar, newRow, run_newObj, Sem.run_pure, Result.andThen_ok]
  · exact hK.elim

end Go.Proofs.Ytglmofbcooefkaa.AL
