/- The disk in the memory: its cells, its map, what stays. -/
import Derived.Test.YtglmofbcooefkaaFs
import Derived.Test.YtglmofbcooefkaaKeep
namespace Go.Proofs.Ytglmofbcooefkaa.AL
set_option linter.unusedVariables false
set_option linter.unusedSimpArgs false
set_option maxRecDepth 100000
open Go
open Go.Proofs.Try

theorem bd {α β : Type} {x : Option α} {a : α} {f : α → Option β} {r : Option β} (h : x = some a) (k : f a = r) : x.bind f = r := by rw [h]; exact k
theorem cT {α : Type} {c : Bool} {x y r : α} (h : c = true) (k : x = r) : (cond c x y) = r := by rw [h]; exact k
theorem cF {α : Type} {c : Bool} {x y r : α} (h : c = false) (k : y = r) : (cond c x y) = r := by rw [h]; exact k

abbrev File := ByteArray × ByteArray × Int
def fileC (s : ByteArray) (k : Int) : List AVal := [.lit (.string s), .lit (.int .i64 k)]
def fileE (l : List File) : List (Value × AVal) := l.map fun f => (.string f.1, .agg (fileC f.2.1 f.2.2))
abbrev zfC : List AVal := [.lit (.string { data := #[] }), .lit (.int .i64 0)]
structure Dsk where
  room : Int
  used : Int
  fuse : Int
  down : Bool
  calls : Int
def dskC (mb : Nat) (D : Dsk) : List AVal := [.lit (.bool true), .lit (.int .i64 D.room), .lit (.int .i64 D.used), .map mb, .lit (.int .i64 D.fuse), .lit (.bool D.down), .lit (.int .i64 D.calls)]

/-! ### A disk, while a call goes on -/
structure DH (h0 h : AHeap) (d mb : Nat) (dc : List AVal) (es : List (Value × AVal)) : Prop where
  dcs : cellsAt h d = some dc
  ms : h[mb]? = some (.map .str es)
  ne : d ≠ mb
  lt : d < h0.length ∧ mb < h0.length
  keep : Keep h0.length [d, mb] h0 h
/-- Cells that the call made. -/
def Tmp (h0 h h' : AHeap) : Prop := ∀ c, h0.length ≤ c → c < h.length → h'[c]? = h[c]?
section mem
variable {h0 h : AHeap} {d mb : Nat} {dc : List AVal} {es : List (Value × AVal)}
theorem DH.one (H : DH h0 h d mb dc es) {b : Nat} {o : AObj} (hb : b ≠ d ∧ b ≠ mb ∧ h0.length ≤ b) : DH h0 (h.set b o) d mb dc es :=
  ⟨cellsAt_set_ne o hb.1 H.dcs, by rw [List.getElem?_set_ne hb.2.1]; exact H.ms, H.ne, H.lt, H.keep.trans (Keep.set (.inl hb.2.2))⟩
theorem DH.ld (H : DH h0 h d mb dc es) {k : Nat} {v : AVal} (hk : dc[k]? = some v) : ld1 h (.ptr d k) = some v := by rw [ld1_of H.dcs]; exact hk
theorem DH.std (H : DH h0 h d mb dc es) {k : Nat} {v : AVal} (hk : k < dc.length) (hv : v.one = true) :
    ∃ h', st1 h (.ptr d k) v = some h' ∧ DH h0 h' d mb (dc.set k v) es ∧ Tmp h0 h h' ∧ h'.length = h.length := by
  refine ⟨_, st1_of H.dcs hv hk, ⟨cellsAt_set H.dcs, by rw [List.getElem?_set_ne H.ne]; exact H.ms, H.ne, H.lt, H.keep.trans (Keep.set (.inr (by simp)))⟩, fun c hc _ => List.getElem?_set_ne (by have := H.lt; omega), by simp⟩
theorem DH.stm (H : DH h0 h d mb dc es) (g : List (Value × AVal) → List (Value × AVal)) :
    ∃ h', mapSet .str h (.map mb) g = some h' ∧ DH h0 h' d mb dc (g es) ∧ Tmp h0 h h' ∧ h'.length = h.length := by
  refine ⟨h.set mb (.map .str (g es)), ?_, ⟨cellsAt_set_ne _ (Ne.symm H.ne) H.dcs, by rw [List.getElem?_set_self (lt_of_getL H.ms)], H.ne, H.lt, H.keep.trans (Keep.set (.inr (by simp)))⟩, fun c hc _ => List.getElem?_set_ne (by have := H.lt; omega), by simp⟩
  unfold mapSet
  simp only [H.ms, mkEq]
theorem DH.del (H : DH h0 h d mb dc es) (u : Value) :
    ∃ h', mapDel .str h (.map mb) u = some h' ∧ DH h0 h' d mb dc (mdel u es) ∧ Tmp h0 h h' ∧ h'.length = h.length := H.stm (mdel u)
theorem DH.at (H : DH h0 h d mb dc es) : mapAt .str h (.map mb) = some es := by
  unfold mapAt
  simp only [H.ms, mkEq]
theorem DH.len (H : DH h0 h d mb dc es) : xMapLen h (.map mb) = some (.lit (.int .i64 es.length)) := by
  unfold xMapLen
  simp only [H.ms]
theorem DH.psh (H : DH h0 h d mb dc es) (o : AObj) : DH h0 (psh h o) d mb dc es ∧ Tmp h0 h (psh h o) :=
  ⟨⟨cellsAt_psh _ H.dcs, by show (h ++ [o])[mb]? = _; rw [List.getElem?_append_left (lt_of_getL H.ms)]; exact H.ms, H.ne, H.lt, H.keep.trans (Keep.psh o H.keep.len)⟩, fun c _ hc => List.getElem?_append_left hc⟩
theorem DH.far (H : DH h0 h d mb dc es) {b : Nat} (hb : h0.length ≤ b) : b ≠ d ∧ b ≠ mb ∧ h0.length ≤ b := by have := H.lt; exact ⟨by omega, by omega, hb⟩
/-- A store into cells that the call made. -/
theorem DH.tst (H : DH h0 h d mb dc es) {f k : Nat} {v : AVal} {fc : List AVal} (hf : h0.length ≤ f) (hc : cellsAt h f = some fc) (hk : k < fc.length) (hv : v.one = true) :
    ∃ h', st1 h (.ptr f k) v = some h' ∧ DH h0 h' d mb dc es ∧ cellsAt h' f = some (fc.set k v) ∧ h'.length = h.length ∧ ∀ c, c ≠ f → h'[c]? = h[c]? :=
  ⟨_, st1_of hc hv hk, H.one (H.far hf), cellsAt_set hc, by simp, fun c hcf => List.getElem?_set_ne (Ne.symm hcf)⟩
theorem DH.tstn (H : DH h0 h d mb dc es) {f n : Nat} {vs fc : List AVal} (hf : h0.length ≤ f) (hc : cellsAt h f = some fc) (h1 : vs.all (·.one) = true) (hn : n = vs.length) (hl : fc.length = n) :
    ∃ h', stn n h (.ptr f 0) vs = some h' ∧ DH h0 h' d mb dc es ∧ cellsAt h' f = some vs ∧ h'.length = h.length ∧ ∀ c, c ≠ f → h'[c]? = h[c]? := by
  refine ⟨_, stn_of hc h1 hn (by omega), H.one (H.far hf), ?_, by simp, fun c hcf => List.getElem?_set_ne (Ne.symm hcf)⟩
  rw [cellsAt_set hc, splice, List.take_zero, List.nil_append, List.drop_of_length_le (by omega), List.append_nil]
theorem Tmp.refl : Tmp h0 h h := fun _ _ _ => rfl
theorem Tmp.trans {h1 h2 : AHeap} (a : Tmp h0 h h1) (b : Tmp h0 h1 h2) (hl : h.length ≤ h1.length) : Tmp h0 h h2 := fun c hc hl' => (b c hc (by omega)).trans (a c hc hl')
theorem Tmp.cells {h1 : AHeap} (a : Tmp h0 h h1) {f : Nat} {fc : List AVal} (hf : h0.length ≤ f) (hc : cellsAt h f = some fc) : cellsAt h1 f = some fc := by
  have := cellsAt_some hc
  unfold cellsAt
  rw [a f hf (cellsAt_lt hc), this]
end mem
/-- A disk that lies there. -/
structure DiskAt (h : AHeap) (d mb : Nat) (D : Dsk) (l : List File) : Prop where
  dcs : cellsAt h d = some (dskC mb D)
  ms : h[mb]? = some (.map .str (fileE l))
theorem DiskAt.ne {h : AHeap} {d mb : Nat} {D : Dsk} {l : List File} (A : DiskAt h d mb D l) : d ≠ mb := by
  intro e
  have h1 := cellsAt_some A.dcs
  have h2 := A.ms
  rw [e, h2] at h1; cases h1
theorem DiskAt.dh {h : AHeap} {d mb : Nat} {D : Dsk} {l : List File} (A : DiskAt h d mb D l) : DH h h d mb (dskC mb D) (fileE l) := ⟨A.dcs, A.ms, A.ne, ⟨cellsAt_lt A.dcs, lt_of_getL A.ms⟩, Keep.refl _ _ _⟩
theorem DH.disk {h0 h : AHeap} {d mb : Nat} {D : Dsk} {l : List File} (H : DH h0 h d mb (dskC mb D) (fileE l)) : DiskAt h d mb D l := ⟨H.dcs, H.ms⟩
theorem DiskAt.keep {h h' : AHeap} {d mb : Nat} {D : Dsk} {l : List File} (A : DiskAt h d mb D l) {n : Nat} {X : List Nat} (K : Keep n X h h') (hd : d < n ∧ d ∉ X) (hm : mb < n ∧ mb ∉ X) : DiskAt h' d mb D l :=
  ⟨K.cells hd.1 hd.2 A.dcs, by rw [K.get mb hm.1 hm.2]; exact A.ms⟩

/-! ### Files by name -/
def fask : List File → ByteArray → Option (ByteArray × Int)
  | [], _ => none
  | f :: l, n => if f.1 = n then some f.2 else fask l n
def flay : List File → ByteArray → ByteArray × Int → List File
  | [], n, x => [(n, x)]
  | f :: l, n, x => if f.1 = n then (n, x) :: l else f :: flay l n x
def fdrop : List File → ByteArray → List File
  | [], _ => []
  | f :: l, n => if f.1 = n then l else f :: fdrop l n
theorem mlook_file (z : AVal) (n : ByteArray) (l : List File) : mlook z (.string n) (fileE l) = match fask l n with
    | some x => (.agg (fileC x.1 x.2), true)
    | none => (z, false) := by
  have key : (mfind (.string n) (fileE l)).map (·.2) = (fask l n).map fun x => .agg (fileC x.1 x.2) := by
    induction l with
    | nil => rfl
    | cons f l ih =>
      simp only [fileE, List.map_cons, mfind, sameV, fask] at ih ⊢
      by_cases h : f.1 = n
      · simp [h]
      · rw [if_neg h]
        simp only [decide_eq_false h]
        rw [← ih]
        cases mfind (.string n) (List.map (fun f => (Value.string f.1, AVal.agg (fileC f.2.1 f.2.2))) l) <;> rfl
  unfold mlook
  cases hm : mfind (.string n) (fileE l) with
  | none => rw [hm] at key; cases hg : fask l n with
    | none => rfl
    | some x => rw [hg] at key; simp at key
  | some p => rw [hm] at key; cases hg : fask l n with
    | none => rw [hg] at key; simp at key
    | some x => rw [hg] at key; simp only [Option.map_some, Option.some.injEq] at key; simp only [key]
theorem mput_file (n s : ByteArray) (k : Int) (l : List File) : mput (.string n) (.agg (fileC s k)) (fileE l) = fileE (flay l n (s, k)) := by
  induction l with
  | nil => rfl
  | cons f l ih =>
    unfold mput at ih ⊢
    simp only [fileE, List.map_cons, mfind, sameV, flay] at ih ⊢
    by_cases h : f.1 = n
    · simp only [h, decide_true, if_true, List.set_cons_zero, List.map_cons]
    · simp only [decide_eq_false h, if_neg h, List.map_cons]
      cases hm : mfind (.string n) (List.map (fun f => (Value.string f.1, AVal.agg (fileC f.2.1 f.2.2))) l) with
      | none => rw [hm] at ih; simp only at ih ⊢; rw [← ih]; rfl
      | some p => rw [hm] at ih; simp only at ih ⊢; rw [← ih]; rfl
theorem mdel_file (n : ByteArray) (l : List File) : mdel (.string n) (fileE l) = fileE (fdrop l n) := by
  induction l with
  | nil => rfl
  | cons f l ih =>
    unfold mdel at ih ⊢
    simp only [fileE, List.map_cons, mfind, sameV, fdrop] at ih ⊢
    by_cases h : f.1 = n
    · simp only [h, decide_true, if_true, List.eraseIdx_cons_zero]
    · simp only [decide_eq_false h, if_neg h, List.map_cons]
      cases hm : mfind (.string n) (List.map (fun f => (Value.string f.1, AVal.agg (fileC f.2.1 f.2.2))) l) with
      | none => rw [hm] at ih; simp only at ih ⊢; rw [← ih]
      | some p => rw [hm] at ih; simp only at ih ⊢; rw [← ih]; rfl
end Go.Proofs.Ytglmofbcooefkaa.AL
