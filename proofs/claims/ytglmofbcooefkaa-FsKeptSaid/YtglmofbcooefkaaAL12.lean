/- Literals, interfaces, functions as values. -/
import Derived.Test.YtglmofbcooefkaaAL11
import Derived.Laws.Tables
namespace Go.Proofs.Ytglmofbcooefkaa.AL
set_option linter.unusedVariables false
set_option linter.unusedSimpArgs false
open Go

variable {ρ ρ' : Env} {h h' : AHeap} {w w' : World} {P : Program}

def aFill (place : Nat → Option (Nat × Nat)) : List AVal → List (Nat × AVal) → Option (List AVal)
  | cs, [] => some cs
  | cs, (i, x) :: rest => match place i, x.parts with
    | some (off, size), some vs => if vs.length = size ∧ off + size ≤ cs.length then aFill place (splice cs off vs) rest else none
    | _, _ => none

/-- The parts of a literal. -/
def PartsR (ρ : Env) (h : AHeap) (w : World) : List (Nat × AVal) → List (Nat × Value) → Prop
  | [], [] => True
  | (i, x) :: xs, (j, u) :: us => i = j ∧ VR ρ h w x u ∧ PartsR ρ h w xs us
  | _, _ => False

theorem foldl_set (off : Nat) : ∀ (l : List Value) (k : Nat) (C : Array Value), off + k + l.length ≤ C.size →
    ((l.zipIdx k).foldl (fun cs (c, j) => cs.setIfInBounds (off + j) c) C).size = C.size ∧ ∀ i, ((l.zipIdx k).foldl (fun cs (c, j) => cs.setIfInBounds (off + j) c) C).getD i undef = over C (off + k) l i := by
  intro l
  induction l with
  | nil => intro k C _; exact ⟨rfl, fun i => by simp only [List.zipIdx_nil, List.foldl_nil, over, List.length_nil]; rw [if_neg (by omega)]⟩
  | cons v l ih =>
    intro k C hC
    simp only [List.length_cons] at hC
    simp only [List.zipIdx_cons, List.foldl_cons]
    obtain ⟨h1, h2⟩ := ih (k + 1) (C.setIfInBounds (off + k) v) (by simp; omega)
    refine ⟨by rw [h1]; simp, fun i => ?_⟩
    rw [h2]
    simp only [over, List.length_cons]
    by_cases e : i = off + k
    · subst e
      rw [if_neg (by omega), if_pos (by omega)]
      have : off + k < C.size := by omega
      simp [Array.getD, this]
    · by_cases g : off + (k + 1) ≤ i ∧ i < off + (k + 1) + l.length
      · rw [if_pos g, if_pos (by omega)]
        have : i - (off + k) = (i - (off + (k + 1))) + 1 := by omega
        rw [this]; simp
      · rw [if_neg g, if_neg (by omega)]
        simp [Array.getD, Array.getElem?_setIfInBounds, Ne.symm e]
        split <;> simp_all [Array.getElem_setIfInBounds, Ne.symm e]

theorem splice_get {cs vs : List AVal} {off i : Nat} (hl : off + vs.length ≤ cs.length) (hi : i < (splice cs off vs).length) :
    (splice cs off vs).length = cs.length ∧ ((off ≤ i ∧ i < off + vs.length) → ∃ h2 : i - off < vs.length, (splice cs off vs)[i] = vs[i - off]) ∧ (¬ (off ≤ i ∧ i < off + vs.length) → ∃ h2 : i < cs.length, (splice cs off vs)[i] = cs[i]) := by
  have hi' : i < cs.length := by simp [splice] at hi; omega
  refine ⟨by simp [splice]; omega, fun e => ⟨by omega, ?_⟩, fun e => ⟨hi', ?_⟩⟩
  · simp only [splice]
    rw [List.getElem_append_right (by simp; omega), List.getElem_append_left (by simp; omega)]
    congr 1; simp; omega
  · simp only [splice]
    rcases Nat.lt_or_ge i off with hlt | hge
    · rw [List.getElem_append_left (by simp; omega)]; simp
    · rw [List.getElem_append_right (by simp; omega), List.getElem_append_right (by simp; omega)]
      simp; congr 1; omega

theorem aFill_sound {place : Nat → Option (Nat × Nat)} : ∀ {xs : List (Nat × AVal)} {us : List (Nat × Value)} {cs cs' : List AVal} {C : Array Value}, VRs ρ h w cs C → PartsR ρ h w xs us → aFill place cs xs = some cs' →
    ∃ C', Instr.fill place C us = some C' ∧ VRs ρ h w cs' C' := by
  intro xs
  induction xs with
  | nil =>
    intro us cs cs' C hC hp hf
    match us, hp with
    | [], _ => simp only [aFill, Option.some.injEq] at hf; subst hf; exact ⟨C, rfl, hC⟩
  | cons x xs ih =>
    intro us cs cs' C hC hp hf
    obtain ⟨i, x⟩ := x
    match us, hp with
    | (j, u) :: us, hp =>
      obtain ⟨rfl, hx, hp⟩ := hp
      simp only [aFill] at hf
      split at hf
      · rename_i off size vs hpl hvs
        split at hf
        · rename_i hc
          obtain ⟨hsz, hfit⟩ := hc
          have hxp := hx.parts hvs
          have hus : u.cells.size = size := by rw [← hsz]; exact hxp.1.symm
          have hcs : cs.length = C.size := hC.1
          obtain ⟨f1, f2⟩ := foldl_set off u.cells.toList 0 C (by simp; omega)
          have hstep : VRs ρ h w (splice cs off vs) (u.cells.zipIdx.foldl (fun cs (c, j) => cs.setIfInBounds (off + j) c) C) := by
            rw [← Array.foldl_toList, Array.toList_zipIdx]
            refine ⟨by rw [f1, ← hcs]; simp [splice]; omega, fun k hk => ?_⟩
            rw [f2]
            obtain ⟨_, s2, s3⟩ := splice_get (by omega) hk
            simp only [over, Array.length_toList, Nat.add_zero]
            by_cases e : off ≤ k ∧ k < off + vs.length
            · obtain ⟨h2, s2⟩ := s2 e
              rw [if_pos (by omega), s2]
              have := hxp.2 (k - off) h2
              simpa [Array.getD_eq_getD_getElem?, List.getD] using this
            · obtain ⟨h2, s3⟩ := s3 e
              rw [if_neg (by omega), s3]
              exact hC.2 k h2
          obtain ⟨C', g1, g2⟩ := ih hstep hp hf
          refine ⟨C', ?_, g2⟩
          simp only [Instr.fill, hpl]
          rw [if_neg (by simp; omega)]
          exact g1
        · simp at hf
      · simp at hf

def tyPlaces (P : Program) (t : TypeId) : Option (List (Nat × Nat)) := match P.underlying t with
  | some (.struct fields) => fields.toList.mapM (fun f => (P.info? f.type).map fun i => (f.offset, i.size))
  | _ => none

def aBuild (P : Program) (t : TypeId) (parts : List (Nat × AVal)) (K : AVal → Prop) : Prop :=
  match tyZero P t with
  | none => False
  | some z => match z.parts with
    | none => False
    | some zs => match tyPlaces P t, tyArray P t with
      | some ps, _ => match aFill (ps[·]?) zs parts with
        | some cs => K (.agg cs)
        | none => False
      | none, some (_, e) => match tySize P e with
        | some k => match aFill (fun i => some (i * k, k)) zs parts with
          | some cs => K (.agg cs)
          | none => False
        | none => False
      | none, none => False

theorem tySize_some {t : TypeId} {n : Nat} (h : tySize P t = some n) : ∃ i, P.info? t = some i ∧ i.size = n := by
  unfold tySize at h
  cases hi : P.info? t with
  | none => rw [hi] at h; simp at h
  | some i => rw [hi] at h; simp at h; exact ⟨i, rfl, h⟩

theorem tyZero_some {t : TypeId} {z : AVal} (h : tyZero P t = some z) : ∃ i v, P.info? t = some i ∧ i.zero = some v ∧ z = litA v := by
  unfold tyZero at h
  cases hi : P.info? t with
  | none => rw [hi] at h; simp at h
  | some i =>
    rw [hi] at h
    cases hz : i.zero with
    | none => simp [hz] at h
    | some v => simp [hz] at h; exact ⟨i, v, rfl, hz, h.symm⟩

theorem aBuild_sound {t : TypeId} {parts : List (Nat × AVal)} {us : Array (Nat × Value)} {K : AVal → Prop} (hR : Rel ρ h w) (hp : PartsR ρ h w parts us.toList) (hK : aBuild P t parts K) :
    Gives P ρ h w (Instr.build t us) fun v h' => K v ∧ h' = h := by
  unfold aBuild at hK
  split at hK
  · exact hK.elim
  · rename_i z hz
    obtain ⟨i, zv, hi, hzv, rfl⟩ := tyZero_some hz
    split at hK
    · exact hK.elim
    · rename_i zs hzs
      have hvz := (VR.litA zv : VR ρ h w _ _).parts hzs
      split at hK
      · rename_i _ ps hps
        split at hK
        · rename_i cs hcs
          obtain ⟨C', f1, f2⟩ := aFill_sound hvz hp hcs
          refine .same hR (u := .agg C') ?_ (.agg cs C' f2.1 f2.2) ⟨hK, rfl⟩
          refine run_build w t us C' ?_
          unfold tyPlaces at hps
          split at hps
          · rename_i fields hu
            unfold Program.built
            simp only [hi, hu, hzv, hps]
            simpa using f1
          · simp at hps
        · exact hK.elim
      · rename_i n e hps hu
        have hu := tyArray_some hu
        split at hK
        · rename_i k hk
          obtain ⟨ie, hie, rfl⟩ := tySize_some hk
          split at hK
          · rename_i cs hcs
            obtain ⟨C', f1, f2⟩ := aFill_sound hvz hp hcs
            refine .same hR (u := .agg C') ?_ (.agg cs C' f2.1 f2.2) ⟨hK, rfl⟩
            refine run_build w t us C' ?_
            unfold Program.built
            simp only [hi, hu, hzv, hie]
            exact f1
          · exact hK.elim
        · exact hK.elim
      · exact hK.elim

def aBuildSlice (P : Program) (t : TypeId) (len : Nat) (parts : List (Nat × AVal)) (h : AHeap) (K : AVal → AHeap → Prop) : Prop :=
  match tySlice P t with
  | none => False
  | some e => match tySize P e, tyZero P e with
    | some k, some z => match z.parts with
      | none => False
      | some zs => zs.length = k ∧ len * k ≤ 16777216 ∧ match aFill (fun i => some (i * k, k)) (List.replicate len zs).flatten parts with
        | some cs => K (.sl k h.length 0 len) (h ++ [.cells cs])
        | none => False
    | _, _ => False

theorem flat_zeros {zv : Value} {zs : List AVal} {k n : Nat} (hv : VRs ρ h w zs zv.cells) (hz : zs.length = k) (hnk : n * k ≠ 0) :
    VRs ρ h w (List.replicate n zs).flatten ((Array.range (n * k)).map (zv.cells[· % zv.cells.size]!)) := by
  have hzsz : zv.cells.size = k := by rw [← hz]; exact hv.1.symm
  have hkp : 0 < k := Nat.pos_of_ne_zero fun h => hnk (by simp [h])
  have hflat : ((List.replicate n zs).flatten).length = n * k := by simp [hz]
  refine ⟨by simp [hz], fun j hj => ?_⟩
  rw [hflat] at hj
  have h5 : j % k < zv.cells.size := by rw [hzsz]; exact Nat.mod_lt _ hkp
  have h6 : j < ((Array.range (n * k)).map (zv.cells[· % zv.cells.size]!)).size := by simpa using hj
  have h7 : ((Array.range (n * k)).map (zv.cells[· % zv.cells.size]!)).getD j undef = ((Array.range (n * k)).map (zv.cells[· % zv.cells.size]!))[j] := by simp only [Array.getD, h6, dif_pos]; rfl
  have h8 := flat_get (n := n) hz hj hkp
  have h9 : j % k < zs.length := by rw [hz]; exact Nat.mod_lt _ hkp
  have h10 : (List.replicate n zs).flatten[j]'(by omega) = zs[j % k] := by
    rw [List.getElem?_eq_getElem (by omega), List.getElem?_eq_getElem h9] at h8
    exact Option.some.inj h8
  rw [h10, h7]
  simp only [Array.getElem_map, Array.getElem_range, hzsz]
  rw [getElem!_pos zv.cells (j % k) h5]
  have := hv.2 (j % k) h9
  simpa [Array.getD, h5] using this

theorem aBuildSlice_sound {t : TypeId} {len : Nat} {parts : List (Nat × AVal)} {us : Array (Nat × Value)} {K : AVal → AHeap → Prop} (hR : Rel ρ h w) (hp : PartsR ρ h w parts us.toList) (hK : aBuildSlice P t len parts h K) :
    Gives P ρ h w (Instr.buildSlice t len us) K := by
  unfold aBuildSlice at hK
  split at hK
  · exact hK.elim
  · rename_i e hse
    have hu := tySlice_some hse
    split at hK
    · rename_i k z hk hz
      split at hK
      · exact hK.elim
      · rename_i zs hzs
        obtain ⟨hzl, hbig, hK⟩ := hK
        split at hK
        · rename_i cs hcs
          obtain ⟨zv, hzrun, rfl⟩ := run_zeroValue (w := w) hz
          have hvz := (VR.litA zv : VR ρ h w _ _).parts hzs
          have hzsz : zv.cells.size = k := by rw [← hzl]; exact hvz.1.symm
          have hnb : ¬ (len * k > 2 ^ 24) := by omega
          by_cases h0 : len * k = 0
          · have hempty : (List.replicate len zs).flatten = [] := List.eq_nil_of_length_eq_zero (by simp [hzl, h0])
            rw [hempty] at hcs
            obtain ⟨C', f1, f2⟩ := aFill_sound (C := #[]) ⟨rfl, fun i hi => by simp at hi⟩ hp hcs
            refine Gives.slice (w' := { w with heap := w.heap.push (.cells C' e) }) (us := C') (T := e) (fz := (0, 0)) (len := len) (cap := len) hR (by exact ⟨rfl, rfl, rfl⟩) ?_ rfl (by rw [f2.1]; exact Nat.le_refl _) (Nat.le_refl _) (by omega) f2.2 (fun _ _ => by simp) hK
            simp only [Instr.buildSlice, Sem.run_bind, run_underlying hu, Result.andThen_ok, run_sizeOf hk]
            rw [if_neg hnb]
            simp only [h0, if_true, Sem.run_pure, Sem.run_bind, Result.andThen_ok]
            rw [show ∀ f : Nat → Value, (Array.range 0).map f = #[] from fun f => by simp, f1]
            simp only [newRow, Sem.run_bind, run_newObj, Result.andThen_ok, Sem.run_pure]
          · obtain ⟨C', f1, f2⟩ := aFill_sound (flat_zeros hvz hzl h0) hp hcs
            have hCsz : C'.size = len * k := by
              have h1 : cs.length = ((List.replicate len zs).flatten).length := by
                clear f1 f2 hK
                have : ∀ (xs : List (Nat × AVal)) (c c' : List AVal), aFill (fun i => some (i * k, k)) c xs = some c' → c'.length = c.length := by
                  intro xs
                  induction xs with
                  | nil => intro c c' hc; simp [aFill] at hc; rw [hc]
                  | cons x xs ih =>
                    intro c c' hc
                    obtain ⟨i, x⟩ := x
                    simp only [aFill] at hc
                    split at hc
                    · split at hc
                      · rename_i h2; rw [ih _ _ hc]; simp [splice]; simp_all; omega
                      · simp at hc
                    · simp at hc
                exact this _ _ _ hcs
              rw [← f2.1, h1]; simp [hzl]
            refine Gives.slice (w' := { w with heap := w.heap.push (.cells C' e) }) (us := C') (T := e) (fz := (0, 0)) (len := len) (cap := len) hR (by exact ⟨rfl, rfl, rfl⟩) ?_ rfl (by rw [f2.1]; exact Nat.le_refl _) (Nat.le_refl _) (by omega) f2.2 (fun _ _ => by simp) hK
            simp only [Instr.buildSlice, Sem.run_bind, run_underlying hu, Result.andThen_ok, run_sizeOf hk]
            rw [if_neg hnb]
            simp only [h0, if_false, Sem.run_pure, Sem.run_bind, Result.andThen_ok, hzrun]
            rw [f1]
            simp only [newRow, Sem.run_bind, run_newObj, Result.andThen_ok, Sem.run_pure]
        · exact hK.elim
    · exact hK.elim

/-! ### Interfaces -/
def aIface (P : Program) (t : TypeId) (x : AVal) (K : AVal → Prop) : Prop :=
  (match P.underlying t with
    | some (.interface _) => False
    | some _ => True
    | none => False) ∧ K (.ifc t x)

theorem aIface_sound {t : TypeId} {x : AVal} {u : Value} {K : AVal → Prop} (hR : Rel ρ h w) (hx : VR ρ h w x u) (hK : aIface P t x K) : Gives P ρ h w (Instr.makeInterface t u) fun v h' => K v ∧ h' = h := by
  obtain ⟨ht, hK⟩ := hK
  refine .same hR (u := .iface t u) ?_ (.ifc t x u hx) ⟨hK, rfl⟩
  cases hu : P.underlying t with
  | none => rw [hu] at ht; exact ht.elim
  | some D =>
    rw [hu] at ht
    simp only [Instr.makeInterface, Sem.run_bind, run_underlying hu, Result.andThen_ok]
    cases D <;> first | rfl | exact ht.elim

/-- 'x.(T)', T no interface. -/
def aAssert (P : Program) (x : AVal) (t : TypeId) (ok : Bool) (K : AVal → Prop) : Prop :=
  (match P.underlying t with
    | some (.interface _) => False
    | some _ => True
    | none => False) ∧
  match x with
  | .ifc s v => if s = t then K (if ok then .tup [v, .lit (.bool true)] else v) else ok = true ∧ match tyZero P t with
    | some z => K (.tup [z, .lit (.bool false)])
    | none => False
  | .lit .nilIface => ok = true ∧ match tyZero P t with
    | some z => K (.tup [z, .lit (.bool false)])
    | none => False
  | _ => False

theorem VR.pair {x y : AVal} {u v : Value} (hx : VR ρ h w x u) (hy : VR ρ h w y v) : VR ρ h w (.tup [x, y]) (.tuple #[u, v]) := by
  refine .tup _ _ rfl fun i hi => ?_
  match i, hi with
  | 0, _ => exact hx
  | 1, _ => exact hy

theorem aAssert_sound {xt t : TypeId} {x : AVal} {u : Value} {ok : Bool} {K : AVal → Prop} (hR : Rel ρ h w) (hx : VR ρ h w x u) (hK : aAssert P x t ok K) : Gives P ρ h w (Instr.typeAssert u xt t ok) fun v h' => K v ∧ h' = h := by
  obtain ⟨ht, hK⟩ := hK
  cases hu : P.underlying t with
  | none => rw [hu] at ht; exact ht.elim
  | some D =>
    rw [hu] at ht
    split at hK
    · rename_i s v
      cases hx with | ifc _ _ u hx =>
      split at hK
      · rename_i hst
        subst hst
        cases ok with
        | true =>
          refine .same hR (u := .tuple #[u, .bool true]) ?_ (hx.pair (.lit _)) ⟨hK, rfl⟩
          simp only [Instr.typeAssert, Sem.run_bind, run_underlying hu, Result.andThen_ok]
          cases D <;> first | exact ht.elim | (simp; done)
        | false =>
          refine .same hR (u := u) ?_ hx ⟨hK, rfl⟩
          simp only [Instr.typeAssert, Sem.run_bind, run_underlying hu, Result.andThen_ok]
          cases D <;> first | exact ht.elim | (simp; done)
      · rename_i hst
        obtain ⟨rfl, hK⟩ := hK
        split at hK
        · rename_i z hz
          obtain ⟨zv, hzrun, rfl⟩ := run_zeroValue (w := w) hz
          refine .same hR (u := .tuple #[zv, .bool false]) ?_ ((VR.litA zv).pair (.lit _)) ⟨hK, rfl⟩
          simp only [Instr.typeAssert, Sem.run_bind, run_underlying hu, Result.andThen_ok]
          cases D <;> first | exact ht.elim | (simp [hst, hzrun]; done)
        · exact hK.elim
    · cases hx
      obtain ⟨rfl, hK⟩ := hK
      split at hK
      · rename_i z hz
        obtain ⟨zv, hzrun, rfl⟩ := run_zeroValue (w := w) hz
        refine .same hR (u := .tuple #[zv, .bool false]) ?_ ((VR.litA zv).pair (.lit _)) ⟨hK, rfl⟩
        simp only [Instr.typeAssert, Sem.run_bind, run_underlying hu, Result.andThen_ok]
        cases D <;> first | exact ht.elim | (simp [hzrun]; done)
      · exact hK.elim
    · exact hK.elim

end Go.Proofs.Ytglmofbcooefkaa.AL
