/- One operation, said over abstract values. -/
import Derived.Test.YtglmofbcooefkaaAL3
import Derived.Laws.Strings
namespace Go.Proofs.Ytglmofbcooefkaa.AL
set_option linter.unusedVariables false
set_option linter.unusedSimpArgs false
open Go

variable {G : Rnd} {ρ ρ' : Env} {h h' : AHeap} {w w' : World} {P : Program}

def aget (a : List AVal) (t : Nat) : AVal := a.getD t .any
def aset (a : List AVal) (d : Option Nat) (v : AVal) : List AVal := match d with
  | some d => a.set d v
  | none => a

def litA : Value → AVal
  | .agg cs => .agg (cs.toList.map .lit)
  | v => .lit v

def aEval (a : List AVal) : Operand → AVal
  | .tmp t => aget a t
  | .const v => litA v
  | .global g => .lit (.pointer (some ⟨g, 0, none⟩))
  | .func f => .fn (.func f) [] []

theorem VR.litA (v : Value) : VR ρ h w (litA v) v := by
  cases v <;> first
    | exact .lit _
    | (rename_i cs
       exact .agg _ _ (by simp) fun i hi => by
         have : i < cs.size := by simpa using hi
         simp [Array.getD, this]; exact .lit _)

theorem AR.eval {a : List AVal} {ca : Act} (ha : AR G ρ h w a ca) (x : Operand) : VR ρ h w (aEval a x) (ca.eval x) := by
  cases x with
  | tmp t =>
    simp only [aEval, aget, Act.eval]
    rcases Nat.lt_or_ge t a.length with hl | hl
    · have := ha.slot t hl
      simpa [List.getD, List.getElem?_eq_getElem hl] using this
    · simp [List.getD, List.getElem?_eq_none hl]; exact .any _
  | const v => exact .litA v
  | global g => exact .lit _
  | func f => exact .fn _ [] [] #[] #[] rfl rfl (fun i hi => by simp at hi) (fun i hi => by simp at hi)

theorem AR.put {a : List AVal} {ca : Act} (ha : AR G ρ h w a ca) {v : AVal} {u : Value} (hv : VR ρ h w v u) (d : Option Tmp) : AR G ρ h w (aset a d v) (ca.put d u) := by
  cases d with
  | none => exact ha
  | some d =>
    refine ⟨by simp [aset, Act.put, ha.size], fun i hi => ?_, ha.plain⟩
    have hi' : i < a.length := by simpa [aset] using hi
    have hs : i < ca.tmps.size := by rw [← ha.size]; exact hi'
    by_cases e : d = i
    · subst e
      simp [aset, Act.put, Array.getD, hs, hv]
    · have := ha.slot i hi'
      simpa [aset, Act.put, Array.getD, hs, e, Array.getElem_setIfInBounds] using this

/-! ### What is asked of types -/
def tyAgg (P : Program) (t : TypeId) : Option Bool := match P.underlying t with
  | some (.struct _) | some (.array _ _) => some true
  | some _ => some false
  | none => none
def tySize (P : Program) (t : TypeId) : Option Nat := (P.info? t).map (·.size)
def tyBytes (P : Program) (t : TypeId) : Option Nat := (P.info? t).map (·.bytes)
def tyZero (P : Program) (t : TypeId) : Option AVal := ((P.info? t).bind (·.zero)).map litA
def tyField (P : Program) (t : TypeId) (i : Nat) : Option (Nat × TypeId) := match P.underlying t with
  | some (.struct fs) => (fs[i]?).map fun f => (f.offset, f.type)
  | _ => none
def tySlice (P : Program) (t : TypeId) : Option TypeId := match P.underlying t with
  | some (.slice e) => some e
  | _ => none
def tyArray (P : Program) (t : TypeId) : Option (Nat × TypeId) := match P.underlying t with
  | some (.array n e) => some (n, e)
  | _ => none
def tyPtr (P : Program) (t : TypeId) : Option TypeId := match P.underlying t with
  | some (.pointer e) => some e
  | _ => none
def tyInt (P : Program) (t : TypeId) : Option IntKind := match P.underlying t with
  | some (.int k) => some k
  | _ => none
def tyString (P : Program) (t : TypeId) : Bool := match P.underlying t with
  | some .string => true
  | _ => false

theorem run_isAgg {t : TypeId} {b : Bool} (h : tyAgg P t = some b) : (isAgg t).run P w = .ok b w := by
  unfold tyAgg at h
  simp only [isAgg, underlying, Sem.run_bind, run_program, Result.andThen_ok]
  cases hu : P.underlying t with
  | none => rw [hu] at h; simp at h
  | some d => rw [hu] at h; cases d <;> simp_all

theorem run_sizeOf {t : TypeId} {n : Nat} (h : tySize P t = some n) : (sizeOf t).run P w = .ok n w := by
  unfold tySize at h
  simp only [sizeOf, typeInfo, Sem.run_bind, run_program, Result.andThen_ok]
  cases hu : P.info? t with
  | none => rw [hu] at h; simp at h
  | some d => rw [hu] at h; simp at h; simp [h]

theorem run_zeroValue {t : TypeId} {z : AVal} (h : tyZero P t = some z) : ∃ v, (zeroValue t).run P w = .ok v w ∧ z = litA v := by
  unfold tyZero at h
  simp only [zeroValue, typeInfo, Sem.run_bind, run_program, Result.andThen_ok]
  cases hu : P.info? t with
  | none => rw [hu] at h; simp at h
  | some d =>
    rw [hu] at h
    cases hz : d.zero with
    | none => simp [hz] at h
    | some v => simp [hz] at h; exact ⟨v, by simp [hz], h.symm⟩

theorem run_underlying {t : TypeId} {d : TypeDesc} (h : P.underlying t = some d) : (underlying t).run P w = .ok d w := by
  simp [underlying, h]

theorem add_plain (c off n : Nat) : (Addr.mk c off none).add n = ⟨c, off + n, none⟩ := by
  unfold Addr.add; split <;> simp_all

/-! ### Loads and stores -/
def aLoad (P : Program) (t : TypeId) (h : AHeap) (v : AVal) (K : AVal → Prop) : Prop :=
  match tyAgg P t with
  | some false => match v with
    | .ptr b off => match h[b]? with
      | some (.cells cs) => match cs[off]? with
        | some x => K x
        | none => False
      | _ => False
    | .rop cs => match cs with
      | x :: _ => K x
      | [] => False
    | _ => False
  | some true => match tySize P t with
    | some n => match v with
      | .ptr b off => match h[b]? with
        | some (.cells cs) => off + n ≤ cs.length ∧ K (.agg ((cs.drop off).take n))
        | _ => False
      | .rop cs => n ≤ cs.length ∧ K (.agg (cs.take n))
      | _ => False
    | none => False
  | none => False

theorem run_loadCells_of {c off n : Nat} {C : Array Value} {T : TypeId} {fz : Nat × Nat} (hc : w.heap[c]? = some (.cells C T fz)) (hi : off + n ≤ C.size) :
    ∃ us : Array Value, (loadCells ⟨c, off, none⟩ n).run P w = .ok us w ∧ us.size = n ∧ ∀ j, j < n → us.getD j undef = C.getD (off + j) undef := by
  have := run_loadCells (P := P) w ⟨c, off, none⟩ n (fun j => C.getD (off + j) undef) (fun j hj => by rw [add_plain, cell_of hc (by omega)])
  exact ⟨_, this, by simp, fun j hj => by simp [hj]⟩

theorem aLoad_sound {t : TypeId} {v : AVal} {u : Value} {K : AVal → Prop} (hR : Rel ρ h w) (hv : VR ρ h w v u) (hK : aLoad P t h v K) :
    ∃ x y, (Instr.loadAt t u).run P w = .ok y w ∧ VR ρ h w x y ∧ K x := by
  unfold aLoad at hK
  split at hK
  · rename_i hagg
    split at hK
    · rename_i b off
      cases hv with | ptr _ _ hb =>
      split at hK
      · rename_i cs hcs
        split at hK
        · rename_i x hx
          obtain ⟨C, T, fz, h1, h2, h3, h4, h5⟩ := hR.obj b _ hcs
          have hlt := lt_of_getL hx
          refine ⟨x, C.getD ((ρ b).base + off) undef, ?_, ?_, hK⟩
          · simp only [Instr.loadAt, Instr.sureAddr, loadVar, Sem.run_bind, Sem.run_pure, Result.andThen_ok, run_isAgg hagg, Bool.false_eq_true, if_false, run_load]
            rw [cell_of h1 (by omega)]
          · have := h5 off hlt
            rw [List.getElem?_eq_getElem hlt] at hx
            cases hx
            simpa [Nat.add_assoc] using this
        · exact hK.elim
      · exact hK.elim
    · rename_i cs
      cases hv with | rop _ c off C T fz hc hn hs hv =>
      split at hK
      · rename_i x rest
        refine ⟨x, C.getD off undef, ?_, ?_, hK⟩
        · simp only [Instr.loadAt, Instr.sureAddr, loadVar, Sem.run_bind, Sem.run_pure, Result.andThen_ok, run_isAgg hagg, Bool.false_eq_true, if_false, run_load]
          rw [cell_of hc (by simpa using hs 0 (by simp))]
        · exact hv 0 (by simp)
      · exact hK.elim
    · exact hK.elim
  · rename_i hagg
    split at hK
    · rename_i n hn
      split at hK
      · rename_i b off
        cases hv with | ptr _ _ hb =>
        split at hK
        · rename_i cs hcs
          obtain ⟨hl, hK⟩ := hK
          obtain ⟨C, T, fz, h1, h2, h3, h4, h5⟩ := hR.obj b _ hcs
          obtain ⟨us, g1, g2, g3⟩ := run_loadCells_of (P := P) (off := (ρ b).base + off) (n := n) h1 (by omega)
          refine ⟨_, .agg us, ?_, .agg _ us (by simp [g2]; omega) ?_, hK⟩
          · simp only [Instr.loadAt, Instr.sureAddr, loadVar, Sem.run_bind, Sem.run_pure, Result.andThen_ok, run_isAgg hagg, if_true, run_sizeOf hn, g1]
          · intro i hi
            have hi' : i < n := by simp at hi; omega
            rw [g3 i hi']
            have := h5 (off + i) (by omega)
            simpa [Nat.add_assoc] using this
        · exact hK.elim
      · rename_i cs
        cases hv with | rop _ c off C T fz hc hnn hs hv =>
        obtain ⟨hl, hK⟩ := hK
        rcases Nat.eq_zero_or_pos n with h0 | h0
        · subst h0
          refine ⟨_, .agg #[], ?_, .agg _ #[] (by simp) (fun i hi => by simp at hi), hK⟩
          simp only [Instr.loadAt, Instr.sureAddr, loadVar, Sem.run_bind, Sem.run_pure, Result.andThen_ok, run_isAgg hagg, if_true, run_sizeOf hn, loadCells, loadCellsFrom]
        · have := hs (n - 1) (by omega)
          obtain ⟨us, g1, g2, g3⟩ := run_loadCells_of (P := P) (off := off) (n := n) hc (by omega)
          refine ⟨_, .agg us, ?_, .agg _ us (by simp [g2]; omega) ?_, hK⟩
          · simp only [Instr.loadAt, Instr.sureAddr, loadVar, Sem.run_bind, Sem.run_pure, Result.andThen_ok, run_isAgg hagg, if_true, run_sizeOf hn, g1]
          · intro i hi
            have hi' : i < n := by simp at hi; omega
            rw [g3 i hi']
            simpa using hv i (by omega)
      · exact hK.elim
    · exact hK.elim
  · exact hK.elim

theorem VRs.one {v : AVal} {u : Value} (hv : VR ρ h w v u) : VRs ρ h w [v] #[u] := by
  refine ⟨rfl, fun i hi => ?_⟩
  have : i = 0 := by simp at hi; omega
  subst this
  simpa using hv

def splice (cs : List AVal) (off : Nat) (vs : List AVal) : List AVal := cs.take off ++ (vs ++ cs.drop (off + vs.length))

def aStore (P : Program) (t : TypeId) (h : AHeap) (p x : AVal) (K : AHeap → Prop) : Prop :=
  match p with
  | .ptr b off => match h[b]? with
    | some (.cells cs) => match tyAgg P t with
      | some false => x.one = true ∧ tySize P t = some 1 ∧ off < cs.length ∧ K (h.set b (.cells (cs.set off x)))
      | some true => match x.parts with
        | some vs => vs.all (·.one) = true ∧ tySize P t = some vs.length ∧ off + vs.length ≤ cs.length ∧ K (h.set b (.cells (splice cs off vs)))
        | none => False
      | none => False
    | _ => False
  | _ => False

theorem cells_one {u : Value} (h : u.oneCell' = true) : u.cells = #[u] := by cases u <;> simp_all [Value.oneCell', Value.cells]

theorem store_cells (hR : Rel ρ h w) {b off : Nat} {cs vs : List AVal} {us : Array Value} (hcs : h[b]? = some (.cells cs)) (hv : VRs ρ h w vs us) (ho : ∀ u ∈ us.toList, u.oneCell' = true)
    (hl : off + vs.length ≤ cs.length) :
    ∃ w', (storeCells ⟨(ρ b).blk, (ρ b).base + off, none⟩ us.toList).run P w = .ok () w' ∧ Evo ρ h w ρ (h.set b (.cells (splice cs off vs))) w' ∧ Rel ρ (h.set b (.cells (splice cs off vs))) w' := by
  obtain ⟨C, T, fz, h1, h2, h3, h4, h5⟩ := hR.obj b _ hcs
  have hsz : us.toList.length = vs.length := by simp [hv.1]
  obtain ⟨w', C', g1, g2, g3, g4⟩ := run_storeCells (P := P) ⟨(ρ b).blk, (ρ b).base + off, none⟩ rfl rfl us.toList 0 C w h1 h2 (by simp only; omega) ho
  refine ⟨w', g1, ?_⟩
  refine turn_cells hR hcs h1 g2 g3 (by simp [splice]; omega) fun i hi => ?_
  rw [g4]
  have hi' : i < cs.length := by simp [splice] at hi; omega
  simp only [over, hsz]
  by_cases e : off ≤ i ∧ i < off + vs.length
  · rw [if_pos (by omega)]
    have : (splice cs off vs)[i] = vs[i - off]'(by omega) := by
      simp only [splice]
      rw [List.getElem_append_right (by simp; omega), List.getElem_append_left (by simp; omega)]
      congr 1; simp; omega
    rw [this]
    have h6 := hv.2 (i - off) (by omega)
    have e1 : (ρ b).base + i - ((ρ b).base + off + 0) = i - off := by omega
    rw [e1]
    simpa [Array.getD_eq_getD_getElem?, List.getD] using h6
  · rw [if_neg (by omega)]
    have : (splice cs off vs)[i] = cs[i] := by
      simp only [splice]
      rcases Nat.lt_or_ge i off with hlt | hge
      · rw [List.getElem_append_left (by simp; omega)]; simp
      · rw [List.getElem_append_right (by simp; omega), List.getElem_append_right (by simp; omega)]
        simp; congr 1; omega
    rw [this]
    exact h5 i hi'

theorem splice_one (cs : List AVal) (off : Nat) (x : AVal) (h : off < cs.length) : splice cs off [x] = cs.set off x := by
  simp only [splice, List.length_singleton, List.singleton_append]
  rw [List.set_eq_take_append_cons_drop, if_pos h]

theorem aStore_sound {t : TypeId} {p x : AVal} {u y : Value} {K : AHeap → Prop} (hR : Rel ρ h w) (hp : VR ρ h w p u) (hx : VR ρ h w x y) (hK : aStore P t h p x K) :
    ∃ w' h', (Instr.storeAt t u y).run P w = .ok () w' ∧ Evo ρ h w ρ h' w' ∧ Rel ρ h' w' ∧ K h' := by
  unfold aStore at hK
  split at hK
  · rename_i b off
    cases hp with | ptr _ _ hb =>
    split at hK
    · rename_i cs hcs
      split at hK
      · rename_i hagg
        obtain ⟨ho, hn, hl, hK⟩ := hK
        have hy := hx.one ho
        have hvs : VRs ρ h w [x] y.cells := by rw [cells_one hy]; exact .one hx
        obtain ⟨w', g1, g2, g3⟩ := store_cells (P := P) (off := off) hR hcs hvs (by rw [cells_one hy]; simpa using hy) (by simp; omega)
        rw [splice_one cs off x hl] at g2 g3
        refine ⟨w', _, ?_, g2, g3, hK⟩
        have hsz : y.cells.size = 1 := by rw [cells_one hy]; rfl
        simp [Instr.storeAt, Instr.sureAddr, storeVar, run_sizeOf hn, g1, hsz]
      · rename_i hagg
        split at hK
        · rename_i vs hvs
          obtain ⟨ho, hn, hl, hK⟩ := hK
          have hvr := hx.parts hvs
          obtain ⟨w', g1, g2, g3⟩ := store_cells (P := P) (off := off) hR hcs hvr (fun u hu => by
            obtain ⟨i, hi, rfl⟩ := List.getElem_of_mem hu
            have hi2 : i < y.cells.size := by simpa using hi
            have hi' : i < vs.length := by rw [hvr.1]; exact hi2
            have h7 := hvr.2 i hi'
            have h8 := h7.one (by simpa using (List.all_eq_true.1 ho) _ (List.getElem_mem hi'))
            simpa [Array.getD, hi2] using h8) hl
          refine ⟨w', _, ?_, g2, g3, hK⟩
          simp [Instr.storeAt, Instr.sureAddr, storeVar, run_sizeOf hn, g1, hvr.1]
        · exact hK.elim
      · exact hK.elim
    · exact hK.elim
  · exact hK.elim

end Go.Proofs.Ytglmofbcooefkaa.AL
