/- The model's memory, seen from the logic: one block is turned, or comes anew. -/
import Derived.Test.YtglmofbcooefkaaAL2
import Derived.Laws.Sem
import Derived.Laws.Cells
namespace Go.Proofs.Ytglmofbcooefkaa.AL
set_option linter.unusedVariables false
set_option linter.unusedSimpArgs false
open Go

variable {ρ ρ' : Env} {h h' : AHeap} {w w' : World} {P : Program}

/-- One block has turned. -/
structure Turned (w : World) (c : Nat) (o : Obj) (w' : World) : Prop where
  same : Same w w'
  size : w'.heap.size = w.heap.size
  here : w'.heap[c]? = some o
  rest : ∀ d, d ≠ c → w'.heap[d]? = w.heap[d]?

theorem Turned.refl {c : Nat} {o : Obj} (hc : w.heap[c]? = some o) : Turned w c o w := ⟨.refl _, rfl, hc, fun _ _ => rfl⟩
theorem Turned.trans {c : Nat} {o o' : Obj} {w1 w2 : World} (a : Turned w c o w1) (b : Turned w1 c o' w2) : Turned w c o' w2 :=
  ⟨a.same.trans b.same, b.size.trans a.size, b.here, fun d hd => (b.rest d hd).trans (a.rest d hd)⟩

theorem turned_setCell {c off : Nat} {C : Array Value} {T : TypeId} {fz : Nat × Nat} (v : Value) (hc : w.heap[c]? = some (.cells C T fz)) :
    Turned w c (.cells (C.setIfInBounds off v) T fz) (w.setCell ⟨c, off, none⟩ v) := by
  refine ⟨⟨rfl, rfl, rfl⟩, by simp [World.setCell], ?_, fun d hd => ?_⟩
  · simp [World.setCell, Array.getElem?_modify, hc]
  · simp [World.setCell, Array.getElem?_modify, Ne.symm hd]

theorem turned_setObj {c : Nat} {o o' : Obj} (hc : w.heap[c]? = some o) : Turned w c o' { w with heap := w.heap.setIfInBounds c o' } := by
  have := lt_of_get hc
  exact ⟨⟨rfl, rfl, rfl⟩, by simp, by simp [this], fun d hd => by simp [Array.getElem?_setIfInBounds, Ne.symm hd]⟩

theorem cell_of {c off : Nat} {C : Array Value} {T : TypeId} {fz : Nat × Nat} (hc : w.heap[c]? = some (.cells C T fz)) (hi : off < C.size) :
    w.cell? ⟨c, off, none⟩ = some (C.getD off undef) := by
  simp [World.cell?, hc, hi, Array.getD]

theorem run_store_of {c off : Nat} {C : Array Value} {T : TypeId} {fz : Nat × Nat} {v : Value} (hc : w.heap[c]? = some (.cells C T fz)) (hi : off < C.size)
    (hf : (decide (fz.1 ≤ off) && decide (off < fz.2)) = false) (hv : v.oneCell' = true) : (store ⟨c, off, none⟩ v).run P w = .ok () (w.setCell ⟨c, off, none⟩ v) := by
  rw [run_store P w _ v _ hv, cell_of hc hi]
  have : w.frozen? ⟨c, off, none⟩ = false := by simp only [World.frozen?, hc]; exact hf
  simp [this]

/-- Where cells lie behind those of a list. -/
def over (C : Array Value) (off : Nat) (vs : List Value) (j : Nat) : Value := if off ≤ j ∧ j < off + vs.length then vs.getD (j - off) undef else C.getD j undef

theorem run_storeCells {c : Nat} {T : TypeId} {fz : Nat × Nat} (a : Addr) (ha : a.spot = none) (hb : a.block = c) : ∀ (vs : List Value) (i : Nat) (C : Array Value) (w : World), w.heap[c]? = some (.cells C T fz) →
    (∀ j, j < C.size → (decide (fz.1 ≤ j) && decide (j < fz.2)) = false) → a.off + i + vs.length ≤ C.size → (∀ v ∈ vs, v.oneCell' = true) →
    ∃ w' C', (storeCells a vs i).run P w = .ok () w' ∧ Turned w c (.cells C' T fz) w' ∧ C'.size = C.size ∧ ∀ j, C'.getD j undef = over C (a.off + i) vs j := by
  intro vs
  induction vs with
  | nil =>
    intro i C w hc hf hs hv
    exact ⟨w, C, by simp [storeCells], .refl hc, rfl, fun j => by simp only [over, List.length_nil]; rw [if_neg (by omega)]⟩
  | cons v rest ih =>
    intro i C w hc hf hs hv
    have hadd : a.add i = ⟨c, a.off + i, none⟩ := by
      unfold Addr.add
      split
      · rename_i h0; subst h0; cases a; simp_all
      · simp [hb]
    simp only [List.length_cons] at hs
    have h1 := run_store_of (P := P) (v := v) hc (off := a.off + i) (by omega) (hf _ (by omega)) (hv v (by simp))
    have ht := turned_setCell (off := a.off + i) v hc
    obtain ⟨w', C', h2, h3, h4, h5⟩ := ih (i + 1) (C.setIfInBounds (a.off + i) v) _ ht.here (fun j hj => hf j (by simpa using hj)) (by simp; omega) (fun x hx => hv x (by simp [hx]))
    refine ⟨w', C', ?_, ht.trans h3, by simpa using h4, fun j => ?_⟩
    · simp only [storeCells, hadd, Sem.run_bind, h1, Result.andThen_ok, h2]
    · rw [h5 j]
      simp only [over, List.length_cons]
      by_cases e : j = a.off + i
      · subst e
        rw [if_neg (by omega), if_pos (by omega)]
        have : a.off + i < C.size := by omega
        simp [Array.getD, this]
      · by_cases g : a.off + (i + 1) ≤ j ∧ j < a.off + (i + 1) + rest.length
        · rw [if_pos g, if_pos (by omega)]
          have : j - (a.off + i) = (j - (a.off + (i + 1))) + 1 := by omega
          rw [this]; simp
        · rw [if_neg g, if_neg (by omega)]
          simp [Array.getD, Array.getElem?_setIfInBounds, Ne.symm e]
          split <;> simp_all [Array.getElem_setIfInBounds, Ne.symm e]

/-- What a value is in cells. -/
def AVal.one : AVal → Bool
  | .any | .agg _ | .tup _ => false
  | .lit v => v.oneCell'
  | _ => true

def AVal.parts : AVal → Option (List AVal)
  | .agg vs => some vs
  | .lit (.agg cs) => some (cs.toList.map .lit)
  | .lit v => some [.lit v]
  | .any => none
  | v => some [v]

theorem VR.one {v : AVal} {u : Value} (hv : VR ρ h w v u) (ho : v.one = true) : u.oneCell' = true := by
  cases hv <;> simp_all [AVal.one, Value.oneCell']

theorem VR.parts {v : AVal} {u : Value} {vs : List AVal} (hv : VR ρ h w v u) (hp : v.parts = some vs) : VRs ρ h w vs u.cells := by
  have one : ∀ {v : AVal} {u : Value}, VR ρ h w v u → u.cells = #[u] → VRs ρ h w [v] u.cells := by
    intro v u hv hc
    rw [hc]
    exact ⟨rfl, fun i hi => by have : i = 0 := by simp at hi; omega
                               subst this; simpa using hv⟩
  cases hv with
  | any u => simp [AVal.parts] at hp
  | lit u =>
    cases u <;> (try (simp only [AVal.parts, Option.some.injEq] at hp; subst hp; exact one (.lit _) rfl))
    rename_i cs
    simp only [AVal.parts, Option.some.injEq] at hp
    subst hp
    exact ⟨by simp [Value.cells], fun i hi => by
      have : i < cs.size := by simpa using hi
      simp [Value.cells, Array.getD, this]
      exact .lit _⟩
  | agg vs us hl hv => simp only [AVal.parts, Option.some.injEq] at hp; subst hp; exact ⟨hl, hv⟩
  | ptr b off hb => simp only [AVal.parts, Option.some.injEq] at hp; subst hp; exact one (.ptr b off hb) rfl
  | sl k b off len cap hb hl hc => simp only [AVal.parts, Option.some.injEq] at hp; subst hp; exact one (.sl k b off len cap hb hl hc) rfl
  | rop cs c off C T fz hc hn hs hv => simp only [AVal.parts, Option.some.injEq] at hp; subst hp; exact one (.rop cs c off C T fz hc hn hs hv) rfl
  | slZ k b off o hb => simp only [AVal.parts, Option.some.injEq] at hp; subst hp; exact one (.slZ k b off o hb) rfl
  | rosZ cs hb a cap => simp only [AVal.parts, Option.some.injEq] at hp; subst hp; exact one (.rosZ cs hb a cap) rfl
  | ros cs c off len cap C T fz hl hc hn hs hv => simp only [AVal.parts, Option.some.injEq] at hp; subst hp; exact one (.ros cs c off len cap C T fz hl hc hn hs hv) rfl
  | tup vs us hl hv => simp only [AVal.parts, Option.some.injEq] at hp; subst hp; exact one (.tup vs us hl hv) rfl
  | fn f vs ws us xs hl hl' hv hw => simp only [AVal.parts, Option.some.injEq] at hp; subst hp; exact one (.fn f vs ws us xs hl hl' hv hw) rfl
  | ifc t v u hv => simp only [AVal.parts, Option.some.injEq] at hp; subst hp; exact one (.ifc t v u hv) rfl
  | map b hb => simp only [AVal.parts, Option.some.injEq] at hp; subst hp; exact one (.map b hb) rfl
  | yld b hb => simp only [AVal.parts, Option.some.injEq] at hp; subst hp; exact one (.yld b hb) rfl

/-- A new row of cells. -/
theorem new_row (hR : Rel ρ h w) {vs : List AVal} {us : Array Value} {T : TypeId} (hv : VRs ρ h w vs us) :
    Evo ρ h w (ext ρ h.length ⟨w.heap.size, 0, us.size⟩) (h ++ [.cells vs]) { w with heap := w.heap.push (.cells us T) } ∧
    Rel (ext ρ h.length ⟨w.heap.size, 0, us.size⟩) (h ++ [.cells vs]) { w with heap := w.heap.push (.cells us T) } := by
  have e := evo_push (o := .cells vs) (co := .cells us T) (l := ⟨w.heap.size, 0, us.size⟩) hR rfl
  refine ⟨e, hR.push rfl ⟨us, T, (0, 0), by simp, fun i _ => by simp, rfl, by simp [hv.1], fun i hi => ?_⟩⟩
  simpa using (hv.2 i hi).evo e

/-- One whose spare cells nobody knows of. -/
theorem new_row_more (hR : Rel ρ h w) {vs : List AVal} {us : Array Value} {T : TypeId} {fz : Nat × Nat} (hl : vs.length ≤ us.size) (hv : ∀ (i : Nat) (hi : i < vs.length), VR ρ h w vs[i] (us.getD i undef))
    (hf : ∀ i, i < us.size → (decide (fz.1 ≤ i) && decide (i < fz.2)) = false) :
    Evo ρ h w (ext ρ h.length ⟨w.heap.size, 0, us.size⟩) (h ++ [.cells vs]) { w with heap := w.heap.push (.cells us T fz) } ∧
    Rel (ext ρ h.length ⟨w.heap.size, 0, us.size⟩) (h ++ [.cells vs]) { w with heap := w.heap.push (.cells us T fz) } := by
  have e := evo_push (o := .cells vs) (co := .cells us T fz) (l := ⟨w.heap.size, 0, us.size⟩) hR rfl
  refine ⟨e, hR.push rfl ⟨us, T, fz, by simp, hf, rfl, by simpa using hl, fun i hi => ?_⟩⟩
  simpa using (hv i hi).evo e

theorem ext_self (n : Nat) (l : Loc) : ext ρ n l n = l := by simp [ext]

/-- The cells of a block of ours are turned. -/
theorem turn_cells (hR : Rel ρ h w) {b : Nat} {cs cs' : List AVal} {C C' : Array Value} {T : TypeId} {fz : Nat × Nat} (hb : h[b]? = some (.cells cs)) (hc : w.heap[(ρ b).blk]? = some (.cells C T fz))
    (ht : Turned w (ρ b).blk (.cells C' T fz) w') (hs : C'.size = C.size) (hlen : (ρ b).base + cs'.length ≤ C.size)
    (hv : ∀ (i : Nat) (hi : i < cs'.length), VR ρ h w cs'[i] (C'.getD ((ρ b).base + i) undef)) :
    Evo ρ h w ρ (h.set b (.cells cs')) w' ∧ Rel ρ (h.set b (.cells cs')) w' := by
  have e : Evo ρ h w ρ (h.set b (.cells cs')) w' := evo_set hR hb (by simp) ht.same (by rw [ht.size]; exact Nat.le_refl _) (fun c hne => ht.rest c hne) (fun r hr => noloop hR hb rfl r hr)
  refine ⟨e, hR.set hb (by simp) ht.same (by rw [ht.size]; exact Nat.le_refl _) (fun c hne => ht.rest c hne) (fun r hr => noloop hR hb rfl r hr) ?_⟩
  obtain ⟨C0, T0, fz0, h1, h2, h3, h4, h5⟩ := hR.obj b _ hb
  rw [hc] at h1
  cases h1
  exact ⟨C', T, fz, ht.here, by rw [hs]; exact h2, hs.trans h3, by rw [hs]; exact hlen, fun i hi => (hv i hi).evo e⟩

end Go.Proofs.Ytglmofbcooefkaa.AL
