/- What grows: 'append', 'copy', 'make'. -/
import Derived.Test.YtglmofbcooefkaaAL9
namespace Go.Proofs.Ytglmofbcooefkaa.AL
set_option linter.unusedVariables false
set_option linter.unusedSimpArgs false
open Go

variable {ρ ρ' : Env} {h h' : AHeap} {w w' : World} {P : Program}

/-- An object dies, and another one lies in its block. -/
theorem move_obj (hR : Rel ρ h w) {b : Nat} {o o' : AObj} {l : Loc} (hb : h[b]? = some o) (ho : o ≠ AObj.dead) (hst : o.still = true) (hl : l.blk = (ρ b).blk) (hsm : Same w w') (hsz : w.heap.size ≤ w'.heap.size)
    (hw : ∀ c, c ≠ (ρ b).blk → w'.heap[c]? = w.heap[c]?)
    (hn : Evo ρ h w (ext ρ h.length l) (h.set b .dead ++ [o']) w' → ObjR (ext ρ h.length l) (h.set b .dead ++ [o']) w' l o') :
    Evo ρ h w (ext ρ h.length l) (h.set b .dead ++ [o']) w' ∧ Rel (ext ρ h.length l) (h.set b .dead ++ [o']) w' := by
  have hlt := lt_of_getL hb
  have old : ∀ (b2 : Nat) (o2 : AObj), (h.set b AObj.dead ++ [o'])[b2]? = some o2 → o2 ≠ AObj.dead → (b2 < h.length ∧ b2 ≠ b ∧ h[b2]? = some o2 ∧ ext ρ h.length l b2 = ρ b2) ∨ (b2 = h.length ∧ o2 = o' ∧ ext ρ h.length l b2 = l) := by
    intro b2 o2 h2 d2
    have hb2 := lt_of_getL h2
    simp at hb2
    rcases Nat.lt_or_ge b2 h.length with h3 | h3
    · rw [List.getElem?_append_left (by simpa using h3)] at h2
      by_cases e : b2 = b
      · subst e
        rw [List.getElem?_set_self hlt] at h2
        cases h2
        exact absurd rfl d2
      · rw [List.getElem?_set_ne (Ne.symm e)] at h2
        exact .inl ⟨h3, e, h2, by simp [ext, Nat.ne_of_lt h3]⟩
    · have : b2 = h.length := by omega
      subst this
      have h4 : (h.set b AObj.dead).length = h.length := by simp
      rw [← h4, List.getElem?_concat_length] at h2
      cases h2
      exact .inr ⟨rfl, rfl, by simp [ext]⟩
  have e : Evo ρ h w (ext ρ h.length l) (h.set b .dead ++ [o']) w' := by
    refine ⟨by simp, fun c hc => by simp [ext, Nat.ne_of_lt hc], hsz, hsm, fun c hc hn => ?_, fun c r hr => ?_⟩
    rotate_left
    · by_cases hcb : c = (ρ b).blk
      · subst hcb; exact noloop hR hb hst r hr
      · exact ⟨r, (hw c hcb).trans hr⟩
    have hne : c ≠ (ρ b).blk := fun he => hn ⟨b, o, hb, ho, he.symm⟩
    refine ⟨hw c hne, ?_⟩
    rintro ⟨b2, o2, hb2, ho2, he⟩
    rcases old b2 o2 hb2 ho2 with ⟨_, _, g1, g2⟩ | ⟨rfl, rfl, g2⟩
    · rw [g2] at he; exact hn ⟨b2, o2, g1, ho2, he⟩
    · rw [g2, hl] at he; exact hne he.symm
  refine ⟨e, ?_, ?_⟩
  · intro b2 o2 hb2
    by_cases hd : o2 = AObj.dead
    · subst hd; trivial
    · rcases old b2 o2 hb2 hd with ⟨g0, g3, g1, g2⟩ | ⟨rfl, rfl, g2⟩
      · rw [g2]
        exact (hR.obj b2 o2 g1).evo e fun hd => hw _ fun he => g3 (hR.inj b2 b o2 o g1 hb hd ho he)
      · rw [g2]; exact hn e
  · intro b1 b2 o1 o2 h1 h2 d1 d2 he
    rcases old b1 o1 h1 d1 with ⟨_, n1, g1, r1⟩ | ⟨rfl, rfl, r1⟩ <;> rcases old b2 o2 h2 d2 with ⟨_, n2, g2, r2⟩ | ⟨rfl, rfl, r2⟩
    · rw [r1, r2] at he; exact hR.inj b1 b2 o1 o2 g1 g2 d1 d2 he
    · rw [r1, r2, hl] at he; exact absurd (hR.inj b1 b o1 o g1 hb d1 ho he) n1
    · rw [r1, r2, hl] at he; exact absurd (hR.inj b2 b o2 o g2 hb d2 ho he.symm) n2
    · rfl

/-- The cells of the first elements of what is appended or copied. -/
def srcCells (h : AHeap) (k : Nat) (x : AVal) (n : Nat) : Option (List AVal) :=
  match x with
  | .sl k' b off len => match h[b]? with
    | some (.cells cs) => if k' = k ∧ n ≤ len ∧ off + n * k ≤ cs.length then some ((cs.drop off).take (n * k)) else none
    | _ => none
  | .ros cs len => if n ≤ len ∧ n * k ≤ cs.length then some (cs.take (n * k)) else none
  | .lit (.slice none 0 0) => if n = 0 then some [] else none
  | .lit (.string s) => if k = 1 ∧ n ≤ s.size then some ((s.data.toList.take n).map byteV) else none
  | _ => none

def srcLen : AVal → Option Nat
  | .sl _ _ _ len => some len
  | .ros _ len => some len
  | .lit (.slice none 0 0) => some 0
  | .lit (.string s) => some s.size
  | _ => none

theorem run_lenOf {x : AVal} {u : Value} {n : Nat} (hx : VR ρ h w x u) (hn : srcLen x = some n) : (Builtin.lenOf u).run P w = .ok n w := by
  unfold srcLen at hn
  split at hn <;> simp only [Option.some.injEq, reduceCtorEq] at hn <;> subst hn
  · cases hx <;> rfl
  · cases hx <;> rfl
  · cases hx; rfl
  · cases hx; rfl

theorem run_first {x : AVal} {u : Value} {n k : Nat} {ns : List AVal} (hR : Rel ρ h w) (hx : VR ρ h w x u) (hn : srcCells h k x n = some ns) :
    ∃ us, (Builtin.firstCells k n u).run P w = .ok us w ∧ VRs ρ h w ns us := by
  unfold srcCells at hn
  split at hn
  · rename_i k' b off len
    split at hn
    · rename_i cs hcs
      split at hn
      · rename_i hc
        obtain ⟨rfl, hl, hfit⟩ := hc
        simp only [Option.some.injEq] at hn
        subst hn
        obtain ⟨C, T, fz, g1, g2, g3, g4, g5⟩ := hR.obj b _ hcs
        cases hx with
        | sl _ _ _ _ cap hb hle hcap =>
          obtain ⟨us, r1, r2, r3⟩ := run_loadCells_of (P := P) (off := (ρ b).base + off) (n := n * k') g1 (by omega)
          refine ⟨us, by simp only [Builtin.firstCells, r1], by simp [r2]; omega, fun i hi => ?_⟩
          have hi' : i < n * k' := by simp at hi; omega
          rw [r3 i hi']
          have := g5 (off + i) (by omega)
          simpa [Nat.add_assoc] using this
        | slZ _ _ _ o hb =>
          obtain rfl : n = 0 := by omega
          exact ⟨#[], by simp [Builtin.firstCells, loadCells, loadCellsFrom], by simp [VRs]⟩
      · simp at hn
    · simp at hn
  · rename_i cs len
    split at hn
    · rename_i hc
      obtain ⟨hl, hfit⟩ := hc
      simp only [Option.some.injEq] at hn
      subst hn
      cases hx with
      | ros _ c off _ cap C T fz hle g1 hnn g2 g5 =>
        rcases Nat.eq_zero_or_pos (n * k) with h0 | h0
        · exact ⟨#[], by simp [Builtin.firstCells, h0, loadCells, loadCellsFrom], by simp [h0, VRs]⟩
        · have := g2 (n * k - 1) (by omega)
          obtain ⟨us, r1, r2, r3⟩ := run_loadCells_of (P := P) (off := off) (n := n * k) g1 (by omega)
          refine ⟨us, by simp only [Builtin.firstCells, r1], by simp [r2]; omega, fun i hi => ?_⟩
          have hi' : i < n * k := by simp at hi; omega
          rw [r3 i hi']
          simpa using g5 i (by omega)
      | rosZ _ hb a cap =>
        obtain rfl : n = 0 := by omega
        cases a with
        | none => exact ⟨#[], by simp [Builtin.firstCells], by simp [VRs]⟩
        | some a => exact ⟨#[], by simp [Builtin.firstCells, loadCells, loadCellsFrom], by simp [VRs]⟩
    · simp at hn
  · split at hn
    · rename_i h0
      simp only [Option.some.injEq] at hn
      subst hn
      subst h0
      cases hx
      exact ⟨#[], by simp [Builtin.firstCells], by simp [VRs]⟩
    · simp at hn
  · rename_i s
    split at hn
    · rename_i hc
      obtain ⟨rfl, hl⟩ := hc
      simp only [Option.some.injEq] at hn
      subst hn
      cases hx
      have hsz : s.data.size = s.size := rfl
      refine ⟨_, by simp only [Builtin.firstCells]; rfl, by simp [VRs, ByteArray.size_extract], fun i hi => ?_⟩
      have hi' : i < n ∧ i < s.size := by simp at hi; omega
      have h1 : i < s.data.size := by omega
      have h2 : i < ((s.extract 0 n).data.map fun b => Value.int .u8 b.toNat).size := by simp; omega
      simp only [Array.getD, h2, dif_pos]
      have : ((s.extract 0 n).data.map fun b => Value.int .u8 (b.toNat : Int))[i] = .int .u8 s.data[i].toNat := by simp
      show VR ρ h w _ (((s.extract 0 n).data.map fun b => Value.int .u8 (b.toNat : Int))[i])
      rw [this]
      simp only [List.getElem_map, List.getElem_take, Array.getElem_toList, byteV]
      exact .lit _
    · simp at hn
  · simp at hn

/-- 'append(s, x...)'. -/
def aAppend (P : Program) (sT xT : TypeId) (h : AHeap) (s x : AVal) (K : AVal → AHeap → Prop) : Prop :=
  (match P.underlying xT with
    | some (.int _) => False
    | some _ => True
    | none => False) ∧
  match tySlice P sT with
  | none => False
  | some e => match tySize P e, tyBytes P e, tyZero P e, srcLen x with
    | some k, some (by' + 1), some _, some n => match srcCells h k x n with
      | none => False
      | some ns => match s with
        | .lit (.slice none 0 0) => n * (by' + 1) ≤ 140737488355328 ∧ (n = 0 → K (.lit (.slice none 0 0)) h) ∧ (n ≠ 0 → K (.sl k h.length 0 n) (h ++ [.cells ns]))
        | .sl k' b off len => match h[b]? with
          | some (.cells cs) => k' = k ∧ off + len * k ≤ cs.length ∧ (len + n) * (by' + 1) ≤ 140737488355328 ∧ ns.all (·.one) = true ∧
            K (.sl k h.length 0 (len + n)) (h.set b .dead ++ [.cells ((cs.drop off).take (len * k) ++ ns)])
          | _ => False
        | _ => False
    | _, _, _, _ => False

theorem tyBytes_some {t : TypeId} {n : Nat} (h : tyBytes P t = some n) : ∃ i, P.info? t = some i ∧ i.bytes = n := by
  unfold tyBytes at h
  cases hi : P.info? t with
  | none => rw [hi] at h; simp at h
  | some i => rw [hi] at h; simp at h; exact ⟨i, rfl, h⟩

theorem srcCells_len {x : AVal} {n k : Nat} {ns : List AVal} (hn : srcCells h k x n = some ns) : ns.length = n * k := by
  unfold srcCells at hn
  split at hn
  · split at hn
    · split at hn
      · simp only [Option.some.injEq] at hn; subst hn; simp; omega
      · simp at hn
    · simp at hn
  · split at hn
    · simp only [Option.some.injEq] at hn; subst hn; simp; omega
    · simp at hn
  · split at hn
    · rename_i h0; simp only [Option.some.injEq] at hn; subst hn; subst h0; simp
    · simp at hn
  · rename_i s
    split at hn
    · rename_i h0
      simp only [Option.some.injEq] at hn; subst hn; obtain ⟨rfl, h0⟩ := h0
      have : s.data.size = s.size := rfl
      simp; omega
    · simp at hn
  · simp at hn

theorem run_append {sT xT ty e : TypeId} {x : Value} {base : Option Addr} {sLen sCap n k bts : Nat} {D : TypeDesc} {i : TypeInfo} {z : Value} {us olds : Array Value} (hu : P.underlying sT = some (.slice e)) (hx : P.underlying xT = some D) (hD : ∀ k, D ≠ .int k)
    (hi : P.info? e = some i) (hk : i.size = k) (hb : i.bytes = bts) (hz : i.zero = some z) (hl : (Builtin.lenOf x).run P w = .ok n w) :
    ((Builtin.firstCells k n x).run P w = .ok us w → sLen + n ≤ sCap → (Builtin.append_ #[sT, xT] ty #[.slice base sLen sCap, x]).run P w = ((match base with
      | some a => storeCells (a.add (sLen * k)) us.toList
      | none => pure ()).run P w).andThen fun _ w' => .ok (.slice base (sLen + n) sCap) w') ∧
    ((Builtin.firstCells k n x).run P { w with drawn := w.drawn + 1 } = .ok us { w with drawn := w.drawn + 1 } → sCap < sLen + n → (sLen + n) * bts ≤ 140737488355328 → 1 ≤ bts → (Builtin.firstCells k sLen (.slice base sLen sCap)).run P { w with drawn := w.drawn + 1 } = .ok olds { w with drawn := w.drawn + 1 } →
      (Builtin.append_ #[sT, xT] ty #[.slice base sLen sCap, x]).run P w = .ok (.slice (some ⟨w.heap.size, 0, none⟩) (sLen + n) (grownCap w (sLen + n) sCap e))
        { w with drawn := w.drawn + 1, heap := w.heap.push (.cells (olds ++ us ++ Builtin.zeroCells z.cells (grownCap w (sLen + n) sCap e - (sLen + n))) e) }) := by
  subst hk; subst hb
  have hm : (match D with | .int _ => true | _ => false) = false := by cases D <;> first | rfl | exact absurd rfl (hD _)
  refine ⟨fun hf hroom => ?_, fun hf' hg hbytes h1 holds => ?_⟩
  · simp only [Builtin.append_, List.getElem?_toArray, List.getElem?_cons_zero, List.getElem?_cons_succ, Sem.run_bind, run_underlying hu, run_underlying hx, Result.andThen_ok, sizeOf, typeInfo, hi, run_program, Sem.run_pure, hm, Bool.false_eq_true, if_false, Bool.not_false, if_true, hl, hroom, hf]
    cases base with
    | none => rfl
    | some a => simp only [Sem.run_bind, Sem.run_pure]
  · have hfit := growslice_fits hg hbytes
    have hng : ¬ (sLen + n ≤ sCap) := by omega
    have hnf : ¬ (Builtin.nextslicecap (sLen + n) sCap * i.bytes > 2 ^ 48) := by omega
    have hbz : ¬ i.bytes = 0 := by omega
    simp only [Builtin.append_, List.getElem?_toArray, List.getElem?_cons_zero, List.getElem?_cons_succ, Sem.run_bind, run_underlying hu, run_underlying hx, Result.andThen_ok, sizeOf, typeInfo, hi, run_program, Sem.run_pure, hm, Bool.false_eq_true, if_false, Bool.not_false, if_true, hl, hng]
    simp only [Sem.run_ite, hbz, Bool.false_eq_true, or_self, and_false, if_false, hnf, Sem.run_pure, Sem.run_bind, Result.andThen_ok, run_choose, Question.forced, run_askRoom]
    simp only [run_program, Result.andThen_ok, hi, Sem.run_pure, hnf, if_false, holds, hf', zeroValue, typeInfo, Sem.run_bind, hz, newRow, run_newObj, grownCap]

theorem old_cells (hR : Rel ρ h w) {k b off len : Nat} {cs : List AVal} {u : Value} (hx : VR ρ h w (.sl k b off len) u) (hcs : h[b]? = some (.cells cs)) (hfit : off + len * k ≤ cs.length) :
    ∃ us, (Builtin.firstCells k len u).run P w = .ok us w ∧ VRs ρ h w ((cs.drop off).take (len * k)) us :=
  run_first hR hx (by simp [srcCells, hcs, hfit])

theorem VRs.append {vs vs' : List AVal} {us us' : Array Value} (a : VRs ρ h w vs us) (b : VRs ρ h w vs' us') : VRs ρ h w (vs ++ vs') (us ++ us') := by
  refine ⟨by simp [a.1, b.1], fun i hi => ?_⟩
  rcases Nat.lt_or_ge i vs.length with h1 | h1
  · have h2 : i < us.size := by rw [← a.1]; exact h1
    have := a.2 i h1
    rw [List.getElem_append_left h1]
    have h3 : i < (us ++ us').size := by simp; omega
    simp only [Array.getD, h2, h3, dif_pos] at this ⊢
    show VR ρ h w _ ((us ++ us')[i])
    rw [Array.getElem_append_left h2]
    exact this
  · have h1' : i - vs.length < vs'.length := by simp at hi; omega
    have h2 : i - vs.length < us'.size := by rw [← b.1]; exact h1'
    have := b.2 (i - vs.length) h1'
    rw [List.getElem_append_right h1]
    have h3 : i < (us ++ us').size := by have := a.1; have := b.1; simp; omega
    simp only [Array.getD, h2, h3, dif_pos] at this ⊢
    show VR ρ h w _ ((us ++ us')[i])
    rw [Array.getElem_append_right (by rw [← a.1]; exact h1)]
    simp only [← a.1]
    exact this

theorem VRs.get {vs : List AVal} {us more : Array Value} (a : VRs ρ h w vs us) (i : Nat) (hi : i < vs.length) : VR ρ h w vs[i] ((us ++ more).getD i undef) := by
  have h2 : i < us.size := by rw [← a.1]; exact hi
  have := a.2 i hi
  have h3 : i < (us ++ more).size := by simp; omega
  simp only [Array.getD, h2, h3, dif_pos] at this ⊢
  show VR ρ h w _ ((us ++ more)[i])
  rw [Array.getElem_append_left h2]
  exact this

theorem zeroCells_size (z : Value) (n : Nat) : (Builtin.zeroCells z.cells n).size = n * z.cells.size := by simp [Builtin.zeroCells]

theorem aAppend_sound {sT xT ty : TypeId} {s x : AVal} {u v : Value} {K : AVal → AHeap → Prop} (hR : Rel ρ h w) (hs : VR ρ h w s u) (hx : VR ρ h w x v) (hK : aAppend P sT xT h s x K)
    (hzs : ∀ e k z, tySlice P sT = some e → tySize P e = some k → tyZero P e = some z → ∀ v, z = litA v → v.cells.size = k) :
    Gives P ρ h w (Builtin.append_ #[sT, xT] ty #[u, v]) K := by
  unfold aAppend at hK
  obtain ⟨hD0, hK⟩ := hK
  obtain ⟨D, hD, hDi⟩ : ∃ D, P.underlying xT = some D ∧ ∀ k, D ≠ .int k := by
    cases hu : P.underlying xT with
    | none => rw [hu] at hD0; exact hD0.elim
    | some D => rw [hu] at hD0; exact ⟨D, rfl, fun k hk => by subst hk; exact hD0⟩
  split at hK
  · exact hK.elim
  · rename_i e hse
    have hu := tySlice_some hse
    split at hK
    · rename_i k by' z n hk hb hz hn
      split at hK
      · exact hK.elim
      · rename_i ns hns
        obtain ⟨i, hi, hby⟩ := tyBytes_some hb
        have hsize : i.size = k := by unfold tySize at hk; rw [hi] at hk; simpa using hk
        obtain ⟨zv, hzv, hzl⟩ : ∃ zv, i.zero = some zv ∧ z = litA zv := by
          unfold tyZero at hz
          rw [hi] at hz
          cases hz0 : i.zero with
          | none => simp [hz0] at hz
          | some v => simp [hz0] at hz; exact ⟨v, rfl, hz.symm⟩
        have hzsz := hzs e k z hse hk hz zv hzl
        have hl := run_lenOf (P := P) hx hn
        obtain ⟨hRd, eD⟩ := hR.like (w' := { w with drawn := w.drawn + 1 }) ⟨rfl, rfl, rfl⟩ rfl
        obtain ⟨us', hf', hvr'⟩ := run_first (P := P) hRd (hx.evo eD) hns
        have hnsl := srcCells_len hns
        split at hK
        · obtain ⟨hbytes, hK0, hK1⟩ := hK
          cases hs
          rcases Nat.eq_zero_or_pos n with h0 | h0
          · obtain ⟨us, hf, hvr⟩ := run_first (P := P) hR hx hns
            have := (run_append (P := P) (w := w) (ty := ty) (base := none) (sLen := 0) (sCap := 0) (us := us) (olds := #[]) hu hD hDi hi hsize hby hzv hl).1 hf (by omega)
            subst h0
            refine .same hR (u := .slice none 0 0) (by rw [this]; rfl) (.lit _) (hK0 rfl)
          · have := (run_append (P := P) (w := w) (ty := ty) (base := none) (sLen := 0) (sCap := 0) (us := us') (olds := #[]) hu hD hDi hi hsize hby hzv hl).2 hf' (by omega) (by simpa using hbytes) (by omega) (by simp [Builtin.firstCells])
            simp only [Nat.zero_add] at this
            have hge := grownCap_ge w n 0 e
            have hl2 : ns.length = us'.size := hvr'.1
            obtain ⟨eb, rb⟩ := hRd.like (w' := w) ⟨rfl, rfl, rfl⟩ rfl
            refine Gives.slice (fz := (0, 0)) hR (by exact ⟨rfl, rfl, rfl⟩) this rfl (by simp; omega) hge ?_ (fun i hi => ?_) (fun i _ => by simp) (hK1 (by omega))
            · simp only [Array.empty_append, Array.size_append, zeroCells_size, hzsz, ← hl2, hnsl]
              rw [← Nat.add_mul]
              exact Nat.mul_le_mul_right _ (by omega)
            · have := (hvr'.get (more := Builtin.zeroCells zv.cells (grownCap w n 0 e - n)) i hi).evo rb
              simpa using this
        · rename_i k' b off len
          split at hK
          · rename_i cs hcs
            obtain ⟨rfl, hfit, hbytes, hone, hK⟩ := hK
            have hids := hs.ids
            obtain ⟨base, cap, rfl⟩ : ∃ base cap, u = .slice base len cap := by cases hs <;> exact ⟨_, _, rfl⟩
            by_cases hroom : len + n ≤ cap
            · -- there is room: the block stays
              obtain ⟨us, hf, hvr⟩ := run_first (P := P) hR hx hns
              have hrun := (run_append (P := P) (w := w) (ty := ty) (base := base) (sLen := len) (sCap := cap) (us := us) (olds := #[]) hu hD hDi hi hsize hby hzv hl).1 hf hroom
              obtain ⟨C, T, fz, g1, g2, g3, g4, g5⟩ := hR.obj b _ hcs
              have husz : us.toList.length = n * k' := by rw [← hnsl]; simpa using hvr.1.symm
              cases hs with
              | sl _ _ _ _ cap hb hle hcap =>
                have hcap2 : (len + n) * k' ≤ cap * k' := Nat.mul_le_mul_right _ hroom
                rw [Nat.add_mul] at hcap2
                obtain ⟨w', C', s1, s2, s3, s4⟩ := run_storeCells (P := P) ⟨(ρ b).blk, (ρ b).base + off + len * k', none⟩ rfl rfl us.toList 0 C w g1 g2 (by simp only; omega) (fun v hv => by
                  obtain ⟨j, hj, rfl⟩ := List.getElem_of_mem hv
                  have hj2 : j < us.size := by simpa using hj
                  have hj' : j < ns.length := by rw [hvr.1]; exact hj2
                  have h7 := (hvr.2 j hj').one (by simpa using (List.all_eq_true.1 hone) _ (List.getElem_mem hj'))
                  simpa [Array.getD, hj2] using h7)
                obtain ⟨e1, r1⟩ := move_obj (l := ⟨(ρ b).blk, (ρ b).base + off, (ρ b).size⟩) (o' := .cells ((cs.drop off).take (len * k') ++ ns)) (w' := w') hR hcs (by simp) rfl rfl s2.same (by rw [s2.size]; exact Nat.le_refl _) (fun c hc => s2.rest c hc) (fun e1 => by
                  refine ⟨C', T, fz, s2.here, by rw [s3]; exact g2, s3.trans g3, ?_, fun i hi => ?_⟩
                  · simp only [List.length_append, List.length_take, List.length_drop, hnsl]; rw [s3, g3]; omega
                  · rw [s4]
                    simp only [over, husz]
                    simp only [List.length_append, List.length_take, List.length_drop, hnsl] at hi
                    by_cases h1 : i < len * k'
                    · rw [if_neg (by omega), List.getElem_append_left (by simp; omega)]
                      have := (g5 (off + i) (by omega)).evo e1
                      simpa [Nat.add_assoc] using this
                    · rw [if_pos (by omega), List.getElem_append_right (by simp; omega)]
                      have hi2 : i - len * k' < ns.length := by omega
                      have := (hvr.2 (i - len * k') hi2).evo e1
                      have e2 : ((cs.drop off).take (len * k')).length = len * k' := by simp; omega
                      simp only [e2]
                      have e3 : (ρ b).base + off + i - ((ρ b).base + off + len * k' + 0) = i - len * k' := by omega
                      rw [e3]
                      simpa [Array.getD_eq_getD_getElem?, List.getD] using this)
                refine ⟨_, _, w', _, .slice (some ⟨(ρ b).blk, (ρ b).base + off, none⟩) (len + n) cap, ?_, e1, r1, ?_, hK⟩
                · rw [hrun]; simp only [add_plain, s1, Result.andThen_ok]
                · have := VR.sl (ρ := ext ρ h.length ⟨(ρ b).blk, (ρ b).base + off, (ρ b).size⟩) (h := h.set b .dead ++ [.cells ((cs.drop off).take (len * k') ++ ns)]) (w := w') k' h.length 0 (len + n) cap (by simp) hroom (by simpa [ext_self] using hcap)
                  simpa [ext_self] using this
              | slZ _ _ _ o hb =>
                obtain rfl : n = 0 := by omega
                obtain rfl : ns = [] := List.eq_nil_of_length_eq_zero (by simpa using hnsl)
                have hus0 : us = #[] := by
                  have := hvr.1
                  simp at this
                  exact Array.eq_empty_of_size_eq_zero this.symm
                subst hus0
                obtain ⟨e1, r1⟩ := move_obj (l := ⟨(ρ b).blk, 0, (ρ b).size⟩) (o' := .cells ((cs.drop off).take (0 * k') ++ [])) (w' := w) hR hcs (by simp) rfl rfl (.refl _) (Nat.le_refl _) (fun c hc => rfl) (fun e1 => by
                  refine ⟨C, T, fz, g1, g2, g3, by simp, fun i hi => by simp at hi⟩)
                refine ⟨_, _, w, _, .slice (some ⟨(ρ b).blk, o, none⟩) (0 + 0) 0, ?_, e1, r1, ?_, hK⟩
                · rw [hrun]; simp [storeCells]
                · have := VR.slZ (ρ := ext ρ h.length ⟨(ρ b).blk, 0, (ρ b).size⟩) (h := h.set b .dead ++ [.cells ((cs.drop off).take (0 * k') ++ [])]) (w := w) k' h.length 0 o (by simp)
                  simpa [ext_self] using this
            · -- there is none: a new row
              obtain ⟨olds, ho, hvo⟩ := old_cells (P := P) hRd (hs.evo eD) hcs hfit
              have hrun := (run_append (P := P) (w := w) (ty := ty) (base := base) (sLen := len) (sCap := cap) (us := us') (olds := olds) hu hD hDi hi hsize hby hzv hl).2 hf' (by omega) hbytes (by omega) ho
              have hge := grownCap_ge w (len + n) cap e
              have hvv := hvo.append hvr'
              -- the old object dies
              have ed : Evo ρ h w ρ (h.set b .dead) w := evo_set hR hcs (by simp) (.refl _) (Nat.le_refl _) (fun _ _ => rfl) (fun r hr => ⟨r, hr⟩)
              have rd : Rel ρ (h.set b .dead) w := hR.set hcs (by simp) (.refl _) (Nat.le_refl _) (fun _ _ => rfl) (fun r hr => ⟨r, hr⟩) trivial
              obtain ⟨_, rb⟩ := hRd.like (w' := w) ⟨rfl, rfl, rfl⟩ rfl
              have hlen3 : ((cs.drop off).take (len * k') ++ ns).length = (len + n) * k' := by simp [hnsl, Nat.add_mul]; omega
              have hlen4 := hvv.1
              have := Gives.slice (s := Builtin.append_ #[sT, xT] ty #[.slice base len cap, v]) (K := K) (k := k') (fz := (0, 0)) (vs := (cs.drop off).take (len * k') ++ ns) rd (by exact ⟨rfl, rfl, rfl⟩) hrun rfl (by simp only [Array.size_append, zeroCells_size] at hlen4 ⊢; omega) hge
                (by
                  have : (olds ++ us').size = (len + n) * k' := by rw [← hlen4, hlen3]
                  rw [Array.size_append, this, zeroCells_size, hzsz, ← Nat.add_mul]
                  exact Nat.mul_le_mul_right _ (by omega))
                (fun i hi => ((hvv.get (more := Builtin.zeroCells zv.cells (grownCap w (len + n) cap e - (len + n))) i hi).evo rb).evo ed) (fun i _ => by simp) (by simpa using hK)
              obtain ⟨ρ1, h1, w1, v1, u1, q1, q2, q3⟩ := this
              exact ⟨ρ1, h1, w1, v1, u1, q1, ed.trans q2, q3⟩
          · exact hK.elim
        · exact hK.elim
    · exact hK.elim

end Go.Proofs.Ytglmofbcooefkaa.AL
