/- Conversions, slices, what grows. -/
import Derived.Test.YtglmofbcooefkaaAL7
import Derived.Laws.AppendOwn
import Derived.Lib.ConvBytes
import Derived.Laws.BytesArg
namespace Go.Proofs.Ytglmofbcooefkaa.AL
set_option linter.unusedVariables false
set_option linter.unusedSimpArgs false
open Go

variable {ρ ρ' : Env} {h h' : AHeap} {w w' : World} {P : Program}

/-- Only the memory counts. -/
theorem Rel.like (hR : Rel ρ h w) (hsm : Same w w') (hw : w'.heap = w.heap) : Rel ρ h w' ∧ Evo ρ h w ρ h w' := by
  have e : Evo ρ h w ρ h w' := ⟨Nat.le_refl _, fun _ _ => rfl, by rw [hw]; exact Nat.le_refl _, hsm, fun c hc hn => ⟨by rw [hw], hn⟩, fun l r hr => ⟨r, by rw [hw]; exact hr⟩⟩
  exact ⟨⟨fun b o hb => (hR.obj b o hb).evo e fun _ => by rw [hw], hR.inj⟩, e⟩

/-- A new row of cells, its spare ones unknown. -/
theorem grown (hR : Rel ρ h w) (hsm : Same w w') {vs : List AVal} {us : Array Value} {T : TypeId} {fz : Nat × Nat} (hw : w'.heap = w.heap.push (.cells us T fz)) (hl : vs.length ≤ us.size)
    (hv : ∀ (i : Nat) (hi : i < vs.length), VR ρ h w vs[i] (us.getD i undef)) (hf : ∀ i, i < us.size → (decide (fz.1 ≤ i) && decide (i < fz.2)) = false) :
    Evo ρ h w (ext ρ h.length ⟨w.heap.size, 0, us.size⟩) (h ++ [.cells vs]) w' ∧ Rel (ext ρ h.length ⟨w.heap.size, 0, us.size⟩) (h ++ [.cells vs]) w' := by
  obtain ⟨e, r⟩ := new_row_more (T := T) hR hl hv hf
  obtain ⟨r2, e2⟩ := r.like (w' := w') hsm hw
  exact ⟨e.trans e2, r2⟩

/-- A slice of a new row. -/
theorem Gives.slice {s : Sem Value} {K : AVal → AHeap → Prop} (hR : Rel ρ h w) (hsm : Same w w') {vs : List AVal} {us : Array Value} {T : TypeId} {fz : Nat × Nat} {k len cap : Nat} (hs : s.run P w = .ok (.slice (some ⟨w.heap.size, 0, none⟩) len cap) w')
    (hw : w'.heap = w.heap.push (.cells us T fz)) (hl : vs.length ≤ us.size) (hlen : len ≤ cap) (hcap : cap * k ≤ us.size)
    (hv : ∀ (i : Nat) (hi : i < vs.length), VR ρ h w vs[i] (us.getD i undef)) (hf : ∀ i, i < us.size → (decide (fz.1 ≤ i) && decide (i < fz.2)) = false)
    (hK : K (.sl k h.length 0 len) (h ++ [.cells vs])) : Gives P ρ h w s K := by
  obtain ⟨e, r⟩ := grown hR hsm hw hl hv hf
  refine ⟨_, _, _, _, _, hs, e, r, ?_, hK⟩
  have := VR.sl (ρ := ext ρ h.length ⟨w.heap.size, 0, us.size⟩) (h := h ++ [.cells vs]) (w := w') k h.length 0 len cap (by simp) hlen (by simpa [ext_self] using hcap)
  simpa [ext_self] using this

/-! ### Conversions -/
def byteV (b : UInt8) : AVal := .lit (.int .u8 b.toNat)

def aConv (P : Program) (src dst : TypeId) (x : AVal) (h : AHeap) (K : AVal → AHeap → Prop) : Prop :=
  (P.underlying src).isSome = true ∧
  match P.underlying dst, x with
  | some (.int k), .lit (.int _ n) => K (.lit (.int k (k.wrap n))) h
  | some .string, .lit (.int _ n) => K (.lit (.string (Utf8.encode n))) h
  | some .string, .lit (.string s) => K (.lit (.string s)) h
  | some (.slice e), .lit (.string s) => tyInt P e = some .u8 ∧ K (.sl 1 h.length 0 s.size) (h ++ [.cells (s.data.toList.map byteV)])
  | some .string, .sl 1 b off len => (match tySlice P src with
      | some e => tyInt P e = some .u8
      | none => False) ∧ ∃ l : List UInt8, (match h[b]? with
      | some (.cells cs) => (cs.drop off).take len = l.map byteV
      | _ => False) ∧ l.length = len ∧ K (.lit (.string ⟨l.toArray⟩)) h
  | some .string, .ros cs len => (match tySlice P src with
      | some e => tyInt P e = some .u8
      | none => False) ∧ ∃ l : List UInt8, cs.take len = l.map byteV ∧ l.length = len ∧ K (.lit (.string ⟨l.toArray⟩)) h
  | _, _ => False

theorem tyInt_some {t : TypeId} {k : IntKind} (h : tyInt P t = some k) : P.underlying t = some (.int k) := by
  unfold tyInt at h
  split at h <;> simp_all

theorem strOf_bytes (l : List UInt8) : strOfNums (l.map fun b => (b.toNat : Int)) = ⟨l.toArray⟩ := by
  unfold strOfNums
  congr 1
  rw [List.map_map]
  congr 1
  rw [show ((fun n : Int => UInt8.ofNat n.toNat) ∘ fun b : UInt8 => (b.toNat : Int)) = id from by funext b; simp]
  simp

theorem run_bytes {src dst e : TypeId} {c off len cap : Nat} {C : Array Value} {T : TypeId} {fz : Nat × Nat} (l : List UInt8) (hs : P.underlying src = some (.slice e)) (he : P.underlying e = some (.int .u8)) (hd : P.underlying dst = some .string)
    (hc : w.heap[c]? = some (.cells C T fz)) (hsz : off + len ≤ C.size) (hl : l.length = len)
    (hv : ∀ i (hi : i < l.length), C.getD (off + i) undef = .int .u8 l[i].toNat) : (convert src dst (.slice (some ⟨c, off, none⟩) len cap)).run P w = .ok (.string ⟨l.toArray⟩) w := by
  rw [← strOf_bytes]
  refine run_convert_bytes_arg w src e hs he c off len cap _ (by simpa using hl) (fun i hi => ?_) dst hd
  rw [cell_of hc (by omega), hv i (by omega)]
  have : i < l.length := by omega
  simp [List.getD, this]

theorem bytes_of {cs : List AVal} {l : List UInt8} {C : Array Value} {off o len : Nat} (h1 : (cs.drop off).take len = l.map byteV) (hl : l.length = len)
    (hv : ∀ (i : Nat) (hi : i < cs.length), VR ρ h w cs[i] (C.getD (o + i) undef)) : off + len ≤ cs.length ∨ len = 0 := by
  have := congrArg List.length h1
  simp at this
  omega

theorem aConv_sound {src dst : TypeId} {x : AVal} {u : Value} {K : AVal → AHeap → Prop} (hR : Rel ρ h w) (hx : VR ρ h w x u) (hK : aConv P src dst x h K) : Gives P ρ h w (convert src dst u) K := by
  unfold aConv at hK
  obtain ⟨hsrc, hK⟩ := hK
  obtain ⟨D, hD⟩ := Option.isSome_iff_exists.1 hsrc
  split at hK
  · rename_i k kk n hu
    cases hx
    refine .same hR (u := .int k (k.wrap n)) ?_ (.lit _) hK
    simp only [convert, Sem.run_bind, run_underlying hD, run_underlying hu, Result.andThen_ok]
    cases D <;> rfl
  · rename_i kk n hu
    cases hx
    refine .same hR (u := .string (Utf8.encode n)) ?_ (.lit _) hK
    simp only [convert, Sem.run_bind, run_underlying hD, run_underlying hu, Result.andThen_ok]
    cases D <;> rfl
  · rename_i s hu
    cases hx
    refine .same hR (u := .string s) ?_ (.lit _) hK
    simp only [convert, Sem.run_bind, run_underlying hD, run_underlying hu, Result.andThen_ok]
    cases D <;> rfl
  · rename_i e s hu
    cases hx
    obtain ⟨he, hK⟩ := hK
    have he := tyInt_some he
    have hrun := Lib.run_convert_string_bytes (P := P) w src dst e s hD hu he
    have hge : s.size ≤ grownCap w s.size 0 e := grownCap_ge w s.size 0 e
    have hsz : (Lib.bytesCells w e s).size = grownCap w s.size 0 e := by
      simp only [Lib.bytesCells, Array.size_append, Array.size_map, Array.size_replicate]
      have : s.data.size = s.size := rfl
      omega
    have hlen : (s.data.toList.map byteV).length = s.size := by simp
    refine Gives.slice (us := Lib.bytesCells w e s) (T := e) (fz := ((Lib.bytesCells w e s).size, (Lib.bytesCells w e s).size + 1)) hR (by exact ⟨rfl, rfl, rfl⟩) hrun ?_ (by rw [hlen, hsz]; exact hge) hge (by rw [hsz]; omega) (fun i hi => ?_) (fun i hi => ?_) hK
    · apply Array.ext_getElem?
      intro j
      rcases Nat.lt_trichotomy j w.heap.size with hj | hj | hj
      · rw [Lib.bytesWorld_at_old w e s j hj]; simp [Array.getElem?_push, Nat.ne_of_lt hj]
      · subst hj; rw [Lib.bytesWorld_at_new]; simp
      · have h1 := Lib.bytesWorld_size w e s
        rw [Array.getElem?_eq_none (by omega), Array.getElem?_eq_none (by simp; omega)]
    · rw [hlen] at hi
      have h1 : i < s.data.size := hi
      have h2 : i < (Lib.bytesCells w e s).size := by rw [hsz]; omega
      have h3 : (Lib.bytesCells w e s).getD i undef = .int .u8 s.data[i].toNat := by
        simp only [Array.getD, h2, dif_pos]
        show (Lib.bytesCells w e s)[i] = _
        simp only [Lib.bytesCells]
        rw [Array.getElem_append_left (by simpa using h1)]
        simp
      rw [h3]
      simp only [List.getElem_map, Array.getElem_toList, byteV]
      exact .lit _
    · simp; omega
  · rename_i b off len hu
    obtain ⟨he, l, hl, hlen, hK⟩ := hK
    split at he
    · rename_i e hse
      have hse := tySlice_some hse
      have he := tyInt_some he
      split at hl
      · rename_i cs hcs
        cases hx with
        | sl _ _ _ _ cap hb hle hcap =>
          obtain ⟨C, T, fz, g1, g2, g3, g4, g5⟩ := hR.obj b _ hcs
          refine .same hR (u := .string ⟨l.toArray⟩) ?_ (.lit _) hK
          refine run_bytes l hse he hu g1 (by omega) hlen fun i hi => ?_
          have h1 : off + i < cs.length := by
            rcases bytes_of hl hlen g5 with h | h <;> omega
          have h2 := g5 (off + i) h1
          have h3 : cs[off + i] = byteV l[i] := by
            have := congrArg (fun x : List AVal => x[i]?) hl
            have h4 : i < len := by omega
            simp only [List.getElem?_take, List.getElem?_drop, if_pos h4, List.getElem?_eq_getElem h1, List.getElem?_map, List.getElem?_eq_getElem hi, Option.map_some, Option.some.injEq] at this
            exact this
          rw [h3] at h2
          rw [Nat.add_assoc]
          generalize C.getD ((ρ b).base + (off + i)) undef = z at h2
          unfold byteV at h2
          cases h2
          rfl
        | slZ _ _ _ o hb =>
          obtain rfl : l = [] := List.eq_nil_of_length_eq_zero hlen
          obtain ⟨C, T, fz, g1, g2, g3, g4, g5⟩ := hR.obj b _ hcs
          refine .same hR (u := .string ⟨[].toArray⟩) ?_ (.lit _) hK
          rw [← strOf_bytes]
          exact run_convert_bytes_arg w src e hse he (ρ b).blk o 0 0 [] rfl (fun i hi => by omega) dst hu
      · exact hl.elim
    · exact he.elim
  · rename_i cs len hu
    obtain ⟨he, l, hl, hlen, hK⟩ := hK
    split at he
    · rename_i e hse
      have hse := tySlice_some hse
      have he := tyInt_some he
      cases hx with
      | ros _ c off _ cap C T fz hle g1 hn g2 g5 =>
        refine .same hR (u := .string ⟨l.toArray⟩) ?_ (.lit _) hK
        have hlen2 : len ≤ cs.length := by
          have := congrArg List.length hl
          simp at this
          omega
        have hfit : off + len ≤ C.size ∨ len = 0 := by
          rcases Nat.eq_zero_or_pos len with h | h
          · exact .inr h
          · left; have := g2 (len - 1) (by omega); omega
        rcases hfit with hfit | h0
        · refine run_bytes l hse he hu g1 hfit hlen fun i hi => ?_
          have h1 : i < cs.length := by omega
          have h2 := g5 i h1
          have h3 : cs[i] = byteV l[i] := by
            have := congrArg (fun x : List AVal => x[i]?) hl
            have h4 : i < len := by omega
            simp only [List.getElem?_take, if_pos h4, List.getElem?_eq_getElem h1, List.getElem?_map, List.getElem?_eq_getElem hi, Option.map_some, Option.some.injEq] at this
            exact this
          rw [h3] at h2
          generalize C.getD (off + i) undef = z at h2
          unfold byteV at h2
          cases h2
          rfl
        · subst h0
          obtain rfl : l = [] := List.eq_nil_of_length_eq_zero hlen
          rw [← strOf_bytes]
          exact run_convert_bytes_arg w src e hse he c off 0 cap [] rfl (fun i hi => by omega) dst hu
      | rosZ _ hb a cap =>
        obtain rfl : l = [] := List.eq_nil_of_length_eq_zero hlen
        refine .same hR (u := .string ⟨[].toArray⟩) ?_ (.lit _) hK
        cases a with
        | none => exact run_convert_bytes_nil w src e hse he 0 cap dst hu
        | some a => rw [run_convert_bytes_string w src dst e _ 0 cap hse he hu]; simp [Conv.bytesToString, loadCells, loadCellsFrom]; rfl
    · exact he.elim
  · exact hK.elim

end Go.Proofs.Ytglmofbcooefkaa.AL
