/- A law, closed: its arguments read, its answer, what it leaves. -/
import Derived.Test.YtglmofbcooefkaaAL18
namespace Go.Proofs.Ytglmofbcooefkaa.AL
set_option linter.unusedVariables false
set_option linter.unusedSimpArgs false
open Go Go.ChangeShapes Go.WideShapes Go.RowKit

variable {P : Program}

theorem law_of {f : FuncId} {args : List AVal} {us : Array Value} {W : World} (hc : ACalls P f args [] fun e _ => e = .ret (.lit (.bool true))) (hv : VRs (fun _ => ⟨0, 0, 0⟩) [] W args us) :
    Calls P f us W fun e W' => e = .returned (.bool true) ∧ RowKit.Below W.heap.size W W' := by
  refine (hc (fun _ => ⟨0, 0, 0⟩) W us ⟨fun b o h => by simp at h, fun b b' o o' h => by simp at h⟩ hv).mono ?_
  rintro e W' ⟨ρ', h', e', evo, _, hE, rfl⟩
  cases hE with
  | ret v u hu =>
    cases hu with
    | lit =>
      refine ⟨rfl, evo.same.1, evo.same.2.1, evo.same.2.2, evo.size, fun k hk => (evo.keep k hk ?_).1⟩
      rintro ⟨b, o, hb, _⟩
      simp at hb

def absV {H : Type} (P : Program) (t : TypeId) (d : DataW H) : AVal :=
  match tyAgg P t with
  | some true => .agg (absD d)
  | _ => (absD d).headD .any

theorem arg_reads {H : Type} {enc : TypeId × Value → H} {W : World} {base b2 : Nat} {sp : Nat → Bool} {held : Bool} {ρ : Env} {t : TypeId} {v : Value} {d : DataW H} {p : List MemPlace} (n : Nat) (sh : Sh)
    (hs : shOf P n t = some sh) (hok : Value.okWide P W .any base t v) (h : DataW.Trod enc P W b2 sp held t v d p) : Fits sh d ∧ VR ρ [] W (absV P t d) v := by
  obtain ⟨fuel, h⟩ := h
  obtain ⟨h1, h2, h3⟩ := trod_reads (ρ := ρ) fuel n t sh _ d p hs h
  refine ⟨h1, ?_⟩
  unfold Value.okWide at hok
  have one : v.cells = #[v] → P.cellsOf t = 1 → VR ρ [] W ((absD d).headD .any) v := by
    intro hv hc
    have h4 := h2.2 0 (by omega)
    cases hd : absD d with
    | nil => rw [hd] at h3; simp at h3; omega
    | cons x xs =>
      simp only [hd] at h4
      simpa [hv] using h4
  cases n with
  | zero => simp [shOf] at hs
  | succ n =>
    simp only [shOf] at hs
    cases hu : P.underlying t with
    | none => rw [hu] at hs; simp at hs
    | some D =>
      rw [hu] at hs hok
      cases D with
      | int k =>
        simp only at hs
        split at hs
        · rename_i hc
          obtain ⟨z, rfl⟩ := okWide_int (P := P) (w := W) (r := .any) (base := base) (t := t) (v := v) hu (by unfold Value.okWide; rw [hu]; exact hok)
          simp only [absV, tyAgg, hu]
          exact one rfl hc
        · simp at hs
      | string =>
        simp only at hs
        split at hs
        · rename_i hc
          obtain ⟨z, rfl⟩ := okWide_string (P := P) (w := W) (r := .any) (base := base) (t := t) (v := v) hu (by unfold Value.okWide; rw [hu]; exact hok)
          simp only [absV, tyAgg, hu]
          exact one rfl hc
        · simp at hs
      | bool =>
        simp only at hs
        split at hs
        · rename_i hc
          obtain ⟨z, rfl⟩ := okWide_bool (P := P) (w := W) (r := .any) (base := base) (t := t) (v := v) hu (by unfold Value.okWide; rw [hu]; exact hok)
          simp only [absV, tyAgg, hu]
          exact one rfl hc
        · simp at hs
      | slice e =>
        simp only at hs
        split at hs
        · rename_i hc
          obtain ⟨a, len, cap, rfl⟩ := okWide_slice (P := P) (w := W) (r := .any) (base := base) (t := t) (v := v) hu (by unfold Value.okWide; rw [hu]; exact hok)
          simp only [absV, tyAgg, hu]
          exact one rfl hc.1
        · simp at hs
      | struct fs =>
        obtain ⟨cs, rfl, hcs, _⟩ := hok
        simp only [absV, tyAgg, hu]
        simp only [Value.cells, Array.toArray_toList] at h2
        exact .agg _ _ h2.1 h2.2
      | array m e =>
        obtain ⟨cs, rfl, hcs, _⟩ := hok
        simp only [absV, tyAgg, hu]
        simp only [Value.cells, Array.toArray_toList] at h2
        exact .agg _ _ h2.1 h2.2
      | _ => simp at hs

theorem VRs.cons {ρ : Env} {h : AHeap} {w : World} {v : AVal} {u : Value} {vs : List AVal} {us : List Value} (hv : VR ρ h w v u) (hs : VRs ρ h w vs us.toArray) : VRs ρ h w (v :: vs) (u :: us).toArray := by
  refine ⟨by simpa using hs.1, fun i hi => ?_⟩
  cases i with
  | zero => simpa using hv
  | succ i => simpa using hs.2 i (by simpa using hi)

/-- A slice that lies in a struct. -/
theorem fits_slice {H : Type} {e : Sh} {d : DataW H} (h : Fits (.slice e) d) : ∃ k, absD d = [k] ∧ ((k = .lit (.slice none 0 0) ∧ d = .nil) ∨ ∃ es sp, d = .slice es sp ∧ k = .ros (absDs es) es.length ∧ es.length ≤ maxLen ∧ ∀ x ∈ es, Fits e x) := by
  simp only [Fits] at h
  rcases h with rfl | ⟨es, sp, rfl, h1, h2⟩
  · exact ⟨_, rfl, .inl ⟨rfl, rfl⟩⟩
  · exact ⟨_, rfl, .inr ⟨es, sp, rfl, rfl, h1, h2⟩⟩

theorem str_len {l : List UInt8} (h : l.length ≤ maxLen) : (⟨l.toArray⟩ : ByteArray).size ≤ 9223372036854775807 := by
  have e : (⟨l.toArray⟩ : ByteArray).size = l.length := by simp [ByteArray.size]
  have e2 : maxLen = 9223372036854775807 := by decide
  omega
theorem i64_hi {n : Int} (h : n ≤ IntKind.i64.max) : n < 9223372036854775808 := by
  have e : IntKind.i64.max = 9223372036854775807 := by decide
  omega
theorem i64_lo {n : Int} (h : IntKind.i64.min ≤ n) : -9223372036854775808 ≤ n := by
  have e : IntKind.i64.min = -9223372036854775808 := by decide
  omega

end Go.Proofs.Ytglmofbcooefkaa.AL
