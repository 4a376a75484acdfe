/- 'copy', 'make', 'len', literals, and the other small ones. -/
import Derived.Test.YtglmofbcooefkaaAL10
namespace Go.Proofs.Ytglmofbcooefkaa.AL
set_option linter.unusedVariables false
set_option linter.unusedSimpArgs false
open Go

variable {ρ ρ' : Env} {h h' : AHeap} {w w' : World} {P : Program}

/-- 'copy(d, x)'. -/
def aCopy (P : Program) (dT : TypeId) (h : AHeap) (d x : AVal) (K : AVal → AHeap → Prop) : Prop :=
  match tySlice P dT with
  | none => False
  | some e => match tySize P e, d, srcLen x with
    | some k, .sl k' b off len, some n => match h[b]?, srcCells h k x (min n len) with
      | some (.cells cs), some ns => k' = k ∧ off + (min n len) * k ≤ cs.length ∧ ns.all (·.one) = true ∧ K (.lit (.int .i64 (min n len : Nat))) (h.set b (.cells (splice cs off ns)))
      | _, _ => False
    | _, _, _ => False

theorem aCopy_sound {dT xT ty : TypeId} {d x : AVal} {u v : Value} {K : AVal → AHeap → Prop} (hR : Rel ρ h w) (hd : VR ρ h w d u) (hx : VR ρ h w x v) (hK : aCopy P dT h d x K) :
    Gives P ρ h w (Builtin.copy_ #[dT, xT] ty #[u, v]) K := by
  unfold aCopy at hK
  split at hK
  · exact hK.elim
  · rename_i e hse
    have hu := tySlice_some hse
    split at hK
    · rename_i k k' b off len n hk hn
      split at hK
      · rename_i cs ns hcs hns
        obtain ⟨rfl, hfit, hone, hK⟩ := hK
        have hl := run_lenOf (P := P) hx hn
        obtain ⟨us, hf, hvr⟩ := run_first (P := P) hR hx hns
        have hnsl := srcCells_len hns
        have hall : ∀ z ∈ us.toList, z.oneCell' = true := fun z hz => by
          obtain ⟨j, hj, rfl⟩ := List.getElem_of_mem hz
          have hj2 : j < us.size := by simpa using hj
          have hj' : j < ns.length := by rw [hvr.1]; exact hj2
          have h7 := (hvr.2 j hj').one (by simpa using (List.all_eq_true.1 hone) _ (List.getElem_mem hj'))
          simpa [Array.getD, hj2] using h7
        cases hd with
        | sl _ _ _ _ cap hb hle hcap =>
          obtain ⟨w', s1, s2, s3⟩ := store_cells (P := P) (off := off) hR hcs hvr hall (by rw [hnsl]; exact hfit)
          refine ⟨_, _, w', _, .int .i64 (min n len : Nat), ?_, s2, s3, .lit _, hK⟩
          simp only [Builtin.copy_, List.getElem?_toArray, List.getElem?_cons_zero, List.getElem?_cons_succ, Sem.run_bind, run_underlying hu, Result.andThen_ok, hl, run_sizeOf hk]
          rw [show Nat.min n len = min n len from rfl, hf]
          simp only [Result.andThen_ok, s1, Sem.run_pure]
          rfl
        | slZ _ _ _ o hb =>
          have h0 : min n 0 = 0 := by omega
          rw [h0] at hf hns hnsl
          obtain rfl : ns = [] := List.eq_nil_of_length_eq_zero (by simpa using hnsl)
          have hus0 : us = #[] := by have := hvr.1; simp at this; exact Array.eq_empty_of_size_eq_zero this.symm
          subst hus0
          have hsp : splice cs off [] = cs := by simp [splice]
          rw [hsp] at hK
          have hset : h.set b (.cells cs) = h := by
            apply List.ext_getElem?
            intro i
            by_cases e : b = i
            · subst e; rw [List.getElem?_set_self (lt_of_getL hcs), hcs]
            · rw [List.getElem?_set_ne e]
          rw [hset, h0] at hK
          refine .same hR (u := .int .i64 ((0 : Nat) : Int)) ?_ (.lit _) hK
          simp only [Builtin.copy_, List.getElem?_toArray, List.getElem?_cons_zero, List.getElem?_cons_succ, Sem.run_bind, run_underlying hu, Result.andThen_ok, hl, run_sizeOf hk]
          rw [show Nat.min n 0 = 0 from h0, hf]
          simp [storeCells, goInt]
      · exact hK.elim
    · exact hK.elim

/-- 'make([]T, len, cap)'. -/
def aMake (P : Program) (t : TypeId) (l c : AVal) (h : AHeap) (K : AVal → AHeap → Prop) : Prop :=
  match tySlice P t, l, c with
  | some e, .lit (.int _ l), .lit (.int _ c) => match tySize P e, tyBytes P e, tyZero P e with
    | some k, some bts, some z => match z.parts with
      | some zs => zs.length = k ∧ 0 ≤ l ∧ l ≤ c ∧ bts * c ≤ 140737488355328 ∧ c ≤ 9223372036854775807 ∧ K (.sl k h.length 0 l.toNat) (h ++ [.cells (List.replicate l.toNat zs).flatten])
      | none => False
    | _, _, _ => False
  | _, _, _ => False

theorem wrap_i64 {n : Int} (h0 : -9223372036854775808 ≤ n) (h1 : n ≤ 9223372036854775807) : IntKind.i64.wrap n = n := by
  have : IntKind.i64.wrap n = (n + 9223372036854775808) % 18446744073709551616 - 9223372036854775808 := by
    simp only [IntKind.wrap, IntKind.signed, IntKind.bits]
    simp
    split <;> omega
  rw [this]; omega

theorem flat_get {zs : List AVal} {k n i : Nat} (hz : zs.length = k) (hi : i < n * k) (hk : 0 < k) : (List.replicate n zs).flatten[i]? = zs[i % k]? := by
  induction n generalizing i with
  | zero => omega
  | succ n ih =>
    rw [List.replicate_succ, List.flatten_cons]
    rw [Nat.succ_mul] at hi
    rcases Nat.lt_or_ge i k with h1 | h1
    · rw [List.getElem?_append_left (by omega), Nat.mod_eq_of_lt h1]
    · rw [List.getElem?_append_right (by omega), hz, ih (by omega)]
      congr 1
      rw [Nat.mod_eq_sub_mod h1]

theorem aMake_sound {t : TypeId} {l c : AVal} {u v : Value} {K : AVal → AHeap → Prop} (hR : Rel ρ h w) (hl : VR ρ h w l u) (hc : VR ρ h w c v) (hK : aMake P t l c h K) : Gives P ρ h w (Instr.makeSlice t u v) K := by
  unfold aMake at hK
  split at hK
  · rename_i e kl l kc c hse
    have hu := tySlice_some hse
    cases hl; cases hc
    split at hK
    · rename_i k bts z hk hb hz
      split at hK
      · rename_i zs hzs
        obtain ⟨hzl, h0, h1, h2, h3, hK⟩ := hK
        obtain ⟨i, hi, rfl⟩ := tyBytes_some hb
        obtain ⟨zv, hzrun, rfl⟩ := run_zeroValue (w := w) hz
        have hvz := (VR.litA zv : VR ρ h w _ _).parts hzs
        have hzsz : zv.cells.size = k := by rw [← hzl]; exact hvz.1.symm
        have wl := wrap_i64 (n := l) (by omega) (by omega)
        have wc := wrap_i64 (n := c) (by omega) (by omega)
        obtain ⟨l, rfl⟩ : ∃ m : Nat, l = m := ⟨l.toNat, by omega⟩
        obtain ⟨c, rfl⟩ : ∃ m : Nat, c = m := ⟨c.toNat, by omega⟩
        have hlc : l ≤ c := by omega
        simp only [Int.toNat_natCast] at hK
        have hbig : ¬ ((i.bytes : Int) * (c : Int) > 2 ^ 48) := by omega
        -- the row
        have hrun : ∃ us : Array Value, (Instr.makeSlice t (.int kl l) (.int kc c)).run P w = .ok (.slice (some ⟨w.heap.size, 0, none⟩) l c) { w with heap := w.heap.push (.cells us e) } ∧ us.size = c * k ∧
            ∀ j, j < c * k → us.getD j undef = zv.cells.getD (j % k) undef := by
          have hty : (typeInfo e).run P w = .ok i w := by simp [typeInfo, hi]
          by_cases hck : c * k = 0
          · refine ⟨#[], ?_, by simp [hck], fun j hj => by omega⟩
            simp only [Instr.makeSlice, Sem.run_bind, run_underlying hu, Result.andThen_ok, asInt, asIntOf, Sem.run_pure, hty, wl, wc]
            rw [if_neg (by simp; omega)]
            simp only [run_askRoom, Sem.run_bind, Result.andThen_ok, run_sizeOf hk, Int.toNat_natCast, hck, if_true, Sem.run_pure, newRow, run_newObj]
            rw [show ∀ f : Nat → Value, (Array.range 0).map f = #[] from fun f => by simp]
          · refine ⟨(Array.range (c * k)).map (zv.cells[· % zv.cells.size]!), ?_, by simp, fun j hj => ?_⟩
            · simp only [Instr.makeSlice, Sem.run_bind, run_underlying hu, Result.andThen_ok, asInt, asIntOf, Sem.run_pure, hty, wl, wc]
              rw [if_neg (by simp; omega)]
              simp only [run_askRoom, Sem.run_bind, Result.andThen_ok, run_sizeOf hk, Int.toNat_natCast, hck, if_false, hzrun, Sem.run_pure, newRow, run_newObj]
            · have hkp : 0 < k := Nat.pos_of_ne_zero fun h => by simp [h] at hck
              have h5 : j % k < zv.cells.size := by rw [hzsz]; exact Nat.mod_lt _ hkp
              have h6 : j < ((Array.range (c * k)).map (zv.cells[· % zv.cells.size]!)).size := by simpa using hj
              have h7 : ((Array.range (c * k)).map (zv.cells[· % zv.cells.size]!)).getD j undef = ((Array.range (c * k)).map (zv.cells[· % zv.cells.size]!))[j] := by simp only [Array.getD, h6, dif_pos]; rfl
              rw [h7]
              simp only [Array.getElem_map, Array.getElem_range, hzsz, Array.getD, h5, dif_pos]
              rw [getElem!_pos zv.cells (j % k) h5, dif_pos (hzsz ▸ h5)]
              rfl
        obtain ⟨us, hrun, hus, hget⟩ := hrun
        have hflat : ((List.replicate l zs).flatten).length = l * k := by simp [hzl]
        have hlk : l * k ≤ c * k := Nat.mul_le_mul_right _ hlc
        refine Gives.slice (us := us) (T := e) (fz := (0, 0)) hR (by exact ⟨rfl, rfl, rfl⟩) hrun rfl (by omega) hlc (by omega) (fun j hj => ?_) (fun _ _ => by simp) hK
        rw [hflat] at hj
        rw [hget j (by omega)]
        have hkp : 0 < k := Nat.pos_of_ne_zero fun h => by simp [h] at hj
        have h6 := flat_get (n := l) hzl hj hkp
        have h7 : j % k < zs.length := by rw [hzl]; exact Nat.mod_lt _ hkp
        have h8 : (List.replicate l zs).flatten[j]'(by omega) = zs[j % k] := by
          rw [List.getElem?_eq_getElem (by omega), List.getElem?_eq_getElem h7] at h6
          exact Option.some.inj h6
        rw [h8]
        exact hvz.2 _ h7
      · exact hK.elim
    · exact hK.elim
  · exact hK.elim

/-- 'len(x)'. -/
def aLen (P : Program) (t : TypeId) (x : AVal) (K : AVal → Prop) : Prop :=
  match tyArray P t with
  | some (n, _) => K (.lit (.int .i64 n))
  | none => match tySlice P t, x with
    | some _, .sl _ _ _ len => K (.lit (.int .i64 len))
    | some _, .ros _ len => K (.lit (.int .i64 len))
    | some _, .lit (.slice _ len _) => K (.lit (.int .i64 len))
    | none, .lit (.string s) => tyString P t = true ∧ K (.lit (.int .i64 s.size))
    | _, _ => False

theorem aLen_sound {t ty : TypeId} {x : AVal} {u : Value} {K : AVal → Prop} (hR : Rel ρ h w) (hx : VR ρ h w x u) (hK : aLen P t x K) : Gives P ρ h w (Builtin.len_ #[t] ty #[u]) fun v h' => K v ∧ h' = h := by
  unfold aLen at hK
  split at hK
  · rename_i n e hu
    have hu := tyArray_some hu
    refine .same hR (u := .int .i64 n) ?_ (.lit _) ⟨hK, rfl⟩
    simp only [Builtin.len_, List.getElem?_toArray, List.getElem?_cons_zero, Sem.run_bind, run_underlying hu, Result.andThen_ok]
    rfl
  · split at hK
    · rename_i len hse
      have hu := tySlice_some hse
      refine .same hR (u := .int .i64 len) ?_ (.lit _) ⟨hK, rfl⟩
      cases hx <;> (simp only [Builtin.len_, List.getElem?_toArray, List.getElem?_cons_zero, Sem.run_bind, run_underlying hu, Result.andThen_ok]; rfl)
    · rename_i len hse
      have hu := tySlice_some hse
      refine .same hR (u := .int .i64 len) ?_ (.lit _) ⟨hK, rfl⟩
      cases hx <;> (simp only [Builtin.len_, List.getElem?_toArray, List.getElem?_cons_zero, Sem.run_bind, run_underlying hu, Result.andThen_ok]; rfl)
    · rename_i len _ hse
      have hu := tySlice_some hse
      cases hx
      exact .same hR (by simp only [Builtin.len_, List.getElem?_toArray, List.getElem?_cons_zero, Sem.run_bind, run_underlying hu, Result.andThen_ok]; rfl) (.lit _) ⟨hK, rfl⟩
    · rename_i s hse
      obtain ⟨ht, hK⟩ := hK
      cases hx
      exact .same hR (by simp only [Builtin.len_, List.getElem?_toArray, List.getElem?_cons_zero, Sem.run_bind, run_underlying (tyString_true ht), Result.andThen_ok]; rfl) (.lit _) ⟨hK, rfl⟩
    · exact hK.elim

/-- 'max', 'min' of whole numbers. -/
def maxI (x y : Int) : Int := if y > x then y else x
def minI (x y : Int) : Int := if y < x then y else x

def aMinMax (f : Int → Int → Int) : List AVal → (AVal → Prop) → Prop
  | [.lit (.int k a), .lit (.int _ b)], K => K (.lit (.int k (f a b)))
  | [.lit (.int k a), .lit (.int _ b), .lit (.int _ c)], K => K (.lit (.int k (f (f a b) c)))
  | _, _ => False

theorem VRs.two {x y : AVal} {us : Array Value} (hv : VRs ρ h w [x, y] us) : ∃ u v, us = #[u, v] ∧ VR ρ h w x u ∧ VR ρ h w y v := by
  obtain ⟨l⟩ := us
  match l, hv.1 with
  | [u, v], _ => exact ⟨u, v, rfl, hv.2 0 (by simp), hv.2 1 (by simp)⟩

theorem VRs.three {x y z : AVal} {us : Array Value} (hv : VRs ρ h w [x, y, z] us) : ∃ u v r, us = #[u, v, r] ∧ VR ρ h w x u ∧ VR ρ h w y v ∧ VR ρ h w z r := by
  obtain ⟨l⟩ := us
  match l, hv.1 with
  | [u, v, r], _ => exact ⟨u, v, r, rfl, hv.2 0 (by simp), hv.2 1 (by simp), hv.2 2 (by simp)⟩

theorem VRs.single {x : AVal} {us : Array Value} (hv : VRs ρ h w [x] us) : ∃ u, us = #[u] ∧ VR ρ h w x u := by
  obtain ⟨l⟩ := us
  match l, hv.1 with
  | [u], _ => exact ⟨u, rfl, hv.2 0 (by simp)⟩

theorem aMax_sound {ts : Array TypeId} {ty : TypeId} {xs : List AVal} {us : Array Value} {K : AVal → Prop} (hR : Rel ρ h w) (hx : VRs ρ h w xs us) (hK : aMinMax maxI xs K) : Gives P ρ h w (Builtin.max_ ts ty us) fun v h' => K v ∧ h' = h := by
  unfold aMinMax at hK
  split at hK
  · obtain ⟨u, v, rfl, h1, h2⟩ := hx.two
    cases h1; cases h2
    exact .same hR rfl (.lit _) ⟨hK, rfl⟩
  · obtain ⟨u, v, r, rfl, h1, h2, h3⟩ := hx.three
    cases h1; cases h2; cases h3
    exact .same hR rfl (.lit _) ⟨hK, rfl⟩
  · exact hK.elim

theorem aMin_sound {ts : Array TypeId} {ty : TypeId} {xs : List AVal} {us : Array Value} {K : AVal → Prop} (hR : Rel ρ h w) (hx : VRs ρ h w xs us) (hK : aMinMax minI xs K) : Gives P ρ h w (Builtin.min_ ts ty us) fun v h' => K v ∧ h' = h := by
  unfold aMinMax at hK
  split at hK
  · obtain ⟨u, v, rfl, h1, h2⟩ := hx.two
    cases h1; cases h2
    exact .same hR rfl (.lit _) ⟨hK, rfl⟩
  · obtain ⟨u, v, r, rfl, h1, h2, h3⟩ := hx.three
    cases h1; cases h2; cases h3
    exact .same hR rfl (.lit _) ⟨hK, rfl⟩
  · exact hK.elim

end Go.Proofs.Ytglmofbcooefkaa.AL
