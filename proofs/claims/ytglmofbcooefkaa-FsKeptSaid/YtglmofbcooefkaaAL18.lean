/- What a law is given, read as data; and what it owes. -/
import Derived.Test.YtglmofbcooefkaaAL17
import Derived.Below
import Derived.Carry
import Derived.WideLaws
import Derived.ProofKit
import Derived.OpenShut
import Derived.ChangeOld
import Derived.SizedLaws
namespace Go.Proofs.Ytglmofbcooefkaa.AL
set_option linter.unusedVariables false
set_option linter.unusedSimpArgs false
open Go

variable {P : Program}

def litV : Lit → Value
  | .bool b => .bool b
  | .int k n => .int k n
  | .float k b => .float k b
  | .string l => .string ⟨l.toArray⟩
  | .nil => undef

mutual
def absD {H : Type} : DataW H → List AVal
  | .lit l => [.lit (litV l)]
  | .nil => [.lit (.slice none 0 0)]
  | .slice es _ => [.ros (absDs es) es.length]
  | .agg ds => absDs ds
  | _ => [.any]
def absDs {H : Type} : List (DataW H) → List AVal
  | [] => []
  | d :: ds => absD d ++ absDs ds
end

/-- The shape of what holds numbers, texts, bools, structs, arrays and lists of them. -/
inductive Sh where
  | int (k : IntKind) | str | bool
  | strct (fs : List Sh)
  | slice (e : Sh)
  | arr (n : Nat) (e : Sh)

def shGo (P : Program) (rec : TypeId → Option Sh) : List Field → Nat → Option (List Sh × Nat)
  | [], o => some ([], o)
  | f :: fs, o => if f.offset = o then match rec f.type, shGo P rec fs (o + P.cellsOf f.type) with
      | some s, some (l, n) => some (s :: l, n)
      | _, _ => none
    else none

def shOf (P : Program) : Nat → TypeId → Option Sh
  | 0, _ => none
  | n + 1, t => match P.underlying t with
    | some (.int k) => if P.cellsOf t = 1 then some (.int k) else none
    | some .string => if P.cellsOf t = 1 then some .str else none
    | some .bool => if P.cellsOf t = 1 then some .bool else none
    | some (.slice e) => if P.cellsOf t = 1 ∧ 0 < P.cellsOf e then (shOf P n e).map .slice else none
    | some (.struct fs) => match shGo P (shOf P n) fs.toList 0 with
      | some (l, m) => if m = P.cellsOf t then some (.strct l) else none
      | none => none
    | some (.array m e) => if m * P.cellsOf e = P.cellsOf t then (shOf P n e).map (.arr m) else none
    | _ => none

mutual
def Fits {H : Type} : Sh → DataW H → Prop
  | .int k, d => ∃ n, d = .lit (.int k n) ∧ k.min ≤ n ∧ n ≤ k.max
  | .str, d => ∃ l : List UInt8, d = .lit (.string l) ∧ l.length ≤ maxLen
  | .bool, d => ∃ b, d = .lit (.bool b)
  | .strct fs, d => ∃ ds, d = .agg ds ∧ FitsL fs ds
  | .slice e, d => d = .nil ∨ ∃ es sp, d = .slice es sp ∧ es.length ≤ maxLen ∧ ∀ x ∈ es, Fits e x
  | .arr n e, d => ∃ ds, d = .agg ds ∧ ds.length = n ∧ ∀ x ∈ ds, Fits e x
def FitsL {H : Type} : List Sh → List (DataW H) → Prop
  | [], ds => ds = []
  | s :: ss, ds => ∃ d ds', ds = d :: ds' ∧ Fits s d ∧ FitsL ss ds'
end

theorem VRs.nil {ρ : Env} {h : AHeap} {w : World} : VRs ρ h w [] #[] := ⟨rfl, fun i hi => by simp at hi⟩

theorem absDs_length {H : Type} {k : Nat} : ∀ {ds : List (DataW H)}, (∀ d ∈ ds, (absD d).length = k) → (absDs ds).length = ds.length * k
  | [], _ => by simp [absDs]
  | d :: ds, hk => by
    have h1 := hk d (by simp)
    have h2 := absDs_length (ds := ds) fun x hx => hk x (by simp [hx])
    simp [absDs, h1, h2, Nat.add_mul, Nat.add_comm]

theorem absDs_get {H : Type} {k : Nat} : ∀ {ds : List (DataW H)} {i j : Nat}, (∀ d ∈ ds, (absD d).length = k) → (hi : i < ds.length) → j < k → (absDs ds)[i * k + j]? = (absD ds[i])[j]?
  | [], i, j, _, hi, _ => by simp at hi
  | d :: ds, 0, j, hk, _, hj => by
    have h1 := hk d (by simp)
    simp only [absDs, Nat.zero_mul, Nat.zero_add, List.getElem_cons_zero]
    rw [List.getElem?_append_left (by omega)]
  | d :: ds, i + 1, j, hk, hi, hj => by
    have h1 := hk d (by simp)
    simp only [absDs, List.getElem_cons_succ]
    have e : (i + 1) * k + j = k + (i * k + j) := by rw [Nat.add_mul]; omega
    rw [e, List.getElem?_append_right (by omega), h1, Nat.add_sub_cancel_left]
    exact absDs_get (ds := ds) (fun x hx => hk x (by simp [hx])) (by simpa using hi) hj

theorem mapM_some {α β : Type} {f : α → Option β} : ∀ {l : List α} {r : List β}, l.mapM f = some r → r.length = l.length ∧ ∀ (i : Nat) (hi : i < l.length) (hj : i < r.length), f l[i] = some r[i]
  | [], r, h => by simp at h; subst h; simp
  | x :: l, r, h => by
    simp only [List.mapM_cons, Option.bind_eq_bind, Option.pure_def] at h
    cases hx : f x with
    | none => simp [hx] at h
    | some y =>
      cases hl : l.mapM f with
      | none => simp [hx, hl] at h
      | some ys =>
        simp [hx, hl] at h
        subst h
        obtain ⟨h1, h2⟩ := mapM_some hl
        refine ⟨by simp [h1], fun i hi hj => ?_⟩
        cases i with
        | zero => simpa using hx
        | succ i => simpa using h2 i (by simpa using hi) (by simpa using hj)

theorem cells_of_cells {w : World} {base : Nat} {a : Addr} {n : Nat} {l : List Value} (h : w.cells? base a n = some l) : l.length = n ∧ ∀ (j : Nat) (hj : j < l.length), w.cell? (a.add j) = some l[j] := by
  unfold World.cells? at h
  split at h
  · obtain ⟨h1, h2⟩ := mapM_some h
    have h3 : l.length = n := by simpa using h1
    refine ⟨h3, fun j hj => ?_⟩
    have := h2 j (by simp; omega) hj
    simpa using this
  · simp at h

/-- What is read of a value: its shape, and what stands for it. -/
def Reads (P : Program) (ρ : Env) (w : World) {H : Type} (t : TypeId) (sh : Sh) (d : DataW H) (cs : List Value) : Prop :=
  Fits sh d ∧ VRs ρ [] w (absD d) cs.toArray ∧ (absD d).length = P.cellsOf t

theorem shGo_reads {ρ : Env} {w : World} {H : Type} {rec : TypeId → Option Sh} {tr : TypeId → List Value → Option (DataW H × List MemPlace)} {cs : List Value}
    (ih : ∀ t sh cs d ps, rec t = some sh → tr t cs = some (d, ps) → Reads P ρ w t sh d cs) : ∀ (fs : List Field) (o m : Nat) (shs : List Sh) (xs : List (DataW H × List MemPlace)),
      shGo P rec fs o = some (shs, m) → fs.mapM (fun f => tr f.type ((cs.drop f.offset).take (P.cellsOf f.type))) = some xs →
      o ≤ m ∧ FitsL shs (xs.map (·.1)) ∧ (absDs (xs.map (·.1))).length = m - o ∧ VRs ρ [] w (absDs (xs.map (·.1))) ((cs.drop o).take (m - o)).toArray := by
  intro fs
  induction fs with
  | nil =>
    intro o m shs xs hs hm
    simp [shGo] at hs
    obtain ⟨rfl, rfl⟩ := hs
    simp at hm
    subst hm
    refine ⟨Nat.le_refl _, rfl, by simp [absDs], ?_⟩
    simp [absDs]; exact VRs.nil
  | cons f fs ihf =>
    intro o m shs xs hs hm
    simp only [shGo] at hs
    split at hs
    · rename_i hoff
      subst hoff
      cases hr : rec f.type with
      | none => simp [hr] at hs
      | some s =>
        cases hg : shGo P rec fs (f.offset + P.cellsOf f.type) with
        | none => simp [hr, hg] at hs
        | some p =>
          obtain ⟨l, n⟩ := p
          simp only [hr, hg, Option.some.injEq, Prod.mk.injEq] at hs
          obtain ⟨rfl, rfl⟩ := hs
          simp only [List.mapM_cons, Option.bind_eq_bind, Option.pure_def] at hm
          cases hx : tr f.type ((cs.drop f.offset).take (P.cellsOf f.type)) with
          | none => simp [hx] at hm
          | some x =>
            cases hl : fs.mapM (fun f => tr f.type ((cs.drop f.offset).take (P.cellsOf f.type))) with
            | none => simp [hx, hl] at hm
            | some ys =>
              simp [hx, hl] at hm
              subst hm
              obtain ⟨d, ps⟩ := x
              obtain ⟨r1, r2, r3⟩ := ih f.type s _ d ps hr hx
              obtain ⟨q0, q1, q2, q3⟩ := ihf (f.offset + P.cellsOf f.type) n l ys hg hl
              have hlen : ((cs.drop f.offset).take (P.cellsOf f.type)).length = P.cellsOf f.type := by
                have := r2.1; rw [r3] at this; simpa using this.symm
              refine ⟨by omega, ⟨d, ys.map (·.1), rfl, r1, q1⟩, ?_, ?_⟩
              · simp only [List.map_cons, absDs, List.length_append, r3, q2]; omega
              · simp only [List.map_cons, absDs]
                have e : (cs.drop f.offset).take (n - f.offset) = (cs.drop f.offset).take (P.cellsOf f.type) ++ (cs.drop (f.offset + P.cellsOf f.type)).take (n - (f.offset + P.cellsOf f.type)) := by
                  have h1 : n - f.offset = P.cellsOf f.type + (n - (f.offset + P.cellsOf f.type)) := by omega
                  rw [h1, List.take_add, List.drop_drop]
                rw [e, ← List.append_toArray]
                exact r2.append q3
    · simp at hs

theorem cell_at {w : World} {a : Addr} {x y : Nat} {v : Value} {C : Array Value} {T : TypeId} {fz : Nat × Nat} (hs : a.spot = none) (hC : w.heap[a.block]? = some (.cells C T fz)) (h : w.cell? ((a.add x).add y) = some v) : C[a.off + x + y]? = some v := by
  have e1 : ((a.add x).add y).block = a.block := by unfold Addr.add; split <;> split <;> rfl
  have e2 : ((a.add x).add y).off = a.off + x + y := by unfold Addr.add; split <;> split <;> simp_all
  have e3 : ((a.add x).add y).spot = none := by unfold Addr.add; split <;> split <;> simp_all
  unfold World.cell? at h
  rw [e1, hC, e2, e3] at h
  simpa using h

theorem spot_of {w : World} {a : Addr} {v : Value} (h : w.cell? a = some v) : a.spot = none ∧ ∃ C T fz, w.heap[a.block]? = some (.cells C T fz) := by
  unfold World.cell? at h
  split at h
  · rename_i C T fz hC
    split at h
    · simp at h
    · rename_i hs
      exact ⟨by simpa using hs, C, T, fz, hC⟩
  · simp at h

theorem trod_reads {ρ : Env} {w : World} {H : Type} {enc : TypeId × Value → H} {base : Nat} {spare : Nat → Bool} {held : Bool} : ∀ (fuel n : Nat) (t : TypeId) (sh : Sh) (cs : List Value) (d : DataW H) (ps : List MemPlace),
    shOf P n t = some sh → DataW.trod enc P w base spare held fuel t cs = some (d, ps) → Reads P ρ w t sh d cs := by
  intro fuel
  induction fuel with
  | zero => intro n t sh cs d ps _ h; simp [DataW.trod] at h
  | succ fuel ih =>
    intro n t sh cs d ps hs h
    cases n with
    | zero => simp [shOf] at hs
    | succ n =>
      simp only [shOf] at hs
      cases hu : P.underlying t with
      | none => rw [hu] at hs; simp at hs
      | some D =>
        rw [hu] at hs
        cases D with
        | int k =>
          simp only at hs
          split at hs
          · rename_i hc
            obtain ⟨v, rfl, hx, hw⟩ := DataW.trod_int hu h
            simp only [Option.some.injEq, Prod.mk.injEq] at hs hx
            subst hs
            obtain ⟨rfl, rfl⟩ := hx
            simp only [Lit.wf, Bool.and_eq_true, decide_eq_true_eq] at hw
            exact ⟨⟨_, rfl, hw.1, hw.2⟩, VRs.one (.lit _), by simp [absD, hc]⟩
          · simp at hs
        | string =>
          simp only at hs
          split at hs
          · rename_i hc
            obtain ⟨v, rfl, hx, hw⟩ := DataW.trod_string hu h
            simp only [Option.some.injEq, Prod.mk.injEq] at hs hx
            subst hs
            obtain ⟨rfl, rfl⟩ := hx
            refine ⟨⟨_, rfl, by simpa using hw⟩, ?_, by simp [absD, hc]⟩
            simp only [absD, litV, Array.toArray_toList]
            exact VRs.one (.lit _)
          · simp at hs
        | bool =>
          simp only at hs
          split at hs
          · rename_i hc
            obtain ⟨v, rfl, hx⟩ := DataW.trod_bool hu h
            simp only [Option.some.injEq, Prod.mk.injEq] at hs hx
            subst hs
            obtain ⟨rfl, rfl⟩ := hx
            exact ⟨⟨_, rfl⟩, VRs.one (.lit _), by simp [absD, hc]⟩
          · simp at hs
        | slice e =>
          simp only at hs
          split at hs
          · rename_i hc
            obtain ⟨se, hse, rfl⟩ := Option.map_eq_some_iff.1 hs
            obtain ⟨hc, hk⟩ := hc
            rcases DataW.trod_slice hu h with ⟨rfl, hx⟩ | ⟨a, len, cap, elems, rest, m, hf, rfl, hx, hb, hl, hcap, hel, he, -, -⟩
            · simp only [Prod.mk.injEq] at hx
              obtain ⟨rfl, rfl⟩ := hx
              exact ⟨.inl rfl, VRs.one (.lit _), by simp [absD, hc]⟩
            · simp only [Prod.mk.injEq] at hx
              obtain ⟨rfl, rfl⟩ := hx
              obtain rfl : fuel = m := by omega
              have rd : ∀ (i : Nat) (hi : i < elems.length), ∃ l, w.cells? base (a.add (i * P.cellsOf e)) (P.cellsOf e) = some l ∧ Reads P ρ w e se elems[i].1 l := by
                intro i hi
                have := he i (by omega)
                rw [List.getElem?_eq_getElem hi] at this
                obtain ⟨l, h1, h2⟩ := Option.bind_eq_some_iff.1 this
                exact ⟨l, h1, ih n e se l elems[i].1 elems[i].2 hse h2⟩
              have hks : ∀ d ∈ elems.map (·.1), (absD d).length = P.cellsOf e := by
                intro d hd
                obtain ⟨x, hx, rfl⟩ := List.mem_map.1 hd
                obtain ⟨i, hi, rfl⟩ := List.mem_iff_getElem.1 hx
                obtain ⟨l, _, r⟩ := rd i hi
                exact r.2.2
              refine ⟨.inr ⟨_, _, rfl, by simp; omega, ?_⟩, ?_, by simp [absD, hc]⟩
              · intro d hd
                obtain ⟨x, hx, rfl⟩ := List.mem_map.1 hd
                obtain ⟨i, hi, rfl⟩ := List.mem_iff_getElem.1 hx
                obtain ⟨l, _, r⟩ := rd i hi
                exact r.1
              · simp only [absD]
                apply VRs.one
                cases hz : elems with
                | nil =>
                  subst hz
                  simp only [List.length_nil] at hel
                  subst hel
                  simp only [List.map_nil, absDs, List.length_nil]
                  exact .rosZ [] (by simp) _ _
                | cons x xs =>
                  rw [← hz]
                  have h0 : 0 < elems.length := by rw [hz]; simp
                  have cl : ∀ (i : Nat) (hi : i < elems.length) (j : Nat) (hj : j < P.cellsOf e), ∃ v, w.cell? ((a.add (i * P.cellsOf e)).add j) = some v ∧ VR ρ [] w ((absD elems[i].1).getD j .any) v := by
                    intro i hi j hj
                    obtain ⟨l, h1, r⟩ := rd i hi
                    obtain ⟨h2, h3⟩ := cells_of_cells h1
                    refine ⟨l[j]'(by omega), h3 j (by omega), ?_⟩
                    have h4 := r.2.1.2 j (by rw [r.2.2]; exact hj)
                    rw [List.getD_eq_getElem?_getD, List.getElem?_eq_getElem (by rw [r.2.2]; exact hj)]
                    simpa [Array.getD, h2, hj] using h4
                  obtain ⟨v0, hv0, _⟩ := cl 0 h0 0 hk
                  have e0 : (a.add (0 * P.cellsOf e)).add 0 = a := by simp [Addr.add]
                  rw [e0] at hv0
                  obtain ⟨hsp, C, T, fz, hC⟩ := spot_of hv0
                  have hlen : (absDs (elems.map (·.1))).length = elems.length * P.cellsOf e := by
                    rw [absDs_length hks]; simp
                  have key : ∀ (i : Nat) (hi : i < (absDs (elems.map (·.1))).length), ∃ v, C[a.off + i]? = some v ∧ VR ρ [] w (absDs (elems.map (·.1)))[i] v := by
                    intro i hi
                    have hi' : i < elems.length * P.cellsOf e := by omega
                    have hq : i / P.cellsOf e < elems.length := (Nat.div_lt_iff_lt_mul hk).2 hi'
                    have hr : i % P.cellsOf e < P.cellsOf e := Nat.mod_lt _ hk
                    obtain ⟨v, hv, hvr⟩ := cl _ hq _ hr
                    have hdm : i / P.cellsOf e * P.cellsOf e + i % P.cellsOf e = i := by rw [Nat.mul_comm]; exact Nat.div_add_mod i _
                    have hat := cell_at hsp hC hv
                    rw [Nat.add_assoc, hdm] at hat
                    refine ⟨v, hat, ?_⟩
                    have hg := absDs_get (j := i % P.cellsOf e) hks (i := i / P.cellsOf e) (by simpa using hq) hr
                    rw [hdm, List.getElem?_eq_getElem hi] at hg
                    simp only [List.getElem_map] at hg
                    rw [List.getD_eq_getElem?_getD, ← hg] at hvr
                    exact hvr
                  have hnone : ¬ Owned ρ [] a.block := by
                    rintro ⟨b, o, hb, _⟩
                    simp at hb
                  have ea : a = ⟨a.block, a.off, none⟩ := by cases a; simp_all
                  have hl' : elems.length ≤ cap := by omega
                  rw [List.length_map, ← hel, ea]
                  refine .ros _ a.block a.off _ _ C T fz hl' hC hnone ?_ ?_
                  · intro i hi
                    obtain ⟨v, hv, _⟩ := key i hi
                    exact (Array.getElem?_eq_some_iff.1 hv).1
                  · intro i hi
                    obtain ⟨v, hv, hr⟩ := key i hi
                    rw [Array.getD_eq_getD_getElem?, hv]
                    exact hr
          · simp at hs
        | struct fs =>
          simp only at hs
          cases hg : shGo P (shOf P n) fs.toList 0 with
          | none => rw [hg] at hs; simp at hs
          | some p =>
            obtain ⟨l, m⟩ := p
            rw [hg] at hs
            simp only at hs
            split at hs
            · rename_i hm
              simp only [Option.some.injEq] at hs
              subst hs
              simp only [DataW.trod, hu] at h
              split at h
              · rename_i hlen
                simp only [Option.map_eq_some_iff, Prod.mk.injEq] at h
                obtain ⟨xs, hx, rfl, rfl⟩ := h
                obtain ⟨q0, q1, q2, q3⟩ := shGo_reads (P := P) (ρ := ρ) (w := w) (fun t sh cs d ps h1 h2 => ih n t sh cs d ps h1 h2) fs.toList 0 m l xs hg hx
                refine ⟨⟨_, rfl, q1⟩, ?_, by simp only [absD]; rw [q2]; omega⟩
                simp only [absD]
                have e : ((cs.drop 0).take (m - 0)) = cs := by rw [List.drop_zero, Nat.sub_zero]; exact List.take_of_length_le (by omega)
                rw [e] at q3
                exact q3
              · simp at h
            · simp at hs
        | array m e =>
          simp only at hs
          split at hs
          · rename_i hm
            obtain ⟨se, hse, rfl⟩ := Option.map_eq_some_iff.1 hs
            simp only [DataW.trod, hu] at h
            split at h
            · rename_i hlen
              simp only [Option.map_eq_some_iff, Prod.mk.injEq] at h
              obtain ⟨xs, hx, rfl, rfl⟩ := h
              obtain ⟨hl, hg⟩ := mapM_some hx
              rw [List.length_range] at hl
              have rd : ∀ (i : Nat) (hi : i < xs.length), Reads P ρ w e se xs[i].1 ((cs.drop (i * P.cellsOf e)).take (P.cellsOf e)) := by
                intro i hi
                have := hg i (by simp; omega) hi
                simp only [List.getElem_range] at this
                exact ih n e se _ _ _ hse this
              have hks : ∀ d ∈ xs.map (·.1), (absD d).length = P.cellsOf e := by
                intro d hd
                obtain ⟨x, hx, rfl⟩ := List.mem_map.1 hd
                obtain ⟨i, hi, rfl⟩ := List.mem_iff_getElem.1 hx
                exact (rd i hi).2.2
              have hlen' : (absDs (xs.map (·.1))).length = P.cellsOf t := by rw [absDs_length hks, List.length_map, hl, hm]
              refine ⟨⟨_, rfl, by simp [hl], ?_⟩, ?_, by simpa [absD] using hlen'⟩
              · intro d hd
                obtain ⟨x, hx, rfl⟩ := List.mem_map.1 hd
                obtain ⟨i, hi, rfl⟩ := List.mem_iff_getElem.1 hx
                exact (rd i hi).1
              · simp only [absD]
                refine ⟨by simp [hlen', hlen], fun i hi => ?_⟩
                have hi' : i < m * P.cellsOf e := by omega
                have hk : 0 < P.cellsOf e := by
                  rcases Nat.eq_zero_or_pos (P.cellsOf e) with h0 | h0
                  · rw [h0] at hi'; omega
                  · exact h0
                have hq : i / P.cellsOf e < xs.length := by rw [hl]; exact (Nat.div_lt_iff_lt_mul hk).2 hi'
                have hr : i % P.cellsOf e < P.cellsOf e := Nat.mod_lt _ hk
                have hdm : i / P.cellsOf e * P.cellsOf e + i % P.cellsOf e = i := by rw [Nat.mul_comm]; exact Nat.div_add_mod i _
                have r := rd _ hq
                have h4 := r.2.1.2 (i % P.cellsOf e) (by rw [r.2.2]; exact hr)
                have hg := absDs_get (j := i % P.cellsOf e) hks (i := i / P.cellsOf e) (by simpa using hq) hr
                rw [hdm, List.getElem?_eq_getElem hi] at hg
                simp only [List.getElem_map] at hg
                rw [List.getElem?_eq_getElem (by rw [r.2.2]; exact hr)] at hg
                simp only [Option.some.injEq] at hg
                rw [hg]
                have e1 : (((cs.drop (i / P.cellsOf e * P.cellsOf e)).take (P.cellsOf e)).toArray.getD (i % P.cellsOf e) undef) = cs.toArray.getD i undef := by
                  rw [Array.getD_eq_getD_getElem?, Array.getD_eq_getD_getElem?]
                  simp only [List.getElem?_toArray]
                  rw [List.getElem?_take_of_lt hr, List.getElem?_drop, hdm]
                rw [← e1]
                exact h4
            · simp at h
          · simp at hs
        | _ => simp at hs

end Go.Proofs.Ytglmofbcooefkaa.AL
