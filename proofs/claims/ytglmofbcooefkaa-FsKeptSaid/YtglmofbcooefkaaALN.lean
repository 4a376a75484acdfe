/- A range over a map: every order in which the entries may come. -/
import Derived.Test.YtglmofbcooefkaaALM
import Derived.Maps.RangeRun
namespace Go.Proofs.Ytglmofbcooefkaa.AL
set_option linter.unusedVariables false
set_option linter.unusedSimpArgs false
open Go

variable {ρ ρ' : Env} {h h' : AHeap} {w w' : World} {P : Program}

def tyMapB (P : Program) (t : TypeId) : Bool := match P.underlying t with
  | some (.map _ _) => true
  | _ => false
def aRangeM (P : Program) (t : TypeId) (x : AVal) (h : AHeap) (K : AVal → AHeap → Prop) : Prop := tyMapB P t = true ∧ match x with
  | .map b => match h[b]? with
    | some (.mapS _ _ _ clock) => K (.ptr h.length 0) (h ++ [.mit b clock [] clock])
    | _ => False
  | _ => False
theorem aRangeM_sound {t : TypeId} {x : AVal} {u : Value} {K : AVal → AHeap → Prop} (hR : Rel ρ h w) (hx : VR ρ h w x u) (hK : aRangeM P t x h K) : Gives P ρ h w (Instr.range t u) K := by
  unfold aRangeM at hK
  obtain ⟨ht, hK⟩ := hK
  unfold tyMapB at ht
  split at ht
  · rename_i k e hu
    split at hK
    · rename_i b
      split at hK
      · rename_i d es bs clock hb
        cases hx with | map _ hlt =>
        obtain ⟨C, hc, hs, hbs, hl, hes⟩ := hR.obj b _ hb
        have hrun := run_range_map (P := P) w t k e (ρ b).blk C clock hu hc
        refine ⟨ext ρ h.length ⟨w.heap.size, 0, 0⟩, _, _, .ptr h.length 0, _, hrun, evo_push (l := ⟨w.heap.size, 0, 0⟩) hR rfl, ?_, ?_, hK⟩
        · refine Rel.push (l := ⟨w.heap.size, 0, 0⟩) hR rfl ⟨by simp; omega, rfl, ?_⟩
          have : ext ρ h.length ⟨w.heap.size, 0, 0⟩ b = ρ b := by simp [ext, Nat.ne_of_lt hlt]
          rw [this]; simp
        · have := VR.ptr (ρ := ext ρ h.length ⟨w.heap.size, 0, 0⟩) (h := h ++ [.mit b clock [] clock]) (w := w.alloc (.mapIter (some (ρ b).blk) clock #[] clock)) h.length 0 (by simp)
          simpa [ext_self] using this
      · exact hK.elim
    · exact hK.elim
  · cases ht

/-- One that is left, whichever; or none is. -/
def aNextM (x : AVal) (h : AHeap) (K : AVal → AHeap → Prop) : Prop := match x with
  | .ptr b 0 => match h[b]? with
    | some (.mit mb since seen c0) => match h[mb]? with
      | some (.mapS d es bs clock) => (∀ s ∈ bs, s < since) ∧ since ≤ c0 ∧ ((∀ s ∈ bs, s ∈ seen) → K (.tup [.lit (.bool false)]) h) ∧
          ∀ (i : Nat) (hi : i < es.length) (s : Nat), bs[i]? = some s → s ∉ seen → K (.tup [.lit (.bool true), .lit es[i].1, es[i].2]) (h.set b (.mit mb since (seen ++ [s]) clock))
      | _ => False
    | _ => False
  | _ => False
theorem VR.tupv3 {u v : Value} {x : AVal} {y : Value} (hx : VR ρ h w x y) : VR ρ h w (.tup [.lit u, .lit v, x]) (.tuple #[u, v, y]) := .tup _ _ rfl fun i hi => match i, hi with
  | 0, _ => .lit u
  | 1, _ => .lit v
  | 2, _ => hx
theorem VR.tupv2 {u : Value} {x : AVal} {y : Value} (hx : VR ρ h w x y) : VR ρ h w (.tup [.lit u, x]) (.tuple #[u, y]) := .tup _ _ rfl fun i hi => match i, hi with
  | 0, _ => .lit u
  | 1, _ => hx
theorem getD_of_mem {C : Array MapEntry} {e : MapEntry} (he : e ∈ C.toList) : ∃ i, i < C.size ∧ C.getD i default = e := by
  obtain ⟨i, hi, rfl⟩ := List.getElem_of_mem he
  exact ⟨i, by simpa using hi, by simp [Array.getD, show i < C.size by simpa using hi]⟩
theorem aNextM_sound {x : AVal} {u : Value} {t : TypeId} {K : AVal → AHeap → Prop} (hR : Rel ρ h w) (hx : VR ρ h w x u) (hK : aNextM x h K) : Gives P ρ h w (Instr.next u false t) K := by
  unfold aNextM at hK
  split at hK
  · rename_i b
    split at hK
    · rename_i mb since seen c0 hb
      split at hK
      · rename_i d es bs clock hm
        obtain ⟨hlt, hbase, hit⟩ := hR.obj b _ hb
        obtain ⟨C, hc, hs, hbs, hl, hes⟩ := hR.obj mb _ hm
        have hx0 : u = .pointer (some ⟨(ρ b).blk, 0, none⟩) := by cases hx; simp [hbase]
        subst hx0
        obtain ⟨g1, g2, g3, g4⟩ := hK
        have hold : ∀ x ∈ C.toList, x.born < since := fun x hx => g1 _ (by rw [hbs]; exact List.mem_map.2 ⟨x, hx, rfl⟩)
        rcases run_next_at (P := P) w t (ρ b).blk (ρ mb).blk since c0 seen.toArray C clock hit hc hold g2 with ⟨h0, hrun⟩ | ⟨e, he, w1, hw1, hrun⟩
        · refine Gives.same hR hrun (VR.tup1 _) (g3 fun s hs => ?_)
          rw [hbs] at hs
          obtain ⟨e, he, rfl⟩ := List.mem_map.1 hs
          have := all_seen C seen.toArray h0 e he
          simpa using this
        · obtain ⟨hem, hun⟩ := mem_left he
          obtain ⟨i, hi, hie⟩ := getD_of_mem hem
          have hi' : i < es.length := by rw [← hl]; exact hi
          obtain ⟨k1, k2, k3⟩ := hes i hi'
          rw [hie] at k1 k3
          have hbi : bs[i]? = some e.born := by
            rw [hbs, List.getElem?_map, List.getElem?_eq_getElem (by simpa using hi)]
            have : C.toList[i]'(by simpa using hi) = e := by rw [← hie]; simp [Array.getD, hi]
            rw [this]; rfl
          have hns : e.born ∉ seen := by simpa using hun
          have hsame : Same w w1 ∧ w1.heap = w.heap := by rcases hw1 with rfl | rfl <;> exact ⟨⟨rfl, rfl, rfl⟩, rfl⟩
          obtain ⟨R1, e1⟩ := hR.like hsame.1 hsame.2
          have hit1 : w1.heap[(ρ b).blk]? = some (.mapIter (some (ρ mb).blk) since seen.toArray c0) := by rw [hsame.2]; exact hit
          obtain ⟨h1, h2⟩ := MapKept.heap_set (o' := .mapIter (some (ρ mb).blk) since (seen.toArray.push e.born) clock) hit1
          have e2 : Evo ρ h w1 ρ (h.set b (.mit mb since (seen ++ [e.born]) clock)) (Go.ChangeMaps.setBlock w1 (ρ b).blk (.mapIter (some (ρ mb).blk) since (seen.toArray.push e.born) clock)) :=
            evo_set R1 hb (by simp) ⟨rfl, rfl, rfl⟩ (by simp [Go.ChangeMaps.setBlock]) h2 (fun r hr => noloop R1 hb rfl r hr)
          have R2 : Rel ρ (h.set b (.mit mb since (seen ++ [e.born]) clock)) (Go.ChangeMaps.setBlock w1 (ρ b).blk (.mapIter (some (ρ mb).blk) since (seen.toArray.push e.born) clock)) :=
            R1.set hb (by simp) ⟨rfl, rfl, rfl⟩ (by simp [Go.ChangeMaps.setBlock]) h2 (fun r hr => noloop R1 hb rfl r hr) ⟨by simpa using hlt, hbase, by
              have : (seen ++ [e.born]).toArray = seen.toArray.push e.born := by simp
              rw [this]; exact h1⟩
          refine ⟨ρ, _, _, _, _, hrun, e1.trans e2, R2, VR.tupv3 ((k3.evo e1).evo e2), ?_⟩
          have := g4 i hi' e.born hbi hns
          rw [← k1] at this
          exact this
      · exact hK.elim
    · exact hK.elim
  · exact hK.elim

/-- The entry that came last. -/
def aEntry (x : AVal) (h : AHeap) (K : AVal → AHeap → Prop) : Prop := match x with
  | .ptr b 0 => match h[b]? with
    | some (.mit mb since seen c0) => match h[mb]? with
      | some (.mapS d es bs clock) => ∃ (pre : List Nat) (s i : Nat) (hi : i < es.length), seen = pre ++ [s] ∧ bs[i]? = some s ∧ c0 = clock ∧ K (.tup [.lit es[i].1, es[i].2]) h
      | _ => False
    | _ => False
  | _ => False
theorem aEntry_sound {x : AVal} {u : Value} {K : AVal → AHeap → Prop} (hR : Rel ρ h w) (hx : VR ρ h w x u) (hK : aEntry x h K) : Gives P ρ h w (Instr.entry u) K := by
  unfold aEntry at hK
  split at hK
  · rename_i b
    split at hK
    · rename_i mb since seen c0 hb
      split at hK
      · rename_i d es bs clock hm
        obtain ⟨hlt, hbase, hit⟩ := hR.obj b _ hb
        obtain ⟨C, hc, hs, hbs, hl, hes⟩ := hR.obj mb _ hm
        have hx0 : u = .pointer (some ⟨(ρ b).blk, 0, none⟩) := by cases hx; simp [hbase]
        subst hx0
        obtain ⟨pre, s, i, hi, rfl, hbi, rfl, hK⟩ := hK
        have hiC : i < C.size := by rw [hl]; exact hi
        obtain ⟨k1, k2, k3⟩ := hes i hi
        have hborn : (C.getD i default).born = s := by
          rw [hbs, List.getElem?_map, List.getElem?_eq_getElem (by simpa using hiC)] at hbi
          simp only [Option.map_some, Option.some.injEq] at hbi
          simp [Array.getD, hiC]; simpa using hbi
        have hmem : C.getD i default ∈ C.toList := by simp [Array.getD, hiC]
        have hrun := run_entry_at (P := P) w (ρ b).blk (ρ mb).blk since pre.toArray C c0 (C.getD i default) (by
          rw [hborn]
          have : (pre ++ [s]).toArray = pre.toArray.push s := by simp
          rw [← this]; exact hit) hc hmem ((MapKept.stamped_iff C c0).1 hs).2.1
        refine Gives.same hR hrun (VR.tupv2 k3) ?_
        rw [k1]; exact hK
      · exact hK.elim
    · exact hK.elim
  · exact hK.elim
end Go.Proofs.Ytglmofbcooefkaa.AL
