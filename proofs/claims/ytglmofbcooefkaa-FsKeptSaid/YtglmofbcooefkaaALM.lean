/- Maps; the letters of a text, one by one. -/
import Derived.Test.YtglmofbcooefkaaAL12
namespace Go.Proofs.Ytglmofbcooefkaa.AL
set_option linter.unusedVariables false
set_option linter.unusedSimpArgs false
open Go

variable {ρ ρ' : Env} {h h' : AHeap} {w w' : World} {P : Program}

def tyMap (P : Program) (t : TypeId) : Option (MKey × TypeId × TypeId) := match P.underlying t with
  | some (.map kt et) => match P.underlying kt with
    | some .string => some (.str, kt, et)
    | some .bool => some (.bool, kt, et)
    | some (.int k) => some (.int k, kt, et)
    | _ => none
  | _ => none
theorem tyMap_some {t : TypeId} {d : MKey} {kt et : TypeId} (h : tyMap P t = some (d, kt, et)) : P.underlying t = some (.map kt et) ∧ P.underlying kt = some d.desc := by
  unfold tyMap at h
  split at h
  · rename_i kt' et' hu
    split at h <;> first
      | (rename_i hk; cases h; exact ⟨hu, hk⟩)
      | cases h
  · cases h
/-- Are two keys one? -/
def sameV : Value → Value → Bool
  | .int _ a, .int _ b => decide (a = b)
  | .string a, .string b => decide (a = b)
  | .bool a, .bool b => decide (a = b)
  | _, _ => false
theorem sameV_iff {d : TypeDesc} {a b : Value} (ha : MapKept.IsKey d a) (hb : MapKept.IsKey d b) : sameV a b = true ↔ a = b := by
  cases d <;> cases a <;> cases b <;> simp_all [MapKept.IsKey, sameV]
def mfind (k : Value) : List (Value × AVal) → Option (Nat × AVal)
  | [] => none
  | (x, v) :: es => match sameV x k with
    | true => some (0, v)
    | false => match mfind k es with
      | some (i, v) => some (i + 1, v)
      | none => none
theorem mfind_some {d : TypeDesc} {k : Value} (hk : MapKept.IsKey d k) : ∀ {es : List (Value × AVal)} {i : Nat} {v : AVal}, (∀ p ∈ es, MapKept.IsKey d p.1) → mfind k es = some (i, v) → ∃ hi : i < es.length, es[i] = (k, v)
  | [], i, v, _, h => by cases h
  | (x, u) :: es, i, v, hes, h => by
    unfold mfind at h
    cases hs : sameV x k with
    | true =>
      rw [hs] at h
      cases h
      have e := (sameV_iff (hes (x, u) (by simp)) hk).1 hs
      subst e
      exact ⟨by simp, rfl⟩
    | false =>
      rw [hs] at h
      simp only at h
      cases hm : mfind k es with
      | none => rw [hm] at h; cases h
      | some p =>
        rw [hm] at h
        obtain ⟨j, v'⟩ := p
        cases h
        obtain ⟨hj, e⟩ := mfind_some hk (fun p hp => hes p (by simp [hp])) hm
        exact ⟨by simpa using hj, by simpa using e⟩
theorem mfind_none {d : TypeDesc} {k : Value} (hk : MapKept.IsKey d k) : ∀ {es : List (Value × AVal)}, (∀ p ∈ es, MapKept.IsKey d p.1) → mfind k es = none → ∀ p ∈ es, p.1 ≠ k
  | [], _, _, p, hp => by cases hp
  | (x, u) :: es, hes, h, p, hp => by
    unfold mfind at h
    cases hs : sameV x k with
    | true => rw [hs] at h; cases h
    | false =>
      rw [hs] at h
      simp only at h
      cases hm : mfind k es with
      | some q => rw [hm] at h; cases h
      | none =>
        rcases List.mem_cons.1 hp with rfl | hp
        · intro e
          have := (sameV_iff (hes (x, u) (by simp)) hk).2 e
          rw [hs] at this; cases this
        · exact mfind_none hk (fun p hp => hes p (by simp [hp])) hm p hp
/-- What the table finds is what the list finds. -/
theorem find_eq {d : MKey} {k : Value} (hk : MapKept.IsKey d.desc k) {C : Array MapEntry} {es : List (Value × AVal)} (hl : C.size = es.length) (hn : (C.toList.map (·.key)).Nodup)
    (hC : ∀ (i : Nat) (hi : i < es.length), (C.getD i default).key = es[i].1 ∧ MapKept.IsKey d.desc es[i].1) :
    (mfind k es = none → Instr.findNow d.desc k C.toList 0 = some none ∧ ∀ x ∈ C.toList, x.key ≠ k) ∧ ∀ i v, mfind k es = some (i, v) → ∃ hi : i < es.length, es[i] = (k, v) ∧ Instr.findNow d.desc k C.toList 0 = some (some (i, (C.getD i default).val)) := by
  have get : ∀ (i : Nat) (hi : i < C.size), C.getD i default = C[i] := fun i hi => by simp [Array.getD, hi]
  have keys : ∀ x ∈ C.toList, MapKept.IsKey d.desc x.key := fun x hx => by
    obtain ⟨i, hi, rfl⟩ := List.getElem_of_mem hx
    have hi' : i < C.size := by simpa using hi
    obtain ⟨h1, h2⟩ := hC i (by omega)
    rw [get i hi'] at h1
    have : C.toList[i] = C[i] := by simp
    rw [this, h1]; exact h2
  have es_keys : ∀ p ∈ es, MapKept.IsKey d.desc p.1 := fun p hp => by
    obtain ⟨i, hi, rfl⟩ := List.getElem_of_mem hp
    exact (hC i hi).2
  constructor
  · intro hm
    have hne := mfind_none hk es_keys hm
    have hall : ∀ x ∈ C.toList, x.key ≠ k := fun x hx => by
      obtain ⟨i, hi, rfl⟩ := List.getElem_of_mem hx
      have hi' : i < C.size := by simpa using hi
      obtain ⟨h1, _⟩ := hC i (by omega)
      rw [get i hi'] at h1
      have : C.toList[i] = C[i] := by simp
      rw [this, h1]
      exact hne _ (List.getElem_mem _)
    rcases MapKept.findNow_spec hk C.toList 0 keys with ⟨h1, h2⟩ | ⟨j, e, h1, h2, h3⟩
    · exact ⟨h1, h2⟩
    · exact absurd h3 (hall e (List.mem_of_getElem? h2))
  · intro i v hm
    obtain ⟨hi, e⟩ := mfind_some hk es_keys hm
    refine ⟨hi, e, ?_⟩
    obtain ⟨h1, _⟩ := hC i hi
    have hi' : i < C.size := by omega
    rw [get i hi', e] at h1
    rcases MapKept.findNow_spec hk C.toList 0 keys with ⟨_, h2⟩ | ⟨j, x, h2, h3, h4⟩
    · exact absurd h1 (h2 C[i] (by simp))
    · obtain ⟨hj, h5⟩ := List.getElem?_eq_some_iff.1 h3
      have hj' : j < C.size := by simpa using hj
      have : i = j := by
        have hnd := List.pairwise_map.1 hn
        rcases Nat.lt_trichotomy i j with h | h | h
        · have := (List.pairwise_iff_getElem.1 hnd) i j (by simpa using hi') hj h
          simp only [Array.getElem_toList] at this
          rw [h1] at this
          have h6 : C[j].key = k := by have : C.toList[j] = C[j] := by simp
                                       rw [← this, h5]; exact h4
          exact absurd h6.symm this
        · exact h
        · have := (List.pairwise_iff_getElem.1 hnd) j i hj (by simpa using hi') h
          simp only [Array.getElem_toList] at this
          rw [h1] at this
          have h6 : C[j].key = k := by have : C.toList[j] = C[j] := by simp
                                       rw [← this, h5]; exact h4
          exact absurd h6 this
      subst this
      rw [Nat.zero_add] at h2
      rw [h2, get i hi']
      have : C.toList[i] = C[i] := by simp
      rw [← this, h5]

/-! ### Made, asked, written -/
def aMakeMap (P : Program) (t : TypeId) (h : AHeap) (K : AVal → AHeap → Prop) : Prop := match tyMap P t with
  | some (d, _, _) => K (.map h.length) (h ++ [.map d []])
  | none => False
theorem aMakeMap_sound {t : TypeId} {K : AVal → AHeap → Prop} (hR : Rel ρ h w) (hK : aMakeMap P t h K) : Gives P ρ h w (Instr.makeMap t none) K := by
  unfold aMakeMap at hK
  split at hK
  · rename_i d kt et ht
    have hrun : (Instr.makeMap t none).run P w = .ok (.map (some w.heap.size)) { w with heap := w.heap.push (.map #[] 0) } := by
      simp only [Instr.makeMap, Sem.run_bind, Sem.run_pure, Result.andThen_ok, run_newObj]
    refine ⟨ext ρ h.length ⟨w.heap.size, 0, 0⟩, _, _, .map h.length, _, hrun, evo_push (l := ⟨w.heap.size, 0, 0⟩) hR rfl, ?_, ?_, hK⟩
    · exact Rel.push (l := ⟨w.heap.size, 0, 0⟩) hR rfl ⟨#[], 0, by simp, MapKept.stamped_empty 0, rfl, fun i hi => by simp at hi⟩
    · have := VR.map (ρ := ext ρ h.length ⟨w.heap.size, 0, 0⟩) (h := h ++ [.map d []]) (w := { w with heap := w.heap.push (.map #[] 0) }) h.length (by simp)
      simpa [ext_self] using this
  · exact hK.elim
def mres (ok : Bool) (v : AVal) (b : Bool) : AVal := match ok with
  | true => .tup [v, .lit (.bool b)]
  | false => v
def aLookup (P : Program) (t : TypeId) (h : AHeap) (x k : AVal) (ok : Bool) (K : AVal → Prop) : Prop := match tyMap P t, k with
  | some (d, _, et), .lit u => MapKept.IsKey d.desc u ∧ match tyZero P et with
    | some z => match x with
      | .lit (.map none) => K (mres ok z false)
      | .map b => match h[b]? with
        | some (.map d' es) => d' = d ∧ match mfind u es with
          | some (_, v) => K (mres ok v true)
          | none => K (mres ok z false)
        | _ => False
      | _ => False
    | none => False
  | _, _ => False
theorem VR.mres {v : AVal} {u : Value} (hv : VR ρ h w v u) (ok b : Bool) : VR ρ h w (AL.mres ok v b) (if ok then .tuple #[u, .bool b] else u) := by
  cases ok with
  | false => exact hv
  | true =>
    refine .tup _ _ rfl fun i hi => ?_
    match i, hi with
    | 0, _ => exact hv
    | 1, _ => exact .lit _
theorem aLookup_sound {t : TypeId} {x k : AVal} {u uk : Value} {ok : Bool} {K : AVal → Prop} (hR : Rel ρ h w) (hx : VR ρ h w x u) (hk : VR ρ h w k uk) (hK : aLookup P t h x k ok K) : ∃ v r, (Instr.lookup t u uk ok).run P w = .ok r w ∧ VR ρ h w v r ∧ K v := by
  unfold aLookup at hK
  split at hK
  · rename_i d kt et kv ht
    obtain ⟨hkey, hK⟩ := hK
    cases hk
    obtain ⟨h1, h2⟩ := tyMap_some ht
    split at hK
    · rename_i z hz
      obtain ⟨zv, hzrun, rfl⟩ := run_zeroValue (w := w) hz
      split at hK
      · cases hx
        refine ⟨_, _, ?_, (VR.litA zv).mres ok false, hK⟩
        have hf : Instr.findNow d.desc uk ([] : List MapEntry) 0 = some none := rfl
        have hf' : (Instr.findKey kt uk []).run P w = .ok none w := MapKept.run_findKey h2 hf
        cases ok <;> simp [Instr.lookup, run_underlying h1, MapKept.run_checkKey h2 hkey, hf', hzrun, Result.andThen]
      · rename_i b
        split at hK
        · rename_i d' es hb
          obtain ⟨rfl, hK⟩ := hK
          obtain ⟨C, clock, hc, hs, hl, hes⟩ := hR.obj b _ hb
          cases hx
          have hfe := find_eq hkey hl hs.2.2 fun i hi => ⟨(hes i hi).1, (hes i hi).2.1⟩
          split at hK
          · rename_i i v hm
            obtain ⟨hi, e, hf⟩ := hfe.2 i v hm
            have hv := (hes i hi).2.2
            rw [e] at hv
            refine ⟨_, _, ?_, hv.mres ok true, hK⟩
            cases ok <;> simp [Instr.lookup, run_underlying h1, MapKept.run_getObj_map hc, MapKept.run_checkKey h2 hkey, MapKept.run_findKey h2 hf, Result.andThen]
          · rename_i hm
            obtain ⟨hf, _⟩ := hfe.1 hm
            refine ⟨_, _, ?_, (VR.litA zv).mres ok false, hK⟩
            cases ok <;> simp [Instr.lookup, run_underlying h1, MapKept.run_getObj_map hc, MapKept.run_checkKey h2 hkey, MapKept.run_findKey h2 hf, hzrun, Result.andThen]
        · exact hK.elim
      · exact hK.elim
    · exact hK.elim
  · exact hK.elim
theorem setM {b : Nat} {d : MKey} {es es' : List (Value × AVal)} {C C' : Array MapEntry} {clock clock' : Nat} (hR : Rel ρ h w) (hb : h[b]? = some (.map d es)) (hc : w.heap[(ρ b).blk]? = some (.map C clock))
    (hs : MapKept.Stamped C' clock') (hl : C'.size = es'.length) (hC : ∀ (i : Nat) (hi : i < es'.length), (C'.getD i default).key = es'[i].1 ∧ MapKept.IsKey d.desc es'[i].1 ∧ VR ρ h w es'[i].2 (C'.getD i default).val) :
    Evo ρ h w ρ (h.set b (.map d es')) { w with heap := w.heap.setIfInBounds (ρ b).blk (.map C' clock') } ∧ Rel ρ (h.set b (.map d es')) { w with heap := w.heap.setIfInBounds (ρ b).blk (.map C' clock') } := by
  obtain ⟨h1, h2⟩ := MapKept.heap_set (o' := .map C' clock') hc
  have e : Evo ρ h w ρ (h.set b (.map d es')) { w with heap := w.heap.setIfInBounds (ρ b).blk (.map C' clock') } := evo_set hR hb (by simp) ⟨rfl, rfl, rfl⟩ (by simp) h2 (fun r hr => noloop hR hb rfl r hr)
  refine ⟨e, hR.set hb (by simp) ⟨rfl, rfl, rfl⟩ (by simp) h2 (fun r hr => noloop hR hb rfl r hr) ⟨C', clock', h1, hs, hl, fun i hi => ?_⟩⟩
  obtain ⟨a1, a2, a3⟩ := hC i hi
  exact ⟨a1, a2, a3.evo e⟩
def aMapUpdate (P : Program) (t : TypeId) (h : AHeap) (m k v : AVal) (K : AHeap → Prop) : Prop := match tyMap P t, k, m with
  | some (d, _, _), .lit u, .map b => MapKept.IsKey d.desc u ∧ match h[b]? with
    | some (.map d' es) => d' = d ∧ match mfind u es with
      | some (i, _) => K (h.set b (.map d (es.set i (u, v))))
      | none => K (h.set b (.map d (es ++ [(u, v)])))
    | _ => False
  | _, _, _ => False
theorem aMapUpdate_sound {t : TypeId} {m k v : AVal} {um uk uv : Value} {K : AHeap → Prop} (hR : Rel ρ h w) (hm : VR ρ h w m um) (hk : VR ρ h w k uk) (hv : VR ρ h w v uv) (hK : aMapUpdate P t h m k v K) :
    ∃ w' h', (Instr.mapUpdate t um uk uv).run P w = .ok () w' ∧ Evo ρ h w ρ h' w' ∧ Rel ρ h' w' ∧ K h' := by
  unfold aMapUpdate at hK
  split at hK
  · rename_i d kt et kv b ht
    obtain ⟨hkey, hK⟩ := hK
    cases hk
    cases hm
    obtain ⟨h1, h2⟩ := tyMap_some ht
    split at hK
    · rename_i d' es hb
      obtain ⟨rfl, hK⟩ := hK
      obtain ⟨C, clock, hc, hs, hl, hes⟩ := hR.obj b _ hb
      have hfe := find_eq hkey hl hs.2.2 fun i hi => ⟨(hes i hi).1, (hes i hi).2.1⟩
      have get : ∀ (i : Nat) (hi : i < C.size), C.getD i default = C[i] := fun i hi => by simp [Array.getD, hi]
      split at hK
      · rename_i i v' hmf
        obtain ⟨hi, e, hf⟩ := hfe.2 i v' hmf
        have hiC : i < C.size := by omega
        have hki : C[i].key = uk := by have := (hes i hi).1; rw [get i hiC, e] at this; exact this
        have hkm : ∀ x, C[i]? = some x → ({ x with key := uk, val := uv } : MapEntry).key = x.key := fun x hx => by
          rw [Array.getElem?_eq_getElem hiC] at hx
          cases hx; exact hki.symm
        obtain ⟨e1, e2⟩ := setM (clock' := clock) (C' := C.modify i fun x => { x with key := uk, val := uv }) (es' := es.set i (uk, v)) hR hb hc
          (MapKept.stamped_modify hs i _ (fun _ _ => rfl) fun x _ hx => hkm x hx) (by simp [hl]) (fun j hj => by
            simp only [List.length_set] at hj
            have hjC : j < C.size := by omega
            have hg : (C.modify i fun x => { x with key := uk, val := uv }).getD j default = if i = j then { C[j] with key := uk, val := uv } else C[j] := by
              simp only [Array.getD, Array.size_modify, hjC, dif_pos]
              show (C.modify i _)[j]'(by simpa using hjC) = _
              rw [Array.getElem_modify]
            rw [hg, List.getElem_set]
            by_cases hij : i = j
            · rw [if_pos hij, if_pos hij]; exact ⟨rfl, hkey, hv⟩
            · rw [if_neg hij, if_neg hij, ← get j hjC]; exact hes j hj)
        refine ⟨_, _, ?_, e1, e2, hK⟩
        have hkk : ((C[i]?).map (·.key)).getD uk = uk := by rw [Array.getElem?_eq_getElem hiC]; exact hki
        simp [Instr.mapUpdate, run_underlying h1, MapKept.run_getObj_map hc, MapKept.run_checkKey h2 hkey, MapKept.run_findKey h2 hf, hkk, MapKept.run_keyThatStays hkey, MapKept.run_setObj_map _ hc, Result.andThen]
      · rename_i hmf
        obtain ⟨hf, hne⟩ := hfe.1 hmf
        obtain ⟨e1, e2⟩ := setM (clock' := clock + 1) (C' := C.push { key := uk, val := uv, born := clock }) (es' := es ++ [(uk, v)]) hR hb hc
          (MapKept.stamped_push hs hne) (by simp [hl]) (fun j hj => by
            simp only [List.length_append, List.length_cons, List.length_nil] at hj
            have hg : (C.push { key := uk, val := uv, born := clock }).getD j default = if hj : j < C.size then C[j] else { key := uk, val := uv, born := clock } := by
              have : j < (C.push { key := uk, val := uv, born := clock }).size := by simp; omega
              simp only [Array.getD, this, dif_pos]
              show (C.push _)[j] = _
              rw [Array.getElem_push]
            rw [hg, List.getElem_append]
            by_cases hjl : j < es.length
            · rw [dif_pos (by omega), dif_pos hjl, ← get j (by omega)]; exact hes j hjl
            · rw [dif_neg (by omega), dif_neg hjl]
              have : j - es.length = 0 := by omega
              simp only [this, List.getElem_cons_zero]
              exact ⟨by first | trivial | rfl, hkey, hv⟩)
        refine ⟨_, _, ?_, e1, e2, hK⟩
        simp [Instr.mapUpdate, run_underlying h1, MapKept.run_getObj_map hc, MapKept.run_checkKey h2 hkey, MapKept.run_findKey h2 hf, MapKept.run_setObj_map _ hc, Result.andThen]
    · exact hK.elim
  · exact hK.elim
def aDelete (P : Program) (t : TypeId) (h : AHeap) (m k : AVal) (K : AVal → AHeap → Prop) : Prop := match tyMap P t, k with
  | some (d, _, _), .lit u => MapKept.IsKey d.desc u ∧ match m with
    | .lit (.map none) => K (.tup []) h
    | .map b => match h[b]? with
      | some (.map d' es) => d' = d ∧ match mfind u es with
        | some (i, _) => K (.tup []) (h.set b (.map d (es.eraseIdx i)))
        | none => K (.tup []) h
      | _ => False
    | _ => False
  | _, _ => False
theorem aDelete_sound {t kt' : TypeId} {ty : TypeId} {m k : AVal} {um uk : Value} {K : AVal → AHeap → Prop} (hR : Rel ρ h w) (hm : VR ρ h w m um) (hk : VR ρ h w k uk) (hK : aDelete P t h m k K) :
    Gives P ρ h w (Builtin.delete_ #[t, kt'] ty #[um, uk]) K := by
  unfold aDelete at hK
  split at hK
  · rename_i d kt et kv ht
    obtain ⟨hkey, hK⟩ := hK
    cases hk
    obtain ⟨h1, h2⟩ := tyMap_some ht
    have hun : VR ρ h w (.tup []) (.tuple #[]) := .tup _ _ rfl fun i hi => by simp at hi
    split at hK
    · cases hm
      refine Gives.same hR ?_ hun hK
      simp [Builtin.delete_, run_underlying h1, MapKept.run_checkKey h2 hkey, Result.andThen]
    · rename_i b
      cases hm
      split at hK
      · rename_i d' es hb
        obtain ⟨rfl, hK⟩ := hK
        obtain ⟨C, clock, hc, hs, hl, hes⟩ := hR.obj b _ hb
        have hfe := find_eq hkey hl hs.2.2 fun i hi => ⟨(hes i hi).1, (hes i hi).2.1⟩
        have get : ∀ (i : Nat) (hi : i < C.size), C.getD i default = C[i] := fun i hi => by simp [Array.getD, hi]
        split at hK
        · rename_i i v' hmf
          obtain ⟨hi, e, hf⟩ := hfe.2 i v' hmf
          have hiC : i < C.size := by omega
          have hsz : (C.eraseIdxIfInBounds i).size = C.size - 1 := by simp [Array.eraseIdxIfInBounds, hiC]
          obtain ⟨e1, e2⟩ := setM (clock' := clock) (C' := C.eraseIdxIfInBounds i) (es' := es.eraseIdx i) hR hb hc (MapKept.stamped_erase hs i) (by rw [hsz, List.length_eraseIdx, if_pos hi]; omega) (fun j hj => by
            rw [List.length_eraseIdx, if_pos hi] at hj
            have hg : (C.eraseIdxIfInBounds i).getD j default = if h' : j < i then C[j]'(by omega) else C[j + 1]'(by omega) := by
              have h3 : j < (C.eraseIdxIfInBounds i).size := by omega
              simp only [Array.getD, h3, dif_pos]
              show (C.eraseIdxIfInBounds i)[j] = _
              simp only [Array.eraseIdxIfInBounds, hiC, dif_pos]
              rw [Array.getElem_eraseIdx]
            rw [hg, List.getElem_eraseIdx]
            by_cases hji : j < i
            · rw [dif_pos hji, dif_pos hji, ← get j (by omega)]; exact hes j (by omega)
            · rw [dif_neg hji, dif_neg hji, ← get (j + 1) (by omega)]; exact hes (j + 1) (by omega))
          refine ⟨ρ, _, _, .tup [], .tuple #[], ?_, e1, e2, .tup _ _ rfl fun i hi => by simp at hi, hK⟩
          simp [Builtin.delete_, run_underlying h1, MapKept.run_getObj_map hc, MapKept.run_checkKey h2 hkey, MapKept.run_findKey h2 hf, MapKept.run_setObj_map _ hc, Result.andThen]
        · rename_i hmf
          obtain ⟨hf, _⟩ := hfe.1 hmf
          obtain ⟨e1, e2⟩ := setM (clock' := clock) (C' := C) (es' := es) hR hb hc hs hl hes
          have hset : h.set b (.map d' es) = h := by
            apply List.ext_getElem?
            intro c
            by_cases hcb : b = c
            · subst hcb; rw [List.getElem?_set_self (lt_of_getL hb), hb]
            · rw [List.getElem?_set_ne hcb]
          rw [hset] at e1 e2
          refine ⟨ρ, _, _, .tup [], .tuple #[], ?_, e1, e2, .tup _ _ rfl fun i hi => by simp at hi, hK⟩
          simp [Builtin.delete_, run_underlying h1, MapKept.run_getObj_map hc, MapKept.run_checkKey h2 hkey, MapKept.run_findKey h2 hf, MapKept.run_setObj_map _ hc, Result.andThen]
      · exact hK.elim
    · exact hK.elim
  · exact hK.elim
def aMapLen (h : AHeap) (m : AVal) (K : AVal → Prop) : Prop := match m with
  | .lit (.map none) => K (.lit (.int .i64 0))
  | .map b => match h[b]? with
    | some (.map _ es) => K (.lit (.int .i64 es.length))
    | _ => False
  | _ => False
theorem aMapLen_sound {t kt et ty : TypeId} {m : AVal} {um : Value} {K : AVal → Prop} (hu : P.underlying t = some (.map kt et)) (hR : Rel ρ h w) (hm : VR ρ h w m um) (hK : aMapLen h m K) : ∃ v r, (Builtin.len_ #[t] ty #[um]).run P w = .ok r w ∧ VR ρ h w v r ∧ K v := by
  unfold aMapLen at hK
  split at hK
  · cases hm
    exact ⟨_, _, by simp [Builtin.len_, run_underlying hu, Result.andThen]; rfl, .lit _, hK⟩
  · rename_i b
    cases hm
    split at hK
    · rename_i d es hb
      obtain ⟨C, clock, hc, hs, hl, hes⟩ := hR.obj b _ hb
      refine ⟨_, _, by simp [Builtin.len_, run_underlying hu, MapKept.run_getObj_map hc, Result.andThen]; rfl, ?_, hK⟩
      rw [← hl]; exact .lit _
    · exact hK.elim
  · exact hK.elim
/-! ### The letters of a text -/
def aRangeS (P : Program) (t : TypeId) (x : AVal) (h : AHeap) (K : AVal → AHeap → Prop) : Prop := match P.underlying t, x with
  | some .string, .lit (.string s) => K (.ptr h.length 0) (h ++ [.sit s 0])
  | _, _ => False
theorem aRangeS_sound {t : TypeId} {x : AVal} {u : Value} {K : AVal → AHeap → Prop} (hR : Rel ρ h w) (hx : VR ρ h w x u) (hK : aRangeS P t x h K) : Gives P ρ h w (Instr.range t u) K := by
  unfold aRangeS at hK
  split at hK
  · rename_i s hu
    cases hx
    have hrun : (Instr.range t (.string s)).run P w = .ok (.pointer (some ⟨w.heap.size, 0, none⟩)) { w with heap := w.heap.push (.stringIter s 0) } := by
      simp only [Instr.range, Sem.run_bind, run_underlying hu, Sem.run_pure, Result.andThen_ok, run_newObj]
    refine ⟨ext ρ h.length ⟨w.heap.size, 0, 0⟩, _, _, .ptr h.length 0, _, hrun, evo_push (l := ⟨w.heap.size, 0, 0⟩) hR rfl, ?_, ?_, hK⟩
    · exact Rel.push (l := ⟨w.heap.size, 0, 0⟩) hR rfl ⟨by simp, rfl⟩
    · have := VR.ptr (ρ := ext ρ h.length ⟨w.heap.size, 0, 0⟩) (h := h ++ [.sit s 0]) (w := { w with heap := w.heap.push (.stringIter s 0) }) h.length 0 (by simp)
      simpa [ext_self] using this
  · exact hK.elim
def aNextS (x : AVal) (h : AHeap) (K : AVal → AHeap → Prop) : Prop := match x with
  | .ptr b 0 => match h[b]? with
    | some (.sit s pos) => if pos < s.size then K (.tup [.lit (.bool true), .lit (.int .i64 pos), .lit (.int .i32 (Utf8.decode s pos).1)]) (h.set b (.sit s (pos + (Utf8.decode s pos).2))) else K (.tup [.lit (.bool false)]) h
    | _ => False
  | _ => False
theorem VR.tup1 (u : Value) : VR ρ h w (.tup [.lit u]) (.tuple #[u]) := .tup _ _ rfl fun i hi => match i, hi with
  | 0, _ => .lit u
theorem VR.tup3 (u v x : Value) : VR ρ h w (.tup [.lit u, .lit v, .lit x]) (.tuple #[u, v, x]) := .tup _ _ rfl fun i hi => match i, hi with
  | 0, _ => .lit u
  | 1, _ => .lit v
  | 2, _ => .lit x
theorem aNextS_sound {x : AVal} {u : Value} {t : TypeId} {K : AVal → AHeap → Prop} (hR : Rel ρ h w) (hx : VR ρ h w x u) (hK : aNextS x h K) : Gives P ρ h w (Instr.next u true t) K := by
  unfold aNextS at hK
  split at hK
  · rename_i b
    split at hK
    · rename_i s pos hb
      obtain ⟨hc, hbase⟩ := hR.obj b _ hb
      have hx0 : u = .pointer (some ⟨(ρ b).blk, 0, none⟩) := by
        cases hx
        simp [hbase]
      subst hx0
      have hget : (getObj (ρ b).blk).run P w = .ok (.stringIter s pos) w := by simp [getObj, Sem.run, hc]
      split at hK
      · rename_i hp
        have hset : (setObj (ρ b).blk (.stringIter s (pos + (Utf8.decode s pos).2))).run P w = .ok () { w with heap := w.heap.setIfInBounds (ρ b).blk (.stringIter s (pos + (Utf8.decode s pos).2)) } := by simp [setObj, Sem.run, hc]
        obtain ⟨h1, h2⟩ := MapKept.heap_set (o' := .stringIter s (pos + (Utf8.decode s pos).2)) hc
        have e : Evo ρ h w ρ (h.set b (.sit s (pos + (Utf8.decode s pos).2))) { w with heap := w.heap.setIfInBounds (ρ b).blk (.stringIter s (pos + (Utf8.decode s pos).2)) } := evo_set hR hb (by simp) ⟨rfl, rfl, rfl⟩ (by simp) h2 (fun r hr => noloop hR hb rfl r hr)
        refine ⟨ρ, _, _, _, _, ?_, e, hR.set hb (by simp) ⟨rfl, rfl, rfl⟩ (by simp) h2 (fun r hr => noloop hR hb rfl r hr) ⟨h1, hbase⟩, VR.tup3 _ _ _, hK⟩
        simp [Instr.next, hget, hp, hset, Result.andThen, goInt]
      · rename_i hp
        refine Gives.same hR ?_ (VR.tup1 _) hK
        simp [Instr.next, hget, hp, Result.andThen]
    · exact hK.elim
  · exact hK.elim
end Go.Proofs.Ytglmofbcooefkaa.AL
