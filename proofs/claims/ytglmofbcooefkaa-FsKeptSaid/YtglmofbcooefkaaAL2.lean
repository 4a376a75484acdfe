/- How a state changes: an object more, an object that is turned, objects that are let go. -/
import Derived.Test.YtglmofbcooefkaaAL1
namespace Go.Proofs.Ytglmofbcooefkaa.AL
set_option linter.unusedVariables false
set_option linter.unusedSimpArgs false
open Go

variable {ρ ρ' : Env} {h h' : AHeap} {w w' : World}

theorem Rel.blk_lt (hR : Rel ρ h w) {b : Nat} {o : AObj} (hb : h[b]? = some o) (ho : o ≠ AObj.dead) : (ρ b).blk < w.heap.size := by
  have := hR.obj b o hb
  cases o with
  | dead => exact absurd rfl ho
  | cells cs => obtain ⟨C, T, fz, hc, _⟩ := this; exact lt_of_get hc
  | pred R => obtain ⟨o', hc, _⟩ := this; exact lt_of_get hc
  | map d es => obtain ⟨C, clock, hc, _⟩ := this; exact lt_of_get hc
  | sit s pos => exact lt_of_get this.1
  | mapS d es bs clock => obtain ⟨C, hc, _⟩ := this; exact lt_of_get hc
  | mit mb since seen c0 => exact lt_of_get this.2.2
  | loop st pend a ps x y => obtain ⟨r, hc, _⟩ := this; exact lt_of_get hc

theorem owned_lt (hR : Rel ρ h w) {c : Nat} (hc : Owned ρ h c) : c < w.heap.size := by
  obtain ⟨b, o, hb, ho, rfl⟩ := hc
  exact hR.blk_lt hb ho

theorem lt_of_getL {α : Type} {l : List α} {i : Nat} {x : α} (h : l[i]? = some x) : i < l.length := by
  rcases Nat.lt_or_ge i l.length with hl | hl
  · exact hl
  · simp [List.getElem?_eq_none hl] at h

/-- The map with an id more. -/
def ext (ρ : Env) (n : Nat) (l : Loc) : Env := fun b => if b = n then l else ρ b

theorem evo_push (hR : Rel ρ h w) {o : AObj} {co : Obj} {l : Loc} (hl : l.blk = w.heap.size) :
    Evo ρ h w (ext ρ h.length l) (h ++ [o]) { w with heap := w.heap.push co } where
  ids := by simp
  env := fun b hb => by simp [ext, Nat.ne_of_lt hb]
  size := by simp
  same := ⟨rfl, rfl, rfl⟩
  keep := fun c hc hn => by
    refine ⟨by simp [Array.getElem?_push, Nat.ne_of_lt hc], ?_⟩
    rintro ⟨b, o', hb, ho', he⟩
    rcases Nat.lt_or_ge b h.length with hlt | hge
    · rw [List.getElem?_append_left hlt] at hb
      simp [ext, Nat.ne_of_lt hlt] at he
      exact hn ⟨b, o', hb, ho', he⟩
    · have : b < (h ++ [o]).length := lt_of_getL hb
      have hb' : b = h.length := by simp at this; omega
      subst hb'
      simp [ext, hl] at he
      omega
  loops := fun l r hr => ⟨r, by simp [Array.getElem?_push, Nat.ne_of_lt (lt_of_get hr), hr]⟩

theorem ObjR.evo {l : Loc} {o : AObj} (e : Evo ρ h w ρ' h' w') (hs : o ≠ AObj.dead → w'.heap[l.blk]? = w.heap[l.blk]?) (ho : ObjR ρ h w l o) : ObjR ρ' h' w' l o := by
  cases o with
  | dead => trivial
  | cells cs =>
    obtain ⟨C, T, fz, hc, h1, h2, h3, h4⟩ := ho
    exact ⟨C, T, fz, (hs (by simp)).trans hc, h1, h2, h3, fun i hi => (h4 i hi).evo e⟩
  | pred R => obtain ⟨o', hc, hr⟩ := ho; exact ⟨o', (hs (by simp)).trans hc, hr⟩
  | map d es => obtain ⟨C, clock, hc, h1, h2, h3⟩ := ho; exact ⟨C, clock, (hs (by simp)).trans hc, h1, h2, fun i hi => ⟨(h3 i hi).1, (h3 i hi).2.1, (h3 i hi).2.2.evo e⟩⟩
  | sit s pos => exact ⟨(hs (by simp)).trans ho.1, ho.2⟩
  | mapS d es bs clock => obtain ⟨C, hc, h1, h0, h2, h3⟩ := ho; exact ⟨C, (hs (by simp)).trans hc, h1, h0, h2, fun i hi => ⟨(h3 i hi).1, (h3 i hi).2.1, (h3 i hi).2.2.evo e⟩⟩
  | mit mb since seen c0 => obtain ⟨h1, h2, h3⟩ := ho; exact ⟨Nat.lt_of_lt_of_le h1 e.ids, h2, by rw [e.env mb h1]; exact (hs (by simp)).trans h3⟩
  | loop st pend a ps x y => obtain ⟨r, hc, h1, h2, h3, h4, h5, h6, h7⟩ := ho; exact ⟨r, (hs (by simp)).trans hc, h1, h2, h3, h4, h5, h6, fun i hi => (h7 i hi).evo e⟩

theorem Rel.push (hR : Rel ρ h w) {o : AObj} {co : Obj} {l : Loc} (hl : l.blk = w.heap.size)
    (ho : ObjR (ext ρ h.length l) (h ++ [o]) { w with heap := w.heap.push co } l o) : Rel (ext ρ h.length l) (h ++ [o]) { w with heap := w.heap.push co } := by
  have e : Evo ρ h w (ext ρ h.length l) (h ++ [o]) { w with heap := w.heap.push co } := evo_push hR hl
  have old : ∀ b o', (h ++ [o])[b]? = some o' → (b < h.length ∧ h[b]? = some o' ∧ ext ρ h.length l b = ρ b) ∨ (b = h.length ∧ o' = o ∧ ext ρ h.length l b = l) := by
    intro b o' hb
    rcases Nat.lt_or_ge b h.length with hlt | hge
    · rw [List.getElem?_append_left hlt] at hb
      exact .inl ⟨hlt, hb, by simp [ext, Nat.ne_of_lt hlt]⟩
    · have : b < (h ++ [o]).length := lt_of_getL hb
      have hb' : b = h.length := by simp at this; omega
      subst hb'
      simp at hb
      exact .inr ⟨rfl, hb.symm, by simp [ext]⟩
  constructor
  · intro b o' hb
    rcases old b o' hb with ⟨hlt, hb', hρ⟩ | ⟨rfl, rfl, hρ⟩
    · rw [hρ]
      refine (hR.obj b o' hb').evo e fun hd => ?_
      have := hR.blk_lt hb' hd
      simp [Array.getElem?_push, Nat.ne_of_lt this]
    · rw [hρ]; exact ho
  · intro b b' o1 o2 h1 h2 d1 d2 he
    rcases old b o1 h1 with ⟨l1, g1, r1⟩ | ⟨rfl, rfl, r1⟩ <;> rcases old b' o2 h2 with ⟨l2, g2, r2⟩ | ⟨rfl, rfl, r2⟩
    · rw [r1, r2] at he; exact hR.inj b b' o1 o2 g1 g2 d1 d2 he
    · rw [r1, r2, hl] at he; have := hR.blk_lt g1 d1; omega
    · rw [r1, r2, hl] at he; have := hR.blk_lt g2 d2; omega
    · rfl

theorem evo_set (hR : Rel ρ h w) {b : Nat} {o o' : AObj} (hb : h[b]? = some o) (ho : o ≠ AObj.dead) (hsm : Same w w') (hsz : w.heap.size ≤ w'.heap.size) (hw : ∀ c, c ≠ (ρ b).blk → w'.heap[c]? = w.heap[c]?)
    (hk : ∀ r : Loop, w.heap[(ρ b).blk]? = some (Obj.loop r) → ∃ r' : Loop, w'.heap[(ρ b).blk]? = some (Obj.loop r')) : Evo ρ h w ρ (h.set b o') w' where
  ids := by simp
  env := fun _ _ => rfl
  size := hsz
  same := hsm
  keep := fun c hc hn => by
    have hne : c ≠ (ρ b).blk := fun he => hn ⟨b, o, hb, ho, he.symm⟩
    refine ⟨hw c hne, ?_⟩
    rintro ⟨b2, o2, hb2, ho2, he⟩
    by_cases hbb : b2 = b
    · subst hbb; exact hne he.symm
    · rw [List.getElem?_set_ne (Ne.symm hbb)] at hb2
      exact hn ⟨b2, o2, hb2, ho2, he⟩
  loops := fun l r hr => by
    by_cases hl : l = (ρ b).blk
    · subst hl; exact hk r hr
    · exact ⟨r, (hw l hl).trans hr⟩

/-- What is no loop's record. -/
def AObj.still : AObj → Bool
  | .cells _ | .map _ _ | .sit _ _ | .mapS _ _ _ _ | .mit _ _ _ _ => true
  | _ => false
theorem noloop (hR : Rel ρ h w) {b : Nat} {o : AObj} (hb : h[b]? = some o) (ho : o.still = true) {X : Prop} (r : Loop) (hr : w.heap[(ρ b).blk]? = some (Obj.loop r)) : X := by
  have := hR.obj b o hb
  cases o with
  | cells cs => obtain ⟨C, T, fz, hc, _⟩ := this; rw [hc] at hr; cases hr
  | map d es => obtain ⟨C, clock, hc, _⟩ := this; rw [hc] at hr; cases hr
  | sit s pos => rw [this.1] at hr; cases hr
  | mapS d es bs clock => obtain ⟨C, hc, _⟩ := this; rw [hc] at hr; cases hr
  | mit mb since seen c0 => rw [this.2.2] at hr; cases hr
  | _ => cases ho

theorem Rel.set (hR : Rel ρ h w) {b : Nat} {o o' : AObj} (hb : h[b]? = some o) (ho : o ≠ AObj.dead) (hsm : Same w w') (hsz : w.heap.size ≤ w'.heap.size) (hw : ∀ c, c ≠ (ρ b).blk → w'.heap[c]? = w.heap[c]?)
    (hk : ∀ r : Loop, w.heap[(ρ b).blk]? = some (Obj.loop r) → ∃ r' : Loop, w'.heap[(ρ b).blk]? = some (Obj.loop r')) (hn : ObjR ρ (h.set b o') w' (ρ b) o') : Rel ρ (h.set b o') w' := by
  have e : Evo ρ h w ρ (h.set b o') w' := evo_set hR hb ho hsm hsz hw hk
  have hlt := lt_of_getL hb
  constructor
  · intro b2 o2 hb2
    by_cases hbb : b2 = b
    · subst hbb
      rw [List.getElem?_set_self hlt] at hb2
      cases hb2; exact hn
    · rw [List.getElem?_set_ne (Ne.symm hbb)] at hb2
      refine (hR.obj b2 o2 hb2).evo e fun hd => hw _ fun he => ?_
      exact hbb (hR.inj b2 b o2 o hb2 hb hd ho he)
  · have old : ∀ (b2 : Nat) (o2 : AObj), (h.set b o')[b2]? = some o2 → o2 ≠ AObj.dead → ∃ o3, h[b2]? = some o3 ∧ o3 ≠ AObj.dead := by
      intro b2 o2 h2 d2
      by_cases hbb : b2 = b
      · subst hbb; exact ⟨o, hb, ho⟩
      · rw [List.getElem?_set_ne (Ne.symm hbb)] at h2; exact ⟨o2, h2, d2⟩
    intro b1 b2 o1 o2 h1 h2 d1 d2 he
    obtain ⟨o3, g1, e1⟩ := old b1 o1 h1 d1
    obtain ⟨o4, g2, e2⟩ := old b2 o2 h2 d2
    exact hR.inj b1 b2 o3 o4 g1 g2 e1 e2 he

/-- Fewer objects: the ones of 'h' are those of 'g', under the same ids, or dead. -/
structure Fewer (h g : AHeap) : Prop where
  le : h.length ≤ g.length
  same : ∀ (b : Nat) (o : AObj), h[b]? = some o → o ≠ AObj.dead → g[b]? = some o

theorem Fewer.refl (h : AHeap) : Fewer h h := ⟨Nat.le_refl _, fun _ _ hb _ => hb⟩
theorem Fewer.app (h g : AHeap) : Fewer h (h ++ g) := ⟨by simp, fun b o hb _ => by rw [List.getElem?_append_left (lt_of_getL hb)]; exact hb⟩

theorem Fewer.owned (hf : Fewer h h') {c : Nat} (ho : Owned ρ h c) : Owned ρ h' c := by
  obtain ⟨b, o, hb, hd, he⟩ := ho
  exact ⟨b, o, hf.same b o hb hd, hd, he⟩

theorem VR.fewer (hf : Fewer h h') {v : AVal} {u : Value} (hv : VR ρ h' w v u) (hb : Below h.length v) : VR ρ h w v u := by
  induction hv with
  | any u => exact .any u
  | lit u => exact .lit u
  | ptr b off _ => cases hb with | ptr _ _ hb => exact .ptr b off hb
  | sl k b off len cap _ hl hc => cases hb with | sl _ _ _ _ hb => exact .sl k b off len cap hb hl hc
  | rop cs c off C T fz hc hn hs _ ih =>
    cases hb with | rop _ hb => exact .rop cs c off C T fz hc (fun ho => hn (hf.owned ho)) hs fun i hi => ih i hi (hb _ (List.getElem_mem hi))
  | slZ k b off o _ => cases hb with | sl _ _ _ _ hb => exact .slZ k b off o hb
  | rosZ cs _ a cap => cases hb with | ros _ _ hb => exact .rosZ cs hb a cap
  | ros cs c off len cap C T fz hl hc hn hs _ ih =>
    cases hb with | ros _ _ hb => exact .ros cs c off len cap C T fz hl hc (fun ho => hn (hf.owned ho)) hs fun i hi => ih i hi (hb _ (List.getElem_mem hi))
  | agg vs us hl _ ih => cases hb with | agg _ hb => exact .agg vs us hl fun i hi => ih i hi (hb _ (List.getElem_mem hi))
  | tup vs us hl _ ih => cases hb with | tup _ hb => exact .tup vs us hl fun i hi => ih i hi (hb _ (List.getElem_mem hi))
  | fn f vs ws us xs hl hl' _ _ ih ih' =>
    cases hb with | fn _ _ _ hb hd => exact .fn f vs ws us xs hl hl' (fun i hi => ih i hi (hb _ (List.getElem_mem hi))) fun i hi => ih' i hi (hd _ (List.getElem_mem hi))
  | ifc t v u _ ih => cases hb with | ifc _ _ hb => exact .ifc t v u (ih hb)
  | map b _ => cases hb with | map _ hb => exact .map b hb
  | yld b _ => cases hb with | yld _ hb => exact .yld b hb

def ObjBelow (n : Nat) : AObj → Prop
  | .cells cs => ∀ v ∈ cs, Below n v
  | .map _ es => ∀ p ∈ es, Below n p.2
  | .mapS _ es _ _ => ∀ p ∈ es, Below n p.2
  | .mit mb _ _ _ => mb < n
  | .loop _ _ a _ _ _ => ∀ v ∈ a, Below n v
  | _ => True

theorem Rel.fewer (hf : Fewer h h') (hR : Rel ρ h' w) (hb : ∀ (b : Nat) (o : AObj), h[b]? = some o → ObjBelow h.length o) : Rel ρ h w := by
  constructor
  · intro b o ho
    cases o with
    | dead => trivial
    | cells cs =>
      obtain ⟨C, T, fz, h1, h2, h3, h4, h5⟩ := hR.obj b _ (hf.same b _ ho (by simp))
      exact ⟨C, T, fz, h1, h2, h3, h4, fun i hi => (h5 i hi).fewer hf (hb b _ ho _ (List.getElem_mem hi))⟩
    | pred R => exact hR.obj b _ (hf.same b _ ho (by simp))
    | map d es =>
      obtain ⟨C, clock, h1, h2, h3, h4⟩ := hR.obj b _ (hf.same b _ ho (by simp))
      exact ⟨C, clock, h1, h2, h3, fun i hi => ⟨(h4 i hi).1, (h4 i hi).2.1, (h4 i hi).2.2.fewer hf (hb b _ ho _ (List.getElem_mem hi))⟩⟩
    | sit s pos => exact hR.obj b _ (hf.same b _ ho (by simp))
    | mapS d es bs clock =>
      obtain ⟨C, h1, h2, h0, h3, h4⟩ := hR.obj b _ (hf.same b _ ho (by simp))
      exact ⟨C, h1, h2, h0, h3, fun i hi => ⟨(h4 i hi).1, (h4 i hi).2.1, (h4 i hi).2.2.fewer hf (hb b _ ho _ (List.getElem_mem hi))⟩⟩
    | mit mb since seen c0 =>
      obtain ⟨h1, h2, h3⟩ := hR.obj b _ (hf.same b _ ho (by simp))
      exact ⟨hb b _ ho, h2, h3⟩
    | loop st pend a ps x y =>
      obtain ⟨r, hc, h1, h2, h3, h4, h5, h6, h7⟩ := hR.obj b _ (hf.same b _ ho (by simp))
      exact ⟨r, hc, h1, h2, h3, h4, h5, h6, fun i hi => (h7 i hi).fewer hf (hb b _ ho _ (List.getElem_mem hi))⟩
  · intro b b' o o' h1 h2 d1 d2 he
    exact hR.inj b b' o o' (hf.same _ _ h1 d1) (hf.same _ _ h2 d2) d1 d2 he

theorem Evo.fewer {g : AHeap} {ρ0 : Env} {h0 : AHeap} {w0 : World} (hf : Fewer g h) (hl : h0.length ≤ g.length) (e : Evo ρ0 h0 w0 ρ h w) : Evo ρ0 h0 w0 ρ g w :=
  ⟨hl, e.env, e.size, e.same, fun c hc hn => ⟨(e.keep c hc hn).1, fun ho => (e.keep c hc hn).2 (hf.owned ho)⟩, e.loops⟩

theorem ARest.fewer {G : Rnd} {g : AHeap} (hf : Fewer g h) {ds : List Deferred} (hr : ARest G ρ h w ds) : ARest G ρ g w ds :=
  ⟨hr.nodup, fun d hd => let ⟨c, h1, h2, h3, h4⟩ := hr.marks d hd; ⟨c, h1, h2, h3, fun ho => h4 (hf.owned ho)⟩, hr.round, hr.lo⟩

/-- What is true of a state is true of the values that it was made of: each names ids that were there. -/
theorem VR.ids {v : AVal} {u : Value} (hv : VR ρ h w v u) : Below h.length v := by
  induction hv with
  | any u => exact .any
  | lit u => exact .lit u
  | ptr b off hb => exact .ptr b off hb
  | sl k b off len cap hb _ _ => exact .sl k b off len hb
  | rop cs c off C T fz _ _ _ _ ih => exact .rop cs fun v hv => by obtain ⟨i, hi, rfl⟩ := List.getElem_of_mem hv; exact ih i hi
  | slZ k b off o hb => exact .sl k b off 0 hb
  | rosZ cs hb a cap => exact .ros cs 0 hb
  | ros cs c off len cap C T fz _ _ _ _ _ ih => exact .ros cs len fun v hv => by obtain ⟨i, hi, rfl⟩ := List.getElem_of_mem hv; exact ih i hi
  | agg vs us _ _ ih => exact .agg vs fun v hv => by obtain ⟨i, hi, rfl⟩ := List.getElem_of_mem hv; exact ih i hi
  | tup vs us _ _ ih => exact .tup vs fun v hv => by obtain ⟨i, hi, rfl⟩ := List.getElem_of_mem hv; exact ih i hi
  | fn f vs ws us xs _ _ _ _ ih ih' =>
    exact .fn f vs ws (fun v hv => by obtain ⟨i, hi, rfl⟩ := List.getElem_of_mem hv; exact ih i hi) (fun v hv => by obtain ⟨i, hi, rfl⟩ := List.getElem_of_mem hv; exact ih' i hi)
  | ifc t v u _ ih => exact .ifc t v ih
  | map b hb => exact .map b hb
  | yld b hb => exact .yld b hb

theorem Rel.idsObj (hR : Rel ρ h w) {b : Nat} {o : AObj} (hb : h[b]? = some o) : ObjBelow h.length o := by
  cases o with
  | dead => trivial
  | pred R => trivial
  | sit s pos => trivial
  | mit mb since seen c0 => exact (hR.obj b _ hb).1
  | mapS d es bs clock =>
    obtain ⟨C, _, _, _, _, h4⟩ := hR.obj b _ hb
    intro p hp
    obtain ⟨i, hi, rfl⟩ := List.getElem_of_mem hp
    exact (h4 i hi).2.2.ids
  | loop st pend a ps x y =>
    obtain ⟨r, _, _, _, _, _, _, _, h7⟩ := hR.obj b _ hb
    intro v hv
    obtain ⟨i, hi, rfl⟩ := List.getElem_of_mem hv
    exact (h7 i hi).ids
  | map d es =>
    obtain ⟨C, clock, _, _, _, h4⟩ := hR.obj b _ hb
    intro p hp
    obtain ⟨i, hi, rfl⟩ := List.getElem_of_mem hp
    exact (h4 i hi).2.2.ids
  | cells cs =>
    obtain ⟨C, T, fz, _, _, _, _, h5⟩ := hR.obj b _ hb
    intro v hv
    obtain ⟨i, hi, rfl⟩ := List.getElem_of_mem hv
    exact (h5 i hi).ids

end Go.Proofs.Ytglmofbcooefkaa.AL
