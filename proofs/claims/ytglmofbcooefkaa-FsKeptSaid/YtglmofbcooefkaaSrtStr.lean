/- slices.Sort of texts, out of the kit's contract, told over abstract values. -/
import Derived.Shelf.Sort.Plain
import Derived.Shelf.Slices.In.SortNone
import Derived.Sort.OwnSorted
import Derived.Sort.KeysCollected
import Derived.Ground.NamesProg
import Derived.Test.YtglmofbcooefkaaTx
import Derived.Test.YtglmofbcooefkaaShSort
import Derived.Test.YtglmofbcooefkaaAL15
namespace Go.Proofs.Ytglmofbcooefkaa.AL
set_option linter.unusedVariables false
set_option linter.unusedSimpArgs false
open Go Go.Sort

def strV (s : ByteArray) : AVal := .lit (.string s)
def bytesL (s : ByteArray) : List UInt8 := s.data.toList
def ofL (l : List UInt8) : ByteArray := ⟨l.toArray⟩
theorem ofL_bytesL (s : ByteArray) : ofL (bytesL s) = s := by cases s; simp [ofL, bytesL]
/-- Blocks more that nobody knows of. -/
theorem evo_more {ρ : Env} {h : AHeap} {w w' : World} (hR : Rel ρ h w) (hs : Same w w') (hz : w.heap.size ≤ w'.heap.size) (hw : ∀ c, c < w.heap.size → w'.heap[c]? = w.heap[c]?) : Evo ρ h w ρ h w' ∧ Rel ρ h w' := by
  have e : Evo ρ h w ρ h w' := ⟨Nat.le_refl _, fun _ _ => rfl, hz, hs, fun c hc hn => ⟨hw c hc, hn⟩, fun l r hr => ⟨r, (hw l (lt_of_get hr)).trans hr⟩⟩
  exact ⟨e, fun b o hb => (hR.obj b o hb).evo e fun hd => hw _ (hR.blk_lt hb hd), hR.inj⟩
/-- Texts in order. -/
def sortB (ss : List ByteArray) : List ByteArray := ((ss.map bytesL).mergeSort fun x y => decide (x ≤ y)).map ofL
theorem sortB_length (ss : List ByteArray) : (sortB ss).length = ss.length := by simp [sortB, List.length_mergeSort]
theorem sortB_perm {ss ts : List ByteArray} (hp : ss.Perm ts) : sortB ss = sortB ts := by
  unfold sortB
  congr 1
  exact mergeSort_of_perm (hp.map bytesL)

theorem sort_str {h : AHeap} {b : Nat} {ss : List ByteArray} (hb : h[b]? = some (.cells (ss.map strV))) (h0 : 0 < ss.length) (hsz : ss.length < 4611686018427387904) :
    ACalls Try.prog 33 [.sl 1 b 0 ss.length] h fun e h' => e = .ret (.tup []) ∧ h' = h.set b (.cells ((sortB ss).map strV)) := by
  intro ρ w us hR hv
  obtain ⟨u, rfl, hu⟩ := hv.single
  obtain ⟨C, T, fz, hc, hfr, hsize, hfit, hcs⟩ := hR.obj b _ hb
  have hbl := lt_of_getL hb
  have cell : ∀ (j : Nat) (hj : j < ss.length), C.getD ((ρ b).base + j) undef = .string ss[j] := fun j hj => by
    have := hcs j (by simpa using hj)
    simp only [List.getElem_map, strV] at this
    generalize C.getD ((ρ b).base + j) undef = z at this
    cases this; rfl
  have fit : (ρ b).base + ss.length ≤ C.size := by simpa using hfit
  have hu' : ∃ cap, u = .slice (some ⟨(ρ b).blk, (ρ b).base + 0, none⟩) ss.length cap := by
    generalize hn : ss.length = n at hu h0
    cases hu with
    | slZ => omega
    | sl _ _ _ _ cap _ hl hcap => exact ⟨cap, rfl⟩
  obtain ⟨cap, rfl⟩ := hu'
  · 
    have hH : Holds encStr w (ρ b).blk ((ρ b).base + 0) (ss.map bytesL).toArray := by
      intro j hj
      have hj' : j < ss.length := by simpa using hj
      have hlt : (ρ b).base + j < C.size := by omega
      refine ⟨?_, ?_⟩
      · simp only [World.cell?, hc]
        have := cell j hj'
        simp only [Array.getD, hlt, dif_pos] at this
        simp only [Nat.add_zero, Option.isSome_none, Bool.false_eq_true, if_false, Array.getElem?_eq_getElem hlt]
        rw [show C[(ρ b).base + j] = C.getInternal ((ρ b).base + j) hlt from rfl, this]
        simp [encStr, bytesL, hj']
      · simp only [World.frozen?, hc]
        exact hfr _ (by omega)
    have hcall := Any.slices_Sort_string (P := Try.prog) Try.laysSort (ρ b).blk ((ρ b).base + 0) cap (ss.map bytesL) w hH (lt_of_get hc) (by simpa using hsz)
    rw [show (ss.map bytesL).length = ss.length by simp] at hcall
    refine Calls.mono hcall ?_
    rintro e w' ⟨rfl, n, os, rfl⟩
    have hne : AObj.cells (ss.map strV) ≠ .dead := by simp
    have hblk := lt_of_get hc
    generalize hts : (ss.map bytesL).mergeSort (fun x y => decide (x ≤ y)) = ts
    have htl : ts.length = ss.length := by rw [← hts]; simp [List.length_mergeSort]
    let w1 := putRow encStr (Sort.ahead w n) (ρ b).blk ((ρ b).base + 0) ts.toArray
    have hsz1 : w1.heap.size = w.heap.size := by simp [w1, putRow, mapBlock, Sort.ahead]
    have hoth : ∀ c, c ≠ (ρ b).blk → w1.heap[c]? = w.heap[c]? := fun c hne => by
      simp [w1, putRow, mapBlock, Sort.ahead, Array.getElem?_modify, Ne.symm hne]
    have hself : w1.heap[(ρ b).blk]? = some (.cells (putCells encStr ((ρ b).base + 0) ts.toArray C) T fz) := by
      simp [w1, putRow, mapBlock, Sort.ahead, Array.getElem?_modify, hc, onCells]
    have hk : ∀ r : Loop, w.heap[(ρ b).blk]? = some (Obj.loop r) → ∃ r' : Loop, w1.heap[(ρ b).blk]? = some (Obj.loop r') := fun r hr => noloop hR hb rfl r hr
    have e1 : Evo ρ h w ρ (h.set b (.cells ((sortB ss).map strV))) w1 := evo_set hR hb hne ⟨rfl, rfl, rfl⟩ (by rw [hsz1]; exact Nat.le_refl _) hoth hk
    have R1 : Rel ρ (h.set b (.cells ((sortB ss).map strV))) w1 := hR.set hb hne ⟨rfl, rfl, rfl⟩ (by rw [hsz1]; exact Nat.le_refl _) hoth hk
      ⟨_, _, _, hself, fun i hi => hfr i (by simpa [putCells] using hi), by simpa [putCells] using hsize, by simpa [putCells, sortB_length] using fit, fun i hi => by
        have hi' : i < ss.length := by simpa [sortB_length] using hi
        have hit : i < ts.length := by omega
        have hlt : (ρ b).base + i < C.size := by omega
        have hlt' : (ρ b).base + i < (putCells encStr ((ρ b).base + 0) ts.toArray C).size := by simpa [putCells] using hlt
        have hval : (putCells encStr ((ρ b).base + 0) ts.toArray C).getD ((ρ b).base + i) undef = .string (ofL ts[i]) := by
          simp only [Array.getD, hlt', dif_pos]
          show (putCells encStr ((ρ b).base + 0) ts.toArray C)[(ρ b).base + i] = _
          simp [putCells, hit, encStr, ofL]
        rw [hval]
        have : ((sortB ss).map strV)[i] = .lit (.string (ofL ts[i])) := by
          simp only [sortB, List.getElem_map, hts, strV]
        rw [this]; exact .lit _⟩
    obtain ⟨e2, R2⟩ := evo_more (w' := grow w1 os) R1 ⟨rfl, rfl, rfl⟩ (by simp [grow]) (fun c hc => heap_grow_old _ _ hc)
    exact ⟨ρ, _, _, e1.trans e2, R2, .ret _ _ (.tup [] #[] rfl fun i hi => by simp at hi), rfl, rfl⟩

/-- No text. -/
theorem sort_none {h : AHeap} : ACalls Try.prog 33 [.lit (.slice none 0 0)] h fun e h' => e = .ret (.tup []) ∧ h' = h := by
  intro ρ w us hR hv
  obtain ⟨u, rfl, hu⟩ := hv.single
  cases hu
  refine Calls.mono (Any.slices_Sort_string_none (P := Try.prog) Try.laysSort none 0 w) ?_
  rintro e w' ⟨rfl, rfl⟩
  exact ⟨ρ, _, _, .refl .., hR, .ret _ _ (.tup [] #[] rfl fun i hi => by simp at hi), rfl, rfl⟩

end Go.Proofs.Ytglmofbcooefkaa.AL
