/- Several slices of one's own at once. -/
import Derived.Test.YtpjocohpogihcaaSeq
namespace Go.Proofs.Ytpjocohpogihcaa.AL
set_option linter.unusedVariables false
set_option linter.unusedSimpArgs false
set_option maxRecDepth 10000
open Go
abbrev FamT := Nat → AVal × List AVal
def upd (f : FamT) (i : Nat) (x : AVal × List AVal) : FamT := fun j => if j = i then x else f j
theorem upd_same (f : FamT) (i : Nat) (x : AVal × List AVal) : upd f i x i = x := by simp [upd]
theorem upd_ne (f : FamT) {i j : Nat} (x : AVal × List AVal) (h : j ≠ i) : upd f i x j = f j := by simp [upd, h]
/-- Slices of one cell an element, each with an object of its own. -/
structure Fam (h : AHeap) (f : FamT) : Prop where
  own : ∀ i, Own 1 h (f i).1 (f i).2.length (f i).2
  dis : ∀ i j, i ≠ j → ∀ b, At (f i).1 b → ¬ At (f j).1 b
theorem Fam.lt {h : AHeap} {f : FamT} (F : Fam h f) {i b : Nat} (hb : At (f i).1 b) : b < h.length := At.own (F.own i) hb
theorem Fam.keep {h h' : AHeap} {f : FamT} (F : Fam h f) (K : ∀ i b, At (f i).1 b → h'[b]? = h[b]?) : Fam h' f := ⟨fun i => (F.own i).keep fun b hb => K i b hb, F.dis⟩
theorem Fam.push {h : AHeap} {f : FamT} (F : Fam h f) (i : Nat) {w : Nat} {z x : AVal} (hx : x.one = true) (hw : ((f i).2.length + 1) * w ≤ 140737488355328) :
    ∃ r : AVal × AHeap, blitS 1 [z] 1 [(0, x)] h = some r ∧ ∃ v' h', appV 1 w r.2 (f i).1 r.1 = some (v', h') ∧ Fam h' (upd f i (v', (f i).2 ++ [x])) ∧ h.length ≤ h'.length ∧ (∀ b, At v' b → h.length ≤ b) ∧ ∀ c, c < h.length → ¬ At (f i).1 c → h'[c]? = h[c]? := by
  obtain ⟨v', h', a1, a2, a3, a4, a5, a6⟩ := push_app (w := w) (xs := [x]) (F.own i) rfl (by simp [hx]) hw
  refine ⟨(.sl 1 h.length 0 1, apd h [.cells [x]]), ?_, v', h', a1, ⟨fun j => ?_, fun j k hjk b hb hb' => ?_⟩, a3, a5, a6⟩
  · unfold blitS
    have := blit_one (z := z) hx
    unfold blitA at this
    obtain ⟨u, h1, h2⟩ := Option.bind_eq_some_iff.1 this
    rw [h1, Option.bind_some, h2, Option.bind_some]; rfl
  · by_cases hj : j = i
    · subst hj; rw [upd_same]; simpa using a2
    · rw [upd_ne _ _ hj]
      exact (F.own j).keep fun b hb => a6 b (F.lt hb) (F.dis j i hj b hb)
  · by_cases hj : j = i
    · subst hj
      rw [upd_same] at hb
      rw [upd_ne _ _ (Ne.symm hjk)] at hb'
      have := F.lt hb'
      have := a5 b hb
      omega
    · rw [upd_ne _ _ hj] at hb
      by_cases hk : k = i
      · subst hk
        rw [upd_same] at hb'
        have := F.lt hb
        have := a5 b hb'
        omega
      · rw [upd_ne _ _ hk] at hb'
        exact F.dis j k hjk b hb hb'
/-- One element is read. -/
theorem Fam.get {h : AHeap} {f : FamT} (F : Fam h f) (i : Nat) {k : Nat} (hk : k < (f i).2.length) : ∃ p, idxP 1 (f i).1 (k : Int) = some p ∧ ld1 h p = some (f i).2[k] := by
  obtain ⟨p, p1, _, _, p2⟩ := (F.own i).sl.idx hk
  refine ⟨p, p1, ?_⟩
  rw [p2 (by omega), Nat.mul_one, List.getElem?_eq_getElem hk]
/-- One element is set. -/
theorem Fam.set {h : AHeap} {f : FamT} (F : Fam h f) (i : Nat) {k : Nat} {x : AVal} (hk : k < (f i).2.length) (hx : x.one = true) :
    ∃ p b h', idxP 1 (f i).1 (k : Int) = some p ∧ st1 h p x = some h' ∧ At (f i).1 b ∧ Fam h' (upd f i ((f i).1, (f i).2.set k x)) ∧ h'.length = h.length ∧ ∀ c, c ≠ b → h'[c]? = h[c]? := by
  obtain ⟨p, b, hb, p1, p2, O⟩ := (F.own i).set1 hk hx
  refine ⟨p, b, _, p1, p2, hb, ⟨fun j => ?_, fun j m hjm c hc hc' => ?_⟩, by simp, fun c hc => List.getElem?_set_ne (Ne.symm hc)⟩
  · by_cases hj : j = i
    · subst hj; rw [upd_same]; simpa using O
    · rw [upd_ne _ _ hj]
      exact (F.own j).keep fun c hc => List.getElem?_set_ne fun e => F.dis j i hj c hc (by rw [← e]; exact hb)
  · have e : ∀ m, (upd f i ((f i).1, (f i).2.set k x) m).1 = (f m).1 := fun m => by
      by_cases hm : m = i
      · subst hm; rw [upd_same]
      · rw [upd_ne _ _ hm]
    rw [e] at hc hc'
    exact F.dis j m hjm c hc hc'
def fam0 : FamT := fun _ => (.lit (.slice none 0 0), [])
theorem fam0_ok (h : AHeap) : Fam h fam0 := ⟨fun _ => Own.nil _ _, fun i j _ b hb => by obtain ⟨_, _, _, hb⟩ := hb; cases hb⟩
end Go.Proofs.Ytpjocohpogihcaa.AL
