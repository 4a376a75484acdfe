/- What stays of the memory. -/
import Derived.Test.YtglmofbcooefkaaX7
import Derived.Test.YtglmofbcooefkaaAL18
namespace Go.Proofs.Ytglmofbcooefkaa.AL
set_option linter.unusedVariables false
set_option linter.unusedSimpArgs false
set_option maxRecDepth 10000
open Go
/-- The objects below 'n' but those of 'X' are as they were. -/
structure Keep (n : Nat) (X : List Nat) (h h' : AHeap) : Prop where
  len : h.length ≤ h'.length
  get : ∀ c : Nat, c < n → c ∉ X → h'[c]? = h[c]?
theorem Keep.refl (n : Nat) (X : List Nat) (h : AHeap) : Keep n X h h := ⟨Nat.le_refl _, fun _ _ _ => rfl⟩
theorem Keep.trans {n : Nat} {X : List Nat} {h h' h'' : AHeap} (a : Keep n X h h') (b : Keep n X h' h'') : Keep n X h h'' := ⟨Nat.le_trans a.len b.len, fun c hc hx => (b.get c hc hx).trans (a.get c hc hx)⟩
theorem Keep.less {n m : Nat} {X Y : List Nat} {h h' : AHeap} (hm : m ≤ n) (hx : ∀ c ∈ X, c < m → c ∈ Y) (a : Keep n X h h') : Keep m Y h h' := ⟨a.len, fun c hc hy => a.get c (by omega) fun hm => hy (hx c hm hc)⟩
theorem Keep.set {n b : Nat} {X : List Nat} {h : AHeap} {o : AObj} (hb : n ≤ b ∨ b ∈ X) : Keep n X h (h.set b o) := ⟨by simp, fun c hc hx => by
  refine List.getElem?_set_ne fun e => ?_
  subst e
  rcases hb with h | h
  · omega
  · exact hx h⟩
theorem Keep.app {n : Nat} {X : List Nat} {h : AHeap} (e : AHeap) (hn : n ≤ h.length) : Keep n X h (h ++ e) := ⟨by simp, fun c hc _ => List.getElem?_append_left (by omega)⟩
theorem Keep.psh {n : Nat} {X : List Nat} {h : AHeap} (o : AObj) (hn : n ≤ h.length) : Keep n X h (psh h o) := Keep.app [o] hn
theorem Keep.apd {n : Nat} {X : List Nat} {h : AHeap} (l : List AObj) (hn : n ≤ h.length) : Keep n X h (apd h l) := Keep.app l hn
theorem Keep.cells {n : Nat} {X : List Nat} {h h' : AHeap} (a : Keep n X h h') {b : Nat} {cs : List AVal} (hb : b < n) (hx : b ∉ X) (H : cellsAt h b = some cs) : cellsAt h' b = some cs := by
  have := cellsAt_some H
  unfold cellsAt
  rw [a.get b hb hx, this]
end Go.Proofs.Ytglmofbcooefkaa.AL
