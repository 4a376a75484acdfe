/- The tree of losers, plain: the order of sources, who wins, what a change does. -/
import Derived.Test.YtpjocohpogihcaaSless
namespace Go.Proofs.Ytpjocohpogihcaa.AL
set_option linter.unusedVariables false
set_option linter.unusedSimpArgs false
open Go
abbrev Src := ByteArray × Bool
/-- Whether a source comes ahead of another. -/
def ahead (i : Int) (a : Src) (k : Int) (b : Src) : Bool :=
  if a.2 ≠ b.2 then b.2 else if a.2 = true ∨ a.1 = b.1 then decide (i < k) else sless a.1 b.1
theorem ahead_irrefl (i : Int) (a : Src) : ahead i a i a = false := by simp [ahead]
theorem ahead_trans {i k l : Int} {a b c : Src} (h1 : ahead i a k b = true) (h2 : ahead k b l c = true) : ahead i a l c = true := by
  obtain ⟨s, o⟩ := a
  obtain ⟨s', o'⟩ := b
  obtain ⟨s'', o''⟩ := c
  unfold ahead at h1 h2 ⊢
  cases o <;> cases o' <;> cases o'' <;> simp_all
  · by_cases e1 : s = s'
    · subst e1
      by_cases e2 : s = s''
      · subst e2; simp_all; omega
      · simp_all
    · by_cases e2 : s' = s''
      · subst e2; simp_all
      · simp only [if_neg e1] at h1
        simp only [if_neg e2] at h2
        have h3 := sl_trans h1 h2
        have h4 : s ≠ s'' := fun e => by subst e; rw [sl_irrefl] at h3; cases h3
        simp [h4, h3]
  · omega
theorem ahead_tri {i k : Int} {a b : Src} (hn : i ≠ k) (h : ahead i a k b = false) : ahead k b i a = true := by
  obtain ⟨s, o⟩ := a
  obtain ⟨s', o'⟩ := b
  unfold ahead at h ⊢
  cases o <;> cases o' <;> simp_all
  · by_cases e : s = s'
    · subst e; simp_all; omega
    · have e' : s' ≠ s := fun x => e x.symm
      simp only [if_neg e] at h
      simp only [if_neg e']
      cases hb : sless s' s with
      | true => rfl
      | false => exact absurd (sl_tri h hb) e
  · omega
theorem ahead_asymm {i k : Int} {a b : Src} (h : ahead i a k b = true) : ahead k b i a = false := by
  cases hb : ahead k b i a with
  | false => rfl
  | true => have := ahead_trans h hb; rw [ahead_irrefl] at this; cases this
/-! ### Who wins below a node -/
def srcN (hs : List Src) (i : Nat) : Src := hs.getD i (⟨#[]⟩, true)
def aheadN (hs : List Src) (i k : Nat) : Bool := ahead i (srcN hs i) k (srcN hs k)
def mn (hs : List Src) (a b : Nat) : Nat := if aheadN hs b a then b else a
def mx (hs : List Src) (a b : Nat) : Nat := if aheadN hs b a then a else b
def winN (hs : List Src) (node : Nat) : Nat := if h : hs.length ≤ node ∨ node = 0 then node - hs.length else mn hs (winN hs (2 * node)) (winN hs (2 * node + 1))
termination_by hs.length - node
decreasing_by all_goals omega
theorem winN_leaf {hs : List Src} {node : Nat} (h : hs.length ≤ node) : winN hs node = node - hs.length := by rw [winN, dif_pos (.inl h)]
theorem winN_node {hs : List Src} {node : Nat} (h0 : 1 ≤ node) (h : node < hs.length) : winN hs node = mn hs (winN hs (2 * node)) (winN hs (2 * node + 1)) := by rw [winN, dif_neg (by omega)]
/-- As early, or earlier. -/
def leN (hs : List Src) (i k : Nat) : Prop := i = k ∨ aheadN hs i k = true
theorem leN_trans {hs : List Src} {i k l : Nat} (h1 : leN hs i k) (h2 : leN hs k l) : leN hs i l := by
  rcases h1 with rfl | h1
  · exact h2
  · rcases h2 with rfl | h2
    · exact .inr h1
    · exact .inr (ahead_trans h1 h2)
theorem mn_left (hs : List Src) (a b : Nat) : leN hs (mn hs a b) a := by
  unfold mn; split
  · exact .inr ‹_›
  · exact .inl rfl
theorem mn_right (hs : List Src) (a b : Nat) : leN hs (mn hs a b) b := by
  unfold mn; split
  · exact .inl rfl
  · rename_i h
    by_cases e : a = b
    · exact .inl e
    · refine .inr (ahead_tri (fun x => e (by omega)) (by simpa [aheadN] using h))
theorem mn_or (hs : List Src) (a b : Nat) : mn hs a b = a ∨ mn hs a b = b := by unfold mn; split <;> simp
theorem winN_lt {hs : List Src} : ∀ (d node : Nat), hs.length - node = d → 1 ≤ node → node < 2 * hs.length → winN hs node < hs.length := by
  intro d
  induction d using Nat.strongRecOn with
  | _ d ih =>
    intro node hd h0 h1
    rcases Nat.lt_or_ge node hs.length with h | h
    · rw [winN_node h0 h]
      rcases mn_or hs (winN hs (2 * node)) (winN hs (2 * node + 1)) with e | e <;> rw [e]
      · exact ih _ (by omega) (2 * node) rfl (by omega) (by omega)
      · exact ih _ (by omega) (2 * node + 1) rfl (by omega) (by omega)
    · rw [winN_leaf h]; omega
theorem winN_half {hs : List Src} {node : Nat} (h0 : 2 ≤ node) (h : node < 2 * hs.length) : leN hs (winN hs (node / 2)) (winN hs node) := by
  rw [winN_node (node := node / 2) (by omega) (by omega)]
  rcases Nat.mod_two_eq_zero_or_one node with e | e
  · have : 2 * (node / 2) = node := by omega
    rw [this]; exact mn_left _ _ _
  · have : 2 * (node / 2) + 1 = node := by omega
    rw [this]; exact mn_right _ _ _
theorem winN_top {hs : List Src} : ∀ (node : Nat), 1 ≤ node → node < 2 * hs.length → leN hs (winN hs 1) (winN hs node) := by
  intro node
  induction node using Nat.strongRecOn with
  | _ node ih =>
    intro h0 h1
    rcases Nat.lt_or_ge node 2 with h | h
    · have : node = 1 := by omega
      subst this; exact .inl rfl
    · exact leN_trans (ih (node / 2) (by omega) (by omega) (by omega)) (winN_half h h1)
/-- The winner is ahead of all. -/
theorem winN_least {hs : List Src} {i : Nat} (h : i < hs.length) : leN hs (winN hs 1) i := by
  have := winN_top (hs := hs) (i + hs.length) (by omega) (by omega)
  rwa [winN_leaf (node := i + hs.length) (by omega), Nat.add_sub_cancel] at this
/-! ### One source is changed -/
/-- The node lies on the way from the leaf to the root. -/
def OnWay (leaf node : Nat) : Prop := ∃ d : Nat, leaf / 2 ^ d = node
theorem OnWay.up {leaf node : Nat} (h : OnWay leaf node) : OnWay leaf (node / 2) := by
  obtain ⟨d, rfl⟩ := h
  exact ⟨d + 1, by rw [Nat.pow_succ, Nat.div_div_eq_div_mul]⟩
theorem OnWay.self (leaf : Nat) : OnWay leaf leaf := ⟨0, by simp⟩
theorem winN_way {hs : List Src} : ∀ (d node : Nat), hs.length - node = d → 1 ≤ node → node < 2 * hs.length → OnWay (winN hs node + hs.length) node := by
  intro d
  induction d using Nat.strongRecOn with
  | _ d ih =>
    intro node hd h0 h1
    rcases Nat.lt_or_ge node hs.length with h | h
    · rw [winN_node h0 h]
      rcases mn_or hs (winN hs (2 * node)) (winN hs (2 * node + 1)) with e | e <;> rw [e]
      · have := (ih _ (by omega) (2 * node) rfl (by omega) (by omega)).up
        rwa [show 2 * node / 2 = node by omega] at this
      · have := (ih _ (by omega) (2 * node + 1) rfl (by omega) (by omega)).up
        rwa [show (2 * node + 1) / 2 = node by omega] at this
    · rw [winN_leaf h, Nat.sub_add_cancel h]; exact .self _
theorem srcN_set_ne {hs : List Src} {i k : Nat} {x : Src} (h : i ≠ k) : srcN (hs.set i x) k = srcN hs k := by
  simp [srcN, List.getD_eq_getElem?_getD, List.getElem?_set_ne h]
theorem winN_off {hs : List Src} {i : Nat} {x : Src} (hi : i < hs.length) : ∀ (d node : Nat), hs.length - node = d → 1 ≤ node → node < 2 * hs.length → ¬ OnWay (i + hs.length) node → winN (hs.set i x) node = winN hs node := by
  intro d
  induction d using Nat.strongRecOn with
  | _ d ih =>
    intro node hd h0 h1 hno
    rcases Nat.lt_or_ge node hs.length with h | h
    · rw [winN_node h0 h, winN_node h0 (by simpa using h)]
      have n1 : ¬ OnWay (i + hs.length) (2 * node) := fun hw => hno (by have := hw.up; rwa [show 2 * node / 2 = node by omega] at this)
      have n2 : ¬ OnWay (i + hs.length) (2 * node + 1) := fun hw => hno (by have := hw.up; rwa [show (2 * node + 1) / 2 = node by omega] at this)
      rw [ih _ (by omega) (2 * node) rfl (by omega) (by omega) n1, ih _ (by omega) (2 * node + 1) rfl (by omega) (by omega) n2]
      have a1 : i ≠ winN hs (2 * node) := fun e => n1 (by rw [e]; exact winN_way _ _ rfl (by omega) (by omega))
      have a2 : i ≠ winN hs (2 * node + 1) := fun e => n2 (by rw [e]; exact winN_way _ _ rfl (by omega) (by omega))
      unfold mn aheadN
      rw [srcN_set_ne a1, srcN_set_ne a2]
    · rw [winN_leaf h, winN_leaf (by simpa using h)]; simp
end Go.Proofs.Ytpjocohpogihcaa.AL
