/- The tree of losers, plain: a source is changed, the matches on its way are played again. -/
import Derived.Test.YtpjocohpogihcaaLoserPure
namespace Go.Proofs.Ytpjocohpogihcaa.AL
set_option linter.unusedVariables false
set_option linter.unusedSimpArgs false
open Go
theorem aheadN_flip {hs : List Src} {a b : Nat} (h : a ≠ b) : aheadN hs a b = !aheadN hs b a := by
  unfold aheadN
  cases hb : ahead a (srcN hs a) b (srcN hs b) with
  | true => rw [ahead_asymm hb]; rfl
  | false => rw [ahead_tri (fun x => h (by omega)) hb]; rfl
theorem mn_comm {hs : List Src} {a b : Nat} (h : a ≠ b) : mn hs a b = mn hs b a := by
  unfold mn; rw [aheadN_flip h]; cases aheadN hs b a <;> simp
theorem mx_comm {hs : List Src} {a b : Nat} (h : a ≠ b) : mx hs a b = mx hs b a := by
  unfold mx; rw [aheadN_flip h]; cases aheadN hs b a <;> simp
theorem leN_anti {hs : List Src} {a b : Nat} (h1 : leN hs a b) (h2 : leN hs b a) : a = b := by
  rcases h1 with h1 | h1
  · exact h1
  · rcases h2 with h2 | h2
    · exact h2.symm
    · unfold aheadN at h1 h2; rw [ahead_asymm h1] at h2; cases h2
theorem winN_on {hs : List Src} {leaf : Nat} (hl : leaf < 2 * hs.length) : ∀ (d : Nat), 1 ≤ leaf / 2 ^ d → leN hs (winN hs (leaf / 2 ^ d)) (winN hs leaf)
  | 0, _ => by simp; exact .inl rfl
  | d + 1, h => by
    have e : leaf / 2 ^ (d + 1) = leaf / 2 ^ d / 2 := by rw [Nat.pow_succ, Nat.div_div_eq_div_mul]
    rw [e] at h ⊢
    have hlt : leaf / 2 ^ d < 2 * hs.length := Nat.lt_of_le_of_lt (Nat.div_le_self _ _) hl
    exact leN_trans (winN_half (by omega) hlt) (winN_on hl d (by omega))
/-- On the way from the winner's leaf the winner wins. -/
theorem winN_here {hs : List Src} {i k : Nat} (hi : i < hs.length) (hw : winN hs 1 = i) (hk : OnWay (i + hs.length) k) (h1 : 1 ≤ k) : winN hs k = i := by
  obtain ⟨d, rfl⟩ := hk
  have hlt : (i + hs.length) / 2 ^ d < 2 * hs.length := Nat.lt_of_le_of_lt (Nat.div_le_self _ _) (by omega)
  have a1 := winN_on (hs := hs) (leaf := i + hs.length) (by omega) d h1
  rw [winN_leaf (node := i + hs.length) (by omega), Nat.add_sub_cancel] at a1
  have a2 := winN_top (hs := hs) _ h1 hlt
  rw [hw] at a2
  exact leN_anti a1 a2
def repN (hs : List Src) (node won : Nat) (ls : List Nat) : List Nat :=
  if h : node < 1 then ls.set 0 won
  else if aheadN hs (ls.getD node 0) won then repN hs (node / 2) (ls.getD node 0) (ls.set node won) else repN hs (node / 2) won ls
termination_by node
decreasing_by all_goals omega
def losN (hs : List Src) (k : Nat) : Nat := mx hs (winN hs (2 * k)) (winN hs (2 * k + 1))
structure InvN (hs : List Src) (ls : List Nat) : Prop where
  len : ls.length = hs.length
  los : ∀ k, 1 ≤ k → k < hs.length → ls.getD k 0 = losN hs k
  top : 0 < hs.length → ls.getD 0 0 = winN hs 1
theorem onway_child {leaf k c : Nat} (hc : OnWay leaf c) (hk : OnWay leaf k) (hkc : k < c) : k ≤ c / 2 := by
  obtain ⟨d, rfl⟩ := hc
  obtain ⟨e, rfl⟩ := hk
  have hde : d < e := by
    rcases Nat.lt_or_ge d e with h | h
    · exact h
    · exfalso
      have : leaf / 2 ^ d ≤ leaf / 2 ^ e := Nat.div_le_div_left (Nat.pow_le_pow_right (by omega) h) (Nat.pow_pos (by omega))
      omega
  rw [Nat.div_div_eq_div_mul, ← Nat.pow_succ]
  exact Nat.div_le_div_left (Nat.pow_le_pow_right (by omega) hde) (Nat.pow_pos (by omega))
theorem getD_set {ls : List Nat} {i k v : Nat} (h : i < ls.length) : (ls.set i v).getD k 0 = if i = k then v else ls.getD k 0 := by
  simp only [List.getD_eq_getElem?_getD, List.getElem?_set]
  by_cases e : i = k
  · subst e; simp [h]
  · simp [e]
theorem onway_uniq {leaf a b : Nat} (ha : OnWay leaf a) (hb : OnWay leaf b) (h : a / 2 = b / 2) (h1 : 1 ≤ a / 2) : a = b := by
  rcases Nat.lt_trichotomy a b with h2 | h2 | h2
  · have := onway_child hb ha h2; omega
  · exact h2
  · have := onway_child ha hb h2; omega
open Classical in
theorem rep_inv {hs : List Src} {i : Nat} {x : Src} (hi : i < hs.length) (hw : winN hs 1 = i) : ∀ (c : Nat) (ls : List Nat), OnWay (i + hs.length) c → 1 ≤ c → ls.length = hs.length →
    (∀ k, 1 ≤ k → k < hs.length → ls.getD k 0 = if k < c ∧ OnWay (i + hs.length) k then losN hs k else losN (hs.set i x) k) → InvN (hs.set i x) (repN (hs.set i x) (c / 2) (winN (hs.set i x) c) ls) := by
  intro c
  induction c using Nat.strongRecOn with
  | _ c ih =>
    intro ls hc h1 hlen hls
    have hlen' : (hs.set i x).length = hs.length := by simp
    have hcl : c < 2 * hs.length := by
      obtain ⟨d, rfl⟩ := hc
      exact Nat.lt_of_le_of_lt (Nat.div_le_self _ _) (by omega)
    rcases Nat.lt_or_ge c 2 with h | h
    · have : c = 1 := by omega
      subst this
      rw [repN, dif_pos (by omega)]
      refine ⟨by simp [hlen], fun k hk1 hk2 => ?_, fun h0 => ?_⟩
      · rw [getD_set (by omega), if_neg (by omega), hls k hk1 (by omega), if_neg (by omega)]
      · rw [getD_set (by omega), if_pos rfl]
    · have hp := hc.up
      -- the other child
      obtain ⟨s, hs1, hs2, hs3⟩ : ∃ s, s / 2 = c / 2 ∧ s ≠ c ∧ ((c = 2 * (c / 2) ∧ s = 2 * (c / 2) + 1) ∨ (s = 2 * (c / 2) ∧ c = 2 * (c / 2) + 1)) := by
        rcases Nat.mod_two_eq_zero_or_one c with e | e
        · exact ⟨2 * (c / 2) + 1, by omega, by omega, .inl ⟨by omega, rfl⟩⟩
        · exact ⟨2 * (c / 2), by omega, by omega, .inr ⟨rfl, by omega⟩⟩
      have hso : ¬ OnWay (i + hs.length) s := fun hh => hs2 (onway_uniq hh hc hs1 (by omega))
      have hsl : s < 2 * hs.length := by omega
      have es := winN_off (x := x) hi _ s rfl (by omega) hsl hso
      have hsi : winN hs s ≠ i := fun e => hso (by have := winN_way (hs := hs) _ s rfl (by omega) hsl; rwa [e] at this)
      have hci : winN hs c = i := winN_here hi hw hc h1
      have hpi : winN hs (c / 2) = i := winN_here hi hw hp (by omega)
      have hold : losN hs (c / 2) = winN hs s := by
        have hm := winN_node (hs := hs) (node := c / 2) (by omega) (by omega)
        rw [hpi] at hm
        unfold losN
        rcases hs3 with ⟨e1, e2⟩ | ⟨e1, e2⟩
        · rw [show 2 * (c / 2) + 1 = s from e2.symm, show 2 * (c / 2) = c from e1.symm, hci] at hm ⊢
          unfold mn at hm; unfold mx
          split at hm
          · exact absurd hm.symm hsi
          · rename_i hh; rw [if_neg hh]
        · rw [show 2 * (c / 2) + 1 = c from e2.symm, show 2 * (c / 2) = s from e1.symm, hci] at hm ⊢
          unfold mn at hm; unfold mx
          split at hm
          · rename_i hh; rw [if_pos hh]
          · exact absurd hm.symm hsi
      have hl : ls.getD (c / 2) 0 = winN (hs.set i x) s := by rw [hls (c / 2) (by omega) (by omega), if_pos ⟨by omega, hp⟩, hold, es]
      have hne : winN (hs.set i x) s ≠ winN (hs.set i x) c := fun e => by
        have a1 := winN_way (hs := hs.set i x) _ s rfl (by omega) (by omega)
        have a2 := winN_way (hs := hs.set i x) _ c rfl (by omega) (by omega)
        rw [← e] at a2
        exact hs2 (onway_uniq a1 a2 hs1 (by omega))
      have hwin : winN (hs.set i x) (c / 2) = mn (hs.set i x) (winN (hs.set i x) c) (winN (hs.set i x) s) := by
        rw [winN_node (node := c / 2) (by omega) (by omega)]
        rcases hs3 with ⟨e1, e2⟩ | ⟨e1, e2⟩
        · rw [show 2 * (c / 2) + 1 = s from e2.symm, show 2 * (c / 2) = c from e1.symm]
        · rw [show 2 * (c / 2) + 1 = c from e2.symm, show 2 * (c / 2) = s from e1.symm]; exact mn_comm hne
      have hlos : losN (hs.set i x) (c / 2) = mx (hs.set i x) (winN (hs.set i x) c) (winN (hs.set i x) s) := by
        unfold losN
        rcases hs3 with ⟨e1, e2⟩ | ⟨e1, e2⟩
        · rw [show 2 * (c / 2) + 1 = s from e2.symm, show 2 * (c / 2) = c from e1.symm]
        · rw [show 2 * (c / 2) + 1 = c from e2.symm, show 2 * (c / 2) = s from e1.symm]; exact mx_comm hne
      have step : ∀ k, 1 ≤ k → k < hs.length → k ≠ c / 2 → ls.getD k 0 = if k < c / 2 ∧ OnWay (i + hs.length) k then losN hs k else losN (hs.set i x) k := by
        intro k hk1 hk2 hk3
        rw [hls k hk1 hk2]
        by_cases hw2 : OnWay (i + hs.length) k
        · by_cases hkc : k < c
          · have := onway_child hc hw2 hkc
            rw [if_pos ⟨hkc, hw2⟩, if_pos ⟨by omega, hw2⟩]
          · rw [if_neg (by omega), if_neg (by omega)]
        · rw [if_neg (fun z => hw2 z.2), if_neg (fun z => hw2 z.2)]
      rw [repN, dif_neg (by omega), hl]
      by_cases ha : aheadN (hs.set i x) (winN (hs.set i x) s) (winN (hs.set i x) c) = true
      · rw [if_pos ha]
        have e1 : winN (hs.set i x) (c / 2) = winN (hs.set i x) s := by rw [hwin]; unfold mn; rw [if_pos ha]
        have e2 : losN (hs.set i x) (c / 2) = winN (hs.set i x) c := by rw [hlos]; unfold mx; rw [if_pos ha]
        rw [← e1]
        refine ih (c / 2) (by omega) _ hp (by omega) (by simp [hlen]) fun k hk1 hk2 => ?_
        rw [getD_set (by omega)]
        by_cases hk : c / 2 = k
        · subst hk; rw [if_pos rfl, if_neg (by omega), e2]
        · rw [if_neg hk]; exact step k hk1 hk2 (fun e => hk e.symm)
      · rw [if_neg ha]
        have e1 : winN (hs.set i x) (c / 2) = winN (hs.set i x) c := by rw [hwin]; unfold mn; rw [if_neg ha]
        have e2 : losN (hs.set i x) (c / 2) = winN (hs.set i x) s := by rw [hlos]; unfold mx; rw [if_neg ha]
        rw [← e1]
        refine ih (c / 2) (by omega) _ hp (by omega) hlen fun k hk1 hk2 => ?_
        by_cases hk : c / 2 = k
        · subst hk; rw [if_neg (by omega), e2, hl]
        · exact step k hk1 hk2 (fun e => hk e.symm)
open Classical in
/-- The winner is given another head: behind the matches all is as it must be. -/
theorem replays_inv {hs : List Src} {ls : List Nat} {i : Nat} {x : Src} (hI : InvN hs ls) (hi : i < hs.length) (hw : winN hs 1 = i) : InvN (hs.set i x) (repN (hs.set i x) ((i + hs.length) / 2) i ls) := by
  have h1 := rep_inv (x := x) hi hw (i + hs.length) ls (.self _) (by omega) hI.len fun k hk1 hk2 => by
    rw [hI.los k hk1 hk2]
    by_cases hk : OnWay (i + hs.length) k
    · rw [if_pos ⟨by omega, hk⟩]
    · rw [if_neg (fun z => hk z.2)]
      unfold losN
      have n1 : ¬ OnWay (i + hs.length) (2 * k) := fun hh => hk (by have := hh.up; rwa [show 2 * k / 2 = k by omega] at this)
      have n2 : ¬ OnWay (i + hs.length) (2 * k + 1) := fun hh => hk (by have := hh.up; rwa [show (2 * k + 1) / 2 = k by omega] at this)
      rw [winN_off (x := x) hi _ (2 * k) rfl (by omega) (by omega) n1, winN_off (x := x) hi _ (2 * k + 1) rfl (by omega) (by omega) n2]
      have a1 : i ≠ winN hs (2 * k) := fun e => n1 (by rw [e]; exact winN_way _ _ rfl (by omega) (by omega))
      have a2 : i ≠ winN hs (2 * k + 1) := fun e => n2 (by rw [e]; exact winN_way _ _ rfl (by omega) (by omega))
      unfold mx aheadN
      rw [srcN_set_ne a1, srcN_set_ne a2]
  rw [winN_leaf (hs := hs.set i x) (node := i + hs.length) (by simp)] at h1
  simpa using h1
end Go.Proofs.Ytpjocohpogihcaa.AL
