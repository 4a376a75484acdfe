/- The document's tree: what its functions do; its least is the tree's winner. -/
import Derived.Test.YtpjocohpogihcaaLoserNew
import Derived.Test.YtpjocohpogihcaaRef15
namespace Go.Proofs.Ytpjocohpogihcaa.AL
set_option linter.unusedVariables false
set_option linter.unusedSimpArgs false
set_option maxRecDepth 100000
open Go
open Go.Proofs.Try
/-! ### The least, one by one -/
def stepB (hs : List Src) (best : Int) (i : Nat) : Int :=
  if (srcN hs i).2 = false ∧ (best < 0 ∨ sless (srcN hs i).1 (srcN hs best.toNat).1 = true) then (i : Int) else best
def bestF (hs : List Src) : Nat → Int
  | 0 => -1
  | i + 1 => stepB hs (bestF hs i) i
def BestI (hs : List Src) (i : Nat) (best : Int) : Prop :=
  (best = -1 ∧ ∀ k, k < i → (srcN hs k).2 = true) ∨ ∃ m : Nat, best = m ∧ m < i ∧ (srcN hs m).2 = false ∧ ∀ k, k < i → (srcN hs k).2 = false → k = m ∨ aheadN hs m k = true
theorem aheadN_off {hs : List Src} {i k : Nat} (h1 : (srcN hs i).2 = false) (h2 : (srcN hs k).2 = false) : aheadN hs i k = if (srcN hs i).1 = (srcN hs k).1 then decide ((i : Int) < (k : Int)) else sless (srcN hs i).1 (srcN hs k).1 := by
  unfold aheadN ahead
  rw [h1, h2]
  simp
theorem best_step {hs : List Src} {i : Nat} {best : Int} (hB : BestI hs i best) : BestI hs (i + 1) (stepB hs best i) := by
  unfold stepB
  rcases hB with ⟨rfl, hall⟩ | ⟨m, rfl, hm, hmo, hall⟩
  · cases ho : (srcN hs i).2 with
    | true =>
      rw [if_neg (by simp)]
      exact .inl ⟨rfl, fun k hk => by
        by_cases e : k = i
        · subst e; exact ho
        · exact hall k (by omega)⟩
    | false =>
      rw [if_pos ⟨by first | trivial | rfl, .inl (by omega)⟩]
      exact .inr ⟨i, rfl, by omega, ho, fun k hk hk2 => by
        by_cases e : k = i
        · exact .inl e
        · rw [hall k (by omega)] at hk2; cases hk2⟩
  · cases ho : (srcN hs i).2 with
    | true =>
      rw [if_neg (by simp)]
      exact .inr ⟨m, rfl, by omega, hmo, fun k hk hk2 => by
        by_cases e : k = i
        · subst e; rw [ho] at hk2; cases hk2
        · exact hall k (by omega) hk2⟩
    | false =>
      have em : ((m : Int)).toNat = m := by omega
      rw [em]
      cases hs1 : sless (srcN hs i).1 (srcN hs m).1 with
      | true =>
        rw [if_pos ⟨by first | trivial | rfl, .inr rfl⟩]
        have him : aheadN hs i m = true := by
          rw [aheadN_off ho hmo, if_neg (fun e => by rw [e, sl_irrefl] at hs1; cases hs1)]; exact hs1
        exact .inr ⟨i, rfl, by omega, ho, fun k hk hk2 => by
          by_cases e : k = i
          · exact .inl e
          · right
            rcases hall k (by omega) hk2 with rfl | h2
            · exact him
            · exact ahead_trans him h2⟩
      | false =>
        rw [if_neg (by
          rintro ⟨_, h | h⟩
          · omega
          · cases h)]
        exact .inr ⟨m, rfl, by omega, hmo, fun k hk hk2 => by
          by_cases e : k = i
          · right
            subst e
            rw [aheadN_off hmo ho]
            by_cases e2 : (srcN hs m).1 = (srcN hs k).1
            · rw [if_pos e2]; simp; omega
            · rw [if_neg e2]
              cases hs2 : sless (srcN hs m).1 (srcN hs k).1 with
              | true => rfl
              | false => exact absurd (sl_tri hs2 hs1) e2
          · exact hall k (by omega) hk2⟩
theorem bestF_inv (hs : List Src) : ∀ i, BestI hs i (bestF hs i)
  | 0 => .inl ⟨rfl, fun k hk => by omega⟩
  | i + 1 => best_step (bestF_inv hs i)
theorem cnt_zero {hs : List Src} (h : cnt hs = 0) : ∀ i, i < hs.length → (srcN hs i).2 = true := by
  induction hs with
  | nil => intro i hi; simp at hi
  | cons s l ih =>
    intro i hi
    simp only [cnt] at h
    cases hb : s.2 with
    | false => rw [hb] at h; simp at h
    | true =>
      cases i with
      | zero => simp [srcN, hb]
      | succ i =>
        have := ih (by omega) i (by simpa using hi)
        simpa [srcN] using this
theorem cnt_pos {hs : List Src} (h : 0 < cnt hs) : ∃ i, i < hs.length ∧ (srcN hs i).2 = false := by
  induction hs with
  | nil => simp [cnt] at h
  | cons s l ih =>
    cases hb : s.2 with
    | false => exact ⟨0, by simp, by simp [srcN, hb]⟩
    | true =>
      simp only [cnt, hb, if_true, Nat.add_zero] at h
      obtain ⟨i, h1, h2⟩ := ih h
      exact ⟨i + 1, by simpa using h1, by simpa [srcN] using h2⟩
theorem ahead_over {hs : List Src} {i k : Nat} (h : aheadN hs i k = true) (hk : (srcN hs k).2 = false) : (srcN hs i).2 = false := by
  unfold aheadN ahead at h
  cases hb : (srcN hs i).2 with
  | false => rfl
  | true => rw [hb, hk] at h; simp at h
/-- The document's least is the winner. -/
theorem best_win {hs : List Src} : (cnt hs = 0 → bestF hs hs.length = -1) ∧ (0 < cnt hs → bestF hs hs.length = (winN hs 1 : Nat) ∧ (srcN hs (winN hs 1)).2 = false ∧ winN hs 1 < hs.length) := by
  constructor
  · intro h
    rcases bestF_inv hs hs.length with ⟨h1, _⟩ | ⟨m, _, h2, h3, _⟩
    · exact h1
    · rw [cnt_zero h m h2] at h3; cases h3
  · intro h
    obtain ⟨i, hi, ho⟩ := cnt_pos h
    have hwl : winN hs 1 < hs.length := winN_lt _ 1 rfl (by omega) (by omega)
    have hwo : (srcN hs (winN hs 1)).2 = false := by
      rcases winN_least hi with e | e
      · rw [e]; exact ho
      · exact ahead_over e ho
    refine ⟨?_, hwo, hwl⟩
    rcases bestF_inv hs hs.length with ⟨_, h2⟩ | ⟨m, h1, h2, h3, h4⟩
    · rw [h2 i hi] at ho; cases ho
    · rw [h1]
      rcases h4 _ hwl hwo with e | e
      · rw [e]
      · rcases winN_least h2 with e2 | e2
        · rw [e2]
        · unfold aheadN at e e2
          rw [ahead_asymm e] at e2; cases e2
/-! ### The document's tree in the memory -/
structure RefAt (N : Nat) (h : AHeap) (x : Nat) (hs : List Src) : Prop where
  ok : ∃ vh vo, cellsAt h x = some [vh, vo] ∧ Own 1 h vh hs.length (strVs (hs.map (·.1))) ∧ Own 1 h vo hs.length (boolVs (hs.map (·.2))) ∧ (∀ b, At vh b → N ≤ b ∧ b ≠ x) ∧ (∀ b, At vo b → N ≤ b ∧ b ≠ x) ∧ ∀ b, At vh b → ¬ At vo b
  at_ : N ≤ x
theorem strVs_src {hs : List Src} {i : Nat} (h : i < hs.length) : (strVs (hs.map (·.1)))[i]? = some (.lit (.string (srcN hs i).1)) := by
  simp [strVs, srcN, h, List.getD_eq_getElem?_getD]
theorem boolVs_src {hs : List Src} {i : Nat} (h : i < hs.length) : (boolVs (hs.map (·.2)))[i]? = some (.lit (.bool (srcN hs i).2)) := by
  simp [boolVs, srcN, h, List.getD_eq_getElem?_getD]
theorem refLeast_loop {N : Nat} {h : AHeap} {x : Nat} {hs : List Src} (hn : hs.length ≤ 64) (R : RefAt N h x hs) : ∀ (d i : Nat) (best : Int), hs.length - i = d → i ≤ hs.length → best = bestF hs i →
    S_chainmanref15_Tree_Least_0 x 0 best (i : Nat) h = some (.tup [tI (maxI 0 (bestF hs hs.length)), .lit (.bool (decide (bestF hs hs.length ≥ 0)))], h) := by
  obtain ⟨⟨vh, vo, hc, O1, O2, _⟩, _⟩ := R
  intro d
  induction d with
  | zero =>
    intro i best hd hi hb
    have : i = hs.length := by omega
    subst this
    rw [S_chainmanref15_Tree_Least_0_eq]
    simp only [ld1_of hc, Nat.zero_add, List.getElem?_cons_zero, Option.bind_some, O1.sl.len]
    rw [show decide (((hs.length : Nat) : Int) < ((hs.length : Nat) : Int)) = false by simp, cond_false, S_chainmanref15_Tree_Least_2_eq, hb]
  | succ d ih =>
    intro i best hd hi hb
    have hlt : i < hs.length := by omega
    obtain ⟨p, p1, _, _, p2⟩ := O2.sl.idx hlt
    have p2 := p2 (by omega)
    rw [Nat.mul_one, boolVs_src hlt] at p2
    obtain ⟨q, q1, _, _, q2⟩ := O1.sl.idx hlt
    have q2 := q2 (by omega)
    rw [Nat.mul_one, strVs_src hlt] at q2
    have next : ∀ (b : Int), b = bestF hs (i + 1) → S_chainmanref15_Tree_Least_3 x 0 b (i : Nat) h = some (.tup [tI (maxI 0 (bestF hs hs.length)), .lit (.bool (decide (bestF hs hs.length ≥ 0)))], h) := by
      intro b hb
      rw [S_chainmanref15_Tree_Least_3_eq, int_of_wrap (by omega)]
      exact ih (i + 1) b (by omega) (by omega) hb
    rw [S_chainmanref15_Tree_Least_0_eq]
    simp only [ld1_of hc, Nat.zero_add, List.getElem?_cons_zero, List.getElem?_cons_succ, Option.bind_some, O1.sl.len]
    rw [show decide (((i : Nat) : Int) < ((hs.length : Nat) : Int)) = true by simp; omega, cond_true, p1, Option.bind_some, p2, Option.bind_some]
    simp only [asB, Option.bind_some]
    have hB := bestF_inv hs i
    rw [← hb] at hB
    have hnx : bestF hs (i + 1) = stepB hs best i := by rw [hb]; rfl
    cases ho : (srcN hs i).2 with
    | true =>
      rw [Bool.not_true, cond_false, S_chainmanref15_Tree_Least_1_eq, cond_false]
      exact next best (by rw [hnx]; unfold stepB; rw [if_neg (by rw [ho]; simp)])
    | false =>
      rw [Bool.not_false, cond_true]
      rcases hB with ⟨hb1, _⟩ | ⟨m, hb1, hm, _⟩
      · rw [show decide (best < 0) = true by rw [hb1]; rfl, cond_true, S_chainmanref15_Tree_Least_1_eq, cond_true]
        exact next _ (by rw [hnx]; unfold stepB; rw [if_pos ⟨ho, .inl (by omega)⟩])
      · obtain ⟨r, r1, _, _, r2⟩ := O1.sl.idx (show m < hs.length by omega)
        have r2 := r2 (by omega)
        rw [Nat.mul_one, strVs_src (by omega)] at r2
        rw [show decide (best < 0) = false by rw [hb1]; simp, cond_false, q1, Option.bind_some, q2, Option.bind_some]
        simp only [asS, Option.bind_some]
        rw [hb1, r1, Option.bind_some, r2, Option.bind_some]
        simp only [Option.bind_some]
        rw [S_chainmanref15_Tree_Least_1_eq]
        have em : ((m : Int)).toNat = m := by omega
        cases hsl : sless (srcN hs i).1 (srcN hs m).1 with
        | true =>
          rw [cond_true]
          exact next _ (by rw [hnx]; unfold stepB; rw [if_pos ⟨ho, .inr (by rw [hb1, em]; exact hsl)⟩])
        | false =>
          rw [cond_false, ← hb1]
          exact next _ (by
            rw [hnx]; unfold stepB
            rw [if_neg]
            rintro ⟨_, h1 | h1⟩
            · omega
            · rw [hb1, em, hsl] at h1; cases h1)
/-- What both tell of the least. -/
def leastV (hs : List Src) : AVal := if 0 < cnt hs then .tup [tI (winN hs 1 : Nat), .lit (.bool true)] else .tup [tI 0, .lit (.bool false)]
theorem refLeast_run {N : Nat} {h : AHeap} {x : Nat} {hs : List Src} (hn : hs.length ≤ 64) (R : RefAt N h x hs) : S_chainmanref15_Tree_Least x 0 h = some (leastV hs, h) := by
  rw [S_chainmanref15_Tree_Least_eq]
  have := refLeast_loop hn R hs.length 0 (-1) (by omega) (by omega) rfl
  rw [show (0 : Int) = ((0 : Nat) : Int) from rfl, this]
  unfold leastV
  obtain ⟨b1, b2⟩ := best_win (hs := hs)
  by_cases hc : 0 < cnt hs
  · obtain ⟨h1, _, _⟩ := b2 hc
    rw [h1, if_pos hc]
    simp [maxI]
    omega
  · rw [b1 (by omega), if_neg hc]
    rfl
theorem refLeft_loop {N : Nat} {h : AHeap} {x : Nat} {hs : List Src} (hn : hs.length ≤ 64) (R : RefAt N h x hs) : ∀ (d i : Nat), hs.length - i = d → i ≤ hs.length →
    S_chainmanref15_Tree_Left_0 x 0 (cnt (hs.take i) : Nat) (i : Nat) h = some (tI (cnt hs : Nat), h) := by
  obtain ⟨⟨vh, vo, hc, O1, O2, _⟩, _⟩ := R
  intro d
  induction d with
  | zero =>
    intro i hd hi
    have : i = hs.length := by omega
    subst this
    rw [S_chainmanref15_Tree_Left_0_eq]
    simp only [ld1_of hc, Nat.zero_add, List.getElem?_cons_zero, List.getElem?_cons_succ, Option.bind_some, O2.sl.len]
    rw [show decide (((hs.length : Nat) : Int) < ((hs.length : Nat) : Int)) = false by simp, cond_false, S_chainmanref15_Tree_Left_2_eq, List.take_length]
  | succ d ih =>
    intro i hd hi
    have hlt : i < hs.length := by omega
    obtain ⟨p, p1, _, _, p2⟩ := O2.sl.idx hlt
    have p2 := p2 (by omega)
    rw [Nat.mul_one, boolVs_src hlt] at p2
    have hcnt : cnt (hs.take (i + 1)) = cnt (hs.take i) + if (srcN hs i).2 then 0 else 1 := by
      rw [List.take_succ_eq_append_getElem hlt, cnt_app]
      simp [cnt, srcN, List.getD_eq_getElem?_getD, hlt]
    have hle : cnt (hs.take i) ≤ 64 := Nat.le_trans (cnt_le _) (by simp; omega)
    have := ih (i + 1) (by omega) (by omega)
    rw [S_chainmanref15_Tree_Left_0_eq]
    simp only [ld1_of hc, Nat.zero_add, List.getElem?_cons_zero, List.getElem?_cons_succ, Option.bind_some, O2.sl.len]
    rw [show decide (((i : Nat) : Int) < ((hs.length : Nat) : Int)) = true by simp; omega, cond_true, p1, Option.bind_some, p2, Option.bind_some]
    simp only [asB, Option.bind_some]
    cases ho : (srcN hs i).2 with
    | true =>
      rw [ho] at hcnt
      rw [Bool.not_true, cond_false, S_chainmanref15_Tree_Left_1_eq, int_of_wrap (by omega)]
      rw [hcnt] at this
      simpa using this
    | false =>
      rw [ho] at hcnt
      rw [Bool.not_false, cond_true, S_chainmanref15_Tree_Left_1_eq, int_of_wrap (by omega), int_of_wrap (by omega)]
      rw [hcnt] at this
      simpa using this
theorem refLeft_run {N : Nat} {h : AHeap} {x : Nat} {hs : List Src} (hn : hs.length ≤ 64) (R : RefAt N h x hs) : S_chainmanref15_Tree_Left x 0 h = some (tI (cnt hs : Nat), h) := by
  rw [S_chainmanref15_Tree_Left_eq]
  exact refLeft_loop hn R hs.length 0 (by omega) (by omega)
theorem RefAt.keep {N : Nat} {h h' : AHeap} {x : Nat} {hs : List Src} (R : RefAt N h x hs) (K : ∀ b, N ≤ b → h'[b]? = h[b]?) : RefAt N h' x hs := by
  obtain ⟨⟨vh, vo, hc, O1, O2, a1, a2, a3⟩, hx⟩ := R
  refine ⟨⟨vh, vo, ?_, O1.keep fun b hb => K b (a1 b hb).1, O2.keep fun b hb => K b (a2 b hb).1, a1, a2, a3⟩, hx⟩
  have := cellsAt_some hc
  unfold cellsAt
  rw [K x hx, this]
theorem refNext_run {N : Nat} {h : AHeap} {x : Nat} {hs : List Src} (hn : hs.length ≤ 64) (R : RefAt N h x hs) (s : ByteArray) (o : Bool) :
    ∃ h', S_chainmanref15_Tree_Next x 0 s o h = some (.tup [], h') ∧ RefAt N h' x (if 0 < cnt hs then hs.set (winN hs 1) (s, o) else hs) ∧ h'.length = h.length ∧ ∀ b, b < N → h'[b]? = h[b]? := by
  have e0 : onlyR (ptrV (fun b o => S_chainmanref15_Tree_Least b o) (.ptr x 0) h) h = some (leastV hs) := by
    show onlyR (S_chainmanref15_Tree_Least x 0 h) h = _
    rw [refLeast_run hn R, onlyR_same]
  rw [S_chainmanref15_Tree_Next_eq, e0]
  unfold leastV
  by_cases hcp : 0 < cnt hs
  · rw [if_pos hcp, if_pos hcp]
    obtain ⟨_, _, hw⟩ := (best_win (hs := hs)).2 hcp
    obtain ⟨⟨vh, vo, hc, O1, O2, a1, a2, a3⟩, hx⟩ := R
    obtain ⟨p, b, hb, p1, p2, O1'⟩ := O1.set1 hw (x := .lit (.string s)) rfl
    obtain ⟨q, c, hcb, q1, q2, O2'⟩ := (O2.keep (h' := h.set b (.cells ((strVs (hs.map (·.1))).set (winN hs 1) (.lit (.string s))))) fun d hd => List.getElem?_set_ne fun e => a3 b hb (by rw [e]; exact hd)).set1 hw (x := .lit (.bool o)) rfl
    have hc1 := cellsAt_set_ne (.cells ((strVs (hs.map (·.1))).set (winN hs 1) (.lit (.string s)))) (a1 b hb).2 hc
    simp only [Option.bind_some, xExtract, List.getElem?_cons_zero, List.getElem?_cons_succ, asI, asB, kindEq, Bool.not_true, cond_false, ld1_of hc, Nat.zero_add]
    rw [p1, Option.bind_some, p2, Option.bind_some]
    simp only [ld1_of hc1, List.getElem?_cons_zero, List.getElem?_cons_succ, Option.bind_some]
    rw [q1, Option.bind_some, q2, Option.bind_some]
    refine ⟨_, rfl, ⟨⟨vh, vo, cellsAt_set_ne _ (a2 c hcb).2 hc1, ?_, ?_, a1, a2, a3⟩, hx⟩, by simp, fun d hd => ?_⟩
    · have := O1'.keep (h' := (h.set b (.cells ((strVs (hs.map (·.1))).set (winN hs 1) (.lit (.string s))))).set c (.cells ((boolVs (hs.map (·.2))).set (winN hs 1) (.lit (.bool o))))) fun d hd => List.getElem?_set_ne fun e => a3 d hd (by rw [← e]; exact hcb)
      simpa [strVs, List.map_set] using this
    · simpa [boolVs, List.map_set] using O2'
    · have h1 := (a1 b hb).1
      have h2 := (a2 c hcb).1
      rw [List.getElem?_set_ne (by omega), List.getElem?_set_ne (by omega)]
  · rw [if_neg hcp, if_neg hcp]
    refine ⟨h, ?_, R, rfl, fun _ _ => rfl⟩
    simp [xExtract, asI, asB, kindEq]
theorem refNew_loop {h0 : AHeap} {heads over : AVal} {l : List ByteArray} {o : List Bool} {N x : Nat} (S1 : Sl 1 h0 heads l.length (strVs l)) (S2 : Sl 1 h0 over o.length (boolVs o)) (hn : l.length ≤ 64) (hN : h0.length ≤ N) :
    ∀ (d i : Nat) (g : AHeap), l.length - i = d → i ≤ l.length → RefAt N g x ((srcOf l o).take i) → N ≤ g.length → Keep N [] h0 g →
      ∃ g', S_chainmanref15_New_0 heads over x (i : Nat) g = some (.ptr x 0, g') ∧ RefAt N g' x (srcOf l o) ∧ Keep N [] h0 g' := by
  intro d
  induction d with
  | zero =>
    intro i g hd hi R hg K
    have : i = l.length := by omega
    subst this
    have hsl := srcOf_length l o
    rw [← hsl, List.take_length] at R
    refine ⟨g, ?_, R, K⟩
    rw [S_chainmanref15_New_0_eq]
    simp only [S1.len, Option.bind_some]
    rw [show decide (((l.length : Nat) : Int) < ((l.length : Nat) : Int)) = false by simp, cond_false, S_chainmanref15_New_2_eq]
  | succ d ih =>
    intro i g hd hi R hg K
    have hlt : i < l.length := by omega
    have hsl := srcOf_length l o
    obtain ⟨⟨vh, vo, hc, O1, O2, a1, a2, a3⟩, hx⟩ := R
    have htl : ((srcOf l o).take i).length = i := by simp; omega
    rw [htl] at O1 O2
    have keepS : ∀ {k n : Nat} {v : AVal} {cs : List AVal} {g : AHeap}, Sl k h0 v n cs → Keep N [] h0 g → Sl k g v n cs := fun S K => S.keep (X := []) (K.less hN (fun c hc => by cases hc)) (fun _ _ _ _ => by simp)
    obtain ⟨p, p1, _, _, p2⟩ := (keepS S1 K).idx hlt
    have p2 := p2 (by omega)
    rw [Nat.mul_one, strVs_get hlt] at p2
    have hgeti : (srcOf l o)[i]'(by omega) = (l[i], o.getD i false) := by simp [srcOf]
    have htk : (srcOf l o).take (i + 1) = (srcOf l o).take i ++ [(l[i], o.getD i false)] := by rw [List.take_succ_eq_append_getElem (by omega), hgeti]
    obtain ⟨vh', g1, b1, O1', b2, b3, b4, b5⟩ := push_app (w := 16) (xs := [.lit (.string l[i])]) O1 rfl rfl (by omega)
    have hxl := cellsAt_lt hc
    have hnx : ¬ At vh x := fun h => (a1 x h).2 rfl
    have hc1 : cellsAt g1 x = some [vh, vo] := by
      have := cellsAt_some hc
      unfold cellsAt
      rw [b5 x hxl hnx, this]
    have O2a : Own 1 (g1.set x (.cells [vh', vo])) vo i (boolVs (((srcOf l o).take i).map (·.2))) := O2.keep fun b hb => by
      rw [List.getElem?_set_ne (Ne.symm (a2 b hb).2), b5 b (At.own O2 hb) fun h => a3 b h hb]
    have hst1 : st1 g1 (.ptr x 0) vh' = some (g1.set x (.cells [vh', vo])) := by
      have hone : vh'.one = true := by obtain ⟨_, ⟨rfl, _⟩ | ⟨b, rfl, _⟩⟩ := O1' <;> rfl
      rw [st1_of hc1 hone (by simp)]; rfl
    have hc2 : cellsAt (g1.set x (.cells [vh', vo])) x = some [vh', vo] := cellsAt_set hc1
    have K2 : Keep N [] h0 (g1.set x (.cells [vh', vo])) := K.trans ((show Keep N [] g g1 from ⟨b2, fun c hc _ => b5 c (by omega) fun h => by have := (a1 c h).1; omega⟩).trans (Keep.set (.inl hx)))
    have go : ∀ (b : Bool), b = o.getD i false → ∃ g', ((appV 1 1 (apd (g1.set x (.cells [vh', vo])) [.cells [.lit (.bool b)]]) vo (.sl 1 (g1.set x (.cells [vh', vo])).length 0 1)).bind fun r => (st1 r.2 (.ptr x 1) r.1).bind fun h => S_chainmanref15_New_1 heads over x (i : Nat) h) = some (.ptr x 0, g') ∧ RefAt N g' x (srcOf l o) ∧ Keep N [] h0 g' := by
      intro b hbv
      obtain ⟨vo', g3, c1, O2', c2, c3, c4, c5⟩ := push_app (w := 1) (xs := [.lit (.bool b)]) O2a rfl rfl (by omega)
      have hl2 : (g1.set x (.cells [vh', vo])).length = g1.length := by simp
      have hnx2 : ¬ At vo x := fun h => (a2 x h).2 rfl
      have hc3 : cellsAt g3 x = some [vh', vo] := by
        have := cellsAt_some hc2
        unfold cellsAt
        rw [c5 x (by omega) hnx2, this]
      have hone : vo'.one = true := by obtain ⟨_, ⟨rfl, _⟩ | ⟨b, rfl, _⟩⟩ := O2' <;> rfl
      have hst : st1 g3 (.ptr x 1) vo' = some (g3.set x (.cells [vh', vo'])) := by rw [st1_of hc3 hone (by simp)]; rfl
      have hvh' : ∀ b, At vh' b → g.length ≤ b ∧ b < g1.length := fun b hb => ⟨b4 b hb, At.own O1' hb⟩
      have R' : RefAt N (g3.set x (.cells [vh', vo'])) x ((srcOf l o).take (i + 1)) := by
        have hlen : ((srcOf l o).take (i + 1)).length = i + 1 := by simp; omega
        refine ⟨⟨vh', vo', cellsAt_set hc3, ?_, ?_, fun d hd => ?_, fun d hd => ?_, fun d hd hd2 => ?_⟩, hx⟩
        · rw [hlen, htk]
          have := O1'.keep (h' := g3.set x (.cells [vh', vo'])) fun d hd => by
            obtain ⟨e1, e2⟩ := hvh' d hd
            rw [List.getElem?_set_ne (by omega), c5 d (by omega) fun h => by have := At.own O2 h; omega, List.getElem?_set_ne (by omega)]
          simpa [strVs] using this
        · rw [hlen, htk]
          have := O2'.keep (h' := g3.set x (.cells [vh', vo'])) fun d hd => List.getElem?_set_ne (by have := c4 d hd; omega)
          rw [hbv] at this
          simpa [boolVs] using this
        · obtain ⟨e1, e2⟩ := hvh' d hd; exact ⟨by omega, by omega⟩
        · have := c4 d hd; exact ⟨by omega, by omega⟩
        · obtain ⟨e1, e2⟩ := hvh' d hd; have := c4 d hd2; omega
      obtain ⟨g', r1, r2, r3⟩ := ih (i + 1) _ (by omega) (by omega) R' (by simp; omega) (K2.trans ((show Keep N [] _ g3 from ⟨c2, fun c hc _ => c5 c (by omega) fun h => by have := (a2 c h).1; omega⟩).trans (Keep.set (.inl hx))))
      refine ⟨g', ?_, r2, r3⟩
      rw [c1, Option.bind_some, hst, Option.bind_some, S_chainmanref15_New_1_eq, int_of_wrap (by omega)]
      exact r1
    rw [S_chainmanref15_New_0_eq]
    simp only [S1.len, Option.bind_some]
    rw [show decide (((i : Nat) : Int) < ((l.length : Nat) : Int)) = true by simp; omega, cond_true]
    simp only [ld1_of hc, List.getElem?_cons_zero, List.getElem?_cons_succ, Option.bind_some]
    rw [p1, Option.bind_some, p2, Option.bind_some]
    simp only [asS, Option.bind_some]
    rw [blit_one rfl, Option.bind_some, b1, Option.bind_some, hst1, Option.bind_some]
    simp only [ld1_of hc2, List.getElem?_cons_zero, List.getElem?_cons_succ, Option.bind_some, S2.len]
    by_cases ho : i < o.length
    · obtain ⟨q, q1, _, _, q2⟩ := (keepS S2 K2).idx ho
      have q2 := q2 (by omega)
      rw [Nat.mul_one, boolVs_get ho] at q2
      rw [show decide (((i : Nat) : Int) < ((o.length : Nat) : Int)) = true by simp; omega, cond_true, q1, Option.bind_some, q2, Option.bind_some]
      simp only [asB, Option.bind_some]
      rw [blit_one rfl, Option.bind_some]
      exact go _ (by simp [List.getD_eq_getElem?_getD, ho])
    · rw [show decide (((i : Nat) : Int) < ((o.length : Nat) : Int)) = false by simp; omega, cond_false, blit_one rfl, Option.bind_some]
      exact go _ (by simp [List.getD_eq_getElem?_getD, ho])
theorem refNew_run {h0 : AHeap} {heads over : AVal} {l : List ByteArray} {o : List Bool} (S1 : Sl 1 h0 heads l.length (strVs l)) (S2 : Sl 1 h0 over o.length (boolVs o)) (hn : l.length ≤ 64) :
    ∃ h', S_chainmanref15_New heads over h0 = some (.ptr h0.length 0, h') ∧ RefAt h0.length h' h0.length (srcOf l o) ∧ Keep h0.length [] h0 h' := by
  rw [S_chainmanref15_New_eq]
  simp only [S1.len, Option.bind_some]
  rw [show decide (((l.length : Nat) : Int) > 64) = false by simp; omega, cond_false]
  have R0 : RefAt h0.length (psh h0 (.cells [.lit (.slice none 0 0), .lit (.slice none 0 0)])) h0.length ((srcOf l o).take 0) := by
    refine ⟨⟨_, _, cellsAt_new _ _, Own.nil _ _, Own.nil _ _, fun b hb => ?_, fun b hb => ?_, fun b hb => ?_⟩, Nat.le_refl _⟩ <;> (obtain ⟨_, _, _, hb⟩ := hb; cases hb)
  exact refNew_loop S1 S2 hn (Nat.le_refl _) l.length 0 _ (by omega) (by omega) R0 (by simp [psh]) (Keep.psh _ (Nat.le_refl _))
end Go.Proofs.Ytpjocohpogihcaa.AL
