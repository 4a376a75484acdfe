/- The tree of losers, made new. -/
import Derived.Test.YtpjocohpogihcaaLoser
import Derived.Test.YtpjocohpogihcaaSeq
namespace Go.Proofs.Ytpjocohpogihcaa.AL
set_option linter.unusedVariables false
set_option linter.unusedSimpArgs false
set_option maxRecDepth 100000
open Go
open Go.Proofs.Try
def srcOf (l : List ByteArray) (o : List Bool) : List Src := l.mapIdx fun i s => (s, o.getD i false)
theorem srcOf_length (l : List ByteArray) (o : List Bool) : (srcOf l o).length = l.length := by simp [srcOf]
def cnt : List Src → Nat
  | [] => 0
  | s :: l => cnt l + if s.2 then 0 else 1
theorem cnt_app (a b : List Src) : cnt (a ++ b) = cnt a + cnt b := by
  induction a with
  | nil => simp [cnt]
  | cons x a ih => simp only [List.cons_append, cnt, ih]; omega
theorem cnt_le (a : List Src) : cnt a ≤ a.length := by
  induction a with
  | nil => simp [cnt]
  | cons x a ih => simp only [cnt, List.length_cons]; split <;> omega
abbrev zsrc : Src := (⟨#[]⟩, false)
def partOf (hs : List Src) (i : Nat) : List Src := hs.take i ++ List.replicate (hs.length - i) zsrc
theorem partOf_length {hs : List Src} {i : Nat} (hi : i ≤ hs.length) : (partOf hs i).length = hs.length := by simp [partOf]; omega
theorem partOf_set {hs : List Src} {i : Nat} (hi : i < hs.length) : (partOf hs i).set i hs[i] = partOf hs (i + 1) := by
  unfold partOf
  have hl : (hs.take i).length = i := by simp; omega
  rw [List.set_append_right _ _ (by omega), hl, Nat.sub_self]
  rw [show hs.length - i = (hs.length - (i + 1)) + 1 by omega, List.replicate_succ, List.set_cons_zero, List.take_succ_eq_append_getElem hi, List.append_assoc]
  rfl
theorem partOf_all (hs : List Src) : partOf hs hs.length = hs := by simp [partOf]
theorem strVs_get {l : List ByteArray} {i : Nat} (hi : i < l.length) : (strVs l)[i]? = some (.lit (.string l[i])) := by simp [strVs, hi]
theorem boolVs_get {l : List Bool} {i : Nat} (hi : i < l.length) : (boolVs l)[i]? = some (.lit (.bool l[i])) := by simp [boolVs, hi]
theorem int_of_wrap {i : Nat} (h : i < 1000000) : IntKind.wrap .i64 ((i : Int) + 1) = ((i + 1 : Nat) : Int) := by rw [show (i : Int) + 1 = ((i + 1 : Nat) : Int) by omega]; exact wrap_nat (by omega)
theorem New_loop {h0 : AHeap} {heads over : AVal} {l : List ByteArray} {o : List Bool} {t bs bl : Nat} (S1 : Sl 1 h0 heads l.length (strVs l)) (S2 : Sl 1 h0 over o.length (boolVs o)) (hn : l.length ≤ 64)
    (hb : h0.length ≤ t ∧ h0.length ≤ bs ∧ h0.length ≤ bl) : ∀ (d i : Nat) (g : AHeap), l.length - i = d → i ≤ l.length → TreeAt g t bs bl (partOf (srcOf l o) i) (List.replicate l.length 0) (cnt ((srcOf l o).take i) : Nat) → Keep h0.length [] h0 g →
    ∃ g', S_loser_New_0 heads over t heads (l.length : Nat) (i : Nat) g = S_loser_New_2 heads t g' ∧ TreeAt g' t bs bl (srcOf l o) (List.replicate l.length 0) (cnt (srcOf l o) : Nat) ∧ Keep h0.length [] h0 g' ∧ g'.length = g.length := by
  intro d
  induction d with
  | zero =>
    intro i g hd hi T K
    have : i = l.length := by omega
    subst this
    refine ⟨g, ?_, ?_, K, rfl⟩
    · rw [S_loser_New_0_eq, show decide (((l.length : Nat) : Int) < ((l.length : Nat) : Int)) = false by simp, cond_false]
    · have e := srcOf_length l o
      rw [← e, partOf_all, List.take_length] at T
      rw [← e]; exact T
  | succ d ih =>
    intro i g hd hi T K
    have hlt : i < l.length := by omega
    have hsl := srcOf_length l o
    have hpl : (partOf (srcOf l o) i).length = l.length := by rw [partOf_length (by omega), hsl]
    obtain ⟨p, p1, _, _, p2⟩ := (S1.keep K (fun _ _ _ _ => by simp)).idx hlt
    have p2 := p2 (by omega)
    rw [Nat.mul_one, strVs_get hlt] at p2
    have hgeti : (srcOf l o)[i]'(by omega) = (l[i], o.getD i false) := by simp [srcOf]
    -- what follows, whether it is over or not
    have go : ∀ (b : Bool), b = o.getD i false → ∃ g', S_loser_New_1 heads over t (i : Nat) l[i] heads (l.length : Nat) (i : Nat) b g = S_loser_New_2 heads t g' ∧ TreeAt g' t bs bl (srcOf l o) (List.replicate l.length 0) (cnt (srcOf l o) : Nat) ∧ Keep h0.length [] h0 g' ∧ g'.length = g.length := by
      intro b hbv
      have e1 : ld1 g (.ptr t 1) = some (.sl 2 bs 0 l.length) := by rw [ld1_of T.tc, hpl]; rfl
      have e2 : idxP 2 (.sl 2 bs 0 l.length) (i : Nat) = some (.ptr bs (2 * i)) := by
        unfold idxP
        simp only [Nat.beq_refl]
        rw [req_true (by omega)]
        simp only [Option.bind_some]
        rw [show 0 + ((i : Nat) : Int).toNat * 2 = 2 * i by omega]
      obtain ⟨b1, T1⟩ := T.setSrc (i := i) (by omega) (l[i], b)
      have hpart : (partOf (srcOf l o) i).set i (l[i], b) = partOf (srcOf l o) (i + 1) := by rw [hbv, ← hgeti]; exact partOf_set (by omega)
      rw [hpart] at b1 T1
      have hcnt : cnt ((srcOf l o).take (i + 1)) = cnt ((srcOf l o).take i) + if b then 0 else 1 := by
        rw [List.take_succ_eq_append_getElem (by omega), cnt_app, hgeti, ← hbv]
        cases b <;> simp [cnt]
      have hle : cnt ((srcOf l o).take i) ≤ 64 := Nat.le_trans (cnt_le _) (by simp; omega)
      have K1 : Keep h0.length [] h0 (g.set bs (.cells (tsrcs (partOf (srcOf l o) (i + 1))))) := K.trans (Keep.set (.inl hb.2.1))
      rw [S_loser_New_1_eq, e1, Option.bind_some, e2, Option.bind_some, b1, Option.bind_some]
      cases b with
      | true =>
        obtain ⟨g', r1, r2, r3, r4⟩ := ih (i + 1) _ (by omega) (by omega) (by rw [hcnt]; simpa using T1) K1
        refine ⟨g', ?_, r2, r3, by simpa using r4⟩
        rw [← r1]
        simp only [Bool.not_true, cond_false, S_loser_New_3_eq]
        rw [int_of_wrap (by omega)]
      | false =>
        obtain ⟨c, c1, T2⟩ := T1.setLeft (((cnt ((srcOf l o).take i) : Nat) : Int) + 1)
        have e3 : ld1 (g.set bs (.cells (tsrcs (partOf (srcOf l o) (i + 1))))) (.ptr t 3) = some (tI (cnt ((srcOf l o).take i) : Nat)) := by rw [ld1_of T1.tc]; rfl
        obtain ⟨g', r1, r2, r3, r4⟩ := ih (i + 1) _ (by omega) (by omega) (by rw [hcnt]; simpa using T2) (K1.trans (Keep.set (.inl hb.1)))
        refine ⟨g', ?_, r2, r3, by simpa using r4⟩
        rw [← r1]
        simp only [Bool.not_false, cond_true]
        rw [e3]
        simp only [Option.bind_some, asI, kindEq]
        rw [int_of_wrap (by omega)]
        have c1' : st1 (g.set bs (.cells (tsrcs (partOf (srcOf l o) (i + 1))))) (.ptr t 3) (.lit (.int .i64 ((cnt ((srcOf l o).take i) + 1 : Nat) : Int))) = some ((g.set bs (.cells (tsrcs (partOf (srcOf l o) (i + 1))))).set t c) := c1
        rw [c1', Option.bind_some, S_loser_New_3_eq, int_of_wrap (by omega)]
    rw [S_loser_New_0_eq, show decide (((i : Nat) : Int) < ((l.length : Nat) : Int)) = true by simp; omega, cond_true, p1, Option.bind_some, p2, Option.bind_some]
    simp only [asS, Option.bind_some, S2.len]
    by_cases ho : i < o.length
    · obtain ⟨q, q1, _, _, q2⟩ := (S2.keep K (fun _ _ _ _ => by simp)).idx ho
      have q2 := q2 (by omega)
      rw [Nat.mul_one, boolVs_get ho] at q2
      rw [show decide (((i : Nat) : Int) < ((o.length : Nat) : Int)) = true by simp; omega, cond_true, q1, Option.bind_some, q2, Option.bind_some]
      simp only [asB, Option.bind_some]
      exact go _ (by simp [List.getD_eq_getElem?_getD, ho])
    · rw [show decide (((i : Nat) : Int) < ((o.length : Nat) : Int)) = false by simp; omega, cond_false]
      exact go _ (by simp [List.getD_eq_getElem?_getD, ho])
theorem tsrcs_zero (n : Nat) : (List.replicate n [.lit (.string { data := #[] }), .lit (.bool false)]).flatten = tsrcs (List.replicate n zsrc) := by
  induction n with
  | zero => rfl
  | succ n ih => rw [List.replicate_succ, List.replicate_succ, List.flatten_cons, ih]; rfl
theorem New_run {h0 : AHeap} {heads over : AVal} {l : List ByteArray} {o : List Bool} (S1 : Sl 1 h0 heads l.length (strVs l)) (S2 : Sl 1 h0 over o.length (boolVs o)) (hn : l.length ≤ 64) :
    ∃ h' ls, S_loser_New heads over h0 = some (.ptr (h0.length + 2) 0, h') ∧ TreeAt h' (h0.length + 2) h0.length (h0.length + 1) (srcOf l o) ls (cnt (srcOf l o) : Nat) ∧ InvN (srcOf l o) ls ∧ (∀ x ∈ ls, x < l.length) ∧ Keep h0.length [] h0 h' ∧ h'.length = h0.length + 3 := by
  have hsl := srcOf_length l o
  rw [S_loser_New_eq]
  simp only [S1.len, Option.bind_some]
  rw [show decide (((l.length : Nat) : Int) > 64) = false by simp; omega, cond_false, mkA_nat (by omega) (by omega), Option.bind_some, closed_rep rfl, cond_true, mkA_nat (by omega) (by omega), Option.bind_some, closed_rep rfl, cond_true]
  have elen : (apd h0 [.cells (List.replicate l.length [.lit (.string { data := #[] }), .lit (.bool false)]).flatten, .cells (List.replicate l.length [.lit (.int .i64 0)]).flatten]).length = h0.length + 2 := by simp [apd]
  rw [elen]
  have T0 : TreeAt (psh (apd h0 [.cells (List.replicate l.length [.lit (.string { data := #[] }), .lit (.bool false)]).flatten, .cells (List.replicate l.length [.lit (.int .i64 0)]).flatten]) (.cells [.lit (.bool true), .sl 2 h0.length 0 ((l.length : Nat) : Int).toNat, .sl 1 (h0.length + 1) 0 ((l.length : Nat) : Int).toNat, .lit (.int .i64 0)]))
      (h0.length + 2) h0.length (h0.length + 1) (partOf (srcOf l o) 0) (List.replicate l.length 0) ((cnt ((srcOf l o).take 0) : Nat) : Int) := by
    have hp : partOf (srcOf l o) 0 = List.replicate l.length zsrc := by simp [partOf, hsl]
    rw [hp]
    refine ⟨?_, ?_, ?_, by simp, by omega, by omega, by omega⟩
    · simp [cellsAt, psh, apd, cnt]
    · rw [tsrcs_zero]; simp [cellsAt, psh, apd]
    · rw [flat_one]; simp [cellsAt, psh, apd]
  obtain ⟨g, r1, T1, K1, L1⟩ := New_loop S1 S2 hn (t := h0.length + 2) (bs := h0.length) (bl := h0.length + 1) (by omega) l.length 0 _ (by omega) (by omega) T0 ((Keep.apd _ (Nat.le_refl _)).trans (Keep.psh _ (by simp [apd])))
  have r1' : S_loser_New_0 heads over (h0.length + 2) heads (l.length : Nat) 0 _ = S_loser_New_2 heads (h0.length + 2) g := r1
  rw [r1']
  have hgl : g.length = h0.length + 3 := by rw [L1]; simp [psh, apd]
  rw [S_loser_New_2_eq, S1.len, Option.bind_some]
  by_cases h0l : l.length = 0
  · rw [show decide (((l.length : Nat) : Int) > 0) = false from decide_eq_false (by omega), cond_false, S_loser_New_4_eq]
    refine ⟨g, _, rfl, T1, ⟨by simp [hsl], fun k _ hk => by omega, fun hk => by omega⟩, fun x hx => ?_, K1, hgl⟩
    rw [h0l] at hx; simp at hx
  · rw [show decide (((l.length : Nat) : Int) > 0) = true from decide_eq_true (by omega), cond_true]
    have e1 : ld1 g (.ptr (h0.length + 2) 2) = some (.sl 1 (h0.length + 1) 0 (srcOf l o).length) := by rw [ld1_of T1.tc]; rfl
    obtain ⟨g2, ls, p1, T2, p3, p4, p5, p6⟩ := plays_run (hs := srcOf l o) (by omega) 130 1 _ g T1 (by omega) (by omega) (by omega)
    have p1' : playP 130 [.ptr (h0.length + 2) 0, .lit (.int .i64 1)] g = some (tI (winN (srcOf l o) 1 : Nat), g2) := p1
    have e2 : ld1 g2 (.ptr (h0.length + 2) 2) = some (.sl 1 (h0.length + 1) 0 (srcOf l o).length) := by rw [ld1_of T2.tc]; rfl
    obtain ⟨a1, a2, a3⟩ := T2.losAt (i := 0) (by omega)
    obtain ⟨b1, T3⟩ := T2.setLos (i := 0) (by omega) (winN (srcOf l o) 1)
    rw [e1, Option.bind_some, p1', Option.bind_some]
    simp only [asI, kindEq, Option.bind_some]
    rw [e2, Option.bind_some, reqC_true rfl, Option.bind_some, show (0 : Int) = ((0 : Nat) : Int) from rfl, a2, Option.bind_some, b1, Option.bind_some, S_loser_New_4_eq]
    have hwl : winN (srcOf l o) 1 < l.length := by have := winN_lt (hs := srcOf l o) _ 1 rfl (by omega) (by omega); omega
    have hl2 := T2.len
    refine ⟨_, _, rfl, T3, ⟨by simp [hl2], fun k hk1 hk2 => ?_, fun _ => ?_⟩, fun x hx => ?_, K1.trans (Keep.trans ⟨by omega, fun c hc _ => p4 c (by omega)⟩ (Keep.set (.inl (by omega)))), by simp; omega⟩
    · rw [getD_set (by omega), if_neg (by omega)]
      refine p5 k hk1 hk2 ?_
      -- every node stands below the root
      clear p1 p1' p4 p5 p6 T1 T2 T3 r1 r1' T0
      induction k using Nat.strongRecOn with
      | _ k ih =>
        rcases Nat.lt_or_ge k 2 with h | h
        · have : k = 1 := by omega
          subst this; exact .self _
        · obtain ⟨d, hd⟩ := ih (k / 2) (by omega) (by omega) (by omega)
          exact ⟨d + 1, by rw [Nat.pow_succ, Nat.mul_comm, ← Nat.div_div_eq_div_mul]; exact hd⟩
    · rw [getD_set (by omega), if_pos rfl]
    · obtain ⟨i, hi, rfl⟩ := List.getElem_of_mem hx
      rw [List.getElem_set]
      split
      · exact hwl
      · rename_i hne
        simp only [List.length_set] at hi
        have hg : ls.getD i 0 = ls[i] := by simp [List.getD_eq_getElem?_getD, hi]
        rw [← hg]
        have hi1 : 1 ≤ i := by omega
        have hil : i < (srcOf l o).length := by omega
        have hway : OnWay i 1 := by
          clear p1 p1' p4 p5 p6 T1 T2 T3 r1 r1' T0 hg hx
          have : ∀ k, 1 ≤ k → OnWay k 1 := by
            intro k
            induction k using Nat.strongRecOn with
            | _ k ih =>
              intro hk
              rcases Nat.lt_or_ge k 2 with h | h
              · have : k = 1 := by omega
                subst this; exact .self _
              · obtain ⟨d, hd⟩ := ih (k / 2) (by omega) (by omega)
                exact ⟨d + 1, by rw [Nat.pow_succ, Nat.mul_comm, ← Nat.div_div_eq_div_mul]; exact hd⟩
          exact this i hi1
        rw [p5 i hi1 hil hway]
        unfold losN mx
        have w1 := winN_lt (hs := srcOf l o) _ (2 * i) rfl (by omega) (by omega)
        have w2 := winN_lt (hs := srcOf l o) _ (2 * i + 1) rfl (by omega) (by omega)
        split <;> omega
end Go.Proofs.Ytpjocohpogihcaa.AL
