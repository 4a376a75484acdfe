/- Of sources whose heads rise all heads come, in order: step by step. -/
import Derived.Test.YtpjocohpogihcaaLawMerge2
namespace Go.Proofs.Ytpjocohpogihcaa.AL
set_option linter.unusedVariables false
set_option linter.unusedSimpArgs false
set_option maxRecDepth 100000
open Go
open Go.Proofs.Try
/-! ### The tree alone -/
structure Tree (h : AHeap) (t bs bl : Nat) (hs : List Src) (ls : List Nat) : Prop where
  T : TreeAt h t bs bl hs ls (cnt hs : Nat)
  I : InvN hs ls
  all : ∀ k ∈ ls, k < hs.length
  few : hs.length ≤ 64
variable {h : AHeap} {t bs bl : Nat} {hs : List Src} {ls : List Nat}
theorem Tree.least (B : Tree h t bs bl hs ls) : onlyR (ptrV (fun b o => S_loser_Tree_Least b o) (.ptr t 0) h) h = some (leastV hs) := by
  show onlyR (S_loser_Tree_Least t 0 h) h = _
  have key : S_loser_Tree_Least t 0 h = some (leastV hs, h) := by
    by_cases hc : 0 < cnt hs
    · rw [Least_run B.T (len_pos hc), if_pos (by omega)]
      unfold leastV
      rw [if_pos hc, B.I.top (len_pos hc)]
    · rw [S_loser_Tree_Least_eq, some_run B.T]
      unfold leastV
      rw [if_neg hc]
      have e : decide (((cnt hs : Nat) : Int) > 0) = false := decide_eq_false (by omega)
      simp only [Option.bind_some, asB, e, Bool.not_false, cond_true]
  rw [key, onlyR_same]
theorem Tree.head (B : Tree h t bs bl hs ls) (hc : 0 < cnt hs) : onlyR (ptrV (fun b o => S_loser_Tree_Head b o) (.ptr t 0) h) h = some (.lit (.string (srcN hs (winN hs 1)).1)) := by
  show onlyR (S_loser_Tree_Head t 0 h) h = _
  obtain ⟨_, _, hw⟩ := (best_win (hs := hs)).2 hc
  have ht := B.I.top (len_pos hc)
  rw [Head_run B.T (len_pos hc) (by rw [ht]; exact hw), if_pos (by omega), ht, onlyR_same]
theorem Tree.next (B : Tree h t bs bl hs ls) (hc : 0 < cnt hs) (s : ByteArray) (o : Bool) : ∃ h1 ls', ptrV (fun b p => S_loser_Tree_Next b p s o) (.ptr t 0) h = some (.tup [], h1) ∧ Tree h1 t bs bl (hs.set (winN hs 1) (s, o)) ls' ∧ h1.length = h.length ∧ ∀ b, b ≠ t → b ≠ bs → b ≠ bl → h1[b]? = h[b]? := by
  show ∃ h1 ls', S_loser_Tree_Next t 0 s o h = some (.tup [], h1) ∧ _
  obtain ⟨_, hwo, hw⟩ := (best_win (hs := hs)).2 hc
  have ht := B.I.top (len_pos hc)
  obtain ⟨h1, a1, a2, a3, a4⟩ := Next_run B.few B.T (by omega) (by have := cnt_le hs; have := B.few; omega) (len_pos hc) B.all (by rw [ht]; exact hw) s o
  rw [ht] at a3
  have hcs := cnt_set (hs := hs) s o hw hwo
  have I' := replays_inv (x := (s, o)) B.I hw rfl
  have e : (if o then ((cnt hs : Nat) : Int) - 1 else ((cnt hs : Nat) : Int)) = (cnt (hs.set (winN hs 1) (s, o)) : Nat) := by cases o <;> simp at hcs ⊢ <;> omega
  rw [e] at a3
  refine ⟨h1, _, a1, ⟨a3, I', fun k hk => ?_, by simpa using B.few⟩, a2, a4⟩
  have hlen := I'.len
  obtain ⟨i, hi, rfl⟩ := List.getElem_of_mem hk
  have hg : ∀ (l : List Nat) (hi : i < l.length), l.getD i 0 = l[i] := fun l hi => by simp [List.getD_eq_getElem?_getD, hi]
  rw [← hg _ hi]
  have hp : 0 < (hs.set (winN hs 1) (s, o)).length := by simpa using len_pos hc
  rcases Nat.eq_zero_or_pos i with rfl | hi0
  · rw [I'.top hp]
    exact winN_lt _ 1 rfl (by omega) (by omega)
  · rw [I'.los i hi0 (by omega)]
    unfold losN mx
    have w1 := winN_lt (hs := hs.set (winN hs 1) (s, o)) _ (2 * i) rfl (by omega) (by omega)
    have w2 := winN_lt (hs := hs.set (winN hs 1) (s, o)) _ (2 * i + 1) rfl (by omega) (by omega)
    split <;> omega
theorem Tree.keep {h' : AHeap} (B : Tree h t bs bl hs ls) (K : ∀ b, b = t ∨ b = bs ∨ b = bl → h'[b]? = h[b]?) : Tree h' t bs bl hs ls := by
  have T := B.T
  refine ⟨⟨?_, ?_, ?_, T.len, T.ne1, T.ne2, T.ne3⟩, B.I, B.all, B.few⟩
  · have := cellsAt_some T.tc; unfold cellsAt; rw [K t (.inl rfl), this]
  · have := cellsAt_some T.sc; unfold cellsAt; rw [K bs (.inr (.inl rfl)), this]
  · have := cellsAt_some T.lc; unfold cellsAt; rw [K bl (.inr (.inr rfl)), this]
/-! ### Between two steps -/
variable {l0 : AVal} {A : List Row}
structure Mg (A : List Row) (N : Nat) (g : AHeap) (f : FamT) (t bs bl : Nat) (at_ now all : List Nat) (hs : List Src) (ls : List Nat) (last : Nat) : Prop where
  F : Fam g f
  e2 : (f 2).2 = natVs at_
  e3 : (f 3).2 = natVs now
  e4 : (f 4).2 = natVs all
  big : all.length = 4096
  low : ∀ i b, At (f i).1 b → b < N
  tlow : N ≤ t ∧ N ≤ bs ∧ N ≤ bl
  B : Tree g t bs bl hs ls
  l1 : hs.length = A.length
  l2 : at_.length = A.length
  l3 : now.length = A.length
  le : ∀ i, i < A.length → atN at_ i ≤ (rowN (rowsOf A) i).length
  on : ∀ i, i < A.length → atN at_ i < (rowN (rowsOf A) i).length → srcN hs i = (txtN (sumV (rowN (rowsOf A) i) (atN at_ i)), false) ∧ atN now i = sumV (rowN (rowsOf A) i) (atN at_ i) ∧ last ≤ sumV (rowN (rowsOf A) i) (atN at_ i)
  off : ∀ i, i < A.length → ¬ atN at_ i < (rowN (rowsOf A) i).length → (srcN hs i).2 = true
  al : ∀ u, u < 4096 → atN all u + sumP (rowsOf A) at_ u = sumP (rowsOf A) (lnOf (rowsOf A)) u
theorem atN_ln {i : Nat} (hi : i < A.length) : atN (lnOf (rowsOf A)) i = (rowN (rowsOf A) i).length := by
  simp [atN, lnOf, rowN, rowsOf, List.getD_eq_getElem?_getD, hi]
theorem cnt_on {hs : List Src} {i : Nat} (hi : i < hs.length) (ho : (srcN hs i).2 = false) : 0 < cnt hs := by
  rcases Nat.eq_zero_or_pos (cnt hs) with h | h
  · rw [cnt_zero h i hi] at ho; cases ho
  · exact h
theorem Mg.sums {N : Nat} {g : AHeap} {f : FamT} {at_ now all : List Nat} {last : Nat} (M : Mg A N g f t bs bl at_ now all hs ls last) : at_.sum ≤ (lnOf (rowsOf A)).sum ∧ (at_.sum = (lnOf (rowsOf A)).sum → at_ = lnOf (rowsOf A)) :=
  sum_le (by rw [M.l2]; simp [lnOf, rowsOf]) fun i hi => by rw [M.l2] at hi; rw [atN_ln hi]; exact M.le i hi
theorem Mg.some {N : Nat} {g : AHeap} {f : FamT} {at_ now all : List Nat} {last : Nat} (M : Mg A N g f t bs bl at_ now all hs ls last) (h : at_.sum < (lnOf (rowsOf A)).sum) : 0 < cnt hs := by
  rcases Nat.eq_zero_or_pos (cnt hs) with hc | hc
  · exfalso
    have : at_ = lnOf (rowsOf A) := by
      refine List.ext_getElem (by rw [M.l2]; simp [lnOf, rowsOf]) fun i h1 h2 => ?_
      have hi : i < A.length := by rw [← M.l2]; exact h1
      have e1 : atN at_ i = at_[i] := by simp [atN, List.getD_eq_getElem?_getD, h1]
      have e2 : atN (lnOf (rowsOf A)) i = (lnOf (rowsOf A))[i] := by simp [atN, List.getD_eq_getElem?_getD, h2]
      rw [← e1, ← e2, atN_ln hi]
      have h3 := M.le i hi
      rcases Nat.lt_or_ge (atN at_ i) (rowN (rowsOf A) i).length with h4 | h4
      · have := (M.on i hi h4).1
        have h5 := cnt_zero hc i (by rw [M.l1]; exact hi)
        rw [this] at h5; cases h5
      · omega
    rw [this] at h; omega
  · exact hc
theorem check_loop {g : AHeap} {f : FamT} (F : Fam g f) {all : List Nat} (e4 : (f 4).2 = natVs all) (hz : ∀ u, u < all.length → atN all u = 0) (hb : all.length ≤ 4096) {tv : AVal} (hK : Tru (S_chainmanlaw15_LoserMerges_11 tv g)) : ∀ (d v : Nat), all.length - v = d → v ≤ all.length →
    Tru (S_chainmanlaw15_LoserMerges_10 (f 4).1 tv (v : Nat) g) := by
  intro d
  have hl : (f 4).2.length = all.length := by rw [e4]; simp [natVs]
  induction d with
  | zero =>
    intro v hd hv
    rw [S_chainmanlaw15_LoserMerges_10_eq, (F.own 4).sl.len, Option.bind_some, decide_eq_false (by omega), cond_false]
    exact hK
  | succ d ih =>
    intro v hd hv
    have hlt : v < (f 4).2.length := by omega
    obtain ⟨s, s1, s2⟩ := F.get 4 hlt
    have hcell : (f 4).2[v] = .lit (.int .i64 (atN all v : Nat)) := by
      have h' : v < (natVs all).length := by rw [← e4]; exact hlt
      rw [← natVs_get h']; congr 1
    rw [hcell, hz v (by omega)] at s2
    rw [S_chainmanlaw15_LoserMerges_10_eq, (F.own 4).sl.len, Option.bind_some, decide_eq_true (by omega), cond_true]
    simp only [s1, s2, asI, kindEq, Option.bind_some]
    rw [show decide (((0 : Nat) : Int) = 0) = true from rfl, Bool.not_true, cond_false, int_of_wrap (by omega)]
    exact ih (v + 1) (by omega) (by omega)
theorem nat_cell {f : FamT} {i : Nat} {l : List Nat} (e : (f i).2 = natVs l) {k : Nat} (hk : k < (f i).2.length) : (f i).2[k] = .lit (.int .i64 (atN l k : Nat)) := by
  have h' : k < (natVs l).length := by rw [← e]; exact hk
  rw [← natVs_get h']; congr 1
theorem merge_loop (R : Rows l0 A) (h12 : ∀ r ∈ rowsOf A, r.length ≤ 12) {N t bs bl : Nat} : ∀ (d : Nat) (g : AHeap) (f : FamT) (at_ now all : List Nat) (hs : List Src) (ls : List Nat) (last : Nat), (lnOf (rowsOf A)).sum - at_.sum = d → Mg A N g f t bs bl at_ now all hs ls last →
    Tru (S_chainmanlaw15_LoserMerges_4 l0 (f 2).1 (f 3).1 (f 4).1 ((lnOf (rowsOf A)).sum : Nat) (.ptr t 0) (last : Nat) (at_.sum : Nat) g) := by
  intro d
  have hsum : (lnOf (rowsOf A)).sum ≤ 144 := by
    have key : ∀ M : List (List Nat), (∀ r ∈ M, r.length ≤ 12) → (lnOf M).sum ≤ M.length * 12 := by
      intro M
      induction M with
      | nil => intro _; simp [lnOf]
      | cons m M ih => intro hm; have h1 := ih fun r hr => hm r (by simp [hr]); have h2 := hm m (by simp); simp only [lnOf, List.map_cons, List.sum_cons, List.length_cons] at h1 ⊢; omega
    have h1 := key _ h12
    have := R.few
    have : (rowsOf A).length ≤ 12 := by simp [rowsOf]; omega
    omega
  induction d with
  | zero =>
    intro g f at_ now all hs ls last hd M
    obtain ⟨s1, s2⟩ := M.sums
    have hat := s2 (by omega)
    rw [S_chainmanlaw15_LoserMerges_4_eq, decide_eq_false (by omega), cond_false, S_chainmanlaw15_LoserMerges_7_eq]
    have hc0 : cnt hs = 0 := by
      rcases Nat.eq_zero_or_pos (cnt hs) with h | h
      · exact h
      · obtain ⟨i, hi, ho⟩ := cnt_pos h
        rw [M.l1] at hi
        rw [M.off i hi (by rw [hat, atN_ln hi]; omega)] at ho; cases ho
    have hK : Tru (S_chainmanlaw15_LoserMerges_11 (.ptr t 0) g) := by
      rw [S_chainmanlaw15_LoserMerges_11_eq, M.B.least]
      unfold leastV
      rw [if_neg (by omega)]
      simp only [xExtract, List.getElem?_cons_zero, List.getElem?_cons_succ, Option.bind_some, asI, asB, kindEq, Bool.not_false, cond_true, S_chainmanlaw15_LoserMerges_12_eq]
      exact .here
    exact check_loop M.F M.e4 (fun u hu => by have := M.al u (by rw [← M.big]; exact hu); rw [hat] at this; omega) (by rw [M.big]; omega) hK all.length 0 (by omega) (by omega)
  | succ d ih =>
    intro g f at_ now all hs ls last hd M
    have hc := M.some (by omega)
    obtain ⟨_, hwo, hw⟩ := (best_win (hs := hs)).2 hc
    generalize hwe : winN hs 1 = w at hwo hw
    have hwA : w < A.length := by rw [← M.l1]; exact hw
    have hon : atN at_ w < (rowN (rowsOf A) w).length := by
      rcases Nat.lt_or_ge (atN at_ w) (rowN (rowsOf A) w).length with h | h
      · exact h
      · rw [M.off w hwA (by omega)] at hwo; cases hwo
    obtain ⟨o1, o2, o3⟩ := M.on w hwA hon
    obtain ⟨p, x, p1, p2, hS, hb⟩ := R.row hwA g
    have hv := sumV_le hb (atN at_ w)
    have hr12 : (rowN (rowsOf A) w).length ≤ 12 := h12 _ (by rw [rowN_eq (by simpa [rowsOf] using hwA)]; exact List.getElem_mem _)
    have hl2 : w < (f 2).2.length := by rw [M.e2]; simp [natVs, M.l2]; exact hwA
    have hl3 : w < (f 3).2.length := by rw [M.e3]; simp [natVs, M.l3]; exact hwA
    have hl4 : sumV (rowN (rowsOf A) w) (atN at_ w) < (f 4).2.length := by rw [M.e4]; simp [natVs, M.big]; omega
    obtain ⟨a2, a21, a22⟩ := M.F.get 2 hl2
    obtain ⟨a3, a31, a32⟩ := M.F.get 3 hl3
    obtain ⟨a4, a41, a42⟩ := M.F.get 4 hl4
    rw [nat_cell M.e2 hl2] at a22
    rw [nat_cell M.e3 hl3, o2] at a32
    rw [nat_cell M.e4 hl4] at a42
    have hhead := M.B.head hc
    rw [hwe, o1] at hhead
    have htn : (((sumV (rowN (rowsOf A) w) (atN at_ w) : Nat) : Int)).toNat = sumV (rowN (rowsOf A) w) (atN at_ w) := by omega
    rw [S_chainmanlaw15_LoserMerges_4_eq, decide_eq_true (by omega), cond_true, M.B.least]
    unfold leastV
    rw [if_pos hc, hwe]
    simp only [xExtract, List.getElem?_cons_zero, List.getElem?_cons_succ, Option.bind_some, asI, asB, kindEq, Bool.not_true, cond_false]
    rw [decide_eq_false (by omega), cond_false, (R.sl g).len, Option.bind_some, decide_eq_false (by omega), cond_false]
    simp only [a21, a22, p1, p2, (hS g).len, Option.bind_some, asI, kindEq]
    rw [decide_eq_false (by omega), cond_false, hhead]
    simp only [Option.bind_some, asS, a31, a32, asI, kindEq]
    rw [req_true (by omega), Option.bind_some, htn, decide_eq_true rfl, Bool.not_true, cond_false, decide_eq_false (by omega)]
    -- the sum is taken off, the place moves on
    have hpos : 0 < atN all (sumV (rowN (rowsOf A) w) (atN at_ w)) := by
      have h1 := M.al (sumV (rowN (rowsOf A) w) (atN at_ w)) (by omega)
      have h2 := sumP_set (L := rowsOf A) (ps := at_) (i := w) (sumV (rowN (rowsOf A) w) (atN at_ w)) (by rw [M.l2]; simp [rowsOf]) (by rw [M.l2]; exact hwA)
      rw [if_pos rfl] at h2
      have h3 : sumP (rowsOf A) (at_.set w (atN at_ w + 1)) (sumV (rowN (rowsOf A) w) (atN at_ w)) ≤ sumP (rowsOf A) (lnOf (rowsOf A)) (sumV (rowN (rowsOf A) w) (atN at_ w)) := by
        have key : ∀ (L : List (List Nat)) (ps qs : List Nat) (v : Nat), ps.length = qs.length → (∀ i, i < ps.length → atN ps i ≤ atN qs i) → sumP L ps v ≤ sumP L qs v := by
          intro L
          induction L with
          | nil => intro ps qs v _ _; simp [sumP]
          | cons r L ih =>
            intro ps qs v hl hle
            cases ps with
            | nil => simp [sumP]
            | cons a ps =>
              cases qs with
              | nil => simp at hl
              | cons b qs =>
                have h0 := hle 0 (by simp)
                simp only [atN, List.getD_cons_zero] at h0
                have h1 := ih ps qs v (by simpa using hl) fun i hi => by simpa [atN] using hle (i + 1) (by simpa using hi)
                have h2 := pcnt_mono r v h0
                simp only [sumP]; omega
        refine key _ _ _ _ (by simp [M.l2, lnOf, rowsOf]) fun i hi => ?_
        simp only [List.length_set, M.l2] at hi
        rw [atN_set (by rw [M.l2]; exact hwA), atN_ln hi]
        by_cases e : w = i
        · rw [if_pos e, ← e]; omega
        · rw [if_neg e]; exact M.le i hi
      omega
    have hsmall : atN all (sumV (rowN (rowsOf A) w) (atN at_ w)) ≤ 1000 := by
      have h1 := M.al (sumV (rowN (rowsOf A) w) (atN at_ w)) (by omega)
      have h2 := sumP_le (u := sumV (rowN (rowsOf A) w) (atN at_ w)) h12
      have h3 : (rowsOf A).length ≤ 12 := by have := R.few; simp [rowsOf]; omega
      have h4 : sumP (rowsOf A) (lnOf (rowsOf A)) (sumV (rowN (rowsOf A) w) (atN at_ w)) ≤ (rowsOf A).length * 12 := h2
      omega
    obtain ⟨q4, b4, g1, s1, s2, s3, F1, len1, K1⟩ := M.F.set 4 (x := .lit (.int .i64 ((atN all (sumV (rowN (rowsOf A) w) (atN at_ w)) - 1 : Nat) : Int))) hl4 rfl
    rw [a41] at s1; cases s1
    rw [M.e4, natVs_set] at F1
    have g2 : ∀ (j : Nat), j ≠ 4 → upd f 4 ((f 4).1, natVs (all.set (sumV (rowN (rowsOf A) w) (atN at_ w)) (atN all (sumV (rowN (rowsOf A) w) (atN at_ w)) - 1))) j = f j := fun j hj => upd_ne _ _ hj
    obtain ⟨c2, c21, c22⟩ := F1.get 2 (by rw [g2 2 (by omega)]; exact hl2)
    rw [g2 2 (by omega)] at c21
    rw [a21] at c21; cases c21
    have c22' : ld1 g1 a2 = some (.lit (.int .i64 (atN at_ w : Nat))) := by
      rw [c22]; congr 1
      have : ∀ (hk : w < (upd f 4 ((f 4).1, natVs (all.set (sumV (rowN (rowsOf A) w) (atN at_ w)) (atN all (sumV (rowN (rowsOf A) w) (atN at_ w)) - 1))) 2).2.length), (upd f 4 ((f 4).1, natVs (all.set (sumV (rowN (rowsOf A) w) (atN at_ w)) (atN all (sumV (rowN (rowsOf A) w) (atN at_ w)) - 1))) 2).2[w] = .lit (.int .i64 (atN at_ w : Nat)) := fun hk => nat_cell (f := upd f 4 _) (i := 2) (by rw [g2 2 (by omega)]; exact M.e2) hk
      exact this _
    obtain ⟨q2, b2, g3, t1, t2, t3, F2, len2, K2⟩ := F1.set 2 (k := w) (x := .lit (.int .i64 ((atN at_ w + 1 : Nat) : Int))) (by rw [g2 2 (by omega)]; exact hl2) rfl
    rw [g2 2 (by omega)] at t1 t3 F2
    rw [a21] at t1; cases t1
    rw [M.e2, natVs_set] at F2
    have hb2 := M.low 2 b2 t3
    have hb4 := M.low 4 b4 s3
    obtain ⟨tl1, tl2, tl3⟩ := M.tlow
    have B3 : Tree g3 t bs bl hs ls := M.B.keep fun b hb => by
      rw [K2 b (by rcases hb with rfl | rfl | rfl <;> omega), K1 b (by rcases hb with rfl | rfl | rfl <;> omega)]
    -- what is so of the new family
    have fam1 : ∀ j, (upd (upd f 4 ((f 4).1, natVs (all.set (sumV (rowN (rowsOf A) w) (atN at_ w)) (atN all (sumV (rowN (rowsOf A) w) (atN at_ w)) - 1)))) 2 ((f 2).1, natVs (at_.set w (atN at_ w + 1))) j).1 = (f j).1 := fun j => by
      simp only [upd]; split
      · rename_i e; rw [e]
      · split
        · rename_i e; rw [e]
        · rfl
    obtain ⟨r2, r21, r22⟩ := F2.get 2 (k := w) (by rw [upd_same]; simp [natVs, M.l2]; exact hwA)
    rw [upd_same] at r21
    rw [show ((f 2).1, natVs (at_.set w (atN at_ w + 1))).1 = (f 2).1 from rfl, a21] at r21
    cases r21
    have r22' : ld1 g3 a2 = some (.lit (.int .i64 ((atN at_ w + 1 : Nat) : Int))) := by
      rw [r22]; congr 1
      have h5 := nat_cell (f := upd (upd f 4 ((f 4).1, natVs (all.set (sumV (rowN (rowsOf A) w) (atN at_ w)) (atN all (sumV (rowN (rowsOf A) w) (atN at_ w)) - 1)))) 2 ((f 2).1, natVs (at_.set w (atN at_ w + 1)))) (i := 2) (l := at_.set w (atN at_ w + 1)) (by rw [upd_same]) (k := w) (by rw [upd_same]; simp [natVs, M.l2]; exact hwA)
      rw [h5, atN_set (by rw [M.l2]; exact hwA), if_pos rfl]
    obtain ⟨p', x', p1', p2', hS', hb'⟩ := R.row hwA g3
    rw [p1] at p1'; cases p1'
    -- the sums that are left
    have hal : ∀ u, u < 4096 → atN (all.set (sumV (rowN (rowsOf A) w) (atN at_ w)) (atN all (sumV (rowN (rowsOf A) w) (atN at_ w)) - 1)) u + sumP (rowsOf A) (at_.set w (atN at_ w + 1)) u = sumP (rowsOf A) (lnOf (rowsOf A)) u := fun u hu => by
      have h1 := M.al u hu
      have h2 := sumP_set (L := rowsOf A) (ps := at_) (i := w) u (by rw [M.l2]; simp [rowsOf]) (by rw [M.l2]; exact hwA)
      rw [atN_set (by rw [M.big]; omega), h2]
      by_cases e : sumV (rowN (rowsOf A) w) (atN at_ w) = u
      · rw [if_pos e, if_pos e]; rw [e] at hpos ⊢; omega
      · rw [if_neg e, if_neg e]; omega
    have hsum' : (at_.set w (atN at_ w + 1)).sum = at_.sum + 1 := by have := sum_set (ps := at_) (i := w) (atN at_ w + 1) (by rw [M.l2]; exact hwA); omega
    have hatj : ∀ j, atN (at_.set w (atN at_ w + 1)) j = if w = j then atN at_ w + 1 else atN at_ j := fun j => atN_set (by rw [M.l2]; exact hwA)
    -- the others come no earlier
    have others : ∀ i, i < A.length → i ≠ w → atN at_ i < (rowN (rowsOf A) i).length → sumV (rowN (rowsOf A) w) (atN at_ w) ≤ sumV (rowN (rowsOf A) i) (atN at_ i) := fun i hi hiw hion => by
      obtain ⟨z1, _, _⟩ := M.on i hi hion
      have hbi : ∀ y ∈ rowN (rowsOf A) i, y < 256 := by
        obtain ⟨_, _, _, _, _, hbi⟩ := R.row hi g
        exact hbi
      have hvi := sumV_le hbi (atN at_ i)
      have hri : (rowN (rowsOf A) i).length ≤ 12 := h12 _ (by rw [rowN_eq (by simpa [rowsOf] using hi)]; exact List.getElem_mem _)
      have hle := winN_least (hs := hs) (i := i) (by rw [M.l1]; exact hi)
      rw [hwe] at hle
      rcases hle with e | e
      · exact absurd e.symm hiw
      · rw [aheadN_off (by rw [o1]) (by rw [z1]), o1, z1] at e
        simp only at e
        by_cases e2 : txtN (sumV (rowN (rowsOf A) w) (atN at_ w)) = txtN (sumV (rowN (rowsOf A) i) (atN at_ i))
        · have := txtN_inj (by omega) (by omega) e2; omega
        · rw [if_neg e2, txtN_less (by omega) (by omega)] at e
          have := of_decide_eq_true e; omega
    rw [S_chainmanlaw15_LoserMerges_6_eq, cond_false]
    simp only [a31, a32, a41, a42, asI, kindEq, Option.bind_some]
    rw [show ((atN all (sumV (rowN (rowsOf A) w) (atN at_ w)) : Nat) : Int) - 1 = ((atN all (sumV (rowN (rowsOf A) w) (atN at_ w)) - 1 : Nat) : Int) by omega, wrap_nat (by omega), s2]
    simp only [a21, c22', asI, kindEq, Option.bind_some]
    rw [int_of_wrap (by omega), t2]
    simp only [a21, r22', p1, p2', (hS' g3).len, asI, kindEq, Option.bind_some]
    by_cases hend : atN at_ w + 1 = (rowN (rowsOf A) w).length
    · rw [decide_eq_true (by omega), cond_true]
      obtain ⟨g4, ls', n1, B4, len4, K4⟩ := B3.next hc { data := #[] } true
      rw [hwe] at B4
      rw [n1, Option.bind_some, S_chainmanlaw15_LoserMerges_9_eq, int_of_wrap (by omega)]
      have F4 := F2.keep (h' := g4) fun i b hb => by
        have := M.low i b (by rw [← fam1 i]; exact hb)
        exact K4 b (by omega) (by omega) (by omega)
      have := ih g4 _ (at_.set w (atN at_ w + 1)) now _ (hs.set w ({ data := #[] }, true)) ls' (sumV (rowN (rowsOf A) w) (atN at_ w)) (by omega)
        ⟨F4, by rw [upd_same], by rw [upd_ne _ _ (by omega), upd_ne _ _ (by omega)]; exact M.e3, by rw [upd_ne _ _ (by omega), upd_same], by simp [M.big], fun i b hb => M.low i b (by rw [← fam1 i]; exact hb), M.tlow, B4, by simp [M.l1], by simp [M.l2], M.l3,
          fun i hi => by
            rw [hatj]
            by_cases e : w = i
            · rw [if_pos e, ← e]; omega
            · rw [if_neg e]; exact M.le i hi,
          fun i hi hion => by
            rw [hatj] at hion ⊢
            by_cases e : w = i
            · rw [if_pos e, ← e] at hion; omega
            · rw [if_neg e] at hion ⊢
              obtain ⟨z1, z2, _⟩ := M.on i hi hion
              exact ⟨by rw [srcN_set_ne e]; exact z1, z2, others i hi (Ne.symm e) hion⟩,
          fun i hi hioff => by
            rw [hatj] at hioff
            by_cases e : w = i
            · subst e; simp [srcN, List.getD_eq_getElem?_getD, hw]
            · rw [if_neg e] at hioff
              rw [srcN_set_ne e]; exact M.off i hi hioff,
          hal⟩
      rw [fam1 2, fam1 3, fam1 4, hsum'] at this
      exact this
    · rw [decide_eq_false (by omega), cond_false]
      have hon' : atN at_ w + 1 < (rowN (rowsOf A) w).length := by omega
      obtain ⟨e, e1, e2⟩ := Rows.elem hS' hon' g3
      obtain ⟨m3, m31, m32⟩ := F2.get 3 (k := w) (by rw [upd_ne _ _ (by omega), upd_ne _ _ (by omega)]; exact hl3)
      rw [upd_ne _ _ (by omega), upd_ne _ _ (by omega), a31] at m31
      cases m31
      have m32' : ld1 g3 a3 = some (.lit (.int .i64 ((sumV (rowN (rowsOf A) w) (atN at_ w) : Nat) : Int))) := by
        rw [m32]; congr 1
        have h5 := nat_cell (f := upd (upd f 4 ((f 4).1, natVs (all.set (sumV (rowN (rowsOf A) w) (atN at_ w)) (atN all (sumV (rowN (rowsOf A) w) (atN at_ w)) - 1)))) 2 ((f 2).1, natVs (at_.set w (atN at_ w + 1)))) (i := 3) (l := now) (by rw [upd_ne _ _ (by omega), upd_ne _ _ (by omega)]; exact M.e3) (k := w) (by rw [upd_ne _ _ (by omega), upd_ne _ _ (by omega)]; exact hl3)
        rw [h5, o2]
      have hv2 := sumV_le hb (atN at_ w + 1)
      have hstep : sumV (rowN (rowsOf A) w) (atN at_ w + 1) = sumV (rowN (rowsOf A) w) (atN at_ w) + (rowN (rowsOf A) w).getD (atN at_ w + 1) 0 := rfl
      have hwrap : IntKind.wrap .i64 (((sumV (rowN (rowsOf A) w) (atN at_ w) : Nat) : Int) + IntKind.wrap .i64 (((rowN (rowsOf A) w).getD (atN at_ w + 1) 0 : Nat) : Int)) = ((sumV (rowN (rowsOf A) w) (atN at_ w + 1) : Nat) : Int) := by
        rw [wrap_nat (by omega), ← Int.natCast_add, ← hstep, wrap_nat (by omega)]
      obtain ⟨q3, b3, g4, u1, u2, u3, F3, len3, K3⟩ := F2.set 3 (k := w) (x := .lit (.int .i64 ((sumV (rowN (rowsOf A) w) (atN at_ w + 1) : Nat) : Int))) (by rw [upd_ne _ _ (by omega), upd_ne _ _ (by omega)]; exact hl3) rfl
      rw [upd_ne _ _ (show (3 : Nat) ≠ 2 by omega), upd_ne _ _ (show (3 : Nat) ≠ 4 by omega)] at u1 u3 F3
      rw [a31] at u1; cases u1
      rw [M.e3, natVs_set] at F3
      have hb3 := M.low 3 b3 u3
      have B4 : Tree g4 t bs bl hs ls := B3.keep fun b hb => K3 b (by rcases hb with rfl | rfl | rfl <;> omega)
      obtain ⟨v3, v31, v32⟩ := F3.get 3 (k := w) (by rw [upd_same]; simp [natVs, M.l3]; exact hwA)
      rw [upd_same] at v31
      rw [show ((f 3).1, natVs (now.set w (sumV (rowN (rowsOf A) w) (atN at_ w + 1)))).1 = (f 3).1 from rfl, a31] at v31
      cases v31
      have v32' : ld1 g4 a3 = some (.lit (.int .i64 ((sumV (rowN (rowsOf A) w) (atN at_ w + 1) : Nat) : Int))) := by
        rw [v32]; congr 1
        have h5 := nat_cell (f := upd (upd (upd f 4 ((f 4).1, natVs (all.set (sumV (rowN (rowsOf A) w) (atN at_ w)) (atN all (sumV (rowN (rowsOf A) w) (atN at_ w)) - 1)))) 2 ((f 2).1, natVs (at_.set w (atN at_ w + 1)))) 3 ((f 3).1, natVs (now.set w (sumV (rowN (rowsOf A) w) (atN at_ w + 1))))) (i := 3) (l := now.set w (sumV (rowN (rowsOf A) w) (atN at_ w + 1))) (by rw [upd_same]) (k := w) (by rw [upd_same]; simp [natVs, M.l3]; exact hwA)
        rw [h5, atN_set (by rw [M.l3]; exact hwA), if_pos rfl]
      obtain ⟨g5, ls', n1, B5, len5, K5⟩ := B4.next hc (txtN (sumV (rowN (rowsOf A) w) (atN at_ w + 1))) false
      rw [hwe] at B5
      have fam2 : ∀ j, (upd (upd (upd f 4 ((f 4).1, natVs (all.set (sumV (rowN (rowsOf A) w) (atN at_ w)) (atN all (sumV (rowN (rowsOf A) w) (atN at_ w)) - 1)))) 2 ((f 2).1, natVs (at_.set w (atN at_ w + 1)))) 3 ((f 3).1, natVs (now.set w (sumV (rowN (rowsOf A) w) (atN at_ w + 1)))) j).1 = (f j).1 := fun j => by
        by_cases hj : j = 3
        · subst hj; rw [upd_same]
        · rw [upd_ne _ _ hj]; exact fam1 j
      have htn2 : (((sumV (rowN (rowsOf A) w) (atN at_ w + 1) : Nat) : Int)).toNat = sumV (rowN (rowsOf A) w) (atN at_ w + 1) := by omega
      simp only [a31, m32', e1, e2, asI, kindEq, Option.bind_some]
      rw [hwrap, u2]
      simp only [a31, v32', asI, kindEq, Option.bind_some]
      rw [req_true (by omega), Option.bind_some, htn2, n1, Option.bind_some, S_chainmanlaw15_LoserMerges_9_eq, int_of_wrap (by omega)]
      have F5 := F3.keep (h' := g5) fun i b hb => by
        have := M.low i b (by rw [← fam2 i]; exact hb)
        exact K5 b (by omega) (by omega) (by omega)
      have := ih g5 _ (at_.set w (atN at_ w + 1)) (now.set w (sumV (rowN (rowsOf A) w) (atN at_ w + 1))) _ (hs.set w (txtN (sumV (rowN (rowsOf A) w) (atN at_ w + 1)), false)) ls' (sumV (rowN (rowsOf A) w) (atN at_ w)) (by omega)
        ⟨F5, by rw [upd_ne _ _ (by omega), upd_same], by rw [upd_same], by rw [upd_ne _ _ (by omega), upd_ne _ _ (by omega), upd_same], by simp [M.big], fun i b hb => M.low i b (by rw [← fam2 i]; exact hb), M.tlow, B5, by simp [M.l1], by simp [M.l2], by simp [M.l3],
          fun i hi => by
            rw [hatj]
            by_cases e : w = i
            · rw [if_pos e, ← e]; omega
            · rw [if_neg e]; exact M.le i hi,
          fun i hi hion => by
            rw [hatj] at hion ⊢
            rw [atN_set (by rw [M.l3]; exact hwA)]
            by_cases e : w = i
            · subst e
              rw [if_pos rfl, if_pos rfl]
              exact ⟨by simp [srcN, List.getD_eq_getElem?_getD, hw], rfl, sumV_mono _ (by omega)⟩
            · rw [if_neg e] at hion ⊢
              rw [if_neg e]
              obtain ⟨z1, z2, _⟩ := M.on i hi hion
              exact ⟨by rw [srcN_set_ne e]; exact z1, z2, others i hi (Ne.symm e) hion⟩,
          fun i hi hioff => by
            rw [hatj] at hioff
            by_cases e : w = i
            · rw [if_pos e, ← e] at hioff; omega
            · rw [if_neg e] at hioff
              rw [srcN_set_ne e]; exact M.off i hi hioff,
          hal⟩
      rw [fam2 2, fam2 3, fam2 4, hsum'] at this
      exact this
end Go.Proofs.Ytpjocohpogihcaa.AL
