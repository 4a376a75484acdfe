/- What the document's records say. -/
import Derived.Test.YtpjocohpogihcaaFields2
namespace Go.Proofs.Ytpjocohpogihcaa.AL
set_option linter.unusedVariables false
set_option linter.unusedSimpArgs false
set_option maxRecDepth 10000
set_option maxHeartbeats 2000000
open Go

theorem num_cons (b : UInt8) (l : List UInt8) : num (b :: l) = b.toNat * 256 ^ l.length + num l := by
  have key : ∀ (l : List UInt8) (n : Nat), l.foldl (fun n b => n * 256 + b.toNat) n = n * 256 ^ l.length + l.foldl (fun n b => n * 256 + b.toNat) 0 := by
    intro l
    induction l with
    | nil => intro n; simp
    | cons c l ih =>
      intro n
      simp only [List.foldl_cons, List.length_cons]
      rw [ih (n * 256 + c.toNat), ih (0 * 256 + c.toNat), Nat.pow_succ, Nat.add_mul, Nat.zero_mul, Nat.zero_add, Nat.mul_assoc, Nat.mul_comm 256]
      omega
  unfold num
  rw [List.foldl_cons, key]
  simp

theorem ofNat_mod (a b : Nat) (h : a % 256 = b % 256) : UInt8.ofNat a = UInt8.ofNat b := by
  apply UInt8.toNat_inj.1
  simpa using h

theorem be_add (c m k : Nat) : be (c * 256 ^ k + m) k = be m k := by
  unfold be
  apply List.map_congr_left
  intro j hj
  rw [List.mem_range] at hj
  apply ofNat_mod
  have e : k = (k - 1 - j) + (j + 1) := by omega
  have e2 : c * 256 ^ k = 256 ^ (k - 1 - j) * (c * 256 ^ j * 256) := by
    conv => lhs; rw [e]
    rw [Nat.pow_add, Nat.pow_succ]
    simp only [Nat.mul_assoc, Nat.mul_comm, Nat.mul_left_comm]
  rw [e2, Nat.mul_add_div (Nat.pow_pos (by omega)), Nat.mul_add_mod_self_right]

/-- Bytes, read and written again. -/
theorem be_num : ∀ (l : List UInt8), be (num l) l.length = l
  | [] => rfl
  | b :: l => by
    rw [List.length_cons, be_cons, num_cons, be_add, be_num l]
    congr 1
    have h := num_lt l
    rw [Nat.mul_comm, Nat.mul_add_div (Nat.pow_pos (by omega)), Nat.div_eq_of_lt h, Nat.add_zero]
    simp

theorem getP_ok {s : ByteArray} {a k : Nat} (h : a + k ≤ s.size) (h1 : 1 ≤ k) (h7 : k ≤ 7) : getP s a k = ((num (cut s a k) : Int), true) := by
  have h2 := num_lt (cut s a k)
  rw [cut_len h] at h2
  have h3 : (256 : Nat) ^ k ≤ 256 ^ 7 := Nat.pow_le_pow_right (by omega) h7
  unfold getP
  rw [if_pos ⟨by omega, by omega, by omega, by omega, by simp; omega⟩]
  simp
theorem getP_8 {s : ByteArray} {a : Nat} (h : a + 8 ≤ s.size) (h2 : (getP s a 8).2 = true) : getP s a 8 = ((num (cut s a 8) : Int), true) := by
  unfold getP at h2 ⊢
  split at h2
  · rename_i hh; rw [if_pos hh]; simp
  · simp at h2
theorem putS_num {l : List UInt8} {k : Nat} (hl : l.length = k) (h1 : 1 ≤ k) (h8 : k ≤ 8) : putS (num l : Int) (k : Int) = baL l := by
  subst hl
  have h := num_lt l
  have hp : putB (num l : Int) (l.length : Int) = true := by
    have : ((num l : Nat) : Int) < 256 ^ l.length := by exact_mod_cast h
    simp [putB, this]; omega
  unfold putS
  rw [if_pos hp]
  simp [be_num, baL]
theorem cut_join (s : ByteArray) (a k j : Nat) : cut s a k ++ cut s (a + k) j = cut s a (k + j) := by
  unfold cut
  rw [List.take_add, List.drop_drop]
theorem cut_all {s : ByteArray} {n : Nat} (h : s.size = n) : baL (cut s 0 n) = s := by
  have h1 : s.data.toList.length = n := by rw [Array.length_toList]; exact h
  apply ba_ext
  simp only [baL, ByteArray.toList_eq, cut, List.drop_zero]
  rw [List.take_of_length_le (by omega)]

theorem pair_of {s : ByteArray} (h : s.size = 8) : pairP (getP s 0 4).1 (getP s 4 4).1 = if (idB (getP s 0 4).1 && idB (getP s 4 4).1) && decide ((getP s 0 4).1 < (getP s 4 4).1) then (s, true) else (⟨#[]⟩, false) := by
  have e1 := getP_ok (s := s) (a := 0) (k := 4) (by omega) (by omega) (by omega)
  have e2 := getP_ok (s := s) (a := 4) (k := 4) (by omega) (by omega) (by omega)
  have e3 : putS (getP s 0 4).1 4 ++ putS (getP s 4 4).1 4 = s := by
    have := cut_join s 0 4 4
    rw [show (getP s 0 4).1 = (num (cut s 0 4) : Int) by exact congrArg Prod.fst e1, show (getP s 4 4).1 = (num (cut s 4 4) : Int) by exact congrArg Prod.fst e2]
    rw [show (4 : Int) = ((4 : Nat) : Int) from rfl, putS_num (cut_len (by omega)) (by omega) (by omega), putS_num (cut_len (by omega)) (by omega) (by omega), baL_append, this]
    exact cut_all h
  unfold pairP
  rw [e3]

theorem getPair_no {s : ByteArray} (h : s.size ≠ 8) : getPair s = (0, 0, false) := by
  unfold getPair doneB
  simp [show ¬ 8 = s.size by omega]
theorem getPair_8 {s : ByteArray} (h : s.size = 8) : getPair s = if (idB (getP s 0 4).1 && idB (getP s 4 4).1) && decide ((getP s 0 4).1 < (getP s 4 4).1) then ((getP s 0 4).1, (getP s 4 4).1, true) else (0, 0, false) := by
  have e1 := getP_ok (s := s) (a := 0) (k := 4) (by omega) (by omega) (by omega)
  have e2 := getP_ok (s := s) (a := 4) (k := 4) (by omega) (by omega) (by omega)
  have e1' : (getP s 0 4).2 = true := congrArg Prod.snd e1
  have e2' : (getP s 4 4).2 = true := congrArg Prod.snd e2
  unfold getPair doneB
  rw [e1', e2', mayB_2, h]
  rfl

-- chainman/chainmanref14.GetPair: function 45
theorem ref14_GetPair (s : ByteArray) (hs : s.size ≤ 140737488351232) :
    Pure1 Try.prog 45 [.lit (.string s)] (.tup [.agg [.lit (.int .i64 (getPair s).1), .lit (.int .i64 (getPair s).2.1)], .lit (.bool (getPair s).2.2)]) := by
  intro h
  refine acalls_of Try.func45 (by rfl) fun hok => ?_
  simp only [List.length_cons, List.length_nil, Nat.reduceAdd, show Try.f45.ntmps = 42 from rfl, Nat.reduceSub, List.replicate, List.cons_append, List.nil_append]
  by_cases h8 : s.size = 8
  · have hz : ((s.size : Nat) : Int) = 8 := by omega
    have hp := pair_of h8
    have hg := getPair_8 h8
    have r1 := getP_range s 0 4
    have r2 := getP_range s 4 4
    rcases Bool.eq_false_or_eq_true ((idB (getP s 0 4).1 && idB (getP s 4 4).1) && decide ((getP s 0 4).1 < (getP s 4 4).1)) with hc | hc
    · rw [hc, if_pos rfl] at hp hg
      (repeat' (first
          | ((with_reducible refine wp_head ?_); first
              | with_reducible refine awp_seq ?_
              | with_reducible refine awp_block ?_
              | with_reducible refine awp_regionL ?_
              | with_reducible refine awp_skip ?_
              | with_reducible refine awp_exit ?_
              | with_reducible refine awp_ret ?_
              | with_reducible refine awp_goto ?_
              | (refine awp_test (by rfl) ?_; first | with_reducible refine cc_t ?_ | with_reducible refine cc_f ?_)
              | ((refine awp_cond_case (by rfl) (by simp only [go_sem]; rfl) (by simp only [go_sem]; rfl) (fun hcase => ?_) (fun hcase => ?_)) <;> (try simp only [decide_eq_true_eq, decide_eq_false_iff_not, Bool.not_eq_true', Bool.not_eq_false', beq_iff_eq, ne_eq] at hcase) <;> first | (exfalso; omega) | contradiction | skip))
          | ((with_reducible refine st_head ?_); first
              | with_reducible refine st_nil ?_
              | (refine st_none rfl fun K QK hK hQK => ?_; simp (config := { decide := true }) only [go_sem, Nat.reduceAdd, Nat.reduceMul, Nat.reduceSub, Nat.reduceLeDiff, Int.reduceToNat, reduceCtorEq, reduceIte, hz, hp])
              | (refine st_test rfl (by rfl) (by rfl) (by simp only [go_sem]; rfl) ?_; first | (with_reducible refine gc_ft ?_) | (with_reducible refine gc_tf ?_) | ((with_reducible refine gc_tt fun K QK hK hQK => ?_); simp (config := { decide := true }) only [go_sem, Nat.reduceAdd, Nat.reduceMul, Nat.reduceSub, Nat.reduceLeDiff, Int.reduceToNat, reduceCtorEq, reduceIte, hz, hp]) | ((with_reducible refine gc_ff fun K QK hK hQK => ?_); simp (config := { decide := true }) only [go_sem, Nat.reduceAdd, Nat.reduceMul, Nat.reduceSub, Nat.reduceLeDiff, Int.reduceToNat, reduceCtorEq, reduceIte, hz, hp]))
              | ((refine st_case rfl (by rfl) (by rfl) (by simp only [go_sem]; rfl) (by simp only [go_sem]; rfl) (fun hcase => ?_) (fun hcase => ?_)) <;> (try simp only [decide_eq_true_eq, decide_eq_false_iff_not, Bool.not_eq_true', Bool.not_eq_false', beq_iff_eq, ne_eq] at hcase) <;> first | (exfalso; omega) | contradiction | skip)
              | (refine st_nil ?_))
          | ((with_reducible refine sq_head ?_); first
              | with_reducible refine sq_nil ?_
              | (refine sq_none rfl fun K hK => ?_; simp (config := { decide := true }) only [go_sem, Nat.reduceAdd, Nat.reduceMul, Nat.reduceSub, Nat.reduceLeDiff, Int.reduceToNat, reduceCtorEq, reduceIte, hz, hp, exists_eq_left', exists_and_left, and_assoc])
              | (refine sq_test rfl (by rfl) (by rfl) (by simp only [go_sem]; rfl) ?_; first | (with_reducible refine gc_ft ?_) | (with_reducible refine gc_tf ?_) | ((with_reducible refine gc_tt fun K hK => ?_); simp (config := { decide := true }) only [go_sem, Nat.reduceAdd, Nat.reduceMul, Nat.reduceSub, Nat.reduceLeDiff, Int.reduceToNat, reduceCtorEq, reduceIte, hz, hp, exists_eq_left', exists_and_left, and_assoc]) | ((with_reducible refine gc_ff fun K hK => ?_); simp (config := { decide := true }) only [go_sem, Nat.reduceAdd, Nat.reduceMul, Nat.reduceSub, Nat.reduceLeDiff, Int.reduceToNat, reduceCtorEq, reduceIte, hz, hp, exists_eq_left', exists_and_left, and_assoc]))
              | ((refine sq_case rfl (by rfl) (by rfl) (by simp only [go_sem]; rfl) (by simp only [go_sem]; rfl) (fun hcase => ?_) (fun hcase => ?_)) <;> (try simp only [decide_eq_true_eq, decide_eq_false_iff_not, Bool.not_eq_true', Bool.not_eq_false', beq_iff_eq, ne_eq] at hcase) <;> first | (exfalso; omega) | contradiction | skip)
              | (refine sq_nil ?_))
          | with_reducible refine th_normal ?_
          | with_reducible refine th_ret ?_
          | with_reducible refine th_exit ?_
          | with_reducible refine bl_normal ?_
          | with_reducible refine bl_ret ?_
          | with_reducible refine bl_exit ?_
          | with_reducible refine bl_exit_ne (by decide) ?_
          | with_reducible refine th_goto ?_
          | with_reducible refine bl_goto ?_
          | (with_reducible refine hK _ _ ?_; clear hK hQK K QK)
          | (with_reducible refine hK _ ?_; clear hK K)
          | ((with_reducible refine body_ret tr45 ?_); simp (config := { decide := true }) only [go_sem, Nat.reduceAdd, Nat.reduceMul, Nat.reduceSub, Nat.reduceLeDiff, Int.reduceToNat, reduceCtorEq, reduceIte, hz, hp])
          | ((with_reducible refine body_normal tr45 ?_); simp (config := { decide := true }) only [go_sem, Nat.reduceAdd, Nat.reduceMul, Nat.reduceSub, Nat.reduceLeDiff, Int.reduceToNat, reduceCtorEq, reduceIte, hz, hp])
          | (refine And.intro (by first | omega | (simp only [ByteArray.size_append]; omega)) ?_)
          | ((with_reducible refine ex_head (f := 72) ?_); refine call_ex (ref02_Get s _ _ hs (by omega) (by omega) (by omega) (by omega)) ?_; try simp (config := { decide := true }) only [go_sem, Nat.reduceAdd, Nat.reduceMul, Nat.reduceSub, Nat.reduceLeDiff, Int.reduceToNat, reduceCtorEq, reduceIte, hz, hp, exists_eq_left', exists_and_left, and_assoc])
          | ((with_reducible refine call_head (f := 72) ?_); refine call_mono (ref02_Get s _ _ hs (by omega) (by omega) (by omega) (by omega)) ?_; simp (config := { decide := true }) only [go_sem, Nat.reduceAdd, Nat.reduceMul, Nat.reduceSub, Nat.reduceLeDiff, Int.reduceToNat, reduceCtorEq, reduceIte, hz, hp])
          | (refine call_mono (ref14_PutPair (getP s 0 4).1 (getP s 4 4).1 (by omega) (by omega)) ?_; simp (config := { decide := true }) only [go_sem, Nat.reduceAdd, Nat.reduceMul, Nat.reduceSub, Nat.reduceLeDiff, Int.reduceToNat, reduceCtorEq, reduceIte, hp])
          | ((first | refine ends_same hok rfl ⟨?_, rfl⟩ | refine ends_here ⟨?_, rfl⟩); first | (with_reducible rfl) | (simp [hg, *]; done) | (simp_all [hg]; done) | (simp_all [hg]; split <;> first | (exfalso; omega) | (simp_all; done)))))
    · rw [hc, if_neg (by decide)] at hp hg
      (repeat' (first
          | ((with_reducible refine wp_head ?_); first
              | with_reducible refine awp_seq ?_
              | with_reducible refine awp_block ?_
              | with_reducible refine awp_regionL ?_
              | with_reducible refine awp_skip ?_
              | with_reducible refine awp_exit ?_
              | with_reducible refine awp_ret ?_
              | with_reducible refine awp_goto ?_
              | (refine awp_test (by rfl) ?_; first | with_reducible refine cc_t ?_ | with_reducible refine cc_f ?_)
              | ((refine awp_cond_case (by rfl) (by simp only [go_sem]; rfl) (by simp only [go_sem]; rfl) (fun hcase => ?_) (fun hcase => ?_)) <;> (try simp only [decide_eq_true_eq, decide_eq_false_iff_not, Bool.not_eq_true', Bool.not_eq_false', beq_iff_eq, ne_eq] at hcase) <;> first | (exfalso; omega) | contradiction | skip))
          | ((with_reducible refine st_head ?_); first
              | with_reducible refine st_nil ?_
              | (refine st_none rfl fun K QK hK hQK => ?_; simp (config := { decide := true }) only [go_sem, Nat.reduceAdd, Nat.reduceMul, Nat.reduceSub, Nat.reduceLeDiff, Int.reduceToNat, reduceCtorEq, reduceIte, hz, hp])
              | (refine st_test rfl (by rfl) (by rfl) (by simp only [go_sem]; rfl) ?_; first | (with_reducible refine gc_ft ?_) | (with_reducible refine gc_tf ?_) | ((with_reducible refine gc_tt fun K QK hK hQK => ?_); simp (config := { decide := true }) only [go_sem, Nat.reduceAdd, Nat.reduceMul, Nat.reduceSub, Nat.reduceLeDiff, Int.reduceToNat, reduceCtorEq, reduceIte, hz, hp]) | ((with_reducible refine gc_ff fun K QK hK hQK => ?_); simp (config := { decide := true }) only [go_sem, Nat.reduceAdd, Nat.reduceMul, Nat.reduceSub, Nat.reduceLeDiff, Int.reduceToNat, reduceCtorEq, reduceIte, hz, hp]))
              | ((refine st_case rfl (by rfl) (by rfl) (by simp only [go_sem]; rfl) (by simp only [go_sem]; rfl) (fun hcase => ?_) (fun hcase => ?_)) <;> (try simp only [decide_eq_true_eq, decide_eq_false_iff_not, Bool.not_eq_true', Bool.not_eq_false', beq_iff_eq, ne_eq] at hcase) <;> first | (exfalso; omega) | contradiction | skip)
              | (refine st_nil ?_))
          | ((with_reducible refine sq_head ?_); first
              | with_reducible refine sq_nil ?_
              | (refine sq_none rfl fun K hK => ?_; simp (config := { decide := true }) only [go_sem, Nat.reduceAdd, Nat.reduceMul, Nat.reduceSub, Nat.reduceLeDiff, Int.reduceToNat, reduceCtorEq, reduceIte, hz, hp, exists_eq_left', exists_and_left, and_assoc])
              | (refine sq_test rfl (by rfl) (by rfl) (by simp only [go_sem]; rfl) ?_; first | (with_reducible refine gc_ft ?_) | (with_reducible refine gc_tf ?_) | ((with_reducible refine gc_tt fun K hK => ?_); simp (config := { decide := true }) only [go_sem, Nat.reduceAdd, Nat.reduceMul, Nat.reduceSub, Nat.reduceLeDiff, Int.reduceToNat, reduceCtorEq, reduceIte, hz, hp, exists_eq_left', exists_and_left, and_assoc]) | ((with_reducible refine gc_ff fun K hK => ?_); simp (config := { decide := true }) only [go_sem, Nat.reduceAdd, Nat.reduceMul, Nat.reduceSub, Nat.reduceLeDiff, Int.reduceToNat, reduceCtorEq, reduceIte, hz, hp, exists_eq_left', exists_and_left, and_assoc]))
              | ((refine sq_case rfl (by rfl) (by rfl) (by simp only [go_sem]; rfl) (by simp only [go_sem]; rfl) (fun hcase => ?_) (fun hcase => ?_)) <;> (try simp only [decide_eq_true_eq, decide_eq_false_iff_not, Bool.not_eq_true', Bool.not_eq_false', beq_iff_eq, ne_eq] at hcase) <;> first | (exfalso; omega) | contradiction | skip)
              | (refine sq_nil ?_))
          | with_reducible refine th_normal ?_
          | with_reducible refine th_ret ?_
          | with_reducible refine th_exit ?_
          | with_reducible refine bl_normal ?_
          | with_reducible refine bl_ret ?_
          | with_reducible refine bl_exit ?_
          | with_reducible refine bl_exit_ne (by decide) ?_
          | with_reducible refine th_goto ?_
          | with_reducible refine bl_goto ?_
          | (with_reducible refine hK _ _ ?_; clear hK hQK K QK)
          | (with_reducible refine hK _ ?_; clear hK K)
          | ((with_reducible refine body_ret tr45 ?_); simp (config := { decide := true }) only [go_sem, Nat.reduceAdd, Nat.reduceMul, Nat.reduceSub, Nat.reduceLeDiff, Int.reduceToNat, reduceCtorEq, reduceIte, hz, hp])
          | ((with_reducible refine body_normal tr45 ?_); simp (config := { decide := true }) only [go_sem, Nat.reduceAdd, Nat.reduceMul, Nat.reduceSub, Nat.reduceLeDiff, Int.reduceToNat, reduceCtorEq, reduceIte, hz, hp])
          | (refine And.intro (by first | omega | (simp only [ByteArray.size_append]; omega)) ?_)
          | ((with_reducible refine ex_head (f := 72) ?_); refine call_ex (ref02_Get s _ _ hs (by omega) (by omega) (by omega) (by omega)) ?_; try simp (config := { decide := true }) only [go_sem, Nat.reduceAdd, Nat.reduceMul, Nat.reduceSub, Nat.reduceLeDiff, Int.reduceToNat, reduceCtorEq, reduceIte, hz, hp, exists_eq_left', exists_and_left, and_assoc])
          | ((with_reducible refine call_head (f := 72) ?_); refine call_mono (ref02_Get s _ _ hs (by omega) (by omega) (by omega) (by omega)) ?_; simp (config := { decide := true }) only [go_sem, Nat.reduceAdd, Nat.reduceMul, Nat.reduceSub, Nat.reduceLeDiff, Int.reduceToNat, reduceCtorEq, reduceIte, hz, hp])
          | (refine call_mono (ref14_PutPair (getP s 0 4).1 (getP s 4 4).1 (by omega) (by omega)) ?_; simp (config := { decide := true }) only [go_sem, Nat.reduceAdd, Nat.reduceMul, Nat.reduceSub, Nat.reduceLeDiff, Int.reduceToNat, reduceCtorEq, reduceIte, hp])
          | ((first | refine ends_same hok rfl ⟨?_, rfl⟩ | refine ends_here ⟨?_, rfl⟩); first | (with_reducible rfl) | (simp [hg, *]; done) | (simp_all [hg]; done) | (simp_all [hg]; split <;> first | (exfalso; omega) | (simp_all; done)))))
  · have hz : ¬ ((s.size : Nat) : Int) = 8 := by omega
    have hg := getPair_no h8
    (repeat' (first
        | ((with_reducible refine wp_head ?_); first
            | with_reducible refine awp_seq ?_
            | with_reducible refine awp_block ?_
            | with_reducible refine awp_regionL ?_
            | with_reducible refine awp_skip ?_
            | with_reducible refine awp_exit ?_
            | with_reducible refine awp_ret ?_
            | with_reducible refine awp_goto ?_
            | (refine awp_test (by rfl) ?_; first | with_reducible refine cc_t ?_ | with_reducible refine cc_f ?_)
            | ((refine awp_cond_case (by rfl) (by simp only [go_sem]; rfl) (by simp only [go_sem]; rfl) (fun hcase => ?_) (fun hcase => ?_)) <;> (try simp only [decide_eq_true_eq, decide_eq_false_iff_not, Bool.not_eq_true', Bool.not_eq_false', beq_iff_eq, ne_eq] at hcase) <;> first | (exfalso; omega) | contradiction | skip))
        | ((with_reducible refine st_head ?_); first
            | with_reducible refine st_nil ?_
            | (refine st_none rfl fun K QK hK hQK => ?_; simp (config := { decide := true }) only [go_sem, Nat.reduceAdd, Nat.reduceMul, Nat.reduceSub, Nat.reduceLeDiff, Int.reduceToNat, reduceCtorEq, reduceIte, hz])
            | (refine st_test rfl (by rfl) (by rfl) (by simp only [go_sem]; rfl) ?_; first | (with_reducible refine gc_ft ?_) | (with_reducible refine gc_tf ?_) | ((with_reducible refine gc_tt fun K QK hK hQK => ?_); simp (config := { decide := true }) only [go_sem, Nat.reduceAdd, Nat.reduceMul, Nat.reduceSub, Nat.reduceLeDiff, Int.reduceToNat, reduceCtorEq, reduceIte, hz]) | ((with_reducible refine gc_ff fun K QK hK hQK => ?_); simp (config := { decide := true }) only [go_sem, Nat.reduceAdd, Nat.reduceMul, Nat.reduceSub, Nat.reduceLeDiff, Int.reduceToNat, reduceCtorEq, reduceIte, hz]))
            | ((refine st_case rfl (by rfl) (by rfl) (by simp only [go_sem]; rfl) (by simp only [go_sem]; rfl) (fun hcase => ?_) (fun hcase => ?_)) <;> (try simp only [decide_eq_true_eq, decide_eq_false_iff_not, Bool.not_eq_true', Bool.not_eq_false', beq_iff_eq, ne_eq] at hcase) <;> first | (exfalso; omega) | contradiction | skip)
            | (refine st_nil ?_))
        | ((with_reducible refine sq_head ?_); first
            | with_reducible refine sq_nil ?_
            | (refine sq_none rfl fun K hK => ?_; simp (config := { decide := true }) only [go_sem, Nat.reduceAdd, Nat.reduceMul, Nat.reduceSub, Nat.reduceLeDiff, Int.reduceToNat, reduceCtorEq, reduceIte, hz, exists_eq_left', exists_and_left, and_assoc])
            | (refine sq_test rfl (by rfl) (by rfl) (by simp only [go_sem]; rfl) ?_; first | (with_reducible refine gc_ft ?_) | (with_reducible refine gc_tf ?_) | ((with_reducible refine gc_tt fun K hK => ?_); simp (config := { decide := true }) only [go_sem, Nat.reduceAdd, Nat.reduceMul, Nat.reduceSub, Nat.reduceLeDiff, Int.reduceToNat, reduceCtorEq, reduceIte, hz, exists_eq_left', exists_and_left, and_assoc]) | ((with_reducible refine gc_ff fun K hK => ?_); simp (config := { decide := true }) only [go_sem, Nat.reduceAdd, Nat.reduceMul, Nat.reduceSub, Nat.reduceLeDiff, Int.reduceToNat, reduceCtorEq, reduceIte, hz, exists_eq_left', exists_and_left, and_assoc]))
            | ((refine sq_case rfl (by rfl) (by rfl) (by simp only [go_sem]; rfl) (by simp only [go_sem]; rfl) (fun hcase => ?_) (fun hcase => ?_)) <;> (try simp only [decide_eq_true_eq, decide_eq_false_iff_not, Bool.not_eq_true', Bool.not_eq_false', beq_iff_eq, ne_eq] at hcase) <;> first | (exfalso; omega) | contradiction | skip)
            | (refine sq_nil ?_))
        | with_reducible refine th_normal ?_
        | with_reducible refine th_ret ?_
        | with_reducible refine th_exit ?_
        | with_reducible refine bl_normal ?_
        | with_reducible refine bl_ret ?_
        | with_reducible refine bl_exit ?_
        | with_reducible refine bl_exit_ne (by decide) ?_
        | with_reducible refine th_goto ?_
        | with_reducible refine bl_goto ?_
        | (with_reducible refine hK _ _ ?_; clear hK hQK K QK)
        | (with_reducible refine hK _ ?_; clear hK K)
        | ((with_reducible refine body_ret tr45 ?_); simp (config := { decide := true }) only [go_sem, Nat.reduceAdd, Nat.reduceMul, Nat.reduceSub, Nat.reduceLeDiff, Int.reduceToNat, reduceCtorEq, reduceIte, hz])
        | ((with_reducible refine body_normal tr45 ?_); simp (config := { decide := true }) only [go_sem, Nat.reduceAdd, Nat.reduceMul, Nat.reduceSub, Nat.reduceLeDiff, Int.reduceToNat, reduceCtorEq, reduceIte, hz])
        | (refine And.intro (by first | omega | (simp only [ByteArray.size_append]; omega)) ?_)
        | ((with_reducible refine ex_head (f := 72) ?_); refine call_ex (ref02_Get s _ _ hs (by omega) (by omega) (by omega) (by omega)) ?_; try simp (config := { decide := true }) only [go_sem, Nat.reduceAdd, Nat.reduceMul, Nat.reduceSub, Nat.reduceLeDiff, Int.reduceToNat, reduceCtorEq, reduceIte, hz, exists_eq_left', exists_and_left, and_assoc])
        | ((with_reducible refine call_head (f := 72) ?_); refine call_mono (ref02_Get s _ _ hs (by omega) (by omega) (by omega) (by omega)) ?_; simp (config := { decide := true }) only [go_sem, Nat.reduceAdd, Nat.reduceMul, Nat.reduceSub, Nat.reduceLeDiff, Int.reduceToNat, reduceCtorEq, reduceIte, hz])
        | ((first | refine ends_same hok rfl ⟨?_, rfl⟩ | refine ends_here ⟨?_, rfl⟩); first | (with_reducible rfl) | (simp [hg, *]; done) | (simp_all [hg]; done) | (simp_all [hg]; split <;> first | (exfalso; omega) | (simp_all; done)))))

theorem getC_ok {s : ByteArray} {a : Nat} (h : a + 4 ≤ s.size) : (getC s a).2 = true := by
  have e1 := getP_ok (s := s) (a := a) (k := 4) h (by omega) (by omega)
  have e2 : (getP s a 4).2 = true := congrArg Prod.snd e1
  unfold getC
  rw [e2]; rfl
theorem getCell_no {s : ByteArray} (h : s.size ≠ 12) : getCell s = (0, 0, 0, false) := by
  unfold getCell doneB
  simp [show ¬ 12 = s.size by omega]
theorem getCell_12 {s : ByteArray} (h : s.size = 12) : getCell s = if idB (getP s 8 4).1 then ((getC s 0).1, (getC s 4).1, (getP s 8 4).1, true) else (0, 0, 0, false) := by
  have e1 := getC_ok (s := s) (a := 0) (by omega)
  have e2 := getC_ok (s := s) (a := 4) (by omega)
  have e3 : (getP s 8 4).2 = true := congrArg Prod.snd (getP_ok (s := s) (a := 8) (k := 4) (by omega) (by omega) (by omega))
  unfold getCell doneB cellBad
  have e1' : (getC s 0).2 = true := e1
  have e2' : (getC s 4).2 = true := e2
  rw [e1', e2', e3, mayB_1, h]
  rfl

-- chainman/chainmanref14.GetCell: function 43
theorem ref14_GetCell (s : ByteArray) (hs : s.size ≤ 140737488351232) :
    Pure1 Try.prog 43 [.lit (.string s)] (.tup [.agg [.lit (.int .i64 (getCell s).1), .lit (.int .i64 (getCell s).2.1)], .lit (.int .i64 (getCell s).2.2.1), .lit (.bool (getCell s).2.2.2)]) := by
  intro h
  refine acalls_of Try.func43 (by rfl) fun hok => ?_
  simp only [List.length_cons, List.length_nil, Nat.reduceAdd, show Try.f43.ntmps = 38 from rfl, Nat.reduceSub, List.replicate, List.cons_append, List.nil_append]
  by_cases h8 : s.size = 12
  · have hz : ((s.size : Nat) : Int) = 12 := by omega
    have hg := getCell_12 h8
    (repeat' (first
        | ((with_reducible refine wp_head ?_); first
            | with_reducible refine awp_seq ?_
            | with_reducible refine awp_block ?_
            | with_reducible refine awp_regionL ?_
            | with_reducible refine awp_skip ?_
            | with_reducible refine awp_exit ?_
            | with_reducible refine awp_ret ?_
            | with_reducible refine awp_goto ?_
            | (refine awp_test (by rfl) ?_; first | with_reducible refine cc_t ?_ | with_reducible refine cc_f ?_)
            | ((refine awp_cond_case (by rfl) (by simp only [go_sem]; rfl) (by simp only [go_sem]; rfl) (fun hcase => ?_) (fun hcase => ?_)) <;> (try simp only [decide_eq_true_eq, decide_eq_false_iff_not, Bool.not_eq_true', Bool.not_eq_false', beq_iff_eq, ne_eq] at hcase) <;> first | (exfalso; omega) | contradiction | skip))
        | ((with_reducible refine st_head ?_); first
            | with_reducible refine st_nil ?_
            | (refine st_none rfl fun K QK hK hQK => ?_; simp (config := { decide := true }) only [go_sem, Nat.reduceAdd, Nat.reduceMul, Nat.reduceSub, Nat.reduceLeDiff, Int.reduceToNat, reduceCtorEq, reduceIte, hz])
            | (refine st_test rfl (by rfl) (by rfl) (by simp only [go_sem]; rfl) ?_; first | (with_reducible refine gc_ft ?_) | (with_reducible refine gc_tf ?_) | ((with_reducible refine gc_tt fun K QK hK hQK => ?_); simp (config := { decide := true }) only [go_sem, Nat.reduceAdd, Nat.reduceMul, Nat.reduceSub, Nat.reduceLeDiff, Int.reduceToNat, reduceCtorEq, reduceIte, hz]) | ((with_reducible refine gc_ff fun K QK hK hQK => ?_); simp (config := { decide := true }) only [go_sem, Nat.reduceAdd, Nat.reduceMul, Nat.reduceSub, Nat.reduceLeDiff, Int.reduceToNat, reduceCtorEq, reduceIte, hz]))
            | ((refine st_case rfl (by rfl) (by rfl) (by simp only [go_sem]; rfl) (by simp only [go_sem]; rfl) (fun hcase => ?_) (fun hcase => ?_)) <;> (try simp only [decide_eq_true_eq, decide_eq_false_iff_not, Bool.not_eq_true', Bool.not_eq_false', beq_iff_eq, ne_eq] at hcase) <;> first | (exfalso; omega) | contradiction | skip)
            | (refine st_nil ?_))
        | ((with_reducible refine sq_head ?_); first
            | with_reducible refine sq_nil ?_
            | (refine sq_none rfl fun K hK => ?_; simp (config := { decide := true }) only [go_sem, Nat.reduceAdd, Nat.reduceMul, Nat.reduceSub, Nat.reduceLeDiff, Int.reduceToNat, reduceCtorEq, reduceIte, hz, exists_eq_left', exists_and_left, and_assoc])
            | (refine sq_test rfl (by rfl) (by rfl) (by simp only [go_sem]; rfl) ?_; first | (with_reducible refine gc_ft ?_) | (with_reducible refine gc_tf ?_) | ((with_reducible refine gc_tt fun K hK => ?_); simp (config := { decide := true }) only [go_sem, Nat.reduceAdd, Nat.reduceMul, Nat.reduceSub, Nat.reduceLeDiff, Int.reduceToNat, reduceCtorEq, reduceIte, hz, exists_eq_left', exists_and_left, and_assoc]) | ((with_reducible refine gc_ff fun K hK => ?_); simp (config := { decide := true }) only [go_sem, Nat.reduceAdd, Nat.reduceMul, Nat.reduceSub, Nat.reduceLeDiff, Int.reduceToNat, reduceCtorEq, reduceIte, hz, exists_eq_left', exists_and_left, and_assoc]))
            | ((refine sq_case rfl (by rfl) (by rfl) (by simp only [go_sem]; rfl) (by simp only [go_sem]; rfl) (fun hcase => ?_) (fun hcase => ?_)) <;> (try simp only [decide_eq_true_eq, decide_eq_false_iff_not, Bool.not_eq_true', Bool.not_eq_false', beq_iff_eq, ne_eq] at hcase) <;> first | (exfalso; omega) | contradiction | skip)
            | (refine sq_nil ?_))
        | with_reducible refine th_normal ?_
        | with_reducible refine th_ret ?_
        | with_reducible refine th_exit ?_
        | with_reducible refine bl_normal ?_
        | with_reducible refine bl_ret ?_
        | with_reducible refine bl_exit ?_
        | with_reducible refine bl_exit_ne (by decide) ?_
        | with_reducible refine th_goto ?_
        | with_reducible refine bl_goto ?_
        | (with_reducible refine hK _ _ ?_; clear hK hQK K QK)
        | (with_reducible refine hK _ ?_; clear hK K)
        | ((with_reducible refine body_ret tr43 ?_); simp (config := { decide := true }) only [go_sem, Nat.reduceAdd, Nat.reduceMul, Nat.reduceSub, Nat.reduceLeDiff, Int.reduceToNat, reduceCtorEq, reduceIte, hz])
        | ((with_reducible refine body_normal tr43 ?_); simp (config := { decide := true }) only [go_sem, Nat.reduceAdd, Nat.reduceMul, Nat.reduceSub, Nat.reduceLeDiff, Int.reduceToNat, reduceCtorEq, reduceIte, hz])
        | (refine And.intro (by first | omega | (simp only [ByteArray.size_append]; omega)) ?_)
        | ((with_reducible refine ex_head (f := 72) ?_); refine call_ex (ref02_Get s _ _ hs (by omega) (by omega) (by omega) (by omega)) ?_; try simp (config := { decide := true }) only [go_sem, Nat.reduceAdd, Nat.reduceMul, Nat.reduceSub, Nat.reduceLeDiff, Int.reduceToNat, reduceCtorEq, reduceIte, hz, exists_eq_left', exists_and_left, and_assoc])
        | ((with_reducible refine call_head (f := 72) ?_); refine call_mono (ref02_Get s _ _ hs (by omega) (by omega) (by omega) (by omega)) ?_; simp (config := { decide := true }) only [go_sem, Nat.reduceAdd, Nat.reduceMul, Nat.reduceSub, Nat.reduceLeDiff, Int.reduceToNat, reduceCtorEq, reduceIte, hz])
        | ((with_reducible refine ex_head (f := 71) ?_); refine call_ex (ref02_GetCoord s _ hs (by omega) (by omega)) ?_; try simp (config := { decide := true }) only [go_sem, Nat.reduceAdd, Nat.reduceMul, Nat.reduceSub, Nat.reduceLeDiff, Int.reduceToNat, reduceCtorEq, reduceIte, hz, exists_eq_left', exists_and_left, and_assoc])
        | ((with_reducible refine call_head (f := 71) ?_); refine call_mono (ref02_GetCoord s _ hs (by omega) (by omega)) ?_; simp (config := { decide := true }) only [go_sem, Nat.reduceAdd, Nat.reduceMul, Nat.reduceSub, Nat.reduceLeDiff, Int.reduceToNat, reduceCtorEq, reduceIte, hz])
        | ((with_reducible refine ex_head (f := 63) ?_); refine call_ex (ref14_id _) ?_; try simp (config := { decide := true }) only [go_sem, Nat.reduceAdd, Nat.reduceMul, Nat.reduceSub, Nat.reduceLeDiff, Int.reduceToNat, reduceCtorEq, reduceIte, hz, exists_eq_left', exists_and_left, and_assoc])
        | ((with_reducible refine call_head (f := 63) ?_); refine call_mono (ref14_id _) ?_; simp (config := { decide := true }) only [go_sem, Nat.reduceAdd, Nat.reduceMul, Nat.reduceSub, Nat.reduceLeDiff, Int.reduceToNat, reduceCtorEq, reduceIte, hz])
        | ((first | refine ends_same hok rfl ⟨?_, rfl⟩ | refine ends_here ⟨?_, rfl⟩); first | (with_reducible rfl) | (simp [hg, *]; done) | (simp_all [hg]; done) | (simp_all [hg]; split <;> first | (exfalso; omega) | (simp_all; done)))))
  · have hz : ¬ ((s.size : Nat) : Int) = 12 := by omega
    have hg := getCell_no h8
    (repeat' (first
        | ((with_reducible refine wp_head ?_); first
            | with_reducible refine awp_seq ?_
            | with_reducible refine awp_block ?_
            | with_reducible refine awp_regionL ?_
            | with_reducible refine awp_skip ?_
            | with_reducible refine awp_exit ?_
            | with_reducible refine awp_ret ?_
            | with_reducible refine awp_goto ?_
            | (refine awp_test (by rfl) ?_; first | with_reducible refine cc_t ?_ | with_reducible refine cc_f ?_)
            | ((refine awp_cond_case (by rfl) (by simp only [go_sem]; rfl) (by simp only [go_sem]; rfl) (fun hcase => ?_) (fun hcase => ?_)) <;> (try simp only [decide_eq_true_eq, decide_eq_false_iff_not, Bool.not_eq_true', Bool.not_eq_false', beq_iff_eq, ne_eq] at hcase) <;> first | (exfalso; omega) | contradiction | skip))
        | ((with_reducible refine st_head ?_); first
            | with_reducible refine st_nil ?_
            | (refine st_none rfl fun K QK hK hQK => ?_; simp (config := { decide := true }) only [go_sem, Nat.reduceAdd, Nat.reduceMul, Nat.reduceSub, Nat.reduceLeDiff, Int.reduceToNat, reduceCtorEq, reduceIte, hz])
            | (refine st_test rfl (by rfl) (by rfl) (by simp only [go_sem]; rfl) ?_; first | (with_reducible refine gc_ft ?_) | (with_reducible refine gc_tf ?_) | ((with_reducible refine gc_tt fun K QK hK hQK => ?_); simp (config := { decide := true }) only [go_sem, Nat.reduceAdd, Nat.reduceMul, Nat.reduceSub, Nat.reduceLeDiff, Int.reduceToNat, reduceCtorEq, reduceIte, hz]) | ((with_reducible refine gc_ff fun K QK hK hQK => ?_); simp (config := { decide := true }) only [go_sem, Nat.reduceAdd, Nat.reduceMul, Nat.reduceSub, Nat.reduceLeDiff, Int.reduceToNat, reduceCtorEq, reduceIte, hz]))
            | ((refine st_case rfl (by rfl) (by rfl) (by simp only [go_sem]; rfl) (by simp only [go_sem]; rfl) (fun hcase => ?_) (fun hcase => ?_)) <;> (try simp only [decide_eq_true_eq, decide_eq_false_iff_not, Bool.not_eq_true', Bool.not_eq_false', beq_iff_eq, ne_eq] at hcase) <;> first | (exfalso; omega) | contradiction | skip)
            | (refine st_nil ?_))
        | ((with_reducible refine sq_head ?_); first
            | with_reducible refine sq_nil ?_
            | (refine sq_none rfl fun K hK => ?_; simp (config := { decide := true }) only [go_sem, Nat.reduceAdd, Nat.reduceMul, Nat.reduceSub, Nat.reduceLeDiff, Int.reduceToNat, reduceCtorEq, reduceIte, hz, exists_eq_left', exists_and_left, and_assoc])
            | (refine sq_test rfl (by rfl) (by rfl) (by simp only [go_sem]; rfl) ?_; first | (with_reducible refine gc_ft ?_) | (with_reducible refine gc_tf ?_) | ((with_reducible refine gc_tt fun K hK => ?_); simp (config := { decide := true }) only [go_sem, Nat.reduceAdd, Nat.reduceMul, Nat.reduceSub, Nat.reduceLeDiff, Int.reduceToNat, reduceCtorEq, reduceIte, hz, exists_eq_left', exists_and_left, and_assoc]) | ((with_reducible refine gc_ff fun K hK => ?_); simp (config := { decide := true }) only [go_sem, Nat.reduceAdd, Nat.reduceMul, Nat.reduceSub, Nat.reduceLeDiff, Int.reduceToNat, reduceCtorEq, reduceIte, hz, exists_eq_left', exists_and_left, and_assoc]))
            | ((refine sq_case rfl (by rfl) (by rfl) (by simp only [go_sem]; rfl) (by simp only [go_sem]; rfl) (fun hcase => ?_) (fun hcase => ?_)) <;> (try simp only [decide_eq_true_eq, decide_eq_false_iff_not, Bool.not_eq_true', Bool.not_eq_false', beq_iff_eq, ne_eq] at hcase) <;> first | (exfalso; omega) | contradiction | skip)
            | (refine sq_nil ?_))
        | with_reducible refine th_normal ?_
        | with_reducible refine th_ret ?_
        | with_reducible refine th_exit ?_
        | with_reducible refine bl_normal ?_
        | with_reducible refine bl_ret ?_
        | with_reducible refine bl_exit ?_
        | with_reducible refine bl_exit_ne (by decide) ?_
        | with_reducible refine th_goto ?_
        | with_reducible refine bl_goto ?_
        | (with_reducible refine hK _ _ ?_; clear hK hQK K QK)
        | (with_reducible refine hK _ ?_; clear hK K)
        | ((with_reducible refine body_ret tr43 ?_); simp (config := { decide := true }) only [go_sem, Nat.reduceAdd, Nat.reduceMul, Nat.reduceSub, Nat.reduceLeDiff, Int.reduceToNat, reduceCtorEq, reduceIte, hz])
        | ((with_reducible refine body_normal tr43 ?_); simp (config := { decide := true }) only [go_sem, Nat.reduceAdd, Nat.reduceMul, Nat.reduceSub, Nat.reduceLeDiff, Int.reduceToNat, reduceCtorEq, reduceIte, hz])
        | (refine And.intro (by first | omega | (simp only [ByteArray.size_append]; omega)) ?_)
        | ((with_reducible refine ex_head (f := 72) ?_); refine call_ex (ref02_Get s _ _ hs (by omega) (by omega) (by omega) (by omega)) ?_; try simp (config := { decide := true }) only [go_sem, Nat.reduceAdd, Nat.reduceMul, Nat.reduceSub, Nat.reduceLeDiff, Int.reduceToNat, reduceCtorEq, reduceIte, hz, exists_eq_left', exists_and_left, and_assoc])
        | ((with_reducible refine call_head (f := 72) ?_); refine call_mono (ref02_Get s _ _ hs (by omega) (by omega) (by omega) (by omega)) ?_; simp (config := { decide := true }) only [go_sem, Nat.reduceAdd, Nat.reduceMul, Nat.reduceSub, Nat.reduceLeDiff, Int.reduceToNat, reduceCtorEq, reduceIte, hz])
        | ((with_reducible refine ex_head (f := 71) ?_); refine call_ex (ref02_GetCoord s _ hs (by omega) (by omega)) ?_; try simp (config := { decide := true }) only [go_sem, Nat.reduceAdd, Nat.reduceMul, Nat.reduceSub, Nat.reduceLeDiff, Int.reduceToNat, reduceCtorEq, reduceIte, hz, exists_eq_left', exists_and_left, and_assoc])
        | ((with_reducible refine call_head (f := 71) ?_); refine call_mono (ref02_GetCoord s _ hs (by omega) (by omega)) ?_; simp (config := { decide := true }) only [go_sem, Nat.reduceAdd, Nat.reduceMul, Nat.reduceSub, Nat.reduceLeDiff, Int.reduceToNat, reduceCtorEq, reduceIte, hz])
        | ((with_reducible refine ex_head (f := 63) ?_); refine call_ex (ref14_id _) ?_; try simp (config := { decide := true }) only [go_sem, Nat.reduceAdd, Nat.reduceMul, Nat.reduceSub, Nat.reduceLeDiff, Int.reduceToNat, reduceCtorEq, reduceIte, hz, exists_eq_left', exists_and_left, and_assoc])
        | ((with_reducible refine call_head (f := 63) ?_); refine call_mono (ref14_id _) ?_; simp (config := { decide := true }) only [go_sem, Nat.reduceAdd, Nat.reduceMul, Nat.reduceSub, Nat.reduceLeDiff, Int.reduceToNat, reduceCtorEq, reduceIte, hz])
        | ((first | refine ends_same hok rfl ⟨?_, rfl⟩ | refine ends_here ⟨?_, rfl⟩); first | (with_reducible rfl) | (simp [hg, *]; done) | (simp_all [hg]; done) | (simp_all [hg]; split <;> first | (exfalso; omega) | (simp_all; done)))))

theorem getDraw_no {s : ByteArray} (h : s.size ≠ 17) : getDraw s = (0, 0, 0, 0, false) := by
  unfold getDraw doneB
  simp [show ¬ 17 = s.size by omega]
theorem getDraw_17 {s : ByteArray} (h : s.size = 17) : getDraw s = if (getP s 5 8).2 && (idB (getP s 0 4).1 && idB (getP s 13 4).1) then ((getP s 0 4).1, (getP s 4 1).1, (getP s 5 8).1, (getP s 13 4).1, true) else (0, 0, 0, 0, false) := by
  have e1 : (getP s 0 4).2 = true := congrArg Prod.snd (getP_ok (s := s) (a := 0) (k := 4) (by omega) (by omega) (by omega))
  have e2 : (getP s 4 1).2 = true := congrArg Prod.snd (getP_ok (s := s) (a := 4) (k := 1) (by omega) (by omega) (by omega))
  have e3 : (getP s 13 4).2 = true := congrArg Prod.snd (getP_ok (s := s) (a := 13) (k := 4) (by omega) (by omega) (by omega))
  unfold getDraw doneB drawBad
  rw [e1, e2, e3, mayB_2, h]
  simp

-- chainman/chainmanref14.GetDraw: function 48
theorem ref14_GetDraw (s : ByteArray) (hs : s.size ≤ 140737488351232) :
    Pure1 Try.prog 48 [.lit (.string s)] (.tup [.agg [.lit (.int .i64 (getDraw s).1), .lit (.int .i64 (getDraw s).2.1), .lit (.int .i64 (getDraw s).2.2.1), .lit (.int .i64 (getDraw s).2.2.2.1)], .lit (.bool (getDraw s).2.2.2.2)]) := by
  intro h
  refine acalls_of Try.func48 (by rfl) fun hok => ?_
  simp only [List.length_cons, List.length_nil, Nat.reduceAdd, show Try.f48.ntmps = 56 from rfl, Nat.reduceSub, List.replicate, List.cons_append, List.nil_append]
  by_cases h8 : s.size = 17
  · have hz : ((s.size : Nat) : Int) = 17 := by omega
    have hg := getDraw_17 h8
    (repeat' (first
        | ((with_reducible refine wp_head ?_); first
            | with_reducible refine awp_seq ?_
            | with_reducible refine awp_block ?_
            | with_reducible refine awp_regionL ?_
            | with_reducible refine awp_skip ?_
            | with_reducible refine awp_exit ?_
            | with_reducible refine awp_ret ?_
            | with_reducible refine awp_goto ?_
            | (refine awp_test (by rfl) ?_; first | with_reducible refine cc_t ?_ | with_reducible refine cc_f ?_)
            | ((refine awp_cond_case (by rfl) (by simp only [go_sem]; rfl) (by simp only [go_sem]; rfl) (fun hcase => ?_) (fun hcase => ?_)) <;> (try simp only [decide_eq_true_eq, decide_eq_false_iff_not, Bool.not_eq_true', Bool.not_eq_false', beq_iff_eq, ne_eq] at hcase) <;> first | (exfalso; omega) | contradiction | skip))
        | ((with_reducible refine st_head ?_); first
            | with_reducible refine st_nil ?_
            | (refine st_none rfl fun K QK hK hQK => ?_; simp (config := { decide := true }) only [go_sem, Nat.reduceAdd, Nat.reduceMul, Nat.reduceSub, Nat.reduceLeDiff, Int.reduceToNat, reduceCtorEq, reduceIte, hz])
            | (refine st_test rfl (by rfl) (by rfl) (by simp only [go_sem]; rfl) ?_; first | (with_reducible refine gc_ft ?_) | (with_reducible refine gc_tf ?_) | ((with_reducible refine gc_tt fun K QK hK hQK => ?_); simp (config := { decide := true }) only [go_sem, Nat.reduceAdd, Nat.reduceMul, Nat.reduceSub, Nat.reduceLeDiff, Int.reduceToNat, reduceCtorEq, reduceIte, hz]) | ((with_reducible refine gc_ff fun K QK hK hQK => ?_); simp (config := { decide := true }) only [go_sem, Nat.reduceAdd, Nat.reduceMul, Nat.reduceSub, Nat.reduceLeDiff, Int.reduceToNat, reduceCtorEq, reduceIte, hz]))
            | ((refine st_case rfl (by rfl) (by rfl) (by simp only [go_sem]; rfl) (by simp only [go_sem]; rfl) (fun hcase => ?_) (fun hcase => ?_)) <;> (try simp only [decide_eq_true_eq, decide_eq_false_iff_not, Bool.not_eq_true', Bool.not_eq_false', beq_iff_eq, ne_eq] at hcase) <;> first | (exfalso; omega) | contradiction | skip)
            | (refine st_nil ?_))
        | ((with_reducible refine sq_head ?_); first
            | with_reducible refine sq_nil ?_
            | (refine sq_none rfl fun K hK => ?_; simp (config := { decide := true }) only [go_sem, Nat.reduceAdd, Nat.reduceMul, Nat.reduceSub, Nat.reduceLeDiff, Int.reduceToNat, reduceCtorEq, reduceIte, hz, exists_eq_left', exists_and_left, and_assoc])
            | (refine sq_test rfl (by rfl) (by rfl) (by simp only [go_sem]; rfl) ?_; first | (with_reducible refine gc_ft ?_) | (with_reducible refine gc_tf ?_) | ((with_reducible refine gc_tt fun K hK => ?_); simp (config := { decide := true }) only [go_sem, Nat.reduceAdd, Nat.reduceMul, Nat.reduceSub, Nat.reduceLeDiff, Int.reduceToNat, reduceCtorEq, reduceIte, hz, exists_eq_left', exists_and_left, and_assoc]) | ((with_reducible refine gc_ff fun K hK => ?_); simp (config := { decide := true }) only [go_sem, Nat.reduceAdd, Nat.reduceMul, Nat.reduceSub, Nat.reduceLeDiff, Int.reduceToNat, reduceCtorEq, reduceIte, hz, exists_eq_left', exists_and_left, and_assoc]))
            | ((refine sq_case rfl (by rfl) (by rfl) (by simp only [go_sem]; rfl) (by simp only [go_sem]; rfl) (fun hcase => ?_) (fun hcase => ?_)) <;> (try simp only [decide_eq_true_eq, decide_eq_false_iff_not, Bool.not_eq_true', Bool.not_eq_false', beq_iff_eq, ne_eq] at hcase) <;> first | (exfalso; omega) | contradiction | skip)
            | (refine sq_nil ?_))
        | with_reducible refine th_normal ?_
        | with_reducible refine th_ret ?_
        | with_reducible refine th_exit ?_
        | with_reducible refine bl_normal ?_
        | with_reducible refine bl_ret ?_
        | with_reducible refine bl_exit ?_
        | with_reducible refine bl_exit_ne (by decide) ?_
        | with_reducible refine th_goto ?_
        | with_reducible refine bl_goto ?_
        | (with_reducible refine hK _ _ ?_; clear hK hQK K QK)
        | (with_reducible refine hK _ ?_; clear hK K)
        | ((with_reducible refine body_ret tr48 ?_); simp (config := { decide := true }) only [go_sem, Nat.reduceAdd, Nat.reduceMul, Nat.reduceSub, Nat.reduceLeDiff, Int.reduceToNat, reduceCtorEq, reduceIte, hz])
        | ((with_reducible refine body_normal tr48 ?_); simp (config := { decide := true }) only [go_sem, Nat.reduceAdd, Nat.reduceMul, Nat.reduceSub, Nat.reduceLeDiff, Int.reduceToNat, reduceCtorEq, reduceIte, hz])
        | (refine And.intro (by first | omega | (simp only [ByteArray.size_append]; omega)) ?_)
        | ((with_reducible refine ex_head (f := 72) ?_); refine call_ex (ref02_Get s _ _ hs (by omega) (by omega) (by omega) (by omega)) ?_; try simp (config := { decide := true }) only [go_sem, Nat.reduceAdd, Nat.reduceMul, Nat.reduceSub, Nat.reduceLeDiff, Int.reduceToNat, reduceCtorEq, reduceIte, hz, exists_eq_left', exists_and_left, and_assoc])
        | ((with_reducible refine call_head (f := 72) ?_); refine call_mono (ref02_Get s _ _ hs (by omega) (by omega) (by omega) (by omega)) ?_; simp (config := { decide := true }) only [go_sem, Nat.reduceAdd, Nat.reduceMul, Nat.reduceSub, Nat.reduceLeDiff, Int.reduceToNat, reduceCtorEq, reduceIte, hz])
        | ((with_reducible refine ex_head (f := 63) ?_); refine call_ex (ref14_id _) ?_; try simp (config := { decide := true }) only [go_sem, Nat.reduceAdd, Nat.reduceMul, Nat.reduceSub, Nat.reduceLeDiff, Int.reduceToNat, reduceCtorEq, reduceIte, hz, exists_eq_left', exists_and_left, and_assoc])
        | ((with_reducible refine call_head (f := 63) ?_); refine call_mono (ref14_id _) ?_; simp (config := { decide := true }) only [go_sem, Nat.reduceAdd, Nat.reduceMul, Nat.reduceSub, Nat.reduceLeDiff, Int.reduceToNat, reduceCtorEq, reduceIte, hz])
        | ((first | refine ends_same hok rfl ⟨?_, rfl⟩ | refine ends_here ⟨?_, rfl⟩); first | (with_reducible rfl) | (simp [hg, *]; done) | (simp_all [hg]; done) | (simp_all [hg]; split <;> first | (exfalso; omega) | (simp_all; done)))))
  · have hz : ¬ ((s.size : Nat) : Int) = 17 := by omega
    have hg := getDraw_no h8
    (repeat' (first
        | ((with_reducible refine wp_head ?_); first
            | with_reducible refine awp_seq ?_
            | with_reducible refine awp_block ?_
            | with_reducible refine awp_regionL ?_
            | with_reducible refine awp_skip ?_
            | with_reducible refine awp_exit ?_
            | with_reducible refine awp_ret ?_
            | with_reducible refine awp_goto ?_
            | (refine awp_test (by rfl) ?_; first | with_reducible refine cc_t ?_ | with_reducible refine cc_f ?_)
            | ((refine awp_cond_case (by rfl) (by simp only [go_sem]; rfl) (by simp only [go_sem]; rfl) (fun hcase => ?_) (fun hcase => ?_)) <;> (try simp only [decide_eq_true_eq, decide_eq_false_iff_not, Bool.not_eq_true', Bool.not_eq_false', beq_iff_eq, ne_eq] at hcase) <;> first | (exfalso; omega) | contradiction | skip))
        | ((with_reducible refine st_head ?_); first
            | with_reducible refine st_nil ?_
            | (refine st_none rfl fun K QK hK hQK => ?_; simp (config := { decide := true }) only [go_sem, Nat.reduceAdd, Nat.reduceMul, Nat.reduceSub, Nat.reduceLeDiff, Int.reduceToNat, reduceCtorEq, reduceIte, hz])
            | (refine st_test rfl (by rfl) (by rfl) (by simp only [go_sem]; rfl) ?_; first | (with_reducible refine gc_ft ?_) | (with_reducible refine gc_tf ?_) | ((with_reducible refine gc_tt fun K QK hK hQK => ?_); simp (config := { decide := true }) only [go_sem, Nat.reduceAdd, Nat.reduceMul, Nat.reduceSub, Nat.reduceLeDiff, Int.reduceToNat, reduceCtorEq, reduceIte, hz]) | ((with_reducible refine gc_ff fun K QK hK hQK => ?_); simp (config := { decide := true }) only [go_sem, Nat.reduceAdd, Nat.reduceMul, Nat.reduceSub, Nat.reduceLeDiff, Int.reduceToNat, reduceCtorEq, reduceIte, hz]))
            | ((refine st_case rfl (by rfl) (by rfl) (by simp only [go_sem]; rfl) (by simp only [go_sem]; rfl) (fun hcase => ?_) (fun hcase => ?_)) <;> (try simp only [decide_eq_true_eq, decide_eq_false_iff_not, Bool.not_eq_true', Bool.not_eq_false', beq_iff_eq, ne_eq] at hcase) <;> first | (exfalso; omega) | contradiction | skip)
            | (refine st_nil ?_))
        | ((with_reducible refine sq_head ?_); first
            | with_reducible refine sq_nil ?_
            | (refine sq_none rfl fun K hK => ?_; simp (config := { decide := true }) only [go_sem, Nat.reduceAdd, Nat.reduceMul, Nat.reduceSub, Nat.reduceLeDiff, Int.reduceToNat, reduceCtorEq, reduceIte, hz, exists_eq_left', exists_and_left, and_assoc])
            | (refine sq_test rfl (by rfl) (by rfl) (by simp only [go_sem]; rfl) ?_; first | (with_reducible refine gc_ft ?_) | (with_reducible refine gc_tf ?_) | ((with_reducible refine gc_tt fun K hK => ?_); simp (config := { decide := true }) only [go_sem, Nat.reduceAdd, Nat.reduceMul, Nat.reduceSub, Nat.reduceLeDiff, Int.reduceToNat, reduceCtorEq, reduceIte, hz, exists_eq_left', exists_and_left, and_assoc]) | ((with_reducible refine gc_ff fun K hK => ?_); simp (config := { decide := true }) only [go_sem, Nat.reduceAdd, Nat.reduceMul, Nat.reduceSub, Nat.reduceLeDiff, Int.reduceToNat, reduceCtorEq, reduceIte, hz, exists_eq_left', exists_and_left, and_assoc]))
            | ((refine sq_case rfl (by rfl) (by rfl) (by simp only [go_sem]; rfl) (by simp only [go_sem]; rfl) (fun hcase => ?_) (fun hcase => ?_)) <;> (try simp only [decide_eq_true_eq, decide_eq_false_iff_not, Bool.not_eq_true', Bool.not_eq_false', beq_iff_eq, ne_eq] at hcase) <;> first | (exfalso; omega) | contradiction | skip)
            | (refine sq_nil ?_))
        | with_reducible refine th_normal ?_
        | with_reducible refine th_ret ?_
        | with_reducible refine th_exit ?_
        | with_reducible refine bl_normal ?_
        | with_reducible refine bl_ret ?_
        | with_reducible refine bl_exit ?_
        | with_reducible refine bl_exit_ne (by decide) ?_
        | with_reducible refine th_goto ?_
        | with_reducible refine bl_goto ?_
        | (with_reducible refine hK _ _ ?_; clear hK hQK K QK)
        | (with_reducible refine hK _ ?_; clear hK K)
        | ((with_reducible refine body_ret tr48 ?_); simp (config := { decide := true }) only [go_sem, Nat.reduceAdd, Nat.reduceMul, Nat.reduceSub, Nat.reduceLeDiff, Int.reduceToNat, reduceCtorEq, reduceIte, hz])
        | ((with_reducible refine body_normal tr48 ?_); simp (config := { decide := true }) only [go_sem, Nat.reduceAdd, Nat.reduceMul, Nat.reduceSub, Nat.reduceLeDiff, Int.reduceToNat, reduceCtorEq, reduceIte, hz])
        | (refine And.intro (by first | omega | (simp only [ByteArray.size_append]; omega)) ?_)
        | ((with_reducible refine ex_head (f := 72) ?_); refine call_ex (ref02_Get s _ _ hs (by omega) (by omega) (by omega) (by omega)) ?_; try simp (config := { decide := true }) only [go_sem, Nat.reduceAdd, Nat.reduceMul, Nat.reduceSub, Nat.reduceLeDiff, Int.reduceToNat, reduceCtorEq, reduceIte, hz, exists_eq_left', exists_and_left, and_assoc])
        | ((with_reducible refine call_head (f := 72) ?_); refine call_mono (ref02_Get s _ _ hs (by omega) (by omega) (by omega) (by omega)) ?_; simp (config := { decide := true }) only [go_sem, Nat.reduceAdd, Nat.reduceMul, Nat.reduceSub, Nat.reduceLeDiff, Int.reduceToNat, reduceCtorEq, reduceIte, hz])
        | ((with_reducible refine ex_head (f := 63) ?_); refine call_ex (ref14_id _) ?_; try simp (config := { decide := true }) only [go_sem, Nat.reduceAdd, Nat.reduceMul, Nat.reduceSub, Nat.reduceLeDiff, Int.reduceToNat, reduceCtorEq, reduceIte, hz, exists_eq_left', exists_and_left, and_assoc])
        | ((with_reducible refine call_head (f := 63) ?_); refine call_mono (ref14_id _) ?_; simp (config := { decide := true }) only [go_sem, Nat.reduceAdd, Nat.reduceMul, Nat.reduceSub, Nat.reduceLeDiff, Int.reduceToNat, reduceCtorEq, reduceIte, hz])
        | ((first | refine ends_same hok rfl ⟨?_, rfl⟩ | refine ends_here ⟨?_, rfl⟩); first | (with_reducible rfl) | (simp [hg, *]; done) | (simp_all [hg]; done) | (simp_all [hg]; split <;> first | (exfalso; omega) | (simp_all; done)))))

theorem baL_inj {a b : List UInt8} : baL a = baL b ↔ a = b := by
  constructor
  · intro h
    have := congrArg ByteArray.toList h
    simpa [baL, ByteArray.toList_eq] using this
  · rintro rfl; rfl

theorem last_byte {s : ByteArray} (h : s.size = 17) : ∃ x : UInt8, cut s 16 1 = [x] ∧ byteAt s 16 = (x.toNat : Int) ∧ getP s 16 1 = ((x.toNat : Int), true) := by
  have hl : (cut s 16 1).length = 1 := cut_len (by omega)
  obtain ⟨x, hx⟩ := List.length_eq_one_iff.1 hl
  refine ⟨x, hx, ?_, ?_⟩
  · have := byteAt_cut (s := s) (a := 16) (k := 1) (t := 0) (by omega) (by omega)
    simp only [Nat.add_zero] at this
    rw [this]
    simp [hx]
  · have := getP_ok (s := s) (a := 16) (k := 1) (by omega) (by omega) (by omega)
    rw [hx] at this
    have e : num [x] = x.toNat := by simp [num]
    rw [e] at this
    exact this

theorem put_bit {x : UInt8} {l : List UInt8} (b : Bool) (hb : b = decide ((x.toNat : Int) = 1)) : (baL l ++ putS (bitI b) 1 = baL (l ++ [x])) ↔ (x.toNat : Int) ≤ 1 := by
  have e0 : putS 0 1 = baL [0] := by decide +kernel
  have e1 : putS 1 1 = baL [1] := by decide +kernel
  cases b with
  | false =>
    have hn : ¬ (x.toNat : Int) = 1 := fun e => by rw [e] at hb; simp at hb
    show (baL l ++ putS 0 1 = _) ↔ _
    rw [e0, baL_append, baL_inj, List.append_cancel_left_eq]
    simp only [List.cons.injEq, and_true]
    constructor
    · rintro rfl; simp
    · intro h
      apply UInt8.toNat_inj.1
      have : x.toNat = 0 := by omega
      rw [this]; rfl
  | true =>
    have hn : (x.toNat : Int) = 1 := by simpa using hb.symm
    show (baL l ++ putS 1 1 = _) ↔ _
    rw [e1, baL_append, baL_inj, List.append_cancel_left_eq]
    simp only [List.cons.injEq, and_true]
    constructor
    · intro _; omega
    · intro h
      apply UInt8.toNat_inj.1
      have : x.toNat = 1 := by omega
      rw [this]; rfl

theorem getEdge_no {s : ByteArray} (h : s.size ≠ 17) : getEdge s = (0, 0, 0, false, false) := by
  unfold getEdge doneB
  simp [show ¬ 17 = s.size by omega]
theorem getEdge_17 {s : ByteArray} (h : s.size = 17) : getEdge s = if (getP s 4 8).2 && (((idB (getP s 0 4).1 && idB (getP s 12 4).1) && decide ((getP s 4 8).1 ≤ 4611686018427387904)) && decide (byteAt s 16 ≤ 1)) then
    ((getP s 0 4).1, (getP s 4 8).1, (getP s 12 4).1, decide (byteAt s 16 = 1), true) else (0, 0, 0, false, false) := by
  have e1 : (getP s 0 4).2 = true := congrArg Prod.snd (getP_ok (s := s) (a := 0) (k := 4) (by omega) (by omega) (by omega))
  have e3 : (getP s 12 4).2 = true := congrArg Prod.snd (getP_ok (s := s) (a := 12) (k := 4) (by omega) (by omega) (by omega))
  obtain ⟨x, hx, hb, e4⟩ := last_byte h
  have e5 : (getP s 16 1).2 = true := congrArg Prod.snd e4
  have e6 : (getP s 16 1).1 = byteAt s 16 := by rw [e4, hb]
  unfold getEdge doneB edgeBad
  rw [e1, e3, e5, e6, mayB_2, h]
  simp [and_assoc]

theorem edge_of {s : ByteArray} (h : s.size = 17) (h2 : (getP s 4 8).2 = true) : edgeP (getP s 0 4).1 (getP s 4 8).1 (getP s 12 4).1 (decide (byteAt s 16 = 1)) =
    if (idB (getP s 0 4).1 && idB (getP s 12 4).1) && decide ((getP s 4 8).1 ≤ 4611686018427387904) then (baL (cut s 0 16) ++ putS (bitI (decide (byteAt s 16 = 1))) 1, true) else (⟨#[]⟩, false) := by
  have e1 := getP_ok (s := s) (a := 0) (k := 4) (by omega) (by omega) (by omega)
  have e2 := getP_8 (s := s) (a := 4) (by omega) h2
  have e3 := getP_ok (s := s) (a := 12) (k := 4) (by omega) (by omega) (by omega)
  have f1 : (getP s 0 4).1 = (num (cut s 0 4) : Int) := congrArg Prod.fst e1
  have f2 : (getP s 4 8).1 = (num (cut s 4 8) : Int) := congrArg Prod.fst e2
  have f3 : (getP s 12 4).1 = (num (cut s 12 4) : Int) := congrArg Prod.fst e3
  have e4 : putS (getP s 0 4).1 4 ++ putS (getP s 4 8).1 8 ++ putS (getP s 12 4).1 4 = baL (cut s 0 16) := by
    rw [f1, f2, f3, show (4 : Int) = ((4 : Nat) : Int) from rfl, show (8 : Int) = ((8 : Nat) : Int) from rfl, putS_num (cut_len (by omega)) (by omega) (by omega), putS_num (cut_len (by omega)) (by omega) (by omega),
      putS_num (cut_len (by omega)) (by omega) (by omega), baL_append, baL_append, cut_join s 0 4 8, cut_join s 0 12 4]
  have e5 : 0 ≤ (getP s 4 8).1 := (getP_range s 4 8).1
  unfold edgeP
  rw [e4]
  by_cases hd : (getP s 4 8).1 ≤ 4611686018427387904 <;> simp [hd, e5]

theorem edge_same {s : ByteArray} (h : s.size = 17) : (baL (cut s 0 16) ++ putS (bitI (decide (byteAt s 16 = 1))) 1 = s) ↔ byteAt s 16 ≤ 1 := by
  obtain ⟨x, hx, hb, e4⟩ := last_byte h
  have e : baL (cut s 0 16 ++ [x]) = s := by rw [← hx, cut_join s 0 16 1]; exact cut_all h
  have := put_bit (x := x) (l := cut s 0 16) (decide (byteAt s 16 = 1)) (by rw [hb])
  rw [e] at this
  rw [this, hb]

-- chainman/chainmanref14.GetEdge: function 47
theorem ref14_GetEdge (s : ByteArray) (hs : s.size ≤ 140737488351232) :
    Pure1 Try.prog 47 [.lit (.string s)] (.tup [.agg [.lit (.int .i64 (getEdge s).1), .lit (.int .i64 (getEdge s).2.1), .lit (.int .i64 (getEdge s).2.2.1), .lit (.bool (getEdge s).2.2.2.1)], .lit (.bool (getEdge s).2.2.2.2)]) := by
  intro h
  refine acalls_of Try.func47 (by rfl) fun hok => ?_
  simp only [List.length_cons, List.length_nil, Nat.reduceAdd, show Try.f47.ntmps = 58 from rfl, Nat.reduceSub, List.replicate, List.cons_append, List.nil_append]
  by_cases h8 : s.size = 17
  · have hz : ((s.size : Nat) : Int) = 17 := by omega
    have hg := getEdge_17 h8
    have r1 := getP_range s 0 4
    have r2 := getP_range s 4 8
    have r3 := getP_range s 12 4
    have r4 := edge_same h8
    rcases Bool.eq_false_or_eq_true (getP s 4 8).2 with h2 | h2
    · have hp := edge_of h8 h2
      rcases Bool.eq_false_or_eq_true ((idB (getP s 0 4).1 && idB (getP s 12 4).1) && decide ((getP s 4 8).1 ≤ 4611686018427387904)) with hc | hc
      · rw [hc, if_pos rfl] at hp
        (repeat' (first
            | ((with_reducible refine wp_head ?_); first
                | with_reducible refine awp_seq ?_
                | with_reducible refine awp_block ?_
                | with_reducible refine awp_regionL ?_
                | with_reducible refine awp_skip ?_
                | with_reducible refine awp_exit ?_
                | with_reducible refine awp_ret ?_
                | with_reducible refine awp_goto ?_
                | (refine awp_test (by rfl) ?_; first | with_reducible refine cc_t ?_ | with_reducible refine cc_f ?_)
                | ((refine awp_cond_case (by rfl) (by simp only [go_sem]; rfl) (by simp only [go_sem]; rfl) (fun hcase => ?_) (fun hcase => ?_)) <;> (try simp only [decide_eq_true_eq, decide_eq_false_iff_not, Bool.not_eq_true', Bool.not_eq_false', beq_iff_eq, ne_eq] at hcase) <;> first | (exfalso; omega) | contradiction | skip))
            | ((with_reducible refine st_head ?_); first
                | with_reducible refine st_nil ?_
                | (refine st_none rfl fun K QK hK hQK => ?_; simp (config := { decide := true }) only [go_sem, Nat.reduceAdd, Nat.reduceMul, Nat.reduceSub, Nat.reduceLeDiff, Int.reduceToNat, reduceCtorEq, reduceIte, hz, hp, h2])
                | (refine st_test rfl (by rfl) (by rfl) (by simp only [go_sem]; rfl) ?_; first | (with_reducible refine gc_ft ?_) | (with_reducible refine gc_tf ?_) | ((with_reducible refine gc_tt fun K QK hK hQK => ?_); simp (config := { decide := true }) only [go_sem, Nat.reduceAdd, Nat.reduceMul, Nat.reduceSub, Nat.reduceLeDiff, Int.reduceToNat, reduceCtorEq, reduceIte, hz, hp, h2]) | ((with_reducible refine gc_ff fun K QK hK hQK => ?_); simp (config := { decide := true }) only [go_sem, Nat.reduceAdd, Nat.reduceMul, Nat.reduceSub, Nat.reduceLeDiff, Int.reduceToNat, reduceCtorEq, reduceIte, hz, hp, h2]))
                | ((refine st_case rfl (by rfl) (by rfl) (by simp only [go_sem]; rfl) (by simp only [go_sem]; rfl) (fun hcase => ?_) (fun hcase => ?_)) <;> (try simp only [decide_eq_true_eq, decide_eq_false_iff_not, Bool.not_eq_true', Bool.not_eq_false', beq_iff_eq, ne_eq] at hcase) <;> first | (exfalso; omega) | contradiction | skip)
                | (refine st_nil ?_))
            | ((with_reducible refine sq_head ?_); first
                | with_reducible refine sq_nil ?_
                | (refine sq_none rfl fun K hK => ?_; simp (config := { decide := true }) only [go_sem, Nat.reduceAdd, Nat.reduceMul, Nat.reduceSub, Nat.reduceLeDiff, Int.reduceToNat, reduceCtorEq, reduceIte, hz, hp, h2, exists_eq_left', exists_and_left, and_assoc])
                | (refine sq_test rfl (by rfl) (by rfl) (by simp only [go_sem]; rfl) ?_; first | (with_reducible refine gc_ft ?_) | (with_reducible refine gc_tf ?_) | ((with_reducible refine gc_tt fun K hK => ?_); simp (config := { decide := true }) only [go_sem, Nat.reduceAdd, Nat.reduceMul, Nat.reduceSub, Nat.reduceLeDiff, Int.reduceToNat, reduceCtorEq, reduceIte, hz, hp, h2, exists_eq_left', exists_and_left, and_assoc]) | ((with_reducible refine gc_ff fun K hK => ?_); simp (config := { decide := true }) only [go_sem, Nat.reduceAdd, Nat.reduceMul, Nat.reduceSub, Nat.reduceLeDiff, Int.reduceToNat, reduceCtorEq, reduceIte, hz, hp, h2, exists_eq_left', exists_and_left, and_assoc]))
                | ((refine sq_case rfl (by rfl) (by rfl) (by simp only [go_sem]; rfl) (by simp only [go_sem]; rfl) (fun hcase => ?_) (fun hcase => ?_)) <;> (try simp only [decide_eq_true_eq, decide_eq_false_iff_not, Bool.not_eq_true', Bool.not_eq_false', beq_iff_eq, ne_eq] at hcase) <;> first | (exfalso; omega) | contradiction | skip)
                | (refine sq_nil ?_))
            | with_reducible refine th_normal ?_
            | with_reducible refine th_ret ?_
            | with_reducible refine th_exit ?_
            | with_reducible refine bl_normal ?_
            | with_reducible refine bl_ret ?_
            | with_reducible refine bl_exit ?_
            | with_reducible refine bl_exit_ne (by decide) ?_
            | with_reducible refine th_goto ?_
            | with_reducible refine bl_goto ?_
            | (with_reducible refine hK _ _ ?_; clear hK hQK K QK)
            | (with_reducible refine hK _ ?_; clear hK K)
            | ((with_reducible refine body_ret tr47 ?_); simp (config := { decide := true }) only [go_sem, Nat.reduceAdd, Nat.reduceMul, Nat.reduceSub, Nat.reduceLeDiff, Int.reduceToNat, reduceCtorEq, reduceIte, hz, hp, h2])
            | ((with_reducible refine body_normal tr47 ?_); simp (config := { decide := true }) only [go_sem, Nat.reduceAdd, Nat.reduceMul, Nat.reduceSub, Nat.reduceLeDiff, Int.reduceToNat, reduceCtorEq, reduceIte, hz, hp, h2])
            | (refine And.intro (by first | omega | (simp only [ByteArray.size_append]; omega)) ?_)
            | ((with_reducible refine ex_head (f := 72) ?_); refine call_ex (ref02_Get s _ _ hs (by omega) (by omega) (by omega) (by omega)) ?_; try simp (config := { decide := true }) only [go_sem, Nat.reduceAdd, Nat.reduceMul, Nat.reduceSub, Nat.reduceLeDiff, Int.reduceToNat, reduceCtorEq, reduceIte, hz, hp, h2, exists_eq_left', exists_and_left, and_assoc])
            | ((with_reducible refine call_head (f := 72) ?_); refine call_mono (ref02_Get s _ _ hs (by omega) (by omega) (by omega) (by omega)) ?_; simp (config := { decide := true }) only [go_sem, Nat.reduceAdd, Nat.reduceMul, Nat.reduceSub, Nat.reduceLeDiff, Int.reduceToNat, reduceCtorEq, reduceIte, hz, hp, h2])
            | (refine call_mono (ref14_PutEdge (getP s 0 4).1 (getP s 4 8).1 (getP s 12 4).1 _ (by omega) (by omega) (by omega)) ?_; simp (config := { decide := true }) only [go_sem, Nat.reduceAdd, Nat.reduceMul, Nat.reduceSub, Nat.reduceLeDiff, Int.reduceToNat, reduceCtorEq, reduceIte, hp])
            | ((first | refine ends_same hok rfl ⟨?_, rfl⟩ | refine ends_here ⟨?_, rfl⟩); first | (with_reducible rfl) | (simp [hg, *]; done) | (simp_all [hg]; done) | (simp_all [hg]; split <;> first | (exfalso; omega) | (simp_all; done)))))
      · rw [hc, if_neg (by decide)] at hp
        have hg : getEdge s = (0, 0, 0, false, false) := by rw [hg, hc]; simp
        (repeat' (first
            | ((with_reducible refine wp_head ?_); first
                | with_reducible refine awp_seq ?_
                | with_reducible refine awp_block ?_
                | with_reducible refine awp_regionL ?_
                | with_reducible refine awp_skip ?_
                | with_reducible refine awp_exit ?_
                | with_reducible refine awp_ret ?_
                | with_reducible refine awp_goto ?_
                | (refine awp_test (by rfl) ?_; first | with_reducible refine cc_t ?_ | with_reducible refine cc_f ?_)
                | ((refine awp_cond_case (by rfl) (by simp only [go_sem]; rfl) (by simp only [go_sem]; rfl) (fun hcase => ?_) (fun hcase => ?_)) <;> (try simp only [decide_eq_true_eq, decide_eq_false_iff_not, Bool.not_eq_true', Bool.not_eq_false', beq_iff_eq, ne_eq] at hcase) <;> first | (exfalso; omega) | contradiction | skip))
            | ((with_reducible refine st_head ?_); first
                | with_reducible refine st_nil ?_
                | (refine st_none rfl fun K QK hK hQK => ?_; simp (config := { decide := true }) only [go_sem, Nat.reduceAdd, Nat.reduceMul, Nat.reduceSub, Nat.reduceLeDiff, Int.reduceToNat, reduceCtorEq, reduceIte, hz, hp, h2])
                | (refine st_test rfl (by rfl) (by rfl) (by simp only [go_sem]; rfl) ?_; first | (with_reducible refine gc_ft ?_) | (with_reducible refine gc_tf ?_) | ((with_reducible refine gc_tt fun K QK hK hQK => ?_); simp (config := { decide := true }) only [go_sem, Nat.reduceAdd, Nat.reduceMul, Nat.reduceSub, Nat.reduceLeDiff, Int.reduceToNat, reduceCtorEq, reduceIte, hz, hp, h2]) | ((with_reducible refine gc_ff fun K QK hK hQK => ?_); simp (config := { decide := true }) only [go_sem, Nat.reduceAdd, Nat.reduceMul, Nat.reduceSub, Nat.reduceLeDiff, Int.reduceToNat, reduceCtorEq, reduceIte, hz, hp, h2]))
                | ((refine st_case rfl (by rfl) (by rfl) (by simp only [go_sem]; rfl) (by simp only [go_sem]; rfl) (fun hcase => ?_) (fun hcase => ?_)) <;> (try simp only [decide_eq_true_eq, decide_eq_false_iff_not, Bool.not_eq_true', Bool.not_eq_false', beq_iff_eq, ne_eq] at hcase) <;> first | (exfalso; omega) | contradiction | skip)
                | (refine st_nil ?_))
            | ((with_reducible refine sq_head ?_); first
                | with_reducible refine sq_nil ?_
                | (refine sq_none rfl fun K hK => ?_; simp (config := { decide := true }) only [go_sem, Nat.reduceAdd, Nat.reduceMul, Nat.reduceSub, Nat.reduceLeDiff, Int.reduceToNat, reduceCtorEq, reduceIte, hz, hp, h2, exists_eq_left', exists_and_left, and_assoc])
                | (refine sq_test rfl (by rfl) (by rfl) (by simp only [go_sem]; rfl) ?_; first | (with_reducible refine gc_ft ?_) | (with_reducible refine gc_tf ?_) | ((with_reducible refine gc_tt fun K hK => ?_); simp (config := { decide := true }) only [go_sem, Nat.reduceAdd, Nat.reduceMul, Nat.reduceSub, Nat.reduceLeDiff, Int.reduceToNat, reduceCtorEq, reduceIte, hz, hp, h2, exists_eq_left', exists_and_left, and_assoc]) | ((with_reducible refine gc_ff fun K hK => ?_); simp (config := { decide := true }) only [go_sem, Nat.reduceAdd, Nat.reduceMul, Nat.reduceSub, Nat.reduceLeDiff, Int.reduceToNat, reduceCtorEq, reduceIte, hz, hp, h2, exists_eq_left', exists_and_left, and_assoc]))
                | ((refine sq_case rfl (by rfl) (by rfl) (by simp only [go_sem]; rfl) (by simp only [go_sem]; rfl) (fun hcase => ?_) (fun hcase => ?_)) <;> (try simp only [decide_eq_true_eq, decide_eq_false_iff_not, Bool.not_eq_true', Bool.not_eq_false', beq_iff_eq, ne_eq] at hcase) <;> first | (exfalso; omega) | contradiction | skip)
                | (refine sq_nil ?_))
            | with_reducible refine th_normal ?_
            | with_reducible refine th_ret ?_
            | with_reducible refine th_exit ?_
            | with_reducible refine bl_normal ?_
            | with_reducible refine bl_ret ?_
            | with_reducible refine bl_exit ?_
            | with_reducible refine bl_exit_ne (by decide) ?_
            | with_reducible refine th_goto ?_
            | with_reducible refine bl_goto ?_
            | (with_reducible refine hK _ _ ?_; clear hK hQK K QK)
            | (with_reducible refine hK _ ?_; clear hK K)
            | ((with_reducible refine body_ret tr47 ?_); simp (config := { decide := true }) only [go_sem, Nat.reduceAdd, Nat.reduceMul, Nat.reduceSub, Nat.reduceLeDiff, Int.reduceToNat, reduceCtorEq, reduceIte, hz, hp, h2])
            | ((with_reducible refine body_normal tr47 ?_); simp (config := { decide := true }) only [go_sem, Nat.reduceAdd, Nat.reduceMul, Nat.reduceSub, Nat.reduceLeDiff, Int.reduceToNat, reduceCtorEq, reduceIte, hz, hp, h2])
            | (refine And.intro (by first | omega | (simp only [ByteArray.size_append]; omega)) ?_)
            | ((with_reducible refine ex_head (f := 72) ?_); refine call_ex (ref02_Get s _ _ hs (by omega) (by omega) (by omega) (by omega)) ?_; try simp (config := { decide := true }) only [go_sem, Nat.reduceAdd, Nat.reduceMul, Nat.reduceSub, Nat.reduceLeDiff, Int.reduceToNat, reduceCtorEq, reduceIte, hz, hp, h2, exists_eq_left', exists_and_left, and_assoc])
            | ((with_reducible refine call_head (f := 72) ?_); refine call_mono (ref02_Get s _ _ hs (by omega) (by omega) (by omega) (by omega)) ?_; simp (config := { decide := true }) only [go_sem, Nat.reduceAdd, Nat.reduceMul, Nat.reduceSub, Nat.reduceLeDiff, Int.reduceToNat, reduceCtorEq, reduceIte, hz, hp, h2])
            | (refine call_mono (ref14_PutEdge (getP s 0 4).1 (getP s 4 8).1 (getP s 12 4).1 _ (by omega) (by omega) (by omega)) ?_; simp (config := { decide := true }) only [go_sem, Nat.reduceAdd, Nat.reduceMul, Nat.reduceSub, Nat.reduceLeDiff, Int.reduceToNat, reduceCtorEq, reduceIte, hp])
            | ((first | refine ends_same hok rfl ⟨?_, rfl⟩ | refine ends_here ⟨?_, rfl⟩); first | (with_reducible rfl) | (simp [hg, *]; done) | (simp_all [hg]; done) | (simp_all [hg]; split <;> first | (exfalso; omega) | (simp_all; done)))))
    · (repeat' (first
        | ((with_reducible refine wp_head ?_); first
            | with_reducible refine awp_seq ?_
            | with_reducible refine awp_block ?_
            | with_reducible refine awp_regionL ?_
            | with_reducible refine awp_skip ?_
            | with_reducible refine awp_exit ?_
            | with_reducible refine awp_ret ?_
            | with_reducible refine awp_goto ?_
            | (refine awp_test (by rfl) ?_; first | with_reducible refine cc_t ?_ | with_reducible refine cc_f ?_)
            | ((refine awp_cond_case (by rfl) (by simp only [go_sem]; rfl) (by simp only [go_sem]; rfl) (fun hcase => ?_) (fun hcase => ?_)) <;> (try simp only [decide_eq_true_eq, decide_eq_false_iff_not, Bool.not_eq_true', Bool.not_eq_false', beq_iff_eq, ne_eq] at hcase) <;> first | (exfalso; omega) | contradiction | skip))
        | ((with_reducible refine st_head ?_); first
            | with_reducible refine st_nil ?_
            | (refine st_none rfl fun K QK hK hQK => ?_; simp (config := { decide := true }) only [go_sem, Nat.reduceAdd, Nat.reduceMul, Nat.reduceSub, Nat.reduceLeDiff, Int.reduceToNat, reduceCtorEq, reduceIte, hz, h2])
            | (refine st_test rfl (by rfl) (by rfl) (by simp only [go_sem]; rfl) ?_; first | (with_reducible refine gc_ft ?_) | (with_reducible refine gc_tf ?_) | ((with_reducible refine gc_tt fun K QK hK hQK => ?_); simp (config := { decide := true }) only [go_sem, Nat.reduceAdd, Nat.reduceMul, Nat.reduceSub, Nat.reduceLeDiff, Int.reduceToNat, reduceCtorEq, reduceIte, hz, h2]) | ((with_reducible refine gc_ff fun K QK hK hQK => ?_); simp (config := { decide := true }) only [go_sem, Nat.reduceAdd, Nat.reduceMul, Nat.reduceSub, Nat.reduceLeDiff, Int.reduceToNat, reduceCtorEq, reduceIte, hz, h2]))
            | ((refine st_case rfl (by rfl) (by rfl) (by simp only [go_sem]; rfl) (by simp only [go_sem]; rfl) (fun hcase => ?_) (fun hcase => ?_)) <;> (try simp only [decide_eq_true_eq, decide_eq_false_iff_not, Bool.not_eq_true', Bool.not_eq_false', beq_iff_eq, ne_eq] at hcase) <;> first | (exfalso; omega) | contradiction | skip)
            | (refine st_nil ?_))
        | ((with_reducible refine sq_head ?_); first
            | with_reducible refine sq_nil ?_
            | (refine sq_none rfl fun K hK => ?_; simp (config := { decide := true }) only [go_sem, Nat.reduceAdd, Nat.reduceMul, Nat.reduceSub, Nat.reduceLeDiff, Int.reduceToNat, reduceCtorEq, reduceIte, hz, h2, exists_eq_left', exists_and_left, and_assoc])
            | (refine sq_test rfl (by rfl) (by rfl) (by simp only [go_sem]; rfl) ?_; first | (with_reducible refine gc_ft ?_) | (with_reducible refine gc_tf ?_) | ((with_reducible refine gc_tt fun K hK => ?_); simp (config := { decide := true }) only [go_sem, Nat.reduceAdd, Nat.reduceMul, Nat.reduceSub, Nat.reduceLeDiff, Int.reduceToNat, reduceCtorEq, reduceIte, hz, h2, exists_eq_left', exists_and_left, and_assoc]) | ((with_reducible refine gc_ff fun K hK => ?_); simp (config := { decide := true }) only [go_sem, Nat.reduceAdd, Nat.reduceMul, Nat.reduceSub, Nat.reduceLeDiff, Int.reduceToNat, reduceCtorEq, reduceIte, hz, h2, exists_eq_left', exists_and_left, and_assoc]))
            | ((refine sq_case rfl (by rfl) (by rfl) (by simp only [go_sem]; rfl) (by simp only [go_sem]; rfl) (fun hcase => ?_) (fun hcase => ?_)) <;> (try simp only [decide_eq_true_eq, decide_eq_false_iff_not, Bool.not_eq_true', Bool.not_eq_false', beq_iff_eq, ne_eq] at hcase) <;> first | (exfalso; omega) | contradiction | skip)
            | (refine sq_nil ?_))
        | with_reducible refine th_normal ?_
        | with_reducible refine th_ret ?_
        | with_reducible refine th_exit ?_
        | with_reducible refine bl_normal ?_
        | with_reducible refine bl_ret ?_
        | with_reducible refine bl_exit ?_
        | with_reducible refine bl_exit_ne (by decide) ?_
        | with_reducible refine th_goto ?_
        | with_reducible refine bl_goto ?_
        | (with_reducible refine hK _ _ ?_; clear hK hQK K QK)
        | (with_reducible refine hK _ ?_; clear hK K)
        | ((with_reducible refine body_ret tr47 ?_); simp (config := { decide := true }) only [go_sem, Nat.reduceAdd, Nat.reduceMul, Nat.reduceSub, Nat.reduceLeDiff, Int.reduceToNat, reduceCtorEq, reduceIte, hz, h2])
        | ((with_reducible refine body_normal tr47 ?_); simp (config := { decide := true }) only [go_sem, Nat.reduceAdd, Nat.reduceMul, Nat.reduceSub, Nat.reduceLeDiff, Int.reduceToNat, reduceCtorEq, reduceIte, hz, h2])
        | (refine And.intro (by first | omega | (simp only [ByteArray.size_append]; omega)) ?_)
        | ((with_reducible refine ex_head (f := 72) ?_); refine call_ex (ref02_Get s _ _ hs (by omega) (by omega) (by omega) (by omega)) ?_; try simp (config := { decide := true }) only [go_sem, Nat.reduceAdd, Nat.reduceMul, Nat.reduceSub, Nat.reduceLeDiff, Int.reduceToNat, reduceCtorEq, reduceIte, hz, h2, exists_eq_left', exists_and_left, and_assoc])
        | ((with_reducible refine call_head (f := 72) ?_); refine call_mono (ref02_Get s _ _ hs (by omega) (by omega) (by omega) (by omega)) ?_; simp (config := { decide := true }) only [go_sem, Nat.reduceAdd, Nat.reduceMul, Nat.reduceSub, Nat.reduceLeDiff, Int.reduceToNat, reduceCtorEq, reduceIte, hz, h2])
        | (refine call_mono (ref14_PutEdge (getP s 0 4).1 (getP s 4 8).1 (getP s 12 4).1 _ (by omega) (by omega) (by omega)) ?_; simp (config := { decide := true }) only [go_sem, Nat.reduceAdd, Nat.reduceMul, Nat.reduceSub, Nat.reduceLeDiff, Int.reduceToNat, reduceCtorEq, reduceIte])
        | ((first | refine ends_same hok rfl ⟨?_, rfl⟩ | refine ends_here ⟨?_, rfl⟩); first | (with_reducible rfl) | (simp [hg, *]; done) | (simp_all [hg]; done) | (simp_all [hg]; split <;> first | (exfalso; omega) | (simp_all; done)))))
  · have hz : ¬ ((s.size : Nat) : Int) = 17 := by omega
    have hg := getEdge_no h8
    (repeat' (first
        | ((with_reducible refine wp_head ?_); first
            | with_reducible refine awp_seq ?_
            | with_reducible refine awp_block ?_
            | with_reducible refine awp_regionL ?_
            | with_reducible refine awp_skip ?_
            | with_reducible refine awp_exit ?_
            | with_reducible refine awp_ret ?_
            | with_reducible refine awp_goto ?_
            | (refine awp_test (by rfl) ?_; first | with_reducible refine cc_t ?_ | with_reducible refine cc_f ?_)
            | ((refine awp_cond_case (by rfl) (by simp only [go_sem]; rfl) (by simp only [go_sem]; rfl) (fun hcase => ?_) (fun hcase => ?_)) <;> (try simp only [decide_eq_true_eq, decide_eq_false_iff_not, Bool.not_eq_true', Bool.not_eq_false', beq_iff_eq, ne_eq] at hcase) <;> first | (exfalso; omega) | contradiction | skip))
        | ((with_reducible refine st_head ?_); first
            | with_reducible refine st_nil ?_
            | (refine st_none rfl fun K QK hK hQK => ?_; simp (config := { decide := true }) only [go_sem, Nat.reduceAdd, Nat.reduceMul, Nat.reduceSub, Nat.reduceLeDiff, Int.reduceToNat, reduceCtorEq, reduceIte, hz])
            | (refine st_test rfl (by rfl) (by rfl) (by simp only [go_sem]; rfl) ?_; first | (with_reducible refine gc_ft ?_) | (with_reducible refine gc_tf ?_) | ((with_reducible refine gc_tt fun K QK hK hQK => ?_); simp (config := { decide := true }) only [go_sem, Nat.reduceAdd, Nat.reduceMul, Nat.reduceSub, Nat.reduceLeDiff, Int.reduceToNat, reduceCtorEq, reduceIte, hz]) | ((with_reducible refine gc_ff fun K QK hK hQK => ?_); simp (config := { decide := true }) only [go_sem, Nat.reduceAdd, Nat.reduceMul, Nat.reduceSub, Nat.reduceLeDiff, Int.reduceToNat, reduceCtorEq, reduceIte, hz]))
            | ((refine st_case rfl (by rfl) (by rfl) (by simp only [go_sem]; rfl) (by simp only [go_sem]; rfl) (fun hcase => ?_) (fun hcase => ?_)) <;> (try simp only [decide_eq_true_eq, decide_eq_false_iff_not, Bool.not_eq_true', Bool.not_eq_false', beq_iff_eq, ne_eq] at hcase) <;> first | (exfalso; omega) | contradiction | skip)
            | (refine st_nil ?_))
        | ((with_reducible refine sq_head ?_); first
            | with_reducible refine sq_nil ?_
            | (refine sq_none rfl fun K hK => ?_; simp (config := { decide := true }) only [go_sem, Nat.reduceAdd, Nat.reduceMul, Nat.reduceSub, Nat.reduceLeDiff, Int.reduceToNat, reduceCtorEq, reduceIte, hz, exists_eq_left', exists_and_left, and_assoc])
            | (refine sq_test rfl (by rfl) (by rfl) (by simp only [go_sem]; rfl) ?_; first | (with_reducible refine gc_ft ?_) | (with_reducible refine gc_tf ?_) | ((with_reducible refine gc_tt fun K hK => ?_); simp (config := { decide := true }) only [go_sem, Nat.reduceAdd, Nat.reduceMul, Nat.reduceSub, Nat.reduceLeDiff, Int.reduceToNat, reduceCtorEq, reduceIte, hz, exists_eq_left', exists_and_left, and_assoc]) | ((with_reducible refine gc_ff fun K hK => ?_); simp (config := { decide := true }) only [go_sem, Nat.reduceAdd, Nat.reduceMul, Nat.reduceSub, Nat.reduceLeDiff, Int.reduceToNat, reduceCtorEq, reduceIte, hz, exists_eq_left', exists_and_left, and_assoc]))
            | ((refine sq_case rfl (by rfl) (by rfl) (by simp only [go_sem]; rfl) (by simp only [go_sem]; rfl) (fun hcase => ?_) (fun hcase => ?_)) <;> (try simp only [decide_eq_true_eq, decide_eq_false_iff_not, Bool.not_eq_true', Bool.not_eq_false', beq_iff_eq, ne_eq] at hcase) <;> first | (exfalso; omega) | contradiction | skip)
            | (refine sq_nil ?_))
        | with_reducible refine th_normal ?_
        | with_reducible refine th_ret ?_
        | with_reducible refine th_exit ?_
        | with_reducible refine bl_normal ?_
        | with_reducible refine bl_ret ?_
        | with_reducible refine bl_exit ?_
        | with_reducible refine bl_exit_ne (by decide) ?_
        | with_reducible refine th_goto ?_
        | with_reducible refine bl_goto ?_
        | (with_reducible refine hK _ _ ?_; clear hK hQK K QK)
        | (with_reducible refine hK _ ?_; clear hK K)
        | ((with_reducible refine body_ret tr47 ?_); simp (config := { decide := true }) only [go_sem, Nat.reduceAdd, Nat.reduceMul, Nat.reduceSub, Nat.reduceLeDiff, Int.reduceToNat, reduceCtorEq, reduceIte, hz])
        | ((with_reducible refine body_normal tr47 ?_); simp (config := { decide := true }) only [go_sem, Nat.reduceAdd, Nat.reduceMul, Nat.reduceSub, Nat.reduceLeDiff, Int.reduceToNat, reduceCtorEq, reduceIte, hz])
        | (refine And.intro (by first | omega | (simp only [ByteArray.size_append]; omega)) ?_)
        | ((with_reducible refine ex_head (f := 72) ?_); refine call_ex (ref02_Get s _ _ hs (by omega) (by omega) (by omega) (by omega)) ?_; try simp (config := { decide := true }) only [go_sem, Nat.reduceAdd, Nat.reduceMul, Nat.reduceSub, Nat.reduceLeDiff, Int.reduceToNat, reduceCtorEq, reduceIte, hz, exists_eq_left', exists_and_left, and_assoc])
        | ((with_reducible refine call_head (f := 72) ?_); refine call_mono (ref02_Get s _ _ hs (by omega) (by omega) (by omega) (by omega)) ?_; simp (config := { decide := true }) only [go_sem, Nat.reduceAdd, Nat.reduceMul, Nat.reduceSub, Nat.reduceLeDiff, Int.reduceToNat, reduceCtorEq, reduceIte, hz])
        | ((first | refine ends_same hok rfl ⟨?_, rfl⟩ | refine ends_here ⟨?_, rfl⟩); first | (with_reducible rfl) | (simp [hg, *]; done) | (simp_all [hg]; done) | (simp_all [hg]; split <;> first | (exfalso; omega) | (simp_all; done)))))
end Go.Proofs.Ytpjocohpogihcaa.AL
