/- Numbers as bytes: the document's own words, and coordinates. -/
import Derived.Test.YtpjocohpogihcaaOctet
namespace Go.Proofs.Ytpjocohpogihcaa.AL
set_option linter.unusedVariables false
set_option linter.unusedSimpArgs false
set_option maxRecDepth 10000
set_option maxHeartbeats 2000000
open Go

theorem be_len (n k : Nat) : (be n k).length = k := by simp [be]

theorem be_cons (m t : Nat) : be m (t + 1) = UInt8.ofNat (m / 256 ^ t) :: be m t := by
  unfold be
  rw [List.range_succ_eq_map]
  simp only [List.map_cons, List.map_map, Nat.add_sub_cancel, Nat.sub_zero, List.cons.injEq, true_and]
  apply List.map_congr_left
  intro j hj
  simp only [List.mem_range] at hj
  simp only [Function.comp]
  congr 3
  omega

def baL (l : List UInt8) : ByteArray := ⟨l.toArray⟩
theorem baL_append (a b : List UInt8) : baL a ++ baL b = baL (a ++ b) := by
  apply ba_ext
  simp [baL, ByteArray.toList_eq]

-- chainman/chainmanref02.Put: function 86
theorem ref02_Put (n k : Int) (hn63 : n < 9223372036854775808) : Pure1 Try.prog 86 [.lit (.int .i64 n), .lit (.int .i64 k)] (.tup [.lit (.string (putS n k)), .lit (.bool (putB n k))]) := by
  intro h
  refine acalls_of Try.func86 (by rfl) fun hok => ?_
  simp only [List.length_cons, List.length_nil, Nat.reduceAdd, show Try.f86.ntmps = 35 from rfl, Nat.reduceSub, List.replicate, List.cons_append, List.nil_append]
  by_cases h0 : k < 1
  · (repeat' (first
      | ((with_reducible refine wp_head ?_); first
          | with_reducible refine awp_seq ?_
          | with_reducible refine awp_block ?_
          | with_reducible refine awp_regionL ?_
          | with_reducible refine awp_skip ?_
          | with_reducible refine awp_exit ?_
          | with_reducible refine awp_ret ?_
          | with_reducible refine awp_goto ?_
          | (refine awp_test (by rfl) ?_; first | with_reducible refine cc_t ?_ | with_reducible refine cc_f ?_)
          | ((refine awp_cond_case (by rfl) (by simp only [go_sem]; rfl) (by simp only [go_sem]; rfl) (fun hcase => ?_) (fun hcase => ?_)) <;> (try simp only [decide_eq_true_eq, decide_eq_false_iff_not, Bool.not_eq_true', Bool.not_eq_false', beq_iff_eq, ne_eq] at hcase) <;> first | (exfalso; omega) | contradiction | skip))
      | ((with_reducible refine st_head ?_); first
          | with_reducible refine st_nil ?_
          | (refine st_none rfl fun K QK hK hQK => ?_; simp (config := { decide := true }) only [go_sem, Nat.reduceAdd, Nat.reduceMul, Nat.reduceSub, Nat.reduceLeDiff, Int.reduceToNat, reduceCtorEq, reduceIte, h0])
          | (refine st_test rfl (by rfl) (by rfl) (by simp only [go_sem]; rfl) ?_; first | (with_reducible refine gc_ft ?_) | (with_reducible refine gc_tf ?_) | ((with_reducible refine gc_tt fun K QK hK hQK => ?_); simp (config := { decide := true }) only [go_sem, Nat.reduceAdd, Nat.reduceMul, Nat.reduceSub, Nat.reduceLeDiff, Int.reduceToNat, reduceCtorEq, reduceIte, h0]) | ((with_reducible refine gc_ff fun K QK hK hQK => ?_); simp (config := { decide := true }) only [go_sem, Nat.reduceAdd, Nat.reduceMul, Nat.reduceSub, Nat.reduceLeDiff, Int.reduceToNat, reduceCtorEq, reduceIte, h0]))
          | ((refine st_case rfl (by rfl) (by rfl) (by simp only [go_sem]; rfl) (by simp only [go_sem]; rfl) (fun hcase => ?_) (fun hcase => ?_)) <;> (try simp only [decide_eq_true_eq, decide_eq_false_iff_not, Bool.not_eq_true', Bool.not_eq_false', beq_iff_eq, ne_eq] at hcase) <;> first | (exfalso; omega) | contradiction | skip)
          | (refine st_nil ?_))
      | ((with_reducible refine sq_head ?_); first
          | with_reducible refine sq_nil ?_
          | (refine sq_none rfl fun K hK => ?_; simp (config := { decide := true }) only [go_sem, Nat.reduceAdd, Nat.reduceMul, Nat.reduceSub, Nat.reduceLeDiff, Int.reduceToNat, reduceCtorEq, reduceIte, h0, exists_eq_left', exists_and_left, and_assoc])
          | (refine sq_test rfl (by rfl) (by rfl) (by simp only [go_sem]; rfl) ?_; first | (with_reducible refine gc_ft ?_) | (with_reducible refine gc_tf ?_) | ((with_reducible refine gc_tt fun K hK => ?_); simp (config := { decide := true }) only [go_sem, Nat.reduceAdd, Nat.reduceMul, Nat.reduceSub, Nat.reduceLeDiff, Int.reduceToNat, reduceCtorEq, reduceIte, h0, exists_eq_left', exists_and_left, and_assoc]) | ((with_reducible refine gc_ff fun K hK => ?_); simp (config := { decide := true }) only [go_sem, Nat.reduceAdd, Nat.reduceMul, Nat.reduceSub, Nat.reduceLeDiff, Int.reduceToNat, reduceCtorEq, reduceIte, h0, exists_eq_left', exists_and_left, and_assoc]))
          | ((refine sq_case rfl (by rfl) (by rfl) (by simp only [go_sem]; rfl) (by simp only [go_sem]; rfl) (fun hcase => ?_) (fun hcase => ?_)) <;> (try simp only [decide_eq_true_eq, decide_eq_false_iff_not, Bool.not_eq_true', Bool.not_eq_false', beq_iff_eq, ne_eq] at hcase) <;> first | (exfalso; omega) | contradiction | skip)
          | (refine sq_nil ?_))
      | with_reducible refine th_normal ?_
      | with_reducible refine th_ret ?_
      | with_reducible refine th_exit ?_
      | with_reducible refine bl_normal ?_
      | with_reducible refine bl_ret ?_
      | with_reducible refine bl_exit ?_
      | with_reducible refine bl_exit_ne (by decide) ?_
      | with_reducible refine th_goto ?_
      | with_reducible refine bl_goto ?_
      | (with_reducible refine hK _ _ ?_; clear hK hQK K QK)
      | (with_reducible refine hK _ ?_; clear hK K)
      | ((with_reducible refine body_ret tr86 ?_); simp (config := { decide := true }) only [go_sem, Nat.reduceAdd, Nat.reduceMul, Nat.reduceSub, Nat.reduceLeDiff, Int.reduceToNat, reduceCtorEq, reduceIte, h0])
      | ((with_reducible refine body_normal tr86 ?_); simp (config := { decide := true }) only [go_sem, Nat.reduceAdd, Nat.reduceMul, Nat.reduceSub, Nat.reduceLeDiff, Int.reduceToNat, reduceCtorEq, reduceIte, h0])
      | (refine And.intro (by first | omega | (simp only [ByteArray.size_append]; omega)) ?_)
      | exact ends_here ⟨by simp [putS, putB, show ¬ 1 ≤ k from by omega], rfl⟩))
  by_cases h1 : k > 8
  · (repeat' (first
      | ((with_reducible refine wp_head ?_); first
          | with_reducible refine awp_seq ?_
          | with_reducible refine awp_block ?_
          | with_reducible refine awp_regionL ?_
          | with_reducible refine awp_skip ?_
          | with_reducible refine awp_exit ?_
          | with_reducible refine awp_ret ?_
          | with_reducible refine awp_goto ?_
          | (refine awp_test (by rfl) ?_; first | with_reducible refine cc_t ?_ | with_reducible refine cc_f ?_)
          | ((refine awp_cond_case (by rfl) (by simp only [go_sem]; rfl) (by simp only [go_sem]; rfl) (fun hcase => ?_) (fun hcase => ?_)) <;> (try simp only [decide_eq_true_eq, decide_eq_false_iff_not, Bool.not_eq_true', Bool.not_eq_false', beq_iff_eq, ne_eq] at hcase) <;> first | (exfalso; omega) | contradiction | skip))
      | ((with_reducible refine st_head ?_); first
          | with_reducible refine st_nil ?_
          | (refine st_none rfl fun K QK hK hQK => ?_; simp (config := { decide := true }) only [go_sem, Nat.reduceAdd, Nat.reduceMul, Nat.reduceSub, Nat.reduceLeDiff, Int.reduceToNat, reduceCtorEq, reduceIte, h0, h1])
          | (refine st_test rfl (by rfl) (by rfl) (by simp only [go_sem]; rfl) ?_; first | (with_reducible refine gc_ft ?_) | (with_reducible refine gc_tf ?_) | ((with_reducible refine gc_tt fun K QK hK hQK => ?_); simp (config := { decide := true }) only [go_sem, Nat.reduceAdd, Nat.reduceMul, Nat.reduceSub, Nat.reduceLeDiff, Int.reduceToNat, reduceCtorEq, reduceIte, h0, h1]) | ((with_reducible refine gc_ff fun K QK hK hQK => ?_); simp (config := { decide := true }) only [go_sem, Nat.reduceAdd, Nat.reduceMul, Nat.reduceSub, Nat.reduceLeDiff, Int.reduceToNat, reduceCtorEq, reduceIte, h0, h1]))
          | ((refine st_case rfl (by rfl) (by rfl) (by simp only [go_sem]; rfl) (by simp only [go_sem]; rfl) (fun hcase => ?_) (fun hcase => ?_)) <;> (try simp only [decide_eq_true_eq, decide_eq_false_iff_not, Bool.not_eq_true', Bool.not_eq_false', beq_iff_eq, ne_eq] at hcase) <;> first | (exfalso; omega) | contradiction | skip)
          | (refine st_nil ?_))
      | ((with_reducible refine sq_head ?_); first
          | with_reducible refine sq_nil ?_
          | (refine sq_none rfl fun K hK => ?_; simp (config := { decide := true }) only [go_sem, Nat.reduceAdd, Nat.reduceMul, Nat.reduceSub, Nat.reduceLeDiff, Int.reduceToNat, reduceCtorEq, reduceIte, h0, h1, exists_eq_left', exists_and_left, and_assoc])
          | (refine sq_test rfl (by rfl) (by rfl) (by simp only [go_sem]; rfl) ?_; first | (with_reducible refine gc_ft ?_) | (with_reducible refine gc_tf ?_) | ((with_reducible refine gc_tt fun K hK => ?_); simp (config := { decide := true }) only [go_sem, Nat.reduceAdd, Nat.reduceMul, Nat.reduceSub, Nat.reduceLeDiff, Int.reduceToNat, reduceCtorEq, reduceIte, h0, h1, exists_eq_left', exists_and_left, and_assoc]) | ((with_reducible refine gc_ff fun K hK => ?_); simp (config := { decide := true }) only [go_sem, Nat.reduceAdd, Nat.reduceMul, Nat.reduceSub, Nat.reduceLeDiff, Int.reduceToNat, reduceCtorEq, reduceIte, h0, h1, exists_eq_left', exists_and_left, and_assoc]))
          | ((refine sq_case rfl (by rfl) (by rfl) (by simp only [go_sem]; rfl) (by simp only [go_sem]; rfl) (fun hcase => ?_) (fun hcase => ?_)) <;> (try simp only [decide_eq_true_eq, decide_eq_false_iff_not, Bool.not_eq_true', Bool.not_eq_false', beq_iff_eq, ne_eq] at hcase) <;> first | (exfalso; omega) | contradiction | skip)
          | (refine sq_nil ?_))
      | with_reducible refine th_normal ?_
      | with_reducible refine th_ret ?_
      | with_reducible refine th_exit ?_
      | with_reducible refine bl_normal ?_
      | with_reducible refine bl_ret ?_
      | with_reducible refine bl_exit ?_
      | with_reducible refine bl_exit_ne (by decide) ?_
      | with_reducible refine th_goto ?_
      | with_reducible refine bl_goto ?_
      | (with_reducible refine hK _ _ ?_; clear hK hQK K QK)
      | (with_reducible refine hK _ ?_; clear hK K)
      | ((with_reducible refine body_ret tr86 ?_); simp (config := { decide := true }) only [go_sem, Nat.reduceAdd, Nat.reduceMul, Nat.reduceSub, Nat.reduceLeDiff, Int.reduceToNat, reduceCtorEq, reduceIte, h0, h1])
      | ((with_reducible refine body_normal tr86 ?_); simp (config := { decide := true }) only [go_sem, Nat.reduceAdd, Nat.reduceMul, Nat.reduceSub, Nat.reduceLeDiff, Int.reduceToNat, reduceCtorEq, reduceIte, h0, h1])
      | (refine And.intro (by first | omega | (simp only [ByteArray.size_append]; omega)) ?_)
      | exact ends_here ⟨by simp [putS, putB, show ¬ k ≤ 8 from by omega], rfl⟩))
  by_cases h2 : n < 0
  · (repeat' (first
      | ((with_reducible refine wp_head ?_); first
          | with_reducible refine awp_seq ?_
          | with_reducible refine awp_block ?_
          | with_reducible refine awp_regionL ?_
          | with_reducible refine awp_skip ?_
          | with_reducible refine awp_exit ?_
          | with_reducible refine awp_ret ?_
          | with_reducible refine awp_goto ?_
          | (refine awp_test (by rfl) ?_; first | with_reducible refine cc_t ?_ | with_reducible refine cc_f ?_)
          | ((refine awp_cond_case (by rfl) (by simp only [go_sem]; rfl) (by simp only [go_sem]; rfl) (fun hcase => ?_) (fun hcase => ?_)) <;> (try simp only [decide_eq_true_eq, decide_eq_false_iff_not, Bool.not_eq_true', Bool.not_eq_false', beq_iff_eq, ne_eq] at hcase) <;> first | (exfalso; omega) | contradiction | skip))
      | ((with_reducible refine st_head ?_); first
          | with_reducible refine st_nil ?_
          | (refine st_none rfl fun K QK hK hQK => ?_; simp (config := { decide := true }) only [go_sem, Nat.reduceAdd, Nat.reduceMul, Nat.reduceSub, Nat.reduceLeDiff, Int.reduceToNat, reduceCtorEq, reduceIte, h0, h1, h2])
          | (refine st_test rfl (by rfl) (by rfl) (by simp only [go_sem]; rfl) ?_; first | (with_reducible refine gc_ft ?_) | (with_reducible refine gc_tf ?_) | ((with_reducible refine gc_tt fun K QK hK hQK => ?_); simp (config := { decide := true }) only [go_sem, Nat.reduceAdd, Nat.reduceMul, Nat.reduceSub, Nat.reduceLeDiff, Int.reduceToNat, reduceCtorEq, reduceIte, h0, h1, h2]) | ((with_reducible refine gc_ff fun K QK hK hQK => ?_); simp (config := { decide := true }) only [go_sem, Nat.reduceAdd, Nat.reduceMul, Nat.reduceSub, Nat.reduceLeDiff, Int.reduceToNat, reduceCtorEq, reduceIte, h0, h1, h2]))
          | ((refine st_case rfl (by rfl) (by rfl) (by simp only [go_sem]; rfl) (by simp only [go_sem]; rfl) (fun hcase => ?_) (fun hcase => ?_)) <;> (try simp only [decide_eq_true_eq, decide_eq_false_iff_not, Bool.not_eq_true', Bool.not_eq_false', beq_iff_eq, ne_eq] at hcase) <;> first | (exfalso; omega) | contradiction | skip)
          | (refine st_nil ?_))
      | ((with_reducible refine sq_head ?_); first
          | with_reducible refine sq_nil ?_
          | (refine sq_none rfl fun K hK => ?_; simp (config := { decide := true }) only [go_sem, Nat.reduceAdd, Nat.reduceMul, Nat.reduceSub, Nat.reduceLeDiff, Int.reduceToNat, reduceCtorEq, reduceIte, h0, h1, h2, exists_eq_left', exists_and_left, and_assoc])
          | (refine sq_test rfl (by rfl) (by rfl) (by simp only [go_sem]; rfl) ?_; first | (with_reducible refine gc_ft ?_) | (with_reducible refine gc_tf ?_) | ((with_reducible refine gc_tt fun K hK => ?_); simp (config := { decide := true }) only [go_sem, Nat.reduceAdd, Nat.reduceMul, Nat.reduceSub, Nat.reduceLeDiff, Int.reduceToNat, reduceCtorEq, reduceIte, h0, h1, h2, exists_eq_left', exists_and_left, and_assoc]) | ((with_reducible refine gc_ff fun K hK => ?_); simp (config := { decide := true }) only [go_sem, Nat.reduceAdd, Nat.reduceMul, Nat.reduceSub, Nat.reduceLeDiff, Int.reduceToNat, reduceCtorEq, reduceIte, h0, h1, h2, exists_eq_left', exists_and_left, and_assoc]))
          | ((refine sq_case rfl (by rfl) (by rfl) (by simp only [go_sem]; rfl) (by simp only [go_sem]; rfl) (fun hcase => ?_) (fun hcase => ?_)) <;> (try simp only [decide_eq_true_eq, decide_eq_false_iff_not, Bool.not_eq_true', Bool.not_eq_false', beq_iff_eq, ne_eq] at hcase) <;> first | (exfalso; omega) | contradiction | skip)
          | (refine sq_nil ?_))
      | with_reducible refine th_normal ?_
      | with_reducible refine th_ret ?_
      | with_reducible refine th_exit ?_
      | with_reducible refine bl_normal ?_
      | with_reducible refine bl_ret ?_
      | with_reducible refine bl_exit ?_
      | with_reducible refine bl_exit_ne (by decide) ?_
      | with_reducible refine th_goto ?_
      | with_reducible refine bl_goto ?_
      | (with_reducible refine hK _ _ ?_; clear hK hQK K QK)
      | (with_reducible refine hK _ ?_; clear hK K)
      | ((with_reducible refine body_ret tr86 ?_); simp (config := { decide := true }) only [go_sem, Nat.reduceAdd, Nat.reduceMul, Nat.reduceSub, Nat.reduceLeDiff, Int.reduceToNat, reduceCtorEq, reduceIte, h0, h1, h2])
      | ((with_reducible refine body_normal tr86 ?_); simp (config := { decide := true }) only [go_sem, Nat.reduceAdd, Nat.reduceMul, Nat.reduceSub, Nat.reduceLeDiff, Int.reduceToNat, reduceCtorEq, reduceIte, h0, h1, h2])
      | (refine And.intro (by first | omega | (simp only [ByteArray.size_append]; omega)) ?_)
      | exact ends_here ⟨by simp [putS, putB, show ¬ 0 ≤ n from by omega], rfl⟩))
  obtain ⟨m, rfl⟩ : ∃ m : Nat, n = m := ⟨n.toNat, by omega⟩
  obtain ⟨j, rfl⟩ : ∃ j : Nat, k = j := ⟨k.toNat, by omega⟩
  have hj1 : 1 ≤ j := by omega
  have hj8 : j ≤ 8 := by omega
  (repeat' (first
      | ((with_reducible refine wp_head ?_); first
          | with_reducible refine awp_seq ?_
          | with_reducible refine awp_block ?_
          | with_reducible refine awp_regionL ?_
          | with_reducible refine awp_skip ?_
          | with_reducible refine awp_exit ?_
          | with_reducible refine awp_ret ?_
          | with_reducible refine awp_goto ?_
          | (refine awp_test (by rfl) ?_; first | with_reducible refine cc_t ?_ | with_reducible refine cc_f ?_)
          | ((refine awp_cond_case (by rfl) (by simp only [go_sem]; rfl) (by simp only [go_sem]; rfl) (fun hcase => ?_) (fun hcase => ?_)) <;> (try simp only [decide_eq_true_eq, decide_eq_false_iff_not, Bool.not_eq_true', Bool.not_eq_false', beq_iff_eq, ne_eq] at hcase) <;> first | (exfalso; omega) | contradiction | skip))
      | ((with_reducible refine st_head ?_); first
          | with_reducible refine st_nil ?_
          | (refine st_none rfl fun K QK hK hQK => ?_; simp (config := { decide := true }) only [go_sem, Nat.reduceAdd, Nat.reduceMul, Nat.reduceSub, Nat.reduceLeDiff, Int.reduceToNat, reduceCtorEq, reduceIte, h0, h1, h2])
          | (refine st_test rfl (by rfl) (by rfl) (by simp only [go_sem]; rfl) ?_; first | (with_reducible refine gc_ft ?_) | (with_reducible refine gc_tf ?_) | ((with_reducible refine gc_tt fun K QK hK hQK => ?_); simp (config := { decide := true }) only [go_sem, Nat.reduceAdd, Nat.reduceMul, Nat.reduceSub, Nat.reduceLeDiff, Int.reduceToNat, reduceCtorEq, reduceIte, h0, h1, h2]) | ((with_reducible refine gc_ff fun K QK hK hQK => ?_); simp (config := { decide := true }) only [go_sem, Nat.reduceAdd, Nat.reduceMul, Nat.reduceSub, Nat.reduceLeDiff, Int.reduceToNat, reduceCtorEq, reduceIte, h0, h1, h2]))
          | ((refine st_case rfl (by rfl) (by rfl) (by simp only [go_sem]; rfl) (by simp only [go_sem]; rfl) (fun hcase => ?_) (fun hcase => ?_)) <;> (try simp only [decide_eq_true_eq, decide_eq_false_iff_not, Bool.not_eq_true', Bool.not_eq_false', beq_iff_eq, ne_eq] at hcase) <;> first | (exfalso; omega) | contradiction | skip)
          | (refine st_nil ?_))
      | ((with_reducible refine sq_head ?_); first
          | with_reducible refine sq_nil ?_
          | (refine sq_none rfl fun K hK => ?_; simp (config := { decide := true }) only [go_sem, Nat.reduceAdd, Nat.reduceMul, Nat.reduceSub, Nat.reduceLeDiff, Int.reduceToNat, reduceCtorEq, reduceIte, h0, h1, h2, exists_eq_left', exists_and_left, and_assoc])
          | (refine sq_test rfl (by rfl) (by rfl) (by simp only [go_sem]; rfl) ?_; first | (with_reducible refine gc_ft ?_) | (with_reducible refine gc_tf ?_) | ((with_reducible refine gc_tt fun K hK => ?_); simp (config := { decide := true }) only [go_sem, Nat.reduceAdd, Nat.reduceMul, Nat.reduceSub, Nat.reduceLeDiff, Int.reduceToNat, reduceCtorEq, reduceIte, h0, h1, h2, exists_eq_left', exists_and_left, and_assoc]) | ((with_reducible refine gc_ff fun K hK => ?_); simp (config := { decide := true }) only [go_sem, Nat.reduceAdd, Nat.reduceMul, Nat.reduceSub, Nat.reduceLeDiff, Int.reduceToNat, reduceCtorEq, reduceIte, h0, h1, h2, exists_eq_left', exists_and_left, and_assoc]))
          | ((refine sq_case rfl (by rfl) (by rfl) (by simp only [go_sem]; rfl) (by simp only [go_sem]; rfl) (fun hcase => ?_) (fun hcase => ?_)) <;> (try simp only [decide_eq_true_eq, decide_eq_false_iff_not, Bool.not_eq_true', Bool.not_eq_false', beq_iff_eq, ne_eq] at hcase) <;> first | (exfalso; omega) | contradiction | skip)
          | (refine sq_nil ?_))
      | with_reducible refine th_normal ?_
      | with_reducible refine th_ret ?_
      | with_reducible refine th_exit ?_
      | with_reducible refine bl_normal ?_
      | with_reducible refine bl_ret ?_
      | with_reducible refine bl_exit ?_
      | with_reducible refine bl_exit_ne (by decide) ?_
      | with_reducible refine th_goto ?_
      | with_reducible refine bl_goto ?_
      | (with_reducible refine hK _ _ ?_; clear hK hQK K QK)
      | (with_reducible refine hK _ ?_; clear hK K)
      | ((with_reducible refine body_ret tr86 ?_); simp (config := { decide := true }) only [go_sem, Nat.reduceAdd, Nat.reduceMul, Nat.reduceSub, Nat.reduceLeDiff, Int.reduceToNat, reduceCtorEq, reduceIte, h0, h1, h2])
      | ((with_reducible refine body_normal tr86 ?_); simp (config := { decide := true }) only [go_sem, Nat.reduceAdd, Nat.reduceMul, Nat.reduceSub, Nat.reduceLeDiff, Int.reduceToNat, reduceCtorEq, reduceIte, h0, h1, h2])
      | (refine And.intro (by first | omega | (simp only [ByteArray.size_append]; omega)) ?_)))
  refine awp_loop0 (fun a g => g = h ∧ ∃ t : Nat, t ≤ j ∧ a = [.lit (.int .i64 (m / 256 ^ t : Nat)), .lit (.int .i64 j), .any, .any, .lit (.string (baL [])), .lit (.bool false), .lit (.string (baL (be m t))), .lit (.int .i64 t), .any, .any, .any, .any, .any, .any, .any, .any, .any, .any, .any, .any, .any, .any, .any, .any, .any, .any, .any, .any, .any, .any, .any, .any, .any, .any, .any]) (fun a _ => j - (slotI a 7).toNat) ?_ ?_
  · refine ⟨_, ?_, rfl, 0, by omega, rfl⟩
    simp [Weak, be, baL]
  rintro a g ⟨rfl, t, ht, rfl⟩
  by_cases h3 : t < j
  · have h4 : (t : Int) < (j : Int) := by omega
    have h5 : ((m / 256 ^ t : Nat) : Int).tmod 256 = ((m / 256 ^ t % 256 : Nat) : Int) := nat_tmod _ 256
    have h6 : ((m / 256 ^ t : Nat) : Int).tdiv 256 = ((m / 256 ^ (t + 1) : Nat) : Int) := by rw [Nat.pow_succ, ← Nat.div_div_eq_div_mul]; exact nat_tdiv _ 256
    have h7 : m / 256 ^ (t + 1) ≤ m := Nat.div_le_self _ _
    have h8 : IntKind.i64.wrap ((m / 256 ^ (t + 1) : Nat) : Int) = ((m / 256 ^ (t + 1) : Nat) : Int) := wrap_nat (by omega)
    have h9 : IntKind.u8.wrap ((m / 256 ^ t % 256 : Nat) : Int) = ((m / 256 ^ t % 256 : Nat) : Int) := by rw [wrap_u8, Nat.mod_mod]
    have h10 : IntKind.i64.wrap ((t : Int) + 1) = ((t + 1 : Nat) : Int) := by rw [wrap_id (by omega) (by omega)]; omega
    (repeat' (first
        | ((with_reducible refine wp_head ?_); first
            | with_reducible refine awp_seq ?_
            | with_reducible refine awp_block ?_
            | with_reducible refine awp_regionL ?_
            | with_reducible refine awp_skip ?_
            | with_reducible refine awp_exit ?_
            | with_reducible refine awp_ret ?_
            | with_reducible refine awp_goto ?_
            | (refine awp_test (by rfl) ?_; first | with_reducible refine cc_t ?_ | with_reducible refine cc_f ?_)
            | ((refine awp_cond_case (by rfl) (by simp only [go_sem]; rfl) (by simp only [go_sem]; rfl) (fun hcase => ?_) (fun hcase => ?_)) <;> (try simp only [decide_eq_true_eq, decide_eq_false_iff_not, Bool.not_eq_true', Bool.not_eq_false', beq_iff_eq, ne_eq] at hcase) <;> first | (exfalso; omega) | contradiction | skip))
        | ((with_reducible refine st_head ?_); first
            | with_reducible refine st_nil ?_
            | (refine st_none rfl fun K QK hK hQK => ?_; simp (config := { decide := true }) only [go_sem, Nat.reduceAdd, Nat.reduceMul, Nat.reduceSub, Nat.reduceLeDiff, Int.reduceToNat, reduceCtorEq, reduceIte, h4, h5, h6, h8, h9, h10])
            | (refine st_test rfl (by rfl) (by rfl) (by simp only [go_sem]; rfl) ?_; first | (with_reducible refine gc_ft ?_) | (with_reducible refine gc_tf ?_) | ((with_reducible refine gc_tt fun K QK hK hQK => ?_); simp (config := { decide := true }) only [go_sem, Nat.reduceAdd, Nat.reduceMul, Nat.reduceSub, Nat.reduceLeDiff, Int.reduceToNat, reduceCtorEq, reduceIte, h4, h5, h6, h8, h9, h10]) | ((with_reducible refine gc_ff fun K QK hK hQK => ?_); simp (config := { decide := true }) only [go_sem, Nat.reduceAdd, Nat.reduceMul, Nat.reduceSub, Nat.reduceLeDiff, Int.reduceToNat, reduceCtorEq, reduceIte, h4, h5, h6, h8, h9, h10]))
            | ((refine st_case rfl (by rfl) (by rfl) (by simp only [go_sem]; rfl) (by simp only [go_sem]; rfl) (fun hcase => ?_) (fun hcase => ?_)) <;> (try simp only [decide_eq_true_eq, decide_eq_false_iff_not, Bool.not_eq_true', Bool.not_eq_false', beq_iff_eq, ne_eq] at hcase) <;> first | (exfalso; omega) | contradiction | skip)
            | (refine st_nil ?_))
        | ((with_reducible refine sq_head ?_); first
            | with_reducible refine sq_nil ?_
            | (refine sq_none rfl fun K hK => ?_; simp (config := { decide := true }) only [go_sem, Nat.reduceAdd, Nat.reduceMul, Nat.reduceSub, Nat.reduceLeDiff, Int.reduceToNat, reduceCtorEq, reduceIte, h4, h5, h6, h8, h9, h10, exists_eq_left', exists_and_left, and_assoc])
            | (refine sq_test rfl (by rfl) (by rfl) (by simp only [go_sem]; rfl) ?_; first | (with_reducible refine gc_ft ?_) | (with_reducible refine gc_tf ?_) | ((with_reducible refine gc_tt fun K hK => ?_); simp (config := { decide := true }) only [go_sem, Nat.reduceAdd, Nat.reduceMul, Nat.reduceSub, Nat.reduceLeDiff, Int.reduceToNat, reduceCtorEq, reduceIte, h4, h5, h6, h8, h9, h10, exists_eq_left', exists_and_left, and_assoc]) | ((with_reducible refine gc_ff fun K hK => ?_); simp (config := { decide := true }) only [go_sem, Nat.reduceAdd, Nat.reduceMul, Nat.reduceSub, Nat.reduceLeDiff, Int.reduceToNat, reduceCtorEq, reduceIte, h4, h5, h6, h8, h9, h10, exists_eq_left', exists_and_left, and_assoc]))
            | ((refine sq_case rfl (by rfl) (by rfl) (by simp only [go_sem]; rfl) (by simp only [go_sem]; rfl) (fun hcase => ?_) (fun hcase => ?_)) <;> (try simp only [decide_eq_true_eq, decide_eq_false_iff_not, Bool.not_eq_true', Bool.not_eq_false', beq_iff_eq, ne_eq] at hcase) <;> first | (exfalso; omega) | contradiction | skip)
            | (refine sq_nil ?_))
        | with_reducible refine th_normal ?_
        | with_reducible refine th_ret ?_
        | with_reducible refine th_exit ?_
        | with_reducible refine bl_normal ?_
        | with_reducible refine bl_ret ?_
        | with_reducible refine bl_exit ?_
        | with_reducible refine bl_exit_ne (by decide) ?_
        | with_reducible refine th_goto ?_
        | with_reducible refine bl_goto ?_
        | (with_reducible refine hK _ _ ?_; clear hK hQK K QK)
        | (with_reducible refine hK _ ?_; clear hK K)
        | ((with_reducible refine body_ret tr86 ?_); simp (config := { decide := true }) only [go_sem, Nat.reduceAdd, Nat.reduceMul, Nat.reduceSub, Nat.reduceLeDiff, Int.reduceToNat, reduceCtorEq, reduceIte, h4, h5, h6, h8, h9, h10])
        | ((with_reducible refine body_normal tr86 ?_); simp (config := { decide := true }) only [go_sem, Nat.reduceAdd, Nat.reduceMul, Nat.reduceSub, Nat.reduceLeDiff, Int.reduceToNat, reduceCtorEq, reduceIte, h4, h5, h6, h8, h9, h10])
        | (refine And.intro (by first | omega | (simp only [ByteArray.size_append]; omega)) ?_)))
    refine ⟨[UInt8.ofNat (m / 256 ^ t)], by simp [byteV], rfl, ?_⟩
    have e1 : ({ data := [UInt8.ofNat (m / 256 ^ t)].toArray } : ByteArray) ++ baL (be m t) = baL (be m (t + 1)) := by rw [be_cons]; exact baL_append [_] _
    have e2 : ({ data := [UInt8.ofNat (m / 256 ^ t)].toArray } : ByteArray).size + (baL (be m t)).size ≤ 9223372036854775807 := by
      have : (baL (be m t)).size = t := by simp [baL, ByteArray.size, be]
      rw [this]; simp [ByteArray.size]; omega
    (repeat' (first
        | ((with_reducible refine wp_head ?_); first
            | with_reducible refine awp_seq ?_
            | with_reducible refine awp_block ?_
            | with_reducible refine awp_regionL ?_
            | with_reducible refine awp_skip ?_
            | with_reducible refine awp_exit ?_
            | with_reducible refine awp_ret ?_
            | with_reducible refine awp_goto ?_
            | (refine awp_test (by rfl) ?_; first | with_reducible refine cc_t ?_ | with_reducible refine cc_f ?_)
            | ((refine awp_cond_case (by rfl) (by simp only [go_sem]; rfl) (by simp only [go_sem]; rfl) (fun hcase => ?_) (fun hcase => ?_)) <;> (try simp only [decide_eq_true_eq, decide_eq_false_iff_not, Bool.not_eq_true', Bool.not_eq_false', beq_iff_eq, ne_eq] at hcase) <;> first | (exfalso; omega) | contradiction | skip))
        | ((with_reducible refine st_head ?_); first
            | with_reducible refine st_nil ?_
            | (refine st_none rfl fun K QK hK hQK => ?_; simp (config := { decide := true }) only [go_sem, Nat.reduceAdd, Nat.reduceMul, Nat.reduceSub, Nat.reduceLeDiff, Int.reduceToNat, reduceCtorEq, reduceIte, h4, h5, h6, h8, h9, h10, e1, e2])
            | (refine st_test rfl (by rfl) (by rfl) (by simp only [go_sem]; rfl) ?_; first | (with_reducible refine gc_ft ?_) | (with_reducible refine gc_tf ?_) | ((with_reducible refine gc_tt fun K QK hK hQK => ?_); simp (config := { decide := true }) only [go_sem, Nat.reduceAdd, Nat.reduceMul, Nat.reduceSub, Nat.reduceLeDiff, Int.reduceToNat, reduceCtorEq, reduceIte, h4, h5, h6, h8, h9, h10, e1, e2]) | ((with_reducible refine gc_ff fun K QK hK hQK => ?_); simp (config := { decide := true }) only [go_sem, Nat.reduceAdd, Nat.reduceMul, Nat.reduceSub, Nat.reduceLeDiff, Int.reduceToNat, reduceCtorEq, reduceIte, h4, h5, h6, h8, h9, h10, e1, e2]))
            | ((refine st_case rfl (by rfl) (by rfl) (by simp only [go_sem]; rfl) (by simp only [go_sem]; rfl) (fun hcase => ?_) (fun hcase => ?_)) <;> (try simp only [decide_eq_true_eq, decide_eq_false_iff_not, Bool.not_eq_true', Bool.not_eq_false', beq_iff_eq, ne_eq] at hcase) <;> first | (exfalso; omega) | contradiction | skip)
            | (refine st_nil ?_))
        | ((with_reducible refine sq_head ?_); first
            | with_reducible refine sq_nil ?_
            | (refine sq_none rfl fun K hK => ?_; simp (config := { decide := true }) only [go_sem, Nat.reduceAdd, Nat.reduceMul, Nat.reduceSub, Nat.reduceLeDiff, Int.reduceToNat, reduceCtorEq, reduceIte, h4, h5, h6, h8, h9, h10, e1, e2, exists_eq_left', exists_and_left, and_assoc])
            | (refine sq_test rfl (by rfl) (by rfl) (by simp only [go_sem]; rfl) ?_; first | (with_reducible refine gc_ft ?_) | (with_reducible refine gc_tf ?_) | ((with_reducible refine gc_tt fun K hK => ?_); simp (config := { decide := true }) only [go_sem, Nat.reduceAdd, Nat.reduceMul, Nat.reduceSub, Nat.reduceLeDiff, Int.reduceToNat, reduceCtorEq, reduceIte, h4, h5, h6, h8, h9, h10, e1, e2, exists_eq_left', exists_and_left, and_assoc]) | ((with_reducible refine gc_ff fun K hK => ?_); simp (config := { decide := true }) only [go_sem, Nat.reduceAdd, Nat.reduceMul, Nat.reduceSub, Nat.reduceLeDiff, Int.reduceToNat, reduceCtorEq, reduceIte, h4, h5, h6, h8, h9, h10, e1, e2, exists_eq_left', exists_and_left, and_assoc]))
            | ((refine sq_case rfl (by rfl) (by rfl) (by simp only [go_sem]; rfl) (by simp only [go_sem]; rfl) (fun hcase => ?_) (fun hcase => ?_)) <;> (try simp only [decide_eq_true_eq, decide_eq_false_iff_not, Bool.not_eq_true', Bool.not_eq_false', beq_iff_eq, ne_eq] at hcase) <;> first | (exfalso; omega) | contradiction | skip)
            | (refine sq_nil ?_))
        | with_reducible refine th_normal ?_
        | with_reducible refine th_ret ?_
        | with_reducible refine th_exit ?_
        | with_reducible refine bl_normal ?_
        | with_reducible refine bl_ret ?_
        | with_reducible refine bl_exit ?_
        | with_reducible refine bl_exit_ne (by decide) ?_
        | with_reducible refine th_goto ?_
        | with_reducible refine bl_goto ?_
        | (with_reducible refine hK _ _ ?_; clear hK hQK K QK)
        | (with_reducible refine hK _ ?_; clear hK K)
        | ((with_reducible refine body_ret tr86 ?_); simp (config := { decide := true }) only [go_sem, Nat.reduceAdd, Nat.reduceMul, Nat.reduceSub, Nat.reduceLeDiff, Int.reduceToNat, reduceCtorEq, reduceIte, h4, h5, h6, h8, h9, h10, e1, e2])
        | ((with_reducible refine body_normal tr86 ?_); simp (config := { decide := true }) only [go_sem, Nat.reduceAdd, Nat.reduceMul, Nat.reduceSub, Nat.reduceLeDiff, Int.reduceToNat, reduceCtorEq, reduceIte, h4, h5, h6, h8, h9, h10, e1, e2])
        | (refine And.intro (by first | omega | (simp only [ByteArray.size_append]; omega)) ?_)
        | (refine And.intro e2 ?_)))
    refine ⟨_, _, wk_same hok ?_ ?_, ⟨rfl, t + 1, by omega, rfl⟩, ?_⟩
    · simp [Weak]
    · rfl
    · simp [slotI, aget]; omega
  obtain rfl : t = j := by omega
  have h4 : ¬ ((t : Int) < (t : Int)) := by omega
  by_cases h5 : m / 256 ^ t = 0
  · have h6 : ¬ (((m / 256 ^ t : Nat) : Int) > 0) := by rw [h5]; decide
    have h7 : m < 256 ^ t := by
      rcases (Nat.div_eq_zero_iff).1 h5 with h | h
      · exact absurd h (Nat.pos_iff_ne_zero.1 (Nat.pow_pos (by omega)))
      · exact h
    have h8 : putB m t = true := by
      have : (m : Int) < 256 ^ t := by exact_mod_cast h7
      simp [putB, this]; omega
    (repeat' (first
        | ((with_reducible refine wp_head ?_); first
            | with_reducible refine awp_seq ?_
            | with_reducible refine awp_block ?_
            | with_reducible refine awp_regionL ?_
            | with_reducible refine awp_skip ?_
            | with_reducible refine awp_exit ?_
            | with_reducible refine awp_ret ?_
            | with_reducible refine awp_goto ?_
            | (refine awp_test (by rfl) ?_; first | with_reducible refine cc_t ?_ | with_reducible refine cc_f ?_)
            | ((refine awp_cond_case (by rfl) (by simp only [go_sem]; rfl) (by simp only [go_sem]; rfl) (fun hcase => ?_) (fun hcase => ?_)) <;> (try simp only [decide_eq_true_eq, decide_eq_false_iff_not, Bool.not_eq_true', Bool.not_eq_false', beq_iff_eq, ne_eq] at hcase) <;> first | (exfalso; omega) | contradiction | skip))
        | ((with_reducible refine st_head ?_); first
            | with_reducible refine st_nil ?_
            | (refine st_none rfl fun K QK hK hQK => ?_; simp (config := { decide := true }) only [go_sem, Nat.reduceAdd, Nat.reduceMul, Nat.reduceSub, Nat.reduceLeDiff, Int.reduceToNat, reduceCtorEq, reduceIte, h4, h6])
            | (refine st_test rfl (by rfl) (by rfl) (by simp only [go_sem]; rfl) ?_; first | (with_reducible refine gc_ft ?_) | (with_reducible refine gc_tf ?_) | ((with_reducible refine gc_tt fun K QK hK hQK => ?_); simp (config := { decide := true }) only [go_sem, Nat.reduceAdd, Nat.reduceMul, Nat.reduceSub, Nat.reduceLeDiff, Int.reduceToNat, reduceCtorEq, reduceIte, h4, h6]) | ((with_reducible refine gc_ff fun K QK hK hQK => ?_); simp (config := { decide := true }) only [go_sem, Nat.reduceAdd, Nat.reduceMul, Nat.reduceSub, Nat.reduceLeDiff, Int.reduceToNat, reduceCtorEq, reduceIte, h4, h6]))
            | ((refine st_case rfl (by rfl) (by rfl) (by simp only [go_sem]; rfl) (by simp only [go_sem]; rfl) (fun hcase => ?_) (fun hcase => ?_)) <;> (try simp only [decide_eq_true_eq, decide_eq_false_iff_not, Bool.not_eq_true', Bool.not_eq_false', beq_iff_eq, ne_eq] at hcase) <;> first | (exfalso; omega) | contradiction | skip)
            | (refine st_nil ?_))
        | ((with_reducible refine sq_head ?_); first
            | with_reducible refine sq_nil ?_
            | (refine sq_none rfl fun K hK => ?_; simp (config := { decide := true }) only [go_sem, Nat.reduceAdd, Nat.reduceMul, Nat.reduceSub, Nat.reduceLeDiff, Int.reduceToNat, reduceCtorEq, reduceIte, h4, h6, exists_eq_left', exists_and_left, and_assoc])
            | (refine sq_test rfl (by rfl) (by rfl) (by simp only [go_sem]; rfl) ?_; first | (with_reducible refine gc_ft ?_) | (with_reducible refine gc_tf ?_) | ((with_reducible refine gc_tt fun K hK => ?_); simp (config := { decide := true }) only [go_sem, Nat.reduceAdd, Nat.reduceMul, Nat.reduceSub, Nat.reduceLeDiff, Int.reduceToNat, reduceCtorEq, reduceIte, h4, h6, exists_eq_left', exists_and_left, and_assoc]) | ((with_reducible refine gc_ff fun K hK => ?_); simp (config := { decide := true }) only [go_sem, Nat.reduceAdd, Nat.reduceMul, Nat.reduceSub, Nat.reduceLeDiff, Int.reduceToNat, reduceCtorEq, reduceIte, h4, h6, exists_eq_left', exists_and_left, and_assoc]))
            | ((refine sq_case rfl (by rfl) (by rfl) (by simp only [go_sem]; rfl) (by simp only [go_sem]; rfl) (fun hcase => ?_) (fun hcase => ?_)) <;> (try simp only [decide_eq_true_eq, decide_eq_false_iff_not, Bool.not_eq_true', Bool.not_eq_false', beq_iff_eq, ne_eq] at hcase) <;> first | (exfalso; omega) | contradiction | skip)
            | (refine sq_nil ?_))
        | with_reducible refine th_normal ?_
        | with_reducible refine th_ret ?_
        | with_reducible refine th_exit ?_
        | with_reducible refine bl_normal ?_
        | with_reducible refine bl_ret ?_
        | with_reducible refine bl_exit ?_
        | with_reducible refine bl_exit_ne (by decide) ?_
        | with_reducible refine th_goto ?_
        | with_reducible refine bl_goto ?_
        | (with_reducible refine hK _ _ ?_; clear hK hQK K QK)
        | (with_reducible refine hK _ ?_; clear hK K)
        | ((with_reducible refine body_ret tr86 ?_); simp (config := { decide := true }) only [go_sem, Nat.reduceAdd, Nat.reduceMul, Nat.reduceSub, Nat.reduceLeDiff, Int.reduceToNat, reduceCtorEq, reduceIte, h4, h6])
        | ((with_reducible refine body_normal tr86 ?_); simp (config := { decide := true }) only [go_sem, Nat.reduceAdd, Nat.reduceMul, Nat.reduceSub, Nat.reduceLeDiff, Int.reduceToNat, reduceCtorEq, reduceIte, h4, h6])
        | (refine And.intro (by first | omega | (simp only [ByteArray.size_append]; omega)) ?_)
        | exact ends_here ⟨by simp [putS, h8, baL], rfl⟩))
  · have h6 : ((m / 256 ^ t : Nat) : Int) > 0 := by have := Nat.pos_of_ne_zero h5; exact_mod_cast this
    have h7 : 256 ^ t ≤ m := by
      rcases Nat.lt_or_ge m (256 ^ t) with h | h
      · exact absurd (Nat.div_eq_of_lt h) h5
      · exact h
    have h8 : putB m t = false := by
      have : ¬ (m : Int) < 256 ^ t := by have : ((256 ^ t : Nat) : Int) ≤ (m : Int) := by exact_mod_cast h7
                                         push_cast at this; omega
      simp [putB, this]
    (repeat' (first
        | ((with_reducible refine wp_head ?_); first
            | with_reducible refine awp_seq ?_
            | with_reducible refine awp_block ?_
            | with_reducible refine awp_regionL ?_
            | with_reducible refine awp_skip ?_
            | with_reducible refine awp_exit ?_
            | with_reducible refine awp_ret ?_
            | with_reducible refine awp_goto ?_
            | (refine awp_test (by rfl) ?_; first | with_reducible refine cc_t ?_ | with_reducible refine cc_f ?_)
            | ((refine awp_cond_case (by rfl) (by simp only [go_sem]; rfl) (by simp only [go_sem]; rfl) (fun hcase => ?_) (fun hcase => ?_)) <;> (try simp only [decide_eq_true_eq, decide_eq_false_iff_not, Bool.not_eq_true', Bool.not_eq_false', beq_iff_eq, ne_eq] at hcase) <;> first | (exfalso; omega) | contradiction | skip))
        | ((with_reducible refine st_head ?_); first
            | with_reducible refine st_nil ?_
            | (refine st_none rfl fun K QK hK hQK => ?_; simp (config := { decide := true }) only [go_sem, Nat.reduceAdd, Nat.reduceMul, Nat.reduceSub, Nat.reduceLeDiff, Int.reduceToNat, reduceCtorEq, reduceIte, h4, h6])
            | (refine st_test rfl (by rfl) (by rfl) (by simp only [go_sem]; rfl) ?_; first | (with_reducible refine gc_ft ?_) | (with_reducible refine gc_tf ?_) | ((with_reducible refine gc_tt fun K QK hK hQK => ?_); simp (config := { decide := true }) only [go_sem, Nat.reduceAdd, Nat.reduceMul, Nat.reduceSub, Nat.reduceLeDiff, Int.reduceToNat, reduceCtorEq, reduceIte, h4, h6]) | ((with_reducible refine gc_ff fun K QK hK hQK => ?_); simp (config := { decide := true }) only [go_sem, Nat.reduceAdd, Nat.reduceMul, Nat.reduceSub, Nat.reduceLeDiff, Int.reduceToNat, reduceCtorEq, reduceIte, h4, h6]))
            | ((refine st_case rfl (by rfl) (by rfl) (by simp only [go_sem]; rfl) (by simp only [go_sem]; rfl) (fun hcase => ?_) (fun hcase => ?_)) <;> (try simp only [decide_eq_true_eq, decide_eq_false_iff_not, Bool.not_eq_true', Bool.not_eq_false', beq_iff_eq, ne_eq] at hcase) <;> first | (exfalso; omega) | contradiction | skip)
            | (refine st_nil ?_))
        | ((with_reducible refine sq_head ?_); first
            | with_reducible refine sq_nil ?_
            | (refine sq_none rfl fun K hK => ?_; simp (config := { decide := true }) only [go_sem, Nat.reduceAdd, Nat.reduceMul, Nat.reduceSub, Nat.reduceLeDiff, Int.reduceToNat, reduceCtorEq, reduceIte, h4, h6, exists_eq_left', exists_and_left, and_assoc])
            | (refine sq_test rfl (by rfl) (by rfl) (by simp only [go_sem]; rfl) ?_; first | (with_reducible refine gc_ft ?_) | (with_reducible refine gc_tf ?_) | ((with_reducible refine gc_tt fun K hK => ?_); simp (config := { decide := true }) only [go_sem, Nat.reduceAdd, Nat.reduceMul, Nat.reduceSub, Nat.reduceLeDiff, Int.reduceToNat, reduceCtorEq, reduceIte, h4, h6, exists_eq_left', exists_and_left, and_assoc]) | ((with_reducible refine gc_ff fun K hK => ?_); simp (config := { decide := true }) only [go_sem, Nat.reduceAdd, Nat.reduceMul, Nat.reduceSub, Nat.reduceLeDiff, Int.reduceToNat, reduceCtorEq, reduceIte, h4, h6, exists_eq_left', exists_and_left, and_assoc]))
            | ((refine sq_case rfl (by rfl) (by rfl) (by simp only [go_sem]; rfl) (by simp only [go_sem]; rfl) (fun hcase => ?_) (fun hcase => ?_)) <;> (try simp only [decide_eq_true_eq, decide_eq_false_iff_not, Bool.not_eq_true', Bool.not_eq_false', beq_iff_eq, ne_eq] at hcase) <;> first | (exfalso; omega) | contradiction | skip)
            | (refine sq_nil ?_))
        | with_reducible refine th_normal ?_
        | with_reducible refine th_ret ?_
        | with_reducible refine th_exit ?_
        | with_reducible refine bl_normal ?_
        | with_reducible refine bl_ret ?_
        | with_reducible refine bl_exit ?_
        | with_reducible refine bl_exit_ne (by decide) ?_
        | with_reducible refine th_goto ?_
        | with_reducible refine bl_goto ?_
        | (with_reducible refine hK _ _ ?_; clear hK hQK K QK)
        | (with_reducible refine hK _ ?_; clear hK K)
        | ((with_reducible refine body_ret tr86 ?_); simp (config := { decide := true }) only [go_sem, Nat.reduceAdd, Nat.reduceMul, Nat.reduceSub, Nat.reduceLeDiff, Int.reduceToNat, reduceCtorEq, reduceIte, h4, h6])
        | ((with_reducible refine body_normal tr86 ?_); simp (config := { decide := true }) only [go_sem, Nat.reduceAdd, Nat.reduceMul, Nat.reduceSub, Nat.reduceLeDiff, Int.reduceToNat, reduceCtorEq, reduceIte, h4, h6])
        | (refine And.intro (by first | omega | (simp only [ByteArray.size_append]; omega)) ?_)
        | exact ends_here ⟨by simp [putS, h8], rfl⟩))

def coordP (x : Int) : ByteArray × Bool := if -2147483648 ≤ x ∧ x < 2147483648 then (putS (x + 2147483648) 4, putB (x + 2147483648) 4) else (⟨#[]⟩, false)

-- chainman/octet.PutCoord: function 59
theorem octet_PutCoord (x : Int) : Pure1 Try.prog 59 [.lit (.int .i64 x)] (.tup [.lit (.string (coordP x).1), .lit (.bool (coordP x).2)]) := by
  intro h
  refine acalls_of Try.func59 (by rfl) fun hok => ?_
  simp only [List.length_cons, List.length_nil, Nat.reduceAdd, show Try.f59.ntmps = 15 from rfl, Nat.reduceSub, List.replicate, List.cons_append, List.nil_append]
  by_cases hc : -2147483648 ≤ x ∧ x < 2147483648
  · have h0 : ¬ x < -2147483648 := by omega
    have h1 : ¬ x ≥ 2147483648 := by omega
    have h2 : IntKind.i64.wrap (x + 2147483648) = x + 2147483648 := wrap_id (by omega) (by omega)
    (repeat' (first
        | ((with_reducible refine wp_head ?_); first
            | with_reducible refine awp_seq ?_
            | with_reducible refine awp_block ?_
            | with_reducible refine awp_regionL ?_
            | with_reducible refine awp_skip ?_
            | with_reducible refine awp_exit ?_
            | with_reducible refine awp_ret ?_
            | with_reducible refine awp_goto ?_
            | (refine awp_test (by rfl) ?_; first | with_reducible refine cc_t ?_ | with_reducible refine cc_f ?_)
            | ((refine awp_cond_case (by rfl) (by simp only [go_sem]; rfl) (by simp only [go_sem]; rfl) (fun hcase => ?_) (fun hcase => ?_)) <;> (try simp only [decide_eq_true_eq, decide_eq_false_iff_not, Bool.not_eq_true', Bool.not_eq_false', beq_iff_eq, ne_eq] at hcase) <;> first | (exfalso; omega) | contradiction | skip))
        | ((with_reducible refine st_head ?_); first
            | with_reducible refine st_nil ?_
            | (refine st_none rfl fun K QK hK hQK => ?_; simp (config := { decide := true }) only [go_sem, Nat.reduceAdd, Nat.reduceMul, Nat.reduceSub, Nat.reduceLeDiff, Int.reduceToNat, reduceCtorEq, reduceIte, h0, h1, h2])
            | (refine st_test rfl (by rfl) (by rfl) (by simp only [go_sem]; rfl) ?_; first | (with_reducible refine gc_ft ?_) | (with_reducible refine gc_tf ?_) | ((with_reducible refine gc_tt fun K QK hK hQK => ?_); simp (config := { decide := true }) only [go_sem, Nat.reduceAdd, Nat.reduceMul, Nat.reduceSub, Nat.reduceLeDiff, Int.reduceToNat, reduceCtorEq, reduceIte, h0, h1, h2]) | ((with_reducible refine gc_ff fun K QK hK hQK => ?_); simp (config := { decide := true }) only [go_sem, Nat.reduceAdd, Nat.reduceMul, Nat.reduceSub, Nat.reduceLeDiff, Int.reduceToNat, reduceCtorEq, reduceIte, h0, h1, h2]))
            | ((refine st_case rfl (by rfl) (by rfl) (by simp only [go_sem]; rfl) (by simp only [go_sem]; rfl) (fun hcase => ?_) (fun hcase => ?_)) <;> (try simp only [decide_eq_true_eq, decide_eq_false_iff_not, Bool.not_eq_true', Bool.not_eq_false', beq_iff_eq, ne_eq] at hcase) <;> first | (exfalso; omega) | contradiction | skip)
            | (refine st_nil ?_))
        | ((with_reducible refine sq_head ?_); first
            | with_reducible refine sq_nil ?_
            | (refine sq_none rfl fun K hK => ?_; simp (config := { decide := true }) only [go_sem, Nat.reduceAdd, Nat.reduceMul, Nat.reduceSub, Nat.reduceLeDiff, Int.reduceToNat, reduceCtorEq, reduceIte, h0, h1, h2, exists_eq_left', exists_and_left, and_assoc])
            | (refine sq_test rfl (by rfl) (by rfl) (by simp only [go_sem]; rfl) ?_; first | (with_reducible refine gc_ft ?_) | (with_reducible refine gc_tf ?_) | ((with_reducible refine gc_tt fun K hK => ?_); simp (config := { decide := true }) only [go_sem, Nat.reduceAdd, Nat.reduceMul, Nat.reduceSub, Nat.reduceLeDiff, Int.reduceToNat, reduceCtorEq, reduceIte, h0, h1, h2, exists_eq_left', exists_and_left, and_assoc]) | ((with_reducible refine gc_ff fun K hK => ?_); simp (config := { decide := true }) only [go_sem, Nat.reduceAdd, Nat.reduceMul, Nat.reduceSub, Nat.reduceLeDiff, Int.reduceToNat, reduceCtorEq, reduceIte, h0, h1, h2, exists_eq_left', exists_and_left, and_assoc]))
            | ((refine sq_case rfl (by rfl) (by rfl) (by simp only [go_sem]; rfl) (by simp only [go_sem]; rfl) (fun hcase => ?_) (fun hcase => ?_)) <;> (try simp only [decide_eq_true_eq, decide_eq_false_iff_not, Bool.not_eq_true', Bool.not_eq_false', beq_iff_eq, ne_eq] at hcase) <;> first | (exfalso; omega) | contradiction | skip)
            | (refine sq_nil ?_))
        | with_reducible refine th_normal ?_
        | with_reducible refine th_ret ?_
        | with_reducible refine th_exit ?_
        | with_reducible refine bl_normal ?_
        | with_reducible refine bl_ret ?_
        | with_reducible refine bl_exit ?_
        | with_reducible refine bl_exit_ne (by decide) ?_
        | with_reducible refine th_goto ?_
        | with_reducible refine bl_goto ?_
        | (with_reducible refine hK _ _ ?_; clear hK hQK K QK)
        | (with_reducible refine hK _ ?_; clear hK K)
        | ((with_reducible refine body_ret tr59 ?_); simp (config := { decide := true }) only [go_sem, Nat.reduceAdd, Nat.reduceMul, Nat.reduceSub, Nat.reduceLeDiff, Int.reduceToNat, reduceCtorEq, reduceIte, h0, h1, h2])
        | ((with_reducible refine body_normal tr59 ?_); simp (config := { decide := true }) only [go_sem, Nat.reduceAdd, Nat.reduceMul, Nat.reduceSub, Nat.reduceLeDiff, Int.reduceToNat, reduceCtorEq, reduceIte, h0, h1, h2])
        | (refine And.intro (by first | omega | (simp only [ByteArray.size_append]; omega)) ?_)
        | (refine call_mono (octet_Put (x + 2147483648) 4 (by omega)) ?_; simp (config := { decide := true }) only [go_sem, Nat.reduceAdd, Nat.reduceMul, Nat.reduceSub, Nat.reduceLeDiff, Int.reduceToNat, reduceCtorEq, reduceIte])
        | exact ends_here ⟨by simp [coordP, hc], rfl⟩))
  · (repeat' (first
      | ((with_reducible refine wp_head ?_); first
          | with_reducible refine awp_seq ?_
          | with_reducible refine awp_block ?_
          | with_reducible refine awp_regionL ?_
          | with_reducible refine awp_skip ?_
          | with_reducible refine awp_exit ?_
          | with_reducible refine awp_ret ?_
          | with_reducible refine awp_goto ?_
          | (refine awp_test (by rfl) ?_; first | with_reducible refine cc_t ?_ | with_reducible refine cc_f ?_)
          | ((refine awp_cond_case (by rfl) (by simp only [go_sem]; rfl) (by simp only [go_sem]; rfl) (fun hcase => ?_) (fun hcase => ?_)) <;> (try simp only [decide_eq_true_eq, decide_eq_false_iff_not, Bool.not_eq_true', Bool.not_eq_false', beq_iff_eq, ne_eq] at hcase) <;> first | (exfalso; omega) | contradiction | skip))
      | ((with_reducible refine st_head ?_); first
          | with_reducible refine st_nil ?_
          | (refine st_none rfl fun K QK hK hQK => ?_; simp (config := { decide := true }) only [go_sem, Nat.reduceAdd, Nat.reduceMul, Nat.reduceSub, Nat.reduceLeDiff, Int.reduceToNat, reduceCtorEq, reduceIte])
          | (refine st_test rfl (by rfl) (by rfl) (by simp only [go_sem]; rfl) ?_; first | (with_reducible refine gc_ft ?_) | (with_reducible refine gc_tf ?_) | ((with_reducible refine gc_tt fun K QK hK hQK => ?_); simp (config := { decide := true }) only [go_sem, Nat.reduceAdd, Nat.reduceMul, Nat.reduceSub, Nat.reduceLeDiff, Int.reduceToNat, reduceCtorEq, reduceIte]) | ((with_reducible refine gc_ff fun K QK hK hQK => ?_); simp (config := { decide := true }) only [go_sem, Nat.reduceAdd, Nat.reduceMul, Nat.reduceSub, Nat.reduceLeDiff, Int.reduceToNat, reduceCtorEq, reduceIte]))
          | ((refine st_case rfl (by rfl) (by rfl) (by simp only [go_sem]; rfl) (by simp only [go_sem]; rfl) (fun hcase => ?_) (fun hcase => ?_)) <;> (try simp only [decide_eq_true_eq, decide_eq_false_iff_not, Bool.not_eq_true', Bool.not_eq_false', beq_iff_eq, ne_eq] at hcase) <;> first | (exfalso; omega) | contradiction | skip)
          | (refine st_nil ?_))
      | ((with_reducible refine sq_head ?_); first
          | with_reducible refine sq_nil ?_
          | (refine sq_none rfl fun K hK => ?_; simp (config := { decide := true }) only [go_sem, Nat.reduceAdd, Nat.reduceMul, Nat.reduceSub, Nat.reduceLeDiff, Int.reduceToNat, reduceCtorEq, reduceIte, exists_eq_left', exists_and_left, and_assoc])
          | (refine sq_test rfl (by rfl) (by rfl) (by simp only [go_sem]; rfl) ?_; first | (with_reducible refine gc_ft ?_) | (with_reducible refine gc_tf ?_) | ((with_reducible refine gc_tt fun K hK => ?_); simp (config := { decide := true }) only [go_sem, Nat.reduceAdd, Nat.reduceMul, Nat.reduceSub, Nat.reduceLeDiff, Int.reduceToNat, reduceCtorEq, reduceIte, exists_eq_left', exists_and_left, and_assoc]) | ((with_reducible refine gc_ff fun K hK => ?_); simp (config := { decide := true }) only [go_sem, Nat.reduceAdd, Nat.reduceMul, Nat.reduceSub, Nat.reduceLeDiff, Int.reduceToNat, reduceCtorEq, reduceIte, exists_eq_left', exists_and_left, and_assoc]))
          | ((refine sq_case rfl (by rfl) (by rfl) (by simp only [go_sem]; rfl) (by simp only [go_sem]; rfl) (fun hcase => ?_) (fun hcase => ?_)) <;> (try simp only [decide_eq_true_eq, decide_eq_false_iff_not, Bool.not_eq_true', Bool.not_eq_false', beq_iff_eq, ne_eq] at hcase) <;> first | (exfalso; omega) | contradiction | skip)
          | (refine sq_nil ?_))
      | with_reducible refine th_normal ?_
      | with_reducible refine th_ret ?_
      | with_reducible refine th_exit ?_
      | with_reducible refine bl_normal ?_
      | with_reducible refine bl_ret ?_
      | with_reducible refine bl_exit ?_
      | with_reducible refine bl_exit_ne (by decide) ?_
      | with_reducible refine th_goto ?_
      | with_reducible refine bl_goto ?_
      | (with_reducible refine hK _ _ ?_; clear hK hQK K QK)
      | (with_reducible refine hK _ ?_; clear hK K)
      | ((with_reducible refine body_ret tr59 ?_); simp (config := { decide := true }) only [go_sem, Nat.reduceAdd, Nat.reduceMul, Nat.reduceSub, Nat.reduceLeDiff, Int.reduceToNat, reduceCtorEq, reduceIte])
      | ((with_reducible refine body_normal tr59 ?_); simp (config := { decide := true }) only [go_sem, Nat.reduceAdd, Nat.reduceMul, Nat.reduceSub, Nat.reduceLeDiff, Int.reduceToNat, reduceCtorEq, reduceIte])
      | (refine And.intro (by first | omega | (simp only [ByteArray.size_append]; omega)) ?_)
      | exact ends_here ⟨by simp [coordP, hc], rfl⟩))

-- chainman/chainmanref02.PutCoord: function 62
theorem ref02_PutCoord (x : Int) : Pure1 Try.prog 62 [.lit (.int .i64 x)] (.tup [.lit (.string (coordP x).1), .lit (.bool (coordP x).2)]) := by
  intro h
  refine acalls_of Try.func62 (by rfl) fun hok => ?_
  simp only [List.length_cons, List.length_nil, Nat.reduceAdd, show Try.f62.ntmps = 15 from rfl, Nat.reduceSub, List.replicate, List.cons_append, List.nil_append]
  by_cases hc : -2147483648 ≤ x ∧ x < 2147483648
  · have h0 : ¬ x < -2147483648 := by omega
    have h1 : ¬ x ≥ 2147483648 := by omega
    have h2 : IntKind.i64.wrap (x + 2147483648) = x + 2147483648 := wrap_id (by omega) (by omega)
    (repeat' (first
        | ((with_reducible refine wp_head ?_); first
            | with_reducible refine awp_seq ?_
            | with_reducible refine awp_block ?_
            | with_reducible refine awp_regionL ?_
            | with_reducible refine awp_skip ?_
            | with_reducible refine awp_exit ?_
            | with_reducible refine awp_ret ?_
            | with_reducible refine awp_goto ?_
            | (refine awp_test (by rfl) ?_; first | with_reducible refine cc_t ?_ | with_reducible refine cc_f ?_)
            | ((refine awp_cond_case (by rfl) (by simp only [go_sem]; rfl) (by simp only [go_sem]; rfl) (fun hcase => ?_) (fun hcase => ?_)) <;> (try simp only [decide_eq_true_eq, decide_eq_false_iff_not, Bool.not_eq_true', Bool.not_eq_false', beq_iff_eq, ne_eq] at hcase) <;> first | (exfalso; omega) | contradiction | skip))
        | ((with_reducible refine st_head ?_); first
            | with_reducible refine st_nil ?_
            | (refine st_none rfl fun K QK hK hQK => ?_; simp (config := { decide := true }) only [go_sem, Nat.reduceAdd, Nat.reduceMul, Nat.reduceSub, Nat.reduceLeDiff, Int.reduceToNat, reduceCtorEq, reduceIte, h0, h1, h2])
            | (refine st_test rfl (by rfl) (by rfl) (by simp only [go_sem]; rfl) ?_; first | (with_reducible refine gc_ft ?_) | (with_reducible refine gc_tf ?_) | ((with_reducible refine gc_tt fun K QK hK hQK => ?_); simp (config := { decide := true }) only [go_sem, Nat.reduceAdd, Nat.reduceMul, Nat.reduceSub, Nat.reduceLeDiff, Int.reduceToNat, reduceCtorEq, reduceIte, h0, h1, h2]) | ((with_reducible refine gc_ff fun K QK hK hQK => ?_); simp (config := { decide := true }) only [go_sem, Nat.reduceAdd, Nat.reduceMul, Nat.reduceSub, Nat.reduceLeDiff, Int.reduceToNat, reduceCtorEq, reduceIte, h0, h1, h2]))
            | ((refine st_case rfl (by rfl) (by rfl) (by simp only [go_sem]; rfl) (by simp only [go_sem]; rfl) (fun hcase => ?_) (fun hcase => ?_)) <;> (try simp only [decide_eq_true_eq, decide_eq_false_iff_not, Bool.not_eq_true', Bool.not_eq_false', beq_iff_eq, ne_eq] at hcase) <;> first | (exfalso; omega) | contradiction | skip)
            | (refine st_nil ?_))
        | ((with_reducible refine sq_head ?_); first
            | with_reducible refine sq_nil ?_
            | (refine sq_none rfl fun K hK => ?_; simp (config := { decide := true }) only [go_sem, Nat.reduceAdd, Nat.reduceMul, Nat.reduceSub, Nat.reduceLeDiff, Int.reduceToNat, reduceCtorEq, reduceIte, h0, h1, h2, exists_eq_left', exists_and_left, and_assoc])
            | (refine sq_test rfl (by rfl) (by rfl) (by simp only [go_sem]; rfl) ?_; first | (with_reducible refine gc_ft ?_) | (with_reducible refine gc_tf ?_) | ((with_reducible refine gc_tt fun K hK => ?_); simp (config := { decide := true }) only [go_sem, Nat.reduceAdd, Nat.reduceMul, Nat.reduceSub, Nat.reduceLeDiff, Int.reduceToNat, reduceCtorEq, reduceIte, h0, h1, h2, exists_eq_left', exists_and_left, and_assoc]) | ((with_reducible refine gc_ff fun K hK => ?_); simp (config := { decide := true }) only [go_sem, Nat.reduceAdd, Nat.reduceMul, Nat.reduceSub, Nat.reduceLeDiff, Int.reduceToNat, reduceCtorEq, reduceIte, h0, h1, h2, exists_eq_left', exists_and_left, and_assoc]))
            | ((refine sq_case rfl (by rfl) (by rfl) (by simp only [go_sem]; rfl) (by simp only [go_sem]; rfl) (fun hcase => ?_) (fun hcase => ?_)) <;> (try simp only [decide_eq_true_eq, decide_eq_false_iff_not, Bool.not_eq_true', Bool.not_eq_false', beq_iff_eq, ne_eq] at hcase) <;> first | (exfalso; omega) | contradiction | skip)
            | (refine sq_nil ?_))
        | with_reducible refine th_normal ?_
        | with_reducible refine th_ret ?_
        | with_reducible refine th_exit ?_
        | with_reducible refine bl_normal ?_
        | with_reducible refine bl_ret ?_
        | with_reducible refine bl_exit ?_
        | with_reducible refine bl_exit_ne (by decide) ?_
        | with_reducible refine th_goto ?_
        | with_reducible refine bl_goto ?_
        | (with_reducible refine hK _ _ ?_; clear hK hQK K QK)
        | (with_reducible refine hK _ ?_; clear hK K)
        | ((with_reducible refine body_ret tr62 ?_); simp (config := { decide := true }) only [go_sem, Nat.reduceAdd, Nat.reduceMul, Nat.reduceSub, Nat.reduceLeDiff, Int.reduceToNat, reduceCtorEq, reduceIte, h0, h1, h2])
        | ((with_reducible refine body_normal tr62 ?_); simp (config := { decide := true }) only [go_sem, Nat.reduceAdd, Nat.reduceMul, Nat.reduceSub, Nat.reduceLeDiff, Int.reduceToNat, reduceCtorEq, reduceIte, h0, h1, h2])
        | (refine And.intro (by first | omega | (simp only [ByteArray.size_append]; omega)) ?_)
        | (refine call_mono (ref02_Put (x + 2147483648) 4 (by omega)) ?_; simp (config := { decide := true }) only [go_sem, Nat.reduceAdd, Nat.reduceMul, Nat.reduceSub, Nat.reduceLeDiff, Int.reduceToNat, reduceCtorEq, reduceIte])
        | exact ends_here ⟨by simp [coordP, hc], rfl⟩))
  · (repeat' (first
      | ((with_reducible refine wp_head ?_); first
          | with_reducible refine awp_seq ?_
          | with_reducible refine awp_block ?_
          | with_reducible refine awp_regionL ?_
          | with_reducible refine awp_skip ?_
          | with_reducible refine awp_exit ?_
          | with_reducible refine awp_ret ?_
          | with_reducible refine awp_goto ?_
          | (refine awp_test (by rfl) ?_; first | with_reducible refine cc_t ?_ | with_reducible refine cc_f ?_)
          | ((refine awp_cond_case (by rfl) (by simp only [go_sem]; rfl) (by simp only [go_sem]; rfl) (fun hcase => ?_) (fun hcase => ?_)) <;> (try simp only [decide_eq_true_eq, decide_eq_false_iff_not, Bool.not_eq_true', Bool.not_eq_false', beq_iff_eq, ne_eq] at hcase) <;> first | (exfalso; omega) | contradiction | skip))
      | ((with_reducible refine st_head ?_); first
          | with_reducible refine st_nil ?_
          | (refine st_none rfl fun K QK hK hQK => ?_; simp (config := { decide := true }) only [go_sem, Nat.reduceAdd, Nat.reduceMul, Nat.reduceSub, Nat.reduceLeDiff, Int.reduceToNat, reduceCtorEq, reduceIte])
          | (refine st_test rfl (by rfl) (by rfl) (by simp only [go_sem]; rfl) ?_; first | (with_reducible refine gc_ft ?_) | (with_reducible refine gc_tf ?_) | ((with_reducible refine gc_tt fun K QK hK hQK => ?_); simp (config := { decide := true }) only [go_sem, Nat.reduceAdd, Nat.reduceMul, Nat.reduceSub, Nat.reduceLeDiff, Int.reduceToNat, reduceCtorEq, reduceIte]) | ((with_reducible refine gc_ff fun K QK hK hQK => ?_); simp (config := { decide := true }) only [go_sem, Nat.reduceAdd, Nat.reduceMul, Nat.reduceSub, Nat.reduceLeDiff, Int.reduceToNat, reduceCtorEq, reduceIte]))
          | ((refine st_case rfl (by rfl) (by rfl) (by simp only [go_sem]; rfl) (by simp only [go_sem]; rfl) (fun hcase => ?_) (fun hcase => ?_)) <;> (try simp only [decide_eq_true_eq, decide_eq_false_iff_not, Bool.not_eq_true', Bool.not_eq_false', beq_iff_eq, ne_eq] at hcase) <;> first | (exfalso; omega) | contradiction | skip)
          | (refine st_nil ?_))
      | ((with_reducible refine sq_head ?_); first
          | with_reducible refine sq_nil ?_
          | (refine sq_none rfl fun K hK => ?_; simp (config := { decide := true }) only [go_sem, Nat.reduceAdd, Nat.reduceMul, Nat.reduceSub, Nat.reduceLeDiff, Int.reduceToNat, reduceCtorEq, reduceIte, exists_eq_left', exists_and_left, and_assoc])
          | (refine sq_test rfl (by rfl) (by rfl) (by simp only [go_sem]; rfl) ?_; first | (with_reducible refine gc_ft ?_) | (with_reducible refine gc_tf ?_) | ((with_reducible refine gc_tt fun K hK => ?_); simp (config := { decide := true }) only [go_sem, Nat.reduceAdd, Nat.reduceMul, Nat.reduceSub, Nat.reduceLeDiff, Int.reduceToNat, reduceCtorEq, reduceIte, exists_eq_left', exists_and_left, and_assoc]) | ((with_reducible refine gc_ff fun K hK => ?_); simp (config := { decide := true }) only [go_sem, Nat.reduceAdd, Nat.reduceMul, Nat.reduceSub, Nat.reduceLeDiff, Int.reduceToNat, reduceCtorEq, reduceIte, exists_eq_left', exists_and_left, and_assoc]))
          | ((refine sq_case rfl (by rfl) (by rfl) (by simp only [go_sem]; rfl) (by simp only [go_sem]; rfl) (fun hcase => ?_) (fun hcase => ?_)) <;> (try simp only [decide_eq_true_eq, decide_eq_false_iff_not, Bool.not_eq_true', Bool.not_eq_false', beq_iff_eq, ne_eq] at hcase) <;> first | (exfalso; omega) | contradiction | skip)
          | (refine sq_nil ?_))
      | with_reducible refine th_normal ?_
      | with_reducible refine th_ret ?_
      | with_reducible refine th_exit ?_
      | with_reducible refine bl_normal ?_
      | with_reducible refine bl_ret ?_
      | with_reducible refine bl_exit ?_
      | with_reducible refine bl_exit_ne (by decide) ?_
      | with_reducible refine th_goto ?_
      | with_reducible refine bl_goto ?_
      | (with_reducible refine hK _ _ ?_; clear hK hQK K QK)
      | (with_reducible refine hK _ ?_; clear hK K)
      | ((with_reducible refine body_ret tr62 ?_); simp (config := { decide := true }) only [go_sem, Nat.reduceAdd, Nat.reduceMul, Nat.reduceSub, Nat.reduceLeDiff, Int.reduceToNat, reduceCtorEq, reduceIte])
      | ((with_reducible refine body_normal tr62 ?_); simp (config := { decide := true }) only [go_sem, Nat.reduceAdd, Nat.reduceMul, Nat.reduceSub, Nat.reduceLeDiff, Int.reduceToNat, reduceCtorEq, reduceIte])
      | (refine And.intro (by first | omega | (simp only [ByteArray.size_append]; omega)) ?_)
      | exact ends_here ⟨by simp [coordP, hc], rfl⟩))

-- chainman/chainmanref02.Must: function 64
theorem ref02_Must (n k : Int) (hn : n < 9223372036854775808) : Pure1 Try.prog 64 [.lit (.int .i64 n), .lit (.int .i64 k)] (.lit (.string (putS n k))) := by
  intro h
  refine acalls_of Try.func64 (by rfl) fun hok => ?_
  simp only [List.length_cons, List.length_nil, Nat.reduceAdd, show Try.f64.ntmps = 14 from rfl, Nat.reduceSub, List.replicate, List.cons_append, List.nil_append]
  (repeat' (first
      | ((with_reducible refine wp_head ?_); first
          | with_reducible refine awp_seq ?_
          | with_reducible refine awp_block ?_
          | with_reducible refine awp_regionL ?_
          | with_reducible refine awp_skip ?_
          | with_reducible refine awp_exit ?_
          | with_reducible refine awp_ret ?_
          | with_reducible refine awp_goto ?_
          | (refine awp_test (by rfl) ?_; first | with_reducible refine cc_t ?_ | with_reducible refine cc_f ?_)
          | ((refine awp_cond_case (by rfl) (by simp only [go_sem]; rfl) (by simp only [go_sem]; rfl) (fun hcase => ?_) (fun hcase => ?_)) <;> (try simp only [decide_eq_true_eq, decide_eq_false_iff_not, Bool.not_eq_true', Bool.not_eq_false', beq_iff_eq, ne_eq] at hcase) <;> first | (exfalso; omega) | contradiction | skip))
      | ((with_reducible refine st_head ?_); first
          | with_reducible refine st_nil ?_
          | (refine st_none rfl fun K QK hK hQK => ?_; simp (config := { decide := true }) only [go_sem, Nat.reduceAdd, Nat.reduceMul, Nat.reduceSub, Nat.reduceLeDiff, Int.reduceToNat, reduceCtorEq, reduceIte])
          | (refine st_test rfl (by rfl) (by rfl) (by simp only [go_sem]; rfl) ?_; first | (with_reducible refine gc_ft ?_) | (with_reducible refine gc_tf ?_) | ((with_reducible refine gc_tt fun K QK hK hQK => ?_); simp (config := { decide := true }) only [go_sem, Nat.reduceAdd, Nat.reduceMul, Nat.reduceSub, Nat.reduceLeDiff, Int.reduceToNat, reduceCtorEq, reduceIte]) | ((with_reducible refine gc_ff fun K QK hK hQK => ?_); simp (config := { decide := true }) only [go_sem, Nat.reduceAdd, Nat.reduceMul, Nat.reduceSub, Nat.reduceLeDiff, Int.reduceToNat, reduceCtorEq, reduceIte]))
          | ((refine st_case rfl (by rfl) (by rfl) (by simp only [go_sem]; rfl) (by simp only [go_sem]; rfl) (fun hcase => ?_) (fun hcase => ?_)) <;> (try simp only [decide_eq_true_eq, decide_eq_false_iff_not, Bool.not_eq_true', Bool.not_eq_false', beq_iff_eq, ne_eq] at hcase) <;> first | (exfalso; omega) | contradiction | skip)
          | (refine st_nil ?_))
      | ((with_reducible refine sq_head ?_); first
          | with_reducible refine sq_nil ?_
          | (refine sq_none rfl fun K hK => ?_; simp (config := { decide := true }) only [go_sem, Nat.reduceAdd, Nat.reduceMul, Nat.reduceSub, Nat.reduceLeDiff, Int.reduceToNat, reduceCtorEq, reduceIte, exists_eq_left', exists_and_left, and_assoc])
          | (refine sq_test rfl (by rfl) (by rfl) (by simp only [go_sem]; rfl) ?_; first | (with_reducible refine gc_ft ?_) | (with_reducible refine gc_tf ?_) | ((with_reducible refine gc_tt fun K hK => ?_); simp (config := { decide := true }) only [go_sem, Nat.reduceAdd, Nat.reduceMul, Nat.reduceSub, Nat.reduceLeDiff, Int.reduceToNat, reduceCtorEq, reduceIte, exists_eq_left', exists_and_left, and_assoc]) | ((with_reducible refine gc_ff fun K hK => ?_); simp (config := { decide := true }) only [go_sem, Nat.reduceAdd, Nat.reduceMul, Nat.reduceSub, Nat.reduceLeDiff, Int.reduceToNat, reduceCtorEq, reduceIte, exists_eq_left', exists_and_left, and_assoc]))
          | ((refine sq_case rfl (by rfl) (by rfl) (by simp only [go_sem]; rfl) (by simp only [go_sem]; rfl) (fun hcase => ?_) (fun hcase => ?_)) <;> (try simp only [decide_eq_true_eq, decide_eq_false_iff_not, Bool.not_eq_true', Bool.not_eq_false', beq_iff_eq, ne_eq] at hcase) <;> first | (exfalso; omega) | contradiction | skip)
          | (refine sq_nil ?_))
      | with_reducible refine th_normal ?_
      | with_reducible refine th_ret ?_
      | with_reducible refine th_exit ?_
      | with_reducible refine bl_normal ?_
      | with_reducible refine bl_ret ?_
      | with_reducible refine bl_exit ?_
      | with_reducible refine bl_exit_ne (by decide) ?_
      | with_reducible refine th_goto ?_
      | with_reducible refine bl_goto ?_
      | (with_reducible refine hK _ _ ?_; clear hK hQK K QK)
      | (with_reducible refine hK _ ?_; clear hK K)
      | ((with_reducible refine body_ret tr64 ?_); simp (config := { decide := true }) only [go_sem, Nat.reduceAdd, Nat.reduceMul, Nat.reduceSub, Nat.reduceLeDiff, Int.reduceToNat, reduceCtorEq, reduceIte])
      | ((with_reducible refine body_normal tr64 ?_); simp (config := { decide := true }) only [go_sem, Nat.reduceAdd, Nat.reduceMul, Nat.reduceSub, Nat.reduceLeDiff, Int.reduceToNat, reduceCtorEq, reduceIte])
      | (refine And.intro (by first | omega | (simp only [ByteArray.size_append]; omega)) ?_)
      | ((with_reducible refine ex_head (f := 86) ?_); refine call_ex (ref02_Put n k hn) ?_; try simp (config := { decide := true }) only [go_sem, Nat.reduceAdd, Nat.reduceMul, Nat.reduceSub, Nat.reduceLeDiff, Int.reduceToNat, reduceCtorEq, reduceIte, exists_eq_left', exists_and_left, and_assoc])
      | ((with_reducible refine call_head (f := 86) ?_); refine call_mono (ref02_Put n k hn) ?_; simp (config := { decide := true }) only [go_sem, Nat.reduceAdd, Nat.reduceMul, Nat.reduceSub, Nat.reduceLeDiff, Int.reduceToNat, reduceCtorEq, reduceIte])
      | exact ends_here ⟨rfl, rfl⟩))
end Go.Proofs.Ytpjocohpogihcaa.AL
