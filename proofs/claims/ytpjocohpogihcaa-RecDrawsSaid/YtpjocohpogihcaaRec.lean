/- Records: what is written of cells, pairs, edges and draws. -/
import Derived.Test.YtpjocohpogihcaaOct2
import Derived.Test.YtpjocohpogihcaaNum
namespace Go.Proofs.Ytpjocohpogihcaa.AL
set_option linter.unusedVariables false
set_option linter.unusedSimpArgs false
set_option maxRecDepth 10000
set_option maxHeartbeats 2000000
open Go

def idB (n : Int) : Bool := decide (0 ≤ n ∧ n < 1048576)
def mayB (xs : List Int) : Bool := xs.all idB

theorem putS_size (n k : Int) : (putS n k).size ≤ 8 := by
  unfold putS
  split
  · rename_i h
    simp only [putB, Bool.and_eq_true, decide_eq_true_eq] at h
    simp only [ByteArray.size, List.size_toArray, be_len]
    omega
  · simp [ByteArray.size]

theorem idB_put {n : Int} (h : idB n = true) : putB n 4 = true := by
  simp only [idB, decide_eq_true_eq] at h
  simp [putB]; omega

theorem mayB_succ {xs : List Int} {t : Nat} (ht : t < xs.length) : mayB (xs.take (t + 1)) = (mayB (xs.take t) && idB xs[t]) := by
  have h5 : xs.take (t + 1) = xs.take t ++ [xs[t]] := by rw [List.take_add_one, List.getElem?_eq_getElem ht]; rfl
  rw [h5]
  unfold mayB
  rw [List.all_append]
  simp

-- chainman/rec.may: function 61
theorem rec_may (xs : List Int) (b : Nat) (h : AHeap) (hb : h[b]? = some (.cells (xs.map intV))) (hx : xs.length < 9223372036854775808) :
    ACalls Try.prog 61 [.sl 1 b 0 xs.length] h fun e h' => e = .ret (.lit (.bool (mayB xs))) ∧ h' = h := by
  refine acalls_of Try.func61 (by rfl) fun hok => ?_
  simp only [List.length_cons, List.length_nil, Nat.reduceAdd, show Try.f61.ntmps = 18 from rfl, Nat.reduceSub, List.replicate, List.cons_append, List.nil_append]
  (repeat' (first
      | ((with_reducible refine wp_head ?_); first
          | with_reducible refine awp_seq ?_
          | with_reducible refine awp_block ?_
          | with_reducible refine awp_regionL ?_
          | with_reducible refine awp_skip ?_
          | with_reducible refine awp_exit ?_
          | with_reducible refine awp_ret ?_
          | with_reducible refine awp_goto ?_
          | (refine awp_test (by rfl) ?_; first | with_reducible refine cc_t ?_ | with_reducible refine cc_f ?_)
          | ((refine awp_cond_case (by rfl) (by simp only [go_sem]; rfl) (by simp only [go_sem]; rfl) (fun hcase => ?_) (fun hcase => ?_)) <;> (try simp only [decide_eq_true_eq, decide_eq_false_iff_not, Bool.not_eq_true', Bool.not_eq_false', beq_iff_eq, ne_eq] at hcase) <;> first | (exfalso; omega) | contradiction | skip))
      | ((with_reducible refine st_head ?_); first
          | with_reducible refine st_nil ?_
          | (refine st_none rfl fun K QK hK hQK => ?_; simp (config := { decide := true }) only [go_sem, Nat.reduceAdd, Nat.reduceMul, Nat.reduceSub, Nat.reduceLeDiff, Int.reduceToNat, reduceCtorEq, reduceIte])
          | (refine st_test rfl (by rfl) (by rfl) (by simp only [go_sem]; rfl) ?_; first | (with_reducible refine gc_ft ?_) | (with_reducible refine gc_tf ?_) | ((with_reducible refine gc_tt fun K QK hK hQK => ?_); simp (config := { decide := true }) only [go_sem, Nat.reduceAdd, Nat.reduceMul, Nat.reduceSub, Nat.reduceLeDiff, Int.reduceToNat, reduceCtorEq, reduceIte]) | ((with_reducible refine gc_ff fun K QK hK hQK => ?_); simp (config := { decide := true }) only [go_sem, Nat.reduceAdd, Nat.reduceMul, Nat.reduceSub, Nat.reduceLeDiff, Int.reduceToNat, reduceCtorEq, reduceIte]))
          | ((refine st_case rfl (by rfl) (by rfl) (by simp only [go_sem]; rfl) (by simp only [go_sem]; rfl) (fun hcase => ?_) (fun hcase => ?_)) <;> (try simp only [decide_eq_true_eq, decide_eq_false_iff_not, Bool.not_eq_true', Bool.not_eq_false', beq_iff_eq, ne_eq] at hcase) <;> first | (exfalso; omega) | contradiction | skip)
          | (refine st_nil ?_))
      | ((with_reducible refine sq_head ?_); first
          | with_reducible refine sq_nil ?_
          | (refine sq_none rfl fun K hK => ?_; simp (config := { decide := true }) only [go_sem, Nat.reduceAdd, Nat.reduceMul, Nat.reduceSub, Nat.reduceLeDiff, Int.reduceToNat, reduceCtorEq, reduceIte, exists_eq_left', exists_and_left, and_assoc])
          | (refine sq_test rfl (by rfl) (by rfl) (by simp only [go_sem]; rfl) ?_; first | (with_reducible refine gc_ft ?_) | (with_reducible refine gc_tf ?_) | ((with_reducible refine gc_tt fun K hK => ?_); simp (config := { decide := true }) only [go_sem, Nat.reduceAdd, Nat.reduceMul, Nat.reduceSub, Nat.reduceLeDiff, Int.reduceToNat, reduceCtorEq, reduceIte, exists_eq_left', exists_and_left, and_assoc]) | ((with_reducible refine gc_ff fun K hK => ?_); simp (config := { decide := true }) only [go_sem, Nat.reduceAdd, Nat.reduceMul, Nat.reduceSub, Nat.reduceLeDiff, Int.reduceToNat, reduceCtorEq, reduceIte, exists_eq_left', exists_and_left, and_assoc]))
          | ((refine sq_case rfl (by rfl) (by rfl) (by simp only [go_sem]; rfl) (by simp only [go_sem]; rfl) (fun hcase => ?_) (fun hcase => ?_)) <;> (try simp only [decide_eq_true_eq, decide_eq_false_iff_not, Bool.not_eq_true', Bool.not_eq_false', beq_iff_eq, ne_eq] at hcase) <;> first | (exfalso; omega) | contradiction | skip)
          | (refine sq_nil ?_))
      | with_reducible refine th_normal ?_
      | with_reducible refine th_ret ?_
      | with_reducible refine th_exit ?_
      | with_reducible refine bl_normal ?_
      | with_reducible refine bl_ret ?_
      | with_reducible refine bl_exit ?_
      | with_reducible refine bl_exit_ne (by decide) ?_
      | with_reducible refine th_goto ?_
      | with_reducible refine bl_goto ?_
      | (with_reducible refine hK _ _ ?_; clear hK hQK K QK)
      | (with_reducible refine hK _ ?_; clear hK K)
      | ((with_reducible refine body_ret tr61 ?_); simp (config := { decide := true }) only [go_sem, Nat.reduceAdd, Nat.reduceMul, Nat.reduceSub, Nat.reduceLeDiff, Int.reduceToNat, reduceCtorEq, reduceIte])
      | ((with_reducible refine body_normal tr61 ?_); simp (config := { decide := true }) only [go_sem, Nat.reduceAdd, Nat.reduceMul, Nat.reduceSub, Nat.reduceLeDiff, Int.reduceToNat, reduceCtorEq, reduceIte])
      | (refine And.intro (by first | omega | (simp only [ByteArray.size_append]; omega)) ?_)))
  refine awp_loops (fun a g => ∃ t : Nat, t ≤ xs.length ∧ mayB (xs.take t) = true ∧ a = [.any, .any, .lit (.bool false), .any, .any, .sl 1 b 0 xs.length, .lit (.int .i64 xs.length), .lit (.int .i64 t), .any, .any, .any, .any, .any, .any, .any, .any, .any, .any] ∧ g = h) (fun a _ => xs.length - (slotI a 7).toNat) ?_ ?_
  · refine ⟨_, ?_, 0, by omega, rfl, rfl, rfl⟩
    simp [Weak]
  rintro a g ⟨t, ht, hm, rfl, rfl⟩
  by_cases h1 : t < xs.length
  · have h2 : (t : Int) < xs.length := by omega
    have h3 : (xs.map intV)[t]? = some (.lit (.int .i64 xs[t])) := by simp [h1, intV]
    have h4 : IntKind.i64.wrap ((t : Int) + 1) = ((t + 1 : Nat) : Int) := by rw [wrap_id (by omega) (by omega)]; omega
    have h5 := mayB_succ h1
    by_cases hi : idB xs[t] = true
    · have h6 : 0 ≤ xs[t] ∧ xs[t] < 1048576 := by simpa [idB] using hi
      have h7 : ¬ xs[t] < 0 := by omega
      have h8 : ¬ xs[t] ≥ 1048576 := by omega
      (repeat' (first
          | ((with_reducible refine wp_head ?_); first
              | with_reducible refine awp_seq ?_
              | with_reducible refine awp_block ?_
              | with_reducible refine awp_regionL ?_
              | with_reducible refine awp_skip ?_
              | with_reducible refine awp_exit ?_
              | with_reducible refine awp_ret ?_
              | with_reducible refine awp_goto ?_
              | (refine awp_test (by rfl) ?_; first | with_reducible refine cc_t ?_ | with_reducible refine cc_f ?_)
              | ((refine awp_cond_case (by rfl) (by simp only [go_sem]; rfl) (by simp only [go_sem]; rfl) (fun hcase => ?_) (fun hcase => ?_)) <;> (try simp only [decide_eq_true_eq, decide_eq_false_iff_not, Bool.not_eq_true', Bool.not_eq_false', beq_iff_eq, ne_eq] at hcase) <;> first | (exfalso; omega) | contradiction | skip))
          | ((with_reducible refine st_head ?_); first
              | with_reducible refine st_nil ?_
              | (refine st_none rfl fun K QK hK hQK => ?_; simp (config := { decide := true }) only [go_sem, Nat.reduceAdd, Nat.reduceMul, Nat.reduceSub, Nat.reduceLeDiff, Int.reduceToNat, reduceCtorEq, reduceIte, h2, hb, h3, h4, List.length_map, h7, h8])
              | (refine st_test rfl (by rfl) (by rfl) (by simp only [go_sem]; rfl) ?_; first | (with_reducible refine gc_ft ?_) | (with_reducible refine gc_tf ?_) | ((with_reducible refine gc_tt fun K QK hK hQK => ?_); simp (config := { decide := true }) only [go_sem, Nat.reduceAdd, Nat.reduceMul, Nat.reduceSub, Nat.reduceLeDiff, Int.reduceToNat, reduceCtorEq, reduceIte, h2, hb, h3, h4, List.length_map, h7, h8]) | ((with_reducible refine gc_ff fun K QK hK hQK => ?_); simp (config := { decide := true }) only [go_sem, Nat.reduceAdd, Nat.reduceMul, Nat.reduceSub, Nat.reduceLeDiff, Int.reduceToNat, reduceCtorEq, reduceIte, h2, hb, h3, h4, List.length_map, h7, h8]))
              | ((refine st_case rfl (by rfl) (by rfl) (by simp only [go_sem]; rfl) (by simp only [go_sem]; rfl) (fun hcase => ?_) (fun hcase => ?_)) <;> (try simp only [decide_eq_true_eq, decide_eq_false_iff_not, Bool.not_eq_true', Bool.not_eq_false', beq_iff_eq, ne_eq] at hcase) <;> first | (exfalso; omega) | contradiction | skip)
              | (refine st_nil ?_))
          | ((with_reducible refine sq_head ?_); first
              | with_reducible refine sq_nil ?_
              | (refine sq_none rfl fun K hK => ?_; simp (config := { decide := true }) only [go_sem, Nat.reduceAdd, Nat.reduceMul, Nat.reduceSub, Nat.reduceLeDiff, Int.reduceToNat, reduceCtorEq, reduceIte, h2, hb, h3, h4, List.length_map, h7, h8, exists_eq_left', exists_and_left, and_assoc])
              | (refine sq_test rfl (by rfl) (by rfl) (by simp only [go_sem]; rfl) ?_; first | (with_reducible refine gc_ft ?_) | (with_reducible refine gc_tf ?_) | ((with_reducible refine gc_tt fun K hK => ?_); simp (config := { decide := true }) only [go_sem, Nat.reduceAdd, Nat.reduceMul, Nat.reduceSub, Nat.reduceLeDiff, Int.reduceToNat, reduceCtorEq, reduceIte, h2, hb, h3, h4, List.length_map, h7, h8, exists_eq_left', exists_and_left, and_assoc]) | ((with_reducible refine gc_ff fun K hK => ?_); simp (config := { decide := true }) only [go_sem, Nat.reduceAdd, Nat.reduceMul, Nat.reduceSub, Nat.reduceLeDiff, Int.reduceToNat, reduceCtorEq, reduceIte, h2, hb, h3, h4, List.length_map, h7, h8, exists_eq_left', exists_and_left, and_assoc]))
              | ((refine sq_case rfl (by rfl) (by rfl) (by simp only [go_sem]; rfl) (by simp only [go_sem]; rfl) (fun hcase => ?_) (fun hcase => ?_)) <;> (try simp only [decide_eq_true_eq, decide_eq_false_iff_not, Bool.not_eq_true', Bool.not_eq_false', beq_iff_eq, ne_eq] at hcase) <;> first | (exfalso; omega) | contradiction | skip)
              | (refine sq_nil ?_))
          | with_reducible refine th_normal ?_
          | with_reducible refine th_ret ?_
          | with_reducible refine th_exit ?_
          | with_reducible refine bl_normal ?_
          | with_reducible refine bl_ret ?_
          | with_reducible refine bl_exit ?_
          | with_reducible refine bl_exit_ne (by decide) ?_
          | with_reducible refine th_goto ?_
          | with_reducible refine bl_goto ?_
          | (with_reducible refine hK _ _ ?_; clear hK hQK K QK)
          | (with_reducible refine hK _ ?_; clear hK K)
          | ((with_reducible refine body_ret tr61 ?_); simp (config := { decide := true }) only [go_sem, Nat.reduceAdd, Nat.reduceMul, Nat.reduceSub, Nat.reduceLeDiff, Int.reduceToNat, reduceCtorEq, reduceIte, h2, hb, h3, h4, List.length_map, h7, h8])
          | ((with_reducible refine body_normal tr61 ?_); simp (config := { decide := true }) only [go_sem, Nat.reduceAdd, Nat.reduceMul, Nat.reduceSub, Nat.reduceLeDiff, Int.reduceToNat, reduceCtorEq, reduceIte, h2, hb, h3, h4, List.length_map, h7, h8])
          | (refine And.intro (by first | omega | (simp only [ByteArray.size_append]; omega)) ?_)))
      refine ⟨_, ?_, ⟨t + 1, by omega, ?_, rfl, rfl⟩, ?_⟩
      · simp [Weak]
      · rw [h5, hm, hi]; rfl
      · simp [slotI, aget]; omega
    · have h6 : ¬ (0 ≤ xs[t] ∧ xs[t] < 1048576) := by simpa [idB] using hi
      have h7 : mayB xs = false := by
        unfold mayB
        rw [List.all_eq_false]
        exact ⟨xs[t], List.getElem_mem h1, hi⟩
      (repeat' (first
          | ((with_reducible refine wp_head ?_); first
              | with_reducible refine awp_seq ?_
              | with_reducible refine awp_block ?_
              | with_reducible refine awp_regionL ?_
              | with_reducible refine awp_skip ?_
              | with_reducible refine awp_exit ?_
              | with_reducible refine awp_ret ?_
              | with_reducible refine awp_goto ?_
              | (refine awp_test (by rfl) ?_; first | with_reducible refine cc_t ?_ | with_reducible refine cc_f ?_)
              | ((refine awp_cond_case (by rfl) (by simp only [go_sem]; rfl) (by simp only [go_sem]; rfl) (fun hcase => ?_) (fun hcase => ?_)) <;> (try simp only [decide_eq_true_eq, decide_eq_false_iff_not, Bool.not_eq_true', Bool.not_eq_false', beq_iff_eq, ne_eq] at hcase) <;> first | (exfalso; omega) | contradiction | skip))
          | ((with_reducible refine st_head ?_); first
              | with_reducible refine st_nil ?_
              | (refine st_none rfl fun K QK hK hQK => ?_; simp (config := { decide := true }) only [go_sem, Nat.reduceAdd, Nat.reduceMul, Nat.reduceSub, Nat.reduceLeDiff, Int.reduceToNat, reduceCtorEq, reduceIte, h2, hb, h3, h4, List.length_map])
              | (refine st_test rfl (by rfl) (by rfl) (by simp only [go_sem]; rfl) ?_; first | (with_reducible refine gc_ft ?_) | (with_reducible refine gc_tf ?_) | ((with_reducible refine gc_tt fun K QK hK hQK => ?_); simp (config := { decide := true }) only [go_sem, Nat.reduceAdd, Nat.reduceMul, Nat.reduceSub, Nat.reduceLeDiff, Int.reduceToNat, reduceCtorEq, reduceIte, h2, hb, h3, h4, List.length_map]) | ((with_reducible refine gc_ff fun K QK hK hQK => ?_); simp (config := { decide := true }) only [go_sem, Nat.reduceAdd, Nat.reduceMul, Nat.reduceSub, Nat.reduceLeDiff, Int.reduceToNat, reduceCtorEq, reduceIte, h2, hb, h3, h4, List.length_map]))
              | ((refine st_case rfl (by rfl) (by rfl) (by simp only [go_sem]; rfl) (by simp only [go_sem]; rfl) (fun hcase => ?_) (fun hcase => ?_)) <;> (try simp only [decide_eq_true_eq, decide_eq_false_iff_not, Bool.not_eq_true', Bool.not_eq_false', beq_iff_eq, ne_eq] at hcase) <;> first | (exfalso; omega) | contradiction | skip)
              | (refine st_nil ?_))
          | ((with_reducible refine sq_head ?_); first
              | with_reducible refine sq_nil ?_
              | (refine sq_none rfl fun K hK => ?_; simp (config := { decide := true }) only [go_sem, Nat.reduceAdd, Nat.reduceMul, Nat.reduceSub, Nat.reduceLeDiff, Int.reduceToNat, reduceCtorEq, reduceIte, h2, hb, h3, h4, List.length_map, exists_eq_left', exists_and_left, and_assoc])
              | (refine sq_test rfl (by rfl) (by rfl) (by simp only [go_sem]; rfl) ?_; first | (with_reducible refine gc_ft ?_) | (with_reducible refine gc_tf ?_) | ((with_reducible refine gc_tt fun K hK => ?_); simp (config := { decide := true }) only [go_sem, Nat.reduceAdd, Nat.reduceMul, Nat.reduceSub, Nat.reduceLeDiff, Int.reduceToNat, reduceCtorEq, reduceIte, h2, hb, h3, h4, List.length_map, exists_eq_left', exists_and_left, and_assoc]) | ((with_reducible refine gc_ff fun K hK => ?_); simp (config := { decide := true }) only [go_sem, Nat.reduceAdd, Nat.reduceMul, Nat.reduceSub, Nat.reduceLeDiff, Int.reduceToNat, reduceCtorEq, reduceIte, h2, hb, h3, h4, List.length_map, exists_eq_left', exists_and_left, and_assoc]))
              | ((refine sq_case rfl (by rfl) (by rfl) (by simp only [go_sem]; rfl) (by simp only [go_sem]; rfl) (fun hcase => ?_) (fun hcase => ?_)) <;> (try simp only [decide_eq_true_eq, decide_eq_false_iff_not, Bool.not_eq_true', Bool.not_eq_false', beq_iff_eq, ne_eq] at hcase) <;> first | (exfalso; omega) | contradiction | skip)
              | (refine sq_nil ?_))
          | with_reducible refine th_normal ?_
          | with_reducible refine th_ret ?_
          | with_reducible refine th_exit ?_
          | with_reducible refine bl_normal ?_
          | with_reducible refine bl_ret ?_
          | with_reducible refine bl_exit ?_
          | with_reducible refine bl_exit_ne (by decide) ?_
          | with_reducible refine th_goto ?_
          | with_reducible refine bl_goto ?_
          | (with_reducible refine hK _ _ ?_; clear hK hQK K QK)
          | (with_reducible refine hK _ ?_; clear hK K)
          | ((with_reducible refine body_ret tr61 ?_); simp (config := { decide := true }) only [go_sem, Nat.reduceAdd, Nat.reduceMul, Nat.reduceSub, Nat.reduceLeDiff, Int.reduceToNat, reduceCtorEq, reduceIte, h2, hb, h3, h4, List.length_map])
          | ((with_reducible refine body_normal tr61 ?_); simp (config := { decide := true }) only [go_sem, Nat.reduceAdd, Nat.reduceMul, Nat.reduceSub, Nat.reduceLeDiff, Int.reduceToNat, reduceCtorEq, reduceIte, h2, hb, h3, h4, List.length_map])
          | (refine And.intro (by first | omega | (simp only [ByteArray.size_append]; omega)) ?_)
          | exact ends_here ⟨by rw [h7], rfl⟩))
  · obtain rfl : t = xs.length := by omega
    rw [List.take_length] at hm
    have h2 : ¬ (((xs.length : Nat) : Int) < ((xs.length : Nat) : Int)) := by omega
    (repeat' (first
        | ((with_reducible refine wp_head ?_); first
            | with_reducible refine awp_seq ?_
            | with_reducible refine awp_block ?_
            | with_reducible refine awp_regionL ?_
            | with_reducible refine awp_skip ?_
            | with_reducible refine awp_exit ?_
            | with_reducible refine awp_ret ?_
            | with_reducible refine awp_goto ?_
            | (refine awp_test (by rfl) ?_; first | with_reducible refine cc_t ?_ | with_reducible refine cc_f ?_)
            | ((refine awp_cond_case (by rfl) (by simp only [go_sem]; rfl) (by simp only [go_sem]; rfl) (fun hcase => ?_) (fun hcase => ?_)) <;> (try simp only [decide_eq_true_eq, decide_eq_false_iff_not, Bool.not_eq_true', Bool.not_eq_false', beq_iff_eq, ne_eq] at hcase) <;> first | (exfalso; omega) | contradiction | skip))
        | ((with_reducible refine st_head ?_); first
            | with_reducible refine st_nil ?_
            | (refine st_none rfl fun K QK hK hQK => ?_; simp (config := { decide := true }) only [go_sem, Nat.reduceAdd, Nat.reduceMul, Nat.reduceSub, Nat.reduceLeDiff, Int.reduceToNat, reduceCtorEq, reduceIte, h2])
            | (refine st_test rfl (by rfl) (by rfl) (by simp only [go_sem]; rfl) ?_; first | (with_reducible refine gc_ft ?_) | (with_reducible refine gc_tf ?_) | ((with_reducible refine gc_tt fun K QK hK hQK => ?_); simp (config := { decide := true }) only [go_sem, Nat.reduceAdd, Nat.reduceMul, Nat.reduceSub, Nat.reduceLeDiff, Int.reduceToNat, reduceCtorEq, reduceIte, h2]) | ((with_reducible refine gc_ff fun K QK hK hQK => ?_); simp (config := { decide := true }) only [go_sem, Nat.reduceAdd, Nat.reduceMul, Nat.reduceSub, Nat.reduceLeDiff, Int.reduceToNat, reduceCtorEq, reduceIte, h2]))
            | ((refine st_case rfl (by rfl) (by rfl) (by simp only [go_sem]; rfl) (by simp only [go_sem]; rfl) (fun hcase => ?_) (fun hcase => ?_)) <;> (try simp only [decide_eq_true_eq, decide_eq_false_iff_not, Bool.not_eq_true', Bool.not_eq_false', beq_iff_eq, ne_eq] at hcase) <;> first | (exfalso; omega) | contradiction | skip)
            | (refine st_nil ?_))
        | ((with_reducible refine sq_head ?_); first
            | with_reducible refine sq_nil ?_
            | (refine sq_none rfl fun K hK => ?_; simp (config := { decide := true }) only [go_sem, Nat.reduceAdd, Nat.reduceMul, Nat.reduceSub, Nat.reduceLeDiff, Int.reduceToNat, reduceCtorEq, reduceIte, h2, exists_eq_left', exists_and_left, and_assoc])
            | (refine sq_test rfl (by rfl) (by rfl) (by simp only [go_sem]; rfl) ?_; first | (with_reducible refine gc_ft ?_) | (with_reducible refine gc_tf ?_) | ((with_reducible refine gc_tt fun K hK => ?_); simp (config := { decide := true }) only [go_sem, Nat.reduceAdd, Nat.reduceMul, Nat.reduceSub, Nat.reduceLeDiff, Int.reduceToNat, reduceCtorEq, reduceIte, h2, exists_eq_left', exists_and_left, and_assoc]) | ((with_reducible refine gc_ff fun K hK => ?_); simp (config := { decide := true }) only [go_sem, Nat.reduceAdd, Nat.reduceMul, Nat.reduceSub, Nat.reduceLeDiff, Int.reduceToNat, reduceCtorEq, reduceIte, h2, exists_eq_left', exists_and_left, and_assoc]))
            | ((refine sq_case rfl (by rfl) (by rfl) (by simp only [go_sem]; rfl) (by simp only [go_sem]; rfl) (fun hcase => ?_) (fun hcase => ?_)) <;> (try simp only [decide_eq_true_eq, decide_eq_false_iff_not, Bool.not_eq_true', Bool.not_eq_false', beq_iff_eq, ne_eq] at hcase) <;> first | (exfalso; omega) | contradiction | skip)
            | (refine sq_nil ?_))
        | with_reducible refine th_normal ?_
        | with_reducible refine th_ret ?_
        | with_reducible refine th_exit ?_
        | with_reducible refine bl_normal ?_
        | with_reducible refine bl_ret ?_
        | with_reducible refine bl_exit ?_
        | with_reducible refine bl_exit_ne (by decide) ?_
        | with_reducible refine th_goto ?_
        | with_reducible refine bl_goto ?_
        | (with_reducible refine hK _ _ ?_; clear hK hQK K QK)
        | (with_reducible refine hK _ ?_; clear hK K)
        | ((with_reducible refine body_ret tr61 ?_); simp (config := { decide := true }) only [go_sem, Nat.reduceAdd, Nat.reduceMul, Nat.reduceSub, Nat.reduceLeDiff, Int.reduceToNat, reduceCtorEq, reduceIte, h2])
        | ((with_reducible refine body_normal tr61 ?_); simp (config := { decide := true }) only [go_sem, Nat.reduceAdd, Nat.reduceMul, Nat.reduceSub, Nat.reduceLeDiff, Int.reduceToNat, reduceCtorEq, reduceIte, h2])
        | (refine And.intro (by first | omega | (simp only [ByteArray.size_append]; omega)) ?_)
        | exact ends_here ⟨by rw [hm], rfl⟩))

def rowG : List Int → ByteArray → ByteArray × Bool
  | n :: k :: rest, s => if putB n k then rowG rest (s ++ putS n k) else (⟨#[]⟩, false)
  | _, s => (s, true)

theorem rowG_step {xs : List Int} {i : Nat} (hi : i + 1 < xs.length) (s : ByteArray) :
    rowG (xs.drop i) s = if putB xs[i] xs[i + 1] then rowG (xs.drop (i + 2)) (s ++ putS xs[i] xs[i + 1]) else (⟨#[]⟩, false) := by
  rw [List.drop_eq_getElem_cons (show i < xs.length by omega), List.drop_eq_getElem_cons hi]
  rfl
theorem rowG_end {xs : List Int} {i : Nat} (hi : ¬ i + 1 < xs.length) (s : ByteArray) : rowG (xs.drop i) s = (s, true) := by
  rcases Nat.lt_or_ge i xs.length with h | h
  · rw [List.drop_eq_getElem_cons h, List.drop_eq_nil_of_le (by omega)]
    rfl
  · rw [List.drop_eq_nil_of_le h]
    rfl

-- chainman/rec.row: function 60
theorem rec_row (xs : List Int) (b : Nat) (h : AHeap) (hb : h[b]? = some (.cells (xs.map intV))) (hx : xs.length < 1000000) (hn : ∀ n ∈ xs, n < 9223372036854775808) :
    ACalls Try.prog 60 [.sl 1 b 0 xs.length] h fun e h' => e = .ret (.tup [.lit (.string (rowG xs ⟨#[]⟩).1), .lit (.bool (rowG xs ⟨#[]⟩).2)]) ∧ h' = h := by
  refine acalls_of Try.func60 (by rfl) fun hok => ?_
  simp only [List.length_cons, List.length_nil, Nat.reduceAdd, show Try.f60.ntmps = 34 from rfl, Nat.reduceSub, List.replicate, List.cons_append, List.nil_append]
  (repeat' (first
      | ((with_reducible refine wp_head ?_); first
          | with_reducible refine awp_seq ?_
          | with_reducible refine awp_block ?_
          | with_reducible refine awp_regionL ?_
          | with_reducible refine awp_skip ?_
          | with_reducible refine awp_exit ?_
          | with_reducible refine awp_ret ?_
          | with_reducible refine awp_goto ?_
          | (with_reducible refine awp_drawL (id := 5) 15 tmix rfl rfl (by kernel_rfl) ?_)
          | (refine awp_test (by rfl) ?_; first | with_reducible refine cc_t ?_ | with_reducible refine cc_f ?_)
          | ((refine awp_cond_case (by rfl) (by simp only [go_sem]; rfl) (by simp only [go_sem]; rfl) (fun hcase => ?_) (fun hcase => ?_)) <;> (try simp only [decide_eq_true_eq, decide_eq_false_iff_not, Bool.not_eq_true', Bool.not_eq_false', beq_iff_eq, ne_eq] at hcase) <;> first | (exfalso; omega) | contradiction | skip))
      | ((with_reducible refine st_head ?_); first
          | with_reducible refine st_nil ?_
          | (refine st_none rfl fun K QK hK hQK => ?_; simp (config := { decide := true }) only [go_sem, Nat.reduceAdd, Nat.reduceMul, Nat.reduceSub, Nat.reduceLeDiff, Int.reduceToNat, reduceCtorEq, reduceIte])
          | (refine st_test rfl (by rfl) (by rfl) (by simp only [go_sem]; rfl) ?_; first | (with_reducible refine gc_ft ?_) | (with_reducible refine gc_tf ?_) | ((with_reducible refine gc_tt fun K QK hK hQK => ?_); simp (config := { decide := true }) only [go_sem, Nat.reduceAdd, Nat.reduceMul, Nat.reduceSub, Nat.reduceLeDiff, Int.reduceToNat, reduceCtorEq, reduceIte]) | ((with_reducible refine gc_ff fun K QK hK hQK => ?_); simp (config := { decide := true }) only [go_sem, Nat.reduceAdd, Nat.reduceMul, Nat.reduceSub, Nat.reduceLeDiff, Int.reduceToNat, reduceCtorEq, reduceIte]))
          | ((refine st_case rfl (by rfl) (by rfl) (by simp only [go_sem]; rfl) (by simp only [go_sem]; rfl) (fun hcase => ?_) (fun hcase => ?_)) <;> (try simp only [decide_eq_true_eq, decide_eq_false_iff_not, Bool.not_eq_true', Bool.not_eq_false', beq_iff_eq, ne_eq] at hcase) <;> first | (exfalso; omega) | contradiction | skip)
          | (refine st_nil ?_))
      | ((with_reducible refine sq_head ?_); first
          | with_reducible refine sq_nil ?_
          | (refine sq_none rfl fun K hK => ?_; simp (config := { decide := true }) only [go_sem, Nat.reduceAdd, Nat.reduceMul, Nat.reduceSub, Nat.reduceLeDiff, Int.reduceToNat, reduceCtorEq, reduceIte, exists_eq_left', exists_and_left, and_assoc])
          | (refine sq_test rfl (by rfl) (by rfl) (by simp only [go_sem]; rfl) ?_; first | (with_reducible refine gc_ft ?_) | (with_reducible refine gc_tf ?_) | ((with_reducible refine gc_tt fun K hK => ?_); simp (config := { decide := true }) only [go_sem, Nat.reduceAdd, Nat.reduceMul, Nat.reduceSub, Nat.reduceLeDiff, Int.reduceToNat, reduceCtorEq, reduceIte, exists_eq_left', exists_and_left, and_assoc]) | ((with_reducible refine gc_ff fun K hK => ?_); simp (config := { decide := true }) only [go_sem, Nat.reduceAdd, Nat.reduceMul, Nat.reduceSub, Nat.reduceLeDiff, Int.reduceToNat, reduceCtorEq, reduceIte, exists_eq_left', exists_and_left, and_assoc]))
          | ((refine sq_case rfl (by rfl) (by rfl) (by simp only [go_sem]; rfl) (by simp only [go_sem]; rfl) (fun hcase => ?_) (fun hcase => ?_)) <;> (try simp only [decide_eq_true_eq, decide_eq_false_iff_not, Bool.not_eq_true', Bool.not_eq_false', beq_iff_eq, ne_eq] at hcase) <;> first | (exfalso; omega) | contradiction | skip)
          | (refine sq_nil ?_))
      | with_reducible refine th_normal ?_
      | with_reducible refine th_ret ?_
      | with_reducible refine th_exit ?_
      | with_reducible refine bl_normal ?_
      | with_reducible refine bl_ret ?_
      | with_reducible refine bl_exit ?_
      | with_reducible refine bl_exit_ne (by decide) ?_
      | with_reducible refine th_goto ?_
      | with_reducible refine bl_goto ?_
      | (with_reducible refine hK _ _ ?_; clear hK hQK K QK)
      | (with_reducible refine hK _ ?_; clear hK K)
      | ((with_reducible refine body_ret tr60 ?_); simp (config := { decide := true }) only [go_sem, Nat.reduceAdd, Nat.reduceMul, Nat.reduceSub, Nat.reduceLeDiff, Int.reduceToNat, reduceCtorEq, reduceIte])
      | ((with_reducible refine body_normal tr60 ?_); simp (config := { decide := true }) only [go_sem, Nat.reduceAdd, Nat.reduceMul, Nat.reduceSub, Nat.reduceLeDiff, Int.reduceToNat, reduceCtorEq, reduceIte])
      | (refine And.intro (by first | omega | (simp only [ByteArray.size_append]; omega)) ?_)))
  refine awp_loops (fun a g => ∃ (t : Nat) (s : ByteArray), s.size ≤ 8 * t ∧ t ≤ xs.length + 1 ∧ rowG xs ⟨#[]⟩ = rowG (xs.drop t) s ∧ a = [.sl 1 b 0 xs.length, .any, .lit (.string ⟨#[]⟩), .lit (.bool false), .lit (.string s), .lit (.int .i64 t), .any, .any, .any, .any, .any, .any, .any, .any, .any, .any, .any, .any, .any, .any, .any, .any, .any, .any, .any, .any, .any, .any, .any, .any, .any, .any, .any, .any] ∧ g = h) (fun a _ => xs.length + 1 - (slotI a 5).toNat) ?_ ?_
  · refine ⟨_, ?_, 0, ⟨#[]⟩, by simp [ByteArray.size], by omega, rfl, rfl, rfl⟩
    simp [Weak]
  rintro a g ⟨t, s, hs, ht, hr, rfl, rfl⟩
  have h0 : IntKind.i64.wrap ((t : Int) + 1) = ((t + 1 : Nat) : Int) := by rw [wrap_id (by omega) (by omega)]; omega
  by_cases h1 : t + 1 < xs.length
  · have h2 : ((t + 1 : Nat) : Int) < xs.length := by omega
    have h3 : (xs.map intV)[t]? = some (.lit (.int .i64 xs[t])) := by simp [show t < xs.length by omega, intV]
    have h3' : (xs.map intV)[t + 1]? = some (.lit (.int .i64 xs[t + 1])) := by simp [h1, intV]
    have h4 : IntKind.i64.wrap ((t : Int) + 2) = ((t + 2 : Nat) : Int) := by rw [wrap_id (by omega) (by omega)]; omega
    have h5 := rowG_step h1 s
    have h6 := putS_size xs[t] xs[t + 1]
    have h7 : s.size + (putS xs[t] xs[t + 1]).size ≤ 9223372036854775807 := by omega
    have h8 : xs[t] < 9223372036854775808 := hn _ (List.getElem_mem (by omega))
    rcases Bool.eq_false_or_eq_true (putB xs[t] xs[t + 1]) with hp | hp
    · (repeat' (first
        | ((with_reducible refine wp_head ?_); first
            | with_reducible refine awp_seq ?_
            | with_reducible refine awp_block ?_
            | with_reducible refine awp_regionL ?_
            | with_reducible refine awp_skip ?_
            | with_reducible refine awp_exit ?_
            | with_reducible refine awp_ret ?_
            | with_reducible refine awp_goto ?_
            | (with_reducible refine awp_drawL (id := 5) 15 tmix rfl rfl (by kernel_rfl) ?_)
            | (refine awp_test (by rfl) ?_; first | with_reducible refine cc_t ?_ | with_reducible refine cc_f ?_)
            | ((refine awp_cond_case (by rfl) (by simp only [go_sem]; rfl) (by simp only [go_sem]; rfl) (fun hcase => ?_) (fun hcase => ?_)) <;> (try simp only [decide_eq_true_eq, decide_eq_false_iff_not, Bool.not_eq_true', Bool.not_eq_false', beq_iff_eq, ne_eq] at hcase) <;> first | (exfalso; omega) | contradiction | skip))
        | ((with_reducible refine st_head ?_); first
            | with_reducible refine st_nil ?_
            | (refine st_none rfl fun K QK hK hQK => ?_; simp (config := { decide := true }) only [go_sem, Nat.reduceAdd, Nat.reduceMul, Nat.reduceSub, Nat.reduceLeDiff, Int.reduceToNat, reduceCtorEq, reduceIte, h0, h2, hb, h3, h3', h4, List.length_map, hp])
            | (refine st_test rfl (by rfl) (by rfl) (by simp only [go_sem]; rfl) ?_; first | (with_reducible refine gc_ft ?_) | (with_reducible refine gc_tf ?_) | ((with_reducible refine gc_tt fun K QK hK hQK => ?_); simp (config := { decide := true }) only [go_sem, Nat.reduceAdd, Nat.reduceMul, Nat.reduceSub, Nat.reduceLeDiff, Int.reduceToNat, reduceCtorEq, reduceIte, h0, h2, hb, h3, h3', h4, List.length_map, hp]) | ((with_reducible refine gc_ff fun K QK hK hQK => ?_); simp (config := { decide := true }) only [go_sem, Nat.reduceAdd, Nat.reduceMul, Nat.reduceSub, Nat.reduceLeDiff, Int.reduceToNat, reduceCtorEq, reduceIte, h0, h2, hb, h3, h3', h4, List.length_map, hp]))
            | ((refine st_case rfl (by rfl) (by rfl) (by simp only [go_sem]; rfl) (by simp only [go_sem]; rfl) (fun hcase => ?_) (fun hcase => ?_)) <;> (try simp only [decide_eq_true_eq, decide_eq_false_iff_not, Bool.not_eq_true', Bool.not_eq_false', beq_iff_eq, ne_eq] at hcase) <;> first | (exfalso; omega) | contradiction | skip)
            | (refine st_nil ?_))
        | ((with_reducible refine sq_head ?_); first
            | with_reducible refine sq_nil ?_
            | (refine sq_none rfl fun K hK => ?_; simp (config := { decide := true }) only [go_sem, Nat.reduceAdd, Nat.reduceMul, Nat.reduceSub, Nat.reduceLeDiff, Int.reduceToNat, reduceCtorEq, reduceIte, h0, h2, hb, h3, h3', h4, List.length_map, hp, exists_eq_left', exists_and_left, and_assoc])
            | (refine sq_test rfl (by rfl) (by rfl) (by simp only [go_sem]; rfl) ?_; first | (with_reducible refine gc_ft ?_) | (with_reducible refine gc_tf ?_) | ((with_reducible refine gc_tt fun K hK => ?_); simp (config := { decide := true }) only [go_sem, Nat.reduceAdd, Nat.reduceMul, Nat.reduceSub, Nat.reduceLeDiff, Int.reduceToNat, reduceCtorEq, reduceIte, h0, h2, hb, h3, h3', h4, List.length_map, hp, exists_eq_left', exists_and_left, and_assoc]) | ((with_reducible refine gc_ff fun K hK => ?_); simp (config := { decide := true }) only [go_sem, Nat.reduceAdd, Nat.reduceMul, Nat.reduceSub, Nat.reduceLeDiff, Int.reduceToNat, reduceCtorEq, reduceIte, h0, h2, hb, h3, h3', h4, List.length_map, hp, exists_eq_left', exists_and_left, and_assoc]))
            | ((refine sq_case rfl (by rfl) (by rfl) (by simp only [go_sem]; rfl) (by simp only [go_sem]; rfl) (fun hcase => ?_) (fun hcase => ?_)) <;> (try simp only [decide_eq_true_eq, decide_eq_false_iff_not, Bool.not_eq_true', Bool.not_eq_false', beq_iff_eq, ne_eq] at hcase) <;> first | (exfalso; omega) | contradiction | skip)
            | (refine sq_nil ?_))
        | with_reducible refine th_normal ?_
        | with_reducible refine th_ret ?_
        | with_reducible refine th_exit ?_
        | with_reducible refine bl_normal ?_
        | with_reducible refine bl_ret ?_
        | with_reducible refine bl_exit ?_
        | with_reducible refine bl_exit_ne (by decide) ?_
        | with_reducible refine th_goto ?_
        | with_reducible refine bl_goto ?_
        | (with_reducible refine hK _ _ ?_; clear hK hQK K QK)
        | (with_reducible refine hK _ ?_; clear hK K)
        | ((with_reducible refine body_ret tr60 ?_); simp (config := { decide := true }) only [go_sem, Nat.reduceAdd, Nat.reduceMul, Nat.reduceSub, Nat.reduceLeDiff, Int.reduceToNat, reduceCtorEq, reduceIte, h0, h2, hb, h3, h3', h4, List.length_map, hp])
        | ((with_reducible refine body_normal tr60 ?_); simp (config := { decide := true }) only [go_sem, Nat.reduceAdd, Nat.reduceMul, Nat.reduceSub, Nat.reduceLeDiff, Int.reduceToNat, reduceCtorEq, reduceIte, h0, h2, hb, h3, h3', h4, List.length_map, hp])
        | (refine And.intro (by first | omega | (simp only [ByteArray.size_append]; omega)) ?_)
        | (refine call_ex (octet_Put _ _ h8) ?_; simp (config := { decide := true }) only [go_sem, Nat.reduceAdd, Nat.reduceMul, Nat.reduceSub, Nat.reduceLeDiff, Int.reduceToNat, reduceCtorEq, reduceIte, hp])
        | (refine And.intro h7 ?_)))
      refine ⟨_, ?_, ⟨t + 2, s ++ putS xs[t] xs[t + 1], ?_, by omega, ?_, rfl, rfl⟩, ?_⟩
      · simp [Weak]
      · rw [ByteArray.size_append]; omega
      · rw [hr, h5, hp]; rfl
      · simp [slotI, aget]; omega
    · rw [hp] at h5
      (repeat' (first
          | ((with_reducible refine wp_head ?_); first
              | with_reducible refine awp_seq ?_
              | with_reducible refine awp_block ?_
              | with_reducible refine awp_regionL ?_
              | with_reducible refine awp_skip ?_
              | with_reducible refine awp_exit ?_
              | with_reducible refine awp_ret ?_
              | with_reducible refine awp_goto ?_
              | (with_reducible refine awp_drawL (id := 5) 15 tmix rfl rfl (by kernel_rfl) ?_)
              | (refine awp_test (by rfl) ?_; first | with_reducible refine cc_t ?_ | with_reducible refine cc_f ?_)
              | ((refine awp_cond_case (by rfl) (by simp only [go_sem]; rfl) (by simp only [go_sem]; rfl) (fun hcase => ?_) (fun hcase => ?_)) <;> (try simp only [decide_eq_true_eq, decide_eq_false_iff_not, Bool.not_eq_true', Bool.not_eq_false', beq_iff_eq, ne_eq] at hcase) <;> first | (exfalso; omega) | contradiction | skip))
          | ((with_reducible refine st_head ?_); first
              | with_reducible refine st_nil ?_
              | (refine st_none rfl fun K QK hK hQK => ?_; simp (config := { decide := true }) only [go_sem, Nat.reduceAdd, Nat.reduceMul, Nat.reduceSub, Nat.reduceLeDiff, Int.reduceToNat, reduceCtorEq, reduceIte, h0, h2, hb, h3, h3', h4, List.length_map, hp])
              | (refine st_test rfl (by rfl) (by rfl) (by simp only [go_sem]; rfl) ?_; first | (with_reducible refine gc_ft ?_) | (with_reducible refine gc_tf ?_) | ((with_reducible refine gc_tt fun K QK hK hQK => ?_); simp (config := { decide := true }) only [go_sem, Nat.reduceAdd, Nat.reduceMul, Nat.reduceSub, Nat.reduceLeDiff, Int.reduceToNat, reduceCtorEq, reduceIte, h0, h2, hb, h3, h3', h4, List.length_map, hp]) | ((with_reducible refine gc_ff fun K QK hK hQK => ?_); simp (config := { decide := true }) only [go_sem, Nat.reduceAdd, Nat.reduceMul, Nat.reduceSub, Nat.reduceLeDiff, Int.reduceToNat, reduceCtorEq, reduceIte, h0, h2, hb, h3, h3', h4, List.length_map, hp]))
              | ((refine st_case rfl (by rfl) (by rfl) (by simp only [go_sem]; rfl) (by simp only [go_sem]; rfl) (fun hcase => ?_) (fun hcase => ?_)) <;> (try simp only [decide_eq_true_eq, decide_eq_false_iff_not, Bool.not_eq_true', Bool.not_eq_false', beq_iff_eq, ne_eq] at hcase) <;> first | (exfalso; omega) | contradiction | skip)
              | (refine st_nil ?_))
          | ((with_reducible refine sq_head ?_); first
              | with_reducible refine sq_nil ?_
              | (refine sq_none rfl fun K hK => ?_; simp (config := { decide := true }) only [go_sem, Nat.reduceAdd, Nat.reduceMul, Nat.reduceSub, Nat.reduceLeDiff, Int.reduceToNat, reduceCtorEq, reduceIte, h0, h2, hb, h3, h3', h4, List.length_map, hp, exists_eq_left', exists_and_left, and_assoc])
              | (refine sq_test rfl (by rfl) (by rfl) (by simp only [go_sem]; rfl) ?_; first | (with_reducible refine gc_ft ?_) | (with_reducible refine gc_tf ?_) | ((with_reducible refine gc_tt fun K hK => ?_); simp (config := { decide := true }) only [go_sem, Nat.reduceAdd, Nat.reduceMul, Nat.reduceSub, Nat.reduceLeDiff, Int.reduceToNat, reduceCtorEq, reduceIte, h0, h2, hb, h3, h3', h4, List.length_map, hp, exists_eq_left', exists_and_left, and_assoc]) | ((with_reducible refine gc_ff fun K hK => ?_); simp (config := { decide := true }) only [go_sem, Nat.reduceAdd, Nat.reduceMul, Nat.reduceSub, Nat.reduceLeDiff, Int.reduceToNat, reduceCtorEq, reduceIte, h0, h2, hb, h3, h3', h4, List.length_map, hp, exists_eq_left', exists_and_left, and_assoc]))
              | ((refine sq_case rfl (by rfl) (by rfl) (by simp only [go_sem]; rfl) (by simp only [go_sem]; rfl) (fun hcase => ?_) (fun hcase => ?_)) <;> (try simp only [decide_eq_true_eq, decide_eq_false_iff_not, Bool.not_eq_true', Bool.not_eq_false', beq_iff_eq, ne_eq] at hcase) <;> first | (exfalso; omega) | contradiction | skip)
              | (refine sq_nil ?_))
          | with_reducible refine th_normal ?_
          | with_reducible refine th_ret ?_
          | with_reducible refine th_exit ?_
          | with_reducible refine bl_normal ?_
          | with_reducible refine bl_ret ?_
          | with_reducible refine bl_exit ?_
          | with_reducible refine bl_exit_ne (by decide) ?_
          | with_reducible refine th_goto ?_
          | with_reducible refine bl_goto ?_
          | (with_reducible refine hK _ _ ?_; clear hK hQK K QK)
          | (with_reducible refine hK _ ?_; clear hK K)
          | ((with_reducible refine body_ret tr60 ?_); simp (config := { decide := true }) only [go_sem, Nat.reduceAdd, Nat.reduceMul, Nat.reduceSub, Nat.reduceLeDiff, Int.reduceToNat, reduceCtorEq, reduceIte, h0, h2, hb, h3, h3', h4, List.length_map, hp])
          | ((with_reducible refine body_normal tr60 ?_); simp (config := { decide := true }) only [go_sem, Nat.reduceAdd, Nat.reduceMul, Nat.reduceSub, Nat.reduceLeDiff, Int.reduceToNat, reduceCtorEq, reduceIte, h0, h2, hb, h3, h3', h4, List.length_map, hp])
          | (refine And.intro (by first | omega | (simp only [ByteArray.size_append]; omega)) ?_)
          | (refine call_ex (octet_Put _ _ h8) ?_; simp (config := { decide := true }) only [go_sem, Nat.reduceAdd, Nat.reduceMul, Nat.reduceSub, Nat.reduceLeDiff, Int.reduceToNat, reduceCtorEq, reduceIte, hp])
          | exact ends_here ⟨by rw [hr, h5]; rfl, rfl⟩))
  · have h2 : ¬ (((t + 1 : Nat) : Int) < xs.length) := by omega
    have h5 := rowG_end h1 s
    (repeat' (first
        | ((with_reducible refine wp_head ?_); first
            | with_reducible refine awp_seq ?_
            | with_reducible refine awp_block ?_
            | with_reducible refine awp_regionL ?_
            | with_reducible refine awp_skip ?_
            | with_reducible refine awp_exit ?_
            | with_reducible refine awp_ret ?_
            | with_reducible refine awp_goto ?_
            | (with_reducible refine awp_drawL (id := 5) 15 tmix rfl rfl (by kernel_rfl) ?_)
            | (refine awp_test (by rfl) ?_; first | with_reducible refine cc_t ?_ | with_reducible refine cc_f ?_)
            | ((refine awp_cond_case (by rfl) (by simp only [go_sem]; rfl) (by simp only [go_sem]; rfl) (fun hcase => ?_) (fun hcase => ?_)) <;> (try simp only [decide_eq_true_eq, decide_eq_false_iff_not, Bool.not_eq_true', Bool.not_eq_false', beq_iff_eq, ne_eq] at hcase) <;> first | (exfalso; omega) | contradiction | skip))
        | ((with_reducible refine st_head ?_); first
            | with_reducible refine st_nil ?_
            | (refine st_none rfl fun K QK hK hQK => ?_; simp (config := { decide := true }) only [go_sem, Nat.reduceAdd, Nat.reduceMul, Nat.reduceSub, Nat.reduceLeDiff, Int.reduceToNat, reduceCtorEq, reduceIte, h0, h2])
            | (refine st_test rfl (by rfl) (by rfl) (by simp only [go_sem]; rfl) ?_; first | (with_reducible refine gc_ft ?_) | (with_reducible refine gc_tf ?_) | ((with_reducible refine gc_tt fun K QK hK hQK => ?_); simp (config := { decide := true }) only [go_sem, Nat.reduceAdd, Nat.reduceMul, Nat.reduceSub, Nat.reduceLeDiff, Int.reduceToNat, reduceCtorEq, reduceIte, h0, h2]) | ((with_reducible refine gc_ff fun K QK hK hQK => ?_); simp (config := { decide := true }) only [go_sem, Nat.reduceAdd, Nat.reduceMul, Nat.reduceSub, Nat.reduceLeDiff, Int.reduceToNat, reduceCtorEq, reduceIte, h0, h2]))
            | ((refine st_case rfl (by rfl) (by rfl) (by simp only [go_sem]; rfl) (by simp only [go_sem]; rfl) (fun hcase => ?_) (fun hcase => ?_)) <;> (try simp only [decide_eq_true_eq, decide_eq_false_iff_not, Bool.not_eq_true', Bool.not_eq_false', beq_iff_eq, ne_eq] at hcase) <;> first | (exfalso; omega) | contradiction | skip)
            | (refine st_nil ?_))
        | ((with_reducible refine sq_head ?_); first
            | with_reducible refine sq_nil ?_
            | (refine sq_none rfl fun K hK => ?_; simp (config := { decide := true }) only [go_sem, Nat.reduceAdd, Nat.reduceMul, Nat.reduceSub, Nat.reduceLeDiff, Int.reduceToNat, reduceCtorEq, reduceIte, h0, h2, exists_eq_left', exists_and_left, and_assoc])
            | (refine sq_test rfl (by rfl) (by rfl) (by simp only [go_sem]; rfl) ?_; first | (with_reducible refine gc_ft ?_) | (with_reducible refine gc_tf ?_) | ((with_reducible refine gc_tt fun K hK => ?_); simp (config := { decide := true }) only [go_sem, Nat.reduceAdd, Nat.reduceMul, Nat.reduceSub, Nat.reduceLeDiff, Int.reduceToNat, reduceCtorEq, reduceIte, h0, h2, exists_eq_left', exists_and_left, and_assoc]) | ((with_reducible refine gc_ff fun K hK => ?_); simp (config := { decide := true }) only [go_sem, Nat.reduceAdd, Nat.reduceMul, Nat.reduceSub, Nat.reduceLeDiff, Int.reduceToNat, reduceCtorEq, reduceIte, h0, h2, exists_eq_left', exists_and_left, and_assoc]))
            | ((refine sq_case rfl (by rfl) (by rfl) (by simp only [go_sem]; rfl) (by simp only [go_sem]; rfl) (fun hcase => ?_) (fun hcase => ?_)) <;> (try simp only [decide_eq_true_eq, decide_eq_false_iff_not, Bool.not_eq_true', Bool.not_eq_false', beq_iff_eq, ne_eq] at hcase) <;> first | (exfalso; omega) | contradiction | skip)
            | (refine sq_nil ?_))
        | with_reducible refine th_normal ?_
        | with_reducible refine th_ret ?_
        | with_reducible refine th_exit ?_
        | with_reducible refine bl_normal ?_
        | with_reducible refine bl_ret ?_
        | with_reducible refine bl_exit ?_
        | with_reducible refine bl_exit_ne (by decide) ?_
        | with_reducible refine th_goto ?_
        | with_reducible refine bl_goto ?_
        | (with_reducible refine hK _ _ ?_; clear hK hQK K QK)
        | (with_reducible refine hK _ ?_; clear hK K)
        | ((with_reducible refine body_ret tr60 ?_); simp (config := { decide := true }) only [go_sem, Nat.reduceAdd, Nat.reduceMul, Nat.reduceSub, Nat.reduceLeDiff, Int.reduceToNat, reduceCtorEq, reduceIte, h0, h2])
        | ((with_reducible refine body_normal tr60 ?_); simp (config := { decide := true }) only [go_sem, Nat.reduceAdd, Nat.reduceMul, Nat.reduceSub, Nat.reduceLeDiff, Int.reduceToNat, reduceCtorEq, reduceIte, h0, h2])
        | (refine And.intro (by first | omega | (simp only [ByteArray.size_append]; omega)) ?_)
        | exact ends_here ⟨by rw [hr, h5], rfl⟩))

-- chainman/chainmanref14.id: function 63
theorem ref14_id (n : Int) : Pure1 Try.prog 63 [.lit (.int .i64 n)] (.lit (.bool (idB n))) := by
  intro h
  refine acalls_of Try.func63 (by rfl) fun hok => ?_
  simp only [List.length_cons, List.length_nil, Nat.reduceAdd, show Try.f63.ntmps = 9 from rfl, Nat.reduceSub, List.replicate, List.cons_append, List.nil_append]
  (repeat' (first
      | ((with_reducible refine wp_head ?_); first
          | with_reducible refine awp_seq ?_
          | with_reducible refine awp_block ?_
          | with_reducible refine awp_regionL ?_
          | with_reducible refine awp_skip ?_
          | with_reducible refine awp_exit ?_
          | with_reducible refine awp_ret ?_
          | with_reducible refine awp_goto ?_
          | (refine awp_test (by rfl) ?_; first | with_reducible refine cc_t ?_ | with_reducible refine cc_f ?_)
          | ((refine awp_cond_case (by rfl) (by simp only [go_sem]; rfl) (by simp only [go_sem]; rfl) (fun hcase => ?_) (fun hcase => ?_)) <;> (try simp only [decide_eq_true_eq, decide_eq_false_iff_not, Bool.not_eq_true', Bool.not_eq_false', beq_iff_eq, ne_eq] at hcase) <;> first | (exfalso; omega) | contradiction | skip))
      | ((with_reducible refine st_head ?_); first
          | with_reducible refine st_nil ?_
          | (refine st_none rfl fun K QK hK hQK => ?_; simp (config := { decide := true }) only [go_sem, Nat.reduceAdd, Nat.reduceMul, Nat.reduceSub, Nat.reduceLeDiff, Int.reduceToNat, reduceCtorEq, reduceIte])
          | (refine st_test rfl (by rfl) (by rfl) (by simp only [go_sem]; rfl) ?_; first | (with_reducible refine gc_ft ?_) | (with_reducible refine gc_tf ?_) | ((with_reducible refine gc_tt fun K QK hK hQK => ?_); simp (config := { decide := true }) only [go_sem, Nat.reduceAdd, Nat.reduceMul, Nat.reduceSub, Nat.reduceLeDiff, Int.reduceToNat, reduceCtorEq, reduceIte]) | ((with_reducible refine gc_ff fun K QK hK hQK => ?_); simp (config := { decide := true }) only [go_sem, Nat.reduceAdd, Nat.reduceMul, Nat.reduceSub, Nat.reduceLeDiff, Int.reduceToNat, reduceCtorEq, reduceIte]))
          | ((refine st_case rfl (by rfl) (by rfl) (by simp only [go_sem]; rfl) (by simp only [go_sem]; rfl) (fun hcase => ?_) (fun hcase => ?_)) <;> (try simp only [decide_eq_true_eq, decide_eq_false_iff_not, Bool.not_eq_true', Bool.not_eq_false', beq_iff_eq, ne_eq] at hcase) <;> first | (exfalso; omega) | contradiction | skip)
          | (refine st_nil ?_))
      | ((with_reducible refine sq_head ?_); first
          | with_reducible refine sq_nil ?_
          | (refine sq_none rfl fun K hK => ?_; simp (config := { decide := true }) only [go_sem, Nat.reduceAdd, Nat.reduceMul, Nat.reduceSub, Nat.reduceLeDiff, Int.reduceToNat, reduceCtorEq, reduceIte, exists_eq_left', exists_and_left, and_assoc])
          | (refine sq_test rfl (by rfl) (by rfl) (by simp only [go_sem]; rfl) ?_; first | (with_reducible refine gc_ft ?_) | (with_reducible refine gc_tf ?_) | ((with_reducible refine gc_tt fun K hK => ?_); simp (config := { decide := true }) only [go_sem, Nat.reduceAdd, Nat.reduceMul, Nat.reduceSub, Nat.reduceLeDiff, Int.reduceToNat, reduceCtorEq, reduceIte, exists_eq_left', exists_and_left, and_assoc]) | ((with_reducible refine gc_ff fun K hK => ?_); simp (config := { decide := true }) only [go_sem, Nat.reduceAdd, Nat.reduceMul, Nat.reduceSub, Nat.reduceLeDiff, Int.reduceToNat, reduceCtorEq, reduceIte, exists_eq_left', exists_and_left, and_assoc]))
          | ((refine sq_case rfl (by rfl) (by rfl) (by simp only [go_sem]; rfl) (by simp only [go_sem]; rfl) (fun hcase => ?_) (fun hcase => ?_)) <;> (try simp only [decide_eq_true_eq, decide_eq_false_iff_not, Bool.not_eq_true', Bool.not_eq_false', beq_iff_eq, ne_eq] at hcase) <;> first | (exfalso; omega) | contradiction | skip)
          | (refine sq_nil ?_))
      | with_reducible refine th_normal ?_
      | with_reducible refine th_ret ?_
      | with_reducible refine th_exit ?_
      | with_reducible refine bl_normal ?_
      | with_reducible refine bl_ret ?_
      | with_reducible refine bl_exit ?_
      | with_reducible refine bl_exit_ne (by decide) ?_
      | with_reducible refine th_goto ?_
      | with_reducible refine bl_goto ?_
      | (with_reducible refine hK _ _ ?_; clear hK hQK K QK)
      | (with_reducible refine hK _ ?_; clear hK K)
      | ((with_reducible refine body_ret tr63 ?_); simp (config := { decide := true }) only [go_sem, Nat.reduceAdd, Nat.reduceMul, Nat.reduceSub, Nat.reduceLeDiff, Int.reduceToNat, reduceCtorEq, reduceIte])
      | ((with_reducible refine body_normal tr63 ?_); simp (config := { decide := true }) only [go_sem, Nat.reduceAdd, Nat.reduceMul, Nat.reduceSub, Nat.reduceLeDiff, Int.reduceToNat, reduceCtorEq, reduceIte])
      | (refine And.intro (by first | omega | (simp only [ByteArray.size_append]; omega)) ?_)
      | exact ends_here ⟨by congr 3; unfold idB; rw [Bool.eq_iff_iff]; simp only [decide_eq_true_eq, Bool.false_eq_true, iff_false, false_iff]; omega, rfl⟩))

def pairP (a b : Int) : ByteArray × Bool := if (idB a && idB b) && decide (a < b) then (putS a 4 ++ putS b 4, true) else (⟨#[]⟩, false)

theorem app_none (s : ByteArray) : (⟨#[]⟩ : ByteArray) ++ s = s := by
  apply ba_ext; simp [ByteArray.toList_eq]
theorem mayB_1 (x : Int) : mayB [x] = idB x := by simp [mayB]
theorem mayB_2 (x y : Int) : mayB [x, y] = (idB x && idB y) := by simp [mayB]

-- chainman/rec.PutPair: function 22
theorem rec_PutPair (x y : Int) (h0 : x < 9223372036854775808) (h1 : y < 9223372036854775808) : Pure1 Try.prog 22 [.agg [.lit (.int .i64 x), .lit (.int .i64 y)]] (.tup [.lit (.string (pairP x y).1), .lit (.bool (pairP x y).2)]) := by
  intro h
  refine acalls_of Try.func22 (by rfl) fun hok => ?_
  simp only [List.length_cons, List.length_nil, Nat.reduceAdd, show Try.f22.ntmps = 26 from rfl, Nat.reduceSub, List.replicate, List.cons_append, List.nil_append]
  have hm := mayB_2 x y
  rcases Bool.eq_false_or_eq_true (idB x && idB y) with hi | hi
  · have hi' := hi
    rw [Bool.and_eq_true] at hi'
    have hr : rowG [x, 4, y, 4] ⟨#[]⟩ = (putS x 4 ++ putS y 4, true) := by simp [rowG, idB_put hi'.1, idB_put hi'.2, app_none]
    rw [hi] at hm
    clear hi'
    (repeat' (first
        | ((with_reducible refine wp_head ?_); first
            | with_reducible refine awp_seq ?_
            | with_reducible refine awp_block ?_
            | with_reducible refine awp_regionL ?_
            | with_reducible refine awp_skip ?_
            | with_reducible refine awp_exit ?_
            | with_reducible refine awp_ret ?_
            | with_reducible refine awp_goto ?_
            | (refine awp_test (by rfl) ?_; first | with_reducible refine cc_t ?_ | with_reducible refine cc_f ?_)
            | ((refine awp_cond_case (by rfl) (by simp only [go_sem]; rfl) (by simp only [go_sem]; rfl) (fun hcase => ?_) (fun hcase => ?_)) <;> (try simp only [decide_eq_true_eq, decide_eq_false_iff_not, Bool.not_eq_true', Bool.not_eq_false', beq_iff_eq, ne_eq] at hcase) <;> first | (exfalso; omega) | contradiction | skip))
        | ((with_reducible refine st_head ?_); first
            | with_reducible refine st_nil ?_
            | (refine st_none rfl fun K QK hK hQK => ?_; simp (config := { decide := true }) only [go_sem, Nat.reduceAdd, Nat.reduceMul, Nat.reduceSub, Nat.reduceLeDiff, Int.reduceToNat, reduceCtorEq, reduceIte, hm])
            | (refine st_test rfl (by rfl) (by rfl) (by simp only [go_sem]; rfl) ?_; first | (with_reducible refine gc_ft ?_) | (with_reducible refine gc_tf ?_) | ((with_reducible refine gc_tt fun K QK hK hQK => ?_); simp (config := { decide := true }) only [go_sem, Nat.reduceAdd, Nat.reduceMul, Nat.reduceSub, Nat.reduceLeDiff, Int.reduceToNat, reduceCtorEq, reduceIte, hm]) | ((with_reducible refine gc_ff fun K QK hK hQK => ?_); simp (config := { decide := true }) only [go_sem, Nat.reduceAdd, Nat.reduceMul, Nat.reduceSub, Nat.reduceLeDiff, Int.reduceToNat, reduceCtorEq, reduceIte, hm]))
            | ((refine st_case rfl (by rfl) (by rfl) (by simp only [go_sem]; rfl) (by simp only [go_sem]; rfl) (fun hcase => ?_) (fun hcase => ?_)) <;> (try simp only [decide_eq_true_eq, decide_eq_false_iff_not, Bool.not_eq_true', Bool.not_eq_false', beq_iff_eq, ne_eq] at hcase) <;> first | (exfalso; omega) | contradiction | skip)
            | (refine st_nil ?_))
        | ((with_reducible refine sq_head ?_); first
            | with_reducible refine sq_nil ?_
            | (refine sq_none rfl fun K hK => ?_; simp (config := { decide := true }) only [go_sem, Nat.reduceAdd, Nat.reduceMul, Nat.reduceSub, Nat.reduceLeDiff, Int.reduceToNat, reduceCtorEq, reduceIte, hm, exists_eq_left', exists_and_left, and_assoc])
            | (refine sq_test rfl (by rfl) (by rfl) (by simp only [go_sem]; rfl) ?_; first | (with_reducible refine gc_ft ?_) | (with_reducible refine gc_tf ?_) | ((with_reducible refine gc_tt fun K hK => ?_); simp (config := { decide := true }) only [go_sem, Nat.reduceAdd, Nat.reduceMul, Nat.reduceSub, Nat.reduceLeDiff, Int.reduceToNat, reduceCtorEq, reduceIte, hm, exists_eq_left', exists_and_left, and_assoc]) | ((with_reducible refine gc_ff fun K hK => ?_); simp (config := { decide := true }) only [go_sem, Nat.reduceAdd, Nat.reduceMul, Nat.reduceSub, Nat.reduceLeDiff, Int.reduceToNat, reduceCtorEq, reduceIte, hm, exists_eq_left', exists_and_left, and_assoc]))
            | ((refine sq_case rfl (by rfl) (by rfl) (by simp only [go_sem]; rfl) (by simp only [go_sem]; rfl) (fun hcase => ?_) (fun hcase => ?_)) <;> (try simp only [decide_eq_true_eq, decide_eq_false_iff_not, Bool.not_eq_true', Bool.not_eq_false', beq_iff_eq, ne_eq] at hcase) <;> first | (exfalso; omega) | contradiction | skip)
            | (refine sq_nil ?_))
        | with_reducible refine th_normal ?_
        | with_reducible refine th_ret ?_
        | with_reducible refine th_exit ?_
        | with_reducible refine bl_normal ?_
        | with_reducible refine bl_ret ?_
        | with_reducible refine bl_exit ?_
        | with_reducible refine bl_exit_ne (by decide) ?_
        | with_reducible refine th_goto ?_
        | with_reducible refine bl_goto ?_
        | (with_reducible refine hK _ _ ?_; clear hK hQK K QK)
        | (with_reducible refine hK _ ?_; clear hK K)
        | ((with_reducible refine body_ret tr22 ?_); simp (config := { decide := true }) only [go_sem, Nat.reduceAdd, Nat.reduceMul, Nat.reduceSub, Nat.reduceLeDiff, Int.reduceToNat, reduceCtorEq, reduceIte, hm])
        | ((with_reducible refine body_normal tr22 ?_); simp (config := { decide := true }) only [go_sem, Nat.reduceAdd, Nat.reduceMul, Nat.reduceSub, Nat.reduceLeDiff, Int.reduceToNat, reduceCtorEq, reduceIte, hm])
        | (refine And.intro (by first | omega | (simp only [ByteArray.size_append]; omega)) ?_)
        | (refine ACalls.mono (rec_may [x, y] _ _ (by simp [intV]) (by simp)) ?_; rintro _ _ ⟨rfl, rfl⟩; simp (config := { decide := true }) only [go_sem, Nat.reduceAdd, Nat.reduceMul, Nat.reduceSub, Nat.reduceLeDiff, Int.reduceToNat, reduceCtorEq, reduceIte, hm])
        | (refine ACalls.mono (rec_row [x, 4, y, 4] _ _ (by simp [intV]) (by simp) (by simp; omega)) ?_; rintro _ _ ⟨rfl, rfl⟩; simp (config := { decide := true }) only [go_sem, Nat.reduceAdd, Nat.reduceMul, Nat.reduceSub, Nat.reduceLeDiff, Int.reduceToNat, reduceCtorEq, reduceIte, hr])
        | ((first | refine ends_same hok rfl ⟨?_, rfl⟩ | refine ends_here ⟨?_, rfl⟩); first | (with_reducible rfl) | (simp [pairP, hi, *]; done) | (simp_all [pairP, hi]; done) | (simp_all [pairP, hi]; split <;> first | (exfalso; omega) | (simp_all; done)))))
  · rw [hi] at hm
    (repeat' (first
        | ((with_reducible refine wp_head ?_); first
            | with_reducible refine awp_seq ?_
            | with_reducible refine awp_block ?_
            | with_reducible refine awp_regionL ?_
            | with_reducible refine awp_skip ?_
            | with_reducible refine awp_exit ?_
            | with_reducible refine awp_ret ?_
            | with_reducible refine awp_goto ?_
            | (refine awp_test (by rfl) ?_; first | with_reducible refine cc_t ?_ | with_reducible refine cc_f ?_)
            | ((refine awp_cond_case (by rfl) (by simp only [go_sem]; rfl) (by simp only [go_sem]; rfl) (fun hcase => ?_) (fun hcase => ?_)) <;> (try simp only [decide_eq_true_eq, decide_eq_false_iff_not, Bool.not_eq_true', Bool.not_eq_false', beq_iff_eq, ne_eq] at hcase) <;> first | (exfalso; omega) | contradiction | skip))
        | ((with_reducible refine st_head ?_); first
            | with_reducible refine st_nil ?_
            | (refine st_none rfl fun K QK hK hQK => ?_; simp (config := { decide := true }) only [go_sem, Nat.reduceAdd, Nat.reduceMul, Nat.reduceSub, Nat.reduceLeDiff, Int.reduceToNat, reduceCtorEq, reduceIte, hm])
            | (refine st_test rfl (by rfl) (by rfl) (by simp only [go_sem]; rfl) ?_; first | (with_reducible refine gc_ft ?_) | (with_reducible refine gc_tf ?_) | ((with_reducible refine gc_tt fun K QK hK hQK => ?_); simp (config := { decide := true }) only [go_sem, Nat.reduceAdd, Nat.reduceMul, Nat.reduceSub, Nat.reduceLeDiff, Int.reduceToNat, reduceCtorEq, reduceIte, hm]) | ((with_reducible refine gc_ff fun K QK hK hQK => ?_); simp (config := { decide := true }) only [go_sem, Nat.reduceAdd, Nat.reduceMul, Nat.reduceSub, Nat.reduceLeDiff, Int.reduceToNat, reduceCtorEq, reduceIte, hm]))
            | ((refine st_case rfl (by rfl) (by rfl) (by simp only [go_sem]; rfl) (by simp only [go_sem]; rfl) (fun hcase => ?_) (fun hcase => ?_)) <;> (try simp only [decide_eq_true_eq, decide_eq_false_iff_not, Bool.not_eq_true', Bool.not_eq_false', beq_iff_eq, ne_eq] at hcase) <;> first | (exfalso; omega) | contradiction | skip)
            | (refine st_nil ?_))
        | ((with_reducible refine sq_head ?_); first
            | with_reducible refine sq_nil ?_
            | (refine sq_none rfl fun K hK => ?_; simp (config := { decide := true }) only [go_sem, Nat.reduceAdd, Nat.reduceMul, Nat.reduceSub, Nat.reduceLeDiff, Int.reduceToNat, reduceCtorEq, reduceIte, hm, exists_eq_left', exists_and_left, and_assoc])
            | (refine sq_test rfl (by rfl) (by rfl) (by simp only [go_sem]; rfl) ?_; first | (with_reducible refine gc_ft ?_) | (with_reducible refine gc_tf ?_) | ((with_reducible refine gc_tt fun K hK => ?_); simp (config := { decide := true }) only [go_sem, Nat.reduceAdd, Nat.reduceMul, Nat.reduceSub, Nat.reduceLeDiff, Int.reduceToNat, reduceCtorEq, reduceIte, hm, exists_eq_left', exists_and_left, and_assoc]) | ((with_reducible refine gc_ff fun K hK => ?_); simp (config := { decide := true }) only [go_sem, Nat.reduceAdd, Nat.reduceMul, Nat.reduceSub, Nat.reduceLeDiff, Int.reduceToNat, reduceCtorEq, reduceIte, hm, exists_eq_left', exists_and_left, and_assoc]))
            | ((refine sq_case rfl (by rfl) (by rfl) (by simp only [go_sem]; rfl) (by simp only [go_sem]; rfl) (fun hcase => ?_) (fun hcase => ?_)) <;> (try simp only [decide_eq_true_eq, decide_eq_false_iff_not, Bool.not_eq_true', Bool.not_eq_false', beq_iff_eq, ne_eq] at hcase) <;> first | (exfalso; omega) | contradiction | skip)
            | (refine sq_nil ?_))
        | with_reducible refine th_normal ?_
        | with_reducible refine th_ret ?_
        | with_reducible refine th_exit ?_
        | with_reducible refine bl_normal ?_
        | with_reducible refine bl_ret ?_
        | with_reducible refine bl_exit ?_
        | with_reducible refine bl_exit_ne (by decide) ?_
        | with_reducible refine th_goto ?_
        | with_reducible refine bl_goto ?_
        | (with_reducible refine hK _ _ ?_; clear hK hQK K QK)
        | (with_reducible refine hK _ ?_; clear hK K)
        | ((with_reducible refine body_ret tr22 ?_); simp (config := { decide := true }) only [go_sem, Nat.reduceAdd, Nat.reduceMul, Nat.reduceSub, Nat.reduceLeDiff, Int.reduceToNat, reduceCtorEq, reduceIte, hm])
        | ((with_reducible refine body_normal tr22 ?_); simp (config := { decide := true }) only [go_sem, Nat.reduceAdd, Nat.reduceMul, Nat.reduceSub, Nat.reduceLeDiff, Int.reduceToNat, reduceCtorEq, reduceIte, hm])
        | (refine And.intro (by first | omega | (simp only [ByteArray.size_append]; omega)) ?_)
        | (refine ACalls.mono (rec_may [x, y] _ _ (by simp [intV]) (by simp)) ?_; rintro _ _ ⟨rfl, rfl⟩; simp (config := { decide := true }) only [go_sem, Nat.reduceAdd, Nat.reduceMul, Nat.reduceSub, Nat.reduceLeDiff, Int.reduceToNat, reduceCtorEq, reduceIte, hm])
        | ((first | refine ends_same hok rfl ⟨?_, rfl⟩ | refine ends_here ⟨?_, rfl⟩); first | (with_reducible rfl) | (simp [pairP, hi, *]; done) | (simp_all [pairP, hi]; done) | (simp_all [pairP, hi]; split <;> first | (exfalso; omega) | (simp_all; done)))))

-- chainman/chainmanref14.PutPair: function 23
theorem ref14_PutPair (x y : Int) (h0 : x < 9223372036854775808) (h1 : y < 9223372036854775808) : Pure1 Try.prog 23 [.agg [.lit (.int .i64 x), .lit (.int .i64 y)]] (.tup [.lit (.string (pairP x y).1), .lit (.bool (pairP x y).2)]) := by
  intro h
  refine acalls_of Try.func23 (by rfl) fun hok => ?_
  simp only [List.length_cons, List.length_nil, Nat.reduceAdd, show Try.f23.ntmps = 28 from rfl, Nat.reduceSub, List.replicate, List.cons_append, List.nil_append]
  have e1 := putS_size x 4
  have e2 := putS_size y 4
  (repeat' (first
      | ((with_reducible refine wp_head ?_); first
          | with_reducible refine awp_seq ?_
          | with_reducible refine awp_block ?_
          | with_reducible refine awp_regionL ?_
          | with_reducible refine awp_skip ?_
          | with_reducible refine awp_exit ?_
          | with_reducible refine awp_ret ?_
          | with_reducible refine awp_goto ?_
          | (with_reducible refine awp_drawL (id := 3) 9 tmix rfl rfl (by kernel_rfl) ?_)
          | (refine awp_test (by rfl) ?_; first | with_reducible refine cc_t ?_ | with_reducible refine cc_f ?_)
          | ((refine awp_cond_case (by rfl) (by simp only [go_sem]; rfl) (by simp only [go_sem]; rfl) (fun hcase => ?_) (fun hcase => ?_)) <;> (try simp only [decide_eq_true_eq, decide_eq_false_iff_not, Bool.not_eq_true', Bool.not_eq_false', beq_iff_eq, ne_eq] at hcase) <;> first | (exfalso; omega) | contradiction | skip))
      | ((with_reducible refine st_head ?_); first
          | with_reducible refine st_nil ?_
          | (refine st_none rfl fun K QK hK hQK => ?_; simp (config := { decide := true }) only [go_sem, Nat.reduceAdd, Nat.reduceMul, Nat.reduceSub, Nat.reduceLeDiff, Int.reduceToNat, reduceCtorEq, reduceIte])
          | (refine st_test rfl (by rfl) (by rfl) (by simp only [go_sem]; rfl) ?_; first | (with_reducible refine gc_ft ?_) | (with_reducible refine gc_tf ?_) | ((with_reducible refine gc_tt fun K QK hK hQK => ?_); simp (config := { decide := true }) only [go_sem, Nat.reduceAdd, Nat.reduceMul, Nat.reduceSub, Nat.reduceLeDiff, Int.reduceToNat, reduceCtorEq, reduceIte]) | ((with_reducible refine gc_ff fun K QK hK hQK => ?_); simp (config := { decide := true }) only [go_sem, Nat.reduceAdd, Nat.reduceMul, Nat.reduceSub, Nat.reduceLeDiff, Int.reduceToNat, reduceCtorEq, reduceIte]))
          | ((refine st_case rfl (by rfl) (by rfl) (by simp only [go_sem]; rfl) (by simp only [go_sem]; rfl) (fun hcase => ?_) (fun hcase => ?_)) <;> (try simp only [decide_eq_true_eq, decide_eq_false_iff_not, Bool.not_eq_true', Bool.not_eq_false', beq_iff_eq, ne_eq] at hcase) <;> first | (exfalso; omega) | contradiction | skip)
          | (refine st_nil ?_))
      | ((with_reducible refine sq_head ?_); first
          | with_reducible refine sq_nil ?_
          | (refine sq_none rfl fun K hK => ?_; simp (config := { decide := true }) only [go_sem, Nat.reduceAdd, Nat.reduceMul, Nat.reduceSub, Nat.reduceLeDiff, Int.reduceToNat, reduceCtorEq, reduceIte, exists_eq_left', exists_and_left, and_assoc])
          | (refine sq_test rfl (by rfl) (by rfl) (by simp only [go_sem]; rfl) ?_; first | (with_reducible refine gc_ft ?_) | (with_reducible refine gc_tf ?_) | ((with_reducible refine gc_tt fun K hK => ?_); simp (config := { decide := true }) only [go_sem, Nat.reduceAdd, Nat.reduceMul, Nat.reduceSub, Nat.reduceLeDiff, Int.reduceToNat, reduceCtorEq, reduceIte, exists_eq_left', exists_and_left, and_assoc]) | ((with_reducible refine gc_ff fun K hK => ?_); simp (config := { decide := true }) only [go_sem, Nat.reduceAdd, Nat.reduceMul, Nat.reduceSub, Nat.reduceLeDiff, Int.reduceToNat, reduceCtorEq, reduceIte, exists_eq_left', exists_and_left, and_assoc]))
          | ((refine sq_case rfl (by rfl) (by rfl) (by simp only [go_sem]; rfl) (by simp only [go_sem]; rfl) (fun hcase => ?_) (fun hcase => ?_)) <;> (try simp only [decide_eq_true_eq, decide_eq_false_iff_not, Bool.not_eq_true', Bool.not_eq_false', beq_iff_eq, ne_eq] at hcase) <;> first | (exfalso; omega) | contradiction | skip)
          | (refine sq_nil ?_))
      | with_reducible refine th_normal ?_
      | with_reducible refine th_ret ?_
      | with_reducible refine th_exit ?_
      | with_reducible refine bl_normal ?_
      | with_reducible refine bl_ret ?_
      | with_reducible refine bl_exit ?_
      | with_reducible refine bl_exit_ne (by decide) ?_
      | with_reducible refine th_goto ?_
      | with_reducible refine bl_goto ?_
      | (with_reducible refine hK _ _ ?_; clear hK hQK K QK)
      | (with_reducible refine hK _ ?_; clear hK K)
      | ((with_reducible refine body_ret tr23 ?_); simp (config := { decide := true }) only [go_sem, Nat.reduceAdd, Nat.reduceMul, Nat.reduceSub, Nat.reduceLeDiff, Int.reduceToNat, reduceCtorEq, reduceIte])
      | ((with_reducible refine body_normal tr23 ?_); simp (config := { decide := true }) only [go_sem, Nat.reduceAdd, Nat.reduceMul, Nat.reduceSub, Nat.reduceLeDiff, Int.reduceToNat, reduceCtorEq, reduceIte])
      | (refine And.intro (by first | omega | (simp only [ByteArray.size_append]; omega)) ?_)
      | ((with_reducible refine ex_head (f := 63) ?_); refine call_ex (ref14_id _) ?_; try simp (config := { decide := true }) only [go_sem, Nat.reduceAdd, Nat.reduceMul, Nat.reduceSub, Nat.reduceLeDiff, Int.reduceToNat, reduceCtorEq, reduceIte, exists_eq_left', exists_and_left, and_assoc])
      | ((with_reducible refine call_head (f := 63) ?_); refine call_mono (ref14_id _) ?_; simp (config := { decide := true }) only [go_sem, Nat.reduceAdd, Nat.reduceMul, Nat.reduceSub, Nat.reduceLeDiff, Int.reduceToNat, reduceCtorEq, reduceIte])
      | ((with_reducible refine ex_head (f := 64) ?_); refine call_ex (ref02_Must _ _ (by omega)) ?_; try simp (config := { decide := true }) only [go_sem, Nat.reduceAdd, Nat.reduceMul, Nat.reduceSub, Nat.reduceLeDiff, Int.reduceToNat, reduceCtorEq, reduceIte, exists_eq_left', exists_and_left, and_assoc])
      | ((with_reducible refine call_head (f := 64) ?_); refine call_mono (ref02_Must _ _ (by omega)) ?_; simp (config := { decide := true }) only [go_sem, Nat.reduceAdd, Nat.reduceMul, Nat.reduceSub, Nat.reduceLeDiff, Int.reduceToNat, reduceCtorEq, reduceIte])
      | ((first | refine ends_same hok rfl ⟨?_, rfl⟩ | refine ends_here ⟨?_, rfl⟩); first | (with_reducible rfl) | (simp [pairP, *]; done) | (simp_all [pairP]; done) | (simp_all [pairP]; split <;> first | (exfalso; omega) | (simp_all; done)))))

/-! ### cells -/
def cellP (x y n : Int) : ByteArray × Bool := if ((coordP x).2 && (coordP y).2) && idB n then ((coordP x).1 ++ (coordP y).1 ++ putS n 4, true) else (⟨#[]⟩, false)

theorem coordP_size (x : Int) : (coordP x).1.size ≤ 8 := by
  unfold coordP
  split
  · exact putS_size _ _
  · simp [ByteArray.size]

-- chainman/rec.PutCell: function 20
theorem rec_PutCell (x y n : Int) (h0 : n < 9223372036854775808) : Pure1 Try.prog 20 [.agg [.lit (.int .i64 x), .lit (.int .i64 y)], .lit (.int .i64 n)] (.tup [.lit (.string (cellP x y n).1), .lit (.bool (cellP x y n).2)]) := by
  intro h
  refine acalls_of Try.func20 (by rfl) fun hok => ?_
  simp only [List.length_cons, List.length_nil, Nat.reduceAdd, show Try.f20.ntmps = 51 from rfl, Nat.reduceSub, List.replicate, List.cons_append, List.nil_append]
  have hm := mayB_1 n
  have e1 := coordP_size x
  have e2 := coordP_size y
  have e3 := putS_size n 4
  rcases Bool.eq_false_or_eq_true (idB n) with hi | hi
  · have hr : rowG [n, 4] ⟨#[]⟩ = (putS n 4, true) := by simp [rowG, idB_put hi, app_none]
    rw [hi] at hm
    (repeat' (first
        | ((with_reducible refine wp_head ?_); first
            | with_reducible refine awp_seq ?_
            | with_reducible refine awp_block ?_
            | with_reducible refine awp_regionL ?_
            | with_reducible refine awp_skip ?_
            | with_reducible refine awp_exit ?_
            | with_reducible refine awp_ret ?_
            | with_reducible refine awp_goto ?_
            | (refine awp_test (by rfl) ?_; first | with_reducible refine cc_t ?_ | with_reducible refine cc_f ?_)
            | ((refine awp_cond_case (by rfl) (by simp only [go_sem]; rfl) (by simp only [go_sem]; rfl) (fun hcase => ?_) (fun hcase => ?_)) <;> (try simp only [decide_eq_true_eq, decide_eq_false_iff_not, Bool.not_eq_true', Bool.not_eq_false', beq_iff_eq, ne_eq] at hcase) <;> first | (exfalso; omega) | contradiction | skip))
        | ((with_reducible refine st_head ?_); first
            | with_reducible refine st_nil ?_
            | (refine st_none rfl fun K QK hK hQK => ?_; simp (config := { decide := true }) only [go_sem, Nat.reduceAdd, Nat.reduceMul, Nat.reduceSub, Nat.reduceLeDiff, Int.reduceToNat, reduceCtorEq, reduceIte, hm])
            | (refine st_test rfl (by rfl) (by rfl) (by simp only [go_sem]; rfl) ?_; first | (with_reducible refine gc_ft ?_) | (with_reducible refine gc_tf ?_) | ((with_reducible refine gc_tt fun K QK hK hQK => ?_); simp (config := { decide := true }) only [go_sem, Nat.reduceAdd, Nat.reduceMul, Nat.reduceSub, Nat.reduceLeDiff, Int.reduceToNat, reduceCtorEq, reduceIte, hm]) | ((with_reducible refine gc_ff fun K QK hK hQK => ?_); simp (config := { decide := true }) only [go_sem, Nat.reduceAdd, Nat.reduceMul, Nat.reduceSub, Nat.reduceLeDiff, Int.reduceToNat, reduceCtorEq, reduceIte, hm]))
            | ((refine st_case rfl (by rfl) (by rfl) (by simp only [go_sem]; rfl) (by simp only [go_sem]; rfl) (fun hcase => ?_) (fun hcase => ?_)) <;> (try simp only [decide_eq_true_eq, decide_eq_false_iff_not, Bool.not_eq_true', Bool.not_eq_false', beq_iff_eq, ne_eq] at hcase) <;> first | (exfalso; omega) | contradiction | skip)
            | (refine st_nil ?_))
        | ((with_reducible refine sq_head ?_); first
            | with_reducible refine sq_nil ?_
            | (refine sq_none rfl fun K hK => ?_; simp (config := { decide := true }) only [go_sem, Nat.reduceAdd, Nat.reduceMul, Nat.reduceSub, Nat.reduceLeDiff, Int.reduceToNat, reduceCtorEq, reduceIte, hm, exists_eq_left', exists_and_left, and_assoc])
            | (refine sq_test rfl (by rfl) (by rfl) (by simp only [go_sem]; rfl) ?_; first | (with_reducible refine gc_ft ?_) | (with_reducible refine gc_tf ?_) | ((with_reducible refine gc_tt fun K hK => ?_); simp (config := { decide := true }) only [go_sem, Nat.reduceAdd, Nat.reduceMul, Nat.reduceSub, Nat.reduceLeDiff, Int.reduceToNat, reduceCtorEq, reduceIte, hm, exists_eq_left', exists_and_left, and_assoc]) | ((with_reducible refine gc_ff fun K hK => ?_); simp (config := { decide := true }) only [go_sem, Nat.reduceAdd, Nat.reduceMul, Nat.reduceSub, Nat.reduceLeDiff, Int.reduceToNat, reduceCtorEq, reduceIte, hm, exists_eq_left', exists_and_left, and_assoc]))
            | ((refine sq_case rfl (by rfl) (by rfl) (by simp only [go_sem]; rfl) (by simp only [go_sem]; rfl) (fun hcase => ?_) (fun hcase => ?_)) <;> (try simp only [decide_eq_true_eq, decide_eq_false_iff_not, Bool.not_eq_true', Bool.not_eq_false', beq_iff_eq, ne_eq] at hcase) <;> first | (exfalso; omega) | contradiction | skip)
            | (refine sq_nil ?_))
        | with_reducible refine th_normal ?_
        | with_reducible refine th_ret ?_
        | with_reducible refine th_exit ?_
        | with_reducible refine bl_normal ?_
        | with_reducible refine bl_ret ?_
        | with_reducible refine bl_exit ?_
        | with_reducible refine bl_exit_ne (by decide) ?_
        | with_reducible refine th_goto ?_
        | with_reducible refine bl_goto ?_
        | (with_reducible refine hK _ _ ?_; clear hK hQK K QK)
        | (with_reducible refine hK _ ?_; clear hK K)
        | ((with_reducible refine body_ret tr20 ?_); simp (config := { decide := true }) only [go_sem, Nat.reduceAdd, Nat.reduceMul, Nat.reduceSub, Nat.reduceLeDiff, Int.reduceToNat, reduceCtorEq, reduceIte, hm])
        | ((with_reducible refine body_normal tr20 ?_); simp (config := { decide := true }) only [go_sem, Nat.reduceAdd, Nat.reduceMul, Nat.reduceSub, Nat.reduceLeDiff, Int.reduceToNat, reduceCtorEq, reduceIte, hm])
        | (refine And.intro (by first | omega | (simp only [ByteArray.size_append]; omega)) ?_)
        | ((with_reducible refine ex_head (f := 59) ?_); refine call_ex (octet_PutCoord _) ?_; try simp (config := { decide := true }) only [go_sem, Nat.reduceAdd, Nat.reduceMul, Nat.reduceSub, Nat.reduceLeDiff, Int.reduceToNat, reduceCtorEq, reduceIte, hm, exists_eq_left', exists_and_left, and_assoc])
        | ((with_reducible refine call_head (f := 59) ?_); refine call_mono (octet_PutCoord _) ?_; simp (config := { decide := true }) only [go_sem, Nat.reduceAdd, Nat.reduceMul, Nat.reduceSub, Nat.reduceLeDiff, Int.reduceToNat, reduceCtorEq, reduceIte, hm])
        | (refine ACalls.mono (rec_may [n] _ _ (by simp [intV]) (by simp)) ?_; rintro _ _ ⟨rfl, rfl⟩; simp (config := { decide := true }) only [go_sem, Nat.reduceAdd, Nat.reduceMul, Nat.reduceSub, Nat.reduceLeDiff, Int.reduceToNat, reduceCtorEq, reduceIte, hm])
        | (refine ACalls.mono (rec_row [n, 4] _ _ (by simp [intV]) (by simp) (by simp; omega)) ?_; rintro _ _ ⟨rfl, rfl⟩; simp (config := { decide := true }) only [go_sem, Nat.reduceAdd, Nat.reduceMul, Nat.reduceSub, Nat.reduceLeDiff, Int.reduceToNat, reduceCtorEq, reduceIte, hr])
        | ((first | refine ends_same hok rfl ⟨?_, rfl⟩ | refine ends_here ⟨?_, rfl⟩); first | (with_reducible rfl) | (simp [cellP, hi, *]; done) | (simp_all [cellP, hi]; done) | (simp_all [cellP, hi]; split <;> first | (exfalso; omega) | (simp_all; done)))))
  · rw [hi] at hm
    have hc : cellP x y n = (⟨#[]⟩, false) := by simp [cellP, hi]
    (repeat' (first
        | ((with_reducible refine wp_head ?_); first
            | with_reducible refine awp_seq ?_
            | with_reducible refine awp_block ?_
            | with_reducible refine awp_regionL ?_
            | with_reducible refine awp_skip ?_
            | with_reducible refine awp_exit ?_
            | with_reducible refine awp_ret ?_
            | with_reducible refine awp_goto ?_
            | (refine awp_test (by rfl) ?_; first | with_reducible refine cc_t ?_ | with_reducible refine cc_f ?_)
            | ((refine awp_cond_case (by rfl) (by simp only [go_sem]; rfl) (by simp only [go_sem]; rfl) (fun hcase => ?_) (fun hcase => ?_)) <;> (try simp only [decide_eq_true_eq, decide_eq_false_iff_not, Bool.not_eq_true', Bool.not_eq_false', beq_iff_eq, ne_eq] at hcase) <;> first | (exfalso; omega) | contradiction | skip))
        | ((with_reducible refine st_head ?_); first
            | with_reducible refine st_nil ?_
            | (refine st_none rfl fun K QK hK hQK => ?_; simp (config := { decide := true }) only [go_sem, Nat.reduceAdd, Nat.reduceMul, Nat.reduceSub, Nat.reduceLeDiff, Int.reduceToNat, reduceCtorEq, reduceIte, hm])
            | (refine st_test rfl (by rfl) (by rfl) (by simp only [go_sem]; rfl) ?_; first | (with_reducible refine gc_ft ?_) | (with_reducible refine gc_tf ?_) | ((with_reducible refine gc_tt fun K QK hK hQK => ?_); simp (config := { decide := true }) only [go_sem, Nat.reduceAdd, Nat.reduceMul, Nat.reduceSub, Nat.reduceLeDiff, Int.reduceToNat, reduceCtorEq, reduceIte, hm]) | ((with_reducible refine gc_ff fun K QK hK hQK => ?_); simp (config := { decide := true }) only [go_sem, Nat.reduceAdd, Nat.reduceMul, Nat.reduceSub, Nat.reduceLeDiff, Int.reduceToNat, reduceCtorEq, reduceIte, hm]))
            | ((refine st_case rfl (by rfl) (by rfl) (by simp only [go_sem]; rfl) (by simp only [go_sem]; rfl) (fun hcase => ?_) (fun hcase => ?_)) <;> (try simp only [decide_eq_true_eq, decide_eq_false_iff_not, Bool.not_eq_true', Bool.not_eq_false', beq_iff_eq, ne_eq] at hcase) <;> first | (exfalso; omega) | contradiction | skip)
            | (refine st_nil ?_))
        | ((with_reducible refine sq_head ?_); first
            | with_reducible refine sq_nil ?_
            | (refine sq_none rfl fun K hK => ?_; simp (config := { decide := true }) only [go_sem, Nat.reduceAdd, Nat.reduceMul, Nat.reduceSub, Nat.reduceLeDiff, Int.reduceToNat, reduceCtorEq, reduceIte, hm, exists_eq_left', exists_and_left, and_assoc])
            | (refine sq_test rfl (by rfl) (by rfl) (by simp only [go_sem]; rfl) ?_; first | (with_reducible refine gc_ft ?_) | (with_reducible refine gc_tf ?_) | ((with_reducible refine gc_tt fun K hK => ?_); simp (config := { decide := true }) only [go_sem, Nat.reduceAdd, Nat.reduceMul, Nat.reduceSub, Nat.reduceLeDiff, Int.reduceToNat, reduceCtorEq, reduceIte, hm, exists_eq_left', exists_and_left, and_assoc]) | ((with_reducible refine gc_ff fun K hK => ?_); simp (config := { decide := true }) only [go_sem, Nat.reduceAdd, Nat.reduceMul, Nat.reduceSub, Nat.reduceLeDiff, Int.reduceToNat, reduceCtorEq, reduceIte, hm, exists_eq_left', exists_and_left, and_assoc]))
            | ((refine sq_case rfl (by rfl) (by rfl) (by simp only [go_sem]; rfl) (by simp only [go_sem]; rfl) (fun hcase => ?_) (fun hcase => ?_)) <;> (try simp only [decide_eq_true_eq, decide_eq_false_iff_not, Bool.not_eq_true', Bool.not_eq_false', beq_iff_eq, ne_eq] at hcase) <;> first | (exfalso; omega) | contradiction | skip)
            | (refine sq_nil ?_))
        | with_reducible refine th_normal ?_
        | with_reducible refine th_ret ?_
        | with_reducible refine th_exit ?_
        | with_reducible refine bl_normal ?_
        | with_reducible refine bl_ret ?_
        | with_reducible refine bl_exit ?_
        | with_reducible refine bl_exit_ne (by decide) ?_
        | with_reducible refine th_goto ?_
        | with_reducible refine bl_goto ?_
        | (with_reducible refine hK _ _ ?_; clear hK hQK K QK)
        | (with_reducible refine hK _ ?_; clear hK K)
        | ((with_reducible refine body_ret tr20 ?_); simp (config := { decide := true }) only [go_sem, Nat.reduceAdd, Nat.reduceMul, Nat.reduceSub, Nat.reduceLeDiff, Int.reduceToNat, reduceCtorEq, reduceIte, hm])
        | ((with_reducible refine body_normal tr20 ?_); simp (config := { decide := true }) only [go_sem, Nat.reduceAdd, Nat.reduceMul, Nat.reduceSub, Nat.reduceLeDiff, Int.reduceToNat, reduceCtorEq, reduceIte, hm])
        | (refine And.intro (by first | omega | (simp only [ByteArray.size_append]; omega)) ?_)
        | ((with_reducible refine ex_head (f := 59) ?_); refine call_ex (octet_PutCoord _) ?_; try simp (config := { decide := true }) only [go_sem, Nat.reduceAdd, Nat.reduceMul, Nat.reduceSub, Nat.reduceLeDiff, Int.reduceToNat, reduceCtorEq, reduceIte, hm, exists_eq_left', exists_and_left, and_assoc])
        | ((with_reducible refine call_head (f := 59) ?_); refine call_mono (octet_PutCoord _) ?_; simp (config := { decide := true }) only [go_sem, Nat.reduceAdd, Nat.reduceMul, Nat.reduceSub, Nat.reduceLeDiff, Int.reduceToNat, reduceCtorEq, reduceIte, hm])
        | (refine ACalls.mono (rec_may [n] _ _ (by simp [intV]) (by simp)) ?_; rintro _ _ ⟨rfl, rfl⟩; simp (config := { decide := true }) only [go_sem, Nat.reduceAdd, Nat.reduceMul, Nat.reduceSub, Nat.reduceLeDiff, Int.reduceToNat, reduceCtorEq, reduceIte, hm])
        | (refine ACalls.mono (rec_row [n, 4] _ _ (by simp [intV]) (by simp) (by simp; omega)) ?_; rintro _ _ ⟨rfl, rfl⟩; simp (config := { decide := true }) only [go_sem, Nat.reduceAdd, Nat.reduceMul, Nat.reduceSub, Nat.reduceLeDiff, Int.reduceToNat, reduceCtorEq, reduceIte])
        | ((first | refine ends_same hok rfl ⟨?_, rfl⟩ | refine ends_here ⟨?_, rfl⟩); first | (with_reducible rfl) | (simp [hc, *]; done) | (simp_all [hc]; done) | (simp_all [hc]; split <;> first | (exfalso; omega) | (simp_all; done)))))

-- chainman/chainmanref14.PutCell: function 21
theorem ref14_PutCell (x y n : Int) (h0 : n < 9223372036854775808) : Pure1 Try.prog 21 [.agg [.lit (.int .i64 x), .lit (.int .i64 y)], .lit (.int .i64 n)] (.tup [.lit (.string (cellP x y n).1), .lit (.bool (cellP x y n).2)]) := by
  intro h
  refine acalls_of Try.func21 (by rfl) fun hok => ?_
  simp only [List.length_cons, List.length_nil, Nat.reduceAdd, show Try.f21.ntmps = 39 from rfl, Nat.reduceSub, List.replicate, List.cons_append, List.nil_append]
  have e1 := coordP_size x
  have e2 := coordP_size y
  have e3 := putS_size n 4
  (repeat' (first
      | ((with_reducible refine wp_head ?_); first
          | with_reducible refine awp_seq ?_
          | with_reducible refine awp_block ?_
          | with_reducible refine awp_regionL ?_
          | with_reducible refine awp_skip ?_
          | with_reducible refine awp_exit ?_
          | with_reducible refine awp_ret ?_
          | with_reducible refine awp_goto ?_
          | (refine awp_test (by rfl) ?_; first | with_reducible refine cc_t ?_ | with_reducible refine cc_f ?_)
          | ((refine awp_cond_case (by rfl) (by simp only [go_sem]; rfl) (by simp only [go_sem]; rfl) (fun hcase => ?_) (fun hcase => ?_)) <;> (try simp only [decide_eq_true_eq, decide_eq_false_iff_not, Bool.not_eq_true', Bool.not_eq_false', beq_iff_eq, ne_eq] at hcase) <;> first | (exfalso; omega) | contradiction | skip))
      | ((with_reducible refine st_head ?_); first
          | with_reducible refine st_nil ?_
          | (refine st_none rfl fun K QK hK hQK => ?_; simp (config := { decide := true }) only [go_sem, Nat.reduceAdd, Nat.reduceMul, Nat.reduceSub, Nat.reduceLeDiff, Int.reduceToNat, reduceCtorEq, reduceIte])
          | (refine st_test rfl (by rfl) (by rfl) (by simp only [go_sem]; rfl) ?_; first | (with_reducible refine gc_ft ?_) | (with_reducible refine gc_tf ?_) | ((with_reducible refine gc_tt fun K QK hK hQK => ?_); simp (config := { decide := true }) only [go_sem, Nat.reduceAdd, Nat.reduceMul, Nat.reduceSub, Nat.reduceLeDiff, Int.reduceToNat, reduceCtorEq, reduceIte]) | ((with_reducible refine gc_ff fun K QK hK hQK => ?_); simp (config := { decide := true }) only [go_sem, Nat.reduceAdd, Nat.reduceMul, Nat.reduceSub, Nat.reduceLeDiff, Int.reduceToNat, reduceCtorEq, reduceIte]))
          | ((refine st_case rfl (by rfl) (by rfl) (by simp only [go_sem]; rfl) (by simp only [go_sem]; rfl) (fun hcase => ?_) (fun hcase => ?_)) <;> (try simp only [decide_eq_true_eq, decide_eq_false_iff_not, Bool.not_eq_true', Bool.not_eq_false', beq_iff_eq, ne_eq] at hcase) <;> first | (exfalso; omega) | contradiction | skip)
          | (refine st_nil ?_))
      | ((with_reducible refine sq_head ?_); first
          | with_reducible refine sq_nil ?_
          | (refine sq_none rfl fun K hK => ?_; simp (config := { decide := true }) only [go_sem, Nat.reduceAdd, Nat.reduceMul, Nat.reduceSub, Nat.reduceLeDiff, Int.reduceToNat, reduceCtorEq, reduceIte, exists_eq_left', exists_and_left, and_assoc])
          | (refine sq_test rfl (by rfl) (by rfl) (by simp only [go_sem]; rfl) ?_; first | (with_reducible refine gc_ft ?_) | (with_reducible refine gc_tf ?_) | ((with_reducible refine gc_tt fun K hK => ?_); simp (config := { decide := true }) only [go_sem, Nat.reduceAdd, Nat.reduceMul, Nat.reduceSub, Nat.reduceLeDiff, Int.reduceToNat, reduceCtorEq, reduceIte, exists_eq_left', exists_and_left, and_assoc]) | ((with_reducible refine gc_ff fun K hK => ?_); simp (config := { decide := true }) only [go_sem, Nat.reduceAdd, Nat.reduceMul, Nat.reduceSub, Nat.reduceLeDiff, Int.reduceToNat, reduceCtorEq, reduceIte, exists_eq_left', exists_and_left, and_assoc]))
          | ((refine sq_case rfl (by rfl) (by rfl) (by simp only [go_sem]; rfl) (by simp only [go_sem]; rfl) (fun hcase => ?_) (fun hcase => ?_)) <;> (try simp only [decide_eq_true_eq, decide_eq_false_iff_not, Bool.not_eq_true', Bool.not_eq_false', beq_iff_eq, ne_eq] at hcase) <;> first | (exfalso; omega) | contradiction | skip)
          | (refine sq_nil ?_))
      | with_reducible refine th_normal ?_
      | with_reducible refine th_ret ?_
      | with_reducible refine th_exit ?_
      | with_reducible refine bl_normal ?_
      | with_reducible refine bl_ret ?_
      | with_reducible refine bl_exit ?_
      | with_reducible refine bl_exit_ne (by decide) ?_
      | with_reducible refine th_goto ?_
      | with_reducible refine bl_goto ?_
      | (with_reducible refine hK _ _ ?_; clear hK hQK K QK)
      | (with_reducible refine hK _ ?_; clear hK K)
      | ((with_reducible refine body_ret tr21 ?_); simp (config := { decide := true }) only [go_sem, Nat.reduceAdd, Nat.reduceMul, Nat.reduceSub, Nat.reduceLeDiff, Int.reduceToNat, reduceCtorEq, reduceIte])
      | ((with_reducible refine body_normal tr21 ?_); simp (config := { decide := true }) only [go_sem, Nat.reduceAdd, Nat.reduceMul, Nat.reduceSub, Nat.reduceLeDiff, Int.reduceToNat, reduceCtorEq, reduceIte])
      | (refine And.intro (by first | omega | (simp only [ByteArray.size_append]; omega)) ?_)
      | ((with_reducible refine ex_head (f := 62) ?_); refine call_ex (ref02_PutCoord _) ?_; try simp (config := { decide := true }) only [go_sem, Nat.reduceAdd, Nat.reduceMul, Nat.reduceSub, Nat.reduceLeDiff, Int.reduceToNat, reduceCtorEq, reduceIte, exists_eq_left', exists_and_left, and_assoc])
      | ((with_reducible refine call_head (f := 62) ?_); refine call_mono (ref02_PutCoord _) ?_; simp (config := { decide := true }) only [go_sem, Nat.reduceAdd, Nat.reduceMul, Nat.reduceSub, Nat.reduceLeDiff, Int.reduceToNat, reduceCtorEq, reduceIte])
      | ((with_reducible refine ex_head (f := 63) ?_); refine call_ex (ref14_id _) ?_; try simp (config := { decide := true }) only [go_sem, Nat.reduceAdd, Nat.reduceMul, Nat.reduceSub, Nat.reduceLeDiff, Int.reduceToNat, reduceCtorEq, reduceIte, exists_eq_left', exists_and_left, and_assoc])
      | ((with_reducible refine call_head (f := 63) ?_); refine call_mono (ref14_id _) ?_; simp (config := { decide := true }) only [go_sem, Nat.reduceAdd, Nat.reduceMul, Nat.reduceSub, Nat.reduceLeDiff, Int.reduceToNat, reduceCtorEq, reduceIte])
      | ((with_reducible refine ex_head (f := 64) ?_); refine call_ex (ref02_Must _ _ (by omega)) ?_; try simp (config := { decide := true }) only [go_sem, Nat.reduceAdd, Nat.reduceMul, Nat.reduceSub, Nat.reduceLeDiff, Int.reduceToNat, reduceCtorEq, reduceIte, exists_eq_left', exists_and_left, and_assoc])
      | ((with_reducible refine call_head (f := 64) ?_); refine call_mono (ref02_Must _ _ (by omega)) ?_; simp (config := { decide := true }) only [go_sem, Nat.reduceAdd, Nat.reduceMul, Nat.reduceSub, Nat.reduceLeDiff, Int.reduceToNat, reduceCtorEq, reduceIte])
      | ((first | refine ends_same hok rfl ⟨?_, rfl⟩ | refine ends_here ⟨?_, rfl⟩); first | (with_reducible rfl) | (simp [cellP, *]; done) | (simp_all [cellP]; done) | (simp_all [cellP]; split <;> first | (exfalso; omega) | (simp_all; done)))))
end Go.Proofs.Ytpjocohpogihcaa.AL
