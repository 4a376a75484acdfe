/- The law RecGets, over abstract values. -/
import Derived.Test.YtpjocohpogihcaaRefGet
import Derived.Test.YtpjocohpogihcaaRecPuts
namespace Go.Proofs.Ytpjocohpogihcaa.AL
set_option linter.unusedVariables false
set_option linter.unusedSimpArgs false
set_option maxRecDepth 10000
set_option maxHeartbeats 2000000
open Go

-- chainman/chainmanlaw14.RecGets: function 8
theorem recGets (s : ByteArray) : Pure1 Try.prog 8 [.lit (.string s)] (.lit (.bool true)) := by
  intro h
  refine acalls_of Try.func8 (by rfl) fun hok => ?_
  simp only [List.length_cons, List.length_nil, Nat.reduceAdd, show Try.f8.ntmps = 136 from rfl, Nat.reduceSub, List.replicate, List.cons_append, List.nil_append]
  by_cases hg : (s.size : Int) > 40
  · (repeat' (first
      | ((with_reducible refine wp_head ?_); first
          | with_reducible refine awp_seq ?_
          | with_reducible refine awp_block ?_
          | with_reducible refine awp_regionL ?_
          | with_reducible refine awp_skip ?_
          | with_reducible refine awp_exit ?_
          | with_reducible refine awp_ret ?_
          | with_reducible refine awp_goto ?_
          | (refine awp_test (by rfl) ?_; first | with_reducible refine cc_t ?_ | with_reducible refine cc_f ?_)
          | ((refine awp_cond_case (by rfl) (by simp only [go_sem]; rfl) (by simp only [go_sem]; rfl) (fun hcase => ?_) (fun hcase => ?_)) <;> (try simp only [decide_eq_true_eq, decide_eq_false_iff_not, Bool.not_eq_true', Bool.not_eq_false', beq_iff_eq, ne_eq] at hcase) <;> first | (exfalso; omega) | contradiction | skip))
      | ((with_reducible refine st_head ?_); first
          | with_reducible refine st_nil ?_
          | (refine st_none rfl fun K QK hK hQK => ?_; simp (config := { decide := true }) only [go_sem, Nat.reduceAdd, Nat.reduceMul, Nat.reduceSub, Nat.reduceLeDiff, Int.reduceToNat, reduceCtorEq, reduceIte, hg])
          | (refine st_test rfl (by rfl) (by rfl) (by simp only [go_sem]; rfl) ?_; first | (with_reducible refine gc_ft ?_) | (with_reducible refine gc_tf ?_) | ((with_reducible refine gc_tt fun K QK hK hQK => ?_); simp (config := { decide := true }) only [go_sem, Nat.reduceAdd, Nat.reduceMul, Nat.reduceSub, Nat.reduceLeDiff, Int.reduceToNat, reduceCtorEq, reduceIte, hg]) | ((with_reducible refine gc_ff fun K QK hK hQK => ?_); simp (config := { decide := true }) only [go_sem, Nat.reduceAdd, Nat.reduceMul, Nat.reduceSub, Nat.reduceLeDiff, Int.reduceToNat, reduceCtorEq, reduceIte, hg]))
          | ((refine st_case rfl (by rfl) (by rfl) (by simp only [go_sem]; rfl) (by simp only [go_sem]; rfl) (fun hcase => ?_) (fun hcase => ?_)) <;> (try simp only [decide_eq_true_eq, decide_eq_false_iff_not, Bool.not_eq_true', Bool.not_eq_false', beq_iff_eq, ne_eq] at hcase) <;> first | (exfalso; omega) | contradiction | skip)
          | (refine st_nil ?_))
      | ((with_reducible refine sq_head ?_); first
          | with_reducible refine sq_nil ?_
          | (refine sq_none rfl fun K hK => ?_; simp (config := { decide := true }) only [go_sem, Nat.reduceAdd, Nat.reduceMul, Nat.reduceSub, Nat.reduceLeDiff, Int.reduceToNat, reduceCtorEq, reduceIte, hg, exists_eq_left', exists_and_left, and_assoc])
          | (refine sq_test rfl (by rfl) (by rfl) (by simp only [go_sem]; rfl) ?_; first | (with_reducible refine gc_ft ?_) | (with_reducible refine gc_tf ?_) | ((with_reducible refine gc_tt fun K hK => ?_); simp (config := { decide := true }) only [go_sem, Nat.reduceAdd, Nat.reduceMul, Nat.reduceSub, Nat.reduceLeDiff, Int.reduceToNat, reduceCtorEq, reduceIte, hg, exists_eq_left', exists_and_left, and_assoc]) | ((with_reducible refine gc_ff fun K hK => ?_); simp (config := { decide := true }) only [go_sem, Nat.reduceAdd, Nat.reduceMul, Nat.reduceSub, Nat.reduceLeDiff, Int.reduceToNat, reduceCtorEq, reduceIte, hg, exists_eq_left', exists_and_left, and_assoc]))
          | ((refine sq_case rfl (by rfl) (by rfl) (by simp only [go_sem]; rfl) (by simp only [go_sem]; rfl) (fun hcase => ?_) (fun hcase => ?_)) <;> (try simp only [decide_eq_true_eq, decide_eq_false_iff_not, Bool.not_eq_true', Bool.not_eq_false', beq_iff_eq, ne_eq] at hcase) <;> first | (exfalso; omega) | contradiction | skip)
          | (refine sq_nil ?_))
      | with_reducible refine th_normal ?_
      | with_reducible refine th_ret ?_
      | with_reducible refine th_exit ?_
      | with_reducible refine bl_normal ?_
      | with_reducible refine bl_ret ?_
      | with_reducible refine bl_exit ?_
      | with_reducible refine bl_exit_ne (by decide) ?_
      | with_reducible refine th_goto ?_
      | with_reducible refine bl_goto ?_
      | (with_reducible refine hK _ _ ?_; clear hK hQK K QK)
      | (with_reducible refine hK _ ?_; clear hK K)
      | ((with_reducible refine body_ret tr8 ?_); simp (config := { decide := true }) only [go_sem, Nat.reduceAdd, Nat.reduceMul, Nat.reduceSub, Nat.reduceLeDiff, Int.reduceToNat, reduceCtorEq, reduceIte, hg])
      | ((with_reducible refine body_normal tr8 ?_); simp (config := { decide := true }) only [go_sem, Nat.reduceAdd, Nat.reduceMul, Nat.reduceSub, Nat.reduceLeDiff, Int.reduceToNat, reduceCtorEq, reduceIte, hg])
      | (refine And.intro (by first | omega | (simp only [ByteArray.size_append]; omega)) ?_)
      | ((with_reducible refine ex_head (f := 42) ?_); refine call_ex (rec_GetCell s hs) ?_; try simp (config := { decide := true }) only [go_sem, Nat.reduceAdd, Nat.reduceMul, Nat.reduceSub, Nat.reduceLeDiff, Int.reduceToNat, reduceCtorEq, reduceIte, hg, exists_eq_left', exists_and_left, and_assoc])
      | ((with_reducible refine call_head (f := 42) ?_); refine call_mono (rec_GetCell s hs) ?_; simp (config := { decide := true }) only [go_sem, Nat.reduceAdd, Nat.reduceMul, Nat.reduceSub, Nat.reduceLeDiff, Int.reduceToNat, reduceCtorEq, reduceIte, hg])
      | ((with_reducible refine ex_head (f := 44) ?_); refine call_ex (rec_GetPair s hs) ?_; try simp (config := { decide := true }) only [go_sem, Nat.reduceAdd, Nat.reduceMul, Nat.reduceSub, Nat.reduceLeDiff, Int.reduceToNat, reduceCtorEq, reduceIte, hg, exists_eq_left', exists_and_left, and_assoc])
      | ((with_reducible refine call_head (f := 44) ?_); refine call_mono (rec_GetPair s hs) ?_; simp (config := { decide := true }) only [go_sem, Nat.reduceAdd, Nat.reduceMul, Nat.reduceSub, Nat.reduceLeDiff, Int.reduceToNat, reduceCtorEq, reduceIte, hg])
      | ((with_reducible refine ex_head (f := 46) ?_); refine call_ex (rec_GetEdge s hs) ?_; try simp (config := { decide := true }) only [go_sem, Nat.reduceAdd, Nat.reduceMul, Nat.reduceSub, Nat.reduceLeDiff, Int.reduceToNat, reduceCtorEq, reduceIte, hg, exists_eq_left', exists_and_left, and_assoc])
      | ((with_reducible refine call_head (f := 46) ?_); refine call_mono (rec_GetEdge s hs) ?_; simp (config := { decide := true }) only [go_sem, Nat.reduceAdd, Nat.reduceMul, Nat.reduceSub, Nat.reduceLeDiff, Int.reduceToNat, reduceCtorEq, reduceIte, hg])
      | ((with_reducible refine ex_head (f := 41) ?_); refine call_ex (rec_GetDraw s hs) ?_; try simp (config := { decide := true }) only [go_sem, Nat.reduceAdd, Nat.reduceMul, Nat.reduceSub, Nat.reduceLeDiff, Int.reduceToNat, reduceCtorEq, reduceIte, hg, exists_eq_left', exists_and_left, and_assoc])
      | ((with_reducible refine call_head (f := 41) ?_); refine call_mono (rec_GetDraw s hs) ?_; simp (config := { decide := true }) only [go_sem, Nat.reduceAdd, Nat.reduceMul, Nat.reduceSub, Nat.reduceLeDiff, Int.reduceToNat, reduceCtorEq, reduceIte, hg])
      | ((with_reducible refine ex_head (f := 43) ?_); refine call_ex (ref14_GetCell s hs) ?_; try simp (config := { decide := true }) only [go_sem, Nat.reduceAdd, Nat.reduceMul, Nat.reduceSub, Nat.reduceLeDiff, Int.reduceToNat, reduceCtorEq, reduceIte, hg, exists_eq_left', exists_and_left, and_assoc])
      | ((with_reducible refine call_head (f := 43) ?_); refine call_mono (ref14_GetCell s hs) ?_; simp (config := { decide := true }) only [go_sem, Nat.reduceAdd, Nat.reduceMul, Nat.reduceSub, Nat.reduceLeDiff, Int.reduceToNat, reduceCtorEq, reduceIte, hg])
      | ((with_reducible refine ex_head (f := 45) ?_); refine call_ex (ref14_GetPair s hs) ?_; try simp (config := { decide := true }) only [go_sem, Nat.reduceAdd, Nat.reduceMul, Nat.reduceSub, Nat.reduceLeDiff, Int.reduceToNat, reduceCtorEq, reduceIte, hg, exists_eq_left', exists_and_left, and_assoc])
      | ((with_reducible refine call_head (f := 45) ?_); refine call_mono (ref14_GetPair s hs) ?_; simp (config := { decide := true }) only [go_sem, Nat.reduceAdd, Nat.reduceMul, Nat.reduceSub, Nat.reduceLeDiff, Int.reduceToNat, reduceCtorEq, reduceIte, hg])
      | ((with_reducible refine ex_head (f := 47) ?_); refine call_ex (ref14_GetEdge s hs) ?_; try simp (config := { decide := true }) only [go_sem, Nat.reduceAdd, Nat.reduceMul, Nat.reduceSub, Nat.reduceLeDiff, Int.reduceToNat, reduceCtorEq, reduceIte, hg, exists_eq_left', exists_and_left, and_assoc])
      | ((with_reducible refine call_head (f := 47) ?_); refine call_mono (ref14_GetEdge s hs) ?_; simp (config := { decide := true }) only [go_sem, Nat.reduceAdd, Nat.reduceMul, Nat.reduceSub, Nat.reduceLeDiff, Int.reduceToNat, reduceCtorEq, reduceIte, hg])
      | ((with_reducible refine ex_head (f := 48) ?_); refine call_ex (ref14_GetDraw s hs) ?_; try simp (config := { decide := true }) only [go_sem, Nat.reduceAdd, Nat.reduceMul, Nat.reduceSub, Nat.reduceLeDiff, Int.reduceToNat, reduceCtorEq, reduceIte, hg, exists_eq_left', exists_and_left, and_assoc])
      | ((with_reducible refine call_head (f := 48) ?_); refine call_mono (ref14_GetDraw s hs) ?_; simp (config := { decide := true }) only [go_sem, Nat.reduceAdd, Nat.reduceMul, Nat.reduceSub, Nat.reduceLeDiff, Int.reduceToNat, reduceCtorEq, reduceIte, hg])
      | ((with_reducible refine ex_head (f := 28) ?_); refine call_ex (law14_awake) ?_; try simp (config := { decide := true }) only [go_sem, Nat.reduceAdd, Nat.reduceMul, Nat.reduceSub, Nat.reduceLeDiff, Int.reduceToNat, reduceCtorEq, reduceIte, hg, exists_eq_left', exists_and_left, and_assoc])
      | ((with_reducible refine call_head (f := 28) ?_); refine call_mono (law14_awake) ?_; simp (config := { decide := true }) only [go_sem, Nat.reduceAdd, Nat.reduceMul, Nat.reduceSub, Nat.reduceLeDiff, Int.reduceToNat, reduceCtorEq, reduceIte, hg])
      | ((first | refine ends_same hok rfl ⟨?_, rfl⟩ | refine ends_here ⟨?_, rfl⟩); first | (with_reducible rfl) | (simp [AEnd.ret.injEq, *]; done) | (simp_all [AEnd.ret.injEq]; done) | (simp_all [AEnd.ret.injEq]; split <;> first | (exfalso; omega) | (simp_all; done)))))
  · have hs : s.size ≤ 140737488351232 := by omega
    (repeat' (first
        | ((with_reducible refine wp_head ?_); first
            | with_reducible refine awp_seq ?_
            | with_reducible refine awp_block ?_
            | with_reducible refine awp_regionL ?_
            | with_reducible refine awp_skip ?_
            | with_reducible refine awp_exit ?_
            | with_reducible refine awp_ret ?_
            | with_reducible refine awp_goto ?_
            | (refine awp_test (by rfl) ?_; first | with_reducible refine cc_t ?_ | with_reducible refine cc_f ?_)
            | ((refine awp_cond_case (by rfl) (by simp only [go_sem]; rfl) (by simp only [go_sem]; rfl) (fun hcase => ?_) (fun hcase => ?_)) <;> (try simp only [decide_eq_true_eq, decide_eq_false_iff_not, Bool.not_eq_true', Bool.not_eq_false', beq_iff_eq, ne_eq] at hcase) <;> first | (exfalso; omega) | contradiction | skip))
        | ((with_reducible refine st_head ?_); first
            | with_reducible refine st_nil ?_
            | (refine st_none rfl fun K QK hK hQK => ?_; simp (config := { decide := true }) only [go_sem, Nat.reduceAdd, Nat.reduceMul, Nat.reduceSub, Nat.reduceLeDiff, Int.reduceToNat, reduceCtorEq, reduceIte, hg])
            | (refine st_test rfl (by rfl) (by rfl) (by simp only [go_sem]; rfl) ?_; first | (with_reducible refine gc_ft ?_) | (with_reducible refine gc_tf ?_) | ((with_reducible refine gc_tt fun K QK hK hQK => ?_); simp (config := { decide := true }) only [go_sem, Nat.reduceAdd, Nat.reduceMul, Nat.reduceSub, Nat.reduceLeDiff, Int.reduceToNat, reduceCtorEq, reduceIte, hg]) | ((with_reducible refine gc_ff fun K QK hK hQK => ?_); simp (config := { decide := true }) only [go_sem, Nat.reduceAdd, Nat.reduceMul, Nat.reduceSub, Nat.reduceLeDiff, Int.reduceToNat, reduceCtorEq, reduceIte, hg]))
            | ((refine st_case rfl (by rfl) (by rfl) (by simp only [go_sem]; rfl) (by simp only [go_sem]; rfl) (fun hcase => ?_) (fun hcase => ?_)) <;> (try simp only [decide_eq_true_eq, decide_eq_false_iff_not, Bool.not_eq_true', Bool.not_eq_false', beq_iff_eq, ne_eq] at hcase) <;> first | (exfalso; omega) | contradiction | skip)
            | (refine st_nil ?_))
        | ((with_reducible refine sq_head ?_); first
            | with_reducible refine sq_nil ?_
            | (refine sq_none rfl fun K hK => ?_; simp (config := { decide := true }) only [go_sem, Nat.reduceAdd, Nat.reduceMul, Nat.reduceSub, Nat.reduceLeDiff, Int.reduceToNat, reduceCtorEq, reduceIte, hg, exists_eq_left', exists_and_left, and_assoc])
            | (refine sq_test rfl (by rfl) (by rfl) (by simp only [go_sem]; rfl) ?_; first | (with_reducible refine gc_ft ?_) | (with_reducible refine gc_tf ?_) | ((with_reducible refine gc_tt fun K hK => ?_); simp (config := { decide := true }) only [go_sem, Nat.reduceAdd, Nat.reduceMul, Nat.reduceSub, Nat.reduceLeDiff, Int.reduceToNat, reduceCtorEq, reduceIte, hg, exists_eq_left', exists_and_left, and_assoc]) | ((with_reducible refine gc_ff fun K hK => ?_); simp (config := { decide := true }) only [go_sem, Nat.reduceAdd, Nat.reduceMul, Nat.reduceSub, Nat.reduceLeDiff, Int.reduceToNat, reduceCtorEq, reduceIte, hg, exists_eq_left', exists_and_left, and_assoc]))
            | ((refine sq_case rfl (by rfl) (by rfl) (by simp only [go_sem]; rfl) (by simp only [go_sem]; rfl) (fun hcase => ?_) (fun hcase => ?_)) <;> (try simp only [decide_eq_true_eq, decide_eq_false_iff_not, Bool.not_eq_true', Bool.not_eq_false', beq_iff_eq, ne_eq] at hcase) <;> first | (exfalso; omega) | contradiction | skip)
            | (refine sq_nil ?_))
        | with_reducible refine th_normal ?_
        | with_reducible refine th_ret ?_
        | with_reducible refine th_exit ?_
        | with_reducible refine bl_normal ?_
        | with_reducible refine bl_ret ?_
        | with_reducible refine bl_exit ?_
        | with_reducible refine bl_exit_ne (by decide) ?_
        | with_reducible refine th_goto ?_
        | with_reducible refine bl_goto ?_
        | (with_reducible refine hK _ _ ?_; clear hK hQK K QK)
        | (with_reducible refine hK _ ?_; clear hK K)
        | ((with_reducible refine body_ret tr8 ?_); simp (config := { decide := true }) only [go_sem, Nat.reduceAdd, Nat.reduceMul, Nat.reduceSub, Nat.reduceLeDiff, Int.reduceToNat, reduceCtorEq, reduceIte, hg])
        | ((with_reducible refine body_normal tr8 ?_); simp (config := { decide := true }) only [go_sem, Nat.reduceAdd, Nat.reduceMul, Nat.reduceSub, Nat.reduceLeDiff, Int.reduceToNat, reduceCtorEq, reduceIte, hg])
        | (refine And.intro (by first | omega | (simp only [ByteArray.size_append]; omega)) ?_)
        | ((with_reducible refine ex_head (f := 42) ?_); refine call_ex (rec_GetCell s hs) ?_; try simp (config := { decide := true }) only [go_sem, Nat.reduceAdd, Nat.reduceMul, Nat.reduceSub, Nat.reduceLeDiff, Int.reduceToNat, reduceCtorEq, reduceIte, hg, exists_eq_left', exists_and_left, and_assoc])
        | ((with_reducible refine call_head (f := 42) ?_); refine call_mono (rec_GetCell s hs) ?_; simp (config := { decide := true }) only [go_sem, Nat.reduceAdd, Nat.reduceMul, Nat.reduceSub, Nat.reduceLeDiff, Int.reduceToNat, reduceCtorEq, reduceIte, hg])
        | ((with_reducible refine ex_head (f := 44) ?_); refine call_ex (rec_GetPair s hs) ?_; try simp (config := { decide := true }) only [go_sem, Nat.reduceAdd, Nat.reduceMul, Nat.reduceSub, Nat.reduceLeDiff, Int.reduceToNat, reduceCtorEq, reduceIte, hg, exists_eq_left', exists_and_left, and_assoc])
        | ((with_reducible refine call_head (f := 44) ?_); refine call_mono (rec_GetPair s hs) ?_; simp (config := { decide := true }) only [go_sem, Nat.reduceAdd, Nat.reduceMul, Nat.reduceSub, Nat.reduceLeDiff, Int.reduceToNat, reduceCtorEq, reduceIte, hg])
        | ((with_reducible refine ex_head (f := 46) ?_); refine call_ex (rec_GetEdge s hs) ?_; try simp (config := { decide := true }) only [go_sem, Nat.reduceAdd, Nat.reduceMul, Nat.reduceSub, Nat.reduceLeDiff, Int.reduceToNat, reduceCtorEq, reduceIte, hg, exists_eq_left', exists_and_left, and_assoc])
        | ((with_reducible refine call_head (f := 46) ?_); refine call_mono (rec_GetEdge s hs) ?_; simp (config := { decide := true }) only [go_sem, Nat.reduceAdd, Nat.reduceMul, Nat.reduceSub, Nat.reduceLeDiff, Int.reduceToNat, reduceCtorEq, reduceIte, hg])
        | ((with_reducible refine ex_head (f := 41) ?_); refine call_ex (rec_GetDraw s hs) ?_; try simp (config := { decide := true }) only [go_sem, Nat.reduceAdd, Nat.reduceMul, Nat.reduceSub, Nat.reduceLeDiff, Int.reduceToNat, reduceCtorEq, reduceIte, hg, exists_eq_left', exists_and_left, and_assoc])
        | ((with_reducible refine call_head (f := 41) ?_); refine call_mono (rec_GetDraw s hs) ?_; simp (config := { decide := true }) only [go_sem, Nat.reduceAdd, Nat.reduceMul, Nat.reduceSub, Nat.reduceLeDiff, Int.reduceToNat, reduceCtorEq, reduceIte, hg])
        | ((with_reducible refine ex_head (f := 43) ?_); refine call_ex (ref14_GetCell s hs) ?_; try simp (config := { decide := true }) only [go_sem, Nat.reduceAdd, Nat.reduceMul, Nat.reduceSub, Nat.reduceLeDiff, Int.reduceToNat, reduceCtorEq, reduceIte, hg, exists_eq_left', exists_and_left, and_assoc])
        | ((with_reducible refine call_head (f := 43) ?_); refine call_mono (ref14_GetCell s hs) ?_; simp (config := { decide := true }) only [go_sem, Nat.reduceAdd, Nat.reduceMul, Nat.reduceSub, Nat.reduceLeDiff, Int.reduceToNat, reduceCtorEq, reduceIte, hg])
        | ((with_reducible refine ex_head (f := 45) ?_); refine call_ex (ref14_GetPair s hs) ?_; try simp (config := { decide := true }) only [go_sem, Nat.reduceAdd, Nat.reduceMul, Nat.reduceSub, Nat.reduceLeDiff, Int.reduceToNat, reduceCtorEq, reduceIte, hg, exists_eq_left', exists_and_left, and_assoc])
        | ((with_reducible refine call_head (f := 45) ?_); refine call_mono (ref14_GetPair s hs) ?_; simp (config := { decide := true }) only [go_sem, Nat.reduceAdd, Nat.reduceMul, Nat.reduceSub, Nat.reduceLeDiff, Int.reduceToNat, reduceCtorEq, reduceIte, hg])
        | ((with_reducible refine ex_head (f := 47) ?_); refine call_ex (ref14_GetEdge s hs) ?_; try simp (config := { decide := true }) only [go_sem, Nat.reduceAdd, Nat.reduceMul, Nat.reduceSub, Nat.reduceLeDiff, Int.reduceToNat, reduceCtorEq, reduceIte, hg, exists_eq_left', exists_and_left, and_assoc])
        | ((with_reducible refine call_head (f := 47) ?_); refine call_mono (ref14_GetEdge s hs) ?_; simp (config := { decide := true }) only [go_sem, Nat.reduceAdd, Nat.reduceMul, Nat.reduceSub, Nat.reduceLeDiff, Int.reduceToNat, reduceCtorEq, reduceIte, hg])
        | ((with_reducible refine ex_head (f := 48) ?_); refine call_ex (ref14_GetDraw s hs) ?_; try simp (config := { decide := true }) only [go_sem, Nat.reduceAdd, Nat.reduceMul, Nat.reduceSub, Nat.reduceLeDiff, Int.reduceToNat, reduceCtorEq, reduceIte, hg, exists_eq_left', exists_and_left, and_assoc])
        | ((with_reducible refine call_head (f := 48) ?_); refine call_mono (ref14_GetDraw s hs) ?_; simp (config := { decide := true }) only [go_sem, Nat.reduceAdd, Nat.reduceMul, Nat.reduceSub, Nat.reduceLeDiff, Int.reduceToNat, reduceCtorEq, reduceIte, hg])
        | ((with_reducible refine ex_head (f := 28) ?_); refine call_ex (law14_awake) ?_; try simp (config := { decide := true }) only [go_sem, Nat.reduceAdd, Nat.reduceMul, Nat.reduceSub, Nat.reduceLeDiff, Int.reduceToNat, reduceCtorEq, reduceIte, hg, exists_eq_left', exists_and_left, and_assoc])
        | ((with_reducible refine call_head (f := 28) ?_); refine call_mono (law14_awake) ?_; simp (config := { decide := true }) only [go_sem, Nat.reduceAdd, Nat.reduceMul, Nat.reduceSub, Nat.reduceLeDiff, Int.reduceToNat, reduceCtorEq, reduceIte, hg])
        | ((first | refine ends_same hok rfl ⟨?_, rfl⟩ | refine ends_here ⟨?_, rfl⟩); first | (with_reducible rfl) | (simp [AEnd.ret.injEq, *]; done) | (simp_all [AEnd.ret.injEq]; done) | (simp_all [AEnd.ret.injEq]; split <;> first | (exfalso; omega) | (simp_all; done)))))
end Go.Proofs.Ytpjocohpogihcaa.AL
