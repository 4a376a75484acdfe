/- Records: edges and draws. -/
import Derived.Test.YtpjocohpogihcaaRec
namespace Go.Proofs.Ytpjocohpogihcaa.AL
set_option linter.unusedVariables false
set_option linter.unusedSimpArgs false
set_option maxRecDepth 10000
set_option maxHeartbeats 2000000
open Go

def bitI (b : Bool) : Int := if b then 1 else 0
def edgeP (f d i : Int) (b : Bool) : ByteArray × Bool :=
  if (idB f && idB i) && decide (0 ≤ d ∧ d ≤ 4611686018427387904) then (putS f 4 ++ putS d 8 ++ putS i 4 ++ putS (bitI b) 1, true) else (⟨#[]⟩, false)
def drawP (o k l i : Int) : ByteArray × Bool :=
  if (idB o && idB i) && decide (0 ≤ k ∧ k ≤ 255 ∧ 0 ≤ l) then (putS o 4 ++ putS k 1 ++ putS l 8 ++ putS i 4, true) else (⟨#[]⟩, false)

theorem putB_8 {d : Int} (h0 : 0 ≤ d) (h1 : d < 9223372036854775808) : putB d 8 = true := by
  simp [putB]; omega
theorem putB_neg {d k : Int} (h0 : d < 0) : putB d k = false := by
  simp [putB, show ¬ 0 ≤ d by omega]
theorem putB_1 {d : Int} (h0 : 0 ≤ d) (h1 : d ≤ 255) : putB d 1 = true := by
  simp [putB]; omega

-- chainman/rec.PutEdge: function 24
theorem rec_PutEdge (f d i : Int) (b : Bool) (h0 : f < 9223372036854775808) (h1 : d < 9223372036854775808) (h2 : i < 9223372036854775808) :
    Pure1 Try.prog 24 [.agg [.lit (.int .i64 f), .lit (.int .i64 d), .lit (.int .i64 i), .lit (.bool b)]] (.tup [.lit (.string (edgeP f d i b).1), .lit (.bool (edgeP f d i b).2)]) := by
  intro h
  refine acalls_of Try.func24 (by rfl) fun hok => ?_
  simp only [List.length_cons, List.length_nil, Nat.reduceAdd, show Try.f24.ntmps = 37 from rfl, Nat.reduceSub, List.replicate, List.cons_append, List.nil_append]
  have hm := mayB_2 f i
  rcases Bool.eq_false_or_eq_true (idB f && idB i) with hi | hi
  · have hi' := hi
    rw [Bool.and_eq_true] at hi'
    rw [hi] at hm
    have p1 := idB_put hi'.1
    have p2 := idB_put hi'.2
    clear hi'
    by_cases hd : d > 4611686018427387904
    · have hc : edgeP f d i b = (⟨#[]⟩, false) := by simp [edgeP, show ¬ (0 ≤ d ∧ d ≤ 4611686018427387904) by omega]
      (repeat' (first
          | ((with_reducible refine wp_head ?_); first
              | with_reducible refine awp_seq ?_
              | with_reducible refine awp_block ?_
              | with_reducible refine awp_regionL ?_
              | with_reducible refine awp_skip ?_
              | with_reducible refine awp_exit ?_
              | with_reducible refine awp_ret ?_
              | with_reducible refine awp_goto ?_
              | (refine awp_test (by rfl) ?_; first | with_reducible refine cc_t ?_ | with_reducible refine cc_f ?_)
              | ((refine awp_cond_case (by rfl) (by simp only [go_sem]; rfl) (by simp only [go_sem]; rfl) (fun hcase => ?_) (fun hcase => ?_)) <;> (try simp only [decide_eq_true_eq, decide_eq_false_iff_not, Bool.not_eq_true', Bool.not_eq_false', beq_iff_eq, ne_eq] at hcase) <;> first | (exfalso; omega) | contradiction | skip))
          | ((with_reducible refine st_head ?_); first
              | with_reducible refine st_nil ?_
              | (refine st_none rfl fun K QK hK hQK => ?_; simp (config := { decide := true }) only [go_sem, Nat.reduceAdd, Nat.reduceMul, Nat.reduceSub, Nat.reduceLeDiff, Int.reduceToNat, reduceCtorEq, reduceIte, hm, hd])
              | (refine st_test rfl (by rfl) (by rfl) (by simp only [go_sem]; rfl) ?_; first | (with_reducible refine gc_ft ?_) | (with_reducible refine gc_tf ?_) | ((with_reducible refine gc_tt fun K QK hK hQK => ?_); simp (config := { decide := true }) only [go_sem, Nat.reduceAdd, Nat.reduceMul, Nat.reduceSub, Nat.reduceLeDiff, Int.reduceToNat, reduceCtorEq, reduceIte, hm, hd]) | ((with_reducible refine gc_ff fun K QK hK hQK => ?_); simp (config := { decide := true }) only [go_sem, Nat.reduceAdd, Nat.reduceMul, Nat.reduceSub, Nat.reduceLeDiff, Int.reduceToNat, reduceCtorEq, reduceIte, hm, hd]))
              | ((refine st_case rfl (by rfl) (by rfl) (by simp only [go_sem]; rfl) (by simp only [go_sem]; rfl) (fun hcase => ?_) (fun hcase => ?_)) <;> (try simp only [decide_eq_true_eq, decide_eq_false_iff_not, Bool.not_eq_true', Bool.not_eq_false', beq_iff_eq, ne_eq] at hcase) <;> first | (exfalso; omega) | contradiction | skip)
              | (refine st_nil ?_))
          | ((with_reducible refine sq_head ?_); first
              | with_reducible refine sq_nil ?_
              | (refine sq_none rfl fun K hK => ?_; simp (config := { decide := true }) only [go_sem, Nat.reduceAdd, Nat.reduceMul, Nat.reduceSub, Nat.reduceLeDiff, Int.reduceToNat, reduceCtorEq, reduceIte, hm, hd, exists_eq_left', exists_and_left, and_assoc])
              | (refine sq_test rfl (by rfl) (by rfl) (by simp only [go_sem]; rfl) ?_; first | (with_reducible refine gc_ft ?_) | (with_reducible refine gc_tf ?_) | ((with_reducible refine gc_tt fun K hK => ?_); simp (config := { decide := true }) only [go_sem, Nat.reduceAdd, Nat.reduceMul, Nat.reduceSub, Nat.reduceLeDiff, Int.reduceToNat, reduceCtorEq, reduceIte, hm, hd, exists_eq_left', exists_and_left, and_assoc]) | ((with_reducible refine gc_ff fun K hK => ?_); simp (config := { decide := true }) only [go_sem, Nat.reduceAdd, Nat.reduceMul, Nat.reduceSub, Nat.reduceLeDiff, Int.reduceToNat, reduceCtorEq, reduceIte, hm, hd, exists_eq_left', exists_and_left, and_assoc]))
              | ((refine sq_case rfl (by rfl) (by rfl) (by simp only [go_sem]; rfl) (by simp only [go_sem]; rfl) (fun hcase => ?_) (fun hcase => ?_)) <;> (try simp only [decide_eq_true_eq, decide_eq_false_iff_not, Bool.not_eq_true', Bool.not_eq_false', beq_iff_eq, ne_eq] at hcase) <;> first | (exfalso; omega) | contradiction | skip)
              | (refine sq_nil ?_))
          | with_reducible refine th_normal ?_
          | with_reducible refine th_ret ?_
          | with_reducible refine th_exit ?_
          | with_reducible refine bl_normal ?_
          | with_reducible refine bl_ret ?_
          | with_reducible refine bl_exit ?_
          | with_reducible refine bl_exit_ne (by decide) ?_
          | with_reducible refine th_goto ?_
          | with_reducible refine bl_goto ?_
          | (with_reducible refine hK _ _ ?_; clear hK hQK K QK)
          | (with_reducible refine hK _ ?_; clear hK K)
          | ((with_reducible refine body_ret tr24 ?_); simp (config := { decide := true }) only [go_sem, Nat.reduceAdd, Nat.reduceMul, Nat.reduceSub, Nat.reduceLeDiff, Int.reduceToNat, reduceCtorEq, reduceIte, hm, hd])
          | ((with_reducible refine body_normal tr24 ?_); simp (config := { decide := true }) only [go_sem, Nat.reduceAdd, Nat.reduceMul, Nat.reduceSub, Nat.reduceLeDiff, Int.reduceToNat, reduceCtorEq, reduceIte, hm, hd])
          | (refine And.intro (by first | omega | (simp only [ByteArray.size_append]; omega)) ?_)
          | (refine ACalls.mono (rec_may [f, i] _ _ (by simp [intV]) (by simp)) ?_; rintro _ _ ⟨rfl, rfl⟩; simp (config := { decide := true }) only [go_sem, Nat.reduceAdd, Nat.reduceMul, Nat.reduceSub, Nat.reduceLeDiff, Int.reduceToNat, reduceCtorEq, reduceIte, hm])
          | ((first | refine ends_same hok rfl ⟨?_, rfl⟩ | refine ends_here ⟨?_, rfl⟩); first | (with_reducible rfl) | (simp [hc, *]; done) | (simp_all [hc]; done) | (simp_all [hc]; split <;> first | (exfalso; omega) | (simp_all; done)))))
    by_cases hg : d < 0
    · have hc : edgeP f d i b = (⟨#[]⟩, false) := by simp [edgeP, show ¬ (0 ≤ d ∧ d ≤ 4611686018427387904) by omega]
      have hr : ∀ n, rowG [f, 4, d, 8, i, 4, n, 1] ⟨#[]⟩ = (⟨#[]⟩, false) := fun n => by simp [rowG, p1, putB_neg hg]
      have w1 : IntKind.i64.wrap (0 + 1) = 1 := by decide
      cases b
      · (repeat' (first
          | ((with_reducible refine wp_head ?_); first
              | with_reducible refine awp_seq ?_
              | with_reducible refine awp_block ?_
              | with_reducible refine awp_regionL ?_
              | with_reducible refine awp_skip ?_
              | with_reducible refine awp_exit ?_
              | with_reducible refine awp_ret ?_
              | with_reducible refine awp_goto ?_
              | (refine awp_test (by rfl) ?_; first | with_reducible refine cc_t ?_ | with_reducible refine cc_f ?_)
              | ((refine awp_cond_case (by rfl) (by simp only [go_sem]; rfl) (by simp only [go_sem]; rfl) (fun hcase => ?_) (fun hcase => ?_)) <;> (try simp only [decide_eq_true_eq, decide_eq_false_iff_not, Bool.not_eq_true', Bool.not_eq_false', beq_iff_eq, ne_eq] at hcase) <;> first | (exfalso; omega) | contradiction | skip))
          | ((with_reducible refine st_head ?_); first
              | with_reducible refine st_nil ?_
              | (refine st_none rfl fun K QK hK hQK => ?_; simp (config := { decide := true }) only [go_sem, Nat.reduceAdd, Nat.reduceMul, Nat.reduceSub, Nat.reduceLeDiff, Int.reduceToNat, reduceCtorEq, reduceIte, hm, hd, w1])
              | (refine st_test rfl (by rfl) (by rfl) (by simp only [go_sem]; rfl) ?_; first | (with_reducible refine gc_ft ?_) | (with_reducible refine gc_tf ?_) | ((with_reducible refine gc_tt fun K QK hK hQK => ?_); simp (config := { decide := true }) only [go_sem, Nat.reduceAdd, Nat.reduceMul, Nat.reduceSub, Nat.reduceLeDiff, Int.reduceToNat, reduceCtorEq, reduceIte, hm, hd, w1]) | ((with_reducible refine gc_ff fun K QK hK hQK => ?_); simp (config := { decide := true }) only [go_sem, Nat.reduceAdd, Nat.reduceMul, Nat.reduceSub, Nat.reduceLeDiff, Int.reduceToNat, reduceCtorEq, reduceIte, hm, hd, w1]))
              | ((refine st_case rfl (by rfl) (by rfl) (by simp only [go_sem]; rfl) (by simp only [go_sem]; rfl) (fun hcase => ?_) (fun hcase => ?_)) <;> (try simp only [decide_eq_true_eq, decide_eq_false_iff_not, Bool.not_eq_true', Bool.not_eq_false', beq_iff_eq, ne_eq] at hcase) <;> first | (exfalso; omega) | contradiction | skip)
              | (refine st_nil ?_))
          | ((with_reducible refine sq_head ?_); first
              | with_reducible refine sq_nil ?_
              | (refine sq_none rfl fun K hK => ?_; simp (config := { decide := true }) only [go_sem, Nat.reduceAdd, Nat.reduceMul, Nat.reduceSub, Nat.reduceLeDiff, Int.reduceToNat, reduceCtorEq, reduceIte, hm, hd, w1, exists_eq_left', exists_and_left, and_assoc])
              | (refine sq_test rfl (by rfl) (by rfl) (by simp only [go_sem]; rfl) ?_; first | (with_reducible refine gc_ft ?_) | (with_reducible refine gc_tf ?_) | ((with_reducible refine gc_tt fun K hK => ?_); simp (config := { decide := true }) only [go_sem, Nat.reduceAdd, Nat.reduceMul, Nat.reduceSub, Nat.reduceLeDiff, Int.reduceToNat, reduceCtorEq, reduceIte, hm, hd, w1, exists_eq_left', exists_and_left, and_assoc]) | ((with_reducible refine gc_ff fun K hK => ?_); simp (config := { decide := true }) only [go_sem, Nat.reduceAdd, Nat.reduceMul, Nat.reduceSub, Nat.reduceLeDiff, Int.reduceToNat, reduceCtorEq, reduceIte, hm, hd, w1, exists_eq_left', exists_and_left, and_assoc]))
              | ((refine sq_case rfl (by rfl) (by rfl) (by simp only [go_sem]; rfl) (by simp only [go_sem]; rfl) (fun hcase => ?_) (fun hcase => ?_)) <;> (try simp only [decide_eq_true_eq, decide_eq_false_iff_not, Bool.not_eq_true', Bool.not_eq_false', beq_iff_eq, ne_eq] at hcase) <;> first | (exfalso; omega) | contradiction | skip)
              | (refine sq_nil ?_))
          | with_reducible refine th_normal ?_
          | with_reducible refine th_ret ?_
          | with_reducible refine th_exit ?_
          | with_reducible refine bl_normal ?_
          | with_reducible refine bl_ret ?_
          | with_reducible refine bl_exit ?_
          | with_reducible refine bl_exit_ne (by decide) ?_
          | with_reducible refine th_goto ?_
          | with_reducible refine bl_goto ?_
          | (with_reducible refine hK _ _ ?_; clear hK hQK K QK)
          | (with_reducible refine hK _ ?_; clear hK K)
          | ((with_reducible refine body_ret tr24 ?_); simp (config := { decide := true }) only [go_sem, Nat.reduceAdd, Nat.reduceMul, Nat.reduceSub, Nat.reduceLeDiff, Int.reduceToNat, reduceCtorEq, reduceIte, hm, hd, w1])
          | ((with_reducible refine body_normal tr24 ?_); simp (config := { decide := true }) only [go_sem, Nat.reduceAdd, Nat.reduceMul, Nat.reduceSub, Nat.reduceLeDiff, Int.reduceToNat, reduceCtorEq, reduceIte, hm, hd, w1])
          | (refine And.intro (by first | omega | (simp only [ByteArray.size_append]; omega)) ?_)
          | (refine ACalls.mono (rec_may [f, i] _ _ (by simp [intV]) (by simp)) ?_; rintro _ _ ⟨rfl, rfl⟩; simp (config := { decide := true }) only [go_sem, Nat.reduceAdd, Nat.reduceMul, Nat.reduceSub, Nat.reduceLeDiff, Int.reduceToNat, reduceCtorEq, reduceIte, hm])
          | (refine ACalls.mono (rec_row [f, 4, d, 8, i, 4, 0, 1] _ _ (by simp [intV]) (by simp) (by simp; omega)) ?_; rintro _ _ ⟨rfl, rfl⟩; simp (config := { decide := true }) only [go_sem, Nat.reduceAdd, Nat.reduceMul, Nat.reduceSub, Nat.reduceLeDiff, Int.reduceToNat, reduceCtorEq, reduceIte, hr])
          | ((first | refine ends_same hok rfl ⟨?_, rfl⟩ | refine ends_here ⟨?_, rfl⟩); first | (with_reducible rfl) | (simp [hc, *]; done) | (simp_all [hc]; done) | (simp_all [hc]; split <;> first | (exfalso; omega) | (simp_all; done)))))
      · (repeat' (first
          | ((with_reducible refine wp_head ?_); first
              | with_reducible refine awp_seq ?_
              | with_reducible refine awp_block ?_
              | with_reducible refine awp_regionL ?_
              | with_reducible refine awp_skip ?_
              | with_reducible refine awp_exit ?_
              | with_reducible refine awp_ret ?_
              | with_reducible refine awp_goto ?_
              | (refine awp_test (by rfl) ?_; first | with_reducible refine cc_t ?_ | with_reducible refine cc_f ?_)
              | ((refine awp_cond_case (by rfl) (by simp only [go_sem]; rfl) (by simp only [go_sem]; rfl) (fun hcase => ?_) (fun hcase => ?_)) <;> (try simp only [decide_eq_true_eq, decide_eq_false_iff_not, Bool.not_eq_true', Bool.not_eq_false', beq_iff_eq, ne_eq] at hcase) <;> first | (exfalso; omega) | contradiction | skip))
          | ((with_reducible refine st_head ?_); first
              | with_reducible refine st_nil ?_
              | (refine st_none rfl fun K QK hK hQK => ?_; simp (config := { decide := true }) only [go_sem, Nat.reduceAdd, Nat.reduceMul, Nat.reduceSub, Nat.reduceLeDiff, Int.reduceToNat, reduceCtorEq, reduceIte, hm, hd, w1])
              | (refine st_test rfl (by rfl) (by rfl) (by simp only [go_sem]; rfl) ?_; first | (with_reducible refine gc_ft ?_) | (with_reducible refine gc_tf ?_) | ((with_reducible refine gc_tt fun K QK hK hQK => ?_); simp (config := { decide := true }) only [go_sem, Nat.reduceAdd, Nat.reduceMul, Nat.reduceSub, Nat.reduceLeDiff, Int.reduceToNat, reduceCtorEq, reduceIte, hm, hd, w1]) | ((with_reducible refine gc_ff fun K QK hK hQK => ?_); simp (config := { decide := true }) only [go_sem, Nat.reduceAdd, Nat.reduceMul, Nat.reduceSub, Nat.reduceLeDiff, Int.reduceToNat, reduceCtorEq, reduceIte, hm, hd, w1]))
              | ((refine st_case rfl (by rfl) (by rfl) (by simp only [go_sem]; rfl) (by simp only [go_sem]; rfl) (fun hcase => ?_) (fun hcase => ?_)) <;> (try simp only [decide_eq_true_eq, decide_eq_false_iff_not, Bool.not_eq_true', Bool.not_eq_false', beq_iff_eq, ne_eq] at hcase) <;> first | (exfalso; omega) | contradiction | skip)
              | (refine st_nil ?_))
          | ((with_reducible refine sq_head ?_); first
              | with_reducible refine sq_nil ?_
              | (refine sq_none rfl fun K hK => ?_; simp (config := { decide := true }) only [go_sem, Nat.reduceAdd, Nat.reduceMul, Nat.reduceSub, Nat.reduceLeDiff, Int.reduceToNat, reduceCtorEq, reduceIte, hm, hd, w1, exists_eq_left', exists_and_left, and_assoc])
              | (refine sq_test rfl (by rfl) (by rfl) (by simp only [go_sem]; rfl) ?_; first | (with_reducible refine gc_ft ?_) | (with_reducible refine gc_tf ?_) | ((with_reducible refine gc_tt fun K hK => ?_); simp (config := { decide := true }) only [go_sem, Nat.reduceAdd, Nat.reduceMul, Nat.reduceSub, Nat.reduceLeDiff, Int.reduceToNat, reduceCtorEq, reduceIte, hm, hd, w1, exists_eq_left', exists_and_left, and_assoc]) | ((with_reducible refine gc_ff fun K hK => ?_); simp (config := { decide := true }) only [go_sem, Nat.reduceAdd, Nat.reduceMul, Nat.reduceSub, Nat.reduceLeDiff, Int.reduceToNat, reduceCtorEq, reduceIte, hm, hd, w1, exists_eq_left', exists_and_left, and_assoc]))
              | ((refine sq_case rfl (by rfl) (by rfl) (by simp only [go_sem]; rfl) (by simp only [go_sem]; rfl) (fun hcase => ?_) (fun hcase => ?_)) <;> (try simp only [decide_eq_true_eq, decide_eq_false_iff_not, Bool.not_eq_true', Bool.not_eq_false', beq_iff_eq, ne_eq] at hcase) <;> first | (exfalso; omega) | contradiction | skip)
              | (refine sq_nil ?_))
          | with_reducible refine th_normal ?_
          | with_reducible refine th_ret ?_
          | with_reducible refine th_exit ?_
          | with_reducible refine bl_normal ?_
          | with_reducible refine bl_ret ?_
          | with_reducible refine bl_exit ?_
          | with_reducible refine bl_exit_ne (by decide) ?_
          | with_reducible refine th_goto ?_
          | with_reducible refine bl_goto ?_
          | (with_reducible refine hK _ _ ?_; clear hK hQK K QK)
          | (with_reducible refine hK _ ?_; clear hK K)
          | ((with_reducible refine body_ret tr24 ?_); simp (config := { decide := true }) only [go_sem, Nat.reduceAdd, Nat.reduceMul, Nat.reduceSub, Nat.reduceLeDiff, Int.reduceToNat, reduceCtorEq, reduceIte, hm, hd, w1])
          | ((with_reducible refine body_normal tr24 ?_); simp (config := { decide := true }) only [go_sem, Nat.reduceAdd, Nat.reduceMul, Nat.reduceSub, Nat.reduceLeDiff, Int.reduceToNat, reduceCtorEq, reduceIte, hm, hd, w1])
          | (refine And.intro (by first | omega | (simp only [ByteArray.size_append]; omega)) ?_)
          | (refine ACalls.mono (rec_may [f, i] _ _ (by simp [intV]) (by simp)) ?_; rintro _ _ ⟨rfl, rfl⟩; simp (config := { decide := true }) only [go_sem, Nat.reduceAdd, Nat.reduceMul, Nat.reduceSub, Nat.reduceLeDiff, Int.reduceToNat, reduceCtorEq, reduceIte, hm])
          | (refine ACalls.mono (rec_row [f, 4, d, 8, i, 4, 1, 1] _ _ (by simp [intV]) (by simp) (by simp; omega)) ?_; rintro _ _ ⟨rfl, rfl⟩; simp (config := { decide := true }) only [go_sem, Nat.reduceAdd, Nat.reduceMul, Nat.reduceSub, Nat.reduceLeDiff, Int.reduceToNat, reduceCtorEq, reduceIte, hr])
          | ((first | refine ends_same hok rfl ⟨?_, rfl⟩ | refine ends_here ⟨?_, rfl⟩); first | (with_reducible rfl) | (simp [hc, *]; done) | (simp_all [hc]; done) | (simp_all [hc]; split <;> first | (exfalso; omega) | (simp_all; done)))))
    have p3 := putB_8 (d := d) (by omega) h1
    have hr0 : rowG [f, 4, d, 8, i, 4, 0, 1] ⟨#[]⟩ = (putS f 4 ++ putS d 8 ++ putS i 4 ++ putS 0 1, true) := by simp [rowG, p1, p2, p3, putB_1, app_none]
    have hr1 : rowG [f, 4, d, 8, i, 4, 1, 1] ⟨#[]⟩ = (putS f 4 ++ putS d 8 ++ putS i 4 ++ putS 1 1, true) := by simp [rowG, p1, p2, p3, putB_1, app_none]
    have w1 : IntKind.i64.wrap (0 + 1) = 1 := by decide
    have hc : edgeP f d i b = (putS f 4 ++ putS d 8 ++ putS i 4 ++ putS (bitI b) 1, true) := by simp [edgeP, hi, show (0 ≤ d ∧ d ≤ 4611686018427387904) by omega]
    cases b
    · (repeat' (first
        | ((with_reducible refine wp_head ?_); first
            | with_reducible refine awp_seq ?_
            | with_reducible refine awp_block ?_
            | with_reducible refine awp_regionL ?_
            | with_reducible refine awp_skip ?_
            | with_reducible refine awp_exit ?_
            | with_reducible refine awp_ret ?_
            | with_reducible refine awp_goto ?_
            | (refine awp_test (by rfl) ?_; first | with_reducible refine cc_t ?_ | with_reducible refine cc_f ?_)
            | ((refine awp_cond_case (by rfl) (by simp only [go_sem]; rfl) (by simp only [go_sem]; rfl) (fun hcase => ?_) (fun hcase => ?_)) <;> (try simp only [decide_eq_true_eq, decide_eq_false_iff_not, Bool.not_eq_true', Bool.not_eq_false', beq_iff_eq, ne_eq] at hcase) <;> first | (exfalso; omega) | contradiction | skip))
        | ((with_reducible refine st_head ?_); first
            | with_reducible refine st_nil ?_
            | (refine st_none rfl fun K QK hK hQK => ?_; simp (config := { decide := true }) only [go_sem, Nat.reduceAdd, Nat.reduceMul, Nat.reduceSub, Nat.reduceLeDiff, Int.reduceToNat, reduceCtorEq, reduceIte, hm, hd, w1])
            | (refine st_test rfl (by rfl) (by rfl) (by simp only [go_sem]; rfl) ?_; first | (with_reducible refine gc_ft ?_) | (with_reducible refine gc_tf ?_) | ((with_reducible refine gc_tt fun K QK hK hQK => ?_); simp (config := { decide := true }) only [go_sem, Nat.reduceAdd, Nat.reduceMul, Nat.reduceSub, Nat.reduceLeDiff, Int.reduceToNat, reduceCtorEq, reduceIte, hm, hd, w1]) | ((with_reducible refine gc_ff fun K QK hK hQK => ?_); simp (config := { decide := true }) only [go_sem, Nat.reduceAdd, Nat.reduceMul, Nat.reduceSub, Nat.reduceLeDiff, Int.reduceToNat, reduceCtorEq, reduceIte, hm, hd, w1]))
            | ((refine st_case rfl (by rfl) (by rfl) (by simp only [go_sem]; rfl) (by simp only [go_sem]; rfl) (fun hcase => ?_) (fun hcase => ?_)) <;> (try simp only [decide_eq_true_eq, decide_eq_false_iff_not, Bool.not_eq_true', Bool.not_eq_false', beq_iff_eq, ne_eq] at hcase) <;> first | (exfalso; omega) | contradiction | skip)
            | (refine st_nil ?_))
        | ((with_reducible refine sq_head ?_); first
            | with_reducible refine sq_nil ?_
            | (refine sq_none rfl fun K hK => ?_; simp (config := { decide := true }) only [go_sem, Nat.reduceAdd, Nat.reduceMul, Nat.reduceSub, Nat.reduceLeDiff, Int.reduceToNat, reduceCtorEq, reduceIte, hm, hd, w1, exists_eq_left', exists_and_left, and_assoc])
            | (refine sq_test rfl (by rfl) (by rfl) (by simp only [go_sem]; rfl) ?_; first | (with_reducible refine gc_ft ?_) | (with_reducible refine gc_tf ?_) | ((with_reducible refine gc_tt fun K hK => ?_); simp (config := { decide := true }) only [go_sem, Nat.reduceAdd, Nat.reduceMul, Nat.reduceSub, Nat.reduceLeDiff, Int.reduceToNat, reduceCtorEq, reduceIte, hm, hd, w1, exists_eq_left', exists_and_left, and_assoc]) | ((with_reducible refine gc_ff fun K hK => ?_); simp (config := { decide := true }) only [go_sem, Nat.reduceAdd, Nat.reduceMul, Nat.reduceSub, Nat.reduceLeDiff, Int.reduceToNat, reduceCtorEq, reduceIte, hm, hd, w1, exists_eq_left', exists_and_left, and_assoc]))
            | ((refine sq_case rfl (by rfl) (by rfl) (by simp only [go_sem]; rfl) (by simp only [go_sem]; rfl) (fun hcase => ?_) (fun hcase => ?_)) <;> (try simp only [decide_eq_true_eq, decide_eq_false_iff_not, Bool.not_eq_true', Bool.not_eq_false', beq_iff_eq, ne_eq] at hcase) <;> first | (exfalso; omega) | contradiction | skip)
            | (refine sq_nil ?_))
        | with_reducible refine th_normal ?_
        | with_reducible refine th_ret ?_
        | with_reducible refine th_exit ?_
        | with_reducible refine bl_normal ?_
        | with_reducible refine bl_ret ?_
        | with_reducible refine bl_exit ?_
        | with_reducible refine bl_exit_ne (by decide) ?_
        | with_reducible refine th_goto ?_
        | with_reducible refine bl_goto ?_
        | (with_reducible refine hK _ _ ?_; clear hK hQK K QK)
        | (with_reducible refine hK _ ?_; clear hK K)
        | ((with_reducible refine body_ret tr24 ?_); simp (config := { decide := true }) only [go_sem, Nat.reduceAdd, Nat.reduceMul, Nat.reduceSub, Nat.reduceLeDiff, Int.reduceToNat, reduceCtorEq, reduceIte, hm, hd, w1])
        | ((with_reducible refine body_normal tr24 ?_); simp (config := { decide := true }) only [go_sem, Nat.reduceAdd, Nat.reduceMul, Nat.reduceSub, Nat.reduceLeDiff, Int.reduceToNat, reduceCtorEq, reduceIte, hm, hd, w1])
        | (refine And.intro (by first | omega | (simp only [ByteArray.size_append]; omega)) ?_)
        | (refine ACalls.mono (rec_may [f, i] _ _ (by simp [intV]) (by simp)) ?_; rintro _ _ ⟨rfl, rfl⟩; simp (config := { decide := true }) only [go_sem, Nat.reduceAdd, Nat.reduceMul, Nat.reduceSub, Nat.reduceLeDiff, Int.reduceToNat, reduceCtorEq, reduceIte, hm])
        | (refine ACalls.mono (rec_row [f, 4, d, 8, i, 4, 0, 1] _ _ (by simp [intV]) (by simp) (by simp; omega)) ?_; rintro _ _ ⟨rfl, rfl⟩; simp (config := { decide := true }) only [go_sem, Nat.reduceAdd, Nat.reduceMul, Nat.reduceSub, Nat.reduceLeDiff, Int.reduceToNat, reduceCtorEq, reduceIte, hr0])
        | ((first | refine ends_same hok rfl ⟨?_, rfl⟩ | refine ends_here ⟨?_, rfl⟩); first | (with_reducible rfl) | (simp [hc, bitI, *]; done) | (simp_all [hc, bitI]; done) | (simp_all [hc, bitI]; split <;> first | (exfalso; omega) | (simp_all; done)))))
    · (repeat' (first
        | ((with_reducible refine wp_head ?_); first
            | with_reducible refine awp_seq ?_
            | with_reducible refine awp_block ?_
            | with_reducible refine awp_regionL ?_
            | with_reducible refine awp_skip ?_
            | with_reducible refine awp_exit ?_
            | with_reducible refine awp_ret ?_
            | with_reducible refine awp_goto ?_
            | (refine awp_test (by rfl) ?_; first | with_reducible refine cc_t ?_ | with_reducible refine cc_f ?_)
            | ((refine awp_cond_case (by rfl) (by simp only [go_sem]; rfl) (by simp only [go_sem]; rfl) (fun hcase => ?_) (fun hcase => ?_)) <;> (try simp only [decide_eq_true_eq, decide_eq_false_iff_not, Bool.not_eq_true', Bool.not_eq_false', beq_iff_eq, ne_eq] at hcase) <;> first | (exfalso; omega) | contradiction | skip))
        | ((with_reducible refine st_head ?_); first
            | with_reducible refine st_nil ?_
            | (refine st_none rfl fun K QK hK hQK => ?_; simp (config := { decide := true }) only [go_sem, Nat.reduceAdd, Nat.reduceMul, Nat.reduceSub, Nat.reduceLeDiff, Int.reduceToNat, reduceCtorEq, reduceIte, hm, hd, w1])
            | (refine st_test rfl (by rfl) (by rfl) (by simp only [go_sem]; rfl) ?_; first | (with_reducible refine gc_ft ?_) | (with_reducible refine gc_tf ?_) | ((with_reducible refine gc_tt fun K QK hK hQK => ?_); simp (config := { decide := true }) only [go_sem, Nat.reduceAdd, Nat.reduceMul, Nat.reduceSub, Nat.reduceLeDiff, Int.reduceToNat, reduceCtorEq, reduceIte, hm, hd, w1]) | ((with_reducible refine gc_ff fun K QK hK hQK => ?_); simp (config := { decide := true }) only [go_sem, Nat.reduceAdd, Nat.reduceMul, Nat.reduceSub, Nat.reduceLeDiff, Int.reduceToNat, reduceCtorEq, reduceIte, hm, hd, w1]))
            | ((refine st_case rfl (by rfl) (by rfl) (by simp only [go_sem]; rfl) (by simp only [go_sem]; rfl) (fun hcase => ?_) (fun hcase => ?_)) <;> (try simp only [decide_eq_true_eq, decide_eq_false_iff_not, Bool.not_eq_true', Bool.not_eq_false', beq_iff_eq, ne_eq] at hcase) <;> first | (exfalso; omega) | contradiction | skip)
            | (refine st_nil ?_))
        | ((with_reducible refine sq_head ?_); first
            | with_reducible refine sq_nil ?_
            | (refine sq_none rfl fun K hK => ?_; simp (config := { decide := true }) only [go_sem, Nat.reduceAdd, Nat.reduceMul, Nat.reduceSub, Nat.reduceLeDiff, Int.reduceToNat, reduceCtorEq, reduceIte, hm, hd, w1, exists_eq_left', exists_and_left, and_assoc])
            | (refine sq_test rfl (by rfl) (by rfl) (by simp only [go_sem]; rfl) ?_; first | (with_reducible refine gc_ft ?_) | (with_reducible refine gc_tf ?_) | ((with_reducible refine gc_tt fun K hK => ?_); simp (config := { decide := true }) only [go_sem, Nat.reduceAdd, Nat.reduceMul, Nat.reduceSub, Nat.reduceLeDiff, Int.reduceToNat, reduceCtorEq, reduceIte, hm, hd, w1, exists_eq_left', exists_and_left, and_assoc]) | ((with_reducible refine gc_ff fun K hK => ?_); simp (config := { decide := true }) only [go_sem, Nat.reduceAdd, Nat.reduceMul, Nat.reduceSub, Nat.reduceLeDiff, Int.reduceToNat, reduceCtorEq, reduceIte, hm, hd, w1, exists_eq_left', exists_and_left, and_assoc]))
            | ((refine sq_case rfl (by rfl) (by rfl) (by simp only [go_sem]; rfl) (by simp only [go_sem]; rfl) (fun hcase => ?_) (fun hcase => ?_)) <;> (try simp only [decide_eq_true_eq, decide_eq_false_iff_not, Bool.not_eq_true', Bool.not_eq_false', beq_iff_eq, ne_eq] at hcase) <;> first | (exfalso; omega) | contradiction | skip)
            | (refine sq_nil ?_))
        | with_reducible refine th_normal ?_
        | with_reducible refine th_ret ?_
        | with_reducible refine th_exit ?_
        | with_reducible refine bl_normal ?_
        | with_reducible refine bl_ret ?_
        | with_reducible refine bl_exit ?_
        | with_reducible refine bl_exit_ne (by decide) ?_
        | with_reducible refine th_goto ?_
        | with_reducible refine bl_goto ?_
        | (with_reducible refine hK _ _ ?_; clear hK hQK K QK)
        | (with_reducible refine hK _ ?_; clear hK K)
        | ((with_reducible refine body_ret tr24 ?_); simp (config := { decide := true }) only [go_sem, Nat.reduceAdd, Nat.reduceMul, Nat.reduceSub, Nat.reduceLeDiff, Int.reduceToNat, reduceCtorEq, reduceIte, hm, hd, w1])
        | ((with_reducible refine body_normal tr24 ?_); simp (config := { decide := true }) only [go_sem, Nat.reduceAdd, Nat.reduceMul, Nat.reduceSub, Nat.reduceLeDiff, Int.reduceToNat, reduceCtorEq, reduceIte, hm, hd, w1])
        | (refine And.intro (by first | omega | (simp only [ByteArray.size_append]; omega)) ?_)
        | (refine ACalls.mono (rec_may [f, i] _ _ (by simp [intV]) (by simp)) ?_; rintro _ _ ⟨rfl, rfl⟩; simp (config := { decide := true }) only [go_sem, Nat.reduceAdd, Nat.reduceMul, Nat.reduceSub, Nat.reduceLeDiff, Int.reduceToNat, reduceCtorEq, reduceIte, hm])
        | (refine ACalls.mono (rec_row [f, 4, d, 8, i, 4, 1, 1] _ _ (by simp [intV]) (by simp) (by simp; omega)) ?_; rintro _ _ ⟨rfl, rfl⟩; simp (config := { decide := true }) only [go_sem, Nat.reduceAdd, Nat.reduceMul, Nat.reduceSub, Nat.reduceLeDiff, Int.reduceToNat, reduceCtorEq, reduceIte, hr1])
        | ((first | refine ends_same hok rfl ⟨?_, rfl⟩ | refine ends_here ⟨?_, rfl⟩); first | (with_reducible rfl) | (simp [hc, bitI, *]; done) | (simp_all [hc, bitI]; done) | (simp_all [hc, bitI]; split <;> first | (exfalso; omega) | (simp_all; done)))))
  · rw [hi] at hm
    have hc : edgeP f d i b = (⟨#[]⟩, false) := by simp [edgeP, hi]
    (repeat' (first
        | ((with_reducible refine wp_head ?_); first
            | with_reducible refine awp_seq ?_
            | with_reducible refine awp_block ?_
            | with_reducible refine awp_regionL ?_
            | with_reducible refine awp_skip ?_
            | with_reducible refine awp_exit ?_
            | with_reducible refine awp_ret ?_
            | with_reducible refine awp_goto ?_
            | (refine awp_test (by rfl) ?_; first | with_reducible refine cc_t ?_ | with_reducible refine cc_f ?_)
            | ((refine awp_cond_case (by rfl) (by simp only [go_sem]; rfl) (by simp only [go_sem]; rfl) (fun hcase => ?_) (fun hcase => ?_)) <;> (try simp only [decide_eq_true_eq, decide_eq_false_iff_not, Bool.not_eq_true', Bool.not_eq_false', beq_iff_eq, ne_eq] at hcase) <;> first | (exfalso; omega) | contradiction | skip))
        | ((with_reducible refine st_head ?_); first
            | with_reducible refine st_nil ?_
            | (refine st_none rfl fun K QK hK hQK => ?_; simp (config := { decide := true }) only [go_sem, Nat.reduceAdd, Nat.reduceMul, Nat.reduceSub, Nat.reduceLeDiff, Int.reduceToNat, reduceCtorEq, reduceIte, hm])
            | (refine st_test rfl (by rfl) (by rfl) (by simp only [go_sem]; rfl) ?_; first | (with_reducible refine gc_ft ?_) | (with_reducible refine gc_tf ?_) | ((with_reducible refine gc_tt fun K QK hK hQK => ?_); simp (config := { decide := true }) only [go_sem, Nat.reduceAdd, Nat.reduceMul, Nat.reduceSub, Nat.reduceLeDiff, Int.reduceToNat, reduceCtorEq, reduceIte, hm]) | ((with_reducible refine gc_ff fun K QK hK hQK => ?_); simp (config := { decide := true }) only [go_sem, Nat.reduceAdd, Nat.reduceMul, Nat.reduceSub, Nat.reduceLeDiff, Int.reduceToNat, reduceCtorEq, reduceIte, hm]))
            | ((refine st_case rfl (by rfl) (by rfl) (by simp only [go_sem]; rfl) (by simp only [go_sem]; rfl) (fun hcase => ?_) (fun hcase => ?_)) <;> (try simp only [decide_eq_true_eq, decide_eq_false_iff_not, Bool.not_eq_true', Bool.not_eq_false', beq_iff_eq, ne_eq] at hcase) <;> first | (exfalso; omega) | contradiction | skip)
            | (refine st_nil ?_))
        | ((with_reducible refine sq_head ?_); first
            | with_reducible refine sq_nil ?_
            | (refine sq_none rfl fun K hK => ?_; simp (config := { decide := true }) only [go_sem, Nat.reduceAdd, Nat.reduceMul, Nat.reduceSub, Nat.reduceLeDiff, Int.reduceToNat, reduceCtorEq, reduceIte, hm, exists_eq_left', exists_and_left, and_assoc])
            | (refine sq_test rfl (by rfl) (by rfl) (by simp only [go_sem]; rfl) ?_; first | (with_reducible refine gc_ft ?_) | (with_reducible refine gc_tf ?_) | ((with_reducible refine gc_tt fun K hK => ?_); simp (config := { decide := true }) only [go_sem, Nat.reduceAdd, Nat.reduceMul, Nat.reduceSub, Nat.reduceLeDiff, Int.reduceToNat, reduceCtorEq, reduceIte, hm, exists_eq_left', exists_and_left, and_assoc]) | ((with_reducible refine gc_ff fun K hK => ?_); simp (config := { decide := true }) only [go_sem, Nat.reduceAdd, Nat.reduceMul, Nat.reduceSub, Nat.reduceLeDiff, Int.reduceToNat, reduceCtorEq, reduceIte, hm, exists_eq_left', exists_and_left, and_assoc]))
            | ((refine sq_case rfl (by rfl) (by rfl) (by simp only [go_sem]; rfl) (by simp only [go_sem]; rfl) (fun hcase => ?_) (fun hcase => ?_)) <;> (try simp only [decide_eq_true_eq, decide_eq_false_iff_not, Bool.not_eq_true', Bool.not_eq_false', beq_iff_eq, ne_eq] at hcase) <;> first | (exfalso; omega) | contradiction | skip)
            | (refine sq_nil ?_))
        | with_reducible refine th_normal ?_
        | with_reducible refine th_ret ?_
        | with_reducible refine th_exit ?_
        | with_reducible refine bl_normal ?_
        | with_reducible refine bl_ret ?_
        | with_reducible refine bl_exit ?_
        | with_reducible refine bl_exit_ne (by decide) ?_
        | with_reducible refine th_goto ?_
        | with_reducible refine bl_goto ?_
        | (with_reducible refine hK _ _ ?_; clear hK hQK K QK)
        | (with_reducible refine hK _ ?_; clear hK K)
        | ((with_reducible refine body_ret tr24 ?_); simp (config := { decide := true }) only [go_sem, Nat.reduceAdd, Nat.reduceMul, Nat.reduceSub, Nat.reduceLeDiff, Int.reduceToNat, reduceCtorEq, reduceIte, hm])
        | ((with_reducible refine body_normal tr24 ?_); simp (config := { decide := true }) only [go_sem, Nat.reduceAdd, Nat.reduceMul, Nat.reduceSub, Nat.reduceLeDiff, Int.reduceToNat, reduceCtorEq, reduceIte, hm])
        | (refine And.intro (by first | omega | (simp only [ByteArray.size_append]; omega)) ?_)
        | (refine ACalls.mono (rec_may [f, i] _ _ (by simp [intV]) (by simp)) ?_; rintro _ _ ⟨rfl, rfl⟩; simp (config := { decide := true }) only [go_sem, Nat.reduceAdd, Nat.reduceMul, Nat.reduceSub, Nat.reduceLeDiff, Int.reduceToNat, reduceCtorEq, reduceIte, hm])
        | ((first | refine ends_same hok rfl ⟨?_, rfl⟩ | refine ends_here ⟨?_, rfl⟩); first | (with_reducible rfl) | (simp [hc, *]; done) | (simp_all [hc]; done) | (simp_all [hc]; split <;> first | (exfalso; omega) | (simp_all; done)))))

-- chainman/chainmanref14.PutEdge: function 25
theorem ref14_PutEdge (f d i : Int) (b : Bool) (h0 : f < 9223372036854775808) (h1 : d < 9223372036854775808) (h2 : i < 9223372036854775808) :
    Pure1 Try.prog 25 [.agg [.lit (.int .i64 f), .lit (.int .i64 d), .lit (.int .i64 i), .lit (.bool b)]] (.tup [.lit (.string (edgeP f d i b).1), .lit (.bool (edgeP f d i b).2)]) := by
  intro h
  refine acalls_of Try.func25 (by rfl) fun hok => ?_
  simp only [List.length_cons, List.length_nil, Nat.reduceAdd, show Try.f25.ntmps = 47 from rfl, Nat.reduceSub, List.replicate, List.cons_append, List.nil_append]
  have e1 := putS_size f 4
  have e2 := putS_size d 8
  have e3 := putS_size i 4
  have e4 := putS_size 0 1
  have e5 := putS_size 1 1
  (repeat' (first
      | ((with_reducible refine wp_head ?_); first
          | with_reducible refine awp_seq ?_
          | with_reducible refine awp_block ?_
          | with_reducible refine awp_regionL ?_
          | with_reducible refine awp_skip ?_
          | with_reducible refine awp_exit ?_
          | with_reducible refine awp_ret ?_
          | with_reducible refine awp_goto ?_
          | (with_reducible refine awp_drawL (id := 6) 18 tmix rfl rfl (by kernel_rfl) ?_)
          | (refine awp_test (by rfl) ?_; first | with_reducible refine cc_t ?_ | with_reducible refine cc_f ?_)
          | ((refine awp_cond_case (by rfl) (by simp only [go_sem]; rfl) (by simp only [go_sem]; rfl) (fun hcase => ?_) (fun hcase => ?_)) <;> (try simp only [decide_eq_true_eq, decide_eq_false_iff_not, Bool.not_eq_true', Bool.not_eq_false', beq_iff_eq, ne_eq] at hcase) <;> first | (exfalso; omega) | contradiction | skip))
      | ((with_reducible refine st_head ?_); first
          | with_reducible refine st_nil ?_
          | (refine st_none rfl fun K QK hK hQK => ?_; simp (config := { decide := true }) only [go_sem, Nat.reduceAdd, Nat.reduceMul, Nat.reduceSub, Nat.reduceLeDiff, Int.reduceToNat, reduceCtorEq, reduceIte])
          | (refine st_test rfl (by rfl) (by rfl) (by simp only [go_sem]; rfl) ?_; first | (with_reducible refine gc_ft ?_) | (with_reducible refine gc_tf ?_) | ((with_reducible refine gc_tt fun K QK hK hQK => ?_); simp (config := { decide := true }) only [go_sem, Nat.reduceAdd, Nat.reduceMul, Nat.reduceSub, Nat.reduceLeDiff, Int.reduceToNat, reduceCtorEq, reduceIte]) | ((with_reducible refine gc_ff fun K QK hK hQK => ?_); simp (config := { decide := true }) only [go_sem, Nat.reduceAdd, Nat.reduceMul, Nat.reduceSub, Nat.reduceLeDiff, Int.reduceToNat, reduceCtorEq, reduceIte]))
          | ((refine st_case rfl (by rfl) (by rfl) (by simp only [go_sem]; rfl) (by simp only [go_sem]; rfl) (fun hcase => ?_) (fun hcase => ?_)) <;> (try simp only [decide_eq_true_eq, decide_eq_false_iff_not, Bool.not_eq_true', Bool.not_eq_false', beq_iff_eq, ne_eq] at hcase) <;> first | (exfalso; omega) | contradiction | skip)
          | (refine st_nil ?_))
      | ((with_reducible refine sq_head ?_); first
          | with_reducible refine sq_nil ?_
          | (refine sq_none rfl fun K hK => ?_; simp (config := { decide := true }) only [go_sem, Nat.reduceAdd, Nat.reduceMul, Nat.reduceSub, Nat.reduceLeDiff, Int.reduceToNat, reduceCtorEq, reduceIte, exists_eq_left', exists_and_left, and_assoc])
          | (refine sq_test rfl (by rfl) (by rfl) (by simp only [go_sem]; rfl) ?_; first | (with_reducible refine gc_ft ?_) | (with_reducible refine gc_tf ?_) | ((with_reducible refine gc_tt fun K hK => ?_); simp (config := { decide := true }) only [go_sem, Nat.reduceAdd, Nat.reduceMul, Nat.reduceSub, Nat.reduceLeDiff, Int.reduceToNat, reduceCtorEq, reduceIte, exists_eq_left', exists_and_left, and_assoc]) | ((with_reducible refine gc_ff fun K hK => ?_); simp (config := { decide := true }) only [go_sem, Nat.reduceAdd, Nat.reduceMul, Nat.reduceSub, Nat.reduceLeDiff, Int.reduceToNat, reduceCtorEq, reduceIte, exists_eq_left', exists_and_left, and_assoc]))
          | ((refine sq_case rfl (by rfl) (by rfl) (by simp only [go_sem]; rfl) (by simp only [go_sem]; rfl) (fun hcase => ?_) (fun hcase => ?_)) <;> (try simp only [decide_eq_true_eq, decide_eq_false_iff_not, Bool.not_eq_true', Bool.not_eq_false', beq_iff_eq, ne_eq] at hcase) <;> first | (exfalso; omega) | contradiction | skip)
          | (refine sq_nil ?_))
      | with_reducible refine th_normal ?_
      | with_reducible refine th_ret ?_
      | with_reducible refine th_exit ?_
      | with_reducible refine bl_normal ?_
      | with_reducible refine bl_ret ?_
      | with_reducible refine bl_exit ?_
      | with_reducible refine bl_exit_ne (by decide) ?_
      | with_reducible refine th_goto ?_
      | with_reducible refine bl_goto ?_
      | (with_reducible refine hK _ _ ?_; clear hK hQK K QK)
      | (with_reducible refine hK _ ?_; clear hK K)
      | ((with_reducible refine body_ret tr25 ?_); simp (config := { decide := true }) only [go_sem, Nat.reduceAdd, Nat.reduceMul, Nat.reduceSub, Nat.reduceLeDiff, Int.reduceToNat, reduceCtorEq, reduceIte])
      | ((with_reducible refine body_normal tr25 ?_); simp (config := { decide := true }) only [go_sem, Nat.reduceAdd, Nat.reduceMul, Nat.reduceSub, Nat.reduceLeDiff, Int.reduceToNat, reduceCtorEq, reduceIte])
      | (refine And.intro (by first | omega | (simp only [ByteArray.size_append]; omega)) ?_)
      | ((with_reducible refine ex_head (f := 63) ?_); refine call_ex (ref14_id _) ?_; try simp (config := { decide := true }) only [go_sem, Nat.reduceAdd, Nat.reduceMul, Nat.reduceSub, Nat.reduceLeDiff, Int.reduceToNat, reduceCtorEq, reduceIte, exists_eq_left', exists_and_left, and_assoc])
      | ((with_reducible refine call_head (f := 63) ?_); refine call_mono (ref14_id _) ?_; simp (config := { decide := true }) only [go_sem, Nat.reduceAdd, Nat.reduceMul, Nat.reduceSub, Nat.reduceLeDiff, Int.reduceToNat, reduceCtorEq, reduceIte])
      | ((with_reducible refine ex_head (f := 64) ?_); refine call_ex (ref02_Must _ _ (by omega)) ?_; try simp (config := { decide := true }) only [go_sem, Nat.reduceAdd, Nat.reduceMul, Nat.reduceSub, Nat.reduceLeDiff, Int.reduceToNat, reduceCtorEq, reduceIte, exists_eq_left', exists_and_left, and_assoc])
      | ((with_reducible refine call_head (f := 64) ?_); refine call_mono (ref02_Must _ _ (by omega)) ?_; simp (config := { decide := true }) only [go_sem, Nat.reduceAdd, Nat.reduceMul, Nat.reduceSub, Nat.reduceLeDiff, Int.reduceToNat, reduceCtorEq, reduceIte])
      | ((first | refine ends_same hok rfl ⟨?_, rfl⟩ | refine ends_here ⟨?_, rfl⟩); first | (with_reducible rfl) | (simp [edgeP, bitI, *]; done) | (simp_all [edgeP, bitI]; done) | (simp_all [edgeP, bitI]; split <;> first | (exfalso; omega) | (simp_all; done)))))

-- chainman/rec.PutDraw: function 26
theorem rec_PutDraw (o k l i : Int) (h0 : o < 9223372036854775808) (h1 : k < 9223372036854775808) (h2 : l < 9223372036854775808) (h3 : i < 9223372036854775808) :
    Pure1 Try.prog 26 [.agg [.lit (.int .i64 o), .lit (.int .i64 k), .lit (.int .i64 l), .lit (.int .i64 i)]] (.tup [.lit (.string (drawP o k l i).1), .lit (.bool (drawP o k l i).2)]) := by
  intro h
  refine acalls_of Try.func26 (by rfl) fun hok => ?_
  simp only [List.length_cons, List.length_nil, Nat.reduceAdd, show Try.f26.ntmps = 28 from rfl, Nat.reduceSub, List.replicate, List.cons_append, List.nil_append]
  have hm := mayB_2 o i
  rcases Bool.eq_false_or_eq_true (idB o && idB i) with hi | hi
  · have hi' := hi
    rw [Bool.and_eq_true] at hi'
    rw [hi] at hm
    have p1 := idB_put hi'.1
    have p2 := idB_put hi'.2
    clear hi'
    by_cases hk : k ≥ 256
    · have hc : drawP o k l i = (⟨#[]⟩, false) := by simp [drawP, show ¬ (0 ≤ k ∧ k ≤ 255 ∧ 0 ≤ l) by omega]
      (repeat' (first
          | ((with_reducible refine wp_head ?_); first
              | with_reducible refine awp_seq ?_
              | with_reducible refine awp_block ?_
              | with_reducible refine awp_regionL ?_
              | with_reducible refine awp_skip ?_
              | with_reducible refine awp_exit ?_
              | with_reducible refine awp_ret ?_
              | with_reducible refine awp_goto ?_
              | (refine awp_test (by rfl) ?_; first | with_reducible refine cc_t ?_ | with_reducible refine cc_f ?_)
              | ((refine awp_cond_case (by rfl) (by simp only [go_sem]; rfl) (by simp only [go_sem]; rfl) (fun hcase => ?_) (fun hcase => ?_)) <;> (try simp only [decide_eq_true_eq, decide_eq_false_iff_not, Bool.not_eq_true', Bool.not_eq_false', beq_iff_eq, ne_eq] at hcase) <;> first | (exfalso; omega) | contradiction | skip))
          | ((with_reducible refine st_head ?_); first
              | with_reducible refine st_nil ?_
              | (refine st_none rfl fun K QK hK hQK => ?_; simp (config := { decide := true }) only [go_sem, Nat.reduceAdd, Nat.reduceMul, Nat.reduceSub, Nat.reduceLeDiff, Int.reduceToNat, reduceCtorEq, reduceIte, hm, hk])
              | (refine st_test rfl (by rfl) (by rfl) (by simp only [go_sem]; rfl) ?_; first | (with_reducible refine gc_ft ?_) | (with_reducible refine gc_tf ?_) | ((with_reducible refine gc_tt fun K QK hK hQK => ?_); simp (config := { decide := true }) only [go_sem, Nat.reduceAdd, Nat.reduceMul, Nat.reduceSub, Nat.reduceLeDiff, Int.reduceToNat, reduceCtorEq, reduceIte, hm, hk]) | ((with_reducible refine gc_ff fun K QK hK hQK => ?_); simp (config := { decide := true }) only [go_sem, Nat.reduceAdd, Nat.reduceMul, Nat.reduceSub, Nat.reduceLeDiff, Int.reduceToNat, reduceCtorEq, reduceIte, hm, hk]))
              | ((refine st_case rfl (by rfl) (by rfl) (by simp only [go_sem]; rfl) (by simp only [go_sem]; rfl) (fun hcase => ?_) (fun hcase => ?_)) <;> (try simp only [decide_eq_true_eq, decide_eq_false_iff_not, Bool.not_eq_true', Bool.not_eq_false', beq_iff_eq, ne_eq] at hcase) <;> first | (exfalso; omega) | contradiction | skip)
              | (refine st_nil ?_))
          | ((with_reducible refine sq_head ?_); first
              | with_reducible refine sq_nil ?_
              | (refine sq_none rfl fun K hK => ?_; simp (config := { decide := true }) only [go_sem, Nat.reduceAdd, Nat.reduceMul, Nat.reduceSub, Nat.reduceLeDiff, Int.reduceToNat, reduceCtorEq, reduceIte, hm, hk, exists_eq_left', exists_and_left, and_assoc])
              | (refine sq_test rfl (by rfl) (by rfl) (by simp only [go_sem]; rfl) ?_; first | (with_reducible refine gc_ft ?_) | (with_reducible refine gc_tf ?_) | ((with_reducible refine gc_tt fun K hK => ?_); simp (config := { decide := true }) only [go_sem, Nat.reduceAdd, Nat.reduceMul, Nat.reduceSub, Nat.reduceLeDiff, Int.reduceToNat, reduceCtorEq, reduceIte, hm, hk, exists_eq_left', exists_and_left, and_assoc]) | ((with_reducible refine gc_ff fun K hK => ?_); simp (config := { decide := true }) only [go_sem, Nat.reduceAdd, Nat.reduceMul, Nat.reduceSub, Nat.reduceLeDiff, Int.reduceToNat, reduceCtorEq, reduceIte, hm, hk, exists_eq_left', exists_and_left, and_assoc]))
              | ((refine sq_case rfl (by rfl) (by rfl) (by simp only [go_sem]; rfl) (by simp only [go_sem]; rfl) (fun hcase => ?_) (fun hcase => ?_)) <;> (try simp only [decide_eq_true_eq, decide_eq_false_iff_not, Bool.not_eq_true', Bool.not_eq_false', beq_iff_eq, ne_eq] at hcase) <;> first | (exfalso; omega) | contradiction | skip)
              | (refine sq_nil ?_))
          | with_reducible refine th_normal ?_
          | with_reducible refine th_ret ?_
          | with_reducible refine th_exit ?_
          | with_reducible refine bl_normal ?_
          | with_reducible refine bl_ret ?_
          | with_reducible refine bl_exit ?_
          | with_reducible refine bl_exit_ne (by decide) ?_
          | with_reducible refine th_goto ?_
          | with_reducible refine bl_goto ?_
          | (with_reducible refine hK _ _ ?_; clear hK hQK K QK)
          | (with_reducible refine hK _ ?_; clear hK K)
          | ((with_reducible refine body_ret tr26 ?_); simp (config := { decide := true }) only [go_sem, Nat.reduceAdd, Nat.reduceMul, Nat.reduceSub, Nat.reduceLeDiff, Int.reduceToNat, reduceCtorEq, reduceIte, hm, hk])
          | ((with_reducible refine body_normal tr26 ?_); simp (config := { decide := true }) only [go_sem, Nat.reduceAdd, Nat.reduceMul, Nat.reduceSub, Nat.reduceLeDiff, Int.reduceToNat, reduceCtorEq, reduceIte, hm, hk])
          | (refine And.intro (by first | omega | (simp only [ByteArray.size_append]; omega)) ?_)
          | (refine ACalls.mono (rec_may [o, i] _ _ (by simp [intV]) (by simp)) ?_; rintro _ _ ⟨rfl, rfl⟩; simp (config := { decide := true }) only [go_sem, Nat.reduceAdd, Nat.reduceMul, Nat.reduceSub, Nat.reduceLeDiff, Int.reduceToNat, reduceCtorEq, reduceIte, hm])
          | ((first | refine ends_same hok rfl ⟨?_, rfl⟩ | refine ends_here ⟨?_, rfl⟩); first | (with_reducible rfl) | (simp [hc, *]; done) | (simp_all [hc]; done) | (simp_all [hc]; split <;> first | (exfalso; omega) | (simp_all; done)))))
    have hr : rowG [o, 4, k, 1, l, 8, i, 4] ⟨#[]⟩ = drawP o k l i := by
      by_cases hg : 0 ≤ k ∧ 0 ≤ l
      · simp [rowG, p1, p2, putB_1 hg.1 (show k ≤ 255 by omega), putB_8 hg.2 h2, drawP, hi, hg, show k ≤ 255 by omega, app_none]
      · rcases (show k < 0 ∨ l < 0 by omega) with h | h
        · simp [rowG, p1, putB_neg h, drawP, show ¬ (0 ≤ k ∧ k ≤ 255 ∧ 0 ≤ l) by omega]
        · have hc : drawP o k l i = (⟨#[]⟩, false) := by simp [drawP, show ¬ (0 ≤ k ∧ k ≤ 255 ∧ 0 ≤ l) by omega]
          rw [hc]
          rcases Bool.eq_false_or_eq_true (putB k 1) with hp | hp <;> simp [rowG, p1, putB_neg h, hp]
    (repeat' (first
        | ((with_reducible refine wp_head ?_); first
            | with_reducible refine awp_seq ?_
            | with_reducible refine awp_block ?_
            | with_reducible refine awp_regionL ?_
            | with_reducible refine awp_skip ?_
            | with_reducible refine awp_exit ?_
            | with_reducible refine awp_ret ?_
            | with_reducible refine awp_goto ?_
            | (refine awp_test (by rfl) ?_; first | with_reducible refine cc_t ?_ | with_reducible refine cc_f ?_)
            | ((refine awp_cond_case (by rfl) (by simp only [go_sem]; rfl) (by simp only [go_sem]; rfl) (fun hcase => ?_) (fun hcase => ?_)) <;> (try simp only [decide_eq_true_eq, decide_eq_false_iff_not, Bool.not_eq_true', Bool.not_eq_false', beq_iff_eq, ne_eq] at hcase) <;> first | (exfalso; omega) | contradiction | skip))
        | ((with_reducible refine st_head ?_); first
            | with_reducible refine st_nil ?_
            | (refine st_none rfl fun K QK hK hQK => ?_; simp (config := { decide := true }) only [go_sem, Nat.reduceAdd, Nat.reduceMul, Nat.reduceSub, Nat.reduceLeDiff, Int.reduceToNat, reduceCtorEq, reduceIte, hm, hk])
            | (refine st_test rfl (by rfl) (by rfl) (by simp only [go_sem]; rfl) ?_; first | (with_reducible refine gc_ft ?_) | (with_reducible refine gc_tf ?_) | ((with_reducible refine gc_tt fun K QK hK hQK => ?_); simp (config := { decide := true }) only [go_sem, Nat.reduceAdd, Nat.reduceMul, Nat.reduceSub, Nat.reduceLeDiff, Int.reduceToNat, reduceCtorEq, reduceIte, hm, hk]) | ((with_reducible refine gc_ff fun K QK hK hQK => ?_); simp (config := { decide := true }) only [go_sem, Nat.reduceAdd, Nat.reduceMul, Nat.reduceSub, Nat.reduceLeDiff, Int.reduceToNat, reduceCtorEq, reduceIte, hm, hk]))
            | ((refine st_case rfl (by rfl) (by rfl) (by simp only [go_sem]; rfl) (by simp only [go_sem]; rfl) (fun hcase => ?_) (fun hcase => ?_)) <;> (try simp only [decide_eq_true_eq, decide_eq_false_iff_not, Bool.not_eq_true', Bool.not_eq_false', beq_iff_eq, ne_eq] at hcase) <;> first | (exfalso; omega) | contradiction | skip)
            | (refine st_nil ?_))
        | ((with_reducible refine sq_head ?_); first
            | with_reducible refine sq_nil ?_
            | (refine sq_none rfl fun K hK => ?_; simp (config := { decide := true }) only [go_sem, Nat.reduceAdd, Nat.reduceMul, Nat.reduceSub, Nat.reduceLeDiff, Int.reduceToNat, reduceCtorEq, reduceIte, hm, hk, exists_eq_left', exists_and_left, and_assoc])
            | (refine sq_test rfl (by rfl) (by rfl) (by simp only [go_sem]; rfl) ?_; first | (with_reducible refine gc_ft ?_) | (with_reducible refine gc_tf ?_) | ((with_reducible refine gc_tt fun K hK => ?_); simp (config := { decide := true }) only [go_sem, Nat.reduceAdd, Nat.reduceMul, Nat.reduceSub, Nat.reduceLeDiff, Int.reduceToNat, reduceCtorEq, reduceIte, hm, hk, exists_eq_left', exists_and_left, and_assoc]) | ((with_reducible refine gc_ff fun K hK => ?_); simp (config := { decide := true }) only [go_sem, Nat.reduceAdd, Nat.reduceMul, Nat.reduceSub, Nat.reduceLeDiff, Int.reduceToNat, reduceCtorEq, reduceIte, hm, hk, exists_eq_left', exists_and_left, and_assoc]))
            | ((refine sq_case rfl (by rfl) (by rfl) (by simp only [go_sem]; rfl) (by simp only [go_sem]; rfl) (fun hcase => ?_) (fun hcase => ?_)) <;> (try simp only [decide_eq_true_eq, decide_eq_false_iff_not, Bool.not_eq_true', Bool.not_eq_false', beq_iff_eq, ne_eq] at hcase) <;> first | (exfalso; omega) | contradiction | skip)
            | (refine sq_nil ?_))
        | with_reducible refine th_normal ?_
        | with_reducible refine th_ret ?_
        | with_reducible refine th_exit ?_
        | with_reducible refine bl_normal ?_
        | with_reducible refine bl_ret ?_
        | with_reducible refine bl_exit ?_
        | with_reducible refine bl_exit_ne (by decide) ?_
        | with_reducible refine th_goto ?_
        | with_reducible refine bl_goto ?_
        | (with_reducible refine hK _ _ ?_; clear hK hQK K QK)
        | (with_reducible refine hK _ ?_; clear hK K)
        | ((with_reducible refine body_ret tr26 ?_); simp (config := { decide := true }) only [go_sem, Nat.reduceAdd, Nat.reduceMul, Nat.reduceSub, Nat.reduceLeDiff, Int.reduceToNat, reduceCtorEq, reduceIte, hm, hk])
        | ((with_reducible refine body_normal tr26 ?_); simp (config := { decide := true }) only [go_sem, Nat.reduceAdd, Nat.reduceMul, Nat.reduceSub, Nat.reduceLeDiff, Int.reduceToNat, reduceCtorEq, reduceIte, hm, hk])
        | (refine And.intro (by first | omega | (simp only [ByteArray.size_append]; omega)) ?_)
        | (refine ACalls.mono (rec_may [o, i] _ _ (by simp [intV]) (by simp)) ?_; rintro _ _ ⟨rfl, rfl⟩; simp (config := { decide := true }) only [go_sem, Nat.reduceAdd, Nat.reduceMul, Nat.reduceSub, Nat.reduceLeDiff, Int.reduceToNat, reduceCtorEq, reduceIte, hm])
        | (refine ACalls.mono (rec_row [o, 4, k, 1, l, 8, i, 4] _ _ (by simp [intV]) (by simp) (by simp; omega)) ?_; rintro _ _ ⟨rfl, rfl⟩; simp (config := { decide := true }) only [go_sem, Nat.reduceAdd, Nat.reduceMul, Nat.reduceSub, Nat.reduceLeDiff, Int.reduceToNat, reduceCtorEq, reduceIte, hr])
        | exact ends_same hok rfl ⟨rfl, rfl⟩))
  · rw [hi] at hm
    have hc : drawP o k l i = (⟨#[]⟩, false) := by simp [drawP, hi]
    (repeat' (first
        | ((with_reducible refine wp_head ?_); first
            | with_reducible refine awp_seq ?_
            | with_reducible refine awp_block ?_
            | with_reducible refine awp_regionL ?_
            | with_reducible refine awp_skip ?_
            | with_reducible refine awp_exit ?_
            | with_reducible refine awp_ret ?_
            | with_reducible refine awp_goto ?_
            | (refine awp_test (by rfl) ?_; first | with_reducible refine cc_t ?_ | with_reducible refine cc_f ?_)
            | ((refine awp_cond_case (by rfl) (by simp only [go_sem]; rfl) (by simp only [go_sem]; rfl) (fun hcase => ?_) (fun hcase => ?_)) <;> (try simp only [decide_eq_true_eq, decide_eq_false_iff_not, Bool.not_eq_true', Bool.not_eq_false', beq_iff_eq, ne_eq] at hcase) <;> first | (exfalso; omega) | contradiction | skip))
        | ((with_reducible refine st_head ?_); first
            | with_reducible refine st_nil ?_
            | (refine st_none rfl fun K QK hK hQK => ?_; simp (config := { decide := true }) only [go_sem, Nat.reduceAdd, Nat.reduceMul, Nat.reduceSub, Nat.reduceLeDiff, Int.reduceToNat, reduceCtorEq, reduceIte, hm])
            | (refine st_test rfl (by rfl) (by rfl) (by simp only [go_sem]; rfl) ?_; first | (with_reducible refine gc_ft ?_) | (with_reducible refine gc_tf ?_) | ((with_reducible refine gc_tt fun K QK hK hQK => ?_); simp (config := { decide := true }) only [go_sem, Nat.reduceAdd, Nat.reduceMul, Nat.reduceSub, Nat.reduceLeDiff, Int.reduceToNat, reduceCtorEq, reduceIte, hm]) | ((with_reducible refine gc_ff fun K QK hK hQK => ?_); simp (config := { decide := true }) only [go_sem, Nat.reduceAdd, Nat.reduceMul, Nat.reduceSub, Nat.reduceLeDiff, Int.reduceToNat, reduceCtorEq, reduceIte, hm]))
            | ((refine st_case rfl (by rfl) (by rfl) (by simp only [go_sem]; rfl) (by simp only [go_sem]; rfl) (fun hcase => ?_) (fun hcase => ?_)) <;> (try simp only [decide_eq_true_eq, decide_eq_false_iff_not, Bool.not_eq_true', Bool.not_eq_false', beq_iff_eq, ne_eq] at hcase) <;> first | (exfalso; omega) | contradiction | skip)
            | (refine st_nil ?_))
        | ((with_reducible refine sq_head ?_); first
            | with_reducible refine sq_nil ?_
            | (refine sq_none rfl fun K hK => ?_; simp (config := { decide := true }) only [go_sem, Nat.reduceAdd, Nat.reduceMul, Nat.reduceSub, Nat.reduceLeDiff, Int.reduceToNat, reduceCtorEq, reduceIte, hm, exists_eq_left', exists_and_left, and_assoc])
            | (refine sq_test rfl (by rfl) (by rfl) (by simp only [go_sem]; rfl) ?_; first | (with_reducible refine gc_ft ?_) | (with_reducible refine gc_tf ?_) | ((with_reducible refine gc_tt fun K hK => ?_); simp (config := { decide := true }) only [go_sem, Nat.reduceAdd, Nat.reduceMul, Nat.reduceSub, Nat.reduceLeDiff, Int.reduceToNat, reduceCtorEq, reduceIte, hm, exists_eq_left', exists_and_left, and_assoc]) | ((with_reducible refine gc_ff fun K hK => ?_); simp (config := { decide := true }) only [go_sem, Nat.reduceAdd, Nat.reduceMul, Nat.reduceSub, Nat.reduceLeDiff, Int.reduceToNat, reduceCtorEq, reduceIte, hm, exists_eq_left', exists_and_left, and_assoc]))
            | ((refine sq_case rfl (by rfl) (by rfl) (by simp only [go_sem]; rfl) (by simp only [go_sem]; rfl) (fun hcase => ?_) (fun hcase => ?_)) <;> (try simp only [decide_eq_true_eq, decide_eq_false_iff_not, Bool.not_eq_true', Bool.not_eq_false', beq_iff_eq, ne_eq] at hcase) <;> first | (exfalso; omega) | contradiction | skip)
            | (refine sq_nil ?_))
        | with_reducible refine th_normal ?_
        | with_reducible refine th_ret ?_
        | with_reducible refine th_exit ?_
        | with_reducible refine bl_normal ?_
        | with_reducible refine bl_ret ?_
        | with_reducible refine bl_exit ?_
        | with_reducible refine bl_exit_ne (by decide) ?_
        | with_reducible refine th_goto ?_
        | with_reducible refine bl_goto ?_
        | (with_reducible refine hK _ _ ?_; clear hK hQK K QK)
        | (with_reducible refine hK _ ?_; clear hK K)
        | ((with_reducible refine body_ret tr26 ?_); simp (config := { decide := true }) only [go_sem, Nat.reduceAdd, Nat.reduceMul, Nat.reduceSub, Nat.reduceLeDiff, Int.reduceToNat, reduceCtorEq, reduceIte, hm])
        | ((with_reducible refine body_normal tr26 ?_); simp (config := { decide := true }) only [go_sem, Nat.reduceAdd, Nat.reduceMul, Nat.reduceSub, Nat.reduceLeDiff, Int.reduceToNat, reduceCtorEq, reduceIte, hm])
        | (refine And.intro (by first | omega | (simp only [ByteArray.size_append]; omega)) ?_)
        | (refine ACalls.mono (rec_may [o, i] _ _ (by simp [intV]) (by simp)) ?_; rintro _ _ ⟨rfl, rfl⟩; simp (config := { decide := true }) only [go_sem, Nat.reduceAdd, Nat.reduceMul, Nat.reduceSub, Nat.reduceLeDiff, Int.reduceToNat, reduceCtorEq, reduceIte, hm])
        | ((first | refine ends_same hok rfl ⟨?_, rfl⟩ | refine ends_here ⟨?_, rfl⟩); first | (with_reducible rfl) | (simp [hc, *]; done) | (simp_all [hc]; done) | (simp_all [hc]; split <;> first | (exfalso; omega) | (simp_all; done)))))

-- chainman/chainmanref14.PutDraw: function 27
theorem ref14_PutDraw (o k l i : Int) (h0 : o < 9223372036854775808) (h1 : k < 9223372036854775808) (h2 : l < 9223372036854775808) (h3 : i < 9223372036854775808) :
    Pure1 Try.prog 27 [.agg [.lit (.int .i64 o), .lit (.int .i64 k), .lit (.int .i64 l), .lit (.int .i64 i)]] (.tup [.lit (.string (drawP o k l i).1), .lit (.bool (drawP o k l i).2)]) := by
  intro h
  refine acalls_of Try.func27 (by rfl) fun hok => ?_
  simp only [List.length_cons, List.length_nil, Nat.reduceAdd, show Try.f27.ntmps = 44 from rfl, Nat.reduceSub, List.replicate, List.cons_append, List.nil_append]
  have e1 := putS_size o 4
  have e2 := putS_size k 1
  have e3 := putS_size l 8
  have e4 := putS_size i 4
  (repeat' (first
      | ((with_reducible refine wp_head ?_); first
          | with_reducible refine awp_seq ?_
          | with_reducible refine awp_block ?_
          | with_reducible refine awp_regionL ?_
          | with_reducible refine awp_skip ?_
          | with_reducible refine awp_exit ?_
          | with_reducible refine awp_ret ?_
          | with_reducible refine awp_goto ?_
          | (with_reducible refine awp_drawL (id := 3) 17 tmix rfl rfl (by kernel_rfl) ?_)
          | (refine awp_test (by rfl) ?_; first | with_reducible refine cc_t ?_ | with_reducible refine cc_f ?_)
          | ((refine awp_cond_case (by rfl) (by simp only [go_sem]; rfl) (by simp only [go_sem]; rfl) (fun hcase => ?_) (fun hcase => ?_)) <;> (try simp only [decide_eq_true_eq, decide_eq_false_iff_not, Bool.not_eq_true', Bool.not_eq_false', beq_iff_eq, ne_eq] at hcase) <;> first | (exfalso; omega) | contradiction | skip))
      | ((with_reducible refine st_head ?_); first
          | with_reducible refine st_nil ?_
          | (refine st_none rfl fun K QK hK hQK => ?_; simp (config := { decide := true }) only [go_sem, Nat.reduceAdd, Nat.reduceMul, Nat.reduceSub, Nat.reduceLeDiff, Int.reduceToNat, reduceCtorEq, reduceIte])
          | (refine st_test rfl (by rfl) (by rfl) (by simp only [go_sem]; rfl) ?_; first | (with_reducible refine gc_ft ?_) | (with_reducible refine gc_tf ?_) | ((with_reducible refine gc_tt fun K QK hK hQK => ?_); simp (config := { decide := true }) only [go_sem, Nat.reduceAdd, Nat.reduceMul, Nat.reduceSub, Nat.reduceLeDiff, Int.reduceToNat, reduceCtorEq, reduceIte]) | ((with_reducible refine gc_ff fun K QK hK hQK => ?_); simp (config := { decide := true }) only [go_sem, Nat.reduceAdd, Nat.reduceMul, Nat.reduceSub, Nat.reduceLeDiff, Int.reduceToNat, reduceCtorEq, reduceIte]))
          | ((refine st_case rfl (by rfl) (by rfl) (by simp only [go_sem]; rfl) (by simp only [go_sem]; rfl) (fun hcase => ?_) (fun hcase => ?_)) <;> (try simp only [decide_eq_true_eq, decide_eq_false_iff_not, Bool.not_eq_true', Bool.not_eq_false', beq_iff_eq, ne_eq] at hcase) <;> first | (exfalso; omega) | contradiction | skip)
          | (refine st_nil ?_))
      | ((with_reducible refine sq_head ?_); first
          | with_reducible refine sq_nil ?_
          | (refine sq_none rfl fun K hK => ?_; simp (config := { decide := true }) only [go_sem, Nat.reduceAdd, Nat.reduceMul, Nat.reduceSub, Nat.reduceLeDiff, Int.reduceToNat, reduceCtorEq, reduceIte, exists_eq_left', exists_and_left, and_assoc])
          | (refine sq_test rfl (by rfl) (by rfl) (by simp only [go_sem]; rfl) ?_; first | (with_reducible refine gc_ft ?_) | (with_reducible refine gc_tf ?_) | ((with_reducible refine gc_tt fun K hK => ?_); simp (config := { decide := true }) only [go_sem, Nat.reduceAdd, Nat.reduceMul, Nat.reduceSub, Nat.reduceLeDiff, Int.reduceToNat, reduceCtorEq, reduceIte, exists_eq_left', exists_and_left, and_assoc]) | ((with_reducible refine gc_ff fun K hK => ?_); simp (config := { decide := true }) only [go_sem, Nat.reduceAdd, Nat.reduceMul, Nat.reduceSub, Nat.reduceLeDiff, Int.reduceToNat, reduceCtorEq, reduceIte, exists_eq_left', exists_and_left, and_assoc]))
          | ((refine sq_case rfl (by rfl) (by rfl) (by simp only [go_sem]; rfl) (by simp only [go_sem]; rfl) (fun hcase => ?_) (fun hcase => ?_)) <;> (try simp only [decide_eq_true_eq, decide_eq_false_iff_not, Bool.not_eq_true', Bool.not_eq_false', beq_iff_eq, ne_eq] at hcase) <;> first | (exfalso; omega) | contradiction | skip)
          | (refine sq_nil ?_))
      | with_reducible refine th_normal ?_
      | with_reducible refine th_ret ?_
      | with_reducible refine th_exit ?_
      | with_reducible refine bl_normal ?_
      | with_reducible refine bl_ret ?_
      | with_reducible refine bl_exit ?_
      | with_reducible refine bl_exit_ne (by decide) ?_
      | with_reducible refine th_goto ?_
      | with_reducible refine bl_goto ?_
      | (with_reducible refine hK _ _ ?_; clear hK hQK K QK)
      | (with_reducible refine hK _ ?_; clear hK K)
      | ((with_reducible refine body_ret tr27 ?_); simp (config := { decide := true }) only [go_sem, Nat.reduceAdd, Nat.reduceMul, Nat.reduceSub, Nat.reduceLeDiff, Int.reduceToNat, reduceCtorEq, reduceIte])
      | ((with_reducible refine body_normal tr27 ?_); simp (config := { decide := true }) only [go_sem, Nat.reduceAdd, Nat.reduceMul, Nat.reduceSub, Nat.reduceLeDiff, Int.reduceToNat, reduceCtorEq, reduceIte])
      | (refine And.intro (by first | omega | (simp only [ByteArray.size_append]; omega)) ?_)
      | ((with_reducible refine ex_head (f := 63) ?_); refine call_ex (ref14_id _) ?_; try simp (config := { decide := true }) only [go_sem, Nat.reduceAdd, Nat.reduceMul, Nat.reduceSub, Nat.reduceLeDiff, Int.reduceToNat, reduceCtorEq, reduceIte, exists_eq_left', exists_and_left, and_assoc])
      | ((with_reducible refine call_head (f := 63) ?_); refine call_mono (ref14_id _) ?_; simp (config := { decide := true }) only [go_sem, Nat.reduceAdd, Nat.reduceMul, Nat.reduceSub, Nat.reduceLeDiff, Int.reduceToNat, reduceCtorEq, reduceIte])
      | ((with_reducible refine ex_head (f := 64) ?_); refine call_ex (ref02_Must _ _ (by omega)) ?_; try simp (config := { decide := true }) only [go_sem, Nat.reduceAdd, Nat.reduceMul, Nat.reduceSub, Nat.reduceLeDiff, Int.reduceToNat, reduceCtorEq, reduceIte, exists_eq_left', exists_and_left, and_assoc])
      | ((with_reducible refine call_head (f := 64) ?_); refine call_mono (ref02_Must _ _ (by omega)) ?_; simp (config := { decide := true }) only [go_sem, Nat.reduceAdd, Nat.reduceMul, Nat.reduceSub, Nat.reduceLeDiff, Int.reduceToNat, reduceCtorEq, reduceIte])
      | ((first | refine ends_same hok rfl ⟨?_, rfl⟩ | refine ends_here ⟨?_, rfl⟩); first | (with_reducible rfl) | (simp [drawP, *]; done) | (simp_all [drawP]; done) | (simp_all [drawP]; split <;> first | (exfalso; omega) | (simp_all; done)))))
end Go.Proofs.Ytpjocohpogihcaa.AL
