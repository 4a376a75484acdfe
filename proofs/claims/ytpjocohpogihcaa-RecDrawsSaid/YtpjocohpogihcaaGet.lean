/- Numbers read of bytes. -/
import Derived.Test.YtpjocohpogihcaaOct2
namespace Go.Proofs.Ytpjocohpogihcaa.AL
set_option linter.unusedVariables false
set_option linter.unusedSimpArgs false
set_option maxRecDepth 10000
set_option maxHeartbeats 2000000
open Go

def num (l : List UInt8) : Nat := l.foldl (fun n b => n * 256 + b.toNat) 0
theorem num_snoc (l : List UInt8) (b : UInt8) : num (l ++ [b]) = num l * 256 + b.toNat := by simp [num]
theorem num_lt : ∀ (l : List UInt8), num l < 256 ^ l.length := by
  have key : ∀ (l : List UInt8) (n k : Nat), n < 256 ^ k → l.foldl (fun n b => n * 256 + b.toNat) n < 256 ^ (k + l.length) := by
    intro l
    induction l with
    | nil => intro n k h; simpa using h
    | cons b l ih =>
      intro n k h
      simp only [List.foldl_cons, List.length_cons]
      have hb := b.toNat_lt
      have := ih (n * 256 + b.toNat) (k + 1) (by rw [Nat.pow_succ]; omega)
      rwa [show k + 1 + l.length = k + (l.length + 1) by omega] at this
  intro l
  have := key l 0 0 (by decide)
  simpa [num] using this

theorem or_shl8 {n b : Nat} (hn : n < 72057594037927936) (hb : b < 256) : orI .u64 (shlI .u64 (n : Int) 8) (b : Int) = ((n * 256 + b : Nat) : Int) := by
  have e1 : shlI .u64 (n : Int) 8 = ((n * 256 : Nat) : Int) := by
    unfold shlI
    have : min ((8 : Int).toNat) IntKind.u64.bits = 8 := by decide
    rw [this, show ((n : Int) * 2 ^ 8) = ((n * 256 : Nat) : Int) by push_cast; omega, wrap_u64_id (by omega) (by omega)]
  rw [e1]
  unfold orI
  have e2 : (BitVec.ofInt IntKind.u64.bits ((n * 256 : Nat) : Int) ||| BitVec.ofInt IntKind.u64.bits (b : Int)).toNat = n * 256 + b := by
    show (BitVec.ofInt 64 ((n * 256 : Nat) : Int) ||| BitVec.ofInt 64 (b : Int)).toNat = n * 256 + b
    rw [BitVec.toNat_or]
    have a1 : (BitVec.ofInt 64 ((n * 256 : Nat) : Int)).toNat = n * 256 := by
      rw [BitVec.ofInt_natCast, BitVec.toNat_ofNat]; omega
    have a2 : (BitVec.ofInt 64 (b : Int)).toNat = b := by
      rw [BitVec.ofInt_natCast, BitVec.toNat_ofNat]; omega
    rw [a1, a2]
    have := Nat.two_pow_add_eq_or_of_lt (i := 8) (b := b) (by omega) n
    rw [show 2 ^ 8 * n = n * 256 by omega] at this
    omega
  rw [e2]
  exact wrap_u64_id (by omega) (by omega)

/-- The bytes from a place on. -/
def cut (s : ByteArray) (a k : Nat) : List UInt8 := (s.data.toList.drop a).take k
theorem cut_len {s : ByteArray} {a k : Nat} (h : a + k ≤ s.size) : (cut s a k).length = k := by
  have : s.data.toList.length = s.size := by rw [Array.length_toList]; rfl
  simp [cut]; omega
def getP (s : ByteArray) (a k : Int) : Int × Bool :=
  if 1 ≤ k ∧ k ≤ 8 ∧ 0 ≤ a ∧ a + k ≤ s.size ∧ num (cut s a.toNat k.toNat) < 9223372036854775808 then ((num (cut s a.toNat k.toNat) : Int), true) else (0, false)

theorem extract_cut (s : ByteArray) (a k : Nat) : (s.extract a (a + k)).data.toList = cut s a k := by
  unfold cut
  rw [ByteArray.data_extract, Array.toList_extract]
  simp [List.extract]

theorem extract_size {s : ByteArray} {a k : Nat} (h : a + k ≤ s.size) : (s.extract a (a + k)).size = k := by
  have e : (s.extract a (a + k)).data.toList.length = k := by rw [extract_cut, cut_len h]
  rw [Array.length_toList] at e
  exact e

theorem byteAt_cut {s : ByteArray} {a k t : Nat} (h : a + k ≤ s.size) (ht : t < k) : byteAt s (a + t) = ((cut s a k)[t]'(by rw [cut_len h]; exact ht)).toNat := by
  have h1 : a + t < s.data.size := by have : s.size = s.data.size := rfl
                                      omega
  simp only [cut, List.getElem_take, List.getElem_drop, byteAt]
  rw [Array.getD_eq_getD_getElem?, Array.getElem?_eq_getElem h1]
  simp

-- chainman/octet.Get: function 88
theorem octet_Get (s : ByteArray) (at' k : Int) (hs : s.size ≤ 140737488351232) (ha : -9223372036854775808 ≤ at') (ha2 : at' < 9223372036854775808) (hk : -9223372036854775808 ≤ k) (hk2 : k < 9223372036854775808) :
    Pure1 Try.prog 88 [.lit (.string s), .lit (.int .i64 at'), .lit (.int .i64 k)] (.tup [.lit (.int .i64 (getP s at' k).1), .lit (.bool (getP s at' k).2)]) := by
  intro h
  refine acalls_of Try.func88 (by rfl) fun hok => ?_
  simp only [List.length_cons, List.length_nil, Nat.reduceAdd, show Try.f88.ntmps = 52 from rfl, Nat.reduceSub, List.replicate, List.cons_append, List.nil_append]
  by_cases hc : 1 ≤ k ∧ k ≤ 8 ∧ 0 ≤ at' ∧ at' + k ≤ s.size
  rotate_left
  · have hg : getP s at' k = (0, false) := by unfold getP; rw [if_neg]; intro hh; exact hc ⟨hh.1, hh.2.1, hh.2.2.1, hh.2.2.2.1⟩
    by_cases hk0 : 1 ≤ k ∧ k ≤ 8
    · have w1 : IntKind.i64.wrap ((s.size : Int) - k) = (s.size : Int) - k := wrap_id (by omega) (by omega)
      (repeat' (first
          | ((with_reducible refine wp_head ?_); first
              | with_reducible refine awp_seq ?_
              | with_reducible refine awp_block ?_
              | with_reducible refine awp_regionL ?_
              | with_reducible refine awp_skip ?_
              | with_reducible refine awp_exit ?_
              | with_reducible refine awp_ret ?_
              | with_reducible refine awp_goto ?_
              | (refine awp_test (by rfl) ?_; first | with_reducible refine cc_t ?_ | with_reducible refine cc_f ?_)
              | ((refine awp_cond_case (by rfl) (by simp only [go_sem]; rfl) (by simp only [go_sem]; rfl) (fun hcase => ?_) (fun hcase => ?_)) <;> (try simp only [decide_eq_true_eq, decide_eq_false_iff_not, Bool.not_eq_true', Bool.not_eq_false', beq_iff_eq, ne_eq] at hcase) <;> first | (exfalso; omega) | contradiction | skip))
          | ((with_reducible refine st_head ?_); first
              | with_reducible refine st_nil ?_
              | (refine st_none rfl fun K QK hK hQK => ?_; simp (config := { decide := true }) only [go_sem, Nat.reduceAdd, Nat.reduceMul, Nat.reduceSub, Nat.reduceLeDiff, Int.reduceToNat, reduceCtorEq, reduceIte, w1])
              | (refine st_test rfl (by rfl) (by rfl) (by simp only [go_sem]; rfl) ?_; first | (with_reducible refine gc_ft ?_) | (with_reducible refine gc_tf ?_) | ((with_reducible refine gc_tt fun K QK hK hQK => ?_); simp (config := { decide := true }) only [go_sem, Nat.reduceAdd, Nat.reduceMul, Nat.reduceSub, Nat.reduceLeDiff, Int.reduceToNat, reduceCtorEq, reduceIte, w1]) | ((with_reducible refine gc_ff fun K QK hK hQK => ?_); simp (config := { decide := true }) only [go_sem, Nat.reduceAdd, Nat.reduceMul, Nat.reduceSub, Nat.reduceLeDiff, Int.reduceToNat, reduceCtorEq, reduceIte, w1]))
              | ((refine st_case rfl (by rfl) (by rfl) (by simp only [go_sem]; rfl) (by simp only [go_sem]; rfl) (fun hcase => ?_) (fun hcase => ?_)) <;> (try simp only [decide_eq_true_eq, decide_eq_false_iff_not, Bool.not_eq_true', Bool.not_eq_false', beq_iff_eq, ne_eq] at hcase) <;> first | (exfalso; omega) | contradiction | skip)
              | (refine st_nil ?_))
          | ((with_reducible refine sq_head ?_); first
              | with_reducible refine sq_nil ?_
              | (refine sq_none rfl fun K hK => ?_; simp (config := { decide := true }) only [go_sem, Nat.reduceAdd, Nat.reduceMul, Nat.reduceSub, Nat.reduceLeDiff, Int.reduceToNat, reduceCtorEq, reduceIte, w1, exists_eq_left', exists_and_left, and_assoc])
              | (refine sq_test rfl (by rfl) (by rfl) (by simp only [go_sem]; rfl) ?_; first | (with_reducible refine gc_ft ?_) | (with_reducible refine gc_tf ?_) | ((with_reducible refine gc_tt fun K hK => ?_); simp (config := { decide := true }) only [go_sem, Nat.reduceAdd, Nat.reduceMul, Nat.reduceSub, Nat.reduceLeDiff, Int.reduceToNat, reduceCtorEq, reduceIte, w1, exists_eq_left', exists_and_left, and_assoc]) | ((with_reducible refine gc_ff fun K hK => ?_); simp (config := { decide := true }) only [go_sem, Nat.reduceAdd, Nat.reduceMul, Nat.reduceSub, Nat.reduceLeDiff, Int.reduceToNat, reduceCtorEq, reduceIte, w1, exists_eq_left', exists_and_left, and_assoc]))
              | ((refine sq_case rfl (by rfl) (by rfl) (by simp only [go_sem]; rfl) (by simp only [go_sem]; rfl) (fun hcase => ?_) (fun hcase => ?_)) <;> (try simp only [decide_eq_true_eq, decide_eq_false_iff_not, Bool.not_eq_true', Bool.not_eq_false', beq_iff_eq, ne_eq] at hcase) <;> first | (exfalso; omega) | contradiction | skip)
              | (refine sq_nil ?_))
          | with_reducible refine th_normal ?_
          | with_reducible refine th_ret ?_
          | with_reducible refine th_exit ?_
          | with_reducible refine bl_normal ?_
          | with_reducible refine bl_ret ?_
          | with_reducible refine bl_exit ?_
          | with_reducible refine bl_exit_ne (by decide) ?_
          | with_reducible refine th_goto ?_
          | with_reducible refine bl_goto ?_
          | (with_reducible refine hK _ _ ?_; clear hK hQK K QK)
          | (with_reducible refine hK _ ?_; clear hK K)
          | ((with_reducible refine body_ret tr88 ?_); simp (config := { decide := true }) only [go_sem, Nat.reduceAdd, Nat.reduceMul, Nat.reduceSub, Nat.reduceLeDiff, Int.reduceToNat, reduceCtorEq, reduceIte, w1])
          | ((with_reducible refine body_normal tr88 ?_); simp (config := { decide := true }) only [go_sem, Nat.reduceAdd, Nat.reduceMul, Nat.reduceSub, Nat.reduceLeDiff, Int.reduceToNat, reduceCtorEq, reduceIte, w1])
          | (refine And.intro (by first | omega | (simp only [ByteArray.size_append]; omega)) ?_)
          | exact ends_here ⟨by rw [hg], rfl⟩))
    · (repeat' (first
        | ((with_reducible refine wp_head ?_); first
            | with_reducible refine awp_seq ?_
            | with_reducible refine awp_block ?_
            | with_reducible refine awp_regionL ?_
            | with_reducible refine awp_skip ?_
            | with_reducible refine awp_exit ?_
            | with_reducible refine awp_ret ?_
            | with_reducible refine awp_goto ?_
            | (refine awp_test (by rfl) ?_; first | with_reducible refine cc_t ?_ | with_reducible refine cc_f ?_)
            | ((refine awp_cond_case (by rfl) (by simp only [go_sem]; rfl) (by simp only [go_sem]; rfl) (fun hcase => ?_) (fun hcase => ?_)) <;> (try simp only [decide_eq_true_eq, decide_eq_false_iff_not, Bool.not_eq_true', Bool.not_eq_false', beq_iff_eq, ne_eq] at hcase) <;> first | (exfalso; omega) | contradiction | skip))
        | ((with_reducible refine st_head ?_); first
            | with_reducible refine st_nil ?_
            | (refine st_none rfl fun K QK hK hQK => ?_; simp (config := { decide := true }) only [go_sem, Nat.reduceAdd, Nat.reduceMul, Nat.reduceSub, Nat.reduceLeDiff, Int.reduceToNat, reduceCtorEq, reduceIte])
            | (refine st_test rfl (by rfl) (by rfl) (by simp only [go_sem]; rfl) ?_; first | (with_reducible refine gc_ft ?_) | (with_reducible refine gc_tf ?_) | ((with_reducible refine gc_tt fun K QK hK hQK => ?_); simp (config := { decide := true }) only [go_sem, Nat.reduceAdd, Nat.reduceMul, Nat.reduceSub, Nat.reduceLeDiff, Int.reduceToNat, reduceCtorEq, reduceIte]) | ((with_reducible refine gc_ff fun K QK hK hQK => ?_); simp (config := { decide := true }) only [go_sem, Nat.reduceAdd, Nat.reduceMul, Nat.reduceSub, Nat.reduceLeDiff, Int.reduceToNat, reduceCtorEq, reduceIte]))
            | ((refine st_case rfl (by rfl) (by rfl) (by simp only [go_sem]; rfl) (by simp only [go_sem]; rfl) (fun hcase => ?_) (fun hcase => ?_)) <;> (try simp only [decide_eq_true_eq, decide_eq_false_iff_not, Bool.not_eq_true', Bool.not_eq_false', beq_iff_eq, ne_eq] at hcase) <;> first | (exfalso; omega) | contradiction | skip)
            | (refine st_nil ?_))
        | ((with_reducible refine sq_head ?_); first
            | with_reducible refine sq_nil ?_
            | (refine sq_none rfl fun K hK => ?_; simp (config := { decide := true }) only [go_sem, Nat.reduceAdd, Nat.reduceMul, Nat.reduceSub, Nat.reduceLeDiff, Int.reduceToNat, reduceCtorEq, reduceIte, exists_eq_left', exists_and_left, and_assoc])
            | (refine sq_test rfl (by rfl) (by rfl) (by simp only [go_sem]; rfl) ?_; first | (with_reducible refine gc_ft ?_) | (with_reducible refine gc_tf ?_) | ((with_reducible refine gc_tt fun K hK => ?_); simp (config := { decide := true }) only [go_sem, Nat.reduceAdd, Nat.reduceMul, Nat.reduceSub, Nat.reduceLeDiff, Int.reduceToNat, reduceCtorEq, reduceIte, exists_eq_left', exists_and_left, and_assoc]) | ((with_reducible refine gc_ff fun K hK => ?_); simp (config := { decide := true }) only [go_sem, Nat.reduceAdd, Nat.reduceMul, Nat.reduceSub, Nat.reduceLeDiff, Int.reduceToNat, reduceCtorEq, reduceIte, exists_eq_left', exists_and_left, and_assoc]))
            | ((refine sq_case rfl (by rfl) (by rfl) (by simp only [go_sem]; rfl) (by simp only [go_sem]; rfl) (fun hcase => ?_) (fun hcase => ?_)) <;> (try simp only [decide_eq_true_eq, decide_eq_false_iff_not, Bool.not_eq_true', Bool.not_eq_false', beq_iff_eq, ne_eq] at hcase) <;> first | (exfalso; omega) | contradiction | skip)
            | (refine sq_nil ?_))
        | with_reducible refine th_normal ?_
        | with_reducible refine th_ret ?_
        | with_reducible refine th_exit ?_
        | with_reducible refine bl_normal ?_
        | with_reducible refine bl_ret ?_
        | with_reducible refine bl_exit ?_
        | with_reducible refine bl_exit_ne (by decide) ?_
        | with_reducible refine th_goto ?_
        | with_reducible refine bl_goto ?_
        | (with_reducible refine hK _ _ ?_; clear hK hQK K QK)
        | (with_reducible refine hK _ ?_; clear hK K)
        | ((with_reducible refine body_ret tr88 ?_); simp (config := { decide := true }) only [go_sem, Nat.reduceAdd, Nat.reduceMul, Nat.reduceSub, Nat.reduceLeDiff, Int.reduceToNat, reduceCtorEq, reduceIte])
        | ((with_reducible refine body_normal tr88 ?_); simp (config := { decide := true }) only [go_sem, Nat.reduceAdd, Nat.reduceMul, Nat.reduceSub, Nat.reduceLeDiff, Int.reduceToNat, reduceCtorEq, reduceIte])
        | (refine And.intro (by first | omega | (simp only [ByteArray.size_append]; omega)) ?_)
        | exact ends_here ⟨by rw [hg], rfl⟩))
  obtain ⟨a, rfl⟩ : ∃ a : Nat, at' = a := ⟨at'.toNat, by omega⟩
  obtain ⟨j, rfl⟩ : ∃ j : Nat, k = j := ⟨k.toNat, by omega⟩
  have hj1 : 1 ≤ j := by omega
  have hj8 : j ≤ 8 := by omega
  have haj : a + j ≤ s.size := by omega
  have w1 : IntKind.i64.wrap ((s.size : Int) - j) = (s.size : Int) - j := wrap_id (by omega) (by omega)
  have w2 : IntKind.i64.wrap ((a : Int) + j) = ((a + j : Nat) : Int) := by rw [wrap_id (by omega) (by omega)]; omega
  have g1 : ¬ ((j : Int) < 1) := by omega
  have g2 : ¬ ((j : Int) > 8) := by omega
  have g3 : ¬ ((a : Int) < 0) := by omega
  have g4 : ¬ ((s.size : Int) - j < (a : Int)) := by omega
  have hlen := cut_len haj
  have hx := extract_cut s a j
  have hsz := extract_size haj
  (repeat' (first
      | ((with_reducible refine wp_head ?_); first
          | with_reducible refine awp_seq ?_
          | with_reducible refine awp_block ?_
          | with_reducible refine awp_regionL ?_
          | with_reducible refine awp_skip ?_
          | with_reducible refine awp_exit ?_
          | with_reducible refine awp_ret ?_
          | with_reducible refine awp_goto ?_
          | (refine awp_test (by rfl) ?_; first | with_reducible refine cc_t ?_ | with_reducible refine cc_f ?_)
          | ((refine awp_cond_case (by rfl) (by simp only [go_sem]; rfl) (by simp only [go_sem]; rfl) (fun hcase => ?_) (fun hcase => ?_)) <;> (try simp only [decide_eq_true_eq, decide_eq_false_iff_not, Bool.not_eq_true', Bool.not_eq_false', beq_iff_eq, ne_eq] at hcase) <;> first | (exfalso; omega) | contradiction | skip))
      | ((with_reducible refine st_head ?_); first
          | with_reducible refine st_nil ?_
          | (refine st_none rfl fun K QK hK hQK => ?_; simp (config := { decide := true }) only [go_sem, Nat.reduceAdd, Nat.reduceMul, Nat.reduceSub, Nat.reduceLeDiff, Int.reduceToNat, reduceCtorEq, reduceIte, w1, w2, g1, g2, g3, g4, hx, hsz])
          | (refine st_test rfl (by rfl) (by rfl) (by simp only [go_sem]; rfl) ?_; first | (with_reducible refine gc_ft ?_) | (with_reducible refine gc_tf ?_) | ((with_reducible refine gc_tt fun K QK hK hQK => ?_); simp (config := { decide := true }) only [go_sem, Nat.reduceAdd, Nat.reduceMul, Nat.reduceSub, Nat.reduceLeDiff, Int.reduceToNat, reduceCtorEq, reduceIte, w1, w2, g1, g2, g3, g4, hx, hsz]) | ((with_reducible refine gc_ff fun K QK hK hQK => ?_); simp (config := { decide := true }) only [go_sem, Nat.reduceAdd, Nat.reduceMul, Nat.reduceSub, Nat.reduceLeDiff, Int.reduceToNat, reduceCtorEq, reduceIte, w1, w2, g1, g2, g3, g4, hx, hsz]))
          | ((refine st_case rfl (by rfl) (by rfl) (by simp only [go_sem]; rfl) (by simp only [go_sem]; rfl) (fun hcase => ?_) (fun hcase => ?_)) <;> (try simp only [decide_eq_true_eq, decide_eq_false_iff_not, Bool.not_eq_true', Bool.not_eq_false', beq_iff_eq, ne_eq] at hcase) <;> first | (exfalso; omega) | contradiction | skip)
          | (refine st_nil ?_))
      | ((with_reducible refine sq_head ?_); first
          | with_reducible refine sq_nil ?_
          | (refine sq_none rfl fun K hK => ?_; simp (config := { decide := true }) only [go_sem, Nat.reduceAdd, Nat.reduceMul, Nat.reduceSub, Nat.reduceLeDiff, Int.reduceToNat, reduceCtorEq, reduceIte, w1, w2, g1, g2, g3, g4, hx, hsz, exists_eq_left', exists_and_left, and_assoc])
          | (refine sq_test rfl (by rfl) (by rfl) (by simp only [go_sem]; rfl) ?_; first | (with_reducible refine gc_ft ?_) | (with_reducible refine gc_tf ?_) | ((with_reducible refine gc_tt fun K hK => ?_); simp (config := { decide := true }) only [go_sem, Nat.reduceAdd, Nat.reduceMul, Nat.reduceSub, Nat.reduceLeDiff, Int.reduceToNat, reduceCtorEq, reduceIte, w1, w2, g1, g2, g3, g4, hx, hsz, exists_eq_left', exists_and_left, and_assoc]) | ((with_reducible refine gc_ff fun K hK => ?_); simp (config := { decide := true }) only [go_sem, Nat.reduceAdd, Nat.reduceMul, Nat.reduceSub, Nat.reduceLeDiff, Int.reduceToNat, reduceCtorEq, reduceIte, w1, w2, g1, g2, g3, g4, hx, hsz, exists_eq_left', exists_and_left, and_assoc]))
          | ((refine sq_case rfl (by rfl) (by rfl) (by simp only [go_sem]; rfl) (by simp only [go_sem]; rfl) (fun hcase => ?_) (fun hcase => ?_)) <;> (try simp only [decide_eq_true_eq, decide_eq_false_iff_not, Bool.not_eq_true', Bool.not_eq_false', beq_iff_eq, ne_eq] at hcase) <;> first | (exfalso; omega) | contradiction | skip)
          | (refine sq_nil ?_))
      | with_reducible refine th_normal ?_
      | with_reducible refine th_ret ?_
      | with_reducible refine th_exit ?_
      | with_reducible refine bl_normal ?_
      | with_reducible refine bl_ret ?_
      | with_reducible refine bl_exit ?_
      | with_reducible refine bl_exit_ne (by decide) ?_
      | with_reducible refine th_goto ?_
      | with_reducible refine bl_goto ?_
      | (with_reducible refine hK _ _ ?_; clear hK hQK K QK)
      | (with_reducible refine hK _ ?_; clear hK K)
      | ((with_reducible refine body_ret tr88 ?_); simp (config := { decide := true }) only [go_sem, Nat.reduceAdd, Nat.reduceMul, Nat.reduceSub, Nat.reduceLeDiff, Int.reduceToNat, reduceCtorEq, reduceIte, w1, w2, g1, g2, g3, g4, hx, hsz])
      | ((with_reducible refine body_normal tr88 ?_); simp (config := { decide := true }) only [go_sem, Nat.reduceAdd, Nat.reduceMul, Nat.reduceSub, Nat.reduceLeDiff, Int.reduceToNat, reduceCtorEq, reduceIte, w1, w2, g1, g2, g3, g4, hx, hsz])
      | (refine And.intro (by first | omega | (simp only [ByteArray.size_append]; omega)) ?_)))
  refine awp_loops (fun b g => ∃ t : Nat, t ≤ j ∧ b = [.any, .any, .any, .any, .any, .any, .lit (.int .i64 0), .lit (.bool false), .lit (.int .u64 (num ((cut s a j).take t) : Nat)), .any, .any, .any, .any, .any, .any, .any, .any, .any, .any, .any, .any, .any, .any, .any, .any, .any, .any, .any, .any, .any, .any, .any, .any, .any, .any, .sl 1 h.length 0 j, .lit (.int .i64 j), .lit (.int .i64 t), .any, .any, .any, .any, .any, .any, .any, .any, .any, .any, .any, .any, .any, .any] ∧ g = h ++ [.cells ((cut s a j).map byteV)]) (fun b _ => j - (slotI b 37).toNat) ?_ ?_
  · refine ⟨_, ?_, 0, by omega, rfl, rfl⟩
    have n0 : num [] = 0 := rfl
    simp [Weak, n0]
  rintro b g ⟨t, ht, rfl, rfl⟩
  by_cases h3 : t < j
  · have h4 : (t : Int) < (j : Int) := by omega
    have h5 : ((cut s a j).map byteV)[t]? = some (byteV ((cut s a j)[t]'(by omega))) := by rw [List.getElem?_map, List.getElem?_eq_getElem (by omega)]; rfl
    have h6 : IntKind.i64.wrap ((t : Int) + 1) = ((t + 1 : Nat) : Int) := by rw [wrap_id (by omega) (by omega)]; omega
    have h7 : (cut s a j).take (t + 1) = (cut s a j).take t ++ [(cut s a j)[t]'(by omega)] := by rw [List.take_add_one, List.getElem?_eq_getElem (by omega)]; rfl
    have h8 : num ((cut s a j).take t) < 72057594037927936 := by
      have := num_lt ((cut s a j).take t)
      have e : ((cut s a j).take t).length = t := by simp; omega
      rw [e] at this
      have : (256 : Nat) ^ t ≤ 256 ^ 7 := Nat.pow_le_pow_right (by omega) (by omega)
      omega
    have h9 := or_shl8 h8 ((cut s a j)[t]'(by omega)).toNat_lt
    have h10 : IntKind.u64.wrap (((cut s a j)[t]'(by omega)).toNat : Int) = (((cut s a j)[t]'(by omega)).toNat : Int) := wrap_u64_id (by omega) (by have := ((cut s a j)[t]'(by omega)).toNat_lt; omega)
    (repeat' (first
        | ((with_reducible refine wp_head ?_); first
            | with_reducible refine awp_seq ?_
            | with_reducible refine awp_block ?_
            | with_reducible refine awp_regionL ?_
            | with_reducible refine awp_skip ?_
            | with_reducible refine awp_exit ?_
            | with_reducible refine awp_ret ?_
            | with_reducible refine awp_goto ?_
            | (refine awp_test (by rfl) ?_; first | with_reducible refine cc_t ?_ | with_reducible refine cc_f ?_)
            | ((refine awp_cond_case (by rfl) (by simp only [go_sem]; rfl) (by simp only [go_sem]; rfl) (fun hcase => ?_) (fun hcase => ?_)) <;> (try simp only [decide_eq_true_eq, decide_eq_false_iff_not, Bool.not_eq_true', Bool.not_eq_false', beq_iff_eq, ne_eq] at hcase) <;> first | (exfalso; omega) | contradiction | skip))
        | ((with_reducible refine st_head ?_); first
            | with_reducible refine st_nil ?_
            | (refine st_none rfl fun K QK hK hQK => ?_; simp (config := { decide := true }) only [go_sem, Nat.reduceAdd, Nat.reduceMul, Nat.reduceSub, Nat.reduceLeDiff, Int.reduceToNat, reduceCtorEq, reduceIte, h4, h5, h6, h9, h10, hlen, List.length_map, byteV])
            | (refine st_test rfl (by rfl) (by rfl) (by simp only [go_sem]; rfl) ?_; first | (with_reducible refine gc_ft ?_) | (with_reducible refine gc_tf ?_) | ((with_reducible refine gc_tt fun K QK hK hQK => ?_); simp (config := { decide := true }) only [go_sem, Nat.reduceAdd, Nat.reduceMul, Nat.reduceSub, Nat.reduceLeDiff, Int.reduceToNat, reduceCtorEq, reduceIte, h4, h5, h6, h9, h10, hlen, List.length_map, byteV]) | ((with_reducible refine gc_ff fun K QK hK hQK => ?_); simp (config := { decide := true }) only [go_sem, Nat.reduceAdd, Nat.reduceMul, Nat.reduceSub, Nat.reduceLeDiff, Int.reduceToNat, reduceCtorEq, reduceIte, h4, h5, h6, h9, h10, hlen, List.length_map, byteV]))
            | ((refine st_case rfl (by rfl) (by rfl) (by simp only [go_sem]; rfl) (by simp only [go_sem]; rfl) (fun hcase => ?_) (fun hcase => ?_)) <;> (try simp only [decide_eq_true_eq, decide_eq_false_iff_not, Bool.not_eq_true', Bool.not_eq_false', beq_iff_eq, ne_eq] at hcase) <;> first | (exfalso; omega) | contradiction | skip)
            | (refine st_nil ?_))
        | ((with_reducible refine sq_head ?_); first
            | with_reducible refine sq_nil ?_
            | (refine sq_none rfl fun K hK => ?_; simp (config := { decide := true }) only [go_sem, Nat.reduceAdd, Nat.reduceMul, Nat.reduceSub, Nat.reduceLeDiff, Int.reduceToNat, reduceCtorEq, reduceIte, h4, h5, h6, h9, h10, hlen, List.length_map, byteV, exists_eq_left', exists_and_left, and_assoc])
            | (refine sq_test rfl (by rfl) (by rfl) (by simp only [go_sem]; rfl) ?_; first | (with_reducible refine gc_ft ?_) | (with_reducible refine gc_tf ?_) | ((with_reducible refine gc_tt fun K hK => ?_); simp (config := { decide := true }) only [go_sem, Nat.reduceAdd, Nat.reduceMul, Nat.reduceSub, Nat.reduceLeDiff, Int.reduceToNat, reduceCtorEq, reduceIte, h4, h5, h6, h9, h10, hlen, List.length_map, byteV, exists_eq_left', exists_and_left, and_assoc]) | ((with_reducible refine gc_ff fun K hK => ?_); simp (config := { decide := true }) only [go_sem, Nat.reduceAdd, Nat.reduceMul, Nat.reduceSub, Nat.reduceLeDiff, Int.reduceToNat, reduceCtorEq, reduceIte, h4, h5, h6, h9, h10, hlen, List.length_map, byteV, exists_eq_left', exists_and_left, and_assoc]))
            | ((refine sq_case rfl (by rfl) (by rfl) (by simp only [go_sem]; rfl) (by simp only [go_sem]; rfl) (fun hcase => ?_) (fun hcase => ?_)) <;> (try simp only [decide_eq_true_eq, decide_eq_false_iff_not, Bool.not_eq_true', Bool.not_eq_false', beq_iff_eq, ne_eq] at hcase) <;> first | (exfalso; omega) | contradiction | skip)
            | (refine sq_nil ?_))
        | with_reducible refine th_normal ?_
        | with_reducible refine th_ret ?_
        | with_reducible refine th_exit ?_
        | with_reducible refine bl_normal ?_
        | with_reducible refine bl_ret ?_
        | with_reducible refine bl_exit ?_
        | with_reducible refine bl_exit_ne (by decide) ?_
        | with_reducible refine th_goto ?_
        | with_reducible refine bl_goto ?_
        | (with_reducible refine hK _ _ ?_; clear hK hQK K QK)
        | (with_reducible refine hK _ ?_; clear hK K)
        | ((with_reducible refine body_ret tr88 ?_); simp (config := { decide := true }) only [go_sem, Nat.reduceAdd, Nat.reduceMul, Nat.reduceSub, Nat.reduceLeDiff, Int.reduceToNat, reduceCtorEq, reduceIte, h4, h5, h6, h9, h10, hlen, List.length_map, byteV])
        | ((with_reducible refine body_normal tr88 ?_); simp (config := { decide := true }) only [go_sem, Nat.reduceAdd, Nat.reduceMul, Nat.reduceSub, Nat.reduceLeDiff, Int.reduceToNat, reduceCtorEq, reduceIte, h4, h5, h6, h9, h10, hlen, List.length_map, byteV])
        | (refine And.intro (by first | omega | (simp only [ByteArray.size_append]; omega)) ?_)))
    refine ⟨_, ?_, ⟨t + 1, by omega, rfl, rfl⟩, ?_⟩
    · rw [h7, num_snoc]; simp [Weak]
    · simp [slotI, aget]; omega
  obtain rfl : t = j := by omega
  have h4 : ¬ ((t : Int) < (t : Int)) := by omega
  have h5 : (cut s a t).take t = cut s a t := List.take_of_length_le (by omega)
  have h6 := num_lt (cut s a t)
  rw [hlen] at h6
  have h7 : (256 : Nat) ^ t ≤ 256 ^ 8 := Nat.pow_le_pow_right (by omega) (by omega)
  have h8 : shrI .u64 ((num (cut s a t) : Nat) : Int) 63 = ((num (cut s a t) / 2 ^ 63 : Nat) : Int) := shr_nat .u64 _ 63 (by decide)
  have hu : num (cut s a t) < 18446744073709551616 := by omega
  by_cases h9 : num (cut s a t) < 9223372036854775808
  · have h10 : ¬ (((num (cut s a t) / 2 ^ 63 : Nat) : Int) > 0) := by omega
    have h11 : IntKind.i64.wrap ((num (cut s a t) : Nat) : Int) = ((num (cut s a t) : Nat) : Int) := wrap_nat h9
    have hg : getP s a t = ((num (cut s a t) : Int), true) := by
      unfold getP; rw [if_pos ⟨hc.1, hc.2.1, hc.2.2.1, hc.2.2.2, by simpa using h9⟩]; simp
    (repeat' (first
        | ((with_reducible refine wp_head ?_); first
            | with_reducible refine awp_seq ?_
            | with_reducible refine awp_block ?_
            | with_reducible refine awp_regionL ?_
            | with_reducible refine awp_skip ?_
            | with_reducible refine awp_exit ?_
            | with_reducible refine awp_ret ?_
            | with_reducible refine awp_goto ?_
            | (refine awp_test (by rfl) ?_; first | with_reducible refine cc_t ?_ | with_reducible refine cc_f ?_)
            | ((refine awp_cond_case (by rfl) (by simp only [go_sem]; rfl) (by simp only [go_sem]; rfl) (fun hcase => ?_) (fun hcase => ?_)) <;> (try simp only [decide_eq_true_eq, decide_eq_false_iff_not, Bool.not_eq_true', Bool.not_eq_false', beq_iff_eq, ne_eq] at hcase) <;> first | (exfalso; omega) | contradiction | skip))
        | ((with_reducible refine st_head ?_); first
            | with_reducible refine st_nil ?_
            | (refine st_none rfl fun K QK hK hQK => ?_; simp (config := { decide := true }) only [go_sem, Nat.reduceAdd, Nat.reduceMul, Nat.reduceSub, Nat.reduceLeDiff, Int.reduceToNat, reduceCtorEq, reduceIte, h4, h5, h8, h10, h11])
            | (refine st_test rfl (by rfl) (by rfl) (by simp only [go_sem]; rfl) ?_; first | (with_reducible refine gc_ft ?_) | (with_reducible refine gc_tf ?_) | ((with_reducible refine gc_tt fun K QK hK hQK => ?_); simp (config := { decide := true }) only [go_sem, Nat.reduceAdd, Nat.reduceMul, Nat.reduceSub, Nat.reduceLeDiff, Int.reduceToNat, reduceCtorEq, reduceIte, h4, h5, h8, h10, h11]) | ((with_reducible refine gc_ff fun K QK hK hQK => ?_); simp (config := { decide := true }) only [go_sem, Nat.reduceAdd, Nat.reduceMul, Nat.reduceSub, Nat.reduceLeDiff, Int.reduceToNat, reduceCtorEq, reduceIte, h4, h5, h8, h10, h11]))
            | ((refine st_case rfl (by rfl) (by rfl) (by simp only [go_sem]; rfl) (by simp only [go_sem]; rfl) (fun hcase => ?_) (fun hcase => ?_)) <;> (try simp only [decide_eq_true_eq, decide_eq_false_iff_not, Bool.not_eq_true', Bool.not_eq_false', beq_iff_eq, ne_eq] at hcase) <;> first | (exfalso; omega) | contradiction | skip)
            | (refine st_nil ?_))
        | ((with_reducible refine sq_head ?_); first
            | with_reducible refine sq_nil ?_
            | (refine sq_none rfl fun K hK => ?_; simp (config := { decide := true }) only [go_sem, Nat.reduceAdd, Nat.reduceMul, Nat.reduceSub, Nat.reduceLeDiff, Int.reduceToNat, reduceCtorEq, reduceIte, h4, h5, h8, h10, h11, exists_eq_left', exists_and_left, and_assoc])
            | (refine sq_test rfl (by rfl) (by rfl) (by simp only [go_sem]; rfl) ?_; first | (with_reducible refine gc_ft ?_) | (with_reducible refine gc_tf ?_) | ((with_reducible refine gc_tt fun K hK => ?_); simp (config := { decide := true }) only [go_sem, Nat.reduceAdd, Nat.reduceMul, Nat.reduceSub, Nat.reduceLeDiff, Int.reduceToNat, reduceCtorEq, reduceIte, h4, h5, h8, h10, h11, exists_eq_left', exists_and_left, and_assoc]) | ((with_reducible refine gc_ff fun K hK => ?_); simp (config := { decide := true }) only [go_sem, Nat.reduceAdd, Nat.reduceMul, Nat.reduceSub, Nat.reduceLeDiff, Int.reduceToNat, reduceCtorEq, reduceIte, h4, h5, h8, h10, h11, exists_eq_left', exists_and_left, and_assoc]))
            | ((refine sq_case rfl (by rfl) (by rfl) (by simp only [go_sem]; rfl) (by simp only [go_sem]; rfl) (fun hcase => ?_) (fun hcase => ?_)) <;> (try simp only [decide_eq_true_eq, decide_eq_false_iff_not, Bool.not_eq_true', Bool.not_eq_false', beq_iff_eq, ne_eq] at hcase) <;> first | (exfalso; omega) | contradiction | skip)
            | (refine sq_nil ?_))
        | with_reducible refine th_normal ?_
        | with_reducible refine th_ret ?_
        | with_reducible refine th_exit ?_
        | with_reducible refine bl_normal ?_
        | with_reducible refine bl_ret ?_
        | with_reducible refine bl_exit ?_
        | with_reducible refine bl_exit_ne (by decide) ?_
        | with_reducible refine th_goto ?_
        | with_reducible refine bl_goto ?_
        | (with_reducible refine hK _ _ ?_; clear hK hQK K QK)
        | (with_reducible refine hK _ ?_; clear hK K)
        | ((with_reducible refine body_ret tr88 ?_); simp (config := { decide := true }) only [go_sem, Nat.reduceAdd, Nat.reduceMul, Nat.reduceSub, Nat.reduceLeDiff, Int.reduceToNat, reduceCtorEq, reduceIte, h4, h5, h8, h10, h11])
        | ((with_reducible refine body_normal tr88 ?_); simp (config := { decide := true }) only [go_sem, Nat.reduceAdd, Nat.reduceMul, Nat.reduceSub, Nat.reduceLeDiff, Int.reduceToNat, reduceCtorEq, reduceIte, h4, h5, h8, h10, h11])
        | (refine And.intro (by first | omega | (simp only [ByteArray.size_append]; omega)) ?_)
        | exact ends_same hok rfl ⟨by rw [hg], rfl⟩))
  · have h10 : (((num (cut s a t) / 2 ^ 63 : Nat) : Int) > 0) := by omega
    have hg : getP s a t = (0, false) := by
      unfold getP; rw [if_neg]; intro hh; exact h9 (by simpa using hh.2.2.2.2)
    (repeat' (first
        | ((with_reducible refine wp_head ?_); first
            | with_reducible refine awp_seq ?_
            | with_reducible refine awp_block ?_
            | with_reducible refine awp_regionL ?_
            | with_reducible refine awp_skip ?_
            | with_reducible refine awp_exit ?_
            | with_reducible refine awp_ret ?_
            | with_reducible refine awp_goto ?_
            | (refine awp_test (by rfl) ?_; first | with_reducible refine cc_t ?_ | with_reducible refine cc_f ?_)
            | ((refine awp_cond_case (by rfl) (by simp only [go_sem]; rfl) (by simp only [go_sem]; rfl) (fun hcase => ?_) (fun hcase => ?_)) <;> (try simp only [decide_eq_true_eq, decide_eq_false_iff_not, Bool.not_eq_true', Bool.not_eq_false', beq_iff_eq, ne_eq] at hcase) <;> first | (exfalso; omega) | contradiction | skip))
        | ((with_reducible refine st_head ?_); first
            | with_reducible refine st_nil ?_
            | (refine st_none rfl fun K QK hK hQK => ?_; simp (config := { decide := true }) only [go_sem, Nat.reduceAdd, Nat.reduceMul, Nat.reduceSub, Nat.reduceLeDiff, Int.reduceToNat, reduceCtorEq, reduceIte, h4, h5, h8, h10])
            | (refine st_test rfl (by rfl) (by rfl) (by simp only [go_sem]; rfl) ?_; first | (with_reducible refine gc_ft ?_) | (with_reducible refine gc_tf ?_) | ((with_reducible refine gc_tt fun K QK hK hQK => ?_); simp (config := { decide := true }) only [go_sem, Nat.reduceAdd, Nat.reduceMul, Nat.reduceSub, Nat.reduceLeDiff, Int.reduceToNat, reduceCtorEq, reduceIte, h4, h5, h8, h10]) | ((with_reducible refine gc_ff fun K QK hK hQK => ?_); simp (config := { decide := true }) only [go_sem, Nat.reduceAdd, Nat.reduceMul, Nat.reduceSub, Nat.reduceLeDiff, Int.reduceToNat, reduceCtorEq, reduceIte, h4, h5, h8, h10]))
            | ((refine st_case rfl (by rfl) (by rfl) (by simp only [go_sem]; rfl) (by simp only [go_sem]; rfl) (fun hcase => ?_) (fun hcase => ?_)) <;> (try simp only [decide_eq_true_eq, decide_eq_false_iff_not, Bool.not_eq_true', Bool.not_eq_false', beq_iff_eq, ne_eq] at hcase) <;> first | (exfalso; omega) | contradiction | skip)
            | (refine st_nil ?_))
        | ((with_reducible refine sq_head ?_); first
            | with_reducible refine sq_nil ?_
            | (refine sq_none rfl fun K hK => ?_; simp (config := { decide := true }) only [go_sem, Nat.reduceAdd, Nat.reduceMul, Nat.reduceSub, Nat.reduceLeDiff, Int.reduceToNat, reduceCtorEq, reduceIte, h4, h5, h8, h10, exists_eq_left', exists_and_left, and_assoc])
            | (refine sq_test rfl (by rfl) (by rfl) (by simp only [go_sem]; rfl) ?_; first | (with_reducible refine gc_ft ?_) | (with_reducible refine gc_tf ?_) | ((with_reducible refine gc_tt fun K hK => ?_); simp (config := { decide := true }) only [go_sem, Nat.reduceAdd, Nat.reduceMul, Nat.reduceSub, Nat.reduceLeDiff, Int.reduceToNat, reduceCtorEq, reduceIte, h4, h5, h8, h10, exists_eq_left', exists_and_left, and_assoc]) | ((with_reducible refine gc_ff fun K hK => ?_); simp (config := { decide := true }) only [go_sem, Nat.reduceAdd, Nat.reduceMul, Nat.reduceSub, Nat.reduceLeDiff, Int.reduceToNat, reduceCtorEq, reduceIte, h4, h5, h8, h10, exists_eq_left', exists_and_left, and_assoc]))
            | ((refine sq_case rfl (by rfl) (by rfl) (by simp only [go_sem]; rfl) (by simp only [go_sem]; rfl) (fun hcase => ?_) (fun hcase => ?_)) <;> (try simp only [decide_eq_true_eq, decide_eq_false_iff_not, Bool.not_eq_true', Bool.not_eq_false', beq_iff_eq, ne_eq] at hcase) <;> first | (exfalso; omega) | contradiction | skip)
            | (refine sq_nil ?_))
        | with_reducible refine th_normal ?_
        | with_reducible refine th_ret ?_
        | with_reducible refine th_exit ?_
        | with_reducible refine bl_normal ?_
        | with_reducible refine bl_ret ?_
        | with_reducible refine bl_exit ?_
        | with_reducible refine bl_exit_ne (by decide) ?_
        | with_reducible refine th_goto ?_
        | with_reducible refine bl_goto ?_
        | (with_reducible refine hK _ _ ?_; clear hK hQK K QK)
        | (with_reducible refine hK _ ?_; clear hK K)
        | ((with_reducible refine body_ret tr88 ?_); simp (config := { decide := true }) only [go_sem, Nat.reduceAdd, Nat.reduceMul, Nat.reduceSub, Nat.reduceLeDiff, Int.reduceToNat, reduceCtorEq, reduceIte, h4, h5, h8, h10])
        | ((with_reducible refine body_normal tr88 ?_); simp (config := { decide := true }) only [go_sem, Nat.reduceAdd, Nat.reduceMul, Nat.reduceSub, Nat.reduceLeDiff, Int.reduceToNat, reduceCtorEq, reduceIte, h4, h5, h8, h10])
        | (refine And.intro (by first | omega | (simp only [ByteArray.size_append]; omega)) ?_)
        | exact ends_same hok rfl ⟨by rw [hg], rfl⟩))

def getC (s : ByteArray) (a : Int) : Int × Bool := if (getP s a 4).2 then ((getP s a 4).1 - 2147483648, true) else (0, false)
theorem getP_range (s : ByteArray) (a k : Int) : 0 ≤ (getP s a k).1 ∧ (getP s a k).1 < 9223372036854775808 := by
  unfold getP
  split
  · rename_i h; exact ⟨by simp, by have := h.2.2.2.2; simp only; omega⟩
  · simp
theorem getP_false {s : ByteArray} {a k : Int} (h : (getP s a k).2 = false) : (getP s a k).1 = 0 := by
  unfold getP at h ⊢
  split at h
  · simp at h
  · rename_i hn; rw [if_neg hn]

-- chainman/octet.GetCoord: function 89
theorem octet_GetCoord (s : ByteArray) (a : Int) (hs : s.size ≤ 140737488351232) (ha : -9223372036854775808 ≤ a) (ha2 : a < 9223372036854775808) :
    Pure1 Try.prog 89 [.lit (.string s), .lit (.int .i64 a)] (.tup [.lit (.int .i64 (getC s a).1), .lit (.bool (getC s a).2)]) := by
  intro h
  refine acalls_of Try.func89 (by rfl) fun hok => ?_
  simp only [List.length_cons, List.length_nil, Nat.reduceAdd, show Try.f89.ntmps = 18 from rfl, Nat.reduceSub, List.replicate, List.cons_append, List.nil_append]
  have h0 := getP_range s a 4
  have w1 : IntKind.i64.wrap ((getP s a 4).1 - 2147483648) = (getP s a 4).1 - 2147483648 := wrap_id (by omega) (by omega)
  (repeat' (first
      | ((with_reducible refine wp_head ?_); first
          | with_reducible refine awp_seq ?_
          | with_reducible refine awp_block ?_
          | with_reducible refine awp_regionL ?_
          | with_reducible refine awp_skip ?_
          | with_reducible refine awp_exit ?_
          | with_reducible refine awp_ret ?_
          | with_reducible refine awp_goto ?_
          | (refine awp_test (by rfl) ?_; first | with_reducible refine cc_t ?_ | with_reducible refine cc_f ?_)
          | ((refine awp_cond_case (by rfl) (by simp only [go_sem]; rfl) (by simp only [go_sem]; rfl) (fun hcase => ?_) (fun hcase => ?_)) <;> (try simp only [decide_eq_true_eq, decide_eq_false_iff_not, Bool.not_eq_true', Bool.not_eq_false', beq_iff_eq, ne_eq] at hcase) <;> first | (exfalso; omega) | contradiction | skip))
      | ((with_reducible refine st_head ?_); first
          | with_reducible refine st_nil ?_
          | (refine st_none rfl fun K QK hK hQK => ?_; simp (config := { decide := true }) only [go_sem, Nat.reduceAdd, Nat.reduceMul, Nat.reduceSub, Nat.reduceLeDiff, Int.reduceToNat, reduceCtorEq, reduceIte, w1])
          | (refine st_test rfl (by rfl) (by rfl) (by simp only [go_sem]; rfl) ?_; first | (with_reducible refine gc_ft ?_) | (with_reducible refine gc_tf ?_) | ((with_reducible refine gc_tt fun K QK hK hQK => ?_); simp (config := { decide := true }) only [go_sem, Nat.reduceAdd, Nat.reduceMul, Nat.reduceSub, Nat.reduceLeDiff, Int.reduceToNat, reduceCtorEq, reduceIte, w1]) | ((with_reducible refine gc_ff fun K QK hK hQK => ?_); simp (config := { decide := true }) only [go_sem, Nat.reduceAdd, Nat.reduceMul, Nat.reduceSub, Nat.reduceLeDiff, Int.reduceToNat, reduceCtorEq, reduceIte, w1]))
          | ((refine st_case rfl (by rfl) (by rfl) (by simp only [go_sem]; rfl) (by simp only [go_sem]; rfl) (fun hcase => ?_) (fun hcase => ?_)) <;> (try simp only [decide_eq_true_eq, decide_eq_false_iff_not, Bool.not_eq_true', Bool.not_eq_false', beq_iff_eq, ne_eq] at hcase) <;> first | (exfalso; omega) | contradiction | skip)
          | (refine st_nil ?_))
      | ((with_reducible refine sq_head ?_); first
          | with_reducible refine sq_nil ?_
          | (refine sq_none rfl fun K hK => ?_; simp (config := { decide := true }) only [go_sem, Nat.reduceAdd, Nat.reduceMul, Nat.reduceSub, Nat.reduceLeDiff, Int.reduceToNat, reduceCtorEq, reduceIte, w1, exists_eq_left', exists_and_left, and_assoc])
          | (refine sq_test rfl (by rfl) (by rfl) (by simp only [go_sem]; rfl) ?_; first | (with_reducible refine gc_ft ?_) | (with_reducible refine gc_tf ?_) | ((with_reducible refine gc_tt fun K hK => ?_); simp (config := { decide := true }) only [go_sem, Nat.reduceAdd, Nat.reduceMul, Nat.reduceSub, Nat.reduceLeDiff, Int.reduceToNat, reduceCtorEq, reduceIte, w1, exists_eq_left', exists_and_left, and_assoc]) | ((with_reducible refine gc_ff fun K hK => ?_); simp (config := { decide := true }) only [go_sem, Nat.reduceAdd, Nat.reduceMul, Nat.reduceSub, Nat.reduceLeDiff, Int.reduceToNat, reduceCtorEq, reduceIte, w1, exists_eq_left', exists_and_left, and_assoc]))
          | ((refine sq_case rfl (by rfl) (by rfl) (by simp only [go_sem]; rfl) (by simp only [go_sem]; rfl) (fun hcase => ?_) (fun hcase => ?_)) <;> (try simp only [decide_eq_true_eq, decide_eq_false_iff_not, Bool.not_eq_true', Bool.not_eq_false', beq_iff_eq, ne_eq] at hcase) <;> first | (exfalso; omega) | contradiction | skip)
          | (refine sq_nil ?_))
      | with_reducible refine th_normal ?_
      | with_reducible refine th_ret ?_
      | with_reducible refine th_exit ?_
      | with_reducible refine bl_normal ?_
      | with_reducible refine bl_ret ?_
      | with_reducible refine bl_exit ?_
      | with_reducible refine bl_exit_ne (by decide) ?_
      | with_reducible refine th_goto ?_
      | with_reducible refine bl_goto ?_
      | (with_reducible refine hK _ _ ?_; clear hK hQK K QK)
      | (with_reducible refine hK _ ?_; clear hK K)
      | ((with_reducible refine body_ret tr89 ?_); simp (config := { decide := true }) only [go_sem, Nat.reduceAdd, Nat.reduceMul, Nat.reduceSub, Nat.reduceLeDiff, Int.reduceToNat, reduceCtorEq, reduceIte, w1])
      | ((with_reducible refine body_normal tr89 ?_); simp (config := { decide := true }) only [go_sem, Nat.reduceAdd, Nat.reduceMul, Nat.reduceSub, Nat.reduceLeDiff, Int.reduceToNat, reduceCtorEq, reduceIte, w1])
      | (refine And.intro (by first | omega | (simp only [ByteArray.size_append]; omega)) ?_)
      | (refine call_mono (octet_Get s a 4 hs ha ha2 (by omega) (by omega)) ?_; simp (config := { decide := true }) only [go_sem, Nat.reduceAdd, Nat.reduceMul, Nat.reduceSub, Nat.reduceLeDiff, Int.reduceToNat, reduceCtorEq, reduceIte])
      | (refine call_ex (octet_Get s a 4 hs ha ha2 (by omega) (by omega)) ?_; try simp (config := { decide := true }) only [go_sem, Nat.reduceAdd, Nat.reduceMul, Nat.reduceSub, Nat.reduceLeDiff, Int.reduceToNat, reduceCtorEq, reduceIte])
      | ((first | refine ends_same hok rfl ⟨?_, rfl⟩ | refine ends_here ⟨?_, rfl⟩); first | (with_reducible rfl) | (simp [getC, *]; done) | (simp_all [getC]; done) | (simp_all [getC]; split <;> first | (exfalso; omega) | (simp_all; done)))))

/-! ### the document's own words -/
theorem num_step_big {l : List UInt8} {b : UInt8} {rest : List UInt8} (h : 36028797018963968 ≤ num l) : 9223372036854775808 ≤ num (l ++ b :: rest) := by
  have key : ∀ (r : List UInt8) (n : Nat), 9223372036854775808 ≤ n → 9223372036854775808 ≤ r.foldl (fun n b => n * 256 + b.toNat) n := by
    intro r
    induction r with
    | nil => intro n h; exact h
    | cons c r ih => intro n h; simp only [List.foldl_cons]; exact ih _ (by omega)
  unfold num at h ⊢
  rw [List.foldl_append, List.foldl_cons]
  exact key _ _ (by omega)

-- chainman/chainmanref02.Get: function 72
theorem ref02_Get (s : ByteArray) (at' k : Int) (hs : s.size ≤ 140737488351232) (ha : -9223372036854775808 ≤ at') (ha2 : at' < 9223372036854775808) (hk : -9223372036854775808 ≤ k) (hk2 : k < 9223372036854775808) :
    Pure1 Try.prog 72 [.lit (.string s), .lit (.int .i64 at'), .lit (.int .i64 k)] (.tup [.lit (.int .i64 (getP s at' k).1), .lit (.bool (getP s at' k).2)]) := by
  intro h
  refine acalls_of Try.func72 (by rfl) fun hok => ?_
  simp only [List.length_cons, List.length_nil, Nat.reduceAdd, show Try.f72.ntmps = 51 from rfl, Nat.reduceSub, List.replicate, List.cons_append, List.nil_append]
  by_cases hc : 1 ≤ k ∧ k ≤ 8 ∧ 0 ≤ at' ∧ at' + k ≤ s.size
  rotate_left
  · have hg : getP s at' k = (0, false) := by unfold getP; rw [if_neg]; intro hh; exact hc ⟨hh.1, hh.2.1, hh.2.2.1, hh.2.2.2.1⟩
    by_cases hk0 : (1 ≤ k ∧ k ≤ 8) ∧ 0 ≤ at' ∧ at' ≤ s.size
    · have w1 : IntKind.i64.wrap ((s.size : Int) - at') = (s.size : Int) - at' := wrap_id (by omega) (by omega)
      (repeat' (first
          | ((with_reducible refine wp_head ?_); first
              | with_reducible refine awp_seq ?_
              | with_reducible refine awp_block ?_
              | with_reducible refine awp_regionL ?_
              | with_reducible refine awp_skip ?_
              | with_reducible refine awp_exit ?_
              | with_reducible refine awp_ret ?_
              | with_reducible refine awp_goto ?_
              | (refine awp_test (by rfl) ?_; first | with_reducible refine cc_t ?_ | with_reducible refine cc_f ?_)
              | ((refine awp_cond_case (by rfl) (by simp only [go_sem]; rfl) (by simp only [go_sem]; rfl) (fun hcase => ?_) (fun hcase => ?_)) <;> (try simp only [decide_eq_true_eq, decide_eq_false_iff_not, Bool.not_eq_true', Bool.not_eq_false', beq_iff_eq, ne_eq] at hcase) <;> first | (exfalso; omega) | contradiction | skip))
          | ((with_reducible refine st_head ?_); first
              | with_reducible refine st_nil ?_
              | (refine st_none rfl fun K QK hK hQK => ?_; simp (config := { decide := true }) only [go_sem, Nat.reduceAdd, Nat.reduceMul, Nat.reduceSub, Nat.reduceLeDiff, Int.reduceToNat, reduceCtorEq, reduceIte, w1])
              | (refine st_test rfl (by rfl) (by rfl) (by simp only [go_sem]; rfl) ?_; first | (with_reducible refine gc_ft ?_) | (with_reducible refine gc_tf ?_) | ((with_reducible refine gc_tt fun K QK hK hQK => ?_); simp (config := { decide := true }) only [go_sem, Nat.reduceAdd, Nat.reduceMul, Nat.reduceSub, Nat.reduceLeDiff, Int.reduceToNat, reduceCtorEq, reduceIte, w1]) | ((with_reducible refine gc_ff fun K QK hK hQK => ?_); simp (config := { decide := true }) only [go_sem, Nat.reduceAdd, Nat.reduceMul, Nat.reduceSub, Nat.reduceLeDiff, Int.reduceToNat, reduceCtorEq, reduceIte, w1]))
              | ((refine st_case rfl (by rfl) (by rfl) (by simp only [go_sem]; rfl) (by simp only [go_sem]; rfl) (fun hcase => ?_) (fun hcase => ?_)) <;> (try simp only [decide_eq_true_eq, decide_eq_false_iff_not, Bool.not_eq_true', Bool.not_eq_false', beq_iff_eq, ne_eq] at hcase) <;> first | (exfalso; omega) | contradiction | skip)
              | (refine st_nil ?_))
          | ((with_reducible refine sq_head ?_); first
              | with_reducible refine sq_nil ?_
              | (refine sq_none rfl fun K hK => ?_; simp (config := { decide := true }) only [go_sem, Nat.reduceAdd, Nat.reduceMul, Nat.reduceSub, Nat.reduceLeDiff, Int.reduceToNat, reduceCtorEq, reduceIte, w1, exists_eq_left', exists_and_left, and_assoc])
              | (refine sq_test rfl (by rfl) (by rfl) (by simp only [go_sem]; rfl) ?_; first | (with_reducible refine gc_ft ?_) | (with_reducible refine gc_tf ?_) | ((with_reducible refine gc_tt fun K hK => ?_); simp (config := { decide := true }) only [go_sem, Nat.reduceAdd, Nat.reduceMul, Nat.reduceSub, Nat.reduceLeDiff, Int.reduceToNat, reduceCtorEq, reduceIte, w1, exists_eq_left', exists_and_left, and_assoc]) | ((with_reducible refine gc_ff fun K hK => ?_); simp (config := { decide := true }) only [go_sem, Nat.reduceAdd, Nat.reduceMul, Nat.reduceSub, Nat.reduceLeDiff, Int.reduceToNat, reduceCtorEq, reduceIte, w1, exists_eq_left', exists_and_left, and_assoc]))
              | ((refine sq_case rfl (by rfl) (by rfl) (by simp only [go_sem]; rfl) (by simp only [go_sem]; rfl) (fun hcase => ?_) (fun hcase => ?_)) <;> (try simp only [decide_eq_true_eq, decide_eq_false_iff_not, Bool.not_eq_true', Bool.not_eq_false', beq_iff_eq, ne_eq] at hcase) <;> first | (exfalso; omega) | contradiction | skip)
              | (refine sq_nil ?_))
          | with_reducible refine th_normal ?_
          | with_reducible refine th_ret ?_
          | with_reducible refine th_exit ?_
          | with_reducible refine bl_normal ?_
          | with_reducible refine bl_ret ?_
          | with_reducible refine bl_exit ?_
          | with_reducible refine bl_exit_ne (by decide) ?_
          | with_reducible refine th_goto ?_
          | with_reducible refine bl_goto ?_
          | (with_reducible refine hK _ _ ?_; clear hK hQK K QK)
          | (with_reducible refine hK _ ?_; clear hK K)
          | ((with_reducible refine body_ret tr72 ?_); simp (config := { decide := true }) only [go_sem, Nat.reduceAdd, Nat.reduceMul, Nat.reduceSub, Nat.reduceLeDiff, Int.reduceToNat, reduceCtorEq, reduceIte, w1])
          | ((with_reducible refine body_normal tr72 ?_); simp (config := { decide := true }) only [go_sem, Nat.reduceAdd, Nat.reduceMul, Nat.reduceSub, Nat.reduceLeDiff, Int.reduceToNat, reduceCtorEq, reduceIte, w1])
          | (refine And.intro (by first | omega | (simp only [ByteArray.size_append]; omega)) ?_)
          | exact ends_here ⟨by rw [hg], rfl⟩))
    · (repeat' (first
        | ((with_reducible refine wp_head ?_); first
            | with_reducible refine awp_seq ?_
            | with_reducible refine awp_block ?_
            | with_reducible refine awp_regionL ?_
            | with_reducible refine awp_skip ?_
            | with_reducible refine awp_exit ?_
            | with_reducible refine awp_ret ?_
            | with_reducible refine awp_goto ?_
            | (refine awp_test (by rfl) ?_; first | with_reducible refine cc_t ?_ | with_reducible refine cc_f ?_)
            | ((refine awp_cond_case (by rfl) (by simp only [go_sem]; rfl) (by simp only [go_sem]; rfl) (fun hcase => ?_) (fun hcase => ?_)) <;> (try simp only [decide_eq_true_eq, decide_eq_false_iff_not, Bool.not_eq_true', Bool.not_eq_false', beq_iff_eq, ne_eq] at hcase) <;> first | (exfalso; omega) | contradiction | skip))
        | ((with_reducible refine st_head ?_); first
            | with_reducible refine st_nil ?_
            | (refine st_none rfl fun K QK hK hQK => ?_; simp (config := { decide := true }) only [go_sem, Nat.reduceAdd, Nat.reduceMul, Nat.reduceSub, Nat.reduceLeDiff, Int.reduceToNat, reduceCtorEq, reduceIte])
            | (refine st_test rfl (by rfl) (by rfl) (by simp only [go_sem]; rfl) ?_; first | (with_reducible refine gc_ft ?_) | (with_reducible refine gc_tf ?_) | ((with_reducible refine gc_tt fun K QK hK hQK => ?_); simp (config := { decide := true }) only [go_sem, Nat.reduceAdd, Nat.reduceMul, Nat.reduceSub, Nat.reduceLeDiff, Int.reduceToNat, reduceCtorEq, reduceIte]) | ((with_reducible refine gc_ff fun K QK hK hQK => ?_); simp (config := { decide := true }) only [go_sem, Nat.reduceAdd, Nat.reduceMul, Nat.reduceSub, Nat.reduceLeDiff, Int.reduceToNat, reduceCtorEq, reduceIte]))
            | ((refine st_case rfl (by rfl) (by rfl) (by simp only [go_sem]; rfl) (by simp only [go_sem]; rfl) (fun hcase => ?_) (fun hcase => ?_)) <;> (try simp only [decide_eq_true_eq, decide_eq_false_iff_not, Bool.not_eq_true', Bool.not_eq_false', beq_iff_eq, ne_eq] at hcase) <;> first | (exfalso; omega) | contradiction | skip)
            | (refine st_nil ?_))
        | ((with_reducible refine sq_head ?_); first
            | with_reducible refine sq_nil ?_
            | (refine sq_none rfl fun K hK => ?_; simp (config := { decide := true }) only [go_sem, Nat.reduceAdd, Nat.reduceMul, Nat.reduceSub, Nat.reduceLeDiff, Int.reduceToNat, reduceCtorEq, reduceIte, exists_eq_left', exists_and_left, and_assoc])
            | (refine sq_test rfl (by rfl) (by rfl) (by simp only [go_sem]; rfl) ?_; first | (with_reducible refine gc_ft ?_) | (with_reducible refine gc_tf ?_) | ((with_reducible refine gc_tt fun K hK => ?_); simp (config := { decide := true }) only [go_sem, Nat.reduceAdd, Nat.reduceMul, Nat.reduceSub, Nat.reduceLeDiff, Int.reduceToNat, reduceCtorEq, reduceIte, exists_eq_left', exists_and_left, and_assoc]) | ((with_reducible refine gc_ff fun K hK => ?_); simp (config := { decide := true }) only [go_sem, Nat.reduceAdd, Nat.reduceMul, Nat.reduceSub, Nat.reduceLeDiff, Int.reduceToNat, reduceCtorEq, reduceIte, exists_eq_left', exists_and_left, and_assoc]))
            | ((refine sq_case rfl (by rfl) (by rfl) (by simp only [go_sem]; rfl) (by simp only [go_sem]; rfl) (fun hcase => ?_) (fun hcase => ?_)) <;> (try simp only [decide_eq_true_eq, decide_eq_false_iff_not, Bool.not_eq_true', Bool.not_eq_false', beq_iff_eq, ne_eq] at hcase) <;> first | (exfalso; omega) | contradiction | skip)
            | (refine sq_nil ?_))
        | with_reducible refine th_normal ?_
        | with_reducible refine th_ret ?_
        | with_reducible refine th_exit ?_
        | with_reducible refine bl_normal ?_
        | with_reducible refine bl_ret ?_
        | with_reducible refine bl_exit ?_
        | with_reducible refine bl_exit_ne (by decide) ?_
        | with_reducible refine th_goto ?_
        | with_reducible refine bl_goto ?_
        | (with_reducible refine hK _ _ ?_; clear hK hQK K QK)
        | (with_reducible refine hK _ ?_; clear hK K)
        | ((with_reducible refine body_ret tr72 ?_); simp (config := { decide := true }) only [go_sem, Nat.reduceAdd, Nat.reduceMul, Nat.reduceSub, Nat.reduceLeDiff, Int.reduceToNat, reduceCtorEq, reduceIte])
        | ((with_reducible refine body_normal tr72 ?_); simp (config := { decide := true }) only [go_sem, Nat.reduceAdd, Nat.reduceMul, Nat.reduceSub, Nat.reduceLeDiff, Int.reduceToNat, reduceCtorEq, reduceIte])
        | (refine And.intro (by first | omega | (simp only [ByteArray.size_append]; omega)) ?_)
        | exact ends_here ⟨by rw [hg], rfl⟩))
  obtain ⟨a, rfl⟩ : ∃ a : Nat, at' = a := ⟨at'.toNat, by omega⟩
  obtain ⟨j, rfl⟩ : ∃ j : Nat, k = j := ⟨k.toNat, by omega⟩
  have hj1 : 1 ≤ j := by omega
  have hj8 : j ≤ 8 := by omega
  have haj : a + j ≤ s.size := by omega
  have w1 : IntKind.i64.wrap ((s.size : Int) - a) = (s.size : Int) - a := wrap_id (by omega) (by omega)
  have g1 : ¬ ((j : Int) < 1) := by omega
  have g2 : ¬ ((j : Int) > 8) := by omega
  have g3 : ¬ ((a : Int) < 0) := by omega
  have g4 : ¬ ((a : Int) > (s.size : Int)) := by omega
  have g5 : ¬ ((j : Int) > (s.size : Int) - a) := by omega
  have hlen := cut_len haj
  (repeat' (first
      | ((with_reducible refine wp_head ?_); first
          | with_reducible refine awp_seq ?_
          | with_reducible refine awp_block ?_
          | with_reducible refine awp_regionL ?_
          | with_reducible refine awp_skip ?_
          | with_reducible refine awp_exit ?_
          | with_reducible refine awp_ret ?_
          | with_reducible refine awp_goto ?_
          | (refine awp_test (by rfl) ?_; first | with_reducible refine cc_t ?_ | with_reducible refine cc_f ?_)
          | ((refine awp_cond_case (by rfl) (by simp only [go_sem]; rfl) (by simp only [go_sem]; rfl) (fun hcase => ?_) (fun hcase => ?_)) <;> (try simp only [decide_eq_true_eq, decide_eq_false_iff_not, Bool.not_eq_true', Bool.not_eq_false', beq_iff_eq, ne_eq] at hcase) <;> first | (exfalso; omega) | contradiction | skip))
      | ((with_reducible refine st_head ?_); first
          | with_reducible refine st_nil ?_
          | (refine st_none rfl fun K QK hK hQK => ?_; simp (config := { decide := true }) only [go_sem, Nat.reduceAdd, Nat.reduceMul, Nat.reduceSub, Nat.reduceLeDiff, Int.reduceToNat, reduceCtorEq, reduceIte, w1, g1, g2, g3, g4, g5])
          | (refine st_test rfl (by rfl) (by rfl) (by simp only [go_sem]; rfl) ?_; first | (with_reducible refine gc_ft ?_) | (with_reducible refine gc_tf ?_) | ((with_reducible refine gc_tt fun K QK hK hQK => ?_); simp (config := { decide := true }) only [go_sem, Nat.reduceAdd, Nat.reduceMul, Nat.reduceSub, Nat.reduceLeDiff, Int.reduceToNat, reduceCtorEq, reduceIte, w1, g1, g2, g3, g4, g5]) | ((with_reducible refine gc_ff fun K QK hK hQK => ?_); simp (config := { decide := true }) only [go_sem, Nat.reduceAdd, Nat.reduceMul, Nat.reduceSub, Nat.reduceLeDiff, Int.reduceToNat, reduceCtorEq, reduceIte, w1, g1, g2, g3, g4, g5]))
          | ((refine st_case rfl (by rfl) (by rfl) (by simp only [go_sem]; rfl) (by simp only [go_sem]; rfl) (fun hcase => ?_) (fun hcase => ?_)) <;> (try simp only [decide_eq_true_eq, decide_eq_false_iff_not, Bool.not_eq_true', Bool.not_eq_false', beq_iff_eq, ne_eq] at hcase) <;> first | (exfalso; omega) | contradiction | skip)
          | (refine st_nil ?_))
      | ((with_reducible refine sq_head ?_); first
          | with_reducible refine sq_nil ?_
          | (refine sq_none rfl fun K hK => ?_; simp (config := { decide := true }) only [go_sem, Nat.reduceAdd, Nat.reduceMul, Nat.reduceSub, Nat.reduceLeDiff, Int.reduceToNat, reduceCtorEq, reduceIte, w1, g1, g2, g3, g4, g5, exists_eq_left', exists_and_left, and_assoc])
          | (refine sq_test rfl (by rfl) (by rfl) (by simp only [go_sem]; rfl) ?_; first | (with_reducible refine gc_ft ?_) | (with_reducible refine gc_tf ?_) | ((with_reducible refine gc_tt fun K hK => ?_); simp (config := { decide := true }) only [go_sem, Nat.reduceAdd, Nat.reduceMul, Nat.reduceSub, Nat.reduceLeDiff, Int.reduceToNat, reduceCtorEq, reduceIte, w1, g1, g2, g3, g4, g5, exists_eq_left', exists_and_left, and_assoc]) | ((with_reducible refine gc_ff fun K hK => ?_); simp (config := { decide := true }) only [go_sem, Nat.reduceAdd, Nat.reduceMul, Nat.reduceSub, Nat.reduceLeDiff, Int.reduceToNat, reduceCtorEq, reduceIte, w1, g1, g2, g3, g4, g5, exists_eq_left', exists_and_left, and_assoc]))
          | ((refine sq_case rfl (by rfl) (by rfl) (by simp only [go_sem]; rfl) (by simp only [go_sem]; rfl) (fun hcase => ?_) (fun hcase => ?_)) <;> (try simp only [decide_eq_true_eq, decide_eq_false_iff_not, Bool.not_eq_true', Bool.not_eq_false', beq_iff_eq, ne_eq] at hcase) <;> first | (exfalso; omega) | contradiction | skip)
          | (refine sq_nil ?_))
      | with_reducible refine th_normal ?_
      | with_reducible refine th_ret ?_
      | with_reducible refine th_exit ?_
      | with_reducible refine bl_normal ?_
      | with_reducible refine bl_ret ?_
      | with_reducible refine bl_exit ?_
      | with_reducible refine bl_exit_ne (by decide) ?_
      | with_reducible refine th_goto ?_
      | with_reducible refine bl_goto ?_
      | (with_reducible refine hK _ _ ?_; clear hK hQK K QK)
      | (with_reducible refine hK _ ?_; clear hK K)
      | ((with_reducible refine body_ret tr72 ?_); simp (config := { decide := true }) only [go_sem, Nat.reduceAdd, Nat.reduceMul, Nat.reduceSub, Nat.reduceLeDiff, Int.reduceToNat, reduceCtorEq, reduceIte, w1, g1, g2, g3, g4, g5])
      | ((with_reducible refine body_normal tr72 ?_); simp (config := { decide := true }) only [go_sem, Nat.reduceAdd, Nat.reduceMul, Nat.reduceSub, Nat.reduceLeDiff, Int.reduceToNat, reduceCtorEq, reduceIte, w1, g1, g2, g3, g4, g5])
      | (refine And.intro (by first | omega | (simp only [ByteArray.size_append]; omega)) ?_)))
  refine awp_loops (fun b g => ∃ t : Nat, t ≤ j ∧ num ((cut s a j).take t) < 9223372036854775808 ∧ b = [.lit (.string s), .lit (.int .i64 a), .lit (.int .i64 j), .any, .any, .any, .lit (.int .i64 0), .lit (.bool false), .lit (.int .i64 (num ((cut s a j).take t) : Nat)), .lit (.int .i64 t), .any, .any, .any, .any, .any, .any, .any, .any, .any, .any, .any, .any, .any, .any, .any, .any, .any, .any, .any, .any, .any, .any, .any, .any, .any, .any, .any, .any, .any, .any, .any, .any, .any, .any, .any, .any, .any, .any, .any, .any, .any] ∧ g = h) (fun b _ => j - (slotI b 9).toNat) ?_ ?_
  · refine ⟨_, ?_, 0, by omega, by simp [num], rfl, rfl⟩
    have n0 : num [] = 0 := rfl
    simp [Weak, n0]
  rintro b g ⟨t, ht, hn, rfl, rfl⟩
  by_cases h3 : t < j
  · have h4 : (t : Int) < (j : Int) := by omega
    have h7 : (cut s a j).take (t + 1) = (cut s a j).take t ++ [(cut s a j)[t]'(by omega)] := by rw [List.take_add_one, List.getElem?_eq_getElem (by omega)]; rfl
    by_cases hbig : num ((cut s a j).take t) ≥ 36028797018963968
    · have hb2 : ((num ((cut s a j).take t) : Nat) : Int) ≥ 36028797018963968 := by omega
      have hg : getP s a j = (0, false) := by
        have : 9223372036854775808 ≤ num (cut s a j) := by
          have e := num_step_big (b := (cut s a j)[t]'(by omega)) (rest := (cut s a j).drop (t + 1)) hbig
          rw [← List.drop_eq_getElem_cons, List.take_append_drop] at e
          exact e
        unfold getP; rw [if_neg]; intro hh; have := hh.2.2.2.2; simp at this; omega
      (repeat' (first
          | ((with_reducible refine wp_head ?_); first
              | with_reducible refine awp_seq ?_
              | with_reducible refine awp_block ?_
              | with_reducible refine awp_regionL ?_
              | with_reducible refine awp_skip ?_
              | with_reducible refine awp_exit ?_
              | with_reducible refine awp_ret ?_
              | with_reducible refine awp_goto ?_
              | (refine awp_test (by rfl) ?_; first | with_reducible refine cc_t ?_ | with_reducible refine cc_f ?_)
              | ((refine awp_cond_case (by rfl) (by simp only [go_sem]; rfl) (by simp only [go_sem]; rfl) (fun hcase => ?_) (fun hcase => ?_)) <;> (try simp only [decide_eq_true_eq, decide_eq_false_iff_not, Bool.not_eq_true', Bool.not_eq_false', beq_iff_eq, ne_eq] at hcase) <;> first | (exfalso; omega) | contradiction | skip))
          | ((with_reducible refine st_head ?_); first
              | with_reducible refine st_nil ?_
              | (refine st_none rfl fun K QK hK hQK => ?_; simp (config := { decide := true }) only [go_sem, Nat.reduceAdd, Nat.reduceMul, Nat.reduceSub, Nat.reduceLeDiff, Int.reduceToNat, reduceCtorEq, reduceIte, h4, hb2])
              | (refine st_test rfl (by rfl) (by rfl) (by simp only [go_sem]; rfl) ?_; first | (with_reducible refine gc_ft ?_) | (with_reducible refine gc_tf ?_) | ((with_reducible refine gc_tt fun K QK hK hQK => ?_); simp (config := { decide := true }) only [go_sem, Nat.reduceAdd, Nat.reduceMul, Nat.reduceSub, Nat.reduceLeDiff, Int.reduceToNat, reduceCtorEq, reduceIte, h4, hb2]) | ((with_reducible refine gc_ff fun K QK hK hQK => ?_); simp (config := { decide := true }) only [go_sem, Nat.reduceAdd, Nat.reduceMul, Nat.reduceSub, Nat.reduceLeDiff, Int.reduceToNat, reduceCtorEq, reduceIte, h4, hb2]))
              | ((refine st_case rfl (by rfl) (by rfl) (by simp only [go_sem]; rfl) (by simp only [go_sem]; rfl) (fun hcase => ?_) (fun hcase => ?_)) <;> (try simp only [decide_eq_true_eq, decide_eq_false_iff_not, Bool.not_eq_true', Bool.not_eq_false', beq_iff_eq, ne_eq] at hcase) <;> first | (exfalso; omega) | contradiction | skip)
              | (refine st_nil ?_))
          | ((with_reducible refine sq_head ?_); first
              | with_reducible refine sq_nil ?_
              | (refine sq_none rfl fun K hK => ?_; simp (config := { decide := true }) only [go_sem, Nat.reduceAdd, Nat.reduceMul, Nat.reduceSub, Nat.reduceLeDiff, Int.reduceToNat, reduceCtorEq, reduceIte, h4, hb2, exists_eq_left', exists_and_left, and_assoc])
              | (refine sq_test rfl (by rfl) (by rfl) (by simp only [go_sem]; rfl) ?_; first | (with_reducible refine gc_ft ?_) | (with_reducible refine gc_tf ?_) | ((with_reducible refine gc_tt fun K hK => ?_); simp (config := { decide := true }) only [go_sem, Nat.reduceAdd, Nat.reduceMul, Nat.reduceSub, Nat.reduceLeDiff, Int.reduceToNat, reduceCtorEq, reduceIte, h4, hb2, exists_eq_left', exists_and_left, and_assoc]) | ((with_reducible refine gc_ff fun K hK => ?_); simp (config := { decide := true }) only [go_sem, Nat.reduceAdd, Nat.reduceMul, Nat.reduceSub, Nat.reduceLeDiff, Int.reduceToNat, reduceCtorEq, reduceIte, h4, hb2, exists_eq_left', exists_and_left, and_assoc]))
              | ((refine sq_case rfl (by rfl) (by rfl) (by simp only [go_sem]; rfl) (by simp only [go_sem]; rfl) (fun hcase => ?_) (fun hcase => ?_)) <;> (try simp only [decide_eq_true_eq, decide_eq_false_iff_not, Bool.not_eq_true', Bool.not_eq_false', beq_iff_eq, ne_eq] at hcase) <;> first | (exfalso; omega) | contradiction | skip)
              | (refine sq_nil ?_))
          | with_reducible refine th_normal ?_
          | with_reducible refine th_ret ?_
          | with_reducible refine th_exit ?_
          | with_reducible refine bl_normal ?_
          | with_reducible refine bl_ret ?_
          | with_reducible refine bl_exit ?_
          | with_reducible refine bl_exit_ne (by decide) ?_
          | with_reducible refine th_goto ?_
          | with_reducible refine bl_goto ?_
          | (with_reducible refine hK _ _ ?_; clear hK hQK K QK)
          | (with_reducible refine hK _ ?_; clear hK K)
          | ((with_reducible refine body_ret tr72 ?_); simp (config := { decide := true }) only [go_sem, Nat.reduceAdd, Nat.reduceMul, Nat.reduceSub, Nat.reduceLeDiff, Int.reduceToNat, reduceCtorEq, reduceIte, h4, hb2])
          | ((with_reducible refine body_normal tr72 ?_); simp (config := { decide := true }) only [go_sem, Nat.reduceAdd, Nat.reduceMul, Nat.reduceSub, Nat.reduceLeDiff, Int.reduceToNat, reduceCtorEq, reduceIte, h4, hb2])
          | (refine And.intro (by first | omega | (simp only [ByteArray.size_append]; omega)) ?_)
          | exact ends_here ⟨by rw [hg], rfl⟩))
    · have hb2 : ¬ (((num ((cut s a j).take t) : Nat) : Int) ≥ 36028797018963968) := by omega
      have h6 : IntKind.i64.wrap ((t : Int) + 1) = ((t + 1 : Nat) : Int) := by rw [wrap_id (by omega) (by omega)]; omega
      have hb := ((cut s a j)[t]'(by omega)).toNat_lt
      have h8 : IntKind.i64.wrap (((num ((cut s a j).take t) : Nat) : Int) * 256) = ((num ((cut s a j).take t) * 256 : Nat) : Int) := by rw [wrap_id (by omega) (by omega)]; omega
      have h9 : IntKind.i64.wrap ((a : Int) + t) = ((a + t : Nat) : Int) := by rw [wrap_id (by omega) (by omega)]; omega
      have h10 : IntKind.i64.wrap (((cut s a j)[t]'(by omega)).toNat : Int) = (((cut s a j)[t]'(by omega)).toNat : Int) := wrap_nat (by omega)
      have h11 : IntKind.i64.wrap (((num ((cut s a j).take t) * 256 : Nat) : Int) + (((cut s a j)[t]'(by omega)).toNat : Int)) = ((num ((cut s a j).take t) * 256 + ((cut s a j)[t]'(by omega)).toNat : Nat) : Int) := by rw [wrap_id (by omega) (by omega)]; omega
      have h12 := byteAt_cut haj h3
      (repeat' (first
          | ((with_reducible refine wp_head ?_); first
              | with_reducible refine awp_seq ?_
              | with_reducible refine awp_block ?_
              | with_reducible refine awp_regionL ?_
              | with_reducible refine awp_skip ?_
              | with_reducible refine awp_exit ?_
              | with_reducible refine awp_ret ?_
              | with_reducible refine awp_goto ?_
              | (refine awp_test (by rfl) ?_; first | with_reducible refine cc_t ?_ | with_reducible refine cc_f ?_)
              | ((refine awp_cond_case (by rfl) (by simp only [go_sem]; rfl) (by simp only [go_sem]; rfl) (fun hcase => ?_) (fun hcase => ?_)) <;> (try simp only [decide_eq_true_eq, decide_eq_false_iff_not, Bool.not_eq_true', Bool.not_eq_false', beq_iff_eq, ne_eq] at hcase) <;> first | (exfalso; omega) | contradiction | skip))
          | ((with_reducible refine st_head ?_); first
              | with_reducible refine st_nil ?_
              | (refine st_none rfl fun K QK hK hQK => ?_; simp (config := { decide := true }) only [go_sem, Nat.reduceAdd, Nat.reduceMul, Nat.reduceSub, Nat.reduceLeDiff, Int.reduceToNat, reduceCtorEq, reduceIte, h4, hb2, h6, h8, h9, h12, h10, h11])
              | (refine st_test rfl (by rfl) (by rfl) (by simp only [go_sem]; rfl) ?_; first | (with_reducible refine gc_ft ?_) | (with_reducible refine gc_tf ?_) | ((with_reducible refine gc_tt fun K QK hK hQK => ?_); simp (config := { decide := true }) only [go_sem, Nat.reduceAdd, Nat.reduceMul, Nat.reduceSub, Nat.reduceLeDiff, Int.reduceToNat, reduceCtorEq, reduceIte, h4, hb2, h6, h8, h9, h12, h10, h11]) | ((with_reducible refine gc_ff fun K QK hK hQK => ?_); simp (config := { decide := true }) only [go_sem, Nat.reduceAdd, Nat.reduceMul, Nat.reduceSub, Nat.reduceLeDiff, Int.reduceToNat, reduceCtorEq, reduceIte, h4, hb2, h6, h8, h9, h12, h10, h11]))
              | ((refine st_case rfl (by rfl) (by rfl) (by simp only [go_sem]; rfl) (by simp only [go_sem]; rfl) (fun hcase => ?_) (fun hcase => ?_)) <;> (try simp only [decide_eq_true_eq, decide_eq_false_iff_not, Bool.not_eq_true', Bool.not_eq_false', beq_iff_eq, ne_eq] at hcase) <;> first | (exfalso; omega) | contradiction | skip)
              | (refine st_nil ?_))
          | ((with_reducible refine sq_head ?_); first
              | with_reducible refine sq_nil ?_
              | (refine sq_none rfl fun K hK => ?_; simp (config := { decide := true }) only [go_sem, Nat.reduceAdd, Nat.reduceMul, Nat.reduceSub, Nat.reduceLeDiff, Int.reduceToNat, reduceCtorEq, reduceIte, h4, hb2, h6, h8, h9, h12, h10, h11, exists_eq_left', exists_and_left, and_assoc])
              | (refine sq_test rfl (by rfl) (by rfl) (by simp only [go_sem]; rfl) ?_; first | (with_reducible refine gc_ft ?_) | (with_reducible refine gc_tf ?_) | ((with_reducible refine gc_tt fun K hK => ?_); simp (config := { decide := true }) only [go_sem, Nat.reduceAdd, Nat.reduceMul, Nat.reduceSub, Nat.reduceLeDiff, Int.reduceToNat, reduceCtorEq, reduceIte, h4, hb2, h6, h8, h9, h12, h10, h11, exists_eq_left', exists_and_left, and_assoc]) | ((with_reducible refine gc_ff fun K hK => ?_); simp (config := { decide := true }) only [go_sem, Nat.reduceAdd, Nat.reduceMul, Nat.reduceSub, Nat.reduceLeDiff, Int.reduceToNat, reduceCtorEq, reduceIte, h4, hb2, h6, h8, h9, h12, h10, h11, exists_eq_left', exists_and_left, and_assoc]))
              | ((refine sq_case rfl (by rfl) (by rfl) (by simp only [go_sem]; rfl) (by simp only [go_sem]; rfl) (fun hcase => ?_) (fun hcase => ?_)) <;> (try simp only [decide_eq_true_eq, decide_eq_false_iff_not, Bool.not_eq_true', Bool.not_eq_false', beq_iff_eq, ne_eq] at hcase) <;> first | (exfalso; omega) | contradiction | skip)
              | (refine sq_nil ?_))
          | with_reducible refine th_normal ?_
          | with_reducible refine th_ret ?_
          | with_reducible refine th_exit ?_
          | with_reducible refine bl_normal ?_
          | with_reducible refine bl_ret ?_
          | with_reducible refine bl_exit ?_
          | with_reducible refine bl_exit_ne (by decide) ?_
          | with_reducible refine th_goto ?_
          | with_reducible refine bl_goto ?_
          | (with_reducible refine hK _ _ ?_; clear hK hQK K QK)
          | (with_reducible refine hK _ ?_; clear hK K)
          | ((with_reducible refine body_ret tr72 ?_); simp (config := { decide := true }) only [go_sem, Nat.reduceAdd, Nat.reduceMul, Nat.reduceSub, Nat.reduceLeDiff, Int.reduceToNat, reduceCtorEq, reduceIte, h4, hb2, h6, h8, h9, h12, h10, h11])
          | ((with_reducible refine body_normal tr72 ?_); simp (config := { decide := true }) only [go_sem, Nat.reduceAdd, Nat.reduceMul, Nat.reduceSub, Nat.reduceLeDiff, Int.reduceToNat, reduceCtorEq, reduceIte, h4, hb2, h6, h8, h9, h12, h10, h11])
          | (refine And.intro (by first | omega | (simp only [ByteArray.size_append]; omega)) ?_)))
      refine ⟨_, ?_, ⟨t + 1, by omega, ?_, rfl, rfl⟩, ?_⟩
      · rw [h7, num_snoc]; simp [Weak]
      · rw [h7, num_snoc]; omega
      · simp [slotI, aget]; omega
  obtain rfl : t = j := by omega
  have h4 : ¬ ((t : Int) < (t : Int)) := by omega
  have h5 : (cut s a t).take t = cut s a t := List.take_of_length_le (by omega)
  rw [h5] at hn
  have hg : getP s a t = ((num (cut s a t) : Int), true) := by
    unfold getP; rw [if_pos ⟨hc.1, hc.2.1, hc.2.2.1, hc.2.2.2, by simpa using hn⟩]; simp
  (repeat' (first
      | ((with_reducible refine wp_head ?_); first
          | with_reducible refine awp_seq ?_
          | with_reducible refine awp_block ?_
          | with_reducible refine awp_regionL ?_
          | with_reducible refine awp_skip ?_
          | with_reducible refine awp_exit ?_
          | with_reducible refine awp_ret ?_
          | with_reducible refine awp_goto ?_
          | (refine awp_test (by rfl) ?_; first | with_reducible refine cc_t ?_ | with_reducible refine cc_f ?_)
          | ((refine awp_cond_case (by rfl) (by simp only [go_sem]; rfl) (by simp only [go_sem]; rfl) (fun hcase => ?_) (fun hcase => ?_)) <;> (try simp only [decide_eq_true_eq, decide_eq_false_iff_not, Bool.not_eq_true', Bool.not_eq_false', beq_iff_eq, ne_eq] at hcase) <;> first | (exfalso; omega) | contradiction | skip))
      | ((with_reducible refine st_head ?_); first
          | with_reducible refine st_nil ?_
          | (refine st_none rfl fun K QK hK hQK => ?_; simp (config := { decide := true }) only [go_sem, Nat.reduceAdd, Nat.reduceMul, Nat.reduceSub, Nat.reduceLeDiff, Int.reduceToNat, reduceCtorEq, reduceIte, h4, h5])
          | (refine st_test rfl (by rfl) (by rfl) (by simp only [go_sem]; rfl) ?_; first | (with_reducible refine gc_ft ?_) | (with_reducible refine gc_tf ?_) | ((with_reducible refine gc_tt fun K QK hK hQK => ?_); simp (config := { decide := true }) only [go_sem, Nat.reduceAdd, Nat.reduceMul, Nat.reduceSub, Nat.reduceLeDiff, Int.reduceToNat, reduceCtorEq, reduceIte, h4, h5]) | ((with_reducible refine gc_ff fun K QK hK hQK => ?_); simp (config := { decide := true }) only [go_sem, Nat.reduceAdd, Nat.reduceMul, Nat.reduceSub, Nat.reduceLeDiff, Int.reduceToNat, reduceCtorEq, reduceIte, h4, h5]))
          | ((refine st_case rfl (by rfl) (by rfl) (by simp only [go_sem]; rfl) (by simp only [go_sem]; rfl) (fun hcase => ?_) (fun hcase => ?_)) <;> (try simp only [decide_eq_true_eq, decide_eq_false_iff_not, Bool.not_eq_true', Bool.not_eq_false', beq_iff_eq, ne_eq] at hcase) <;> first | (exfalso; omega) | contradiction | skip)
          | (refine st_nil ?_))
      | ((with_reducible refine sq_head ?_); first
          | with_reducible refine sq_nil ?_
          | (refine sq_none rfl fun K hK => ?_; simp (config := { decide := true }) only [go_sem, Nat.reduceAdd, Nat.reduceMul, Nat.reduceSub, Nat.reduceLeDiff, Int.reduceToNat, reduceCtorEq, reduceIte, h4, h5, exists_eq_left', exists_and_left, and_assoc])
          | (refine sq_test rfl (by rfl) (by rfl) (by simp only [go_sem]; rfl) ?_; first | (with_reducible refine gc_ft ?_) | (with_reducible refine gc_tf ?_) | ((with_reducible refine gc_tt fun K hK => ?_); simp (config := { decide := true }) only [go_sem, Nat.reduceAdd, Nat.reduceMul, Nat.reduceSub, Nat.reduceLeDiff, Int.reduceToNat, reduceCtorEq, reduceIte, h4, h5, exists_eq_left', exists_and_left, and_assoc]) | ((with_reducible refine gc_ff fun K hK => ?_); simp (config := { decide := true }) only [go_sem, Nat.reduceAdd, Nat.reduceMul, Nat.reduceSub, Nat.reduceLeDiff, Int.reduceToNat, reduceCtorEq, reduceIte, h4, h5, exists_eq_left', exists_and_left, and_assoc]))
          | ((refine sq_case rfl (by rfl) (by rfl) (by simp only [go_sem]; rfl) (by simp only [go_sem]; rfl) (fun hcase => ?_) (fun hcase => ?_)) <;> (try simp only [decide_eq_true_eq, decide_eq_false_iff_not, Bool.not_eq_true', Bool.not_eq_false', beq_iff_eq, ne_eq] at hcase) <;> first | (exfalso; omega) | contradiction | skip)
          | (refine sq_nil ?_))
      | with_reducible refine th_normal ?_
      | with_reducible refine th_ret ?_
      | with_reducible refine th_exit ?_
      | with_reducible refine bl_normal ?_
      | with_reducible refine bl_ret ?_
      | with_reducible refine bl_exit ?_
      | with_reducible refine bl_exit_ne (by decide) ?_
      | with_reducible refine th_goto ?_
      | with_reducible refine bl_goto ?_
      | (with_reducible refine hK _ _ ?_; clear hK hQK K QK)
      | (with_reducible refine hK _ ?_; clear hK K)
      | ((with_reducible refine body_ret tr72 ?_); simp (config := { decide := true }) only [go_sem, Nat.reduceAdd, Nat.reduceMul, Nat.reduceSub, Nat.reduceLeDiff, Int.reduceToNat, reduceCtorEq, reduceIte, h4, h5])
      | ((with_reducible refine body_normal tr72 ?_); simp (config := { decide := true }) only [go_sem, Nat.reduceAdd, Nat.reduceMul, Nat.reduceSub, Nat.reduceLeDiff, Int.reduceToNat, reduceCtorEq, reduceIte, h4, h5])
      | (refine And.intro (by first | omega | (simp only [ByteArray.size_append]; omega)) ?_)
      | exact ends_here ⟨by rw [hg], rfl⟩))

-- chainman/chainmanref02.GetCoord: function 71
theorem ref02_GetCoord (s : ByteArray) (a : Int) (hs : s.size ≤ 140737488351232) (ha : -9223372036854775808 ≤ a) (ha2 : a < 9223372036854775808) :
    Pure1 Try.prog 71 [.lit (.string s), .lit (.int .i64 a)] (.tup [.lit (.int .i64 (getC s a).1), .lit (.bool (getC s a).2)]) := by
  intro h
  refine acalls_of Try.func71 (by rfl) fun hok => ?_
  simp only [List.length_cons, List.length_nil, Nat.reduceAdd, show Try.f71.ntmps = 18 from rfl, Nat.reduceSub, List.replicate, List.cons_append, List.nil_append]
  have h0 := getP_range s a 4
  have w1 : IntKind.i64.wrap ((getP s a 4).1 - 2147483648) = (getP s a 4).1 - 2147483648 := wrap_id (by omega) (by omega)
  (repeat' (first
      | ((with_reducible refine wp_head ?_); first
          | with_reducible refine awp_seq ?_
          | with_reducible refine awp_block ?_
          | with_reducible refine awp_regionL ?_
          | with_reducible refine awp_skip ?_
          | with_reducible refine awp_exit ?_
          | with_reducible refine awp_ret ?_
          | with_reducible refine awp_goto ?_
          | (refine awp_test (by rfl) ?_; first | with_reducible refine cc_t ?_ | with_reducible refine cc_f ?_)
          | ((refine awp_cond_case (by rfl) (by simp only [go_sem]; rfl) (by simp only [go_sem]; rfl) (fun hcase => ?_) (fun hcase => ?_)) <;> (try simp only [decide_eq_true_eq, decide_eq_false_iff_not, Bool.not_eq_true', Bool.not_eq_false', beq_iff_eq, ne_eq] at hcase) <;> first | (exfalso; omega) | contradiction | skip))
      | ((with_reducible refine st_head ?_); first
          | with_reducible refine st_nil ?_
          | (refine st_none rfl fun K QK hK hQK => ?_; simp (config := { decide := true }) only [go_sem, Nat.reduceAdd, Nat.reduceMul, Nat.reduceSub, Nat.reduceLeDiff, Int.reduceToNat, reduceCtorEq, reduceIte, w1])
          | (refine st_test rfl (by rfl) (by rfl) (by simp only [go_sem]; rfl) ?_; first | (with_reducible refine gc_ft ?_) | (with_reducible refine gc_tf ?_) | ((with_reducible refine gc_tt fun K QK hK hQK => ?_); simp (config := { decide := true }) only [go_sem, Nat.reduceAdd, Nat.reduceMul, Nat.reduceSub, Nat.reduceLeDiff, Int.reduceToNat, reduceCtorEq, reduceIte, w1]) | ((with_reducible refine gc_ff fun K QK hK hQK => ?_); simp (config := { decide := true }) only [go_sem, Nat.reduceAdd, Nat.reduceMul, Nat.reduceSub, Nat.reduceLeDiff, Int.reduceToNat, reduceCtorEq, reduceIte, w1]))
          | ((refine st_case rfl (by rfl) (by rfl) (by simp only [go_sem]; rfl) (by simp only [go_sem]; rfl) (fun hcase => ?_) (fun hcase => ?_)) <;> (try simp only [decide_eq_true_eq, decide_eq_false_iff_not, Bool.not_eq_true', Bool.not_eq_false', beq_iff_eq, ne_eq] at hcase) <;> first | (exfalso; omega) | contradiction | skip)
          | (refine st_nil ?_))
      | ((with_reducible refine sq_head ?_); first
          | with_reducible refine sq_nil ?_
          | (refine sq_none rfl fun K hK => ?_; simp (config := { decide := true }) only [go_sem, Nat.reduceAdd, Nat.reduceMul, Nat.reduceSub, Nat.reduceLeDiff, Int.reduceToNat, reduceCtorEq, reduceIte, w1, exists_eq_left', exists_and_left, and_assoc])
          | (refine sq_test rfl (by rfl) (by rfl) (by simp only [go_sem]; rfl) ?_; first | (with_reducible refine gc_ft ?_) | (with_reducible refine gc_tf ?_) | ((with_reducible refine gc_tt fun K hK => ?_); simp (config := { decide := true }) only [go_sem, Nat.reduceAdd, Nat.reduceMul, Nat.reduceSub, Nat.reduceLeDiff, Int.reduceToNat, reduceCtorEq, reduceIte, w1, exists_eq_left', exists_and_left, and_assoc]) | ((with_reducible refine gc_ff fun K hK => ?_); simp (config := { decide := true }) only [go_sem, Nat.reduceAdd, Nat.reduceMul, Nat.reduceSub, Nat.reduceLeDiff, Int.reduceToNat, reduceCtorEq, reduceIte, w1, exists_eq_left', exists_and_left, and_assoc]))
          | ((refine sq_case rfl (by rfl) (by rfl) (by simp only [go_sem]; rfl) (by simp only [go_sem]; rfl) (fun hcase => ?_) (fun hcase => ?_)) <;> (try simp only [decide_eq_true_eq, decide_eq_false_iff_not, Bool.not_eq_true', Bool.not_eq_false', beq_iff_eq, ne_eq] at hcase) <;> first | (exfalso; omega) | contradiction | skip)
          | (refine sq_nil ?_))
      | with_reducible refine th_normal ?_
      | with_reducible refine th_ret ?_
      | with_reducible refine th_exit ?_
      | with_reducible refine bl_normal ?_
      | with_reducible refine bl_ret ?_
      | with_reducible refine bl_exit ?_
      | with_reducible refine bl_exit_ne (by decide) ?_
      | with_reducible refine th_goto ?_
      | with_reducible refine bl_goto ?_
      | (with_reducible refine hK _ _ ?_; clear hK hQK K QK)
      | (with_reducible refine hK _ ?_; clear hK K)
      | ((with_reducible refine body_ret tr71 ?_); simp (config := { decide := true }) only [go_sem, Nat.reduceAdd, Nat.reduceMul, Nat.reduceSub, Nat.reduceLeDiff, Int.reduceToNat, reduceCtorEq, reduceIte, w1])
      | ((with_reducible refine body_normal tr71 ?_); simp (config := { decide := true }) only [go_sem, Nat.reduceAdd, Nat.reduceMul, Nat.reduceSub, Nat.reduceLeDiff, Int.reduceToNat, reduceCtorEq, reduceIte, w1])
      | (refine And.intro (by first | omega | (simp only [ByteArray.size_append]; omega)) ?_)
      | (refine call_mono (ref02_Get s a 4 hs ha ha2 (by omega) (by omega)) ?_; simp (config := { decide := true }) only [go_sem, Nat.reduceAdd, Nat.reduceMul, Nat.reduceSub, Nat.reduceLeDiff, Int.reduceToNat, reduceCtorEq, reduceIte])
      | (refine call_ex (ref02_Get s a 4 hs ha ha2 (by omega) (by omega)) ?_; try simp (config := { decide := true }) only [go_sem, Nat.reduceAdd, Nat.reduceMul, Nat.reduceSub, Nat.reduceLeDiff, Int.reduceToNat, reduceCtorEq, reduceIte])
      | ((first | refine ends_same hok rfl ⟨?_, rfl⟩ | refine ends_here ⟨?_, rfl⟩); first | (with_reducible rfl) | (simp [getC, *]; done) | (simp_all [getC]; done) | (simp_all [getC]; split <;> first | (exfalso; omega) | (simp_all; done)))))
end Go.Proofs.Ytpjocohpogihcaa.AL
