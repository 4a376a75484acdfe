/- The law chainman/chainmanlaw14.RecOrder holds at every input: it hands back true, and its arguments read behind the call as before. No condition. -/
import Derived.Test.YtpjocohpogihcaaRows
import Derived.Test.YtpjocohpogihcaaAL19
import Derived.Test.YtpjocohpogihcaaRecOrder
import Derived.WalkKit
import Derived.ProofKit
import Derived.OpenShut
import Derived.ShutString
import Derived.ChangeOld
import Derived.Below
import Derived.Carry
import Derived.SizedLaws
namespace Go.Proofs.Ytpjocohpogihcaa.recOrder
open Go Go.Proofs.Ytpjocohpogihcaa.AL Go.ChangeShapes Go.WideShapes Go.ChangeAt Go.RowKit
set_option linter.unusedVariables false
set_option linter.unusedSimpArgs false
theorem own : ownKnob Try.prog.godebug = none := by kernel_rfl
theorem laidOut : laidOutB Try.prog = true := by kernel_rfl
theorem sh29 : shOf Try.prog 12 29 = some (.strct [.int .i64, .int .i64]) := by kernel_rfl
theorem sh31 : shOf Try.prog 12 31 = some (.strct [.int .i64, .int .i64]) := by kernel_rfl
theorem sh35 : shOf Try.prog 12 35 = some (.strct [.int .i64, .strct [.int .i64, .int .i64, .bool]]) := by kernel_rfl
set_option maxRecDepth 100000 in
theorem lifted (os : Os) (started : os.Started) (H : Type) (enc : TypeId × Value → H) :
    ReturnsInHanded {} Try.checked os 9 .any (Rows.recOrderSpec.pre6 enc Try.prog Try.f9 Rows.recOrderRow.domain false) (Rows.recOrderSpec.post enc Try.prog Try.f9 false true false false) := by
  refine returnsInHanded_of_change_sized (C := Try.checked) own started (by kernel_rfl) Try.func9
    (ChangeSpec.witness6 (enc := enc) (C := Try.checked) false ⟨#[], #[.agg #[.int .i64 0, .int .i64 0], .agg #[.int .i64 0, .int .i64 0], .agg #[.int .i64 0, .int .i64 0], .agg #[.int .i64 0, .int .i64 0], .agg #[.int .i64 0, .int .i64 0, .int .i64 0, .bool false], .agg #[.int .i64 0, .int .i64 0, .int .i64 0, .bool false]], []⟩ 8 (by kernel_rfl) (by kernel_rfl) (by kernel_rfl) (by kernel_rfl)) ?_
  intro W base args ds gs before hval0 hW hcnd hsz0 _
  have hsz : (DataW.weightsEach Try.prog (Try.f9.params.toList ++ Rows.recOrderSpec.plain.varTypes Try.prog) (ds ++ gs)).all (· ≤ reachBytes) = true := hsz0
  have hval : ∀ (j : Nat) t v, Try.f9.params[j]? = some t → args[j]? = some v → Value.okWide Try.prog W .any base t v := hval0
  have hW' := hW
  obtain ⟨p, q, hA0, hV, rfl, hfz, hnd⟩ := hW
  have hA : DataW.TrodAll enc Try.prog W 0 (fun _ => true) true Try.f9.params.toList args.toList ds p := hA0
  rw [Try.params9] at hA hval hsz
  obtain ⟨v0, vs0, d0, ds0, p0, q0, hargs, rfl, rfl, h0, r0⟩ := trodAll_cons hA
  obtain ⟨v1, vs1, d1, ds1, p1, q1, rfl, rfl, rfl, h1, r1⟩ := trodAll_cons r0
  obtain ⟨v2, vs2, d2, ds2, p2, q2, rfl, rfl, rfl, h2, r2⟩ := trodAll_cons r1
  obtain ⟨v3, vs3, d3, ds3, p3, q3, rfl, rfl, rfl, h3, r3⟩ := trodAll_cons r2
  obtain ⟨v4, vs4, d4, ds4, p4, q4, rfl, rfl, rfl, h4, r4⟩ := trodAll_cons r3
  obtain ⟨v5, vs5, d5, ds5, p5, q5, rfl, rfl, rfl, h5, r5⟩ := trodAll_cons r4
  obtain ⟨rfl, rfl, rfl⟩ := trodAll_nil r5
  obtain rfl : args = #[v0, v1, v2, v3, v4, v5] := by cases args; simp_all
  obtain ⟨rfl, rfl⟩ := trodVars_none hV
  have k0 := h0
  have lt0 : ∀ x ∈ p0, x.block < W.heap.size := by obtain ⟨m, hm⟩ := k0; exact DataW.trod_lt m _ _ _ hm
  obtain ⟨f0, x0⟩ := arg_reads (ρ := fun _ => ⟨0, 0, 0⟩) 12 _ sh29 (hval 0 29 v0 rfl rfl) h0
  simp only [Fits, FitsL] at f0
  obtain ⟨_, rfl, ⟨_, _, rfl, ⟨n0_0, rfl, l0_0, u0_0⟩, ⟨_, _, rfl, ⟨n0_1, rfl, l0_1, u0_1⟩, rfl⟩⟩⟩ := f0
  simp only [absV, tg29, absD, absDs, litV, List.headD_cons, List.cons_append, List.nil_append, List.append_nil] at x0
  have k1 := h1
  have lt1 : ∀ x ∈ p1, x.block < W.heap.size := by obtain ⟨m, hm⟩ := k1; exact DataW.trod_lt m _ _ _ hm
  obtain ⟨f1, x1⟩ := arg_reads (ρ := fun _ => ⟨0, 0, 0⟩) 12 _ sh29 (hval 1 29 v1 rfl rfl) h1
  simp only [Fits, FitsL] at f1
  obtain ⟨_, rfl, ⟨_, _, rfl, ⟨n1_0, rfl, l1_0, u1_0⟩, ⟨_, _, rfl, ⟨n1_1, rfl, l1_1, u1_1⟩, rfl⟩⟩⟩ := f1
  simp only [absV, tg29, absD, absDs, litV, List.headD_cons, List.cons_append, List.nil_append, List.append_nil] at x1
  have k2 := h2
  have lt2 : ∀ x ∈ p2, x.block < W.heap.size := by obtain ⟨m, hm⟩ := k2; exact DataW.trod_lt m _ _ _ hm
  obtain ⟨f2, x2⟩ := arg_reads (ρ := fun _ => ⟨0, 0, 0⟩) 12 _ sh31 (hval 2 31 v2 rfl rfl) h2
  simp only [Fits, FitsL] at f2
  obtain ⟨_, rfl, ⟨_, _, rfl, ⟨n2_0, rfl, l2_0, u2_0⟩, ⟨_, _, rfl, ⟨n2_1, rfl, l2_1, u2_1⟩, rfl⟩⟩⟩ := f2
  simp only [absV, tg31, absD, absDs, litV, List.headD_cons, List.cons_append, List.nil_append, List.append_nil] at x2
  have k3 := h3
  have lt3 : ∀ x ∈ p3, x.block < W.heap.size := by obtain ⟨m, hm⟩ := k3; exact DataW.trod_lt m _ _ _ hm
  obtain ⟨f3, x3⟩ := arg_reads (ρ := fun _ => ⟨0, 0, 0⟩) 12 _ sh31 (hval 3 31 v3 rfl rfl) h3
  simp only [Fits, FitsL] at f3
  obtain ⟨_, rfl, ⟨_, _, rfl, ⟨n3_0, rfl, l3_0, u3_0⟩, ⟨_, _, rfl, ⟨n3_1, rfl, l3_1, u3_1⟩, rfl⟩⟩⟩ := f3
  simp only [absV, tg31, absD, absDs, litV, List.headD_cons, List.cons_append, List.nil_append, List.append_nil] at x3
  have k4 := h4
  have lt4 : ∀ x ∈ p4, x.block < W.heap.size := by obtain ⟨m, hm⟩ := k4; exact DataW.trod_lt m _ _ _ hm
  obtain ⟨f4, x4⟩ := arg_reads (ρ := fun _ => ⟨0, 0, 0⟩) 12 _ sh35 (hval 4 35 v4 rfl rfl) h4
  simp only [Fits, FitsL] at f4
  obtain ⟨_, rfl, ⟨_, _, rfl, ⟨n4_0, rfl, l4_0, u4_0⟩, ⟨_, _, rfl, ⟨_, rfl, ⟨_, _, rfl, ⟨n4_1_0, rfl, l4_1_0, u4_1_0⟩, ⟨_, _, rfl, ⟨n4_1_1, rfl, l4_1_1, u4_1_1⟩, ⟨_, _, rfl, ⟨b4_1_2, rfl⟩, rfl⟩⟩⟩⟩, rfl⟩⟩⟩ := f4
  simp only [absV, tg35, absD, absDs, litV, List.headD_cons, List.cons_append, List.nil_append, List.append_nil] at x4
  have k5 := h5
  have lt5 : ∀ x ∈ p5, x.block < W.heap.size := by obtain ⟨m, hm⟩ := k5; exact DataW.trod_lt m _ _ _ hm
  obtain ⟨f5, x5⟩ := arg_reads (ρ := fun _ => ⟨0, 0, 0⟩) 12 _ sh35 (hval 5 35 v5 rfl rfl) h5
  simp only [Fits, FitsL] at f5
  obtain ⟨_, rfl, ⟨_, _, rfl, ⟨n5_0, rfl, l5_0, u5_0⟩, ⟨_, _, rfl, ⟨_, rfl, ⟨_, _, rfl, ⟨n5_1_0, rfl, l5_1_0, u5_1_0⟩, ⟨_, _, rfl, ⟨n5_1_1, rfl, l5_1_1, u5_1_1⟩, ⟨_, _, rfl, ⟨b5_1_2, rfl⟩, rfl⟩⟩⟩⟩, rfl⟩⟩⟩ := f5
  simp only [absV, tg35, absD, absDs, litV, List.headD_cons, List.cons_append, List.nil_append, List.append_nil] at x5
  clear hA0 hval0 hsz0 hsz
  have hc : ACalls Try.prog 9 [_, _, _, _, _, _] [] (fun e _ => e = .ret (.lit (.bool true))) := (recOrder n0_0 n0_1 n1_0 n1_1 n2_0 n2_1 n3_0 n3_1 n4_0 n4_1_0 n4_1_1 n5_0 n5_1_0 n5_1_1 b4_1_2 b5_1_2 ⟨i64_hi u2_0, i64_hi u2_1⟩ ⟨i64_hi u3_0, i64_hi u3_1⟩ ⟨i64_hi u4_0, i64_hi u4_1_0, i64_hi u4_1_1⟩ ⟨i64_hi u5_0, i64_hi u5_1_0, i64_hi u5_1_1⟩).mono fun _ _ hh => hh.1
  refine (law_of hc (VRs.cons x0 (VRs.cons x1 (VRs.cons x2 (VRs.cons x3 (VRs.cons x4 (VRs.cons x5 VRs.nil))))))).mono fun e W' ⟨he, bel⟩ => ?_
  subst he
  exact ⟨_, rfl, _, _, _, [], _, [], hW', trodAll_mk1 (shut_bool Try.underlying4 _), (trodAll_cons_mk (Below.trod laidOut (by kernel_rfl) (of_decide_eq_true (by kernel_rfl)) k0 bel lt0) (trodAll_cons_mk (Below.trod laidOut (by kernel_rfl) (of_decide_eq_true (by kernel_rfl)) k1 bel lt1) (trodAll_cons_mk (Below.trod laidOut (by kernel_rfl) (of_decide_eq_true (by kernel_rfl)) k2 bel lt2) (trodAll_cons_mk (Below.trod laidOut (by kernel_rfl) (of_decide_eq_true (by kernel_rfl)) k3 bel lt3) (trodAll_cons_mk (Below.trod laidOut (by kernel_rfl) (of_decide_eq_true (by kernel_rfl)) k4 bel lt4) (trodAll_cons_mk (Below.trod laidOut (by kernel_rfl) (of_decide_eq_true (by kernel_rfl)) k5 bel lt5) trodAll_mk0)))))), rfl, bel.frame _, fun h => by cases h⟩
theorem over : Rows.recOrderRow.holds Try.pinned (OpenSpec.ofChange Rows.recOrderSpec) :=
  OpenClaim.holds_of_wide 9 Try.f9 rfl rfl rfl rfl rfl rfl rfl ⟨rfl, rfl, rfl, rfl, rfl⟩ rfl rfl rfl rfl rfl (by kernel_rfl) Try.func9 (by kernel_rfl)
    (of_decide_eq_true (by kernel_rfl)) (by unfold Func.isWrapper; first | (rw [if_pos (by decide +kernel)]; kernel_rfl) | (rw [if_neg (by decide +kernel)]; exact ⟨rfl, rfl⟩))
    (fun os started H enc _ => lifted os started H enc)
theorem proved : Rows.RecOrderSaid := over
#print axioms proved
end Go.Proofs.Ytpjocohpogihcaa.recOrder
namespace Go.Proofs.Ytpjocohpogihcaa
/-- The row, under a short name, for the claim. -/
theorem recOrder_holds : Rows.RecOrderSaid := recOrder.proved
end Go.Proofs.Ytpjocohpogihcaa
