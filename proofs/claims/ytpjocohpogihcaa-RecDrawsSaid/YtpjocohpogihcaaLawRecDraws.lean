/- The law chainman/chainmanlaw14.RecDraws holds at every input: it hands back true, and its arguments read behind the call as before. No condition. -/
import Derived.Test.YtpjocohpogihcaaRows
import Derived.Test.YtpjocohpogihcaaAL19
import Derived.Test.YtpjocohpogihcaaRecDraws
import Derived.WalkKit
import Derived.ProofKit
import Derived.OpenShut
import Derived.ShutString
import Derived.ChangeOld
import Derived.Below
import Derived.Carry
import Derived.SizedLaws
namespace Go.Proofs.Ytpjocohpogihcaa.recDraws
open Go Go.Proofs.Ytpjocohpogihcaa.AL Go.ChangeShapes Go.WideShapes Go.ChangeAt Go.RowKit
set_option linter.unusedVariables false
set_option linter.unusedSimpArgs false
theorem own : ownKnob Try.prog.godebug = none := by kernel_rfl
theorem laidOut : laidOutB Try.prog = true := by kernel_rfl
theorem sh37 : shOf Try.prog 12 37 = some (.strct [.int .i64, .int .i64, .int .i64, .int .i64]) := by kernel_rfl
set_option maxRecDepth 100000 in
theorem lifted (os : Os) (started : os.Started) (H : Type) (enc : TypeId × Value → H) :
    ReturnsInHanded {} Try.checked os 7 .any (Rows.recDrawsSpec.pre6 enc Try.prog Try.f7 Rows.recDrawsRow.domain false) (Rows.recDrawsSpec.post enc Try.prog Try.f7 false true false false) := by
  refine returnsInHanded_of_change_sized (C := Try.checked) own started (by kernel_rfl) Try.func7
    (ChangeSpec.witness6 (enc := enc) (C := Try.checked) false ⟨#[], #[.agg #[.int .i64 0, .int .i64 0, .int .i64 0, .int .i64 0], .agg #[.int .i64 0, .int .i64 0, .int .i64 0, .int .i64 0]], []⟩ 8 (by kernel_rfl) (by kernel_rfl) (by kernel_rfl) (by kernel_rfl)) ?_
  intro W base args ds gs before hval0 hW hcnd hsz0 _
  have hsz : (DataW.weightsEach Try.prog (Try.f7.params.toList ++ Rows.recDrawsSpec.plain.varTypes Try.prog) (ds ++ gs)).all (· ≤ reachBytes) = true := hsz0
  have hval : ∀ (j : Nat) t v, Try.f7.params[j]? = some t → args[j]? = some v → Value.okWide Try.prog W .any base t v := hval0
  have hW' := hW
  obtain ⟨p, q, hA0, hV, rfl, hfz, hnd⟩ := hW
  have hA : DataW.TrodAll enc Try.prog W 0 (fun _ => true) true Try.f7.params.toList args.toList ds p := hA0
  rw [Try.params7] at hA hval hsz
  obtain ⟨v0, vs0, d0, ds0, p0, q0, hargs, rfl, rfl, h0, r0⟩ := trodAll_cons hA
  obtain ⟨v1, vs1, d1, ds1, p1, q1, rfl, rfl, rfl, h1, r1⟩ := trodAll_cons r0
  obtain ⟨rfl, rfl, rfl⟩ := trodAll_nil r1
  obtain rfl : args = #[v0, v1] := by cases args; simp_all
  obtain ⟨rfl, rfl⟩ := trodVars_none hV
  have k0 := h0
  have lt0 : ∀ x ∈ p0, x.block < W.heap.size := by obtain ⟨m, hm⟩ := k0; exact DataW.trod_lt m _ _ _ hm
  obtain ⟨f0, x0⟩ := arg_reads (ρ := fun _ => ⟨0, 0, 0⟩) 12 _ sh37 (hval 0 37 v0 rfl rfl) h0
  simp only [Fits, FitsL] at f0
  obtain ⟨_, rfl, ⟨_, _, rfl, ⟨n0_0, rfl, l0_0, u0_0⟩, ⟨_, _, rfl, ⟨n0_1, rfl, l0_1, u0_1⟩, ⟨_, _, rfl, ⟨n0_2, rfl, l0_2, u0_2⟩, ⟨_, _, rfl, ⟨n0_3, rfl, l0_3, u0_3⟩, rfl⟩⟩⟩⟩⟩ := f0
  simp only [absV, tg37, absD, absDs, litV, List.headD_cons, List.cons_append, List.nil_append, List.append_nil] at x0
  have k1 := h1
  have lt1 : ∀ x ∈ p1, x.block < W.heap.size := by obtain ⟨m, hm⟩ := k1; exact DataW.trod_lt m _ _ _ hm
  obtain ⟨f1, x1⟩ := arg_reads (ρ := fun _ => ⟨0, 0, 0⟩) 12 _ sh37 (hval 1 37 v1 rfl rfl) h1
  simp only [Fits, FitsL] at f1
  obtain ⟨_, rfl, ⟨_, _, rfl, ⟨n1_0, rfl, l1_0, u1_0⟩, ⟨_, _, rfl, ⟨n1_1, rfl, l1_1, u1_1⟩, ⟨_, _, rfl, ⟨n1_2, rfl, l1_2, u1_2⟩, ⟨_, _, rfl, ⟨n1_3, rfl, l1_3, u1_3⟩, rfl⟩⟩⟩⟩⟩ := f1
  simp only [absV, tg37, absD, absDs, litV, List.headD_cons, List.cons_append, List.nil_append, List.append_nil] at x1
  clear hA0 hval0 hsz0 hsz
  have hc : ACalls Try.prog 7 [_, _] [] (fun e _ => e = .ret (.lit (.bool true))) := (recDraws n0_0 n0_1 n0_2 n0_3 n1_0 n1_1 n1_2 n1_3 ⟨i64_hi u0_0, i64_hi u0_1, i64_hi u0_2, i64_hi u0_3⟩ ⟨i64_hi u1_0, i64_hi u1_1, i64_hi u1_2, i64_hi u1_3⟩).mono fun _ _ hh => hh.1
  refine (law_of hc (VRs.cons x0 (VRs.cons x1 VRs.nil))).mono fun e W' ⟨he, bel⟩ => ?_
  subst he
  exact ⟨_, rfl, _, _, _, [], _, [], hW', trodAll_mk1 (shut_bool Try.underlying4 _), (trodAll_cons_mk (Below.trod laidOut (by kernel_rfl) (of_decide_eq_true (by kernel_rfl)) k0 bel lt0) (trodAll_cons_mk (Below.trod laidOut (by kernel_rfl) (of_decide_eq_true (by kernel_rfl)) k1 bel lt1) trodAll_mk0)), rfl, bel.frame _, fun h => by cases h⟩
theorem over : Rows.recDrawsRow.holds Try.pinned (OpenSpec.ofChange Rows.recDrawsSpec) :=
  OpenClaim.holds_of_wide 7 Try.f7 rfl rfl rfl rfl rfl rfl rfl ⟨rfl, rfl, rfl, rfl, rfl⟩ rfl rfl rfl rfl rfl (by kernel_rfl) Try.func7 (by kernel_rfl)
    (of_decide_eq_true (by kernel_rfl)) (by unfold Func.isWrapper; first | (rw [if_pos (by decide +kernel)]; kernel_rfl) | (rw [if_neg (by decide +kernel)]; exact ⟨rfl, rfl⟩))
    (fun os started H enc _ => lifted os started H enc)
theorem proved : Rows.RecDrawsSaid := over
#print axioms proved
end Go.Proofs.Ytpjocohpogihcaa.recDraws
namespace Go.Proofs.Ytpjocohpogihcaa
/-- The row, under a short name, for the claim. -/
theorem recDraws_holds : Rows.RecDrawsSaid := recDraws.proved
end Go.Proofs.Ytpjocohpogihcaa
