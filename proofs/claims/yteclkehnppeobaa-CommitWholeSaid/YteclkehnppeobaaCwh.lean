import Derived.Test.YteclkehnppeobaaRows
import Derived.Test.YteclkehnppeobaaG2
import Derived.Test.YteclkehnppeobaaG6
import Derived.WalkKit
import Derived.ProofKit
import Derived.OpenShut
import Derived.ShutString
import Derived.ChangeOld
import Derived.Below
import Derived.Carry
import Derived.SizedLaws
/- The law chainman/chainmanlaw20.CommitWhole holds at every input: it hands back true, and its arguments read behind the call as before. No condition. -/
namespace Go.Proofs.Yteclkehnppeobaa.commitWhole
open Go Go.Proofs.Yteclkehnppeobaa.AL Go.ChangeShapes Go.WideShapes Go.ChangeAt Go.RowKit
set_option linter.unusedVariables false
set_option linter.unusedSimpArgs false
theorem own : ownKnob Try.prog.godebug = none := by kernel_rfl
theorem laidOut : laidOutB Try.prog = true := by kernel_rfl
theorem sh22 : shOf Try.prog 12 22 = some (.slice (.strct [.strct [.int .i64, .int .i64, .slice (.strct [.str, .int .i64, .int .i64, .int .u32])], .int .i64, .slice (.int .i64)])) := by kernel_rfl
set_option maxRecDepth 100000 in
theorem lifted (os : Os) (started : os.Started) (H : Type) (enc : TypeId × Value → H) :
    ReturnsInHanded {} Try.checked os 3 .any (Rows.commitWholeSpec.pre6 enc Try.prog Try.f3 Rows.commitWholeRow.domain false) (Rows.commitWholeSpec.post enc Try.prog Try.f3 false true false false) := by
  refine returnsInHanded_of_change_sized (C := Try.checked) own started (by kernel_rfl) Try.func3
    (ChangeSpec.witness6 (enc := enc) (C := Try.checked) false ⟨#[], #[.slice none 0 0], []⟩ 8 (by kernel_rfl) (by kernel_rfl) (by kernel_rfl) (by kernel_rfl)) ?_
  intro W base args ds gs before hval0 hW hcnd hsz0 _
  have hsz : (DataW.weightsEach Try.prog (Try.f3.params.toList ++ Rows.commitWholeSpec.plain.varTypes Try.prog) (ds ++ gs)).all (· ≤ reachBytes) = true := hsz0
  have hval : ∀ (j : Nat) t v, Try.f3.params[j]? = some t → args[j]? = some v → Value.okWide Try.prog W .any base t v := hval0
  have hW' := hW
  obtain ⟨p, q, hA0, hV, rfl, hfz, hnd⟩ := hW
  have hA : DataW.TrodAll enc Try.prog W 0 (fun _ => true) true Try.f3.params.toList args.toList ds p := hA0
  rw [Try.params3] at hA hval hsz
  obtain ⟨v0, vs0, d0, ds0, p0, q0, hargs, rfl, rfl, h0, r0⟩ := trodAll_cons hA
  obtain ⟨rfl, rfl, rfl⟩ := trodAll_nil r0
  obtain rfl : args = #[v0] := by cases args; simp_all
  obtain ⟨rfl, rfl⟩ := trodVars_none hV
  have k0 := h0
  have lt0 : ∀ x ∈ p0, x.block < W.heap.size := by obtain ⟨m, hm⟩ := k0; exact DataW.trod_lt m _ _ _ hm
  obtain ⟨f0, x0⟩ := arg_reads (ρ := fun _ => ⟨0, 0, 0⟩) 12 _ sh22 (hval 0 22 v0 rfl rfl) h0
  simp only [absV, tg22] at x0
  clear hA0 hval0 hsz0 hsz
  have hc : ACalls Try.prog 3 [_] [] (fun e _ => e = .ret (.lit (.bool true))) := (commitWhole f0).mono fun _ _ hh => hh.1
  refine (law_of (fun g hm => by simp [globs] at hm) hc (VRs.cons x0 VRs.nil)).mono fun e W' ⟨he, bel⟩ => ?_
  subst he
  exact ⟨_, rfl, _, _, _, [], _, [], hW', trodAll_mk1 (shut_bool Try.underlying4 _), (trodAll_cons_mk (Below.trod laidOut (by kernel_rfl) (of_decide_eq_true (by kernel_rfl)) k0 bel lt0) trodAll_mk0), rfl, bel.frame _, fun h => by cases h⟩
theorem over : Rows.commitWholeRow.holds Try.pinned (OpenSpec.ofChange Rows.commitWholeSpec) :=
  OpenClaim.holds_of_wide 3 Try.f3 rfl rfl rfl rfl rfl rfl rfl ⟨rfl, rfl, rfl, rfl, rfl⟩ rfl rfl rfl rfl rfl (by kernel_rfl) Try.func3 (by kernel_rfl)
    (of_decide_eq_true (by kernel_rfl)) (by unfold Func.isWrapper; first | (rw [if_pos (by decide +kernel)]; kernel_rfl) | (rw [if_neg (by decide +kernel)]; exact ⟨rfl, rfl⟩))
    (fun os started H enc _ => lifted os started H enc)
theorem proved : Rows.CommitWholeSaid := over
#print axioms proved
end Go.Proofs.Yteclkehnppeobaa.commitWhole
namespace Go.Proofs.Yteclkehnppeobaa
/-- The row, under a short name, for the claim. -/
theorem commitWhole_holds : Rows.CommitWholeSaid := commitWhole.proved
end Go.Proofs.Yteclkehnppeobaa
