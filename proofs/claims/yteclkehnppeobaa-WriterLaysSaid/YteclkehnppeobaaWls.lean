import Derived.Test.YteclkehnppeobaaRows
import Derived.Test.YteclkehnppeobaaG2
import Derived.Test.YteclkehnppeobaaG6
import Derived.WalkKit
import Derived.ProofKit
import Derived.OpenShut
import Derived.ShutString
import Derived.ChangeOld
import Derived.Below
import Derived.Carry
import Derived.SizedLaws
/- The law chainman/chainmanlaw08.WriterLays holds at every input: it hands back true, and its arguments read behind the call as before. No condition. -/
namespace Go.Proofs.Yteclkehnppeobaa.writerLays
open Go Go.Proofs.Yteclkehnppeobaa.AL Go.ChangeShapes Go.WideShapes Go.ChangeAt Go.RowKit
set_option linter.unusedVariables false
set_option linter.unusedSimpArgs false
theorem own : ownKnob Try.prog.godebug = none := by kernel_rfl
theorem laidOut : laidOutB Try.prog = true := by kernel_rfl
theorem sh5 : shOf Try.prog 12 5 = some (.int .u8) := by kernel_rfl
theorem sh42 : shOf Try.prog 12 42 = some (.slice (.str)) := by kernel_rfl
set_option maxRecDepth 100000 in
theorem lifted (os : Os) (started : os.Started) (H : Type) (enc : TypeId × Value → H) :
    ReturnsInHanded {} Try.checked os 4 .any (Rows.writerLaysSpec.pre6 enc Try.prog Try.f4 Rows.writerLaysRow.domain false) (Rows.writerLaysSpec.post enc Try.prog Try.f4 false true false false) := by
  refine returnsInHanded_of_change_sized (C := Try.checked) own started (by kernel_rfl) Try.func4
    (ChangeSpec.witness6 (enc := enc) (C := Try.checked) false ⟨#[], #[.int .u8 0, .slice none 0 0], []⟩ 8 (by kernel_rfl) (by kernel_rfl) (by kernel_rfl) (by kernel_rfl)) ?_
  intro W base args ds gs before hval0 hW hcnd hsz0 _
  have hsz : (DataW.weightsEach Try.prog (Try.f4.params.toList ++ Rows.writerLaysSpec.plain.varTypes Try.prog) (ds ++ gs)).all (· ≤ reachBytes) = true := hsz0
  have hval : ∀ (j : Nat) t v, Try.f4.params[j]? = some t → args[j]? = some v → Value.okWide Try.prog W .any base t v := hval0
  have hW' := hW
  obtain ⟨p, q, hA0, hV, rfl, hfz, hnd⟩ := hW
  have hA : DataW.TrodAll enc Try.prog W 0 (fun _ => true) true Try.f4.params.toList args.toList ds p := hA0
  rw [Try.params4] at hA hval hsz
  obtain ⟨v0, vs0, d0, ds0, p0, q0, hargs, rfl, rfl, h0, r0⟩ := trodAll_cons hA
  obtain ⟨v1, vs1, d1, ds1, p1, q1, rfl, rfl, rfl, h1, r1⟩ := trodAll_cons r0
  obtain ⟨rfl, rfl, rfl⟩ := trodAll_nil r1
  obtain rfl : args = #[v0, v1] := by cases args; simp_all
  obtain ⟨rfl, rfl⟩ := trodVars_none hV
  have k0 := h0
  have lt0 : ∀ x ∈ p0, x.block < W.heap.size := by obtain ⟨m, hm⟩ := k0; exact DataW.trod_lt m _ _ _ hm
  obtain ⟨f0, x0⟩ := arg_reads (ρ := fun _ => ⟨0, 0, 0⟩) 12 _ sh5 (hval 0 5 v0 rfl rfl) h0
  simp only [Fits, FitsL] at f0
  obtain ⟨n0, rfl, l0, u0⟩ := f0
  simp only [absV, tg5, absD, absDs, litV, List.headD_cons, List.cons_append, List.nil_append, List.append_nil] at x0
  have k1 := h1
  have lt1 : ∀ x ∈ p1, x.block < W.heap.size := by obtain ⟨m, hm⟩ := k1; exact DataW.trod_lt m _ _ _ hm
  obtain ⟨f1, x1⟩ := arg_reads (ρ := fun _ => ⟨0, 0, 0⟩) 12 _ sh42 (hval 1 42 v1 rfl rfl) h1
  simp only [absV, tg42] at x1
  clear hA0 hval0 hsz0 hsz
  have hc : ACalls Try.prog 4 [_, _] [] (fun e _ => e = .ret (.lit (.bool true))) := (writerLays l0 u0 f1).mono fun _ _ hh => hh.1
  refine (law_of (fun g hm => by simp [globs] at hm) hc (VRs.cons x0 (VRs.cons x1 VRs.nil))).mono fun e W' ⟨he, bel⟩ => ?_
  subst he
  exact ⟨_, rfl, _, _, _, [], _, [], hW', trodAll_mk1 (shut_bool Try.underlying4 _), (trodAll_cons_mk (Below.trod laidOut (by kernel_rfl) (of_decide_eq_true (by kernel_rfl)) k0 bel lt0) (trodAll_cons_mk (Below.trod laidOut (by kernel_rfl) (of_decide_eq_true (by kernel_rfl)) k1 bel lt1) trodAll_mk0)), rfl, bel.frame _, fun h => by cases h⟩
theorem over : Rows.writerLaysRow.holds Try.pinned (OpenSpec.ofChange Rows.writerLaysSpec) :=
  OpenClaim.holds_of_wide 4 Try.f4 rfl rfl rfl rfl rfl rfl rfl ⟨rfl, rfl, rfl, rfl, rfl⟩ rfl rfl rfl rfl rfl (by kernel_rfl) Try.func4 (by kernel_rfl)
    (of_decide_eq_true (by kernel_rfl)) (by unfold Func.isWrapper; first | (rw [if_pos (by decide +kernel)]; kernel_rfl) | (rw [if_neg (by decide +kernel)]; exact ⟨rfl, rfl⟩))
    (fun os started H enc _ => lifted os started H enc)
theorem proved : Rows.WriterLaysSaid := over
#print axioms proved
end Go.Proofs.Yteclkehnppeobaa.writerLays
namespace Go.Proofs.Yteclkehnppeobaa
/-- The row, under a short name, for the claim. -/
theorem writerLays_holds : Rows.WriterLaysSaid := writerLays.proved
end Go.Proofs.Yteclkehnppeobaa
