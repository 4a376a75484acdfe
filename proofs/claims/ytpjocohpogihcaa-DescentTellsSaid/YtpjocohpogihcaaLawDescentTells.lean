/- The law chainman/chainmanlaw32.DescentTells holds at every input: it hands back true, and its arguments read behind the call as before. No condition. -/
import Derived.Test.YtpjocohpogihcaaRows
import Derived.Test.YtpjocohpogihcaaAL19
import Derived.Test.YtpjocohpogihcaaDescent
import Derived.WalkKit
import Derived.ProofKit
import Derived.OpenShut
import Derived.ShutString
import Derived.ChangeOld
import Derived.Below
import Derived.Carry
import Derived.SizedLaws
namespace Go.Proofs.Ytpjocohpogihcaa.descentTells
open Go Go.Proofs.Ytpjocohpogihcaa.AL Go.ChangeShapes Go.WideShapes Go.ChangeAt Go.RowKit
set_option linter.unusedVariables false
set_option linter.unusedSimpArgs false
theorem own : ownKnob Try.prog.godebug = none := by kernel_rfl
theorem laidOut : laidOutB Try.prog = true := by kernel_rfl
theorem sh3 : shOf Try.prog 12 3 = some (.int .i64) := by kernel_rfl
theorem sh23 : shOf Try.prog 12 23 = some (.strct [.int .i64, .int .i64, .int .i64, .int .i64, .int .i64, .int .i64, .int .i64, .int .i64, .int .i64]) := by kernel_rfl
set_option maxRecDepth 100000 in
theorem lifted (os : Os) (started : os.Started) (H : Type) (enc : TypeId × Value → H) :
    ReturnsInHanded {} Try.checked os 3 .any (Rows.descentTellsSpec.pre6 enc Try.prog Try.f3 Rows.descentTellsRow.domain false) (Rows.descentTellsSpec.post enc Try.prog Try.f3 false true false false) := by
  refine returnsInHanded_of_change_sized (C := Try.checked) own started (by kernel_rfl) Try.func3
    (ChangeSpec.witness6 (enc := enc) (C := Try.checked) false ⟨#[], #[.agg #[.int .i64 0, .int .i64 0, .int .i64 0, .int .i64 0, .int .i64 0, .int .i64 0, .int .i64 0, .int .i64 0, .int .i64 0], .int .i64 0, .int .i64 0], []⟩ 8 (by kernel_rfl) (by kernel_rfl) (by kernel_rfl) (by kernel_rfl)) ?_
  intro W base args ds gs before hval0 hW hcnd hsz0 _
  have hsz : (DataW.weightsEach Try.prog (Try.f3.params.toList ++ Rows.descentTellsSpec.plain.varTypes Try.prog) (ds ++ gs)).all (· ≤ reachBytes) = true := hsz0
  have hval : ∀ (j : Nat) t v, Try.f3.params[j]? = some t → args[j]? = some v → Value.okWide Try.prog W .any base t v := hval0
  have hW' := hW
  obtain ⟨p, q, hA0, hV, rfl, hfz, hnd⟩ := hW
  have hA : DataW.TrodAll enc Try.prog W 0 (fun _ => true) true Try.f3.params.toList args.toList ds p := hA0
  rw [Try.params3] at hA hval hsz
  obtain ⟨v0, vs0, d0, ds0, p0, q0, hargs, rfl, rfl, h0, r0⟩ := trodAll_cons hA
  obtain ⟨v1, vs1, d1, ds1, p1, q1, rfl, rfl, rfl, h1, r1⟩ := trodAll_cons r0
  obtain ⟨v2, vs2, d2, ds2, p2, q2, rfl, rfl, rfl, h2, r2⟩ := trodAll_cons r1
  obtain ⟨rfl, rfl, rfl⟩ := trodAll_nil r2
  obtain rfl : args = #[v0, v1, v2] := by cases args; simp_all
  obtain ⟨rfl, rfl⟩ := trodVars_none hV
  have k0 := h0
  have lt0 : ∀ x ∈ p0, x.block < W.heap.size := by obtain ⟨m, hm⟩ := k0; exact DataW.trod_lt m _ _ _ hm
  obtain ⟨f0, x0⟩ := arg_reads (ρ := fun _ => ⟨0, 0, 0⟩) 12 _ sh23 (hval 0 23 v0 rfl rfl) h0
  simp only [Fits, FitsL] at f0
  obtain ⟨_, rfl, ⟨_, _, rfl, ⟨n0_0, rfl, l0_0, u0_0⟩, ⟨_, _, rfl, ⟨n0_1, rfl, l0_1, u0_1⟩, ⟨_, _, rfl, ⟨n0_2, rfl, l0_2, u0_2⟩, ⟨_, _, rfl, ⟨n0_3, rfl, l0_3, u0_3⟩, ⟨_, _, rfl, ⟨n0_4, rfl, l0_4, u0_4⟩, ⟨_, _, rfl, ⟨n0_5, rfl, l0_5, u0_5⟩, ⟨_, _, rfl, ⟨n0_6, rfl, l0_6, u0_6⟩, ⟨_, _, rfl, ⟨n0_7, rfl, l0_7, u0_7⟩, ⟨_, _, rfl, ⟨n0_8, rfl, l0_8, u0_8⟩, rfl⟩⟩⟩⟩⟩⟩⟩⟩⟩⟩ := f0
  simp only [absV, tg23, absD, absDs, litV, List.headD_cons, List.cons_append, List.nil_append, List.append_nil] at x0
  have k1 := h1
  have lt1 : ∀ x ∈ p1, x.block < W.heap.size := by obtain ⟨m, hm⟩ := k1; exact DataW.trod_lt m _ _ _ hm
  obtain ⟨f1, x1⟩ := arg_reads (ρ := fun _ => ⟨0, 0, 0⟩) 12 _ sh3 (hval 1 3 v1 rfl rfl) h1
  simp only [Fits, FitsL] at f1
  obtain ⟨n1, rfl, l1, u1⟩ := f1
  simp only [absV, tg3, absD, absDs, litV, List.headD_cons, List.cons_append, List.nil_append, List.append_nil] at x1
  have k2 := h2
  have lt2 : ∀ x ∈ p2, x.block < W.heap.size := by obtain ⟨m, hm⟩ := k2; exact DataW.trod_lt m _ _ _ hm
  obtain ⟨f2, x2⟩ := arg_reads (ρ := fun _ => ⟨0, 0, 0⟩) 12 _ sh3 (hval 2 3 v2 rfl rfl) h2
  simp only [Fits, FitsL] at f2
  obtain ⟨n2, rfl, l2, u2⟩ := f2
  simp only [absV, tg3, absD, absDs, litV, List.headD_cons, List.cons_append, List.nil_append, List.append_nil] at x2
  clear hA0 hval0 hsz0 hsz
  have hc : ACalls Try.prog 3 [_, _, _] [] (fun e _ => e = .ret (.lit (.bool true))) := (descentTells ⟨n0_0, n0_1, n0_2, n0_3, n0_4, n0_5, n0_6, n0_7, n0_8⟩ n1 n2 []).mono fun _ _ hh => hh.1
  refine (law_of hc (VRs.cons x0 (VRs.cons x1 (VRs.cons x2 VRs.nil)))).mono fun e W' ⟨he, bel⟩ => ?_
  subst he
  exact ⟨_, rfl, _, _, _, [], _, [], hW', trodAll_mk1 (shut_bool Try.underlying4 _), (trodAll_cons_mk (Below.trod laidOut (by kernel_rfl) (of_decide_eq_true (by kernel_rfl)) k0 bel lt0) (trodAll_cons_mk (Below.trod laidOut (by kernel_rfl) (of_decide_eq_true (by kernel_rfl)) k1 bel lt1) (trodAll_cons_mk (Below.trod laidOut (by kernel_rfl) (of_decide_eq_true (by kernel_rfl)) k2 bel lt2) trodAll_mk0))), rfl, bel.frame _, fun h => by cases h⟩
theorem over : Rows.descentTellsRow.holds Try.pinned (OpenSpec.ofChange Rows.descentTellsSpec) :=
  OpenClaim.holds_of_wide 3 Try.f3 rfl rfl rfl rfl rfl rfl rfl ⟨rfl, rfl, rfl, rfl, rfl⟩ rfl rfl rfl rfl rfl (by kernel_rfl) Try.func3 (by kernel_rfl)
    (of_decide_eq_true (by kernel_rfl)) (by unfold Func.isWrapper; first | (rw [if_pos (by decide +kernel)]; kernel_rfl) | (rw [if_neg (by decide +kernel)]; exact ⟨rfl, rfl⟩))
    (fun os started H enc _ => lifted os started H enc)
theorem proved : Rows.DescentTellsSaid := over
#print axioms proved
end Go.Proofs.Ytpjocohpogihcaa.descentTells
namespace Go.Proofs.Ytpjocohpogihcaa
/-- The row, under a short name, for the claim. -/
theorem descentTells_holds : Rows.DescentTellsSaid := descentTells.proved
end Go.Proofs.Ytpjocohpogihcaa
