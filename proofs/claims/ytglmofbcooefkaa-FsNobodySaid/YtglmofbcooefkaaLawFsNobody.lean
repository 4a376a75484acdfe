/- The law chainman/chainmanlaw04.FsNobody holds at every input: it hands back true, and its arguments read behind the call as before. No condition. -/
import Derived.Test.YtglmofbcooefkaaRows
import Derived.Test.YtglmofbcooefkaaAL19
import Derived.Test.YtglmofbcooefkaaLawNobody
import Derived.Test.YtglmofbcooefkaaTy
import Derived.WalkKit
import Derived.ProofKit
import Derived.OpenShut
import Derived.ShutString
import Derived.ChangeOld
import Derived.Below
import Derived.Carry
import Derived.SizedLaws
namespace Go.Proofs.Ytglmofbcooefkaa.fsNobody
open Go Go.Proofs.Ytglmofbcooefkaa.AL Go.ChangeShapes Go.WideShapes Go.ChangeAt Go.RowKit
set_option linter.unusedVariables false
set_option linter.unusedSimpArgs false
theorem own : ownKnob Try.prog.godebug = none := by kernel_rfl
theorem laidOut : laidOutB Try.prog = true := by kernel_rfl
theorem sh42 : shOf Try.prog 12 42 = some (.strct [.int .i64, .str, .str, .str, .int .i64, .int .i64, .slice (.int .i64), .int .u32]) := by kernel_rfl
set_option maxRecDepth 100000 in
theorem lifted (os : Os) (started : os.Started) (H : Type) (enc : TypeId × Value → H) :
    ReturnsInHanded {} Try.checked os 4 .any (Rows.fsNobodySpec.pre6 enc Try.prog Try.f4 Rows.fsNobodyRow.domain false) (Rows.fsNobodySpec.post enc Try.prog Try.f4 false true false false) := by
  refine returnsInHanded_of_change_sized (C := Try.checked) own started (by kernel_rfl) Try.func4
    (ChangeSpec.witness6 (enc := enc) (C := Try.checked) false ⟨#[], #[.agg #[.int .i64 0, .string ByteArray.empty, .string ByteArray.empty, .string ByteArray.empty, .int .i64 0, .int .i64 0, .slice none 0 0, .int .u32 0]], []⟩ 8 (by kernel_rfl) (by kernel_rfl) (by kernel_rfl) (by kernel_rfl)) ?_
  intro W base args ds gs before hval0 hW hcnd hsz0 _
  have hsz : (DataW.weightsEach Try.prog (Try.f4.params.toList ++ Rows.fsNobodySpec.plain.varTypes Try.prog) (ds ++ gs)).all (· ≤ reachBytes) = true := hsz0
  have hval : ∀ (j : Nat) t v, Try.f4.params[j]? = some t → args[j]? = some v → Value.okWide Try.prog W .any base t v := hval0
  have hW' := hW
  obtain ⟨p, q, hA0, hV, rfl, hfz, hnd⟩ := hW
  have hA : DataW.TrodAll enc Try.prog W 0 (fun _ => true) true Try.f4.params.toList args.toList ds p := hA0
  rw [Try.params4] at hA hval hsz
  obtain ⟨v0, vs0, d0, ds0, p0, q0, hargs, rfl, rfl, h0, r0⟩ := trodAll_cons hA
  obtain ⟨rfl, rfl, rfl⟩ := trodAll_nil r0
  obtain rfl : args = #[v0] := by cases args; simp_all
  obtain ⟨rfl, rfl⟩ := trodVars_none hV
  have k0 := h0
  have lt0 : ∀ x ∈ p0, x.block < W.heap.size := by obtain ⟨m, hm⟩ := k0; exact DataW.trod_lt m _ _ _ hm
  obtain ⟨f0, x0⟩ := arg_reads (ρ := fun _ => ⟨0, 0, 0⟩) 12 _ sh42 (hval 0 42 v0 rfl rfl) h0
  simp only [Fits, FitsL] at f0
  obtain ⟨_, rfl, ⟨_, _, rfl, ⟨n0_0, rfl, l0_0, u0_0⟩, ⟨_, _, rfl, ⟨s0_1, rfl, m0_1⟩, ⟨_, _, rfl, ⟨s0_2, rfl, m0_2⟩, ⟨_, _, rfl, ⟨s0_3, rfl, m0_3⟩, ⟨_, _, rfl, ⟨n0_4, rfl, l0_4, u0_4⟩, ⟨_, _, rfl, ⟨n0_5, rfl, l0_5, u0_5⟩, ⟨d0_6, _, rfl, f0_6, ⟨_, _, rfl, ⟨n0_7, rfl, l0_7, u0_7⟩, rfl⟩⟩⟩⟩⟩⟩⟩⟩⟩ := f0
  obtain ⟨k0_6, a0_6, q0_6⟩ := fits_slice (e := .int .i64) (d := d0_6) (by simp only [Fits]; exact f0_6)
  simp only [absV, tg42, absD, absDs, litV, List.headD_cons, List.cons_append, List.nil_append, List.append_nil, a0_6] at x0
  clear hA0 hval0 hsz0 hsz
  have hc : ACalls Try.prog 4 [_] [] (fun e _ => e = .ret (.lit (.bool true))) := (nobody (kind := n0_0) (s := ⟨s0_3.toArray⟩) (n := n0_4) (m := n0_5) (keep := k0_6) (bits := n0_7) (str_len m0_1) (str_len m0_2) []).mono fun _ _ hh => hh.1
  refine (law_of hc (VRs.cons x0 VRs.nil)).mono fun e W' ⟨he, bel⟩ => ?_
  subst he
  exact ⟨_, rfl, _, _, _, [], _, [], hW', trodAll_mk1 (shut_bool Try.underlying4 _), (trodAll_cons_mk (Below.trod laidOut (by kernel_rfl) (of_decide_eq_true (by kernel_rfl)) k0 bel lt0) trodAll_mk0), rfl, bel.frame _, fun h => by cases h⟩
theorem over : Rows.fsNobodyRow.holds Try.pinned (OpenSpec.ofChange Rows.fsNobodySpec) :=
  OpenClaim.holds_of_wide 4 Try.f4 rfl rfl rfl rfl rfl rfl rfl ⟨rfl, rfl, rfl, rfl, rfl⟩ rfl rfl rfl rfl rfl (by kernel_rfl) Try.func4 (by kernel_rfl)
    (of_decide_eq_true (by kernel_rfl)) (by unfold Func.isWrapper; first | (rw [if_pos (by decide +kernel)]; kernel_rfl) | (rw [if_neg (by decide +kernel)]; exact ⟨rfl, rfl⟩))
    (fun os started H enc _ => lifted os started H enc)
theorem proved : Rows.FsNobodySaid := over
#print axioms proved
end Go.Proofs.Ytglmofbcooefkaa.fsNobody
namespace Go.Proofs.Ytglmofbcooefkaa
/-- The row, under a short name, for the claim. -/
theorem fsNobody_holds : Rows.FsNobodySaid := fsNobody.proved
end Go.Proofs.Ytglmofbcooefkaa
