/- The law chainman/chainmanlaw15.LoserPlays holds at every input: it hands back true, and its arguments read behind the call as before. No condition. -/
import Derived.Test.YtpjocohpogihcaaRows
import Derived.Test.YtpjocohpogihcaaAL19
import Derived.Test.YtpjocohpogihcaaLawLoser
import Derived.Test.YtpjocohpogihcaaTy
import Derived.WalkKit
import Derived.ProofKit
import Derived.OpenShut
import Derived.ShutString
import Derived.ChangeOld
import Derived.Below
import Derived.Carry
import Derived.SizedLaws
namespace Go.Proofs.Ytpjocohpogihcaa.loserPlays
open Go Go.Proofs.Ytpjocohpogihcaa.AL Go.ChangeShapes Go.WideShapes Go.ChangeAt Go.RowKit
set_option linter.unusedVariables false
set_option linter.unusedSimpArgs false
theorem own : ownKnob Try.prog.godebug = none := by kernel_rfl
theorem laidOut : laidOutB Try.prog = true := by kernel_rfl
theorem sh46 : shOf Try.prog 12 46 = some (.slice (.str)) := by kernel_rfl
theorem sh47 : shOf Try.prog 12 47 = some (.slice (.bool)) := by kernel_rfl
theorem sh48 : shOf Try.prog 12 48 = some (.slice (.strct [.str, .bool])) := by kernel_rfl
set_option maxRecDepth 100000 in
theorem lifted (os : Os) (started : os.Started) (H : Type) (enc : TypeId × Value → H) :
    ReturnsInHanded {} Try.checked os 5 .any (Rows.loserPlaysSpec.pre6 enc Try.prog Try.f5 Rows.loserPlaysRow.domain false) (Rows.loserPlaysSpec.post enc Try.prog Try.f5 false true false false) := by
  refine returnsInHanded_of_change_sized (C := Try.checked) own started (by kernel_rfl) Try.func5
    (ChangeSpec.witness6 (enc := enc) (C := Try.checked) false ⟨#[], #[.slice none 0 0, .slice none 0 0, .slice none 0 0], []⟩ 8 (by kernel_rfl) (by kernel_rfl) (by kernel_rfl) (by kernel_rfl)) ?_
  intro W base args ds gs before hval0 hW hcnd hsz0 _
  have hsz : (DataW.weightsEach Try.prog (Try.f5.params.toList ++ Rows.loserPlaysSpec.plain.varTypes Try.prog) (ds ++ gs)).all (· ≤ reachBytes) = true := hsz0
  have hval : ∀ (j : Nat) t v, Try.f5.params[j]? = some t → args[j]? = some v → Value.okWide Try.prog W .any base t v := hval0
  have hW' := hW
  obtain ⟨p, q, hA0, hV, rfl, hfz, hnd⟩ := hW
  have hA : DataW.TrodAll enc Try.prog W 0 (fun _ => true) true Try.f5.params.toList args.toList ds p := hA0
  rw [Try.params5] at hA hval hsz
  obtain ⟨v0, vs0, d0, ds0, p0, q0, hargs, rfl, rfl, h0, r0⟩ := trodAll_cons hA
  obtain ⟨v1, vs1, d1, ds1, p1, q1, rfl, rfl, rfl, h1, r1⟩ := trodAll_cons r0
  obtain ⟨v2, vs2, d2, ds2, p2, q2, rfl, rfl, rfl, h2, r2⟩ := trodAll_cons r1
  obtain ⟨rfl, rfl, rfl⟩ := trodAll_nil r2
  obtain rfl : args = #[v0, v1, v2] := by cases args; simp_all
  obtain ⟨rfl, rfl⟩ := trodVars_none hV
  have k0 := h0
  have lt0 : ∀ x ∈ p0, x.block < W.heap.size := by obtain ⟨m, hm⟩ := k0; exact DataW.trod_lt m _ _ _ hm
  obtain ⟨f0, x0⟩ := arg_reads (ρ := fun _ => ⟨0, 0, 0⟩) 12 _ sh46 (hval 0 46 v0 rfl rfl) h0
  simp only [absV, tg46] at x0
  have k1 := h1
  have lt1 : ∀ x ∈ p1, x.block < W.heap.size := by obtain ⟨m, hm⟩ := k1; exact DataW.trod_lt m _ _ _ hm
  obtain ⟨f1, x1⟩ := arg_reads (ρ := fun _ => ⟨0, 0, 0⟩) 12 _ sh47 (hval 1 47 v1 rfl rfl) h1
  simp only [absV, tg47] at x1
  have k2 := h2
  have lt2 : ∀ x ∈ p2, x.block < W.heap.size := by obtain ⟨m, hm⟩ := k2; exact DataW.trod_lt m _ _ _ hm
  obtain ⟨f2, x2⟩ := arg_reads (ρ := fun _ => ⟨0, 0, 0⟩) 12 _ sh48 (hval 2 48 v2 rfl rfl) h2
  simp only [absV, tg48] at x2
  clear hA0 hval0 hsz0 hsz
  have hc : ACalls Try.prog 5 [_, _, _] [] (fun e _ => e = .ret (.lit (.bool true))) := (loserPlays f0 f1 f2).mono fun _ _ hh => hh.1
  refine (law_of hc (VRs.cons x0 (VRs.cons x1 (VRs.cons x2 VRs.nil)))).mono fun e W' ⟨he, bel⟩ => ?_
  subst he
  exact ⟨_, rfl, _, _, _, [], _, [], hW', trodAll_mk1 (shut_bool Try.underlying4 _), (trodAll_cons_mk (Below.trod laidOut (by kernel_rfl) (of_decide_eq_true (by kernel_rfl)) k0 bel lt0) (trodAll_cons_mk (Below.trod laidOut (by kernel_rfl) (of_decide_eq_true (by kernel_rfl)) k1 bel lt1) (trodAll_cons_mk (Below.trod laidOut (by kernel_rfl) (of_decide_eq_true (by kernel_rfl)) k2 bel lt2) trodAll_mk0))), rfl, bel.frame _, fun h => by cases h⟩
theorem over : Rows.loserPlaysRow.holds Try.pinned (OpenSpec.ofChange Rows.loserPlaysSpec) :=
  OpenClaim.holds_of_wide 5 Try.f5 rfl rfl rfl rfl rfl rfl rfl ⟨rfl, rfl, rfl, rfl, rfl⟩ rfl rfl rfl rfl rfl (by kernel_rfl) Try.func5 (by kernel_rfl)
    (of_decide_eq_true (by kernel_rfl)) (by unfold Func.isWrapper; first | (rw [if_pos (by decide +kernel)]; kernel_rfl) | (rw [if_neg (by decide +kernel)]; exact ⟨rfl, rfl⟩))
    (fun os started H enc _ => lifted os started H enc)
theorem proved : Rows.LoserPlaysSaid := over
#print axioms proved
end Go.Proofs.Ytpjocohpogihcaa.loserPlays
namespace Go.Proofs.Ytpjocohpogihcaa
/-- The row, under a short name, for the claim. -/
theorem loserPlays_holds : Rows.LoserPlaysSaid := loserPlays.proved
end Go.Proofs.Ytpjocohpogihcaa
