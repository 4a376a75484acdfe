import Derived.Test.YteahajcgbogjkaaGreatDoorTie
import Derived.Test.YteahajcgbogjkaaGreatDoorCards
import Derived.LaidMore
import Derived.Lay
import Derived.SevenTiedAt
import Derived.Stop.Joined
import Derived.Lib.LaidTab
import Derived.Test.YteahajcgbogjkaaGreatDoorRows
import Derived.Test.YteahajcgbogjkaaGreatDoorG2
import Derived.Test.YteahajcgbogjkaaGreatDoorG5
import Derived.WalkKit
import Derived.ProofKit
import Derived.OpenShut
import Derived.ShutString
import Derived.ChangeOld
import Derived.Below
import Derived.Carry
import Derived.SizedLaws
/- The law chainman/chainmanlaw18.XsortPasses holds at every input: it hands back true, and its arguments read behind the call as before. No condition. -/
namespace Go.Proofs.YteahajcgbogjkaaGreatDoor.xsortPasses
open Go Go.Proofs.YteahajcgbogjkaaGreatDoor.AL Go.ChangeShapes Go.WideShapes Go.ChangeAt Go.RowKit
set_option linter.unusedVariables false
set_option linter.unusedSimpArgs false
theorem own : ownKnob Tryz.prog.godebug = none := by kernel_rfl
theorem laidOut : laidOutB Tryz.prog = true := by kernel_rfl
theorem sh3 : shOf Tryz.prog 12 3 = some (.int .i64) := by kernel_rfl
theorem sh9 : shOf Tryz.prog 12 9 = some (.str) := by kernel_rfl
set_option maxRecDepth 100000 in
theorem lifted (os : Os) (started : os.Started) (H : Type) (enc : TypeId × Value → H) :
    ReturnsInHanded {} Tryz.checked os 3 .any (fun w args => (Rows.xsortPassesSpec.pre enc Tryz.prog Tryz.f3 Rows.xsortPassesRow.domain false w args ∧ laidMetH Tryz.prog Rows.xsortPassesRow.laid w) ∧ sizedMet enc Tryz.prog Tryz.f3 (OpenSpec.ofChange Rows.xsortPassesSpec) false w args) (Rows.xsortPassesSpec.post enc Tryz.prog Tryz.f3 false true false false) := by
  refine returnsInHanded_of_change_and (C := Tryz.checked) (X := fun w _ => laidMetH Tryz.prog Rows.xsortPassesRow.laid w) (fun _ _ _ hh h => h.of_heap hh) own started (by kernel_rfl) Tryz.func3
    (ChangeSpec.witness_shaped (enc := enc) (C := Tryz.checked) (os := os) (X := fun w _ => laidMetH Tryz.prog Rows.xsortPassesRow.laid w) false (World.laidAll Tryz.prog os Rows.xsortPassesRow.laid) #[.int .i64 0, .int .i64 0, .string ByteArray.empty, .string ByteArray.empty] 8 (World.laidAll_os _ _ _)
      (World.shaped_of_ZipB (by kernel_rfl) (by kernel_rfl)) (by kernel_rfl) (by kernel_rfl) (by kernel_rfl)
      (by rw [MakeChecks.laidMetH_plain _ _ _ (by kernel_rfl)]; exact laidMet_laidAll _ (by kernel_rfl) (by kernel_rfl))) ?_
  intro W base args ds gs before hval0 hW hcnd hsz0 hL _
  have hsz : (DataW.weightsEach Tryz.prog (Tryz.f3.params.toList ++ Rows.xsortPassesSpec.plain.varTypes Tryz.prog) (ds ++ gs)).all (· ≤ reachBytes) = true := hsz0
  have hval : ∀ (j : Nat) t v, Tryz.f3.params[j]? = some t → args[j]? = some v → Value.okWide Tryz.prog W .any base t v := hval0
  have hW' := hW
  obtain ⟨p, q, hA0, hV, rfl, hfz, hnd⟩ := hW
  have hA : DataW.TrodAll enc Tryz.prog W 0 (fun _ => true) true Tryz.f3.params.toList args.toList ds p := hA0
  rw [Tryz.params3] at hA hval hsz
  obtain ⟨v0, vs0, d0, ds0, p0, q0, hargs, rfl, rfl, h0, r0⟩ := trodAll_cons hA
  obtain ⟨v1, vs1, d1, ds1, p1, q1, rfl, rfl, rfl, h1, r1⟩ := trodAll_cons r0
  obtain ⟨v2, vs2, d2, ds2, p2, q2, rfl, rfl, rfl, h2, r2⟩ := trodAll_cons r1
  obtain ⟨v3, vs3, d3, ds3, p3, q3, rfl, rfl, rfl, h3, r3⟩ := trodAll_cons r2
  obtain ⟨rfl, rfl, rfl⟩ := trodAll_nil r3
  obtain rfl : args = #[v0, v1, v2, v3] := by cases args; simp_all
  obtain ⟨rfl, rfl⟩ := trodVars_none hV
  have k0 := h0
  have lt0 : ∀ x ∈ p0, x.block < W.heap.size := by obtain ⟨m, hm⟩ := k0; exact DataW.trod_lt m _ _ _ hm
  obtain ⟨f0, x0⟩ := arg_reads (ρ := fun _ => ⟨0, 0, 0⟩) 12 _ sh3 (hval 0 3 v0 rfl rfl) h0
  simp only [Fits, FitsL] at f0
  obtain ⟨n0, rfl, l0, u0⟩ := f0
  simp only [absV, tg3, absD, absDs, litV, List.headD_cons, List.cons_append, List.nil_append, List.append_nil] at x0
  have k1 := h1
  have lt1 : ∀ x ∈ p1, x.block < W.heap.size := by obtain ⟨m, hm⟩ := k1; exact DataW.trod_lt m _ _ _ hm
  obtain ⟨f1, x1⟩ := arg_reads (ρ := fun _ => ⟨0, 0, 0⟩) 12 _ sh3 (hval 1 3 v1 rfl rfl) h1
  simp only [Fits, FitsL] at f1
  obtain ⟨n1, rfl, l1, u1⟩ := f1
  simp only [absV, tg3, absD, absDs, litV, List.headD_cons, List.cons_append, List.nil_append, List.append_nil] at x1
  have k2 := h2
  have lt2 : ∀ x ∈ p2, x.block < W.heap.size := by obtain ⟨m, hm⟩ := k2; exact DataW.trod_lt m _ _ _ hm
  obtain ⟨f2, x2⟩ := arg_reads (ρ := fun _ => ⟨0, 0, 0⟩) 12 _ sh9 (hval 2 9 v2 rfl rfl) h2
  simp only [Fits, FitsL] at f2
  obtain ⟨s2, rfl, m2⟩ := f2
  have w2 : s2.length ≤ 140737488351232 := sized_string hsz (j := 2) (t := 9) rfl rfl
  simp only [absV, tg9, absD, absDs, litV, List.headD_cons, List.cons_append, List.nil_append, List.append_nil] at x2
  have k3 := h3
  have lt3 : ∀ x ∈ p3, x.block < W.heap.size := by obtain ⟨m, hm⟩ := k3; exact DataW.trod_lt m _ _ _ hm
  obtain ⟨f3, x3⟩ := arg_reads (ρ := fun _ => ⟨0, 0, 0⟩) 12 _ sh9 (hval 3 9 v3 rfl rfl) h3
  simp only [Fits, FitsL] at f3
  obtain ⟨s3, rfl, m3⟩ := f3
  have w3 : s3.length ≤ 140737488351232 := sized_string hsz (j := 3) (t := 9) rfl rfl
  simp only [absV, tg9, absD, absDs, litV, List.headD_cons, List.cons_append, List.nil_append, List.append_nil] at x3
  clear hA0 hval0 hsz0 hsz
  have hc : ACalls Tryz.prog 3 [_, _, _, _] [] (fun e _ => e = .ret (.lit (.bool true))) := (xsortPasses (n := n0) (l := n1) (name := ⟨s2.toArray⟩) (out := ⟨s3.toArray⟩)).mono fun _ _ hh => hh.1
  refine (law_of (fun g hm => by simp [globs] at hm) hc (VRs.cons x0 (VRs.cons x1 (VRs.cons x2 (VRs.cons x3 VRs.nil))))).mono fun e W' ⟨he, bel⟩ => ?_
  subst he
  exact ⟨_, rfl, _, _, _, [], _, [], hW', trodAll_mk1 (shut_bool Tryz.underlying4 _), (trodAll_cons_mk (Below.trod laidOut (by kernel_rfl) (of_decide_eq_true (by kernel_rfl)) k0 bel lt0) (trodAll_cons_mk (Below.trod laidOut (by kernel_rfl) (of_decide_eq_true (by kernel_rfl)) k1 bel lt1) (trodAll_cons_mk (Below.trod laidOut (by kernel_rfl) (of_decide_eq_true (by kernel_rfl)) k2 bel lt2) (trodAll_cons_mk (Below.trod laidOut (by kernel_rfl) (of_decide_eq_true (by kernel_rfl)) k3 bel lt3) trodAll_mk0)))), rfl, bel.frame _, fun h => by cases h⟩
theorem over : Rows.xsortPassesRow.holds Tryz.pinned (OpenSpec.ofChange Rows.xsortPassesSpec) :=
  OpenClaim.holds_of_wide 3 Tryz.f3 rfl rfl rfl rfl rfl rfl rfl ⟨rfl, rfl, rfl, rfl, rfl⟩ rfl rfl rfl rfl rfl (by kernel_rfl) Tryz.func3 (by kernel_rfl)
    (of_decide_eq_true (by kernel_rfl)) (by unfold Func.isWrapper; first | (rw [if_pos (by decide +kernel)]; kernel_rfl) | (rw [if_neg (by decide +kernel)]; exact ⟨rfl, rfl⟩))
    (fun os started H enc _ => lifted os started H enc)
theorem proved : Rows.XsortPassesSaid := over
#print axioms proved
end Go.Proofs.YteahajcgbogjkaaGreatDoor.xsortPasses
namespace Go.Proofs.YteahajcgbogjkaaGreatDoor
/-- The row, under a short name, for the claim. -/
theorem xsortPasses_holds : Rows.XsortPassesSaid := xsortPasses.proved
end Go.Proofs.YteahajcgbogjkaaGreatDoor

namespace Go.Proofs.YteahajcgbogjkaaGreatDoor
open Go
/-- The tied card. -/
theorem xsortPassesCard_holds : Rows.XsortPassesCardSaid :=
  Claim7.holds_tied_plain_at .later [] [.data, .data, .data, .data, .pinned] true (true, "e57628ef3f14218dfaab3b3de0afff012b413409ae773e79ad60cea807cbc315") false
    xsortPasses_holds (fun _ h => by cases h) (by kernel_rfl) (fun _ h => by cases h) xsortPasses_row_tie rfl ⟨rfl, rfl⟩ (by kernel_rfl) rfl
    (fun f fn hf hfn => by
      obtain rfl : f = 3 := Option.some.inj ((show Tryz.prog.funcNamed "chainman/chainmanlaw18.XsortPasses" = some 3 by kernel_rfl).symm.trans hf) |>.symm
      obtain rfl : fn = Tryz.f3 := (Option.some.inj (Tryz.func3.symm.trans hfn)).symm
      exact ⟨by kernel_rfl, fun j t ht => by
        rw [Tryz.params3] at ht
        have hm : t ∈ [3, 3, 9, 9] := by simpa using Array.mem_of_getElem? ht
        have hall : ([3, 3, 9, 9].all fun u => !Tryz.prog.wantsStandIn u) = true := by kernel_rfl
        exact (show Tryz.prog.wantsStandIn t = false by simpa using List.all_eq_true.1 hall t hm)⟩)
    (by kernel_rfl)
#print axioms xsortPassesCard_holds
end Go.Proofs.YteahajcgbogjkaaGreatDoor
