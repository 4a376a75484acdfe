import Derived.Test.YteahajcgbogjkaaGreatRows
import Derived.Test.YteahajcgbogjkaaGreatG2
import Derived.Test.YteahajcgbogjkaaGreatG5
import Derived.Test.YteahajcgbogjkaaGreatG6
import Derived.WalkKit
import Derived.ProofKit
import Derived.OpenShut
import Derived.ShutString
import Derived.ChangeOld
import Derived.Below
import Derived.Carry
import Derived.SizedLaws
/- The law chainman/chainmanlaw28.StartPicks holds at every input: it hands back true, and its arguments read behind the call as before. No condition. -/
namespace Go.Proofs.YteahajcgbogjkaaGreat.startPicks
open Go Go.Proofs.YteahajcgbogjkaaGreat.AL Go.ChangeShapes Go.WideShapes Go.ChangeAt Go.RowKit
set_option linter.unusedVariables false
set_option linter.unusedSimpArgs false
theorem own : ownKnob Tryz.prog.godebug = none := by kernel_rfl
theorem laidOut : laidOutB Tryz.prog = true := by kernel_rfl
theorem sh3 : shOf Tryz.prog 12 3 = some (.int .i64) := by kernel_rfl
set_option maxRecDepth 100000 in
theorem lifted (os : Os) (started : os.Started) (H : Type) (enc : TypeId × Value → H) :
    ReturnsInHanded {} Tryz.checked os 3 .any (Rows.startPicksSpec.pre6 enc Tryz.prog Tryz.f3 Rows.startPicksRow.domain false) (Rows.startPicksSpec.post enc Tryz.prog Tryz.f3 false true false false) := by
  refine returnsInHanded_of_change_sized (C := Tryz.checked) own started (by kernel_rfl) Tryz.func3
    (ChangeSpec.witness6 (enc := enc) (C := Tryz.checked) false ⟨#[], #[.int .i64 0, .int .i64 0, .int .i64 0, .int .i64 0], []⟩ 8 (by kernel_rfl) (by kernel_rfl) (by kernel_rfl) (by kernel_rfl)) ?_
  intro W base args ds gs before hval0 hW hcnd hsz0 _
  have hsz : (DataW.weightsEach Tryz.prog (Tryz.f3.params.toList ++ Rows.startPicksSpec.plain.varTypes Tryz.prog) (ds ++ gs)).all (· ≤ reachBytes) = true := hsz0
  have hval : ∀ (j : Nat) t v, Tryz.f3.params[j]? = some t → args[j]? = some v → Value.okWide Tryz.prog W .any base t v := hval0
  have hW' := hW
  obtain ⟨p, q, hA0, hV, rfl, hfz, hnd⟩ := hW
  have hA : DataW.TrodAll enc Tryz.prog W 0 (fun _ => true) true Tryz.f3.params.toList args.toList ds p := hA0
  rw [Tryz.params3] at hA hval hsz
  obtain ⟨v0, vs0, d0, ds0, p0, q0, hargs, rfl, rfl, h0, r0⟩ := trodAll_cons hA
  obtain ⟨v1, vs1, d1, ds1, p1, q1, rfl, rfl, rfl, h1, r1⟩ := trodAll_cons r0
  obtain ⟨v2, vs2, d2, ds2, p2, q2, rfl, rfl, rfl, h2, r2⟩ := trodAll_cons r1
  obtain ⟨v3, vs3, d3, ds3, p3, q3, rfl, rfl, rfl, h3, r3⟩ := trodAll_cons r2
  obtain ⟨rfl, rfl, rfl⟩ := trodAll_nil r3
  obtain rfl : args = #[v0, v1, v2, v3] := by cases args; simp_all
  obtain ⟨rfl, rfl⟩ := trodVars_none hV
  have k0 := h0
  have lt0 : ∀ x ∈ p0, x.block < W.heap.size := by obtain ⟨m, hm⟩ := k0; exact DataW.trod_lt m _ _ _ hm
  obtain ⟨f0, x0⟩ := arg_reads (ρ := fun _ => ⟨0, 0, 0, 0⟩) 12 _ sh3 (hval 0 3 v0 rfl rfl) h0
  simp only [Fits, FitsL] at f0
  obtain ⟨n0, rfl, l0, u0⟩ := f0
  simp only [absV, tg3, absD, absDs, litV, List.headD_cons, List.cons_append, List.nil_append, List.append_nil] at x0
  have k1 := h1
  have lt1 : ∀ x ∈ p1, x.block < W.heap.size := by obtain ⟨m, hm⟩ := k1; exact DataW.trod_lt m _ _ _ hm
  obtain ⟨f1, x1⟩ := arg_reads (ρ := fun _ => ⟨0, 0, 0, 0⟩) 12 _ sh3 (hval 1 3 v1 rfl rfl) h1
  simp only [Fits, FitsL] at f1
  obtain ⟨n1, rfl, l1, u1⟩ := f1
  simp only [absV, tg3, absD, absDs, litV, List.headD_cons, List.cons_append, List.nil_append, List.append_nil] at x1
  have k2 := h2
  have lt2 : ∀ x ∈ p2, x.block < W.heap.size := by obtain ⟨m, hm⟩ := k2; exact DataW.trod_lt m _ _ _ hm
  obtain ⟨f2, x2⟩ := arg_reads (ρ := fun _ => ⟨0, 0, 0, 0⟩) 12 _ sh3 (hval 2 3 v2 rfl rfl) h2
  simp only [Fits, FitsL] at f2
  obtain ⟨n2, rfl, l2, u2⟩ := f2
  simp only [absV, tg3, absD, absDs, litV, List.headD_cons, List.cons_append, List.nil_append, List.append_nil] at x2
  have k3 := h3
  have lt3 : ∀ x ∈ p3, x.block < W.heap.size := by obtain ⟨m, hm⟩ := k3; exact DataW.trod_lt m _ _ _ hm
  obtain ⟨f3, x3⟩ := arg_reads (ρ := fun _ => ⟨0, 0, 0, 0⟩) 12 _ sh3 (hval 3 3 v3 rfl rfl) h3
  simp only [Fits, FitsL] at f3
  obtain ⟨n3, rfl, l3, u3⟩ := f3
  simp only [absV, tg3, absD, absDs, litV, List.headD_cons, List.cons_append, List.nil_append, List.append_nil] at x3
  clear hA0 hval0 hsz0 hsz
  have hc : ACalls Tryz.prog 3 [_, _, _, _] [] (fun e _ => e = .ret (.lit (.bool true))) := (startPicks (sd := n0) (n := n1) (k := n2) (i := n3)).mono fun _ _ hh => hh.1
  refine (law_of (fun g hm => by simp [globs] at hm) hc (VRs.cons x0 (VRs.cons x1 (VRs.cons x2 (VRs.cons x3 VRs.nil))))).mono fun e W' ⟨he, bel⟩ => ?_
  subst he
  exact ⟨_, rfl, _, _, _, [], _, [], hW', trodAll_mk1 (shut_bool Tryz.underlying4 _), (trodAll_cons_mk (Below.trod laidOut (by kernel_rfl) (of_decide_eq_true (by kernel_rfl)) k0 bel lt0) (trodAll_cons_mk (Below.trod laidOut (by kernel_rfl) (of_decide_eq_true (by kernel_rfl)) k1 bel lt1) (trodAll_cons_mk (Below.trod laidOut (by kernel_rfl) (of_decide_eq_true (by kernel_rfl)) k2 bel lt2) (trodAll_cons_mk (Below.trod laidOut (by kernel_rfl) (of_decide_eq_true (by kernel_rfl)) k3 bel lt3) trodAll_mk0)))), rfl, bel.frame _, fun h => by cases h⟩
theorem jMaps : mapsRowed Tryz.prog = true := by kernel_rfl
theorem jName : Tryz.pinned.checked.prog.funcNamed Rows.startPicksRow.func = some 3 := by kernel_rfl
theorem jIn : (Rows.startPicksRow.inPlace == Tryz.prog.inPlace 3) = true := by kernel_rfl
theorem jUn : (Rows.startPicksRow.unfollowed == Tryz.prog.unfollowed 3) = true := by kernel_rfl
theorem jRe : (Rows.startPicksRow.recurses == Tryz.prog.recurses 3) = true := by kernel_rfl
theorem jNa : (Rows.startPicksRow.named == Tryz.prog.varsNamed 3) = true := by kernel_rfl
theorem closed : joinedFacts Tryz.prog 3 Tryz.f3 Rows.startPicksSpec Rows.startPicksRow = true := by
  unfold joinedFacts
  rw [laidOut, jMaps, jIn, jUn, jRe, jNa]
  kernel_rfl
theorem over : Rows.startPicksRow.holds Tryz.pinned (OpenSpec.ofChange Rows.startPicksSpec) :=
  OpenClaim.holds_of_wide 3 Tryz.f3 rfl rfl rfl rfl rfl rfl rfl ⟨rfl, rfl, rfl, rfl, rfl⟩ rfl rfl rfl rfl rfl jName Tryz.func3 closed
    (of_decide_eq_true (by kernel_rfl)) (by unfold Func.isWrapper; first | (rw [if_pos (by decide +kernel)]; kernel_rfl) | (rw [if_neg (by decide +kernel)]; exact ⟨rfl, rfl⟩))
    (fun os started H enc _ => lifted os started H enc)
theorem proved : Rows.StartPicksSaid := over
#print axioms proved
end Go.Proofs.YteahajcgbogjkaaGreat.startPicks
namespace Go.Proofs.YteahajcgbogjkaaGreat
/-- The row, under a short name, for the claim. -/
theorem startPicks_holds : Rows.StartPicksSaid := startPicks.proved
end Go.Proofs.YteahajcgbogjkaaGreat
