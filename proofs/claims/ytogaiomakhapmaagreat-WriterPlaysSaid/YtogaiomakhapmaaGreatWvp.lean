import Derived.Test.YtogaiomakhapmaaGreatRows
import Derived.Test.YtogaiomakhapmaaGreatG2
import Derived.Test.YtogaiomakhapmaaGreatG7
import Derived.WalkKit
import Derived.ProofKit
import Derived.OpenShut
import Derived.ShutString
import Derived.ChangeOld
import Derived.Below
import Derived.Carry
import Derived.SizedLaws

namespace Go.Proofs.YtogaiomakhapmaaGreat.writerPlays
open Go Go.Proofs.YtogaiomakhapmaaGreat.AL Go.ChangeShapes Go.WideShapes Go.ChangeAt Go.RowKit
set_option linter.unusedVariables false
set_option linter.unusedSimpArgs false
theorem own : ownKnob Tryz.prog.godebug = none := by kernel_rfl
theorem laidOut : laidOutB Tryz.prog = true := by kernel_rfl
theorem sh3 : Zd1 Tryz.prog 12 3 = some (.int .i64) := by kernel_rfl
theorem sh4 : Zd1 Tryz.prog 12 4 = some (.bool) := by kernel_rfl
theorem sh52 : Zd1 Tryz.prog 12 52 = some (.slice (.str)) := by kernel_rfl
set_option maxRecDepth 100000 in
theorem lifted (os : Os) (started : os.Started) (H : Type) (enc : TypeId × Value → H) :
    ReturnsInHanded {} Tryz.checked os 4 .any (Rows.writerPlaysSpec.pre6 enc Tryz.prog Tryz.f4 Rows.writerPlaysRow.domain false) (Rows.writerPlaysSpec.post enc Tryz.prog Tryz.f4 false true false false) := by
  refine returnsInHanded_of_change_sized (C := Tryz.checked) own started (by kernel_rfl) Tryz.func4
    (ChangeSpec.witness6 (enc := enc) (C := Tryz.checked) false ⟨#[], #[.int .i64 0, .slice none 0 0, .int .i64 0, .int .i64 0, .int .i64 0, .bool false], []⟩ 8 (by kernel_rfl) (by kernel_rfl) (by kernel_rfl) (by kernel_rfl)) ?_
  intro W base args ds gs before hval0 hW hcnd hsz0 _
  have hsz : (DataW.weightsEach Tryz.prog (Tryz.f4.params.toList ++ Rows.writerPlaysSpec.plain.varTypes Tryz.prog) (ds ++ gs)).all (· ≤ reachBytes) = true := hsz0
  have hval : ∀ (j : Nat) t v, Tryz.f4.params[j]? = some t → args[j]? = some v → Value.okWide Tryz.prog W .any base t v := hval0
  have hW' := hW
  obtain ⟨p, q, hA0, hV, rfl, hfz, hnd⟩ := hW
  have hA : DataW.TrodAll enc Tryz.prog W 0 (fun _ => true) true Tryz.f4.params.toList args.toList ds p := hA0
  rw [Tryz.params4] at hA hval hsz
  obtain ⟨v0, vs0, d0, ds0, p0, q0, hargs, rfl, rfl, h0, r0⟩ := trodAll_cons hA
  obtain ⟨v1, vs1, d1, ds1, p1, q1, rfl, rfl, rfl, h1, r1⟩ := trodAll_cons r0
  obtain ⟨v2, vs2, d2, ds2, p2, q2, rfl, rfl, rfl, h2, r2⟩ := trodAll_cons r1
  obtain ⟨v3, vs3, d3, ds3, p3, q3, rfl, rfl, rfl, h3, r3⟩ := trodAll_cons r2
  obtain ⟨v4, vs4, d4, ds4, p4, q4, rfl, rfl, rfl, h4, r4⟩ := trodAll_cons r3
  obtain ⟨v5, vs5, d5, ds5, p5, q5, rfl, rfl, rfl, h5, r5⟩ := trodAll_cons r4
  obtain ⟨rfl, rfl, rfl⟩ := trodAll_nil r5
  obtain rfl : args = #[v0, v1, v2, v3, v4, v5] := by cases args; simp_all
  obtain ⟨rfl, rfl⟩ := trodVars_none hV
  have k0 := h0
  have lt0 : ∀ x ∈ p0, x.block < W.heap.size := by obtain ⟨m, hm⟩ := k0; exact DataW.trod_lt m _ _ _ hm
  obtain ⟨f0, x0⟩ := Zik (ρ := fun _ => ⟨0, 0, 0, 0⟩) 12 _ sh3 (hval 0 3 v0 rfl rfl) h0
  simp only [ZcT, Zgw] at f0
  obtain ⟨n0, rfl, l0, u0⟩ := f0
  simp only [ZdK, tg3, Zb0, ZbK, ZgT, List.headD_cons, List.cons_append, List.nil_append, List.append_nil] at x0
  have k1 := h1
  have lt1 : ∀ x ∈ p1, x.block < W.heap.size := by obtain ⟨m, hm⟩ := k1; exact DataW.trod_lt m _ _ _ hm
  obtain ⟨f1, x1⟩ := Zik (ρ := fun _ => ⟨0, 0, 0, 0⟩) 12 _ sh52 (hval 1 52 v1 rfl rfl) h1
  simp only [ZdK, tg52] at x1
  have k2 := h2
  have lt2 : ∀ x ∈ p2, x.block < W.heap.size := by obtain ⟨m, hm⟩ := k2; exact DataW.trod_lt m _ _ _ hm
  obtain ⟨f2, x2⟩ := Zik (ρ := fun _ => ⟨0, 0, 0, 0⟩) 12 _ sh3 (hval 2 3 v2 rfl rfl) h2
  simp only [ZcT, Zgw] at f2
  obtain ⟨n2, rfl, l2, u2⟩ := f2
  simp only [ZdK, tg3, Zb0, ZbK, ZgT, List.headD_cons, List.cons_append, List.nil_append, List.append_nil] at x2
  have k3 := h3
  have lt3 : ∀ x ∈ p3, x.block < W.heap.size := by obtain ⟨m, hm⟩ := k3; exact DataW.trod_lt m _ _ _ hm
  obtain ⟨f3, x3⟩ := Zik (ρ := fun _ => ⟨0, 0, 0, 0⟩) 12 _ sh3 (hval 3 3 v3 rfl rfl) h3
  simp only [ZcT, Zgw] at f3
  obtain ⟨n3, rfl, l3, u3⟩ := f3
  simp only [ZdK, tg3, Zb0, ZbK, ZgT, List.headD_cons, List.cons_append, List.nil_append, List.append_nil] at x3
  have k4 := h4
  have lt4 : ∀ x ∈ p4, x.block < W.heap.size := by obtain ⟨m, hm⟩ := k4; exact DataW.trod_lt m _ _ _ hm
  obtain ⟨f4, x4⟩ := Zik (ρ := fun _ => ⟨0, 0, 0, 0⟩) 12 _ sh3 (hval 4 3 v4 rfl rfl) h4
  simp only [ZcT, Zgw] at f4
  obtain ⟨n4, rfl, l4, u4⟩ := f4
  simp only [ZdK, tg3, Zb0, ZbK, ZgT, List.headD_cons, List.cons_append, List.nil_append, List.append_nil] at x4
  have k5 := h5
  have lt5 : ∀ x ∈ p5, x.block < W.heap.size := by obtain ⟨m, hm⟩ := k5; exact DataW.trod_lt m _ _ _ hm
  obtain ⟨f5, x5⟩ := Zik (ρ := fun _ => ⟨0, 0, 0, 0⟩) 12 _ sh4 (hval 5 4 v5 rfl rfl) h5
  simp only [ZcT, Zgw] at f5
  obtain ⟨b5, rfl⟩ := f5
  simp only [ZdK, tg4, Zb0, ZbK, ZgT, List.headD_cons, List.cons_append, List.nil_append, List.append_nil] at x5
  clear hA0 hval0 hsz0 hsz
  have hc : ACalls Tryz.prog 4 [_, _, _, _, _, _] [] (fun e _ => e = .ret (.lit (.bool true))) := (writerPlays (size := n0) (room := n2) (drop := b5) u3 u4 f1).mono fun _ _ hh => hh.1
  refine (Z20 (fun g hm => by simp [Zq0] at hm) hc (VRs.cons x0 (VRs.cons x1 (VRs.cons x2 (VRs.cons x3 (VRs.cons x4 (VRs.cons x5 VRs.nil))))))).mono fun e W' ⟨he, bel⟩ => ?_
  subst he
  exact ⟨_, rfl, _, _, _, [], _, [], hW', trodAll_mk1 (shut_bool Tryz.underlying4 _), (trodAll_cons_mk (Below.trod laidOut (by kernel_rfl) (of_decide_eq_true (by kernel_rfl)) k0 bel lt0) (trodAll_cons_mk (Below.trod laidOut (by kernel_rfl) (of_decide_eq_true (by kernel_rfl)) k1 bel lt1) (trodAll_cons_mk (Below.trod laidOut (by kernel_rfl) (of_decide_eq_true (by kernel_rfl)) k2 bel lt2) (trodAll_cons_mk (Below.trod laidOut (by kernel_rfl) (of_decide_eq_true (by kernel_rfl)) k3 bel lt3) (trodAll_cons_mk (Below.trod laidOut (by kernel_rfl) (of_decide_eq_true (by kernel_rfl)) k4 bel lt4) (trodAll_cons_mk (Below.trod laidOut (by kernel_rfl) (of_decide_eq_true (by kernel_rfl)) k5 bel lt5) trodAll_mk0)))))), rfl, bel.frame _, fun h => by cases h⟩
theorem jMaps : mapsRowed Tryz.prog = true := by kernel_rfl
theorem jName : Tryz.pinned.checked.prog.funcNamed Rows.writerPlaysRow.func = some 4 := by kernel_rfl
theorem jIn : (Rows.writerPlaysRow.inPlace == Tryz.prog.inPlace 4) = true := by kernel_rfl
theorem jUn : (Rows.writerPlaysRow.unfollowed == Tryz.prog.unfollowed 4) = true := by kernel_rfl
theorem jRe : (Rows.writerPlaysRow.recurses == Tryz.prog.recurses 4) = true := by kernel_rfl
theorem jNa : (Rows.writerPlaysRow.named == Tryz.prog.varsNamed 4) = true := by kernel_rfl
theorem closed : joinedFacts Tryz.prog 4 Tryz.f4 Rows.writerPlaysSpec Rows.writerPlaysRow = true := by
  unfold joinedFacts
  rw [laidOut, jMaps, jIn, jUn, jRe, jNa]
  kernel_rfl
theorem Ze1 : Rows.writerPlaysRow.holds Tryz.pinned (OpenSpec.ofChange Rows.writerPlaysSpec) :=
  OpenClaim.holds_of_wide 4 Tryz.f4 rfl rfl rfl rfl rfl rfl rfl ⟨rfl, rfl, rfl, rfl, rfl⟩ rfl rfl rfl rfl rfl jName Tryz.func4 closed
    (of_decide_eq_true (by kernel_rfl)) (by unfold Func.isWrapper; first | (rw [if_pos (by decide +kernel)]; kernel_rfl) | (rw [if_neg (by decide +kernel)]; exact ⟨rfl, rfl⟩))
    (fun os started H enc _ => lifted os started H enc)
theorem proved : Rows.WriterPlaysSaid := Ze1
#print axioms proved
end Go.Proofs.YtogaiomakhapmaaGreat.writerPlays
namespace Go.Proofs.YtogaiomakhapmaaGreat
theorem writerPlays_holds : Rows.WriterPlaysSaid := writerPlays.proved
end Go.Proofs.YtogaiomakhapmaaGreat
