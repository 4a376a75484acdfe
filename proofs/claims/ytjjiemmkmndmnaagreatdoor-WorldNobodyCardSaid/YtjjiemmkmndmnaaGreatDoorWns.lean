import Derived.Test.YtjjiemmkmndmnaaGreatDoorTie
import Derived.Test.YtjjiemmkmndmnaaGreatDoorCards
import Derived.LaidMore
import Derived.Lay
import Derived.SevenTiedAt
import Derived.Stop.Joined
import Derived.Lib.LaidTab
import Derived.Test.YtjjiemmkmndmnaaGreatDoorRows
import Derived.Test.YtjjiemmkmndmnaaGreatDoorG2
import Derived.Test.YtjjiemmkmndmnaaGreatDoorG5
import Derived.Test.YtjjiemmkmndmnaaGreatDoorG6
import Derived.WalkKit
import Derived.ProofKit
import Derived.OpenShut
import Derived.ShutString
import Derived.ChangeOld
import Derived.Below
import Derived.Carry
import Derived.SizedLaws
/- The law chainman/chainmanlaw41.WorldNobody holds at every input: it hands back true, and its arguments read behind the call as before. No condition. -/
namespace Go.Proofs.YtjjiemmkmndmnaaGreatDoor.worldNobody
open Go Go.Proofs.YtjjiemmkmndmnaaGreatDoor.AL Go.ChangeShapes Go.WideShapes Go.ChangeAt Go.RowKit
set_option linter.unusedVariables false
set_option linter.unusedSimpArgs false
theorem own : ownKnob Tryz.prog.godebug = none := by kernel_rfl
theorem laidOut : laidOutB Tryz.prog = true := by kernel_rfl
theorem sh25 : shOf Tryz.prog 12 25 = some (.strct [.int .i64, .str, .str, .int .i64, .int .u32, .slice (.int .i64)]) := by kernel_rfl
set_option maxRecDepth 100000 in
theorem lifted (os : Os) (started : os.Started) (H : Type) (enc : TypeId × Value → H) :
    ReturnsInHanded {} Tryz.checked os 3 .any (fun w args => (Rows.worldNobodySpec.pre enc Tryz.prog Tryz.f3 Rows.worldNobodyRow.domain false w args ∧ laidMetH Tryz.prog Rows.worldNobodyRow.laid w) ∧ sizedMet enc Tryz.prog Tryz.f3 (OpenSpec.ofChange Rows.worldNobodySpec) false w args) (Rows.worldNobodySpec.post enc Tryz.prog Tryz.f3 false true false false) := by
  refine returnsInHanded_of_change_and (C := Tryz.checked) (X := fun w _ => laidMetH Tryz.prog Rows.worldNobodyRow.laid w) (fun _ _ _ hh h => h.of_heap hh) own started (by kernel_rfl) Tryz.func3
    (ChangeSpec.witness_shaped (enc := enc) (C := Tryz.checked) (os := os) (X := fun w _ => laidMetH Tryz.prog Rows.worldNobodyRow.laid w) false (World.laidAll Tryz.prog os Rows.worldNobodyRow.laid) #[.agg #[.int .i64 0, .string ByteArray.empty, .string ByteArray.empty, .int .i64 0, .int .u32 0, .slice none 0 0]] 8 (World.laidAll_os _ _ _)
      (World.shaped_of_ZipB (by kernel_rfl) (by kernel_rfl)) (by kernel_rfl) (by kernel_rfl) (by kernel_rfl)
      (by rw [MakeChecks.laidMetH_plain _ _ _ (by kernel_rfl)]; exact laidMet_laidAll _ (by kernel_rfl) (by kernel_rfl))) ?_
  intro W base args ds gs before hval0 hW hcnd hsz0 hL _
  have hsz : (DataW.weightsEach Tryz.prog (Tryz.f3.params.toList ++ Rows.worldNobodySpec.plain.varTypes Tryz.prog) (ds ++ gs)).all (· ≤ reachBytes) = true := hsz0
  have hval : ∀ (j : Nat) t v, Tryz.f3.params[j]? = some t → args[j]? = some v → Value.okWide Tryz.prog W .any base t v := hval0
  have hW' := hW
  obtain ⟨p, q, hA0, hV, rfl, hfz, hnd⟩ := hW
  have hA : DataW.TrodAll enc Tryz.prog W 0 (fun _ => true) true Tryz.f3.params.toList args.toList ds p := hA0
  rw [Tryz.params3] at hA hval hsz
  obtain ⟨v0, vs0, d0, ds0, p0, q0, hargs, rfl, rfl, h0, r0⟩ := trodAll_cons hA
  obtain ⟨rfl, rfl, rfl⟩ := trodAll_nil r0
  obtain rfl : args = #[v0] := by cases args; simp_all
  obtain ⟨rfl, rfl⟩ := trodVars_none hV
  have k0 := h0
  have lt0 : ∀ x ∈ p0, x.block < W.heap.size := by obtain ⟨m, hm⟩ := k0; exact DataW.trod_lt m _ _ _ hm
  obtain ⟨f0, x0⟩ := arg_reads (ρ := fun _ => ⟨0, 0, 0⟩) 12 _ sh25 (hval 0 25 v0 rfl rfl) h0
  simp only [Fits, FitsL] at f0
  obtain ⟨_, rfl, ⟨_, _, rfl, ⟨n0_0, rfl, l0_0, u0_0⟩, ⟨_, _, rfl, ⟨s0_1, rfl, m0_1⟩, ⟨_, _, rfl, ⟨s0_2, rfl, m0_2⟩, ⟨_, _, rfl, ⟨n0_3, rfl, l0_3, u0_3⟩, ⟨_, _, rfl, ⟨n0_4, rfl, l0_4, u0_4⟩, ⟨d0_5, _, rfl, f0_5, rfl⟩⟩⟩⟩⟩⟩⟩ := f0
  obtain ⟨k0_5, a0_5, q0_5⟩ := fits_slice (e := .int .i64) (d := d0_5) (by simp only [Fits]; exact f0_5)
  simp only [absV, tg25, absD, absDs, litV, List.headD_cons, List.cons_append, List.nil_append, List.append_nil, a0_5] at x0
  clear hA0 hval0 hsz0 hsz
  have hc : ACalls Tryz.prog 3 [_] [] (fun e _ => e = .ret (.lit (.bool true))) := (worldNobody (kind := n0_0) (name := ⟨s0_1.toArray⟩) (s := ⟨s0_2.toArray⟩) (n := n0_3) (bits := n0_4) (keep := k0_5) (keep_ok q0_5)).mono fun _ _ hh => hh.1
  refine (law_of (fun g hm => by simp [globs] at hm) hc (VRs.cons x0 VRs.nil)).mono fun e W' ⟨he, bel⟩ => ?_
  subst he
  exact ⟨_, rfl, _, _, _, [], _, [], hW', trodAll_mk1 (shut_bool Tryz.underlying4 _), (trodAll_cons_mk (Below.trod laidOut (by kernel_rfl) (of_decide_eq_true (by kernel_rfl)) k0 bel lt0) trodAll_mk0), rfl, bel.frame _, fun h => by cases h⟩
theorem jMaps : mapsRowed Tryz.prog = true := by kernel_rfl
theorem jName : Tryz.pinned.checked.prog.funcNamed Rows.worldNobodyRow.func = some 3 := by kernel_rfl
theorem jIn : (Rows.worldNobodyRow.inPlace == Tryz.prog.inPlace 3) = true := by kernel_rfl
theorem jUn : (Rows.worldNobodyRow.unfollowed == Tryz.prog.unfollowed 3) = true := by kernel_rfl
theorem jRe : (Rows.worldNobodyRow.recurses == Tryz.prog.recurses 3) = true := by kernel_rfl
theorem jNa : (Rows.worldNobodyRow.named == Tryz.prog.varsNamed 3) = true := by kernel_rfl
theorem closed : joinedFacts Tryz.prog 3 Tryz.f3 Rows.worldNobodySpec Rows.worldNobodyRow = true := by
  unfold joinedFacts
  rw [laidOut, jMaps, jIn, jUn, jRe, jNa]
  kernel_rfl
theorem over : Rows.worldNobodyRow.holds Tryz.pinned (OpenSpec.ofChange Rows.worldNobodySpec) :=
  OpenClaim.holds_of_wide 3 Tryz.f3 rfl rfl rfl rfl rfl rfl rfl ⟨rfl, rfl, rfl, rfl, rfl⟩ rfl rfl rfl rfl rfl jName Tryz.func3 closed
    (of_decide_eq_true (by kernel_rfl)) (by unfold Func.isWrapper; first | (rw [if_pos (by decide +kernel)]; kernel_rfl) | (rw [if_neg (by decide +kernel)]; exact ⟨rfl, rfl⟩))
    (fun os started H enc _ => lifted os started H enc)
theorem proved : Rows.WorldNobodySaid := over
#print axioms proved
end Go.Proofs.YtjjiemmkmndmnaaGreatDoor.worldNobody
namespace Go.Proofs.YtjjiemmkmndmnaaGreatDoor
/-- The row, under a short name, for the claim. -/
theorem worldNobody_holds : Rows.WorldNobodySaid := worldNobody.proved
end Go.Proofs.YtjjiemmkmndmnaaGreatDoor

namespace Go.Proofs.YtjjiemmkmndmnaaGreatDoor.worldNobody
open Go
theorem cWf : Rows.worldNobodyRow.wfByText (OpenSpec.ofChange Rows.worldNobodySpec) = true := by kernel_rfl
theorem cMain : Tryz.pinned.checked.prog.mainIs = some (true, "6b6b97d2328bdefc7e4ceacf2870aeeed6bbe8817620f5492f50313fe2c4b5d6".toList) := by kernel_rfl
theorem cLooks : true = Tryz.pinned.checked.prog.looks [] := by kernel_rfl
theorem cAll : Tryz.prog.funcs.any Func.goes = false := by kernel_rfl
theorem cGoes : false = Rows.worldNobodyRow.goesBy Tryz.pinned.checked.prog := by
  have h : (fun g => (Tryz.prog.funcs[g]?).any Func.goes) = fun _ : Nat => false := funext fun g => by
    cases e : Tryz.prog.funcs[g]? with
    | none => rfl
    | some fn =>
      show Func.goes fn = false
      cases c : Func.goes fn with
      | false => rfl
      | true =>
        obtain ⟨hl, hx⟩ := Array.getElem?_eq_some_iff.1 e
        have ht : Tryz.prog.funcs.any Func.goes = true := Array.any_eq_true.2 ⟨g, hl, by rw [hx]; exact c⟩
        rw [cAll] at ht; cases ht
  have hg : Tryz.prog.goes 3 = false := by
    unfold Program.goes
    rw [cAll, Bool.and_false, Bool.or_false, h]
    simp
  have jn : Tryz.prog.funcNamed Rows.worldNobodyRow.func = some 3 := jName
  have hf : Tryz.prog.goesFrom Rows.worldNobodyRow.func = false := by
    unfold Program.goesFrom
    rw [jn, Option.any_some, hg]
  have ha : Tryz.prog.goesAt .entering Rows.worldNobodyRow.func = false := by
    unfold Program.goesAt
    rw [hf]; rfl
  exact ha.symm
theorem cStand : ([25].all fun u => !Tryz.prog.wantsStandIn u) = true := by kernel_rfl
end Go.Proofs.YtjjiemmkmndmnaaGreatDoor.worldNobody
namespace Go.Proofs.YtjjiemmkmndmnaaGreatDoor
open Go
/-- The tied card. -/
theorem worldNobodyCard_holds : Rows.WorldNobodyCardSaid :=
  Claim7.holds_tied_plain_at .later [] [.data, .data, .data, .data, .pinned] true (true, "6b6b97d2328bdefc7e4ceacf2870aeeed6bbe8817620f5492f50313fe2c4b5d6") true
    worldNobody_holds (fun _ h => by cases h) worldNobody.cWf (fun _ h => by cases h) worldNobody_row_tie rfl ⟨rfl, rfl⟩ worldNobody.cMain rfl
    (fun f fn hf hfn => by
      obtain rfl : f = 3 := Option.some.inj (worldNobody.jName.symm.trans hf) |>.symm
      obtain rfl : fn = Tryz.f3 := (Option.some.inj (Tryz.func3.symm.trans hfn)).symm
      exact ⟨worldNobody.cLooks, fun j t ht => by
        rw [Tryz.params3] at ht
        have hm : t ∈ [25] := by simpa using Array.mem_of_getElem? ht
        exact (show Tryz.prog.wantsStandIn t = false by simpa using List.all_eq_true.1 worldNobody.cStand t hm)⟩)
    worldNobody.cGoes
#print axioms worldNobodyCard_holds
end Go.Proofs.YtjjiemmkmndmnaaGreatDoor
