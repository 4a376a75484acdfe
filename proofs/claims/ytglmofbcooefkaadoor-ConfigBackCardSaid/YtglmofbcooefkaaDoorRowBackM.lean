import Derived.Test.YtglmofbcooefkaaDoorTie
import Derived.Test.YtglmofbcooefkaaDoorCards
import Derived.LaidMore
import Derived.Lay
import Derived.SevenTiedAt
import Derived.Stop.Joined
import Derived.Lib.LaidTab
import Derived.Test.YtglmofbcooefkaaDoorRows
import Derived.Test.YtglmofbcooefkaaDoorG2
import Derived.Test.YtglmofbcooefkaaDoorG5
import Derived.Test.YtglmofbcooefkaaDoorG6
import Derived.WalkKit
import Derived.ProofKit
import Derived.OpenShut
import Derived.ShutString
import Derived.ChangeOld
import Derived.Below
import Derived.Carry
import Derived.SizedLaws
/- The law chainman/chainmanlaw38.ConfigBack holds at every input: it hands back true, and its arguments read behind the call as before. No condition. -/
namespace Go.Proofs.YtglmofbcooefkaaDoor.configBack
open Go Go.Proofs.YtglmofbcooefkaaDoor.AL Go.ChangeShapes Go.WideShapes Go.ChangeAt Go.RowKit
set_option linter.unusedVariables false
set_option linter.unusedSimpArgs false
theorem own : ownKnob Tryd.prog.godebug = none := by kernel_rfl
theorem laidOut : laidOutB Tryd.prog = true := by kernel_rfl
theorem sh23 : shOf Tryd.prog 12 23 = some (.strct [.int .i64, .int .i64, .int .i64, .int .i64, .int .i64, .int .i64, .int .i64, .int .i64, .int .i64]) := by kernel_rfl
theorem sh32 : shOf Tryd.prog 12 32 = some (.slice (.int .u8)) := by kernel_rfl
theorem sh33 : shOf Tryd.prog 12 33 = some (.slice (.str)) := by kernel_rfl
/-- The powers of ten lie where start-up code laid them. -/
theorem pow10_laid {W : World} (h : laidMetH Tryd.prog Rows.configBackRow.laid W) : ∀ g ∈ globs, ∃ C T fz, W.heap[g.1]? = some (.cells C T fz) ∧ g.2 C := by
  rw [MakeChecks.laidMetH_plain _ _ _ (by kernel_rfl)] at h
  obtain ⟨ps, ⟨_, _, _, _, _, _, _, _, _, _, ⟨_, _, _, _, _, _, _, _, _, _, ⟨g, t, cs, fu, p, q, hg, ht, hv, hd, _, _⟩, _⟩, _⟩, _, _⟩ := h
  obtain rfl := Option.some.inj ((show Tryd.prog.globalNamed "internal/strconv.uint64pow10" = some 1 by kernel_rfl).symm.trans hg)
  obtain rfl := Option.some.inj ((show (Tryd.prog.globals[1]?).map (·.type) = some 189 by kernel_rfl).symm.trans ht)
  have e : Rows.laid_internal_strconv_uint64pow10 = (Lib.tabData .u64 Lib.pow10Tab : DataW Unit) := by kernel_rfl
  rw [e] at hd
  have hc := Lib.cells_of_tab (show Tryd.prog.underlying 189 = some (.array 20 169) by kernel_rfl) (show Tryd.prog.underlying 169 = some (.int .u64) by kernel_rfl) (by kernel_rfl) (by kernel_rfl) hd
  unfold World.var? at hv
  rw [hg, Option.bind_some] at hv
  intro g hm
  obtain rfl := List.mem_singleton.1 hm
  split at hv
  · rename_i C T fz hC
    cases hv
    exact ⟨_, T, fz, hC, by rw [← hc]⟩
  · cases hv
set_option maxRecDepth 100000 in
theorem lifted (os : Os) (started : os.Started) (H : Type) (enc : TypeId × Value → H) :
    ReturnsInHanded {} Tryd.checked os 4 .any (fun w args => (Rows.configBackSpec.pre enc Tryd.prog Tryd.f4 Rows.configBackRow.domain false w args ∧ laidMetH Tryd.prog Rows.configBackRow.laid w) ∧ sizedMet enc Tryd.prog Tryd.f4 (OpenSpec.ofChange Rows.configBackSpec) false w args) (Rows.configBackSpec.post enc Tryd.prog Tryd.f4 false true false false) := by
  refine returnsInHanded_of_change_and (C := Tryd.checked) (X := fun w _ => laidMetH Tryd.prog Rows.configBackRow.laid w) (fun _ _ _ hh h => h.of_heap hh) own started (by kernel_rfl) Tryd.func4
    (ChangeSpec.witness_shaped (enc := enc) (C := Tryd.checked) (os := os) (X := fun w _ => laidMetH Tryd.prog Rows.configBackRow.laid w) false (World.laidAll Tryd.prog os Rows.configBackRow.laid) #[.agg #[.int .i64 0, .int .i64 0, .int .i64 0, .int .i64 0, .int .i64 0, .int .i64 0, .int .i64 0, .int .i64 0, .int .i64 0], .slice none 0 0, .slice none 0 0] 8 (World.laidAll_os _ _ _)
      (World.shaped_of_ZipB (by kernel_rfl) (by kernel_rfl)) (by kernel_rfl) (by kernel_rfl) (by kernel_rfl)
      (by rw [MakeChecks.laidMetH_plain _ _ _ (by kernel_rfl)]; exact laidMet_laidAll _ (by kernel_rfl) (by kernel_rfl))) ?_
  intro W base args ds gs before hval0 hW hcnd hsz0 hL _
  have hsz : (DataW.weightsEach Tryd.prog (Tryd.f4.params.toList ++ Rows.configBackSpec.plain.varTypes Tryd.prog) (ds ++ gs)).all (· ≤ reachBytes) = true := hsz0
  have hval : ∀ (j : Nat) t v, Tryd.f4.params[j]? = some t → args[j]? = some v → Value.okWide Tryd.prog W .any base t v := hval0
  have hW' := hW
  obtain ⟨p, q, hA0, hV, rfl, hfz, hnd⟩ := hW
  have hA : DataW.TrodAll enc Tryd.prog W 0 (fun _ => true) true Tryd.f4.params.toList args.toList ds p := hA0
  rw [Tryd.params4] at hA hval hsz
  obtain ⟨v0, vs0, d0, ds0, p0, q0, hargs, rfl, rfl, h0, r0⟩ := trodAll_cons hA
  obtain ⟨v1, vs1, d1, ds1, p1, q1, rfl, rfl, rfl, h1, r1⟩ := trodAll_cons r0
  obtain ⟨v2, vs2, d2, ds2, p2, q2, rfl, rfl, rfl, h2, r2⟩ := trodAll_cons r1
  obtain ⟨rfl, rfl, rfl⟩ := trodAll_nil r2
  obtain rfl : args = #[v0, v1, v2] := by cases args; simp_all
  obtain ⟨rfl, rfl⟩ := trodVars_none hV
  have k0 := h0
  have lt0 : ∀ x ∈ p0, x.block < W.heap.size := by obtain ⟨m, hm⟩ := k0; exact DataW.trod_lt m _ _ _ hm
  obtain ⟨f0, x0⟩ := arg_reads (ρ := fun _ => ⟨0, 0, 0⟩) 12 _ sh23 (hval 0 23 v0 rfl rfl) h0
  simp only [Fits, FitsL] at f0
  obtain ⟨_, rfl, ⟨_, _, rfl, ⟨n0_0, rfl, l0_0, u0_0⟩, ⟨_, _, rfl, ⟨n0_1, rfl, l0_1, u0_1⟩, ⟨_, _, rfl, ⟨n0_2, rfl, l0_2, u0_2⟩, ⟨_, _, rfl, ⟨n0_3, rfl, l0_3, u0_3⟩, ⟨_, _, rfl, ⟨n0_4, rfl, l0_4, u0_4⟩, ⟨_, _, rfl, ⟨n0_5, rfl, l0_5, u0_5⟩, ⟨_, _, rfl, ⟨n0_6, rfl, l0_6, u0_6⟩, ⟨_, _, rfl, ⟨n0_7, rfl, l0_7, u0_7⟩, ⟨_, _, rfl, ⟨n0_8, rfl, l0_8, u0_8⟩, rfl⟩⟩⟩⟩⟩⟩⟩⟩⟩⟩ := f0
  simp only [absV, tg23, absD, absDs, litV, List.headD_cons, List.cons_append, List.nil_append, List.append_nil] at x0
  have k1 := h1
  have lt1 : ∀ x ∈ p1, x.block < W.heap.size := by obtain ⟨m, hm⟩ := k1; exact DataW.trod_lt m _ _ _ hm
  obtain ⟨f1, x1⟩ := arg_reads (ρ := fun _ => ⟨0, 0, 0⟩) 12 _ sh32 (hval 1 32 v1 rfl rfl) h1
  simp only [absV, tg32] at x1
  have k2 := h2
  have lt2 : ∀ x ∈ p2, x.block < W.heap.size := by obtain ⟨m, hm⟩ := k2; exact DataW.trod_lt m _ _ _ hm
  obtain ⟨f2, x2⟩ := arg_reads (ρ := fun _ => ⟨0, 0, 0⟩) 12 _ sh33 (hval 2 33 v2 rfl rfl) h2
  simp only [absV, tg33] at x2
  clear hA0 hval0 hsz0 hsz
  have hc : ACalls Tryd.prog 4 [_, _, _] [] (fun e _ => e = .ret (.lit (.bool true))) := (Law.Law2.configBack ⟨n0_0, n0_1, n0_2, n0_3, n0_4, n0_5, n0_6, n0_7, n0_8⟩ f1 f2).mono fun _ _ hh => hh.1
  refine (law_of (pow10_laid hL) hc (VRs.cons x0 (VRs.cons x1 (VRs.cons x2 VRs.nil)))).mono fun e W' ⟨he, bel⟩ => ?_
  subst he
  exact ⟨_, rfl, _, _, _, [], _, [], hW', trodAll_mk1 (shut_bool Tryd.underlying4 _), (trodAll_cons_mk (Below.trod laidOut (by kernel_rfl) (of_decide_eq_true (by kernel_rfl)) k0 bel lt0) (trodAll_cons_mk (Below.trod laidOut (by kernel_rfl) (of_decide_eq_true (by kernel_rfl)) k1 bel lt1) (trodAll_cons_mk (Below.trod laidOut (by kernel_rfl) (of_decide_eq_true (by kernel_rfl)) k2 bel lt2) trodAll_mk0))), rfl, bel.frame _, fun h => by cases h⟩
theorem over : Rows.configBackRow.holds Tryd.pinned (OpenSpec.ofChange Rows.configBackSpec) :=
  OpenClaim.holds_of_wide 4 Tryd.f4 rfl rfl rfl rfl rfl rfl rfl ⟨rfl, rfl, rfl, rfl, rfl⟩ rfl rfl rfl rfl rfl (by kernel_rfl) Tryd.func4 (by kernel_rfl)
    (of_decide_eq_true (by kernel_rfl)) (by unfold Func.isWrapper; first | (rw [if_pos (by decide +kernel)]; kernel_rfl) | (rw [if_neg (by decide +kernel)]; exact ⟨rfl, rfl⟩))
    (fun os started H enc _ => lifted os started H enc)
theorem proved : Rows.ConfigBackSaid := over
#print axioms proved
end Go.Proofs.YtglmofbcooefkaaDoor.configBack
namespace Go.Proofs.YtglmofbcooefkaaDoor
/-- The row, under a short name, for the claim. -/
theorem configBack_holds : Rows.ConfigBackSaid := configBack.proved
end Go.Proofs.YtglmofbcooefkaaDoor

namespace Go.Proofs.YtglmofbcooefkaaDoor
open Go
/-- The tied card. -/
theorem configBackCard_holds : Rows.ConfigBackCardSaid :=
  Claim7.holds_tied_plain_at .later [] [.data, .data, .data, .data, .pinned] true (true, "21f1db7b7443936eee4ea70fe3395a97e9630f788e1246ee863ce1fef68a0da6") true
    configBack_holds (fun _ h => by cases h) (by kernel_rfl) (fun _ h => by cases h) configBack_row_tie rfl ⟨rfl, rfl⟩ (by kernel_rfl) rfl
    (fun f fn hf hfn => by
      obtain rfl : f = 4 := Option.some.inj ((show Tryd.prog.funcNamed "chainman/chainmanlaw38.ConfigBack" = some 4 by kernel_rfl).symm.trans hf) |>.symm
      obtain rfl : fn = Tryd.f4 := (Option.some.inj (Tryd.func4.symm.trans hfn)).symm
      exact ⟨by kernel_rfl, fun j t ht => by
        rw [Tryd.params4] at ht
        have hm : t ∈ [23, 32, 33] := by simpa using Array.mem_of_getElem? ht
        have hall : ([23, 32, 33].all fun u => !Tryd.prog.wantsStandIn u) = true := by kernel_rfl
        exact (show Tryd.prog.wantsStandIn t = false by simpa using List.all_eq_true.1 hall t hm)⟩)
    (by kernel_rfl)
#print axioms configBackCard_holds
end Go.Proofs.YtglmofbcooefkaaDoor
