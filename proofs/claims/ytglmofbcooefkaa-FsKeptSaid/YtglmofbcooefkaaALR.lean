/- Loops over functions: the statement, and a round of it. -/
import Derived.Test.YtglmofbcooefkaaAL15
namespace Go.Proofs.Ytglmofbcooefkaa.AL
set_option linter.unusedVariables false
set_option linter.unusedSimpArgs false
open Go

variable {G : Rnd} {ρ ρ' : Env} {h h' : AHeap} {w w' : World} {P : Program}

/-- A block that nobody knows of. -/
theorem evo_fresh (hR : Rel ρ h w) (o : Obj) : Evo ρ h w ρ h (w.alloc o) := by
  refine ⟨Nat.le_refl _, fun _ _ => rfl, by simp, ⟨rfl, rfl, rfl⟩, fun c hc hn => ⟨?_, hn⟩, fun l r hr => ⟨r, ?_⟩⟩
  · show (w.heap.push o)[c]? = _
    rw [Array.getElem?_push, if_neg (by omega)]
  · show (w.heap.push o)[l]? = _
    rw [Array.getElem?_push, if_neg (by have := lt_of_get hr; omega)]; exact hr
theorem rel_fresh (hR : Rel ρ h w) (o : Obj) : Rel ρ h (w.alloc o) :=
  ⟨fun b o' hb => (hR.obj b o' hb).evo (evo_fresh hR o) fun hd => by
    show (w.heap.push o)[_]? = _
    rw [Array.getElem?_push, if_neg (by have := hR.blk_lt hb hd; omega)], hR.inj⟩

/-- The record of a loop of ours is turned. -/
theorem turn_loop (hR : Rel ρ h w) {b : Nat} {st : LoopState} {pend : Option Code} {a : List AVal} {ps : Array Tmp} {x y : Code} (hb : h[b]? = some (.loop st pend a ps x y)) {o : AObj} {r' : Loop}
    (ho : ∀ r : Loop, w.heap[(ρ b).blk]? = some (.loop r) → o = .dead ∨ o = .loop r'.state r'.pending a ps x y ∧ r'.tmps = r.tmps ∧ r'.params = r.params ∧ r'.assign = r.assign ∧ r'.body = r.body) :
    Evo ρ h w ρ (h.set b o) (w.putObj (ρ b).blk (.loop r')) ∧ Rel ρ (h.set b o) (w.putObj (ρ b).blk (.loop r')) := by
  have hobj := hR.obj b _ hb
  obtain ⟨r, hr, h1, h2, h3, h4, h5, h6, h7⟩ := hobj
  have hne : (AObj.loop st pend a ps x y) ≠ .dead := by simp
  have hsz : w.heap.size ≤ (w.putObj (ρ b).blk (.loop r')).heap.size := by simp
  have hoth : ∀ c, c ≠ (ρ b).blk → (w.putObj (ρ b).blk (.loop r')).heap[c]? = w.heap[c]? := fun c hc => World.putObj_heap_other hc
  have hk : ∀ r : Loop, w.heap[(ρ b).blk]? = some (Obj.loop r) → ∃ r2 : Loop, (w.putObj (ρ b).blk (.loop r')).heap[(ρ b).blk]? = some (Obj.loop r2) := fun r hr => ⟨r', World.putObj_heap_same (lt_of_get hr)⟩
  have e : Evo ρ h w ρ (h.set b o) (w.putObj (ρ b).blk (.loop r')) := evo_set hR hb hne ⟨rfl, rfl, rfl⟩ hsz hoth hk
  refine ⟨e, hR.set hb hne ⟨rfl, rfl, rfl⟩ hsz hoth hk ?_⟩
  rcases ho r hr with rfl | ⟨rfl, g1, g2, g3, g4⟩
  · trivial
  · exact ⟨r', World.putObj_heap_same (lt_of_get hr), rfl, rfl, g2.trans h3, g3.trans h4, g4.trans h5, by rw [g1]; exact h6, fun i hi => by rw [g1]; exact (h7 i hi).evo e⟩

/-- What is asked of a loop over a function: the one call, with yield; then what is pending. -/
def ARange (P : Program) (g : Operand) (ps : Array Tmp) (assign body : Code) (Q : AQ) (a : List AVal) (h : AHeap) : Prop :=
  match aEval a g with
  | .fn (.func i) vs us => callable P i = true ∧ ACalls P i (vs ++ [.yld h.length] ++ us) (h ++ [.loop .ready none a ps assign body]) fun e h2 => match e with
    | .ret _ => ∃ st pend a' ps' x y, h2[h.length]? = some (.loop st pend a' ps' x y) ∧ st ≠ .busy ∧ match pend with
      | none => Q .normal a (h2.set h.length .dead)
      | some c => AWp P c Q a (h2.set h.length .dead)
    | .panic c => Q (.panic c) a h2
  | _ => False

theorem run_rangeCall {ca : Act} {g : Operand} {l i : Nat} {us xs : Array Value} {w : World} (hf : ca.eval g = .func (.func i) us xs) (hc : callable P i = true) :
    ∃ d, (resolve ca.eval (rangeCall g l) 0).run P w = .ok d w ∧ (invoke d.target d.args).run P w = .ok (.enter i (us ++ #[.func (.yield l) #[] #[]] ++ xs)) w := by
  unfold callable at hc
  cases hfn : P.funcs[i]? with
  | none => rw [hfn] at hc; simp at hc
  | some fn =>
    rw [hfn] at hc
    simp only [Bool.and_eq_true, Bool.not_eq_true'] at hc
    obtain ⟨h1, h2⟩ := hc
    have h3 : fn.body.isNone = false := by cases hb : fn.body <;> simp_all
    refine ⟨{ target := .fn (.func i) xs, args := us ++ #[.func (.yield l) #[] #[]] }, ?_, ?_⟩
    · simp only [rangeCall, resolve, List.map_toArray, List.map_cons, List.map_nil]
      rw [hf]; rfl
    · simp only [invoke, callFunc, Sem.run_bind, run_program, Result.andThen_ok, hfn, h1, h3, Bool.false_eq_true, if_false, Sem.run_pure]

theorem awp_rangeFunc {g : Operand} {ps : Array Tmp} {assign body : Code} {Q : AQ} {a : List AVal} (hA : ARange P g ps assign body Q a h) : AWp P (.rangeFunc g ps assign body) Q a h := by
  intro G ρ w ca hR ha
  unfold ARange at hA
  split at hA
  · rename_i i vs us hg
    obtain ⟨hc, hA⟩ := hA
    have hv := ha.eval g
    rw [hg] at hv
    generalize hu : ca.eval g = u at hv
    cases hv with | fn _ _ _ us' xs hl hl' hv hw =>
    -- the world in which the record lies, told of whatever record and whatever marks
    have main : ∀ (fn : FuncId) (w0 : World) (D : Nat) (mark : List Deferred), Evo ρ h w ρ h w0 → Rel ρ h w0 → (Instr.enterLoop fn ca.tmps ps assign body (FW G.ro).round).run P w = .ok (w0.heap.size, mark) (w0.alloc (.loop { state := .ready, pending := none, fn, tmps := ca.tmps, params := ps, assign, body, defers := D })) →
        ARest G ρ h w0 (mark ++ ca.defers) → ∃ (l : Nat) (mark : List Deferred) (w₁ : World) (d : Deferred) (w₁' : World) (f : FuncId) (args : Array Value) (w₂ : World),
      (Instr.enterLoop fn ca.tmps ps assign body (FW G.ro).round).run P w = .ok (l, mark) w₁ ∧
      (resolve ca.eval (rangeCall g l) 0).run P w₁ = .ok d w₁' ∧
      (∀ f', Target.leads P w₁' d.target d.args = some f' → (FW G.ro).fn f') ∧
      (invoke d.target d.args).run P w₁' = .ok (.enter f args) w₂ ∧
      ((FW G.ro).depth.isSome = true → 1 ≤ 0) ∧
      CallsIn (FW G.ro) (0 - 1) P f args w₂ (rangePost (FW G.ro) 0 P l (fun e ca' w' => ∃ ρ' h' a', Evo ρ h w ρ' h' w' ∧ Rel ρ' h' w' ∧ AR G ρ' h' w' a' ca' ∧ Q e a' h') { ca with defers := mark ++ ca.defers }) := by
      intro fn w0 D mark e0 R0 hrun hrest
      let rc : Loop := { state := .ready, pending := none, fn, tmps := ca.tmps, params := ps, assign, body, defers := D }
      let ρ1 := ext ρ h.length ⟨w0.heap.size, 0, 0⟩
      have e1 : Evo ρ h w0 ρ1 (h ++ [.loop .ready none a ps assign body]) (w0.alloc (.loop rc)) := evo_push (o := .loop .ready none a ps assign body) (co := .loop rc) (l := ⟨w0.heap.size, 0, 0⟩) R0 rfl
      have R1 : Rel ρ1 (h ++ [.loop .ready none a ps assign body]) (w0.alloc (.loop rc)) := R0.push (o := .loop .ready none a ps assign body) (co := .loop rc) (l := ⟨w0.heap.size, 0, 0⟩) rfl
        ⟨rc, by show (w0.heap.push _)[w0.heap.size]? = _; simp, rfl, rfl, rfl, rfl, rfl, ha.size, fun j hj => ((ha.slot j hj).evo e0).evo e1⟩
      obtain ⟨d, h1, h2⟩ := run_rangeCall (P := P) (l := w0.heap.size) (w := w0.alloc (.loop rc)) hu hc
      refine ⟨w0.heap.size, mark, _, d, _, i, _, _, hrun, h1, fun _ _ => trivial, h2, fun hd => by simp at hd, ?_⟩
      have hargs : VRs ρ1 (h ++ [.loop .ready none a ps assign body]) (w0.alloc (.loop rc)) (vs ++ [.yld h.length] ++ us) (us' ++ #[.func (.yield w0.heap.size) #[] #[]] ++ xs) := by
        have hy : VR ρ1 (h ++ [.loop .ready none a ps assign body]) (w0.alloc (.loop rc)) (.yld h.length) (.func (.yield w0.heap.size) #[] #[]) := by
          have := VR.yld (ρ := ρ1) (h := h ++ [.loop .ready none a ps assign body]) (w := w0.alloc (.loop rc)) h.length (by simp)
          simpa [ρ1, ext] using this
        exact ((VRs.evo (e0.trans e1) ⟨hl, hv⟩).append (VRs.one hy)).append (VRs.evo (e0.trans e1) ⟨hl', hw⟩)
      refine (callsIn_fw (hA ρ1 _ _ R1 hargs)).mono ?_
      rintro e w3 ⟨ρ3, h3, e', ev, R3, hE, hq⟩
      have ev3 := (e0.trans e1).trans ev
      have hrest3 : ARest G ρ3 h3 w3 (mark ++ ca.defers) := by
        have hnew : ARest G ρ1 (h ++ [.loop .ready none a ps assign body]) (w0.alloc (.loop rc)) (mark ++ ca.defers) := hrest.evo e1
        exact hnew.evo ev
      have ha3 : AR G ρ3 h3 w3 a { ca with defers := mark ++ ca.defers } := ⟨ha.size, fun j hj => (ha.slot j hj).evo ev3, hrest3⟩
      cases hE with
      | panic c => exact ⟨ρ3, h3, a, ev3, R3, ha3, hq⟩
      | ret v u hvu =>
        obtain ⟨st, pend, a', ps', x, y, hb, hst, hq⟩ := hq
        obtain ⟨r, hr, g1, g2, g3, g4, g5, g6, g7⟩ := R3.obj _ _ hb
        have hblk : (ρ3 h.length).blk = w0.heap.size := by
          rw [ev.env h.length (by simp)]; simp [ρ1, ext]
        rw [hblk] at hr
        have hend := run_endLoop (P := P) hr (by rw [g1]; exact hst)
        obtain ⟨e4, R4⟩ := turn_loop (o := .dead) (r' := { r with state := .exhausted }) R3 hb (fun _ _ => .inl rfl)
        rw [hblk] at e4 R4
        have ha4 := ha3.evo e4
        refine ⟨_, _, hend, ?_⟩
        rw [← g2] at hq
        have fin : ∀ pd : Option Code, (match pd with
            | none => Q .normal a (h3.set h.length .dead)
            | some c => AWp P c Q a (h3.set h.length .dead)) → (match pd with
            | none => ∃ ρ' h' a', Evo ρ h w ρ' h' (w3.putObj w0.heap.size (.loop { r with state := .exhausted })) ∧ Rel ρ' h' (w3.putObj w0.heap.size (.loop { r with state := .exhausted })) ∧ AR G ρ' h' (w3.putObj w0.heap.size (.loop { r with state := .exhausted })) a' { ca with defers := mark ++ ca.defers } ∧ Q .normal a' h'
            | some c => c.wpIn (FW G.ro) 0 P (fun e ca' w' => ∃ ρ' h' a', Evo ρ h w ρ' h' w' ∧ Rel ρ' h' w' ∧ AR G ρ' h' w' a' ca' ∧ Q e a' h') { ca with defers := mark ++ ca.defers } (w3.putObj w0.heap.size (.loop { r with state := .exhausted }))) := by
          intro pd hq
          cases pd with
          | none => exact ⟨ρ3, _, a, ev3.trans e4, R4, ha4, hq⟩
          | some c =>
            refine wpIn_mono (hq G ρ3 _ _ R4 ha4) ?_
            rintro e5 ca5 w5 ⟨ρ5, h5, a5, ev5, R5, ha5, hq5⟩
            exact ⟨ρ5, h5, a5, (ev3.trans e4).trans ev5, R5, ha5, hq5⟩
        exact fin _ hq
    refine wpIn_rangeFunc fun fn _ => ?_
    cases hro : G.ro with
    | none =>
      rw [hro] at main
      refine main fn (w.alloc (.deferred (some []))) w.heap.size [{ target := .collected w.heap.size, args := #[] }] (evo_fresh hR _) (rel_fresh hR _) ?_ ?_
      · have := run_enterLoop_outer (P := P) (w := w) fn ca.tmps ps assign body
        simpa using this
      · have hp := ha.plain.evo (evo_fresh hR (.deferred (some [])))
        refine ⟨List.nodup_cons.2 ⟨fun hm => ?_, hp.nodup⟩, fun d hd => ?_, hp.round, hp.lo⟩
        · obtain ⟨c, hc1, _, hc3, _⟩ := ha.plain.marks _ hm
          simp only [Deferred.mk.injEq, Target.collected.injEq, and_true] at hc1
          subst hc1
          have := lt_of_get hc3
          omega
        · rcases List.mem_cons.1 hd with rfl | hd
          · exact ⟨w.heap.size, rfl, ha.plain.lo, World.alloc_heap_new w _, fun ho => by have := owned_lt hR ho; omega⟩
          · exact hp.marks d hd
    | some l0 =>
      obtain ⟨r0, hr0⟩ := ha.plain.round l0 hro
      rw [hro] at main
      refine main fn w r0.defers [] (.refl ..) hR ?_ ha.plain
      unfold Instr.enterLoop
      simp only [Sem.run_bind, run_getLoop hr0, Result.andThen, Sem.run_pure, run_newObj_alloc]
  · exact hA.elim

/-- The round's own slots. -/
def aputs (a : List AVal) (ps : List Tmp) (args : List AVal) : List AVal := (ps.zip args).foldl (fun a p => aset a (some p.1) p.2) a

theorem aputs_vr : ∀ (ps : List Tmp) (a args : List AVal) (ts : Array Value) (us : List Value), a.length = ts.size → (∀ (i : Nat) (hi : i < a.length), VR ρ h w a[i] (ts.getD i undef)) → args.length = us.length → (∀ (i : Nat) (hi : i < args.length), VR ρ h w args[i] (us.getD i undef)) →
    (aputs a ps args).length = ((ps.zip us).foldl (fun (tmps : Array Value) (p : Tmp × Value) => tmps.setIfInBounds p.1 p.2) ts).size ∧ ∀ (i : Nat) (hi : i < (aputs a ps args).length), VR ρ h w (aputs a ps args)[i] (((ps.zip us).foldl (fun (tmps : Array Value) (p : Tmp × Value) => tmps.setIfInBounds p.1 p.2) ts).getD i undef)
  | [], a, args, ts, us, h1, h2, _, _ => ⟨h1, h2⟩
  | p :: ps, a, [], ts, [], h1, h2, _, _ => ⟨h1, h2⟩
  | p :: ps, a, v :: args, ts, u :: us, h1, h2, h3, h4 => by
    refine aputs_vr ps (aset a (some p) v) args (ts.setIfInBounds p u) us (by simp [aset, h1]) (fun i hi => ?_) (by simpa using h3) (fun i hi => by have := h4 (i + 1) (by simpa using hi); simpa using this)
    have hi' : i < a.length := by simpa [aset] using hi
    have hs : i < ts.size := by rw [← h1]; exact hi'
    have hvu : VR ρ h w v u := by have := h4 0 (by simp); simpa using this
    by_cases e : p = i
    · subst e
      simp [aset, Array.getD, hs, hvu]
    · have := h2 i hi'
      simpa [aset, Array.getD, hs, e, Array.getElem_setIfInBounds] using this
  | _ :: _, _, [], _, _ :: _, _, _, h3, _ => by simp at h3
  | _ :: _, _, _ :: _, _, [], _, _, h3, _ => by simp at h3

/-- How a round ends. -/
def ARoundPost (b : Nat) (R : AEnd → AHeap → Prop) : AQ
  | .normal, _, h => ∃ st p a ps x y, h[b]? = some (.loop st p a ps x y) ∧ R (.ret (.lit (.bool true))) (h.set b (.loop .ready none a ps x y))
  | .ret, _, h => ∃ st p a ps x y, h[b]? = some (.loop st p a ps x y) ∧ R (.ret (.lit (.bool false))) (h.set b (.loop .done (some .ret) a ps x y))
  | .exit id, _, h => ∃ st p a ps x y, h[b]? = some (.loop st p a ps x y) ∧ R (.ret (.lit (.bool false))) (h.set b (.loop .done (some (.exit id)) a ps x y))
  | .goto l, _, h => ∃ st p a ps x y, h[b]? = some (.loop st p a ps x y) ∧ R (.ret (.lit (.bool false))) (h.set b (.loop .done (some (.goto l)) a ps x y))
  | _, _, _ => False

theorem ayield_round {b : Nat} {p : Option Code} {a : List AVal} {ps : Array Tmp} {x y : Code} {args : List AVal} {R : AEnd → AHeap → Prop} (hb : h[b]? = some (.loop .ready p a ps x y)) (hn : args.length = ps.size)
    (hA : AWp P x (AThen (fun a1 h1 => ∃ p, h1[b]? = some (.loop .ready p a ps x y) ∧ AWp P y (ARoundPost b R) a1 (h1.set b (.loop .busy p a ps x y))) fun _ _ _ => False) (aputs a ps.toList args) h) : AYield P b args h R := by
  intro ρ w us hR hv
  obtain ⟨r, hr, g1, g2, g3, g4, g5, g6, g7⟩ := hR.obj _ _ hb
  have hbl : b < h.length := lt_of_getL hb
  have hus : us.size = r.params.size := by rw [g3, ← hn, hv.1]
  refine ⟨_, _, _, _, _root_.Go.run_yield (P := P) hr hus, ?_⟩
  rw [g4, g5]
  refine roundIn_of_wpIn (F := FW none) trivial ?_
  have htm := aputs_vr ps.toList a args r.tmps us.toList g6 g7 (by rw [hv.1]; simp) (fun i hi => by have := hv.2 i hi; simpa [Array.getD_eq_getD_getElem?, List.getD_eq_getElem?_getD] using this)
  have hfold : (r.params.zip us).foldl (fun tmps (x : Tmp × Value) => tmps.setIfInBounds x.1 x.2) r.tmps = (ps.toList.zip us.toList).foldl (fun (tmps : Array Value) (p : Tmp × Value) => tmps.setIfInBounds p.1 p.2) r.tmps := by
    rw [g3, ← Array.foldl_toList, Array.toList_zip]
  have hAR : AR ⟨some (ρ b).blk, 0⟩ ρ h w (aputs a ps.toList args) { tmps := (r.params.zip us).foldl (fun tmps (x : Tmp × Value) => tmps.setIfInBounds x.1 x.2) r.tmps, defers := [] } := by
    rw [hfold]
    exact ⟨htm.1, htm.2, List.nodup_nil, fun d hd => by simp at hd, fun l hl => by cases hl; exact ⟨r, hr⟩, Nat.zero_le _⟩
  have h0 := hA ⟨some (ρ b).blk, 0⟩ ρ w _ hR hAR
  refine wpIn_mono h0 ?_
  rintro e ca1 w1 ⟨ρ1, h1, a1, ev1, R1, ha1, hq⟩
  cases e with
  | normal =>
    obtain ⟨p1, hb1, hbody⟩ := hq
    obtain ⟨r1, hr1, k1, k2, k3, k4, k5, k6, k7⟩ := R1.obj _ _ hb1
    have hblk1 : (ρ1 b).blk = (ρ b).blk := by rw [ev1.env b hbl]
    rw [hblk1] at hr1
    obtain ⟨e2, R2⟩ := turn_loop (o := .loop .busy p1 a ps x y) (r' := { r1 with state := .busy }) R1 hb1 (fun r' hr' => by
      rw [hblk1, hr1] at hr'; cases hr'
      exact .inr ⟨by rw [k2], rfl, rfl, rfl, rfl⟩)
    rw [hblk1] at e2 R2
    refine ⟨_, run_beginRound (P := P) hr1 k1, ?_⟩
    refine wpIn_mono (hbody ⟨some (ρ b).blk, 0⟩ ρ1 _ ca1 R2 (ha1.evo e2)) ?_
    rintro e ca3 w3 ⟨ρ3, h3, a3, ev3, R3, ha3, hq3⟩
    have ev13 := (ev1.trans e2).trans ev3
    have hblk3 : (ρ3 b).blk = (ρ b).blk := by rw [ev13.env b hbl]
    have fin : ∀ (jump : Option Code) (o : AObj), (∃ st p a ps x y, h3[b]? = some (.loop st p a ps x y) ∧ R (.ret (.lit (.bool jump.isNone))) (h3.set b (.loop (if jump.isNone then .ready else .done) jump a ps x y))) →
        ∃ v w', (Instr.endRound (ρ b).blk jump).run P w3 = .ok v w' ∧ ∃ ρ' h' e', Evo ρ h w ρ' h' w' ∧ Rel ρ' h' w' ∧ EndR ρ' h' w' e' (.returned v) ∧ R e' h' := by
      rintro jump o ⟨st, p4, a4, ps4, x4, y4, hb4, hr4⟩
      obtain ⟨r4, hr4', m1, m2, m3, m4, m5, m6, m7⟩ := R3.obj _ _ hb4
      rw [hblk3] at hr4'
      obtain ⟨e4, R4⟩ := turn_loop (o := .loop (if jump.isNone then .ready else .done) jump a4 ps4 x4 y4) (r' := { r4 with state := if jump.isNone then .ready else .done, pending := jump }) R3 hb4 (fun r' hr' => by
        rw [hblk3, hr4'] at hr'; cases hr'
        exact .inr ⟨rfl, rfl, rfl, rfl, rfl⟩)
      rw [hblk3] at e4 R4
      exact ⟨_, _, run_endRound (P := P) jump hr4', ρ3, _, _, ev13.trans e4, R4, .ret _ _ (.lit _), hr4⟩
    cases e with
    | normal => exact fin none .dead hq3
    | ret => exact fin (some .ret) .dead hq3
    | exit id => exact fin (some (.exit id)) .dead hq3
    | goto l => exact fin (some (.goto l)) .dead hq3
    | panic c => exact hq3.elim
    | outgrown => exact hq3.elim
  | exit id => exact hq.elim
  | goto l => exact hq.elim
  | ret => exact hq.elim
  | panic c => exact hq.elim
  | outgrown => exact hq.elim
end Go.Proofs.Ytglmofbcooefkaa.AL
