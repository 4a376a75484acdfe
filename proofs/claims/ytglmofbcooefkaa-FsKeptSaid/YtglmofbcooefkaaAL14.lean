/- A region, a call, a body: the rules for code. -/
import Derived.Test.YtglmofbcooefkaaAL13
namespace Go.Proofs.Ytglmofbcooefkaa.AL
set_option linter.unusedVariables false
set_option linter.unusedSimpArgs false
open Go

variable {G : Rnd} {ρ ρ' : Env} {h h' : AHeap} {w w' : World} {P : Program}

def AGuard (ops : Array Oper) (o : Oper) (a : List AVal) (yes no : Prop) : Prop :=
  match o.guard with
  | none => yes
  | some (j, want) => match (ops[j]?).bind (·.dst) with
    | some d => match aget a d with
      | .lit (.bool b) => (b = want → yes) ∧ (b = !want → no)
      | _ => False
    | none => False

def callable (P : Program) (i : FuncId) : Bool := match P.funcs[i]? with
  | some fn => !(fn.name == "runtime.NumGoroutine") && fn.body.isSome
  | none => false

/-- A call of yield, of the loop whose record is our object 'b'. -/
def AYield (P : Program) (b : Nat) (args : List AVal) (h : AHeap) (R : AEnd → AHeap → Prop) : Prop :=
  ∀ (ρ : Env) (w : World) (us : Array Value), Rel ρ h w → VRs ρ h w args us →
    YieldAt (FW none) 0 P (ρ b).blk us w fun e w' => ∃ ρ' h' e', Evo ρ h w ρ' h' w' ∧ Rel ρ' h' w' ∧ EndR ρ' h' w' e' e ∧ R e' h'

theorem AYield.mono {b : Nat} {args : List AVal} {R R' : AEnd → AHeap → Prop} (hc : AYield P b args h R) (hr : ∀ e h', R e h' → R' e h') : AYield P b args h R' := fun ρ w us hR hv => by
  obtain ⟨fn, tmps, assign, body, h1, h2⟩ := hc ρ w us hR hv
  exact ⟨fn, tmps, assign, body, h1, h2.mono fun _ _ ⟨ρ', h', e', g1, g2, g3, g4⟩ => ⟨ρ', h', e', g1, g2, g3, hr _ _ g4⟩⟩

/-- What a call of a Go function asks. -/
def ACall (P : Program) (f : AVal) (xs : List AVal) (a : List AVal) (dst : Option Nat) (h : AHeap) (K : List AVal → AHeap → Prop) (Q : AQ) : Prop :=
  match f with
  | .fn (.func i) vs ws => callable P i = true ∧ ACalls P i (vs ++ xs ++ ws) h fun e h' => match e with
    | .ret v => K (aset a dst v) h'
    | .panic c => Q (.panic c) a h'
  | .yld b => AYield P b xs h fun e h' => match e with
    | .ret v => K (aset a dst v) h'
    | .panic c => Q (.panic c) a h'
  | _ => False

def AOper (P : Program) (o : Oper) (a : List AVal) (h : AHeap) (K : List AVal → AHeap → Prop) (Q : AQ) : Prop :=
  match o.op with
  | .call { callee := .value f, args, argTypes } => ACall P (aEval a f) (evs a args) a o.dst h K Q
  | op => AOp P op o.type a h fun v h' => K (aset a o.dst v) h'

def AOps (P : Program) (ops : Array Oper) (Q : AQ) : List Oper → List AVal → AHeap → Prop
  | [], a, h => Q .normal a h
  | o :: rest, a, h => AGuard ops o a (AOper P o a h (AOps P ops Q rest) Q) (AOps P ops Q rest (aset a o.dst .any) h)

/-- What stands for what is said of an end. -/
def Post (G : Rnd) (ρ : Env) (h : AHeap) (w : World) (Q : AQ) (e : Exit) (ca : Act) (w' : World) : Prop :=
  ∃ ρ' h' a', Evo ρ h w ρ' h' w' ∧ Rel ρ' h' w' ∧ AR G ρ' h' w' a' ca ∧ Q e a' h'

theorem Post.evo {Q : AQ} {e : Exit} {ca : Act} {w1 w2 : World} (ev : Evo ρ h w ρ' h' w1) (hp : Post G ρ' h' w1 Q e ca w2) : Post G ρ h w Q e ca w2 := by
  obtain ⟨ρ2, h2, a2, e2, r⟩ := hp
  exact ⟨ρ2, h2, a2, ev.trans e2, r⟩

theorem run_enter {ca : Act} {f : Operand} {args : Array Operand} {argTypes : Array TypeId} {ty : TypeId} {i : FuncId} {us xs : Array Value} (hf : ca.eval f = .func (.func i) us xs) (hc : callable P i = true) :
    (do let d ← resolve ca.eval { callee := .value f, args, argTypes } ty; invoke d.target d.args : Sem Next).run P w = .ok (.enter i (us ++ args.map ca.eval ++ xs)) w := by
  unfold callable at hc
  simp only [resolve, hf, Deferred.ofValue, Sem.run_bind, Sem.run_pure, Result.andThen_ok, invoke, callFunc, run_program]
  cases hfn : P.funcs[i]? with
  | none => rw [hfn] at hc; simp at hc
  | some fn =>
    rw [hfn] at hc
    simp only [Bool.and_eq_true, Bool.not_eq_true'] at hc
    obtain ⟨h1, h2⟩ := hc
    have h3 : fn.body.isNone = false := by cases hb : fn.body <;> simp_all
    simp only [h1, h3, Bool.false_eq_true, if_false, Sem.run_pure]

theorem run_yield {ca : Act} {f : Operand} {args : Array Operand} {argTypes : Array TypeId} {ty : TypeId} {l : Nat} (hf : ca.eval f = .func (.yield l) #[] #[]) :
    (do let d ← resolve ca.eval { callee := .value f, args, argTypes } ty; invoke d.target d.args : Sem Next).run P w = (Instr.yield l (args.map ca.eval)).run P w := by
  simp only [resolve, hf, Deferred.ofValue, Sem.run_bind, Sem.run_pure, Result.andThen_ok, invoke, Array.empty_append]

theorem owp_of {G : Rnd} {o : Oper} {ca : Act} {K : Act → World → Prop} {Q : Exit → Act → World → Prop} (hd : ∀ c, o.op ≠ .defer c) (h : o.uponIn (FW G.ro) 0 P ca K Q ((execOp ca.eval o).run P w)) : o.wpIn (FW G.ro) 0 P ca w K Q :=
  ⟨fun _ _ => trivial, by rw [Oper.semAt_eq _ _ _ hd]; exact h⟩

theorem evs_args {vs ws : List AVal} {us xs : Array Value} {a : List AVal} {ca : Act} (ha : AR G ρ h w a ca) (args : Array Operand) (h1 : VRs ρ h w vs us) (h2 : VRs ρ h w ws xs) :
    VRs ρ h w (vs ++ evs a args ++ ws) (us ++ args.map ca.eval ++ xs) := (h1.append (ha.evs args)).append h2

theorem aOper_sound {o : Oper} {a : List AVal} {ca : Act} {K : List AVal → AHeap → Prop} {Q : AQ} {K' : Act → World → Prop} {Q' : Exit → Act → World → Prop} (hR : Rel ρ h w) (ha : AR G ρ h w a ca) (hK : AOper P o a h K Q)
    (hk : ∀ ρ' h' w' a' ca', Evo ρ h w ρ' h' w' → Rel ρ' h' w' → AR G ρ' h' w' a' ca' → K a' h' → K' ca' w')
    (hq : ∀ c ρ' h' w' a' ca', Evo ρ h w ρ' h' w' → Rel ρ' h' w' → AR G ρ' h' w' a' ca' → Q (.panic c) a' h' → Q' (.panic c) ca' w') : o.wpIn (FW G.ro) 0 P ca w K' Q' := by
  unfold AOper at hK
  split at hK
  · rename_i f args argTypes hop
    unfold ACall at hK
    split at hK
    · rename_i i vs ws hf
      obtain ⟨hc, hK⟩ := hK
      have hv := ha.eval f
      rw [hf] at hv
      generalize hu : ca.eval f = u at hv
      cases hv with | fn _ _ _ us xs hl hl' hv hw =>
      have hrun := run_enter (P := P) (w := w) (args := args) (argTypes := argTypes) (ty := o.type) hu hc
      have hx : execOp ca.eval o = (do let d ← resolve ca.eval { callee := .value f, args, argTypes } o.type; invoke d.target d.args) := by unfold execOp; rw [hop]
      refine owp_of (fun c hc => by rw [hop] at hc; cases hc) ?_
      rw [hx, hrun]
      rw [Oper.uponIn_enter]
      refine ⟨fun h => (by simp at h), (callsIn_fw (hK ρ w _ hR (evs_args ha args ⟨hl, hv⟩ ⟨hl', hw⟩))).mono ?_⟩
      rintro e w' ⟨ρ', h', e', ev, hR', hE, hr⟩
      cases hE with
      | ret v u hvu => exact hk _ _ _ _ _ ev hR' ((ha.evo ev).put hvu o.dst) hr
      | panic c => exact hq _ _ _ _ _ _ ev hR' (ha.evo ev) hr
    · rename_i b hf
      have hv := ha.eval f
      rw [hf] at hv
      generalize hu : ca.eval f = u at hv
      cases hv with | yld _ hb =>
      have hrun := run_yield (P := P) (w := w) (args := args) (argTypes := argTypes) (ty := o.type) hu
      have hx : execOp ca.eval o = (do let d ← resolve ca.eval { callee := .value f, args, argTypes } o.type; invoke d.target d.args) := by unfold execOp; rw [hop]
      refine owp_of (fun c hc => by rw [hop] at hc; cases hc) ?_
      obtain ⟨fn, tmps, assign, body, h1, h2⟩ := hK ρ w _ hR (ha.evs args)
      rw [hx, hrun, h1, Oper.uponIn_round]
      refine ⟨fun h => (by simp at h), RoundIn.mono (F := FW G.ro) h2 ?_⟩
      rintro e w' ⟨ρ', h', e', ev, hR', hE, hr⟩
      cases hE with
      | ret v u hvu => exact hk _ _ _ _ _ ev hR' ((ha.evo ev).put hvu o.dst) hr
      | panic c => exact hq _ _ _ _ _ _ ev hR' (ha.evo ev) hr
    · exact hK.elim
  · have hnd : ∀ c, o.op ≠ .defer c := fun c hc => by rw [hc] at hK; exact hK
    obtain ⟨ρ', h', w', v, u, h1, ev, hR', hvu, hr⟩ := aOp_sound hR ha hK
    refine owp_of hnd ?_
    rcases h1 with h1 | ⟨h1, rfl⟩
    · rw [h1, Oper.uponIn_value]
      exact hk _ _ _ _ _ ev hR' ((ha.evo ev).put hvu o.dst) hr
    · rw [h1, Oper.uponIn_skip]
      exact hk _ _ _ _ _ ev hR' ((ha.evo ev).put hvu o.dst) hr

theorem yielded_of {ops : Array Oper} {a : List AVal} {ca : Act} {j d : Nat} {b : Bool} (ha : AR G ρ h w a ca) (hd : (ops[j]?).bind (·.dst) = some d) (hb : aget a d = .lit (.bool b)) : yielded ops ca.tmps j = some b := by
  unfold aget at hb
  have hlt : d < a.length := by
    rcases Nat.lt_or_ge d a.length with h1 | h1
    · exact h1
    · simp [List.getD, List.getElem?_eq_none h1] at hb
  have hs := ha.slot d hlt
  have hb' : a[d] = .lit (.bool b) := by simpa [List.getD, List.getElem?_eq_getElem hlt] using hb
  rw [hb'] at hs
  have h2 : d < ca.tmps.size := by rw [← ha.size]; exact hlt
  simp only [Array.getD, h2, dif_pos] at hs
  have h3 : ca.tmps[d] = .bool b := by
    have h4 : ca.tmps.getInternal d h2 = ca.tmps[d] := rfl
    rw [h4] at hs
    generalize ca.tmps[d] = z at hs
    cases hs; rfl
  simp only [yielded, hd, Option.bind_some, Array.getElem?_eq_getElem h2, h3]

theorem aOps_sound {ops : Array Oper} {Q : AQ} {ρ0 : Env} {h0 : AHeap} {w0 : World} : ∀ (n k : Nat) (a : List AVal) (h : AHeap) (ρ : Env) (w : World) (ca : Act), ops.size - k = n → Evo ρ0 h0 w0 ρ h w → Rel ρ h w → AR G ρ h w a ca →
    AOps P ops Q (ops.toList.drop k) a h → wpOpsIn (FW G.ro) 0 P ops (Post G ρ0 h0 w0 Q) (List.range' k (ops.size - k)) ca w := by
  intro n
  induction n with
  | zero =>
    intro k a h ρ w ca hn e0 hR ha hA
    have hd : ops.toList.drop k = [] := List.drop_eq_nil_of_le (by simp; omega)
    rw [hd] at hA
    rw [hn]
    exact ⟨ρ, h, a, e0, hR, ha, hA⟩
  | succ n ih =>
    intro k a h ρ w ca hn e0 hR ha hA
    have hk : k < ops.size := by omega
    have hd : ops.toList.drop k = ops[k] :: ops.toList.drop (k + 1) := by
      rw [List.drop_eq_getElem_cons (by simpa using hk)]; simp
    rw [hd] at hA
    have hr : List.range' k (ops.size - k) = k :: List.range' (k + 1) (ops.size - (k + 1)) := by
      have : ops.size - k = (ops.size - (k + 1)) + 1 := by omega
      rw [this, List.range'_succ]
    rw [hr]
    simp only [wpOpsIn, Array.getElem?_eq_getElem hk]
    have yes : AOper P ops[k] a h (AOps P ops Q (ops.toList.drop (k + 1))) Q → ops[k].wpIn (FW G.ro) 0 P ca w (wpOpsIn (FW G.ro) 0 P ops (Post G ρ0 h0 w0 Q) (List.range' (k + 1) (ops.size - (k + 1)))) (Post G ρ0 h0 w0 Q) := fun hA =>
      aOper_sound hR ha hA (fun ρ' h' w' a' ca' ev hR' ha' hK => ih (k + 1) a' h' ρ' w' ca' (by omega) (e0.trans ev) hR' ha' hK)
        (fun c ρ' h' w' a' ca' ev hR' ha' hq => ⟨ρ', h', a', e0.trans ev, hR', ha', hq⟩)
    have no : AOps P ops Q (ops.toList.drop (k + 1)) (aset a ops[k].dst .any) h → wpOpsIn (FW G.ro) 0 P ops (Post G ρ0 h0 w0 Q) (List.range' (k + 1) (ops.size - (k + 1))) (ca.put ops[k].dst undef) w := fun hA =>
      ih (k + 1) _ h ρ w _ (by omega) e0 hR (ha.put (.any _) _) hA
    simp only [AOps, AGuard] at hA
    split at hA
    · rename_i hg
      have hw : Region.wanted ops[k] (yielded ops ca.tmps) = true := by unfold Region.wanted; rw [hg]
      rw [if_pos hw]
      exact yes hA
    · rename_i j want hg
      split at hA
      · rename_i d hdst
        split at hA
        · rename_i b hb
          have hy := yielded_of ha hdst hb
          by_cases hbw : b = want
          · have hw : Region.wanted ops[k] (yielded ops ca.tmps) = true := by unfold Region.wanted; rw [hg]; simp [hy, hbw]
            rw [if_pos hw]
            exact yes (hA.1 hbw)
          · have hw : ¬ Region.wanted ops[k] (yielded ops ca.tmps) = true := by unfold Region.wanted; rw [hg]; simp [hy, hbw]
            rw [if_neg hw]
            refine ⟨fun _ _ => trivial, ?_⟩; exact no (hA.2 (by cases b <;> cases want <;> simp_all))
        · exact hA.elim
      · exact hA.elim

theorem awp_region {id : Nat} {ops : Array Oper} {Q : AQ} {a : List AVal} (hA : AOps P ops Q ops.toList a h) : AWp P (.region id ops false) Q a h := by
  intro G ρ w ca hR ha
  refine wpIn_region ?_
  have := aOps_sound (G := G) (P := P) ops.size 0 a h ρ w ca rfl (.refl ρ h w) hR ha (by simpa using hA)
  rw [List.range_eq_range']
  rw [Nat.sub_zero] at this
  exact this

theorem awp_cond {c : Operand} {x y : Code} {Q : AQ} {a : List AVal} {b : Bool} (hc : aEval a c = .lit (.bool b)) (ht : b = true → AWp P x Q a h) (hf : b = false → AWp P y Q a h) : AWp P (.cond c x y) Q a h := by
  intro G ρ w ca hR ha
  have hv := ha.eval c
  rw [hc] at hv
  generalize hu : ca.eval c = u at hv
  cases hv
  exact wpIn_cond_split hu (fun h1 => ht h1 G ρ w ca hR ha) (fun h1 => hf h1 G ρ w ca hR ha)

/-- The results of a function. -/
def aResults (P : Program) (fn : Func) (a : List AVal) (h : AHeap) (K : AVal → Prop) : Prop :=
  go fn.results.toList [] K
where
  go : List ResultVar → List AVal → (AVal → Prop) → Prop
    | [], [v], K => K v
    | [], vs, K => K (.tup vs)
    | .tmp t :: rs, vs, K => go rs (vs ++ [aget a t]) K
    | .cell c t :: rs, vs, K => aLoad P t h (aget a c) fun v => go rs (vs ++ [v]) K

def resOne (ca : Act) : ResultVar → Sem Value
  | .tmp t => pure (ca.tmps.getD t undef)
  | .cell a t => do loadVar t (← asAddr (ca.tmps.getD a undef))

theorem loadAt_asAddr {t : TypeId} {u y : Value} (h : (Instr.loadAt t u).run P w = .ok y w) (hu : ∃ x, u = .pointer (some x)) : (do loadVar t (← asAddr u) : Sem Value).run P w = .ok y w := by
  obtain ⟨x, rfl⟩ := hu
  simpa [Instr.loadAt, Instr.sureAddr, asAddr] using h

theorem aResults_go {a : List AVal} {ca : Act} (hR : Rel ρ h w) (ha : AR G ρ h w a ca) : ∀ (rs : List ResultVar) (vs : List AVal) (us : List Value) (K : AVal → Prop), VRs ρ h w vs us.toArray → aResults.go P a h rs vs K →
    ∃ (xs : List Value) (v : AVal), (rs.mapM (resOne ca)).run P w = .ok xs w ∧ VR ρ h w v (if hh : (us ++ xs).toArray.size = 1 then (us ++ xs).toArray[0] else .tuple (us ++ xs).toArray) ∧ K v := by
  intro rs
  induction rs with
  | nil =>
    intro vs us K hv hg
    refine ⟨[], ?_⟩
    simp only [List.append_nil]
    match vs, hg with
    | [], hg =>
      have h0 : us = [] := List.eq_nil_of_length_eq_zero (by simpa using hv.1.symm)
      subst h0
      exact ⟨_, by simp, by simpa using VR.tup [] #[] rfl (fun i hi => by simp at hi), hg⟩
    | [v], hg =>
      obtain ⟨u, hu, h1⟩ := hv.single
      have : us = [u] := by simpa using hu
      subst this
      exact ⟨v, by simp, by simpa using h1, hg⟩
    | v1 :: v2 :: vs, hg =>
      have hl := hv.1
      refine ⟨_, by simp, ?_, hg⟩
      rw [dif_neg (by rw [← hl]; simp)]
      exact .tup _ _ hv.1 hv.2
  | cons r rs ih =>
    intro vs us K hv hg
    cases r with
    | tmp t =>
      have hx : VR ρ h w (aget a t) (ca.tmps.getD t undef) := ha.eval (.tmp t)
      have hv2 : VRs ρ h w (vs ++ [aget a t]) (us ++ [ca.tmps.getD t undef]).toArray := by
        have := hv.append (VRs.one hx)
        simpa using this
      obtain ⟨xs, v, h1, h2, h3⟩ := ih _ _ K hv2 hg
      refine ⟨ca.tmps.getD t undef :: xs, v, ?_, by simpa using h2, h3⟩
      simp only [List.mapM_cons, resOne, Sem.run_bind, Sem.run_pure, Result.andThen_ok, h1]
    | cell c t =>
      simp only [aResults.go] at hg
      have hx : VR ρ h w (aget a c) (ca.tmps.getD c undef) := ha.eval (.tmp c)
      obtain ⟨x, y, g1, g2, g3⟩ := aLoad_sound (P := P) hR hx hg
      have hv2 : VRs ρ h w (vs ++ [x]) (us ++ [y]).toArray := by
        have := hv.append (VRs.one g2)
        simpa using this
      obtain ⟨xs, v, h1, h2, h3⟩ := ih _ _ K hv2 g3
      refine ⟨y :: xs, v, ?_, by simpa using h2, h3⟩
      have hp : ∃ x, ca.tmps.getD c undef = .pointer (some x) := by
        generalize ca.tmps.getD c undef = u at hx g1
        revert g1
        cases u with
        | pointer p =>
          cases p with
          | some p => intro _; exact ⟨p, rfl⟩
          | none => intro g1; simp [Instr.loadAt, Instr.sureAddr] at g1
        | _ => intro g1; simp [Instr.loadAt, Instr.sureAddr] at g1
      have hrun := loadAt_asAddr g1 hp
      simp only [List.mapM_cons, resOne, Sem.run_bind, Sem.run_pure, Result.andThen_ok] at hrun ⊢
      rw [hrun]
      simp only [Result.andThen_ok, h1]

theorem aResults_sound {fn : Func} {a : List AVal} {ca : Act} {K : AVal → Prop} (hR : Rel ρ h w) (ha : AR G ρ h w a ca) (hK : aResults P fn a h K) :
    ∃ u v, (results fn ca.tmps).run P w = .ok u w ∧ VR ρ h w v u ∧ K v := by
  obtain ⟨xs, v, h1, h2, h3⟩ := aResults_go (P := P) hR ha fn.results.toList [] [] K ⟨rfl, fun i hi => by simp at hi⟩ hK
  refine ⟨_, v, ?_, h2, h3⟩
  unfold results
  rw [Sem.run_bind, Array.mapM_eq_mapM_toList]
  have key : ∀ f : ResultVar → Sem Value, (∀ r, f r = resOne ca r) → (List.mapM f fn.results.toList).run P w = .ok xs w := fun f hf => by rw [show f = resOne ca from funext hf]; exact h1
  rw [Sem.run_map, key _ (fun r => by cases r <;> rfl)]
  simp only [Result.andThen_ok, List.nil_append]
  split <;> rfl

/-- How a body ends: the results are read; what was the call's own is let go. -/
def ABody (P : Program) (fn : Func) (h0 : AHeap) (R : AEnd → AHeap → Prop) : AQ
  | .normal, a, h | .ret, a, h => aResults P fn a h fun v => AEnds h0 h (.ret v) R
  | .panic c, a, h => AEnds h0 h (.panic c) R
  | _, _, _ => False
where
  /-- The state is told anew: fewer objects, values that are weaker. -/
  AEnds (h0 h : AHeap) (e : AEnd) (R : AEnd → AHeap → Prop) : Prop :=
    ∃ h' e', h0.length ≤ h'.length ∧ R e' h' ∧ ∀ ρ w u, Rel ρ h w → EndR ρ h w e u → Fewer h' h ∧ Rel ρ h' w ∧ EndR ρ h' w e' u

/-- Marks that are taken up: blocks that nobody knows of, none from ahead of the call. -/
structure Shut (lo : Nat) (ρ : Env) (h : AHeap) (w w' : World) : Prop where
  same : Same w w'
  size : w'.heap.size = w.heap.size
  blk : ∀ c, w'.heap[c]? = w.heap[c]? ∨ (lo ≤ c ∧ ¬ Owned ρ h c ∧ ∃ x y, w.heap[c]? = some (.deferred x) ∧ w'.heap[c]? = some (.deferred y))

theorem Shut.refl (lo : Nat) (w : World) : Shut lo ρ h w w := ⟨.refl _, rfl, fun _ => .inl rfl⟩
theorem Shut.trans {lo : Nat} {a b c : World} (x : Shut lo ρ h a b) (y : Shut lo ρ h b c) : Shut lo ρ h a c := by
  refine ⟨x.same.trans y.same, y.size.trans x.size, fun k => ?_⟩
  rcases x.blk k with h1 | ⟨h1, h2, u, v, h3, h4⟩ <;> rcases y.blk k with g1 | ⟨g1, g2, u', v', g3, g4⟩
  · exact .inl (g1.trans h1)
  · exact .inr ⟨g1, g2, u', v', h1.symm.trans g3, g4⟩
  · exact .inr ⟨h1, h2, u, v, h3, g1.trans h4⟩
  · exact .inr ⟨h1, h2, u, v', h3, g4⟩

theorem Shut.at {lo : Nat} (x : Shut lo ρ h w w') {c : Nat} {o : Obj} (hc : w.heap[c]? = some o) (ho : ∀ x, o ≠ .deferred x) : w'.heap[c]? = some o := by
  rcases x.blk c with h1 | ⟨_, _, u, _, h3, _⟩
  · exact h1.trans hc
  · rw [hc] at h3; cases h3; exact absurd rfl (ho u)

theorem Shut.vr {lo : Nat} (x : Shut lo ρ h w w') {v : AVal} {u : Value} (hv : VR ρ h w v u) : VR ρ h w' v u := by
  induction hv with
  | any u => exact .any u
  | lit u => exact .lit u
  | ptr b off hb => exact .ptr b off hb
  | sl k b off len cap hb hl hc => exact .sl k b off len cap hb hl hc
  | rop cs c off C T fz hc hn hs _ ih => exact .rop cs c off C T fz (x.at hc (by simp)) hn hs ih
  | slZ k b off o hb => exact .slZ k b off o hb
  | rosZ cs hb a cap => exact .rosZ cs hb a cap
  | ros cs c off len cap C T fz hl hc hn hs _ ih => exact .ros cs c off len cap C T fz hl (x.at hc (by simp)) hn hs ih
  | agg vs us hl _ ih => exact .agg vs us hl ih
  | tup vs us hl _ ih => exact .tup vs us hl ih
  | fn f vs ws us xs hl hl' _ _ ih ih' => exact .fn f vs ws us xs hl hl' ih ih'
  | ifc t v u _ ih => exact .ifc t v u ih
  | map b hb => exact .map b hb
  | yld b hb => exact .yld b hb

theorem Shut.rel {lo : Nat} (x : Shut lo ρ h w w') (hR : Rel ρ h w) : Rel ρ h w' := by
  refine ⟨fun b o hb => ?_, hR.inj⟩
  have ho := hR.obj b o hb
  have own : o ≠ .dead → w'.heap[(ρ b).blk]? = w.heap[(ρ b).blk]? := fun hd => by
    rcases x.blk (ρ b).blk with h1 | ⟨_, h2, _⟩
    · exact h1
    · exact absurd ⟨b, o, hb, hd, rfl⟩ h2
  cases o with
  | dead => trivial
  | cells cs => obtain ⟨C, T, fz, hc, h1, h2, h3, h4⟩ := ho; exact ⟨C, T, fz, (own (by simp)).trans hc, h1, h2, h3, fun i hi => x.vr (h4 i hi)⟩
  | pred R => obtain ⟨o', hc, hr⟩ := ho; exact ⟨o', (own (by simp)).trans hc, hr⟩
  | map d es => obtain ⟨C, clock, hc, h1, h2, h3⟩ := ho; exact ⟨C, clock, (own (by simp)).trans hc, h1, h2, fun i hi => ⟨(h3 i hi).1, (h3 i hi).2.1, x.vr (h3 i hi).2.2⟩⟩
  | sit s pos => exact ⟨(own (by simp)).trans ho.1, ho.2⟩
  | mapS d es bs clock => obtain ⟨C, hc, h1, h0, h2, h3⟩ := ho; exact ⟨C, (own (by simp)).trans hc, h1, h0, h2, fun i hi => ⟨(h3 i hi).1, (h3 i hi).2.1, x.vr (h3 i hi).2.2⟩⟩
  | mit mb since seen c0 => exact ⟨ho.1, ho.2.1, (own (by simp)).trans ho.2.2⟩
  | loop st pend a ps p q => obtain ⟨r, hc, h1, h2, h3, h4, h5, h6, h7⟩ := ho; exact ⟨r, (own (by simp)).trans hc, h1, h2, h3, h4, h5, h6, fun i hi => x.vr (h7 i hi)⟩

theorem Shut.evo {ρ0 : Env} {h0 : AHeap} {w0 : World} {lo : Nat} (x : Shut lo ρ h w w') (hlo : w0.heap.size ≤ lo) (e : Evo ρ0 h0 w0 ρ h w) : Evo ρ0 h0 w0 ρ h w' :=
  ⟨e.ids, e.env, by rw [x.size]; exact e.size, e.same.trans x.same, fun c hc hn => ⟨by
    rcases x.blk c with h1 | ⟨h1, _⟩
    · exact h1.trans (e.keep c hc hn).1
    · omega, (e.keep c hc hn).2⟩, fun l r hr => let ⟨r', hr'⟩ := e.loops l r hr; ⟨r', x.at hr' (by simp)⟩⟩

/-- The marks are taken up, one by one; then the frame goes. -/
theorem leaves_marks {fn : Func} {tmps : Array Value} {R : Ending → World → Prop} {lo : Nat} {u : FrameMode} (hu : u ≠ .run) : ∀ (ds : List Deferred) (w : World), ds.Nodup →
    (∀ d ∈ ds, ∃ c, d = { target := .collected c, args := #[] } ∧ lo ≤ c ∧ w.heap[c]? = some (.deferred (some [])) ∧ ¬ Owned ρ h c) →
    (∀ w', Shut lo ρ h w w' → LeavesIn (FW none) 0 P fn tmps R [] u w') → LeavesInM (FW none) 0 P fn tmps R ds u w
  | [], w, _, _, hk => hk w (.refl lo w)
  | d :: ds, w, hn, hm, hk => by
    obtain ⟨c, rfl, hlo, hc, ho⟩ := hm d (List.mem_cons_self ..)
    have hn' := List.nodup_cons.1 hn
    have hs : Shut lo ρ h w (w.putObj c (.deferred none)) := by
      refine ⟨⟨rfl, rfl, rfl⟩, by simp, fun k => ?_⟩
      by_cases hkc : k = c
      · subst hkc; exact .inr ⟨hlo, ho, _, _, hc, World.putObj_heap_same (lt_of_get hc)⟩
      · exact .inl (World.putObj_heap_other hkc)
    refine ⟨hu, .inl ⟨c, _, rfl, run_takeDeferred hc, leaves_marks hu ds _ hn'.2 (fun d hd => ?_) fun w' hw' => hk w' (hs.trans hw')⟩⟩
    obtain ⟨c', rfl, h1, h2, h3⟩ := hm d (List.mem_cons_of_mem _ hd)
    have hne : c' ≠ c := fun e => by subst e; exact hn'.1 hd
    exact ⟨c', rfl, h1, (World.putObj_heap_other hne).trans h2, h3⟩

theorem acalls_body {f : FuncId} {fn : Func} {c : Code} {args : List AVal} {R : AEnd → AHeap → Prop} (hf : P.funcs[f]? = some fn) (hb : fn.body = some c)
    (hc : AWp P c (ABody P fn h R) (args ++ List.replicate (fn.ntmps - args.length) .any) h) : ACalls P f args h R := by
  intro ρ w us hR hv
  refine (callsIn_wide (n := 0)).1 (callsIn_of_wp_marks (F := FW none) hf hb trivial (wpIn_mono (hc ⟨none, w.heap.size⟩ ρ w _ hR ?_) ?_) rfl)
  · refine ⟨by simp [hv.1], fun i hi => ?_, ⟨List.nodup_nil, fun d hd => by simp at hd, fun l hl => (by cases hl), Nat.le_refl _⟩⟩
    rcases Nat.lt_or_ge i args.length with h1 | h1
    · rw [List.getElem_append_left h1]
      have := hv.2 i h1
      have h2 : i < us.size := by rw [← hv.1]; exact h1
      have h3 : i < (us ++ Array.replicate (fn.ntmps - us.size) undef).size := by simp; omega
      simp only [Array.getD, h2, h3, dif_pos] at this ⊢
      show VR ρ h w _ ((us ++ Array.replicate (fn.ntmps - us.size) undef)[i])
      rw [Array.getElem_append_left h2]
      exact this
    · rw [List.getElem_append_right h1, List.getElem_replicate]; exact .any _
  · rintro e ca w' ⟨ρ', h', a', ev, hR', ha', hq⟩
    have fin : ∀ (w'' : World) (e : AEnd) (u : Ending), Shut w.heap.size ρ' h' w' w'' → ABody.AEnds h h' e R → EndR ρ' h' w'' e u → ∃ ρ'' h'' e'', Evo ρ h w ρ'' h'' w'' ∧ Rel ρ'' h'' w'' ∧ EndR ρ'' h'' w'' e'' u ∧ R e'' h'' := by
      rintro w'' e u hs ⟨h2, e2, hl, hr, hh⟩ hE
      obtain ⟨h3, h4, h5⟩ := hh ρ' w'' u (hs.rel hR') hE
      exact ⟨ρ', h2, e2, (hs.evo (Nat.le_refl _) ev).fewer h3 hl, h4, h5, hr⟩
    have back : aResults P fn a' h' (fun v => ABody.AEnds h h' (.ret v) R) → LeavesInM (FW none) 0 P fn ca.tmps (fun e w' => ∃ ρ' h' e', Evo ρ h w ρ' h' w' ∧ Rel ρ' h' w' ∧ EndR ρ' h' w' e' e ∧ R e' h') ca.defers .returning w' := fun hq =>
      leaves_marks (by simp) ca.defers w' ha'.plain.nodup ha'.plain.marks fun w'' hs => by
        have ha2 : AR ⟨none, 0⟩ ρ' h' w'' a' { tmps := ca.tmps, defers := [] } := ⟨ha'.size, fun i hi => hs.vr (ha'.slot i hi), ⟨List.nodup_nil, fun d hd => by simp at hd, fun l hl => (by cases hl), Nat.zero_le _⟩⟩
        obtain ⟨u, v, h1, h2, h3⟩ := aResults_sound (P := P) (hs.rel hR') ha2 hq
        exact ⟨u, h1, fin _ _ _ hs h3 (.ret v u h2)⟩
    cases e with
    | normal => exact back hq
    | ret => exact back hq
    | panic c => exact leaves_marks (by simp) ca.defers w' ha'.plain.nodup ha'.plain.marks fun w'' hs => fin _ _ _ hs hq (.panic c)
    | exit id => exact hq.elim
    | goto l => exact hq.elim
    | outgrown => exact hq.elim

end Go.Proofs.Ytglmofbcooefkaa.AL
