import Derived.Test.YteahajcgbogjkaaGreatDoorG4
import Derived.Test.YteahajcgbogjkaaGreatDoorProg
import Derived.Test.YteahajcgbogjkaaGreatDoorG2
import Derived.KernelRfl
/- Calls that are put off: what a function does that puts calls off, and its run. -/
namespace Go.Proofs.YteahajcgbogjkaaGreatDoor.AL
set_option linter.unusedVariables false
set_option linter.unusedSimpArgs false
open Go

variable {G : Rnd} {ρ ρ' : Env} {h h' : AHeap} {w w' : World} {P : Program}

/-- A call that is put off: whom, with what. -/
abbrev ADef := Nat × List AVal
/-- A call that was put off, made: it returns, and the frame below goes on returning. -/
def ACallsD (P : Program) (f : FuncId) (args : List AVal) (h : AHeap) (R : AHeap → Prop) : Prop :=
  ∀ (ρ : Env) (w : World) (us : Array Value), Rel ρ h w → VRs ρ h w args us →
    CallsDIn (FW none) 0 P f us .returning w fun e u' w' => u' = .returning ∧ ∃ ρ' h', (∃ u, e = .returned u) ∧ Evo ρ h w ρ' h' w' ∧ Rel ρ' h' w' ∧ R h'
theorem ACallsD.mono {f : FuncId} {args : List AVal} {R R' : AHeap → Prop} (hc : ACallsD P f args h R) (hr : ∀ g, R g → R' g) : ACallsD P f args h R' :=
  fun ρ w us hR hv => (hc ρ w us hR hv).mono fun _ _ _ ⟨h0, ρ', h', h1, h2, h3, h4⟩ => ⟨h0, ρ', h', h1, h2, h3, hr _ h4⟩
def DefR (P : Program) (ρ : Env) (h : AHeap) (w : World) (x : ADef) (d : Deferred) : Prop :=
  ∃ xs us, d = { target := .fn (.func x.1) xs, args := us } ∧ callable P x.1 = true ∧ VRs ρ h w x.2 (us ++ xs)
/-- All that was put off: marks, and calls. -/
def DL (P : Program) (lo : Nat) (ρ : Env) (h : AHeap) (w : World) : List ADef → List Deferred → Prop
  | ads, [] => ads = []
  | ads, d :: ds => (d ∉ ds ∧ (∃ c, d = mkD c ∧ lo ≤ c ∧ w.heap[c]? = some (.deferred (some [])) ∧ ¬ Owned ρ h c) ∧ DL P lo ρ h w ads ds) ∨
      (∃ x xs, ads = x :: xs ∧ DefR P ρ h w x d ∧ DL P lo ρ h w xs ds)
theorem DL.evo {lo : Nat} (e : Evo ρ h w ρ' h' w') : ∀ {ds : List Deferred} {ads : List ADef}, DL P lo ρ h w ads ds → DL P lo ρ' h' w' ads ds
  | [], _, hd => hd
  | d :: ds, ads, hd => by
    rcases hd with ⟨h1, ⟨c, h2, h3, h4, h5⟩, h6⟩ | ⟨x, xs, h1, ⟨ys, us, h2, h3, h4⟩, h5⟩
    · obtain ⟨h7, h8⟩ := e.keep c (lt_of_get h4) h5
      exact .inl ⟨h1, ⟨c, h2, h3, h7.trans h4, h8⟩, DL.evo e h6⟩
    · exact .inr ⟨x, xs, h1, ⟨ys, us, h2, h3, h4.evo e⟩, DL.evo e h5⟩
theorem DL.shut {lo lo' c : Nat} (hs : Shut lo' ρ h w (w.putObj c (.deferred none))) : ∀ {ds : List Deferred} {ads : List ADef}, mkD c ∉ ds → DL P lo ρ h w ads ds → DL P lo ρ h (w.putObj c (.deferred none)) ads ds
  | [], _, _, hd => hd
  | d :: ds, ads, hn, hd => by
    have hn' : mkD c ∉ ds := fun hm => hn (List.mem_cons_of_mem _ hm)
    rcases hd with ⟨h1, ⟨c', h2, h3, h4, h5⟩, h6⟩ | ⟨x, xs, h1, ⟨ys, us, h2, h3, h4⟩, h5⟩
    · have hne : c' ≠ c := fun e => by subst e; subst h2; exact hn (List.mem_cons_self ..)
      exact .inl ⟨h1, ⟨c', h2, h3, (World.putObj_heap_other hne).trans h4, h5⟩, DL.shut hs hn' h6⟩
    · exact .inr ⟨x, xs, h1, ⟨ys, us, h2, h3, ⟨h4.1, fun i hi => hs.vr (h4.2 i hi)⟩⟩, DL.shut hs hn' h5⟩
theorem DL.front {lo : Nat} {base : List Deferred} {ads : List ADef} (hb : DL P lo ρ h w ads base) : ∀ (ms : List Deferred), ms.Nodup →
    (∀ d ∈ ms, d ∉ base ∧ ∃ c, d = mkD c ∧ lo ≤ c ∧ w.heap[c]? = some (.deferred (some [])) ∧ ¬ Owned ρ h c) → DL P lo ρ h w ads (ms ++ base)
  | [], _, _ => hb
  | d :: ms, hn, hm => .inl ⟨fun hd => (List.mem_append.1 hd).elim (List.nodup_cons.1 hn).1 (hm d (List.mem_cons_self ..)).1, (hm d (List.mem_cons_self ..)).2,
      DL.front hb ms (List.nodup_cons.1 hn).2 fun d hd => hm d (List.mem_cons_of_mem _ hd)⟩
theorem DL.old {lo : Nat} : ∀ {ds : List Deferred} {ads : List ADef}, DL P lo ρ h w ads ds → ∀ c, mkD c ∈ ds → c < w.heap.size
  | [], _, _, c, hc => by simp at hc
  | d :: ds, ads, hd, c, hc => by
    rcases List.mem_cons.1 hc with rfl | hc
    · rcases hd with ⟨h1, ⟨c', h2, h3, h4, h5⟩, h6⟩ | ⟨x, xs, h1, ⟨ys, us, h2, h3, h4⟩, h5⟩
      · simp only [mkD, Deferred.mk.injEq, Target.collected.injEq, and_true] at h2
        subst h2; exact lt_of_get h4
      · simp [mkD] at h2
    · rcases hd with ⟨h1, _, h6⟩ | ⟨x, xs, h1, _, h5⟩
      · exact DL.old h6 c hc
      · exact DL.old h5 c hc

/-- How a body leaves: what was put off is done, the latest first; then the results are read. -/
def ALeave (P : Program) (fn : Func) (h0 : AHeap) (R : AEnd → AHeap → Prop) : List ADef → List AVal → AHeap → Prop
  | [], a, h => aResults P fn a h fun v => ABody.AEnds h0 h (.ret v) R
  | x :: xs, a, h => ACallsD P x.1 x.2 h fun h' => h.length ≤ h'.length → ALeave P fn h0 R xs a h'
theorem run_put_off {i : FuncId} {us xs : Array Value} {w : World} (hc : callable P i = true) : (invoke (.fn (.func i) xs) us).run P w = .ok (.enter i (us ++ xs)) w := by
  unfold callable at hc
  cases hfn : P.funcs[i]? with
  | none => rw [hfn] at hc; simp at hc
  | some fn =>
    rw [hfn] at hc
    simp only [Bool.and_eq_true, Bool.not_eq_true'] at hc
    obtain ⟨h1, h2⟩ := hc
    have h3 : fn.body.isNone = false := by cases hb : fn.body <;> simp_all
    simp only [invoke, callFunc, Sem.run_bind, run_program, Result.andThen_ok, hfn, h1, h3, Bool.false_eq_true, if_false, Sem.run_pure]
theorem shut_mark {lo c : Nat} (hlo : lo ≤ c) (ho : ¬ Owned ρ h c) (hc : w.heap[c]? = some (.deferred (some []))) : Shut lo ρ h w (w.putObj c (.deferred none)) := by
  refine ⟨⟨rfl, rfl, rfl⟩, by simp, fun k => ?_⟩
  by_cases hkc : k = c
  · subst hkc; exact .inr ⟨hlo, ho, _, _, hc, World.putObj_heap_same (lt_of_get hc)⟩
  · exact .inl (World.putObj_heap_other hkc)
theorem leavesD {fn : Func} {tmps : Array Value} {a : List AVal} {R : AEnd → AHeap → Prop} {ρ0 : Env} {h0 : AHeap} {w0 : World} : ∀ (ds : List Deferred) (ads : List ADef) (ρ : Env) (h : AHeap) (w : World), Evo ρ0 h0 w0 ρ h w → Rel ρ h w →
    a.length = tmps.size → (∀ (i : Nat) (hi : i < a.length), VR ρ h w a[i] (tmps.getD i undef)) → DL P w0.heap.size ρ h w ads ds → ALeave P fn h0 R ads a h →
    LeavesInM (FW none) 0 P fn tmps (fun e w' => ∃ ρ' h' e', Evo ρ0 h0 w0 ρ' h' w' ∧ Rel ρ' h' w' ∧ EndR ρ' h' w' e' e ∧ R e' h') ds .returning w
  | [], ads, ρ, h, w, ev, hR, hl, hs, hd, hA => by
    have hd' : ads = [] := hd
    subst hd'
    have ha2 : AR ⟨none, 0, []⟩ ρ h w a { tmps := tmps, defers := [] } := ⟨hl, hs, ARest.start _ _ _ _ (Nat.zero_le _)⟩
    obtain ⟨u, v, h1, h2, h3⟩ := aResults_sound (P := P) hR ha2 hA
    obtain ⟨g, e2, hl2, hr, hh⟩ := h3
    obtain ⟨g1, g2, g3⟩ := hh ρ w _ hR (.ret v u h2)
    exact ⟨u, h1, ρ, g, e2, ev.fewer g1 hl2, g2, g3, hr⟩
  | d :: ds, ads, ρ, h, w, ev, hR, hl, hs, hd, hA => by
    refine ⟨by simp, ?_⟩
    rcases hd with ⟨h1, ⟨c, rfl, hlo, hc, ho⟩, h6⟩ | ⟨x, xs, rfl, ⟨ys, us, rfl, hcal, hv⟩, h5⟩
    · have hs' := shut_mark (ρ := ρ) (h := h) hlo ho hc
      exact .inl ⟨c, _, rfl, run_takeDeferred hc, leavesD ds ads ρ h _ (hs'.evo (Nat.le_refl _) ev) (hs'.rel hR) hl (fun i hi => hs'.vr (hs i hi)) (h6.shut hs' h1) hA⟩
    · refine .inr ⟨fun hh => by simp at hh, .func x.1, ys, x.1, us ++ ys, rfl, run_put_off hcal, fun g hg => trivial, ?_⟩
      refine (hA ρ w _ hR hv).mono ?_
      rintro e u' w' ⟨rfl, ρ', h', ⟨u, rfl⟩, ev', hR', hA'⟩
      exact leavesD ds xs ρ' h' w' (ev.trans ev') hR' hl (fun i hi => (hs i hi).evo ev') (h5.evo ev') (hA' ev'.ids)

/-! ### A function that is called behind another's end -/
theorem marks_steps {fn : FuncId} {lo : Nat} (ho : (FW none).fn fn) {cs : List Frame} : ∀ (ds : List Deferred) (w : World) (fr : Frame), fr.mode = .returning → fr.defers = ds → fr.fn = fn → (FW none).room (cs.length + 1 + 0) → ds.Nodup →
    (∀ d ∈ ds, ∃ c, d = { target := .collected c, args := #[] } ∧ lo ≤ c ∧ w.heap[c]? = some (.deferred (some [])) ∧ ¬ Owned ρ h c) →
    ∃ w', Shut lo ρ h w w' ∧ StepsIn (Machine.fenced P (FW none)) P (lone fr cs w) (lone { fr with defers := [] } cs w')
  | [], w, fr, hm, hd, hf, hr, _, _ => ⟨w, .refl lo w, by
      have : ({ fr with defers := [] } : Frame) = fr := by cases fr; simp only at hd; subst hd; rfl
      rw [this]; exact StepsIn.refl _⟩
  | d :: ds, w, fr, hm, hd, hf, hr, hn, hk => by
    obtain ⟨c, rfl, hlo, hc, hno⟩ := hk d (List.mem_cons_self ..)
    have hn' := List.nodup_cons.1 hn
    have hs := shut_mark (ρ := ρ) (h := h) hlo hno hc
    have h1 := step_collected (P := P) (cs := cs) (fr := fr) (hm ▸ (by simp)) hd rfl (run_takeDeferred hc)
    have i1 : (lone fr cs w).fenced P (FW none) := fenced_out (n := 0) (F := FW none) (hf ▸ ho) hr (hm ▸ (by simp)) hd (fun g hg => trivial)
    obtain ⟨w', h2, h3⟩ := marks_steps (lo := lo) ho ds (w.putObj c (.deferred none)) { fr with defers := [] ++ ds } hm rfl hf hr hn'.2 fun d' hm' => by
      obtain ⟨c', rfl, g1, g2, g3⟩ := hk d' (List.mem_cons_of_mem _ hm')
      have hne : c' ≠ c := fun e => by subst e; exact hn'.1 hm'
      exact ⟨c', rfl, g1, (World.putObj_heap_other hne).trans g2, g3⟩
    exact ⟨w', hs.trans h2, .head i1 h1 h3⟩
theorem acallsD_body {f : FuncId} {fn : Func} {c : Code} {args : List AVal} {R : AHeap → Prop} (hf : P.funcs[f]? = some fn) (hb : fn.body = some c)
    (hc : AWp P c (ABody P fn h (fun e g => (∃ v, e = .ret v) ∧ R g)) (args ++ List.replicate (fn.ntmps - args.length) .any) h) : ACallsD P f args h R := by
  intro ρ w us hR hv
  refine ⟨trivial, fun c₀ cs hu hr => ?_⟩
  let b : Frame := { (default : Frame) with fn := f, kind := .deferred, roundOf := none }
  have henter : Frame.enter P f us .deferred = b.atR { tmps := us ++ Array.replicate (fn.ntmps - us.size) undef, defers := [] } [.code c] := by
    simp [Frame.enter, Frame.atR, hf, hb, b]
  have hc0 : ({ c₀ with mode := .returning } : Frame) = c₀ := by rw [← hu]
  have har : AR ⟨none, w.heap.size, []⟩ ρ h w (args ++ List.replicate (fn.ntmps - args.length) .any) { tmps := us ++ Array.replicate (fn.ntmps - us.size) undef, defers := [] } := by
    refine ⟨by simp [hv.1], fun i hi => ?_, ARest.start _ _ _ _ (Nat.le_refl _)⟩
    rcases Nat.lt_or_ge i args.length with h1 | h1
    · rw [List.getElem_append_left h1]
      have := hv.2 i h1
      have h2 : i < us.size := by rw [← hv.1]; exact h1
      have h3 : i < (us ++ Array.replicate (fn.ntmps - us.size) undef).size := by simp; omega
      simp only [Array.getD, h2, h3, dif_pos] at this ⊢
      show VR ρ h w _ ((us ++ Array.replicate (fn.ntmps - us.size) undef)[i])
      rw [Array.getElem_append_left h2]
      exact this
    · rw [List.getElem_append_right h1, List.getElem_replicate]; exact .any _
  obtain ⟨e, a', w', ⟨ρ', h', av, ev, hR', ha', hq⟩, harr⟩ := hc ⟨none, w.heap.size, []⟩ ρ w _ hR har b [] (c₀ :: cs) rfl trivial hr
  rw [← henter] at harr
  obtain ⟨hnd, hmk⟩ := ha'.plain.marked rfl
  have fin : aResults P fn av h' (fun v => ABody.AEnds h h' (.ret v) (fun e g => (∃ v, e = .ret v) ∧ R g)) → ∀ todo, StepsIn (Machine.fenced P (FW none)) P (lone (Frame.enter P f us .deferred) (c₀ :: cs) w) (lone { b.atR a' todo with mode := .returning } (c₀ :: cs) w') →
      ∃ e u' w' fr, (u' = .returning ∧ ∃ ρ' h', (∃ u, e = .returned u) ∧ Evo ρ h w ρ' h' w' ∧ Rel ρ' h' w' ∧ R h') ∧ ComesIn (Machine.fenced P (FW none)) P (lone (Frame.enter P f us .deferred) (c₀ :: cs) w) (lone fr ({ c₀ with mode := u' } :: cs) w') e ∧ fr.kind = .deferred ∧ fr.fn = f ∧ fr.going P w' e := by
    intro hq todo hs
    obtain ⟨w2, hsh, hst⟩ := marks_steps (P := P) (fn := f) (lo := w.heap.size) (cs := c₀ :: cs) trivial a'.defers w' { b.atR a' todo with mode := .returning } rfl rfl rfl hr hnd hmk
    have ha2 : AR ⟨none, 0, []⟩ ρ' h' w2 av { tmps := a'.tmps, defers := [] } := ⟨ha'.size, fun i hi => hsh.vr (ha'.slot i hi), ARest.start _ _ _ _ (Nat.zero_le _)⟩
    obtain ⟨u, v, h1, h2, h3⟩ := aResults_sound (P := P) (hsh.rel hR') ha2 hq
    obtain ⟨g, e2, hl2, ⟨_, hr2⟩, hh⟩ := h3
    obtain ⟨g1, g2, g3⟩ := hh ρ' w2 _ (hsh.rel hR') (.ret v u h2)
    refine ⟨.returned u, .returning, w2, { b.atR a' todo with mode := .returning, defers := [] }, ⟨rfl, ρ', g, ⟨u, rfl⟩, (hsh.evo (Nat.le_refl _) ev).fewer g1 hl2, g2, hr2⟩, ?_, rfl, rfl, rfl, rfl, fn, hf, h1⟩
    rw [hc0]
    exact StepsIn.trans hs hst
  cases e with
  | normal => exact fin hq [] (StepsIn.trans harr (.one (fenced_calm (F := FW none) (n := 0) (fr := b.atR a' []) trivial hr rfl) (stepR_end rfl)))
  | ret =>
    obtain ⟨todo, hs⟩ := harr.1 rfl
    exact fin hq todo hs
  | panic ch =>
    obtain ⟨g, e2, _, ⟨⟨v, rfl⟩, _⟩, hh⟩ := hq
    obtain ⟨_, _, g3⟩ := hh ρ' w' (.panicked ch) hR' (.panic ch)
    cases g3
  | exit id => exact hq.elim
  | goto l => exact hq.elim
  | outgrown => exact hq.elim

/-! ### Code that puts calls off -/
abbrev AQD := Exit → List ADef → List AVal → AHeap → Prop
def AWpD (P : Program) (c : Code) (Q : AQD) (ds : List ADef) (a : List AVal) (h : AHeap) : Prop :=
  ∀ (G : Rnd) (ρ : Env) (w : World) (ca : Act), G.ro = none → Rel ρ h w → AR G ρ h w a ca → DL P G.lo ρ h w ds G.base →
    c.wpIn (FW none) 0 P (fun e ca' w' => ∃ G' ρ' h' a' ds', G'.ro = none ∧ G'.lo = G.lo ∧ Evo ρ h w ρ' h' w' ∧ Rel ρ' h' w' ∧ AR G' ρ' h' w' a' ca' ∧ DL P G.lo ρ' h' w' ds' G'.base ∧ Q e ds' a' h') ca w
section rules
variable {Q Q' : AQD} {a : List AVal} {ds : List ADef}
theorem awpD_mono {c : Code} (hc : AWpD P c Q ds a h) (hq : ∀ e ds a h, Q e ds a h → Q' e ds a h) : AWpD P c Q' ds a h :=
  fun G ρ w ca h0 hR ha hd => wpIn_mono (hc G ρ w ca h0 hR ha hd) fun _ _ _ ⟨G', ρ', h', a', ds', h1, h2, h3, h4, h5, h6, h7⟩ => ⟨G', ρ', h', a', ds', h1, h2, h3, h4, h5, h6, hq _ _ _ _ h7⟩
theorem awpD_lift {c : Code} (hc : AWp P c (fun e a' h' => Q e ds a' h') a h) : AWpD P c Q ds a h := by
  intro G ρ w ca h0 hR ha hd
  have := hc G ρ w ca hR ha
  rw [h0] at this
  exact wpIn_mono this fun _ _ _ ⟨ρ', h', a', h1, h2, h3, h4⟩ => ⟨G, ρ', h', a', ds, h0, rfl, h1, h2, h3, hd.evo h1, h4⟩
theorem awpD_weak {c : Code} {b : List AVal} (hw : Weak a b) (hc : AWpD P c Q ds b h) : AWpD P c Q ds a h :=
  fun G ρ w ca h0 hR ha hd => hc G ρ w ca h0 hR (ha.weak hw) hd
def AThenD (next : List ADef → List AVal → AHeap → Prop) (Q : AQD) : AQD
  | .normal, ds, a, h => next ds a h
  | e, ds, a, h => Q e ds a h
theorem awpD_seq {x y : Code} (hx : AWpD P x (AThenD (AWpD P y Q) Q) ds a h) : AWpD P (.seq x y) Q ds a h := by
  intro G ρ w ca h0 hR ha hd
  refine wpIn_seq (wpIn_mono (hx G ρ w ca h0 hR ha hd) ?_)
  rintro e ca' w' ⟨G', ρ', h', a', ds', g1, g2, he, hR', ha', hd', hq⟩
  cases e with
  | normal => exact wpIn_mono (hq G' ρ' w' ca' g1 hR' ha' (g2 ▸ hd')) fun _ _ _ ⟨G2, ρ2, h2, a2, ds2, i1, i2, e2, r2, s2, d2, q2⟩ => ⟨G2, ρ2, h2, a2, ds2, i1, i2.trans g2, he.trans e2, r2, s2, g2 ▸ d2, q2⟩
  | exit id => exact ⟨G', ρ', h', a', ds', g1, g2, he, hR', ha', hd', hq⟩
  | goto l => exact ⟨G', ρ', h', a', ds', g1, g2, he, hR', ha', hd', hq⟩
  | ret => exact ⟨G', ρ', h', a', ds', g1, g2, he, hR', ha', hd', hq⟩
  | panic c => exact ⟨G', ρ', h', a', ds', g1, g2, he, hR', ha', hd', hq⟩
  | outgrown => exact ⟨G', ρ', h', a', ds', g1, g2, he, hR', ha', hd', hq⟩
def AInBlockD (id : Nat) (Q : AQD) : AQD
  | .exit id', ds, a, h => if id' = id then Q .normal ds a h else Q (.exit id') ds a h
  | e, ds, a, h => Q e ds a h
theorem awpD_block {id : Nat} {c : Code} (hc : AWpD P c (AInBlockD id Q) ds a h) : AWpD P (.block id c) Q ds a h := by
  intro G ρ w ca h0 hR ha hd
  refine wpIn_block (wpIn_mono (hc G ρ w ca h0 hR ha hd) ?_)
  rintro e ca' w' ⟨G', ρ', h', a', ds', g1, g2, he, hR', ha', hd', hq⟩
  cases e with
  | exit id' =>
    simp only [Exit.inBlock]
    by_cases hid : id' = id
    · simp only [AInBlockD, hid, if_true] at hq ⊢; exact ⟨G', ρ', h', a', ds', g1, g2, he, hR', ha', hd', hq⟩
    · simp only [AInBlockD, hid, if_false] at hq ⊢; exact ⟨G', ρ', h', a', ds', g1, g2, he, hR', ha', hd', hq⟩
  | normal => exact ⟨G', ρ', h', a', ds', g1, g2, he, hR', ha', hd', hq⟩
  | goto l => exact ⟨G', ρ', h', a', ds', g1, g2, he, hR', ha', hd', hq⟩
  | ret => exact ⟨G', ρ', h', a', ds', g1, g2, he, hR', ha', hd', hq⟩
  | panic c => exact ⟨G', ρ', h', a', ds', g1, g2, he, hR', ha', hd', hq⟩
  | outgrown => exact ⟨G', ρ', h', a', ds', g1, g2, he, hR', ha', hd', hq⟩
theorem awpD_cond {c : Operand} {x y : Code} {b : Bool} (hc : aEval a c = .lit (.bool b)) (ht : b = true → AWpD P x Q ds a h) (hf : b = false → AWpD P y Q ds a h) : AWpD P (.cond c x y) Q ds a h := by
  intro G ρ w ca h0 hR ha hd
  have hv := ha.eval c
  rw [hc] at hv
  generalize hu : ca.eval c = u at hv
  cases hv
  exact wpIn_cond_split hu (fun h1 => ht h1 G ρ w ca h0 hR ha hd) (fun h1 => hf h1 G ρ w ca h0 hR ha hd)
/-- Some of a region's operations, in order; then the others. -/
theorem wOps_then {ops : Array Oper} {Q : AQ} {QC : Exit → Act → World → Prop} {rest : List Oper} : ∀ (l : List Oper) (k : Nat) (a : List AVal) (h : AHeap) (ρ : Env) (w : World) (ca : Act), ops.toList.drop k = l ++ rest → Rel ρ h w → AR G ρ h w a ca → WOps P ops Q l a h →
    (∀ ρ' h' w' a' ca', Evo ρ h w ρ' h' w' → Rel ρ' h' w' → AR G ρ' h' w' a' ca' → Q .normal a' h' → wpOpsIn (FW G.ro) 0 P ops QC (List.range' (k + l.length) (ops.size - (k + l.length))) ca' w') →
    wpOpsIn (FW G.ro) 0 P ops QC (List.range' k (ops.size - k)) ca w
  | [], k, a, h, ρ, w, ca, hd, hR, ha, hA, hk => by
    obtain ⟨b, hwk, hA⟩ := hA
    exact hk ρ h w b ca (.refl ..) hR (ha.weak hwk) hA
  | o :: l, k, a, h, ρ, w, ca, hd, hR, ha, hA, hk => by
    have hlt : k < ops.size := by
      have := congrArg List.length hd
      simp at this; omega
    have hd2 : ops.toList.drop k = ops[k] :: ops.toList.drop (k + 1) := by
      rw [List.drop_eq_getElem_cons (by simpa using hlt)]; simp
    rw [hd2] at hd
    simp only [List.cons_append, List.cons.injEq] at hd
    obtain ⟨rfl, hd⟩ := hd
    have hr : List.range' k (ops.size - k) = k :: List.range' (k + 1) (ops.size - (k + 1)) := by
      have : ops.size - k = (ops.size - (k + 1)) + 1 := by omega
      rw [this, List.range'_succ]
    rw [hr]
    simp only [wpOpsIn, Array.getElem?_eq_getElem hlt]
    obtain ⟨b, hwk, hA⟩ := hA
    have ha := ha.weak hwk
    have hlen : k + (ops[k] :: l).length = k + 1 + l.length := by simp only [List.length_cons]; omega
    rw [hlen] at hk
    rcases hA with ⟨hw, h1⟩ | ⟨hw, h1⟩
    · rw [if_pos (want2_wanted ha hw)]
      exact aOper_sound hR ha h1 (fun ρ' h' w' a' ca' ev hR' ha' hK => wOps_then l (k + 1) a' h' ρ' w' ca' hd hR' ha' hK fun ρ2 h2 w2 a2 ca2 ev2 hR2 ha2 hq => hk ρ2 h2 w2 a2 ca2 (ev.trans ev2) hR2 ha2 hq)
        (fun c ρ' h' w' a' ca' ev hR' ha' hq => hq.elim)
    · rw [if_neg (by rw [want2_wanted ha hw]; simp)]
      exact ⟨fun _ _ => trivial, wOps_then l (k + 1) _ h ρ w _ hd hR (ha.put (.lit undef) _) h1 hk⟩
def ADefer (P : Program) (o : Oper) (ds : List ADef) (a : List AVal) (h : AHeap) (Q : AQD) : Prop :=
  o.guard = none ∧ ∃ fv args tys i vs ws, o.op = .defer { callee := .value fv, args, argTypes := tys } ∧ aEval a fv = .fn (.func i) vs ws ∧ callable P i = true ∧ Q .normal ((i, vs ++ evs a args ++ ws) :: ds) (aset a o.dst skipV) h
theorem awpD_region {id : Nat} {ops : Array Oper} {l : List Oper} {o : Oper} (hl : ops.toList = l ++ [o]) (hA : WOps P ops (fun _ b g => ADefer P o ds b g Q) l a h) : AWpD P (.region id ops false) Q ds a h := by
  intro G ρ w ca h0 hR ha hd
  refine wpIn_region ?_
  rw [List.range_eq_range']
  have hsz : ops.size = l.length + 1 := by
    have := congrArg List.length hl
    simpa using this
  have key := wOps_then (G := G) (P := P) (ops := ops) (rest := [o]) (QC := fun e ca' w' => ∃ G' ρ' h' a' ds', G'.ro = none ∧ G'.lo = G.lo ∧ Evo ρ h w ρ' h' w' ∧ Rel ρ' h' w' ∧ AR G' ρ' h' w' a' ca' ∧ DL P G.lo ρ' h' w' ds' G'.base ∧ Q e ds' a' h') l 0 a h ρ w ca (by simpa using hl) hR ha hA ?_
  · rw [h0, Nat.sub_zero] at key
    exact key
  rintro ρ' h' w' b ca' ev hR' ha' ⟨hg, fv, args, tys, i, vs, ws, ho, hf, hcal, hq⟩
  rw [h0, hsz]
  have : l.length + 1 - (0 + l.length) = 1 := by omega
  rw [this, Nat.zero_add]
  have hol : ops[l.length]? = some o := by
    rw [← Array.getElem?_toList, hl]; simp
  show (match ops[l.length]? with
    | none => _
    | some o => _)
  rw [hol]
  simp only
  have hwt : Region.wanted o (yielded ops ca'.tmps) = true := by unfold Region.wanted; rw [hg]
  rw [if_pos hwt]
  have hv := ha'.eval fv
  rw [hf] at hv
  generalize hu : ca'.eval fv = u at hv
  cases hv with | fn _ _ _ us xs hl1 hl2 hv hw =>
  refine ⟨fun _ _ => trivial, ?_⟩
  have hx : (Oper.semAt none ca'.eval o).run P w' = .ok (.defer { target := .fn (.func i) xs, args := us ++ args.map ca'.eval }) w' := by
    rw [Oper.semAt_none]
    unfold execOp
    rw [ho]
    simp only [resolve, hu, Deferred.ofValue, Sem.run_bind, Sem.run_pure, Result.andThen_ok]
  show o.uponIn (FW none) 0 P ca' _ _ ((Oper.semAt none ca'.eval o).run P w')
  rw [hx, Oper.uponIn_defer]
  obtain ⟨ms, g1, g2, g3⟩ := ha'.plain.all
  have hdl : DL P G.lo ρ' h' w' ds ca'.defers := by
    rw [g1]; exact (hd.evo ev).front ms g2 g3
  have hdn : DL P G.lo ρ' h' w' ((i, vs ++ evs b args ++ ws) :: ds) ({ target := .fn (.func i) xs, args := us ++ args.map ca'.eval } :: ca'.defers) :=
    .inr ⟨_, _, rfl, ⟨xs, _, rfl, hcal, evs_args ha' args ⟨hl1, hv⟩ ⟨hl2, hw⟩⟩, hdl⟩
  refine ⟨⟨none, G.lo, { target := .fn (.func i) xs, args := us ++ args.map ca'.eval } :: ca'.defers⟩, ρ', h', _, _, rfl, rfl, ev, hR', ?_, hdn, hq⟩
  have h1 : AR ⟨none, G.lo, { target := .fn (.func i) xs, args := us ++ args.map ca'.eval } :: ca'.defers⟩ ρ' h' w' b { ca' with defers := { target := .fn (.func i) xs, args := us ++ args.map ca'.eval } :: ca'.defers } :=
    ⟨ha'.size, ha'.slot, ⟨⟨[], rfl, List.nodup_nil, fun d hd => by simp at hd⟩, fun c hc => hdn.old c hc, fun l hl => (by cases hl), ha'.plain.lo⟩⟩
  exact h1.put (.lit undef) _
def ABodyD (P : Program) (fn : Func) (h0 : AHeap) (R : AEnd → AHeap → Prop) : AQD
  | .normal, ds, a, h | .ret, ds, a, h => ALeave P fn h0 R ds a h
  | _, _, _, _ => False
theorem acalls_bodyD {f : FuncId} {fn : Func} {c : Code} {args : List AVal} {R : AEnd → AHeap → Prop} (hf : P.funcs[f]? = some fn) (hb : fn.body = some c)
    (hc : AWpD P c (fun e ds a g => h.length ≤ g.length → ABodyD P fn h R e ds a g) [] (args ++ List.replicate (fn.ntmps - args.length) .any) h) : ACalls P f args h R := by
  intro ρ w us hR hv
  refine (callsIn_wide (n := 0)).1 (callsIn_of_wp_marks (F := FW none) hf hb trivial (wpIn_mono (hc ⟨none, w.heap.size, []⟩ ρ w _ rfl hR ?_ rfl) ?_) rfl)
  · refine ⟨by simp [hv.1], fun i hi => ?_, ARest.start _ _ _ _ (Nat.le_refl _)⟩
    rcases Nat.lt_or_ge i args.length with h1 | h1
    · rw [List.getElem_append_left h1]
      have := hv.2 i h1
      have h2 : i < us.size := by rw [← hv.1]; exact h1
      have h3 : i < (us ++ Array.replicate (fn.ntmps - us.size) undef).size := by simp; omega
      simp only [Array.getD, h2, h3, dif_pos] at this ⊢
      show VR ρ h w _ ((us ++ Array.replicate (fn.ntmps - us.size) undef)[i])
      rw [Array.getElem_append_left h2]
      exact this
    · rw [List.getElem_append_right h1, List.getElem_replicate]; exact .any _
  · rintro e ca w' ⟨G', ρ', h', a', ds, hro, hlo, ev, hR', ha', hdl, hq⟩
    obtain ⟨ms, g1, g2, g3⟩ := ha'.plain.all
    have hq := hq ev.ids
    have hd2 : DL P w.heap.size ρ' h' w' ds ca.defers := by
      rw [g1]; exact hdl.front ms g2 fun d hd => by
        have := g3 d hd
        rw [hlo] at this; exact this
    cases e with
    | normal => exact leavesD ca.defers ds ρ' h' w' ev hR' ha'.size ha'.slot hd2 hq
    | ret => exact leavesD ca.defers ds ρ' h' w' ev hR' ha'.size ha'.slot hd2 hq
    | _ => exact hq.elim
end rules

/-! ### Reckoned -/
def lastDef : List Oper → Option (Operand × Array Operand × Option Nat)
  | [] => none
  | o :: l => match l with
    | [] => match o.guard, o.op with
      | none, .defer { callee := .value fv, args, argTypes := _ } => some (fv, args, o.dst)
      | _, _ => none
    | _ :: _ => lastDef l
def initL : List Oper → List Oper
  | [] => []
  | o :: l => match l with
    | [] => []
    | _ :: _ => o :: initL l
theorem lastDef_some : ∀ {l : List Oper} {x : Operand × Array Operand × Option Nat}, lastDef l = some x → ∃ o tys, l = initL l ++ [o] ∧ o.guard = none ∧ o.op = .defer { callee := .value x.1, args := x.2.1, argTypes := tys } ∧ o.dst = x.2.2
  | [], x, h => by cases h
  | [o], x, h => by
    unfold lastDef at h
    simp only at h
    split at h
    · rename_i hg ho
      cases h
      exact ⟨o, _, rfl, hg, ho, rfl⟩
    · cases h
  | o :: o' :: l, x, h => by
    have h' : lastDef (o' :: l) = some x := h
    obtain ⟨o2, tys, h1, h2⟩ := lastDef_some h'
    exact ⟨o2, tys, by show o :: o' :: l = o :: (initL (o' :: l) ++ [o2]); rw [← h1], h2⟩
abbrev ZR := XR × List ADef
def zlift (x : Option XR) (ds : List ADef) : Option ZR := match x with
  | some r => some (r, ds)
  | none => none
noncomputable def zreg (E : XE) (m : Nat) (id : Nat) (ops : Array Oper) (draw : Bool) (ds : List ADef) (f : Fr) (h : AHeap) : Option ZR := match draw with
  | false => match lastDef ops.toList with
    | some x => match xopsF E id ops (initL ops.toList) 0 f h fun f h => some (f, h) with
      | some q => match fEval q.1 x.1 with
        | .fn (.func i) vs ws => match findN E.C i with
          | some _ => fputK E.n q.1 x.2.2 skipV fun f' => some ((.normal, f', q.2), (i, vs ++ evsF (fEval q.1) x.2.1 ++ ws) :: ds)
          | none => none
        | _ => none
      | none => none
    | none => zlift (yexec E m (.region id ops false) f h) ds
  | true => zlift (yexec E m (.region id ops true) f h) ds
noncomputable def zex (E : XE) (m : Nat) (c : Code) : List ADef → Fr → AHeap → Option ZR := Code.rec (motive := fun _ => List ADef → Fr → AHeap → Option ZR)
  (fun ds f h => some ((.normal, f, h), ds))
  (fun id ops draw => zreg E m id ops draw)
  (fun _ b ia ib => fun ds f h => match ia ds f h with
    | some ((.normal, f, h), ds) => ib ds (maskAt E.Ms (firstR b) f) h
    | r => r)
  (fun c _ _ ia ib => fun ds f h => match fEval f c with
    | .lit (.bool b) => match b with
      | true => ia ds f h
      | false => ib ds f h
    | _ => none)
  (fun id _ ia => fun ds f h => match ia ds f h with
    | some ((.exit id', f, h), ds) => match Nat.beq id' id with
      | true => some ((.normal, f, h), ds)
      | false => some ((.exit id', f, h), ds)
    | r => r)
  (fun c _ => fun ds f h => zlift (yexec E m (.loop c) f h) ds)
  (fun _ _ _ _ _ _ => fun _ _ _ => none)
  (fun id => fun ds f h => some ((.exit id, f, h), ds))
  (fun c _ => fun ds f h => zlift (yexec E m (.scope c) f h) ds)
  (fun l => fun ds f h => some ((.normal, f, h), ds))
  (fun l => fun ds f h => some ((.goto l, f, h), ds))
  (fun ds f h => some ((.ret, f, h), ds))
  (fun _ => fun _ _ _ => none) c
def QZ (n : Nat) (x : ZR) : AQD := fun e ds a g => x = ((e, x.1.2.1, g), ds) ∧ (∀ c, e ≠ .panic c) ∧ x.1.2.1.Wf n ∧ a = x.1.2.1.lst n
theorem qz_mk {n : Nat} {e : Exit} {f : Fr} {g : AHeap} {ds : List ADef} (he : ∀ c, e ≠ .panic c) (hw : f.Wf n) : QZ n ((e, f, g), ds) e ds (f.lst n) g := ⟨rfl, he, hw, rfl⟩
theorem zlift_sound {E : XE} (hE : E.Ok P) (hN : CT.Nat E.C) (hm : P.follows .mixedOrders = true) {m : Nat} {c : Code} (hd : drawsOk E.n E.D c = true) {ds : List ADef} {f : Fr} {h : AHeap} {x : ZR} (hw : f.Wf E.n) (hx : zlift (yexec E m c f h) ds = some x) :
    AWpD P c (QZ E.n x) ds (f.lst E.n) h := by
  unfold zlift at hx
  cases hy : yexec E m c f h with
  | none => rw [hy] at hx; cases hx
  | some r =>
    rw [hy] at hx
    cases hx
    have h1 := (yex_le E hN m c).1 _ _ _ hy
    refine awpD_lift (awp_mono (xexec_sound hE hm c hd XR f h xdone r hw h1) ?_)
    rintro e a g ⟨hnp, f', hw', rfl, hk⟩
    cases hk
    exact qz_mk hnp hw'
theorem zex_sound {E : XE} (hE : E.Ok P) (hN : CT.Nat E.C) (hm : P.follows .mixedOrders = true) {m : Nat} (c : Code) : drawsOk E.n E.D c = true → ∀ (ds : List ADef) (f : Fr) (h : AHeap) (x : ZR), f.Wf E.n → zex E m c ds f h = some x → AWpD P c (QZ E.n x) ds (f.lst E.n) h := by
  induction c with
  | skip => intro _ ds f h x hw hx; cases hx; exact awpD_lift (awp_skip (qz_mk (fun _ e => by cases e) hw))
  | region id ops draw =>
    intro hd ds f h x hw hx
    change zreg E m id ops draw ds f h = some x at hx
    unfold zreg at hx
    cases draw with
    | true => exact zlift_sound hE hN hm hd hw hx
    | false =>
      simp only at hx
      cases hl : lastDef ops.toList with
      | none => rw [hl] at hx; exact zlift_sound hE hN hm hd hw hx
      | some y =>
        rw [hl] at hx
        simp only at hx
        obtain ⟨o, tys, h1, h2, h3, h4⟩ := lastDef_some hl
        cases hq : xopsF E id ops (initL ops.toList) 0 f h (fun f h => some (f, h)) with
        | none => rw [hq] at hx; cases hx
        | some q =>
          rw [hq] at hx
          simp only at hx
          rw [xopsF_eq] at hq
          refine awpD_region h1 (xops_ok (P := P) hE (K := fun f h => some (f, h)) (r := q) (Q := fun _ b g => ADefer P o ds b g (QZ E.n x)) ?_ _ 0 f f h hw (Weak.refl _) hq)
          intro f1 g1 hw1 hk
          cases hk
          split at hx
          · rename_i i vs ws hf
            split at hx
            · rename_i xc hc
              rw [fputK_eq] at hx
              obtain ⟨f2, h5, hx⟩ := Option.bind_eq_some_iff.1 hx
              cases hx
              obtain ⟨e1, e2⟩ := fput_some h5 hw1
              obtain ⟨hcn, hco⟩ := hE.C.find hc
              have hcal : callable P i = true := by
                cases xc <;> exact hco.1
              have hev : evs (f1.lst E.n) y.2.1 = evsF (fEval f1) y.2.1 := by unfold evs evsF; rw [aEval_lst hw1]
              refine ⟨h2, y.1, y.2.1, tys, i, vs, ws, h3, by rw [aEval_lst hw1]; exact hf, hcal, ?_⟩
              rw [h4, ← e1, hev]
              exact qz_mk (fun _ e => by cases e) e2
            · cases hx
          · cases hx
  | seq a b iha ihb =>
    intro hd ds f h x hw hx
    have hd' : (drawsOk E.n E.D a && drawsOk E.n E.D b) = true := hd
    rw [Bool.and_eq_true] at hd'
    change (match zex E m a ds f h with
      | some ((.normal, f, h), ds) => zex E m b ds (maskAt E.Ms (firstR b) f) h
      | r => r) = some x at hx
    cases hy : zex E m a ds f h with
    | none => rw [hy] at hx; cases hx
    | some y =>
      rw [hy] at hx
      refine awpD_seq (awpD_mono (iha hd'.1 ds f h y hw hy) ?_)
      rintro e ds1 a1 g ⟨he, hnp, hw1, rfl⟩
      obtain ⟨⟨e0, f1, g0⟩, ds0⟩ := y
      simp only [Prod.mk.injEq, true_and] at he
      obtain ⟨⟨rfl, rfl⟩, rfl⟩ := he
      cases e0 with
      | normal => exact awpD_weak (maskAt_weak _ _ _ _) (ihb hd'.2 _ _ _ _ (maskAt_wf hw1 _ _) hx)
      | panic c => exact absurd rfl (hnp c)
      | _ => cases hx; exact qz_mk hnp hw1
  | cond c a b iha ihb =>
    intro hd ds f h x hw hx
    have hd' : (drawsOk E.n E.D a && drawsOk E.n E.D b) = true := hd
    rw [Bool.and_eq_true] at hd'
    change (match fEval f c with
      | .lit (.bool b') => match b' with
        | true => zex E m a ds f h
        | false => zex E m b ds f h
      | _ => none) = some x at hx
    split at hx
    · rename_i b' he
      refine awpD_cond (b := b') (by rw [aEval_lst hw]; exact he) (fun e => ?_) (fun e => ?_)
      · subst e; exact iha hd'.1 _ _ _ _ hw hx
      · subst e; exact ihb hd'.2 _ _ _ _ hw hx
    · cases hx
  | block id a iha =>
    intro hd ds f h x hw hx
    change (match zex E m a ds f h with
      | some ((.exit id', f, h), ds) => match Nat.beq id' id with
        | true => some ((.normal, f, h), ds)
        | false => some ((.exit id', f, h), ds)
      | r => r) = some x at hx
    cases hy : zex E m a ds f h with
    | none => rw [hy] at hx; cases hx
    | some y =>
      rw [hy] at hx
      refine awpD_block (awpD_mono (iha hd ds f h y hw hy) ?_)
      rintro e ds1 a1 g ⟨he, hnp, hw1, rfl⟩
      obtain ⟨⟨e0, f1, g0⟩, ds0⟩ := y
      simp only [Prod.mk.injEq, true_and] at he
      obtain ⟨⟨rfl, rfl⟩, rfl⟩ := he
      cases e0 with
      | exit id' =>
        simp only at hx
        simp only [AInBlockD]
        cases hb : Nat.beq id' id with
        | true => rw [hb] at hx; cases hx; rw [if_pos (Nat.eq_of_beq_eq_true hb)]; exact qz_mk (fun _ e => by cases e) hw1
        | false => rw [hb] at hx; cases hx; rw [if_neg (Nat.ne_of_beq_eq_false hb)]; exact qz_mk hnp hw1
      | panic c => exact absurd rfl (hnp c)
      | _ => cases hx; exact qz_mk hnp hw1
  | loop a iha => intro hd ds f h x hw hx; exact zlift_sound hE hN hm hd hw hx
  | rangeFunc g ps x y ihx ihy => intro hd ds f h x hw hx; cases hx
  | exit id => intro _ ds f h x hw hx; cases hx; exact awpD_lift (awp_exit (qz_mk (fun _ e => by cases e) hw))
  | scope a iha => intro hd ds f h x hw hx; exact zlift_sound hE hN hm hd hw hx
  | label l => intro _ ds f h x hw hx; cases hx; exact awpD_lift (awp_label (qz_mk (fun _ e => by cases e) hw))
  | goto l => intro _ ds f h x hw hx; cases hx; exact awpD_lift (awp_goto (qz_mk (fun _ e => by cases e) hw))
  | ret => intro _ ds f h x hw hx; cases hx; exact awpD_lift (awp_ret (qz_mk (fun _ e => by cases e) hw))
  | refuse => intro _ ds f h x hw hx; cases hx

/-! ### Functions -/
def FDOk (P : Program) (FD : List (Nat × XP)) : Prop := ∀ i g, findN FD i = some g → ∀ args h v h', g args h = some (v, h') → ACallsD P i args h fun k => k = h'
noncomputable def zleave (FD : List (Nat × XP)) : List ADef → AHeap → Option AHeap
  | [], h => some h
  | x :: xs, h => match findN FD x.1 with
    | some g => match g x.2 h with
      | some r => zleave FD xs r.2
      | none => none
    | none => none
theorem zleave_ok {FD : List (Nat × XP)} (hF : FDOk P FD) {fn : Func} {h0 : AHeap} {R : AEnd → AHeap → Prop} {a : List AVal} {h1 : AHeap} : ∀ (ds : List ADef) (h : AHeap), h0.length ≤ h.length → zleave FD ds h = some h1 → (h0.length ≤ h1.length → aResults P fn a h1 fun v => ABody.AEnds h0 h1 (.ret v) R) → ALeave P fn h0 R ds a h
  | [], h, hl, hx, hr => by cases hx; exact hr hl
  | x :: xs, h, hl, hx, hr => by
    unfold zleave at hx
    cases hf : findN FD x.1 with
    | none => rw [hf] at hx; cases hx
    | some g =>
      rw [hf] at hx
      simp only at hx
      cases hg : g x.2 h with
      | none => rw [hg] at hx; cases hx
      | some r =>
        rw [hg] at hx
        refine (hF _ _ hf _ _ r.1 r.2 hg).mono ?_
        rintro k rfl hlen
        exact zleave_ok hF xs _ (Nat.le_trans hl hlen) hx hr
noncomputable def zfun (E : XE) (FD : List (Nat × XP)) (m : Nat) (fn : Func) (args : List AVal) (h : AHeap) : Option (AVal × AHeap) := match fn.body, Nat.ble args.length E.n with
  | some c, true => match zex E m c [] (fargs args 0) h with
    | some ((e, f, h), ds) => match zleave FD ds h with
      | some h => xend E fn e f h
      | none => none
    | none => none
  | _, _ => none
theorem zfun_ends {E : XE} (hE : E.Ok P) (hN : CT.Nat E.C) {FD : List (Nat × XP)} (hF : FDOk P FD) (hm : P.follows .mixedOrders = true) {m : Nat} {i : FuncId} {fn : Func} (hf : P.funcs[i]? = some fn) (hn : fn.ntmps = E.n) (hd : (match fn.body with
    | some c => drawsOk E.n E.D c
    | none => true) = true) {args : List AVal} {v : AVal} {R : AEnd → AHeap → Prop} (hx : zfun E FD m fn args h = some (v, h')) (hR : HOk h → h.length ≤ h'.length → ABody.AEnds h h' (.ret v) R) : ACalls P i args h R := by
  suffices key : HOk h → ACalls P i args h R from fun ρ w us hR hv => key (fun i o ho => hR.idsObj ho) ρ w us hR hv
  intro hok
  unfold zfun at hx
  split at hx
  · rename_i c hb hl
    have hl' : args.length ≤ E.n := Nat.le_of_ble_eq_true hl
    rw [hb] at hd
    cases hz : zex E m c [] (fargs args 0) h with
    | none => rw [hz] at hx; cases hx
    | some z =>
      rw [hz] at hx
      obtain ⟨⟨e0, f0, g0⟩, ds0⟩ := z
      simp only at hx
      have h1 := zex_sound hE hN hm c hd [] _ h _ (fargs_wf hl') hz
      rw [fargs_lst hl', ← hn] at h1
      refine acalls_bodyD hf hb (awpD_mono h1 ?_)
      rintro e ds a g ⟨he, hnp, hw, rfl⟩ hlen
      simp only [Prod.mk.injEq, true_and] at he
      obtain ⟨⟨rfl, rfl⟩, rfl⟩ := he
      cases hv : zleave FD ds0 g0 with
      | none => rw [hv] at hx; cases hx
      | some h1' =>
        rw [hv] at hx
        simp only at hx
        have done : xresGo E.T f0 h1' fn.results.toList [] (fun v => some (v, h1')) = some (v, h') → ALeave P fn h R ds0 (f0.lst fn.ntmps) g0 := fun hk => by
          refine zleave_ok hF ds0 g0 hlen hv fun hlen1 => ?_
          unfold aResults
          refine xresGo_ok hE.T hw _ _ hk fun v' hv' => ?_
          cases hv'
          exact hR hok hlen1
        cases e0 with
        | normal => exact done hx
        | ret => exact done hx
        | _ => cases hx
  · cases hx
theorem yfun_soundD {E : XE} (hE : E.Ok P) (hN : CT.Nat E.C) (hm : P.follows .mixedOrders = true) {m : Nat} {i : FuncId} {fn : Func} (hf : P.funcs[i]? = some fn) (hn : fn.ntmps = E.n) (hd : (match fn.body with
    | some c => drawsOk E.n E.D c
    | none => true) = true) {args : List AVal} {v : AVal} (hx : yfun E m fn args h = some (v, h')) : ACallsD P i args h fun g => g = h' := by
  have hx := yfun_le hN hx
  unfold xfun at hx
  split at hx
  · rename_i c hb hl
    have hl' : args.length ≤ E.n := Nat.le_of_ble_eq_true hl
    rw [hb] at hd
    have h1 := xexec_sound hE hm c hd _ _ h (xend E fn) _ (fargs_wf hl') hx
    rw [fargs_lst hl', ← hn] at h1
    refine acallsD_body hf hb (awp_mono (awp_len h1) ?_)
    rintro e a g ⟨⟨_, f, hw, rfl, hk⟩, hlen⟩
    have done : xresGo E.T f g fn.results.toList [] (fun v => some (v, g)) = some (v, h') → aResults P fn (f.lst fn.ntmps) g fun v => ABody.AEnds h g (.ret v) (fun e k => (∃ v, e = .ret v) ∧ k = h') := by
      intro hk
      unfold aResults
      refine xresGo_ok hE.T hw _ _ hk fun v' hv' => ?_
      cases hv'
      exact ⟨_, .ret _, hlen, ⟨⟨_, rfl⟩, rfl⟩, fun ρ w u hR hE => ⟨Fewer.refl _, hR, hE⟩⟩
    cases e with
    | normal => exact done hk
    | ret => exact done hk
    | _ => cases hk
  · cases hx
/-! ### Calls that leave no trace -/
def listAll2 {α : Type} (f : α → α → Bool) : List α → List α → Bool
  | [], [] => true
  | a :: l, b :: r => f a b && listAll2 f l r
  | _, _ => false
theorem listAll2_eq {α : Type} {f : α → α → Bool} (hf : ∀ a b, f a b = true → a = b) : ∀ {l r : List α}, listAll2 f l r = true → l = r
  | [], [], _ => rfl
  | a :: l, b :: r, h => by
    simp only [listAll2, Bool.and_eq_true] at h
    rw [hf _ _ h.1, listAll2_eq hf h.2]
  | [], _ :: _, h => by cases h
  | _ :: _, [], h => by cases h
def avEqN : Nat → AVal → AVal → Bool
  | 0, _, _ => false
  | n + 1, a, b => match a, b with
    | .agg vs, .agg us => listAll2 (avEqN n) vs us
    | .tup vs, .tup us => listAll2 (avEqN n) vs us
    | .fn (.func i) vs ws, .fn (.func j) us xs => Nat.beq i j && (listAll2 (avEqN n) vs us && listAll2 (avEqN n) ws xs)
    | .rop vs, .rop us => listAll2 (avEqN n) vs us
    | .ros vs k, .ros us l => Nat.beq k l && listAll2 (avEqN n) vs us
    | a, b => avEq a b
theorem avEqN_eq : ∀ {n : Nat} {a b : AVal}, avEqN n a b = true → a = b
  | 0, a, b, h => by cases h
  | n + 1, a, b, h => by
    unfold avEqN at h
    split at h
    · rw [listAll2_eq (fun _ _ => avEqN_eq) h]
    · rw [listAll2_eq (fun _ _ => avEqN_eq) h]
    · simp only [Bool.and_eq_true] at h
      rw [Nat.eq_of_beq_eq_true h.1, listAll2_eq (fun _ _ => avEqN_eq) h.2.1, listAll2_eq (fun _ _ => avEqN_eq) h.2.2]
    · rw [listAll2_eq (fun _ _ => avEqN_eq) h]
    · simp only [Bool.and_eq_true] at h
      rw [Nat.eq_of_beq_eq_true h.1, listAll2_eq (fun _ _ => avEqN_eq) h.2]
    · exact avEq_eq h
def mkeyEq : MKey → MKey → Bool
  | .str, .str => true
  | .bool, .bool => true
  | .int k, .int l => kindEq k l
  | _, _ => false
theorem mkeyEq_eq {a b : MKey} (h : mkeyEq a b = true) : a = b := by
  unfold mkeyEq at h
  split at h
  · rfl
  · rfl
  · rw [kindEq_eq h]
  · cases h
def entEq (x y : Value × AVal) : Bool := litEq x.1 y.1 && avEqN 8 x.2 y.2
theorem entEq_eq {x y : Value × AVal} (h : entEq x y = true) : x = y := by
  simp only [entEq, Bool.and_eq_true] at h
  exact Prod.ext (litEq_eq h.1) (avEqN_eq h.2)
def objEq : AObj → AObj → Bool
  | .dead, .dead => true
  | .cells a, .cells b => listAll2 (avEqN 8) a b
  | .map d es, .map d' es' => mkeyEq d d' && listAll2 entEq es es'
  | .mapU d es, .mapU d' es' => mkeyEq d d' && listAll2 entEq es es'
  | .bld T k n, .bld T' k' n' => decide (T = T') && (decide (k = k') && decide (n = n'))
  | .buf T bs, .buf T' bs' => decide (T = T') && decide (bs = bs')
  | _, _ => false
theorem objEq_eq {a b : AObj} (h : objEq a b = true) : a = b := by
  unfold objEq at h
  split at h
  · rfl
  · rw [listAll2_eq (fun _ _ => avEqN_eq) h]
  · simp only [Bool.and_eq_true] at h
    rw [mkeyEq_eq h.1, listAll2_eq (fun _ _ => entEq_eq) h.2]
  · simp only [Bool.and_eq_true] at h
    rw [mkeyEq_eq h.1, listAll2_eq (fun _ _ => entEq_eq) h.2]
  · simp only [Bool.and_eq_true, decide_eq_true_eq] at h
    rw [h.1, h.2.1, h.2.2]
  · simp only [Bool.and_eq_true, decide_eq_true_eq] at h
    rw [h.1, h.2]
  · cases h
def growB : AHeap → AHeap → Bool
  | [], _ => true
  | a :: l, b :: r => objEq a b && growB l r
  | _ :: _, [] => false
theorem growB_app : ∀ {l r : AHeap}, growB l r = true → ∃ L, r = l ++ L
  | [], r, _ => ⟨r, rfl⟩
  | a :: l, b :: r, h => by
    simp only [growB, Bool.and_eq_true] at h
    obtain ⟨L, hL⟩ := growB_app h.2
    exact ⟨L, by rw [objEq_eq h.1, hL]; rfl⟩
  | _ :: _, [], h => by cases h
def quietO (x : Option (AVal × AHeap)) (h : AHeap) : Option AVal := match x with
  | some r => match r.1.closed || Nat.beq h.length r.2.length with
    | true => match growB h r.2 with
      | true => some r.1
      | false => none
    | false => none
  | none => none
theorem quietO_some {x : Option (AVal × AHeap)} {h : AHeap} {v : AVal} (hx : quietO x h = some v) : ∃ h', x = some (v, h') ∧ ∀ R : AEnd → AHeap → Prop, HOk h → R (.ret v) h → ABody.AEnds h h' (.ret v) R := by
  unfold quietO at hx
  split at hx
  · rename_i r
    split at hx
    · rename_i hc
      split at hx
      · rename_i hg
        cases hx
        obtain ⟨L, hL⟩ := growB_app hg
        refine ⟨r.2, rfl, fun R hok hR => ?_⟩
        rw [hL]
        cases hv : r.1.closed with
        | true => exact ends_same hok hv hR
        | false =>
          rw [hv, Bool.false_or] at hc
          have hl := Nat.eq_of_beq_eq_true hc
          rw [hL, List.length_append] at hl
          have : L = [] := List.eq_nil_of_length_eq_zero (by omega)
          rw [this, List.append_nil]
          exact ends_here hR
      · cases hx
    · cases hx
  · cases hx
/-- As YRow, with those whose calls are put off, and those who leave no trace. -/
structure ZRow where
  Y : YRow
  ds : List Nat
  qs : List Nat
def quietC (run : XP) : XC := .q fun _ args h K => (quietO (run args h) h).bind K
theorem quietC_nat (run : XP) : (quietC run).Nat := fun R args h K => by
  show (quietO (run args h) h).bind K = ((quietO (run args h) h).bind some).bind K
  cases quietO (run args h) h <;> rfl
noncomputable def zenv (r : ZRow) (run : Nat → XP) : XE := { r.Y.E with C := r.Y.E.C ++ (r.qs.map fun j => (j, quietC (run j))) ++ (r.Y.cs ++ r.ds).map fun j => (j, recC (run j)), Y := fun _ _ _ => none, I := [] }
noncomputable def zdef (T : List (Nat × ZRow)) (m : Nat) (run : Nat → XP) (j : Nat) : XP := match findN T j with
  | some r => yfun (zenv r run) m r.Y.fn
  | none => fun _ _ => none
noncomputable def zrun (T : List (Nat × ZRow)) (m : Nat) : Nat → Nat → XP
  | 0, _ => fun _ _ => none
  | k + 1, i => match findN T i with
    | some r => match r.ds with
      | [] => yfun (zenv r (zrun T m k)) m r.Y.fn
      | d :: ds => zfun (zenv r (zrun T m k)) ((d :: ds).map fun j => (j, zdef T m (zrun T m k) j)) m r.Y.fn
    | none => fun _ _ => none
structure ZRow.Ok (P : Program) (i : Nat) (r : ZRow) : Prop where
  y : r.Y.Ok P i
  ds : ∀ j ∈ r.ds, callable P j = true
  qs : ∀ j ∈ r.qs, callable P j = true
def ZOk (P : Program) : List (Nat × ZRow) → Prop
  | [] => True
  | (i, r) :: T => r.Ok P i ∧ ZOk P T
theorem ZOk.find : ∀ {T : List (Nat × ZRow)} {i : Nat} {r : ZRow}, ZOk P T → findN T i = some r → r.Ok P i
  | [], i, r, _, h => by cases h
  | (k, x) :: l, i, r, hC, h => by
    rcases findN_some h with ⟨rfl, rfl⟩ | h
    · exact hC.1
    · exact ZOk.find hC.2 h
theorem findN_mapD {T : List (Nat × ZRow)} {m : Nat} {run : Nat → XP} : ∀ {l : List Nat} {i : Nat} {g : XP}, findN (l.map fun j => (j, zdef T m run j)) i = some g → g = zdef T m run i
  | [], i, g, h => by cases h
  | j :: l, i, g, h => by
    rcases findN_some h with ⟨rfl, rfl⟩ | h
    · rfl
    · exact findN_mapD h
theorem ctq_nat (run : Nat → XP) : ∀ cs : List Nat, CT.Nat (cs.map fun j => (j, quietC (run j)))
  | [] => trivial
  | j :: cs => ⟨quietC_nat _, ctq_nat run cs⟩
theorem ctq_ok {run : Nat → XP} : ∀ {cs : List Nat}, (∀ j ∈ cs, XC.Ok P j (quietC (run j))) → CT.Ok P (cs.map fun j => (j, quietC (run j)))
  | [], _ => trivial
  | j :: cs, h => ⟨⟨quietC_nat _, h j (by simp)⟩, ctq_ok fun k hk => h k (by simp [hk])⟩
theorem zenv_nat {r : ZRow} {i : Nat} (ok : r.Ok P i) (run : Nat → XP) : CT.Nat (zenv r run).C := (ok.y.hC.nat.append (ctq_nat _ _)).append (ct_nat _ _)
theorem zenv_ok {r : ZRow} {i : Nat} (ok : r.Ok P i) {run : Nat → XP} (hl : ∀ j, callable P j = true → XC.Ok P j (recC (run j))) (hq : ∀ j, callable P j = true → XC.Ok P j (quietC (run j))) : (zenv r run).Ok P :=
  ⟨ok.y.hT, (ok.y.hC.append (ctq_ok fun j hj => hq j (ok.qs j hj))).append (ct_ok fun j hj => hl j ((List.mem_append.1 hj).elim (ok.y.hcs j) (ok.ds j))), ydOk_none, trivial⟩
/-- What a run comes to, its end told in any way that is so. -/
theorem zrun_ends {T : List (Nat × ZRow)} (hT : ZOk P T) (hm : P.follows .mixedOrders = true) (m : Nat) : ∀ (k i : Nat) (args : List AVal) (h : AHeap) (v : AVal) (h' : AHeap) (R : AEnd → AHeap → Prop), zrun T m k i args h = some (v, h') → (HOk h → h.length ≤ h'.length → ABody.AEnds h h' (.ret v) R) → ACalls P i args h R
  | 0, i, args, h, v, h', R, hx, hR => by simp [zrun] at hx
  | k + 1, i, args, h, v, h', R, hx, hR => by
    have e0 : zrun T m (k + 1) i = match findN T i with
      | some r => match r.ds with
        | [] => yfun (zenv r (zrun T m k)) m r.Y.fn
        | d :: ds => zfun (zenv r (zrun T m k)) ((d :: ds).map fun j => (j, zdef T m (zrun T m k) j)) m r.Y.fn
      | none => fun _ _ => none := rfl
    rw [e0] at hx
    have hl : ∀ j, callable P j = true → XC.Ok P j (recC (zrun T m k j)) := fun j hj => ⟨hj, fun args h v h' hx => by
      obtain ⟨r, h1, h2⟩ := Option.bind_eq_some_iff.1 hx
      cases h2
      exact zrun_ends hT hm m k j args h _ _ _ h1 fun hok hl => ⟨_, .ret _, hl, ⟨rfl, rfl⟩, fun ρ w u hR hE => ⟨Fewer.refl _, hR, hE⟩⟩⟩
    have hq : ∀ j, callable P j = true → XC.Ok P j (quietC (zrun T m k j)) := fun j hj => ⟨hj, fun args h v hx => by
      obtain ⟨r, h1, h2⟩ := Option.bind_eq_some_iff.1 hx
      cases h2
      obtain ⟨h', h3, h4⟩ := quietO_some h1
      exact zrun_ends hT hm m k j args h _ h' _ h3 fun hok _ => h4 _ hok ⟨rfl, rfl⟩⟩
    cases hr : findN T i with
    | none => rw [hr] at hx; cases hx
    | some row =>
      rw [hr] at hx
      simp only at hx
      have ok := hT.find hr
      cases hd : row.ds with
      | nil =>
        rw [hd] at hx
        exact xfun_ends (zenv_ok ok hl hq) hm ok.y.hf ok.y.hn ok.y.hd (yfun_le (zenv_nat ok _) hx) hR
      | cons d ds =>
        rw [hd] at hx
        refine zfun_ends (zenv_ok ok hl hq) (zenv_nat ok _) ?_ hm ok.y.hf ok.y.hn ok.y.hd hx hR
        intro j g hg args h v h' hx
        rw [findN_mapD hg] at hx
        unfold zdef at hx
        cases hrj : findN T j with
        | none => rw [hrj] at hx; cases hx
        | some rj =>
          rw [hrj] at hx
          have okj := hT.find hrj
          exact yfun_soundD (zenv_ok okj hl hq) (zenv_nat okj _) hm okj.y.hf okj.y.hn okj.y.hd hx
/-- A call of nothing that comes to true: whatever lies in the memory. -/
theorem zrun_true {T : List (Nat × ZRow)} (hT : ZOk P T) (hm : P.follows .mixedOrders = true) {m k i : Nat} (hx : tellsTrue (zrun T m k i [] []) = true) : ACalls P i [] [] fun e _ => e = .ret (.lit (.bool true)) := by
  unfold tellsTrue at hx
  split at hx
  · rename_i b h' he
    subst hx
    exact zrun_ends hT hm m k i [] [] (.lit (.bool true)) h' _ he fun hok hl => ⟨_, .ret _, hl, rfl, fun ρ w u hR hE => ⟨Fewer.refl _, hR, hE⟩⟩
  · cases hx
end Go.Proofs.YteahajcgbogjkaaGreatDoor.AL
/- The chapter's example of xsort: run. -/
namespace Go.Proofs.YteahajcgbogjkaaGreatDoor.AL
set_option linter.unusedVariables false
set_option linter.unusedSimpArgs false
set_option maxRecDepth 100000
open Go
open Go.Proofs.Tryz
theorem seen_awake18 : ∀ j ∈ ([5, 6, 8, 15, 16, 17, 18, 19, 20, 21, 22, 23, 35, 36, 37, 38, 39, 40, 41, 43, 44, 45, 46, 47, 48, 49, 50, 62, 63, 64, 65, 66, 67, 68, 69, 70, 71, 72, 73, 74, 75, 76, 77, 78, 82, 83, 84, 85, 86, 87, 92, 93, 100, 101, 102, 103, 104, 105, 106, 109, 110, 111, 112, 113, 114, 115, 116, 117, 118, 125, 126, 130, 142, 143, 144, 145, 146, 147, 150, 151, 152, 153, 154, 155, 173, 174, 175, 176, 187, 188, 189, 192, 193, 194, 195, 196, 205, 206, 211, 212, 215] : List Nat), callable Tryz.prog j = true := by simp only [List.mem_cons, List.not_mem_nil, or_false, forall_eq_or_imp, forall_eq]; exact ⟨tc5, tc6, tc8, tc15, tc16, tc17, tc18, tc19, tc20, tc21, tc22, tc23, tc35, tc36, tc37, tc38, tc39, tc40, tc41, tc43, tc44, tc45, tc46, tc47, tc48, tc49, tc50, tc62, tc63, tc64, tc65, tc66, tc67, tc68, tc69, tc70, tc71, tc72, tc73, tc74, tc75, tc76, tc77, tc78, tc82, tc83, tc84, tc85, tc86, tc87, tc92, tc93, tc100, tc101, tc102, tc103, tc104, tc105, tc106, tc109, tc110, tc111, tc112, tc113, tc114, tc115, tc116, tc117, tc118, tc125, tc126, tc130, tc142, tc143, tc144, tc145, tc146, tc147, tc150, tc151, tc152, tc153, tc154, tc155, tc173, tc174, tc175, tc176, tc187, tc188, tc189, tc192, tc193, tc194, tc195, tc196, tc205, tc206, tc211, tc212, tc215⟩
noncomputable def yawake18_5 : YRow := { E := { T := tabOf [(3, r3), (4, r4), (9, r9), (35, r35), (36, r36), (42, r42), (43, r43), (45, r45), (48, r48)], C := [], D := [], Ms := [], Ml := [], Mo := [], n := 41 }, cs := [6, 8, 15, 16, 17, 18, 19, 20], fn := f5 }
theorem yawake18_5_ok : YRow.Ok Tryz.prog 5 yawake18_5 := ⟨rfl, by kernel_rfl, by kernel_rfl, tabOf_ok (⟨r3_ok, ⟨r4_ok, ⟨r9_ok, ⟨r35_ok, ⟨r36_ok, ⟨r42_ok, ⟨r43_ok, ⟨r45_ok, ⟨r48_ok, trivial⟩⟩⟩⟩⟩⟩⟩⟩⟩), (trivial), tc5, (fun j hj => by simp only [yawake18_5, List.mem_cons, List.not_mem_nil, or_false] at hj; rcases hj with rfl | rfl | rfl | rfl | rfl | rfl | rfl | rfl <;> first | exact tc6 | exact tc8 | exact tc15 | exact tc16 | exact tc17 | exact tc18 | exact tc19 | exact tc20)⟩
noncomputable def yawake18_6 : YRow := { E := { T := tabOf [(3, r3), (4, r4)], C := [], D := [], Ms := [(9, [7])], Ml := [(6, [6, 7, 8])], Mo := [], n := 45 }, cs := [21], fn := f6 }
theorem yawake18_6_ok : YRow.Ok Tryz.prog 6 yawake18_6 := ⟨rfl, by kernel_rfl, by kernel_rfl, tabOf_ok (⟨r3_ok, ⟨r4_ok, trivial⟩⟩), (trivial), tc6, (fun j hj => by obtain rfl := List.mem_singleton.1 hj; exact tc21)⟩
noncomputable def yawake18_8 : YRow := { E := { T := tabOf [(4, r4), (9, r9)], C := [], D := [], Ms := [], Ml := [], Mo := [], n := 24 }, cs := [22, 23], fn := f8 }
theorem yawake18_8_ok : YRow.Ok Tryz.prog 8 yawake18_8 := ⟨rfl, by kernel_rfl, by kernel_rfl, tabOf_ok (⟨r4_ok, ⟨r9_ok, trivial⟩⟩), (trivial), tc8, (fun j hj => by simp only [yawake18_8, List.mem_cons, List.not_mem_nil, or_false] at hj; rcases hj with rfl | rfl <;> first | exact tc22 | exact tc23)⟩
noncomputable def yawake18_15 : YRow := { E := { T := tabOf [(3, r3), (4, r4), (9, r9), (35, r35), (36, r36), (73, r73), (75, r75), (77, r77)], C := [], D := [], Ms := [], Ml := [], Mo := [], n := 14 }, cs := [], fn := f15 }
theorem yawake18_15_ok : YRow.Ok Tryz.prog 15 yawake18_15 := ⟨rfl, by kernel_rfl, by kernel_rfl, tabOf_ok (⟨r3_ok, ⟨r4_ok, ⟨r9_ok, ⟨r35_ok, ⟨r36_ok, ⟨r73_ok, ⟨r75_ok, ⟨r77_ok, trivial⟩⟩⟩⟩⟩⟩⟩⟩), (trivial), tc15, (fun j hj => by cases hj)⟩
noncomputable def yawake18_16 : YRow := { E := { T := tabOf [(3, r3), (4, r4), (9, r9), (35, r35), (36, r36), (73, r73), (75, r75), (77, r77)], C := [], D := [], Ms := [], Ml := [], Mo := [], n := 30 }, cs := [35], fn := f16 }
theorem yawake18_16_ok : YRow.Ok Tryz.prog 16 yawake18_16 := ⟨rfl, by kernel_rfl, by kernel_rfl, tabOf_ok (⟨r3_ok, ⟨r4_ok, ⟨r9_ok, ⟨r35_ok, ⟨r36_ok, ⟨r73_ok, ⟨r75_ok, ⟨r77_ok, trivial⟩⟩⟩⟩⟩⟩⟩⟩), (trivial), tc16, (fun j hj => by obtain rfl := List.mem_singleton.1 hj; exact tc35)⟩
noncomputable def yawake18_17 : YRow := { E := { T := tabOf [(3, r3), (4, r4), (9, r9), (35, r35), (36, r36), (73, r73), (75, r75), (77, r77)], C := [], D := [(4, ⟨[], [0, 1, 2, 3, 4, 5, 6, 7, 8, 9, 10, 11, 12], [], [], [], [], []⟩), (7, ⟨[], [0, 1, 2, 3, 4, 5], [6], [], [], [], []⟩)], Ms := [], Ml := [], Mo := [], n := 52 }, cs := [35], fn := f17 }
theorem yawake18_17_ok : YRow.Ok Tryz.prog 17 yawake18_17 := ⟨rfl, by kernel_rfl, by kernel_rfl, tabOf_ok (⟨r3_ok, ⟨r4_ok, ⟨r9_ok, ⟨r35_ok, ⟨r36_ok, ⟨r73_ok, ⟨r75_ok, ⟨r77_ok, trivial⟩⟩⟩⟩⟩⟩⟩⟩), (trivial), tc17, (fun j hj => by obtain rfl := List.mem_singleton.1 hj; exact tc35)⟩
noncomputable def yawake18_18 : YRow := { E := { T := tabOf [(3, r3), (4, r4), (9, r9), (42, r42)], C := [], D := [], Ms := [], Ml := [], Mo := [], n := 14 }, cs := [36], fn := f18 }
theorem yawake18_18_ok : YRow.Ok Tryz.prog 18 yawake18_18 := ⟨rfl, by kernel_rfl, by kernel_rfl, tabOf_ok (⟨r3_ok, ⟨r4_ok, ⟨r9_ok, ⟨r42_ok, trivial⟩⟩⟩⟩), (trivial), tc18, (fun j hj => by obtain rfl := List.mem_singleton.1 hj; exact tc36)⟩
noncomputable def yawake18_19 : YRow := { E := { T := tabOf [(3, r3), (4, r4), (9, r9), (35, r35), (36, r36), (43, r43), (45, r45), (48, r48), (82, r82), (84, r84)], C := [], D := [], Ms := [(17, [0, 3, 12, 16, 17, 18, 19, 20]), (19, [0, 3, 12, 16, 19, 20]), (24, [0, 3, 12, 20, 21])], Ml := [(10, [0, 3, 12, 16, 17, 19, 20]), (1000000, [0, 3, 12, 16, 17, 19, 20])], Mo := [], n := 109 }, cs := [21, 37, 38, 39, 40, 41, 43, 44], fn := f19 }
theorem yawake18_19_ok : YRow.Ok Tryz.prog 19 yawake18_19 := ⟨rfl, by kernel_rfl, by kernel_rfl, tabOf_ok (⟨r3_ok, ⟨r4_ok, ⟨r9_ok, ⟨r35_ok, ⟨r36_ok, ⟨r43_ok, ⟨r45_ok, ⟨r48_ok, ⟨r82_ok, ⟨r84_ok, trivial⟩⟩⟩⟩⟩⟩⟩⟩⟩⟩), (trivial), tc19, (fun j hj => by simp only [yawake18_19, List.mem_cons, List.not_mem_nil, or_false] at hj; rcases hj with rfl | rfl | rfl | rfl | rfl | rfl | rfl | rfl <;> first | exact tc21 | exact tc37 | exact tc38 | exact tc39 | exact tc40 | exact tc41 | exact tc43 | exact tc44)⟩
noncomputable def yawake18_20 : YRow := { E := { T := tabOf [(3, r3), (4, r4), (48, r48), (93, r93)], C := [], D := [], Ms := [], Ml := [], Mo := [], n := 8 }, cs := [], fn := f20 }
theorem yawake18_20_ok : YRow.Ok Tryz.prog 20 yawake18_20 := ⟨rfl, by kernel_rfl, by kernel_rfl, tabOf_ok (⟨r3_ok, ⟨r4_ok, ⟨r48_ok, ⟨r93_ok, trivial⟩⟩⟩⟩), (trivial), tc20, (fun j hj => by cases hj)⟩
noncomputable def yawake18_21 : YRow := { E := { T := tabOf [(3, r3)], C := [], D := [], Ms := [], Ml := [], Mo := [], n := 10 }, cs := [], fn := f21 }
theorem yawake18_21_ok : YRow.Ok Tryz.prog 21 yawake18_21 := ⟨rfl, by kernel_rfl, by kernel_rfl, tabOf_ok (⟨r3_ok, trivial⟩), (trivial), tc21, (fun j hj => by cases hj)⟩
noncomputable def yawake18_22 : YRow := { E := { T := tabOf [(4, r4), (9, r9)], C := [], D := [], Ms := [], Ml := [], Mo := [], n := 11 }, cs := [45], fn := f22 }
theorem yawake18_22_ok : YRow.Ok Tryz.prog 22 yawake18_22 := ⟨rfl, by kernel_rfl, by kernel_rfl, tabOf_ok (⟨r4_ok, ⟨r9_ok, trivial⟩⟩), (trivial), tc22, (fun j hj => by obtain rfl := List.mem_singleton.1 hj; exact tc45)⟩
noncomputable def yawake18_23 : YRow := { E := { T := tabOf [(3, r3), (4, r4), (5, r5), (9, r9), (96, r96), (100, r100)], C := [], D := [(4, ⟨[], [], [], [], [], [0, 1, 2, 4, 5], [(3, [4, 5]), (6, []), (7, [])]⟩)], Ms := [], Ml := [], Mo := [], n := 43 }, cs := [46, 47, 48, 49, 50], fn := f23 }
theorem yawake18_23_ok : YRow.Ok Tryz.prog 23 yawake18_23 := ⟨rfl, by kernel_rfl, by kernel_rfl, tabOf_ok (⟨r3_ok, ⟨r4_ok, ⟨r5_ok, ⟨r9_ok, ⟨r96_ok, ⟨r100_ok, trivial⟩⟩⟩⟩⟩⟩), (trivial), tc23, (fun j hj => by simp only [yawake18_23, List.mem_cons, List.not_mem_nil, or_false] at hj; rcases hj with rfl | rfl | rfl | rfl | rfl <;> first | exact tc46 | exact tc47 | exact tc48 | exact tc49 | exact tc50)⟩
noncomputable def yawake18_35 : YRow := { E := { T := tabOf [(3, r3), (4, r4), (9, r9), (35, r35), (36, r36), (73, r73), (75, r75), (77, r77)], C := [], D := [], Ms := [], Ml := [], Mo := [], n := 35 }, cs := [62, 63], fn := f35 }
theorem yawake18_35_ok : YRow.Ok Tryz.prog 35 yawake18_35 := ⟨rfl, by kernel_rfl, by kernel_rfl, tabOf_ok (⟨r3_ok, ⟨r4_ok, ⟨r9_ok, ⟨r35_ok, ⟨r36_ok, ⟨r73_ok, ⟨r75_ok, ⟨r77_ok, trivial⟩⟩⟩⟩⟩⟩⟩⟩), (trivial), tc35, (fun j hj => by simp only [yawake18_35, List.mem_cons, List.not_mem_nil, or_false] at hj; rcases hj with rfl | rfl <;> first | exact tc62 | exact tc63)⟩
noncomputable def yawake18_36 : YRow := { E := { T := tabOf [(3, r3), (4, r4), (9, r9), (42, r42), (43, r43), (45, r45)], C := [], D := [], Ms := [(9, [1, 6])], Ml := [(5, [0, 1, 6, 8])], Mo := [], n := 57 }, cs := [64, 65, 66, 67, 68], fn := f36 }
theorem yawake18_36_ok : YRow.Ok Tryz.prog 36 yawake18_36 := ⟨rfl, by kernel_rfl, by kernel_rfl, tabOf_ok (⟨r3_ok, ⟨r4_ok, ⟨r9_ok, ⟨r42_ok, ⟨r43_ok, ⟨r45_ok, trivial⟩⟩⟩⟩⟩⟩), (trivial), tc36, (fun j hj => by simp only [yawake18_36, List.mem_cons, List.not_mem_nil, or_false] at hj; rcases hj with rfl | rfl | rfl | rfl | rfl <;> first | exact tc64 | exact tc65 | exact tc66 | exact tc67 | exact tc68)⟩
noncomputable def yawake18_37 : YRow := { E := { T := tabOf [(3, r3), (4, r4), (48, r48), (93, r93)], C := [], D := [(3, ⟨[], [0, 1, 2, 3, 4, 5, 6, 7, 8, 9], [], [], [], [], []⟩)], Ms := [], Ml := [], Mo := [], n := 15 }, cs := [69], fn := f37 }
theorem yawake18_37_ok : YRow.Ok Tryz.prog 37 yawake18_37 := ⟨rfl, by kernel_rfl, by kernel_rfl, tabOf_ok (⟨r3_ok, ⟨r4_ok, ⟨r48_ok, ⟨r93_ok, trivial⟩⟩⟩⟩), (trivial), tc37, (fun j hj => by obtain rfl := List.mem_singleton.1 hj; exact tc69)⟩
noncomputable def yawake18_38 : YRow := { E := { T := tabOf [(3, r3), (4, r4), (9, r9), (35, r35), (36, r36), (42, r42), (48, r48), (125, r125), (128, r128), (130, r130)], C := [], D := [], Ms := [], Ml := [(12, [5, 17, 19])], Mo := [], n := 76 }, cs := [70, 71, 72, 73, 74, 75], fn := f38 }
theorem yawake18_38_ok : YRow.Ok Tryz.prog 38 yawake18_38 := ⟨rfl, by kernel_rfl, by kernel_rfl, tabOf_ok (⟨r3_ok, ⟨r4_ok, ⟨r9_ok, ⟨r35_ok, ⟨r36_ok, ⟨r42_ok, ⟨r48_ok, ⟨r125_ok, ⟨r128_ok, ⟨r130_ok, trivial⟩⟩⟩⟩⟩⟩⟩⟩⟩⟩), (trivial), tc38, (fun j hj => by simp only [yawake18_38, List.mem_cons, List.not_mem_nil, or_false] at hj; rcases hj with rfl | rfl | rfl | rfl | rfl | rfl <;> first | exact tc70 | exact tc71 | exact tc72 | exact tc73 | exact tc74 | exact tc75)⟩
noncomputable def yawake18_39 : YRow := { E := { T := tabOf [(3, r3), (4, r4), (9, r9), (35, r35), (48, r48), (82, r82), (84, r84)], C := [], D := [(1, ⟨[], [], [], [], [], [0, 1, 2, 3, 4, 5], [(6, [0, 1, 2, 3, 4]), (7, []), (8, [])]⟩)], Ms := [], Ml := [], Mo := [], n := 13 }, cs := [76], fn := f39 }
theorem yawake18_39_ok : YRow.Ok Tryz.prog 39 yawake18_39 := ⟨rfl, by kernel_rfl, by kernel_rfl, tabOf_ok (⟨r3_ok, ⟨r4_ok, ⟨r9_ok, ⟨r35_ok, ⟨r48_ok, ⟨r82_ok, ⟨r84_ok, trivial⟩⟩⟩⟩⟩⟩⟩), (trivial), tc39, (fun j hj => by obtain rfl := List.mem_singleton.1 hj; exact tc76)⟩
noncomputable def yawake18_40 : YRow := { E := { T := tabOf [(3, r3), (4, r4), (9, r9), (35, r35), (36, r36), (43, r43), (45, r45), (48, r48), (82, r82), (84, r84), (106, r106)], C := [], D := [(1, ⟨[], [0, 1, 2, 3, 4, 5, 6, 7, 8, 9, 10, 11, 12], [13, 14, 15, 16, 17, 18], [], [], [], []⟩)], Ms := [], Ml := [], Mo := [], n := 33 }, cs := [77, 78], fn := f40 }
theorem yawake18_40_ok : YRow.Ok Tryz.prog 40 yawake18_40 := ⟨rfl, by kernel_rfl, by kernel_rfl, tabOf_ok (⟨r3_ok, ⟨r4_ok, ⟨r9_ok, ⟨r35_ok, ⟨r36_ok, ⟨r43_ok, ⟨r45_ok, ⟨r48_ok, ⟨r82_ok, ⟨r84_ok, ⟨r106_ok, trivial⟩⟩⟩⟩⟩⟩⟩⟩⟩⟩⟩), (trivial), tc40, (fun j hj => by simp only [yawake18_40, List.mem_cons, List.not_mem_nil, or_false] at hj; rcases hj with rfl | rfl <;> first | exact tc77 | exact tc78)⟩
noncomputable def yawake18_41 : YRow := { E := { T := tabOf [(3, r3), (4, r4), (9, r9)], C := [], D := [], Ms := [], Ml := [], Mo := [], n := 12 }, cs := [76], fn := f41 }
theorem yawake18_41_ok : YRow.Ok Tryz.prog 41 yawake18_41 := ⟨rfl, by kernel_rfl, by kernel_rfl, tabOf_ok (⟨r3_ok, ⟨r4_ok, ⟨r9_ok, trivial⟩⟩⟩), (trivial), tc41, (fun j hj => by obtain rfl := List.mem_singleton.1 hj; exact tc76)⟩
noncomputable def yawake18_43 : YRow := { E := { T := tabOf [(3, r3), (4, r4), (9, r9), (35, r35), (36, r36), (43, r43), (45, r45), (48, r48), (82, r82), (84, r84)], C := [], D := [], Ms := [], Ml := [], Mo := [], n := 52 }, cs := [82, 83, 84], fn := f43 }
theorem yawake18_43_ok : YRow.Ok Tryz.prog 43 yawake18_43 := ⟨rfl, by kernel_rfl, by kernel_rfl, tabOf_ok (⟨r3_ok, ⟨r4_ok, ⟨r9_ok, ⟨r35_ok, ⟨r36_ok, ⟨r43_ok, ⟨r45_ok, ⟨r48_ok, ⟨r82_ok, ⟨r84_ok, trivial⟩⟩⟩⟩⟩⟩⟩⟩⟩⟩), (trivial), tc43, (fun j hj => by simp only [yawake18_43, List.mem_cons, List.not_mem_nil, or_false] at hj; rcases hj with rfl | rfl | rfl <;> first | exact tc82 | exact tc83 | exact tc84)⟩
noncomputable def yawake18_44 : YRow := { E := { T := tabOf [(3, r3), (4, r4), (9, r9), (35, r35), (36, r36), (73, r73), (75, r75), (77, r77)], C := [], D := [(6, ⟨[], [0, 1, 2, 3, 4, 5], [6], [], [], [], []⟩), (7, ⟨[], [0, 1, 2, 3, 4, 5, 6, 7, 8, 9], [10], [], [], [], []⟩)], Ms := [], Ml := [], Mo := [], n := 47 }, cs := [35, 63, 85], fn := f44 }
theorem yawake18_44_ok : YRow.Ok Tryz.prog 44 yawake18_44 := ⟨rfl, by kernel_rfl, by kernel_rfl, tabOf_ok (⟨r3_ok, ⟨r4_ok, ⟨r9_ok, ⟨r35_ok, ⟨r36_ok, ⟨r73_ok, ⟨r75_ok, ⟨r77_ok, trivial⟩⟩⟩⟩⟩⟩⟩⟩), (trivial), tc44, (fun j hj => by simp only [yawake18_44, List.mem_cons, List.not_mem_nil, or_false] at hj; rcases hj with rfl | rfl | rfl <;> first | exact tc35 | exact tc63 | exact tc85)⟩
noncomputable def yawake18_45 : YRow := { E := { T := tabOf [(3, r3), (4, r4), (9, r9)], C := [], D := [], Ms := [], Ml := [], Mo := [], n := 15 }, cs := [86], fn := f45 }
theorem yawake18_45_ok : YRow.Ok Tryz.prog 45 yawake18_45 := ⟨rfl, by kernel_rfl, by kernel_rfl, tabOf_ok (⟨r3_ok, ⟨r4_ok, ⟨r9_ok, trivial⟩⟩⟩), (trivial), tc45, (fun j hj => by obtain rfl := List.mem_singleton.1 hj; exact tc86)⟩
noncomputable def yawake18_46 : YRow := { E := { T := tabOf [(3, r3), (4, r4), (5, r5), (9, r9)], C := [], D := [], Ms := [(3, [0])], Ml := [(1, [0, 1])], Mo := [], n := 17 }, cs := [], fn := f46 }
theorem yawake18_46_ok : YRow.Ok Tryz.prog 46 yawake18_46 := ⟨rfl, by kernel_rfl, by kernel_rfl, tabOf_ok (⟨r3_ok, ⟨r4_ok, ⟨r5_ok, ⟨r9_ok, trivial⟩⟩⟩⟩), (trivial), tc46, (fun j hj => by cases hj)⟩
noncomputable def yawake18_47 : YRow := { E := { T := tabOf [(3, r3), (4, r4), (5, r5), (9, r9)], C := [], D := [], Ms := [(3, [0])], Ml := [(1, [0, 1])], Mo := [], n := 23 }, cs := [], fn := f47 }
theorem yawake18_47_ok : YRow.Ok Tryz.prog 47 yawake18_47 := ⟨rfl, by kernel_rfl, by kernel_rfl, tabOf_ok (⟨r3_ok, ⟨r4_ok, ⟨r5_ok, ⟨r9_ok, trivial⟩⟩⟩⟩), (trivial), tc47, (fun j hj => by cases hj)⟩
noncomputable def yawake18_48 : YRow := { E := { T := tabOf [(3, r3), (4, r4), (5, r5), (9, r9), (96, r96)], C := [], D := [], Ms := [(8, [2])], Ml := [(2, [0, 2, 4])], Mo := [], n := 21 }, cs := [], fn := f48 }
theorem yawake18_48_ok : YRow.Ok Tryz.prog 48 yawake18_48 := ⟨rfl, by kernel_rfl, by kernel_rfl, tabOf_ok (⟨r3_ok, ⟨r4_ok, ⟨r5_ok, ⟨r9_ok, ⟨r96_ok, trivial⟩⟩⟩⟩⟩), (trivial), tc48, (fun j hj => by cases hj)⟩
noncomputable def yawake18_49 : YRow := { E := { T := tabOf [(3, r3), (4, r4), (5, r5), (9, r9), (100, r100)], C := [], D := [], Ms := [(4, [0])], Ml := [(1, [0, 1])], Mo := [], n := 16 }, cs := [87], fn := f49 }
theorem yawake18_49_ok : YRow.Ok Tryz.prog 49 yawake18_49 := ⟨rfl, by kernel_rfl, by kernel_rfl, tabOf_ok (⟨r3_ok, ⟨r4_ok, ⟨r5_ok, ⟨r9_ok, ⟨r100_ok, trivial⟩⟩⟩⟩⟩), (trivial), tc49, (fun j hj => by obtain rfl := List.mem_singleton.1 hj; exact tc87)⟩
noncomputable def yawake18_50 : YRow := { E := { T := tabOf [(3, r3), (4, r4), (5, r5), (9, r9), (100, r100)], C := [], D := [], Ms := [(4, [0])], Ml := [(1, [0, 1])], Mo := [], n := 22 }, cs := [87], fn := f50 }
theorem yawake18_50_ok : YRow.Ok Tryz.prog 50 yawake18_50 := ⟨rfl, by kernel_rfl, by kernel_rfl, tabOf_ok (⟨r3_ok, ⟨r4_ok, ⟨r5_ok, ⟨r9_ok, ⟨r100_ok, trivial⟩⟩⟩⟩⟩), (trivial), tc50, (fun j hj => by obtain rfl := List.mem_singleton.1 hj; exact tc87)⟩
noncomputable def yawake18_62 : YRow := { E := { T := tabOf [(3, r3), (4, r4), (9, r9), (35, r35), (36, r36), (73, r73), (75, r75), (77, r77)], C := [], D := [], Ms := [(7, [0])], Ml := [], Mo := [], n := 49 }, cs := [100], fn := f62 }
theorem yawake18_62_ok : YRow.Ok Tryz.prog 62 yawake18_62 := ⟨rfl, by kernel_rfl, by kernel_rfl, tabOf_ok (⟨r3_ok, ⟨r4_ok, ⟨r9_ok, ⟨r35_ok, ⟨r36_ok, ⟨r73_ok, ⟨r75_ok, ⟨r77_ok, trivial⟩⟩⟩⟩⟩⟩⟩⟩), (trivial), tc62, (fun j hj => by obtain rfl := List.mem_singleton.1 hj; exact tc100)⟩
noncomputable def yawake18_63 : YRow := { E := { T := tabOf [(3, r3), (4, r4), (5, r5), (9, r9), (157, r157)], C := [], D := [], Ms := [(7, [0])], Ml := [(2, [0, 6, 7, 8])], Mo := [], n := 23 }, cs := [101], fn := f63 }
theorem yawake18_63_ok : YRow.Ok Tryz.prog 63 yawake18_63 := ⟨rfl, by kernel_rfl, by kernel_rfl, tabOf_ok (⟨r3_ok, ⟨r4_ok, ⟨r5_ok, ⟨r9_ok, ⟨r157_ok, trivial⟩⟩⟩⟩⟩), (trivial), tc63, (fun j hj => by obtain rfl := List.mem_singleton.1 hj; exact tc101)⟩
noncomputable def yawake18_64 : YRow := { E := { T := tabOf [(3, r3), (4, r4), (5, r5), (9, r9), (157, r157)], C := [], D := [], Ms := [], Ml := [], Mo := [], n := 16 }, cs := [102], fn := f64 }
theorem yawake18_64_ok : YRow.Ok Tryz.prog 64 yawake18_64 := ⟨rfl, by kernel_rfl, by kernel_rfl, tabOf_ok (⟨r3_ok, ⟨r4_ok, ⟨r5_ok, ⟨r9_ok, ⟨r157_ok, trivial⟩⟩⟩⟩⟩), (trivial), tc64, (fun j hj => by obtain rfl := List.mem_singleton.1 hj; exact tc102)⟩
noncomputable def yawake18_65 : YRow := { E := { T := tabOf [(3, r3), (4, r4), (9, r9), (42, r42)], C := [], D := [], Ms := [(6, [])], Ml := [(2, [0, 1, 5])], Mo := [], n := 19 }, cs := [], fn := f65 }
theorem yawake18_65_ok : YRow.Ok Tryz.prog 65 yawake18_65 := ⟨rfl, by kernel_rfl, by kernel_rfl, tabOf_ok (⟨r3_ok, ⟨r4_ok, ⟨r9_ok, ⟨r42_ok, trivial⟩⟩⟩⟩), (trivial), tc65, (fun j hj => by cases hj)⟩
noncomputable def yawake18_66 : YRow := { E := { T := tabOf [(3, r3), (4, r4), (5, r5), (9, r9), (42, r42), (157, r157)], C := [], D := [], Ms := [(8, [6])], Ml := [(5, [1, 6, 7])], Mo := [], n := 49 }, cs := [65, 102], fn := f66 }
theorem yawake18_66_ok : YRow.Ok Tryz.prog 66 yawake18_66 := ⟨rfl, by kernel_rfl, by kernel_rfl, tabOf_ok (⟨r3_ok, ⟨r4_ok, ⟨r5_ok, ⟨r9_ok, ⟨r42_ok, ⟨r157_ok, trivial⟩⟩⟩⟩⟩⟩), (trivial), tc66, (fun j hj => by simp only [yawake18_66, List.mem_cons, List.not_mem_nil, or_false] at hj; rcases hj with rfl | rfl <;> first | exact tc65 | exact tc102)⟩
noncomputable def yawake18_67 : YRow := { E := { T := tabOf [(3, r3), (4, r4), (9, r9), (43, r43), (45, r45)], C := [], D := [(3, ⟨[], [0, 1, 2, 3, 4, 5, 6, 7, 8], [9, 10, 11], [], [], [], []⟩)], Ms := [], Ml := [], Mo := [], n := 22 }, cs := [92, 102], fn := f67 }
theorem yawake18_67_ok : YRow.Ok Tryz.prog 67 yawake18_67 := ⟨rfl, by kernel_rfl, by kernel_rfl, tabOf_ok (⟨r3_ok, ⟨r4_ok, ⟨r9_ok, ⟨r43_ok, ⟨r45_ok, trivial⟩⟩⟩⟩⟩), (trivial), tc67, (fun j hj => by simp only [yawake18_67, List.mem_cons, List.not_mem_nil, or_false] at hj; rcases hj with rfl | rfl <;> first | exact tc92 | exact tc102)⟩
noncomputable def yawake18_68 : YRow := { E := { T := tabOf [(3, r3), (4, r4), (9, r9), (42, r42), (43, r43), (45, r45)], C := [], D := [(5, ⟨[], [0, 1, 2, 3, 4, 5], [6, 7, 8], [], [], [], []⟩)], Ms := [(6, [2, 3])], Ml := [(3, [0, 2, 3, 4])], Mo := [], n := 23 }, cs := [103], fn := f68 }
theorem yawake18_68_ok : YRow.Ok Tryz.prog 68 yawake18_68 := ⟨rfl, by kernel_rfl, by kernel_rfl, tabOf_ok (⟨r3_ok, ⟨r4_ok, ⟨r9_ok, ⟨r42_ok, ⟨r43_ok, ⟨r45_ok, trivial⟩⟩⟩⟩⟩⟩), (trivial), tc68, (fun j hj => by obtain rfl := List.mem_singleton.1 hj; exact tc103)⟩
noncomputable def yawake18_69 : YRow := { E := { T := tabOf [(3, r3), (4, r4), (48, r48), (93, r93)], C := [], D := [], Ms := [], Ml := [], Mo := [], n := 11 }, cs := [], fn := f69 }
theorem yawake18_69_ok : YRow.Ok Tryz.prog 69 yawake18_69 := ⟨rfl, by kernel_rfl, by kernel_rfl, tabOf_ok (⟨r3_ok, ⟨r4_ok, ⟨r48_ok, ⟨r93_ok, trivial⟩⟩⟩⟩), (trivial), tc69, (fun j hj => by cases hj)⟩
noncomputable def yawake18_70 : YRow := { E := { T := tabOf [(3, r3), (4, r4), (36, r36), (48, r48), (93, r93)], C := [], D := [(6, ⟨[], [0, 1, 2, 3, 4, 5, 6, 7, 8, 9, 10, 11], [12], [], [], [], []⟩)], Ms := [], Ml := [], Mo := [], n := 38 }, cs := [37, 69], fn := f70 }
theorem yawake18_70_ok : YRow.Ok Tryz.prog 70 yawake18_70 := ⟨rfl, by kernel_rfl, by kernel_rfl, tabOf_ok (⟨r3_ok, ⟨r4_ok, ⟨r36_ok, ⟨r48_ok, ⟨r93_ok, trivial⟩⟩⟩⟩⟩), (trivial), tc70, (fun j hj => by simp only [yawake18_70, List.mem_cons, List.not_mem_nil, or_false] at hj; rcases hj with rfl | rfl <;> first | exact tc37 | exact tc69)⟩
noncomputable def yawake18_71 : YRow := { E := { T := tabOf [(3, r3), (4, r4), (48, r48), (93, r93)], C := [], D := [(1, ⟨[], [0, 1, 2, 3, 4, 5, 6, 7, 8, 9, 10, 11, 12], [13], [], [], [], []⟩)], Ms := [], Ml := [], Mo := [], n := 23 }, cs := [69], fn := f71 }
theorem yawake18_71_ok : YRow.Ok Tryz.prog 71 yawake18_71 := ⟨rfl, by kernel_rfl, by kernel_rfl, tabOf_ok (⟨r3_ok, ⟨r4_ok, ⟨r48_ok, ⟨r93_ok, trivial⟩⟩⟩⟩), (trivial), tc71, (fun j hj => by obtain rfl := List.mem_singleton.1 hj; exact tc69)⟩
noncomputable def yawake18_72 : YRow := { E := { T := tabOf [(3, r3), (4, r4), (9, r9), (35, r35), (36, r36), (42, r42), (43, r43), (45, r45), (48, r48), (125, r125), (161, r161), (163, r163)], C := [], D := [], Ms := [], Ml := [], Mo := [], n := 39 }, cs := [70, 73, 104], fn := f72 }
theorem yawake18_72_ok : YRow.Ok Tryz.prog 72 yawake18_72 := ⟨rfl, by kernel_rfl, by kernel_rfl, tabOf_ok (⟨r3_ok, ⟨r4_ok, ⟨r9_ok, ⟨r35_ok, ⟨r36_ok, ⟨r42_ok, ⟨r43_ok, ⟨r45_ok, ⟨r48_ok, ⟨r125_ok, ⟨r161_ok, ⟨r163_ok, trivial⟩⟩⟩⟩⟩⟩⟩⟩⟩⟩⟩⟩), (trivial), tc72, (fun j hj => by simp only [yawake18_72, List.mem_cons, List.not_mem_nil, or_false] at hj; rcases hj with rfl | rfl | rfl <;> first | exact tc70 | exact tc73 | exact tc104)⟩
noncomputable def yawake18_73 : YRow := { E := { T := tabOf [(3, r3), (4, r4), (9, r9), (35, r35), (42, r42), (43, r43), (45, r45), (48, r48), (125, r125), (161, r161), (163, r163)], C := [], D := [], Ms := [], Ml := [], Mo := [], n := 15 }, cs := [105], fn := f73 }
theorem yawake18_73_ok : YRow.Ok Tryz.prog 73 yawake18_73 := ⟨rfl, by kernel_rfl, by kernel_rfl, tabOf_ok (⟨r3_ok, ⟨r4_ok, ⟨r9_ok, ⟨r35_ok, ⟨r42_ok, ⟨r43_ok, ⟨r45_ok, ⟨r48_ok, ⟨r125_ok, ⟨r161_ok, ⟨r163_ok, trivial⟩⟩⟩⟩⟩⟩⟩⟩⟩⟩⟩), (trivial), tc73, (fun j hj => by obtain rfl := List.mem_singleton.1 hj; exact tc105)⟩
noncomputable def yawake18_74 : YRow := { E := { T := tabOf [(3, r3), (4, r4), (9, r9), (36, r36), (42, r42), (125, r125)], C := [], D := [], Ms := [(8, [6])], Ml := [(2, [0, 1, 6])], Mo := [], n := 30 }, cs := [106], fn := f74 }
theorem yawake18_74_ok : YRow.Ok Tryz.prog 74 yawake18_74 := ⟨rfl, by kernel_rfl, by kernel_rfl, tabOf_ok (⟨r3_ok, ⟨r4_ok, ⟨r9_ok, ⟨r36_ok, ⟨r42_ok, ⟨r125_ok, trivial⟩⟩⟩⟩⟩⟩), (trivial), tc74, (fun j hj => by obtain rfl := List.mem_singleton.1 hj; exact tc106)⟩
noncomputable def yawake18_75 : YRow := { E := { T := tabOf [(3, r3), (4, r4), (9, r9), (35, r35), (36, r36), (42, r42), (43, r43), (45, r45), (48, r48), (106, r106), (128, r128), (130, r130)], C := [(107, w_slices_Sort_string_string), (108, w_slices_Compact_string_string)], D := [(4, ⟨[], [0, 1, 2, 3, 4, 5, 6, 7, 8, 9, 10, 11, 12, 13, 14, 15, 16, 17, 18, 19, 20], [21, 22, 23, 24, 25, 26], [], [], [], []⟩)], Ms := [(4, [0, 1]), (15, [0, 5])], Ml := [(9, [0, 5, 49, 50, 51])], Mo := [], n := 77 }, cs := [41, 77, 78, 93, 109], fn := f75 }
theorem yawake18_75_ok : YRow.Ok Tryz.prog 75 yawake18_75 := ⟨rfl, by kernel_rfl, by kernel_rfl, tabOf_ok (⟨r3_ok, ⟨r4_ok, ⟨r9_ok, ⟨r35_ok, ⟨r36_ok, ⟨r42_ok, ⟨r43_ok, ⟨r45_ok, ⟨r48_ok, ⟨r106_ok, ⟨r128_ok, ⟨r130_ok, trivial⟩⟩⟩⟩⟩⟩⟩⟩⟩⟩⟩⟩), (⟨w_slices_Sort_string_string_ok, ⟨w_slices_Compact_string_string_ok, trivial⟩⟩), tc75, (fun j hj => by simp only [yawake18_75, List.mem_cons, List.not_mem_nil, or_false] at hj; rcases hj with rfl | rfl | rfl | rfl | rfl <;> first | exact tc41 | exact tc77 | exact tc78 | exact tc93 | exact tc109)⟩
noncomputable def yawake18_76 : YRow := { E := { T := tabOf [(3, r3), (9, r9)], C := [], D := [], Ms := [], Ml := [], Mo := [], n := 5 }, cs := [110], fn := f76 }
theorem yawake18_76_ok : YRow.Ok Tryz.prog 76 yawake18_76 := ⟨rfl, by kernel_rfl, by kernel_rfl, tabOf_ok (⟨r3_ok, ⟨r9_ok, trivial⟩⟩), (trivial), tc76, (fun j hj => by obtain rfl := List.mem_singleton.1 hj; exact tc110)⟩
noncomputable def yawake18_77 : YRow := { E := { T := tabOf [(3, r3), (4, r4), (9, r9), (35, r35), (36, r36), (42, r42), (43, r43), (45, r45), (48, r48), (106, r106), (170, r170), (172, r172)], C := [], D := [], Ms := [(11, [13, 14])], Ml := [], Mo := [], n := 51 }, cs := [16, 70, 93, 111, 112], fn := f77 }
theorem yawake18_77_ok : YRow.Ok Tryz.prog 77 yawake18_77 := ⟨rfl, by kernel_rfl, by kernel_rfl, tabOf_ok (⟨r3_ok, ⟨r4_ok, ⟨r9_ok, ⟨r35_ok, ⟨r36_ok, ⟨r42_ok, ⟨r43_ok, ⟨r45_ok, ⟨r48_ok, ⟨r106_ok, ⟨r170_ok, ⟨r172_ok, trivial⟩⟩⟩⟩⟩⟩⟩⟩⟩⟩⟩⟩), (trivial), tc77, (fun j hj => by simp only [yawake18_77, List.mem_cons, List.not_mem_nil, or_false] at hj; rcases hj with rfl | rfl | rfl | rfl | rfl <;> first | exact tc16 | exact tc70 | exact tc93 | exact tc111 | exact tc112)⟩
noncomputable def yawake18_78 : YRow := { E := { T := tabOf [(3, r3), (4, r4), (9, r9), (35, r35), (36, r36), (42, r42), (43, r43), (45, r45), (48, r48), (106, r106), (164, r164), (170, r170), (172, r172), (174, r174)], C := [], D := [(12, ⟨[], [], [], [], [], [0, 1], [(2, [0]), (3, []), (4, [])]⟩)], Ms := [(16, [1, 2])], Ml := [(10, [1, 2, 39, 40, 41])], Mo := [], n := 60 }, cs := [5, 6, 8, 15, 16, 17, 18, 19, 20, 21, 22, 23, 35, 36, 37, 38, 39, 40, 41, 43, 44, 45, 46, 47, 48, 49, 50, 62, 63, 64, 65, 66, 67, 68, 69, 70, 71, 72, 73, 74, 75, 76, 77, 78, 82, 83, 84, 85, 86, 87, 92, 93, 100, 101, 102, 103, 104, 105, 106, 109, 110, 111, 112, 113, 114, 115, 116, 117, 118, 125, 126, 130, 142, 143, 144, 145, 146, 147, 150, 151, 152, 153, 154, 155, 173, 174, 175, 176, 187, 188, 189, 192, 193, 194, 195, 196, 205, 206, 211, 212, 215], fn := f78 }
theorem yawake18_78_ok : YRow.Ok Tryz.prog 78 yawake18_78 := ⟨rfl, by kernel_rfl, by kernel_rfl, tabOf_ok (⟨r3_ok, ⟨r4_ok, ⟨r9_ok, ⟨r35_ok, ⟨r36_ok, ⟨r42_ok, ⟨r43_ok, ⟨r45_ok, ⟨r48_ok, ⟨r106_ok, ⟨r164_ok, ⟨r170_ok, ⟨r172_ok, ⟨r174_ok, trivial⟩⟩⟩⟩⟩⟩⟩⟩⟩⟩⟩⟩⟩⟩), (trivial), tc78, (fun j hj => seen_awake18 j hj)⟩
noncomputable def yawake18_82 : YRow := { E := { T := tabOf [(3, r3), (4, r4), (9, r9), (35, r35), (36, r36), (77, r77)], C := [], D := [], Ms := [], Ml := [], Mo := [], n := 18 }, cs := [35], fn := f82 }
theorem yawake18_82_ok : YRow.Ok Tryz.prog 82 yawake18_82 := ⟨rfl, by kernel_rfl, by kernel_rfl, tabOf_ok (⟨r3_ok, ⟨r4_ok, ⟨r9_ok, ⟨r35_ok, ⟨r36_ok, ⟨r77_ok, trivial⟩⟩⟩⟩⟩⟩), (trivial), tc82, (fun j hj => by obtain rfl := List.mem_singleton.1 hj; exact tc35)⟩
noncomputable def yawake18_83 : YRow := { E := { T := tabOf [(3, r3), (4, r4), (9, r9), (35, r35), (36, r36), (77, r77)], C := [], D := [], Ms := [], Ml := [], Mo := [], n := 48 }, cs := [35], fn := f83 }
theorem yawake18_83_ok : YRow.Ok Tryz.prog 83 yawake18_83 := ⟨rfl, by kernel_rfl, by kernel_rfl, tabOf_ok (⟨r3_ok, ⟨r4_ok, ⟨r9_ok, ⟨r35_ok, ⟨r36_ok, ⟨r77_ok, trivial⟩⟩⟩⟩⟩⟩), (trivial), tc83, (fun j hj => by obtain rfl := List.mem_singleton.1 hj; exact tc35)⟩
noncomputable def yawake18_84 : YRow := { E := { T := tabOf [(3, r3), (4, r4), (5, r5), (9, r9), (43, r43), (45, r45)], C := [], D := [], Ms := [], Ml := [], Mo := [], n := 52 }, cs := [125, 126], fn := f84 }
theorem yawake18_84_ok : YRow.Ok Tryz.prog 84 yawake18_84 := ⟨rfl, by kernel_rfl, by kernel_rfl, tabOf_ok (⟨r3_ok, ⟨r4_ok, ⟨r5_ok, ⟨r9_ok, ⟨r43_ok, ⟨r45_ok, trivial⟩⟩⟩⟩⟩⟩), (trivial), tc84, (fun j hj => by simp only [yawake18_84, List.mem_cons, List.not_mem_nil, or_false] at hj; rcases hj with rfl | rfl <;> first | exact tc125 | exact tc126)⟩
noncomputable def yawake18_85 : YRow := { E := { T := tabOf [(3, r3), (4, r4), (9, r9), (35, r35), (73, r73), (75, r75), (77, r77)], C := [], D := [(0, ⟨[], [0, 1, 2, 3, 4, 5, 6, 7, 8, 9, 10, 11, 12, 13, 14], [15], [], [], [], []⟩)], Ms := [], Ml := [], Mo := [], n := 24 }, cs := [], fn := f85 }
theorem yawake18_85_ok : YRow.Ok Tryz.prog 85 yawake18_85 := ⟨rfl, by kernel_rfl, by kernel_rfl, tabOf_ok (⟨r3_ok, ⟨r4_ok, ⟨r9_ok, ⟨r35_ok, ⟨r73_ok, ⟨r75_ok, ⟨r77_ok, trivial⟩⟩⟩⟩⟩⟩⟩), (trivial), tc85, (fun j hj => by cases hj)⟩
noncomputable def yawake18_86 : YRow := { E := { T := tabOf [(3, r3), (4, r4), (9, r9)], C := [], D := [], Ms := [], Ml := [], Mo := [], n := 18 }, cs := [], fn := f86 }
theorem yawake18_86_ok : YRow.Ok Tryz.prog 86 yawake18_86 := ⟨rfl, by kernel_rfl, by kernel_rfl, tabOf_ok (⟨r3_ok, ⟨r4_ok, ⟨r9_ok, trivial⟩⟩⟩), (trivial), tc86, (fun j hj => by cases hj)⟩
noncomputable def yawake18_87 : YRow := { E := { T := tabOf [(4, r4), (5, r5), (96, r96), (100, r100)], C := [], D := [], Ms := [], Ml := [], Mo := [], n := 10 }, cs := [], fn := f87 }
theorem yawake18_87_ok : YRow.Ok Tryz.prog 87 yawake18_87 := ⟨rfl, by kernel_rfl, by kernel_rfl, tabOf_ok (⟨r4_ok, ⟨r5_ok, ⟨r96_ok, ⟨r100_ok, trivial⟩⟩⟩⟩), (trivial), tc87, (fun j hj => by cases hj)⟩
noncomputable def yawake18_92 : YRow := { E := { T := tabOf [(3, r3), (4, r4), (9, r9)], C := [], D := [], Ms := [], Ml := [], Mo := [], n := 14 }, cs := [130], fn := f92 }
theorem yawake18_92_ok : YRow.Ok Tryz.prog 92 yawake18_92 := ⟨rfl, by kernel_rfl, by kernel_rfl, tabOf_ok (⟨r3_ok, ⟨r4_ok, ⟨r9_ok, trivial⟩⟩⟩), (trivial), tc92, (fun j hj => by obtain rfl := List.mem_singleton.1 hj; exact tc130)⟩
noncomputable def yawake18_93 : YRow := { E := { T := tabOf [(3, r3), (4, r4), (9, r9), (35, r35), (42, r42), (43, r43), (45, r45), (48, r48), (106, r106), (170, r170), (172, r172)], C := [], D := [], Ms := [], Ml := [], Mo := [], n := 12 }, cs := [71, 113], fn := f93 }
theorem yawake18_93_ok : YRow.Ok Tryz.prog 93 yawake18_93 := ⟨rfl, by kernel_rfl, by kernel_rfl, tabOf_ok (⟨r3_ok, ⟨r4_ok, ⟨r9_ok, ⟨r35_ok, ⟨r42_ok, ⟨r43_ok, ⟨r45_ok, ⟨r48_ok, ⟨r106_ok, ⟨r170_ok, ⟨r172_ok, trivial⟩⟩⟩⟩⟩⟩⟩⟩⟩⟩⟩), (trivial), tc93, (fun j hj => by simp only [yawake18_93, List.mem_cons, List.not_mem_nil, or_false] at hj; rcases hj with rfl | rfl <;> first | exact tc71 | exact tc113)⟩
noncomputable def yawake18_100 : YRow := { E := { T := tabOf [(3, r3), (4, r4), (9, r9), (35, r35), (73, r73), (75, r75), (77, r77)], C := [], D := [], Ms := [], Ml := [], Mo := [], n := 11 }, cs := [], fn := f100 }
theorem yawake18_100_ok : YRow.Ok Tryz.prog 100 yawake18_100 := ⟨rfl, by kernel_rfl, by kernel_rfl, tabOf_ok (⟨r3_ok, ⟨r4_ok, ⟨r9_ok, ⟨r35_ok, ⟨r73_ok, ⟨r75_ok, ⟨r77_ok, trivial⟩⟩⟩⟩⟩⟩⟩), (trivial), tc100, (fun j hj => by cases hj)⟩
noncomputable def yawake18_101 : YRow := { E := { T := tabOf [(4, r4), (5, r5)], C := [], D := [], Ms := [], Ml := [], Mo := [], n := 21 }, cs := [], fn := f101 }
theorem yawake18_101_ok : YRow.Ok Tryz.prog 101 yawake18_101 := ⟨rfl, by kernel_rfl, by kernel_rfl, tabOf_ok (⟨r4_ok, ⟨r5_ok, trivial⟩⟩), (trivial), tc101, (fun j hj => by cases hj)⟩
noncomputable def yawake18_102 : YRow := { E := { T := tabOf [(5, r5), (9, r9), (43, r43), (157, r157)], C := [], D := [], Ms := [], Ml := [], Mo := [], n := 24 }, cs := [143], fn := f102 }
theorem yawake18_102_ok : YRow.Ok Tryz.prog 102 yawake18_102 := ⟨rfl, by kernel_rfl, by kernel_rfl, tabOf_ok (⟨r5_ok, ⟨r9_ok, ⟨r43_ok, ⟨r157_ok, trivial⟩⟩⟩⟩), (trivial), tc102, (fun j hj => by obtain rfl := List.mem_singleton.1 hj; exact tc143)⟩
noncomputable def yawake18_103 : YRow := { E := { T := tabOf [(3, r3), (4, r4), (5, r5), (9, r9), (43, r43)], C := [], D := [], Ms := [(4, [1, 5, 6]), (8, [1, 5, 6, 7]), (13, [5])], Ml := [(3, [1, 5, 6]), (7, [1, 5, 6, 7])], Mo := [], n := 37 }, cs := [], fn := f103 }
theorem yawake18_103_ok : YRow.Ok Tryz.prog 103 yawake18_103 := ⟨rfl, by kernel_rfl, by kernel_rfl, tabOf_ok (⟨r3_ok, ⟨r4_ok, ⟨r5_ok, ⟨r9_ok, ⟨r43_ok, trivial⟩⟩⟩⟩⟩), (trivial), tc103, (fun j hj => by cases hj)⟩
noncomputable def yawake18_104 : YRow := { E := { T := tabOf [(3, r3), (4, r4), (9, r9), (35, r35), (36, r36), (42, r42), (43, r43), (45, r45), (48, r48), (125, r125), (161, r161), (163, r163)], C := [], D := [(1, ⟨[], [0, 1, 2, 3, 4, 5, 6, 7, 8, 9], [10, 11, 12, 13, 14, 15], [], [], [], []⟩)], Ms := [], Ml := [], Mo := [], n := 63 }, cs := [82, 144, 145, 146], fn := f104 }
theorem yawake18_104_ok : YRow.Ok Tryz.prog 104 yawake18_104 := ⟨rfl, by kernel_rfl, by kernel_rfl, tabOf_ok (⟨r3_ok, ⟨r4_ok, ⟨r9_ok, ⟨r35_ok, ⟨r36_ok, ⟨r42_ok, ⟨r43_ok, ⟨r45_ok, ⟨r48_ok, ⟨r125_ok, ⟨r161_ok, ⟨r163_ok, trivial⟩⟩⟩⟩⟩⟩⟩⟩⟩⟩⟩⟩), (trivial), tc104, (fun j hj => by simp only [yawake18_104, List.mem_cons, List.not_mem_nil, or_false] at hj; rcases hj with rfl | rfl | rfl | rfl <;> first | exact tc82 | exact tc144 | exact tc145 | exact tc146)⟩
noncomputable def yawake18_105 : YRow := { E := { T := tabOf [(3, r3), (4, r4), (9, r9), (35, r35), (42, r42), (43, r43), (45, r45), (48, r48), (125, r125), (161, r161), (163, r163)], C := [], D := [], Ms := [], Ml := [], Mo := [], n := 10 }, cs := [71], fn := f105 }
theorem yawake18_105_ok : YRow.Ok Tryz.prog 105 yawake18_105 := ⟨rfl, by kernel_rfl, by kernel_rfl, tabOf_ok (⟨r3_ok, ⟨r4_ok, ⟨r9_ok, ⟨r35_ok, ⟨r42_ok, ⟨r43_ok, ⟨r45_ok, ⟨r48_ok, ⟨r125_ok, ⟨r161_ok, ⟨r163_ok, trivial⟩⟩⟩⟩⟩⟩⟩⟩⟩⟩⟩), (trivial), tc105, (fun j hj => by obtain rfl := List.mem_singleton.1 hj; exact tc71)⟩
noncomputable def yawake18_106 : YRow := { E := { T := tabOf [(3, r3), (4, r4), (9, r9), (35, r35), (36, r36), (42, r42), (43, r43), (45, r45), (48, r48), (125, r125), (161, r161), (163, r163)], C := [], D := [], Ms := [(13, [0])], Ml := [], Mo := [], n := 77 }, cs := [73, 105, 147], fn := f106 }
theorem yawake18_106_ok : YRow.Ok Tryz.prog 106 yawake18_106 := ⟨rfl, by kernel_rfl, by kernel_rfl, tabOf_ok (⟨r3_ok, ⟨r4_ok, ⟨r9_ok, ⟨r35_ok, ⟨r36_ok, ⟨r42_ok, ⟨r43_ok, ⟨r45_ok, ⟨r48_ok, ⟨r125_ok, ⟨r161_ok, ⟨r163_ok, trivial⟩⟩⟩⟩⟩⟩⟩⟩⟩⟩⟩⟩), (trivial), tc106, (fun j hj => by simp only [yawake18_106, List.mem_cons, List.not_mem_nil, or_false] at hj; rcases hj with rfl | rfl | rfl <;> first | exact tc73 | exact tc105 | exact tc147)⟩
noncomputable def yawake18_109 : YRow := { E := { T := tabOf [(3, r3), (4, r4), (9, r9), (35, r35), (36, r36), (42, r42), (43, r43), (45, r45), (48, r48), (106, r106), (170, r170), (172, r172)], C := [(149, w_strings_Clone)], D := [(5, ⟨[], [], [], [], [], [0, 1, 2, 3, 4, 5, 6], [(7, [0, 1, 2, 3, 4]), (8, [0]), (9, []), (10, []), (11, [])]⟩), (6, ⟨[], [], [], [], [], [0, 1, 2, 3, 4, 5, 6, 7, 8, 9, 10, 11, 12], [(13, [0, 1, 2, 3, 4, 5, 6]), (14, [0]), (15, []), (16, []), (17, [])]⟩)], Ms := [], Ml := [], Mo := [], n := 53 }, cs := [113, 114, 150], fn := f109 }
theorem yawake18_109_ok : YRow.Ok Tryz.prog 109 yawake18_109 := ⟨rfl, by kernel_rfl, by kernel_rfl, tabOf_ok (⟨r3_ok, ⟨r4_ok, ⟨r9_ok, ⟨r35_ok, ⟨r36_ok, ⟨r42_ok, ⟨r43_ok, ⟨r45_ok, ⟨r48_ok, ⟨r106_ok, ⟨r170_ok, ⟨r172_ok, trivial⟩⟩⟩⟩⟩⟩⟩⟩⟩⟩⟩⟩), (⟨w_strings_Clone_ok, trivial⟩), tc109, (fun j hj => by simp only [yawake18_109, List.mem_cons, List.not_mem_nil, or_false] at hj; rcases hj with rfl | rfl | rfl <;> first | exact tc113 | exact tc114 | exact tc150)⟩
noncomputable def yawake18_110 : YRow := { E := { T := tabOf [(2, r2), (3, r3), (9, r9)], C := [], D := [], Ms := [], Ml := [], Mo := [], n := 5 }, cs := [151], fn := f110 }
theorem yawake18_110_ok : YRow.Ok Tryz.prog 110 yawake18_110 := ⟨rfl, by kernel_rfl, by kernel_rfl, tabOf_ok (⟨r2_ok, ⟨r3_ok, ⟨r9_ok, trivial⟩⟩⟩), (trivial), tc110, (fun j hj => by obtain rfl := List.mem_singleton.1 hj; exact tc151)⟩
noncomputable def yawake18_111 : YRow := { E := { T := tabOf [(3, r3), (4, r4), (9, r9), (21, r21)], C := [], D := [], Ms := [], Ml := [], Mo := [], n := 15 }, cs := [152], fn := f111 }
theorem yawake18_111_ok : YRow.Ok Tryz.prog 111 yawake18_111 := ⟨rfl, by kernel_rfl, by kernel_rfl, tabOf_ok (⟨r3_ok, ⟨r4_ok, ⟨r9_ok, ⟨r21_ok, trivial⟩⟩⟩⟩), (trivial), tc111, (fun j hj => by obtain rfl := List.mem_singleton.1 hj; exact tc152)⟩
noncomputable def yawake18_112 : YRow := { E := { T := tabOf [(9, r9), (35, r35), (36, r36), (170, r170)], C := [], D := [], Ms := [], Ml := [], Mo := [], n := 11 }, cs := [17], fn := f112 }
theorem yawake18_112_ok : YRow.Ok Tryz.prog 112 yawake18_112 := ⟨rfl, by kernel_rfl, by kernel_rfl, tabOf_ok (⟨r9_ok, ⟨r35_ok, ⟨r36_ok, ⟨r170_ok, trivial⟩⟩⟩⟩), (trivial), tc112, (fun j hj => by obtain rfl := List.mem_singleton.1 hj; exact tc17)⟩
noncomputable def yawake18_113 : YRow := { E := { T := tabOf [(3, r3), (4, r4), (9, r9), (35, r35), (42, r42), (43, r43), (45, r45), (48, r48), (106, r106), (170, r170), (172, r172)], C := [], D := [], Ms := [], Ml := [], Mo := [], n := 11 }, cs := [], fn := f113 }
theorem yawake18_113_ok : YRow.Ok Tryz.prog 113 yawake18_113 := ⟨rfl, by kernel_rfl, by kernel_rfl, tabOf_ok (⟨r3_ok, ⟨r4_ok, ⟨r9_ok, ⟨r35_ok, ⟨r42_ok, ⟨r43_ok, ⟨r45_ok, ⟨r48_ok, ⟨r106_ok, ⟨r170_ok, ⟨r172_ok, trivial⟩⟩⟩⟩⟩⟩⟩⟩⟩⟩⟩), (trivial), tc113, (fun j hj => by cases hj)⟩
noncomputable def yawake18_114 : YRow := { E := { T := tabOf [(3, r3), (4, r4), (9, r9), (35, r35), (36, r36), (42, r42), (43, r43), (45, r45), (48, r48), (106, r106), (170, r170), (172, r172)], C := [], D := [(3, ⟨[], [0, 1, 2, 3, 4, 5, 6, 7], [8, 9, 10, 11, 12, 13], [], [], [], []⟩)], Ms := [], Ml := [], Mo := [], n := 43 }, cs := [112, 116, 153], fn := f114 }
theorem yawake18_114_ok : YRow.Ok Tryz.prog 114 yawake18_114 := ⟨rfl, by kernel_rfl, by kernel_rfl, tabOf_ok (⟨r3_ok, ⟨r4_ok, ⟨r9_ok, ⟨r35_ok, ⟨r36_ok, ⟨r42_ok, ⟨r43_ok, ⟨r45_ok, ⟨r48_ok, ⟨r106_ok, ⟨r170_ok, ⟨r172_ok, trivial⟩⟩⟩⟩⟩⟩⟩⟩⟩⟩⟩⟩), (trivial), tc114, (fun j hj => by simp only [yawake18_114, List.mem_cons, List.not_mem_nil, or_false] at hj; rcases hj with rfl | rfl | rfl <;> first | exact tc112 | exact tc116 | exact tc153)⟩
noncomputable def yawake18_115 : YRow := { E := { T := tabOf [(3, r3), (4, r4), (9, r9), (43, r43), (45, r45)], C := [], D := [], Ms := [], Ml := [], Mo := [], n := 37 }, cs := [152, 154], fn := f115 }
theorem yawake18_115_ok : YRow.Ok Tryz.prog 115 yawake18_115 := ⟨rfl, by kernel_rfl, by kernel_rfl, tabOf_ok (⟨r3_ok, ⟨r4_ok, ⟨r9_ok, ⟨r43_ok, ⟨r45_ok, trivial⟩⟩⟩⟩⟩), (trivial), tc115, (fun j hj => by simp only [yawake18_115, List.mem_cons, List.not_mem_nil, or_false] at hj; rcases hj with rfl | rfl <;> first | exact tc152 | exact tc154)⟩
noncomputable def yawake18_116 : YRow := { E := { T := tabOf [(4, r4), (36, r36), (106, r106)], C := [], D := [], Ms := [(3, [1])], Ml := [], Mo := [], n := 10 }, cs := [93], fn := f116 }
theorem yawake18_116_ok : YRow.Ok Tryz.prog 116 yawake18_116 := ⟨rfl, by kernel_rfl, by kernel_rfl, tabOf_ok (⟨r4_ok, ⟨r36_ok, ⟨r106_ok, trivial⟩⟩⟩), (trivial), tc116, (fun j hj => by obtain rfl := List.mem_singleton.1 hj; exact tc93)⟩
noncomputable def yawake18_117 : YRow := { E := { T := tabOf [(3, r3), (4, r4), (9, r9), (35, r35), (36, r36), (42, r42), (43, r43), (45, r45), (48, r48), (106, r106), (170, r170), (172, r172)], C := [], D := [(1, ⟨[], [0, 1, 2, 3, 4], [5, 6], [], [], [], []⟩)], Ms := [], Ml := [], Mo := [], n := 9 }, cs := [112], fn := f117 }
theorem yawake18_117_ok : YRow.Ok Tryz.prog 117 yawake18_117 := ⟨rfl, by kernel_rfl, by kernel_rfl, tabOf_ok (⟨r3_ok, ⟨r4_ok, ⟨r9_ok, ⟨r35_ok, ⟨r36_ok, ⟨r42_ok, ⟨r43_ok, ⟨r45_ok, ⟨r48_ok, ⟨r106_ok, ⟨r170_ok, ⟨r172_ok, trivial⟩⟩⟩⟩⟩⟩⟩⟩⟩⟩⟩⟩), (trivial), tc117, (fun j hj => by obtain rfl := List.mem_singleton.1 hj; exact tc112)⟩
noncomputable def yawake18_118 : YRow := { E := { T := tabOf [(9, r9), (35, r35), (36, r36), (170, r170)], C := [], D := [], Ms := [], Ml := [], Mo := [], n := 8 }, cs := [155], fn := f118 }
theorem yawake18_118_ok : YRow.Ok Tryz.prog 118 yawake18_118 := ⟨rfl, by kernel_rfl, by kernel_rfl, tabOf_ok (⟨r9_ok, ⟨r35_ok, ⟨r36_ok, ⟨r170_ok, trivial⟩⟩⟩⟩), (trivial), tc118, (fun j hj => by obtain rfl := List.mem_singleton.1 hj; exact tc155)⟩
noncomputable def yawake18_125 : YRow := { E := { T := tabOf [(3, r3), (4, r4), (9, r9)], C := [], D := [], Ms := [], Ml := [], Mo := [], n := 21 }, cs := [152], fn := f125 }
theorem yawake18_125_ok : YRow.Ok Tryz.prog 125 yawake18_125 := ⟨rfl, by kernel_rfl, by kernel_rfl, tabOf_ok (⟨r3_ok, ⟨r4_ok, ⟨r9_ok, trivial⟩⟩⟩), (trivial), tc125, (fun j hj => by obtain rfl := List.mem_singleton.1 hj; exact tc152)⟩
noncomputable def yawake18_126 : YRow := { E := { T := tabOf [(3, r3), (4, r4), (5, r5), (9, r9), (110, r110), (157, r157)], C := [], D := [], Ms := [(9, [8])], Ml := [(5, [8, 35, 36, 37])], Mo := [], n := 52 }, cs := [], fn := f126 }
theorem yawake18_126_ok : YRow.Ok Tryz.prog 126 yawake18_126 := ⟨rfl, by kernel_rfl, by kernel_rfl, tabOf_ok (⟨r3_ok, ⟨r4_ok, ⟨r5_ok, ⟨r9_ok, ⟨r110_ok, ⟨r157_ok, trivial⟩⟩⟩⟩⟩⟩), (trivial), tc126, (fun j hj => by cases hj)⟩
noncomputable def yawake18_130 : YRow := { E := { T := tabOf [(3, r3), (4, r4), (5, r5), (9, r9), (157, r157)], C := [], D := [], Ms := [(9, [0, 6])], Ml := [(5, [0, 1, 6, 7])], Mo := [], n := 35 }, cs := [], fn := f130 }
theorem yawake18_130_ok : YRow.Ok Tryz.prog 130 yawake18_130 := ⟨rfl, by kernel_rfl, by kernel_rfl, tabOf_ok (⟨r3_ok, ⟨r4_ok, ⟨r5_ok, ⟨r9_ok, ⟨r157_ok, trivial⟩⟩⟩⟩⟩), (trivial), tc130, (fun j hj => by cases hj)⟩
noncomputable def yawake18_142 : YRow := { E := { T := tabOf [(3, r3), (4, r4), (5, r5), (9, r9), (110, r110)], C := [], D := [], Ms := [(4, [0, 2]), (7, [0, 2]), (10, [0, 2])], Ml := [], Mo := [], n := 25 }, cs := [], fn := f142 }
theorem yawake18_142_ok : YRow.Ok Tryz.prog 142 yawake18_142 := ⟨rfl, by kernel_rfl, by kernel_rfl, tabOf_ok (⟨r3_ok, ⟨r4_ok, ⟨r5_ok, ⟨r9_ok, ⟨r110_ok, trivial⟩⟩⟩⟩⟩), (trivial), tc142, (fun j hj => by cases hj)⟩
noncomputable def yawake18_143 : YRow := { E := { T := tabOf [(9, r9), (43, r43)], C := [], D := [], Ms := [], Ml := [], Mo := [], n := 5 }, cs := [103], fn := f143 }
theorem yawake18_143_ok : YRow.Ok Tryz.prog 143 yawake18_143 := ⟨rfl, by kernel_rfl, by kernel_rfl, tabOf_ok (⟨r9_ok, ⟨r43_ok, trivial⟩⟩), (trivial), tc143, (fun j hj => by obtain rfl := List.mem_singleton.1 hj; exact tc103)⟩
noncomputable def yawake18_144 : YRow := { E := { T := tabOf [(3, r3), (9, r9), (35, r35), (36, r36), (161, r161), (228, r228)], C := [], D := [(1, ⟨[], [0, 1, 2, 3, 4, 5, 6, 7, 8, 9, 10, 11, 12, 13, 14, 15], [16, 17, 18, 19, 20], [], [], [], []⟩)], Ms := [], Ml := [], Mo := [], n := 25 }, cs := [83, 173], fn := f144 }
theorem yawake18_144_ok : YRow.Ok Tryz.prog 144 yawake18_144 := ⟨rfl, by kernel_rfl, by kernel_rfl, tabOf_ok (⟨r3_ok, ⟨r9_ok, ⟨r35_ok, ⟨r36_ok, ⟨r161_ok, ⟨r228_ok, trivial⟩⟩⟩⟩⟩⟩), (trivial), tc144, (fun j hj => by simp only [yawake18_144, List.mem_cons, List.not_mem_nil, or_false] at hj; rcases hj with rfl | rfl <;> first | exact tc83 | exact tc173)⟩
noncomputable def yawake18_145 : YRow := { E := { T := tabOf [(3, r3), (4, r4), (5, r5), (9, r9)], C := [], D := [], Ms := [], Ml := [], Mo := [], n := 34 }, cs := [125, 174], fn := f145 }
theorem yawake18_145_ok : YRow.Ok Tryz.prog 145 yawake18_145 := ⟨rfl, by kernel_rfl, by kernel_rfl, tabOf_ok (⟨r3_ok, ⟨r4_ok, ⟨r5_ok, ⟨r9_ok, trivial⟩⟩⟩⟩), (trivial), tc145, (fun j hj => by simp only [yawake18_145, List.mem_cons, List.not_mem_nil, or_false] at hj; rcases hj with rfl | rfl <;> first | exact tc125 | exact tc174)⟩
noncomputable def yawake18_146 : YRow := { E := { T := tabOf [(3, r3), (9, r9), (35, r35), (161, r161), (228, r228)], C := [], D := [], Ms := [], Ml := [], Mo := [], n := 12 }, cs := [], fn := f146 }
theorem yawake18_146_ok : YRow.Ok Tryz.prog 146 yawake18_146 := ⟨rfl, by kernel_rfl, by kernel_rfl, tabOf_ok (⟨r3_ok, ⟨r9_ok, ⟨r35_ok, ⟨r161_ok, ⟨r228_ok, trivial⟩⟩⟩⟩⟩), (trivial), tc146, (fun j hj => by cases hj)⟩
noncomputable def yawake18_147 : YRow := { E := { T := tabOf [(3, r3), (4, r4), (9, r9), (35, r35), (36, r36), (42, r42), (43, r43), (45, r45), (48, r48), (125, r125), (161, r161), (163, r163)], C := [], D := [(1, ⟨[], [0, 1, 2, 3, 4, 5, 6, 7, 8], [9, 10, 11, 12, 13, 14], [], [], [], []⟩), (7, ⟨[], [0, 1, 2, 3, 4, 5, 6, 7, 8, 9, 10, 11, 12, 13, 14, 15, 16, 17, 18], [], [], [], [], []⟩), (18, ⟨[], [], [], [], [], [0, 1, 2, 3, 4, 5, 6, 7, 8, 9, 10, 11, 12], [(13, [0, 1, 2, 3, 4, 5, 6]), (14, [0]), (15, []), (16, []), (17, [])]⟩)], Ms := [(8, [0, 63]), (20, [0, 6])], Ml := [(16, [0, 6, 81, 82, 83])], Mo := [], n := 110 }, cs := [84, 144, 146, 150, 173, 175, 176], fn := f147 }
theorem yawake18_147_ok : YRow.Ok Tryz.prog 147 yawake18_147 := ⟨rfl, by kernel_rfl, by kernel_rfl, tabOf_ok (⟨r3_ok, ⟨r4_ok, ⟨r9_ok, ⟨r35_ok, ⟨r36_ok, ⟨r42_ok, ⟨r43_ok, ⟨r45_ok, ⟨r48_ok, ⟨r125_ok, ⟨r161_ok, ⟨r163_ok, trivial⟩⟩⟩⟩⟩⟩⟩⟩⟩⟩⟩⟩), (trivial), tc147, (fun j hj => by simp only [yawake18_147, List.mem_cons, List.not_mem_nil, or_false] at hj; rcases hj with rfl | rfl | rfl | rfl | rfl | rfl | rfl <;> first | exact tc84 | exact tc144 | exact tc146 | exact tc150 | exact tc173 | exact tc175 | exact tc176)⟩
noncomputable def yawake18_150 : YRow := { E := { T := tabOf [(3, r3), (5, r5), (9, r9), (43, r43), (157, r157)], C := [], D := [], Ms := [(9, [5])], Ml := [(3, [5, 11, 12, 13])], Mo := [], n := 34 }, cs := [187], fn := f150 }
theorem yawake18_150_ok : YRow.Ok Tryz.prog 150 yawake18_150 := ⟨rfl, by kernel_rfl, by kernel_rfl, tabOf_ok (⟨r3_ok, ⟨r5_ok, ⟨r9_ok, ⟨r43_ok, ⟨r157_ok, trivial⟩⟩⟩⟩⟩), (trivial), tc150, (fun j hj => by obtain rfl := List.mem_singleton.1 hj; exact tc187)⟩
noncomputable def yawake18_151 : YRow := { E := { T := tabOf [(2, r2), (3, r3), (4, r4), (5, r5), (9, r9), (110, r110), (157, r157), (237, r237)], C := [], D := [], Ms := [(8, [0, 5, 6])], Ml := [], Mo := [], n := 54 }, cs := [188, 189], fn := f151 }
theorem yawake18_151_ok : YRow.Ok Tryz.prog 151 yawake18_151 := ⟨rfl, by kernel_rfl, by kernel_rfl, tabOf_ok (⟨r2_ok, ⟨r3_ok, ⟨r4_ok, ⟨r5_ok, ⟨r9_ok, ⟨r110_ok, ⟨r157_ok, ⟨r237_ok, trivial⟩⟩⟩⟩⟩⟩⟩⟩), (trivial), tc151, (fun j hj => by simp only [yawake18_151, List.mem_cons, List.not_mem_nil, or_false] at hj; rcases hj with rfl | rfl <;> first | exact tc188 | exact tc189)⟩
noncomputable def yawake18_152 : YRow := { E := { T := tabOf [(3, r3), (5, r5), (9, r9), (43, r43), (157, r157), (241, r241)], C := [], D := [], Ms := [(8, [0, 3])], Ml := [(4, [0, 3, 4, 8])], Mo := [], n := 23 }, cs := [192], fn := f152 }
theorem yawake18_152_ok : YRow.Ok Tryz.prog 152 yawake18_152 := ⟨rfl, by kernel_rfl, by kernel_rfl, tabOf_ok (⟨r3_ok, ⟨r5_ok, ⟨r9_ok, ⟨r43_ok, ⟨r157_ok, ⟨r241_ok, trivial⟩⟩⟩⟩⟩⟩), (trivial), tc152, (fun j hj => by obtain rfl := List.mem_singleton.1 hj; exact tc192)⟩
noncomputable def yawake18_153 : YRow := { E := { T := tabOf [(3, r3), (4, r4), (9, r9), (21, r21), (42, r42), (117, r117)], C := [], D := [], Ms := [], Ml := [], Mo := [], n := 34 }, cs := [152, 193, 194, 195, 196], fn := f153 }
theorem yawake18_153_ok : YRow.Ok Tryz.prog 153 yawake18_153 := ⟨rfl, by kernel_rfl, by kernel_rfl, tabOf_ok (⟨r3_ok, ⟨r4_ok, ⟨r9_ok, ⟨r21_ok, ⟨r42_ok, ⟨r117_ok, trivial⟩⟩⟩⟩⟩⟩), (trivial), tc153, (fun j hj => by simp only [yawake18_153, List.mem_cons, List.not_mem_nil, or_false] at hj; rcases hj with rfl | rfl | rfl | rfl | rfl <;> first | exact tc152 | exact tc193 | exact tc194 | exact tc195 | exact tc196)⟩
noncomputable def yawake18_154 : YRow := { E := { T := tabOf [(3, r3), (4, r4), (5, r5), (9, r9), (157, r157), (244, r244)], C := [], D := [], Ms := [(9, [1, 6]), (15, [1, 6])], Ml := [(5, [0, 1, 6, 7]), (10, [1, 6, 32, 33, 34])], Mo := [], n := 45 }, cs := [], fn := f154 }
theorem yawake18_154_ok : YRow.Ok Tryz.prog 154 yawake18_154 := ⟨rfl, by kernel_rfl, by kernel_rfl, tabOf_ok (⟨r3_ok, ⟨r4_ok, ⟨r5_ok, ⟨r9_ok, ⟨r157_ok, ⟨r244_ok, trivial⟩⟩⟩⟩⟩⟩), (trivial), tc154, (fun j hj => by cases hj)⟩
noncomputable def yawake18_155 : YRow := { E := { T := tabOf [(3, r3), (4, r4), (9, r9), (35, r35), (36, r36), (73, r73), (75, r75), (77, r77)], C := [], D := [(4, ⟨[], [0, 1, 2, 3, 4, 5], [6], [], [], [], []⟩)], Ms := [(5, [6])], Ml := [], Mo := [], n := 26 }, cs := [35], fn := f155 }
theorem yawake18_155_ok : YRow.Ok Tryz.prog 155 yawake18_155 := ⟨rfl, by kernel_rfl, by kernel_rfl, tabOf_ok (⟨r3_ok, ⟨r4_ok, ⟨r9_ok, ⟨r35_ok, ⟨r36_ok, ⟨r73_ok, ⟨r75_ok, ⟨r77_ok, trivial⟩⟩⟩⟩⟩⟩⟩⟩), (trivial), tc155, (fun j hj => by obtain rfl := List.mem_singleton.1 hj; exact tc35)⟩
noncomputable def yawake18_173 : YRow := { E := { T := tabOf [(3, r3), (9, r9), (35, r35), (161, r161), (228, r228)], C := [], D := [(1, ⟨[], [0, 1, 2, 3, 4, 5, 6, 7, 8, 9], [], [], [], [], []⟩)], Ms := [], Ml := [], Mo := [], n := 12 }, cs := [], fn := f173 }
theorem yawake18_173_ok : YRow.Ok Tryz.prog 173 yawake18_173 := ⟨rfl, by kernel_rfl, by kernel_rfl, tabOf_ok (⟨r3_ok, ⟨r9_ok, ⟨r35_ok, ⟨r161_ok, ⟨r228_ok, trivial⟩⟩⟩⟩⟩), (trivial), tc173, (fun j hj => by cases hj)⟩
noncomputable def yawake18_174 : YRow := { E := { T := tabOf [(4, r4), (9, r9)], C := [], D := [], Ms := [], Ml := [], Mo := [], n := 8 }, cs := [86], fn := f174 }
theorem yawake18_174_ok : YRow.Ok Tryz.prog 174 yawake18_174 := ⟨rfl, by kernel_rfl, by kernel_rfl, tabOf_ok (⟨r4_ok, ⟨r9_ok, trivial⟩⟩), (trivial), tc174, (fun j hj => by obtain rfl := List.mem_singleton.1 hj; exact tc86)⟩
noncomputable def yawake18_175 : YRow := { E := { T := tabOf [(3, r3), (4, r4)], C := [], D := [], Ms := [], Ml := [], Mo := [], n := 8 }, cs := [194, 205], fn := f175 }
theorem yawake18_175_ok : YRow.Ok Tryz.prog 175 yawake18_175 := ⟨rfl, by kernel_rfl, by kernel_rfl, tabOf_ok (⟨r3_ok, ⟨r4_ok, trivial⟩⟩), (trivial), tc175, (fun j hj => by simp only [yawake18_175, List.mem_cons, List.not_mem_nil, or_false] at hj; rcases hj with rfl | rfl <;> first | exact tc194 | exact tc205)⟩
noncomputable def yawake18_176 : YRow := { E := { T := tabOf [(3, r3), (4, r4), (5, r5), (9, r9), (42, r42)], C := [], D := [], Ms := [], Ml := [], Mo := [], n := 56 }, cs := [125, 194, 205, 206], fn := f176 }
theorem yawake18_176_ok : YRow.Ok Tryz.prog 176 yawake18_176 := ⟨rfl, by kernel_rfl, by kernel_rfl, tabOf_ok (⟨r3_ok, ⟨r4_ok, ⟨r5_ok, ⟨r9_ok, ⟨r42_ok, trivial⟩⟩⟩⟩⟩), (trivial), tc176, (fun j hj => by simp only [yawake18_176, List.mem_cons, List.not_mem_nil, or_false] at hj; rcases hj with rfl | rfl | rfl | rfl <;> first | exact tc125 | exact tc194 | exact tc205 | exact tc206)⟩
noncomputable def yawake18_187 : YRow := { E := { T := tabOf [(43, r43), (262, r262)], C := [], D := [], Ms := [], Ml := [], Mo := [], n := 9 }, cs := [], fn := f187 }
theorem yawake18_187_ok : YRow.Ok Tryz.prog 187 yawake18_187 := ⟨rfl, by kernel_rfl, by kernel_rfl, tabOf_ok (⟨r43_ok, ⟨r262_ok, trivial⟩⟩), (trivial), tc187, (fun j hj => by cases hj)⟩
noncomputable def yawake18_188 : YRow := { E := { T := tabOf [(3, r3), (4, r4), (9, r9)], C := [], D := [], Ms := [], Ml := [], Mo := [], n := 15 }, cs := [], fn := f188 }
theorem yawake18_188_ok : YRow.Ok Tryz.prog 188 yawake18_188 := ⟨rfl, by kernel_rfl, by kernel_rfl, tabOf_ok (⟨r3_ok, ⟨r4_ok, ⟨r9_ok, trivial⟩⟩⟩), (trivial), tc188, (fun j hj => by cases hj)⟩
noncomputable def yawake18_189 : YRow := { E := { T := tabOf [(3, r3), (4, r4), (110, r110), (264, r264)], C := [], D := [], Ms := [], Ml := [], Mo := [], n := 15 }, cs := [142, 211, 212], fn := f189 }
theorem yawake18_189_ok : YRow.Ok Tryz.prog 189 yawake18_189 := ⟨rfl, by kernel_rfl, by kernel_rfl, tabOf_ok (⟨r3_ok, ⟨r4_ok, ⟨r110_ok, ⟨r264_ok, trivial⟩⟩⟩⟩), (trivial), tc189, (fun j hj => by simp only [yawake18_189, List.mem_cons, List.not_mem_nil, or_false] at hj; rcases hj with rfl | rfl | rfl <;> first | exact tc142 | exact tc211 | exact tc212)⟩
noncomputable def yawake18_192 : YRow := { E := { T := tabOf [(9, r9), (43, r43)], C := [], D := [], Ms := [], Ml := [], Mo := [], n := 5 }, cs := [150], fn := f192 }
theorem yawake18_192_ok : YRow.Ok Tryz.prog 192 yawake18_192 := ⟨rfl, by kernel_rfl, by kernel_rfl, tabOf_ok (⟨r9_ok, ⟨r43_ok, trivial⟩⟩), (trivial), tc192, (fun j hj => by obtain rfl := List.mem_singleton.1 hj; exact tc150)⟩
noncomputable def yawake18_193 : YRow := { E := { T := tabOf [(3, r3), (4, r4), (9, r9)], C := [], D := [], Ms := [], Ml := [], Mo := [], n := 8 }, cs := [], fn := f193 }
theorem yawake18_193_ok : YRow.Ok Tryz.prog 193 yawake18_193 := ⟨rfl, by kernel_rfl, by kernel_rfl, tabOf_ok (⟨r3_ok, ⟨r4_ok, ⟨r9_ok, trivial⟩⟩⟩), (trivial), tc193, (fun j hj => by cases hj)⟩
noncomputable def yawake18_194 : YRow := { E := { T := tabOf [(3, r3), (4, r4)], C := [], D := [], Ms := [], Ml := [], Mo := [], n := 9 }, cs := [], fn := f194 }
theorem yawake18_194_ok : YRow.Ok Tryz.prog 194 yawake18_194 := ⟨rfl, by kernel_rfl, by kernel_rfl, tabOf_ok (⟨r3_ok, ⟨r4_ok, trivial⟩⟩), (trivial), tc194, (fun j hj => by cases hj)⟩
noncomputable def yawake18_195 : YRow := { E := { T := tabOf [(3, r3), (4, r4), (9, r9), (42, r42), (117, r117)], C := [], D := [], Ms := [], Ml := [], Mo := [], n := 9 }, cs := [215], fn := f195 }
theorem yawake18_195_ok : YRow.Ok Tryz.prog 195 yawake18_195 := ⟨rfl, by kernel_rfl, by kernel_rfl, tabOf_ok (⟨r3_ok, ⟨r4_ok, ⟨r9_ok, ⟨r42_ok, ⟨r117_ok, trivial⟩⟩⟩⟩⟩), (trivial), tc195, (fun j hj => by obtain rfl := List.mem_singleton.1 hj; exact tc215)⟩
noncomputable def yawake18_196 : YRow := { E := { T := tabOf [(3, r3), (4, r4), (5, r5), (9, r9), (20, r20), (42, r42), (157, r157), (267, r267), (269, r269)], C := [(216, w_strings_Builder_Grow), (217, w_strings_Builder_WriteString), (218, w_strings_Builder_String)], D := [], Ms := [(10, [0, 1, 5]), (11, [0, 1, 5]), (16, [0, 1, 5, 7, 39, 40, 41]), (18, [0, 1, 5]), (27, [8])], Ml := [(12, [0, 1, 5, 39, 40, 41]), (22, [1, 8, 63, 64, 65])], Mo := [], n := 75 }, cs := [], fn := f196 }
theorem yawake18_196_ok : YRow.Ok Tryz.prog 196 yawake18_196 := ⟨rfl, by kernel_rfl, by kernel_rfl, tabOf_ok (⟨r3_ok, ⟨r4_ok, ⟨r5_ok, ⟨r9_ok, ⟨r20_ok, ⟨r42_ok, ⟨r157_ok, ⟨r267_ok, ⟨r269_ok, trivial⟩⟩⟩⟩⟩⟩⟩⟩⟩), (⟨w_strings_Builder_Grow_ok, ⟨w_strings_Builder_WriteString_ok, ⟨w_strings_Builder_String_ok, trivial⟩⟩⟩), tc196, (fun j hj => by cases hj)⟩
noncomputable def yawake18_205 : YRow := { E := { T := tabOf [(3, r3)], C := [], D := [], Ms := [], Ml := [], Mo := [], n := 10 }, cs := [], fn := f205 }
theorem yawake18_205_ok : YRow.Ok Tryz.prog 205 yawake18_205 := ⟨rfl, by kernel_rfl, by kernel_rfl, tabOf_ok (⟨r3_ok, trivial⟩), (trivial), tc205, (fun j hj => by cases hj)⟩
noncomputable def yawake18_206 : YRow := { E := { T := tabOf [(3, r3), (4, r4), (9, r9), (42, r42)], C := [], D := [], Ms := [(7, [6])], Ml := [(4, [0, 1, 6])], Mo := [], n := 28 }, cs := [], fn := f206 }
theorem yawake18_206_ok : YRow.Ok Tryz.prog 206 yawake18_206 := ⟨rfl, by kernel_rfl, by kernel_rfl, tabOf_ok (⟨r3_ok, ⟨r4_ok, ⟨r9_ok, ⟨r42_ok, trivial⟩⟩⟩⟩), (trivial), tc206, (fun j hj => by cases hj)⟩
noncomputable def yawake18_211 : YRow := { E := { T := tabOf [(3, r3)], C := [], D := [], Ms := [], Ml := [], Mo := [], n := 6 }, cs := [], fn := f211 }
theorem yawake18_211_ok : YRow.Ok Tryz.prog 211 yawake18_211 := ⟨rfl, by kernel_rfl, by kernel_rfl, tabOf_ok (⟨r3_ok, trivial⟩), (trivial), tc211, (fun j hj => by cases hj)⟩
noncomputable def yawake18_212 : YRow := { E := { T := tabOf [(3, r3), (4, r4)], C := [], D := [], Ms := [], Ml := [], Mo := [], n := 4 }, cs := [], fn := f212 }
theorem yawake18_212_ok : YRow.Ok Tryz.prog 212 yawake18_212 := ⟨rfl, by kernel_rfl, by kernel_rfl, tabOf_ok (⟨r3_ok, ⟨r4_ok, trivial⟩⟩), (trivial), tc212, (fun j hj => by cases hj)⟩
noncomputable def yawake18_215 : YRow := { E := { T := tabOf [(3, r3), (4, r4), (9, r9), (42, r42), (117, r117)], C := [], D := [], Ms := [(7, [])], Ml := [(2, [0, 1, 7, 8])], Mo := [], n := 19 }, cs := [5, 6, 8, 15, 16, 17, 18, 19, 20, 21, 22, 23, 35, 36, 37, 38, 39, 40, 41, 43, 44, 45, 46, 47, 48, 49, 50, 62, 63, 64, 65, 66, 67, 68, 69, 70, 71, 72, 73, 74, 75, 76, 77, 78, 82, 83, 84, 85, 86, 87, 92, 93, 100, 101, 102, 103, 104, 105, 106, 109, 110, 111, 112, 113, 114, 115, 116, 117, 118, 125, 126, 130, 142, 143, 144, 145, 146, 147, 150, 151, 152, 153, 154, 155, 173, 174, 175, 176, 187, 188, 189, 192, 193, 194, 195, 196, 205, 206, 211, 212, 215], fn := f215 }
theorem yawake18_215_ok : YRow.Ok Tryz.prog 215 yawake18_215 := ⟨rfl, by kernel_rfl, by kernel_rfl, tabOf_ok (⟨r3_ok, ⟨r4_ok, ⟨r9_ok, ⟨r42_ok, ⟨r117_ok, trivial⟩⟩⟩⟩⟩), (trivial), tc215, (fun j hj => seen_awake18 j hj)⟩
noncomputable def zawake18 : List (Nat × ZRow) := [(5, ⟨yawake18_5, [], []⟩), (6, ⟨yawake18_6, [], []⟩), (8, ⟨yawake18_8, [], []⟩), (15, ⟨yawake18_15, [], []⟩), (16, ⟨yawake18_16, [], []⟩), (17, ⟨yawake18_17, [], []⟩), (18, ⟨yawake18_18, [], []⟩), (19, ⟨yawake18_19, [], []⟩), (20, ⟨yawake18_20, [], []⟩), (21, ⟨yawake18_21, [], []⟩), (22, ⟨yawake18_22, [], []⟩), (23, ⟨yawake18_23, [], []⟩), (35, ⟨yawake18_35, [], []⟩), (36, ⟨yawake18_36, [], []⟩), (37, ⟨yawake18_37, [], []⟩), (38, ⟨yawake18_38, [71, 73], []⟩), (39, ⟨yawake18_39, [], []⟩), (40, ⟨yawake18_40, [], []⟩), (41, ⟨yawake18_41, [], []⟩), (43, ⟨yawake18_43, [], []⟩), (44, ⟨yawake18_44, [], []⟩), (45, ⟨yawake18_45, [], []⟩), (46, ⟨yawake18_46, [], []⟩), (47, ⟨yawake18_47, [], []⟩), (48, ⟨yawake18_48, [], []⟩), (49, ⟨yawake18_49, [], []⟩), (50, ⟨yawake18_50, [], []⟩), (62, ⟨yawake18_62, [], []⟩), (63, ⟨yawake18_63, [], []⟩), (64, ⟨yawake18_64, [], []⟩), (65, ⟨yawake18_65, [], []⟩), (66, ⟨yawake18_66, [], []⟩), (67, ⟨yawake18_67, [], [92]⟩), (68, ⟨yawake18_68, [], []⟩), (69, ⟨yawake18_69, [], []⟩), (70, ⟨yawake18_70, [], []⟩), (71, ⟨yawake18_71, [], []⟩), (72, ⟨yawake18_72, [], []⟩), (73, ⟨yawake18_73, [], []⟩), (74, ⟨yawake18_74, [], []⟩), (75, ⟨yawake18_75, [93], [41]⟩), (76, ⟨yawake18_76, [], []⟩), (77, ⟨yawake18_77, [], []⟩), (78, ⟨yawake18_78, [], []⟩), (82, ⟨yawake18_82, [], []⟩), (83, ⟨yawake18_83, [], []⟩), (84, ⟨yawake18_84, [], []⟩), (85, ⟨yawake18_85, [], []⟩), (86, ⟨yawake18_86, [], []⟩), (87, ⟨yawake18_87, [], []⟩), (92, ⟨yawake18_92, [], []⟩), (93, ⟨yawake18_93, [], []⟩), (100, ⟨yawake18_100, [], []⟩), (101, ⟨yawake18_101, [], []⟩), (102, ⟨yawake18_102, [], []⟩), (103, ⟨yawake18_103, [], []⟩), (104, ⟨yawake18_104, [], []⟩), (105, ⟨yawake18_105, [], []⟩), (106, ⟨yawake18_106, [], []⟩), (109, ⟨yawake18_109, [], []⟩), (110, ⟨yawake18_110, [], []⟩), (111, ⟨yawake18_111, [], []⟩), (112, ⟨yawake18_112, [], []⟩), (113, ⟨yawake18_113, [], []⟩), (114, ⟨yawake18_114, [], []⟩), (115, ⟨yawake18_115, [], []⟩), (116, ⟨yawake18_116, [], []⟩), (117, ⟨yawake18_117, [], []⟩), (118, ⟨yawake18_118, [], []⟩), (125, ⟨yawake18_125, [], []⟩), (126, ⟨yawake18_126, [], []⟩), (130, ⟨yawake18_130, [], []⟩), (142, ⟨yawake18_142, [], []⟩), (143, ⟨yawake18_143, [], []⟩), (144, ⟨yawake18_144, [], [173]⟩), (145, ⟨yawake18_145, [], []⟩), (146, ⟨yawake18_146, [], []⟩), (147, ⟨yawake18_147, [], [173, 175]⟩), (150, ⟨yawake18_150, [], []⟩), (151, ⟨yawake18_151, [], []⟩), (152, ⟨yawake18_152, [], []⟩), (153, ⟨yawake18_153, [], []⟩), (154, ⟨yawake18_154, [], []⟩), (155, ⟨yawake18_155, [], []⟩), (173, ⟨yawake18_173, [], []⟩), (174, ⟨yawake18_174, [], []⟩), (175, ⟨yawake18_175, [], []⟩), (176, ⟨yawake18_176, [], []⟩), (187, ⟨yawake18_187, [], []⟩), (188, ⟨yawake18_188, [], []⟩), (189, ⟨yawake18_189, [], []⟩), (192, ⟨yawake18_192, [], []⟩), (193, ⟨yawake18_193, [], []⟩), (194, ⟨yawake18_194, [], []⟩), (195, ⟨yawake18_195, [], []⟩), (196, ⟨yawake18_196, [], []⟩), (205, ⟨yawake18_205, [], []⟩), (206, ⟨yawake18_206, [], []⟩), (211, ⟨yawake18_211, [], []⟩), (212, ⟨yawake18_212, [], []⟩), (215, ⟨yawake18_215, [], []⟩)]
theorem zawake18_ok : ZOk Tryz.prog zawake18 := ⟨⟨yawake18_5_ok, (fun j hj => by cases hj), (fun j hj => by cases hj)⟩, ⟨⟨yawake18_6_ok, (fun j hj => by cases hj), (fun j hj => by cases hj)⟩, ⟨⟨yawake18_8_ok, (fun j hj => by cases hj), (fun j hj => by cases hj)⟩, ⟨⟨yawake18_15_ok, (fun j hj => by cases hj), (fun j hj => by cases hj)⟩, ⟨⟨yawake18_16_ok, (fun j hj => by cases hj), (fun j hj => by cases hj)⟩, ⟨⟨yawake18_17_ok, (fun j hj => by cases hj), (fun j hj => by cases hj)⟩, ⟨⟨yawake18_18_ok, (fun j hj => by cases hj), (fun j hj => by cases hj)⟩, ⟨⟨yawake18_19_ok, (fun j hj => by cases hj), (fun j hj => by cases hj)⟩, ⟨⟨yawake18_20_ok, (fun j hj => by cases hj), (fun j hj => by cases hj)⟩, ⟨⟨yawake18_21_ok, (fun j hj => by cases hj), (fun j hj => by cases hj)⟩, ⟨⟨yawake18_22_ok, (fun j hj => by cases hj), (fun j hj => by cases hj)⟩, ⟨⟨yawake18_23_ok, (fun j hj => by cases hj), (fun j hj => by cases hj)⟩, ⟨⟨yawake18_35_ok, (fun j hj => by cases hj), (fun j hj => by cases hj)⟩, ⟨⟨yawake18_36_ok, (fun j hj => by cases hj), (fun j hj => by cases hj)⟩, ⟨⟨yawake18_37_ok, (fun j hj => by cases hj), (fun j hj => by cases hj)⟩, ⟨⟨yawake18_38_ok, (fun j hj => by simp only [List.mem_cons, List.mem_cons, List.not_mem_nil, or_false] at hj; rcases hj with rfl | rfl <;> first | exact tc71 | exact tc73), (fun j hj => by cases hj)⟩, ⟨⟨yawake18_39_ok, (fun j hj => by cases hj), (fun j hj => by cases hj)⟩, ⟨⟨yawake18_40_ok, (fun j hj => by cases hj), (fun j hj => by cases hj)⟩, ⟨⟨yawake18_41_ok, (fun j hj => by cases hj), (fun j hj => by cases hj)⟩, ⟨⟨yawake18_43_ok, (fun j hj => by cases hj), (fun j hj => by cases hj)⟩, ⟨⟨yawake18_44_ok, (fun j hj => by cases hj), (fun j hj => by cases hj)⟩, ⟨⟨yawake18_45_ok, (fun j hj => by cases hj), (fun j hj => by cases hj)⟩, ⟨⟨yawake18_46_ok, (fun j hj => by cases hj), (fun j hj => by cases hj)⟩, ⟨⟨yawake18_47_ok, (fun j hj => by cases hj), (fun j hj => by cases hj)⟩, ⟨⟨yawake18_48_ok, (fun j hj => by cases hj), (fun j hj => by cases hj)⟩, ⟨⟨yawake18_49_ok, (fun j hj => by cases hj), (fun j hj => by cases hj)⟩, ⟨⟨yawake18_50_ok, (fun j hj => by cases hj), (fun j hj => by cases hj)⟩, ⟨⟨yawake18_62_ok, (fun j hj => by cases hj), (fun j hj => by cases hj)⟩, ⟨⟨yawake18_63_ok, (fun j hj => by cases hj), (fun j hj => by cases hj)⟩, ⟨⟨yawake18_64_ok, (fun j hj => by cases hj), (fun j hj => by cases hj)⟩, ⟨⟨yawake18_65_ok, (fun j hj => by cases hj), (fun j hj => by cases hj)⟩, ⟨⟨yawake18_66_ok, (fun j hj => by cases hj), (fun j hj => by cases hj)⟩, ⟨⟨yawake18_67_ok, (fun j hj => by cases hj), (fun j hj => by obtain rfl := List.mem_singleton.1 hj; exact tc92)⟩, ⟨⟨yawake18_68_ok, (fun j hj => by cases hj), (fun j hj => by cases hj)⟩, ⟨⟨yawake18_69_ok, (fun j hj => by cases hj), (fun j hj => by cases hj)⟩, ⟨⟨yawake18_70_ok, (fun j hj => by cases hj), (fun j hj => by cases hj)⟩, ⟨⟨yawake18_71_ok, (fun j hj => by cases hj), (fun j hj => by cases hj)⟩, ⟨⟨yawake18_72_ok, (fun j hj => by cases hj), (fun j hj => by cases hj)⟩, ⟨⟨yawake18_73_ok, (fun j hj => by cases hj), (fun j hj => by cases hj)⟩, ⟨⟨yawake18_74_ok, (fun j hj => by cases hj), (fun j hj => by cases hj)⟩, ⟨⟨yawake18_75_ok, (fun j hj => by obtain rfl := List.mem_singleton.1 hj; exact tc93), (fun j hj => by obtain rfl := List.mem_singleton.1 hj; exact tc41)⟩, ⟨⟨yawake18_76_ok, (fun j hj => by cases hj), (fun j hj => by cases hj)⟩, ⟨⟨yawake18_77_ok, (fun j hj => by cases hj), (fun j hj => by cases hj)⟩, ⟨⟨yawake18_78_ok, (fun j hj => by cases hj), (fun j hj => by cases hj)⟩, ⟨⟨yawake18_82_ok, (fun j hj => by cases hj), (fun j hj => by cases hj)⟩, ⟨⟨yawake18_83_ok, (fun j hj => by cases hj), (fun j hj => by cases hj)⟩, ⟨⟨yawake18_84_ok, (fun j hj => by cases hj), (fun j hj => by cases hj)⟩, ⟨⟨yawake18_85_ok, (fun j hj => by cases hj), (fun j hj => by cases hj)⟩, ⟨⟨yawake18_86_ok, (fun j hj => by cases hj), (fun j hj => by cases hj)⟩, ⟨⟨yawake18_87_ok, (fun j hj => by cases hj), (fun j hj => by cases hj)⟩, ⟨⟨yawake18_92_ok, (fun j hj => by cases hj), (fun j hj => by cases hj)⟩, ⟨⟨yawake18_93_ok, (fun j hj => by cases hj), (fun j hj => by cases hj)⟩, ⟨⟨yawake18_100_ok, (fun j hj => by cases hj), (fun j hj => by cases hj)⟩, ⟨⟨yawake18_101_ok, (fun j hj => by cases hj), (fun j hj => by cases hj)⟩, ⟨⟨yawake18_102_ok, (fun j hj => by cases hj), (fun j hj => by cases hj)⟩, ⟨⟨yawake18_103_ok, (fun j hj => by cases hj), (fun j hj => by cases hj)⟩, ⟨⟨yawake18_104_ok, (fun j hj => by cases hj), (fun j hj => by cases hj)⟩, ⟨⟨yawake18_105_ok, (fun j hj => by cases hj), (fun j hj => by cases hj)⟩, ⟨⟨yawake18_106_ok, (fun j hj => by cases hj), (fun j hj => by cases hj)⟩, ⟨⟨yawake18_109_ok, (fun j hj => by cases hj), (fun j hj => by cases hj)⟩, ⟨⟨yawake18_110_ok, (fun j hj => by cases hj), (fun j hj => by cases hj)⟩, ⟨⟨yawake18_111_ok, (fun j hj => by cases hj), (fun j hj => by cases hj)⟩, ⟨⟨yawake18_112_ok, (fun j hj => by cases hj), (fun j hj => by cases hj)⟩, ⟨⟨yawake18_113_ok, (fun j hj => by cases hj), (fun j hj => by cases hj)⟩, ⟨⟨yawake18_114_ok, (fun j hj => by cases hj), (fun j hj => by cases hj)⟩, ⟨⟨yawake18_115_ok, (fun j hj => by cases hj), (fun j hj => by cases hj)⟩, ⟨⟨yawake18_116_ok, (fun j hj => by cases hj), (fun j hj => by cases hj)⟩, ⟨⟨yawake18_117_ok, (fun j hj => by cases hj), (fun j hj => by cases hj)⟩, ⟨⟨yawake18_118_ok, (fun j hj => by cases hj), (fun j hj => by cases hj)⟩, ⟨⟨yawake18_125_ok, (fun j hj => by cases hj), (fun j hj => by cases hj)⟩, ⟨⟨yawake18_126_ok, (fun j hj => by cases hj), (fun j hj => by cases hj)⟩, ⟨⟨yawake18_130_ok, (fun j hj => by cases hj), (fun j hj => by cases hj)⟩, ⟨⟨yawake18_142_ok, (fun j hj => by cases hj), (fun j hj => by cases hj)⟩, ⟨⟨yawake18_143_ok, (fun j hj => by cases hj), (fun j hj => by cases hj)⟩, ⟨⟨yawake18_144_ok, (fun j hj => by cases hj), (fun j hj => by obtain rfl := List.mem_singleton.1 hj; exact tc173)⟩, ⟨⟨yawake18_145_ok, (fun j hj => by cases hj), (fun j hj => by cases hj)⟩, ⟨⟨yawake18_146_ok, (fun j hj => by cases hj), (fun j hj => by cases hj)⟩, ⟨⟨yawake18_147_ok, (fun j hj => by cases hj), (fun j hj => by simp only [List.mem_cons, List.mem_cons, List.not_mem_nil, or_false] at hj; rcases hj with rfl | rfl <;> first | exact tc173 | exact tc175)⟩, ⟨⟨yawake18_150_ok, (fun j hj => by cases hj), (fun j hj => by cases hj)⟩, ⟨⟨yawake18_151_ok, (fun j hj => by cases hj), (fun j hj => by cases hj)⟩, ⟨⟨yawake18_152_ok, (fun j hj => by cases hj), (fun j hj => by cases hj)⟩, ⟨⟨yawake18_153_ok, (fun j hj => by cases hj), (fun j hj => by cases hj)⟩, ⟨⟨yawake18_154_ok, (fun j hj => by cases hj), (fun j hj => by cases hj)⟩, ⟨⟨yawake18_155_ok, (fun j hj => by cases hj), (fun j hj => by cases hj)⟩, ⟨⟨yawake18_173_ok, (fun j hj => by cases hj), (fun j hj => by cases hj)⟩, ⟨⟨yawake18_174_ok, (fun j hj => by cases hj), (fun j hj => by cases hj)⟩, ⟨⟨yawake18_175_ok, (fun j hj => by cases hj), (fun j hj => by cases hj)⟩, ⟨⟨yawake18_176_ok, (fun j hj => by cases hj), (fun j hj => by cases hj)⟩, ⟨⟨yawake18_187_ok, (fun j hj => by cases hj), (fun j hj => by cases hj)⟩, ⟨⟨yawake18_188_ok, (fun j hj => by cases hj), (fun j hj => by cases hj)⟩, ⟨⟨yawake18_189_ok, (fun j hj => by cases hj), (fun j hj => by cases hj)⟩, ⟨⟨yawake18_192_ok, (fun j hj => by cases hj), (fun j hj => by cases hj)⟩, ⟨⟨yawake18_193_ok, (fun j hj => by cases hj), (fun j hj => by cases hj)⟩, ⟨⟨yawake18_194_ok, (fun j hj => by cases hj), (fun j hj => by cases hj)⟩, ⟨⟨yawake18_195_ok, (fun j hj => by cases hj), (fun j hj => by cases hj)⟩, ⟨⟨yawake18_196_ok, (fun j hj => by cases hj), (fun j hj => by cases hj)⟩, ⟨⟨yawake18_205_ok, (fun j hj => by cases hj), (fun j hj => by cases hj)⟩, ⟨⟨yawake18_206_ok, (fun j hj => by cases hj), (fun j hj => by cases hj)⟩, ⟨⟨yawake18_211_ok, (fun j hj => by cases hj), (fun j hj => by cases hj)⟩, ⟨⟨yawake18_212_ok, (fun j hj => by cases hj), (fun j hj => by cases hj)⟩, ⟨⟨yawake18_215_ok, (fun j hj => by cases hj), (fun j hj => by cases hj)⟩, trivial⟩⟩⟩⟩⟩⟩⟩⟩⟩⟩⟩⟩⟩⟩⟩⟩⟩⟩⟩⟩⟩⟩⟩⟩⟩⟩⟩⟩⟩⟩⟩⟩⟩⟩⟩⟩⟩⟩⟩⟩⟩⟩⟩⟩⟩⟩⟩⟩⟩⟩⟩⟩⟩⟩⟩⟩⟩⟩⟩⟩⟩⟩⟩⟩⟩⟩⟩⟩⟩⟩⟩⟩⟩⟩⟩⟩⟩⟩⟩⟩⟩⟩⟩⟩⟩⟩⟩⟩⟩⟩⟩⟩⟩⟩⟩⟩⟩⟩⟩⟩⟩
theorem awake18_run (h : AHeap) : ACalls Tryz.prog 5 [] h fun e h' => e = .ret (.lit (.bool true)) ∧ h' = h := acalls_lit (zrun_true zawake18_ok tmix (m := 100000) (k := 60) (by kernel_rfl)) h
end Go.Proofs.YteahajcgbogjkaaGreatDoor.AL
/- XsortPasses. -/
namespace Go.Proofs.YteahajcgbogjkaaGreatDoor.AL
set_option linter.unusedVariables false
set_option linter.unusedSimpArgs false
set_option maxRecDepth 100000
open Go
open Go.Proofs.Tryz
noncomputable def w_chainmanlaw18_awake : XC := .p fun R args K => match args with
  | [] => K (.lit (.bool true))
  | _ => none
theorem w_chainmanlaw18_awake_ok : XC.Nat w_chainmanlaw18_awake ∧ XC.Ok Tryz.prog 5 w_chainmanlaw18_awake := by
  refine ⟨fun R args K => ?_, tc5, fun args h v hx => ?_⟩
  · dsimp only; split <;> simp [Option.bind_assoc, mkP]
  · dsimp only at hx; split at hx
    · cases hx
      exact awake18_run _
    · cases hx
-- chainman/chainmanlaw18.XsortPasses: function 3
noncomputable def Echainmanlaw18_XsortPasses : XE := { T := tabOf [(3, r3), (4, r4), (9, r9)], C := [(5, w_chainmanlaw18_awake), (6, w_xsort_Passes), (7, w_chainmanref18_Passes), (8, w_xsort_Is), (9, w_chainmanref18_Is)], D := [], Ms := [], Ml := [], Mo := [(1008, [0, 1, 2, 3, 16]), (3016, [33]), (3019, [36])], n := 37 }
theorem Echainmanlaw18_XsortPasses_ok : XE.Ok Echainmanlaw18_XsortPasses Tryz.prog := ⟨tabOf_ok (⟨r3_ok, ⟨r4_ok, ⟨r9_ok, trivial⟩⟩⟩), (⟨w_chainmanlaw18_awake_ok, ⟨w_xsort_Passes_ok, ⟨w_chainmanref18_Passes_ok, ⟨w_xsort_Is_ok, ⟨w_chainmanref18_Is_ok, trivial⟩⟩⟩⟩⟩), ydOk_none, trivial⟩
noncomputable def c3 : Code := bodyOf f3
noncomputable def S_chainmanlaw18_XsortPasses (n0 : Int) (left1 : Int) (name2 : ByteArray) (out3 : ByteArray) (h : AHeap) : Option (AVal × AHeap) := xfun Echainmanlaw18_XsortPasses f3 [(.lit (.int .i64 n0)), (.lit (.int .i64 left1)), (.lit (.string name2)), (.lit (.string out3))] h
noncomputable def S_chainmanlaw18_XsortPasses_0 (n0 : Int) (left1 : Int) (name2 : ByteArray) (out3 : ByteArray) (t16 : Bool) (h : AHeap) : Option (AVal × AHeap) := jo Echainmanlaw18_XsortPasses 1 (rops (ca (ca (cb c3)))) ((rops (ca (ca (cb c3)))).toList.drop 8) 8 [(0, (.lit (.int .i64 n0))), (1, (.lit (.int .i64 left1))), (2, (.lit (.string name2))), (3, (.lit (.string out3))), (16, (.lit (.bool t16)))] h (kN (kSeq Echainmanlaw18_XsortPasses (cb (ca (cb c3))) (kSeq Echainmanlaw18_XsortPasses (cb (cb c3)) (xend Echainmanlaw18_XsortPasses f3))))
noncomputable def S_chainmanlaw18_XsortPasses_1 (t33 : Bool) (h : AHeap) : Option (AVal × AHeap) := jo Echainmanlaw18_XsortPasses 3 (rops (ca (cb (cb c3)))) ((rops (ca (cb (cb c3)))).toList.drop 16) 16 [(33, (.lit (.bool t33)))] h (kN (kSeq Echainmanlaw18_XsortPasses (cb (cb (cb c3))) (xend Echainmanlaw18_XsortPasses f3)))
noncomputable def S_chainmanlaw18_XsortPasses_2 (t36 : Bool) (h : AHeap) : Option (AVal × AHeap) := jo Echainmanlaw18_XsortPasses 3 (rops (ca (cb (cb c3)))) ((rops (ca (cb (cb c3)))).toList.drop 19) 19 [(36, (.lit (.bool t36)))] h (kN (kSeq Echainmanlaw18_XsortPasses (cb (cb (cb c3))) (xend Echainmanlaw18_XsortPasses f3)))
theorem S_chainmanlaw18_XsortPasses_eq (n0 : Int) (left1 : Int) (name2 : ByteArray) (out3 : ByteArray) (h : AHeap) : S_chainmanlaw18_XsortPasses n0 left1 name2 out3 h =
 bif (decide ((name2.size : Int) > 40)) then (S_chainmanlaw18_XsortPasses_0 n0 left1 name2 out3 true h)
 else (S_chainmanlaw18_XsortPasses_0 n0 left1 name2 out3 (decide ((out3.size : Int) > 40)) h) := by kernel_rfl
theorem S_chainmanlaw18_XsortPasses_0_eq (n0 : Int) (left1 : Int) (name2 : ByteArray) (out3 : ByteArray) (t16 : Bool) (h : AHeap) : S_chainmanlaw18_XsortPasses_0 n0 left1 name2 out3 t16 h =
 bif t16 then (some ((.lit (.bool true)), h))
 else ((onlyR (S_xsort_Passes n0 left1 h) h).bind fun r1 =>
 (asI .i64 r1).bind fun n2 =>
 (onlyR (S_chainmanref18_Passes n0 left1 h) h).bind fun r3 =>
 (asI .i64 r3).bind fun n5 =>
 bif (decide (n2 = n5)) then ((onlyR (S_xsort_Is name2 out3 h) h).bind fun r6 =>
 (asB r6).bind fun b7 =>
 (onlyR (S_chainmanref18_Is name2 out3 h) h).bind fun r8 =>
 (asB r8).bind fun b9 =>
 S_chainmanlaw18_XsortPasses_1 (decide (b7 = b9)) h)
 else (S_chainmanlaw18_XsortPasses_1 false h)) := (jo_eq ..).trans (by kernel_rfl)
theorem S_chainmanlaw18_XsortPasses_1_eq (t33 : Bool) (h : AHeap) : S_chainmanlaw18_XsortPasses_1 t33 h =
 bif t33 then (S_chainmanlaw18_XsortPasses_2 true h)
 else (S_chainmanlaw18_XsortPasses_2 false h) := (jo_eq ..).trans (by kernel_rfl)
theorem S_chainmanlaw18_XsortPasses_2_eq (t36 : Bool) (h : AHeap) : S_chainmanlaw18_XsortPasses_2 t36 h =
 some ((.lit (.bool t36)), h) := (jo_eq ..).trans (by kernel_rfl)
theorem S_chainmanlaw18_XsortPasses_ends {n0 : Int} {left1 : Int} {name2 : ByteArray} {out3 : ByteArray} {h h' : AHeap} {v : AVal} {R : AEnd → AHeap → Prop} (hx : S_chainmanlaw18_XsortPasses n0 left1 name2 out3 h = some (v, h')) (hR : HOk h → h.length ≤ h'.length → ABody.AEnds h h' (.ret v) R) : ACalls Tryz.prog 3 [(.lit (.int .i64 n0)), (.lit (.int .i64 left1)), (.lit (.string name2)), (.lit (.string out3))] h R := xfun_ends Echainmanlaw18_XsortPasses_ok tmix (i := 3) (by rfl) (by kernel_rfl) (by kernel_rfl) hx hR
theorem step_lt {c fan : Int} (hc : 1 < c) (h2 : 2 ≤ fan) : (c + fan - 1) / fan < c ∧ 0 ≤ (c + fan - 1) / fan := by
  refine ⟨Int.ediv_lt_of_lt_mul (by omega) ?_, Int.ediv_nonneg (by omega) (by omega)⟩
  have : 0 < (c - 1) * (fan - 1) := Int.mul_pos (by omega) (by omega)
  simp only [Int.sub_mul, Int.mul_sub, Int.one_mul, Int.mul_one] at this
  omega
theorem pass_loop (h : AHeap) {fan : Int} (h2 : 2 ≤ fan) (h64 : fan ≤ 64) : ∀ (N : Nat) (c k : Int), c ≤ N → N ≤ 4398046511104 → 0 ≤ k → k + N ≤ 4611686018427387904 →
    ∃ z, S_xsort_Passes_3 fan k c h = some (.lit (.int .i64 z), h) ∧ S_chainmanref18_Passes_3 c fan k h = some (.lit (.int .i64 z), h) := by
  intro N
  induction N with
  | zero =>
    intro c k h1 _ _ _
    refine ⟨k, ?_, ?_⟩
    · rw [S_xsort_Passes_3_eq]; exact cF (decide_eq_false (by omega)) (by rw [S_xsort_Passes_4_eq])
    · rw [S_chainmanref18_Passes_3_eq]; exact cF (decide_eq_false (by omega)) (by rw [S_chainmanref18_Passes_4_eq])
  | succ N ih =>
    intro c k h1 hN hk hkN
    by_cases hc : 1 < c
    · obtain ⟨s1, s2⟩ := step_lt hc h2
      obtain ⟨z, e1, e2⟩ := ih ((c + fan - 1) / fan) (k + 1) (by omega) (by omega) (by omega) (by omega)
      have w : IntKind.wrap .i64 (Int.tdiv (IntKind.wrap .i64 ((IntKind.wrap .i64 (c + fan)) - 1)) fan) = (c + fan - 1) / fan := by
        rw [wrap_i64 (n := c + fan) (by omega) (by omega), wrap_i64 (n := c + fan - 1) (by omega) (by omega), Int.tdiv_eq_ediv_of_nonneg (by omega), wrap_i64 (by omega) (by omega)]
      refine ⟨z, ?_, ?_⟩
      · rw [S_xsort_Passes_3_eq]
        refine cT (decide_eq_true hc) (bd (req_true (by omega)) ?_)
        rw [w, wrap_i64 (by omega) (by omega)]; exact e1
      · rw [S_chainmanref18_Passes_3_eq]
        refine cT (decide_eq_true hc) (bd (req_true (by omega)) ?_)
        rw [w, wrap_i64 (by omega) (by omega)]; exact e2
    · refine ⟨k, ?_, ?_⟩
      · rw [S_xsort_Passes_3_eq]; exact cF (decide_eq_false hc) (by rw [S_xsort_Passes_4_eq])
      · rw [S_chainmanref18_Passes_3_eq]; exact cF (decide_eq_false hc) (by rw [S_chainmanref18_Passes_4_eq])
theorem pas_head (n l : Int) (h : AHeap) : S_xsort_Passes n l h = S_xsort_Passes_2 n l (decide (n < 0 ∨ n > 1099511627776 ∨ l < 16 ∨ l > 1099511627776)) h := by
  rw [S_xsort_Passes_eq]
  by_cases a : n < 0
  · refine cT (decide_eq_true a) ?_
    rw [S_xsort_Passes_0_eq, cond_true, S_xsort_Passes_1_eq, cond_true, decide_eq_true (.inl a)]
  · refine cF (decide_eq_false a) ?_
    rw [S_xsort_Passes_0_eq]
    by_cases b : n > 1099511627776
    · refine cT (decide_eq_true b) ?_
      rw [S_xsort_Passes_1_eq, cond_true, decide_eq_true (.inr (.inl b))]
    · refine cF (decide_eq_false b) ?_
      rw [S_xsort_Passes_1_eq]
      by_cases c : l < 16
      · refine cT (decide_eq_true c) ?_
        rw [decide_eq_true (.inr (.inr (.inl c)))]
      · refine cF (decide_eq_false c) ?_
        exact congrArg (fun b => S_xsort_Passes_2 n l b h) (decide_eq_decide.2 ⟨fun h => .inr (.inr (.inr h)), fun h => by omega⟩)
theorem rpas_head (n l : Int) (h : AHeap) : S_chainmanref18_Passes n l h = S_chainmanref18_Passes_2 n l (decide (n < 0 ∨ n > 1099511627776 ∨ l < 16 ∨ l > 1099511627776)) h := by
  rw [S_chainmanref18_Passes_eq]
  by_cases a : n < 0
  · refine cT (decide_eq_true a) ?_
    rw [S_chainmanref18_Passes_0_eq, cond_true, S_chainmanref18_Passes_1_eq, cond_true, decide_eq_true (.inl a)]
  · refine cF (decide_eq_false a) ?_
    rw [S_chainmanref18_Passes_0_eq]
    by_cases b : n > 1099511627776
    · refine cT (decide_eq_true b) ?_
      rw [S_chainmanref18_Passes_1_eq, cond_true, decide_eq_true (.inr (.inl b))]
    · refine cF (decide_eq_false b) ?_
      rw [S_chainmanref18_Passes_1_eq]
      by_cases c : l < 16
      · refine cT (decide_eq_true c) ?_
        rw [decide_eq_true (.inr (.inr (.inl c)))]
      · refine cF (decide_eq_false c) ?_
        exact congrArg (fun b => S_chainmanref18_Passes_2 n l b h) (decide_eq_decide.2 ⟨fun h => .inr (.inr (.inr h)), fun h => by omega⟩)
theorem passes_run (n l : Int) (h : AHeap) : ∃ z, onlyR (S_xsort_Passes n l h) h = some (.lit (.int .i64 z)) ∧ onlyR (S_chainmanref18_Passes n l h) h = some (.lit (.int .i64 z)) := by
  suffices key : ∃ z, S_xsort_Passes n l h = some (.lit (.int .i64 z), h) ∧ S_chainmanref18_Passes n l h = some (.lit (.int .i64 z), h) by
    obtain ⟨z, e1, e2⟩ := key
    exact ⟨z, by rw [e1]; exact onlyR_same _ _, by rw [e2]; exact onlyR_same _ _⟩
  rw [pas_head, rpas_head]
  by_cases bad : n < 0 ∨ n > 1099511627776 ∨ l < 16 ∨ l > 1099511627776
  · rw [decide_eq_true bad, S_xsort_Passes_2_eq, S_chainmanref18_Passes_2_eq]
    exact ⟨0, rfl, rfl⟩
  · rw [decide_eq_false bad, S_xsort_Passes_2_eq, S_chainmanref18_Passes_2_eq, cond_false, cond_false]
    have b1 : 0 ≤ n ∧ n ≤ 1099511627776 ∧ 16 ≤ l ∧ l ≤ 1099511627776 := by omega
    obtain ⟨n0, n1, l0, l1⟩ := b1
    have w1 : IntKind.wrap .i64 (l - 8) = l - 8 := wrap_i64 (by omega) (by omega)
    have w2 : IntKind.wrap .i64 (Int.tdiv (IntKind.wrap .i64 (l - 4)) 4) = (l - 4) / 4 := by
      rw [wrap_i64 (n := l - 4) (by omega) (by omega), Int.tdiv_eq_ediv_of_nonneg (by omega), wrap_i64 (by omega) (by omega)]
    obtain ⟨fan, hf⟩ : ∃ fan, fan = minI 64 ((l - 4) / 4) := ⟨_, rfl⟩
    have f1 : 2 ≤ fan ∧ fan ≤ 64 := by rw [hf]; unfold minI; split <;> omega
    have c0 : 0 ≤ (n + (l - 8) - 1) / (l - 8) := Int.ediv_nonneg (by omega) (by omega)
    have c1 : (n + (l - 8) - 1) / (l - 8) ≤ n + (l - 8) - 1 := Int.ediv_le_self _ (by omega)
    have w3 : IntKind.wrap .i64 (Int.tdiv (IntKind.wrap .i64 ((IntKind.wrap .i64 (n + (l - 8))) - 1)) (l - 8)) = (n + (l - 8) - 1) / (l - 8) := by
      rw [wrap_i64 (n := n + (l - 8)) (by omega) (by omega), wrap_i64 (n := n + (l - 8) - 1) (by omega) (by omega), Int.tdiv_eq_ediv_of_nonneg (by omega), wrap_i64 (by omega) (by omega)]
    have w4 : IntKind.wrap .i64 (Int.tdiv (IntKind.wrap .i64 ((IntKind.wrap .i64 (n + l)) - 9)) (l - 8)) = (n + (l - 8) - 1) / (l - 8) := by
      rw [wrap_i64 (n := n + l) (by omega) (by omega), wrap_i64 (n := n + l - 9) (by omega) (by omega), Int.tdiv_eq_ediv_of_nonneg (by omega), show n + l - 9 = n + (l - 8) - 1 by omega, wrap_i64 (by omega) (by omega)]
    obtain ⟨z, e1, e2⟩ := pass_loop h f1.1 f1.2 4398046511104 ((n + (l - 8) - 1) / (l - 8)) 1 (by omega) (by omega) (by omega) (by omega)
    refine ⟨z, ?_, ?_⟩
    · have er : S_xsort_room l h = some (.tup [.lit (.int .i64 (l - 8)), .lit (.int .i64 fan)], h) := by rw [S_xsort_room_eq, w1, w2, ← hf]
      refine bd (by rw [er]; exact onlyR_same _ _) (bd rfl (bd rfl (bd rfl (bd rfl (bd (req_true (by omega)) ?_)))))
      rw [w3]; exact e1
    · rw [w1, w2, ← hf, w4]
      exact bd (req_true (by omega)) e2
/-! ### Names on the way -/
def allK (l : List UInt8) : Bool := l.all fun c => cutD.data.toList.contains c
theorem num_ok (c : UInt8) : cutD.data.toList.contains c = (decide ((c.toNat : Int) = 46) || (!decide ((c.toNat : Int) < 48) && !decide ((c.toNat : Int) > 57))) := by
  have key : ∀ n, n < 256 → cutD.data.toList.contains (UInt8.ofNat n) = (decide ((n : Int) = 46) || (!decide ((n : Int) < 48) && !decide ((n : Int) > 57))) := by decide +kernel
  have := key c.toNat c.toNat_lt
  rwa [UInt8.ofNat_toNat] at this
theorem drop_all {p : UInt8 → Bool} : ∀ l : List UInt8, l.all p = true → l.dropWhile p = []
  | [], _ => rfl
  | a :: l, h => by
    simp only [List.all_cons, Bool.and_eq_true] at h
    rw [List.dropWhile_cons_of_pos h.1]; exact drop_all l h.2
theorem drop_none {p : UInt8 → Bool} : ∀ {l : List UInt8}, l.dropWhile p = [] → l.all p = true
  | [], _ => rfl
  | a :: l, h => by
    cases ha : p a with
    | true =>
      rw [List.dropWhile_cons_of_pos ha] at h
      simp only [List.all_cons, Bool.and_eq_true]
      exact ⟨ha, drop_none h⟩
    | false => rw [List.dropWhile_cons_of_neg (by rw [ha]; simp)] at h; cases h
theorem drop_head {p : UInt8 → Bool} : ∀ {l r : List UInt8} {a : UInt8}, l.dropWhile p = a :: r → p a = false
  | [], _, _, h => by cases h
  | b :: l, r, a, h => by
    cases hb : p b with
    | true => rw [List.dropWhile_cons_of_pos hb] at h; exact drop_head h
    | false => rw [List.dropWhile_cons_of_neg (by rw [hb]; simp)] at h; cases h; exact hb
theorem trim_nil (l cs : List UInt8) : (Lib.trimS l cs = []) ↔ (l.all fun c => cs.contains c) = true := by
  unfold Lib.trimS Lib.trimLeftS Lib.trimRightS
  constructor
  · intro h
    have h1 := drop_none h
    rw [List.all_reverse] at h1
    cases hr : l.reverse.dropWhile (cs.contains ·) with
    | nil =>
      have := drop_none hr
      rwa [List.all_reverse] at this
    | cons a r =>
      rw [hr] at h1
      simp only [List.all_cons, Bool.and_eq_true] at h1
      have := drop_head hr
      rw [this] at h1; cases h1.1
  · intro h
    rw [drop_all l.reverse (by rw [List.all_reverse]; exact h)]; rfl
theorem trimB_nil (s : ByteArray) : decide (trimB s = (⟨#[]⟩ : ByteArray)) = allK s.data.toList := by
  have e : (trimB s = (⟨#[]⟩ : ByteArray)) ↔ Lib.trimS s.data.toList cutD.data.toList = [] := by
    unfold trimB
    constructor
    · intro h
      have := congrArg (fun b : ByteArray => b.data.toList) h
      simpa using this
    · intro h; rw [h]
  cases hk : allK s.data.toList with
  | true => exact decide_eq_true (e.2 ((trim_nil _ _).2 hk))
  | false => exact decide_eq_false fun h => by have := (trim_nil _ _).1 (e.1 h); unfold allK at hk; rw [this] at hk; cases hk
theorem is_loop {name : ByteArray} (hn : name.size ≤ 40) (h : AHeap) : ∀ m i, i + m = name.size → S_chainmanref18_Is_1 name (i : Int) h = some (.lit (.bool (allK (name.data.toList.drop i))), h) := by
  have hsz : name.data.toList.length = name.size := Array.length_toList
  intro m
  induction m with
  | zero =>
    intro i hi
    rw [S_chainmanref18_Is_1_eq, List.drop_of_length_le (by omega)]
    refine cF (decide_eq_false (by omega)) ?_
    rw [S_chainmanref18_Is_3_eq]; rfl
  | succ m ih =>
    intro i hi
    have hlt : i < name.size := by omega
    have hd : name.data.toList.drop i = name.data.toList[i] :: name.data.toList.drop (i + 1) := List.drop_eq_getElem_cons (by omega)
    have nx := ih (i + 1) (by omega)
    have wi : IntKind.wrap .i64 ((i : Int) + 1) = ((i + 1 : Nat) : Int) := by rw [wrap_i64 (by omega) (by omega)]; omega
    have hk : allK (name.data.toList.drop i) = (cutD.data.toList.contains name.data.toList[i] && allK (name.data.toList.drop (i + 1))) := by rw [hd]; rfl
    rw [S_chainmanref18_Is_1_eq, hk, num_ok]
    refine cT (decide_eq_true (by omega)) (bd (strAt_ok hlt) ?_)
    generalize hq : (name.data.toList[i].toNat : Int) = q
    have two : ∀ b : Bool, S_chainmanref18_Is_2 name (i : Int) b h = cond b (some (.lit (.bool false), h)) (some (.lit (.bool (allK (name.data.toList.drop (i + 1)))), h)) := fun b => by
      rw [S_chainmanref18_Is_2_eq, wi]
      cases b with
      | true => rfl
      | false => exact nx
    by_cases a : q = 46
    · refine cF (by rw [decide_eq_true a]; rfl) ?_
      rw [two, decide_eq_true a]; simp
    · refine cT (by rw [decide_eq_false a]; rfl) (bd ((strAt_ok hlt).trans (congrArg some hq)) ?_)
      by_cases b : q < 48
      · refine cT (decide_eq_true b) ?_
        rw [two, decide_eq_true b, decide_eq_false a]; simp
      · refine cF (decide_eq_false b) (bd ((strAt_ok hlt).trans (congrArg some hq)) ?_)
        rw [two, decide_eq_false b, decide_eq_false a]
        by_cases c : q > 57
        · rw [decide_eq_true c]; simp
        · rw [decide_eq_false c]; simp
theorem ext_toList (s : ByteArray) (a b : Nat) (hb : b ≤ s.size) : (s.extract a b).data.toList = (s.data.toList.drop a).take (b - a) := by
  rw [ByteArray.data_extract, Array.toList_extract, List.extract_eq_take_drop]
def onP (p name : ByteArray) : Bool := decide (p.size ≤ name.size) && decide (name.extract 0 p.size = p)
def isB (name out : ByteArray) : Bool := onP (out ++ ⟨#[46, 114]⟩) name && (!decide (name.size = out.size + 2) && allK (name.data.toList.drop (out.size + 2)))
theorem psz (out : ByteArray) : (out ++ (⟨#[46, 114]⟩ : ByteArray)).size = out.size + 2 := by rw [ByteArray.size_append]; rfl
theorem cut_eq (s : ByteArray) {a b : Nat} (h1 : a ≤ b) (h2 : b ≤ s.size) : cutS s (a : Int) (b : Int) = some (s.extract a b) := by
  unfold cutS
  rw [req_true ⟨by omega, by omega, by omega⟩]; rfl
theorem prefix_run (s p : ByteArray) (h : AHeap) : onlyR (S_internal_stringslite_HasPrefix s p h) h = some (.lit (.bool (onP p s))) := by
  suffices key : S_internal_stringslite_HasPrefix s p h = some (.lit (.bool (onP p s)), h) by rw [key]; exact onlyR_same _ _
  rw [S_internal_stringslite_HasPrefix_eq]
  unfold onP
  by_cases c : p.size ≤ s.size
  · refine cT (decide_eq_true (by omega)) (bd (cut_eq s (a := 0) (Nat.zero_le _) c) ?_)
    rw [S_internal_stringslite_HasPrefix_0_eq, decide_eq_true c, Bool.true_and]
  · refine cF (decide_eq_false (by omega)) ?_
    rw [S_internal_stringslite_HasPrefix_0_eq, decide_eq_false c, Bool.false_and]
theorem cutp_run (s p : ByteArray) (h : AHeap) : onlyR (S_strings_CutPrefix s p h) h = some (.tup [.lit (.string (cond (onP p s) (s.extract p.size s.size) s)), .lit (.bool (onP p s))]) := by
  have e1 : S_internal_stringslite_CutPrefix s p h = some (.tup [.lit (.string (cond (onP p s) (s.extract p.size s.size) s)), .lit (.bool (onP p s))], h) := by
    rw [S_internal_stringslite_CutPrefix_eq]
    refine bd (prefix_run s p h) (bd rfl ?_)
    cases ho : onP p s with
    | false => exact cT rfl rfl
    | true =>
      have hle : p.size ≤ s.size := by
        unfold onP at ho
        simp only [Bool.and_eq_true, decide_eq_true_eq] at ho
        exact ho.1
      exact cF rfl (bd (cut_eq s hle (Nat.le_refl _)) rfl)
  have e2 : S_strings_CutPrefix s p h = some (.tup [.lit (.string (cond (onP p s) (s.extract p.size s.size) s)), .lit (.bool (onP p s))], h) := by
    rw [S_strings_CutPrefix_eq]
    exact bd (by rw [e1]; exact onlyR_same _ _) (bd rfl (bd rfl (bd rfl (bd rfl rfl))))
  rw [e2]; exact onlyR_same _ _
theorem is_run {name out : ByteArray} (hn : name.size ≤ 40) (ho : out.size ≤ 40) (h : AHeap) : onlyR (S_xsort_Is name out h) h = some (.lit (.bool (isB name out))) := by
  suffices key : S_xsort_Is name out h = some (.lit (.bool (isB name out)), h) by rw [key]; exact onlyR_same _ _
  have ps := psz out
  rw [S_xsort_Is_eq]
  refine bd (req_true (by show out.size + 2 ≤ _; omega)) (bd (cutp_run _ _ h) (bd rfl (bd rfl (bd rfl (bd rfl ?_)))))
  unfold isB
  cases hp : onP (out ++ (⟨#[46, 114]⟩ : ByteArray)) name with
  | false =>
    refine cF rfl ?_
    rw [S_xsort_Is_0_eq, cond_false, S_xsort_Is_1_eq]; rfl
  | true =>
    have hle : out.size + 2 ≤ name.size := by
      unfold onP at hp
      simp only [Bool.and_eq_true, decide_eq_true_eq] at hp
      omega
    have hsz : name.data.toList.length = name.size := Array.length_toList
    refine cT rfl ?_
    rw [cond_true, ps]
    have hl : (name.extract (out.size + 2) name.size).data.toList = name.data.toList.drop (out.size + 2) := by
      rw [ext_toList _ _ _ (Nat.le_refl _), List.take_of_length_le (by rw [List.length_drop]; omega)]
    have hz : decide (name.extract (out.size + 2) name.size = (⟨#[]⟩ : ByteArray)) = decide (name.size = out.size + 2) := by
      refine decide_eq_decide.2 ⟨fun e => ?_, fun e => ?_⟩
      · have := congrArg (fun b : ByteArray => b.data.toList.length) e
        simp only [hl, List.length_drop, List.length_nil] at this
        omega
      · apply ByteArray.ext
        apply Array.ext'
        rw [hl, List.drop_of_length_le (by omega)]
    rw [S_xsort_Is_0_eq, hz]
    by_cases c : name.size = out.size + 2
    · rw [decide_eq_true c]
      refine cF rfl ?_
      rw [S_xsort_Is_1_eq]; rfl
    · rw [decide_eq_false c]
      refine cT rfl (bd (req_true ⟨rfl, by rw [ByteArray.size_extract]; omega⟩) ?_)
      rw [S_xsort_Is_1_eq, trimB_nil, hl]; rfl
theorem ris_run {name out : ByteArray} (hn : name.size ≤ 40) (ho : out.size ≤ 40) (h : AHeap) : onlyR (S_chainmanref18_Is name out h) h = some (.lit (.bool (isB name out))) := by
  suffices key : S_chainmanref18_Is name out h = some (.lit (.bool (isB name out)), h) by rw [key]; exact onlyR_same _ _
  have ps := psz out
  have wk : IntKind.wrap .i64 ((out.size : Int) + 2) = ((out.size + 2 : Nat) : Int) := by rw [wrap_i64 (by omega) (by omega)]; omega
  rw [S_chainmanref18_Is_eq, wk]
  unfold isB onP
  rw [ps]
  by_cases c : name.size ≤ out.size + 2
  · refine cT (decide_eq_true (by omega)) ?_
    rw [S_chainmanref18_Is_0_eq, cond_true]
    by_cases e : name.size = out.size + 2
    · rw [decide_eq_true e]; simp
    · rw [decide_eq_false (p := out.size + 2 ≤ name.size) (by omega)]; simp
  · refine cF (decide_eq_false (by omega)) (bd (cut_eq name (a := 0) (Nat.zero_le _) (by omega)) (bd (req_true (by show out.size + 2 ≤ _; omega)) ?_))
    rw [S_chainmanref18_Is_0_eq, decide_eq_true (p := out.size + 2 ≤ name.size) (by omega), decide_eq_false (p := name.size = out.size + 2) (by omega), is_loop hn h (name.size - (out.size + 2)) (out.size + 2) (by omega)]
    cases decide (name.extract 0 (out.size + 2) = out ++ (⟨#[46, 114]⟩ : ByteArray)) <;> rfl
theorem xsort_law (n l : Int) (name out : ByteArray) (h : AHeap) : S_chainmanlaw18_XsortPasses n l name out h = some (.lit (.bool true), h) := by
  rw [S_chainmanlaw18_XsortPasses_eq]
  by_cases c1 : (name.size : Int) > 40
  · refine cT (decide_eq_true c1) ?_
    rw [S_chainmanlaw18_XsortPasses_0_eq]; rfl
  · refine cF (decide_eq_false c1) ?_
    rw [S_chainmanlaw18_XsortPasses_0_eq]
    by_cases c2 : (out.size : Int) > 40
    · exact cT (decide_eq_true c2) rfl
    · obtain ⟨z, e1, e2⟩ := passes_run n l h
      refine cF (decide_eq_false c2) (bd e1 (bd rfl (bd e2 (bd rfl (cT (decide_eq_true rfl) (bd (is_run (by omega) (by omega) h) (bd rfl (bd (ris_run (by omega) (by omega) h) (bd rfl ?_)))))))))
      rw [decide_eq_true rfl, S_chainmanlaw18_XsortPasses_1_eq, cond_true, S_chainmanlaw18_XsortPasses_2_eq]
theorem xsortPasses {n l : Int} {name out : ByteArray} : ACalls Tryz.prog 3 [.lit (.int .i64 n), .lit (.int .i64 l), .lit (.string name), .lit (.string out)] [] fun e h' => e = .ret (.lit (.bool true)) ∧ True :=
  S_chainmanlaw18_XsortPasses_ends (xsort_law n l name out []) fun hok _ => ends_same (L := []) hok rfl ⟨rfl, trivial⟩
end Go.Proofs.YteahajcgbogjkaaGreatDoor.AL
/- Facts on the types of the program, each asked of the loaded table. -/
namespace Go.Proofs.YteahajcgbogjkaaGreatDoor.AL
set_option linter.unusedVariables false
set_option linter.unusedSimpArgs false
open Go
theorem ts2 : tySize Tryz.prog 2 = some 1 := by kernel_rfl
theorem tb2 : tyBytes Tryz.prog 2 = some 8 := by kernel_rfl
theorem tg2 : tyAgg Tryz.prog 2 = some false := by kernel_rfl
theorem tz2 : tyZero Tryz.prog 2 = some (.lit (.int .i64 0)) := by kernel_rfl
theorem ta2 : tyArray Tryz.prog 2 = none := by kernel_rfl
theorem tl2 : tySlice Tryz.prog 2 = none := by kernel_rfl
theorem ti2 : tyInt Tryz.prog 2 = some .i64 := by kernel_rfl
theorem tt2 : tyString Tryz.prog 2 = false := by kernel_rfl
theorem tq2 : tyBool Tryz.prog 2 = false := by kernel_rfl
theorem tn2 : tyNil Tryz.prog 2 = none := by kernel_rfl
theorem tp2 : tyPlaces Tryz.prog 2 = none := by kernel_rfl
theorem tu2 : Tryz.prog.underlying 2 = some (.int .i64) := by kernel_rfl
theorem ts3 : tySize Tryz.prog 3 = some 1 := by kernel_rfl
theorem tb3 : tyBytes Tryz.prog 3 = some 8 := by kernel_rfl
theorem tg3 : tyAgg Tryz.prog 3 = some false := by kernel_rfl
theorem tz3 : tyZero Tryz.prog 3 = some (.lit (.int .i64 0)) := by kernel_rfl
theorem ta3 : tyArray Tryz.prog 3 = none := by kernel_rfl
theorem tl3 : tySlice Tryz.prog 3 = none := by kernel_rfl
theorem ti3 : tyInt Tryz.prog 3 = some .i64 := by kernel_rfl
theorem tt3 : tyString Tryz.prog 3 = false := by kernel_rfl
theorem tq3 : tyBool Tryz.prog 3 = false := by kernel_rfl
theorem tn3 : tyNil Tryz.prog 3 = none := by kernel_rfl
theorem tp3 : tyPlaces Tryz.prog 3 = none := by kernel_rfl
theorem tu3 : Tryz.prog.underlying 3 = some (.int .i64) := by kernel_rfl
theorem ts4 : tySize Tryz.prog 4 = some 1 := by kernel_rfl
theorem tb4 : tyBytes Tryz.prog 4 = some 1 := by kernel_rfl
theorem tg4 : tyAgg Tryz.prog 4 = some false := by kernel_rfl
theorem tz4 : tyZero Tryz.prog 4 = some (.lit (.bool false)) := by kernel_rfl
theorem ta4 : tyArray Tryz.prog 4 = none := by kernel_rfl
theorem tl4 : tySlice Tryz.prog 4 = none := by kernel_rfl
theorem ti4 : tyInt Tryz.prog 4 = none := by kernel_rfl
theorem tt4 : tyString Tryz.prog 4 = false := by kernel_rfl
theorem tq4 : tyBool Tryz.prog 4 = true := by kernel_rfl
theorem tn4 : tyNil Tryz.prog 4 = none := by kernel_rfl
theorem tp4 : tyPlaces Tryz.prog 4 = none := by kernel_rfl
theorem tu4 : Tryz.prog.underlying 4 = some .bool := by kernel_rfl
theorem ts5 : tySize Tryz.prog 5 = some 1 := by kernel_rfl
theorem tb5 : tyBytes Tryz.prog 5 = some 1 := by kernel_rfl
theorem tg5 : tyAgg Tryz.prog 5 = some false := by kernel_rfl
theorem tz5 : tyZero Tryz.prog 5 = some (.lit (.int .u8 0)) := by kernel_rfl
theorem ta5 : tyArray Tryz.prog 5 = none := by kernel_rfl
theorem tl5 : tySlice Tryz.prog 5 = none := by kernel_rfl
theorem ti5 : tyInt Tryz.prog 5 = some .u8 := by kernel_rfl
theorem tt5 : tyString Tryz.prog 5 = false := by kernel_rfl
theorem tq5 : tyBool Tryz.prog 5 = false := by kernel_rfl
theorem tn5 : tyNil Tryz.prog 5 = none := by kernel_rfl
theorem tp5 : tyPlaces Tryz.prog 5 = none := by kernel_rfl
theorem tu5 : Tryz.prog.underlying 5 = some (.int .u8) := by kernel_rfl
theorem ts9 : tySize Tryz.prog 9 = some 1 := by kernel_rfl
theorem tb9 : tyBytes Tryz.prog 9 = some 16 := by kernel_rfl
theorem tg9 : tyAgg Tryz.prog 9 = some false := by kernel_rfl
theorem tz9 : tyZero Tryz.prog 9 = some (.lit (.string { data := #[] })) := by kernel_rfl
theorem ta9 : tyArray Tryz.prog 9 = none := by kernel_rfl
theorem tl9 : tySlice Tryz.prog 9 = none := by kernel_rfl
theorem ti9 : tyInt Tryz.prog 9 = none := by kernel_rfl
theorem tt9 : tyString Tryz.prog 9 = true := by kernel_rfl
theorem tq9 : tyBool Tryz.prog 9 = false := by kernel_rfl
theorem tn9 : tyNil Tryz.prog 9 = none := by kernel_rfl
theorem tp9 : tyPlaces Tryz.prog 9 = none := by kernel_rfl
theorem tu9 : Tryz.prog.underlying 9 = some .string := by kernel_rfl
theorem ts21 : tySize Tryz.prog 21 = some 1 := by kernel_rfl
theorem tb21 : tyBytes Tryz.prog 21 = some 4 := by kernel_rfl
theorem tg21 : tyAgg Tryz.prog 21 = some false := by kernel_rfl
theorem tz21 : tyZero Tryz.prog 21 = some (.lit (.int .i32 0)) := by kernel_rfl
theorem ta21 : tyArray Tryz.prog 21 = none := by kernel_rfl
theorem tl21 : tySlice Tryz.prog 21 = none := by kernel_rfl
theorem ti21 : tyInt Tryz.prog 21 = some .i32 := by kernel_rfl
theorem tt21 : tyString Tryz.prog 21 = false := by kernel_rfl
theorem tq21 : tyBool Tryz.prog 21 = false := by kernel_rfl
theorem tn21 : tyNil Tryz.prog 21 = none := by kernel_rfl
theorem tp21 : tyPlaces Tryz.prog 21 = none := by kernel_rfl
theorem tu21 : Tryz.prog.underlying 21 = some (.int .i32) := by kernel_rfl
theorem ts26 : tySize Tryz.prog 26 = some 1 := by kernel_rfl
theorem tb26 : tyBytes Tryz.prog 26 = some 24 := by kernel_rfl
theorem tg26 : tyAgg Tryz.prog 26 = some false := by kernel_rfl
theorem tz26 : tyZero Tryz.prog 26 = some (.lit (.slice none 0 0)) := by kernel_rfl
theorem ta26 : tyArray Tryz.prog 26 = none := by kernel_rfl
theorem tl26 : tySlice Tryz.prog 26 = some 33 := by kernel_rfl
theorem ti26 : tyInt Tryz.prog 26 = none := by kernel_rfl
theorem tt26 : tyString Tryz.prog 26 = false := by kernel_rfl
theorem tq26 : tyBool Tryz.prog 26 = false := by kernel_rfl
theorem tn26 : tyNil Tryz.prog 26 = some .slice := by kernel_rfl
theorem tp26 : tyPlaces Tryz.prog 26 = none := by kernel_rfl
theorem tu26 : Tryz.prog.underlying 26 = some (.slice 33) := by kernel_rfl
theorem ts28 : tySize Tryz.prog 28 = some 1 := by kernel_rfl
theorem tb28 : tyBytes Tryz.prog 28 = some 24 := by kernel_rfl
theorem tg28 : tyAgg Tryz.prog 28 = some false := by kernel_rfl
theorem tz28 : tyZero Tryz.prog 28 = some (.lit (.slice none 0 0)) := by kernel_rfl
theorem ta28 : tyArray Tryz.prog 28 = none := by kernel_rfl
theorem tl28 : tySlice Tryz.prog 28 = some 3 := by kernel_rfl
theorem ti28 : tyInt Tryz.prog 28 = none := by kernel_rfl
theorem tt28 : tyString Tryz.prog 28 = false := by kernel_rfl
theorem tq28 : tyBool Tryz.prog 28 = false := by kernel_rfl
theorem tn28 : tyNil Tryz.prog 28 = some .slice := by kernel_rfl
theorem tp28 : tyPlaces Tryz.prog 28 = none := by kernel_rfl
theorem tu28 : Tryz.prog.underlying 28 = some (.slice 3) := by kernel_rfl
theorem ts33 : tySize Tryz.prog 33 = some 3 := by kernel_rfl
theorem tb33 : tyBytes Tryz.prog 33 = some 24 := by kernel_rfl
theorem tg33 : tyAgg Tryz.prog 33 = some true := by kernel_rfl
theorem tz33 : tyZero Tryz.prog 33 = some (.agg [.lit (.int .i64 0), .lit (.int .i64 0), .lit (.bool false)]) := by kernel_rfl
theorem ta33 : tyArray Tryz.prog 33 = none := by kernel_rfl
theorem tl33 : tySlice Tryz.prog 33 = none := by kernel_rfl
theorem ti33 : tyInt Tryz.prog 33 = none := by kernel_rfl
theorem tt33 : tyString Tryz.prog 33 = false := by kernel_rfl
theorem tq33 : tyBool Tryz.prog 33 = false := by kernel_rfl
theorem tn33 : tyNil Tryz.prog 33 = none := by kernel_rfl
theorem tf33_0 : tyField Tryz.prog 33 0 = some (0, 3) := by kernel_rfl
theorem tf33_1 : tyField Tryz.prog 33 1 = some (1, 3) := by kernel_rfl
theorem tf33_2 : tyField Tryz.prog 33 2 = some (2, 4) := by kernel_rfl
theorem tp33 : tyPlaces Tryz.prog 33 = some [(0, 1), (1, 1), (2, 1)] := by kernel_rfl
theorem tv33 : leaves Tryz.prog 20 33 = some [.int, .int, .bool] := by kernel_rfl
theorem te33 : Tryz.prog.eqGuardType Tryz.prog.depth 33 = false := by kernel_rfl
theorem ts35 : tySize Tryz.prog 35 = some 1 := by kernel_rfl
theorem tb35 : tyBytes Tryz.prog 35 = some 8 := by kernel_rfl
theorem tg35 : tyAgg Tryz.prog 35 = some false := by kernel_rfl
theorem tz35 : tyZero Tryz.prog 35 = some (.lit (.pointer none)) := by kernel_rfl
theorem ta35 : tyArray Tryz.prog 35 = none := by kernel_rfl
theorem tl35 : tySlice Tryz.prog 35 = none := by kernel_rfl
theorem ti35 : tyInt Tryz.prog 35 = none := by kernel_rfl
theorem tt35 : tyString Tryz.prog 35 = false := by kernel_rfl
theorem tq35 : tyBool Tryz.prog 35 = false := by kernel_rfl
theorem tn35 : tyNil Tryz.prog 35 = some .ptr := by kernel_rfl
theorem tp35 : tyPlaces Tryz.prog 35 = none := by kernel_rfl
theorem tu35 : Tryz.prog.underlying 35 = some (.pointer 75) := by kernel_rfl
theorem ts36 : tySize Tryz.prog 36 = some 1 := by kernel_rfl
theorem tb36 : tyBytes Tryz.prog 36 = some 8 := by kernel_rfl
theorem tg36 : tyAgg Tryz.prog 36 = some false := by kernel_rfl
theorem tz36 : tyZero Tryz.prog 36 = some (.lit (.int .i64 0)) := by kernel_rfl
theorem ta36 : tyArray Tryz.prog 36 = none := by kernel_rfl
theorem tl36 : tySlice Tryz.prog 36 = none := by kernel_rfl
theorem ti36 : tyInt Tryz.prog 36 = some .i64 := by kernel_rfl
theorem tt36 : tyString Tryz.prog 36 = false := by kernel_rfl
theorem tq36 : tyBool Tryz.prog 36 = false := by kernel_rfl
theorem tn36 : tyNil Tryz.prog 36 = none := by kernel_rfl
theorem tp36 : tyPlaces Tryz.prog 36 = none := by kernel_rfl
theorem tu36 : Tryz.prog.underlying 36 = some (.int .i64) := by kernel_rfl
theorem ts42 : tySize Tryz.prog 42 = some 1 := by kernel_rfl
theorem tb42 : tyBytes Tryz.prog 42 = some 24 := by kernel_rfl
theorem tg42 : tyAgg Tryz.prog 42 = some false := by kernel_rfl
theorem tz42 : tyZero Tryz.prog 42 = some (.lit (.slice none 0 0)) := by kernel_rfl
theorem ta42 : tyArray Tryz.prog 42 = none := by kernel_rfl
theorem tl42 : tySlice Tryz.prog 42 = some 9 := by kernel_rfl
theorem ti42 : tyInt Tryz.prog 42 = none := by kernel_rfl
theorem tt42 : tyString Tryz.prog 42 = false := by kernel_rfl
theorem tq42 : tyBool Tryz.prog 42 = false := by kernel_rfl
theorem tn42 : tyNil Tryz.prog 42 = some .slice := by kernel_rfl
theorem tp42 : tyPlaces Tryz.prog 42 = none := by kernel_rfl
theorem tu42 : Tryz.prog.underlying 42 = some (.slice 9) := by kernel_rfl
theorem ts43 : tySize Tryz.prog 43 = some 1 := by kernel_rfl
theorem tb43 : tyBytes Tryz.prog 43 = some 4 := by kernel_rfl
theorem tg43 : tyAgg Tryz.prog 43 = some false := by kernel_rfl
theorem tz43 : tyZero Tryz.prog 43 = some (.lit (.int .u32 0)) := by kernel_rfl
theorem ta43 : tyArray Tryz.prog 43 = none := by kernel_rfl
theorem tl43 : tySlice Tryz.prog 43 = none := by kernel_rfl
theorem ti43 : tyInt Tryz.prog 43 = some .u32 := by kernel_rfl
theorem tt43 : tyString Tryz.prog 43 = false := by kernel_rfl
theorem tq43 : tyBool Tryz.prog 43 = false := by kernel_rfl
theorem tn43 : tyNil Tryz.prog 43 = none := by kernel_rfl
theorem tp43 : tyPlaces Tryz.prog 43 = none := by kernel_rfl
theorem tu43 : Tryz.prog.underlying 43 = some (.int .u32) := by kernel_rfl
theorem ts45 : tySize Tryz.prog 45 = some 2 := by kernel_rfl
theorem tb45 : tyBytes Tryz.prog 45 = some 16 := by kernel_rfl
theorem tg45 : tyAgg Tryz.prog 45 = some true := by kernel_rfl
theorem tz45 : tyZero Tryz.prog 45 = some (.agg [.lit (.int .i64 0), .lit (.int .u32 0)]) := by kernel_rfl
theorem ta45 : tyArray Tryz.prog 45 = none := by kernel_rfl
theorem tl45 : tySlice Tryz.prog 45 = none := by kernel_rfl
theorem ti45 : tyInt Tryz.prog 45 = none := by kernel_rfl
theorem tt45 : tyString Tryz.prog 45 = false := by kernel_rfl
theorem tq45 : tyBool Tryz.prog 45 = false := by kernel_rfl
theorem tn45 : tyNil Tryz.prog 45 = none := by kernel_rfl
theorem tf45_0 : tyField Tryz.prog 45 0 = some (0, 3) := by kernel_rfl
theorem tf45_1 : tyField Tryz.prog 45 1 = some (1, 43) := by kernel_rfl
theorem tp45 : tyPlaces Tryz.prog 45 = some [(0, 1), (1, 1)] := by kernel_rfl
theorem tv45 : leaves Tryz.prog 20 45 = some [.int, .int] := by kernel_rfl
theorem te45 : Tryz.prog.eqGuardType Tryz.prog.depth 45 = false := by kernel_rfl
theorem ts48 : tySize Tryz.prog 48 = some 1 := by kernel_rfl
theorem tb48 : tyBytes Tryz.prog 48 = some 8 := by kernel_rfl
theorem tg48 : tyAgg Tryz.prog 48 = some false := by kernel_rfl
theorem tz48 : tyZero Tryz.prog 48 = some (.lit (.pointer none)) := by kernel_rfl
theorem ta48 : tyArray Tryz.prog 48 = none := by kernel_rfl
theorem tl48 : tySlice Tryz.prog 48 = none := by kernel_rfl
theorem ti48 : tyInt Tryz.prog 48 = none := by kernel_rfl
theorem tt48 : tyString Tryz.prog 48 = false := by kernel_rfl
theorem tq48 : tyBool Tryz.prog 48 = false := by kernel_rfl
theorem tn48 : tyNil Tryz.prog 48 = some .ptr := by kernel_rfl
theorem tp48 : tyPlaces Tryz.prog 48 = none := by kernel_rfl
theorem tu48 : Tryz.prog.underlying 48 = some (.pointer 93) := by kernel_rfl
theorem ts60 : tySize Tryz.prog 60 = some 1 := by kernel_rfl
theorem tb60 : tyBytes Tryz.prog 60 = some 24 := by kernel_rfl
theorem tg60 : tyAgg Tryz.prog 60 = some false := by kernel_rfl
theorem tz60 : tyZero Tryz.prog 60 = some (.lit (.slice none 0 0)) := by kernel_rfl
theorem ta60 : tyArray Tryz.prog 60 = none := by kernel_rfl
theorem tl60 : tySlice Tryz.prog 60 = some 26 := by kernel_rfl
theorem ti60 : tyInt Tryz.prog 60 = none := by kernel_rfl
theorem tt60 : tyString Tryz.prog 60 = false := by kernel_rfl
theorem tq60 : tyBool Tryz.prog 60 = false := by kernel_rfl
theorem tn60 : tyNil Tryz.prog 60 = some .slice := by kernel_rfl
theorem tp60 : tyPlaces Tryz.prog 60 = none := by kernel_rfl
theorem tu60 : Tryz.prog.underlying 60 = some (.slice 26) := by kernel_rfl
theorem ts63 : tySize Tryz.prog 63 = some 1 := by kernel_rfl
theorem tb63 : tyBytes Tryz.prog 63 = some 24 := by kernel_rfl
theorem tg63 : tyAgg Tryz.prog 63 = some false := by kernel_rfl
theorem tz63 : tyZero Tryz.prog 63 = some (.lit (.slice none 0 0)) := by kernel_rfl
theorem ta63 : tyArray Tryz.prog 63 = none := by kernel_rfl
theorem tl63 : tySlice Tryz.prog 63 = some 66 := by kernel_rfl
theorem ti63 : tyInt Tryz.prog 63 = none := by kernel_rfl
theorem tt63 : tyString Tryz.prog 63 = false := by kernel_rfl
theorem tq63 : tyBool Tryz.prog 63 = false := by kernel_rfl
theorem tn63 : tyNil Tryz.prog 63 = some .slice := by kernel_rfl
theorem tp63 : tyPlaces Tryz.prog 63 = none := by kernel_rfl
theorem tu63 : Tryz.prog.underlying 63 = some (.slice 66) := by kernel_rfl
theorem ts66 : tySize Tryz.prog 66 = some 2 := by kernel_rfl
theorem tb66 : tyBytes Tryz.prog 66 = some 16 := by kernel_rfl
theorem tg66 : tyAgg Tryz.prog 66 = some true := by kernel_rfl
theorem tz66 : tyZero Tryz.prog 66 = some (.agg [.lit (.int .i64 0), .lit (.int .i64 0)]) := by kernel_rfl
theorem ta66 : tyArray Tryz.prog 66 = none := by kernel_rfl
theorem tl66 : tySlice Tryz.prog 66 = none := by kernel_rfl
theorem ti66 : tyInt Tryz.prog 66 = none := by kernel_rfl
theorem tt66 : tyString Tryz.prog 66 = false := by kernel_rfl
theorem tq66 : tyBool Tryz.prog 66 = false := by kernel_rfl
theorem tn66 : tyNil Tryz.prog 66 = none := by kernel_rfl
theorem tf66_0 : tyField Tryz.prog 66 0 = some (0, 3) := by kernel_rfl
theorem tf66_1 : tyField Tryz.prog 66 1 = some (1, 3) := by kernel_rfl
theorem tp66 : tyPlaces Tryz.prog 66 = some [(0, 1), (1, 1)] := by kernel_rfl
theorem tv66 : leaves Tryz.prog 20 66 = some [.int, .int] := by kernel_rfl
theorem te66 : Tryz.prog.eqGuardType Tryz.prog.depth 66 = false := by kernel_rfl
theorem ts68 : tySize Tryz.prog 68 = some 1 := by kernel_rfl
theorem tb68 : tyBytes Tryz.prog 68 = some 24 := by kernel_rfl
theorem tg68 : tyAgg Tryz.prog 68 = some false := by kernel_rfl
theorem tz68 : tyZero Tryz.prog 68 = some (.lit (.slice none 0 0)) := by kernel_rfl
theorem ta68 : tyArray Tryz.prog 68 = none := by kernel_rfl
theorem tl68 : tySlice Tryz.prog 68 = some 71 := by kernel_rfl
theorem ti68 : tyInt Tryz.prog 68 = none := by kernel_rfl
theorem tt68 : tyString Tryz.prog 68 = false := by kernel_rfl
theorem tq68 : tyBool Tryz.prog 68 = false := by kernel_rfl
theorem tn68 : tyNil Tryz.prog 68 = some .slice := by kernel_rfl
theorem tp68 : tyPlaces Tryz.prog 68 = none := by kernel_rfl
theorem tu68 : Tryz.prog.underlying 68 = some (.slice 71) := by kernel_rfl
theorem ts71 : tySize Tryz.prog 71 = some 2 := by kernel_rfl
theorem tb71 : tyBytes Tryz.prog 71 = some 16 := by kernel_rfl
theorem tg71 : tyAgg Tryz.prog 71 = some true := by kernel_rfl
theorem tz71 : tyZero Tryz.prog 71 = some (.agg [.lit (.int .i64 0), .lit (.int .i64 0)]) := by kernel_rfl
theorem ta71 : tyArray Tryz.prog 71 = none := by kernel_rfl
theorem tl71 : tySlice Tryz.prog 71 = none := by kernel_rfl
theorem ti71 : tyInt Tryz.prog 71 = none := by kernel_rfl
theorem tt71 : tyString Tryz.prog 71 = false := by kernel_rfl
theorem tq71 : tyBool Tryz.prog 71 = false := by kernel_rfl
theorem tn71 : tyNil Tryz.prog 71 = none := by kernel_rfl
theorem tf71_0 : tyField Tryz.prog 71 0 = some (0, 3) := by kernel_rfl
theorem tf71_1 : tyField Tryz.prog 71 1 = some (1, 3) := by kernel_rfl
theorem tp71 : tyPlaces Tryz.prog 71 = some [(0, 1), (1, 1)] := by kernel_rfl
theorem tv71 : leaves Tryz.prog 20 71 = some [.int, .int] := by kernel_rfl
theorem te71 : Tryz.prog.eqGuardType Tryz.prog.depth 71 = false := by kernel_rfl
theorem ts73 : tySize Tryz.prog 73 = some 1 := by kernel_rfl
theorem tb73 : tyBytes Tryz.prog 73 = some 8 := by kernel_rfl
theorem tg73 : tyAgg Tryz.prog 73 = some false := by kernel_rfl
theorem tz73 : tyZero Tryz.prog 73 = some (.lit (.map none)) := by kernel_rfl
theorem ta73 : tyArray Tryz.prog 73 = none := by kernel_rfl
theorem tl73 : tySlice Tryz.prog 73 = none := by kernel_rfl
theorem ti73 : tyInt Tryz.prog 73 = none := by kernel_rfl
theorem tt73 : tyString Tryz.prog 73 = false := by kernel_rfl
theorem tq73 : tyBool Tryz.prog 73 = false := by kernel_rfl
theorem tn73 : tyNil Tryz.prog 73 = some .map := by kernel_rfl
theorem tp73 : tyPlaces Tryz.prog 73 = none := by kernel_rfl
theorem ts75 : tySize Tryz.prog 75 = some 7 := by kernel_rfl
theorem tb75 : tyBytes Tryz.prog 75 = some 56 := by kernel_rfl
theorem tg75 : tyAgg Tryz.prog 75 = some true := by kernel_rfl
theorem tz75 : tyZero Tryz.prog 75 = some (.agg [.lit (.bool false), .lit (.int .i64 0), .lit (.int .i64 0), .lit (.map none), .lit (.int .i64 0), .lit (.bool false), .lit (.int .i64 0)]) := by kernel_rfl
theorem ta75 : tyArray Tryz.prog 75 = none := by kernel_rfl
theorem tl75 : tySlice Tryz.prog 75 = none := by kernel_rfl
theorem ti75 : tyInt Tryz.prog 75 = none := by kernel_rfl
theorem tt75 : tyString Tryz.prog 75 = false := by kernel_rfl
theorem tq75 : tyBool Tryz.prog 75 = false := by kernel_rfl
theorem tn75 : tyNil Tryz.prog 75 = none := by kernel_rfl
theorem tf75_0 : tyField Tryz.prog 75 0 = some (0, 4) := by kernel_rfl
theorem tf75_1 : tyField Tryz.prog 75 1 = some (1, 3) := by kernel_rfl
theorem tf75_2 : tyField Tryz.prog 75 2 = some (2, 3) := by kernel_rfl
theorem tf75_3 : tyField Tryz.prog 75 3 = some (3, 73) := by kernel_rfl
theorem tf75_4 : tyField Tryz.prog 75 4 = some (4, 3) := by kernel_rfl
theorem tf75_5 : tyField Tryz.prog 75 5 = some (5, 4) := by kernel_rfl
theorem tf75_6 : tyField Tryz.prog 75 6 = some (6, 3) := by kernel_rfl
theorem tp75 : tyPlaces Tryz.prog 75 = some [(0, 1), (1, 1), (2, 1), (3, 1), (4, 1), (5, 1), (6, 1)] := by kernel_rfl
theorem ts77 : tySize Tryz.prog 77 = some 2 := by kernel_rfl
theorem tb77 : tyBytes Tryz.prog 77 = some 24 := by kernel_rfl
theorem tg77 : tyAgg Tryz.prog 77 = some true := by kernel_rfl
theorem tz77 : tyZero Tryz.prog 77 = some (.agg [.lit (.string { data := #[] }), .lit (.int .i64 0)]) := by kernel_rfl
theorem ta77 : tyArray Tryz.prog 77 = none := by kernel_rfl
theorem tl77 : tySlice Tryz.prog 77 = none := by kernel_rfl
theorem ti77 : tyInt Tryz.prog 77 = none := by kernel_rfl
theorem tt77 : tyString Tryz.prog 77 = false := by kernel_rfl
theorem tq77 : tyBool Tryz.prog 77 = false := by kernel_rfl
theorem tn77 : tyNil Tryz.prog 77 = none := by kernel_rfl
theorem tf77_0 : tyField Tryz.prog 77 0 = some (0, 9) := by kernel_rfl
theorem tf77_1 : tyField Tryz.prog 77 1 = some (1, 3) := by kernel_rfl
theorem tp77 : tyPlaces Tryz.prog 77 = some [(0, 1), (1, 1)] := by kernel_rfl
theorem tv77 : leaves Tryz.prog 20 77 = some [.str, .int] := by kernel_rfl
theorem te77 : Tryz.prog.eqGuardType Tryz.prog.depth 77 = false := by kernel_rfl
theorem ts82 : tySize Tryz.prog 82 = some 1 := by kernel_rfl
theorem tb82 : tyBytes Tryz.prog 82 = some 8 := by kernel_rfl
theorem tg82 : tyAgg Tryz.prog 82 = some false := by kernel_rfl
theorem tz82 : tyZero Tryz.prog 82 = some (.lit (.pointer none)) := by kernel_rfl
theorem ta82 : tyArray Tryz.prog 82 = none := by kernel_rfl
theorem tl82 : tySlice Tryz.prog 82 = none := by kernel_rfl
theorem ti82 : tyInt Tryz.prog 82 = none := by kernel_rfl
theorem tt82 : tyString Tryz.prog 82 = false := by kernel_rfl
theorem tq82 : tyBool Tryz.prog 82 = false := by kernel_rfl
theorem tn82 : tyNil Tryz.prog 82 = some .ptr := by kernel_rfl
theorem tp82 : tyPlaces Tryz.prog 82 = none := by kernel_rfl
theorem tu82 : Tryz.prog.underlying 82 = some (.pointer 84) := by kernel_rfl
theorem ts84 : tySize Tryz.prog 84 = some 6 := by kernel_rfl
theorem tb84 : tyBytes Tryz.prog 84 = some 56 := by kernel_rfl
theorem tg84 : tyAgg Tryz.prog 84 = some true := by kernel_rfl
theorem tz84 : tyZero Tryz.prog 84 = some (.agg [.lit (.pointer none), .lit (.pointer none), .lit (.string { data := #[] }), .lit (.int .i64 0), .lit (.bool false), .lit (.int .i64 0)]) := by kernel_rfl
theorem ta84 : tyArray Tryz.prog 84 = none := by kernel_rfl
theorem tl84 : tySlice Tryz.prog 84 = none := by kernel_rfl
theorem ti84 : tyInt Tryz.prog 84 = none := by kernel_rfl
theorem tt84 : tyString Tryz.prog 84 = false := by kernel_rfl
theorem tq84 : tyBool Tryz.prog 84 = false := by kernel_rfl
theorem tn84 : tyNil Tryz.prog 84 = none := by kernel_rfl
theorem tf84_0 : tyField Tryz.prog 84 0 = some (0, 35) := by kernel_rfl
theorem tf84_1 : tyField Tryz.prog 84 1 = some (1, 48) := by kernel_rfl
theorem tf84_2 : tyField Tryz.prog 84 2 = some (2, 9) := by kernel_rfl
theorem tf84_3 : tyField Tryz.prog 84 3 = some (3, 3) := by kernel_rfl
theorem tf84_4 : tyField Tryz.prog 84 4 = some (4, 4) := by kernel_rfl
theorem tf84_5 : tyField Tryz.prog 84 5 = some (5, 3) := by kernel_rfl
theorem tp84 : tyPlaces Tryz.prog 84 = some [(0, 1), (1, 1), (2, 1), (3, 1), (4, 1), (5, 1)] := by kernel_rfl
theorem ts93 : tySize Tryz.prog 93 = some 4 := by kernel_rfl
theorem tb93 : tyBytes Tryz.prog 93 = some 32 := by kernel_rfl
theorem tg93 : tyAgg Tryz.prog 93 = some true := by kernel_rfl
theorem tz93 : tyZero Tryz.prog 93 = some (.agg [.lit (.bool false), .lit (.int .i64 0), .lit (.int .i64 0), .lit (.int .i64 0)]) := by kernel_rfl
theorem ta93 : tyArray Tryz.prog 93 = none := by kernel_rfl
theorem tl93 : tySlice Tryz.prog 93 = none := by kernel_rfl
theorem ti93 : tyInt Tryz.prog 93 = none := by kernel_rfl
theorem tt93 : tyString Tryz.prog 93 = false := by kernel_rfl
theorem tq93 : tyBool Tryz.prog 93 = false := by kernel_rfl
theorem tn93 : tyNil Tryz.prog 93 = none := by kernel_rfl
theorem tf93_0 : tyField Tryz.prog 93 0 = some (0, 4) := by kernel_rfl
theorem tf93_1 : tyField Tryz.prog 93 1 = some (1, 3) := by kernel_rfl
theorem tf93_2 : tyField Tryz.prog 93 2 = some (2, 3) := by kernel_rfl
theorem tf93_3 : tyField Tryz.prog 93 3 = some (3, 3) := by kernel_rfl
theorem tp93 : tyPlaces Tryz.prog 93 = some [(0, 1), (1, 1), (2, 1), (3, 1)] := by kernel_rfl
theorem tv93 : leaves Tryz.prog 20 93 = some [.bool, .int, .int, .int] := by kernel_rfl
theorem te93 : Tryz.prog.eqGuardType Tryz.prog.depth 93 = false := by kernel_rfl
theorem ts96 : tySize Tryz.prog 96 = some 256 := by kernel_rfl
theorem tb96 : tyBytes Tryz.prog 96 = some 256 := by kernel_rfl
theorem tg96 : tyAgg Tryz.prog 96 = some true := by kernel_rfl
theorem tz96 : tyZero Tryz.prog 96 = some (.agg [.lit (.bool false), .lit (.bool false), .lit (.bool false), .lit (.bool false), .lit (.bool false), .lit (.bool false), .lit (.bool false), .lit (.bool false), .lit (.bool false), .lit (.bool false), .lit (.bool false), .lit (.bool false), .lit (.bool false), .lit (.bool false), .lit (.bool false), .lit (.bool false), .lit (.bool false), .lit (.bool false), .lit (.bool false), .lit (.bool false), .lit (.bool false), .lit (.bool false), .lit (.bool false), .lit (.bool false), .lit (.bool false), .lit (.bool false), .lit (.bool false), .lit (.bool false), .lit (.bool false), .lit (.bool false), .lit (.bool false), .lit (.bool false), .lit (.bool false), .lit (.bool false), .lit (.bool false), .lit (.bool false), .lit (.bool false), .lit (.bool false), .lit (.bool false), .lit (.bool false), .lit (.bool false), .lit (.bool false), .lit (.bool false), .lit (.bool false), .lit (.bool false), .lit (.bool false), .lit (.bool false), .lit (.bool false), .lit (.bool false), .lit (.bool false), .lit (.bool false), .lit (.bool false), .lit (.bool false), .lit (.bool false), .lit (.bool false), .lit (.bool false), .lit (.bool false), .lit (.bool false), .lit (.bool false), .lit (.bool false), .lit (.bool false), .lit (.bool false), .lit (.bool false), .lit (.bool false), .lit (.bool false), .lit (.bool false), .lit (.bool false), .lit (.bool false), .lit (.bool false), .lit (.bool false), .lit (.bool false), .lit (.bool false), .lit (.bool false), .lit (.bool false), .lit (.bool false), .lit (.bool false), .lit (.bool false), .lit (.bool false), .lit (.bool false), .lit (.bool false), .lit (.bool false), .lit (.bool false), .lit (.bool false), .lit (.bool false), .lit (.bool false), .lit (.bool false), .lit (.bool false), .lit (.bool false), .lit (.bool false), .lit (.bool false), .lit (.bool false), .lit (.bool false), .lit (.bool false), .lit (.bool false), .lit (.bool false), .lit (.bool false), .lit (.bool false), .lit (.bool false), .lit (.bool false), .lit (.bool false), .lit (.bool false), .lit (.bool false), .lit (.bool false), .lit (.bool false), .lit (.bool false), .lit (.bool false), .lit (.bool false), .lit (.bool false), .lit (.bool false), .lit (.bool false), .lit (.bool false), .lit (.bool false), .lit (.bool false), .lit (.bool false), .lit (.bool false), .lit (.bool false), .lit (.bool false), .lit (.bool false), .lit (.bool false), .lit (.bool false), .lit (.bool false), .lit (.bool false), .lit (.bool false), .lit (.bool false), .lit (.bool false), .lit (.bool false), .lit (.bool false), .lit (.bool false), .lit (.bool false), .lit (.bool false), .lit (.bool false), .lit (.bool false), .lit (.bool false), .lit (.bool false), .lit (.bool false), .lit (.bool false), .lit (.bool false), .lit (.bool false), .lit (.bool false), .lit (.bool false), .lit (.bool false), .lit (.bool false), .lit (.bool false), .lit (.bool false), .lit (.bool false), .lit (.bool false), .lit (.bool false), .lit (.bool false), .lit (.bool false), .lit (.bool false), .lit (.bool false), .lit (.bool false), .lit (.bool false), .lit (.bool false), .lit (.bool false), .lit (.bool false), .lit (.bool false), .lit (.bool false), .lit (.bool false), .lit (.bool false), .lit (.bool false), .lit (.bool false), .lit (.bool false), .lit (.bool false), .lit (.bool false), .lit (.bool false), .lit (.bool false), .lit (.bool false), .lit (.bool false), .lit (.bool false), .lit (.bool false), .lit (.bool false), .lit (.bool false), .lit (.bool false), .lit (.bool false), .lit (.bool false), .lit (.bool false), .lit (.bool false), .lit (.bool false), .lit (.bool false), .lit (.bool false), .lit (.bool false), .lit (.bool false), .lit (.bool false), .lit (.bool false), .lit (.bool false), .lit (.bool false), .lit (.bool false), .lit (.bool false), .lit (.bool false), .lit (.bool false), .lit (.bool false), .lit (.bool false), .lit (.bool false), .lit (.bool false), .lit (.bool false), .lit (.bool false), .lit (.bool false), .lit (.bool false), .lit (.bool false), .lit (.bool false), .lit (.bool false), .lit (.bool false), .lit (.bool false), .lit (.bool false), .lit (.bool false), .lit (.bool false), .lit (.bool false), .lit (.bool false), .lit (.bool false), .lit (.bool false), .lit (.bool false), .lit (.bool false), .lit (.bool false), .lit (.bool false), .lit (.bool false), .lit (.bool false), .lit (.bool false), .lit (.bool false), .lit (.bool false), .lit (.bool false), .lit (.bool false), .lit (.bool false), .lit (.bool false), .lit (.bool false), .lit (.bool false), .lit (.bool false), .lit (.bool false), .lit (.bool false), .lit (.bool false), .lit (.bool false), .lit (.bool false), .lit (.bool false), .lit (.bool false), .lit (.bool false), .lit (.bool false), .lit (.bool false), .lit (.bool false), .lit (.bool false), .lit (.bool false), .lit (.bool false), .lit (.bool false), .lit (.bool false), .lit (.bool false), .lit (.bool false), .lit (.bool false), .lit (.bool false), .lit (.bool false), .lit (.bool false), .lit (.bool false), .lit (.bool false), .lit (.bool false), .lit (.bool false), .lit (.bool false), .lit (.bool false), .lit (.bool false)]) := by kernel_rfl
theorem ta96 : tyArray Tryz.prog 96 = some (256, 4) := by kernel_rfl
theorem tl96 : tySlice Tryz.prog 96 = none := by kernel_rfl
theorem ti96 : tyInt Tryz.prog 96 = none := by kernel_rfl
theorem tt96 : tyString Tryz.prog 96 = false := by kernel_rfl
theorem tq96 : tyBool Tryz.prog 96 = false := by kernel_rfl
theorem tn96 : tyNil Tryz.prog 96 = none := by kernel_rfl
theorem tp96 : tyPlaces Tryz.prog 96 = none := by kernel_rfl
theorem tu96 : Tryz.prog.underlying 96 = some (.array 256 4) := by kernel_rfl
theorem ts100 : tySize Tryz.prog 100 = some 1 := by kernel_rfl
theorem tb100 : tyBytes Tryz.prog 100 = some 8 := by kernel_rfl
theorem tg100 : tyAgg Tryz.prog 100 = some false := by kernel_rfl
theorem tz100 : tyZero Tryz.prog 100 = some (.lit (.pointer none)) := by kernel_rfl
theorem ta100 : tyArray Tryz.prog 100 = none := by kernel_rfl
theorem tl100 : tySlice Tryz.prog 100 = none := by kernel_rfl
theorem ti100 : tyInt Tryz.prog 100 = none := by kernel_rfl
theorem tt100 : tyString Tryz.prog 100 = false := by kernel_rfl
theorem tq100 : tyBool Tryz.prog 100 = false := by kernel_rfl
theorem tn100 : tyNil Tryz.prog 100 = some .ptr := by kernel_rfl
theorem tp100 : tyPlaces Tryz.prog 100 = none := by kernel_rfl
theorem tu100 : Tryz.prog.underlying 100 = some (.pointer 96) := by kernel_rfl
theorem ts103 : tySize Tryz.prog 103 = some 4 := by kernel_rfl
theorem tb103 : tyBytes Tryz.prog 103 = some 32 := by kernel_rfl
theorem tg103 : tyAgg Tryz.prog 103 = some true := by kernel_rfl
theorem tz103 : tyZero Tryz.prog 103 = some (.agg [.lit (.int .i64 0), .lit (.int .i64 0), .lit (.int .i64 0), .lit (.bool false)]) := by kernel_rfl
theorem ta103 : tyArray Tryz.prog 103 = none := by kernel_rfl
theorem tl103 : tySlice Tryz.prog 103 = none := by kernel_rfl
theorem ti103 : tyInt Tryz.prog 103 = none := by kernel_rfl
theorem tt103 : tyString Tryz.prog 103 = false := by kernel_rfl
theorem tq103 : tyBool Tryz.prog 103 = false := by kernel_rfl
theorem tn103 : tyNil Tryz.prog 103 = none := by kernel_rfl
theorem tf103_0 : tyField Tryz.prog 103 0 = some (0, 3) := by kernel_rfl
theorem tf103_1 : tyField Tryz.prog 103 1 = some (1, 33) := by kernel_rfl
theorem tp103 : tyPlaces Tryz.prog 103 = some [(0, 1), (1, 3)] := by kernel_rfl
theorem tv103 : leaves Tryz.prog 20 103 = some [.int, .int, .int, .bool] := by kernel_rfl
theorem te103 : Tryz.prog.eqGuardType Tryz.prog.depth 103 = false := by kernel_rfl
theorem ts105 : tySize Tryz.prog 105 = some 1 := by kernel_rfl
theorem tb105 : tyBytes Tryz.prog 105 = some 8 := by kernel_rfl
theorem tg105 : tyAgg Tryz.prog 105 = some false := by kernel_rfl
theorem tz105 : tyZero Tryz.prog 105 = some (.lit (.pointer none)) := by kernel_rfl
theorem ta105 : tyArray Tryz.prog 105 = none := by kernel_rfl
theorem tl105 : tySlice Tryz.prog 105 = none := by kernel_rfl
theorem ti105 : tyInt Tryz.prog 105 = none := by kernel_rfl
theorem tt105 : tyString Tryz.prog 105 = false := by kernel_rfl
theorem tq105 : tyBool Tryz.prog 105 = false := by kernel_rfl
theorem tn105 : tyNil Tryz.prog 105 = some .ptr := by kernel_rfl
theorem tp105 : tyPlaces Tryz.prog 105 = none := by kernel_rfl
theorem tu105 : Tryz.prog.underlying 105 = some (.pointer 108) := by kernel_rfl
theorem ts106 : tySize Tryz.prog 106 = some 1 := by kernel_rfl
theorem tb106 : tyBytes Tryz.prog 106 = some 8 := by kernel_rfl
theorem tg106 : tyAgg Tryz.prog 106 = some false := by kernel_rfl
theorem tz106 : tyZero Tryz.prog 106 = some (.lit (.pointer none)) := by kernel_rfl
theorem ta106 : tyArray Tryz.prog 106 = none := by kernel_rfl
theorem tl106 : tySlice Tryz.prog 106 = none := by kernel_rfl
theorem ti106 : tyInt Tryz.prog 106 = none := by kernel_rfl
theorem tt106 : tyString Tryz.prog 106 = false := by kernel_rfl
theorem tq106 : tyBool Tryz.prog 106 = false := by kernel_rfl
theorem tn106 : tyNil Tryz.prog 106 = some .ptr := by kernel_rfl
theorem tp106 : tyPlaces Tryz.prog 106 = none := by kernel_rfl
theorem tu106 : Tryz.prog.underlying 106 = some (.pointer 172) := by kernel_rfl
theorem ts108 : tySize Tryz.prog 108 = some 8 := by kernel_rfl
theorem tb108 : tyBytes Tryz.prog 108 = some 80 := by kernel_rfl
theorem tg108 : tyAgg Tryz.prog 108 = some true := by kernel_rfl
theorem tz108 : tyZero Tryz.prog 108 = some (.agg [.lit (.pointer none), .lit (.int .i64 0), .lit (.int .i64 0), .lit (.int .i64 0), .lit (.int .i64 0), .lit (.int .i64 0), .lit (.bool false), .lit (.slice none 0 0)]) := by kernel_rfl
theorem ta108 : tyArray Tryz.prog 108 = none := by kernel_rfl
theorem tl108 : tySlice Tryz.prog 108 = none := by kernel_rfl
theorem ti108 : tyInt Tryz.prog 108 = none := by kernel_rfl
theorem tt108 : tyString Tryz.prog 108 = false := by kernel_rfl
theorem tq108 : tyBool Tryz.prog 108 = false := by kernel_rfl
theorem tn108 : tyNil Tryz.prog 108 = none := by kernel_rfl
theorem tf108_0 : tyField Tryz.prog 108 0 = some (0, 106) := by kernel_rfl
theorem tf108_1 : tyField Tryz.prog 108 1 = some (1, 3) := by kernel_rfl
theorem tf108_2 : tyField Tryz.prog 108 2 = some (2, 3) := by kernel_rfl
theorem tf108_3 : tyField Tryz.prog 108 3 = some (3, 3) := by kernel_rfl
theorem tf108_4 : tyField Tryz.prog 108 4 = some (4, 3) := by kernel_rfl
theorem tf108_5 : tyField Tryz.prog 108 5 = some (5, 3) := by kernel_rfl
theorem tf108_6 : tyField Tryz.prog 108 6 = some (6, 4) := by kernel_rfl
theorem tf108_7 : tyField Tryz.prog 108 7 = some (7, 26) := by kernel_rfl
theorem tp108 : tyPlaces Tryz.prog 108 = some [(0, 1), (1, 1), (2, 1), (3, 1), (4, 1), (5, 1), (6, 1), (7, 1)] := by kernel_rfl
theorem ts110 : tySize Tryz.prog 110 = some 1 := by kernel_rfl
theorem tb110 : tyBytes Tryz.prog 110 = some 8 := by kernel_rfl
theorem tg110 : tyAgg Tryz.prog 110 = some false := by kernel_rfl
theorem tz110 : tyZero Tryz.prog 110 = some (.lit (.int .u64 0)) := by kernel_rfl
theorem ta110 : tyArray Tryz.prog 110 = none := by kernel_rfl
theorem tl110 : tySlice Tryz.prog 110 = none := by kernel_rfl
theorem ti110 : tyInt Tryz.prog 110 = some .u64 := by kernel_rfl
theorem tt110 : tyString Tryz.prog 110 = false := by kernel_rfl
theorem tq110 : tyBool Tryz.prog 110 = false := by kernel_rfl
theorem tn110 : tyNil Tryz.prog 110 = none := by kernel_rfl
theorem tp110 : tyPlaces Tryz.prog 110 = none := by kernel_rfl
theorem tu110 : Tryz.prog.underlying 110 = some (.int .u64) := by kernel_rfl
theorem ts112 : tySize Tryz.prog 112 = some 1 := by kernel_rfl
theorem tb112 : tyBytes Tryz.prog 112 = some 8 := by kernel_rfl
theorem tg112 : tyAgg Tryz.prog 112 = some false := by kernel_rfl
theorem tz112 : tyZero Tryz.prog 112 = some (.lit (.int .u64 0)) := by kernel_rfl
theorem ta112 : tyArray Tryz.prog 112 = none := by kernel_rfl
theorem tl112 : tySlice Tryz.prog 112 = none := by kernel_rfl
theorem ti112 : tyInt Tryz.prog 112 = some .u64 := by kernel_rfl
theorem tt112 : tyString Tryz.prog 112 = false := by kernel_rfl
theorem tq112 : tyBool Tryz.prog 112 = false := by kernel_rfl
theorem tn112 : tyNil Tryz.prog 112 = none := by kernel_rfl
theorem tp112 : tyPlaces Tryz.prog 112 = none := by kernel_rfl
theorem tu112 : Tryz.prog.underlying 112 = some (.int .u64) := by kernel_rfl
theorem ts114 : tySize Tryz.prog 114 = some 1 := by kernel_rfl
theorem tb114 : tyBytes Tryz.prog 114 = some 8 := by kernel_rfl
theorem tg114 : tyAgg Tryz.prog 114 = some false := by kernel_rfl
theorem tz114 : tyZero Tryz.prog 114 = some (.lit (.nilFunc)) := by kernel_rfl
theorem ta114 : tyArray Tryz.prog 114 = none := by kernel_rfl
theorem tl114 : tySlice Tryz.prog 114 = none := by kernel_rfl
theorem ti114 : tyInt Tryz.prog 114 = none := by kernel_rfl
theorem tt114 : tyString Tryz.prog 114 = false := by kernel_rfl
theorem tq114 : tyBool Tryz.prog 114 = false := by kernel_rfl
theorem tn114 : tyNil Tryz.prog 114 = some .func := by kernel_rfl
theorem tp114 : tyPlaces Tryz.prog 114 = none := by kernel_rfl
theorem ts115 : tySize Tryz.prog 115 = some 1 := by kernel_rfl
theorem tb115 : tyBytes Tryz.prog 115 = some 24 := by kernel_rfl
theorem tg115 : tyAgg Tryz.prog 115 = some false := by kernel_rfl
theorem tz115 : tyZero Tryz.prog 115 = some (.lit (.slice none 0 0)) := by kernel_rfl
theorem ta115 : tyArray Tryz.prog 115 = none := by kernel_rfl
theorem tl115 : tySlice Tryz.prog 115 = some 4 := by kernel_rfl
theorem ti115 : tyInt Tryz.prog 115 = none := by kernel_rfl
theorem tt115 : tyString Tryz.prog 115 = false := by kernel_rfl
theorem tq115 : tyBool Tryz.prog 115 = false := by kernel_rfl
theorem tn115 : tyNil Tryz.prog 115 = some .slice := by kernel_rfl
theorem tp115 : tyPlaces Tryz.prog 115 = none := by kernel_rfl
theorem tu115 : Tryz.prog.underlying 115 = some (.slice 4) := by kernel_rfl
theorem ts117 : tySize Tryz.prog 117 = some 1 := by kernel_rfl
theorem tb117 : tyBytes Tryz.prog 117 = some 8 := by kernel_rfl
theorem tg117 : tyAgg Tryz.prog 117 = some false := by kernel_rfl
theorem tz117 : tyZero Tryz.prog 117 = some (.lit (.nilFunc)) := by kernel_rfl
theorem ta117 : tyArray Tryz.prog 117 = none := by kernel_rfl
theorem tl117 : tySlice Tryz.prog 117 = none := by kernel_rfl
theorem ti117 : tyInt Tryz.prog 117 = none := by kernel_rfl
theorem tt117 : tyString Tryz.prog 117 = false := by kernel_rfl
theorem tq117 : tyBool Tryz.prog 117 = false := by kernel_rfl
theorem tn117 : tyNil Tryz.prog 117 = some .func := by kernel_rfl
theorem tp117 : tyPlaces Tryz.prog 117 = none := by kernel_rfl
theorem ts125 : tySize Tryz.prog 125 = some 1 := by kernel_rfl
theorem tb125 : tyBytes Tryz.prog 125 = some 8 := by kernel_rfl
theorem tg125 : tyAgg Tryz.prog 125 = some false := by kernel_rfl
theorem tz125 : tyZero Tryz.prog 125 = some (.lit (.pointer none)) := by kernel_rfl
theorem ta125 : tyArray Tryz.prog 125 = none := by kernel_rfl
theorem tl125 : tySlice Tryz.prog 125 = none := by kernel_rfl
theorem ti125 : tyInt Tryz.prog 125 = none := by kernel_rfl
theorem tt125 : tyString Tryz.prog 125 = false := by kernel_rfl
theorem tq125 : tyBool Tryz.prog 125 = false := by kernel_rfl
theorem tn125 : tyNil Tryz.prog 125 = some .ptr := by kernel_rfl
theorem tp125 : tyPlaces Tryz.prog 125 = none := by kernel_rfl
theorem tu125 : Tryz.prog.underlying 125 = some (.pointer 163) := by kernel_rfl
theorem ts128 : tySize Tryz.prog 128 = some 1 := by kernel_rfl
theorem tb128 : tyBytes Tryz.prog 128 = some 8 := by kernel_rfl
theorem tg128 : tyAgg Tryz.prog 128 = some false := by kernel_rfl
theorem tz128 : tyZero Tryz.prog 128 = some (.lit (.pointer none)) := by kernel_rfl
theorem ta128 : tyArray Tryz.prog 128 = none := by kernel_rfl
theorem tl128 : tySlice Tryz.prog 128 = none := by kernel_rfl
theorem ti128 : tyInt Tryz.prog 128 = none := by kernel_rfl
theorem tt128 : tyString Tryz.prog 128 = false := by kernel_rfl
theorem tq128 : tyBool Tryz.prog 128 = false := by kernel_rfl
theorem tn128 : tyNil Tryz.prog 128 = some .ptr := by kernel_rfl
theorem tp128 : tyPlaces Tryz.prog 128 = none := by kernel_rfl
theorem tu128 : Tryz.prog.underlying 128 = some (.pointer 130) := by kernel_rfl
theorem ts130 : tySize Tryz.prog 130 = some 6 := by kernel_rfl
theorem tb130 : tyBytes Tryz.prog 130 = some 56 := by kernel_rfl
theorem tg130 : tyAgg Tryz.prog 130 = some true := by kernel_rfl
theorem tz130 : tyZero Tryz.prog 130 = some (.agg [.lit (.pointer none), .lit (.pointer none), .lit (.string { data := #[] }), .lit (.int .i64 0), .lit (.bool false), .lit (.int .i64 0)]) := by kernel_rfl
theorem ta130 : tyArray Tryz.prog 130 = none := by kernel_rfl
theorem tl130 : tySlice Tryz.prog 130 = none := by kernel_rfl
theorem ti130 : tyInt Tryz.prog 130 = none := by kernel_rfl
theorem tt130 : tyString Tryz.prog 130 = false := by kernel_rfl
theorem tq130 : tyBool Tryz.prog 130 = false := by kernel_rfl
theorem tn130 : tyNil Tryz.prog 130 = none := by kernel_rfl
theorem tf130_0 : tyField Tryz.prog 130 0 = some (0, 35) := by kernel_rfl
theorem tf130_1 : tyField Tryz.prog 130 1 = some (1, 48) := by kernel_rfl
theorem tf130_2 : tyField Tryz.prog 130 2 = some (2, 9) := by kernel_rfl
theorem tf130_3 : tyField Tryz.prog 130 3 = some (3, 3) := by kernel_rfl
theorem tf130_4 : tyField Tryz.prog 130 4 = some (4, 4) := by kernel_rfl
theorem tf130_5 : tyField Tryz.prog 130 5 = some (5, 3) := by kernel_rfl
theorem tp130 : tyPlaces Tryz.prog 130 = some [(0, 1), (1, 1), (2, 1), (3, 1), (4, 1), (5, 1)] := by kernel_rfl
theorem ts157 : tySize Tryz.prog 157 = some 1 := by kernel_rfl
theorem tb157 : tyBytes Tryz.prog 157 = some 24 := by kernel_rfl
theorem tg157 : tyAgg Tryz.prog 157 = some false := by kernel_rfl
theorem tz157 : tyZero Tryz.prog 157 = some (.lit (.slice none 0 0)) := by kernel_rfl
theorem ta157 : tyArray Tryz.prog 157 = none := by kernel_rfl
theorem tl157 : tySlice Tryz.prog 157 = some 5 := by kernel_rfl
theorem ti157 : tyInt Tryz.prog 157 = none := by kernel_rfl
theorem tt157 : tyString Tryz.prog 157 = false := by kernel_rfl
theorem tq157 : tyBool Tryz.prog 157 = false := by kernel_rfl
theorem tn157 : tyNil Tryz.prog 157 = some .slice := by kernel_rfl
theorem tp157 : tyPlaces Tryz.prog 157 = none := by kernel_rfl
theorem tu157 : Tryz.prog.underlying 157 = some (.slice 5) := by kernel_rfl
theorem ts161 : tySize Tryz.prog 161 = some 4 := by kernel_rfl
theorem tb161 : tyBytes Tryz.prog 161 = some 40 := by kernel_rfl
theorem tg161 : tyAgg Tryz.prog 161 = some true := by kernel_rfl
theorem tz161 : tyZero Tryz.prog 161 = some (.agg [.lit (.pointer none), .lit (.string { data := #[] }), .lit (.int .i64 0), .lit (.int .i64 0)]) := by kernel_rfl
theorem ta161 : tyArray Tryz.prog 161 = none := by kernel_rfl
theorem tl161 : tySlice Tryz.prog 161 = none := by kernel_rfl
theorem ti161 : tyInt Tryz.prog 161 = none := by kernel_rfl
theorem tt161 : tyString Tryz.prog 161 = false := by kernel_rfl
theorem tq161 : tyBool Tryz.prog 161 = false := by kernel_rfl
theorem tn161 : tyNil Tryz.prog 161 = none := by kernel_rfl
theorem tf161_0 : tyField Tryz.prog 161 0 = some (0, 35) := by kernel_rfl
theorem tf161_1 : tyField Tryz.prog 161 1 = some (1, 9) := by kernel_rfl
theorem tf161_2 : tyField Tryz.prog 161 2 = some (2, 3) := by kernel_rfl
theorem tf161_3 : tyField Tryz.prog 161 3 = some (3, 3) := by kernel_rfl
theorem tp161 : tyPlaces Tryz.prog 161 = some [(0, 1), (1, 1), (2, 1), (3, 1)] := by kernel_rfl
theorem ts163 : tySize Tryz.prog 163 = some 14 := by kernel_rfl
theorem tb163 : tyBytes Tryz.prog 163 = some 112 := by kernel_rfl
theorem tg163 : tyAgg Tryz.prog 163 = some true := by kernel_rfl
theorem tz163 : tyZero Tryz.prog 163 = some (.agg [.lit (.pointer none), .lit (.string { data := #[] }), .lit (.int .i64 0), .lit (.int .i64 0), .lit (.pointer none), .lit (.int .i64 0), .lit (.slice none 0 0), .lit (.int .i64 0), .lit (.int .u32 0), .lit (.int .i64 0), .lit (.bool false), .lit (.bool false), .lit (.bool false), .lit (.bool false)]) := by kernel_rfl
theorem ta163 : tyArray Tryz.prog 163 = none := by kernel_rfl
theorem tl163 : tySlice Tryz.prog 163 = none := by kernel_rfl
theorem ti163 : tyInt Tryz.prog 163 = none := by kernel_rfl
theorem tt163 : tyString Tryz.prog 163 = false := by kernel_rfl
theorem tq163 : tyBool Tryz.prog 163 = false := by kernel_rfl
theorem tn163 : tyNil Tryz.prog 163 = none := by kernel_rfl
theorem tf163_0 : tyField Tryz.prog 163 0 = some (0, 161) := by kernel_rfl
theorem tf163_1 : tyField Tryz.prog 163 1 = some (4, 48) := by kernel_rfl
theorem tf163_2 : tyField Tryz.prog 163 2 = some (5, 3) := by kernel_rfl
theorem tf163_3 : tyField Tryz.prog 163 3 = some (6, 42) := by kernel_rfl
theorem tf163_4 : tyField Tryz.prog 163 4 = some (7, 45) := by kernel_rfl
theorem tf163_5 : tyField Tryz.prog 163 5 = some (9, 3) := by kernel_rfl
theorem tf163_6 : tyField Tryz.prog 163 6 = some (10, 4) := by kernel_rfl
theorem tf163_7 : tyField Tryz.prog 163 7 = some (11, 4) := by kernel_rfl
theorem tf163_8 : tyField Tryz.prog 163 8 = some (12, 4) := by kernel_rfl
theorem tf163_9 : tyField Tryz.prog 163 9 = some (13, 4) := by kernel_rfl
theorem tp163 : tyPlaces Tryz.prog 163 = some [(0, 4), (4, 1), (5, 1), (6, 1), (7, 2), (9, 1), (10, 1), (11, 1), (12, 1), (13, 1)] := by kernel_rfl
theorem ts164 : tySize Tryz.prog 164 = some 1 := by kernel_rfl
theorem tb164 : tyBytes Tryz.prog 164 = some 8 := by kernel_rfl
theorem tg164 : tyAgg Tryz.prog 164 = some false := by kernel_rfl
theorem tz164 : tyZero Tryz.prog 164 = some (.lit (.nilFunc)) := by kernel_rfl
theorem ta164 : tyArray Tryz.prog 164 = none := by kernel_rfl
theorem tl164 : tySlice Tryz.prog 164 = none := by kernel_rfl
theorem ti164 : tyInt Tryz.prog 164 = none := by kernel_rfl
theorem tt164 : tyString Tryz.prog 164 = false := by kernel_rfl
theorem tq164 : tyBool Tryz.prog 164 = false := by kernel_rfl
theorem tn164 : tyNil Tryz.prog 164 = some .func := by kernel_rfl
theorem tp164 : tyPlaces Tryz.prog 164 = none := by kernel_rfl
theorem ts170 : tySize Tryz.prog 170 = some 2 := by kernel_rfl
theorem tb170 : tyBytes Tryz.prog 170 = some 24 := by kernel_rfl
theorem tg170 : tyAgg Tryz.prog 170 = some true := by kernel_rfl
theorem tz170 : tyZero Tryz.prog 170 = some (.agg [.lit (.pointer none), .lit (.string { data := #[] })]) := by kernel_rfl
theorem ta170 : tyArray Tryz.prog 170 = none := by kernel_rfl
theorem tl170 : tySlice Tryz.prog 170 = none := by kernel_rfl
theorem ti170 : tyInt Tryz.prog 170 = none := by kernel_rfl
theorem tt170 : tyString Tryz.prog 170 = false := by kernel_rfl
theorem tq170 : tyBool Tryz.prog 170 = false := by kernel_rfl
theorem tn170 : tyNil Tryz.prog 170 = none := by kernel_rfl
theorem tf170_0 : tyField Tryz.prog 170 0 = some (0, 35) := by kernel_rfl
theorem tf170_1 : tyField Tryz.prog 170 1 = some (1, 9) := by kernel_rfl
theorem tp170 : tyPlaces Tryz.prog 170 = some [(0, 1), (1, 1)] := by kernel_rfl
theorem ts172 : tySize Tryz.prog 172 = some 8 := by kernel_rfl
theorem tb172 : tyBytes Tryz.prog 172 = some 88 := by kernel_rfl
theorem tg172 : tyAgg Tryz.prog 172 = some true := by kernel_rfl
theorem tz172 : tyZero Tryz.prog 172 = some (.agg [.lit (.pointer none), .lit (.string { data := #[] }), .lit (.pointer none), .lit (.int .i64 0), .lit (.slice none 0 0), .lit (.int .i64 0), .lit (.int .u32 0), .lit (.bool false)]) := by kernel_rfl
theorem ta172 : tyArray Tryz.prog 172 = none := by kernel_rfl
theorem tl172 : tySlice Tryz.prog 172 = none := by kernel_rfl
theorem ti172 : tyInt Tryz.prog 172 = none := by kernel_rfl
theorem tt172 : tyString Tryz.prog 172 = false := by kernel_rfl
theorem tq172 : tyBool Tryz.prog 172 = false := by kernel_rfl
theorem tn172 : tyNil Tryz.prog 172 = none := by kernel_rfl
theorem tf172_0 : tyField Tryz.prog 172 0 = some (0, 170) := by kernel_rfl
theorem tf172_1 : tyField Tryz.prog 172 1 = some (2, 48) := by kernel_rfl
theorem tf172_2 : tyField Tryz.prog 172 2 = some (3, 3) := by kernel_rfl
theorem tf172_3 : tyField Tryz.prog 172 3 = some (4, 42) := by kernel_rfl
theorem tf172_4 : tyField Tryz.prog 172 4 = some (5, 45) := by kernel_rfl
theorem tf172_5 : tyField Tryz.prog 172 5 = some (7, 4) := by kernel_rfl
theorem tp172 : tyPlaces Tryz.prog 172 = some [(0, 2), (2, 1), (3, 1), (4, 1), (5, 2), (7, 1)] := by kernel_rfl
theorem ts174 : tySize Tryz.prog 174 = some 1 := by kernel_rfl
theorem tb174 : tyBytes Tryz.prog 174 = some 24 := by kernel_rfl
theorem tg174 : tyAgg Tryz.prog 174 = some false := by kernel_rfl
theorem tz174 : tyZero Tryz.prog 174 = some (.lit (.slice none 0 0)) := by kernel_rfl
theorem ta174 : tyArray Tryz.prog 174 = none := by kernel_rfl
theorem tl174 : tySlice Tryz.prog 174 = some 164 := by kernel_rfl
theorem ti174 : tyInt Tryz.prog 174 = none := by kernel_rfl
theorem tt174 : tyString Tryz.prog 174 = false := by kernel_rfl
theorem tq174 : tyBool Tryz.prog 174 = false := by kernel_rfl
theorem tn174 : tyNil Tryz.prog 174 = some .slice := by kernel_rfl
theorem tp174 : tyPlaces Tryz.prog 174 = none := by kernel_rfl
theorem tu174 : Tryz.prog.underlying 174 = some (.slice 164) := by kernel_rfl
theorem ts176 : tySize Tryz.prog 176 = some 1 := by kernel_rfl
theorem tb176 : tyBytes Tryz.prog 176 = some 8 := by kernel_rfl
theorem tg176 : tyAgg Tryz.prog 176 = some false := by kernel_rfl
theorem tz176 : tyZero Tryz.prog 176 = some (.lit (.pointer none)) := by kernel_rfl
theorem ta176 : tyArray Tryz.prog 176 = none := by kernel_rfl
theorem tl176 : tySlice Tryz.prog 176 = none := by kernel_rfl
theorem ti176 : tyInt Tryz.prog 176 = none := by kernel_rfl
theorem tt176 : tyString Tryz.prog 176 = false := by kernel_rfl
theorem tq176 : tyBool Tryz.prog 176 = false := by kernel_rfl
theorem tn176 : tyNil Tryz.prog 176 = some .ptr := by kernel_rfl
theorem tp176 : tyPlaces Tryz.prog 176 = none := by kernel_rfl
theorem tu176 : Tryz.prog.underlying 176 = some (.pointer 179) := by kernel_rfl
theorem ts177 : tySize Tryz.prog 177 = some 1 := by kernel_rfl
theorem tb177 : tyBytes Tryz.prog 177 = some 24 := by kernel_rfl
theorem tg177 : tyAgg Tryz.prog 177 = some false := by kernel_rfl
theorem tz177 : tyZero Tryz.prog 177 = some (.lit (.slice none 0 0)) := by kernel_rfl
theorem ta177 : tyArray Tryz.prog 177 = none := by kernel_rfl
theorem tl177 : tySlice Tryz.prog 177 = some 125 := by kernel_rfl
theorem ti177 : tyInt Tryz.prog 177 = none := by kernel_rfl
theorem tt177 : tyString Tryz.prog 177 = false := by kernel_rfl
theorem tq177 : tyBool Tryz.prog 177 = false := by kernel_rfl
theorem tn177 : tyNil Tryz.prog 177 = some .slice := by kernel_rfl
theorem tp177 : tyPlaces Tryz.prog 177 = none := by kernel_rfl
theorem tu177 : Tryz.prog.underlying 177 = some (.slice 125) := by kernel_rfl
theorem ts179 : tySize Tryz.prog 179 = some 7 := by kernel_rfl
theorem tb179 : tyBytes Tryz.prog 179 = some 112 := by kernel_rfl
theorem tg179 : tyAgg Tryz.prog 179 = some true := by kernel_rfl
theorem tz179 : tyZero Tryz.prog 179 = some (.agg [.lit (.slice none 0 0), .lit (.slice none 0 0), .lit (.slice none 0 0), .lit (.pointer none), .lit (.bool false), .lit (.string { data := #[] }), .lit (.bool false)]) := by kernel_rfl
theorem ta179 : tyArray Tryz.prog 179 = none := by kernel_rfl
theorem tl179 : tySlice Tryz.prog 179 = none := by kernel_rfl
theorem ti179 : tyInt Tryz.prog 179 = none := by kernel_rfl
theorem tt179 : tyString Tryz.prog 179 = false := by kernel_rfl
theorem tq179 : tyBool Tryz.prog 179 = false := by kernel_rfl
theorem tn179 : tyNil Tryz.prog 179 = none := by kernel_rfl
theorem tf179_0 : tyField Tryz.prog 179 0 = some (0, 177) := by kernel_rfl
theorem tf179_1 : tyField Tryz.prog 179 1 = some (1, 42) := by kernel_rfl
theorem tf179_2 : tyField Tryz.prog 179 2 = some (2, 115) := by kernel_rfl
theorem tf179_3 : tyField Tryz.prog 179 3 = some (3, 106) := by kernel_rfl
theorem tf179_4 : tyField Tryz.prog 179 4 = some (4, 4) := by kernel_rfl
theorem tf179_5 : tyField Tryz.prog 179 5 = some (5, 9) := by kernel_rfl
theorem tf179_6 : tyField Tryz.prog 179 6 = some (6, 4) := by kernel_rfl
theorem tp179 : tyPlaces Tryz.prog 179 = some [(0, 1), (1, 1), (2, 1), (3, 1), (4, 1), (5, 1), (6, 1)] := by kernel_rfl
theorem ts181 : tySize Tryz.prog 181 = some 1 := by kernel_rfl
theorem tb181 : tyBytes Tryz.prog 181 = some 8 := by kernel_rfl
theorem tg181 : tyAgg Tryz.prog 181 = some false := by kernel_rfl
theorem tz181 : tyZero Tryz.prog 181 = some (.lit (.pointer none)) := by kernel_rfl
theorem ta181 : tyArray Tryz.prog 181 = none := by kernel_rfl
theorem tl181 : tySlice Tryz.prog 181 = none := by kernel_rfl
theorem ti181 : tyInt Tryz.prog 181 = none := by kernel_rfl
theorem tt181 : tyString Tryz.prog 181 = false := by kernel_rfl
theorem tq181 : tyBool Tryz.prog 181 = false := by kernel_rfl
theorem tn181 : tyNil Tryz.prog 181 = some .ptr := by kernel_rfl
theorem tp181 : tyPlaces Tryz.prog 181 = none := by kernel_rfl
theorem tu181 : Tryz.prog.underlying 181 = some (.pointer 205) := by kernel_rfl
theorem ts203 : tySize Tryz.prog 203 = some 1 := by kernel_rfl
theorem tb203 : tyBytes Tryz.prog 203 = some 24 := by kernel_rfl
theorem tg203 : tyAgg Tryz.prog 203 = some false := by kernel_rfl
theorem tz203 : tyZero Tryz.prog 203 = some (.lit (.slice none 0 0)) := by kernel_rfl
theorem ta203 : tyArray Tryz.prog 203 = none := by kernel_rfl
theorem tl203 : tySlice Tryz.prog 203 = some 207 := by kernel_rfl
theorem ti203 : tyInt Tryz.prog 203 = none := by kernel_rfl
theorem tt203 : tyString Tryz.prog 203 = false := by kernel_rfl
theorem tq203 : tyBool Tryz.prog 203 = false := by kernel_rfl
theorem tn203 : tyNil Tryz.prog 203 = some .slice := by kernel_rfl
theorem tp203 : tyPlaces Tryz.prog 203 = none := by kernel_rfl
theorem tu203 : Tryz.prog.underlying 203 = some (.slice 207) := by kernel_rfl
theorem ts205 : tySize Tryz.prog 205 = some 4 := by kernel_rfl
theorem tb205 : tyBytes Tryz.prog 205 = some 64 := by kernel_rfl
theorem tg205 : tyAgg Tryz.prog 205 = some true := by kernel_rfl
theorem tz205 : tyZero Tryz.prog 205 = some (.agg [.lit (.bool false), .lit (.slice none 0 0), .lit (.slice none 0 0), .lit (.int .i64 0)]) := by kernel_rfl
theorem ta205 : tyArray Tryz.prog 205 = none := by kernel_rfl
theorem tl205 : tySlice Tryz.prog 205 = none := by kernel_rfl
theorem ti205 : tyInt Tryz.prog 205 = none := by kernel_rfl
theorem tt205 : tyString Tryz.prog 205 = false := by kernel_rfl
theorem tq205 : tyBool Tryz.prog 205 = false := by kernel_rfl
theorem tn205 : tyNil Tryz.prog 205 = none := by kernel_rfl
theorem tf205_0 : tyField Tryz.prog 205 0 = some (0, 4) := by kernel_rfl
theorem tf205_1 : tyField Tryz.prog 205 1 = some (1, 203) := by kernel_rfl
theorem tf205_2 : tyField Tryz.prog 205 2 = some (2, 28) := by kernel_rfl
theorem tf205_3 : tyField Tryz.prog 205 3 = some (3, 3) := by kernel_rfl
theorem tp205 : tyPlaces Tryz.prog 205 = some [(0, 1), (1, 1), (2, 1), (3, 1)] := by kernel_rfl
theorem ts207 : tySize Tryz.prog 207 = some 2 := by kernel_rfl
theorem tb207 : tyBytes Tryz.prog 207 = some 24 := by kernel_rfl
theorem tg207 : tyAgg Tryz.prog 207 = some true := by kernel_rfl
theorem tz207 : tyZero Tryz.prog 207 = some (.agg [.lit (.string { data := #[] }), .lit (.bool false)]) := by kernel_rfl
theorem ta207 : tyArray Tryz.prog 207 = none := by kernel_rfl
theorem tl207 : tySlice Tryz.prog 207 = none := by kernel_rfl
theorem ti207 : tyInt Tryz.prog 207 = none := by kernel_rfl
theorem tt207 : tyString Tryz.prog 207 = false := by kernel_rfl
theorem tq207 : tyBool Tryz.prog 207 = false := by kernel_rfl
theorem tn207 : tyNil Tryz.prog 207 = none := by kernel_rfl
theorem tf207_0 : tyField Tryz.prog 207 0 = some (0, 9) := by kernel_rfl
theorem tf207_1 : tyField Tryz.prog 207 1 = some (1, 4) := by kernel_rfl
theorem tp207 : tyPlaces Tryz.prog 207 = some [(0, 1), (1, 1)] := by kernel_rfl
theorem tv207 : leaves Tryz.prog 20 207 = some [.str, .bool] := by kernel_rfl
theorem te207 : Tryz.prog.eqGuardType Tryz.prog.depth 207 = false := by kernel_rfl
theorem ts212 : tySize Tryz.prog 212 = some 256 := by kernel_rfl
theorem tb212 : tyBytes Tryz.prog 212 = some 256 := by kernel_rfl
theorem tg212 : tyAgg Tryz.prog 212 = some true := by kernel_rfl
theorem tz212 : tyZero Tryz.prog 212 = some (.agg [.lit (.int .u8 0), .lit (.int .u8 0), .lit (.int .u8 0), .lit (.int .u8 0), .lit (.int .u8 0), .lit (.int .u8 0), .lit (.int .u8 0), .lit (.int .u8 0), .lit (.int .u8 0), .lit (.int .u8 0), .lit (.int .u8 0), .lit (.int .u8 0), .lit (.int .u8 0), .lit (.int .u8 0), .lit (.int .u8 0), .lit (.int .u8 0), .lit (.int .u8 0), .lit (.int .u8 0), .lit (.int .u8 0), .lit (.int .u8 0), .lit (.int .u8 0), .lit (.int .u8 0), .lit (.int .u8 0), .lit (.int .u8 0), .lit (.int .u8 0), .lit (.int .u8 0), .lit (.int .u8 0), .lit (.int .u8 0), .lit (.int .u8 0), .lit (.int .u8 0), .lit (.int .u8 0), .lit (.int .u8 0), .lit (.int .u8 0), .lit (.int .u8 0), .lit (.int .u8 0), .lit (.int .u8 0), .lit (.int .u8 0), .lit (.int .u8 0), .lit (.int .u8 0), .lit (.int .u8 0), .lit (.int .u8 0), .lit (.int .u8 0), .lit (.int .u8 0), .lit (.int .u8 0), .lit (.int .u8 0), .lit (.int .u8 0), .lit (.int .u8 0), .lit (.int .u8 0), .lit (.int .u8 0), .lit (.int .u8 0), .lit (.int .u8 0), .lit (.int .u8 0), .lit (.int .u8 0), .lit (.int .u8 0), .lit (.int .u8 0), .lit (.int .u8 0), .lit (.int .u8 0), .lit (.int .u8 0), .lit (.int .u8 0), .lit (.int .u8 0), .lit (.int .u8 0), .lit (.int .u8 0), .lit (.int .u8 0), .lit (.int .u8 0), .lit (.int .u8 0), .lit (.int .u8 0), .lit (.int .u8 0), .lit (.int .u8 0), .lit (.int .u8 0), .lit (.int .u8 0), .lit (.int .u8 0), .lit (.int .u8 0), .lit (.int .u8 0), .lit (.int .u8 0), .lit (.int .u8 0), .lit (.int .u8 0), .lit (.int .u8 0), .lit (.int .u8 0), .lit (.int .u8 0), .lit (.int .u8 0), .lit (.int .u8 0), .lit (.int .u8 0), .lit (.int .u8 0), .lit (.int .u8 0), .lit (.int .u8 0), .lit (.int .u8 0), .lit (.int .u8 0), .lit (.int .u8 0), .lit (.int .u8 0), .lit (.int .u8 0), .lit (.int .u8 0), .lit (.int .u8 0), .lit (.int .u8 0), .lit (.int .u8 0), .lit (.int .u8 0), .lit (.int .u8 0), .lit (.int .u8 0), .lit (.int .u8 0), .lit (.int .u8 0), .lit (.int .u8 0), .lit (.int .u8 0), .lit (.int .u8 0), .lit (.int .u8 0), .lit (.int .u8 0), .lit (.int .u8 0), .lit (.int .u8 0), .lit (.int .u8 0), .lit (.int .u8 0), .lit (.int .u8 0), .lit (.int .u8 0), .lit (.int .u8 0), .lit (.int .u8 0), .lit (.int .u8 0), .lit (.int .u8 0), .lit (.int .u8 0), .lit (.int .u8 0), .lit (.int .u8 0), .lit (.int .u8 0), .lit (.int .u8 0), .lit (.int .u8 0), .lit (.int .u8 0), .lit (.int .u8 0), .lit (.int .u8 0), .lit (.int .u8 0), .lit (.int .u8 0), .lit (.int .u8 0), .lit (.int .u8 0), .lit (.int .u8 0), .lit (.int .u8 0), .lit (.int .u8 0), .lit (.int .u8 0), .lit (.int .u8 0), .lit (.int .u8 0), .lit (.int .u8 0), .lit (.int .u8 0), .lit (.int .u8 0), .lit (.int .u8 0), .lit (.int .u8 0), .lit (.int .u8 0), .lit (.int .u8 0), .lit (.int .u8 0), .lit (.int .u8 0), .lit (.int .u8 0), .lit (.int .u8 0), .lit (.int .u8 0), .lit (.int .u8 0), .lit (.int .u8 0), .lit (.int .u8 0), .lit (.int .u8 0), .lit (.int .u8 0), .lit (.int .u8 0), .lit (.int .u8 0), .lit (.int .u8 0), .lit (.int .u8 0), .lit (.int .u8 0), .lit (.int .u8 0), .lit (.int .u8 0), .lit (.int .u8 0), .lit (.int .u8 0), .lit (.int .u8 0), .lit (.int .u8 0), .lit (.int .u8 0), .lit (.int .u8 0), .lit (.int .u8 0), .lit (.int .u8 0), .lit (.int .u8 0), .lit (.int .u8 0), .lit (.int .u8 0), .lit (.int .u8 0), .lit (.int .u8 0), .lit (.int .u8 0), .lit (.int .u8 0), .lit (.int .u8 0), .lit (.int .u8 0), .lit (.int .u8 0), .lit (.int .u8 0), .lit (.int .u8 0), .lit (.int .u8 0), .lit (.int .u8 0), .lit (.int .u8 0), .lit (.int .u8 0), .lit (.int .u8 0), .lit (.int .u8 0), .lit (.int .u8 0), .lit (.int .u8 0), .lit (.int .u8 0), .lit (.int .u8 0), .lit (.int .u8 0), .lit (.int .u8 0), .lit (.int .u8 0), .lit (.int .u8 0), .lit (.int .u8 0), .lit (.int .u8 0), .lit (.int .u8 0), .lit (.int .u8 0), .lit (.int .u8 0), .lit (.int .u8 0), .lit (.int .u8 0), .lit (.int .u8 0), .lit (.int .u8 0), .lit (.int .u8 0), .lit (.int .u8 0), .lit (.int .u8 0), .lit (.int .u8 0), .lit (.int .u8 0), .lit (.int .u8 0), .lit (.int .u8 0), .lit (.int .u8 0), .lit (.int .u8 0), .lit (.int .u8 0), .lit (.int .u8 0), .lit (.int .u8 0), .lit (.int .u8 0), .lit (.int .u8 0), .lit (.int .u8 0), .lit (.int .u8 0), .lit (.int .u8 0), .lit (.int .u8 0), .lit (.int .u8 0), .lit (.int .u8 0), .lit (.int .u8 0), .lit (.int .u8 0), .lit (.int .u8 0), .lit (.int .u8 0), .lit (.int .u8 0), .lit (.int .u8 0), .lit (.int .u8 0), .lit (.int .u8 0), .lit (.int .u8 0), .lit (.int .u8 0), .lit (.int .u8 0), .lit (.int .u8 0), .lit (.int .u8 0), .lit (.int .u8 0), .lit (.int .u8 0), .lit (.int .u8 0), .lit (.int .u8 0), .lit (.int .u8 0), .lit (.int .u8 0), .lit (.int .u8 0), .lit (.int .u8 0), .lit (.int .u8 0), .lit (.int .u8 0), .lit (.int .u8 0), .lit (.int .u8 0), .lit (.int .u8 0), .lit (.int .u8 0), .lit (.int .u8 0), .lit (.int .u8 0), .lit (.int .u8 0), .lit (.int .u8 0), .lit (.int .u8 0), .lit (.int .u8 0), .lit (.int .u8 0), .lit (.int .u8 0), .lit (.int .u8 0)]) := by kernel_rfl
theorem ta212 : tyArray Tryz.prog 212 = some (256, 5) := by kernel_rfl
theorem tl212 : tySlice Tryz.prog 212 = none := by kernel_rfl
theorem ti212 : tyInt Tryz.prog 212 = none := by kernel_rfl
theorem tt212 : tyString Tryz.prog 212 = false := by kernel_rfl
theorem tq212 : tyBool Tryz.prog 212 = false := by kernel_rfl
theorem tn212 : tyNil Tryz.prog 212 = none := by kernel_rfl
theorem tp212 : tyPlaces Tryz.prog 212 = none := by kernel_rfl
theorem tu212 : Tryz.prog.underlying 212 = some (.array 256 5) := by kernel_rfl
theorem ts214 : tySize Tryz.prog 214 = some 2 := by kernel_rfl
theorem tb214 : tyBytes Tryz.prog 214 = some 2 := by kernel_rfl
theorem tg214 : tyAgg Tryz.prog 214 = some true := by kernel_rfl
theorem tz214 : tyZero Tryz.prog 214 = some (.agg [.lit (.int .u8 0), .lit (.int .u8 0)]) := by kernel_rfl
theorem ta214 : tyArray Tryz.prog 214 = none := by kernel_rfl
theorem tl214 : tySlice Tryz.prog 214 = none := by kernel_rfl
theorem ti214 : tyInt Tryz.prog 214 = none := by kernel_rfl
theorem tt214 : tyString Tryz.prog 214 = false := by kernel_rfl
theorem tq214 : tyBool Tryz.prog 214 = false := by kernel_rfl
theorem tn214 : tyNil Tryz.prog 214 = none := by kernel_rfl
theorem tf214_0 : tyField Tryz.prog 214 0 = some (0, 5) := by kernel_rfl
theorem tf214_1 : tyField Tryz.prog 214 1 = some (1, 5) := by kernel_rfl
theorem tp214 : tyPlaces Tryz.prog 214 = some [(0, 1), (1, 1)] := by kernel_rfl
theorem tv214 : leaves Tryz.prog 20 214 = some [.int, .int] := by kernel_rfl
theorem te214 : Tryz.prog.eqGuardType Tryz.prog.depth 214 = false := by kernel_rfl
theorem ts215 : tySize Tryz.prog 215 = some 32 := by kernel_rfl
theorem tb215 : tyBytes Tryz.prog 215 = some 32 := by kernel_rfl
theorem tg215 : tyAgg Tryz.prog 215 = some true := by kernel_rfl
theorem tz215 : tyZero Tryz.prog 215 = some (.agg [.lit (.int .u8 0), .lit (.int .u8 0), .lit (.int .u8 0), .lit (.int .u8 0), .lit (.int .u8 0), .lit (.int .u8 0), .lit (.int .u8 0), .lit (.int .u8 0), .lit (.int .u8 0), .lit (.int .u8 0), .lit (.int .u8 0), .lit (.int .u8 0), .lit (.int .u8 0), .lit (.int .u8 0), .lit (.int .u8 0), .lit (.int .u8 0), .lit (.int .u8 0), .lit (.int .u8 0), .lit (.int .u8 0), .lit (.int .u8 0), .lit (.int .u8 0), .lit (.int .u8 0), .lit (.int .u8 0), .lit (.int .u8 0), .lit (.int .u8 0), .lit (.int .u8 0), .lit (.int .u8 0), .lit (.int .u8 0), .lit (.int .u8 0), .lit (.int .u8 0), .lit (.int .u8 0), .lit (.int .u8 0)]) := by kernel_rfl
theorem ta215 : tyArray Tryz.prog 215 = some (16, 214) := by kernel_rfl
theorem tl215 : tySlice Tryz.prog 215 = none := by kernel_rfl
theorem ti215 : tyInt Tryz.prog 215 = none := by kernel_rfl
theorem tt215 : tyString Tryz.prog 215 = false := by kernel_rfl
theorem tq215 : tyBool Tryz.prog 215 = false := by kernel_rfl
theorem tn215 : tyNil Tryz.prog 215 = none := by kernel_rfl
theorem tp215 : tyPlaces Tryz.prog 215 = none := by kernel_rfl
theorem tu215 : Tryz.prog.underlying 215 = some (.array 16 214) := by kernel_rfl
theorem ts222 : tySize Tryz.prog 222 = some 1 := by kernel_rfl
theorem tb222 : tyBytes Tryz.prog 222 = some 8 := by kernel_rfl
theorem tg222 : tyAgg Tryz.prog 222 = some false := by kernel_rfl
theorem tz222 : tyZero Tryz.prog 222 = some (.lit (.int .u64 0)) := by kernel_rfl
theorem ta222 : tyArray Tryz.prog 222 = none := by kernel_rfl
theorem tl222 : tySlice Tryz.prog 222 = none := by kernel_rfl
theorem ti222 : tyInt Tryz.prog 222 = some .u64 := by kernel_rfl
theorem tt222 : tyString Tryz.prog 222 = false := by kernel_rfl
theorem tq222 : tyBool Tryz.prog 222 = false := by kernel_rfl
theorem tn222 : tyNil Tryz.prog 222 = none := by kernel_rfl
theorem tp222 : tyPlaces Tryz.prog 222 = none := by kernel_rfl
theorem tu222 : Tryz.prog.underlying 222 = some (.int .u64) := by kernel_rfl
theorem ts226 : tySize Tryz.prog 226 = some 1 := by kernel_rfl
theorem tb226 : tyBytes Tryz.prog 226 = some 8 := by kernel_rfl
theorem tg226 : tyAgg Tryz.prog 226 = some false := by kernel_rfl
theorem tz226 : tyZero Tryz.prog 226 = some (.lit (.pointer none)) := by kernel_rfl
theorem ta226 : tyArray Tryz.prog 226 = none := by kernel_rfl
theorem tl226 : tySlice Tryz.prog 226 = none := by kernel_rfl
theorem ti226 : tyInt Tryz.prog 226 = none := by kernel_rfl
theorem tt226 : tyString Tryz.prog 226 = false := by kernel_rfl
theorem tq226 : tyBool Tryz.prog 226 = false := by kernel_rfl
theorem tn226 : tyNil Tryz.prog 226 = some .ptr := by kernel_rfl
theorem tp226 : tyPlaces Tryz.prog 226 = none := by kernel_rfl
theorem tu226 : Tryz.prog.underlying 226 = some (.pointer 3) := by kernel_rfl
theorem ts228 : tySize Tryz.prog 228 = some 1 := by kernel_rfl
theorem tb228 : tyBytes Tryz.prog 228 = some 8 := by kernel_rfl
theorem tg228 : tyAgg Tryz.prog 228 = some false := by kernel_rfl
theorem tz228 : tyZero Tryz.prog 228 = some (.lit (.pointer none)) := by kernel_rfl
theorem ta228 : tyArray Tryz.prog 228 = none := by kernel_rfl
theorem tl228 : tySlice Tryz.prog 228 = none := by kernel_rfl
theorem ti228 : tyInt Tryz.prog 228 = none := by kernel_rfl
theorem tt228 : tyString Tryz.prog 228 = false := by kernel_rfl
theorem tq228 : tyBool Tryz.prog 228 = false := by kernel_rfl
theorem tn228 : tyNil Tryz.prog 228 = some .ptr := by kernel_rfl
theorem tp228 : tyPlaces Tryz.prog 228 = none := by kernel_rfl
theorem tu228 : Tryz.prog.underlying 228 = some (.pointer 161) := by kernel_rfl
theorem ts237 : tySize Tryz.prog 237 = some 24 := by kernel_rfl
theorem tb237 : tyBytes Tryz.prog 237 = some 24 := by kernel_rfl
theorem tg237 : tyAgg Tryz.prog 237 = some true := by kernel_rfl
theorem tz237 : tyZero Tryz.prog 237 = some (.agg [.lit (.int .u8 0), .lit (.int .u8 0), .lit (.int .u8 0), .lit (.int .u8 0), .lit (.int .u8 0), .lit (.int .u8 0), .lit (.int .u8 0), .lit (.int .u8 0), .lit (.int .u8 0), .lit (.int .u8 0), .lit (.int .u8 0), .lit (.int .u8 0), .lit (.int .u8 0), .lit (.int .u8 0), .lit (.int .u8 0), .lit (.int .u8 0), .lit (.int .u8 0), .lit (.int .u8 0), .lit (.int .u8 0), .lit (.int .u8 0), .lit (.int .u8 0), .lit (.int .u8 0), .lit (.int .u8 0), .lit (.int .u8 0)]) := by kernel_rfl
theorem ta237 : tyArray Tryz.prog 237 = some (24, 5) := by kernel_rfl
theorem tl237 : tySlice Tryz.prog 237 = none := by kernel_rfl
theorem ti237 : tyInt Tryz.prog 237 = none := by kernel_rfl
theorem tt237 : tyString Tryz.prog 237 = false := by kernel_rfl
theorem tq237 : tyBool Tryz.prog 237 = false := by kernel_rfl
theorem tn237 : tyNil Tryz.prog 237 = none := by kernel_rfl
theorem tp237 : tyPlaces Tryz.prog 237 = none := by kernel_rfl
theorem tu237 : Tryz.prog.underlying 237 = some (.array 24 5) := by kernel_rfl
theorem ts241 : tySize Tryz.prog 241 = some 4 := by kernel_rfl
theorem tb241 : tyBytes Tryz.prog 241 = some 4 := by kernel_rfl
theorem tg241 : tyAgg Tryz.prog 241 = some true := by kernel_rfl
theorem tz241 : tyZero Tryz.prog 241 = some (.agg [.lit (.int .u8 0), .lit (.int .u8 0), .lit (.int .u8 0), .lit (.int .u8 0)]) := by kernel_rfl
theorem ta241 : tyArray Tryz.prog 241 = some (4, 5) := by kernel_rfl
theorem tl241 : tySlice Tryz.prog 241 = none := by kernel_rfl
theorem ti241 : tyInt Tryz.prog 241 = none := by kernel_rfl
theorem tt241 : tyString Tryz.prog 241 = false := by kernel_rfl
theorem tq241 : tyBool Tryz.prog 241 = false := by kernel_rfl
theorem tn241 : tyNil Tryz.prog 241 = none := by kernel_rfl
theorem tp241 : tyPlaces Tryz.prog 241 = none := by kernel_rfl
theorem tu241 : Tryz.prog.underlying 241 = some (.array 4 5) := by kernel_rfl
theorem ts244 : tySize Tryz.prog 244 = some 8 := by kernel_rfl
theorem tb244 : tyBytes Tryz.prog 244 = some 8 := by kernel_rfl
theorem tg244 : tyAgg Tryz.prog 244 = some true := by kernel_rfl
theorem tz244 : tyZero Tryz.prog 244 = some (.agg [.lit (.int .u8 0), .lit (.int .u8 0), .lit (.int .u8 0), .lit (.int .u8 0), .lit (.int .u8 0), .lit (.int .u8 0), .lit (.int .u8 0), .lit (.int .u8 0)]) := by kernel_rfl
theorem ta244 : tyArray Tryz.prog 244 = some (8, 5) := by kernel_rfl
theorem tl244 : tySlice Tryz.prog 244 = none := by kernel_rfl
theorem ti244 : tyInt Tryz.prog 244 = none := by kernel_rfl
theorem tt244 : tyString Tryz.prog 244 = false := by kernel_rfl
theorem tq244 : tyBool Tryz.prog 244 = false := by kernel_rfl
theorem tn244 : tyNil Tryz.prog 244 = none := by kernel_rfl
theorem tp244 : tyPlaces Tryz.prog 244 = none := by kernel_rfl
theorem tu244 : Tryz.prog.underlying 244 = some (.array 8 5) := by kernel_rfl
theorem ts247 : tySize Tryz.prog 247 = some 4 := by kernel_rfl
theorem tb247 : tyBytes Tryz.prog 247 = some 32 := by kernel_rfl
theorem tg247 : tyAgg Tryz.prog 247 = some true := by kernel_rfl
theorem tz247 : tyZero Tryz.prog 247 = some (.agg [.lit (.int .i64 0), .lit (.int .i64 0), .lit (.int .i64 0), .lit (.int .i64 0)]) := by kernel_rfl
theorem ta247 : tyArray Tryz.prog 247 = none := by kernel_rfl
theorem tl247 : tySlice Tryz.prog 247 = none := by kernel_rfl
theorem ti247 : tyInt Tryz.prog 247 = none := by kernel_rfl
theorem tt247 : tyString Tryz.prog 247 = false := by kernel_rfl
theorem tq247 : tyBool Tryz.prog 247 = false := by kernel_rfl
theorem tn247 : tyNil Tryz.prog 247 = none := by kernel_rfl
theorem tf247_0 : tyField Tryz.prog 247 0 = some (0, 3) := by kernel_rfl
theorem tf247_1 : tyField Tryz.prog 247 1 = some (1, 3) := by kernel_rfl
theorem tf247_2 : tyField Tryz.prog 247 2 = some (2, 3) := by kernel_rfl
theorem tf247_3 : tyField Tryz.prog 247 3 = some (3, 3) := by kernel_rfl
theorem tp247 : tyPlaces Tryz.prog 247 = some [(0, 1), (1, 1), (2, 1), (3, 1)] := by kernel_rfl
theorem tv247 : leaves Tryz.prog 20 247 = some [.int, .int, .int, .int] := by kernel_rfl
theorem te247 : Tryz.prog.eqGuardType Tryz.prog.depth 247 = false := by kernel_rfl
theorem ts248 : tySize Tryz.prog 248 = some 1 := by kernel_rfl
theorem tb248 : tyBytes Tryz.prog 248 = some 24 := by kernel_rfl
theorem tg248 : tyAgg Tryz.prog 248 = some false := by kernel_rfl
theorem tz248 : tyZero Tryz.prog 248 = some (.lit (.slice none 0 0)) := by kernel_rfl
theorem ta248 : tyArray Tryz.prog 248 = none := by kernel_rfl
theorem tl248 : tySlice Tryz.prog 248 = some 247 := by kernel_rfl
theorem ti248 : tyInt Tryz.prog 248 = none := by kernel_rfl
theorem tt248 : tyString Tryz.prog 248 = false := by kernel_rfl
theorem tq248 : tyBool Tryz.prog 248 = false := by kernel_rfl
theorem tn248 : tyNil Tryz.prog 248 = some .slice := by kernel_rfl
theorem tp248 : tyPlaces Tryz.prog 248 = none := by kernel_rfl
theorem tu248 : Tryz.prog.underlying 248 = some (.slice 247) := by kernel_rfl
theorem ts250 : tySize Tryz.prog 250 = some 1 := by kernel_rfl
theorem tb250 : tyBytes Tryz.prog 250 = some 8 := by kernel_rfl
theorem tg250 : tyAgg Tryz.prog 250 = some false := by kernel_rfl
theorem tz250 : tyZero Tryz.prog 250 = some (.lit (.pointer none)) := by kernel_rfl
theorem ta250 : tyArray Tryz.prog 250 = none := by kernel_rfl
theorem tl250 : tySlice Tryz.prog 250 = none := by kernel_rfl
theorem ti250 : tyInt Tryz.prog 250 = none := by kernel_rfl
theorem tt250 : tyString Tryz.prog 250 = false := by kernel_rfl
theorem tq250 : tyBool Tryz.prog 250 = false := by kernel_rfl
theorem tn250 : tyNil Tryz.prog 250 = some .ptr := by kernel_rfl
theorem tp250 : tyPlaces Tryz.prog 250 = none := by kernel_rfl
theorem tu250 : Tryz.prog.underlying 250 = some (.pointer 252) := by kernel_rfl
theorem ts252 : tySize Tryz.prog 252 = some 3 := by kernel_rfl
theorem tb252 : tyBytes Tryz.prog 252 = some 32 := by kernel_rfl
theorem tg252 : tyAgg Tryz.prog 252 = some true := by kernel_rfl
theorem tz252 : tyZero Tryz.prog 252 = some (.agg [.lit (.string { data := #[] }), .lit (.int .i64 0), .lit (.bool false)]) := by kernel_rfl
theorem ta252 : tyArray Tryz.prog 252 = none := by kernel_rfl
theorem tl252 : tySlice Tryz.prog 252 = none := by kernel_rfl
theorem ti252 : tyInt Tryz.prog 252 = none := by kernel_rfl
theorem tt252 : tyString Tryz.prog 252 = false := by kernel_rfl
theorem tq252 : tyBool Tryz.prog 252 = false := by kernel_rfl
theorem tn252 : tyNil Tryz.prog 252 = none := by kernel_rfl
theorem tf252_0 : tyField Tryz.prog 252 0 = some (0, 9) := by kernel_rfl
theorem tf252_1 : tyField Tryz.prog 252 1 = some (1, 3) := by kernel_rfl
theorem tf252_2 : tyField Tryz.prog 252 2 = some (2, 4) := by kernel_rfl
theorem tp252 : tyPlaces Tryz.prog 252 = some [(0, 1), (1, 1), (2, 1)] := by kernel_rfl
theorem tv252 : leaves Tryz.prog 20 252 = some [.str, .int, .bool] := by kernel_rfl
theorem te252 : Tryz.prog.eqGuardType Tryz.prog.depth 252 = false := by kernel_rfl
theorem ts261 : tySize Tryz.prog 261 = some 1 := by kernel_rfl
theorem tb261 : tyBytes Tryz.prog 261 = some 8 := by kernel_rfl
theorem tg261 : tyAgg Tryz.prog 261 = some false := by kernel_rfl
theorem tz261 : tyZero Tryz.prog 261 = some (.lit (.pointer none)) := by kernel_rfl
theorem ta261 : tyArray Tryz.prog 261 = none := by kernel_rfl
theorem tl261 : tySlice Tryz.prog 261 = none := by kernel_rfl
theorem ti261 : tyInt Tryz.prog 261 = none := by kernel_rfl
theorem tt261 : tyString Tryz.prog 261 = false := by kernel_rfl
theorem tq261 : tyBool Tryz.prog 261 = false := by kernel_rfl
theorem tn261 : tyNil Tryz.prog 261 = some .ptr := by kernel_rfl
theorem tp261 : tyPlaces Tryz.prog 261 = none := by kernel_rfl
theorem tu261 : Tryz.prog.underlying 261 = some (.pointer 5) := by kernel_rfl
theorem ts262 : tySize Tryz.prog 262 = some 16 := by kernel_rfl
theorem tb262 : tyBytes Tryz.prog 262 = some 64 := by kernel_rfl
theorem tg262 : tyAgg Tryz.prog 262 = some true := by kernel_rfl
theorem tz262 : tyZero Tryz.prog 262 = some (.agg [.lit (.int .u32 0), .lit (.int .u32 0), .lit (.int .u32 0), .lit (.int .u32 0), .lit (.int .u32 0), .lit (.int .u32 0), .lit (.int .u32 0), .lit (.int .u32 0), .lit (.int .u32 0), .lit (.int .u32 0), .lit (.int .u32 0), .lit (.int .u32 0), .lit (.int .u32 0), .lit (.int .u32 0), .lit (.int .u32 0), .lit (.int .u32 0)]) := by kernel_rfl
theorem ta262 : tyArray Tryz.prog 262 = some (16, 43) := by kernel_rfl
theorem tl262 : tySlice Tryz.prog 262 = none := by kernel_rfl
theorem ti262 : tyInt Tryz.prog 262 = none := by kernel_rfl
theorem tt262 : tyString Tryz.prog 262 = false := by kernel_rfl
theorem tq262 : tyBool Tryz.prog 262 = false := by kernel_rfl
theorem tn262 : tyNil Tryz.prog 262 = none := by kernel_rfl
theorem tp262 : tyPlaces Tryz.prog 262 = none := by kernel_rfl
theorem tu262 : Tryz.prog.underlying 262 = some (.array 16 43) := by kernel_rfl
theorem ts264 : tySize Tryz.prog 264 = some 20 := by kernel_rfl
theorem tb264 : tyBytes Tryz.prog 264 = some 160 := by kernel_rfl
theorem tg264 : tyAgg Tryz.prog 264 = some true := by kernel_rfl
theorem tz264 : tyZero Tryz.prog 264 = some (.agg [.lit (.int .u64 0), .lit (.int .u64 0), .lit (.int .u64 0), .lit (.int .u64 0), .lit (.int .u64 0), .lit (.int .u64 0), .lit (.int .u64 0), .lit (.int .u64 0), .lit (.int .u64 0), .lit (.int .u64 0), .lit (.int .u64 0), .lit (.int .u64 0), .lit (.int .u64 0), .lit (.int .u64 0), .lit (.int .u64 0), .lit (.int .u64 0), .lit (.int .u64 0), .lit (.int .u64 0), .lit (.int .u64 0), .lit (.int .u64 0)]) := by kernel_rfl
theorem ta264 : tyArray Tryz.prog 264 = some (20, 110) := by kernel_rfl
theorem tl264 : tySlice Tryz.prog 264 = none := by kernel_rfl
theorem ti264 : tyInt Tryz.prog 264 = none := by kernel_rfl
theorem tt264 : tyString Tryz.prog 264 = false := by kernel_rfl
theorem tq264 : tyBool Tryz.prog 264 = false := by kernel_rfl
theorem tn264 : tyNil Tryz.prog 264 = none := by kernel_rfl
theorem tp264 : tyPlaces Tryz.prog 264 = none := by kernel_rfl
theorem tu264 : Tryz.prog.underlying 264 = some (.array 20 110) := by kernel_rfl
theorem ts265 : tySize Tryz.prog 265 = some 65 := by kernel_rfl
theorem tb265 : tyBytes Tryz.prog 265 = some 65 := by kernel_rfl
theorem tg265 : tyAgg Tryz.prog 265 = some true := by kernel_rfl
theorem tz265 : tyZero Tryz.prog 265 = some (.agg [.lit (.int .u8 0), .lit (.int .u8 0), .lit (.int .u8 0), .lit (.int .u8 0), .lit (.int .u8 0), .lit (.int .u8 0), .lit (.int .u8 0), .lit (.int .u8 0), .lit (.int .u8 0), .lit (.int .u8 0), .lit (.int .u8 0), .lit (.int .u8 0), .lit (.int .u8 0), .lit (.int .u8 0), .lit (.int .u8 0), .lit (.int .u8 0), .lit (.int .u8 0), .lit (.int .u8 0), .lit (.int .u8 0), .lit (.int .u8 0), .lit (.int .u8 0), .lit (.int .u8 0), .lit (.int .u8 0), .lit (.int .u8 0), .lit (.int .u8 0), .lit (.int .u8 0), .lit (.int .u8 0), .lit (.int .u8 0), .lit (.int .u8 0), .lit (.int .u8 0), .lit (.int .u8 0), .lit (.int .u8 0), .lit (.int .u8 0), .lit (.int .u8 0), .lit (.int .u8 0), .lit (.int .u8 0), .lit (.int .u8 0), .lit (.int .u8 0), .lit (.int .u8 0), .lit (.int .u8 0), .lit (.int .u8 0), .lit (.int .u8 0), .lit (.int .u8 0), .lit (.int .u8 0), .lit (.int .u8 0), .lit (.int .u8 0), .lit (.int .u8 0), .lit (.int .u8 0), .lit (.int .u8 0), .lit (.int .u8 0), .lit (.int .u8 0), .lit (.int .u8 0), .lit (.int .u8 0), .lit (.int .u8 0), .lit (.int .u8 0), .lit (.int .u8 0), .lit (.int .u8 0), .lit (.int .u8 0), .lit (.int .u8 0), .lit (.int .u8 0), .lit (.int .u8 0), .lit (.int .u8 0), .lit (.int .u8 0), .lit (.int .u8 0), .lit (.int .u8 0)]) := by kernel_rfl
theorem ta265 : tyArray Tryz.prog 265 = some (65, 5) := by kernel_rfl
theorem tl265 : tySlice Tryz.prog 265 = none := by kernel_rfl
theorem ti265 : tyInt Tryz.prog 265 = none := by kernel_rfl
theorem tt265 : tyString Tryz.prog 265 = false := by kernel_rfl
theorem tq265 : tyBool Tryz.prog 265 = false := by kernel_rfl
theorem tn265 : tyNil Tryz.prog 265 = none := by kernel_rfl
theorem tp265 : tyPlaces Tryz.prog 265 = none := by kernel_rfl
theorem tu265 : Tryz.prog.underlying 265 = some (.array 65 5) := by kernel_rfl
theorem ts267 : tySize Tryz.prog 267 = some 1 := by kernel_rfl
theorem tb267 : tyBytes Tryz.prog 267 = some 8 := by kernel_rfl
theorem tg267 : tyAgg Tryz.prog 267 = some false := by kernel_rfl
theorem tz267 : tyZero Tryz.prog 267 = some (.lit (.pointer none)) := by kernel_rfl
theorem ta267 : tyArray Tryz.prog 267 = none := by kernel_rfl
theorem tl267 : tySlice Tryz.prog 267 = none := by kernel_rfl
theorem ti267 : tyInt Tryz.prog 267 = none := by kernel_rfl
theorem tt267 : tyString Tryz.prog 267 = false := by kernel_rfl
theorem tq267 : tyBool Tryz.prog 267 = false := by kernel_rfl
theorem tn267 : tyNil Tryz.prog 267 = some .ptr := by kernel_rfl
theorem tp267 : tyPlaces Tryz.prog 267 = none := by kernel_rfl
theorem tu267 : Tryz.prog.underlying 267 = some (.pointer 269) := by kernel_rfl
theorem ts269 : tySize Tryz.prog 269 = some 2 := by kernel_rfl
theorem tb269 : tyBytes Tryz.prog 269 = some 32 := by kernel_rfl
theorem tg269 : tyAgg Tryz.prog 269 = some true := by kernel_rfl
theorem tz269 : tyZero Tryz.prog 269 = some (.agg [.lit (.pointer none), .lit (.slice none 0 0)]) := by kernel_rfl
theorem ta269 : tyArray Tryz.prog 269 = none := by kernel_rfl
theorem tl269 : tySlice Tryz.prog 269 = none := by kernel_rfl
theorem ti269 : tyInt Tryz.prog 269 = none := by kernel_rfl
theorem tt269 : tyString Tryz.prog 269 = false := by kernel_rfl
theorem tq269 : tyBool Tryz.prog 269 = false := by kernel_rfl
theorem tn269 : tyNil Tryz.prog 269 = none := by kernel_rfl
theorem tf269_0 : tyField Tryz.prog 269 0 = some (0, 267) := by kernel_rfl
theorem tf269_1 : tyField Tryz.prog 269 1 = some (1, 157) := by kernel_rfl
theorem tp269 : tyPlaces Tryz.prog 269 = some [(0, 1), (1, 1)] := by kernel_rfl
theorem ts277 : tySize Tryz.prog 277 = some 32 := by kernel_rfl
theorem tb277 : tyBytes Tryz.prog 277 = some 32 := by kernel_rfl
theorem tg277 : tyAgg Tryz.prog 277 = some true := by kernel_rfl
theorem tz277 : tyZero Tryz.prog 277 = some (.agg [.lit (.int .u8 0), .lit (.int .u8 0), .lit (.int .u8 0), .lit (.int .u8 0), .lit (.int .u8 0), .lit (.int .u8 0), .lit (.int .u8 0), .lit (.int .u8 0), .lit (.int .u8 0), .lit (.int .u8 0), .lit (.int .u8 0), .lit (.int .u8 0), .lit (.int .u8 0), .lit (.int .u8 0), .lit (.int .u8 0), .lit (.int .u8 0), .lit (.int .u8 0), .lit (.int .u8 0), .lit (.int .u8 0), .lit (.int .u8 0), .lit (.int .u8 0), .lit (.int .u8 0), .lit (.int .u8 0), .lit (.int .u8 0), .lit (.int .u8 0), .lit (.int .u8 0), .lit (.int .u8 0), .lit (.int .u8 0), .lit (.int .u8 0), .lit (.int .u8 0), .lit (.int .u8 0), .lit (.int .u8 0)]) := by kernel_rfl
theorem ta277 : tyArray Tryz.prog 277 = some (32, 5) := by kernel_rfl
theorem tl277 : tySlice Tryz.prog 277 = none := by kernel_rfl
theorem ti277 : tyInt Tryz.prog 277 = none := by kernel_rfl
theorem tt277 : tyString Tryz.prog 277 = false := by kernel_rfl
theorem tq277 : tyBool Tryz.prog 277 = false := by kernel_rfl
theorem tn277 : tyNil Tryz.prog 277 = none := by kernel_rfl
theorem tp277 : tyPlaces Tryz.prog 277 = none := by kernel_rfl
theorem tu277 : Tryz.prog.underlying 277 = some (.array 32 5) := by kernel_rfl
theorem ts278 : tySize Tryz.prog 278 = some 64 := by kernel_rfl
theorem tb278 : tyBytes Tryz.prog 278 = some 64 := by kernel_rfl
theorem tg278 : tyAgg Tryz.prog 278 = some true := by kernel_rfl
theorem tz278 : tyZero Tryz.prog 278 = some (.agg [.lit (.int .u8 0), .lit (.int .u8 0), .lit (.int .u8 0), .lit (.int .u8 0), .lit (.int .u8 0), .lit (.int .u8 0), .lit (.int .u8 0), .lit (.int .u8 0), .lit (.int .u8 0), .lit (.int .u8 0), .lit (.int .u8 0), .lit (.int .u8 0), .lit (.int .u8 0), .lit (.int .u8 0), .lit (.int .u8 0), .lit (.int .u8 0), .lit (.int .u8 0), .lit (.int .u8 0), .lit (.int .u8 0), .lit (.int .u8 0), .lit (.int .u8 0), .lit (.int .u8 0), .lit (.int .u8 0), .lit (.int .u8 0), .lit (.int .u8 0), .lit (.int .u8 0), .lit (.int .u8 0), .lit (.int .u8 0), .lit (.int .u8 0), .lit (.int .u8 0), .lit (.int .u8 0), .lit (.int .u8 0), .lit (.int .u8 0), .lit (.int .u8 0), .lit (.int .u8 0), .lit (.int .u8 0), .lit (.int .u8 0), .lit (.int .u8 0), .lit (.int .u8 0), .lit (.int .u8 0), .lit (.int .u8 0), .lit (.int .u8 0), .lit (.int .u8 0), .lit (.int .u8 0), .lit (.int .u8 0), .lit (.int .u8 0), .lit (.int .u8 0), .lit (.int .u8 0), .lit (.int .u8 0), .lit (.int .u8 0), .lit (.int .u8 0), .lit (.int .u8 0), .lit (.int .u8 0), .lit (.int .u8 0), .lit (.int .u8 0), .lit (.int .u8 0), .lit (.int .u8 0), .lit (.int .u8 0), .lit (.int .u8 0), .lit (.int .u8 0), .lit (.int .u8 0), .lit (.int .u8 0), .lit (.int .u8 0), .lit (.int .u8 0)]) := by kernel_rfl
theorem ta278 : tyArray Tryz.prog 278 = some (64, 5) := by kernel_rfl
theorem tl278 : tySlice Tryz.prog 278 = none := by kernel_rfl
theorem ti278 : tyInt Tryz.prog 278 = none := by kernel_rfl
theorem tt278 : tyString Tryz.prog 278 = false := by kernel_rfl
theorem tq278 : tyBool Tryz.prog 278 = false := by kernel_rfl
theorem tn278 : tyNil Tryz.prog 278 = none := by kernel_rfl
theorem tp278 : tyPlaces Tryz.prog 278 = none := by kernel_rfl
theorem tu278 : Tryz.prog.underlying 278 = some (.array 64 5) := by kernel_rfl
theorem ts279 : tySize Tryz.prog 279 = some 1 := by kernel_rfl
theorem tb279 : tyBytes Tryz.prog 279 = some 8 := by kernel_rfl
theorem tg279 : tyAgg Tryz.prog 279 = some false := by kernel_rfl
theorem tz279 : tyZero Tryz.prog 279 = some (.lit (.pointer none)) := by kernel_rfl
theorem ta279 : tyArray Tryz.prog 279 = none := by kernel_rfl
theorem tl279 : tySlice Tryz.prog 279 = none := by kernel_rfl
theorem ti279 : tyInt Tryz.prog 279 = none := by kernel_rfl
theorem tt279 : tyString Tryz.prog 279 = false := by kernel_rfl
theorem tq279 : tyBool Tryz.prog 279 = false := by kernel_rfl
theorem tn279 : tyNil Tryz.prog 279 = none := by kernel_rfl
theorem tp279 : tyPlaces Tryz.prog 279 = none := by kernel_rfl
theorem tw26 : zeroFits Tryz.prog 26 := zeroFits_of (by kernel_rfl)
theorem tw28 : zeroFits Tryz.prog 28 := zeroFits_of (by kernel_rfl)
theorem tw42 : zeroFits Tryz.prog 42 := zeroFits_of (by kernel_rfl)
theorem tw60 : zeroFits Tryz.prog 60 := zeroFits_of (by kernel_rfl)
theorem tw63 : zeroFits Tryz.prog 63 := zeroFits_of (by kernel_rfl)
theorem tw68 : zeroFits Tryz.prog 68 := zeroFits_of (by kernel_rfl)
theorem tw115 : zeroFits Tryz.prog 115 := zeroFits_of (by kernel_rfl)
theorem tw157 : zeroFits Tryz.prog 157 := zeroFits_of (by kernel_rfl)
theorem tw174 : zeroFits Tryz.prog 174 := zeroFits_of (by kernel_rfl)
theorem tw177 : zeroFits Tryz.prog 177 := zeroFits_of (by kernel_rfl)
theorem tw203 : zeroFits Tryz.prog 203 := zeroFits_of (by kernel_rfl)
theorem tw248 : zeroFits Tryz.prog 248 := zeroFits_of (by kernel_rfl)
theorem tr2 : Tryz.f2.results.toList = [] := by kernel_rfl
theorem tr3 : Tryz.f3.results.toList = [ResultVar.tmp 8] := by kernel_rfl
theorem tr4 : Tryz.f4.results.toList = [ResultVar.tmp 10] := by kernel_rfl
theorem tr5 : Tryz.f5.results.toList = [ResultVar.tmp 0] := by kernel_rfl
theorem tr6 : Tryz.f6.results.toList = [ResultVar.tmp 4] := by kernel_rfl
theorem tr7 : Tryz.f7.results.toList = [ResultVar.tmp 4] := by kernel_rfl
theorem tr8 : Tryz.f8.results.toList = [ResultVar.tmp 4] := by kernel_rfl
theorem tr9 : Tryz.f9.results.toList = [ResultVar.tmp 4] := by kernel_rfl
theorem tr10 : Tryz.f10.results.toList = [ResultVar.tmp 4] := by kernel_rfl
theorem tr11 : Tryz.f11.results.toList = [ResultVar.tmp 0] := by kernel_rfl
theorem tr12 : Tryz.f12.results.toList = [ResultVar.tmp 10, ResultVar.tmp 11] := by kernel_rfl
theorem tr13 : Tryz.f13.results.toList = [ResultVar.tmp 10, ResultVar.tmp 11] := by kernel_rfl
theorem tr14 : Tryz.f14.results.toList = [ResultVar.tmp 4] := by kernel_rfl
theorem tr15 : Tryz.f15.results.toList = [ResultVar.tmp 2, ResultVar.tmp 3] := by kernel_rfl
theorem tr16 : Tryz.f16.results.toList = [ResultVar.tmp 4] := by kernel_rfl
theorem tr17 : Tryz.f17.results.toList = [ResultVar.tmp 6] := by kernel_rfl
theorem tr18 : Tryz.f18.results.toList = [ResultVar.tmp 4] := by kernel_rfl
theorem tr19 : Tryz.f19.results.toList = [ResultVar.cell 12 45, ResultVar.tmp 13] := by kernel_rfl
theorem tr20 : Tryz.f20.results.toList = [ResultVar.tmp 2] := by kernel_rfl
theorem tr21 : Tryz.f21.results.toList = [ResultVar.tmp 2, ResultVar.tmp 3] := by kernel_rfl
theorem tr22 : Tryz.f22.results.toList = [ResultVar.tmp 4, ResultVar.tmp 5] := by kernel_rfl
theorem tr23 : Tryz.f23.results.toList = [ResultVar.tmp 4] := by kernel_rfl
theorem tr24 : Tryz.f24.results.toList = [ResultVar.tmp 2] := by kernel_rfl
theorem tr25 : Tryz.f25.results.toList = [ResultVar.tmp 4] := by kernel_rfl
theorem tr26 : Tryz.f26.results.toList = [ResultVar.tmp 4] := by kernel_rfl
theorem tr27 : Tryz.f27.results.toList = [ResultVar.tmp 4, ResultVar.tmp 5] := by kernel_rfl
theorem tr28 : Tryz.f28.results.toList = [ResultVar.tmp 2] := by kernel_rfl
theorem tr29 : Tryz.f29.results.toList = [ResultVar.cell 16 45, ResultVar.tmp 17] := by kernel_rfl
theorem tr30 : Tryz.f30.results.toList = [ResultVar.tmp 2] := by kernel_rfl
theorem tr31 : Tryz.f31.results.toList = [ResultVar.tmp 2] := by kernel_rfl
theorem tr32 : Tryz.f32.results.toList = [ResultVar.tmp 4] := by kernel_rfl
theorem tr33 : Tryz.f33.results.toList = [ResultVar.tmp 2] := by kernel_rfl
theorem tr34 : Tryz.f34.results.toList = [ResultVar.tmp 4] := by kernel_rfl
theorem tr35 : Tryz.f35.results.toList = [ResultVar.cell 6 77, ResultVar.tmp 7] := by kernel_rfl
theorem tr36 : Tryz.f36.results.toList = [ResultVar.tmp 4, ResultVar.tmp 5] := by kernel_rfl
theorem tr37 : Tryz.f37.results.toList = [ResultVar.tmp 2] := by kernel_rfl
theorem tr38 : Tryz.f38.results.toList = [ResultVar.tmp 14, ResultVar.tmp 15] := by kernel_rfl
theorem tr39 : Tryz.f39.results.toList = [ResultVar.tmp 4] := by kernel_rfl
theorem tr40 : Tryz.f40.results.toList = [ResultVar.cell 4 45, ResultVar.tmp 5] := by kernel_rfl
theorem tr41 : Tryz.f41.results.toList = [ResultVar.tmp 4] := by kernel_rfl
theorem tr42 : Tryz.f42.results.toList = [ResultVar.cell 6 3, ResultVar.cell 7 45, ResultVar.cell 8 36] := by kernel_rfl
theorem tr43 : Tryz.f43.results.toList = [ResultVar.cell 4 45, ResultVar.tmp 5] := by kernel_rfl
theorem tr44 : Tryz.f44.results.toList = [ResultVar.tmp 6] := by kernel_rfl
theorem tr45 : Tryz.f45.results.toList = [ResultVar.tmp 4, ResultVar.tmp 5] := by kernel_rfl
theorem tr46 : Tryz.f46.results.toList = [ResultVar.tmp 4] := by kernel_rfl
theorem tr47 : Tryz.f47.results.toList = [ResultVar.tmp 4] := by kernel_rfl
theorem tr48 : Tryz.f48.results.toList = [ResultVar.cell 2 96, ResultVar.tmp 3] := by kernel_rfl
theorem tr49 : Tryz.f49.results.toList = [ResultVar.tmp 4] := by kernel_rfl
theorem tr50 : Tryz.f50.results.toList = [ResultVar.tmp 4] := by kernel_rfl
theorem tr51 : Tryz.f51.results.toList = [ResultVar.tmp 4] := by kernel_rfl
theorem tr52 : Tryz.f52.results.toList = [ResultVar.tmp 4] := by kernel_rfl
theorem tr53 : Tryz.f53.results.toList = [ResultVar.tmp 2, ResultVar.tmp 3] := by kernel_rfl
theorem tr54 : Tryz.f54.results.toList = [ResultVar.tmp 10] := by kernel_rfl
theorem tr55 : Tryz.f55.results.toList = [ResultVar.tmp 4] := by kernel_rfl
theorem tr56 : Tryz.f56.results.toList = [ResultVar.tmp 2] := by kernel_rfl
theorem tr57 : Tryz.f57.results.toList = [] := by kernel_rfl
theorem tr58 : Tryz.f58.results.toList = [ResultVar.tmp 4] := by kernel_rfl
theorem tr59 : Tryz.f59.results.toList = [ResultVar.tmp 2] := by kernel_rfl
theorem tr60 : Tryz.f60.results.toList = [ResultVar.tmp 4] := by kernel_rfl
theorem tr61 : Tryz.f61.results.toList = [ResultVar.tmp 2] := by kernel_rfl
theorem tr62 : Tryz.f62.results.toList = [ResultVar.tmp 4] := by kernel_rfl
theorem tr63 : Tryz.f63.results.toList = [ResultVar.tmp 2] := by kernel_rfl
theorem tr64 : Tryz.f64.results.toList = [ResultVar.tmp 2, ResultVar.tmp 3] := by kernel_rfl
theorem tr65 : Tryz.f65.results.toList = [ResultVar.tmp 4] := by kernel_rfl
theorem tr66 : Tryz.f66.results.toList = [ResultVar.tmp 4, ResultVar.tmp 5] := by kernel_rfl
theorem tr67 : Tryz.f67.results.toList = [ResultVar.tmp 2, ResultVar.tmp 3] := by kernel_rfl
theorem tr68 : Tryz.f68.results.toList = [ResultVar.cell 2 45] := by kernel_rfl
theorem tr69 : Tryz.f69.results.toList = [ResultVar.tmp 2] := by kernel_rfl
theorem tr70 : Tryz.f70.results.toList = [ResultVar.tmp 4] := by kernel_rfl
theorem tr71 : Tryz.f71.results.toList = [] := by kernel_rfl
theorem tr72 : Tryz.f72.results.toList = [ResultVar.tmp 8, ResultVar.tmp 9] := by kernel_rfl
theorem tr73 : Tryz.f73.results.toList = [] := by kernel_rfl
theorem tr74 : Tryz.f74.results.toList = [ResultVar.tmp 4, ResultVar.tmp 5] := by kernel_rfl
theorem tr75 : Tryz.f75.results.toList = [ResultVar.tmp 4] := by kernel_rfl
theorem tr76 : Tryz.f76.results.toList = [ResultVar.tmp 2] := by kernel_rfl
theorem tr77 : Tryz.f77.results.toList = [ResultVar.tmp 8, ResultVar.tmp 9] := by kernel_rfl
theorem tr78 : Tryz.f78.results.toList = [ResultVar.cell 2 45, ResultVar.tmp 3] := by kernel_rfl
theorem tr79 : Tryz.f79.results.toList = [ResultVar.tmp 4] := by kernel_rfl
theorem tr80 : Tryz.f80.results.toList = [ResultVar.tmp 6] := by kernel_rfl
theorem tr81 : Tryz.f81.results.toList = [ResultVar.cell 12 45, ResultVar.tmp 13] := by kernel_rfl
theorem tr82 : Tryz.f82.results.toList = [ResultVar.tmp 4, ResultVar.tmp 5] := by kernel_rfl
theorem tr83 : Tryz.f83.results.toList = [ResultVar.tmp 8, ResultVar.tmp 9] := by kernel_rfl
theorem tr84 : Tryz.f84.results.toList = [ResultVar.cell 2 45, ResultVar.tmp 3] := by kernel_rfl
theorem tr85 : Tryz.f85.results.toList = [] := by kernel_rfl
theorem tr86 : Tryz.f86.results.toList = [ResultVar.tmp 4] := by kernel_rfl
theorem tr87 : Tryz.f87.results.toList = [ResultVar.tmp 4] := by kernel_rfl
theorem tr88 : Tryz.f88.results.toList = [ResultVar.tmp 2, ResultVar.tmp 3] := by kernel_rfl
theorem tr89 : Tryz.f89.results.toList = [ResultVar.tmp 4] := by kernel_rfl
theorem tr90 : Tryz.f90.results.toList = [ResultVar.tmp 2, ResultVar.tmp 3] := by kernel_rfl
theorem tr91 : Tryz.f91.results.toList = [ResultVar.tmp 2] := by kernel_rfl
theorem tr92 : Tryz.f92.results.toList = [ResultVar.tmp 4] := by kernel_rfl
theorem tr93 : Tryz.f93.results.toList = [] := by kernel_rfl
theorem tr94 : Tryz.f94.results.toList = [ResultVar.tmp 8] := by kernel_rfl
theorem tr95 : Tryz.f95.results.toList = [ResultVar.tmp 4] := by kernel_rfl
theorem tr96 : Tryz.f96.results.toList = [ResultVar.tmp 6] := by kernel_rfl
theorem tr97 : Tryz.f97.results.toList = [] := by kernel_rfl
theorem tr98 : Tryz.f98.results.toList = [ResultVar.tmp 2] := by kernel_rfl
theorem tr99 : Tryz.f99.results.toList = [ResultVar.tmp 2] := by kernel_rfl
theorem tr100 : Tryz.f100.results.toList = [ResultVar.tmp 2] := by kernel_rfl
theorem tr101 : Tryz.f101.results.toList = [ResultVar.tmp 2] := by kernel_rfl
theorem tr102 : Tryz.f102.results.toList = [ResultVar.tmp 2] := by kernel_rfl
theorem tr103 : Tryz.f103.results.toList = [ResultVar.tmp 4] := by kernel_rfl
theorem tr104 : Tryz.f104.results.toList = [ResultVar.tmp 2] := by kernel_rfl
theorem tr105 : Tryz.f105.results.toList = [] := by kernel_rfl
theorem tr106 : Tryz.f106.results.toList = [ResultVar.tmp 2, ResultVar.tmp 3, ResultVar.tmp 4] := by kernel_rfl
theorem tr107 : Tryz.f107.results.toList = [] := by kernel_rfl
theorem tr108 : Tryz.f108.results.toList = [ResultVar.tmp 2] := by kernel_rfl
theorem tr109 : Tryz.f109.results.toList = [ResultVar.tmp 4] := by kernel_rfl
theorem tr110 : Tryz.f110.results.toList = [ResultVar.tmp 2] := by kernel_rfl
theorem tr111 : Tryz.f111.results.toList = [ResultVar.tmp 2, ResultVar.tmp 3] := by kernel_rfl
theorem tr112 : Tryz.f112.results.toList = [ResultVar.tmp 4] := by kernel_rfl
theorem tr113 : Tryz.f113.results.toList = [ResultVar.tmp 2] := by kernel_rfl
theorem tr114 : Tryz.f114.results.toList = [ResultVar.tmp 2] := by kernel_rfl
theorem tr115 : Tryz.f115.results.toList = [ResultVar.tmp 2, ResultVar.tmp 3] := by kernel_rfl
theorem tr116 : Tryz.f116.results.toList = [ResultVar.tmp 4] := by kernel_rfl
theorem tr117 : Tryz.f117.results.toList = [ResultVar.tmp 2] := by kernel_rfl
theorem tr118 : Tryz.f118.results.toList = [ResultVar.tmp 2] := by kernel_rfl
theorem tr119 : Tryz.f119.results.toList = [] := by kernel_rfl
theorem tr120 : Tryz.f120.results.toList = [] := by kernel_rfl
theorem tr121 : Tryz.f121.results.toList = [ResultVar.tmp 10] := by kernel_rfl
theorem tr122 : Tryz.f122.results.toList = [ResultVar.tmp 4] := by kernel_rfl
theorem tr123 : Tryz.f123.results.toList = [ResultVar.tmp 2] := by kernel_rfl
theorem tr124 : Tryz.f124.results.toList = [ResultVar.tmp 4] := by kernel_rfl
theorem tr125 : Tryz.f125.results.toList = [ResultVar.tmp 2, ResultVar.tmp 3] := by kernel_rfl
theorem tr126 : Tryz.f126.results.toList = [ResultVar.tmp 6, ResultVar.tmp 7] := by kernel_rfl
theorem tr127 : Tryz.f127.results.toList = [ResultVar.tmp 2, ResultVar.tmp 3] := by kernel_rfl
theorem tr128 : Tryz.f128.results.toList = [ResultVar.tmp 4] := by kernel_rfl
theorem tr129 : Tryz.f129.results.toList = [ResultVar.tmp 2] := by kernel_rfl
theorem tr130 : Tryz.f130.results.toList = [ResultVar.tmp 4, ResultVar.tmp 5] := by kernel_rfl
theorem tr131 : Tryz.f131.results.toList = [ResultVar.tmp 2] := by kernel_rfl
theorem tr132 : Tryz.f132.results.toList = [ResultVar.tmp 4] := by kernel_rfl
theorem tr133 : Tryz.f133.results.toList = [] := by kernel_rfl
theorem tr134 : Tryz.f134.results.toList = [] := by kernel_rfl
theorem tr135 : Tryz.f135.results.toList = [] := by kernel_rfl
theorem tr136 : Tryz.f136.results.toList = [ResultVar.tmp 8, ResultVar.tmp 9] := by kernel_rfl
theorem tr137 : Tryz.f137.results.toList = [] := by kernel_rfl
theorem tr138 : Tryz.f138.results.toList = [ResultVar.tmp 8] := by kernel_rfl
theorem tr139 : Tryz.f139.results.toList = [ResultVar.tmp 10] := by kernel_rfl
theorem tr140 : Tryz.f140.results.toList = [ResultVar.tmp 10, ResultVar.tmp 11] := by kernel_rfl
theorem tr141 : Tryz.f141.results.toList = [ResultVar.tmp 2] := by kernel_rfl
theorem tr142 : Tryz.f142.results.toList = [ResultVar.tmp 2] := by kernel_rfl
theorem tr143 : Tryz.f143.results.toList = [ResultVar.tmp 2] := by kernel_rfl
theorem tr144 : Tryz.f144.results.toList = [ResultVar.tmp 4, ResultVar.tmp 5] := by kernel_rfl
theorem tr145 : Tryz.f145.results.toList = [ResultVar.tmp 2, ResultVar.tmp 3] := by kernel_rfl
theorem tr146 : Tryz.f146.results.toList = [] := by kernel_rfl
theorem tr147 : Tryz.f147.results.toList = [ResultVar.tmp 2] := by kernel_rfl
theorem tr148 : Tryz.f148.results.toList = [] := by kernel_rfl
theorem tr149 : Tryz.f149.results.toList = [ResultVar.tmp 2] := by kernel_rfl
theorem tr150 : Tryz.f150.results.toList = [ResultVar.tmp 4] := by kernel_rfl
theorem tr151 : Tryz.f151.results.toList = [ResultVar.tmp 4] := by kernel_rfl
theorem tr152 : Tryz.f152.results.toList = [ResultVar.tmp 2] := by kernel_rfl
theorem tr153 : Tryz.f153.results.toList = [ResultVar.tmp 4, ResultVar.tmp 5] := by kernel_rfl
theorem tr154 : Tryz.f154.results.toList = [ResultVar.tmp 4, ResultVar.tmp 5] := by kernel_rfl
theorem tr155 : Tryz.f155.results.toList = [ResultVar.tmp 4] := by kernel_rfl
theorem tr156 : Tryz.f156.results.toList = [ResultVar.tmp 4] := by kernel_rfl
theorem tr157 : Tryz.f157.results.toList = [ResultVar.tmp 2] := by kernel_rfl
theorem tr158 : Tryz.f158.results.toList = [ResultVar.tmp 2, ResultVar.tmp 3] := by kernel_rfl
theorem tr159 : Tryz.f159.results.toList = [ResultVar.tmp 2] := by kernel_rfl
theorem tr160 : Tryz.f160.results.toList = [ResultVar.tmp 4] := by kernel_rfl
theorem tr161 : Tryz.f161.results.toList = [] := by kernel_rfl
theorem tr162 : Tryz.f162.results.toList = [ResultVar.tmp 4] := by kernel_rfl
theorem tr163 : Tryz.f163.results.toList = [ResultVar.tmp 2] := by kernel_rfl
theorem tr164 : Tryz.f164.results.toList = [ResultVar.tmp 2] := by kernel_rfl
theorem tr166 : Tryz.f166.results.toList = [ResultVar.tmp 6] := by kernel_rfl
theorem tr167 : Tryz.f167.results.toList = [ResultVar.cell 2 103, ResultVar.tmp 3] := by kernel_rfl
theorem tr168 : Tryz.f168.results.toList = [] := by kernel_rfl
theorem tr169 : Tryz.f169.results.toList = [ResultVar.tmp 2] := by kernel_rfl
theorem tr170 : Tryz.f170.results.toList = [ResultVar.tmp 2] := by kernel_rfl
theorem tr171 : Tryz.f171.results.toList = [ResultVar.tmp 8] := by kernel_rfl
theorem tr172 : Tryz.f172.results.toList = [ResultVar.tmp 12] := by kernel_rfl
theorem tr173 : Tryz.f173.results.toList = [ResultVar.tmp 2] := by kernel_rfl
theorem tr174 : Tryz.f174.results.toList = [ResultVar.tmp 4] := by kernel_rfl
theorem tr175 : Tryz.f175.results.toList = [ResultVar.tmp 2] := by kernel_rfl
theorem tr176 : Tryz.f176.results.toList = [ResultVar.tmp 4, ResultVar.tmp 5, ResultVar.tmp 6] := by kernel_rfl
theorem tr177 : Tryz.f177.results.toList = [] := by kernel_rfl
theorem tr178 : Tryz.f178.results.toList = [] := by kernel_rfl
theorem tr179 : Tryz.f179.results.toList = [] := by kernel_rfl
theorem tr180 : Tryz.f180.results.toList = [ResultVar.tmp 6, ResultVar.tmp 7] := by kernel_rfl
theorem tr181 : Tryz.f181.results.toList = [] := by kernel_rfl
theorem tr182 : Tryz.f182.results.toList = [ResultVar.tmp 6] := by kernel_rfl
theorem tr183 : Tryz.f183.results.toList = [ResultVar.tmp 4] := by kernel_rfl
theorem tr184 : Tryz.f184.results.toList = [ResultVar.tmp 8] := by kernel_rfl
theorem tr185 : Tryz.f185.results.toList = [ResultVar.tmp 8, ResultVar.tmp 9] := by kernel_rfl
theorem tr186 : Tryz.f186.results.toList = [ResultVar.tmp 2] := by kernel_rfl
theorem tr187 : Tryz.f187.results.toList = [ResultVar.tmp 2] := by kernel_rfl
theorem tr188 : Tryz.f188.results.toList = [ResultVar.tmp 2] := by kernel_rfl
theorem tr189 : Tryz.f189.results.toList = [ResultVar.tmp 2] := by kernel_rfl
theorem tr190 : Tryz.f190.results.toList = [] := by kernel_rfl
theorem tr191 : Tryz.f191.results.toList = [ResultVar.tmp 10, ResultVar.tmp 11] := by kernel_rfl
theorem tr192 : Tryz.f192.results.toList = [ResultVar.tmp 2] := by kernel_rfl
theorem tr193 : Tryz.f193.results.toList = [ResultVar.tmp 3] := by kernel_rfl
theorem tr194 : Tryz.f194.results.toList = [ResultVar.tmp 2] := by kernel_rfl
theorem tr195 : Tryz.f195.results.toList = [ResultVar.tmp 4] := by kernel_rfl
theorem tr196 : Tryz.f196.results.toList = [ResultVar.tmp 4] := by kernel_rfl
theorem tr197 : Tryz.f197.results.toList = [ResultVar.tmp 6] := by kernel_rfl
theorem tr198 : Tryz.f198.results.toList = [] := by kernel_rfl
theorem tr199 : Tryz.f199.results.toList = [ResultVar.tmp 4] := by kernel_rfl
theorem tr200 : Tryz.f200.results.toList = [ResultVar.tmp 4] := by kernel_rfl
theorem tr201 : Tryz.f201.results.toList = [ResultVar.tmp 4] := by kernel_rfl
theorem tr202 : Tryz.f202.results.toList = [ResultVar.tmp 4] := by kernel_rfl
theorem tr203 : Tryz.f203.results.toList = [ResultVar.tmp 2] := by kernel_rfl
theorem tr204 : Tryz.f204.results.toList = [ResultVar.tmp 10, ResultVar.tmp 11] := by kernel_rfl
theorem tr205 : Tryz.f205.results.toList = [ResultVar.tmp 4] := by kernel_rfl
theorem tr206 : Tryz.f206.results.toList = [ResultVar.tmp 4, ResultVar.tmp 5] := by kernel_rfl
theorem tr207 : Tryz.f207.results.toList = [] := by kernel_rfl
theorem tr208 : Tryz.f208.results.toList = [ResultVar.tmp 6] := by kernel_rfl
theorem tr209 : Tryz.f209.results.toList = [ResultVar.tmp 10] := by kernel_rfl
theorem tr210 : Tryz.f210.results.toList = [ResultVar.tmp 2] := by kernel_rfl
theorem tr211 : Tryz.f211.results.toList = [ResultVar.tmp 2] := by kernel_rfl
theorem tr212 : Tryz.f212.results.toList = [ResultVar.tmp 2] := by kernel_rfl
theorem tr213 : Tryz.f213.results.toList = [ResultVar.tmp 2] := by kernel_rfl
theorem tr214 : Tryz.f214.results.toList = [ResultVar.tmp 2] := by kernel_rfl
theorem tr215 : Tryz.f215.results.toList = [ResultVar.tmp 4] := by kernel_rfl
theorem tr216 : Tryz.f216.results.toList = [] := by kernel_rfl
theorem tr217 : Tryz.f217.results.toList = [ResultVar.tmp 4, ResultVar.tmp 5] := by kernel_rfl
theorem tr218 : Tryz.f218.results.toList = [ResultVar.tmp 2] := by kernel_rfl
theorem tr220 : Tryz.f220.results.toList = [ResultVar.tmp 2, ResultVar.tmp 3] := by kernel_rfl
theorem tr221 : Tryz.f221.results.toList = [ResultVar.tmp 8, ResultVar.tmp 9] := by kernel_rfl
theorem tr222 : Tryz.f222.results.toList = [ResultVar.tmp 2] := by kernel_rfl
theorem tr223 : Tryz.f223.results.toList = [ResultVar.tmp 2] := by kernel_rfl
theorem tr224 : Tryz.f224.results.toList = [] := by kernel_rfl
theorem tr225 : Tryz.f225.results.toList = [] := by kernel_rfl
theorem tr226 : Tryz.f226.results.toList = [ResultVar.tmp 2, ResultVar.tmp 3] := by kernel_rfl
theorem tr255 : Tryz.f255.results.toList = [] := by kernel_rfl
attribute [go_sem] ts2 tb2 tg2 tz2 ta2 tl2 ti2 tt2 tq2 tn2 tp2 tu2 ts3 tb3 tg3 tz3 ta3 tl3 ti3 tt3
attribute [go_sem] tq3 tn3 tp3 tu3 ts4 tb4 tg4 tz4 ta4 tl4 ti4 tt4 tq4 tn4 tp4 tu4 ts5 tb5 tg5 tz5
attribute [go_sem] ta5 tl5 ti5 tt5 tq5 tn5 tp5 tu5 ts9 tb9 tg9 tz9 ta9 tl9 ti9 tt9 tq9 tn9 tp9 tu9
attribute [go_sem] ts21 tb21 tg21 tz21 ta21 tl21 ti21 tt21 tq21 tn21 tp21 tu21 ts26 tb26 tg26 tz26 ta26 tl26 ti26 tt26
attribute [go_sem] tq26 tn26 tp26 tu26 ts28 tb28 tg28 tz28 ta28 tl28 ti28 tt28 tq28 tn28 tp28 tu28 ts33 tb33 tg33 tz33
attribute [go_sem] ta33 tl33 ti33 tt33 tq33 tn33 tf33_0 tf33_1 tf33_2 tp33 tv33 te33 ts35 tb35 tg35 tz35 ta35 tl35 ti35 tt35
attribute [go_sem] tq35 tn35 tp35 tu35 ts36 tb36 tg36 tz36 ta36 tl36 ti36 tt36 tq36 tn36 tp36 tu36 ts42 tb42 tg42 tz42
attribute [go_sem] ta42 tl42 ti42 tt42 tq42 tn42 tp42 tu42 ts43 tb43 tg43 tz43 ta43 tl43 ti43 tt43 tq43 tn43 tp43 tu43
attribute [go_sem] ts45 tb45 tg45 tz45 ta45 tl45 ti45 tt45 tq45 tn45 tf45_0 tf45_1 tp45 tv45 te45 ts48 tb48 tg48 tz48 ta48
attribute [go_sem] tl48 ti48 tt48 tq48 tn48 tp48 tu48 ts60 tb60 tg60 tz60 ta60 tl60 ti60 tt60 tq60 tn60 tp60 tu60 ts63
attribute [go_sem] tb63 tg63 tz63 ta63 tl63 ti63 tt63 tq63 tn63 tp63 tu63 ts66 tb66 tg66 tz66 ta66 tl66 ti66 tt66 tq66
attribute [go_sem] tn66 tf66_0 tf66_1 tp66 tv66 te66 ts68 tb68 tg68 tz68 ta68 tl68 ti68 tt68 tq68 tn68 tp68 tu68 ts71 tb71
attribute [go_sem] tg71 tz71 ta71 tl71 ti71 tt71 tq71 tn71 tf71_0 tf71_1 tp71 tv71 te71 ts73 tb73 tg73 tz73 ta73 tl73 ti73
attribute [go_sem] tt73 tq73 tn73 tp73 ts75 tb75 tg75 tz75 ta75 tl75 ti75 tt75 tq75 tn75 tf75_0 tf75_1 tf75_2 tf75_3 tf75_4 tf75_5
attribute [go_sem] tf75_6 tp75 ts77 tb77 tg77 tz77 ta77 tl77 ti77 tt77 tq77 tn77 tf77_0 tf77_1 tp77 tv77 te77 ts82 tb82 tg82
attribute [go_sem] tz82 ta82 tl82 ti82 tt82 tq82 tn82 tp82 tu82 ts84 tb84 tg84 tz84 ta84 tl84 ti84 tt84 tq84 tn84 tf84_0
attribute [go_sem] tf84_1 tf84_2 tf84_3 tf84_4 tf84_5 tp84 ts93 tb93 tg93 tz93 ta93 tl93 ti93 tt93 tq93 tn93 tf93_0 tf93_1 tf93_2 tf93_3
attribute [go_sem] tp93 tv93 te93 ts96 tb96 tg96 tz96 ta96 tl96 ti96 tt96 tq96 tn96 tp96 tu96 ts100 tb100 tg100 tz100 ta100
attribute [go_sem] tl100 ti100 tt100 tq100 tn100 tp100 tu100 ts103 tb103 tg103 tz103 ta103 tl103 ti103 tt103 tq103 tn103 tf103_0 tf103_1 tp103
attribute [go_sem] tv103 te103 ts105 tb105 tg105 tz105 ta105 tl105 ti105 tt105 tq105 tn105 tp105 tu105 ts106 tb106 tg106 tz106 ta106 tl106
attribute [go_sem] ti106 tt106 tq106 tn106 tp106 tu106 ts108 tb108 tg108 tz108 ta108 tl108 ti108 tt108 tq108 tn108 tf108_0 tf108_1 tf108_2 tf108_3
attribute [go_sem] tf108_4 tf108_5 tf108_6 tf108_7 tp108 ts110 tb110 tg110 tz110 ta110 tl110 ti110 tt110 tq110 tn110 tp110 tu110 ts112 tb112 tg112
attribute [go_sem] tz112 ta112 tl112 ti112 tt112 tq112 tn112 tp112 tu112 ts114 tb114 tg114 tz114 ta114 tl114 ti114 tt114 tq114 tn114 tp114
attribute [go_sem] ts115 tb115 tg115 tz115 ta115 tl115 ti115 tt115 tq115 tn115 tp115 tu115 ts117 tb117 tg117 tz117 ta117 tl117 ti117 tt117
attribute [go_sem] tq117 tn117 tp117 ts125 tb125 tg125 tz125 ta125 tl125 ti125 tt125 tq125 tn125 tp125 tu125 ts128 tb128 tg128 tz128 ta128
attribute [go_sem] tl128 ti128 tt128 tq128 tn128 tp128 tu128 ts130 tb130 tg130 tz130 ta130 tl130 ti130 tt130 tq130 tn130 tf130_0 tf130_1 tf130_2
attribute [go_sem] tf130_3 tf130_4 tf130_5 tp130 ts157 tb157 tg157 tz157 ta157 tl157 ti157 tt157 tq157 tn157 tp157 tu157 ts161 tb161 tg161 tz161
attribute [go_sem] ta161 tl161 ti161 tt161 tq161 tn161 tf161_0 tf161_1 tf161_2 tf161_3 tp161 ts163 tb163 tg163 tz163 ta163 tl163 ti163 tt163 tq163
attribute [go_sem] tn163 tf163_0 tf163_1 tf163_2 tf163_3 tf163_4 tf163_5 tf163_6 tf163_7 tf163_8 tf163_9 tp163 ts164 tb164 tg164 tz164 ta164 tl164 ti164 tt164
attribute [go_sem] tq164 tn164 tp164 ts170 tb170 tg170 tz170 ta170 tl170 ti170 tt170 tq170 tn170 tf170_0 tf170_1 tp170 ts172 tb172 tg172 tz172
attribute [go_sem] ta172 tl172 ti172 tt172 tq172 tn172 tf172_0 tf172_1 tf172_2 tf172_3 tf172_4 tf172_5 tp172 ts174 tb174 tg174 tz174 ta174 tl174 ti174
attribute [go_sem] tt174 tq174 tn174 tp174 tu174 ts176 tb176 tg176 tz176 ta176 tl176 ti176 tt176 tq176 tn176 tp176 tu176 ts177 tb177 tg177
attribute [go_sem] tz177 ta177 tl177 ti177 tt177 tq177 tn177 tp177 tu177 ts179 tb179 tg179 tz179 ta179 tl179 ti179 tt179 tq179 tn179 tf179_0
attribute [go_sem] tf179_1 tf179_2 tf179_3 tf179_4 tf179_5 tf179_6 tp179 ts181 tb181 tg181 tz181 ta181 tl181 ti181 tt181 tq181 tn181 tp181 tu181 ts203
attribute [go_sem] tb203 tg203 tz203 ta203 tl203 ti203 tt203 tq203 tn203 tp203 tu203 ts205 tb205 tg205 tz205 ta205 tl205 ti205 tt205 tq205
attribute [go_sem] tn205 tf205_0 tf205_1 tf205_2 tf205_3 tp205 ts207 tb207 tg207 tz207 ta207 tl207 ti207 tt207 tq207 tn207 tf207_0 tf207_1 tp207 tv207
attribute [go_sem] te207 ts212 tb212 tg212 tz212 ta212 tl212 ti212 tt212 tq212 tn212 tp212 tu212 ts214 tb214 tg214 tz214 ta214 tl214 ti214
attribute [go_sem] tt214 tq214 tn214 tf214_0 tf214_1 tp214 tv214 te214 ts215 tb215 tg215 tz215 ta215 tl215 ti215 tt215 tq215 tn215 tp215 tu215
attribute [go_sem] ts222 tb222 tg222 tz222 ta222 tl222 ti222 tt222 tq222 tn222 tp222 tu222 ts226 tb226 tg226 tz226 ta226 tl226 ti226 tt226
attribute [go_sem] tq226 tn226 tp226 tu226 ts228 tb228 tg228 tz228 ta228 tl228 ti228 tt228 tq228 tn228 tp228 tu228 ts237 tb237 tg237 tz237
attribute [go_sem] ta237 tl237 ti237 tt237 tq237 tn237 tp237 tu237 ts241 tb241 tg241 tz241 ta241 tl241 ti241 tt241 tq241 tn241 tp241 tu241
attribute [go_sem] ts244 tb244 tg244 tz244 ta244 tl244 ti244 tt244 tq244 tn244 tp244 tu244 ts247 tb247 tg247 tz247 ta247 tl247 ti247 tt247
attribute [go_sem] tq247 tn247 tf247_0 tf247_1 tf247_2 tf247_3 tp247 tv247 te247 ts248 tb248 tg248 tz248 ta248 tl248 ti248 tt248 tq248 tn248 tp248
attribute [go_sem] tu248 ts250 tb250 tg250 tz250 ta250 tl250 ti250 tt250 tq250 tn250 tp250 tu250 ts252 tb252 tg252 tz252 ta252 tl252 ti252
attribute [go_sem] tt252 tq252 tn252 tf252_0 tf252_1 tf252_2 tp252 tv252 te252 ts261 tb261 tg261 tz261 ta261 tl261 ti261 tt261 tq261 tn261 tp261
attribute [go_sem] tu261 ts262 tb262 tg262 tz262 ta262 tl262 ti262 tt262 tq262 tn262 tp262 tu262 ts264 tb264 tg264 tz264 ta264 tl264 ti264
attribute [go_sem] tt264 tq264 tn264 tp264 tu264 ts265 tb265 tg265 tz265 ta265 tl265 ti265 tt265 tq265 tn265 tp265 tu265 ts267 tb267 tg267
attribute [go_sem] tz267 ta267 tl267 ti267 tt267 tq267 tn267 tp267 tu267 ts269 tb269 tg269 tz269 ta269 tl269 ti269 tt269 tq269 tn269 tf269_0
attribute [go_sem] tf269_1 tp269 ts277 tb277 tg277 tz277 ta277 tl277 ti277 tt277 tq277 tn277 tp277 tu277 ts278 tb278 tg278 tz278 ta278 tl278
attribute [go_sem] ti278 tt278 tq278 tn278 tp278 tu278 ts279 tb279 tg279 tz279 ta279 tl279 ti279 tt279 tq279 tn279 tp279 tw26 tw28 tw42
attribute [go_sem] tw60 tw63 tw68 tw115 tw157 tw174 tw177 tw203 tw248 tc5 tc6 tc7 tc8 tc9 tc10 tc11 tc12 tc13 tc14 tc15
attribute [go_sem] tc16 tc17 tc18 tc19 tc20 tc21 tc22 tc23 tc24 tc25 tc26 tc27 tc28 tc29 tc30 tc31 tc32 tc33 tc34 tc35
attribute [go_sem] tc36 tc37 tc38 tc39 tc40 tc41 tc42 tc43 tc44 tc45 tc46 tc47 tc48 tc49 tc50 tc51 tc52 tc53 tc54 tc55
attribute [go_sem] tc56 tc57 tc58 tc59 tc60 tc61 tc62 tc63 tc64 tc65 tc66 tc67 tc68 tc69 tc70 tc71 tc72 tc73 tc74 tc75
attribute [go_sem] tc76 tc77 tc78 tc79 tc80 tc81 tc82 tc83 tc84 tc85 tc86 tc87 tc88 tc89 tc90 tc91 tc92 tc93 tc94 tc95
attribute [go_sem] tc96 tc97 tc98 tc99 tc100 tc101 tc102 tc103 tc104 tc105 tc106 tc107 tc108 tc109 tc110 tc111 tc112 tc113 tc114 tc115
attribute [go_sem] tc116 tc120 tc121 tc122 tc123 tc124 tc125 tc126 tc127 tc128 tc129 tc130 tc131 tc132 tc133 tc134 tc135 tc136 tc137 tc138
attribute [go_sem] tc139 tc140 tc141 tc142 tc143 tc144 tc145 tc146 tc147 tc148 tc149 tc150 tc151 tc152 tc153 tc154 tc155 tc156 tc157 tc158
attribute [go_sem] tc159 tc160 tc161 tc162 tc163 tc164 tc166 tc167 tc168 tc169 tc170 tc171 tc172 tc173 tc174 tc175 tc176 tc177 tc178 tc179
attribute [go_sem] tc180 tc181 tc182 tc183 tc184 tc185 tc186 tc187 tc188 tc189 tc190 tc191 tc192 tc194 tc195 tc196 tc197 tc198 tc199 tc200
attribute [go_sem] tc201 tc202 tc203 tc204 tc205 tc206 tc207 tc208 tc209 tc210 tc211 tc212 tc213 tc214 tc215 tc216 tc217 tc218 tc220 tc221
attribute [go_sem] tc222 tc223 tc224 tc225 tc226 tr2 tr3 tr4 tr5 tr6 tr7 tr8 tr9 tr10 tr11 tr12 tr13 tr14 tr15 tr16
attribute [go_sem] tr17 tr18 tr19 tr20 tr21 tr22 tr23 tr24 tr25 tr26 tr27 tr28 tr29 tr30 tr31 tr32 tr33 tr34 tr35 tr36
attribute [go_sem] tr37 tr38 tr39 tr40 tr41 tr42 tr43 tr44 tr45 tr46 tr47 tr48 tr49 tr50 tr51 tr52 tr53 tr54 tr55 tr56
attribute [go_sem] tr57 tr58 tr59 tr60 tr61 tr62 tr63 tr64 tr65 tr66 tr67 tr68 tr69 tr70 tr71 tr72 tr73 tr74 tr75 tr76
attribute [go_sem] tr77 tr78 tr79 tr80 tr81 tr82 tr83 tr84 tr85 tr86 tr87 tr88 tr89 tr90 tr91 tr92 tr93 tr94 tr95 tr96
attribute [go_sem] tr97 tr98 tr99 tr100 tr101 tr102 tr103 tr104 tr105 tr106 tr107 tr108 tr109 tr110 tr111 tr112 tr113 tr114 tr115 tr116
attribute [go_sem] tr117 tr118 tr119 tr120 tr121 tr122 tr123 tr124 tr125 tr126 tr127 tr128 tr129 tr130 tr131 tr132 tr133 tr134 tr135 tr136
attribute [go_sem] tr137 tr138 tr139 tr140 tr141 tr142 tr143 tr144 tr145 tr146 tr147 tr148 tr149 tr150 tr151 tr152 tr153 tr154 tr155 tr156
attribute [go_sem] tr157 tr158 tr159 tr160 tr161 tr162 tr163 tr164 tr166 tr167 tr168 tr169 tr170 tr171 tr172 tr173 tr174 tr175 tr176 tr177
attribute [go_sem] tr178 tr179 tr180 tr181 tr182 tr183 tr184 tr185 tr186 tr187 tr188 tr189 tr190 tr191 tr192 tr193 tr194 tr195 tr196 tr197
attribute [go_sem] tr198 tr199 tr200 tr201 tr202 tr203 tr204 tr205 tr206 tr207 tr208 tr209 tr210 tr211 tr212 tr213 tr214 tr215 tr216 tr217
attribute [go_sem] tr218 tr220 tr221 tr222 tr223 tr224 tr225 tr226 tr255
end Go.Proofs.YteahajcgbogjkaaGreatDoor.AL
